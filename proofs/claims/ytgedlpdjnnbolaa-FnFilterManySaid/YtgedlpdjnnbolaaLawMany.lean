/-
  WALKS: the law FilterMany.
-/
import Derived.Test.YtgedlpdjnnbolaaLawMore
import Derived.Test.YtgedlpdjnnbolaaDrawOk
import Derived.Deep.RegionHeld3
namespace Go.Proofs.Ytgedlpdjnnbolaa
set_option linter.unusedVariables false
open Go.RowKit

theorem filter_take {f : List PT.Cond} (h : PT.filterB f = true) (k : Nat) : PT.filterB (f.take k) = true := by
  unfold PT.filterB at h ⊢
  simp only [Bool.and_eq_true, List.all_eq_true, decide_eq_true_eq] at h ⊢
  exact ⟨fun x hx => h.1 x (List.mem_of_mem_take hx), by simp; omega⟩
theorem filter_many (f c : List PT.Cond) (hc : 3 < c.length) : PT.filterB (f ++ c) = false := by
  unfold PT.filterB
  have : decide ((f ++ c).length ≤ 3) = false := decide_eq_false (by simp; omega)
  rw [this, Bool.and_false]
theorem filter_bad (f : List PT.Cond) : PT.filterB (f ++ [(([], []), false)]) = false := by
  unfold PT.filterB
  have : (f ++ [((([] : List UInt8), ([] : List UInt8)), false)]).all (fun c => PT.tagB c.1) = false := by
    rw [List.all_append]
    have : PT.tagB (([] : List UInt8), ([] : List UInt8)) = false := rfl
    simp [this]
  rw [this, Bool.false_and]
theorem four_one : ∀ u ∈ [Value.string ⟨#[97]⟩, .string ⟨#[112]⟩, .bool false, .string ⟨#[97]⟩, .string ⟨#[112]⟩, .bool false, .string ⟨#[97]⟩, .string ⟨#[112]⟩, .bool false, .string ⟨#[97]⟩, .string ⟨#[112]⟩, .bool false], u.oneCell' = true := by
  intro u hu
  simp at hu
  rcases hu with rfl | rfl | rfl | rfl | rfl | rfl | rfl | rfl | rfl | rfl | rfl | rfl <;> rfl

set_option maxRecDepth 100000 in
set_option maxHeartbeats 6400000 in
theorem fnFilterMany_walk (w : World) (a0 : Option Addr) (len0 cap0 : Nat) (z0 : List Int) (hz0 : z0.length = len0) (rd0 : Rd w w.heap.size 1 a0 len0 (z0.map (Value.int .u8))) (wf0 : ∀ z ∈ z0, (Lit.int .u8 z).wf = true) (lc0 : len0 ≤ cap0) (cm0 : cap0 ≤ maxLen)
    (a1 : Option Addr) (len1 cap1 : Nat) (z1 : List Int) (hz1 : z1.length = len1) (rd1 : Rd w w.heap.size 1 a1 len1 (z1.map (Value.int .u8))) (wf1 : ∀ z ∈ z1, (Lit.int .u8 z).wf = true) (lc1 : len1 ≤ cap1) (cm1 : cap1 ≤ maxLen) :
    Calls Try.prog 3 #[.slice a0 len0 cap0, .slice a1 len1 cap1] w fun e w' => e = .returned (.bool true) ∧ Below w.heap.size w w' := by
  obtain ⟨i0, hi_, hzz0, hzz1, hzz2⟩ := info_parts info_cond
  have HD := hide (drawFilterOk_any a0 len0 cap0 z0 w hz0 rd0 (bytes_ofF wf0) lc0 cm0)
  clear rd0 wf0 hz0 rd1 wf1 hz1
  unfold maxLen at cm0 cm1
  by_cases hl0 : 1048576 < len0
  · clear HD
    go_enter Try.func3, Try.ntmps3
    go_wp2
    go_ret
    exact ⟨rfl, Below.refl _ _⟩
  by_cases hl1 : 1048576 < len1
  · clear HD
    go_enter Try.func3, Try.ntmps3
    go_wp2
    go_ret
    exact ⟨rfl, Below.refl _ _⟩
  go_enter Try.func3, Try.ntmps3
  have BW := hide (Below.refl w.heap.size w)
  have C1 := HD
  go_wp2_with fail
  refine C1.out.mono ?_
  rintro e w1 ⟨P1, q1, f, rfl, hlf, hsm, of, b⟩
  have s1 := b.size
  replace BW := hide (below_keep BW.out b)
  have DF := hide (OwB.of of b.size)
  clear b C1
  clear of hsm
  have C2 := hide (implFilterOk P1 _ q1 f _ w1 rfl DF.out.rd (by omega) DF.out.top)
  go_wp2_with fail
  refine C2.out.mono ?_
  rintro e w2 ⟨rfl, b⟩
  have s2 := b.size
  replace BW := hide (below_keep BW.out b)
  replace DF := hide (DF.out.keep b)
  clear b C2
  have C3 := hide (specFilterOk P1 _ q1 f _ w2 rfl DF.out.rd (by omega) DF.out.top)
  go_wp2_with fail
  refine C3.out.mono ?_
  rintro e w3 ⟨rfl, b⟩
  have s3 := b.size
  replace BW := hide (below_keep BW.out b)
  replace DF := hide (DF.out.keep b)
  clear b C3
  cases hf : PT.filterB f
  · have C4 := hide (specFilterOk P1 _ q1 f _ w3 rfl DF.out.rd (by omega) DF.out.top)
    go_wp2_with fail
    refine C4.out.mono ?_
    rintro e w4 ⟨rfl, b⟩
    have s4 := b.size
    replace BW := hide (below_keep BW.out b)
    replace DF := hide (DF.out.keep b)
    clear b C4
    go_wp2
    go_ret
    exact ⟨ret_bool (by simp), BW.out⟩
  · have HF := hide hf
    clear hf
    obtain ⟨W0, hW0⟩ : ∃ W0, W0 = w3 := ⟨_, rfl⟩
    subst hW0
    obtain ⟨_, _, _, _, hld, hdm⟩ : ∃ cap cur, cap = q1 ∧ cur = f ∧ f.length ≤ q1 ∧ q1 ≤ maxLen := by
      rcases DF.out.own.2 with ⟨h1, h0⟩ | ⟨g, cap, cur, e1, hg, hgg, h5, h6, _⟩
      · simp only [Value.slice.injEq] at h1
        obtain ⟨_, h2, h3⟩ := h1
        exact ⟨_, _, rfl, rfl, by omega, by unfold maxLen; omega⟩
      · simp only [Value.slice.injEq] at e1
        obtain ⟨_, _, rfl⟩ := e1
        exact ⟨_, _, rfl, rfl, h5, h6⟩
    unfold maxLen at hdm
    obtain ⟨a9, ha9⟩ : ∃ a9, a9 = W0.heap.size := ⟨_, rfl⟩
    have BA : Hid (Below W0.heap.size W0 (W0.alloc (.cells #[.string ⟨#[97]⟩, .string ⟨#[112]⟩, .bool false] 29))) := hide ((Below.refl _ _).alloc (Nat.le_refl _) _)
    have k1 : (W0.alloc (.cells #[.string ⟨#[97]⟩, .string ⟨#[112]⟩, .bool false] 29)).cell? ⟨a9, 0, none⟩ = some (.string ⟨#[97]⟩) := by rw [ha9, World.cell?_alloc_new]; rfl
    have k2 : (W0.alloc (.cells #[.string ⟨#[97]⟩, .string ⟨#[112]⟩, .bool false] 29)).cell? ⟨a9, 1, none⟩ = some (.string ⟨#[112]⟩) := by rw [ha9, World.cell?_alloc_new]; rfl
    have k3 : (W0.alloc (.cells #[.string ⟨#[97]⟩, .string ⟨#[112]⟩, .bool false] 29)).cell? ⟨a9, 2, none⟩ = some (.bool false) := by rw [ha9, World.cell?_alloc_new]; rfl
    have hbW : a9 < (W0.alloc (.cells #[.string ⟨#[97]⟩, .string ⟨#[112]⟩, .bool false] 29)).heap.size := by simp; omega
    go_wp2
    rw [← ha9]
    clear ha9
    replace BW := hide (below_keep BW.out BA.out)
    replace DF := hide (DF.out.keep BA.out)
    clear BA
    generalize W0.alloc (.cells #[.string ⟨#[97]⟩, .string ⟨#[112]⟩, .bool false] 29) = W1 at *
    clear s3
    have hO : (W1.alloc (.cells #[] 29)).ownsRow W1.heap.size 29 3 (.slice (some ⟨W1.heap.size, 0, none⟩) 0 0) 0 (cnds []) := World.ownsRow_lit W1 #[] 0 (Nat.le_refl _) (Nat.zero_le _) rfl
    have hB1 : Below W1.heap.size W1 (W1.alloc (.cells #[] 29)) := (Below.refl _ _).alloc (Nat.le_refl _) _
    have hR := DF.out.rd.more DF.out.top
    have hone := hide (cnds_one (l := f))
    have HW := hide ((hR.below hB1).drew)
    have HB1 := hide hB1.drew
    have HO := hide hO.drew
    have HB2 := hide ((hB1.alloc (by simp) (.cells #[.string ⟨#[97]⟩, .string ⟨#[112]⟩, .bool false, .string ⟨#[97]⟩, .string ⟨#[112]⟩, .bool false, .string ⟨#[97]⟩, .string ⟨#[112]⟩, .bool false, .string ⟨#[97]⟩, .string ⟨#[112]⟩, .bool false] 29))).drew
    have HO2 := hide (hO.alloc (.cells #[.string ⟨#[97]⟩, .string ⟨#[112]⟩, .bool false, .string ⟨#[97]⟩, .string ⟨#[112]⟩, .bool false, .string ⟨#[97]⟩, .string ⟨#[112]⟩, .bool false, .string ⟨#[97]⟩, .string ⟨#[112]⟩, .bool false] 29)).drew
    have HW2 := hide ((hR.below hB1).alloc (by simp) (.cells #[.string ⟨#[97]⟩, .string ⟨#[112]⟩, .bool false, .string ⟨#[97]⟩, .string ⟨#[112]⟩, .bool false, .string ⟨#[97]⟩, .string ⟨#[112]⟩, .bool false, .string ⟨#[97]⟩, .string ⟨#[112]⟩, .bool false] 29)).drew
    have HL2 : Hid (Rd (((W1.alloc (.cells #[] 29)).alloc (.cells #[.string ⟨#[97]⟩, .string ⟨#[112]⟩, .bool false, .string ⟨#[97]⟩, .string ⟨#[112]⟩, .bool false, .string ⟨#[97]⟩, .string ⟨#[112]⟩, .bool false, .string ⟨#[97]⟩, .string ⟨#[112]⟩, .bool false] 29)).drew) (W1.heap.size + 1 + 1) 3 (some ⟨W1.heap.size + 1, 0, none⟩) 4 [.string ⟨#[97]⟩, .string ⟨#[112]⟩, .bool false, .string ⟨#[97]⟩, .string ⟨#[112]⟩, .bool false, .string ⟨#[97]⟩, .string ⟨#[112]⟩, .bool false, .string ⟨#[97]⟩, .string ⟨#[112]⟩, .bool false]) := hide (by have := rd_lit (W1.alloc (.cells #[] 29)) [.string ⟨#[97]⟩, .string ⟨#[112]⟩, .bool false, .string ⟨#[97]⟩, .string ⟨#[112]⟩, .bool false, .string ⟨#[97]⟩, .string ⟨#[112]⟩, .bool false, .string ⟨#[97]⟩, .string ⟨#[112]⟩, .bool false] 29 3 4 rfl; simpa using this.drew)
    have hB3 : Below W1.heap.size W1 ((W1.alloc (.cells #[.string ⟨#[97]⟩, .string ⟨#[112]⟩, .bool false, .string ⟨#[97]⟩, .string ⟨#[112]⟩, .bool false, .string ⟨#[97]⟩, .string ⟨#[112]⟩, .bool false, .string ⟨#[97]⟩, .string ⟨#[112]⟩, .bool false] 29)).alloc (.cells #[] 29)) := ((Below.refl _ _).alloc (Nat.le_refl _) _).alloc (by simp) _
    have HB3 := hide hB3.drew
    have HO3 : Hid (((W1.alloc (.cells #[.string ⟨#[97]⟩, .string ⟨#[112]⟩, .bool false, .string ⟨#[97]⟩, .string ⟨#[112]⟩, .bool false, .string ⟨#[97]⟩, .string ⟨#[112]⟩, .bool false, .string ⟨#[97]⟩, .string ⟨#[112]⟩, .bool false] 29)).alloc (.cells #[] 29)).drew.ownsRow W1.heap.size 29 3 (.slice (some ⟨W1.heap.size + 1, 0, none⟩) 0 0) 0 (cnds [])) := hide (by have := World.ownsRow_lit (base := W1.heap.size) (e := 29) (size := 3) (W1.alloc (.cells #[.string ⟨#[97]⟩, .string ⟨#[112]⟩, .bool false, .string ⟨#[97]⟩, .string ⟨#[112]⟩, .bool false, .string ⟨#[97]⟩, .string ⟨#[112]⟩, .bool false, .string ⟨#[97]⟩, .string ⟨#[112]⟩, .bool false] 29)) #[] 0 (by simp) (Nat.zero_le _) rfl; have := this.drew; simpa [cnds] using this)
    have HW3 := hide ((hR.below hB3).drew)
    have HL3 : Hid (Rd (((W1.alloc (.cells #[.string ⟨#[97]⟩, .string ⟨#[112]⟩, .bool false, .string ⟨#[97]⟩, .string ⟨#[112]⟩, .bool false, .string ⟨#[97]⟩, .string ⟨#[112]⟩, .bool false, .string ⟨#[97]⟩, .string ⟨#[112]⟩, .bool false] 29)).alloc (.cells #[] 29)).drew) (W1.heap.size + 1) 3 (some ⟨W1.heap.size, 0, none⟩) 4 [.string ⟨#[97]⟩, .string ⟨#[112]⟩, .bool false, .string ⟨#[97]⟩, .string ⟨#[112]⟩, .bool false, .string ⟨#[97]⟩, .string ⟨#[112]⟩, .bool false, .string ⟨#[97]⟩, .string ⟨#[112]⟩, .bool false]) := hide ((rd_lit W1 [.string ⟨#[97]⟩, .string ⟨#[112]⟩, .bool false, .string ⟨#[97]⟩, .string ⟨#[112]⟩, .bool false, .string ⟨#[97]⟩, .string ⟨#[112]⟩, .bool false, .string ⟨#[97]⟩, .string ⟨#[112]⟩, .bool false] 29 3 4 rfl).alloc (by simp) _).drew
    clear hO hB1 hR hB3
    go_cut [8] from 36 to 44 (fun s8 wx => ∃ A c, s8 = .slice A (f.length + 4) c ∧ Hid (wx.ownsRow W1.heap.size 29 3 (.slice A (f.length + 4) c) (f.length + 4) (cnds (f ++ [((([97] : List UInt8), ([112] : List UInt8)), false), (([97], [112]), false), (([97], [112]), false), (([97], [112]), false)]))) ∧ Hid (Below W1.heap.size W1 wx))
    case first =>
      go_region_held3 (fun wk => wk.cell? ⟨a9, 0, none⟩ = some (.string ⟨#[97]⟩) ∧ wk.cell? ⟨a9, 1, none⟩ = some (.string ⟨#[112]⟩) ∧ wk.cell? ⟨a9, 2, none⟩ = some (.bool false)) (go_keep) (first
        | (refine step_app rfl (.tmp 38) (.tmp 43) 23 rfl W1.heap.size 29 i0 (.agg #[.string ⟨#[]⟩, .string ⟨#[]⟩, .bool false]) 3 40 Try.underlying23 hi_ hzz0 hzz1 hzz2 rfl (by decide) (.slice A4 (0 + f.length) c4) (0 + f.length) (cnds [] ++ cnds f) (by simp [Act.eval]) (o4.alloc (.cells #[.string ⟨#[97]⟩, .string ⟨#[112]⟩, .bool false, .string ⟨#[97]⟩, .string ⟨#[112]⟩, .bool false, .string ⟨#[97]⟩, .string ⟨#[112]⟩, .bool false, .string ⟨#[97]⟩, .string ⟨#[112]⟩, .bool false] 29)) (w4.heap.size + 1) (some ⟨w4.heap.size, 0, none⟩) 4 4 [.string ⟨#[97]⟩, .string ⟨#[112]⟩, .bool false, .string ⟨#[97]⟩, .string ⟨#[112]⟩, .bool false, .string ⟨#[97]⟩, .string ⟨#[112]⟩, .bool false, .string ⟨#[97]⟩, .string ⟨#[112]⟩, .bool false] (by simp [Act.eval]) (rd_lit w4 [.string ⟨#[97]⟩, .string ⟨#[112]⟩, .bool false, .string ⟨#[97]⟩, .string ⟨#[112]⟩, .bool false, .string ⟨#[97]⟩, .string ⟨#[112]⟩, .bool false, .string ⟨#[97]⟩, .string ⟨#[112]⟩, .bool false] _ 3 4 rfl) four_one (by unfold maxLen; omega) (by omega) (by simp; omega) ?_; intro A5 c5 w5 o5 b5 g5; have l1 := b5.cell (p := ⟨a9, 0, none⟩) hbW; have l2 := b5.cell (p := ⟨a9, 1, none⟩) hbW; have l3 := b5.cell (p := ⟨a9, 2, none⟩) hbW)
        | (refine step_app rfl (.tmp 38) (.tmp 43) 23 rfl W1.heap.size 29 i0 (.agg #[.string ⟨#[]⟩, .string ⟨#[]⟩, .bool false]) 3 40 Try.underlying23 hi_ hzz0 hzz1 hzz2 rfl (by decide) (.slice A4 (0 + f.length) c4) (0 + f.length) (cnds [] ++ cnds f) (by simp [Act.eval]) o4 (W1.heap.size + 1 + 1) (some ⟨W1.heap.size + 1, 0, none⟩) 4 4 [.string ⟨#[97]⟩, .string ⟨#[112]⟩, .bool false, .string ⟨#[97]⟩, .string ⟨#[112]⟩, .bool false, .string ⟨#[97]⟩, .string ⟨#[112]⟩, .bool false, .string ⟨#[97]⟩, .string ⟨#[112]⟩, .bool false] (by simp [Act.eval]) L4 four_one (by unfold maxLen; omega) (by omega) (by omega) ?_; intro A5 c5 w5 o5 b5 g5; have l1 := b5.cell (p := ⟨a9, 0, none⟩) hbW; have l2 := b5.cell (p := ⟨a9, 1, none⟩) hbW; have l3 := b5.cell (p := ⟨a9, 2, none⟩) hbW)
        | (refine step_app rfl (.tmp 38) (.tmp 43) 23 rfl W1.heap.size 29 i0 (.agg #[.string ⟨#[]⟩, .string ⟨#[]⟩, .bool false]) 3 40 Try.underlying23 hi_ hzz0 hzz1 hzz2 rfl (by decide) (.slice A4 (0 + f.length) c4) (0 + f.length) (cnds [] ++ cnds f) (by simp [Act.eval]) o4 (W1.heap.size + 1) (some ⟨W1.heap.size, 0, none⟩) 4 4 [.string ⟨#[97]⟩, .string ⟨#[112]⟩, .bool false, .string ⟨#[97]⟩, .string ⟨#[112]⟩, .bool false, .string ⟨#[97]⟩, .string ⟨#[112]⟩, .bool false, .string ⟨#[97]⟩, .string ⟨#[112]⟩, .bool false] (by simp [Act.eval]) L4 four_one (by unfold maxLen; omega) (by omega) (by omega) ?_; intro A5 c5 w5 o5 b5 g5; have l1 := b5.cell (p := ⟨a9, 0, none⟩) hbW; have l2 := b5.cell (p := ⟨a9, 1, none⟩) hbW; have l3 := b5.cell (p := ⟨a9, 2, none⟩) hbW)
        | (refine step_app rfl (.tmp 36) (.tmp 37) 23 rfl W1.heap.size 29 i0 (.agg #[.string ⟨#[]⟩, .string ⟨#[]⟩, .bool false]) 3 40 Try.underlying23 hi_ hzz0 hzz1 hzz2 rfl (by decide) (.slice (some ⟨W1.heap.size, 0, none⟩) 0 0) 0 (cnds []) (by simp [Act.eval]) HO.out W1.heap.size P1 f.length q1 (cnds f) (by simp [Act.eval]) HW.out hone.out (by unfold maxLen; omega) (by omega) (by simp) ?_; intro A4 c4 w4 o4 b4 g4; have s4 := b4.size; simp at s4; have j1 := b4.cell (p := ⟨a9, 0, none⟩) hbW; have j2 := b4.cell (p := ⟨a9, 1, none⟩) hbW; have j3 := b4.cell (p := ⟨a9, 2, none⟩) hbW)
        | (refine step_app rfl (.tmp 36) (.tmp 37) 23 rfl W1.heap.size 29 i0 (.agg #[.string ⟨#[]⟩, .string ⟨#[]⟩, .bool false]) 3 40 Try.underlying23 hi_ hzz0 hzz1 hzz2 rfl (by decide) (.slice (some ⟨W1.heap.size, 0, none⟩) 0 0) 0 (cnds []) (by simp [Act.eval]) HO2.out W1.heap.size P1 f.length q1 (cnds f) (by simp [Act.eval]) HW2.out hone.out (by unfold maxLen; omega) (by omega) (by simp; omega) ?_; intro A4 c4 w4 o4 b4 g4; have L4 := HL2.out.keep2c g4 (fun b' off' e => by injection e with e; injection e with e1; subst e1; refine ⟨?_, ?_⟩ <;> simp [Value.ownBlock] <;> omega); have s4 := b4.size; simp at s4; have j1 := b4.cell (p := ⟨a9, 0, none⟩) hbW; have j2 := b4.cell (p := ⟨a9, 1, none⟩) hbW; have j3 := b4.cell (p := ⟨a9, 2, none⟩) hbW)
        | (refine step_app rfl (.tmp 36) (.tmp 37) 23 rfl W1.heap.size 29 i0 (.agg #[.string ⟨#[]⟩, .string ⟨#[]⟩, .bool false]) 3 40 Try.underlying23 hi_ hzz0 hzz1 hzz2 rfl (by decide) (.slice (some ⟨W1.heap.size + 1, 0, none⟩) 0 0) 0 (cnds []) (by simp [Act.eval]) HO3.out W1.heap.size P1 f.length q1 (cnds f) (by simp [Act.eval]) HW3.out hone.out (by unfold maxLen; omega) (by omega) (by simp; omega) ?_; intro A4 c4 w4 o4 b4 g4; have L4 := HL3.out.keep2c g4 (fun b' off' e => by injection e with e; injection e with e1; subst e1; refine ⟨?_, ?_⟩ <;> simp [Value.ownBlock] <;> omega); have s4 := b4.size; simp at s4; have j1 := b4.cell (p := ⟨a9, 0, none⟩) hbW; have j2 := b4.cell (p := ⟨a9, 1, none⟩) hbW; have j3 := b4.cell (p := ⟨a9, 2, none⟩) hbW))
      all_goals (simp; go_wp2_with fail; go_meet)
      all_goals exact ⟨A5, c5, by simp, hide (by simpa [cnds, cnds_append, S] using o5), hide (by first | exact HB1.out.trans ((b4.alloc (by omega) _).trans b5) | exact HB2.out.trans (b4.trans b5) | exact HB3.out.trans (b4.trans b5))⟩
    case rest =>
      obtain ⟨W2, hW2⟩ : ∃ W2, W2 = wc := ⟨_, rfl⟩
      subst hW2
      obtain ⟨A9, c9, rfl, o9, b9⟩ := hcut
      clear HB1 HO HB2 HO2 HW2 HL2 HW HB3 HO3 HW3 HL3 k1 k2 k3
      replace BW := hide (below_keep BW.out b9.out)
      replace DF := hide (DF.out.keep b9.out)
      have OM := hide ((⟨Rd.of_own o9.out, Nat.le_refl _⟩ : RdB W2 W2.heap.size 3 A9 (f.length + 4) (cnds (f ++ [((([97] : List UInt8), ([112] : List UInt8)), false), (([97], [112]), false), (([97], [112]), false), (([97], [112]), false)]))))
      clear o9 b9
      obtain ⟨i, hi⟩ : ∃ i : Nat, i = len1 % (f.length + 1) := ⟨_, rfl⟩
      have hil0 : i < f.length + 1 := by rw [hi]; exact Nat.mod_lt _ (by omega)
      have hil : i ≤ f.length := by omega
      have hir : (len1 : Int).tmod ((f.length : Int) + 1) = (i : Int) := by rw [hi, Int.tmod_eq_emod_of_nonneg (by omega)]; exact (Int.natCast_emod _ _).symm
      have hz2 : ((f.length : Int) + 1 == 0) = false := beq_eq_false_iff_ne.2 (by omega)
      have hw1 : IntKind.i64.wrap ((f.length : Int) + 1) = (f.length : Int) + 1 := IntWalk.i64_in _ (by omega)
      have hid : i ≤ q1 := by omega
      clear hi
      have hO := ((World.ownsRow_lit W2 #[] 0 (Nat.le_refl _) (Nat.zero_le _) rfl : (W2.alloc (.cells #[] 29)).ownsRow W2.heap.size 29 3 (.slice (some ⟨W2.heap.size, 0, none⟩) 0 0) 0 (cnds [])))
      have hB : Below W2.heap.size W2 (W2.alloc (.cells #[] 29)) := (Below.refl _ _).alloc (Nat.le_refl _) _
      have hR := (DF.out.rd.more DF.out.top).below hB
      have BX := hide hB
      go_wp2_with (first
        | (at_builtin; go_loud (refine wpList_app _ rfl (.tmp 47) (.tmp 49) 23 rfl W2.heap.size 29 i0 (.agg #[.string ⟨#[]⟩, .string ⟨#[]⟩, .bool false]) 3 40 Try.underlying23 hi_ hzz0 hzz1 hzz2 rfl (by decide) _ _ _ rfl (o4.alloc _) (w4.heap.size + 1) _ _ _ [.string ⟨#[]⟩, .string ⟨#[]⟩, .bool false] rfl (rd_lit w4 [.string ⟨#[]⟩, .string ⟨#[]⟩, .bool false] _ 3 1 rfl) (three_str _ _ _) (by unfold maxLen; omega) (by omega) (by simp; omega) ?_; intro A5 c5 w5 o5 b5))
        | (at_builtin; refine wpList_app _ rfl (.tmp 45) (.tmp 46) 23 rfl W2.heap.size 29 i0 (.agg #[.string ⟨#[]⟩, .string ⟨#[]⟩, .bool false]) 3 40 Try.underlying23 hi_ hzz0 hzz1 hzz2 rfl (by decide) _ _ _ rfl hO W2.heap.size _ _ _ (cnds f) rfl hR hone.out (by unfold maxLen; omega) (by omega) (by simp) ?_; intro A4 c4 w4 o4 b4; simp only [Nat.zero_add] at o4; have s4 := b4.size; simp at s4))
      have BY := hide (BX.out.trans ((b4.alloc (by omega) _).trans b5))
      have o5' : w5.ownsRow W2.heap.size 29 3 (.slice A5 (f.length + 1) c5) (f.length + 1) (cnds (f ++ [(([], []), false)])) := by simpa [cnds, cnds_append, S] using o5
      have s5 := BY.out.size
      have OB := hide o5'
      clear o5 o5' hO hB hR BX b4 b5 o4 s4
      replace BW := hide (below_keep BW.out BY.out)
      replace DF := hide (DF.out.keep BY.out)
      replace OM := hide (OM.out.keep BY.out)
      have OV := hide ((⟨Rd.of_own OB.out, Nat.le_refl _⟩ : RdB w5 w5.heap.size 3 A5 (f.length + 1) (cnds (f ++ [(([], []), false)]))))
      clear OB BY
      have C6 := hide (implFilterOk P1 _ q1 (f.take i) _ w5 (by simp; omega) (DF.out.rd.take_conds rfl hil) (by omega) DF.out.top)
      rw [(filter_take HF.out i)] at C6
      go_wp2_with fail
      refine C6.out.mono ?_
      rintro e w6 ⟨rfl, b⟩
      have s6 := b.size
      replace BW := hide (below_keep BW.out b)
      replace DF := hide (DF.out.keep b)
      replace OM := hide (OM.out.keep b)
      replace OV := hide (OV.out.keep b)
      clear b C6
      have C7 := hide (implFilterOk A9 _ c9 (f ++ [((([97] : List UInt8), ([112] : List UInt8)), false), (([97], [112]), false), (([97], [112]), false), (([97], [112]), false)]) _ w6 (by simp) OM.out.rd (by omega) OM.out.le)
      rw [(filter_many f _ (by simp))] at C7
      go_wp2_with fail
      refine C7.out.mono ?_
      rintro e w7 ⟨rfl, b⟩
      have s7 := b.size
      replace BW := hide (below_keep BW.out b)
      replace DF := hide (DF.out.keep b)
      replace OM := hide (OM.out.keep b)
      replace OV := hide (OV.out.keep b)
      clear b C7
      have C8 := hide (implFilterOk A5 _ c5 (f ++ [(([], []), false)]) _ w7 (by simp) OV.out.rd (by omega) OV.out.le)
      rw [(filter_bad f)] at C8
      go_wp2_with fail
      refine C8.out.mono ?_
      rintro e w8 ⟨rfl, b⟩
      have s8 := b.size
      replace BW := hide (below_keep BW.out b)
      replace DF := hide (DF.out.keep b)
      replace OM := hide (OM.out.keep b)
      replace OV := hide (OV.out.keep b)
      clear b C8
      have C9 := hide (implFilterOk none 0 0 [] 0 w8 rfl (Rd.nil _ _ _ _) (by omega) (by omega))
      go_wp2_with fail
      refine C9.out.mono ?_
      rintro e w9 ⟨rfl, b⟩
      have s9 := b.size
      replace BW := hide (below_keep BW.out b)
      replace DF := hide (DF.out.keep b)
      replace OM := hide (OM.out.keep b)
      replace OV := hide (OV.out.keep b)
      clear b C9
      go_wp2
      go_ret
      exact ⟨rfl, BW.out⟩

end Go.Proofs.Ytgedlpdjnnbolaa
