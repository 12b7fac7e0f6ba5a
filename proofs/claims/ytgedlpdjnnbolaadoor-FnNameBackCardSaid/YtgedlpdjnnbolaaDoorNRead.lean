/-
  WALKS: a name is read from its text (strings.Split, strings.Cut).
-/
import Derived.Test.YtgedlpdjnnbolaaDoorNText
import Derived.Test.YtgedlpdjnnbolaaDoorPlainRead
import Derived.Test.YtgedlpdjnnbolaaDoorDrawName
import Derived.Maps.AppendAt
namespace Go.Proofs.YtgedlpdjnnbolaaDoor
set_option linter.unusedVariables false
open Go.RowKit

theorem splitB_S (l : List UInt8) : (Lib.splitB ⟨#[44]⟩ 0 (Lib.countB (S l) ⟨#[44]⟩) (S l)).map Value.string = strs (Lib.split l [44]) := by
  have h := Lib.splitB_data ⟨#[44]⟩ 0 (Lib.countB (S l) ⟨#[44]⟩) (S l)
  have e : Lib.splitK (⟨#[44]⟩ : ByteArray).data.toList 0 (Lib.countB (S l) ⟨#[44]⟩) (S l).data.toList = Lib.split l [44] := by
    unfold Lib.split Lib.countB
    rw [S_list]
  rw [e] at h
  rw [← h]
  unfold strs
  rw [List.map_map]
  exact List.map_congr_left fun x _ => by rw [Function.comp, ← S_of]
/-- strings.Split at a comma. -/
theorem split_any (l : List UInt8) (m : Int) (w : World) (hl : l.length ≤ 1000) (hm : w.cell? ⟨0, 0, none⟩ = some (.int .i64 m)) :
    Calls Tryd.prog 22 #[.string (S l), .string ⟨#[44]⟩] w fun e w' => ∃ g, e = .returned (.slice (some ⟨g, 0, none⟩) (Lib.split l [44]).length (Lib.split l [44]).length) ∧ w.heap.size ≤ g ∧ g < w'.heap.size ∧ Below w.heap.size w w' ∧ ∀ (j : Nat) x, (Lib.split l [44])[j]? = some x → w'.cell? ⟨g, j, none⟩ = some (.string (S x)) := by
  refine (shelf_strings_Split (S l) ⟨#[44]⟩ m w (by rw [S_size]; omega) hm (by decide)).mono ?_
  rintro e w' ⟨rfl, rfl⟩
  have hN : Lib.countB (S l) ⟨#[44]⟩ + 1 = (Lib.split l [44]).length := by
    have h1 := Lib.splitB_all ⟨#[44]⟩ (by decide) 0 _ (S l) rfl
    have h2 := congrArg List.length (splitB_S l)
    simp only [List.length_map, strs] at h2
    omega
  rw [hN, splitB_S]
  refine ⟨w.heap.size, rfl, Nat.le_refl _, by simp, (Below.refl _ _).alloc (Nat.le_refl _) _, fun j x hx => ?_⟩
  rw [World.cell?_alloc_new]
  simp [strs, hx]
/-- strings.Cut at an equals sign. -/
theorem cut_any (l : List UInt8) (m : Int) (w : World) (hl : l.length ≤ 2000) (hm : w.cell? ⟨0, 0, none⟩ = some (.int .i64 m)) :
    Calls Tryd.prog 23 #[.string (S l), .string ⟨#[61]⟩] w fun e w' => (∃ q, e = .returned (.tuple #[.string (S (PT.word l).1), .string (S (PT.word l).2), .bool q])) ∧ Below w.heap.size w w' := by
  refine (shelf_strings_Cut (S l) ⟨#[61]⟩ m w (by rw [S_size]; omega) hm).mono ?_
  rintro e w' ⟨rfl, n, rfl⟩
  refine ⟨⟨(Lib.cut l [61]).2.2, ?_⟩, below_drewN (Below.refl _ _) n⟩
  rw [S_list]
  rfl
theorem split_small {l x : List UInt8} {j : Nat} (h : (Lib.split l [44])[j]? = some x) : x.length ≤ l.length := by
  have key : ∀ (k : Nat) (s : List UInt8), ∀ y ∈ Lib.splitK [44] 0 k s, y.length ≤ s.length := by
    intro k
    induction k with
    | zero => intro s y hy; simp [Lib.splitK] at hy; subst hy; exact Nat.le_refl _
    | succ k ih =>
      intro s y hy
      unfold Lib.splitK at hy
      split at hy
      · simp at hy; subst hy; exact Nat.le_refl _
      · rcases List.mem_cons.1 hy with rfl | hy
        · rw [List.length_take]; omega
        · have := ih _ y hy
          rw [List.length_drop] at this
          omega
  exact key _ l x (List.mem_of_getElem? h)
def ReadN (w : World) (l : List UInt8) (e : Ending) (w' : World) : Prop :=
  ∃ (A : Option Addr) (c : Nat) (z : List PT.Tag) (ok : Bool), e = .returned (.tuple #[.slice A z.length c, .bool ok]) ∧ PT.nameRead l = (z, ok) ∧ w'.ownsRow w.heap.size 42 2 (.slice A z.length c) z.length (tgs z) ∧ Below w.heap.size w w'
theorem nread_yes {l : List UInt8} (h0 : l ≠ []) (h : PT.nameText (PT.parse l) = l) : PT.nameRead l = (PT.parse l, true) := by
  unfold PT.nameRead; rw [if_neg]; rintro (e | e); exact h0 e; exact e h
theorem nread_no {l : List UInt8} (h : PT.nameText (PT.parse l) ≠ l) : PT.nameRead l = ([], false) := by
  unfold PT.nameRead; rw [if_pos (Or.inr h)]
theorem parse_take {P : List (List UInt8)} {k : Nat} {x : List UInt8} (h : P[k]? = some x) : tgs ((P.take k).map PT.word) ++ [.string (S (PT.word x).1), .string (S (PT.word x).2)] = tgs ((P.take (k + 1)).map PT.word) := by
  rw [List.take_add_one, h, List.map_append, tgs_append]
  rfl

set_option maxRecDepth 100000 in
set_option maxHeartbeats 6400000 in
theorem implNameRead (l : List UInt8) (m : Int) (w : World) (hl : l.length ≤ 1000) (hm : w.cell? ⟨0, 0, none⟩ = some (.int .i64 m)) : Calls Tryd.prog 9 #[.string (S l)] w (ReadN w l) := by
  obtain ⟨i0, hi, hz0, hz1, hz2⟩ := info_parts info_tag
  have h0w : 0 < w.heap.size := World.block_lt_of_cell? _ _ hm
  have HM := hide hm
  have B0 : Hid (Below w.heap.size w (w.alloc (.cells #[] 42))) := hide ((Below.refl _ _).alloc (Nat.le_refl _) _)
  have hO : Hid ((w.alloc (.cells #[] 42)).ownsRow w.heap.size 42 2 (.slice (some ⟨w.heap.size, 0, none⟩) 0 0) 0 (tgs [])) := hide (World.ownsRow_lit w #[] 0 (Nat.le_refl _) (Nat.zero_le _) rfl)
  have C1 := hide (split_any l m (w.alloc (.cells #[] 42)) hl ((B0.out.cell (p := ⟨0, 0, none⟩) h0w).trans hm))
  clear hm
  go_enter Tryd.func9, Tryd.ntmps9
  go_wp2_with fail
  refine C1.out.mono ?_
  rintro e w2 ⟨g, rfl, hg1, hg2, b2, hc2⟩
  have hP := hide hc2
  have O2 := hide (own_below hO.out b2)
  have B2 := hide (B0.out.trans (b2.mono (by simp)))
  have NE0 : Hid (∀ g', (Value.slice (some ⟨w.heap.size, 0, none⟩) 0 0).ownBlock = some g' → g' ≠ g) := hide (fun g' hg' => by
    have : g' = w.heap.size := by simpa [Value.ownBlock] using hg'.symm
    simp at hg1; omega)
  clear C1 hO B0 b2 hc2 hg1
  have hPN : (Lib.split l [44]).length ≤ 1001 := Nat.le_trans (PT.split_len l) (by omega)
  have HPS := hide (fun (j : Nat) (x : List UInt8) (h : (Lib.split l [44])[j]? = some x) => Nat.le_trans (split_small h) hl)
  have HPD : Hid (PT.parse l = (Lib.split l [44]).map PT.word) := hide rfl
  generalize Lib.split l [44] = P at hP hPN HPS HPD
  obtain ⟨N, hN⟩ : ∃ N, P.length = N := ⟨_, rfl⟩
  have HN := hide hN
  rw [hN] at hPN ⊢
  clear hN
  go_wp2
  go_loopw [4, 14] (fun s i wr => ∃ (k : Nat) (A' : Option Addr) (c' : Nat), k ≤ N ∧ i = .int .i64 k ∧ s = .slice A' k c' ∧ Hid (wr.ownsRow w.heap.size 42 2 (.slice A' k c') k (tgs ((P.take k).map PT.word))) ∧ Hid (Below w.heap.size w wr) ∧ Hid (∀ g', (Value.slice A' k c').ownBlock = some g' → g' ≠ g) ∧ Hid (∀ (j : Nat) x, P[j]? = some x → wr.cell? ⟨g, j, none⟩ = some (.string (S x)))) (fun _ i _ => N - (intOf i).toNat)
  case atStart => exact ⟨0, _, _, by omega, rfl, rfl, O2, B2, NE0, hP⟩
  case round =>
    clear O2 B2 NE0 hP hg2
    obtain ⟨k, A', c', hk, rfl, rfl, ho, hbel, hne, hP⟩ := hrel
    have hsz := hbel.out.size
    by_cases hlt : k < N
    · obtain ⟨x, hx⟩ : ∃ x, P[k]? = some x := ⟨P[k]'(by rw [HN.out]; exact hlt), List.getElem?_eq_getElem _⟩
      have c1 := hP.out k x hx
      have hgr : Hid (g < wr.heap.size) := hide (World.block_lt_of_cell? _ _ c1)
      have HS := hide (parse_take hx)
      have C2 := hide (cut_any x m wr (by have := HPS.out k x hx; omega) ((hbel.out.cell (p := ⟨0, 0, none⟩) h0w).trans HM.out))
      generalize PT.word x = y at HS C2
      obtain ⟨a, b⟩ := y
      have hj : (0 : Int) ≤ (k : Int) ∧ (k : Int) < (N : Int) := by omega
      clear hx
      go_wp2_with fail
      refine C2.out.mono ?_
      rintro e w3 ⟨⟨q, rfl⟩, b3⟩
      have o3 := own_below ho.out b3
      have B3 := hide (hbel.out.trans (b3.mono hsz))
      have s3 := b3.size
      have hP3 : Hid (∀ (j : Nat) x, P[j]? = some x → w3.cell? ⟨g, j, none⟩ = some (.string (S x))) := hide (fun j x hx => (b3.cell (p := ⟨g, j, none⟩) hgr.out).trans (hP.out j x hx))
      have hg3 : Hid (g < w3.heap.size) := hide (Nat.lt_of_lt_of_le hgr.out s3)
      clear C2 b3 ho hbel hP c1 hgr
      go_wp2_with (first
        | (at_builtin; refine wpList_append_own_at _ rfl (.tmp 24) (.tmp 28) 23 rfl w.heap.size 42 i0 (.agg #[.string ⟨#[]⟩, .string ⟨#[]⟩]) 2 32 Tryd.underlying23 hi hz0 hz1 hz2 rfl (by decide) _ _ _ rfl (o3.alloc _) ⟨w3.heap.size, 0, none⟩ 1 1 [.string (S a), .string (S b)] rfl rfl (two_new _ _ _ _) (two_str _ _) (by unfold maxLen; omega) (by omega) (by simp; omega) ?_; intro v4 w4 hown4 hgrow4 _ hat4))
      have hrow : ∀ g', Value.ownBlock (.slice A' k c') = some g' → w.heap.size ≤ g' := fun g' hg' => (o3.lt g' hg').1
      have B4 := hide ((B3.out.alloc (by omega) (.cells #[.string (S a), .string (S b)] 42)).grown hgrow4 (by simp; omega) hrow)
      rw [HS.out] at hown4
      obtain ⟨A4, c4, rfl, _⟩ := own_shape hown4
      have NE4 : Hid (∀ g', (Value.slice A4 (k + 1) c4).ownBlock = some g' → g' ≠ g) := hide (fun g' hg' => by
        rcases hat4 with h4 | h4
        · exact hne.out g' (Eq.trans (Eq.symm h4) hg')
        · have h5 : g' = _ := Option.some.inj (hg'.symm.trans h4)
          rw [World.size_alloc] at h5
          have := hg3.out
          omega)
      have hP4 : Hid (∀ (j : Nat) x, P[j]? = some x → w4.cell? ⟨g, j, none⟩ = some (.string (S x))) := hide (fun j x hx => hgrow4.cell (by rw [World.cell?_alloc_lt _ _ _ (by have := hg3.out; simpa using this)]; exact hP3.out j x hx) (fun e => hne.out _ e.symm rfl))
      have O4 := hide hown4
      clear hown4 hgrow4 hat4 o3 B3 hP3 hne hrow
      go_wp2
      go_roundw
      case rel => exact ⟨k + 1, A4, c4, by omega, by go_num, rfl, O4, B4, NE4, hP4⟩
      case measure => simp [intOf]; omega
    · obtain rfl : k = N := by omega
      have OZ : Hid (wr.ownsRow w.heap.size 42 2 (.slice A' k c') k (tgs (PT.parse l))) := hide (by
        have := ho.out
        rwa [List.take_of_length_le (by rw [HN.out]; exact Nat.le_refl _), ← HPD.out] at this)
      have HL : Hid ((PT.parse l).length = k) := hide (by rw [HPD.out, List.length_map, HN.out])
      have OE : Hid ((wr.alloc (.cells #[] 42)).ownsRow w.heap.size 42 2 (.slice (some ⟨wr.heap.size, 0, none⟩) 0 0) 0 (tgs [])) := hide (World.ownsRow_lit wr #[] 0 hsz (Nat.zero_le _) rfl)
      have BE := hide (hbel.out.alloc hsz (.cells #[] 42))
      clear ho hne hP
      by_cases h0 : l = []
      · obtain ⟨z1, z2⟩ := S_empty l h0
        have F : Hid (ReadN w l (.returned (.tuple #[.slice (some ⟨wr.heap.size, 0, none⟩) 0 0, .bool false])) (wr.alloc (.cells #[] 42))) := hide ⟨_, _, [], false, rfl, by unfold PT.nameRead; rw [if_pos (Or.inl h0)], OE.out, BE.out⟩
        clear h0 OE BE OZ hbel
        go_wp2
        exact bodyPost_ret (v := .tuple #[.slice (some ⟨wr.heap.size, 0, none⟩) 0 0, .bool false]) (by simp [results, Tryd.results9, go_sem]) rfl F.out
      · obtain ⟨z1, z2⟩ := S_full l h0
        have C3 := hide (implNameText A' k c' (PT.parse l) wr.heap.size wr HL.out (Rd.of_own OZ.out) (by omega) (Nat.le_refl _))
        have H0 := hide h0
        clear h0 OE BE
        go_wp2_with fail
        refine C3.out.mono ?_
        rintro e w5 ⟨rfl, b5⟩
        have BW := hide (hbel.out.trans (b5.mono hsz))
        have O5 := hide (own_below OZ.out b5)
        have s5 := b5.size
        clear C3 b5 hbel OZ
        by_cases h1 : PT.nameText (PT.parse l) = l
        · have q1 : ((S (PT.nameText (PT.parse l))).toList == (S l).toList) = true := by rw [S_eq]; exact decide_eq_true h1
          have F : Hid (ReadN w l (.returned (.tuple #[.slice A' k c', .bool true])) w5) := hide ⟨A', c', PT.parse l, true, by rw [HL.out], nread_yes H0.out h1, by rw [HL.out]; exact O5.out, BW.out⟩
          clear h1 O5 BW
          go_wp2
          exact bodyPost_ret (v := .tuple #[.slice A' k c', .bool true]) (by simp [results, Tryd.results9, go_sem]) rfl F.out
        · have q1 : ((S (PT.nameText (PT.parse l))).toList == (S l).toList) = false := by rw [S_eq]; exact decide_eq_false h1
          have F : Hid (ReadN w l (.returned (.tuple #[.slice (some ⟨w5.heap.size, 0, none⟩) 0 0, .bool false])) (w5.alloc (.cells #[] 42))) := hide ⟨_, _, [], false, rfl, nread_no h1, World.ownsRow_lit w5 #[] 0 (by omega) (Nat.zero_le _) rfl, BW.out.alloc (by omega) _⟩
          clear h1 O5 BW
          go_wp2
          exact bodyPost_ret (v := .tuple #[.slice (some ⟨w5.heap.size, 0, none⟩) 0 0, .bool false]) (by simp [results, Tryd.results9, go_sem]) rfl F.out

end Go.Proofs.YtgedlpdjnnbolaaDoor
