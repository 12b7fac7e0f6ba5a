/-
  WALKS: a filter is read from its text (strings.Split, strings.Cut, strings.CutSuffix).
-/
import Derived.Test.YtgedlpdjnnbolaaDoorNRead
import Derived.Test.YtgedlpdjnnbolaaDoorFText
import Derived.Test.YtgedlpdjnnbolaaDoorPlainFRead
namespace Go.Proofs.YtgedlpdjnnbolaaDoor
set_option linter.unusedVariables false
open Go.RowKit

/-- strings.CutSuffix at an exclamation mark. -/
theorem suffix_any (l : List UInt8) (w : World) (hl : l.length ≤ 2000) :
    Calls Tryd.prog 29 #[.string (S l), .string ⟨#[33]⟩] w fun e w' => e = .returned (.tuple #[.string (S (Lib.trimSuffix l [33])), .bool (Lib.hasSuffix l [33])]) ∧ w' = w := by
  refine (shelf_strings_CutSuffix (S l) ⟨#[33]⟩ w (by rw [S_size]; omega)).mono ?_
  rintro e w' ⟨rfl, rfl⟩
  refine ⟨?_, rfl⟩
  rw [S_list]
  rfl
theorem word_small (l : List UInt8) : (PT.word l).1.length ≤ l.length := by
  unfold PT.word Lib.cut
  split
  · simp only [List.length_take]; omega
  · exact Nat.le_refl _
def ReadF (w : World) (l : List UInt8) (e : Ending) (w' : World) : Prop :=
  ∃ (A : Option Addr) (c : Nat) (z : List PT.Cond) (ok : Bool), e = .returned (.tuple #[.slice A z.length c, .bool ok]) ∧ PT.filterRead l = (z, ok) ∧ w'.ownsRow w.heap.size 52 3 (.slice A z.length c) z.length (cnds z) ∧ Below w.heap.size w w'
theorem fread_star {l : List UInt8} (h : l = [42]) : PT.filterRead l = ([], true) := by
  unfold PT.filterRead; rw [if_pos h]
theorem fread_yes {l : List UInt8} (hs : l ≠ [42]) (h0 : l ≠ []) (h : PT.filterText (PT.fparse l) = l) : PT.filterRead l = (PT.fparse l, true) := by
  unfold PT.filterRead; rw [if_neg hs, if_neg]; rintro (e | e); exact h0 e; exact e h
theorem fread_void {l : List UInt8} (hs : l ≠ [42]) (h0 : l = []) : PT.filterRead l = ([], false) := by
  unfold PT.filterRead; rw [if_neg hs, if_pos (Or.inl h0)]
theorem fread_no {l : List UInt8} (hs : l ≠ [42]) (h : PT.filterText (PT.fparse l) ≠ l) : PT.filterRead l = ([], false) := by
  unfold PT.filterRead; rw [if_neg hs, if_pos (Or.inr h)]
theorem fparse_take {P : List (List UInt8)} {k : Nat} {x : List UInt8} (h : P[k]? = some x) : cnds ((P.take k).map PT.cword) ++ [.string (S (PT.cword x).1.1), .string (S (PT.cword x).1.2), .bool (PT.cword x).2] = cnds ((P.take (k + 1)).map PT.cword) := by
  rw [List.take_add_one, h, List.map_append, cnds_append]
  rfl
theorem cword_of {x a b : List UInt8} (h : PT.word x = (a, b)) : PT.cword x = ((Lib.trimSuffix a [33], b), Lib.hasSuffix a [33]) := by
  unfold PT.word at h
  simp only [Prod.mk.injEq] at h
  unfold PT.cword
  rw [h.1, h.2]

set_option maxRecDepth 100000 in
set_option maxHeartbeats 6400000 in
theorem implFilterRead (l : List UInt8) (m : Int) (w : World) (hl : l.length ≤ 1000) (hm : w.cell? ⟨0, 0, none⟩ = some (.int .i64 m)) : Calls Tryd.prog 15 #[.string (S l)] w (ReadF w l) := by
  obtain ⟨i0, hi, hz0, hz1, hz2⟩ := info_parts info_cond
  have h0w : 0 < w.heap.size := World.block_lt_of_cell? _ _ hm
  have HM := hide hm
  have B0 : Hid (Below w.heap.size w (w.alloc (.cells #[] 52))) := hide ((Below.refl _ _).alloc (Nat.le_refl _) _)
  have hO : Hid ((w.alloc (.cells #[] 52)).ownsRow w.heap.size 52 3 (.slice (some ⟨w.heap.size, 0, none⟩) 0 0) 0 (cnds [])) := hide (World.ownsRow_lit w #[] 0 (Nat.le_refl _) (Nat.zero_le _) rfl)
  have C1 := hide (split_any l m (w.alloc (.cells #[] 52)) hl ((B0.out.cell (p := ⟨0, 0, none⟩) h0w).trans hm))
  clear hm
  by_cases hs : l = [42]
  · have q0 : ((S l).toList == [42]) = true := by rw [S_toList, hs]; rfl
    have F : Hid (ReadF w l (.returned (.tuple #[.slice (some ⟨w.heap.size, 0, none⟩) 0 0, .bool true])) (w.alloc (.cells #[] 52))) := hide ⟨_, _, [], true, rfl, fread_star hs, hO.out, B0.out⟩
    clear hO B0 C1 hs
    go_enter Tryd.func15, Tryd.ntmps15
    go_wp2
    exact bodyPost_ret (v := .tuple #[.slice (some ⟨w.heap.size, 0, none⟩) 0 0, .bool true]) (by simp [results, Tryd.results15, go_sem]) rfl F.out
  have q0 : ((S l).toList == [42]) = false := by rw [S_toList]; exact beq_eq_false_iff_ne.2 hs
  have HST := hide hs
  clear hs
  go_enter Tryd.func15, Tryd.ntmps15
  go_wp2_with fail
  refine C1.out.mono ?_
  rintro e w2 ⟨g, rfl, hg1, hg2, b2, hc2⟩
  have hP := hide hc2
  have O2 := hide (own_below hO.out b2)
  have B2 := hide (B0.out.trans (b2.mono (by simp)))
  have NE0 : Hid (∀ g', (Value.slice (some ⟨w.heap.size, 0, none⟩) 0 0).ownBlock = some g' → g' ≠ g) := hide (fun g' hg' => by
    have : g' = w.heap.size := by simpa [Value.ownBlock] using hg'.symm
    simp at hg1; omega)
  clear C1 hO B0 b2 hc2 hg1
  have hPN : (Lib.split l [44]).length ≤ 1001 := Nat.le_trans (PT.split_len l) (by omega)
  have HPS := hide (fun (j : Nat) (x : List UInt8) (h : (Lib.split l [44])[j]? = some x) => Nat.le_trans (split_small h) hl)
  have HPD : Hid (PT.fparse l = (Lib.split l [44]).map PT.cword) := hide rfl
  generalize Lib.split l [44] = P at hP hPN HPS HPD
  obtain ⟨N, hN⟩ : ∃ N, P.length = N := ⟨_, rfl⟩
  have HN := hide hN
  rw [hN] at hPN ⊢
  clear hN
  go_wp2
  go_loopw [4, 18] (fun s i wr => ∃ (k : Nat) (A' : Option Addr) (c' : Nat), k ≤ N ∧ i = .int .i64 k ∧ s = .slice A' k c' ∧ Hid (wr.ownsRow w.heap.size 52 3 (.slice A' k c') k (cnds ((P.take k).map PT.cword))) ∧ Hid (Below w.heap.size w wr) ∧ Hid (∀ g', (Value.slice A' k c').ownBlock = some g' → g' ≠ g) ∧ Hid (∀ (j : Nat) x, P[j]? = some x → wr.cell? ⟨g, j, none⟩ = some (.string (S x)))) (fun _ i _ => N - (intOf i).toNat)
  case atStart => exact ⟨0, _, _, by omega, rfl, rfl, O2, B2, NE0, hP⟩
  case round =>
    clear O2 B2 NE0 hP hg2
    obtain ⟨k, A', c', hk, rfl, rfl, ho, hbel, hne, hP⟩ := hrel
    have hsz := hbel.out.size
    by_cases hlt : k < N
    · obtain ⟨x, hx⟩ : ∃ x, P[k]? = some x := ⟨P[k]'(by rw [HN.out]; exact hlt), List.getElem?_eq_getElem _⟩
      have c1 := hP.out k x hx
      have hgr : Hid (g < wr.heap.size) := hide (World.block_lt_of_cell? _ _ c1)
      have HS := fparse_take hx
      have C2 := hide (cut_any x m wr (by have := HPS.out k x hx; omega) ((hbel.out.cell (p := ⟨0, 0, none⟩) h0w).trans HM.out))
      obtain ⟨y, hy⟩ : ∃ y, PT.word x = y := ⟨_, rfl⟩
      have hws := word_small x
      rw [hy] at C2 hws
      obtain ⟨a, b⟩ := y
      rw [cword_of hy] at HS
      have C3 := hide (fun W => suffix_any a W (by have := HPS.out k x hx; simp only at hws; omega))
      generalize Lib.trimSuffix a [33] = t at HS C3
      generalize Lib.hasSuffix a [33] = q at HS C3
      have HS' := hide HS
      have hj : (0 : Int) ≤ (k : Int) ∧ (k : Int) < (N : Int) := by omega
      clear hx hy hws HS
      go_wp2_with fail
      refine C2.out.mono ?_
      rintro e w3 ⟨⟨q', rfl⟩, b3⟩
      have o3 := own_below ho.out b3
      have B3 := hide (hbel.out.trans (b3.mono hsz))
      have s3 := b3.size
      have hP3 : Hid (∀ (j : Nat) x, P[j]? = some x → w3.cell? ⟨g, j, none⟩ = some (.string (S x))) := hide (fun j x hx => (b3.cell (p := ⟨g, j, none⟩) hgr.out).trans (hP.out j x hx))
      have hg3 : Hid (g < w3.heap.size) := hide (Nat.lt_of_lt_of_le hgr.out s3)
      clear C2 b3 ho hbel hP c1 hgr
      go_wp2_with fail
      refine (C3.out _).mono ?_
      rintro e w4 ⟨rfl, rfl⟩
      clear C3
      go_wp2_with (first
        | (at_builtin; refine wpList_append_own_at _ rfl (.tmp 39) (.tmp 41) 31 rfl w.heap.size 52 i0 (.agg #[.string ⟨#[]⟩, .string ⟨#[]⟩, .bool false]) 3 40 Tryd.underlying31 hi hz0 hz1 hz2 rfl (by decide) _ _ _ rfl ((o3.alloc _).alloc _) ⟨w3.heap.size + 1, 0, none⟩ 1 1 [.string (S t), .string (S b), .bool q] rfl rfl (by have := three_new (w3.alloc (.cells #[.string (S t), .string (S b), .bool q] 52)) (.string (S t)) (.string (S b)) (.bool q) 52; simpa using this) (three_str _ _ _) (by unfold maxLen; omega) (by omega) (by simp; omega) ?_; intro v4 w4 hown4 hgrow4 _ hat4))
      have hrow : ∀ g', Value.ownBlock (.slice A' k c') = some g' → w.heap.size ≤ g' := fun g' hg' => (o3.lt g' hg').1
      have B4 := hide (((B3.out.alloc (by omega) (.cells #[.string (S t), .string (S b), .bool q] 52)).alloc (by simp; omega) (.cells #[.string (S t), .string (S b), .bool q] 52)).grown hgrow4 (by simp; omega) hrow)
      rw [HS'.out] at hown4
      obtain ⟨A4, c4, rfl, _⟩ := own_shape hown4
      have NE4 : Hid (∀ g', (Value.slice A4 (k + 1) c4).ownBlock = some g' → g' ≠ g) := hide (fun g' hg' => by
        rcases hat4 with h4 | h4
        · exact hne.out g' (Eq.trans (Eq.symm h4) hg')
        · have h5 : g' = _ := Option.some.inj (hg'.symm.trans h4)
          rw [World.size_alloc, World.size_alloc] at h5
          have := hg3.out
          omega)
      have hP4 : Hid (∀ (j : Nat) x, P[j]? = some x → w4.cell? ⟨g, j, none⟩ = some (.string (S x))) := hide (fun j x hx => hgrow4.cell (by rw [World.cell?_alloc_lt _ _ _ (by have := hg3.out; simp; omega), World.cell?_alloc_lt _ _ _ (by have := hg3.out; simpa using this)]; exact hP3.out j x hx) (fun e => hne.out _ e.symm rfl))
      have O4 := hide hown4
      clear hown4 hgrow4 hat4 o3 B3 hP3 hne hrow
      go_wp2
      go_roundw
      case rel => exact ⟨k + 1, A4, c4, by omega, by go_num, rfl, O4, B4, NE4, hP4⟩
      case measure => simp [intOf]; omega
    · obtain rfl : k = N := by omega
      have OZ : Hid (wr.ownsRow w.heap.size 52 3 (.slice A' k c') k (cnds (PT.fparse l))) := hide (by
        have := ho.out
        rwa [List.take_of_length_le (by rw [HN.out]; exact Nat.le_refl _), ← HPD.out] at this)
      have HL : Hid ((PT.fparse l).length = k) := hide (by rw [HPD.out, List.length_map, HN.out])
      have OE : Hid ((wr.alloc (.cells #[] 52)).ownsRow w.heap.size 52 3 (.slice (some ⟨wr.heap.size, 0, none⟩) 0 0) 0 (cnds [])) := hide (World.ownsRow_lit wr #[] 0 hsz (Nat.zero_le _) rfl)
      have BE := hide (hbel.out.alloc hsz (.cells #[] 52))
      clear ho hne hP
      by_cases h0 : l = []
      · obtain ⟨z1, z2⟩ := S_empty l h0
        have F : Hid (ReadF w l (.returned (.tuple #[.slice (some ⟨wr.heap.size, 0, none⟩) 0 0, .bool false])) (wr.alloc (.cells #[] 52))) := hide ⟨_, _, [], false, rfl, fread_void HST.out h0, OE.out, BE.out⟩
        clear h0 OE BE OZ hbel
        go_wp2
        exact bodyPost_ret (v := .tuple #[.slice (some ⟨wr.heap.size, 0, none⟩) 0 0, .bool false]) (by simp [results, Tryd.results15, go_sem]) rfl F.out
      · obtain ⟨z1, z2⟩ := S_full l h0
        have C3 := hide (implFilterText A' k c' (PT.fparse l) wr.heap.size wr HL.out (Rd.of_own OZ.out) (by omega) (Nat.le_refl _))
        have H0 := hide h0
        clear h0 OE BE
        go_wp2_with fail
        refine C3.out.mono ?_
        rintro e w5 ⟨rfl, b5⟩
        have BW := hide (hbel.out.trans (b5.mono hsz))
        have O5 := hide (own_below OZ.out b5)
        have s5 := b5.size
        clear C3 b5 hbel OZ
        by_cases h1 : PT.filterText (PT.fparse l) = l
        · have q1 : ((S (PT.filterText (PT.fparse l))).toList == (S l).toList) = true := by rw [S_eq]; exact decide_eq_true h1
          have F : Hid (ReadF w l (.returned (.tuple #[.slice A' k c', .bool true])) w5) := hide ⟨A', c', PT.fparse l, true, by rw [HL.out], fread_yes HST.out H0.out h1, by rw [HL.out]; exact O5.out, BW.out⟩
          clear h1 O5 BW
          go_wp2
          exact bodyPost_ret (v := .tuple #[.slice A' k c', .bool true]) (by simp [results, Tryd.results15, go_sem]) rfl F.out
        · have q1 : ((S (PT.filterText (PT.fparse l))).toList == (S l).toList) = false := by rw [S_eq]; exact decide_eq_false h1
          have F : Hid (ReadF w l (.returned (.tuple #[.slice (some ⟨w5.heap.size, 0, none⟩) 0 0, .bool false])) (w5.alloc (.cells #[] 52))) := hide ⟨_, _, [], false, rfl, fread_no HST.out h1, World.ownsRow_lit w5 #[] 0 (by omega) (Nat.zero_le _) rfl, BW.out.alloc (by omega) _⟩
          clear h1 O5 BW
          go_wp2
          exact bodyPost_ret (v := .tuple #[.slice (some ⟨w5.heap.size, 0, none⟩) 0 0, .bool false]) (by simp [results, Tryd.results15, go_sem]) rfl F.out

end Go.Proofs.YtgedlpdjnnbolaaDoor
