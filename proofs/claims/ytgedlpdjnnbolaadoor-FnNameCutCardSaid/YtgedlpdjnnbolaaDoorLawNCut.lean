/-
  WALKS: the law NameCut.
-/
import Derived.Test.YtgedlpdjnnbolaaDoorLawNBack
import Derived.OpenShut
namespace Go.Proofs.YtgedlpdjnnbolaaDoor
set_option linter.unusedVariables false
open Go.RowKit

theorem S_take (T : List UInt8) (k : Nat) : (S T).extract 0 k = S (T.take k) := by
  apply ByteArray.ext
  simp [S]
theorem S_comma (T : List UInt8) : S T ++ ⟨#[44]⟩ = S (T ++ [44]) := S_append T [44]
theorem read_odd {w w' : World} {T : List UInt8} {e : Ending} (h : ReadN w T e w') (hT : ∀ k, T.length + 1 ≠ 4 * k) : ∃ (A : Option Addr) (c : Nat), e = .returned (.tuple #[.slice A 0 c, .bool false]) ∧ Below w.heap.size w w' := by
  obtain ⟨A, c, z, ok, rfl, hr, o, b⟩ := h
  rw [PT.nameRead_not hT] at hr
  obtain ⟨hr1, hr2⟩ := Prod.mk.inj hr
  subst hr1 hr2
  exact ⟨A, c, rfl, b⟩

set_option maxRecDepth 100000 in
set_option maxHeartbeats 6400000 in
theorem fnNameCut_walk (w : World) (m : Int) (hm : w.cell? ⟨0, 0, none⟩ = some (.int .i64 m)) (a0 : Option Addr) (len0 cap0 : Nat) (z0 : List Int) (hz0 : z0.length = len0) (rd0 : Rd w w.heap.size 1 a0 len0 (z0.map (Value.int .u8))) (wf0 : ∀ z ∈ z0, (Lit.int .u8 z).wf = true) (lc0 : len0 ≤ cap0) (cm0 : cap0 ≤ maxLen) :
    Calls Tryd.prog 4 #[.slice a0 len0 cap0] w fun e w' => e = .returned (.bool true) ∧ Below w.heap.size w w' := by
  have h0w : 0 < w.heap.size := World.block_lt_of_cell? _ _ hm
  have HM := hide hm
  have DRAW := hide (drawNameText_any a0 len0 cap0 z0 w hz0 rd0 (bytes_ofD wf0) lc0 cm0)
  clear rd0 wf0 hz0 hm
  unfold maxLen at cm0
  by_cases hl0 : 1048576 < len0
  · clear DRAW
    go_enter Tryd.func4, Tryd.ntmps4
    go_wp2
    go_ret
    exact ⟨rfl, Below.refl _ _⟩
  go_enter Tryd.func4, Tryd.ntmps4
  have BW := hide (Below.refl w.heap.size w)
  have C1 := DRAW
  clear DRAW
  go_wp2_with fail
  refine C1.out.mono ?_
  rintro e w1 ⟨A1, d1, l, rfl, hll, hsm, of, b⟩
  have s1 := b.size
  replace BW := hide (below_keep BW.out b)
  have DB := hide (OwB.of of b.size)
  clear b C1
  clear of hsm
  have C2 := hide (implNameText A1 _ d1 l _ w1 rfl DB.out.rd (by omega) DB.out.top)
  go_wp2_with fail
  refine C2.out.mono ?_
  rintro e w2 ⟨rfl, b⟩
  have s2 := b.size
  replace BW := hide (below_keep BW.out b)
  replace DB := hide (DB.out.keep b)
  clear b C2
  have C3 := hide (specNameText A1 _ d1 l _ w2 rfl DB.out.rd (by omega) DB.out.top)
  go_wp2_with fail
  refine C3.out.mono ?_
  rintro e w3 ⟨rfl, b⟩
  have s3 := b.size
  replace BW := hide (below_keep BW.out b)
  replace DB := hide (DB.out.keep b)
  clear b C3
  have CS := hide (fun (W : World) (h : Rd W W.heap.size 2 A1 l.length (tgs l)) => specNameText A1 _ d1 l _ W rfl h (by omega) (Nat.le_refl _))
  cases hb : PT.nameB l
  · have HT := hide (PT.nameText_no hb)
    clear hb
    generalize PT.nameText l = T at HT CS
    obtain ⟨y1, y2⟩ := S_empty T HT.out
    have y0 : ((S T).toList == (S T).toList) = true := beq_self_eq_true _
    have CC := hide (CS.out w3 (DB.out.rd.more DB.out.top))
    clear HT CS
    go_wp2_with fail
    refine CC.out.mono ?_
    rintro e w9 ⟨rfl, b⟩
    replace BW := hide (below_keep BW.out b)
    clear b CC DB
    go_wp2
    go_ret
    exact ⟨ret_bool (by simp), BW.out⟩
  · clear CS
    have HT := hide ((congrArg List.length (PT.nameText_yes hb)).trans (Nat.eq_sub_of_add_eq (PT.nameText_length hb)))
    have HN : Hid (PT.nameText l ≠ []) := hide (by rw [PT.nameText_yes hb]; exact PT.nameText_ne hb)
    have HT4 : Hid (2 ≤ l.length → PT.nameRead ((PT.nameText l).take (4 * l.length - 1 - 4)) = (l.take (l.length - 1), true)) := hide (fun h2 => by
      rw [← HT.out, PT.nameText_yes hb, PT.text_take hb h2]
      exact PT.nameRead_back (PT.name_take hb h2))
    obtain ⟨hl1', hl3⟩ : 1 ≤ l.length ∧ l.length ≤ 3 := (PT.nameB_iff.1 hb).2.2
    clear hb
    generalize PT.nameText l = T at HT HN HT4
    obtain ⟨y1, y2⟩ := S_full T HN.out
    have y0 : ((S T).toList == (S T).toList) = true := beq_self_eq_true _
    have zT : (S T).size = 4 * l.length - 1 := by rw [S_size]; exact HT.out
    have hTl : T.length ≤ 1000 := by have := HT.out; omega
    have NO1 : Hid (∀ k, (T.take (4 * l.length - 1 - 1)).length + 1 ≠ 4 * k) := hide (fun k => by rw [List.length_take, HT.out]; omega)
    have NO2 : Hid (∀ k, (T ++ [44]).length + 1 ≠ 4 * k) := hide (fun k => by rw [List.length_append, HT.out]; simp only [List.length_singleton]; omega)
    clear HN
    have C4 := hide (((implNameRead (T.take (4 * l.length - 1 - 1)) m w3 (by rw [List.length_take]; omega) ((BW.out.cell (p := ⟨0, 0, none⟩) h0w).trans HM.out)).mono fun e w' h => read_odd h NO1.out))
    rw [← S_take] at C4
    go_wp2_with fail
    refine C4.out.mono ?_
    rintro e w4 ⟨A4, d4, rfl, b⟩
    have s4 := b.size
    replace BW := hide (below_keep BW.out b)
    replace DB := hide (DB.out.keep b)
    clear b C4
    have C5 := hide (((implNameRead (T ++ [44]) m w4 (by have := HT.out; simp only [List.length_append, List.length_singleton]; omega) ((BW.out.cell (p := ⟨0, 0, none⟩) h0w).trans HM.out)).mono fun e w' h => read_odd h NO2.out))
    rw [← S_comma] at C5
    go_wp2_with fail
    refine C5.out.mono ?_
    rintro e w5 ⟨A5, d5, rfl, b⟩
    have s5 := b.size
    replace BW := hide (below_keep BW.out b)
    replace DB := hide (DB.out.keep b)
    clear b C5
    clear NO1 NO2
    by_cases h1 : l.length = 1
    · have q1 : ((l.length : Int) == 1) = true := by rw [h1]; rfl
      clear HT HT4 DB
      go_wp2
      go_ret
      exact ⟨rfl, BW.out⟩
    · have q1 : ((l.length : Int) == 1) = false := beq_eq_false_iff_ne.2 (by omega)
      have HRD := hide (HT4.out (by omega))
      have hd1 : l.length ≤ d1 := by
        obtain ⟨A, c, e, h⟩ := own_shape DB.out.own
        injection e with _ _ e
        omega
      have HLT : Hid ((l.take (l.length - 1)).length = l.length - 1) := hide (by rw [List.length_take]; omega)
      clear HT4
      have C6 := hide (implNameRead (T.take (4 * l.length - 1 - 4)) m w5 (by rw [List.length_take]; omega) ((BW.out.cell (p := ⟨0, 0, none⟩) h0w).trans HM.out))
      rw [← S_take] at C6
      go_wp2_with fail
      refine C6.out.mono ?_
      rintro e w6 ⟨A6, d6, z6, ok6, rfl, hr, o6, b⟩
      have s6 := b.size
      replace BW := hide (below_keep BW.out b)
      replace DB := hide (DB.out.keep b)
      rw [HRD.out] at hr
      obtain ⟨hr1, hr2⟩ := Prod.mk.inj hr
      subst hr2
      subst hr1
      rw [HLT.out] at o6 ⊢
      have X6 := hide (OwB.of o6 b.size)
      clear b o6 hr C6 HRD HT
      have C7 := hide (lyName_same A6 A1 _ d6 d1 (l.take (l.length - 1)) _ _ w6 HLT.out X6.out.rd (DB.out.rd.take_tg rfl (by omega)) (by omega) X6.out.top DB.out.top)
      go_wp2_with fail
      refine C7.out.mono ?_
      rintro e w7 ⟨rfl, b⟩
      have s7 := b.size
      replace BW := hide (below_keep BW.out b)
      replace DB := hide (DB.out.keep b)
      replace X6 := hide (X6.out.keep b)
      clear b C7
      clear X6 DB
      go_wp2
      go_ret
      exact ⟨rfl, BW.out⟩

end Go.Proofs.YtgedlpdjnnbolaaDoor
