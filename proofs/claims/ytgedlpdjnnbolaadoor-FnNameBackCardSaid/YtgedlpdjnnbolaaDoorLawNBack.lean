/-
  WALKS: the law NameBack.
-/
import Derived.Test.YtgedlpdjnnbolaaDoorNRead
import Derived.Test.YtgedlpdjnnbolaaDoorLyT
import Derived.Test.YtgedlpdjnnbolaaDoorDrawText
import Derived.OpenShut
namespace Go.Proofs.YtgedlpdjnnbolaaDoor
set_option linter.unusedVariables false
open Go.RowKit

theorem bytes_ofD {zs : List Int} (h : ∀ z ∈ zs, (Lit.int .u8 z).wf = true) : ByteL zs := fun z hz => bounds_u8 (h z hz)

set_option maxRecDepth 100000 in
set_option maxHeartbeats 6400000 in
theorem fnNameBack_walk (w : World) (m : Int) (hm : w.cell? ⟨0, 0, none⟩ = some (.int .i64 m)) (a0 : Option Addr) (len0 cap0 : Nat) (z0 : List Int) (hz0 : z0.length = len0) (rd0 : Rd w w.heap.size 1 a0 len0 (z0.map (Value.int .u8))) (wf0 : ∀ z ∈ z0, (Lit.int .u8 z).wf = true) (lc0 : len0 ≤ cap0) (cm0 : cap0 ≤ maxLen) :
    Calls Tryd.prog 3 #[.slice a0 len0 cap0] w fun e w' => e = .returned (.bool true) ∧ Below w.heap.size w w' := by
  have h0w : 0 < w.heap.size := World.block_lt_of_cell? _ _ hm
  have HM := hide hm
  have DRAW := hide (drawNameText_any a0 len0 cap0 z0 w hz0 rd0 (bytes_ofD wf0) lc0 cm0)
  clear rd0 wf0 hz0 hm
  unfold maxLen at cm0
  by_cases hl0 : 1048576 < len0
  · clear DRAW
    go_enter Tryd.func3, Tryd.ntmps3
    go_wp2
    go_ret
    exact ⟨rfl, Below.refl _ _⟩
  go_enter Tryd.func3, Tryd.ntmps3
  have BW := hide (Below.refl w.heap.size w)
  have C1 := DRAW
  clear DRAW
  go_wp2_with fail
  refine C1.out.mono ?_
  rintro e w1 ⟨A1, d1, l, rfl, hll, hsm, of, b⟩
  have s1 := b.size
  replace BW := hide (below_keep BW.out b)
  have DB := hide (OwB.of of b.size)
  clear b C1
  clear of hsm
  have C2 := hide (implNameText A1 _ d1 l _ w1 rfl DB.out.rd (by omega) DB.out.top)
  go_wp2_with fail
  refine C2.out.mono ?_
  rintro e w2 ⟨rfl, b⟩
  have s2 := b.size
  replace BW := hide (below_keep BW.out b)
  replace DB := hide (DB.out.keep b)
  clear b C2
  have C3 := hide (specNameText A1 _ d1 l _ w2 rfl DB.out.rd (by omega) DB.out.top)
  go_wp2_with fail
  refine C3.out.mono ?_
  rintro e w3 ⟨rfl, b⟩
  have s3 := b.size
  replace BW := hide (below_keep BW.out b)
  replace DB := hide (DB.out.keep b)
  clear b C3
  have CS := hide (fun (W : World) (h : Rd W W.heap.size 2 A1 l.length (tgs l)) => specNameText A1 _ d1 l _ W rfl h (by omega) (Nat.le_refl _))
  cases hb : PT.nameB l
  · have HT := hide (PT.nameText_no hb)
    clear hb
    generalize PT.nameText l = T at HT CS
    obtain ⟨y1, y2⟩ := S_empty T HT.out
    have y0 : ((S T).toList == (S T).toList) = true := beq_self_eq_true _
    have CC := hide (CS.out w3 (DB.out.rd.more DB.out.top))
    clear HT CS
    go_wp2_with fail
    refine CC.out.mono ?_
    rintro e w9 ⟨rfl, b⟩
    replace BW := hide (below_keep BW.out b)
    clear b CC DB
    go_wp2
    go_ret
    exact ⟨ret_bool (by simp), BW.out⟩
  · clear CS
    have HB := hide hb
    have HT := hide ((congrArg List.length (PT.nameText_yes hb)).trans (Nat.eq_sub_of_add_eq (PT.nameText_length hb)))
    have HN : Hid (PT.nameText l ≠ []) := hide (by rw [PT.nameText_yes hb]; exact PT.nameText_ne hb)
    have HRD : Hid (PT.nameRead (PT.nameText l) = (l, true)) := hide (by rw [PT.nameText_yes hb]; exact PT.nameRead_back hb)
    obtain ⟨hl1', hl3⟩ : 1 ≤ l.length ∧ l.length ≤ 3 := (PT.nameB_iff.1 hb).2.2
    clear hb
    generalize PT.nameText l = T at HT HN HRD
    obtain ⟨y1, y2⟩ := S_full T HN.out
    have y0 : ((S T).toList == (S T).toList) = true := beq_self_eq_true _
    have zT : (S T).size = 4 * l.length - 1 := by rw [S_size]; exact HT.out
    have hTl : T.length ≤ 1000 := by have := HT.out; omega
    have C4 := hide (implNameRead T m w3 hTl ((BW.out.cell (p := ⟨0, 0, none⟩) h0w).trans HM.out))
    go_wp2_with fail
    refine C4.out.mono ?_
    rintro e w4 ⟨A4, d4, z4, ok4, rfl, hr, o4, b⟩
    have s4 := b.size
    replace BW := hide (below_keep BW.out b)
    replace DB := hide (DB.out.keep b)
    have X4 := hide (OwB.of o4 b.size)
    clear b C4
    clear o4
    rw [HRD.out] at hr
    obtain ⟨hr1, hr2⟩ := Prod.mk.inj hr
    subst hr2
    subst hr1
    clear hr HRD HN
    have C5 := hide (lyName_same A4 A1 _ d4 d1 l _ _ w4 rfl X4.out.rd DB.out.rd (by omega) X4.out.top DB.out.top)
    go_wp2_with fail
    refine C5.out.mono ?_
    rintro e w5 ⟨rfl, b⟩
    have s5 := b.size
    replace BW := hide (below_keep BW.out b)
    replace DB := hide (DB.out.keep b)
    replace X4 := hide (X4.out.keep b)
    clear b C5
    have C6 := hide (implNameOk A1 _ d1 l _ w5 rfl DB.out.rd (by omega) DB.out.top)
    rw [HB.out] at C6
    go_wp2_with fail
    refine C6.out.mono ?_
    rintro e w6 ⟨rfl, b⟩
    have s6 := b.size
    replace BW := hide (below_keep BW.out b)
    replace DB := hide (DB.out.keep b)
    replace X4 := hide (X4.out.keep b)
    clear b C6
    clear X4 DB
    have q1 : (((4 * l.length - 1 : Nat) : Int) == 4 * (l.length : Int) - 1) = true := beq_iff_eq.2 (by omega)
    go_wp2
    go_ret
    exact ⟨ret_bool (by simp [*]), BW.out⟩

end Go.Proofs.YtgedlpdjnnbolaaDoor
