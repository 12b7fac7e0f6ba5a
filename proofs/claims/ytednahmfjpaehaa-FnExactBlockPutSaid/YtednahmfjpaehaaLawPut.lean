/-
  WALKS: the exact law of BlockPut.
-/
import Derived.Test.YtednahmfjpaehaaMark
import Derived.Test.YtednahmfjpaehaaBlockPut
import Derived.Deep.RegionWith
import Derived.Deep.Cut
import Derived.Deep.CutRange
namespace Go.Proofs.Ytednahmfjpaehaa
set_option linter.unusedVariables false
open Go.RowKit

theorem calls_putE {P : Program} {f : FuncId} {args : Array Value} {w : World} {p : List PB.Row × Bool} {L : List PB.Row} {K : Bool} (h : Calls P f args w (RowLB w p)) (hp : p = (L, K)) :
    Calls P f args w fun e w' => ∃ A c, e = .returned (.tuple #[.slice A L.length c, .bool K]) ∧ w'.ownsRow w.heap.size 30 2 (.slice A L.length c) L.length (rows L) ∧ Below w.heap.size w w' := by
  subst hp; exact h
section
variable {W : World} {B len0 cap0 g : Nat} {a0 : Option Addr} {z0 L : List PB.Row} {t v : Int} {K : Bool}
theorem region_rows (R0 : RdB W B 2 a0 len0 (rows z0)) (hz : z0.length = len0) (hn : len0 ≤ 4000000) (V : Cells W g 24 [.int .i64 t, .int .i64 v]) (wr : World) (hb : Below W.heap.size W wr) :
    Calls Try.prog 14 #[.slice a0 len0 cap0] wr fun e w' => ∃ A c, e = .returned (.slice A z0.length c) ∧ OwB w' W.heap.size w'.heap.size 30 2 A z0.length c (rows z0) ∧ Below W.heap.size W w' ∧ Below wr.heap.size wr w' ∧ w'.cell? ⟨g, 0, none⟩ = some (.int .i64 t) ∧ w'.cell? ⟨g, 1, none⟩ = some (.int .i64 v) := by
  have R1 := R0.keep hb
  refine (toRowS_any a0 len0 cap0 z0 _ wr hz R1.rd hn R1.le).mono ?_
  rintro e w' ⟨A, c, rfl, o, b⟩
  have b2 := below_keep hb b
  have V2 := V.block (b2.block _ V.lt)
  exact ⟨A, c, rfl, ⟨own_base o hb.size, fun g hg => (o.lt g hg).2, b2.size, Nat.le_refl _⟩, b2, b, (cellV V2).1, (cellV V2).2⟩
theorem region_row (V : Cells W g 24 [.int .i64 t, .int .i64 v]) (wr : World) (hb : Below W.heap.size W wr) :
    Calls Try.prog 15 #[.agg #[.int .i64 t, .int .i64 v]] wr fun e w' => e = .returned (.agg #[.int .i64 t, .int .i64 v]) ∧ Below W.heap.size W w' ∧ Below wr.heap.size wr w' ∧ w'.cell? ⟨g, 0, none⟩ = some (.int .i64 t) ∧ w'.cell? ⟨g, 1, none⟩ = some (.int .i64 v) := by
  refine (toRow_any t v wr).mono ?_
  rintro e w' ⟨rfl, b⟩
  have b2 := below_keep hb b
  have V2 := V.block (b2.block _ V.lt)
  exact ⟨rfl, b2, b, (cellV V2).1, (cellV V2).2⟩
theorem region_put_spec (hn : z0.length ≤ 2000000) (hp : putO z0 (t, v) = (L, K)) (wr : World) (A : Option Addr) (c hi : Nat) (hb : Below W.heap.size W wr) (o : OwB wr W.heap.size hi 30 2 A z0.length c (rows z0)) :
    Calls Try.prog 13 #[.slice A z0.length c, .agg #[.int .i64 t, .int .i64 v]] wr fun e w' => ∃ A' c', e = .returned (.tuple #[.slice A' L.length c', .bool K]) ∧ OwB w' W.heap.size w'.heap.size 30 2 A' L.length c' (rows L) ∧ Below W.heap.size W w' := by
  refine (calls_putE (specBlockPut A _ c z0 t v _ wr rfl o.rd hn o.top) hp).mono ?_
  rintro e w' ⟨A', c', rfl, o', b⟩
  exact ⟨A', c', rfl, ⟨own_base o' hb.size, fun g hg => (o'.lt g hg).2, (below_keep hb b).size, Nat.le_refl _⟩, below_keep hb b⟩
theorem region_put_impl (hn : z0.length ≤ 2000000) (hp : putO z0 (t, v) = (L, K)) (wr : World) (A : Option Addr) (c hi : Nat) (hb : Below W.heap.size W wr) (o : OwB wr W.heap.size hi 30 2 A z0.length c (rows z0)) :
    Calls Try.prog 16 #[.slice A z0.length c, .agg #[.int .i64 t, .int .i64 v]] wr fun e w' => ∃ A' c', e = .returned (.tuple #[.slice A' L.length c', .bool K]) ∧ OwB w' W.heap.size w'.heap.size 30 2 A' L.length c' (rows L) ∧ Below W.heap.size W w' := by
  refine (calls_putE (implBlockPut A _ c z0 t v _ wr rfl o.rd hn o.top) hp).mono ?_
  rintro e w' ⟨A', c', rfl, o', b⟩
  exact ⟨A', c', rfl, ⟨own_base o' hb.size, fun g hg => (o'.lt g hg).2, (below_keep hb b).size, Nat.le_refl _⟩, below_keep hb b⟩
end

set_option maxRecDepth 100000 in
set_option maxHeartbeats 6400000 in
theorem fnExactBlockPut_walk (w : World) (a0 : Option Addr) (len0 cap0 : Nat) (z0 : List PB.Row) (hz0 : z0.length = len0) (rd0 : Rd w w.heap.size 2 a0 len0 (rows z0)) (lc0 : len0 ≤ cap0) (cm0 : cap0 ≤ maxLen) (t v : Int) (ht : (Lit.int .i64 t).wf = true) (hv : (Lit.int .i64 v).wf = true) :
    Calls Try.prog 3 #[.slice a0 len0 cap0, .agg #[.int .i64 t, .int .i64 v]] w fun e w' => e = .returned (.bool true) ∧ Below w.heap.size w w' := by
  have HZ := hide hz0
  have HR := hide rd0
  clear rd0 hz0 ht hv
  unfold maxLen at cm0
  by_cases hl : 1048576 < len0
  · have c0 := hide (szRowS_not a0 len0 cap0 1048576 (w.alloc (.cells #[.int .i64 t, .int .i64 v] 24)) (by omega) (by omega) (by omega))
    go_enter Try.func3, Try.ntmps3
    go_wp2_with fail
    refine c0.out.mono ?_
    rintro e w' ⟨rfl, rfl⟩
    go_wp2
    go_ret
    exact ⟨rfl, (Below.refl _ _).alloc (Nat.le_refl _) _⟩
  · have c0 := hide (szRowS_fits a0 len0 cap0 1048576 (w.alloc (.cells #[.int .i64 t, .int .i64 v] 24)) (by omega) (by omega))
    have hnn : ¬ ((1048576 : Int) - (len0 : Int) < 0) := by omega
    have hlz : z0.length ≤ 1048576 := by rw [HZ.out]; omega
    obtain ⟨L, K, hP⟩ : ∃ L K, putO z0 (t, v) = (L, K) := ⟨_, _, rfl⟩
    have hLL : L.length ≤ 1048600 := by have := putO_len z0 (t, v) 1048576 hlz; rw [hP] at this; exact this
    have HP := hide hP
    clear hP
    go_enter Try.func3, Try.ntmps3
    go_wp2_with fail
    refine c0.out.mono ?_
    rintro e w' ⟨rfl, rfl⟩
    clear c0
    have BW := hide (((Below.refl _ _).alloc (Nat.le_refl _) (.cells #[.int .i64 t, .int .i64 v] 24) : Below w.heap.size w (w.alloc (.cells #[.int .i64 t, .int .i64 v] 24))))
    have R0 := hide ((⟨HR.out.alloc (Nat.le_refl _) (.cells #[.int .i64 t, .int .i64 v] 24), by simp⟩ : RdB (w.alloc (.cells #[.int .i64 t, .int .i64 v] 24)) w.heap.size 2 a0 len0 (rows z0)))
    have V := hide ((Cells.new w #[.int .i64 t, .int .i64 v] 24 : Cells (w.alloc (.cells #[.int .i64 t, .int .i64 v] 24)) w.heap.size 24 [.int .i64 t, .int .i64 v]))
    clear HR
    have s0 : w.heap.size < (w.alloc (.cells #[.int .i64 t, .int .i64 v] 24)).heap.size := by simp
    have HT := hide (region_rows (cap0 := cap0) R0.out HZ.out (by omega) V.out)
    have HO := hide (region_row V.out)
    have HS := hide (region_put_spec (W := (w.alloc (.cells #[.int .i64 t, .int .i64 v] 24))) (by omega) HP.out)
    have Bd : Hid (Below ((w.alloc (.cells #[.int .i64 t, .int .i64 v] 24))).heap.size (w.alloc (.cells #[.int .i64 t, .int .i64 v] 24)) ((w.alloc (.cells #[.int .i64 t, .int .i64 v] 24))).drew) := hide ((Below.refl _ _).drew)
    obtain ⟨v0, v1⟩ := cellV V.out
    go_wp2
    go_cut [6, 7] from 21 to 28 (fun s1 s2 wx => ∃ A c, s1 = .slice A L.length c ∧ s2 = .bool K ∧ Hid (OwB wx ((w.alloc (.cells #[.int .i64 t, .int .i64 v] 24))).heap.size wx.heap.size 30 2 A L.length c (rows L)) ∧ Hid (Below ((w.alloc (.cells #[.int .i64 t, .int .i64 v] 24))).heap.size (w.alloc (.cells #[.int .i64 t, .int .i64 v] 24)) wx))
    case first =>
      go_region_with (first
        | (go_at_call 14; refine (HT.out _ (by first | exact Bd.out | exact bR)).mono ?_; rintro e wT ⟨A, c, rfl, oT, bT, kT, vT0, vT1⟩)
        | (go_at_call 15; refine (HO.out _ (by first | exact bT | exact Bd.out)).mono ?_; rintro e wR ⟨rfl, bR, kR, vR0, vR1⟩; try have oT2 := oT.keep kR)
        | (go_at_call 13; refine (HS.out _ _ _ _ (by first | exact bR | exact bT) (by first | exact oT2 | exact oT)).mono ?_; rintro e wS ⟨A', c', rfl, oS, bS⟩))
      all_goals (simp [Act.put]; go_wp2_with fail; go_meet)
      all_goals exact ⟨A', c', rfl, rfl, hide oS, hide bS⟩
    case rest =>
      obtain ⟨w1, hW1⟩ : ∃ W1, W1 = wc := ⟨_, rfl⟩
      subst hW1
      obtain ⟨A1, d1, rfl, rfl, oS, bS⟩ := hcut
      have b := bS.out
      clear HT HO HS Bd v0 v1
      have s1 := b.size
      replace BW := hide (below_keep BW.out b)
      replace R0 := hide (R0.out.keep b)
      replace V := hide (V.out.block (b.block _ V.out.lt))
      have WT := hide (oS.out)
      clear b oS bS
      have C2 := hide (toRowS_any a0 len0 cap0 z0 _ w1 HZ.out R0.out.rd (by omega) R0.out.le)
      go_wp2_with fail
      refine C2.out.mono ?_
      rintro e w2 ⟨A2, d2, rfl, o, b⟩
      have s2 := b.size
      replace BW := hide (below_keep BW.out b)
      replace R0 := hide (R0.out.keep b)
      replace V := hide (V.out.block (b.block _ V.out.lt))
      replace WT := hide (WT.out.keep b)
      have X0 := hide (OwB.of o b.size)
      clear b C2
      clear o
      obtain ⟨v0, v1⟩ := cellV V.out
      have C3 := hide (toRow_any t v w2)
      go_wp2_with fail
      refine C3.out.mono ?_
      rintro e w3 ⟨rfl, b⟩
      have s3 := b.size
      replace BW := hide (below_keep BW.out b)
      replace R0 := hide (R0.out.keep b)
      replace V := hide (V.out.block (b.block _ V.out.lt))
      replace WT := hide (WT.out.keep b)
      replace X0 := hide (X0.out.keep b)
      clear b C3
      clear v0 v1
      have C4 := hide (calls_putE (implBlockPut A2 _ d2 z0 t v _ w3 rfl X0.out.rd (by omega) X0.out.top) HP.out)
      go_wp2_with fail
      refine C4.out.mono ?_
      rintro e w4 ⟨A4, d4, rfl, o, b⟩
      have s4 := b.size
      replace BW := hide (below_keep BW.out b)
      replace R0 := hide (R0.out.keep b)
      replace V := hide (V.out.block (b.block _ V.out.lt))
      replace WT := hide (WT.out.keep b)
      replace X0 := hide (X0.out.keep b)
      have GT := hide (OwB.of o b.size)
      clear b C4
      clear o
      have C5 := hide (eqRowS_any A4 A1 _ _ d4 d1 L L _ _ w4 rfl rfl GT.out.rd WT.out.rd (by omega) (by omega) GT.out.top WT.out.top)
      rw [decide_eq_true rfl] at C5
      go_wp2_with fail
      refine C5.out.mono ?_
      rintro e w5 ⟨rfl, b⟩
      have s5 := b.size
      replace BW := hide (below_keep BW.out b)
      replace R0 := hide (R0.out.keep b)
      replace V := hide (V.out.block (b.block _ V.out.lt))
      replace WT := hide (WT.out.keep b)
      replace X0 := hide (X0.out.keep b)
      replace GT := hide (GT.out.keep b)
      clear b C5
      have C6 := hide (toRowS_any a0 len0 cap0 z0 _ w5 HZ.out R0.out.rd (by omega) R0.out.le)
      go_wp2_with fail
      refine C6.out.mono ?_
      rintro e w6 ⟨A6, d6, rfl, o, b⟩
      have s6 := b.size
      replace BW := hide (below_keep BW.out b)
      replace R0 := hide (R0.out.keep b)
      replace V := hide (V.out.block (b.block _ V.out.lt))
      replace WT := hide (WT.out.keep b)
      replace X0 := hide (X0.out.keep b)
      replace GT := hide (GT.out.keep b)
      have XC := hide (OwB.of o b.size)
      clear b C6
      clear o
      have C7 := hide (eqRowS_any A2 A6 _ _ d2 d6 z0 z0 _ _ w6 rfl rfl X0.out.rd XC.out.rd (by omega) (by omega) X0.out.top XC.out.top)
      rw [decide_eq_true rfl] at C7
      go_wp2_with fail
      refine C7.out.mono ?_
      rintro e w7 ⟨rfl, b⟩
      have s7 := b.size
      replace BW := hide (below_keep BW.out b)
      replace R0 := hide (R0.out.keep b)
      replace V := hide (V.out.block (b.block _ V.out.lt))
      replace WT := hide (WT.out.keep b)
      replace X0 := hide (X0.out.keep b)
      replace GT := hide (GT.out.keep b)
      replace XC := hide (XC.out.keep b)
      clear b C7
      clear XC
      have C8 := hide (markRowS_any A2 z0.length d2 _ _ z0 1 w7 rfl X0.out (by omega) (by omega))
      go_wp2_with fail
      refine C8.out.mono ?_
      rintro e w8 ⟨rfl, _, t⟩
      have s8 := t.size
      replace BW := hide (below_touch BW.out t (by omega) (by omega))
      replace R0 := hide (R0.out.touch t (by omega))
      replace V := hide (V.out.block (t.block _ V.out.lt (.inl (by omega))))
      replace WT := hide (WT.out.touch t (by omega))
      replace GT := hide (GT.out.touch t (by omega))
      clear t C8
      clear X0
      have C9 := hide (eqRowS_any A4 A1 _ _ d4 d1 L L _ _ w8 rfl rfl GT.out.rd WT.out.rd (by omega) (by omega) GT.out.top WT.out.top)
      rw [decide_eq_true rfl] at C9
      go_wp2_with fail
      refine C9.out.mono ?_
      rintro e w9 ⟨rfl, b⟩
      have s9 := b.size
      replace BW := hide (below_keep BW.out b)
      replace R0 := hide (R0.out.keep b)
      replace V := hide (V.out.block (b.block _ V.out.lt))
      replace WT := hide (WT.out.keep b)
      replace GT := hide (GT.out.keep b)
      clear b C9
      have C10 := hide (markRowS_any A4 L.length d4 _ _ L 1 w9 rfl GT.out (by omega) (by omega))
      go_wp2_with fail
      refine C10.out.mono ?_
      rintro e w10 ⟨rfl, o, t⟩
      have s10 := t.size
      replace BW := hide (below_touch BW.out t (by omega) (by omega))
      replace R0 := hide (R0.out.touch t (by omega))
      replace V := hide (V.out.block (t.block _ V.out.lt (.inl (by omega))))
      replace WT := hide (WT.out.touch t (by omega))
      have G2 := hide (o)
      clear t C10
      clear o GT
      have C11 := hide (heldRowS_any A4 L.length d4 _ _ 1 w10 G2.out (by omega) (by omega))
      go_wp2_with fail
      refine C11.out.mono ?_
      rintro e w11 ⟨rfl, rfl⟩
      clear C11
      have HT := hide (region_rows (cap0 := cap0) R0.out HZ.out (by omega) V.out)
      have HO := hide (region_row V.out)
      have HS := hide (region_put_impl (W := w10) (by omega) HP.out)
      have Bd : Hid (Below (w10).heap.size w10 (w10).drew) := hide ((Below.refl _ _).drew)
      obtain ⟨v0, v1⟩ := cellV V.out
      go_wp2
      go_cut [14, 15] from 79 to 86 (fun s1 s2 wx => ∃ A c, s1 = .slice A L.length c ∧ s2 = .bool K ∧ Hid (OwB wx (w10).heap.size wx.heap.size 30 2 A L.length c (rows L)) ∧ Hid (Below (w10).heap.size w10 wx))
      case first =>
        go_region_with (first
          | (go_at_call 14; refine (HT.out _ (by first | exact Bd.out | exact bR)).mono ?_; rintro e wT ⟨A, c, rfl, oT, bT, kT, vT0, vT1⟩)
          | (go_at_call 15; refine (HO.out _ (by first | exact bT | exact Bd.out)).mono ?_; rintro e wR ⟨rfl, bR, kR, vR0, vR1⟩; try have oT2 := oT.keep kR)
          | (go_at_call 16; refine (HS.out _ _ _ _ (by first | exact bR | exact bT) (by first | exact oT2 | exact oT)).mono ?_; rintro e wS ⟨A', c', rfl, oS, bS⟩))
        all_goals (simp [Act.put]; go_wp2_with fail; go_meet)
        all_goals exact ⟨A', c', rfl, rfl, hide oS, hide bS⟩
      case rest =>
        obtain ⟨w12, hW1⟩ : ∃ W1, W1 = wc := ⟨_, rfl⟩
        subst hW1
        obtain ⟨A12, d12, rfl, rfl, oS, bS⟩ := hcut
        have b := bS.out
        clear HT HO HS Bd v0 v1
        have s12 := b.size
        replace BW := hide (below_keep BW.out b)
        replace R0 := hide (R0.out.keep b)
        replace V := hide (V.out.block (b.block _ V.out.lt))
        replace WT := hide (WT.out.keep b)
        replace G2 := hide (G2.out.keep b)
        have GG := hide (oS.out)
        clear b oS bS
        have C13 := hide (eqRowS_any A12 A1 _ _ d12 d1 L L _ _ w12 rfl rfl GG.out.rd WT.out.rd (by omega) (by omega) GG.out.top WT.out.top)
        rw [decide_eq_true rfl] at C13
        go_wp2_with fail
        refine C13.out.mono ?_
        rintro e w13 ⟨rfl, b⟩
        have s13 := b.size
        replace BW := hide (below_keep BW.out b)
        replace R0 := hide (R0.out.keep b)
        replace V := hide (V.out.block (b.block _ V.out.lt))
        replace WT := hide (WT.out.keep b)
        replace G2 := hide (G2.out.keep b)
        replace GG := hide (GG.out.keep b)
        clear b C13
        clear GG
        have C14 := hide (heldRowS_any A4 L.length d4 _ _ 1 w13 G2.out (by omega) (by omega))
        go_wp2_with fail
        refine C14.out.mono ?_
        rintro e w14 ⟨rfl, rfl⟩
        clear C14
        go_wp2
        go_ret
        exact ⟨rfl, BW.out⟩

end Go.Proofs.Ytednahmfjpaehaa
