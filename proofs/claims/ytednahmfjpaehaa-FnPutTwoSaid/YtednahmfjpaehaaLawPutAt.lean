/-
  WALKS: laws of BlockPut: PutAt, PutTwo.
-/
import Derived.Test.YtednahmfjpaehaaDrawPut
import Derived.Test.YtednahmfjpaehaaLawMerge2
import Derived.Test.YtednahmfjpaehaaLy
namespace Go.Proofs.Ytednahmfjpaehaa
set_option linter.unusedVariables false
open Go.RowKit

theorem putO_true {l L : List PB.Row} {r : PB.Row} (h : putO l r = (L, true)) : PB.blockB l = true ∧ PB.rowB r = true ∧ L = PB.putR r l ∧ L.length ≤ 24 ∧ PB.blockB L = true := by
  unfold putO at h
  split at h
  · rename_i hab
    rw [Bool.and_eq_true] at hab
    split at h
    · rename_i hlen
      injection h with h1 h2
      subst h1
      exact ⟨hab.1, hab.2, rfl, hlen, by rw [PB.block_put hab.1 hab.2]; exact decide_eq_true hlen⟩
    · injection h with h1 h2; cases h2
  · injection h with h1 h2; cases h2
theorem putO_false {l L : List PB.Row} {t v : Int} (hl : PB.blockB l = true) (h : putO l (t, v) = (L, false)) : (t < 0 ∨ 99 < t ∨ v < -99 ∨ 99 < v) ∨ (PB.look l t = none ∧ l.length = 24 ∧ L = l) := by
  have hb := PB.blockB_iff.1 hl
  cases hr : PB.rowB (t, v)
  · refine .inl ?_
    have : ¬ ((0 ≤ t ∧ t ≤ 99) ∧ -99 ≤ v ∧ v ≤ 99) := fun hh => by
      have := PB.rowB_iff.2 (show ((0 ≤ (t, v).1 ∧ (t, v).1 ≤ 99) ∧ -99 ≤ (t, v).2 ∧ (t, v).2 ≤ 99) from hh)
      rw [hr] at this; cases this
    omega
  · by_cases hlen : (PB.putR (t, v) l).length ≤ 24
    · rw [putO_yes hl hr hlen] at h; injection h with h1 h2; cases h2
    · refine .inr ?_
      rw [putO_big hl hr hlen] at h
      injection h with h1 h2
      have := PB.putR_len (t, v) l hb.2.1
      have h3 := hb.2.2
      cases hk : PB.look l t
      · exact ⟨rfl, by rw [this] at hlen; simp [hk] at hlen; omega, h1.symm⟩
      · rw [this] at hlen; simp [hk] at hlen; omega
theorem putO_small {a L : List PB.Row} {r : PB.Row} {K : Bool} {n : Nat} (h : putO a r = (L, K)) (hn : a.length ≤ n) : L.length ≤ n + 24 := by have := putO_len a r n hn; rw [h] at this; exact this

set_option maxRecDepth 100000 in
set_option maxHeartbeats 6400000 in
theorem fnPutAt_walk (w : World) (a0 : Option Addr) (len0 cap0 : Nat) (z0 : List Int) (hz0 : z0.length = len0) (rd0 : Rd w w.heap.size 1 a0 len0 (z0.map (Value.int .u8))) (wf0 : ∀ z ∈ z0, (Lit.int .u8 z).wf = true) (lc0 : len0 ≤ cap0) (cm0 : cap0 ≤ maxLen) :
    Calls Try.prog 6 #[.slice a0 len0 cap0] w fun e w' => e = .returned (.bool true) ∧ Below w.heap.size w w' := by
  have HD := hide (drawBlockPut_any a0 len0 cap0 z0 w hz0 rd0 (bytes_ofM wf0) lc0 cm0)
  clear rd0 wf0 hz0
  unfold maxLen at cm0
  by_cases hl0 : 1048576 < len0
  · clear HD
    go_enter Try.func6, Try.ntmps6
    go_wp2
    go_ret
    exact ⟨rfl, Below.refl _ _⟩
  go_enter Try.func6, Try.ntmps6
  have BW := hide (Below.refl w.heap.size w)
  have C1 := HD
  go_wp2_with fail
  refine C1.out.mono ?_
  rintro e w1 ⟨l, t, v, P1, q1, rfl, hl, o, b⟩
  have s1 := b.size
  replace BW := hide (below_keep BW.out b)
  have DA := hide ((⟨Rd.of_own o, Nat.le_refl _⟩ : RdB w1 w1.heap.size 2 P1 l.length (rows l)))
  clear b C1
  clear o
  obtain ⟨L, K, hP⟩ : ∃ L K, putO l (t, v) = (L, K) := ⟨_, _, rfl⟩
  have hLL : L.length ≤ 54 := putO_small hP hl
  have HP := hide hP
  clear hP
  replace BW := hide (BW.out.alloc BW.out.size (.cells #[.int .i64 t, .int .i64 v] 30))
  replace DA := hide (DA.out.keep ((Below.refl _ _).alloc (Nat.le_refl _) (.cells #[.int .i64 t, .int .i64 v] 30)))
  have V := hide ((Cells.new w1 #[.int .i64 t, .int .i64 v] 30 : Cells (w1.alloc (.cells #[.int .i64 t, .int .i64 v] 30)) w1.heap.size 30 [.int .i64 t, .int .i64 v]))
  obtain ⟨v0, v1⟩ := cellV V.out
  have C2 := hide (calls_put (specBlockPut P1 _ q1 l t v _ (w1.alloc (.cells #[.int .i64 t, .int .i64 v] 30)) rfl DA.out.rd (by omega) DA.out.le) HP.out)
  go_wp2_with fail
  refine C2.out.mono ?_
  rintro e w2 ⟨A2, d2, rfl, o, b⟩
  have s2 := b.size
  replace BW := hide (below_keep BW.out b)
  replace DA := hide (DA.out.keep b)
  replace V := hide (V.out.block (b.block _ V.out.lt))
  have SP := hide ((OwB.of o b.size).rdB)
  clear b C2
  clear o
  clear v0 v1
  obtain ⟨v0, v1⟩ := cellV V.out
  have C3 := hide (calls_put (implBlockPut P1 _ q1 l t v _ w2 rfl DA.out.rd (by omega) DA.out.le) HP.out)
  go_wp2_with fail
  refine C3.out.mono ?_
  rintro e w3 ⟨A3, d3, rfl, o, b⟩
  have s3 := b.size
  replace BW := hide (below_keep BW.out b)
  replace DA := hide (DA.out.keep b)
  replace V := hide (V.out.block (b.block _ V.out.lt))
  replace SP := hide (SP.out.keep b)
  have GT := hide ((OwB.of o b.size).rdB)
  clear b C3
  clear o
  clear v0 v1
  obtain ⟨v0, v1⟩ := cellV V.out
  have C4 := hide (lyRows_any A3 A2 _ _ d3 d2 L L _ _ w3 rfl rfl GT.out.rd SP.out.rd (by omega) (by omega) GT.out.le SP.out.le)
  rw [decide_eq_true rfl] at C4
  go_wp2_with fail
  refine C4.out.mono ?_
  rintro e w4 ⟨rfl, b⟩
  have s4 := b.size
  replace BW := hide (below_keep BW.out b)
  replace DA := hide (DA.out.keep b)
  replace V := hide (V.out.block (b.block _ V.out.lt))
  replace SP := hide (SP.out.keep b)
  replace GT := hide (GT.out.keep b)
  clear b C4
  clear v0 v1
  obtain ⟨v0, v1⟩ := cellV V.out
  have C5 := hide (specBlockOk P1 _ q1 l _ w4 rfl DA.out.rd (by omega) DA.out.le)
  go_wp2_with fail
  refine C5.out.mono ?_
  rintro e w5 ⟨rfl, b⟩
  have s5 := b.size
  replace BW := hide (below_keep BW.out b)
  replace DA := hide (DA.out.keep b)
  replace V := hide (V.out.block (b.block _ V.out.lt))
  replace SP := hide (SP.out.keep b)
  replace GT := hide (GT.out.keep b)
  clear b C5
  clear v0 v1
  obtain ⟨v0, v1⟩ := cellV V.out
  cases hb : PB.blockB l
  · have C6 := hide (lyRows_any A3 A2 _ _ d3 d2 L L _ _ w5 rfl rfl GT.out.rd SP.out.rd (by omega) (by omega) GT.out.le SP.out.le)
    clear hb
    rw [decide_eq_true rfl] at C6
    go_wp2_with fail
    refine C6.out.mono ?_
    rintro e w6 ⟨rfl, b⟩
    have s6 := b.size
    replace BW := hide (below_keep BW.out b)
    replace DA := hide (DA.out.keep b)
    replace V := hide (V.out.block (b.block _ V.out.lt))
    replace SP := hide (SP.out.keep b)
    replace GT := hide (GT.out.keep b)
    clear b C6
    clear v0 v1
    obtain ⟨v0, v1⟩ := cellV V.out
    go_wp2
    go_ret
    exact ⟨rfl, BW.out⟩
  · have HB := hide hb
    clear hb
    obtain ⟨x, hx⟩ : ∃ x, PB.look l t = x := ⟨_, rfl⟩
    have HX := hide hx
    have C6 := hide (lyAt_any P1 _ q1 l t _ w5 rfl DA.out.rd (by omega))
    rw [hx] at C6
    go_wp2_with fail
    refine C6.out.mono ?_
    rintro e w6 ⟨rfl, rfl⟩
    clear C6
    unfold lookE
    clear hx
    cases K
    · have HF := hide (putO_false HB.out HP.out)
      by_cases c1 : t < 0
      · have dd1 : decide (t < 0) = true := decide_eq_true c1
        go_wp2
        go_ret
        exact ⟨rfl, BW.out⟩
      · have dd1 : decide (t < 0) = false := decide_eq_false c1
        by_cases c2 : 99 < t
        · have dd2 : decide (99 < t) = true := decide_eq_true c2
          go_wp2
          go_ret
          exact ⟨rfl, BW.out⟩
        · have dd2 : decide (99 < t) = false := decide_eq_false c2
          by_cases c3 : v < -99
          · have dd3 : decide (v < -99) = true := decide_eq_true c3
            go_wp2
            go_ret
            exact ⟨rfl, BW.out⟩
          · have dd3 : decide (v < -99) = false := decide_eq_false c3
            by_cases c4 : 99 < v
            · have dd4 : decide (99 < v) = true := decide_eq_true c4
              go_wp2
              go_ret
              exact ⟨rfl, BW.out⟩
            · have dd4 : decide (99 < v) = false := decide_eq_false c4
              obtain ⟨e1, e2, e3⟩ : PB.look l t = none ∧ l.length = 24 ∧ L = l := by rcases HF.out with h | h; omega; exact h
              have e4 := HX.out
              rw [e1] at e4
              subst e4
              have e5 : ((l.length : Int) == 24) = true := by rw [e2]; rfl
              have E3 := hide e3
              clear e3 e1 e2 HF HX
              have C7 := hide (lyRows_any A3 P1 _ _ d3 q1 L l _ _ w5 rfl rfl GT.out.rd DA.out.rd (by omega) (by omega) GT.out.le DA.out.le)
              rw [decide_eq_true E3.out] at C7
              go_wp2_with fail
              refine C7.out.mono ?_
              rintro e w7 ⟨rfl, b⟩
              have s7 := b.size
              replace BW := hide (below_keep BW.out b)
              replace DA := hide (DA.out.keep b)
              replace V := hide (V.out.block (b.block _ V.out.lt))
              replace SP := hide (SP.out.keep b)
              replace GT := hide (GT.out.keep b)
              clear b C7
              clear v0 v1
              obtain ⟨v0, v1⟩ := cellV V.out
              go_wp2
              go_ret
              exact ⟨rfl, BW.out⟩
    · obtain ⟨_, _, hLe, hL24, hLB⟩ := putO_true HP.out
      have HLK : Hid (∀ u, PB.look L u = if u = t then some v else PB.look l u) := hide (fun u => by rw [hLe]; exact PB.look_putR (t, v) l u)
      have HLB := hide hLB
      clear hLe hLB SP HX
      go_wp2
      go_loopw [11] (fun i wr => ∃ k : Nat, k ≤ 100 ∧ i = .int .i64 k ∧ w5 = wr) (fun i _ => 100 - (intOf i).toNat)
      case atStart => exact ⟨0, Nat.zero_le _, rfl, rfl⟩
      case round =>
        obtain ⟨k, hk, rfl, rfl⟩ := hrel
        by_cases hlt : k < 100
        · obtain ⟨x', hx'⟩ : ∃ x', PB.look L (k : Int) = x' := ⟨_, rfl⟩
          obtain ⟨y', hy'⟩ : ∃ y', PB.look l (k : Int) = y' := ⟨_, rfl⟩
          have hS := HLK.out (k : Int)
          rw [hx', hy'] at hS
          have HS := hide hS
          clear hS
          have CX := hide (lyAt_any A3 _ d3 L (k : Int) _ w5 rfl GT.out.rd (by omega))
          have CY := hide (lyAt_any P1 _ q1 l (k : Int) _ w5 rfl DA.out.rd (by omega))
          rw [hx'] at CX
          rw [hy'] at CY
          clear hx' hy'
          go_wp2_with fail
          refine CX.out.mono ?_
          rintro e w' ⟨rfl, rfl⟩
          unfold lookE
          go_wp2_with fail
          refine CY.out.mono ?_
          rintro e w' ⟨rfl, rfl⟩
          unfold lookE
          clear CX CY
          have hS := HS.out
          clear HS
          by_cases hkt : (k : Int) = t
          · rw [if_pos hkt] at hS
            subst hS
            have hb1 : ((k : Int) == t) = true := by rw [hkt]; exact beq_self_eq_true _
            have hb2 : ((k : Int) != t) = false := by rw [hkt]; simp
            generalize y'.isSome = i1
            generalize y'.getD 0 = i2
            clear hkt
            go_wp2
            go_roundw
            case rel => exact ⟨k + 1, by omega, by go_num, trivial⟩
            case measure => simp [intOf]; omega
          · rw [if_neg hkt] at hS
            subst hS
            have hb1 : ((k : Int) == t) = false := beq_eq_false_iff_ne.2 hkt
            have hb2 : ((k : Int) != t) = true := bne_iff_ne.2 hkt
            generalize x'.isSome = i1
            generalize x'.getD 0 = i2
            clear hkt
            go_wp2
            go_roundw
            case rel => exact ⟨k + 1, by omega, by go_num, trivial⟩
            case measure => simp [intOf]; omega
        · have C := hide (implBlockOk A3 _ d3 L _ w5 rfl GT.out.rd (by omega) GT.out.le)
          rw [HLB.out] at C
          go_wp2_with fail
          refine C.out.mono ?_
          rintro e w' ⟨rfl, b⟩
          go_wp2
          go_ret
          exact ⟨rfl, below_keep BW.out b⟩

end Go.Proofs.Ytednahmfjpaehaa
