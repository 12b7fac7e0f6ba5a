/-
  WALKS: the law PutTwo.
-/
import Derived.Test.YtednahmfjpaehaaLawPutAt
namespace Go.Proofs.Ytednahmfjpaehaa
set_option linter.unusedVariables false
open Go.RowKit

theorem putO_two {l L P Q R : List PB.Row} {x u : PB.Row} (h : putO l x = (L, true)) (h1 : putO L u = (P, true)) (h2 : putO l u = (Q, true)) (h3 : putO Q x = (R, true)) :
    PB.look P u.1 = some u.2 ∧ (u.1 = x.1 → PB.look R u.1 = some x.2) ∧ (u.1 ≠ x.1 → P = R) := by
  obtain ⟨hl, _, hL, _, _⟩ := putO_true h
  obtain ⟨_, _, hP, _, _⟩ := putO_true h1
  obtain ⟨_, _, hQ, _, _⟩ := putO_true h2
  obtain ⟨_, _, hR, _, _⟩ := putO_true h3
  refine ⟨by rw [hP, PB.look_putR]; simp, fun e => by rw [hR, PB.look_putR]; simp [e], fun e => by rw [hP, hL, hR, hQ]; exact PB.put_two (PB.blockB_iff.1 hl).2.1 e⟩

set_option maxRecDepth 100000 in
set_option maxHeartbeats 6400000 in
theorem fnPutTwo_walk (w : World) (a0 : Option Addr) (len0 cap0 : Nat) (z0 : List Int) (hz0 : z0.length = len0) (rd0 : Rd w w.heap.size 1 a0 len0 (z0.map (Value.int .u8))) (wf0 : ∀ z ∈ z0, (Lit.int .u8 z).wf = true) (lc0 : len0 ≤ cap0) (cm0 : cap0 ≤ maxLen) (a1 : Option Addr) (len1 cap1 : Nat) (z1 : List Int) (hz1 : z1.length = len1) (rd1 : Rd w w.heap.size 1 a1 len1 (z1.map (Value.int .u8))) (wf1 : ∀ z ∈ z1, (Lit.int .u8 z).wf = true) (lc1 : len1 ≤ cap1) (cm1 : cap1 ≤ maxLen) :
    Calls Try.prog 7 #[.slice a0 len0 cap0, .slice a1 len1 cap1] w fun e w' => e = .returned (.bool true) ∧ Below w.heap.size w w' := by
  have HD := hide (drawBlockPut_any a0 len0 cap0 z0 w hz0 rd0 (bytes_ofM wf0) lc0 cm0)
  clear rd0 wf0 hz0
  unfold maxLen at cm0
  clear rd1 wf1 hz1
  unfold maxLen at cm1
  by_cases hl0 : 1048576 < len0
  · clear HD
    go_enter Try.func7, Try.ntmps7
    go_wp2
    go_ret
    exact ⟨rfl, Below.refl _ _⟩
  by_cases hl1 : 1048576 < len1
  · clear HD
    go_enter Try.func7, Try.ntmps7
    go_wp2
    go_ret
    exact ⟨rfl, Below.refl _ _⟩
  go_enter Try.func7, Try.ntmps7
  have BW := hide (Below.refl w.heap.size w)
  have C1 := HD
  go_wp2_with fail
  refine C1.out.mono ?_
  rintro e w1 ⟨l, t, v, P1, q1, rfl, hl, o, b⟩
  have s1 := b.size
  replace BW := hide (below_keep BW.out b)
  have DA := hide ((⟨Rd.of_own o, Nat.le_refl _⟩ : RdB w1 w1.heap.size 2 P1 l.length (rows l)))
  clear b C1
  clear o
  obtain ⟨L, K, hP⟩ : ∃ L K, putO l (t, v) = (L, K) := ⟨_, _, rfl⟩
  have hLL : L.length ≤ 54 := putO_small hP hl
  have HP := hide hP
  clear hP
  replace BW := hide (BW.out.alloc BW.out.size (.cells #[.int .i64 t, .int .i64 v] 30))
  replace DA := hide (DA.out.keep ((Below.refl _ _).alloc (Nat.le_refl _) (.cells #[.int .i64 t, .int .i64 v] 30)))
  have V := hide ((Cells.new w1 #[.int .i64 t, .int .i64 v] 30 : Cells (w1.alloc (.cells #[.int .i64 t, .int .i64 v] 30)) w1.heap.size 30 [.int .i64 t, .int .i64 v]))
  obtain ⟨v0, v1⟩ := cellV V.out
  have C2 := hide (calls_put (specBlockPut P1 _ q1 l t v _ (w1.alloc (.cells #[.int .i64 t, .int .i64 v] 30)) rfl DA.out.rd (by omega) DA.out.le) HP.out)
  go_wp2_with fail
  refine C2.out.mono ?_
  rintro e w2 ⟨A2, d2, rfl, o, b⟩
  have s2 := b.size
  replace BW := hide (below_keep BW.out b)
  replace DA := hide (DA.out.keep b)
  replace V := hide (V.out.block (b.block _ V.out.lt))
  have SP := hide ((OwB.of o b.size).rdB)
  clear b C2
  clear o
  clear v0 v1
  obtain ⟨v0, v1⟩ := cellV V.out
  have C3 := hide (calls_put (implBlockPut P1 _ q1 l t v _ w2 rfl DA.out.rd (by omega) DA.out.le) HP.out)
  go_wp2_with fail
  refine C3.out.mono ?_
  rintro e w3 ⟨A3, d3, rfl, o, b⟩
  have s3 := b.size
  replace BW := hide (below_keep BW.out b)
  replace DA := hide (DA.out.keep b)
  replace V := hide (V.out.block (b.block _ V.out.lt))
  replace SP := hide (SP.out.keep b)
  have GT := hide ((OwB.of o b.size).rdB)
  clear b C3
  clear o
  clear v0 v1
  obtain ⟨v0, v1⟩ := cellV V.out
  have C4 := hide (lyRows_any A3 A2 _ _ d3 d2 L L _ _ w3 rfl rfl GT.out.rd SP.out.rd (by omega) (by omega) GT.out.le SP.out.le)
  rw [decide_eq_true rfl] at C4
  go_wp2_with fail
  refine C4.out.mono ?_
  rintro e w4 ⟨rfl, b⟩
  have s4 := b.size
  replace BW := hide (below_keep BW.out b)
  replace DA := hide (DA.out.keep b)
  replace V := hide (V.out.block (b.block _ V.out.lt))
  replace SP := hide (SP.out.keep b)
  replace GT := hide (GT.out.keep b)
  clear b C4
  clear v0 v1
  obtain ⟨v0, v1⟩ := cellV V.out
  cases K
  · have C5 := hide (lyRows_any A3 A2 _ _ d3 d2 L L _ _ w4 rfl rfl GT.out.rd SP.out.rd (by omega) (by omega) GT.out.le SP.out.le)
    rw [decide_eq_true rfl] at C5
    go_wp2_with fail
    refine C5.out.mono ?_
    rintro e w5 ⟨rfl, b⟩
    have s5 := b.size
    replace BW := hide (below_keep BW.out b)
    replace DA := hide (DA.out.keep b)
    replace V := hide (V.out.block (b.block _ V.out.lt))
    replace SP := hide (SP.out.keep b)
    replace GT := hide (GT.out.keep b)
    clear b C5
    clear v0 v1
    obtain ⟨v0, v1⟩ := cellV V.out
    go_wp2
    go_ret
    exact ⟨rfl, BW.out⟩
  · clear SP
    obtain ⟨u, hu⟩ : ∃ u : Int, u = ((len1 % 40 : Nat) : Int) := ⟨_, rfl⟩
    have hu1 : (len1 : Int).tmod 40 = u := by rw [hu, Int.tmod_eq_emod_of_nonneg (by omega)]; omega
    clear hu
    obtain ⟨Pl, K1, hP1⟩ : ∃ L1 K1, putO L (u, 7) = (L1, K1) := ⟨_, _, rfl⟩
    obtain ⟨Ql, K2, hP2⟩ : ∃ L1 K1, putO l (u, 7) = (L1, K1) := ⟨_, _, rfl⟩
    obtain ⟨Rl, K3, hP3⟩ : ∃ L1 K1, putO Ql (t, v) = (L1, K1) := ⟨_, _, rfl⟩
    have hPl : Pl.length ≤ 78 := putO_small hP1 hLL
    have hQl : Ql.length ≤ 54 := putO_small hP2 hl
    have hRl : Rl.length ≤ 78 := putO_small hP3 hQl
    have HP1 := hide hP1
    have HP2 := hide hP2
    have HP3 := hide hP3
    clear hP1 hP2 hP3
    replace BW := hide (BW.out.alloc BW.out.size (.cells #[.int .i64 u, .int .i64 7] 30))
    replace DA := hide (DA.out.keep ((Below.refl _ _).alloc (Nat.le_refl _) (.cells #[.int .i64 u, .int .i64 7] 30)))
    replace V := hide (V.out.block (((Below.refl _ _).alloc (Nat.le_refl _) (.cells #[.int .i64 u, .int .i64 7] 30)).block _ V.out.lt))
    replace GT := hide (GT.out.keep ((Below.refl _ _).alloc (Nat.le_refl _) (.cells #[.int .i64 u, .int .i64 7] 30)))
    have U := hide ((Cells.new w4 #[.int .i64 u, .int .i64 7] 30 : Cells (w4.alloc (.cells #[.int .i64 u, .int .i64 7] 30)) w4.heap.size 30 [.int .i64 u, .int .i64 7]))
    obtain ⟨u0, u1⟩ := cellV U.out
    clear v0 v1
    obtain ⟨v0, v1⟩ := cellV V.out
    have C5 := hide (calls_put (implBlockPut A3 _ d3 L u 7 _ (w4.alloc (.cells #[.int .i64 u, .int .i64 7] 30)) rfl GT.out.rd (by omega) GT.out.le) HP1.out)
    go_wp2_with fail
    refine C5.out.mono ?_
    rintro e w5 ⟨A5, d5, rfl, o, b⟩
    have s5 := b.size
    replace BW := hide (below_keep BW.out b)
    replace DA := hide (DA.out.keep b)
    replace V := hide (V.out.block (b.block _ V.out.lt))
    replace GT := hide (GT.out.keep b)
    replace U := hide (U.out.block (b.block _ U.out.lt))
    have PP := hide ((OwB.of o b.size).rdB)
    clear b C5
    clear o
    clear v0 v1
    obtain ⟨v0, v1⟩ := cellV V.out
    clear u0 u1
    obtain ⟨u0, u1⟩ := cellV U.out
    have C6 := hide (calls_put (implBlockPut P1 _ q1 l u 7 _ w5 rfl DA.out.rd (by omega) DA.out.le) HP2.out)
    go_wp2_with fail
    refine C6.out.mono ?_
    rintro e w6 ⟨A6, d6, rfl, o, b⟩
    have s6 := b.size
    replace BW := hide (below_keep BW.out b)
    replace DA := hide (DA.out.keep b)
    replace V := hide (V.out.block (b.block _ V.out.lt))
    replace GT := hide (GT.out.keep b)
    replace U := hide (U.out.block (b.block _ U.out.lt))
    replace PP := hide (PP.out.keep b)
    have QQ := hide ((OwB.of o b.size).rdB)
    clear b C6
    clear o
    clear v0 v1
    obtain ⟨v0, v1⟩ := cellV V.out
    clear u0 u1
    obtain ⟨u0, u1⟩ := cellV U.out
    have C7 := hide (calls_put (implBlockPut A6 _ d6 Ql t v _ w6 rfl QQ.out.rd (by omega) QQ.out.le) HP3.out)
    go_wp2_with fail
    refine C7.out.mono ?_
    rintro e w7 ⟨A7, d7, rfl, o, b⟩
    have s7 := b.size
    replace BW := hide (below_keep BW.out b)
    replace DA := hide (DA.out.keep b)
    replace V := hide (V.out.block (b.block _ V.out.lt))
    replace GT := hide (GT.out.keep b)
    replace U := hide (U.out.block (b.block _ U.out.lt))
    replace PP := hide (PP.out.keep b)
    replace QQ := hide (QQ.out.keep b)
    have RR := hide ((OwB.of o b.size).rdB)
    clear b C7
    clear o
    clear v0 v1
    obtain ⟨v0, v1⟩ := cellV V.out
    clear u0 u1
    obtain ⟨u0, u1⟩ := cellV U.out
    cases K1
    · go_wp2
      go_ret
      exact ⟨rfl, BW.out⟩
    · skip
      cases K2
      · go_wp2
        go_ret
        exact ⟨rfl, BW.out⟩
      · skip
        cases K3
        · go_wp2
          go_ret
          exact ⟨rfl, BW.out⟩
        · skip
          obtain ⟨h1, h2, h3⟩ := putO_two HP.out HP1.out HP2.out HP3.out
          simp only at h1 h2 h3
          have H3 := hide h3
          have H2 := hide h2
          clear h2 h3
          have C8 := hide (lyAt_any A5 _ d5 Pl u _ w7 rfl PP.out.rd (by omega))
          rw [h1] at C8
          go_wp2_with fail
          refine C8.out.mono ?_
          rintro e w8 ⟨rfl, rfl⟩
          clear C8
          unfold lookE
          clear h1
          by_cases hut : u = t
          · have h2 := H2.out hut
            have hb1 : (u == t) = true := by rw [hut]; exact beq_self_eq_true _
            clear hut
            have C9 := hide (lyAt_any A7 _ d7 Rl u _ w7 rfl RR.out.rd (by omega))
            rw [h2] at C9
            go_wp2_with fail
            refine C9.out.mono ?_
            rintro e w9 ⟨rfl, rfl⟩
            clear C9
            unfold lookE
            clear h2
            go_wp2
            go_ret
            exact ⟨rfl, BW.out⟩
          · have h3 := H3.out hut
            have hb1 : (u == t) = false := beq_eq_false_iff_ne.2 hut
            have H4 := hide h3
            clear hut h3
            have C9 := hide (lyRows_any A5 A7 _ _ d5 d7 Pl Rl _ _ w7 rfl rfl PP.out.rd RR.out.rd (by omega) (by omega) PP.out.le RR.out.le)
            rw [decide_eq_true H4.out] at C9
            go_wp2_with fail
            refine C9.out.mono ?_
            rintro e w9 ⟨rfl, b⟩
            have s9 := b.size
            replace BW := hide (below_keep BW.out b)
            replace DA := hide (DA.out.keep b)
            replace V := hide (V.out.block (b.block _ V.out.lt))
            replace GT := hide (GT.out.keep b)
            replace U := hide (U.out.block (b.block _ U.out.lt))
            replace PP := hide (PP.out.keep b)
            replace QQ := hide (QQ.out.keep b)
            replace RR := hide (RR.out.keep b)
            clear b C9
            clear v0 v1
            obtain ⟨v0, v1⟩ := cellV V.out
            clear u0 u1
            obtain ⟨u0, u1⟩ := cellV U.out
            go_wp2
            go_ret
            exact ⟨rfl, BW.out⟩

end Go.Proofs.Ytednahmfjpaehaa
