/-
  WALKS: the law MergeAt.
-/
import Derived.Test.YtednahmfjpaehaaLawMerge2
namespace Go.Proofs.Ytednahmfjpaehaa
set_option linter.unusedVariables false
open Go.RowKit

theorem count_step (l : List PB.Row) (k : Nat) : PB.count l (k + 1) = PB.count l k + if (PB.look l (k : Int)).isSome then 1 else 0 := by
  rw [PB.count_succ]
  cases PB.look l (k : Int) <;> simp
theorem count_le (l : List PB.Row) (k : Nat) : PB.count l k ≤ k := Nat.le_trans (List.length_filter_le _ _) (by simp)
theorem count_merge {a b : List PB.Row} (ha : PB.blockB a = true) (hb : PB.blockB b = true) : PB.count (PB.mergeR a b) 100 = (PB.mergeR a b).length := by
  have ha1 := PB.blockB_iff.1 ha
  have hb1 := PB.blockB_iff.1 hb
  refine PB.count_len (PB.mergeR_asc ha1.2.1) (fun r hr => ?_)
  rcases PB.mergeR_mem hr with h | h
  · exact (PB.rowB_iff.1 (ha1.1 r h)).1
  · exact (PB.rowB_iff.1 (hb1.1 r h)).1
theorem look_merge {a b : List PB.Row} (hb : PB.blockB b = true) (t : Int) : PB.look (PB.mergeR a b) t = (PB.look b t).or (PB.look a t) := PB.look_mergeR (PB.blockB_iff.1 hb).2.1 t

set_option maxRecDepth 100000 in
set_option maxHeartbeats 6400000 in
theorem fnMergeAt_walk (w : World) (a0 : Option Addr) (len0 cap0 : Nat) (z0 : List Int) (hz0 : z0.length = len0) (rd0 : Rd w w.heap.size 1 a0 len0 (z0.map (Value.int .u8))) (wf0 : ∀ z ∈ z0, (Lit.int .u8 z).wf = true) (lc0 : len0 ≤ cap0) (cm0 : cap0 ≤ maxLen) :
    Calls Try.prog 8 #[.slice a0 len0 cap0] w fun e w' => e = .returned (.bool true) ∧ Below w.heap.size w w' := by
  have HD := hide (drawBlockMerge_any a0 len0 cap0 z0 w hz0 rd0 (bytes_ofM wf0) lc0 cm0)
  clear rd0 wf0 hz0
  unfold maxLen at cm0
  by_cases hl0 : 1048576 < len0
  · clear HD
    go_enter Try.func8, Try.ntmps8
    go_wp2
    go_ret
    exact ⟨rfl, Below.refl _ _⟩
  go_enter Try.func8, Try.ntmps8
  have BW := hide (Below.refl w.heap.size w)
  have C1 := HD
  go_wp2_with fail
  refine C1.out.mono ?_
  rintro e w1 ⟨a, bb, P1, q1, P2, q2, rfl, hla, hlb, oa, ob, b⟩
  have s1 := b.size
  replace BW := hide (below_keep BW.out b)
  have DA := hide ((⟨Rd.of_own oa, Nat.le_refl _⟩ : RdB w1 w1.heap.size 2 P1 a.length (rows a)))
  have DB := hide ((⟨Rd.of_own ob, Nat.le_refl _⟩ : RdB w1 w1.heap.size 2 P2 bb.length (rows bb)))
  clear b C1
  clear oa ob
  obtain ⟨L, K, hP⟩ : ∃ L K, mergeO a bb = (L, K) := ⟨_, _, rfl⟩
  have hLL : L.length ≤ 24 := by have := mergeO_len a bb; rw [hP] at this; exact this
  have HP := hide hP
  clear hP
  have C2 := hide (calls_pair (specBlockMerge P1 P2 _ _ q1 q2 a bb _ _ w1 rfl rfl DA.out.rd DB.out.rd (by omega) (by omega) DA.out.le DB.out.le) HP.out)
  go_wp2_with fail
  refine C2.out.mono ?_
  rintro e w2 ⟨A2, d2, rfl, o, b⟩
  have s2 := b.size
  replace BW := hide (below_keep BW.out b)
  replace DA := hide (DA.out.keep b)
  replace DB := hide (DB.out.keep b)
  have SP := hide ((OwB.of o b.size).rdB)
  clear b C2
  clear o
  have C3 := hide (calls_pair (implBlockMerge P1 P2 _ _ q1 q2 a bb _ _ w2 rfl rfl DA.out.rd DB.out.rd (by omega) (by omega) DA.out.le DB.out.le) HP.out)
  go_wp2_with fail
  refine C3.out.mono ?_
  rintro e w3 ⟨A3, d3, rfl, o, b⟩
  have s3 := b.size
  replace BW := hide (below_keep BW.out b)
  replace DA := hide (DA.out.keep b)
  replace DB := hide (DB.out.keep b)
  replace SP := hide (SP.out.keep b)
  have GT := hide ((OwB.of o b.size).rdB)
  clear b C3
  clear o
  have C4 := hide (lyRows_any A3 A2 _ _ d3 d2 L L _ _ w3 rfl rfl GT.out.rd SP.out.rd (by omega) (by omega) GT.out.le SP.out.le)
  rw [decide_eq_true rfl] at C4
  go_wp2_with fail
  refine C4.out.mono ?_
  rintro e w4 ⟨rfl, b⟩
  have s4 := b.size
  replace BW := hide (below_keep BW.out b)
  replace DA := hide (DA.out.keep b)
  replace DB := hide (DB.out.keep b)
  replace SP := hide (SP.out.keep b)
  replace GT := hide (GT.out.keep b)
  clear b C4
  have C5 := hide (specBlockOk P1 _ q1 a _ w4 rfl DA.out.rd (by omega) DA.out.le)
  go_wp2_with fail
  refine C5.out.mono ?_
  rintro e w5 ⟨rfl, b⟩
  have s5 := b.size
  replace BW := hide (below_keep BW.out b)
  replace DA := hide (DA.out.keep b)
  replace DB := hide (DB.out.keep b)
  replace SP := hide (SP.out.keep b)
  replace GT := hide (GT.out.keep b)
  clear b C5
  cases ha : PB.blockB a
  · have C6 := hide (lyRows_any A3 A2 _ _ d3 d2 L L _ _ w5 rfl rfl GT.out.rd SP.out.rd (by omega) (by omega) GT.out.le SP.out.le)
    clear ha
    rw [decide_eq_true rfl] at C6
    go_wp2_with fail
    refine C6.out.mono ?_
    rintro e w6 ⟨rfl, b⟩
    have s6 := b.size
    replace BW := hide (below_keep BW.out b)
    replace DA := hide (DA.out.keep b)
    replace DB := hide (DB.out.keep b)
    replace SP := hide (SP.out.keep b)
    replace GT := hide (GT.out.keep b)
    clear b C6
    go_wp2
    go_ret
    exact ⟨rfl, BW.out⟩
  · have HA := hide ha
    clear ha
    have C6 := hide (specBlockOk P2 _ q2 bb _ w5 rfl DB.out.rd (by omega) DB.out.le)
    go_wp2_with fail
    refine C6.out.mono ?_
    rintro e w6 ⟨rfl, b⟩
    have s6 := b.size
    replace BW := hide (below_keep BW.out b)
    replace DA := hide (DA.out.keep b)
    replace DB := hide (DB.out.keep b)
    replace SP := hide (SP.out.keep b)
    replace GT := hide (GT.out.keep b)
    clear b C6
    cases hb : PB.blockB bb
    · have C7 := hide (lyRows_any A3 A2 _ _ d3 d2 L L _ _ w6 rfl rfl GT.out.rd SP.out.rd (by omega) (by omega) GT.out.le SP.out.le)
      clear hb
      rw [decide_eq_true rfl] at C7
      go_wp2_with fail
      refine C7.out.mono ?_
      rintro e w7 ⟨rfl, b⟩
      have s7 := b.size
      replace BW := hide (below_keep BW.out b)
      replace DA := hide (DA.out.keep b)
      replace DB := hide (DB.out.keep b)
      replace SP := hide (SP.out.keep b)
      replace GT := hide (GT.out.keep b)
      clear b C7
      go_wp2
      go_ret
      exact ⟨rfl, BW.out⟩
    · have HBk := hide hb
      clear hb SP
      obtain ⟨G, hG⟩ : ∃ G, G = PB.mergeR a bb := ⟨_, rfl⟩
      have HLK : Hid (∀ t, PB.look G t = (PB.look bb t).or (PB.look a t)) := hide (fun t => by rw [hG]; exact look_merge HBk.out t)
      have HCT : Hid (PB.count G 100 = G.length) := hide (by rw [hG]; exact count_merge HA.out HBk.out)
      have HKK : Hid ((K = true → L = G ∧ L.length ≤ 24 ∧ PB.blockB L = true) ∧ (K = false → ¬ G.length ≤ 24)) := hide (by
        refine ⟨fun e => ?_, fun e hle => ?_⟩
        · subst e
          obtain ⟨_, _, h1, h2, h3⟩ := mergeO_true HP.out
          exact ⟨by rw [h1, hG], h2, h3⟩
        · subst e
          rw [hG] at hle
          have h1 := HP.out.symm.trans (mergeO_yes HA.out HBk.out hle)
          injection h1 with h1 h2
          cases h2)
      clear hG
      go_wp2
      go_loopw [9, 10] (fun n i wr => ∃ k : Nat, k ≤ 100 ∧ i = .int .i64 k ∧ n = .int .i64 (PB.count G k : Nat) ∧ w6 = wr) (fun _ i _ => 100 - (intOf i).toNat)
      case atStart => exact ⟨0, Nat.zero_le _, rfl, by simp [PB.count], rfl⟩
      case round =>
        obtain ⟨k, hk, rfl, rfl, rfl⟩ := hrel
        have hck := count_le G k
        by_cases hlt : k < 100
        · have hS := hide (count_step G k)
          have hLk := hide (HLK.out (k : Int))
          obtain ⟨x, hx⟩ : ∃ x, PB.look a (k : Int) = x := ⟨_, rfl⟩
          obtain ⟨y, hy⟩ : ∃ y, PB.look bb (k : Int) = y := ⟨_, rfl⟩
          have HX := hide hx
          have HY := hide hy
          have CA := hide (lyAt_any P1 _ q1 a (k : Int) _ w6 rfl DA.out.rd (by omega))
          have CB := hide (lyAt_any P2 _ q2 bb (k : Int) _ w6 rfl DB.out.rd (by omega))
          have CL := hide (lyAt_any A3 _ d3 L (k : Int) _ w6 rfl GT.out.rd (by omega))
          rw [hx] at CA
          rw [hy] at CB
          clear hx hy
          go_wp2_with fail
          refine CA.out.mono ?_
          rintro e w' ⟨rfl, rfl⟩
          unfold lookE
          go_wp2_with fail
          refine CB.out.mono ?_
          rintro e w' ⟨rfl, rfl⟩
          unfold lookE
          clear CA CB
          cases x with
          | none =>
            cases y with
            | none =>
              have hS1 : Hid (PB.count G (k + 1) = PB.count G k + 0) := hide (by have := hS.out; rw [hLk.out, HX.out, HY.out] at this; simpa using this)
              have CL2 : Hid (K = true → Calls Try.prog 26 #[.slice A3 L.length d3, .int .i64 (k : Int)] w6 fun e w' => e = lookE (Option.or none none) ∧ w6 = w') := hide (fun e => by have h := CL.out; rw [(HKK.out.1 e).1, hLk.out, HX.out, HY.out] at h; rw [(HKK.out.1 e).1]; exact h)
              clear hS hLk HX HY
              cases K
              · go_wp2_with fail
                refine CL.out.mono ?_
                rintro e w' ⟨rfl, rfl⟩
                unfold lookE
                clear CL CL2
                go_wp2
                go_roundw
                case rel => exact ⟨k + 1, by omega, by go_num, by rw [hS1.out]; go_num, trivial⟩
                case measure => simp [intOf]; omega
              · have CL3 := hide (CL2.out rfl)
                clear CL CL2
                go_wp2_with fail
                refine CL3.out.mono ?_
                rintro e w' ⟨rfl, rfl⟩
                unfold lookE
                clear CL3
                go_wp2
                go_roundw
                case rel => exact ⟨k + 1, by omega, by go_num, by rw [hS1.out]; go_num, trivial⟩
                case measure => simp [intOf]; omega
            | some y =>
              have hS1 : Hid (PB.count G (k + 1) = PB.count G k + 1) := hide (by have := hS.out; rw [hLk.out, HX.out, HY.out] at this; simpa using this)
              have CL2 : Hid (K = true → Calls Try.prog 26 #[.slice A3 L.length d3, .int .i64 (k : Int)] w6 fun e w' => e = lookE (Option.or (some y) none) ∧ w6 = w') := hide (fun e => by have h := CL.out; rw [(HKK.out.1 e).1, hLk.out, HX.out, HY.out] at h; rw [(HKK.out.1 e).1]; exact h)
              clear hS hLk HX HY
              cases K
              · go_wp2_with fail
                refine CL.out.mono ?_
                rintro e w' ⟨rfl, rfl⟩
                unfold lookE
                clear CL CL2
                go_wp2
                go_roundw
                case rel => exact ⟨k + 1, by omega, by go_num, by rw [hS1.out]; go_num, trivial⟩
                case measure => simp [intOf]; omega
              · have CL3 := hide (CL2.out rfl)
                clear CL CL2
                go_wp2_with fail
                refine CL3.out.mono ?_
                rintro e w' ⟨rfl, rfl⟩
                unfold lookE
                clear CL3
                go_wp2
                go_roundw
                case rel => exact ⟨k + 1, by omega, by go_num, by rw [hS1.out]; go_num, trivial⟩
                case measure => simp [intOf]; omega
          | some x =>
            cases y with
            | none =>
              have hS1 : Hid (PB.count G (k + 1) = PB.count G k + 1) := hide (by have := hS.out; rw [hLk.out, HX.out, HY.out] at this; simpa using this)
              have CL2 : Hid (K = true → Calls Try.prog 26 #[.slice A3 L.length d3, .int .i64 (k : Int)] w6 fun e w' => e = lookE (Option.or none (some x)) ∧ w6 = w') := hide (fun e => by have h := CL.out; rw [(HKK.out.1 e).1, hLk.out, HX.out, HY.out] at h; rw [(HKK.out.1 e).1]; exact h)
              clear hS hLk HX HY
              cases K
              · go_wp2_with fail
                refine CL.out.mono ?_
                rintro e w' ⟨rfl, rfl⟩
                unfold lookE
                clear CL CL2
                go_wp2
                go_roundw
                case rel => exact ⟨k + 1, by omega, by go_num, by rw [hS1.out]; go_num, trivial⟩
                case measure => simp [intOf]; omega
              · have CL3 := hide (CL2.out rfl)
                clear CL CL2
                go_wp2_with fail
                refine CL3.out.mono ?_
                rintro e w' ⟨rfl, rfl⟩
                unfold lookE
                clear CL3
                go_wp2
                go_roundw
                case rel => exact ⟨k + 1, by omega, by go_num, by rw [hS1.out]; go_num, trivial⟩
                case measure => simp [intOf]; omega
            | some y =>
              have hS1 : Hid (PB.count G (k + 1) = PB.count G k + 1) := hide (by have := hS.out; rw [hLk.out, HX.out, HY.out] at this; simpa using this)
              have CL2 : Hid (K = true → Calls Try.prog 26 #[.slice A3 L.length d3, .int .i64 (k : Int)] w6 fun e w' => e = lookE (Option.or (some y) (some x)) ∧ w6 = w') := hide (fun e => by have h := CL.out; rw [(HKK.out.1 e).1, hLk.out, HX.out, HY.out] at h; rw [(HKK.out.1 e).1]; exact h)
              clear hS hLk HX HY
              cases K
              · go_wp2_with fail
                refine CL.out.mono ?_
                rintro e w' ⟨rfl, rfl⟩
                unfold lookE
                clear CL CL2
                go_wp2
                go_roundw
                case rel => exact ⟨k + 1, by omega, by go_num, by rw [hS1.out]; go_num, trivial⟩
                case measure => simp [intOf]; omega
              · have CL3 := hide (CL2.out rfl)
                clear CL CL2
                go_wp2_with fail
                refine CL3.out.mono ?_
                rintro e w' ⟨rfl, rfl⟩
                unfold lookE
                clear CL3
                go_wp2
                go_roundw
                case rel => exact ⟨k + 1, by omega, by go_num, by rw [hS1.out]; go_num, trivial⟩
                case measure => simp [intOf]; omega
        · have hkn : k = 100 := by omega
          subst hkn
          have hc := HCT.out
          rw [hc]
          cases K
          · have h24 : decide ((G.length : Int) ≤ 24) = false := decide_eq_false (by have := HKK.out.2 rfl; omega)
            clear hc hck
            go_wp2
            go_ret
            exact ⟨rfl, BW.out⟩
          · obtain ⟨hLG, hL24, hLB⟩ := HKK.out.1 rfl
            have h24 : decide ((G.length : Int) ≤ 24) = true := decide_eq_true (by rw [← hLG]; omega)
            have hle : ((L.length : Int) == (G.length : Int)) = true := by rw [hLG]; exact beq_self_eq_true _
            have C := hide (implBlockOk A3 _ d3 L _ w6 rfl GT.out.rd (by omega) GT.out.le)
            rw [hLB] at C
            clear hc hck hLG hLB
            go_wp2_with fail
            refine C.out.mono ?_
            rintro e w' ⟨rfl, b⟩
            go_wp2
            go_ret
            exact ⟨rfl, below_keep BW.out b⟩

end Go.Proofs.Ytednahmfjpaehaa
