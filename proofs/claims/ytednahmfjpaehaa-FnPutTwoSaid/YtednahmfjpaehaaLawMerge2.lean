/-
  WALKS: laws of BlockMerge: MergeMany, MergePut, MergeThree.
-/
import Derived.Test.YtednahmfjpaehaaLawCutMerge
namespace Go.Proofs.Ytednahmfjpaehaa
set_option linter.unusedVariables false
open Go.RowKit

/-- How many of the first k rows of a have a time that stands in b too. -/
def both (a b : List PB.Row) (k : Nat) : Nat := ((a.take k).filter fun r => decide (PB.look b r.1 ≠ none)).length
theorem both_le (a b : List PB.Row) (k : Nat) : both a b k ≤ k := Nat.le_trans (List.length_filter_le _ _) (List.length_take_le _ _)
theorem both_succ {a b : List PB.Row} {k : Nat} {t v : Int} (hk : k < a.length) (hx : a.getD k (0, 0) = (t, v)) : both a b (k + 1) = both a b k + if PB.look b t = none then 0 else 1 := by
  rw [PB.getD_row hk] at hx
  unfold both
  rw [List.take_succ_eq_append_getElem hk, List.filter_append, List.length_append, hx]
  congr 1
  by_cases h : PB.look b t = none
  · simp [h]
  · simp [h]
theorem both_all {a b L : List PB.Row} (h : mergeO a b = (L, true)) : (L.length : Int) = (a.length : Int) + (b.length : Int) - (both a b a.length : Int) := by
  obtain ⟨ha, hb, hL, _, _⟩ := mergeO_true h
  have := PB.merge_many (PB.blockB_iff.1 ha).2.1 (PB.blockB_iff.1 hb).2.1
  unfold both
  rw [List.take_of_length_le (Nat.le_refl _), hL]
  omega
/-- The rows of b put one after the other: each time it is done. -/
theorem put_some {a b L : List PB.Row} (h : mergeO a b = (L, true)) {k : Nat} (hk : k < b.length) : putO (PB.mergeR a (b.take k)) (b.getD k (0, 0)) = (PB.mergeR a (b.take (k + 1)), true) := by
  obtain ⟨ha, hb, hL, hl, _⟩ := mergeO_true h
  obtain ⟨ha1, ha2, ha3⟩ := PB.blockB_iff.1 ha
  obtain ⟨hb1, hb2, hb3⟩ := PB.blockB_iff.1 hb
  have hlen : ∀ j, (PB.mergeR a (b.take j)).length ≤ 24 := fun j => by
    have h1 : PB.mergeR a b = PB.mergeR (PB.mergeR a (b.take j)) (b.drop j) := by
      unfold PB.mergeR
      rw [← List.foldl_append, List.take_append_drop]
    have h2 : PB.Asc (PB.mergeR a (b.take j)) := PB.mergeR_asc ha2
    have h3 := PB.mergeR_ge (b := b.drop j) h2
    rw [← h1, ← hL] at h3
    omega
  have hblk : PB.blockB (PB.mergeR a (b.take k)) = true := PB.blockB_iff.2 ⟨fun r hr => by
    rcases PB.mergeR_mem hr with h1 | h1
    · exact ha1 r h1
    · exact hb1 r (List.mem_of_mem_take h1), PB.mergeR_asc ha2, hlen k⟩
  have hrow : PB.rowB (b.getD k (0, 0)) = true := by rw [PB.getD_row hk]; exact hb1 _ (List.getElem_mem _)
  rw [merge_take hk rfl]
  exact putO_yes hblk hrow (by rw [← merge_take hk rfl]; exact hlen (k + 1))
theorem calls_put {P : Program} {f : FuncId} {args : Array Value} {w : World} {p : List PB.Row × Bool} {L : List PB.Row} {K : Bool} (h : Calls P f args w (RowLB w p)) (hp : p = (L, K)) :
    Calls P f args w fun e w' => ∃ A c, e = .returned (.tuple #[.slice A L.length c, .bool K]) ∧ w'.ownsRow w.heap.size 30 2 (.slice A L.length c) L.length (rows L) ∧ Below w.heap.size w w' := by
  subst hp; exact h

set_option maxRecDepth 100000 in
set_option maxHeartbeats 6400000 in
theorem fnMergeMany_walk (w : World) (a0 : Option Addr) (len0 cap0 : Nat) (z0 : List Int) (hz0 : z0.length = len0) (rd0 : Rd w w.heap.size 1 a0 len0 (z0.map (Value.int .u8))) (wf0 : ∀ z ∈ z0, (Lit.int .u8 z).wf = true) (lc0 : len0 ≤ cap0) (cm0 : cap0 ≤ maxLen) :
    Calls Try.prog 9 #[.slice a0 len0 cap0] w fun e w' => e = .returned (.bool true) ∧ Below w.heap.size w w' := by
  have HD := hide (drawBlockMerge_any a0 len0 cap0 z0 w hz0 rd0 (bytes_ofM wf0) lc0 cm0)
  clear rd0 wf0 hz0
  unfold maxLen at cm0
  by_cases hl0 : 1048576 < len0
  · clear HD
    go_enter Try.func9, Try.ntmps9
    go_wp2
    go_ret
    exact ⟨rfl, Below.refl _ _⟩
  go_enter Try.func9, Try.ntmps9
  have BW := hide (Below.refl w.heap.size w)
  have C1 := HD
  go_wp2_with fail
  refine C1.out.mono ?_
  rintro e w1 ⟨a, bb, P1, q1, P2, q2, rfl, hla, hlb, oa, ob, b⟩
  have s1 := b.size
  replace BW := hide (below_keep BW.out b)
  have DA := hide ((⟨Rd.of_own oa, Nat.le_refl _⟩ : RdB w1 w1.heap.size 2 P1 a.length (rows a)))
  have DB := hide ((⟨Rd.of_own ob, Nat.le_refl _⟩ : RdB w1 w1.heap.size 2 P2 bb.length (rows bb)))
  clear b C1
  clear oa ob
  obtain ⟨L, K, hP⟩ : ∃ L K, mergeO a bb = (L, K) := ⟨_, _, rfl⟩
  have hLL : L.length ≤ 24 := by have := mergeO_len a bb; rw [hP] at this; exact this
  have HP := hide hP
  clear hP
  have C2 := hide (calls_pair (specBlockMerge P1 P2 _ _ q1 q2 a bb _ _ w1 rfl rfl DA.out.rd DB.out.rd (by omega) (by omega) DA.out.le DB.out.le) HP.out)
  go_wp2_with fail
  refine C2.out.mono ?_
  rintro e w2 ⟨A2, d2, rfl, o, b⟩
  have s2 := b.size
  replace BW := hide (below_keep BW.out b)
  replace DA := hide (DA.out.keep b)
  replace DB := hide (DB.out.keep b)
  have SP := hide ((OwB.of o b.size).rdB)
  clear b C2
  clear o
  have C3 := hide (calls_pair (implBlockMerge P1 P2 _ _ q1 q2 a bb _ _ w2 rfl rfl DA.out.rd DB.out.rd (by omega) (by omega) DA.out.le DB.out.le) HP.out)
  go_wp2_with fail
  refine C3.out.mono ?_
  rintro e w3 ⟨A3, d3, rfl, o, b⟩
  have s3 := b.size
  replace BW := hide (below_keep BW.out b)
  replace DA := hide (DA.out.keep b)
  replace DB := hide (DB.out.keep b)
  replace SP := hide (SP.out.keep b)
  have GT := hide ((OwB.of o b.size).rdB)
  clear b C3
  clear o
  have C4 := hide (lyRows_any A3 A2 _ _ d3 d2 L L _ _ w3 rfl rfl GT.out.rd SP.out.rd (by omega) (by omega) GT.out.le SP.out.le)
  rw [decide_eq_true rfl] at C4
  go_wp2_with fail
  refine C4.out.mono ?_
  rintro e w4 ⟨rfl, b⟩
  have s4 := b.size
  replace BW := hide (below_keep BW.out b)
  replace DA := hide (DA.out.keep b)
  replace DB := hide (DB.out.keep b)
  replace SP := hide (SP.out.keep b)
  replace GT := hide (GT.out.keep b)
  clear b C4
  cases K
  · have C5 := hide (lyRows_any A3 A2 _ _ d3 d2 L L _ _ w4 rfl rfl GT.out.rd SP.out.rd (by omega) (by omega) GT.out.le SP.out.le)
    rw [decide_eq_true rfl] at C5
    go_wp2_with fail
    refine C5.out.mono ?_
    rintro e w5 ⟨rfl, b⟩
    have s5 := b.size
    replace BW := hide (below_keep BW.out b)
    replace DA := hide (DA.out.keep b)
    replace DB := hide (DB.out.keep b)
    replace SP := hide (SP.out.keep b)
    replace GT := hide (GT.out.keep b)
    clear b C5
    go_wp2
    go_ret
    exact ⟨rfl, BW.out⟩
  · have hbo : Hid ((L.length : Int) = (a.length : Int) + (bb.length : Int) - (both a bb a.length : Int)) := hide (both_all HP.out)
    clear SP GT
    go_wp2
    go_loopw [9, 10] (fun n i wr => ∃ k : Nat, k ≤ a.length ∧ i = .int .i64 k ∧ n = .int .i64 (both a bb k : Nat) ∧ w4 = wr) (fun _ i _ => a.length - (intOf i).toNat)
    case atStart => exact ⟨0, Nat.zero_le _, rfl, by simp [both], rfl⟩
    case round =>
      obtain ⟨k, hk, rfl, rfl, rfl⟩ := hrel
      have hbk := both_le a bb k
      by_cases hlt : k < a.length
      · obtain ⟨b, off, rfl, hb, hc⟩ := DA.out.rd.row rfl hlt
        obtain ⟨c1, c2⟩ := hc k hlt
        obtain ⟨y, hy⟩ : ∃ y, a.getD k (0, 0) = y := ⟨_, rfl⟩
        obtain ⟨t, v⟩ := y
        have hS := hide (both_succ (b := bb) hlt hy)
        have C := hide (lyAt_any P2 bb.length q2 bb t _ w4 rfl DB.out.rd (by omega))
        rw [hy] at c1 c2
        clear hc hy
        go_wp2_with fail
        refine C.out.mono ?_
        rintro e w' ⟨rfl, rfl⟩
        unfold lookE
        cases hlk : PB.look bb t
        · have hS1 : Hid (both a bb (k + 1) = both a bb k) := hide (by have := hS.out; rw [hlk] at this; simpa using this)
          clear hlk hS C
          go_wp2
          go_roundw
          case rel => exact ⟨k + 1, by omega, by go_num, by rw [hS1.out], trivial⟩
          case measure => simp [intOf]; omega
        · have hS1 : Hid (both a bb (k + 1) = both a bb k + 1) := hide (by have := hS.out; rw [hlk] at this; simpa using this)
          clear hlk hS C
          go_wp2
          go_roundw
          case rel => exact ⟨k + 1, by omega, by go_num, by rw [hS1.out]; go_num, trivial⟩
          case measure => simp [intOf]; omega
      · have hkn : k = a.length := by omega
        subst hkn
        have heq := hbo.out
        have hb1 : ((L.length : Int) == (a.length : Int) + (bb.length : Int) - (both a bb a.length : Int)) = true := by rw [heq]; exact beq_self_eq_true _
        clear heq
        go_wp2
        go_ret
        exact ⟨rfl, BW.out⟩

set_option maxRecDepth 100000 in
set_option maxHeartbeats 6400000 in
theorem fnMergePut_walk (w : World) (a0 : Option Addr) (len0 cap0 : Nat) (z0 : List Int) (hz0 : z0.length = len0) (rd0 : Rd w w.heap.size 1 a0 len0 (z0.map (Value.int .u8))) (wf0 : ∀ z ∈ z0, (Lit.int .u8 z).wf = true) (lc0 : len0 ≤ cap0) (cm0 : cap0 ≤ maxLen) :
    Calls Try.prog 10 #[.slice a0 len0 cap0] w fun e w' => e = .returned (.bool true) ∧ Below w.heap.size w w' := by
  have HD := hide (drawBlockMerge_any a0 len0 cap0 z0 w hz0 rd0 (bytes_ofM wf0) lc0 cm0)
  clear rd0 wf0 hz0
  unfold maxLen at cm0
  by_cases hl0 : 1048576 < len0
  · clear HD
    go_enter Try.func10, Try.ntmps10
    go_wp2
    go_ret
    exact ⟨rfl, Below.refl _ _⟩
  go_enter Try.func10, Try.ntmps10
  have BW := hide (Below.refl w.heap.size w)
  have C1 := HD
  go_wp2_with fail
  refine C1.out.mono ?_
  rintro e w1 ⟨a, bb, P1, q1, P2, q2, rfl, hla, hlb, oa, ob, b⟩
  have s1 := b.size
  replace BW := hide (below_keep BW.out b)
  have DA := hide ((⟨Rd.of_own oa, Nat.le_refl _⟩ : RdB w1 w1.heap.size 2 P1 a.length (rows a)))
  have DB := hide ((⟨Rd.of_own ob, Nat.le_refl _⟩ : RdB w1 w1.heap.size 2 P2 bb.length (rows bb)))
  clear b C1
  clear oa ob
  obtain ⟨L, K, hP⟩ : ∃ L K, mergeO a bb = (L, K) := ⟨_, _, rfl⟩
  have hLL : L.length ≤ 24 := by have := mergeO_len a bb; rw [hP] at this; exact this
  have HP := hide hP
  clear hP
  have C2 := hide (calls_pair (specBlockMerge P1 P2 _ _ q1 q2 a bb _ _ w1 rfl rfl DA.out.rd DB.out.rd (by omega) (by omega) DA.out.le DB.out.le) HP.out)
  go_wp2_with fail
  refine C2.out.mono ?_
  rintro e w2 ⟨A2, d2, rfl, o, b⟩
  have s2 := b.size
  replace BW := hide (below_keep BW.out b)
  replace DA := hide (DA.out.keep b)
  replace DB := hide (DB.out.keep b)
  have SP := hide ((OwB.of o b.size).rdB)
  clear b C2
  clear o
  have C3 := hide (calls_pair (implBlockMerge P1 P2 _ _ q1 q2 a bb _ _ w2 rfl rfl DA.out.rd DB.out.rd (by omega) (by omega) DA.out.le DB.out.le) HP.out)
  go_wp2_with fail
  refine C3.out.mono ?_
  rintro e w3 ⟨A3, d3, rfl, o, b⟩
  have s3 := b.size
  replace BW := hide (below_keep BW.out b)
  replace DA := hide (DA.out.keep b)
  replace DB := hide (DB.out.keep b)
  replace SP := hide (SP.out.keep b)
  have GT := hide ((OwB.of o b.size).rdB)
  clear b C3
  clear o
  have C4 := hide (lyRows_any A3 A2 _ _ d3 d2 L L _ _ w3 rfl rfl GT.out.rd SP.out.rd (by omega) (by omega) GT.out.le SP.out.le)
  rw [decide_eq_true rfl] at C4
  go_wp2_with fail
  refine C4.out.mono ?_
  rintro e w4 ⟨rfl, b⟩
  have s4 := b.size
  replace BW := hide (below_keep BW.out b)
  replace DA := hide (DA.out.keep b)
  replace DB := hide (DB.out.keep b)
  replace SP := hide (SP.out.keep b)
  replace GT := hide (GT.out.keep b)
  clear b C4
  cases K
  · have C5 := hide (lyRows_any A3 A2 _ _ d3 d2 L L _ _ w4 rfl rfl GT.out.rd SP.out.rd (by omega) (by omega) GT.out.le SP.out.le)
    rw [decide_eq_true rfl] at C5
    go_wp2_with fail
    refine C5.out.mono ?_
    rintro e w5 ⟨rfl, b⟩
    have s5 := b.size
    replace BW := hide (below_keep BW.out b)
    replace DA := hide (DA.out.keep b)
    replace DB := hide (DB.out.keep b)
    replace SP := hide (SP.out.keep b)
    replace GT := hide (GT.out.keep b)
    clear b C5
    go_wp2
    go_ret
    exact ⟨rfl, BW.out⟩
  · clear SP
    have hout : ∀ k, (PB.mergeR a (bb.take k)).length ≤ 60 := fun k => by
      have h1 := mergeR_le a (bb.take k)
      simp at h1; omega
    have HOUT := hide hout
    clear hout
    go_wp2
    go_loopw [9, 10] (fun s i wr => ∃ (k : Nat) (out : List PB.Row) (A9 : Option Addr) (c9 : Nat), k ≤ bb.length ∧ i = .int .i64 k ∧ s = .slice A9 out.length c9 ∧ Hid (out = PB.mergeR a (bb.take k)) ∧ Hid (Rd wr wr.heap.size 2 A9 out.length (rows out)) ∧ Hid (Below w4.heap.size w4 wr)) (fun _ i _ => bb.length - (intOf i).toNat)
    case atStart => exact ⟨0, a, _, _, Nat.zero_le _, rfl, rfl, hide (by simp [PB.mergeR]), hide (DA.out.rd.more DA.out.le), hide (Below.refl _ _)⟩
    case round =>
      obtain ⟨k, out, A9, c9, hk, rfl, rfl, hp, ho, hbel⟩ := hrel
      have hsz := hbel.out.size
      by_cases hlt : k < bb.length
      · obtain ⟨b, off, rfl, hb, hc⟩ := (DB.out.keep hbel.out).rd.row rfl hlt
        obtain ⟨c1, c2⟩ := hc k hlt
        obtain ⟨y, hy⟩ : ∃ y, bb.getD k (0, 0) = y := ⟨_, rfl⟩
        obtain ⟨t, v⟩ := y
        have hT := hide (put_some HP.out hlt)
        have hol : out.length ≤ 60 := by rw [hp.out]; exact HOUT.out k
        rw [hy] at c1 c2
        have C := hide (calls_put (implBlockPut A9 out.length c9 out t v wr.heap.size wr rfl ho.out (by omega) (Nat.le_refl _)) (show putO out (t, v) = (PB.mergeR a (bb.take (k + 1)), true) from by rw [hp.out, ← hy]; exact hT.out))
        clear hc hy hT
        go_wp2_with fail
        refine C.out.mono ?_
        rintro e w2 ⟨A2, c2', rfl, o2, b2⟩
        have O2 := hide (Rd.of_own o2)
        have B2 := hide (hbel.out.trans (b2.mono hsz))
        clear o2 b2 C ho hbel
        go_wp2
        go_roundw
        case rel => exact ⟨k + 1, _, A2, c2', by omega, by go_num, rfl, hide rfl, O2, B2⟩
        case measure => simp [intOf]; omega
      · have hd : Hid (out = L) := hide (by
          have h1 := hp.out
          rw [List.take_of_length_le (by omega)] at h1
          rw [h1]; exact (mergeO_true HP.out).2.2.1.symm)
        have hol : out.length ≤ 60 := by rw [hp.out]; exact HOUT.out k
        have C := hide (lyRows_any A9 A3 _ _ c9 d3 out L _ _ wr rfl rfl ho.out (GT.out.keep hbel.out).rd (by omega) (by omega) (Nat.le_refl _) (GT.out.keep hbel.out).le)
        rw [decide_eq_true hd.out] at C
        have BX := hide (BW.out.trans (hbel.out.mono BW.out.size))
        clear hd hp ho hbel
        go_wp2_with fail
        refine C.out.mono ?_
        rintro e w2 ⟨rfl, b2⟩
        go_wp2
        go_ret
        exact ⟨rfl, below_keep BX.out b2⟩

end Go.Proofs.Ytednahmfjpaehaa
