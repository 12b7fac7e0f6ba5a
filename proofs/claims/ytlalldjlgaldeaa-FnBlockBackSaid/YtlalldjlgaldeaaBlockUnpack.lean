/-
  WALKS: a block unpacked, by the program and by the reference.
-/
import Derived.Test.YtlalldjlgaldeaaPlainPack
import Derived.Test.YtlalldjlgaldeaaAppend
import Derived.Test.YtlalldjlgaldeaaAppStep
import Derived.Test.YtlalldjlgaldeaaTail
import Derived.Deep.Cut
import Derived.Deep.CutRange
namespace Go.Proofs.Ytlalldjlgaldeaa
set_option linter.unusedVariables false
open Go.RowKit

/-- A list of rows in the call's own memory, and a word whether it was done. -/
def RowLU (w : World) (p : List PB.Row × Bool) (e : Ending) (w' : World) : Prop :=
  ∃ A c, e = .returned (.tuple #[.slice A p.1.length c, .bool p.2]) ∧ w'.ownsRow w.heap.size 32 2 (.slice A p.1.length c) p.1.length (rows p.1) ∧ Below w.heap.size w w'
theorem own_emptyR (w : World) (base : Nat) (hb : base ≤ w.heap.size) : (w.alloc (.cells #[] 32)).ownsRow base 32 2 (.slice (some ⟨w.heap.size, 0, none⟩) 0 0) 0 (rows []) := World.ownsRow_lit w #[] 0 hb (Nat.zero_le _) rfl
theorem rowLU_none {w wr : World} {s : List UInt8} (h : buO s = ([], false)) (b : Below w.heap.size w wr) : RowLU w (buO s) (.returned (.tuple #[.slice (some ⟨wr.heap.size, 0, none⟩) 0 0, .bool false])) (wr.alloc (.cells #[] 32)) := by
  rw [h]
  exact ⟨_, _, rfl, own_emptyR wr _ b.size, b.alloc b.size _⟩
theorem calls_pairU {P : Program} {f : FuncId} {args : Array Value} {w : World} {p : List Int × Bool} {L : List Int} {K : Bool} (h : Calls P f args w (IntLB w p)) (hp : p = (L, K)) :
    Calls P f args w fun e w' => ∃ A c, e = .returned (.tuple #[.slice A L.length c, .bool K]) ∧ w'.ownsRow w.heap.size 3 1 (.slice A L.length c) L.length (ints L) ∧ Below w.heap.size w w' := by
  subst hp; exact h
theorem unpO_lenU (l : List UInt8) : (unpO l).1.length ≤ 24 := by
  unfold unpO
  cases h : PN.unp l
  · exact Nat.zero_le _
  · exact (PN.okB_iff.1 (PN.of_unp h).1).2
theorem S_mid (s : List UInt8) (a b : Nat) : (S s).extract a b = S ((s.drop a).take (b - a)) := by
  unfold S
  rw [ByteArray.extract_mk]
theorem zip_snoc {ts vs : List Int} {k : Nat} (h1 : k < ts.length) (h2 : k < vs.length) : rows ((ts.zip vs).take k) ++ [.int .i64 (ts.getD k 0), .int .i64 (vs.getD k 0)] = rows ((ts.zip vs).take (k + 1)) := by
  have hk : k < (ts.zip vs).length := by rw [List.length_zip]; omega
  rw [List.take_succ_eq_append_getElem hk, rows_append, List.getElem_zip]
  simp [rows, h1, h2]
theorem zip_len_take {ts vs : List Int} {k : Nat} (h1 : k ≤ ts.length) (h2 : ts.length = vs.length) : ((ts.zip vs).take k).length = k := by rw [List.length_take, List.length_zip]; omega
theorem one_row (t v : Int) : ∀ u ∈ [Value.int .i64 t, .int .i64 v], u.oneCell' = true := by
  intro u hu
  simp at hu
  rcases hu with rfl | rfl <;> rfl

set_option maxRecDepth 100000 in
set_option maxHeartbeats 6400000 in
theorem specBlockUnpack (s : List UInt8) (w : World) (hl : s.length ≤ 1000000000) : Calls Try.prog 14 #[.string (S s)] w (RowLU w (buO s)) := by
  obtain ⟨i0, hi_, hz0, hz1, hz2⟩ := info_parts info_row
  match s, hl with
  | [], hl =>
    obtain ⟨t1, t2⟩ := S_empty [] rfl
    have F := hide (rowLU_none bu_nil (Below.refl w.heap.size w))
    go_enter Try.func14, Try.ntmps14
    go_wp2
    exact bodyPost_ret (v := .tuple #[.slice (some ⟨w.heap.size, 0, none⟩) 0 0, .bool false]) (by simp [results, Try.results14, go_sem]) rfl F.out
  | a :: r, hl =>
    obtain ⟨t1, t2⟩ := S_full (a :: r) (by simp)
    simp only [List.length_cons] at hl
    have hz : (S (a :: r)).size = r.length + 1 := S_size _
    have hS : (S (a :: r))[0]'(by rw [hz]; omega) = a := rfl
    have ha := PN.toNat_lt a
    by_cases h0 : a.toNat ≤ r.length
    · have e1 : (S (a :: r)).extract 1 (a.toNat + 1) = S (r.take a.toNat) := by simp [S_mid]
      have e2 : (S (a :: r)).extract (a.toNat + 1) (r.length + 1) = S (r.drop a.toNat) := by
        rw [S_mid]
        have : (a :: r).drop (a.toNat + 1) = r.drop a.toNat := by rfl
        rw [this, List.take_of_length_le (by simp <;> omega)]
      have e3 : ((a.toNat : Int) + 1).toNat = a.toNat + 1 := by omega
      have hsl : ∀ w : World, (Instr.slice 9 (.string (S (a :: r))) (some (.int .i64 1)) (some (.int .i64 ((a.toNat : Int) + 1))) none).run Try.prog w = .ok (.string (S (r.take a.toNat))) w := fun w => by
        rw [run_slice_string w 9 _ .i64 .i64 1 ((a.toNat : Int) + 1) Try.underlying9 (by omega) (by omega) (by rw [hz]; omega), e3, show (1 : Int).toNat = 1 from rfl, e1]
      have hb := (decide_eq_false (by omega) : decide ((r.length : Int) + 1 < (a.toNat : Int) + 1) = false)
      obtain ⟨L1, K1, h1⟩ : ∃ L K, unpO (r.take a.toNat) = (L, K) := ⟨_, _, rfl⟩
      obtain ⟨L2, K2, h2⟩ : ∃ L K, unpO (r.drop a.toNat) = (L, K) := ⟨_, _, rfl⟩
      have l1 : L1.length ≤ 24 := by have := unpO_lenU (r.take a.toNat); rw [h1] at this; exact this
      have l2 : L2.length ≤ 24 := by have := unpO_lenU (r.drop a.toNat); rw [h2] at this; exact this
      have H1 := hide h1
      have H2 := hide h2
      clear h1 h2
      have C1 := hide (calls_pairU (specNumsUnpack (r.take a.toNat) w (by simp; omega)) H1.out)
      go_enter Try.func14, Try.ntmps14
      go_wp2_with fail
      refine C1.out.mono ?_
      rintro e w1 ⟨A1, d1, rfl, o1, b1⟩
      have B1 := hide b1
      have D1 := hide (OwB.of o1 b1.size)
      have s1 := b1.size
      clear o1 b1 C1
      have C2 := hide (calls_pairU (specNumsUnpack (r.drop a.toNat) w1 (by simp; omega)) H2.out)
      go_wp2_with fail
      refine C2.out.mono ?_
      rintro e W ⟨A2, d2, rfl, o2, b2⟩
      have B2 := hide (below_keep B1.out b2)
      have E1 := hide (D1.out.keep b2)
      have E2 := hide (OwB.of o2 b2.size)
      have s2 := B2.out.size
      clear o2 b2 C2 D1 B1 e1 e2 e3 hsl
      cases K1
      · have F := hide (rowLU_none (bu_parts H1.out H2.out (.inl rfl)) B2.out)
        go_wp2
        exact bodyPost_ret (v := .tuple #[.slice (some ⟨W.heap.size, 0, none⟩) 0 0, .bool false]) (by simp [results, Try.results14, go_sem]) rfl F.out
      · cases K2
        · have F := hide (rowLU_none (bu_parts H1.out H2.out (.inr (.inl rfl))) B2.out)
          go_wp2
          exact bodyPost_ret (v := .tuple #[.slice (some ⟨W.heap.size, 0, none⟩) 0 0, .bool false]) (by simp [results, Try.results14, go_sem]) rfl F.out
        · by_cases hn : L1.length = L2.length
          · have HE := hide (bu_end h0 H1.out H2.out hn)
            have hne : ((L1.length : Int) != (L2.length : Int)) = false := by rw [hn]; simp
            have hnn := hide hn
            have hle1 : L1.length ≤ L2.length := by omega
            have hle2 : L2.length ≤ L1.length := by omega
            clear hn
            have hO := hide (own_emptyR W _ (Nat.le_refl _))
            clear H1 H2
            go_wp2
            go_loopw [9, 10] (fun s i wr => ∃ (k : Nat) (A : Option Addr) (c : Nat), k ≤ L1.length ∧ i = .int .i64 k ∧ s = .slice A k c ∧ Hid (wr.ownsRow W.heap.size 32 2 (.slice A k c) k (rows ((L1.zip L2).take k))) ∧ Hid (Below W.heap.size W wr)) (fun _ i _ => L1.length - (intOf i).toNat)
            case atStart => exact ⟨0, _, _, Nat.zero_le _, rfl, rfl, hO, hide ((Below.refl _ _).alloc (Nat.le_refl _) _)⟩
            case round =>
              clear hO
              obtain ⟨k, A, c, hk, rfl, rfl, ho, hbel⟩ := hrel
              have hsz := hbel.out.size
              by_cases hlt : k < L1.length
              · obtain ⟨b, off, rfl, hbb, hc1⟩ := (E1.out.keep hbel.out).rd.int rfl hlt
                obtain ⟨b', off', rfl, hbb', hc2⟩ := (E2.out.keep hbel.out).rd.int rfl (by omega : k < L2.length)
                have T := hide (zip_snoc (ts := L1) (vs := L2) hlt (by omega))
                generalize L1.getD k 0 = t at hc1 T
                generalize L2.getD k 0 = v at hc2 T
                have hlt2 : (k : Int) < (L2.length : Int) := by omega
                have HO : Hid (((wr.alloc (.cells #[.int .i64 t, .int .i64 v] 32)).drew).ownsRow W.heap.size 32 2 (.slice A k c) k (rows ((L1.zip L2).take k))) := hide (ho.out.alloc _)
                have HX : Hid (Rd ((wr.alloc (.cells #[.int .i64 t, .int .i64 v] 32)).drew) (wr.heap.size + 1) 2 (some ⟨wr.heap.size, 0, none⟩) 1 [.int .i64 t, .int .i64 v]) := hide (rd_lit wr [.int .i64 t, .int .i64 v] _ 2 1 rfl)
                have HB0 : Hid (Below W.heap.size W ((wr.alloc (.cells #[.int .i64 t, .int .i64 v] 32)).drew)) := hide (hbel.out.alloc hsz _).drew
                have hone := hide (one_row t v)
                go_wp2
                go_region_law (first
                  | (refine step_app rfl (.tmp 62) (.tmp 72) 25 rfl W.heap.size 32 i0 (.agg #[.int .i64 0, .int .i64 0]) 2 16 Try.underlying25 hi_ hz0 hz1 hz2 rfl (by decide) (.slice A k c) k (rows ((L1.zip L2).take k)) (by simp [Act.eval]) HO.out (wr.heap.size + 1) (some ⟨wr.heap.size, 0, none⟩) 1 1 [.int .i64 t, .int .i64 v] (by simp [Act.eval]) HX.out hone.out (by unfold maxLen; omega) (by omega) (by simp <;> omega) ?_; intro A5 c5 w5 o5 b5 _))
                all_goals
                  rw [T.out] at o5
                  have O5 := hide o5
                  have B5 := hide (HB0.out.trans b5)
                  clear o5 b5 HO HX HB0 hone
                  simp [Act.put]
                  go_wp2
                  go_roundw
                  case rel => exact ⟨k + 1, A5, c5, by omega, by go_num, rfl, O5, B5⟩
                  case measure => simp [intOf]; omega
              · obtain rfl : k = L1.length := by omega
                have e1 : (L1.zip L2).take L1.length = L1.zip L2 := List.take_of_length_le (by rw [List.length_zip]; omega)
                have zl : (L1.zip L2).length = L1.length := by rw [List.length_zip]; omega
                rw [e1] at ho
                have B3 := hide (below_keep B2.out hbel.out)
                have FY : Hid (∀ wx, Below wr.heap.size wr wx → buO (a :: r) = (L1.zip L2, true) → RowLU w (buO (a :: r)) (.returned (.tuple #[.slice A L1.length c, .bool true])) wx) := hide (fun wx hx hh => by
                  rw [hh]
                  refine ⟨A, c, by rw [zl], ?_, below_keep B3.out hx⟩
                  rw [zl]
                  exact own_base (own_below ho.out hx) s2)
                have C3 := hide (specBlockOk A _ c (L1.zip L2) _ wr zl (Rd.of_own ho.out) (by omega) (Nat.le_refl _))
                clear ho hbel hne hlt e1 hle1 hle2
                go_wp2_with fail
                refine C3.out.mono ?_
                rintro e w5 ⟨rfl, b5⟩
                have G5 := hide (fun h => FY.out w5 b5 h)
                have B5 := hide (below_keep B3.out b5)
                clear b5 C3 FY
                cases hp : PB.blockB (L1.zip L2)
                · have F := hide (rowLU_none (HE.out.2 hp) B5.out)
                  clear hp G5 HE
                  go_wp2
                  exact bodyPost_ret (v := .tuple #[.slice (some ⟨w5.heap.size, 0, none⟩) 0 0, .bool false]) (by simp [results, Try.results14, go_sem]) rfl F.out
                · have F := hide (G5.out (HE.out.1 hp))
                  clear hp G5 HE
                  go_wp2
                  exact bodyPost_ret (v := .tuple #[.slice A L1.length c, .bool true]) (by simp [results, Try.results14, go_sem]) rfl F.out
          · have F := hide (rowLU_none (bu_parts H1.out H2.out (.inr (.inr hn))) B2.out)
            have hne : ((L1.length : Int) != (L2.length : Int)) = true := by simp; omega
            go_wp2
            exact bodyPost_ret (v := .tuple #[.slice (some ⟨W.heap.size, 0, none⟩) 0 0, .bool false]) (by simp [results, Try.results14, go_sem]) rfl F.out
    · have F := hide (rowLU_none (bu_short (a := a) (r := r) (by omega)) (Below.refl w.heap.size w))
      have hb := (decide_eq_true (by omega) : decide ((r.length : Int) + 1 < (a.toNat : Int) + 1) = true)
      go_enter Try.func14, Try.ntmps14
      go_wp2
      exact bodyPost_ret (v := .tuple #[.slice (some ⟨w.heap.size, 0, none⟩) 0 0, .bool false]) (by simp [results, Try.results14, go_sem]) rfl F.out

set_option maxRecDepth 100000 in
set_option maxHeartbeats 6400000 in
theorem implBlockUnpack (s : List UInt8) (w : World) (hl : s.length ≤ 1000000000) : Calls Try.prog 15 #[.string (S s)] w (RowLU w (buO s)) := by
  obtain ⟨i0, hi_, hz0, hz1, hz2⟩ := info_parts info_row
  match s, hl with
  | [], hl =>
    obtain ⟨t1, t2⟩ := S_empty [] rfl
    have F := hide (rowLU_none bu_nil (Below.refl w.heap.size w))
    go_enter Try.func15, Try.ntmps15
    go_wp2
    exact bodyPost_ret (v := .tuple #[.slice (some ⟨w.heap.size, 0, none⟩) 0 0, .bool false]) (by simp [results, Try.results15, go_sem]) rfl F.out
  | a :: r, hl =>
    obtain ⟨t1, t2⟩ := S_full (a :: r) (by simp)
    simp only [List.length_cons] at hl
    have hz : (S (a :: r)).size = r.length + 1 := S_size _
    have hS : (S (a :: r))[0]'(by rw [hz]; omega) = a := rfl
    have ha := PN.toNat_lt a
    by_cases h0 : a.toNat ≤ r.length
    · have e1 : (S (a :: r)).extract 1 (1 + a.toNat) = S (r.take a.toNat) := by simp [S_mid]
      have e2 : (S (a :: r)).extract (1 + a.toNat) (r.length + 1) = S (r.drop a.toNat) := by
        rw [S_mid]
        have : (a :: r).drop (1 + a.toNat) = r.drop a.toNat := by rw [Nat.add_comm]; rfl
        rw [this, List.take_of_length_le (by simp <;> omega)]
      have e3 : ((1 : Int) + (a.toNat : Int)).toNat = 1 + a.toNat := by omega
      have hsl : ∀ w : World, (Instr.slice 9 (.string (S (a :: r))) (some (.int .i64 1)) (some (.int .i64 ((1 : Int) + (a.toNat : Int)))) none).run Try.prog w = .ok (.string (S (r.take a.toNat))) w := fun w => by
        rw [run_slice_string w 9 _ .i64 .i64 1 ((1 : Int) + (a.toNat : Int)) Try.underlying9 (by omega) (by omega) (by rw [hz]; omega), e3, show (1 : Int).toNat = 1 from rfl, e1]
      have hb := (decide_eq_false (by omega) : decide ((r.length : Int) < (a.toNat : Int)) = false)
      obtain ⟨L1, K1, h1⟩ : ∃ L K, unpO (r.take a.toNat) = (L, K) := ⟨_, _, rfl⟩
      obtain ⟨L2, K2, h2⟩ : ∃ L K, unpO (r.drop a.toNat) = (L, K) := ⟨_, _, rfl⟩
      have l1 : L1.length ≤ 24 := by have := unpO_lenU (r.take a.toNat); rw [h1] at this; exact this
      have l2 : L2.length ≤ 24 := by have := unpO_lenU (r.drop a.toNat); rw [h2] at this; exact this
      have H1 := hide h1
      have H2 := hide h2
      clear h1 h2
      have C1 := hide (calls_pairU (implNumsUnpack (r.take a.toNat) w (by simp; omega)) H1.out)
      go_enter Try.func15, Try.ntmps15
      go_wp2_with fail
      refine C1.out.mono ?_
      rintro e w1 ⟨A1, d1, rfl, o1, b1⟩
      have B1 := hide b1
      have D1 := hide (OwB.of o1 b1.size)
      have s1 := b1.size
      clear o1 b1 C1
      have C2 := hide (calls_pairU (implNumsUnpack (r.drop a.toNat) w1 (by simp; omega)) H2.out)
      go_wp2_with fail
      refine C2.out.mono ?_
      rintro e W ⟨A2, d2, rfl, o2, b2⟩
      have B2 := hide (below_keep B1.out b2)
      have E1 := hide (D1.out.keep b2)
      have E2 := hide (OwB.of o2 b2.size)
      have s2 := B2.out.size
      clear o2 b2 C2 D1 B1 e1 e2 e3 hsl
      cases K1
      · have F := hide (rowLU_none (bu_parts H1.out H2.out (.inl rfl)) B2.out)
        go_wp2
        exact bodyPost_ret (v := .tuple #[.slice (some ⟨W.heap.size, 0, none⟩) 0 0, .bool false]) (by simp [results, Try.results15, go_sem]) rfl F.out
      · cases K2
        · have F := hide (rowLU_none (bu_parts H1.out H2.out (.inr (.inl rfl))) B2.out)
          go_wp2
          exact bodyPost_ret (v := .tuple #[.slice (some ⟨W.heap.size, 0, none⟩) 0 0, .bool false]) (by simp [results, Try.results15, go_sem]) rfl F.out
        · by_cases hn : L1.length = L2.length
          · have HE := hide (bu_end2 h0 H1.out H2.out hn)
            have hne : ((L1.length : Int) != (L2.length : Int)) = false := by rw [hn]; simp
            have hnn := hide hn
            have hle1 : L1.length ≤ L2.length := by omega
            have hle2 : L2.length ≤ L1.length := by omega
            clear hn
            have hO := hide (own_emptyR W _ (Nat.le_refl _))
            clear H1 H2
            go_wp2
            go_loopw [8, 60] (fun s i wr => ∃ (k : Nat) (A : Option Addr) (c : Nat), k ≤ L1.length ∧ i = .int .i64 k ∧ s = .slice A k c ∧ Hid (wr.ownsRow W.heap.size 32 2 (.slice A k c) k (rows ((L1.zip L2).take k))) ∧ Hid (Below W.heap.size W wr)) (fun _ i _ => L1.length - (intOf i).toNat)
            case atStart => exact ⟨0, _, _, Nat.zero_le _, rfl, rfl, hO, hide ((Below.refl _ _).alloc (Nat.le_refl _) _)⟩
            case round =>
              clear hO
              obtain ⟨k, A, c, hk, rfl, rfl, ho, hbel⟩ := hrel
              have hsz := hbel.out.size
              by_cases hlt : k < L1.length
              · obtain ⟨b, off, rfl, hbb, hc1⟩ := (E1.out.keep hbel.out).rd.int rfl hlt
                obtain ⟨b', off', rfl, hbb', hc2⟩ := (E2.out.keep hbel.out).rd.int rfl (by omega : k < L2.length)
                have T := hide (zip_snoc (ts := L1) (vs := L2) hlt (by omega))
                generalize L1.getD k 0 = t at hc1 T
                generalize L2.getD k 0 = v at hc2 T
                have hlt2 : (k : Int) < (L2.length : Int) := by omega
                have ho' := ho.out
                go_wp2_with (first | (at_builtin; refine wpList_app _ rfl (.tmp 65) (.tmp 72) 25 rfl W.heap.size 32 i0 (.agg #[.int .i64 0, .int .i64 0]) 2 16 Try.underlying25 hi_ hz0 hz1 hz2 rfl (by decide) _ _ _ rfl (ho'.alloc _) (wr.heap.size + 1) _ _ _ [.int .i64 t, .int .i64 v] rfl (rd_lit wr [.int .i64 t, .int .i64 v] _ 2 1 rfl) (one_row _ _) (by unfold maxLen; omega) (by omega) (by simp <;> omega) ?_; intro A4 c4 w4 o4 b4))
                rw [T.out] at o4
                have O4 := hide o4
                have HB := hide (hbel.out.trans (((Below.refl _ _).alloc hsz _).trans b4))
                clear o4 b4 ho' ho hbel
                go_wp2
                go_roundw
                case rel => exact ⟨k + 1, A4, c4, by omega, by go_num, rfl, O4, HB⟩
                case measure => simp [intOf]; omega
              · obtain rfl : k = L1.length := by omega
                have e1 : (L1.zip L2).take L1.length = L1.zip L2 := List.take_of_length_le (by rw [List.length_zip]; omega)
                have zl : (L1.zip L2).length = L1.length := by rw [List.length_zip]; omega
                rw [e1] at ho
                have B3 := hide (below_keep B2.out hbel.out)
                have FY : Hid (∀ wx, Below wr.heap.size wr wx → buO (a :: r) = (L1.zip L2, true) → RowLU w (buO (a :: r)) (.returned (.tuple #[.slice A L1.length c, .bool true])) wx) := hide (fun wx hx hh => by
                  rw [hh]
                  refine ⟨A, c, by rw [zl], ?_, below_keep B3.out hx⟩
                  rw [zl]
                  exact own_base (own_below ho.out hx) s2)
                have C3 := hide (implBlockPack A _ c (L1.zip L2) _ wr zl (Rd.of_own ho.out) (by omega) (Nat.le_refl _))
                clear ho hbel hne hlt e1 hle1 hle2
                go_wp2_with fail
                refine C3.out.mono ?_
                rintro e w5 ⟨rfl, b5⟩
                have G5 := hide (fun h => FY.out w5 b5 h)
                have B5 := hide (below_keep B3.out b5)
                clear b5 C3 FY
                by_cases hp : bpk (L1.zip L2) = a :: r
                · have F := hide (G5.out (HE.out.1 hp))
                  have hq : ((S (bpk (L1.zip L2))).toList == (S (a :: r)).toList) = true := by rw [hp]; exact beq_self_eq_true _
                  clear hp G5 HE
                  go_wp2
                  exact bodyPost_ret (v := .tuple #[.slice A L1.length c, .bool true]) (by simp [results, Try.results15, go_sem]) rfl F.out
                · have F := hide (rowLU_none (HE.out.2 hp) B5.out)
                  have hq : ((S (bpk (L1.zip L2))).toList == (S (a :: r)).toList) = false := by rw [S_toList, S_toList]; exact beq_eq_false_iff_ne.2 hp
                  clear hp G5 HE
                  go_wp2
                  exact bodyPost_ret (v := .tuple #[.slice (some ⟨w5.heap.size, 0, none⟩) 0 0, .bool false]) (by simp [results, Try.results15, go_sem]) rfl F.out
          · have F := hide (rowLU_none (bu_parts H1.out H2.out (.inr (.inr hn))) B2.out)
            have hne : ((L1.length : Int) != (L2.length : Int)) = true := by simp; omega
            go_wp2
            exact bodyPost_ret (v := .tuple #[.slice (some ⟨W.heap.size, 0, none⟩) 0 0, .bool false]) (by simp [results, Try.results15, go_sem]) rfl F.out
    · have F := hide (rowLU_none (bu_short (a := a) (r := r) (by omega)) (Below.refl w.heap.size w))
      have hb := (decide_eq_true (by omega) : decide ((r.length : Int) < (a.toNat : Int)) = true)
      go_enter Try.func15, Try.ntmps15
      go_wp2
      exact bodyPost_ret (v := .tuple #[.slice (some ⟨w.heap.size, 0, none⟩) 0 0, .bool false]) (by simp [results, Try.results15, go_sem]) rfl F.out

end Go.Proofs.Ytlalldjlgaldeaa
