/-
  WALKS: the law BlockForm.
-/
import Derived.Test.YthhaekeiepphbaaDrawRows
import Derived.Test.YthhaekeiepphbaaTail
import Derived.Test.YthhaekeiepphbaaPlainPut2
import Derived.Test.YthhaekeiepphbaaAppStep
import Derived.OpenShut
import Derived.Deep.Cut
import Derived.Deep.CutRange
namespace Go.Proofs.Ythhaekeiepphbaa
set_option linter.unusedVariables false
set_option linter.unusedSimpArgs false
open Go.RowKit

theorem bytes_ofF {zs : List Int} (h : ∀ z ∈ zs, (Lit.int .u8 z).wf = true) : ByteL zs := fun z hz => bounds_u8 (h z hz)
theorem less_ok {l : List PB.Row} (h : PB.blockB l = true) (i : Nat) : PB.blockB (l.take i ++ l.drop (i + 1)) = true := by
  rw [← List.eraseIdx_eq_take_drop_succ]
  obtain ⟨h1, h2, h3⟩ := PB.blockB_iff.1 h
  refine PB.blockB_iff.2 ⟨fun r hr => h1 r (List.mem_of_mem_eraseIdx hr), h2.sublist (List.eraseIdx_sublist _ _), Nat.le_trans (List.Sublist.length_le (List.eraseIdx_sublist _ _)) h3⟩
theorem twice_bad {l : List PB.Row} {x : PB.Row} (hx : x ∈ l) : PB.blockB (l ++ [x]) = false := by
  cases hb : PB.blockB (l ++ [x])
  · rfl
  · have h2 := (PB.blockB_iff.1 hb).2.1
    have := (List.pairwise_append.1 h2).2.2 x hx x (by simp)
    omega
theorem form_asc {l : List PB.Row} (h : PB.blockB l = true) {k : Nat} (hk : k + 1 < l.length) : (l.getD k (0, 0)).1 < (l.getD (k + 1) (0, 0)).1 := by
  have h2 := (PB.blockB_iff.1 h).2.1
  rw [PB.getD_row hk, PB.getD_row (by omega)]
  exact List.pairwise_iff_getElem.1 h2 k (k + 1) (by omega) hk (by omega)

theorem getElem?_app {α : Type} {a b : List α} {j : Nat} {u : α} (h : a[j]? = some u) : (a ++ b)[j]? = some u := by
  have := (List.getElem?_eq_some_iff.1 h).1
  rw [List.getElem?_append_left this]; exact h
theorem Rd.take_rows {w : World} {B : Nat} {A : Option Addr} {n : Nat} {l : List PB.Row} (h : Rd w B 2 A n (rows l)) (hl : l.length = n) {k : Nat} (hk : k ≤ n) : Rd w B 2 A k (rows (l.take k)) := by
  refine ⟨by rw [rows_len]; simp; omega, fun h0 => ?_⟩
  obtain ⟨b, off, e, hb, hc⟩ := h.2 (by omega)
  refine ⟨b, off, e, hb, fun j u hu => hc j u ?_⟩
  have h1 : rows l = rows (l.take k) ++ rows (l.drop k) := by rw [← rows_append, List.take_append_drop]
  rw [h1]
  exact getElem?_app hu
theorem Rd.keep2 {w w' : World} {B b g size n : Nat} {xs : List Value} {n' c' : Nat} (h : Rd w B size (some ⟨b, 0, none⟩) n xs) (k : w.grownBy w' (Value.slice (some ⟨g, 0, none⟩) n' c').ownBlock) (hne : b ≠ g) : Rd w' B size (some ⟨b, 0, none⟩) n xs := by
  refine ⟨h.1, fun hn => ?_⟩
  obtain ⟨b', off, e, hb, hc⟩ := h.2 hn
  injection e with e
  injection e with e1 e2 _
  subst e1 e2
  exact ⟨_, _, rfl, hb, fun j u hu => k.cell (hc j u hu) (by simp only [Value.ownBlock]; intro e; injection e with e; exact hne e)⟩
theorem Rd.drop_rows {w : World} {B b off : Nat} {n : Nat} {l : List PB.Row} (h : Rd w B 2 (some ⟨b, off, none⟩) n (rows l)) (hl : l.length = n) {k : Nat} (hk : k ≤ n) : Rd w B 2 (some ⟨b, off + k * 2, none⟩) (n - k) (rows (l.drop k)) := by
  refine ⟨by rw [rows_len]; simp; omega, fun h0 => ?_⟩
  obtain ⟨b', off', e, hb, hc⟩ := h.2 (by omega)
  injection e with e
  injection e with e1 e2 _
  subst e1 e2
  refine ⟨_, _, rfl, hb, fun j u hu => ?_⟩
  have h1 : rows l = rows (l.take k) ++ rows (l.drop k) := by rw [← rows_append, List.take_append_drop]
  have h2 : (rows (l.take k)).length = k * 2 := by rw [rows_len]; simp; omega
  have := hc (k * 2 + j) u (by rw [h1, List.getElem?_append_right (by omega), h2, Nat.add_sub_cancel_left]; exact hu)
  rwa [← Nat.add_assoc] at this

set_option maxRecDepth 100000 in
set_option maxHeartbeats 3200000 in
theorem fnBlockForm_walk (w : World) (a0 : Option Addr) (len0 cap0 : Nat) (z0 : List Int) (hz0 : z0.length = len0) (rd0 : Rd w w.heap.size 1 a0 len0 (z0.map (Value.int .u8))) (wf0 : ∀ z ∈ z0, (Lit.int .u8 z).wf = true) (lc0 : len0 ≤ cap0) (cm0 : cap0 ≤ maxLen) (a1 : Option Addr) (len1 cap1 : Nat) (z1 : List Int) (hz1 : z1.length = len1) (rd1 : Rd w w.heap.size 1 a1 len1 (z1.map (Value.int .u8))) (wf1 : ∀ z ∈ z1, (Lit.int .u8 z).wf = true) (lc1 : len1 ≤ cap1) (cm1 : cap1 ≤ maxLen) :
    Calls Try.prog 5 #[.slice a0 len0 cap0, .slice a1 len1 cap1] w fun e w' => e = .returned (.bool true) ∧ Below w.heap.size w w' := by
  have HD := hide (drawBlockOk_any a0 len0 cap0 z0 w hz0 rd0 (bytes_ofF wf0) lc0 cm0)
  clear rd0 wf0 hz0 rd1 wf1 hz1
  unfold maxLen at cm0 cm1
  by_cases hl : 1048576 < len0
  · clear HD
    go_enter Try.func5, Try.ntmps5
    go_wp2
    go_ret
    exact ⟨rfl, Below.refl _ _⟩
  by_cases hl1 : 1048576 < len1
  · clear HD
    go_enter Try.func5, Try.ntmps5
    go_wp2
    go_ret
    exact ⟨rfl, Below.refl _ _⟩
  · obtain ⟨i0, hi_, hzz0, hzz1, hzz2⟩ := info_parts info_row
    go_enter Try.func5, Try.ntmps5
    have BW := hide (Below.refl w.heap.size w)
    have C1 := HD
    go_wp2_with fail
    refine C1.out.mono ?_
    rintro e w1 ⟨l, hll, A1, d1, rfl, o, b⟩
    have s1 := b.size
    replace BW := hide (below_keep BW.out b)
    have DB := hide (OwB.of o b.size)
    clear b C1
    clear o
    have C2 := hide (implBlockOk A1 _ d1 l _ w1 rfl DB.out.rd (by omega) DB.out.top)
    go_wp2_with fail
    refine C2.out.mono ?_
    rintro e w2 ⟨rfl, b⟩
    have s2 := b.size
    replace BW := hide (below_keep BW.out b)
    replace DB := hide (DB.out.keep b)
    clear b C2
    have C3 := hide (specBlockOk A1 _ d1 l _ w2 rfl DB.out.rd (by omega) DB.out.top)
    go_wp2_with fail
    refine C3.out.mono ?_
    rintro e w3 ⟨rfl, b⟩
    have s3 := b.size
    replace BW := hide (below_keep BW.out b)
    replace DB := hide (DB.out.keep b)
    clear b C3
    cases hb : PB.blockB l
    · have C4 := hide (specBlockOk A1 _ d1 l _ w3 rfl DB.out.rd (by omega) DB.out.top)
      rw [hb] at C4
      go_wp2_with fail
      refine C4.out.mono ?_
      rintro e w4 ⟨rfl, b⟩
      have s4 := b.size
      replace BW := hide (below_keep BW.out b)
      replace DB := hide (DB.out.keep b)
      clear b C4
      go_wp2
      go_ret
      exact ⟨rfl, BW.out⟩
    · have HB := hide hb
      have hl24 := (PB.blockB_iff.1 hb).2.2
      clear hb
      go_wp2
      go_loopw [7] (fun i wr => ∃ k : Nat, (k + 1 ≤ l.length ∨ k = 0) ∧ i = .int .i64 ((k : Int) + 1) ∧ Below w3.heap.size w3 wr) (fun i _ => l.length - (intOf i).toNat)
      case atStart => exact ⟨0, .inr rfl, rfl, Below.refl _ _⟩
      case round =>
        obtain ⟨k, hk, rfl, hbel⟩ := hrel
        by_cases hlt : k + 1 < l.length
        · obtain ⟨b, off, rfl, hb, hc⟩ := (DB.out.rd.below (hbel.mono DB.out.top)).row rfl hlt
          obtain ⟨c1, c2⟩ := hc (k + 1) hlt
          obtain ⟨c3, c4⟩ := hc k (by omega)
          have hA := form_asc HB.out hlt
          generalize (l.getD k (0, 0)).1 = p at c3 hA
          generalize (l.getD (k + 1) (0, 0)).1 = t at c1 hA
          clear hc c2 c4
          have HBL := hide hbel
          have hsz := hbel.size
          have e1 := ext_cell (B := wr.heap.size) c1 (Nat.le_refl _)
          have e2 := ext_cell (B := wr.heap.size) c3 (Nat.le_refl _)
          have hpt : decide (t ≤ p) = false := decide_eq_false (by omega)
          have ha1 : IntKind.i64.wrap (k : Int) = (k : Int) := IntWalk.i64_in _ (by omega)
          have hj2 : (0 : Int) ≤ (k : Int) ∧ (k : Int) < (l.length : Int) := by omega
          have hj3 : (0 : Int) ≤ (k : Int) + 1 ∧ (k : Int) + 1 < (l.length : Int) := by omega
          have hj4 : ((k : Int) + 1).toNat = k + 1 := by omega
          clear hbel hk
          go_wp2
          refine wp_region_ext wr.heap.size (by kernel_rfl) (by kernel_rfl) ?_
          repeat (go_big_quiet_step (fail))
          refine wpQuiet_nil ?_
          intro _ hw'
          obtain ⟨x, hw''⟩ := hw'
          subst hw''
          clear e1 e2 ha1 hj4
          go_wp2
          go_roundw
          case rel => exact ⟨k + 1, by omega, by go_num, HBL.out.trans (x.is.mono hsz)⟩
          case measure => simp [intOf]; omega
        · clear hk
          have s5 := hbel.size
          replace BW := hide (below_keep BW.out hbel)
          replace DB := hide (DB.out.keep hbel)
          clear hbel
          by_cases hn0 : l.length = 0
          · have hz : ((l.length : Int) == 0) = true := by rw [hn0]; rfl
            go_wp2
            go_ret
            exact ⟨rfl, BW.out⟩
          · have hz : ((l.length : Int) == 0) = false := beq_eq_false_iff_ne.2 (by omega)
            obtain ⟨i, hi⟩ : ∃ i : Nat, i = len1 % l.length := ⟨_, rfl⟩
            have hil : i < l.length := by rw [hi]; exact Nat.mod_lt _ (by omega)
            have hir : (len1 : Int).tmod (l.length : Int) = (i : Int) := by rw [hi, Int.tmod_eq_emod_of_nonneg (by omega)]; exact (Int.natCast_emod _ _).symm
            clear hi
            obtain ⟨g, rfl, hg0⟩ : ∃ g, A1 = some ⟨g, 0, none⟩ ∧ g < wr.heap.size := by
              rcases DB.out.own.2 with ⟨_, h0⟩ | ⟨g, cap, cur, e1, hg, hgg, _⟩
              · omega
              · injection e1 with e1
                subst e1
                exact ⟨g, rfl, (Array.getElem?_eq_some_iff.1 hgg).1⟩
            obtain ⟨_, _, _, _, hld, hdm⟩ : ∃ cap cur, cap = d1 ∧ cur = l ∧ l.length ≤ d1 ∧ d1 ≤ maxLen := by
              rcases DB.out.own.2 with ⟨_, h0⟩ | ⟨g, cap, cur, e1, hg, hgg, h5, h6, _⟩
              · omega
              · simp only [Value.slice.injEq] at e1
                obtain ⟨_, _, rfl⟩ := e1
                exact ⟨_, _, rfl, rfl, h5, h6⟩
            unfold maxLen at hdm
            obtain ⟨A2, hA2⟩ : ∃ A2, (if d1 = i + 1 then some ⟨g, 0, none⟩ else some ⟨g, (i + 1) * 2, none⟩ : Option Addr) = A2 := ⟨_, rfl⟩
            have hO : (wr.alloc (.cells #[] 32)).ownsRow wr.heap.size 32 2 (.slice (some ⟨wr.heap.size, 0, none⟩) 0 0) 0 [] := World.ownsRow_lit wr #[] 0 (Nat.le_refl _) (Nat.zero_le _) rfl
            have hB1 : Below wr.heap.size wr (wr.alloc (.cells #[] 32)) := (Below.refl _ _).alloc (Nat.le_refl _) _
            have hR := (DB.out.rd.more DB.out.top)
            have hX : Rd wr wr.heap.size 2 (some ⟨g, 0, none⟩) i (rows (l.take i)) := hR.take_rows rfl (by omega)
            have hY : Rd wr wr.heap.size 2 A2 (l.length - (i + 1)) (rows (l.drop (i + 1))) := by
              by_cases hd : d1 = i + 1
              · have h0 : l.length - (i + 1) = 0 := by omega
                have h1 : l.drop (i + 1) = [] := List.drop_of_length_le (by omega)
                rw [h0, h1]
                exact Rd.nil _ _ _ _
              · rw [if_neg hd] at hA2
                rw [← hA2]
                have := hR.drop_rows (k := i + 1) (off := 0) rfl (by omega)
                rwa [Nat.zero_add] at this
            have HX := hide ((hX.below hB1).drew)
            have HY := hide ((hY.below hB1).drew)
            have HW := hide ((hR.below hB1).drew)
            have HO := hide hO.drew
            have HB1 := hide (hB1.drew)
            have hone := hide (rows_one (l := l.take i))
            have hone' := hide (rows_one (l := l.drop (i + 1)))
            have hone2 := hide (rows_one (l := l))
            have hlt1 : (l.take i).length = i := by simp; omega
            have hlt2 : (l.drop (i + 1)).length = l.length - (i + 1) := by simp
            have hid : i ≤ d1 := by omega
            have hid1 : i + 1 ≤ d1 := by omega
            have hw1 : IntKind.i64.wrap ((i : Int) + 1) = (i : Int) + 1 := IntWalk.i64_in _ (by omega)
            have hw2 : ((i : Int) + 1).toNat = i + 1 := by omega
            have hw3 : (0 : Int) ≤ (i : Int) + 1 ∧ (i : Int) + 1 ≤ (l.length : Int) := by omega
            clear hX hY hO hB1 hR
            go_wp2
            go_cut [9] from 61 to 70 (fun v wx => ∃ A c, v = .slice A (i + (l.length - (i + 1))) c ∧ Hid (wx.ownsRow wr.heap.size 32 2 (.slice A (i + (l.length - (i + 1))) c) (i + (l.length - (i + 1))) (rows (l.take i ++ l.drop (i + 1)))) ∧ Below wr.heap.size wr wx)
            case first =>
              go_region_law (first
                | (refine step_app rfl (.tmp 61) (.tmp 64) 25 rfl wr.heap.size 32 i0 (.agg #[.int .i64 0, .int .i64 0]) 2 16 Try.underlying25 hi_ hzz0 hzz1 hzz2 rfl (by decide) (.slice (some ⟨wr.heap.size, 0, none⟩) 0 0) 0 (rows []) (by simp [Act.eval, Act.put]) HO.out wr.heap.size (some ⟨g, 0, none⟩) i d1 (rows (l.take i)) (by simp [Act.eval, Act.put]) HX.out hone.out (by unfold maxLen; omega) (by omega) (by simp) ?_; intro A4 c4 w4 o4 b4 g4)
                | (refine step_app rfl (.tmp 65) (.tmp 69) 25 rfl wr.heap.size 32 i0 (.agg #[.int .i64 0, .int .i64 0]) 2 16 Try.underlying25 hi_ hzz0 hzz1 hzz2 rfl (by decide) (.slice A4 (0 + i) c4) (0 + i) (rows [] ++ rows (l.take i)) (by simp [Act.eval, Act.put]) o4 wr.heap.size A2 (l.length - (i + 1)) (d1 - (i + 1)) (rows (l.drop (i + 1))) (by simp [Act.eval, Act.put, hA2]) (HY.out.below b4) hone'.out (by unfold maxLen; omega) (by omega) (Nat.le_trans (by simp) b4.size) ?_; intro A5 c5 w5 o5 b5 g5))
              all_goals (simp [Act.put]; go_wp2_with fail; go_meet)
              all_goals exact ⟨A5, c5, by simp, hide (by simpa [rows, rows_append] using o5), HB1.out.trans (b4.trans b5)⟩
            case rest =>
              obtain ⟨W1, hW1⟩ : ∃ W1, W1 = wc := ⟨_, rfl⟩
              subst hW1
              obtain ⟨A, c, rfl, ho, hbel⟩ := hcut
              clear HX HY HW HO HB1 hone hone' hw1 hw2 hw3 hlt1 hlt2 hA2 hid hid1
              have s6 := hbel.size
              have hO : (W1.alloc (.cells #[] 32)).ownsRow W1.heap.size 32 2 (.slice (some ⟨W1.heap.size, 0, none⟩) 0 0) 0 [] := World.ownsRow_lit W1 #[] 0 (Nat.le_refl _) (Nat.zero_le _) rfl
              have hB1 : Below W1.heap.size W1 (W1.alloc (.cells #[] 32)) := (Below.refl _ _).alloc (Nat.le_refl _) _
              have hR := ((DB.out.keep hbel).rd.more (DB.out.keep hbel).top)
              obtain ⟨b, off, e0, hgb, hcells⟩ := hR.row rfl hil
              obtain ⟨rfl, rfl⟩ : g = b ∧ 0 = off := by injection e0 with e0; injection e0 with h1 h2; exact ⟨h1, h2⟩
              obtain ⟨q1, q2⟩ := hcells i hil
              obtain ⟨y, hy⟩ : ∃ y, l.getD i (0, 0) = y := ⟨_, rfl⟩
              obtain ⟨t, v⟩ := y
              rw [hy] at q1 q2
              have HW := hide ((hR.below hB1).drew)
              have HB1 := hide (hB1.drew)
              have HO := hide hO.drew
              have HB2 := hide (((hB1.alloc (by simp) (.cells #[.int .i64 t, .int .i64 v] 32))).drew)
              have HO2 := hide (hO.alloc (.cells #[.int .i64 t, .int .i64 v] 32)).drew
              have HW2 := hide (((hR.below hB1).alloc (by simp) (.cells #[.int .i64 t, .int .i64 v] 32)).drew)
              have HL2 : Hid (Rd (((W1.alloc (.cells #[] 32)).alloc (.cells #[.int .i64 t, .int .i64 v] 32)).drew) (W1.heap.size + 1 + 1) 2 (some ⟨W1.heap.size + 1, 0, none⟩) 1 [.int .i64 t, .int .i64 v]) := hide (by have := rd_lit (W1.alloc (.cells #[] 32)) [.int .i64 t, .int .i64 v] 32 2 1 rfl; simpa using this.drew)
              have hB3 : Below W1.heap.size W1 ((W1.alloc (.cells #[.int .i64 t, .int .i64 v] 32)).alloc (.cells #[] 32)) := ((Below.refl _ _).alloc (Nat.le_refl _) _).alloc (by simp) _
              have HB3 := hide hB3.drew
              have HO3 : Hid (((W1.alloc (.cells #[.int .i64 t, .int .i64 v] 32)).alloc (.cells #[] 32)).drew.ownsRow W1.heap.size 32 2 (.slice (some ⟨W1.heap.size + 1, 0, none⟩) 0 0) 0 []) := hide (by have := World.ownsRow_lit (base := W1.heap.size) (e := 32) (size := 2) (W1.alloc (.cells #[.int .i64 t, .int .i64 v] 32)) #[] 0 (by simp) (Nat.zero_le _) rfl; have := this.drew; simpa using this)
              have HW3 := hide ((hR.below hB3).drew)
              have HL3 : Hid (Rd (((W1.alloc (.cells #[.int .i64 t, .int .i64 v] 32)).alloc (.cells #[] 32)).drew) (W1.heap.size + 1) 2 (some ⟨W1.heap.size, 0, none⟩) 1 [.int .i64 t, .int .i64 v]) := hide (((rd_lit W1 [.int .i64 t, .int .i64 v] 32 2 1 rfl).alloc (by simp) _).drew)
              have HYI := hide hy
              clear hB3
              have hB1x := hB1
              clear hO hB1 hR e0 hy hcells
              simp only [Nat.zero_add] at q1 q2
              have HQ1 := hide ((hB1x.drew.cell (p := ⟨g, i * 2, none⟩) (by show g < W1.heap.size; omega)).trans q1)
              have HQ2 := hide ((hB1x.drew.cell (p := ⟨g, i * 2 + 1, none⟩) (by show g < W1.heap.size; omega)).trans q2)
              clear hB1x
              go_wp2
              clear hld hdm
              go_cut [10] from 71 to 79 (fun s10 wx => ∃ A c, s10 = .slice A (l.length + 1) c ∧ Hid (wx.ownsRow W1.heap.size 32 2 (.slice A (l.length + 1) c) (l.length + 1) (rows (l ++ ([(t, v)] : List PB.Row)))) ∧ Below W1.heap.size W1 wx)
              case first =>
                go_region_law (first
                  | (refine step_app rfl (.tmp 71) (.tmp 72) 25 rfl W1.heap.size 32 i0 (.agg #[.int .i64 0, .int .i64 0]) 2 16 Try.underlying25 hi_ hzz0 hzz1 hzz2 rfl (by decide) (.slice (some ⟨W1.heap.size, 0, none⟩) 0 0) 0 (rows []) (by simp [Act.eval, Act.put]) HO.out W1.heap.size (some ⟨g, 0, none⟩) l.length d1 (rows l) (by simp [Act.eval, Act.put]) HW.out hone2.out (by unfold maxLen; omega) (by omega) (by simp) ?_; intro A4 c4 w4 o4 b4 g4; have k1 := (b4.cell (p := ⟨g, i * 2, none⟩) (by show g < W1.heap.size; omega)).trans HQ1.out; have k2 := (b4.cell (p := ⟨g, i * 2 + 1, none⟩) (by show g < W1.heap.size; omega)).trans HQ2.out; have s4 := b4.size; simp at s4)
                  | (refine step_app rfl (.tmp 73) (.tmp 78) 25 rfl W1.heap.size 32 i0 (.agg #[.int .i64 0, .int .i64 0]) 2 16 Try.underlying25 hi_ hzz0 hzz1 hzz2 rfl (by decide) (.slice A4 (0 + l.length) c4) (0 + l.length) (rows [] ++ rows l) (by simp [Act.eval, Act.put]) (o4.alloc (.cells #[.int .i64 t, .int .i64 v] 32)) (w4.heap.size + 1) (some ⟨w4.heap.size, 0, none⟩) 1 1 [.int .i64 t, .int .i64 v] (by simp [Act.eval, Act.put]) (rd_lit w4 [.int .i64 t, .int .i64 v] _ 2 1 rfl) (row_one _ _) (by unfold maxLen; omega) (by omega) (by simp; omega) ?_; intro A5 c5 w5 o5 b5 g5)
                  | (refine step_app rfl (.tmp 71) (.tmp 72) 25 rfl W1.heap.size 32 i0 (.agg #[.int .i64 0, .int .i64 0]) 2 16 Try.underlying25 hi_ hzz0 hzz1 hzz2 rfl (by decide) (.slice (some ⟨W1.heap.size, 0, none⟩) 0 0) 0 (rows []) (by simp [Act.eval, Act.put]) HO2.out W1.heap.size (some ⟨g, 0, none⟩) l.length d1 (rows l) (by simp [Act.eval, Act.put]) HW2.out hone2.out (by unfold maxLen; omega) (by omega) (by simp; omega) ?_; intro A4 c4 w4 o4 b4 g4; have L4 := HL2.out.keep2 g4 (by omega); have s4 := b4.size; simp at s4)
                  | (refine step_app rfl (.tmp 73) (.tmp 78) 25 rfl W1.heap.size 32 i0 (.agg #[.int .i64 0, .int .i64 0]) 2 16 Try.underlying25 hi_ hzz0 hzz1 hzz2 rfl (by decide) (.slice A4 (0 + l.length) c4) (0 + l.length) (rows [] ++ rows l) (by simp [Act.eval, Act.put]) o4 (W1.heap.size + 1 + 1) (some ⟨W1.heap.size + 1, 0, none⟩) 1 1 [.int .i64 t, .int .i64 v] (by simp [Act.eval, Act.put]) L4 (row_one _ _) (by unfold maxLen; omega) (by omega) (by omega) ?_; intro A5 c5 w5 o5 b5 g5)
                  | (refine step_app rfl (.tmp 71) (.tmp 72) 25 rfl W1.heap.size 32 i0 (.agg #[.int .i64 0, .int .i64 0]) 2 16 Try.underlying25 hi_ hzz0 hzz1 hzz2 rfl (by decide) (.slice (some ⟨W1.heap.size + 1, 0, none⟩) 0 0) 0 (rows []) (by simp [Act.eval, Act.put]) HO3.out W1.heap.size (some ⟨g, 0, none⟩) l.length d1 (rows l) (by simp [Act.eval, Act.put]) HW3.out hone2.out (by unfold maxLen; omega) (by omega) (by simp; omega) ?_; intro A4 c4 w4 o4 b4 g4; have L4 := HL3.out.keep2 g4 (by omega); have s4 := b4.size; simp at s4)
                  | (refine step_app rfl (.tmp 73) (.tmp 78) 25 rfl W1.heap.size 32 i0 (.agg #[.int .i64 0, .int .i64 0]) 2 16 Try.underlying25 hi_ hzz0 hzz1 hzz2 rfl (by decide) (.slice A4 (0 + l.length) c4) (0 + l.length) (rows [] ++ rows l) (by simp [Act.eval, Act.put]) o4 (W1.heap.size + 1) (some ⟨W1.heap.size, 0, none⟩) 1 1 [.int .i64 t, .int .i64 v] (by simp [Act.eval, Act.put]) L4 (row_one _ _) (by unfold maxLen; omega) (by omega) (by omega) ?_; intro A5 c5 w5 o5 b5 g5))
                all_goals (simp [Act.put]; go_wp2_with fail; go_meet)
                all_goals exact ⟨A5, c5, by simp, hide (by simpa [rows, rows_append] using o5), by first | exact HB1.out.trans ((b4.alloc (by omega) _).trans b5) | exact HB2.out.trans (b4.trans b5) | exact HB3.out.trans (b4.trans b5)⟩
              case rest =>
                obtain ⟨A', c', rfl, ho', hbel'⟩ := hcut
          
                have s7 := hbel'.size
                have O1 := hide ho
                have B9 := hide hbel
                clear HB1 HO HB2 HO2 HW2 HL2 HW HQ1 HQ2 hone2 HB3 HO3 HW3 HL3 ho
                replace BW := hide (below_keep BW.out hbel)
                replace DB := hide (DB.out.keep hbel)
                have OL := hide (OwB.of (w := wr) O1.out s6)
                replace BW := hide (below_keep BW.out hbel')
                replace DB := hide (DB.out.keep hbel')
                replace OL := hide (OL.out.keep hbel')
                have OT := hide (OwB.of (w := W1) ho'.out s7)
                have HLL : Hid (PB.blockB (l.take i ++ l.drop (i + 1)) = true) := hide (less_ok HB.out i)
                have HTT : Hid (PB.blockB (l ++ ([(t, v)] : List PB.Row)) = false) := hide (twice_bad (by rw [← HYI.out, PB.getD_row hil]; exact List.getElem_mem _))
                have hlen1 : (l.take i ++ l.drop (i + 1)).length = i + (l.length - (i + 1)) := by simp; omega
                have hlen2 : (l ++ ([(t, v)] : List PB.Row)).length = l.length + 1 := by simp
                clear O1 B9 ho' hbel hbel' HYI
                have C4 := hide (implBlockOk A _ c (l.take i ++ l.drop (i + 1)) _ _ hlen1 OL.out.rd (by omega) OL.out.top)
                rw [HLL.out] at C4
                go_wp2_with fail
                refine C4.out.mono ?_
                rintro e w4 ⟨rfl, b⟩
                have s4 := b.size
                replace BW := hide (below_keep BW.out b)
                replace DB := hide (DB.out.keep b)
                replace OL := hide (OL.out.keep b)
                replace OT := hide (OT.out.keep b)
                clear b C4
                have C5 := hide (implBlockOk A' _ c' (l ++ ([(t, v)] : List PB.Row)) _ _ hlen2 OT.out.rd (by omega) OT.out.top)
                rw [HTT.out] at C5
                go_wp2_with fail
                refine C5.out.mono ?_
                rintro e w5 ⟨rfl, b⟩
                have s5 := b.size
                replace BW := hide (below_keep BW.out b)
                replace DB := hide (DB.out.keep b)
                replace OL := hide (OL.out.keep b)
                replace OT := hide (OT.out.keep b)
                clear b C5
                have d3 : decide ((l.length : Int) ≤ 24) = true := decide_eq_true (by omega)
                go_wp2
                go_ret
                exact ⟨rfl, BW.out⟩

end Go.Proofs.Ythhaekeiepphbaa
