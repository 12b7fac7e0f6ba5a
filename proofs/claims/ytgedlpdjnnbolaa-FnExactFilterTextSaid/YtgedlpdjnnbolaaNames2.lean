/-
  WALKS: lists of tags: copied (toTagS), told apart (eqTagS), measured (szTagS).
-/
import Derived.Test.YtgedlpdjnnbolaaNames1
import Derived.Outline
namespace Go.Proofs.Ytgedlpdjnnbolaa
set_option linter.unusedVariables false
open Go.RowKit

theorem info_tag : (Try.prog.info? 27).map (fun i => (i.zero, i.size, i.bytes)) = some (some (.agg #[.string ⟨#[]⟩, .string ⟨#[]⟩]), 2, 32) := by kernel_rfl

set_option maxRecDepth 100000 in
theorem toTag_any (t v : List UInt8) (w : World) : Calls Try.prog 44 #[.agg #[.string (S t), .string (S v)]] w fun e w' => e = .returned (.agg #[.string (S t), .string (S v)]) ∧ Below w.heap.size w w' := by
  go_enter Try.func44, Try.ntmps44
  go_wp2
  exact bodyPost_ret (v := .agg #[.string (S t), .string (S v)]) (by simp [results, Try.results44, go_sem]) rfl ⟨rfl, (((Below.refl _ _).alloc (Nat.le_refl _) _).alloc (by simp) _).alloc (by simp; omega) _⟩

set_option maxRecDepth 100000 in
theorem eqTag_any (t v t' v' : List UInt8) (w : World) : Calls Try.prog 45 #[.agg #[.string (S t), .string (S v)], .agg #[.string (S t'), .string (S v')]] w (Bl w (decide ((t, v) = (t', v')))) := by
  by_cases h1 : t = t'
  · subst h1
    have hb1 : ((S t).toList == (S t).toList) = true := beq_self_eq_true _
    by_cases h2 : v = v'
    · subst h2
      have hb2 : ((S v).toList == (S v).toList) = true := beq_self_eq_true _
      go_enter Try.func45, Try.ntmps45
      go_wp2
      go_ret
      exact ⟨ret_bool (by simp), ((Below.refl _ _).alloc (Nat.le_refl _) _).alloc (by simp) _⟩
    · have hb : ((S v).toList == (S v').toList) = false := by rw [S_eq]; exact decide_eq_false h2
      have hF : Hid (decide ((t, v) = (t, v')) = false) := hide (by simp [h2])
      clear h2
      go_enter Try.func45, Try.ntmps45
      go_wp2
      go_ret
      exact ⟨ret_bool hF.out.symm, ((Below.refl _ _).alloc (Nat.le_refl _) _).alloc (by simp) _⟩
  · have hb : ((S t).toList == (S t').toList) = false := by rw [S_eq]; exact decide_eq_false h1
    have hF : Hid (decide ((t, v) = (t', v')) = false) := hide (by simp [h1])
    clear h1
    go_enter Try.func45, Try.ntmps45
    go_wp2
    go_ret
    exact ⟨ret_bool hF.out.symm, ((Below.refl _ _).alloc (Nat.le_refl _) _).alloc (by simp) _⟩

/-- A list, its first k tgs laid, zeros behind. -/
def laidTags (l : List PT.Tag) (n k : Nat) : List Value := tgs (l.take k) ++ List.replicate ((n - k) * 2) (.string ⟨#[]⟩)
theorem laidTags_step {l : List PT.Tag} {n k : Nat} (hl : l.length = n) (hk : k < n) :
    ((laidTags l n k).set (k * 2) (.string (S (l.getD k ([], [])).1))).set (k * 2 + 1) (.string (S (l.getD k ([], [])).2)) = laidTags l n (k + 1) := by
  have h1 : (tgs (l.take k)).length = k * 2 := by rw [tgs_len]; simp; omega
  have h2 : l.take (k + 1) = l.take k ++ [l.getD k ([], [])] := by rw [List.take_succ_eq_append_getElem (by omega), PT.getD_tag (by omega)]
  have h3 : (n - k) * 2 = (n - (k + 1)) * 2 + 1 + 1 := by omega
  unfold laidTags
  rw [List.set_append_right _ _ (by omega), List.set_append_right _ _ (by omega), h1, h2, tgs_append, h3, List.replicate_succ, List.replicate_succ]
  simp [tgs]
theorem laidTags_done {l : List PT.Tag} {n : Nat} (hl : l.length = n) : laidTags l n n = tgs l := by
  unfold laidTags
  rw [← hl]; simp
theorem laidTags_start (l : List PT.Tag) (n : Nat) : (madeCells (Value.agg #[.string ⟨#[]⟩, .string ⟨#[]⟩]).cells (n * 2)).toList = laidTags l n 0 := by
  apply List.ext_getElem?
  intro j
  simp only [laidTags, List.take_zero, tgs, List.flatMap_nil, List.nil_append, Nat.sub_zero]
  by_cases hj : j < n * 2
  · simp [madeCells, hj, Value.cells]
    rcases Nat.mod_two_eq_zero_or_one j with h | h <;> simp [h]
  · simp [madeCells, hj]

/-- A list of rows in the call's own memory. -/
def TagL (w : World) (l : List PT.Tag) (e : Ending) (w' : World) : Prop := ∃ A c, e = .returned (.slice A l.length c) ∧ w'.ownsRow w.heap.size 27 2 (.slice A l.length c) l.length (tgs l) ∧ Below w.heap.size w w'

set_option maxRecDepth 100000 in
set_option maxHeartbeats 1600000 in
theorem toTagS_any (A : Option Addr) (n c : Nat) (l : List PT.Tag) (B : Nat) (w : World) (hl : l.length = n) (h : Rd w B 2 A n (tgs l)) (hn : n ≤ 4000000) (hB : B ≤ w.heap.size) :
    Calls Try.prog 20 #[.slice A n c] w (TagL w l) := by
  obtain ⟨i0, hi, hz0, hz1, hz2⟩ := info_parts info_tag
  have HL := hide hl
  have HR := hide (h.more hB)
  clear hl h hB
  go_enter Try.func20, Try.ntmps20
  go_wp2_with (first
    | (at_make; refine wpList_make_full _ rfl (.tmp 6) (.tmp 6) 31 rfl w.heap.size 27 i0 (.agg #[.string ⟨#[]⟩, .string ⟨#[]⟩]) 2 Try.underlying31 hi hz0 hz1 _ _ _ _ n rfl rfl rfl rfl (by rw [hz2]; omega) (by unfold maxLen; omega) (Nat.le_refl _) ?_; intro w1 hown1 hg1))
  have HO : Hid (w1.ownsRow w.heap.size 27 2 (.slice (some ⟨w.heap.size, 0, none⟩) n n) n (laidTags l n 0)) := hide (by rw [← laidTags_start l n]; exact hown1)
  have hb1 : Below w.heap.size w w1 := (Below.refl _ _).grown hg1 (Nat.le_refl _) (by simp)
  clear hown1 hg1
  go_loopw [4] (fun i wr => ∃ k : Nat, k ≤ n ∧ i = .int .i64 k ∧ Hid (wr.ownsRow w.heap.size 27 2 (.slice (some ⟨w.heap.size, 0, none⟩) n n) n (laidTags l n k)) ∧ Below w.heap.size w wr) (fun i _ => n - (intOf i).toNat)
  case atStart => exact ⟨0, Nat.zero_le _, rfl, HO, hb1⟩
  case round =>
    clear HO hb1
    obtain ⟨k, hk, rfl, ho, hbel⟩ := hrel
    have hsz := hbel.size
    by_cases hlt : k < n
    · obtain ⟨b, off, rfl, hb, hc⟩ := (HR.out.below hbel).tag HL.out hlt
      obtain ⟨c1, c2⟩ := hc k hlt
      clear hc
      have hT := hide (laidTags_step HL.out hlt)
      generalize l.getD k ([], []) = r at c1 c2 hT
      obtain ⟨t, v⟩ := r
      go_wp2_with fail
      refine (toTag_any _ _ _).mono ?_
      rintro e w2 ⟨rfl, b2⟩
      have ho2 := own_below ho.out b2
      have hl1 : (laidTags l n k).length = n * 2 := ho2.1
      have hcell : ∀ j, j < n * 2 → ∃ old, w2.cell? ⟨w.heap.size, j, none⟩ = some old := fun j hj => ⟨(laidTags l n k)[j]'(by omega), by rw [ho2.cellAt j hj]; exact List.getElem?_eq_getElem _⟩
      obtain ⟨o1, g1⟩ := hcell (k * 2) (by omega)
      obtain ⟨o2, g2⟩ := hcell (k * 2 + 1) (by omega)
      have f1 := ho2.frozenAt (k * 2)
      have f2 := ho2.frozenAt (k * 2 + 1)
      have HB := hide (hbel.trans (b2.mono hsz))
      have HO2 := hide ho2
      clear hcell ho2 hl1 b2 hbel ho
      go_wp2
      have S1 := (HO2.out.stored (k * 2) (.string (S t))).1
      have S2 := (S1.stored (k * 2 + 1) (.string (S v))).1
      rw [hT.out] at S2
      go_roundw
      case rel => exact ⟨k + 1, by omega, by go_num, hide S2, (HB.out.setCell (p := ⟨w.heap.size, k * 2, none⟩) (Nat.le_refl _) _).setCell (p := ⟨w.heap.size, k * 2 + 1, none⟩) (Nat.le_refl _) _⟩
      case measure => simp [intOf]; omega
    · have hf := hide (laidTags_done HL.out)
      have hkn : Hid (k = n) := hide (by omega)
      go_wp2
      go_ret
      have := ho.out
      rw [hkn.out, hf.out] at this
      rw [← HL.out] at this ⊢
      exact ⟨_, _, rfl, this, hbel⟩

theorem eq_takeT {l l' : List PT.Tag} {k : Nat} (hk : k < l.length) (hk' : k < l'.length) (h : l.take k = l'.take k) (hx : l.getD k ([], []) = l'.getD k ([], [])) : l.take (k + 1) = l'.take (k + 1) := by
  rw [List.take_succ_eq_append_getElem hk, List.take_succ_eq_append_getElem hk', h, ← PT.getD_tag hk, ← PT.getD_tag hk', hx]

set_option maxRecDepth 100000 in
set_option maxHeartbeats 1600000 in
theorem eqTagS_any (A A' : Option Addr) (n n' c c' : Nat) (l l' : List PT.Tag) (B B' : Nat) (w : World) (hl : l.length = n) (hl' : l'.length = n') (h : Rd w B 2 A n (tgs l)) (h' : Rd w B' 2 A' n' (tgs l')) (hn : n ≤ 4000000) (hn' : n' ≤ 4000000) (hB : B ≤ w.heap.size) (hB' : B' ≤ w.heap.size) :
    Calls Try.prog 21 #[.slice A n c, .slice A' n' c'] w (Bl w (decide (l = l'))) := by
  have HL := hide hl
  have HL' := hide hl'
  have HR := hide (h.more hB)
  have HR' := hide (h'.more hB')
  clear hl hl' h h' hB hB'
  by_cases hnn : n = n'
  · subst hnn
    go_enter Try.func21, Try.ntmps21
    go_wp2
    go_loopw [5] (fun i wr => ∃ k : Nat, k ≤ n ∧ i = .int .i64 k ∧ Hid (l.take k = l'.take k) ∧ Below w.heap.size w wr) (fun i _ => n - (intOf i).toNat)
    case atStart => exact ⟨0, Nat.zero_le _, rfl, hide (by simp), Below.refl _ _⟩
    case round =>
      obtain ⟨k, hk, rfl, hp, hbel⟩ := hrel
      by_cases hlt : k < n
      · obtain ⟨b, off, rfl, hb, hc⟩ := (HR.out.below hbel).tag HL.out hlt
        obtain ⟨b', off', rfl, hb', hc'⟩ := (HR'.out.below hbel).tag HL'.out hlt
        obtain ⟨c1, c2⟩ := hc k hlt
        obtain ⟨c3, c4⟩ := hc' k hlt
        clear hc hc'
        have hN : Hid (l.getD k ([], []) = l'.getD k ([], []) → l.take (k + 1) = l'.take (k + 1)) := hide (eq_takeT (by rw [HL.out]; exact hlt) (by rw [HL'.out]; exact hlt) hp.out)
        have hF : Hid (l.getD k ([], []) ≠ l'.getD k ([], []) → decide (l = l') = false) := hide (fun hne => by
          apply decide_eq_false
          rintro rfl
          exact hne rfl)
        generalize l.getD k ([], []) = r at c1 c2 hN hF
        generalize l'.getD k ([], []) = r' at c3 c4 hN hF
        obtain ⟨t, v⟩ := r
        obtain ⟨t', v'⟩ := r'
        have HB := hide hbel
        have hsz := hbel.size
        have hin : (0 : Int) ≤ (k : Int) ∧ (k : Int) < (n : Int) := by omega
        have e1 := ext_cell (B := wr.heap.size) c1 (Nat.le_refl _)
        have e2 := ext_cell (B := wr.heap.size) c2 (Nat.le_refl _)
        have e3 := ext_cell (B := wr.heap.size) c3 (Nat.le_refl _)
        have e4 := ext_cell (B := wr.heap.size) c4 (Nat.le_refl _)
        clear hbel
        by_cases hxy : (t, v) = (t', v')
        · have hT := hide (hN.out hxy)
          have cr := hide (fun W : World => eqTag_any t v t' v' W)
          rw [decide_eq_true hxy] at cr
          clear hN hF hxy
          go_wp2
          refine wp_region_ext wr.heap.size (by kernel_rfl) (by kernel_rfl) ?_
          repeat (go_big_quiet_step ((go_at_call 45; exact ext_call _ (Nat.le_refl _) (cr.out _))))
          refine wpQuiet_nil ?_
          intro _ hw'
          obtain ⟨x, hw''⟩ := hw'
          subst hw''
          clear e1 e2 e3 e4
          go_wp2
          go_roundw
          case rel => exact ⟨k + 1, by omega, by go_num, hT, HB.out.trans (x.is.mono hsz)⟩
          case measure => simp [intOf]; omega
        · have hf := hide (hF.out hxy)
          have cr := hide (fun W : World => eqTag_any t v t' v' W)
          rw [decide_eq_false hxy] at cr
          clear hN hF hxy
          go_wp2
          refine wp_region_ext wr.heap.size (by kernel_rfl) (by kernel_rfl) ?_
          repeat (go_big_quiet_step ((go_at_call 45; exact ext_call _ (Nat.le_refl _) (cr.out _))))
          refine wpQuiet_nil ?_
          intro _ hw'
          obtain ⟨x, hw''⟩ := hw'
          subst hw''
          clear e1 e2 e3 e4
          go_wp2
          go_ret
          exact ⟨ret_bool hf.out.symm, HB.out.trans (x.is.mono hsz)⟩
      · have hf : Hid (decide (l = l') = true) := hide (by
          have h1 := hp.out
          rw [List.take_of_length_le (by rw [HL.out]; omega), List.take_of_length_le (by rw [HL'.out]; omega)] at h1
          exact decide_eq_true h1)
        go_wp2
        go_ret
        exact ⟨ret_bool hf.out.symm, hbel⟩
  · have hf : Hid (decide (l = l') = false) := hide (decide_eq_false (fun e => hnn (by rw [← HL.out, ← HL'.out, e])))
    have hne : ((n : Int) != (n' : Int)) = true := bne_iff_ne.2 (by omega)
    clear hnn
    go_enter Try.func21, Try.ntmps21
    go_wp2
    go_ret
    exact ⟨ret_bool hf.out.symm, Below.refl _ _⟩


/-- What szTag leaves. -/
def szOne (left : Int) (t : PT.Tag) : Int := if left - t.1.length < 0 then -1 else if left - t.1.length - t.2.length < 0 then -1 else left - t.1.length - t.2.length
def szO (left : Int) : List PT.Tag → Int
  | [] => left
  | t :: r => if szOne left t < 0 then -1 else szO (szOne left t) r
def szT (left : Int) (l : List PT.Tag) : Int := if left - l.length < 0 then -1 else szO (left - l.length) l
theorem szOne_le (left : Int) (t : PT.Tag) (h : 0 ≤ left) : szOne left t ≤ left := by
  unfold szOne
  split
  · omega
  · split <;> omega
theorem szOne_neg (left : Int) (t : PT.Tag) (h : szOne left t < 0) : szOne left t = -1 := by
  unfold szOne at h ⊢
  by_cases h1 : left - (t.1.length : Int) < 0
  · rw [if_pos h1]
  · rw [if_neg h1] at h ⊢
    by_cases h2 : left - (t.1.length : Int) - (t.2.length : Int) < 0
    · rw [if_pos h2]
    · rw [if_neg h2] at h; omega
theorem szT_len {left : Int} {l : List PT.Tag} (h : 0 ≤ szT left l) : (l.length : Int) ≤ left := by
  unfold szT at h
  split at h
  · omega
  · omega

set_option maxRecDepth 100000 in
theorem szTag_any (t v : List UInt8) (left : Int) (w : World) (ht : t.length ≤ 9223372036854775807) (hv : v.length ≤ 9223372036854775807) (hl : 0 ≤ left ∧ left ≤ 1048576) :
    Calls Try.prog 43 #[.agg #[.string (S t), .string (S v)], .int .i64 left] w fun e w' => e = .returned (.int .i64 (szOne left (t, v))) ∧ Below w.heap.size w w' := by
  have z1 := S_size t
  have z2 := S_size v
  obtain ⟨l1, l2⟩ := hl
  by_cases h1 : left - (t.length : Int) < 0
  · have F : Hid (szOne left (t, v) = -1) := hide (by unfold szOne; rw [if_pos h1])
    go_enter Try.func43, Try.ntmps43
    go_wp2
    go_ret
    exact ⟨ret_int F.out.symm, (Below.refl _ _).alloc (Nat.le_refl _) _⟩
  · by_cases h2 : left - (t.length : Int) - (v.length : Int) < 0
    · have F : Hid (szOne left (t, v) = -1) := hide (by unfold szOne; rw [if_neg h1, if_pos h2])
      go_enter Try.func43, Try.ntmps43
      go_wp2
      go_ret
      exact ⟨ret_int F.out.symm, (Below.refl _ _).alloc (Nat.le_refl _) _⟩
    · have F : Hid (szOne left (t, v) = left - (t.length : Int) - (v.length : Int)) := hide (by unfold szOne; rw [if_neg h1, if_neg h2])
      go_enter Try.func43, Try.ntmps43
      go_wp2
      go_ret
      exact ⟨ret_int F.out.symm, (Below.refl _ _).alloc (Nat.le_refl _) _⟩

def Sized (l : List PT.Tag) : Prop := ∀ t ∈ l, t.1.length ≤ 9223372036854775807 ∧ t.2.length ≤ 9223372036854775807

set_option maxRecDepth 100000 in
set_option maxHeartbeats 1600000 in
theorem szTagS_any (A : Option Addr) (n c : Nat) (l : List PT.Tag) (B : Nat) (left : Int) (w : World) (hl : l.length = n) (h : Rd w B 2 A n (tgs l)) (hB : B ≤ w.heap.size) (hS : Sized l) (hn : n ≤ 9223372036854775807) (hlf : 0 ≤ left ∧ left ≤ 1048576) :
    Calls Try.prog 19 #[.slice A n c, .int .i64 left] w fun e w' => e = .returned (.int .i64 (szT left l)) ∧ Below w.heap.size w w' := by
  have HL := hide hl
  have HR := hide (h.more hB)
  have HS := hide hS
  clear hl h hB hS
  obtain ⟨l1, l2⟩ := hlf
  by_cases h1 : left - (n : Int) < 0
  · have F : Hid (szT left l = -1) := hide (by unfold szT; rw [HL.out, if_pos h1])
    go_enter Try.func19, Try.ntmps19
    go_wp2
    go_ret
    exact ⟨ret_int F.out.symm, Below.refl _ _⟩
  · have F : Hid (szT left l = szO (left - (n : Int)) l) := hide (by unfold szT; rw [HL.out, if_neg h1])
    go_enter Try.func19, Try.ntmps19
    go_wp2
    go_loopw [1, 5] (fun lf i wr => ∃ (k : Nat) (x : Int), k ≤ n ∧ i = .int .i64 k ∧ lf = .int .i64 x ∧ 0 ≤ x ∧ x ≤ 1048576 ∧ Hid (szT left l = szO x (l.drop k)) ∧ Below w.heap.size w wr) (fun _ i _ => n - (intOf i).toNat)
    case atStart => exact ⟨0, _, Nat.zero_le _, rfl, rfl, by omega, by omega, F, Below.refl _ _⟩
    case round =>
      clear F
      obtain ⟨k, x, hk, rfl, rfl, hx0, hx1, hp, hbel⟩ := hrel
      have hsz := hbel.size
      by_cases hlt : k < n
      · obtain ⟨b, off, rfl, hb, hc⟩ := (HR.out.below hbel).tag HL.out hlt
        obtain ⟨c1, c2⟩ := hc k hlt
        obtain ⟨y, hy⟩ : ∃ y, l.getD k ([], []) = y := ⟨_, rfl⟩
        have hd : l.drop k = y :: l.drop (k + 1) := by rw [← hy, PT.getD_tag (by rw [HL.out]; exact hlt)]; exact List.drop_eq_getElem_cons (by rw [HL.out]; exact hlt)
        have hm : y ∈ l := by rw [← hy, PT.getD_tag (by rw [HL.out]; exact hlt)]; exact List.getElem_mem _
        obtain ⟨s1, s2⟩ := HS.out y hm
        have hq := hide (by have := hp.out; rw [hd] at this; exact this : szT left l = szO x (y :: l.drop (k + 1)))
        rw [hy] at c1 c2
        obtain ⟨t, v⟩ := y
        have C := hide (szTag_any t v x wr s1 s2 ⟨hx0, hx1⟩)
        have hle := szOne_le x (t, v) hx0
        have hng := hide (szOne_neg x (t, v))
        have HQ : Hid (szT left l = if szOne x (t, v) < 0 then -1 else szO (szOne x (t, v)) (l.drop (k + 1))) := hide hq.out
        clear hc hy hd hm s1 s2 hq hp
        generalize szOne x (t, v) = z at C hle hng HQ
        go_wp2_with fail
        refine C.out.mono ?_
        rintro e w2 ⟨rfl, b2⟩
        have HB := hbel.trans (b2.mono hsz)
        clear b2 hbel C
        by_cases hz : z < 0
        · have F : Hid (szT left l = -1) := hide (by rw [HQ.out, if_pos hz])
          go_wp2
          go_ret
          exact ⟨ret_int F.out.symm, HB⟩
        · have F : Hid (szT left l = szO z (l.drop (k + 1))) := hide (by rw [HQ.out, if_neg hz])
          go_wp2
          go_roundw
          case rel => exact ⟨k + 1, z, by omega, by go_num, rfl, by omega, by omega, F, HB⟩
          case measure => simp [intOf]; omega
      · have F : Hid (szT left l = x) := hide (by rw [hp.out, List.drop_of_length_le (by rw [HL.out]; omega)]; rfl)
        go_wp2
        go_ret
        exact ⟨ret_int F.out.symm, hbel⟩

end Go.Proofs.Ytgedlpdjnnbolaa
