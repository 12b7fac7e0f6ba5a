/-
  WALKS: the text of a name, by the program (strings.Join) and by the reference.
-/
import Derived.Test.YtgedlpdjnnbolaaDoorPlainText
import Derived.Test.YtgedlpdjnnbolaaDoorShelf
import Derived.Test.YtgedlpdjnnbolaaDoorAppend
import Derived.Test.YtgedlpdjnnbolaaDoorTail
namespace Go.Proofs.YtgedlpdjnnbolaaDoor
set_option linter.unusedVariables false
open Go.RowKit

/-- A text is handed back, nothing that was there is written. -/
def Tx (w : World) (s : List UInt8) (e : Ending) (w' : World) : Prop := e = .returned (.string (S s)) ∧ Below w.heap.size w w'
theorem ret_text {a b : ByteArray} (h : a = b) : (Ending.returned (.string a)) = .returned (.string b) := by rw [h]
theorem info_str : (Tryd.prog.info? 9).map (fun i => (i.zero, i.size, i.bytes)) = some (some (.string ⟨#[]⟩), 1, 16) := by kernel_rfl
def strs (l : List (List UInt8)) : List Value := l.map fun s => .string (S s)
theorem strs_snoc (l : List (List UInt8)) (x : List UInt8) : strs l ++ [.string (S x)] = strs (l ++ [x]) := by simp [strs]
theorem one_str' (a : ByteArray) : ∀ u ∈ [Value.string a], u.oneCell' = true := by
  intro u hu
  simp at hu
  subst hu; rfl
theorem S_piece (t v : List UInt8) : S t ++ ⟨#[61]⟩ ++ S v = S (PT.piece (t, v)) := by
  have : (⟨#[61]⟩ : ByteArray) = S [61] := rfl
  rw [this, S_append, S_append]
  simp [PT.piece]
theorem S_piece0 (T t v : List UInt8) : S T ++ S t ++ ⟨#[61]⟩ ++ S v = S (T ++ PT.piece (t, v)) := by
  have : (⟨#[61]⟩ : ByteArray) = S [61] := rfl
  rw [this, S_append, S_append, S_append]
  simp [PT.piece]
theorem S_piece1 (T t v : List UInt8) : S T ++ ⟨#[44]⟩ ++ S t ++ ⟨#[61]⟩ ++ S v = S (T ++ [44] ++ PT.piece (t, v)) := by
  have h1 : (⟨#[61]⟩ : ByteArray) = S [61] := rfl
  have h2 : (⟨#[44]⟩ : ByteArray) = S [44] := rfl
  rw [h1, h2, S_append, S_append, S_append, S_append]
  simp [PT.piece]
theorem val_str {a b : ByteArray} (h : a = b) : Value.string a = .string b := by rw [h]
/-- strings.Join of the pieces of a list. -/
theorem join_any {α : Type} (p : α → List UInt8) (l : List α) (A : Option Addr) (n c : Nat) (w : World) (base : Nat) (ho : w.ownsRow base 9 1 (.slice A n c) n (strs (l.map p))) (hl : l.length = n) (hn : n ≤ 1000) (m : Nat) (hm : m ≤ 1000) (hp : ∀ x ∈ l, (p x).length ≤ m) :
    Calls Tryd.prog 19 #[.slice A n c, .string ⟨#[44]⟩] w (Tx w (PT.joinP p l)) := by
  have hlen : (Lib.join (((l.map fun x => S (p x))).map (·.data.toList)) [44]).length ≤ 140737488355328 := by
    have := PT.joinP_len p hp l.length
    rw [List.take_of_length_le (Nat.le_refl _)] at this
    unfold PT.joinP at this
    have e : ((l.map fun x => S (p x))).map (·.data.toList) = l.map p := by simp [S_list]
    rw [e]
    have h2 : l.length * (m + 1) ≤ 1000 * 1001 := Nat.mul_le_mul (by omega) (by omega)
    omega
  have e : ((l.map fun x => S (p x))).map (·.data.toList) = l.map p := by simp [S_list]
  rcases ho.2 with ⟨h1, h0⟩ | ⟨g, cap, cur, e1, hg, hgg, h5, h6, h7⟩
  · obtain ⟨rfl⟩ : n = 0 := h0
    have : l = [] := List.eq_nil_of_length_eq_zero hl
    subst this
    refine (shelf_strings_Join_none A c ⟨#[44]⟩ w).mono ?_
    rintro e w' ⟨rfl, rfl⟩
    exact ⟨rfl, Below.refl _ _⟩
  · simp only [Value.slice.injEq] at e1
    obtain ⟨rfl, _, rfl⟩ := e1
    have hR := Rd.of_own ho
    by_cases h0 : n = 0
    · subst h0
      have : l = [] := List.eq_nil_of_length_eq_zero hl
      subst this
      refine (shelf_strings_Join_none _ _ ⟨#[44]⟩ w).mono ?_
      rintro e w' ⟨rfl, rfl⟩
      exact ⟨rfl, Below.refl _ _⟩
    · obtain ⟨b, off, e2, hb, hc⟩ := hR.2 (by omega)
      injection e2 with e2
      injection e2 with e2 e3
      subst e2 e3
      have := shelf_strings_Join g 0 c (l.map fun x => S (p x)) ⟨#[44]⟩ w (fun j x hx => by
        have h1 : (strs (l.map p))[j]? = some (.string x) := by
          simp only [strs, List.map_map, List.getElem?_map] at hx ⊢
          rw [Option.map_eq_some_iff] at hx ⊢
          obtain ⟨y, hy, rfl⟩ := hx
          exact ⟨y, hy, rfl⟩
        simpa using hc j _ h1) (Array.getElem?_eq_some_iff.1 hgg).1 (by simp; omega) (by simp; omega) (by simpa using hlen)
      rw [List.length_map, hl] at this
      refine this.mono ?_
      rintro e' w' ⟨rfl, b'⟩
      refine ⟨?_, b'⟩
      rw [e]
      rfl

set_option maxRecDepth 100000 in
set_option maxHeartbeats 3200000 in
theorem implNameText (A : Option Addr) (n c : Nat) (l : List PT.Tag) (B : Nat) (w : World) (hl : l.length = n) (h : Rd w B 2 A n (tgs l)) (hn : n ≤ 2000000) (hB : B ≤ w.heap.size) : Calls Tryd.prog 7 #[.slice A n c] w (Tx w (PT.nameText l)) := by
  obtain ⟨i0, hi, hz0, hz1, hz2⟩ := info_parts info_str
  subst hl
  have R0 := hide ((⟨h, hB⟩ : RdB w B 2 A l.length (tgs l)))
  have C1 := hide (implNameOk A _ c l B w rfl h hn hB)
  have BW := hide (Below.refl w.heap.size w)
  clear h hB
  go_enter Tryd.func7, Tryd.ntmps7
  go_wp2_with fail
  refine C1.out.mono ?_
  rintro e w1 ⟨rfl, b⟩
  replace BW := hide (below_keep BW.out b)
  replace R0 := hide (R0.out.keep b)
  clear b C1
  cases hb : PT.nameB l
  · have F := hide (PT.nameText_no hb)
    clear hb
    go_wp2
    go_ret
    exact ⟨ret_text (by rw [F.out]; rfl), BW.out⟩
  · have HB := hide hb
    have F := hide (PT.nameText_yes hb)
    have hT := hide ((PT.nameB_iff.1 hb).1)
    have hl3 : l.length ≤ 3 := (PT.nameB_iff.1 hb).2.2.2
    clear hb
    have hO := hide ((World.ownsRow_lit w1 #[] 0 (Nat.le_refl _) (Nat.zero_le _) rfl : (w1.alloc (.cells #[] 9)).ownsRow w1.heap.size 9 1 (.slice (some ⟨w1.heap.size, 0, none⟩) 0 0) 0 (strs [])))
    go_wp2
    go_loopw [3, 12] (fun s i wr => ∃ (k : Nat) (A' : Option Addr) (c' : Nat), k ≤ l.length ∧ i = .int .i64 k ∧ s = .slice A' k c' ∧ Hid (wr.ownsRow w1.heap.size 9 1 (.slice A' k c') k (strs ((l.take k).map PT.piece))) ∧ Hid (Below w1.heap.size w1 wr)) (fun _ i _ => l.length - (intOf i).toNat)
    case atStart => exact ⟨0, _, _, by omega, rfl, rfl, hide (by simpa [strs] using hO.out), hide ((Below.refl _ _).alloc (Nat.le_refl _) _)⟩
    case round =>
      clear hO
      obtain ⟨k, A', c', hk, rfl, rfl, ho, hbel⟩ := hrel
      have hsz := hbel.out.size
      by_cases hlt : k < l.length
      · obtain ⟨b, off, rfl, hb, hc⟩ := (R0.out.keep hbel.out).rd.tag rfl hlt
        obtain ⟨c1, c2⟩ := hc k hlt
        have ht : PT.tagB (l.getD k ([], [])) = true := hT.out _ (by rw [PT.getD_tag hlt]; exact List.getElem_mem _)
        have hs : Hid (∀ x, l.getD k ([], []) = x → strs ((l.take k).map PT.piece) ++ [.string (S (PT.piece x))] = strs ((l.take (k + 1)).map PT.piece)) := hide (fun x hx => by
          rw [strs_snoc, List.take_succ_eq_append_getElem hlt, List.map_append, ← hx, PT.getD_tag hlt]; rfl)
        generalize l.getD k ([], []) = y at c1 c2 ht hs
        obtain ⟨t, v⟩ := y
        have hs' := hide (hs.out _ rfl)
        obtain ⟨g1, g2⟩ := PT.tag_sizes ht
        have z1 : (S t).size = 1 := by rw [S_size]; exact g1
        have z2 : (S v).size = 1 := by rw [S_size]; exact g2
        have SP := hide (S_piece t v)
        have ho' := ho.out
        clear hc ht hs g1 g2
        have hj : (0 : Int) ≤ (k : Int) ∧ (k : Int) < (l.length : Int) := by omega
        go_wp2_with (first | (at_builtin; refine wpList_app _ rfl (.tmp 16) (.tmp 23) 40 rfl w1.heap.size 9 i0 (.string ⟨#[]⟩) 1 16 Tryd.underlying40 hi hz0 hz1 hz2 rfl (by decide) _ _ _ rfl ((ho'.alloc _).alloc _) (wr.heap.size + 1 + 1) _ _ _ [.string (S t ++ ⟨#[61]⟩ ++ S v)] rfl (by have := rd_lit (wr.alloc (.cells #[.string (S t), .string (S v)] 42)) [.string (S t ++ ⟨#[61]⟩ ++ S v)] 9 1 1 rfl; simpa using this) (one_str' _) (by unfold maxLen; omega) (by omega) (by simp <;> omega) ?_; intro A4 c4 w4 o4 b4))
        rw [SP.out, hs'.out] at o4
        have O4 := hide o4
        have HB4 := hide (hbel.out.trans ((((Below.refl _ _).alloc hsz _).alloc (by simp; omega) _).trans b4))
        clear o4 b4 ho' ho hbel hs' z1 z2
        go_wp2
        go_roundw
        case rel => exact ⟨k + 1, A4, c4, by omega, by go_num, rfl, O4, HB4⟩
        case measure => simp [intOf]; omega
      · obtain rfl : k = l.length := by omega
        have CJ := hide (join_any PT.piece l A' _ c' wr w1.heap.size (by have := ho.out; rwa [List.take_of_length_le (Nat.le_refl _)] at this) rfl (by omega) 3 (by omega) (fun x hx => PT.piece_len (hT.out x hx)))
        have HB5 := hide (below_keep BW.out hbel.out)
        clear ho hbel
        go_wp2_with fail
        refine CJ.out.mono ?_
        rintro e w5 ⟨rfl, b5⟩
        have HB6 := hide (below_keep HB5.out b5)
        clear b5 CJ HB5
        go_wp2
        go_ret
        exact ⟨ret_text (by rw [F.out]), HB6.out⟩

set_option maxRecDepth 100000 in
set_option maxHeartbeats 3200000 in
theorem l3Text_any (A : Option Addr) (n c : Nat) (l : List PT.Tag) (B : Nat) (w : World) (hl : l.length = n) (h : Rd w B 2 A n (tgs l)) (hB : B ≤ w.heap.size) (hb : PT.nameB l = true) : Calls Tryd.prog 21 #[.slice A n c] w (Tx w (PT.joinP PT.piece l)) := by
  subst hl
  have R0 := hide ((⟨h, hB⟩ : RdB w B 2 A l.length (tgs l)))
  have hT := hide ((PT.nameB_iff.1 hb).1)
  have hl3 : l.length ≤ 3 := (PT.nameB_iff.1 hb).2.2.2
  clear h hB hb
  go_enter Tryd.func21, Tryd.ntmps21
  go_wp2
  go_loopw [3, 4] (fun s i wr => ∃ (k : Nat) (T : List UInt8), k ≤ l.length ∧ i = .int .i64 k ∧ s = .string (S T) ∧ Hid (PT.joinP PT.piece (l.take k) = T) ∧ Hid (Below w.heap.size w wr)) (fun _ i _ => l.length - (intOf i).toNat)
  case atStart => exact ⟨0, [], by omega, rfl, rfl, hide rfl, hide (Below.refl _ _)⟩
  case round =>
    obtain ⟨k, T, hk, rfl, rfl, hTk, hbel⟩ := hrel
    have hsz := hbel.out.size
    by_cases hlt : k < l.length
    · obtain ⟨b, off, rfl, hb, hc⟩ := (R0.out.keep hbel.out).rd.tag rfl hlt
      obtain ⟨c1, c2⟩ := hc k hlt
      have ht : PT.tagB (l.getD k ([], [])) = true := hT.out _ (by rw [PT.getD_tag hlt]; exact List.getElem_mem _)
      have hs := hide (PT.joinP_succ PT.piece ([], []) hlt)
      have hm : T.length ≤ 12 := by
        have := PT.joinP_len PT.piece (m := 3) (fun x hx => PT.piece_len (hT.out x hx)) k
        rw [hTk.out] at this
        omega
      generalize l.getD k ([], []) = y at c1 c2 ht hs
      obtain ⟨t, v⟩ := y
      obtain ⟨g1, g2⟩ := PT.tag_sizes ht
      have z1 : (S t).size = 1 := by rw [S_size]; exact g1
      have z2 : (S v).size = 1 := by rw [S_size]; exact g2
      have hNX : Hid (PT.joinP PT.piece (l.take (k + 1)) = T ++ (if k = 0 then [] else [44]) ++ PT.piece (t, v)) := hide (by rw [hs.out, hTk.out])
      obtain ⟨m, hmT⟩ : ∃ m, T.length = m := ⟨_, rfl⟩
      have zT : (S T).size = m := by rw [S_size]; exact hmT
      rw [hmT] at hm
      clear hc ht hs g1 g2 hTk hmT
      have e1 := ext_cell (B := wr.heap.size) c1 (Nat.le_refl _)
      have e2 := ext_cell (B := wr.heap.size) c2 (Nat.le_refl _)
      have hj : (0 : Int) ≤ (k : Int) ∧ (k : Int) < (l.length : Int) := by omega
      by_cases h0 : k = 0
      · subst h0
        simp only [Nat.zero_mul, Nat.add_zero] at c1 c2 e1 e2
        go_wp2
        refine wp_region_ext wr.heap.size (by kernel_rfl) (by kernel_rfl) ?_
        repeat (go_big_quiet_step (fail))
        refine wpQuiet_nil ?_
        intro _ hw'
        obtain ⟨x, hw''⟩ := hw'
        subst hw''
        clear e1 e2 zT z1 z2
        go_wp2
        go_roundw
        case rel => exact ⟨1, _, by omega, by go_num, val_str ((S_piece0 T t v)), hide (by simp [hNX.out]), hide (hbel.out.trans (x.is.mono hsz))⟩
        case measure => simp [intOf]; omega
      · have hk0 : (0 : Int) < (k : Int) := by omega
        have hk1 : decide ((0 : Int) < (k : Int)) = true := decide_eq_true hk0
        rw [if_neg h0] at hNX
        go_wp2
        refine wp_region_ext wr.heap.size (by kernel_rfl) (by kernel_rfl) ?_
        repeat (go_big_quiet_step (fail))
        refine wpQuiet_nil ?_
        intro _ hw'
        obtain ⟨x, hw''⟩ := hw'
        subst hw''
        clear e1 e2 zT z1 z2
        go_wp2
        go_roundw
        case rel => exact ⟨k + 1, _, by omega, by go_num, val_str ((S_piece1 T t v)), hide (by simp [hNX.out]), hide (hbel.out.trans (x.is.mono hsz))⟩
        case measure => simp [intOf]; omega
    · obtain rfl : k = l.length := by omega
      have F := hide (hTk.out.symm.trans (by rw [List.take_of_length_le (Nat.le_refl _)]))
      clear hTk
      go_wp2
      go_ret
      exact ⟨ret_text (by rw [F.out]), hbel.out⟩

set_option maxRecDepth 100000 in
set_option maxHeartbeats 1600000 in
theorem specNameText (A : Option Addr) (n c : Nat) (l : List PT.Tag) (B : Nat) (w : World) (hl : l.length = n) (h : Rd w B 2 A n (tgs l)) (hn : n ≤ 2000000) (hB : B ≤ w.heap.size) : Calls Tryd.prog 8 #[.slice A n c] w (Tx w (PT.nameText l)) := by
  subst hl
  have R0 := hide ((⟨h, hB⟩ : RdB w B 2 A l.length (tgs l)))
  have C1 := hide (specNameOk A _ c l B w rfl h hn hB)
  have BW := hide (Below.refl w.heap.size w)
  clear h hB
  go_enter Tryd.func8, Tryd.ntmps8
  go_wp2_with fail
  refine C1.out.mono ?_
  rintro e w1 ⟨rfl, b⟩
  replace BW := hide (below_keep BW.out b)
  replace R0 := hide (R0.out.keep b)
  clear b C1
  cases hb : PT.nameB l
  · have F := hide (PT.nameText_no hb)
    clear hb
    go_wp2
    go_ret
    exact ⟨ret_text (by rw [F.out]; rfl), BW.out⟩
  · have F := hide (PT.nameText_yes hb)
    have C2 := hide (l3Text_any A _ c l B w1 rfl R0.out.rd R0.out.le hb)
    clear hb
    go_wp2_with fail
    refine C2.out.mono ?_
    rintro e w2 ⟨rfl, b⟩
    replace BW := hide (below_keep BW.out b)
    clear b C2
    go_wp2
    go_ret
    exact ⟨ret_text (by rw [F.out]), BW.out⟩

end Go.Proofs.YtgedlpdjnnbolaaDoor
