/-
  WALKS: the text of a filter, by the program (strings.Join) and by the reference.
-/
import Derived.Test.YtgedlpdjnnbolaaDoorNText
import Derived.Test.YtgedlpdjnnbolaaDoorConds1
import Derived.Test.YtgedlpdjnnbolaaDoorDrawFilter
namespace Go.Proofs.YtgedlpdjnnbolaaDoor
set_option linter.unusedVariables false
open Go.RowKit

theorem S_cpieceF (t v : List UInt8) : S t ++ ⟨#[61]⟩ ++ S v = S (PT.cpiece ((t, v), false)) := by
  have : (⟨#[61]⟩ : ByteArray) = S [61] := rfl
  rw [this, S_append, S_append]
  simp [PT.cpiece, PT.sign]
theorem S_cpieceT (t v : List UInt8) : S t ++ ⟨#[33, 61]⟩ ++ S v = S (PT.cpiece ((t, v), true)) := by
  have : (⟨#[33, 61]⟩ : ByteArray) = S [33, 61] := rfl
  rw [this, S_append, S_append]
  simp [PT.cpiece, PT.sign]
theorem sum0F (T t v : List UInt8) : S T ++ S t ++ ⟨#[61]⟩ ++ S v = S (T ++ PT.cpiece ((t, v), false)) := by
  have h3 : (⟨#[61]⟩ : ByteArray) = S [61] := rfl
  simp only [h3, S_append]
  simp [PT.cpiece, PT.sign]
theorem sum0T (T t v : List UInt8) : S T ++ S t ++ ⟨#[33]⟩ ++ ⟨#[61]⟩ ++ S v = S (T ++ PT.cpiece ((t, v), true)) := by
  have h2 : (⟨#[33]⟩ : ByteArray) = S [33] := rfl
  have h3 : (⟨#[61]⟩ : ByteArray) = S [61] := rfl
  simp only [h2, h3, S_append]
  simp [PT.cpiece, PT.sign]
theorem sum1F (T t v : List UInt8) : S T ++ ⟨#[44]⟩ ++ S t ++ ⟨#[61]⟩ ++ S v = S (T ++ [44] ++ PT.cpiece ((t, v), false)) := by
  have h1 : (⟨#[44]⟩ : ByteArray) = S [44] := rfl
  have h3 : (⟨#[61]⟩ : ByteArray) = S [61] := rfl
  simp only [h1, h3, S_append]
  simp [PT.cpiece, PT.sign]
theorem sum1T (T t v : List UInt8) : S T ++ ⟨#[44]⟩ ++ S t ++ ⟨#[33]⟩ ++ ⟨#[61]⟩ ++ S v = S (T ++ [44] ++ PT.cpiece ((t, v), true)) := by
  have h1 : (⟨#[44]⟩ : ByteArray) = S [44] := rfl
  have h2 : (⟨#[33]⟩ : ByteArray) = S [33] := rfl
  have h3 : (⟨#[61]⟩ : ByteArray) = S [61] := rfl
  simp only [h1, h2, h3, S_append]
  simp [PT.cpiece, PT.sign]

set_option maxRecDepth 100000 in
set_option maxHeartbeats 6400000 in
theorem implFilterText (A : Option Addr) (n c : Nat) (l : List PT.Cond) (B : Nat) (w : World) (hl : l.length = n) (h : Rd w B 3 A n (cnds l)) (hn : n ≤ 2000000) (hB : B ≤ w.heap.size) : Calls Tryd.prog 13 #[.slice A n c] w (Tx w (PT.filterText l)) := by
  obtain ⟨i0, hi, hz0, hz1, hz2⟩ := info_parts info_str
  subst hl
  have R0 := hide ((⟨h, hB⟩ : RdB w B 3 A l.length (cnds l)))
  have C1 := hide (implFilterOk A _ c l B w rfl h hn hB)
  have BW := hide (Below.refl w.heap.size w)
  clear h hB
  go_enter Tryd.func13, Tryd.ntmps13
  go_wp2_with fail
  refine C1.out.mono ?_
  rintro e w1 ⟨rfl, b⟩
  replace BW := hide (below_keep BW.out b)
  replace R0 := hide (R0.out.keep b)
  clear b C1
  cases hb : PT.filterB l
  · have F := hide (PT.filterText_no hb)
    clear hb
    go_wp2
    go_ret
    exact ⟨ret_text (by rw [F.out]; rfl), BW.out⟩
  · by_cases h0 : l.length = 0
    · have F := hide (PT.filterText_star hb h0)
      have hz : ((l.length : Int) == 0) = true := by rw [h0]; rfl
      clear hb h0
      go_wp2
      go_ret
      exact ⟨ret_text (by rw [F.out]; rfl), BW.out⟩
    · have F := hide (PT.filterText_yes hb h0)
      have hz : ((l.length : Int) == 0) = false := beq_eq_false_iff_ne.2 (by omega)
      have hT := hide ((PT.filterB_iff.1 hb).1)
      have hl3 : l.length ≤ 3 := (PT.filterB_iff.1 hb).2
      clear hb h0
      have hO := hide ((World.ownsRow_lit w1 #[] 0 (Nat.le_refl _) (Nat.zero_le _) rfl : (w1.alloc (.cells #[] 9)).ownsRow w1.heap.size 9 1 (.slice (some ⟨w1.heap.size, 0, none⟩) 0 0) 0 (strs [])))
      go_wp2
      go_loopw [3, 16] (fun s i wr => ∃ (k : Nat) (A' : Option Addr) (c' : Nat), k ≤ l.length ∧ i = .int .i64 k ∧ s = .slice A' k c' ∧ Hid (wr.ownsRow w1.heap.size 9 1 (.slice A' k c') k (strs ((l.take k).map PT.cpiece))) ∧ Hid (Below w1.heap.size w1 wr)) (fun _ i _ => l.length - (intOf i).toNat)
      case atStart => exact ⟨0, _, _, by omega, rfl, rfl, hide (by simpa [strs] using hO.out), hide ((Below.refl _ _).alloc (Nat.le_refl _) _)⟩
      case round =>
        clear hO
        obtain ⟨k, A', c', hk, rfl, rfl, ho, hbel⟩ := hrel
        have hsz := hbel.out.size
        by_cases hlt : k < l.length
        · obtain ⟨b, off, rfl, hb, hc⟩ := (R0.out.keep hbel.out).rd.cond rfl hlt
          obtain ⟨c1, c2, c3⟩ := hc k hlt
          have ht : PT.tagB (l.getD k (([], []), false)).1 = true := hT.out _ (by rw [PT.getD_cond hlt]; exact List.getElem_mem _)
          have hs : Hid (∀ x, l.getD k (([], []), false) = x → strs ((l.take k).map PT.cpiece) ++ [.string (S (PT.cpiece x))] = strs ((l.take (k + 1)).map PT.cpiece)) := hide (fun x hx => by
            rw [strs_snoc, List.take_succ_eq_append_getElem hlt, List.map_append, ← hx, PT.getD_cond hlt]; rfl)
          generalize l.getD k (([], []), false) = y at c1 c2 c3 ht hs
          obtain ⟨⟨t, v⟩, q⟩ := y
          have hs' := hide (hs.out _ rfl)
          obtain ⟨g1, g2⟩ := PT.tag_sizes ht
          have z1 : (S t).size = 1 := by rw [S_size]; exact g1
          have z2 : (S v).size = 1 := by rw [S_size]; exact g2
          have ho' := ho.out
          clear hc ht hs g1 g2
          have hj : (0 : Int) ≤ (k : Int) ∧ (k : Int) < (l.length : Int) := by omega
          cases q
          · have SP := hide (S_cpieceF t v)
            go_wp2_with (first | (at_builtin; refine wpList_app _ rfl (.tmp 22) (.tmp 32) 40 rfl w1.heap.size 9 i0 (.string ⟨#[]⟩) 1 16 Tryd.underlying40 hi hz0 hz1 hz2 rfl (by decide) _ _ _ rfl ((ho'.alloc _).alloc _) (wr.heap.size + 1 + 1) _ _ _ [.string (S t ++ ⟨#[61]⟩ ++ S v)] rfl (by have := rd_lit (wr.alloc (.cells #[.string (S t), .string (S v), .bool false] 52)) [.string (S t ++ ⟨#[61]⟩ ++ S v)] 9 1 1 rfl; simpa using this) (one_str' _) (by unfold maxLen; omega) (by omega) (by simp <;> omega) ?_; intro A4 c4 w4 o4 b4))
            rw [SP.out, hs'.out] at o4
            have O4 := hide o4
            have HB4 := hide (hbel.out.trans ((((Below.refl _ _).alloc hsz _).alloc (by simp; omega) _).trans b4))
            clear o4 b4 ho' ho hbel hs' z1 z2
            go_wp2
            go_roundw
            case rel => exact ⟨k + 1, A4, c4, by omega, by go_num, rfl, O4, HB4⟩
            case measure => simp [intOf]; omega
          · have SP := hide (S_cpieceT t v)
            go_wp2_with (first | (at_builtin; refine wpList_app _ rfl (.tmp 22) (.tmp 32) 40 rfl w1.heap.size 9 i0 (.string ⟨#[]⟩) 1 16 Tryd.underlying40 hi hz0 hz1 hz2 rfl (by decide) _ _ _ rfl ((ho'.alloc _).alloc _) (wr.heap.size + 1 + 1) _ _ _ [.string (S t ++ ⟨#[33, 61]⟩ ++ S v)] rfl (by have := rd_lit (wr.alloc (.cells #[.string (S t), .string (S v), .bool true] 52)) [.string (S t ++ ⟨#[33, 61]⟩ ++ S v)] 9 1 1 rfl; simpa using this) (one_str' _) (by unfold maxLen; omega) (by omega) (by simp <;> omega) ?_; intro A4 c4 w4 o4 b4))
            rw [SP.out, hs'.out] at o4
            have O4 := hide o4
            have HB4 := hide (hbel.out.trans ((((Below.refl _ _).alloc hsz _).alloc (by simp; omega) _).trans b4))
            clear o4 b4 ho' ho hbel hs' z1 z2
            go_wp2
            go_roundw
            case rel => exact ⟨k + 1, A4, c4, by omega, by go_num, rfl, O4, HB4⟩
            case measure => simp [intOf]; omega
        · obtain rfl : k = l.length := by omega
          have CJ := hide (join_any PT.cpiece l A' _ c' wr w1.heap.size (by have := ho.out; rwa [List.take_of_length_le (Nat.le_refl _)] at this) rfl (by omega) 4 (by omega) (fun x hx => PT.cpiece_len (hT.out x hx)))
          have HB5 := hide (below_keep BW.out hbel.out)
          clear ho hbel
          go_wp2_with fail
          refine CJ.out.mono ?_
          rintro e w5 ⟨rfl, b5⟩
          have HB6 := hide (below_keep HB5.out b5)
          clear b5 CJ HB5
          go_wp2
          go_ret
          exact ⟨ret_text (by rw [F.out]), HB6.out⟩

set_option maxRecDepth 100000 in
set_option maxHeartbeats 6400000 in
theorem specFilterText (A : Option Addr) (n c : Nat) (l : List PT.Cond) (B : Nat) (w : World) (hl : l.length = n) (h : Rd w B 3 A n (cnds l)) (hn : n ≤ 2000000) (hB : B ≤ w.heap.size) : Calls Tryd.prog 14 #[.slice A n c] w (Tx w (PT.filterText l)) := by
  subst hl
  have R0 := hide ((⟨h, hB⟩ : RdB w B 3 A l.length (cnds l)))
  have C1 := hide (specFilterOk A _ c l B w rfl h hn hB)
  have BW := hide (Below.refl w.heap.size w)
  clear h hB
  go_enter Tryd.func14, Tryd.ntmps14
  go_wp2_with fail
  refine C1.out.mono ?_
  rintro e w1 ⟨rfl, b⟩
  replace BW := hide (below_keep BW.out b)
  replace R0 := hide (R0.out.keep b)
  clear b C1
  cases hb : PT.filterB l
  · have F := hide (PT.filterText_no hb)
    clear hb
    go_wp2
    go_ret
    exact ⟨ret_text (by rw [F.out]; rfl), BW.out⟩
  · by_cases h0 : l.length = 0
    · have F := hide (PT.filterText_star hb h0)
      have hz : ((l.length : Int) == 0) = true := by rw [h0]; rfl
      clear hb h0
      go_wp2
      go_ret
      exact ⟨ret_text (by rw [F.out]; rfl), BW.out⟩
    · have F := hide (PT.filterText_yes hb h0)
      have hz : ((l.length : Int) == 0) = false := beq_eq_false_iff_ne.2 (by omega)
      have hT := hide ((PT.filterB_iff.1 hb).1)
      have hl3 : l.length ≤ 3 := (PT.filterB_iff.1 hb).2
      clear hb h0
      go_wp2
      go_loopw [3, 4] (fun s i wr => ∃ (k : Nat) (T : List UInt8), k ≤ l.length ∧ i = .int .i64 k ∧ s = .string (S T) ∧ Hid (PT.joinP PT.cpiece (l.take k) = T) ∧ Hid (Below w1.heap.size w1 wr)) (fun _ i _ => l.length - (intOf i).toNat)
      case atStart => exact ⟨0, [], by omega, rfl, rfl, hide rfl, hide (Below.refl _ _)⟩
      case round =>
        obtain ⟨k, T, hk, rfl, rfl, hTk, hbel⟩ := hrel
        have hsz := hbel.out.size
        by_cases hlt : k < l.length
        · obtain ⟨b, off, rfl, hb, hc⟩ := (R0.out.keep hbel.out).rd.cond rfl hlt
          obtain ⟨c1, c2, c3⟩ := hc k hlt
          have ht : PT.tagB (l.getD k (([], []), false)).1 = true := hT.out _ (by rw [PT.getD_cond hlt]; exact List.getElem_mem _)
          have hs := hide (PT.joinP_succ PT.cpiece (([], []), false) hlt)
          have hm : T.length ≤ 15 := by
            have := PT.joinP_len PT.cpiece (m := 4) (fun x hx => PT.cpiece_len (hT.out x hx)) k
            rw [hTk.out] at this
            omega
          generalize l.getD k (([], []), false) = y at c1 c2 c3 ht hs
          obtain ⟨⟨t, v⟩, q⟩ := y
          obtain ⟨g1, g2⟩ := PT.tag_sizes ht
          have z1 : (S t).size = 1 := by rw [S_size]; exact g1
          have z2 : (S v).size = 1 := by rw [S_size]; exact g2
          have hNX : Hid (PT.joinP PT.cpiece (l.take (k + 1)) = T ++ (if k = 0 then [] else [44]) ++ PT.cpiece ((t, v), q)) := hide (by rw [hs.out, hTk.out])
          obtain ⟨m, hmT⟩ : ∃ m, T.length = m := ⟨_, rfl⟩
          have zT : (S T).size = m := by rw [S_size]; exact hmT
          rw [hmT] at hm
          clear hc ht hs g1 g2 hTk hmT
          have hj : (0 : Int) ≤ (k : Int) ∧ (k : Int) < (l.length : Int) := by omega
          by_cases h0 : k = 0
          · subst h0
            simp only [Nat.zero_mul, Nat.add_zero] at c1 c2 c3
            cases q
            · go_wp2
              go_roundw
              case rel => exact ⟨1, _, by omega, by go_num, val_str (sum0F T t v), hide (by simp [hNX.out]), hbel⟩
              case measure => simp [intOf]; omega
            · go_wp2
              go_roundw
              case rel => exact ⟨1, _, by omega, by go_num, val_str (sum0T T t v), hide (by simp [hNX.out]), hbel⟩
              case measure => simp [intOf]; omega
          · have hk0 : (0 : Int) < (k : Int) := by omega
            have hk1 : decide ((0 : Int) < (k : Int)) = true := decide_eq_true hk0
            rw [if_neg h0] at hNX
            cases q
            · go_wp2
              go_roundw
              case rel => exact ⟨k + 1, _, by omega, by go_num, val_str (sum1F T t v), hide (by simp [hNX.out]), hbel⟩
              case measure => simp [intOf]; omega
            · go_wp2
              go_roundw
              case rel => exact ⟨k + 1, _, by omega, by go_num, val_str (sum1T T t v), hide (by simp [hNX.out]), hbel⟩
              case measure => simp [intOf]; omega
        · obtain rfl : k = l.length := by omega
          have F2 := hide (hTk.out.symm.trans (by rw [List.take_of_length_le (Nat.le_refl _)]))
          clear hTk
          go_wp2
          go_ret
          exact ⟨ret_text (by rw [F.out, F2.out]), below_keep BW.out hbel.out⟩

end Go.Proofs.YtgedlpdjnnbolaaDoor
