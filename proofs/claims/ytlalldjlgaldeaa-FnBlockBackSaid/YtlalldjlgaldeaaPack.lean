/-
  WALKS: numbers packed in bytes, by the program (varint, NumsPack) and by the reference (l1Byte, l1Put, l1Pack, NumsPack).
-/
import Derived.Test.YtlalldjlgaldeaaZig
import Derived.Laws.IdiomStrings
import Derived.Laws.BytesArg
import Derived.Laws.Concat
namespace Go.Proofs.Ytlalldjlgaldeaa
set_option linter.unusedVariables false
open Go.RowKit

/-- Bytes in memory. -/
def bys (l : List UInt8) : List Value := l.map fun b => .int .u8 (b.toNat : Int)
theorem bys_append (a b : List UInt8) : bys (a ++ b) = bys a ++ bys b := by simp [bys]
theorem bys_len (a : List UInt8) : (bys a).length = a.length := by simp [bys]
theorem info_u8 : (Try.prog.info? 5).map (fun i => (i.zero, i.size, i.bytes)) = some (some (.int .u8 0), 1, 1) := by kernel_rfl

/-- What an append to a row of bytes leaves. -/
def Bytes (w : World) (B : Nat) (xs : List UInt8) (e : Ending) (w' : World) : Prop := ∃ v', e = .returned v' ∧ w'.ownsRow B 5 1 v' xs.length (bys xs) ∧ Below B w w'

theorem byte_hi {m : Nat} : [Value.int .u8 ((m : Int) % 128 + 128)] = bys [UInt8.ofNat (m % 128 + 128)] := by
  simp only [bys, List.map_cons, List.map_nil, List.cons.injEq, Value.int.injEq, true_and, and_true]
  rw [PN.ofNat_toNat (by omega)]; omega
theorem byte_lo {m : Nat} (h : m < 256) : [Value.int .u8 (m : Int)] = bys [UInt8.ofNat m] := by
  simp only [bys, List.map_cons, List.map_nil, List.cons.injEq, Value.int.injEq, true_and, and_true]
  rw [PN.ofNat_toNat h]

/-- One byte more. -/
theorem own_byte {w : World} {B n : Nat} {v : Value} {ys : List UInt8} {c : Value} {b : UInt8} (h : w.ownsRow B 5 1 v n (bys ys ++ [c])) (hn : n = ys.length + 1) (hc : [c] = bys [b]) : w.ownsRow B 5 1 v (ys ++ [b]).length (bys (ys ++ [b])) := by
  rw [hc, ← bys_append] at h
  rw [List.length_append]
  subst hn
  exact h

set_option maxRecDepth 100000 in
set_option maxHeartbeats 800000 in
theorem varint_any (B : Nat) (v : Value) (xs : List UInt8) (z : Nat) (w : World) (hown : w.ownsRow B 5 1 v xs.length (bys xs)) (hB : B ≤ w.heap.size) (hz : z ≤ 100000) (hl : (xs ++ PN.put z).length ≤ 10000) :
    Calls Try.prog 32 #[v, .int .i64 z] w (Bytes w B (xs ++ PN.put z)) := by
  obtain ⟨i0, hi, hz0, hz1, hz2⟩ := info_parts info_u8
  have HL := hide hl
  clear hl
  go_enter Try.func32, Try.ntmps32
  go_wp2
  go_loopw [0, 1] (fun s0 s1 wr => ∃ (m : Nat) (ys : List UInt8), s1 = .int .i64 m ∧ m ≤ z ∧ wr.ownsRow B 5 1 s0 ys.length (bys ys) ∧ Hid (ys ++ PN.put m = xs ++ PN.put z) ∧ Below B w wr) (fun _ s1 _ => (intOf s1).toNat)
  case atStart => exact ⟨z, xs, rfl, Nat.le_refl _, hown, hide rfl, Below.refl _ _⟩
  case round =>
    obtain ⟨m, ys, rfl, hm, hown', hys, hbel⟩ := hrel
    have hsz := hbel.size
    by_cases h : 128 ≤ m
    · have hyl : ys.length ≤ 10000 := by
        have h1 := congrArg List.length hys.out
        have h2 := HL.out
        simp only [List.length_append] at h1 h2
        omega
      go_wp2_with (first
        | (at_builtin; refine wpList_append_own _ rfl (.tmp 7) (.tmp 12) 29 rfl B 5 i0 (.int .u8 0) 1 1 Try.underlying29 hi hz0 hz1 hz2 rfl (by decide) _ _ _ rfl (hown'.alloc _) ⟨wr.heap.size, 0, none⟩ 1 1 [_] rfl rfl (one_new _ _ _) (by intro u hu; simp at hu; subst hu; rfl) (by unfold maxLen; omega) (by omega) (by simp; omega) ?_; intro v1 w1 hown1 hgrow1 _))
      have hg : (wr.alloc _).grownBy w1 u0.ownBlock := hgrow1
      have O := own_byte hown1 rfl byte_hi
      have HP : Hid ((ys ++ [UInt8.ofNat (m % 128 + 128)]) ++ PN.put (m / 128) = xs ++ PN.put z) := hide (by rw [← hys.out, PN.put_ge (by omega : ¬ m < 128)]; simp)
      have HB := (hbel.alloc (by omega) _).grown hg (by simp; omega) (fun k hk => (hown'.lt k hk).1)
      clear hgrow1 hg hown1 hown' hbel
      go_roundw
      case rel => exact ⟨m / 128, _, by go_num, by omega, O, HP, HB⟩
      case measure => simp [intOf]; omega
    · have hyl : ys.length ≤ 10000 := by
        have h1 := congrArg List.length hys.out
        have h2 := HL.out
        simp only [List.length_append] at h1 h2
        omega
      go_wp2_with (first
        | (at_builtin; refine wpList_append_own _ rfl (.tmp 16) (.tmp 19) 29 rfl B 5 i0 (.int .u8 0) 1 1 Try.underlying29 hi hz0 hz1 hz2 rfl (by decide) _ _ _ rfl (hown'.alloc _) ⟨wr.heap.size, 0, none⟩ 1 1 [_] rfl rfl (one_new _ _ _) (by intro u hu; simp at hu; subst hu; rfl) (by unfold maxLen; omega) (by omega) (by simp; omega) ?_; intro v1 w1 hown1 hgrow1 _))
      have hg : (wr.alloc _).grownBy w1 u0.ownBlock := hgrow1
      have O := own_byte hown1 rfl (byte_lo (by omega))
      have HP : ys ++ [UInt8.ofNat m] = xs ++ PN.put z := by rw [← hys.out, PN.put_lt (by omega : m < 128)]
      rw [HP] at O
      have HB := (hbel.alloc (by omega) _).grown hg (by simp; omega) (fun k hk => (hown'.lt k hk).1)
      clear hgrow1 hg hown1 hown' hbel
      go_ret
      exact ⟨v1, rfl, O, HB⟩

/-- A string of bytes. -/
def S (l : List UInt8) : ByteArray := ⟨l.toArray⟩
theorem S_append (a b : List UInt8) : S a ++ S b = S (a ++ b) := by
  apply ByteArray.ext
  simp [S]
theorem S_size (a : List UInt8) : (S a).size = a.length := by simp [S, ByteArray.size]
theorem S_list (a : List UInt8) : (S a).data.toList = a := by simp [S]
theorem S_toList (a : List UInt8) : (S a).toList = a := by rw [ByteArray.toList_eq, S_list]
theorem S_empty (a : List UInt8) (h : a = []) : (S a).toList = [] ∧ (S a).toList.isEmpty = true := by rw [S_toList, h]; exact ⟨rfl, rfl⟩
theorem S_full (a : List UInt8) (h : a ≠ []) : ¬ (S a).toList = [] ∧ (S a).toList.isEmpty = false := by rw [S_toList]; exact ⟨h, by cases a <;> simp_all⟩
theorem S_nil : S [] = ⟨#[]⟩ := rfl
theorem S_inj {a b : List UInt8} (h : S a = S b) : a = b := by rw [← S_list a, ← S_list b, h]
theorem S_of (s : ByteArray) : s = S s.data.toList := by simp [S]
/-- Two strings, one behind the other. -/
theorem add_S {P : Program} (a b : List UInt8) (h : a.length + b.length ≤ 1000000000) (w : World) : (Op.stringOp .add (S a) (S b)).run P w = .ok (.string (S (a ++ b))) w := by
  rw [← S_append]
  exact run_string_add_sum w _ _ (by rw [S_size, S_size]; omega)
/-- A row of bytes as a string. -/
theorem conv_S {w : World} {B n c : Nat} {A : Option Addr} {l : List UInt8} (h : w.ownsRow B 5 1 (.slice A n c) n (bys l)) (hn : l.length = n) : (convert 29 9 (.slice A n c)).run Try.prog w = .ok (.string (S l)) w := by
  rcases h.2 with ⟨h', h0⟩ | ⟨g, cap, cur, h', _⟩
  · simp only [Value.slice.injEq] at h'
    obtain ⟨rfl, rfl, rfl⟩ := h'
    have : l = [] := List.eq_nil_of_length_eq_zero hn
    subst this
    exact run_convert_bytes_nil w _ _ Try.underlying29 Try.underlying5 _ _ _ Try.underlying9
  · simp only [Value.slice.injEq, true_and] at h'
    obtain ⟨rfl, rfl⟩ := h'
    subst hn
    refine run_convert_bytes_back w _ _ _ _ _ l Try.underlying29 Try.underlying5 Try.underlying9 fun j hj => ?_
    have := h.cells (g := g) rfl j (.int .u8 (l[j].toNat : Int)) (by simp [bys, hj])
    exact this
theorem conv_one (w : World) (n : Int) (b : UInt8) (hb : (b.toNat : Int) = n) : (convert 29 9 (.slice (some ⟨w.heap.size, 0, none⟩) 1 1)).run Try.prog (w.alloc (.cells #[.int .u8 n] 5)) = .ok (.string (S [b])) (w.alloc (.cells #[.int .u8 n] 5)) := by
  subst hb
  exact conv_S (B := 0) (l := [b]) (World.ownsRow_lit w #[.int .u8 (b.toNat : Int)] 1 (Nat.zero_le _) (by unfold maxLen; omega) rfl) rfl

set_option maxRecDepth 100000 in
theorem l1Byte_any (n : Int) (b : UInt8) (w : World) (h : 0 ≤ n ∧ n ≤ 255) (hb : (b.toNat : Int) = n) : Calls Try.prog 24 #[.int .i64 n] w fun e w' => e = .returned (.string (S [b])) ∧ Below w.heap.size w w' := by
  have kc := conv_one w n b hb
  clear hb
  go_enter Try.func24, Try.ntmps24
  go_wp2
  go_ret
  exact ⟨rfl, (Below.refl _ _).alloc (Nat.le_refl _) _⟩

/-- A string is handed back, nothing that was there is written. -/
def Str (w : World) (B : Nat) (xs : List UInt8) (e : Ending) (w' : World) : Prop := e = .returned (.string (S xs)) ∧ Below B w w'

set_option maxRecDepth 100000 in
set_option maxHeartbeats 800000 in
theorem l1Put_any (z : Nat) (w : World) (hz : z ≤ 100000) (hl : (PN.put z).length ≤ 10000) : Calls Try.prog 37 #[.int .i64 z] w (Str w w.heap.size (PN.put z)) := by
  have HL := hide hl
  clear hl
  go_enter Try.func37, Try.ntmps37
  go_wp2
  go_loopw [0, 3] (fun s1 s0 wr => ∃ (m : Nat) (ys : List UInt8), s1 = .int .i64 m ∧ m ≤ z ∧ s0 = .string (S ys) ∧ Hid (ys ++ PN.put m = PN.put z) ∧ Below w.heap.size w wr) (fun s1 _ _ => (intOf s1).toNat)
  case atStart => exact ⟨z, [], rfl, Nat.le_refl _, rfl, hide rfl, Below.refl _ _⟩
  case round =>
    obtain ⟨m, ys, rfl, hm, rfl, hys, hbel⟩ := hrel
    have hsz := hbel.size
    have hyl : ys.length ≤ 10000 := by
      have h1 := congrArg List.length hys.out
      have h2 := HL.out
      simp only [List.length_append] at h1 h2
      omega
    have e1 := S_size ys
    by_cases h : 128 ≤ m
    · obtain ⟨b, hb⟩ : ∃ b, b = UInt8.ofNat (m % 128 + 128) := ⟨_, rfl⟩
      have e2 := S_size [b]
      have kb := hide (l1Byte_any ((m : Int) % 128 + 128) b wr (by omega) (by rw [hb, PN.ofNat_toNat (by omega)]; omega))
      have HP : Hid ((ys ++ [b]) ++ PN.put (m / 128) = PN.put z) := hide (by rw [← hys.out, PN.put_ge (by omega : ¬ m < 128), hb]; simp)
      clear hb hys
      simp only [List.length_cons, List.length_nil] at e2
      go_wp2_with fail
      refine kb.out.mono ?_
      rintro e w1 ⟨rfl, hb1⟩
      have HB := hbel.trans (hb1.mono hsz)
      clear kb hb1 hbel
      go_wp2
      go_roundw
      case rel => exact ⟨m / 128, _, by go_num, by omega, by rw [S_append], HP, HB⟩
      case measure => simp [intOf]; omega
    · obtain ⟨b, hb⟩ : ∃ b, b = UInt8.ofNat m := ⟨_, rfl⟩
      have e2 := S_size [b]
      have kb := hide (l1Byte_any (m : Int) b wr (by omega) (by rw [hb, PN.ofNat_toNat (by omega)]))
      have HP : Hid (ys ++ [b] = PN.put z) := hide (by rw [← hys.out, PN.put_lt (by omega : m < 128), hb])
      clear hb hys
      simp only [List.length_cons, List.length_nil] at e2
      go_wp2_with fail
      refine kb.out.mono ?_
      rintro e w1 ⟨rfl, hb1⟩
      have HB := hbel.trans (hb1.mono hsz)
      clear kb hb1 hbel
      go_wp2
      go_ret
      exact ⟨ret_str (by rw [S_append, HP.out]), HB⟩

end Go.Proofs.Ytlalldjlgaldeaa
