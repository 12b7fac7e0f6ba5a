/-
  WALKS: a list of numbers packed, by the program and by the reference.
-/
import Derived.Test.YtlalldjlgaldeaaPack
namespace Go.Proofs.Ytlalldjlgaldeaa
set_option linter.unusedVariables false
open Go.RowKit

theorem take_snoc {α : Type} (l : List α) (k : Nat) (h : k < l.length) : l.take (k + 1) = l.take k ++ [l[k]] := by
  rw [List.take_succ_eq_append_getElem h]
theorem getD_eq {l : List Int} {k : Nat} (h : k < l.length) : l.getD k 0 = l[k] := by simp [h]
theorem all_snoc (p : Int → Bool) (l : List Int) (k : Nat) (h : k < l.length) : (l.take (k + 1)).all p = ((l.take k).all p && p (l.getD k 0)) := by
  rw [take_snoc l k h, List.all_append, getD_eq h]; simp

/-- Where numbers are asked one by one: the cell of the next one. -/
theorem Rd.int {w : World} {B : Nat} {A : Option Addr} {n : Nat} {l : List Int} (h : Rd w B 1 A n (ints l)) (hl : l.length = n) {k : Nat} (hk : k < n) : ∃ b off, A = some ⟨b, off, none⟩ ∧ b < B ∧ w.cell? ⟨b, off + k, none⟩ = some (.int .i64 (l.getD k 0)) := by
  obtain ⟨b, off, e, hb, hc⟩ := h.at_ (by omega)
  exact ⟨b, off, e, hb, hc k _ (ints_at (by omega))⟩

set_option maxRecDepth 100000 in
set_option maxHeartbeats 800000 in
theorem l1Nums_any (A : Option Addr) (n c : Nat) (l : List Int) (B : Nat) (w : World) (hl : l.length = n) (h : Rd w B 1 A n (ints l)) (hn : n ≤ 2000000) : Calls Try.prog 43 #[.slice A n c] w fun e w' => e = .returned (.bool (PN.okB l)) ∧ w = w' := by
  have HL := hide hl
  have HR := hide h
  clear hl h
  go_enter Try.func43, Try.ntmps43
  go_wp2
  go_loop [3] (fun i => ∃ k : Nat, k ≤ n ∧ i = .int .i64 k ∧ Hid ((l.take k).all PN.numB = true)) (fun i => n - (intOf i).toNat)
  case atStart => exact ⟨0, Nat.zero_le _, rfl, hide (by simp)⟩
  case round =>
    obtain ⟨k, hk, rfl, hall⟩ := hrel
    by_cases hlt : k < n
    · obtain ⟨b, off, rfl, hb, hc⟩ := HR.out.int HL.out hlt
      have hs := hide (all_snoc PN.numB l k (by rw [HL.out]; exact hlt))
      have hx := hide (PN.numB_iff (n := l.getD k 0))
      have hF : Hid (PN.numB (l.getD k 0) = false → PN.okB l = false) := hide (fun hf => by
        cases hh : PN.okB l
        · rfl
        · have := (PN.okB_iff.1 hh).1 (l.getD k 0) (by rw [getD_eq (by rw [HL.out]; exact hlt)]; exact List.getElem_mem _)
          rw [PN.numB_iff.2 this] at hf
          cases hf)
      generalize l.getD k 0 = x at hc hs hx hF
      by_cases hin : -999 ≤ x ∧ x ≤ 999
      · go_wp2_with fail
        refine (l6In_yes _ _ _ _ hin).mono ?_
        rintro e w' ⟨rfl, rfl⟩
        go_wp2
        go_round
        case rel => exact ⟨k + 1, by omega, by go_num, hide (by rw [hs.out, hall.out, hx.out.2 hin]; rfl)⟩
        case measure => simp [intOf]; omega
      · go_wp2_with fail
        refine (l6In_no _ _ _ _ hin).mono ?_
        rintro e w' ⟨rfl, rfl⟩
        go_wp2
        go_ret
        exact ⟨ret_bool (hF.out (by
          cases hh : PN.numB x
          · rfl
          · exact absurd (hx.out.1 hh) hin)).symm, rfl⟩
    · have hkn : k = n := by omega
      have hF : Hid (PN.okB l = decide (n ≤ 24)) := hide (by
        have h1 := hall.out
        rw [hkn, ← HL.out, List.take_length] at h1
        unfold PN.okB PN.allB
        rw [h1, HL.out]; rfl)
      clear hkn
      go_wp2
      all_goals (go_ret; exact ⟨ret_bool (by rw [hF.out]; exact decide_eq_decide.2 (by omega)), rfl⟩)

/-- What a round of packing does: the next number's code. -/
theorem pack_step {l : List Int} {k : Nat} {ys : List UInt8} (hk : k < l.length) (h : ys ++ PN.pk k (PN.st (0, 0) (l.take k)).1 (PN.st (0, 0) (l.take k)).2 (l.drop k) = PN.pack0 l) :
    (ys ++ PN.put (PN.zig (if k < 2 then l.getD k 0 - (PN.st (0, 0) (l.take k)).1 else l.getD k 0 - (PN.st (0, 0) (l.take k)).1 - (PN.st (0, 0) (l.take k)).2))) ++
      PN.pk (k + 1) (PN.st (0, 0) (l.take (k + 1))).1 (PN.st (0, 0) (l.take (k + 1))).2 (l.drop (k + 1)) = PN.pack0 l := by
  rw [← h, take_snoc l k hk, PN.st_snoc, List.drop_eq_getElem_cons hk, getD_eq hk]
  simp only [PN.pk, List.append_assoc]
theorem st_step {l : List Int} {k : Nat} (hk : k < l.length) : PN.st (0, 0) (l.take (k + 1)) = (l.getD k 0, l.getD k 0 - (PN.st (0, 0) (l.take k)).1) := by
  rw [take_snoc l k hk, PN.st_snoc, getD_eq hk]
theorem num_at {l : List Int} (h : ∀ n ∈ l, -999 ≤ n ∧ n ≤ 999) {k : Nat} (hk : k < l.length) : -999 ≤ l.getD k 0 ∧ l.getD k 0 ≤ 999 := by
  rw [getD_eq hk]; exact h _ (List.getElem_mem _)

/-- The numbers behind k rounds. -/
def PackAt (l : List Int) (k : Nat) (la sp : Int) (ys : List UInt8) : Prop :=
  ys ++ PN.pk k la sp (l.drop k) = PN.pack0 l ∧ PN.st (0, 0) (l.take k) = (la, sp) ∧ ys.length ≤ 2 * k
theorem PackAt.start (l : List Int) : PackAt l 0 0 0 [] := ⟨rfl, rfl, by simp⟩
theorem PackAt.bd {l : List Int} {k : Nat} {la sp : Int} {ys : List UInt8} (h : PackAt l k la sp ys) (hl : ∀ n ∈ l.take k, -999 ≤ n ∧ n ≤ 999) : (-999 ≤ la ∧ la ≤ 999) ∧ -1998 ≤ sp ∧ sp ≤ 1998 := by
  have := PN.st_bd (l.take k) hl
  rw [h.2.1] at this
  simp only at this
  omega
theorem PackAt.next {l : List Int} {k : Nat} {la sp x : Int} {ys : List UInt8} (h : PackAt l k la sp ys) (hk : k < l.length) (hx : x = l.getD k 0) (h0 : -999 ≤ x ∧ x ≤ 999) (hb : (-999 ≤ la ∧ la ≤ 999) ∧ -1998 ≤ sp ∧ sp ≤ 1998) :
    PackAt l (k + 1) x (x - la) (ys ++ PN.put (PN.zig (if k < 2 then x - la else x - la - sp))) := by
  obtain ⟨h1, h2, h3⟩ := h
  have hp := pack_step (l := l) (k := k) (ys := ys) hk (by rw [h2]; exact h1)
  have hs := st_step hk
  rw [h2] at hp hs
  rw [hs] at hp
  subst hx
  refine ⟨hp, hs, ?_⟩
  have := PN.put_len (PN.zig (if k < 2 then l.getD k 0 - la else l.getD k 0 - la - sp)) (by have := PN.code_le (k := k) (last := la) (step := sp) hb.1 hb.2 h0; omega)
  simp only [List.length_append]
  omega
theorem PackAt.done {l : List Int} {k : Nat} {la sp : Int} {ys : List UInt8} (h : PackAt l k la sp ys) (hk : l.length ≤ k) : ys = PN.pack0 l := by
  rw [← h.1, List.drop_eq_nil_of_le hk]; simp [PN.pk]

set_option maxRecDepth 100000 in
set_option maxHeartbeats 1600000 in
theorem l1Pack_any (A : Option Addr) (n c : Nat) (l : List Int) (B : Nat) (w : World) (hl : l.length = n) (h : Rd w B 1 A n (ints l)) (hok : ∀ n ∈ l, -999 ≤ n ∧ n ≤ 999) (hn : n ≤ 1000) (hB : B ≤ w.heap.size) : Calls Try.prog 23 #[.slice A n c] w (Str w w.heap.size (PN.pack0 l)) := by
  have HL := hide hl
  have HR := hide (h.more hB)
  have HK := hide hok
  clear hl h hok hB
  go_enter Try.func23, Try.ntmps23
  go_wp2
  go_loopw [3, 4, 5, 6] (fun s la sp i wr => ∃ (k : Nat) (x y : Int) (ys : List UInt8), k ≤ n ∧ i = .int .i64 k ∧ la = .int .i64 x ∧ sp = .int .i64 y ∧ s = .string (S ys) ∧ Hid (PackAt l k x y ys) ∧ Below w.heap.size w wr) (fun _ _ _ i _ => n - (intOf i).toNat)
  case atStart => exact ⟨0, 0, 0, [], Nat.zero_le _, rfl, rfl, rfl, rfl, hide (PackAt.start l), Below.refl _ _⟩
  case round =>
    obtain ⟨k, la, sp, ys, hk, rfl, rfl, rfl, rfl, hp, hbel⟩ := hrel
    have hsz := hbel.size
    by_cases hlt : k < n
    · obtain ⟨b, off, rfl, hb, hc⟩ := (HR.out.below hbel).int HL.out hlt
      obtain ⟨x, hx⟩ : ∃ x, x = l.getD k 0 := ⟨_, rfl⟩
      have hx0 : -999 ≤ x ∧ x ≤ 999 := by rw [hx]; exact num_at HK.out (by rw [HL.out]; exact hlt)
      have hbd := hp.out.bd (fun n hn => HK.out n (List.mem_of_mem_take hn))
      have hN := hide (hp.out.next (by rw [HL.out]; exact hlt) hx hx0 hbd)
      have hcl := PN.code_le (k := k) hbd.1 hbd.2 hx0
      have hyl : ys.length ≤ 2 * k := hp.out.2.2
      rw [← hx] at hc
      obtain ⟨⟨g1, g2⟩, g3, g4⟩ := hbd
      obtain ⟨g5, g6⟩ := hx0
      have e1 := S_size ys
      clear hx hp
      by_cases h2 : k < 2
      · rw [if_pos h2] at hcl
        have hN' : Hid (PackAt l (k + 1) x (x - la) (ys ++ PN.put (PN.zig (x - la)))) := hide (by have := hN.out; rw [if_pos h2] at this; exact this)
        clear hN
        have e2 := S_size (PN.put (PN.zig (x - la)))
        have e3 := PN.put_len (PN.zig (x - la)) (by omega)
        go_wp2_with fail
        refine (l1Zig_any _ (by omega) _).mono ?_
        rintro e w' ⟨rfl, rfl⟩
        go_wp2_with fail
        refine (l1Put_any (PN.zig (x - la)) wr (by omega) (by omega)).mono ?_
        rintro e w1 ⟨rfl, hb1⟩
        have HB := hbel.trans (hb1.mono hsz)
        have hc1 := (hb1.cell (p := ⟨b, off + k, none⟩) (Nat.lt_of_lt_of_le hb hsz)).trans hc
        clear hb1 hbel
        go_wp2
        go_roundw
        case rel => exact ⟨k + 1, x, x - la, _, by omega, by go_num, rfl, rfl, by rw [S_append], hN', HB⟩
        case measure => simp [intOf]; omega
      · rw [if_neg h2] at hcl
        have hN' : Hid (PackAt l (k + 1) x (x - la) (ys ++ PN.put (PN.zig (x - la - sp)))) := hide (by have := hN.out; rw [if_neg h2] at this; exact this)
        clear hN
        have e2 := S_size (PN.put (PN.zig (x - la - sp)))
        have e3 := PN.put_len (PN.zig (x - la - sp)) (by omega)
        go_wp2_with fail
        refine (l1Zig_any _ (by omega) _).mono ?_
        rintro e w' ⟨rfl, rfl⟩
        go_wp2_with fail
        refine (l1Put_any (PN.zig (x - la - sp)) wr (by omega) (by omega)).mono ?_
        rintro e w1 ⟨rfl, hb1⟩
        have HB := hbel.trans (hb1.mono hsz)
        have hc1 := (hb1.cell (p := ⟨b, off + k, none⟩) (Nat.lt_of_lt_of_le hb hsz)).trans hc
        clear hb1 hbel
        go_wp2
        go_roundw
        case rel => exact ⟨k + 1, x, x - la, _, by omega, by go_num, rfl, rfl, by rw [S_append], hN', HB⟩
        case measure => simp [intOf]; omega
    · have hd := hide (hp.out.done (by rw [HL.out]; omega))
      go_wp2
      go_ret
      exact ⟨ret_str (by rw [hd.out]), hbel⟩


theorem own_ret {w : World} {B e size n : Nat} {v : Value} {xs : List Value} (h : w.ownsRow B e size v n xs) : ∃ A c, v = .slice A n c ∧ w.ownsRow B e size (.slice A n c) n xs := by
  obtain ⟨A, c, rfl, _⟩ := own_shape h
  exact ⟨A, c, rfl, h⟩

set_option maxRecDepth 100000 in
set_option maxHeartbeats 1600000 in
theorem implNumsPack (A : Option Addr) (n c : Nat) (l : List Int) (B : Nat) (w : World) (hl : l.length = n) (h : Rd w B 1 A n (ints l)) (hn : n ≤ 2000000) (hB : B ≤ w.heap.size) : Calls Try.prog 19 #[.slice A n c] w (Str w w.heap.size (PN.pack l)) := by
  have HL := hide hl
  have HR := hide (h.more hB)
  clear hl h hB
  by_cases hm : 24 < n
  · have hp : Hid (PN.pack l = []) := hide (by
      unfold PN.pack
      rw [if_neg]
      intro hh
      have h1 := (PN.okB_iff.1 hh).2
      have h2 := HL.out
      omega)
    go_enter Try.func19, Try.ntmps19
    go_wp2
    go_ret
    exact ⟨ret_str (by rw [hp.out]; rfl), Below.refl _ _⟩
  · have hO : (w.alloc (.cells #[] 5)).ownsRow w.heap.size 5 1 (.slice (some ⟨w.heap.size, 0, none⟩) 0 0) 0 (bys []) := World.ownsRow_lit w #[] 0 (Nat.le_refl _) (Nat.zero_le _) rfl
    go_enter Try.func19, Try.ntmps19
    go_wp2
    go_loopw [3, 4, 5, 15] (fun s la sp i wr => ∃ (k : Nat) (x y : Int) (ys : List UInt8) (A' : Option Addr) (c' : Nat), k ≤ n ∧ i = .int .i64 k ∧ la = .int .i64 x ∧ sp = .int .i64 y ∧ s = .slice A' ys.length c' ∧ wr.ownsRow w.heap.size 5 1 (.slice A' ys.length c') ys.length (bys ys) ∧ Hid (PackAt l k x y ys) ∧ Hid (∀ n ∈ l.take k, -999 ≤ n ∧ n ≤ 999) ∧ Below w.heap.size w wr) (fun _ _ _ i _ => n - (intOf i).toNat)
    case atStart => exact ⟨0, 0, 0, [], _, _, Nat.zero_le _, rfl, rfl, rfl, rfl, hO, hide (PackAt.start l), hide (by simp), (Below.refl _ _).alloc (Nat.le_refl _) _⟩
    case round =>
      clear hO
      obtain ⟨k, la, sp, ys, A', c', hk, rfl, rfl, rfl, rfl, hown, hp, hall, hbel⟩ := hrel
      have hsz := hbel.size
      by_cases hlt : k < n
      · obtain ⟨b, off, rfl, hb, hc⟩ := (HR.out.below hbel).int HL.out hlt
        obtain ⟨x, hx⟩ : ∃ x, x = l.getD k 0 := ⟨_, rfl⟩
        rw [← hx] at hc
        by_cases hin : -999 ≤ x ∧ x ≤ 999
        · have hbd := hp.out.bd hall.out
          have hN := hide (hp.out.next (by rw [HL.out]; exact hlt) hx hin hbd)
          have hA : Hid (∀ n ∈ l.take (k + 1), -999 ≤ n ∧ n ≤ 999) := hide (by
            rw [take_snoc l k (by rw [HL.out]; exact hlt)]
            intro q hq
            rcases List.mem_append.1 hq with h1 | h1
            · exact hall.out q h1
            · simp at h1
              rw [h1, ← getD_eq, ← hx]
              exact hin)
          have hcl := PN.code_le (k := k) hbd.1 hbd.2 hin
          have hyl : ys.length ≤ 2 * k := hp.out.2.2
          obtain ⟨⟨g1, g2⟩, g3, g4⟩ := hbd
          obtain ⟨g5, g6⟩ := hin
          clear hx hp hall
          by_cases h2 : k < 2
          · rw [if_pos h2] at hcl
            have hN' : Hid (PackAt l (k + 1) x (x - la) (ys ++ PN.put (PN.zig (x - la)))) := hide (by have := hN.out; rw [if_pos h2] at this; exact this)
            clear hN
            have e3 := PN.put_len (PN.zig (x - la)) (by omega)
            have HV := hide (varint_any w.heap.size _ ys (PN.zig (x - la)) wr hown hsz (by omega) (by simp; omega))
            go_wp2_with fail
            refine (within_yes _ _ _ _ ⟨g5, g6⟩).mono ?_
            rintro e w' ⟨rfl, rfl⟩
            go_wp2_with fail
            refine (zig_any _ (by omega) _).mono ?_
            rintro e w' ⟨rfl, rfl⟩
            go_wp2_with fail
            refine HV.out.mono ?_
            rintro e w1 ⟨v1, rfl, hown1, hb1⟩
            have HB := hbel.trans hb1
            clear hb1 hbel HV
            go_wp2
            go_roundw
            case rel =>
              obtain ⟨A1, c1, hv1, ho1⟩ := own_ret hown1
              exact ⟨k + 1, x, x - la, _, A1, c1, by omega, by go_num, rfl, rfl, hv1, ho1, hN', hA, HB⟩
            case measure => simp [intOf]; omega
          · rw [if_neg h2] at hcl
            have hN' : Hid (PackAt l (k + 1) x (x - la) (ys ++ PN.put (PN.zig (x - la - sp)))) := hide (by have := hN.out; rw [if_neg h2] at this; exact this)
            clear hN
            have e3 := PN.put_len (PN.zig (x - la - sp)) (by omega)
            have HV := hide (varint_any w.heap.size _ ys (PN.zig (x - la - sp)) wr hown hsz (by omega) (by simp; omega))
            go_wp2_with fail
            refine (within_yes _ _ _ _ ⟨g5, g6⟩).mono ?_
            rintro e w' ⟨rfl, rfl⟩
            go_wp2_with fail
            refine (zig_any _ (by omega) _).mono ?_
            rintro e w' ⟨rfl, rfl⟩
            go_wp2_with fail
            refine HV.out.mono ?_
            rintro e w1 ⟨v1, rfl, hown1, hb1⟩
            have HB := hbel.trans hb1
            clear hb1 hbel HV
            go_wp2
            go_roundw
            case rel =>
              obtain ⟨A1, c1, hv1, ho1⟩ := own_ret hown1
              exact ⟨k + 1, x, x - la, _, A1, c1, by omega, by go_num, rfl, rfl, hv1, ho1, hN', hA, HB⟩
            case measure => simp [intOf]; omega
        · have hF : Hid (PN.pack l = []) := hide (by
            unfold PN.pack
            rw [if_neg]
            intro hh
            apply hin
            rw [hx]
            exact num_at (PN.okB_iff.1 hh).1 (by rw [HL.out]; exact hlt))
          clear hx hp hall
          go_wp2_with fail
          refine (within_no _ _ _ _ hin).mono ?_
          rintro e w' ⟨rfl, rfl⟩
          go_wp2
          go_ret
          exact ⟨ret_str (by rw [hF.out]; rfl), hbel⟩
      · have hd := hide (hp.out.done (by rw [HL.out]; omega))
        have hF : Hid (PN.pack l = PN.pack0 l) := hide (by
          unfold PN.pack
          rw [if_pos (PN.okB_iff.2 ⟨?_, by rw [HL.out]; omega⟩)]
          have := hall.out
          rwa [List.take_of_length_le (by rw [HL.out]; omega)] at this)
        have kc := conv_S hown rfl
        clear hp hall
        go_wp2
        go_ret
        exact ⟨ret_str (by rw [hF.out, hd.out]), hbel⟩

end Go.Proofs.Ytlalldjlgaldeaa
