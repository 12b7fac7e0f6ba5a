/-
  WALKS: FilterFits of the program and of the reference.
-/
import Derived.Test.YtgedlpdjnnbolaaFits1
namespace Go.Proofs.Ytgedlpdjnnbolaa
set_option linter.unusedVariables false
open Go.RowKit

set_option maxRecDepth 100000 in
theorem contains_any (A : Option Addr) (n c : Nat) (l : List PT.Tag) (t v : List UInt8) (B : Nat) (w : World) (hl : l.length = n) (h : Rd w B 2 A n (tgs l)) (hn : n ≤ 4000000) (hB : B ≤ w.heap.size) :
    Calls Try.prog 49 #[.slice A n c, .agg #[.string (S t), .string (S v)]] w (Bl w (PT.has l (t, v))) := by
  have B0 : Hid (Below w.heap.size w (w.alloc (.cells #[.string (S t), .string (S v)] 27))) := hide ((Below.refl _ _).alloc (Nat.le_refl _) _)
  have C := hide (index_any A n c l t v w.heap.size (w.alloc (.cells #[.string (S t), .string (S v)] 27)) hl ((h.more hB).below B0.out) hn B0.out.size)
  clear hl h hB
  go_enter Try.func49, Try.ntmps49
  go_wp2_with fail
  refine C.out.mono ?_
  rintro e w2 ⟨r, rfl, hr, b2⟩
  have HB := hide (below_keepN B0.out b2)
  clear b2 C
  go_wp2
  go_ret
  exact ⟨by first | rfl | exact ret_bool hr, HB.out⟩

def fitOk (n : List PT.Tag) (c : PT.Cond) : Bool := PT.has n c.1 != c.2
theorem fits_no {f : List PT.Cond} {n : List PT.Tag} {k : Nat} (hk : k < f.length) (h : fitOk n (f.getD k (([], []), false)) = false) : PT.fits f n = false := by
  cases hb : PT.fits f n
  · rfl
  · unfold PT.fits at hb
    rw [List.all_eq_true] at hb
    have := hb (f.getD k (([], []), false)) (by rw [PT.getD_cond hk]; exact List.getElem_mem _)
    unfold fitOk at h
    rw [this] at h; cases h
theorem fits_yes {f : List PT.Cond} {n : List PT.Tag} {k : Nat} (hk : k < f.length) (h : PT.fits (f.take k) n = true) (h2 : fitOk n (f.getD k (([], []), false)) = true) : PT.fits (f.take (k + 1)) n = true := by
  unfold PT.fits at h ⊢
  unfold fitOk at h2
  rw [List.take_succ_eq_append_getElem hk, List.all_append, h, ← PT.getD_cond hk]
  simp only [List.all_cons, List.all_nil, Bool.and_true, Bool.true_and]
  exact h2

set_option maxRecDepth 100000 in
set_option maxHeartbeats 3200000 in
theorem l3Fits_any (A A' : Option Addr) (n n' c c' : Nat) (f : List PT.Cond) (z : List PT.Tag) (B B' : Nat) (w : World) (hl : f.length = n) (hl' : z.length = n') (h : Rd w B 3 A n (cnds f)) (h' : Rd w B' 2 A' n' (tgs z)) (hn : n ≤ 2000000) (hn' : n' ≤ 2000000) (hB : B ≤ w.heap.size) (hB' : B' ≤ w.heap.size) : Calls Try.prog 50 #[.slice A n c, .slice A' n' c'] w (Bl w (PT.fits f z)) := by
  have HL := hide hl
  have HL' := hide hl'
  have RF := hide (h.more hB)
  have RN := hide (h'.more hB')
  have hn' : n' ≤ 4000000 := by omega
  clear hl hl' h h' hB hB'
  obtain ⟨w0, hw0⟩ : ∃ w0, w0 = w := ⟨_, rfl⟩
  subst hw0
  go_enter Try.func50, Try.ntmps50
  go_wp2
  go_loopw [5] (fun i wr => ∃ k : Nat, k ≤ n ∧ i = .int .i64 k ∧ Hid (PT.fits (f.take k) z = true) ∧ Hid (Below w0.heap.size w0 wr)) (fun i _ => n - (intOf i).toNat)
  case atStart => exact ⟨0, Nat.zero_le _, rfl, hide (by simp [PT.fits]), hide (Below.refl _ _)⟩
  case round =>
    obtain ⟨k, hk, rfl, hp, hbel⟩ := hrel
    have hsz := hbel.out.size
    by_cases hlt : k < n
    · obtain ⟨b, off, rfl, hb, hc⟩ := (RF.out.below hbel.out).cond HL.out hlt
      obtain ⟨c1, c2, c3⟩ := hc k hlt
      obtain ⟨y, hy⟩ : ∃ y, f.getD k (([], []), false) = y := ⟨_, rfl⟩
      have HY := hide hy
      rw [hy] at c1 c2 c3
      obtain ⟨⟨t, v⟩, q⟩ := y
      clear hc hy
      have C0 : Hid (∀ wx, Below wr.heap.size wr wx → Calls Try.prog 54 #[.slice A' n' c', .agg #[.string (S t), .string (S v)]] wx (Bl wx (PT.has z (t, v)))) := hide (fun wx hx => l3Has_any A' n' c' z t v w0.heap.size wx HL'.out (RN.out.below (hbel.out.trans (hx.mono hsz))) hn' (hbel.out.trans (hx.mono hsz)).size)
      cases hh : PT.has z (t, v) == q
      · have F : Hid (PT.fits (f.take (k + 1)) z = true) := hide (fits_yes (by rw [HL.out]; exact hlt) hp.out (by rw [HY.out]; unfold fitOk; simp only [bne, hh, Bool.not_false]))
        clear HY hp
        generalize PT.has z (t, v) = hs at C0 hh
        have HBW := hbel
        have C := C0
        have e1 := ext_cell (B := wr.heap.size) c1 (Nat.le_refl _)
        have e2 := ext_cell (B := wr.heap.size) c2 (Nat.le_refl _)
        have e3 := ext_cell (B := wr.heap.size) c3 (Nat.le_refl _)
        have hin : (0 : Int) ≤ (k : Int) ∧ (k : Int) < (n : Int) := by omega
        clear C0
        go_wp2
        refine wp_region_ext wr.heap.size (by kernel_rfl) (by kernel_rfl) ?_
        repeat (go_big_quiet_step ((go_at_call 54; exact ext_call _ (Nat.le_refl _) (C.out _ (Ext.is _)))))
        refine wpQuiet_nil ?_
        intro _ hw'
        obtain ⟨x, hw''⟩ := hw'
        subst hw''
        clear e1 e2 e3
        go_wp2
        go_roundw
        case rel => exact ⟨k + 1, by omega, by go_num, F, hide (HBW.out.trans (x.is.mono HBW.out.size))⟩
        case measure => simp [intOf]; omega
      · have F : Hid (PT.fits f z = false) := hide (fits_no (k := k) (by rw [HL.out]; exact hlt) (by rw [HY.out]; unfold fitOk; simp only [bne, hh, Bool.not_true]))
        clear HY hp
        generalize PT.has z (t, v) = hs at C0 hh
        have HBW := hbel
        have C := C0
        have e1 := ext_cell (B := wr.heap.size) c1 (Nat.le_refl _)
        have e2 := ext_cell (B := wr.heap.size) c2 (Nat.le_refl _)
        have e3 := ext_cell (B := wr.heap.size) c3 (Nat.le_refl _)
        have hin : (0 : Int) ≤ (k : Int) ∧ (k : Int) < (n : Int) := by omega
        clear C0
        go_wp2
        refine wp_region_ext wr.heap.size (by kernel_rfl) (by kernel_rfl) ?_
        repeat (go_big_quiet_step ((go_at_call 54; exact ext_call _ (Nat.le_refl _) (C.out _ (Ext.is _)))))
        refine wpQuiet_nil ?_
        intro _ hw'
        obtain ⟨x, hw''⟩ := hw'
        subst hw''
        clear e1 e2 e3
        go_wp2
        go_ret
        exact ⟨ret_bool F.out.symm, (HBW.out.trans (x.is.mono HBW.out.size))⟩
    · have F : Hid (PT.fits f z = true) := hide (by have := hp.out; rwa [List.take_of_length_le (by rw [HL.out]; omega)] at this)
      go_wp2
      go_ret
      exact ⟨ret_bool F.out.symm, hbel.out⟩

set_option maxRecDepth 100000 in
set_option maxHeartbeats 3200000 in
theorem specFilterFits (A A' : Option Addr) (n n' c c' : Nat) (f : List PT.Cond) (z : List PT.Tag) (B B' : Nat) (w : World) (hl : f.length = n) (hl' : z.length = n') (h : Rd w B 3 A n (cnds f)) (h' : Rd w B' 2 A' n' (tgs z)) (hn : n ≤ 2000000) (hn' : n' ≤ 2000000) (hB : B ≤ w.heap.size) (hB' : B' ≤ w.heap.size) : Calls Try.prog 27 #[.slice A n c, .slice A' n' c'] w (Bl w (PT.fitsB f z)) := by
  have HL := hide hl
  have HL' := hide hl'
  have C1 := hide (specFilterOk A n c f B w hl h hn hB)
  have C2 : Hid (∀ wx, Below w.heap.size w wx → Calls Try.prog 18 #[.slice A' n' c'] wx (Bl wx (PT.nameB z))) := hide (fun wx hx => specNameOk A' n' c' z w.heap.size wx hl' ((h'.more hB').below hx) hn' hx.size)
  have C3 : Hid (∀ wx, Below w.heap.size w wx → Calls Try.prog 50 #[.slice A n c, .slice A' n' c'] wx (Bl wx (PT.fits f z))) := hide (fun wx hx => l3Fits_any A A' n n' c c' f z w.heap.size w.heap.size wx hl hl' ((h.more hB).below hx) ((h'.more hB').below hx) hn hn' hx.size hx.size)
  clear hl hl' h h' hB hB'
  cases hf : PT.filterB f
  · have F : Hid (PT.fitsB f z = false) := hide (by unfold PT.fitsB; rw [hf]; rfl)
    rw [hf] at C1
    clear hf
    go_enter Try.func27, Try.ntmps27
    go_wp2_with fail
    refine C1.out.mono ?_
    rintro e w1 ⟨rfl, b1⟩
    go_wp2
    go_ret
    exact ⟨ret_bool F.out.symm, b1⟩
  · cases hz : PT.nameB z
    · have F : Hid (PT.fitsB f z = false) := hide (by unfold PT.fitsB; rw [hf, hz]; rfl)
      rw [hf] at C1
      rw [hz] at C2
      clear hf hz
      go_enter Try.func27, Try.ntmps27
      go_wp2_with fail
      refine C1.out.mono ?_
      rintro e w1 ⟨rfl, b1⟩
      go_wp2_with fail
      refine (C2.out _ b1).mono ?_
      rintro e w2 ⟨rfl, b2⟩
      have B2 := hide (below_keepN b1 b2)
      clear b1 b2
      go_wp2
      go_ret
      exact ⟨ret_bool F.out.symm, B2.out⟩
    · have F0 : Hid (PT.fitsB f z = PT.fits f z) := hide (by unfold PT.fitsB; rw [hf, hz]; simp)
      rw [hf] at C1
      rw [hz] at C2
      clear hf hz
      go_enter Try.func27, Try.ntmps27
      go_wp2_with fail
      refine C1.out.mono ?_
      rintro e w1 ⟨rfl, b1⟩
      go_wp2_with fail
      refine (C2.out _ b1).mono ?_
      rintro e w0 ⟨rfl, b2⟩
      have B2 := hide (below_keepN b1 b2)
      clear b1 b2 C1 C2
      go_wp2_with fail
      refine (C3.out _ B2.out).mono ?_
      rintro e w3 ⟨rfl, b3⟩
      have B3 := hide (below_keepN B2.out b3)
      clear b3
      go_wp2
      go_ret
      exact ⟨ret_bool F0.out.symm, B3.out⟩

set_option maxRecDepth 100000 in
set_option maxHeartbeats 3200000 in
theorem implFilterFits (A A' : Option Addr) (n n' c c' : Nat) (f : List PT.Cond) (z : List PT.Tag) (B B' : Nat) (w : World) (hl : f.length = n) (hl' : z.length = n') (h : Rd w B 3 A n (cnds f)) (h' : Rd w B' 2 A' n' (tgs z)) (hn : n ≤ 2000000) (hn' : n' ≤ 2000000) (hB : B ≤ w.heap.size) (hB' : B' ≤ w.heap.size) : Calls Try.prog 26 #[.slice A n c, .slice A' n' c'] w (Bl w (PT.fitsB f z)) := by
  have HL := hide hl
  have HL' := hide hl'
  have C1 := hide (implFilterOk A n c f B w hl h hn hB)
  have C2 : Hid (∀ wx, Below w.heap.size w wx → Calls Try.prog 17 #[.slice A' n' c'] wx (Bl wx (PT.nameB z))) := hide (fun wx hx => implNameOk A' n' c' z w.heap.size wx hl' ((h'.more hB').below hx) hn' hx.size)
  have RF := hide (h.more hB)
  have RN := hide (h'.more hB')
  clear hl hl' h h' hB hB'
  cases hf : PT.filterB f
  · have F : Hid (PT.fitsB f z = false) := hide (by unfold PT.fitsB; rw [hf]; rfl)
    rw [hf] at C1
    clear hf
    go_enter Try.func26, Try.ntmps26
    go_wp2_with fail
    refine C1.out.mono ?_
    rintro e w1 ⟨rfl, b1⟩
    go_wp2
    go_ret
    exact ⟨ret_bool F.out.symm, b1⟩
  · cases hz : PT.nameB z
    · have F : Hid (PT.fitsB f z = false) := hide (by unfold PT.fitsB; rw [hf, hz]; rfl)
      rw [hf] at C1
      rw [hz] at C2
      clear hf hz
      go_enter Try.func26, Try.ntmps26
      go_wp2_with fail
      refine C1.out.mono ?_
      rintro e w1 ⟨rfl, b1⟩
      go_wp2_with fail
      refine (C2.out _ b1).mono ?_
      rintro e w2 ⟨rfl, b2⟩
      have B2 := hide (below_keepN b1 b2)
      clear b1 b2
      go_wp2
      go_ret
      exact ⟨ret_bool F.out.symm, B2.out⟩
    · have F0 : Hid (PT.fitsB f z = PT.fits f z) := hide (by unfold PT.fitsB; rw [hf, hz]; simp)
      rw [hf] at C1
      rw [hz] at C2
      clear hf hz
      go_enter Try.func26, Try.ntmps26
      go_wp2_with fail
      refine C1.out.mono ?_
      rintro e w1 ⟨rfl, b1⟩
      go_wp2_with fail
      refine (C2.out _ b1).mono ?_
      rintro e w0 ⟨rfl, b2⟩
      have B2 := hide (below_keepN b1 b2)
      clear b1 b2 C1 C2
      replace RF := hide ((RF.out.below B2.out).more B2.out.size)
      replace RN := hide ((RN.out.below B2.out).more B2.out.size)
      have hn' : n' ≤ 4000000 := by omega
      go_wp2
      go_loopw [17] (fun i wr => ∃ k : Nat, k ≤ n ∧ i = .int .i64 k ∧ Hid (PT.fits (f.take k) z = true) ∧ Hid (Below w0.heap.size w0 wr)) (fun i _ => n - (intOf i).toNat)
      case atStart => exact ⟨0, Nat.zero_le _, rfl, hide (by simp [PT.fits]), hide (Below.refl _ _)⟩
      case round =>
        obtain ⟨k, hk, rfl, hp, hbel⟩ := hrel
        have hsz := hbel.out.size
        by_cases hlt : k < n
        · obtain ⟨b, off, rfl, hb, hc⟩ := (RF.out.below hbel.out).cond HL.out hlt
          obtain ⟨c1, c2, c3⟩ := hc k hlt
          obtain ⟨y, hy⟩ : ∃ y, f.getD k (([], []), false) = y := ⟨_, rfl⟩
          have HY := hide hy
          rw [hy] at c1 c2 c3
          obtain ⟨⟨t, v⟩, q⟩ := y
          clear hc hy
          have C0 : Hid (∀ wx, Below wr.heap.size wr wx → Calls Try.prog 49 #[.slice A' n' c', .agg #[.string (S t), .string (S v)]] wx (Bl wx (PT.has z (t, v)))) := hide (fun wx hx => contains_any A' n' c' z t v w0.heap.size wx HL'.out (RN.out.below (hbel.out.trans (hx.mono hsz))) hn' (hbel.out.trans (hx.mono hsz)).size)
          cases hh : PT.has z (t, v) == q
          · have F : Hid (PT.fits (f.take (k + 1)) z = true) := hide (fits_yes (by rw [HL.out]; exact hlt) hp.out (by rw [HY.out]; unfold fitOk; simp only [bne, hh, Bool.not_false]))
            clear HY hp
            generalize PT.has z (t, v) = hs at C0 hh
            go_wp2
            have HBW := hide (hbel.out.alloc hsz (.cells #[.string (S t), .string (S v), .bool q] 29))
            have CW : Hid (Below wr.heap.size wr (wr.alloc (.cells #[.string (S t), .string (S v), .bool q] 29))) := hide ((Below.refl _ _).alloc (Nat.le_refl _) _)
            have W0 : Hid (∀ j, (wr.alloc (.cells #[.string (S t), .string (S v), .bool q] 29)).cell? ⟨wr.heap.size, j, none⟩ = #[Value.string (S t), .string (S v), .bool q][j]?) := hide (fun j => World.cell?_alloc_new _ _ _ _)
            generalize wr.alloc (.cells #[.string (S t), .string (S v), .bool q] 29) = W at HBW CW W0 ⊢
            have k0 := W0.out 0
            have k1 := W0.out 1
            have k2 := W0.out 2
            simp only [List.getElem?_toArray, List.getElem?_cons_zero, List.getElem?_cons_succ] at k0 k1 k2
            have C : Hid (∀ wx, Below W.heap.size W wx → Calls Try.prog 49 #[.slice A' n' c', .agg #[.string (S t), .string (S v)]] wx (Bl wx hs)) := hide (fun wx hx => C0.out wx (below_keepN CW.out hx))
            have e1 := ext_cell (B := W.heap.size) k0 (Nat.le_refl _)
            have e2 := ext_cell (B := W.heap.size) k1 (Nat.le_refl _)
            have e3 := ext_cell (B := W.heap.size) k2 (Nat.le_refl _)
            clear C0
            refine wp_region_ext W.heap.size (by kernel_rfl) (by kernel_rfl) ?_
            repeat (go_big_quiet_step ((go_at_call 49; exact ext_call _ (Nat.le_refl _) (C.out _ (Ext.is _)))))
            refine wpQuiet_nil ?_
            intro _ hw'
            obtain ⟨x, hw''⟩ := hw'
            subst hw''
            clear e1 e2 e3
            go_wp2
            go_roundw
            case rel => exact ⟨k + 1, by omega, by go_num, F, hide (HBW.out.trans (x.is.mono HBW.out.size))⟩
            case measure => simp [intOf]; omega
          · have F : Hid (PT.fits f z = false) := hide (fits_no (k := k) (by rw [HL.out]; exact hlt) (by rw [HY.out]; unfold fitOk; simp only [bne, hh, Bool.not_true]))
            clear HY hp
            generalize PT.has z (t, v) = hs at C0 hh
            go_wp2
            have HBW := hide (hbel.out.alloc hsz (.cells #[.string (S t), .string (S v), .bool q] 29))
            have CW : Hid (Below wr.heap.size wr (wr.alloc (.cells #[.string (S t), .string (S v), .bool q] 29))) := hide ((Below.refl _ _).alloc (Nat.le_refl _) _)
            have W0 : Hid (∀ j, (wr.alloc (.cells #[.string (S t), .string (S v), .bool q] 29)).cell? ⟨wr.heap.size, j, none⟩ = #[Value.string (S t), .string (S v), .bool q][j]?) := hide (fun j => World.cell?_alloc_new _ _ _ _)
            generalize wr.alloc (.cells #[.string (S t), .string (S v), .bool q] 29) = W at HBW CW W0 ⊢
            have k0 := W0.out 0
            have k1 := W0.out 1
            have k2 := W0.out 2
            simp only [List.getElem?_toArray, List.getElem?_cons_zero, List.getElem?_cons_succ] at k0 k1 k2
            have C : Hid (∀ wx, Below W.heap.size W wx → Calls Try.prog 49 #[.slice A' n' c', .agg #[.string (S t), .string (S v)]] wx (Bl wx hs)) := hide (fun wx hx => C0.out wx (below_keepN CW.out hx))
            have e1 := ext_cell (B := W.heap.size) k0 (Nat.le_refl _)
            have e2 := ext_cell (B := W.heap.size) k1 (Nat.le_refl _)
            have e3 := ext_cell (B := W.heap.size) k2 (Nat.le_refl _)
            clear C0
            refine wp_region_ext W.heap.size (by kernel_rfl) (by kernel_rfl) ?_
            repeat (go_big_quiet_step ((go_at_call 49; exact ext_call _ (Nat.le_refl _) (C.out _ (Ext.is _)))))
            refine wpQuiet_nil ?_
            intro _ hw'
            obtain ⟨x, hw''⟩ := hw'
            subst hw''
            clear e1 e2 e3
            go_wp2
            go_ret
            exact ⟨ret_bool (by rw [F0.out, F.out]), below_keepN B2.out (HBW.out.trans (x.is.mono HBW.out.size))⟩
        · have F : Hid (PT.fits f z = true) := hide (by have := hp.out; rwa [List.take_of_length_le (by rw [HL.out]; omega)] at this)
          go_wp2
          go_ret
          exact ⟨ret_bool (by rw [F0.out, F.out]), below_keepN B2.out hbel.out⟩

end Go.Proofs.Ytgedlpdjnnbolaa
