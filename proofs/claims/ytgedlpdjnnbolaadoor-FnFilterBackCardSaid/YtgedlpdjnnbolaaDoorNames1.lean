/-
  WALKS: tags and names: tagOk, l3Tag, NameOk of the program and of the reference.
-/
import Derived.Test.YtgedlpdjnnbolaaDoorZig
import Derived.Test.YtgedlpdjnnbolaaDoorPlainTags
import Derived.Test.YtgedlpdjnnbolaaDoorText
import Derived.Test.YtgedlpdjnnbolaaDoorQuiet
import Derived.BigQuiet
import Derived.Deep.QuietTactic
import Derived.Laws.Cover1
namespace Go.Proofs.YtgedlpdjnnbolaaDoor
set_option linter.unusedVariables false
open Go.RowKit

/-- A bool is handed back, nothing that was there is written. -/
def Bl (w : World) (b : Bool) (e : Ending) (w' : World) : Prop := e = .returned (.bool b) ∧ Below w.heap.size w w'
def tgs (l : List PT.Tag) : List Value := l.flatMap fun r => [.string (S r.1), .string (S r.2)]
theorem tgs_len (l : List PT.Tag) : (tgs l).length = l.length * 2 := by
  induction l with
  | nil => rfl
  | cons a l ih => simp only [tgs, List.flatMap_cons, List.length_append, List.length_cons, List.length_nil] at ih ⊢; omega
theorem tgs_append (a b : List PT.Tag) : tgs (a ++ b) = tgs a ++ tgs b := by simp [tgs]
theorem tgs_at {l : List PT.Tag} {k : Nat} (h : k < l.length) : (tgs l)[k * 2]? = some (.string (S (l.getD k ([], [])).1)) ∧ (tgs l)[k * 2 + 1]? = some (.string (S (l.getD k ([], [])).2)) := by
  induction l generalizing k with
  | nil => simp at h
  | cons a l ih =>
    have e : tgs (a :: l) = .string (S a.1) :: .string (S a.2) :: tgs l := rfl
    rw [e]
    match k with
    | 0 => simp
    | k + 1 =>
      have := ih (k := k) (by simpa using h)
      rw [show (k + 1) * 2 = k * 2 + 1 + 1 by omega]
      simpa using this
theorem tgs_one {l : List PT.Tag} : ∀ u ∈ tgs l, u.oneCell' = true := by
  intro u hu
  simp only [tgs, List.mem_flatMap, List.mem_cons, List.not_mem_nil, or_false] at hu
  obtain ⟨a, _, rfl | rfl⟩ := hu <;> rfl
/-- Where there is a k-th tag: its two cells. -/
theorem Rd.tag {w : World} {B : Nat} {A : Option Addr} {n : Nat} {l : List PT.Tag} (h : Rd w B 2 A n (tgs l)) (hl : l.length = n) {k : Nat} (hk : k < n) :
    ∃ b off, A = some ⟨b, off, none⟩ ∧ b < B ∧ ∀ j, j < n → w.cell? ⟨b, off + j * 2, none⟩ = some (.string (S (l.getD j ([], [])).1)) ∧ w.cell? ⟨b, off + j * 2 + 1, none⟩ = some (.string (S (l.getD j ([], [])).2)) := by
  obtain ⟨b, off, e, hb, hc⟩ := h.at_ (by omega)
  exact ⟨b, off, e, hb, fun j hj => ⟨hc _ _ (tgs_at (by omega)).1, hc _ _ (tgs_at (by omega)).2⟩⟩

theorem one_less (a b : UInt8) : Op.bytesLess [a] [b] = decide (a.toNat < b.toNat) := by
  simp [Op.bytesLess, UInt8.lt_iff_toNat_lt]
theorem lt_yes {a c : UInt8} (h : a.toNat < c.toNat) : Op.bytesLess (S [a]).toList [c] = true := by rw [S_toList, one_less]; exact decide_eq_true h
theorem lt_no {a c : UInt8} (h : c.toNat ≤ a.toNat) : Op.bytesLess (S [a]).toList [c] = false := by rw [S_toList, one_less]; exact decide_eq_false (by omega)
theorem le_yes {a c : UInt8} (h : a.toNat ≤ c.toNat) : (Op.bytesLess (S [a]).toList [c] || (S [a]).toList == [c]) = true := by
  rcases Nat.lt_or_ge a.toNat c.toNat with h1 | h1
  · rw [lt_yes h1]; rfl
  · have : a = c := UInt8.toNat_inj.1 (by omega)
    subst this
    rw [S_toList]
    simp
theorem le_no {a c : UInt8} (h : c.toNat < a.toNat) : (Op.bytesLess (S [a]).toList [c] || (S [a]).toList == [c]) = false := by
  rw [lt_no (by omega), S_toList, Bool.false_or]
  refine beq_eq_false_iff_ne.2 fun e => ?_
  injection e with e
  subst e
  omega

set_option maxRecDepth 100000 in
set_option maxHeartbeats 1600000 in
theorem tagOk_any (k v : List UInt8) (w : World) : Calls Tryd.prog 24 #[.agg #[.string (S k), .string (S v)]] w (Bl w (PT.tagB (k, v))) := by
  have z1 := S_size k
  have z2 := S_size v
  by_cases hk : k.length = 1
  · match k, hk with
    | [a], _ =>
      simp only [List.length_cons, List.length_nil, Nat.zero_add] at z1
      by_cases c1 : a.toNat < 97
      · have p1 := lt_yes (a := a) (c := 97) c1
        have F : Hid (PT.tagB ([a], v) = false) := hide (by
          cases hb : PT.tagB ([a], v)
          · rfl
          · obtain ⟨x, y, e, h1, h2, h3, h4⟩ := PT.tagB_iff.1 hb
            injection e with e1 e2
            injection e1 with e3
            subst e3
            omega)
        go_enter Tryd.func24, Tryd.ntmps24
        go_wp2
        go_ret
        exact ⟨ret_bool (by rw [F.out]), (Below.refl _ _).alloc (Nat.le_refl _) _⟩
      · have p1 := lt_no (a := a) (c := 97) (by simpa using c1)
        by_cases c2 : 100 < a.toNat
        · have p2 := le_no (a := a) (c := 100) c2
          have F : Hid (PT.tagB ([a], v) = false) := hide (by
            cases hb : PT.tagB ([a], v)
            · rfl
            · obtain ⟨x, y, e, h1, h2, h3, h4⟩ := PT.tagB_iff.1 hb
              injection e with e1 e2
              injection e1 with e3
              subst e3
              omega)
          go_enter Tryd.func24, Tryd.ntmps24
          go_wp2
          go_ret
          exact ⟨ret_bool (by rw [F.out]), (Below.refl _ _).alloc (Nat.le_refl _) _⟩
        · have p2 := le_yes (a := a) (c := 100) (by simpa using c2)
          by_cases hv : v.length = 1
          · match v, hv with
            | [b], _ =>
              simp only [List.length_cons, List.length_nil, Nat.zero_add] at z2
              by_cases c3 : b.toNat < 112
              · have p3 := lt_yes (a := b) (c := 112) c3
                have F : Hid (PT.tagB ([a], [b]) = false) := hide (by
                  cases hb : PT.tagB ([a], [b])
                  · rfl
                  · obtain ⟨x, y, e, h1, h2, h3, h4⟩ := PT.tagB_iff.1 hb
                    injection e with e1 e2
                    injection e2 with e3
                    subst e3
                    omega)
                go_enter Tryd.func24, Tryd.ntmps24
                go_wp2
                go_ret
                exact ⟨ret_bool (by rw [F.out]), (Below.refl _ _).alloc (Nat.le_refl _) _⟩
              · have p3 := lt_no (a := b) (c := 112) (by simpa using c3)
                by_cases c4 : 122 < b.toNat
                · have p4 := le_no (a := b) (c := 122) c4
                  have F : Hid (PT.tagB ([a], [b]) = false) := hide (by
                    cases hb : PT.tagB ([a], [b])
                    · rfl
                    · obtain ⟨x, y, e, h1, h2, h3, h4⟩ := PT.tagB_iff.1 hb
                      injection e with e1 e2
                      injection e2 with e3
                      subst e3
                      omega)
                  go_enter Tryd.func24, Tryd.ntmps24
                  go_wp2
                  go_ret
                  exact ⟨ret_bool (by rw [F.out]), (Below.refl _ _).alloc (Nat.le_refl _) _⟩
                · have p4 := le_yes (a := b) (c := 122) (by simpa using c4)
                  have F : Hid (PT.tagB ([a], [b]) = true) := hide (PT.tagB_iff.2 ⟨a, b, rfl, by omega, by omega, by omega, by omega⟩)
                  go_enter Tryd.func24, Tryd.ntmps24
                  go_wp2
                  go_ret
                  exact ⟨ret_bool (by rw [F.out]), (Below.refl _ _).alloc (Nat.le_refl _) _⟩
          · have F : Hid (PT.tagB ([a], v) = false) := hide (PT.tagB_val hv)
            have hv2 : ((v.length : Int) == 1) = false := beq_eq_false_iff_ne.2 (by omega)
            go_enter Tryd.func24, Tryd.ntmps24
            go_wp2
            go_ret
            exact ⟨ret_bool (by rw [F.out]), (Below.refl _ _).alloc (Nat.le_refl _) _⟩
  · have F : Hid (PT.tagB (k, v) = false) := hide (PT.tagB_key hk)
    have hk2 : ((k.length : Int) == 1) = false := beq_eq_false_iff_ne.2 (by omega)
    go_enter Tryd.func24, Tryd.ntmps24
    go_wp2
    go_ret
    exact ⟨ret_bool (by rw [F.out]), (Below.refl _ _).alloc (Nat.le_refl _) _⟩

set_option maxRecDepth 100000 in
set_option maxHeartbeats 1600000 in
theorem l3Tag_any (k v : List UInt8) (w : World) : Calls Tryd.prog 36 #[.agg #[.string (S k), .string (S v)]] w (Bl w (PT.tagB (k, v))) := by
  have z1 := S_size k
  have z2 := S_size v
  by_cases hk : k.length = 1
  · by_cases hv : v.length = 1
    · match k, v, hk, hv with
      | [a], [b], _, _ =>
        simp only [List.length_cons, List.length_nil, Nat.zero_add] at z1 z2
        have s1 : ∀ h, (S [a])[0]'h = a := fun _ => rfl
        have s2 : ∀ h, (S [b])[0]'h = b := fun _ => rfl
        have b1 := a.toNat_lt
        have b2 := b.toNat_lt
        have F : Hid (PT.tagB ([a], [b]) = (inB (a.toNat : Int) 97 100 && inB (b.toNat : Int) 112 122)) := hide (by
          simp only [PT.tagB, inB]
          congr 1 <;> congr 1 <;> exact decide_eq_decide.2 (by omega))
        cases hi : inB (a.toNat : Int) 97 100
        · have C1 := hide (fun w' => l6In_any (a.toNat : Int) 97 100 w')
          rw [hi] at F C1
          go_enter Tryd.func36, Tryd.ntmps36
          go_wp2_with fail
          refine (C1.out _).mono ?_
          rintro e w' ⟨rfl, rfl⟩
          go_wp2
          go_ret
          exact ⟨ret_bool (by rw [F.out]; rfl), (Below.refl _ _).alloc (Nat.le_refl _) _⟩
        · have C1 := hide (fun w' => l6In_any (a.toNat : Int) 97 100 w')
          rw [hi] at F C1
          go_enter Tryd.func36, Tryd.ntmps36
          go_wp2_with fail
          refine (C1.out _).mono ?_
          rintro e w' ⟨rfl, rfl⟩
          go_wp2_with fail
          refine (l6In_any (b.toNat : Int) 112 122 _).mono ?_
          rintro e w' ⟨rfl, rfl⟩
          go_wp2
          go_ret
          exact ⟨ret_bool (by rw [F.out]; simp), (Below.refl _ _).alloc (Nat.le_refl _) _⟩
    · have F : Hid (PT.tagB (k, v) = false) := hide (PT.tagB_val hv)
      have hv2 : ((v.length : Int) == 1) = false := beq_eq_false_iff_ne.2 (by omega)
      have hk2 : ((k.length : Int) == 1) = true := by rw [hk]; rfl
      go_enter Tryd.func36, Tryd.ntmps36
      go_wp2
      go_ret
      exact ⟨ret_bool (by rw [F.out]), (Below.refl _ _).alloc (Nat.le_refl _) _⟩
  · have F : Hid (PT.tagB (k, v) = false) := hide (PT.tagB_key hk)
    have hk2 : ((k.length : Int) == 1) = false := beq_eq_false_iff_ne.2 (by omega)
    go_enter Tryd.func36, Tryd.ntmps36
    go_wp2
    go_ret
    exact ⟨ret_bool (by rw [F.out]), (Below.refl _ _).alloc (Nat.le_refl _) _⟩

set_option maxRecDepth 100000 in
set_option maxHeartbeats 1600000 in
theorem implNameOk (A : Option Addr) (n c : Nat) (l : List PT.Tag) (B : Nat) (w : World) (hl : l.length = n) (h : Rd w B 2 A n (tgs l)) (hn : n ≤ 2000000) (hB : B ≤ w.heap.size) : Calls Tryd.prog 11 #[.slice A n c] w (Bl w (PT.nameB l)) := by
  have HL := hide hl
  have HR := hide (h.more hB)
  clear hl h hB
  go_enter Tryd.func11, Tryd.ntmps11
  go_wp2
  go_loopw [7] (fun i wr => ∃ k : Nat, k ≤ n ∧ i = .int .i64 k ∧ Hid (PT.okTo l k = true) ∧ Below w.heap.size w wr) (fun i _ => n - (intOf i).toNat)
  case atStart => exact ⟨0, Nat.zero_le _, rfl, hide (PT.okTo_zero l), Below.refl _ _⟩
  case round =>
    obtain ⟨k, hk, rfl, hall, hbel⟩ := hrel
    have hsz := hbel.size
    by_cases hlt : k < n
    · obtain ⟨b, off, rfl, hb, hc⟩ := (HR.out.below hbel).tag HL.out hlt
      obtain ⟨c1, c2⟩ := hc k hlt
      have hs := hide (PT.okTo_succ l k)
      have hF : Hid (PT.okAt l k = false → PT.nameB l = false) := hide (fun hf => by
        cases hh : PT.nameB l
        · rfl
        · unfold PT.nameB at hh
          rw [Bool.and_eq_true] at hh
          rw [PT.okTo_iff.1 hh.1 k (by rw [HL.out]; exact hlt)] at hf
          cases hf)
      obtain ⟨r, hr⟩ : ∃ r, r = l.getD k ([], []) := ⟨_, rfl⟩
      have hR := hide hr
      rw [← hr] at c1 c2
      obtain ⟨t, v⟩ := r
      clear hr
      have hbw : b ≠ wr.heap.size := by omega
      have W0 : Hid (∀ j, (wr.alloc (.cells #[.string (S t), .string (S v)] 42)).cell? ⟨wr.heap.size, j, none⟩ = #[Value.string (S t), .string (S v)][j]?) := hide (fun j => World.cell?_alloc_new _ _ _ _)
      have WB := hide (hbel.alloc hsz (.cells #[.string (S t), .string (S v)] 42))
      have WR := hide (fun j hj => (hc j hj).1)
      clear hc
      cases hro : PT.tagB (t, v)
      · have cr := hide (fun W : World => tagOk_any t v W)
        simp only [hro] at cr
        have hF' := hide (hF.out (by unfold PT.okAt; rw [← hR.out, hro]; rfl))
        clear hro hF hs
        go_wp2
        generalize wr.alloc (.cells #[.string (S t), .string (S v)] 42) = W at W0 WB ⊢
        have k0 := W0.out 0
        have k1 := W0.out 1
        simp only [List.getElem?_toArray, List.getElem?_cons_zero, List.getElem?_cons_succ] at k0 k1
        have g0 : wr.heap.size < W.heap.size := World.block_lt_of_cell? _ _ k0
        have e0 := ext_cell (B := W.heap.size) k0 (Nat.le_refl _)
        have e1 := ext_cell (B := W.heap.size) k1 (Nat.le_refl _)
        refine wp_region_ext W.heap.size (by kernel_rfl) (by kernel_rfl) ?_
        repeat (go_big_quiet_step ((go_at_call 24; exact ext_call _ (Nat.le_refl _) (cr.out _))))
        refine wpQuiet_nil ?_
        intro _ hw'
        obtain ⟨x, hw''⟩ := hw'
        subst hw''
        go_wp2
        go_ret
        exact ⟨ret_bool hF'.out.symm, WB.out.trans (x.is.mono WB.out.size)⟩
      · have cr := hide (fun W : World => tagOk_any t v W)
        simp only [hro] at cr
        have hN : Hid (∀ b, PT.okAt l k = b → PT.okTo l (k + 1) = b) := hide (fun b hb => by rw [hs.out, hall.out, hb]; simp)
        clear hs hall
        by_cases hk0 : k = 0
        · subst hk0
          simp only [Nat.zero_mul, Nat.add_zero] at c1 c2
          have hN' := hide (hN.out true (by unfold PT.okAt; rw [← hR.out, hro]; simp))
          clear hN hro hF WR
          go_wp2
          generalize wr.alloc (.cells #[.string (S t), .string (S v)] 42) = W at W0 WB ⊢
          have k0 := W0.out 0
          have k1 := W0.out 1
          simp only [List.getElem?_toArray, List.getElem?_cons_zero, List.getElem?_cons_succ] at k0 k1
          have e0 := ext_cell (B := W.heap.size) k0 (Nat.le_refl _)
          have e1 := ext_cell (B := W.heap.size) k1 (Nat.le_refl _)
          refine wp_region_ext W.heap.size (by kernel_rfl) (by kernel_rfl) ?_
          repeat (go_big_quiet_step ((go_at_call 24; exact ext_call _ (Nat.le_refl _) (cr.out _))))
          refine wpQuiet_nil ?_
          intro _ hw'
          obtain ⟨x, hw''⟩ := hw'
          subst hw''
          clear e0 e1 k0 k1
          go_wp2
          go_roundw
          case rel => exact ⟨1, by omega, by go_num, hN', WB.out.trans (x.is.mono WB.out.size)⟩
          case measure => simp [intOf]; omega
        · obtain ⟨j, rfl⟩ : ∃ j, k = j + 1 := ⟨k - 1, by omega⟩
          have c3 := WR.out j (by omega)
          obtain ⟨p, hp⟩ : ∃ p, p = (l.getD j ([], [])).1 := ⟨_, rfl⟩
          rw [← hp] at c3
          have hA : Hid (PT.okAt l (j + 1) = PT.less p t) := hide (by unfold PT.okAt; rw [← hR.out, hro, Nat.add_sub_cancel, ← hp]; simp)
          clear hp WR hro hk0
          have ha1 : IntKind.i64.wrap (j : Int) = (j : Int) := IntWalk.i64_in _ (by omega)
          have hj0 : (0 : Int) < (j : Int) + 1 := by omega
          have hj1 : decide ((0 : Int) < (j : Int) + 1) = true := decide_eq_true (by omega)
          have hj2 : (0 : Int) ≤ (j : Int) ∧ (j : Int) < (n : Int) := by omega
          cases hpt : PT.less p t
          · have hF' := hide (hF.out (by rw [hA.out]; exact hpt))
            have hpt' : Op.bytesLess (S p).toList (S t).toList = false := by rw [S_toList, S_toList]; exact hpt
            clear hN hA hF
            go_wp2
            have k2 : (wr.alloc (.cells #[.string (S t), .string (S v)] 42)).cell? ⟨b, off + j * 2, none⟩ = some (.string (S p)) := by rw [World.cell?_alloc_lt _ _ _ (by simp; omega)]; exact c3
            generalize wr.alloc (.cells #[.string (S t), .string (S v)] 42) = W at W0 WB k2 ⊢
            have k0 := W0.out 0
            have k1 := W0.out 1
            simp only [List.getElem?_toArray, List.getElem?_cons_zero, List.getElem?_cons_succ] at k0 k1
            have e0 := ext_cell (B := W.heap.size) k0 (Nat.le_refl _)
            have e1 := ext_cell (B := W.heap.size) k1 (Nat.le_refl _)
            have e2 := ext_cell (B := W.heap.size) k2 (Nat.le_refl _)
            refine wp_region_ext W.heap.size (by kernel_rfl) (by kernel_rfl) ?_
            repeat (go_big_quiet_step ((go_at_call 24; exact ext_call _ (Nat.le_refl _) (cr.out _))))
            refine wpQuiet_nil ?_
            intro _ hw'
            obtain ⟨x, hw''⟩ := hw'
            subst hw''
            clear e0 e1 e2 k0 k1 k2 ha1
            go_wp2
            go_ret
            exact ⟨ret_bool hF'.out.symm, WB.out.trans (x.is.mono WB.out.size)⟩
          · have hN' := hide (hN.out true (by rw [hA.out]; exact hpt))
            have hpt' : Op.bytesLess (S p).toList (S t).toList = true := by rw [S_toList, S_toList]; exact hpt
            clear hN hA hF
            go_wp2
            have k2 : (wr.alloc (.cells #[.string (S t), .string (S v)] 42)).cell? ⟨b, off + j * 2, none⟩ = some (.string (S p)) := by rw [World.cell?_alloc_lt _ _ _ (by simp; omega)]; exact c3
            generalize wr.alloc (.cells #[.string (S t), .string (S v)] 42) = W at W0 WB k2 ⊢
            have k0 := W0.out 0
            have k1 := W0.out 1
            simp only [List.getElem?_toArray, List.getElem?_cons_zero, List.getElem?_cons_succ] at k0 k1
            have e0 := ext_cell (B := W.heap.size) k0 (Nat.le_refl _)
            have e1 := ext_cell (B := W.heap.size) k1 (Nat.le_refl _)
            have e2 := ext_cell (B := W.heap.size) k2 (Nat.le_refl _)
            refine wp_region_ext W.heap.size (by kernel_rfl) (by kernel_rfl) ?_
            repeat (go_big_quiet_step ((go_at_call 24; exact ext_call _ (Nat.le_refl _) (cr.out _))))
            refine wpQuiet_nil ?_
            intro _ hw'
            obtain ⟨x, hw''⟩ := hw'
            subst hw''
            clear e0 e1 e2 k0 k1 k2 ha1
            go_wp2
            go_roundw
            case rel => exact ⟨j + 1 + 1, by omega, by go_num, hN', WB.out.trans (x.is.mono WB.out.size)⟩
            case measure => simp [intOf]; omega
    · have hkn : k = n := by omega
      have hF : Hid (PT.nameB l = inB (n : Int) 1 3) := hide (by
        unfold PT.nameB inB
        rw [HL.out, ← hkn, hall.out, Bool.true_and]
        congr 1 <;> exact decide_eq_decide.2 (by omega))
      clear hkn
      go_wp2_with fail
      refine (within_any _ _ _ _).mono ?_
      rintro e w' ⟨rfl, rfl⟩
      go_wp2
      go_ret
      exact ⟨ret_bool hF.out.symm, hbel⟩

set_option maxRecDepth 100000 in
set_option maxHeartbeats 1600000 in
theorem specNameOk (A : Option Addr) (n c : Nat) (l : List PT.Tag) (B : Nat) (w : World) (hl : l.length = n) (h : Rd w B 2 A n (tgs l)) (hn : n ≤ 2000000) (hB : B ≤ w.heap.size) : Calls Tryd.prog 20 #[.slice A n c] w (Bl w (PT.nameB l)) := by
  have HL := hide hl
  have HR := hide (h.more hB)
  clear hl h hB
  go_enter Tryd.func20, Tryd.ntmps20
  go_wp2
  go_loopw [3] (fun i wr => ∃ k : Nat, k ≤ n ∧ i = .int .i64 k ∧ Hid (PT.okTo l k = true) ∧ Below w.heap.size w wr) (fun i _ => n - (intOf i).toNat)
  case atStart => exact ⟨0, Nat.zero_le _, rfl, hide (PT.okTo_zero l), Below.refl _ _⟩
  case round =>
    obtain ⟨k, hk, rfl, hall, hbel⟩ := hrel
    have hsz := hbel.size
    by_cases hlt : k < n
    · obtain ⟨b, off, rfl, hb, hc⟩ := (HR.out.below hbel).tag HL.out hlt
      obtain ⟨c1, c2⟩ := hc k hlt
      have hs := hide (PT.okTo_succ l k)
      have hF : Hid (PT.okAt l k = false → PT.nameB l = false) := hide (fun hf => by
        cases hh : PT.nameB l
        · rfl
        · unfold PT.nameB at hh
          rw [Bool.and_eq_true] at hh
          rw [PT.okTo_iff.1 hh.1 k (by rw [HL.out]; exact hlt)] at hf
          cases hf)
      obtain ⟨r, hr⟩ : ∃ r, r = l.getD k ([], []) := ⟨_, rfl⟩
      have hR := hide hr
      rw [← hr] at c1 c2
      obtain ⟨t, v⟩ := r
      clear hr
      have WB := hide hbel
      have WR := hide (fun j hj => (hc j hj).1)
      have hin : (0 : Int) ≤ (k : Int) ∧ (k : Int) < (n : Int) := by omega
      clear hc hbel
      cases hro : PT.tagB (t, v)
      · have cr := hide (fun W : World => l3Tag_any t v W)
        simp only [hro] at cr
        have hF' := hide (hF.out (by unfold PT.okAt; rw [← hR.out, hro]; rfl))
        clear hro hF hs
        have e0 := ext_cell (B := wr.heap.size) c1 (Nat.le_refl _)
        have e1 := ext_cell (B := wr.heap.size) c2 (Nat.le_refl _)
        go_wp2
        refine wp_region_ext wr.heap.size (by kernel_rfl) (by kernel_rfl) ?_
        repeat (go_big_quiet_step ((go_at_call 36; exact ext_call _ (Nat.le_refl _) (cr.out _))))
        refine wpQuiet_nil ?_
        intro _ hw'
        obtain ⟨x, hw''⟩ := hw'
        subst hw''
        go_wp2
        go_ret
        exact ⟨ret_bool hF'.out.symm, WB.out.trans (x.is.mono WB.out.size)⟩
      · have cr := hide (fun W : World => l3Tag_any t v W)
        simp only [hro] at cr
        have hN : Hid (∀ b, PT.okAt l k = b → PT.okTo l (k + 1) = b) := hide (fun b hb => by rw [hs.out, hall.out, hb]; simp)
        clear hs hall
        by_cases hk0 : k = 0
        · subst hk0
          simp only [Nat.zero_mul, Nat.add_zero] at c1 c2
          have hN' := hide (hN.out true (by unfold PT.okAt; rw [← hR.out, hro]; simp))
          clear hN hro hF WR
          have e0 := ext_cell (B := wr.heap.size) c1 (Nat.le_refl _)
          have e1 := ext_cell (B := wr.heap.size) c2 (Nat.le_refl _)
          go_wp2
          refine wp_region_ext wr.heap.size (by kernel_rfl) (by kernel_rfl) ?_
          repeat (go_big_quiet_step ((go_at_call 36; exact ext_call _ (Nat.le_refl _) (cr.out _))))
          refine wpQuiet_nil ?_
          intro _ hw'
          obtain ⟨x, hw''⟩ := hw'
          subst hw''
          clear e0 e1
          go_wp2
          go_roundw
          case rel => exact ⟨1, by omega, by go_num, hN', WB.out.trans (x.is.mono WB.out.size)⟩
          case measure => simp [intOf]; omega
        · obtain ⟨j, rfl⟩ : ∃ j, k = j + 1 := ⟨k - 1, by omega⟩
          have c3 := WR.out j (by omega)
          obtain ⟨p, hp⟩ : ∃ p, p = (l.getD j ([], [])).1 := ⟨_, rfl⟩
          rw [← hp] at c3
          have hA : Hid (PT.okAt l (j + 1) = PT.less p t) := hide (by unfold PT.okAt; rw [← hR.out, hro, Nat.add_sub_cancel, ← hp]; simp)
          clear hp WR hro hk0
          have ha1 : IntKind.i64.wrap (j : Int) = (j : Int) := IntWalk.i64_in _ (by omega)
          have hj0 : (0 : Int) < (j : Int) + 1 := by omega
          have hj1 : decide ((0 : Int) < (j : Int) + 1) = true := decide_eq_true (by omega)
          have hj2 : (0 : Int) ≤ (j : Int) ∧ (j : Int) < (n : Int) := by omega
          have hj3 : (0 : Int) ≤ (j : Int) + 1 ∧ (j : Int) + 1 < (n : Int) := by omega
          have hj4 : ((j : Int) + 1).toNat = j + 1 := by omega
          have e0 := ext_cell (B := wr.heap.size) c1 (Nat.le_refl _)
          have e1 := ext_cell (B := wr.heap.size) c2 (Nat.le_refl _)
          have e2 := ext_cell (B := wr.heap.size) c3 (Nat.le_refl _)
          cases hpt : PT.less p t
          · have hF' := hide (hF.out (by rw [hA.out]; exact hpt))
            have hpt' : Op.bytesLess (S p).toList (S t).toList = false := by rw [S_toList, S_toList]; exact hpt
            clear hN hA hF
            go_wp2
            refine wp_region_ext wr.heap.size (by kernel_rfl) (by kernel_rfl) ?_
            repeat (go_big_quiet_step ((go_at_call 36; exact ext_call _ (Nat.le_refl _) (cr.out _))))
            refine wpQuiet_nil ?_
            intro _ hw'
            obtain ⟨x, hw''⟩ := hw'
            subst hw''
            clear e0 e1 e2 ha1 hj4
            go_wp2
            go_ret
            exact ⟨ret_bool hF'.out.symm, WB.out.trans (x.is.mono WB.out.size)⟩
          · have hN' := hide (hN.out true (by rw [hA.out]; exact hpt))
            have hpt' : Op.bytesLess (S p).toList (S t).toList = true := by rw [S_toList, S_toList]; exact hpt
            clear hN hA hF
            go_wp2
            refine wp_region_ext wr.heap.size (by kernel_rfl) (by kernel_rfl) ?_
            repeat (go_big_quiet_step ((go_at_call 36; exact ext_call _ (Nat.le_refl _) (cr.out _))))
            refine wpQuiet_nil ?_
            intro _ hw'
            obtain ⟨x, hw''⟩ := hw'
            subst hw''
            clear e0 e1 e2 ha1 hj4
            go_wp2
            go_roundw
            case rel => exact ⟨j + 1 + 1, by omega, by go_num, hN', WB.out.trans (x.is.mono WB.out.size)⟩
            case measure => simp [intOf]; omega
    · have hkn : k = n := by omega
      have hF : Hid (PT.nameB l = inB (n : Int) 1 3) := hide (by
        unfold PT.nameB inB
        rw [HL.out, ← hkn, hall.out, Bool.true_and]
        congr 1 <;> exact decide_eq_decide.2 (by omega))
      clear hkn
      go_wp2_with fail
      refine (l6In_any _ _ _ _).mono ?_
      rintro e w' ⟨rfl, rfl⟩
      go_wp2
      go_ret
      exact ⟨ret_bool hF.out.symm, hbel⟩

end Go.Proofs.YtgedlpdjnnbolaaDoor
