/-
  PLAIN: numbers read back from bytes, by a reader that takes one way alone and by one that takes more; no program in sight.
-/
import Derived.Test.YtlalldjlgaldeaaPlainNums
namespace Go.Proofs.Ytlalldjlgaldeaa.PN

/-- The reader that takes one way alone, behind k bytes worth z. -/
def gt (k z : Nat) : List UInt8 → Option (Nat × List UInt8)
  | [] => none
  | a :: r => if 3 ≤ k then none else if a.toNat < 128 then (if a.toNat = 0 ∧ 0 < k then none else some (z + 128 ^ k * a.toNat, r)) else gt (k + 1) (z + 128 ^ k * (a.toNat % 128)) r

theorem gt_three (z : Nat) (l : List UInt8) : gt 3 z l = none := by cases l <;> simp [gt]
theorem get_gt (l : List UInt8) : get l = gt 0 0 l := by
  rcases l with _ | ⟨a, _ | ⟨b, _ | ⟨c, r⟩⟩⟩
  · rfl
  · by_cases h1 : a.toNat < 128 <;> simp [get, gt, h1]
  · by_cases h1 : a.toNat < 128 <;> by_cases h2 : b.toNat < 128 <;> by_cases h3 : b.toNat = 0 <;> simp [get, gt, h1, h2, h3]
  · by_cases h1 : a.toNat < 128 <;> by_cases h2 : b.toNat < 128 <;> by_cases h3 : b.toNat = 0 <;> by_cases h4 : c.toNat < 128 <;> by_cases h5 : c.toNat = 0 <;> simp [get, gt, gt_three, h1, h2, h3, h4, h5]

/-- The reader that takes more ways, behind k bytes worth z. -/
def gd (k z : Nat) : List UInt8 → Option (Nat × List UInt8)
  | [] => none
  | a :: r => if a.toNat < 128 ∨ 2 ≤ k then some (z + 128 ^ k * a.toNat, r) else gd (k + 1) (z + 128 ^ k * (a.toNat - 128)) r

theorem gd_of_gt (l : List UInt8) (k z : Nat) (p : Nat × List UInt8) (h : gt k z l = some p) : gd k z l = some p := by
  induction l generalizing k z with
  | nil => cases h
  | cons a r ih =>
    have ha := toNat_lt a
    simp only [gt] at h
    split at h
    · cases h
    · split at h
      · split at h
        · cases h
        · simp only [gd]
          rw [if_pos (.inl (by assumption))]
          exact h
      · by_cases hk : 2 ≤ k
        · have hk2 : k = 2 := by omega
          subst hk2
          match r, h with
          | [], h => cases h
          | b :: r, h => simp [gt] at h
        · simp only [gd]
          rw [if_neg (by omega)]
          rw [show a.toNat % 128 = a.toNat - 128 by omega] at h
          exact ih _ _ h

theorem gd_get {l : List UInt8} {p : Nat × List UInt8} (h : get l = some p) : gd 0 0 l = some p := gd_of_gt l 0 0 p (by rw [← get_gt]; exact h)

theorem zag_bd (z : Nat) (n : Nat) (h : z ≤ 2 * n) : -(n : Int) ≤ zag z ∧ zag z ≤ n := by
  unfold zag; split <;> omega
/-- What NumZag says of a code that a list has. -/
theorem nz_of (z : Nat) (h : z ≤ 7992) : (if 0 ≤ (z : Int) ∧ (z : Int) ≤ 15984 then zag (z : Int).toNat else 0) = zag z := by
  rw [if_pos (by omega)]; simp
theorem nz_bd (z : Int) : -7992 ≤ (if 0 ≤ z ∧ z ≤ 15984 then zag z.toNat else 0) ∧ (if 0 ≤ z ∧ z ≤ 15984 then zag z.toNat else 0) ≤ 7992 := by
  split
  · exact zag_bd _ 7992 (by omega)
  · omega

/-- What is held while the program reads: whatever list has the bytes goes on from what has been read; numbers are small. -/
structure ImplAt (b : List UInt8) (acc : List Int) (la sp : Int) (rem : List UInt8) : Prop where
  goes : Goes b acc rem
  is : st (0, 0) acc = (la, sp)
  sp : -7992 * (acc.length : Int) ≤ sp ∧ sp ≤ 7992 * (acc.length : Int)
  la : -200000 * (acc.length : Int) ≤ la ∧ la ≤ 200000 * (acc.length : Int)

theorem ImplAt.start (b : List UInt8) : ImplAt b [] 0 0 b := ⟨Goes.start b, rfl, by simp, by simp⟩

/-- Its next number: what its reader gives. -/
theorem ImplAt.next {b : List UInt8} {acc : List Int} {la sp : Int} {rem rem' : List UInt8} {z : Nat} {d : Int} (h : ImplAt b acc la sp rem) (hl : acc.length < 24) (hg : gd 0 0 rem = some (z, rem'))
    (hd : d = (if acc.length < 2 then (if 0 ≤ (z : Int) ∧ (z : Int) ≤ 15984 then zag (z : Int).toNat else 0) else (if 0 ≤ (z : Int) ∧ (z : Int) ≤ 15984 then zag (z : Int).toNat else 0) + sp)) :
    ImplAt b (acc ++ [la + d]) (la + d) d rem' := by
  have hb := nz_bd (z : Int)
  have h1 := h.sp
  have h2 := h.la
  have hne : rem ≠ [] := by rintro rfl; cases hg
  refine ⟨?_, ?_, ?_, ?_⟩
  · intro x hx hp
    obtain ⟨n, r, rfl, h24, l1, l2, hrem, hz⟩ := h.goes.next hne hx hp
    have hgp := get_put _ (show zig (if acc.length < 2 then n - (st (0, 0) acc).1 else n - (st (0, 0) acc).1 - (st (0, 0) acc).2) < 2097152 by omega) (pk (acc.length + 1) n (n - (st (0, 0) acc).1) r)
    rw [← hrem] at hgp
    have := gd_get hgp
    rw [hg] at this
    simp only [Option.some.injEq, Prod.mk.injEq] at this
    obtain ⟨e1, e2⟩ := this
    rw [h.is] at e1 e2 hz
    simp only at e1 e2 hz
    rw [← e1] at hz
    rw [nz_of z hz, e1, zag_zig] at hd
    have hn : la + d = n := by rw [hd]; split <;> omega
    refine ⟨r, by rw [hn]; simp, ?_⟩
    rw [st_snoc, h.is, e2, hn]
    simp
  · rw [st_snoc, h.is]
    simp only [Prod.mk.injEq, true_and]
    omega
  · rw [List.length_append]
    simp only [List.length_cons, List.length_nil]
    push_cast
    split at hd <;> omega
  · rw [List.length_append]
    simp only [List.length_cons, List.length_nil]
    push_cast
    split at hd <;> omega

/-- It stops where there is no list. -/
theorem ImplAt.none {b : List UInt8} {acc : List Int} {la sp : Int} {rem : List UInt8} (h : ImplAt b acc la sp rem) (hne : rem ≠ []) (hg : 24 ≤ acc.length ∨ gd 0 0 rem = none) : unp b = .none := by
  refine unp_none fun x hx hp => ?_
  obtain ⟨n, r, rfl, h24, l1, l2, hrem, hz⟩ := h.goes.next hne hx hp
  rcases hg with hg | hg
  · omega
  · have hgp := get_put _ (show zig (if acc.length < 2 then n - (st (0, 0) acc).1 else n - (st (0, 0) acc).1 - (st (0, 0) acc).2) < 2097152 by omega) (pk (acc.length + 1) n (n - (st (0, 0) acc).1) r)
    rw [← hrem] at hgp
    rw [gd_get hgp] at hg
    cases hg

theorem pk_ne {k : Nat} {la sp : Int} {r : List Int} (h : pk k la sp r = []) : r = [] := by
  match r, h with
  | [], _ => rfl
  | n :: r, h =>
    simp only [pk] at h
    exact absurd (List.append_eq_nil_iff.1 h).1 (put_ne _)

/-- It is at the end: it packs again, and looks. -/
theorem ImplAt.done {b : List UInt8} {acc : List Int} {la sp : Int} (h : ImplAt b acc la sp []) :
    (pack acc = b → unp b = some acc) ∧ (pack acc ≠ b → unp b = .none) := by
  constructor
  · intro hp
    by_cases hb : b = []
    · subst hb
      cases hk : okB acc
      · exfalso
        obtain ⟨r, hr, _⟩ := h.goes [] rfl rfl
        have : acc = [] := by
          match acc, hr with
          | [], _ => rfl
        subst this
        cases hk
      · exact unp_some hk (by rw [← pack_of_ok hk]; exact hp)
    · obtain ⟨h1, h2⟩ := pack_ok (l := acc) (by rw [hp]; exact hb)
      exact unp_some h1 (by rw [← h2]; exact hp)
  · intro hp
    refine unp_none fun x hx hq => ?_
    obtain ⟨r, rfl, hr⟩ := h.goes x hx hq
    have := pk_ne hr.symm
    subst this
    apply hp
    rw [List.append_nil] at hx hq
    rw [pack_of_ok hx, hq]

/-- What is held while the reference reads. -/
structure SpecAt (b : List UInt8) (acc : List Int) (la sp : Int) (rem : List UInt8) : Prop where
  ok : okB acc = true
  eq : pack0 acc ++ rem = b
  is : st (0, 0) acc = (la, sp)
  bd : -999 ≤ la ∧ la ≤ 999 ∧ -1998 ≤ sp ∧ sp ≤ 1998
theorem SpecAt.start (b : List UInt8) : SpecAt b [] 0 0 b := ⟨rfl, rfl, rfl, by omega⟩
theorem SpecAt.goes {b : List UInt8} {acc : List Int} {la sp : Int} {rem : List UInt8} (h : SpecAt b acc la sp rem) : Goes b acc rem := by
  intro x hx hp
  obtain ⟨r, hr, ht⟩ := pk_pre acc x 0 0 0 rem (by omega) (by omega) (okB_iff.1 h.ok).1 (okB_iff.1 hx).1 (by have := h.eq; rw [← hp] at this; exact this)
  exact ⟨r, hr, by rw [ht]; simp⟩
theorem SpecAt.done {b : List UInt8} {acc : List Int} {la sp : Int} (h : SpecAt b acc la sp []) : unp b = some acc := unp_some h.ok (by have := h.eq; simpa using this)
theorem SpecAt.none {b : List UInt8} {acc : List Int} {la sp : Int} {rem : List UInt8} (h : SpecAt b acc la sp rem) (hne : rem ≠ []) (hg : 24 ≤ acc.length ∨ get rem = .none) : unp b = .none := by
  refine unp_none fun x hx hp => ?_
  obtain ⟨n, r, rfl, h24, l1, l2, hrem, hz⟩ := h.goes.next hne hx hp
  rcases hg with hg | hg
  · omega
  · have hgp := get_put _ (show zig (if acc.length < 2 then n - (st (0, 0) acc).1 else n - (st (0, 0) acc).1 - (st (0, 0) acc).2) < 2097152 by omega) (pk (acc.length + 1) n (n - (st (0, 0) acc).1) r)
    rw [← hrem, hg] at hgp
    cases hgp
theorem SpecAt.next {b : List UInt8} {acc : List Int} {la sp : Int} {rem rem' : List UInt8} {z : Nat} {d : Int} (h : SpecAt b acc la sp rem) (hl : acc.length < 24) (hg : get rem = some (z, rem'))
    (hd : d = (if acc.length < 2 then zag z else zag z + sp)) :
    (okB (acc ++ [la + d]) = true → SpecAt b (acc ++ [la + d]) (la + d) d rem') ∧ (okB (acc ++ [la + d]) = false → unp b = .none) := by
  have hz : zig (if acc.length < 2 then la + d - (st (0, 0) acc).1 else la + d - (st (0, 0) acc).1 - (st (0, 0) acc).2) = z := by
    rw [h.is, hd]
    simp only
    split
    · rw [show la + zag z - la = zag z by omega, zig_zag]
    · rw [show la + (zag z + sp) - la - sp = zag z by omega, zig_zag]
  obtain ⟨e1, e2⟩ := put_get hg
  constructor
  · intro hk
    have hb := st_bd _ (okB_iff.1 hk).1
    rw [st_snoc, h.is] at hb
    simp only at hb
    rw [show la + d - la = d by omega] at hb
    refine ⟨hk, ?_, ?_, hb⟩
    · rw [← h.eq, e1]
      unfold pack0
      rw [pk_append]
      simp only [pk, List.append_nil, Nat.zero_add, List.append_assoc]
      rw [hz]
    · rw [st_snoc, h.is]
      simp only [Prod.mk.injEq, true_and]
      omega
  · intro hk
    refine unp_none fun x hx hp => ?_
    have hne : rem ≠ [] := by rintro rfl; cases hg
    obtain ⟨n, r, rfl, h24, l1, l2, hrem, hz'⟩ := h.goes.next hne hx hp
    have hgp := get_put _ (show zig (if acc.length < 2 then n - (st (0, 0) acc).1 else n - (st (0, 0) acc).1 - (st (0, 0) acc).2) < 2097152 by omega) (pk (acc.length + 1) n (n - (st (0, 0) acc).1) r)
    rw [← hrem, hg] at hgp
    simp only [Option.some.injEq, Prod.mk.injEq] at hgp
    obtain ⟨e3, e4⟩ := hgp
    rw [h.is] at e3
    simp only at e3
    rw [e3, zag_zig] at hd
    have hn : la + d = n := by rw [hd]; split <;> omega
    rw [hn] at hk
    have hx' := okB_iff.1 hx
    have : okB (acc ++ [n]) = true := okB_iff.2 ⟨fun y hy => hx'.1 y (by simp only [List.mem_append, List.mem_cons, List.not_mem_nil, or_false] at hy ⊢; rcases hy with hy | hy; exact .inl hy; exact .inr (.inl hy)), by have := hx'.2; simp only [List.length_append, List.length_cons, List.length_nil] at this ⊢; omega⟩
    rw [this] at hk
    cases hk
theorem SpecAt.len {b : List UInt8} {acc : List Int} {la sp : Int} {rem : List UInt8} (h : SpecAt b acc la sp rem) : acc.length ≤ 24 := (okB_iff.1 h.ok).2

theorem get_lt {l : List UInt8} {z : Nat} {t : List UInt8} (h : get l = some (z, t)) : ∃ u, 1 ≤ u ∧ u ≤ l.length ∧ t = l.drop u ∧ u ≤ 3 := by
  match l, h with
  | a :: r, h =>
    simp only [get] at h
    split at h
    · simp only [Option.some.injEq, Prod.mk.injEq] at h
      exact ⟨1, by omega, by simp, by rw [← h.2]; rfl, by omega⟩
    · match r, h with
      | b :: r, h =>
        simp only at h
        split at h
        · split at h
          · cases h
          · simp only [Option.some.injEq, Prod.mk.injEq] at h
            exact ⟨2, by omega, by simp, by rw [← h.2]; rfl, by omega⟩
        · match r, h with
          | c :: r, h =>
            simp only at h
            split at h
            · split at h
              · cases h
              · simp only [Option.some.injEq, Prod.mk.injEq] at h
                exact ⟨3, by omega, by simp, by rw [← h.2]; rfl, by omega⟩
            · cases h

end Go.Proofs.Ytlalldjlgaldeaa.PN
