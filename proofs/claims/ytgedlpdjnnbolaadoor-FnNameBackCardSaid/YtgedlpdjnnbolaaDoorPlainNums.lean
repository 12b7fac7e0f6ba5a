/-
  PLAIN: numbers in bytes: the zigzag code, the varint, a list packed and read back; no program in sight.
-/
namespace Go.Proofs.YtgedlpdjnnbolaaDoor.PN

/-- The zigzag code. -/
def zig (n : Int) : Nat := if n < 0 then (-2 * n - 1).toNat else (2 * n).toNat
/-- The number of a code. -/
def zag (z : Nat) : Int := if z % 2 = 1 then -(((z : Int) + 1) / 2) else (z : Int) / 2

theorem zag_zig (n : Int) : zag (zig n) = n := by
  unfold zag zig
  split <;> split <;> omega
theorem zig_zag (z : Nat) : zig (zag z) = z := by
  unfold zag zig
  split <;> split <;> omega
theorem zig_inj {a b : Int} (h : zig a = zig b) : a = b := by rw [← zag_zig a, ← zag_zig b, h]
theorem zig_le (n : Int) (m : Nat) (h : -(m : Int) ≤ n) (h' : n ≤ m) : zig n ≤ 2 * m := by
  unfold zig; split <;> omega

/-- A code in groups of seven bits. -/
def put (z : Nat) : List UInt8 := if h : z < 128 then [UInt8.ofNat z] else UInt8.ofNat (z % 128 + 128) :: put (z / 128)
termination_by z
decreasing_by omega

theorem put_lt {z : Nat} (h : z < 128) : put z = [UInt8.ofNat z] := by rw [put, dif_pos h]
theorem put_ge {z : Nat} (h : ¬ z < 128) : put z = UInt8.ofNat (z % 128 + 128) :: put (z / 128) := by rw [put, dif_neg h]
theorem put_ne (z : Nat) : put z ≠ [] := by rw [put]; split <;> simp
theorem put_len (z : Nat) (h : z < 16384) : 1 ≤ (put z).length ∧ (put z).length ≤ 2 := by
  by_cases h1 : z < 128
  · rw [put_lt h1]; simp
  · rw [put_ge h1, put_lt (by omega)]; simp

/-- The code at the beginning of bytes, and the bytes behind it: in one way alone. -/
def get : List UInt8 → Option (Nat × List UInt8)
  | [] => none
  | a :: r =>
    if a.toNat < 128 then some (a.toNat, r) else
    match r with
    | [] => none
    | b :: r =>
      if b.toNat < 128 then (if b.toNat = 0 then none else some (a.toNat % 128 + 128 * b.toNat, r)) else
      match r with
      | [] => none
      | c :: r => if c.toNat < 128 then (if c.toNat = 0 then none else some (a.toNat % 128 + 128 * (b.toNat % 128) + 16384 * c.toNat, r)) else none

theorem ofNat_toNat {n : Nat} (h : n < 256) : (UInt8.ofNat n).toNat = n := by simp; omega
theorem toNat_lt (a : UInt8) : a.toNat < 256 := a.toNat_lt
theorem ofNat_of (a : UInt8) : UInt8.ofNat a.toNat = a := by simp

theorem get_put (z : Nat) (h : z < 2097152) (t : List UInt8) : get (put z ++ t) = some (z, t) := by
  by_cases h1 : z < 128
  · rw [put_lt h1]
    simp only [List.cons_append, List.nil_append, get]
    rw [ofNat_toNat (by omega), if_pos h1]
  · by_cases h2 : z < 16384
    · rw [put_ge h1, put_lt (by omega)]
      simp only [List.cons_append, List.nil_append, get]
      rw [ofNat_toNat (by omega), ofNat_toNat (by omega), if_neg (by omega), if_pos (by omega), if_neg (by omega)]
      simp only [Option.some.injEq, Prod.mk.injEq, and_true]
      omega
    · rw [put_ge h1, put_ge (by omega), put_lt (by omega)]
      simp only [List.cons_append, List.nil_append, get]
      rw [ofNat_toNat (by omega), ofNat_toNat (by omega), ofNat_toNat (by omega), if_neg (by omega), if_neg (by omega), if_pos (by omega), if_neg (by omega)]
      simp only [Option.some.injEq, Prod.mk.injEq, and_true]
      omega

theorem put_get {b t : List UInt8} {z : Nat} (h : get b = some (z, t)) : b = put z ++ t ∧ z < 2097152 := by
  match b, h with
  | a :: r, h =>
    have ha := toNat_lt a
    simp only [get] at h
    split at h
    · simp only [Option.some.injEq, Prod.mk.injEq] at h
      obtain ⟨rfl, rfl⟩ := h
      rw [put_lt (by assumption)]
      exact ⟨by simp, by omega⟩
    · match r, h with
      | b :: r, h =>
        have hb := toNat_lt b
        simp only at h
        split at h
        · split at h
          · cases h
          · simp only [Option.some.injEq, Prod.mk.injEq] at h
            obtain ⟨rfl, rfl⟩ := h
            rw [put_ge (by omega), put_lt (by omega), show (a.toNat % 128 + 128 * b.toNat) % 128 + 128 = a.toNat by omega, show (a.toNat % 128 + 128 * b.toNat) / 128 = b.toNat by omega]
            exact ⟨by simp, by omega⟩
        · match r, h with
          | c :: r, h =>
            have hc := toNat_lt c
            simp only at h
            split at h
            · split at h
              · cases h
              · simp only [Option.some.injEq, Prod.mk.injEq] at h
                obtain ⟨rfl, rfl⟩ := h
                rw [put_ge (by omega), put_ge (by omega), put_lt (by omega), show (a.toNat % 128 + 128 * (b.toNat % 128) + 16384 * c.toNat) % 128 + 128 = a.toNat by omega, show (a.toNat % 128 + 128 * (b.toNat % 128) + 16384 * c.toNat) / 128 % 128 + 128 = b.toNat by omega,
                  show (a.toNat % 128 + 128 * (b.toNat % 128) + 16384 * c.toNat) / 128 / 128 = c.toNat by omega]
                exact ⟨by simp, by omega⟩
            · cases h

/-- What a list adds behind 'k' numbers, the last one, and the last step. -/
def pk (k : Nat) (last step : Int) : List Int → List UInt8
  | [] => []
  | n :: r => put (zig (if k < 2 then n - last else n - last - step)) ++ pk (k + 1) n (n - last) r

/-- A number that may be packed. -/
def numB (n : Int) : Bool := decide (-999 ≤ n) && decide (n ≤ 999)
theorem numB_iff {n : Int} : numB n = true ↔ -999 ≤ n ∧ n ≤ 999 := by simp [numB]
def allB (l : List Int) : Bool := l.all numB
/-- A list that may be packed. -/
def okB (l : List Int) : Bool := allB l && decide (l.length ≤ 24)
theorem okB_iff {l : List Int} : okB l = true ↔ (∀ n ∈ l, -999 ≤ n ∧ n ≤ 999) ∧ l.length ≤ 24 := by
  simp only [okB, allB, Bool.and_eq_true, List.all_eq_true, decide_eq_true_eq, numB_iff]
def pack0 (l : List Int) : List UInt8 := pk 0 0 0 l
/-- A list in bytes. -/
def pack (l : List Int) : List UInt8 := if okB l then pack0 l else []

/-- The last number, and the last step. -/
def st (s : Int × Int) (l : List Int) : Int × Int := l.foldl (fun s n => (n, n - s.1)) s

theorem pk_append (k : Nat) (last step : Int) (a b : List Int) : pk k last step (a ++ b) = pk k last step a ++ pk (k + a.length) (st (last, step) a).1 (st (last, step) a).2 b := by
  induction a generalizing k last step with
  | nil => simp [pk, st]
  | cons n r ih =>
    simp only [List.cons_append, pk, List.length_cons, List.append_assoc]
    rw [ih]
    simp only [st, List.foldl_cons]
    rw [show k + 1 + r.length = k + (r.length + 1) by omega]

theorem st_snoc (s : Int × Int) (l : List Int) (n : Int) : st s (l ++ [n]) = (n, n - (st s l).1) := by simp [st]

/-- Bounds of the last number and the last step. -/
theorem st_bd (l : List Int) (h : ∀ n ∈ l, -999 ≤ n ∧ n ≤ 999) : -999 ≤ (st (0, 0) l).1 ∧ (st (0, 0) l).1 ≤ 999 ∧ -1998 ≤ (st (0, 0) l).2 ∧ (st (0, 0) l).2 ≤ 1998 := by
  rcases List.eq_nil_or_concat l with rfl | ⟨r, n, rfl⟩
  · simp [st]
  · rw [List.concat_eq_append] at h ⊢
    rw [st_snoc]
    have h1 := h n (by simp)
    rcases List.eq_nil_or_concat r with rfl | ⟨r', n', rfl⟩
    · simp only [st, List.foldl_nil]; omega
    · rw [List.concat_eq_append] at h ⊢
      rw [st_snoc]
      have h2 := h n' (by simp)
      simp only
      omega

/-- A step's code is small. -/
theorem code_le {k : Nat} {last step n : Int} (h1 : -999 ≤ last ∧ last ≤ 999) (h2 : -1998 ≤ step ∧ step ≤ 1998) (h3 : -999 ≤ n ∧ n ≤ 999) :
    zig (if k < 2 then n - last else n - last - step) ≤ 7992 := by
  refine zig_le _ 3996 ?_ ?_ <;> split <;> omega

/-- Two lists, one of which is packed ahead of the other's rest: the one begins the other. -/
theorem pk_pre (x l : List Int) (k : Nat) (last step : Int) (t : List UInt8) (h1 : -999 ≤ last ∧ last ≤ 999) (h2 : -1998 ≤ step ∧ step ≤ 1998)
    (hx : ∀ n ∈ x, -999 ≤ n ∧ n ≤ 999) (hl : ∀ n ∈ l, -999 ≤ n ∧ n ≤ 999) (h : pk k last step x ++ t = pk k last step l) :
    ∃ r, l = x ++ r ∧ t = pk (k + x.length) (st (last, step) x).1 (st (last, step) x).2 r := by
  induction x generalizing k last step l with
  | nil => exact ⟨l, rfl, by simpa [pk, st] using h⟩
  | cons n x ih =>
    match l with
    | [] =>
      simp only [pk, List.append_assoc] at h
      have := congrArg List.length h
      have hp := put_ne (zig (if k < 2 then n - last else n - last - step))
      simp only [List.length_append, List.length_nil] at this
      have hz : (put (zig (if k < 2 then n - last else n - last - step))).length = 0 := by omega
      exact absurd (List.eq_nil_of_length_eq_zero hz) hp
    | m :: l =>
      have hn := hx n (by simp)
      have hm := hl m (by simp)
      simp only [pk, List.append_assoc] at h
      have c1 := code_le (k := k) h1 h2 hn
      have c2 := code_le (k := k) h1 h2 hm
      have g1 := get_put _ (show zig (if k < 2 then n - last else n - last - step) < 2097152 by omega) (pk (k + 1) n (n - last) x ++ t)
      have g2 := get_put _ (show zig (if k < 2 then m - last else m - last - step) < 2097152 by omega) (pk (k + 1) m (m - last) l)
      rw [h, g2] at g1
      simp only [Option.some.injEq, Prod.mk.injEq] at g1
      obtain ⟨e1, e2⟩ := g1
      have e3 := zig_inj e1
      have e4 : m = n := by split at e3 <;> omega
      subst e4
      obtain ⟨r, hr, ht⟩ := ih l (k + 1) m (m - last) hm (by omega) (fun a ha => hx a (by simp [ha])) (fun a ha => hl a (by simp [ha])) e2.symm
      refine ⟨r, by rw [hr]; rfl, ?_⟩
      rw [ht]
      simp only [List.length_cons, st, List.foldl_cons]
      rw [show k + 1 + x.length = k + (x.length + 1) by omega]

theorem pack0_inj {x l : List Int} (hx : okB x = true) (hl : okB l = true) (h : pack0 x = pack0 l) : x = l := by
  obtain ⟨r, hr, ht⟩ := pk_pre x l 0 0 0 [] (by omega) (by omega) (okB_iff.1 hx).1 (okB_iff.1 hl).1 (by simpa [pack0] using h)
  have : r = [] := by
    match r, ht with
    | [], _ => rfl
    | n :: r, ht =>
      simp only [pk] at ht
      have hp := put_ne (zig (if 0 + x.length < 2 then n - (st (0, 0) x).1 else n - (st (0, 0) x).1 - (st (0, 0) x).2))
      have := congrArg List.length ht
      simp only [List.length_append, List.length_nil] at this
      exact absurd (List.eq_nil_of_length_eq_zero (by omega)) hp
  rw [hr, this, List.append_nil]

/-- The list of such bytes, if there is one. -/
noncomputable def unp (b : List UInt8) : Option (List Int) := open Classical in if h : ∃ x, okB x = true ∧ pack0 x = b then some (Classical.choose h) else none

theorem unp_some {b : List UInt8} {x : List Int} (h1 : okB x = true) (h2 : pack0 x = b) : unp b = some x := by
  have h : ∃ x, okB x = true ∧ pack0 x = b := ⟨x, h1, h2⟩
  rw [unp, dif_pos h]
  have := Classical.choose_spec h
  rw [pack0_inj this.1 h1 (this.2.trans h2.symm)]
theorem unp_none {b : List UInt8} (h : ∀ x, okB x = true → pack0 x = b → False) : unp b = none := by
  rw [unp, dif_neg]
  rintro ⟨x, h1, h2⟩
  exact h x h1 h2
theorem of_unp {b : List UInt8} {x : List Int} (h : unp b = some x) : okB x = true ∧ pack0 x = b := by
  unfold unp at h
  split at h
  · rename_i hh
    have := Classical.choose_spec hh
    simp only [Option.some.injEq] at h
    rw [h] at this
    exact this
  · cases h

/-- WHAT IS HELD WHILE BYTES ARE READ: whatever list has the bytes goes on from what has been read. -/
def Goes (b : List UInt8) (acc : List Int) (rem : List UInt8) : Prop :=
  ∀ x, okB x = true → pack0 x = b → ∃ r, x = acc ++ r ∧ rem = pk acc.length (st (0, 0) acc).1 (st (0, 0) acc).2 r

theorem Goes.start (b : List UInt8) : Goes b [] b := fun x _ h => ⟨x, rfl, by simpa [st, pack0] using h.symm⟩

/-- The next number. -/
theorem Goes.next {b : List UInt8} {acc : List Int} {rem : List UInt8} (h : Goes b acc rem) (hne : rem ≠ []) {x : List Int} (h1 : okB x = true) (h2 : pack0 x = b) :
    ∃ n r, x = acc ++ n :: r ∧ acc.length < 24 ∧ -999 ≤ n ∧ n ≤ 999 ∧
      rem = put (zig (if acc.length < 2 then n - (st (0, 0) acc).1 else n - (st (0, 0) acc).1 - (st (0, 0) acc).2)) ++ pk (acc.length + 1) n (n - (st (0, 0) acc).1) r ∧
      zig (if acc.length < 2 then n - (st (0, 0) acc).1 else n - (st (0, 0) acc).1 - (st (0, 0) acc).2) ≤ 7992 := by
  obtain ⟨r, rfl, hr⟩ := h x h1 h2
  match r, hr with
  | [], hr => exact absurd (by simpa [pk] using hr) hne
  | n :: r, hr =>
    have hk := okB_iff.1 h1
    have hn := hk.1 n (by simp)
    have hs := st_bd acc (fun a ha => hk.1 a (by simp [ha]))
    have hl := hk.2
    simp only [List.length_append, List.length_cons] at hl
    exact ⟨n, r, rfl, by omega, hn.1, hn.2, by simpa [pk] using hr, code_le ⟨hs.1, hs.2.1⟩ ⟨hs.2.2.1, hs.2.2.2⟩ hn⟩

theorem pack_ok {l : List Int} (h : pack l ≠ []) : okB l = true ∧ pack l = pack0 l := by
  unfold pack at h ⊢
  cases hk : okB l
  · rw [hk] at h; exact absurd rfl h
  · simp
theorem pack_of_ok {l : List Int} (h : okB l = true) : pack l = pack0 l := by unfold pack; rw [h]; rfl
theorem pack_inj {a b : List Int} (ha : pack a ≠ []) (hb : pack b ≠ []) : pack a = pack b ↔ a = b := by
  obtain ⟨h1, h2⟩ := pack_ok ha
  obtain ⟨h3, h4⟩ := pack_ok hb
  rw [h2, h4]
  exact ⟨pack0_inj h1 h3, fun e => by rw [e]⟩

/-- Numbers that go on evenly. -/
def ev (h s : Int) : Nat → List Int
  | 0 => []
  | n + 1 => h :: ev (h + s) s n
theorem ev_len (h s : Int) (n : Nat) : (ev h s n).length = n := by
  induction n generalizing h with
  | zero => rfl
  | succ n ih => simp [ev, ih]
theorem ev_snoc (h s : Int) (n : Nat) : ev h s (n + 1) = ev h s n ++ [h + n * s] := by
  induction n generalizing h with
  | zero => simp [ev]
  | succ n ih =>
    rw [ev, ih, ev]
    simp only [List.cons_append, List.cons.injEq, true_and]
    rw [show h + s + (n : Int) * s = h + ((n + 1 : Nat) : Int) * s by push_cast; rw [Int.add_mul]; omega]
theorem pk_ev (k : Nat) (hk : 2 ≤ k) (last s : Int) (n : Nat) : pk k last s (ev (last + s) s n) = List.replicate n 0 := by
  induction n generalizing k last with
  | zero => simp [ev, pk]
  | succ n ih =>
    simp only [ev, pk]
    rw [if_neg (by omega), show last + s - last - s = 0 by omega, show last + s - last = s by omega, ih (k + 1) (by omega) (last + s)]
    rw [show zig 0 = 0 from rfl, put_lt (by omega)]
    rfl
theorem ev_mem (h s : Int) (n : Nat) (x : Int) (hx : x ∈ ev h s n) (hn : n ≤ 9) (h0 : -500 ≤ h ∧ h ≤ 500) (hs : -7 ≤ s ∧ s ≤ 7) : -999 ≤ x ∧ x ≤ 999 := by
  have key : ∀ (n : Nat) (h : Int), x ∈ ev h s n → ∃ i : Nat, i < n ∧ x = h + i * s := by
    intro n
    induction n with
    | zero => intro h hx; simp [ev] at hx
    | succ n ih =>
      intro h hx
      simp only [ev, List.mem_cons] at hx
      rcases hx with rfl | hx
      · exact ⟨0, by omega, by simp⟩
      · obtain ⟨i, hi, e⟩ := ih (h + s) hx
        exact ⟨i + 1, by omega, by rw [e]; push_cast; rw [Int.add_mul]; omega⟩
  obtain ⟨i, hi, e⟩ := key n h hx
  have hi9 : i ≤ 8 := by omega
  have : -56 ≤ (i : Int) * s ∧ (i : Int) * s ≤ 56 := by
    rcases (show i = 0 ∨ i = 1 ∨ i = 2 ∨ i = 3 ∨ i = 4 ∨ i = 5 ∨ i = 6 ∨ i = 7 ∨ i = 8 from by omega) with h | h | h | h | h | h | h | h | h <;> subst h <;> omega
  omega
theorem ev_ok (h s : Int) (n : Nat) (hn : n ≤ 9) (h0 : -500 ≤ h ∧ h ≤ 500) (hs : -7 ≤ s ∧ s ≤ 7) : okB (ev h s n) = true :=
  okB_iff.2 ⟨fun x hx => ev_mem h s n x hx hn h0 hs, by rw [ev_len]; omega⟩
/-- Each one behind the second is a byte, 0. -/
theorem pack_ev (h s : Int) (h0 : -500 ≤ h ∧ h ≤ 500) (hs : -7 ≤ s ∧ s ≤ 7) : pack (ev h s 9) = pack (ev h s 2) ++ List.replicate 7 0 := by
  rw [pack_of_ok (ev_ok h s 9 (by omega) h0 hs), pack_of_ok (ev_ok h s 2 (by omega) h0 hs)]
  have e : ev h s 9 = ev h s 2 ++ ev (h + s + s) s 7 := rfl
  unfold pack0
  rw [e, pk_append]
  have e2 : st (0, 0) (ev h s 2) = (h + s, s) := by
    simp only [ev, st, List.foldl_cons, List.foldl_nil]
    rw [show h + s - h = s by omega]
  rw [e2, ev_len]
  simp only
  rw [show 0 + 2 = 2 from rfl, pk_ev 2 (Nat.le_refl _) (h + s) s 7]


theorem pk_len (l : List Int) (k : Nat) (la sp : Int) (h1 : -999 ≤ la ∧ la ≤ 999) (h2 : -1998 ≤ sp ∧ sp ≤ 1998) (hl : ∀ n ∈ l, -999 ≤ n ∧ n ≤ 999) : l.length ≤ (pk k la sp l).length ∧ (pk k la sp l).length ≤ 2 * l.length := by
  induction l generalizing k la sp with
  | nil => simp [pk]
  | cons n r ih =>
    have hn := hl n (by simp)
    have := ih (k + 1) n (n - la) hn (by omega) (fun a ha => hl a (by simp [ha]))
    have c := code_le (k := k) h1 h2 hn
    have := put_len (zig (if k < 2 then n - la else n - la - sp)) (by omega)
    simp only [pk, List.length_append, List.length_cons]
    omega
theorem pack0_len {l : List Int} (h : okB l = true) : l.length ≤ (pack0 l).length ∧ (pack0 l).length ≤ 2 * l.length :=
  pk_len l 0 0 0 (by omega) (by omega) (okB_iff.1 h).1
theorem pack_len (l : List Int) : (pack l).length ≤ 48 := by
  unfold pack
  split
  · rename_i h
    have := pack0_len h
    have := (okB_iff.1 h).2
    omega
  · simp

end Go.Proofs.YtgedlpdjnnbolaaDoor.PN
