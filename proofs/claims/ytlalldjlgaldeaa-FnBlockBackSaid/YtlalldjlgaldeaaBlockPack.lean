/-
  WALKS: a block packed in bytes, by the program and by the reference.
-/
import Derived.Test.YtlalldjlgaldeaaUnpack
import Derived.Test.YtlalldjlgaldeaaRows2
import Derived.Maps.AppendAt
import Derived.Deep.RegionWith
namespace Go.Proofs.Ytlalldjlgaldeaa
set_option linter.unusedVariables false
open Go.RowKit

def tms (l : List PB.Row) : List Int := l.map (·.1)
def vls (l : List PB.Row) : List Int := l.map (·.2)
@[simp] theorem tms_len (l : List PB.Row) : (tms l).length = l.length := by simp [tms]
@[simp] theorem vls_len (l : List PB.Row) : (vls l).length = l.length := by simp [vls]
theorem okB_tms {l : List PB.Row} (h : PB.blockB l = true) : PN.okB (tms l) = true := by
  obtain ⟨h1, _, h3⟩ := PB.blockB_iff.1 h
  refine PN.okB_iff.2 ⟨fun n hn => ?_, by simpa using h3⟩
  simp only [tms, List.mem_map] at hn
  obtain ⟨r, hr, rfl⟩ := hn
  have := PB.rowB_iff.1 (h1 r hr)
  omega
theorem okB_vls {l : List PB.Row} (h : PB.blockB l = true) : PN.okB (vls l) = true := by
  obtain ⟨h1, _, h3⟩ := PB.blockB_iff.1 h
  refine PN.okB_iff.2 ⟨fun n hn => ?_, by simpa using h3⟩
  simp only [vls, List.mem_map] at hn
  obtain ⟨r, hr, rfl⟩ := hn
  have := PB.rowB_iff.1 (h1 r hr)
  omega
/-- What BlockPack hands back. -/
def bpk (l : List PB.Row) : List UInt8 := if PB.blockB l then UInt8.ofNat (PN.pack0 (tms l)).length :: (PN.pack0 (tms l) ++ PN.pack0 (vls l)) else []
theorem bpk_no {l : List PB.Row} (h : PB.blockB l = false) : bpk l = [] := by unfold bpk; rw [h]; rfl
theorem bpk_yes {l : List PB.Row} (h : PB.blockB l = true) : bpk l = UInt8.ofNat (PN.pack0 (tms l)).length :: (PN.pack0 (tms l) ++ PN.pack0 (vls l)) := by unfold bpk; rw [h]; rfl
theorem pack0_small {l : List Int} (h : PN.okB l = true) : (PN.pack0 l).length ≤ 48 := by
  have := PN.pack_len l
  rwa [PN.pack_of_ok h] at this

/-- Two rows of the call's own, apart; one grows: the other is as it was, and they are apart. -/
theorem two_grow {wa w4 : World} {base size k : Nat} {e : TypeId} {v1 v2 v4 : Value} {ys : List Value} (o2 : wa.ownsRow base e size v2 k ys) (ne : ∀ g, v1.ownBlock = some g → v2.ownBlock = some g → False)
    (hg : wa.grownBy w4 v1.ownBlock) (hat : v4.ownBlock = v1.ownBlock ∨ v4.ownBlock = some wa.heap.size) : w4.ownsRow base e size v2 k ys ∧ (∀ g, v4.ownBlock = some g → v2.ownBlock = some g → False) := by
  refine ⟨o2.kept hg ?_, fun g h1 h2 => ?_⟩
  · rcases h : v2.ownBlock with _ | g
    · exact .inl rfl
    · exact .inr (fun e => ne g e.symm h)
  · rcases hat with h | h
    · exact ne g (by rw [← h]; exact h1) h2
    · rw [h1] at h
      injection h with h
      have := (o2.lt g h2).2
      omega
theorem tms_snoc {l : List PB.Row} {k : Nat} {t v : Int} (hk : k < l.length) (hx : l.getD k (0, 0) = (t, v)) : ints (tms (l.take k)) ++ [.int .i64 t] = ints (tms (l.take (k + 1))) := by
  rw [PB.getD_row hk] at hx
  rw [List.take_succ_eq_append_getElem hk, hx]
  simp [tms, ints]
theorem vls_snoc {l : List PB.Row} {k : Nat} {t v : Int} (hk : k < l.length) (hx : l.getD k (0, 0) = (t, v)) : ints (vls (l.take k)) ++ [.int .i64 v] = ints (vls (l.take (k + 1))) := by
  rw [PB.getD_row hk] at hx
  rw [List.take_succ_eq_append_getElem hk, hx]
  simp [vls, ints]
/-- One byte as a string, wherever its cell lies. -/
theorem conv_byte (w : World) (g : Nat) (n : Nat) (b : UInt8) (hb : b.toNat = n) (h : w.cell? ⟨g, 0, none⟩ = some (.int .u8 (n : Int))) : (convert 29 9 (.slice (some ⟨g, 0, none⟩) 1 1)).run Try.prog w = .ok (.string (S [b])) w := by
  subst hb
  refine run_convert_bytes_back w _ _ _ ⟨g, 0, none⟩ _ [b] Try.underlying29 Try.underlying5 Try.underlying9 fun j hj => ?_
  simp at hj
  subst hj
  exact h

theorem one_new2 (w : World) (o : Obj) (x : Value) (t : TypeId) : ∀ j u, [x][j]? = some u → ((w.alloc o).alloc (.cells #[x] t)).cell? ((⟨w.heap.size + 1, 0, none⟩ : Addr).add j) = some u := by
  have := one_new (w.alloc o) x t
  simpa [World.size_alloc] using this

theorem below_of2 {a b c : World} (h : Below a.heap.size a b) (k : Below b.heap.size b c) : Below a.heap.size a c := h.trans (k.mono h.size)

set_option maxRecDepth 100000 in
set_option maxHeartbeats 3200000 in
theorem specBlockPack (A : Option Addr) (n c : Nat) (l : List PB.Row) (B : Nat) (w : World) (hl : l.length = n) (h : Rd w B 2 A n (rows l)) (hn : n ≤ 2000000) (hB : B ≤ w.heap.size) : Calls Try.prog 9 #[.slice A n c] w (Str w w.heap.size (bpk l)) := by
  obtain ⟨i0, hi, hz0, hz1, hz2⟩ := info_parts info_int
  have HL := hide hl
  have R0 := hide (h.more hB)
  have C1 := hide (specBlockOk A n c l B w hl h hn hB)
  clear hl h hB
  go_enter Try.func9, Try.ntmps9
  go_wp2_with fail
  refine C1.out.mono ?_
  rintro e w1 ⟨rfl, b1⟩
  have B1 := hide b1
  clear b1 C1
  cases hb : PB.blockB l
  · have F := hide (bpk_no hb)
    clear hb
    go_wp2
    go_ret
    exact ⟨ret_str (by rw [F.out]; rfl), B1.out⟩
  · have HK := hide hb
    have hn24 : n ≤ 24 := by have := (PB.blockB_iff.1 hb).2.2; rw [HL.out] at this; exact this
    clear hb
    have hs1 := B1.out.size
    have O1 : Hid (((w1.alloc (.cells #[] 3)).alloc (.cells #[] 3)).ownsRow w.heap.size 3 1 (.slice (some ⟨w1.heap.size, 0, none⟩) 0 0) 0 (ints (tms (l.take 0)))) := hide ((own_emptyU w1 _ hs1).alloc _)
    have O2 : Hid (((w1.alloc (.cells #[] 3)).alloc (.cells #[] 3)).ownsRow w.heap.size 3 1 (.slice (some ⟨w1.heap.size + 1, 0, none⟩) 0 0) 0 (ints (vls (l.take 0)))) := hide (by
      have := own_emptyU (w1.alloc (.cells #[] 3)) w.heap.size (by simp; omega)
      simpa [World.size_alloc, vls] using this)
    have B2 : Hid (Below w.heap.size w ((w1.alloc (.cells #[] 3)).alloc (.cells #[] 3))) := hide ((B1.out.alloc hs1 _).alloc (by simp; omega) _)
    have N0 : Hid (∀ g, (Value.slice (some ⟨w1.heap.size, 0, none⟩) 0 0).ownBlock = some g → (Value.slice (some ⟨w1.heap.size + 1, 0, none⟩) 0 0).ownBlock = some g → False) := hide (fun g h1 h2 => by simp [Value.ownBlock] at h1 h2; omega)
    clear B1
    go_wp2
    go_loopw [3, 4, 5] (fun ts vs i wr => ∃ (k : Nat) (A1 A2 : Option Addr) (c1 c2 : Nat), k ≤ n ∧ i = .int .i64 k ∧ ts = .slice A1 k c1 ∧ vs = .slice A2 k c2 ∧ Hid (wr.ownsRow w.heap.size 3 1 (.slice A1 k c1) k (ints (tms (l.take k)))) ∧ Hid (wr.ownsRow w.heap.size 3 1 (.slice A2 k c2) k (ints (vls (l.take k)))) ∧ Hid (∀ g, (Value.slice A1 k c1).ownBlock = some g → (Value.slice A2 k c2).ownBlock = some g → False) ∧ Hid (Below w.heap.size w wr)) (fun _ _ i _ => n - (intOf i).toNat)
    case atStart => exact ⟨0, _, _, _, _, Nat.zero_le _, rfl, rfl, rfl, O1, O2, N0, B2⟩
    case round =>
      clear O1 O2 N0 B2
      obtain ⟨k, A1, A2, c1, c2, hk, rfl, rfl, rfl, o1, o2, ne, hbel⟩ := hrel
      have hsz := hbel.out.size
      by_cases hlt : k < n
      · obtain ⟨b, off, rfl, hbb, hc⟩ := (R0.out.below hbel.out).row HL.out hlt
        obtain ⟨q1, q2⟩ := hc k hlt
        obtain ⟨y, hy⟩ : ∃ y, l.getD k (0, 0) = y := ⟨_, rfl⟩
        obtain ⟨t, v⟩ := y
        have T1 := hide (tms_snoc (by rw [HL.out]; exact hlt) hy)
        have T2 := hide (vls_snoc (by rw [HL.out]; exact hlt) hy)
        rw [hy] at q1 q2
        clear hc hy
        have VB : Hid (∀ t' : Int, (wr.alloc (.cells #[.int .i64 t'] 3)).cell? ⟨b, off + k * 2 + 1, none⟩ = some (.int .i64 v)) := hide (fun t' => by rw [World.cell?_alloc_lt _ _ _ (World.block_lt_of_cell? _ _ q2)]; exact q2)
        go_wp2_with (first
          | (at_builtin; refine wpList_append_own_at _ rfl (.tmp 18) (.tmp 24) 38 rfl w.heap.size 3 i0 (.int .i64 0) 1 8 Try.underlying38 hi hz0 hz1 hz2 rfl (by decide) _ _ _ rfl (o1.out.alloc _) ⟨wr.heap.size, 0, none⟩ 1 1 [_] rfl rfl (one_new _ _ _) (by intro u hu; simp at hu; subst hu; rfl) (by unfold maxLen; omega) (by omega) (by simp; omega) ?_; intro v4 w4 hown4 hgrow4 _ hat4; have G4 := two_grow (o2.out.alloc (.cells #[.int .i64 t] 3)) ne.out hgrow4 hat4; have HB4 := (hbel.out.alloc hsz (.cells #[.int .i64 t] 3)).grown hgrow4 (by simp; omega) (fun g hgg => (o1.out.lt g hgg).1); have V4 : w4.cell? ⟨b, off + k * 2 + 1, none⟩ = some (.int .i64 v) := hgrow4.cell (VB.out t) (fun e => by have h1 : w.heap.size ≤ b := (o1.out.lt _ e.symm).1; omega); have hs4 := HB4.size)
          | (at_builtin; refine wpList_append_own_at _ rfl (.tmp 26) (.tmp 32) 38 rfl w.heap.size 3 i0 (.int .i64 0) 1 8 Try.underlying38 hi hz0 hz1 hz2 rfl (by decide) _ _ _ rfl (G4.1.alloc _) ⟨w4.heap.size, 0, none⟩ 1 1 [_] rfl rfl (one_new _ _ _) (by intro u hu; simp at hu; subst hu; rfl) (by unfold maxLen; omega) (by omega) (by simp; omega) ?_; intro v5 w5 hown5 hgrow5 _ hat5; have G5 := two_grow (hown4.alloc (.cells #[.int .i64 v] 3)) (fun g h1 h2 => G4.2 g h2 h1) hgrow5 hat5; have HB5 := (HB4.alloc hs4 (.cells #[.int .i64 v] 3)).grown hgrow5 (by simp; omega) (fun g hgg => (G4.1.lt g hgg).1)))
        have h4 := G5.1
        rw [T1.out] at h4
        have h5 := hown5
        rw [T2.out] at h5
        obtain ⟨A4, c4, rfl, o4⟩ := own_ret h4
        obtain ⟨A5, c5, rfl, o5⟩ := own_ret h5
        have O4 := hide o4
        have O5 := hide o5
        have NE := hide (fun g h1 h2 => G5.2 g h2 h1)
        have B5 := hide HB5
        clear o4 o5 h4 h5 G5 HB5 hown5 hown4 G4 HB4 hgrow4 hgrow5 hat4 hat5 V4
        go_wp2
        go_roundw
        case rel => exact ⟨k + 1, A4, A5, c4, c5, by omega, by go_num, rfl, rfl, O4, O5, NE, B5⟩
        case measure => simp [intOf]; omega
      · obtain rfl : k = n := by omega
        have e1 : l.take k = l := List.take_of_length_le (by rw [HL.out]; exact Nat.le_refl _)
        rw [e1] at o1 o2
        have k1 := okB_tms HK.out
        have k2 := okB_vls HK.out
        have F := hide (bpk_yes HK.out)
        have p1 := pack0_small k1
        have p2 := pack0_small k2
        have C2 := hide (l1Pack_any A1 _ c1 (tms l) _ wr (by simp [HL.out]) (Rd.of_own o1.out) (PN.okB_iff.1 k1).1 (by omega) (Nat.le_refl _))
        have C3 : Hid (∀ wq, Below wr.heap.size wr wq → Calls Try.prog 23 #[.slice A2 k c2] wq fun e w' => e = .returned (.string (S (PN.pack0 (vls l)))) ∧ Below wr.heap.size wr w') := hide (fun wq hq =>
          (l1Pack_any A2 _ c2 (vls l) _ wq (by simp [HL.out]) ((Rd.of_own o2.out).below hq) (PN.okB_iff.1 k2).1 (by omega) hq.size).mono fun e w' h => ⟨h.1, below_of2 hq h.2⟩)
        clear k1 k2 e1 hlt ne o1 o2
        generalize PN.pack0 (tms l) = P1 at *
        generalize PN.pack0 (vls l) = P2 at *
        have z1 := S_size P1
        have z2 := S_size P2
        have hH : ((UInt8.ofNat P1.length).toNat : Int) = (P1.length : Int) := by rw [PN.ofNat_toNat (by omega)]
        obtain ⟨y, hy⟩ : ∃ y, y = UInt8.ofNat P1.length := ⟨_, rfl⟩
        rw [← hy] at hH F
        have zy : (S [y]).size = 1 := S_size _
        have HH := hide hH
        clear hy hH
        go_wp2_with fail
        refine C2.out.mono ?_
        rintro e w2 ⟨rfl, b2⟩
        have Bd := hide b2
        clear b2 C2
        go_wp2_with fail
        refine (l1Byte_any (P1.length : Int) y w2 (by omega) HH.out).mono ?_
        rintro e w3 ⟨rfl, b3⟩
        have Bd3 := hide (below_of2 Bd.out b3)
        clear b3
        go_wp2_with fail
        refine (C3.out _ Bd3.out).mono ?_
        rintro e w4 ⟨rfl, b4⟩
        have BW := hide (hbel.out.trans (b4.mono hsz))
        clear b4
        go_wp2
        go_ret
        exact ⟨ret_str (by rw [F.out, S_append, S_append]; rfl), BW.out⟩

set_option maxRecDepth 100000 in
set_option maxHeartbeats 3200000 in
theorem implBlockPack (A : Option Addr) (n c : Nat) (l : List PB.Row) (B : Nat) (w : World) (hl : l.length = n) (h : Rd w B 2 A n (rows l)) (hn : n ≤ 2000000) (hB : B ≤ w.heap.size) : Calls Try.prog 11 #[.slice A n c] w (Str w w.heap.size (bpk l)) := by
  obtain ⟨i0, hi, hz0, hz1, hz2⟩ := info_parts info_int
  have HL := hide hl
  have R0 := hide (h.more hB)
  have C1 := hide (implBlockOk A n c l B w hl h hn hB)
  clear hl h hB
  go_enter Try.func11, Try.ntmps11
  go_wp2_with fail
  refine C1.out.mono ?_
  rintro e w1 ⟨rfl, b1⟩
  have B1 := hide b1
  clear b1 C1
  cases hb : PB.blockB l
  · have F := hide (bpk_no hb)
    clear hb
    go_wp2
    go_ret
    exact ⟨ret_str (by rw [F.out]; rfl), B1.out⟩
  · have HK := hide hb
    have hn24 : n ≤ 24 := by have := (PB.blockB_iff.1 hb).2.2; rw [HL.out] at this; exact this
    clear hb
    have hs1 := B1.out.size
    have O1 : Hid (((w1.alloc (.cells #[] 3)).alloc (.cells #[] 3)).ownsRow w.heap.size 3 1 (.slice (some ⟨w1.heap.size, 0, none⟩) 0 0) 0 (ints (tms (l.take 0)))) := hide ((own_emptyU w1 _ hs1).alloc _)
    have O2 : Hid (((w1.alloc (.cells #[] 3)).alloc (.cells #[] 3)).ownsRow w.heap.size 3 1 (.slice (some ⟨w1.heap.size + 1, 0, none⟩) 0 0) 0 (ints (vls (l.take 0)))) := hide (by
      have := own_emptyU (w1.alloc (.cells #[] 3)) w.heap.size (by simp; omega)
      simpa [World.size_alloc, vls] using this)
    have B2 : Hid (Below w.heap.size w ((w1.alloc (.cells #[] 3)).alloc (.cells #[] 3))) := hide ((B1.out.alloc hs1 _).alloc (by simp; omega) _)
    have N0 : Hid (∀ g, (Value.slice (some ⟨w1.heap.size, 0, none⟩) 0 0).ownBlock = some g → (Value.slice (some ⟨w1.heap.size + 1, 0, none⟩) 0 0).ownBlock = some g → False) := hide (fun g h1 h2 => by simp [Value.ownBlock] at h1 h2; omega)
    clear B1
    go_wp2
    go_loopw [3, 4, 15] (fun ts vs i wr => ∃ (k : Nat) (A1 A2 : Option Addr) (c1 c2 : Nat), k ≤ n ∧ i = .int .i64 k ∧ ts = .slice A1 k c1 ∧ vs = .slice A2 k c2 ∧ Hid (wr.ownsRow w.heap.size 3 1 (.slice A1 k c1) k (ints (tms (l.take k)))) ∧ Hid (wr.ownsRow w.heap.size 3 1 (.slice A2 k c2) k (ints (vls (l.take k)))) ∧ Hid (∀ g, (Value.slice A1 k c1).ownBlock = some g → (Value.slice A2 k c2).ownBlock = some g → False) ∧ Hid (Below w.heap.size w wr)) (fun _ _ i _ => n - (intOf i).toNat)
    case atStart => exact ⟨0, _, _, _, _, Nat.zero_le _, rfl, rfl, rfl, O1, O2, N0, B2⟩
    case round =>
      clear O1 O2 N0 B2
      obtain ⟨k, A1, A2, c1, c2, hk, rfl, rfl, rfl, o1, o2, ne, hbel⟩ := hrel
      have hsz := hbel.out.size
      by_cases hlt : k < n
      · obtain ⟨b, off, rfl, hbb, hc⟩ := (R0.out.below hbel.out).row HL.out hlt
        obtain ⟨q1, q2⟩ := hc k hlt
        obtain ⟨y, hy⟩ : ∃ y, l.getD k (0, 0) = y := ⟨_, rfl⟩
        obtain ⟨t, v⟩ := y
        have T1 := hide (tms_snoc (by rw [HL.out]; exact hlt) hy)
        have T2 := hide (vls_snoc (by rw [HL.out]; exact hlt) hy)
        rw [hy] at q1 q2
        clear hc hy
        have VB : Hid (∀ t' : Int, ((wr.alloc (.cells #[.int .i64 t, .int .i64 v] 32)).alloc (.cells #[.int .i64 t'] 3)).cell? ⟨wr.heap.size, 1, none⟩ = some (.int .i64 v)) := hide (fun t' => by rw [World.cell?_alloc_lt _ _ _ (by simp), World.cell?_alloc_new]; rfl)
        go_wp2_with (first
          | (at_builtin; refine wpList_append_own_at _ rfl (.tmp 19) (.tmp 22) 38 rfl w.heap.size 3 i0 (.int .i64 0) 1 8 Try.underlying38 hi hz0 hz1 hz2 rfl (by decide) _ _ _ rfl ((o1.out.alloc _).alloc _) ⟨wr.heap.size + 1, 0, none⟩ 1 1 [_] rfl rfl (one_new2 _ _ _ _) (by intro u hu; simp at hu; subst hu; rfl) (by unfold maxLen; omega) (by omega) (by simp; omega) ?_; intro v4 w4 hown4 hgrow4 _ hat4; have G4 := two_grow ((o2.out.alloc (.cells #[.int .i64 t, .int .i64 v] 32)).alloc (.cells #[.int .i64 t] 3)) ne.out hgrow4 hat4; have HB4 := ((hbel.out.alloc hsz (.cells #[.int .i64 t, .int .i64 v] 32)).alloc (by simp; omega) (.cells #[.int .i64 t] 3)).grown hgrow4 (by simp; omega) (fun g hgg => (o1.out.lt g hgg).1); have V4 : w4.cell? ⟨wr.heap.size, 1, none⟩ = some (.int .i64 v) := hgrow4.cell (VB.out t) (fun e => by have h1 : wr.heap.size < wr.heap.size := (o1.out.lt _ e.symm).2; omega); have hs4 := HB4.size)
          | (at_builtin; refine wpList_append_own_at _ rfl (.tmp 24) (.tmp 27) 38 rfl w.heap.size 3 i0 (.int .i64 0) 1 8 Try.underlying38 hi hz0 hz1 hz2 rfl (by decide) _ _ _ rfl (G4.1.alloc _) ⟨w4.heap.size, 0, none⟩ 1 1 [_] rfl rfl (one_new _ _ _) (by intro u hu; simp at hu; subst hu; rfl) (by unfold maxLen; omega) (by omega) (by simp; omega) ?_; intro v5 w5 hown5 hgrow5 _ hat5; have G5 := two_grow (hown4.alloc (.cells #[.int .i64 v] 3)) (fun g h1 h2 => G4.2 g h2 h1) hgrow5 hat5; have HB5 := (HB4.alloc hs4 (.cells #[.int .i64 v] 3)).grown hgrow5 (by simp; omega) (fun g hgg => (G4.1.lt g hgg).1)))
        have h4 := G5.1
        rw [T1.out] at h4
        have h5 := hown5
        rw [T2.out] at h5
        obtain ⟨A4, c4, rfl, o4⟩ := own_ret h4
        obtain ⟨A5, c5, rfl, o5⟩ := own_ret h5
        have O4 := hide o4
        have O5 := hide o5
        have NE := hide (fun g h1 h2 => G5.2 g h2 h1)
        have B5 := hide HB5
        clear o4 o5 h4 h5 G5 HB5 hown5 hown4 G4 HB4 hgrow4 hgrow5 hat4 hat5 V4
        go_wp2
        go_roundw
        case rel => exact ⟨k + 1, A4, A5, c4, c5, by omega, by go_num, rfl, rfl, O4, O5, NE, B5⟩
        case measure => simp [intOf]; omega
      · obtain rfl : k = n := by omega
        have e1 : l.take k = l := List.take_of_length_le (by rw [HL.out]; exact Nat.le_refl _)
        rw [e1] at o1 o2
        have k1 := okB_tms HK.out
        have k2 := okB_vls HK.out
        have F := hide (bpk_yes HK.out)
        have p1 := pack0_small k1
        have p2 := pack0_small k2
        have C2 := hide (implNumsPack A1 _ c1 (tms l) _ wr (by simp [HL.out]) (Rd.of_own o1.out) (by omega) (Nat.le_refl _))
        have C3 : Hid (∀ wq, Below wr.heap.size wr wq → Calls Try.prog 19 #[.slice A2 k c2] wq fun e w' => e = .returned (.string (S (PN.pack0 (vls l)))) ∧ Below wr.heap.size wr w' ∧ Below wq.heap.size wq w') := hide (fun wq hq => by
          have := implNumsPack A2 _ c2 (vls l) _ wq (by simp [HL.out]) ((Rd.of_own o2.out).below hq) (by omega) hq.size
          rw [PN.pack_of_ok k2] at this
          exact this.mono fun e w' h => ⟨h.1, below_of2 hq h.2, h.2⟩)
        rw [PN.pack_of_ok k1] at C2
        clear k1 k2 e1 hlt ne o1 o2
        generalize PN.pack0 (tms l) = P1 at *
        generalize PN.pack0 (vls l) = P2 at *
        have z1 := S_size P1
        have z2 := S_size P2
        go_wp2_with fail
        refine C2.out.mono ?_
        rintro e w2 ⟨rfl, b2⟩
        have BW := hide (hbel.out.trans (b2.mono hsz))
        have Bd : Hid (Below wr.heap.size wr w2.drew) := hide b2.drew
        have Bd2 : Hid (Below wr.heap.size wr (w2.alloc (.cells #[.int .u8 (P1.length : Int)] 5)).drew) := hide (b2.alloc b2.size _).drew
        have hw8 : IntKind.u8.wrap (P1.length : Int) = (P1.length : Int) := by rw [IntKind.wrap_u8]; omega
        have hH : (UInt8.ofNat P1.length).toNat = P1.length := PN.ofNat_toNat (by omega)
        obtain ⟨y, hy⟩ : ∃ y, y = UInt8.ofNat P1.length := ⟨_, rfl⟩
        rw [← hy] at hH F
        have zy : (S [y]).size = 1 := S_size _
        have KC : ∀ wx : World, (convert 29 9 (.slice (some ⟨wx.heap.size, 0, none⟩) 1 1)).run Try.prog (wx.alloc (.cells #[.int .u8 (P1.length : Int)] 5)) = .ok (.string (S [y])) (wx.alloc (.cells #[.int .u8 (P1.length : Int)] 5)) := fun wx => conv_byte _ _ _ _ hH (World.cell?_alloc_new _ _ _ _)
        have KD : ∀ wx : World, (convert 29 9 (.slice (some ⟨wx.heap.size, 0, none⟩) 1 1)).run Try.prog (wx.alloc (.cells #[.int .u8 (P1.length : Int)] 5)).drew = .ok (.string (S [y])) (wx.alloc (.cells #[.int .u8 (P1.length : Int)] 5)).drew := fun wx => conv_byte _ _ _ _ hH (World.cell?_alloc_new _ _ _ _)
        have HH := hide hH
        have H2s := hide b2.size
        clear hy hH b2 hsz C2
        go_wp2
        go_region_with (first
          | (go_at_call 19; refine (C3.out _ (by first | exact Bd.out | exact Bd2.out)).mono ?_; rintro e wq ⟨rfl, bq, kq⟩; try (have kc := conv_byte wq w2.heap.size _ _ HH.out ((kq.cell (p := ⟨w2.heap.size, 0, none⟩) (by simp)).trans (World.cell?_alloc_new _ _ _ _)))))
        all_goals
          simp [Act.put]
          go_wp2
          go_ret
          exact ⟨ret_str (by rw [F.out, S_append, S_append]; rfl), by first | exact hbel.out.trans (bq.mono hbel.out.size) | exact hbel.out.trans ((bq.alloc bq.size _).mono hbel.out.size)⟩

end Go.Proofs.Ytlalldjlgaldeaa
