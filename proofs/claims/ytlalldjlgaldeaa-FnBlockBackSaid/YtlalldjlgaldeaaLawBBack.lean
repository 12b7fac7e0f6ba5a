/-
  WALKS: the law BlockBack.
-/
import Derived.Test.YtlalldjlgaldeaaLawShort
import Derived.Test.YtlalldjlgaldeaaLy
namespace Go.Proofs.Ytlalldjlgaldeaa
set_option linter.unusedVariables false
open Go.RowKit

theorem bpk_back {l : List PB.Row} (h : bpk l ≠ []) : PB.blockB l = true ∧ buO (bpk l) = (l, true) := by
  cases hb : PB.blockB l
  · rw [bpk_no hb] at h; exact absurd rfl h
  · exact ⟨rfl, buO_some hb rfl⟩

set_option maxRecDepth 100000 in
set_option maxHeartbeats 6400000 in
theorem fnBlockBack_walk (w : World) (a0 : Option Addr) (len0 cap0 : Nat) (z0 : List Int) (hz0 : z0.length = len0) (rd0 : Rd w w.heap.size 1 a0 len0 (z0.map (Value.int .u8))) (wf0 : ∀ z ∈ z0, (Lit.int .u8 z).wf = true) (lc0 : len0 ≤ cap0) (cm0 : cap0 ≤ maxLen) :
    Calls Try.prog 6 #[.slice a0 len0 cap0] w fun e w' => e = .returned (.bool true) ∧ Below w.heap.size w w' := by
  have HD := hide (drawBlockPack_any a0 len0 cap0 z0 w hz0 rd0 (bytes_ofB wf0) lc0 cm0)
  clear rd0 wf0 hz0
  unfold maxLen at cm0
  by_cases hl0 : 1048576 < len0
  · clear HD
    go_enter Try.func6, Try.ntmps6
    go_wp2
    go_ret
    exact ⟨rfl, Below.refl _ _⟩
  go_enter Try.func6, Try.ntmps6
  have BW := hide (Below.refl w.heap.size w)
  have C1 := HD
  go_wp2_with fail
  refine C1.out.mono ?_
  rintro e w1 ⟨l, A1, d1, rfl, hl, o, b⟩
  have s1 := b.size
  replace BW := hide (below_keep BW.out b)
  have DA := hide ((⟨Rd.of_own o, Nat.le_refl _⟩ : RdB w1 w1.heap.size 2 A1 l.length (rows l)))
  clear b C1
  clear o
  have C2 := hide (implBlockPack A1 _ d1 l _ w1 rfl DA.out.rd (by omega) DA.out.le)
  go_wp2_with fail
  refine C2.out.mono ?_
  rintro e w2 ⟨rfl, b⟩
  have s2 := b.size
  replace BW := hide (below_keep BW.out b)
  replace DA := hide (DA.out.keep b)
  clear b C2
  have C3 := hide (specBlockPack A1 _ d1 l _ w2 rfl DA.out.rd (by omega) DA.out.le)
  go_wp2_with fail
  refine C3.out.mono ?_
  rintro e w3 ⟨rfl, b⟩
  have s3 := b.size
  replace BW := hide (below_keep BW.out b)
  replace DA := hide (DA.out.keep b)
  clear b C3
  by_cases ha : bpk l = []
  · obtain ⟨t1, t2⟩ := S_empty _ ha
    clear ha
    have C4 := hide (specBlockPack A1 _ d1 l _ w3 rfl DA.out.rd (by omega) DA.out.le)
    go_wp2_with fail
    refine C4.out.mono ?_
    rintro e w4 ⟨rfl, b⟩
    have s4 := b.size
    replace BW := hide (below_keep BW.out b)
    replace DA := hide (DA.out.keep b)
    clear b C4
    clear t1 t2
    go_wp2
    go_ret
    exact ⟨ret_bool (by simp), BW.out⟩
  · obtain ⟨t1, t2⟩ := S_full _ ha
    obtain ⟨hblk, hbu⟩ := bpk_back ha
    have HK := hide hblk
    have HU := hide hbu
    have hlen := bpk_len l
    obtain ⟨X, hX⟩ : ∃ X, X = bpk l := ⟨_, rfl⟩
    have HX := hide hX
    have HU2 : Hid (buO X = (l, true)) := hide (by rw [hX]; exact HU.out)
    rw [← hX] at hlen t1 t2 ⊢
    clear hX ha hblk hbu
    have heq : ((S X).toList == (S X).toList) = true := beq_self_eq_true _
    have hs := S_size X
    have C4 := hide (calls_pairR (implBlockUnpack X w3 (by omega)) HU2.out)
    go_wp2_with fail
    refine C4.out.mono ?_
    rintro e w4 ⟨A4, d4, rfl, o, b⟩
    have s4 := b.size
    replace BW := hide (below_keep BW.out b)
    replace DA := hide (DA.out.keep b)
    have UX := hide (OwB.of o b.size)
    clear b C4
    clear o
    have hl24 : l.length ≤ 24 := (PB.blockB_iff.1 HK.out).2.2
    obtain ⟨i0, hi, hz0, hz1, hz2⟩ := info_parts info_int
    have O1 : Hid (((w4.alloc (.cells #[] 3)).alloc (.cells #[] 3)).ownsRow w4.heap.size 3 1 (.slice (some ⟨w4.heap.size, 0, none⟩) 0 0) 0 (ints (tms (l.take 0)))) := hide ((own_emptyU w4 _ (Nat.le_refl _)).alloc _)
    have O2 : Hid (((w4.alloc (.cells #[] 3)).alloc (.cells #[] 3)).ownsRow w4.heap.size 3 1 (.slice (some ⟨w4.heap.size + 1, 0, none⟩) 0 0) 0 (ints (vls (l.take 0)))) := hide (by
      have := own_emptyU (w4.alloc (.cells #[] 3)) w4.heap.size (by simp)
      simpa [World.size_alloc, vls] using this)
    have B2 : Hid (Below w4.heap.size w4 ((w4.alloc (.cells #[] 3)).alloc (.cells #[] 3))) := hide (((Below.refl _ _).alloc (Nat.le_refl _) _).alloc (by simp) _)
    have N0 : Hid (∀ g, (Value.slice (some ⟨w4.heap.size, 0, none⟩) 0 0).ownBlock = some g → (Value.slice (some ⟨w4.heap.size + 1, 0, none⟩) 0 0).ownBlock = some g → False) := hide (fun g h1 h2 => by simp [Value.ownBlock] at h1 h2; omega)
    go_wp2
    go_loopw [7, 8, 9] (fun ts vs i wr => ∃ (k : Nat) (A3 A2 : Option Addr) (c3 c2 : Nat), k ≤ l.length ∧ i = .int .i64 k ∧ ts = .slice A3 k c3 ∧ vs = .slice A2 k c2 ∧ Hid (wr.ownsRow w4.heap.size 3 1 (.slice A3 k c3) k (ints (tms (l.take k)))) ∧ Hid (wr.ownsRow w4.heap.size 3 1 (.slice A2 k c2) k (ints (vls (l.take k)))) ∧ Hid (∀ g, (Value.slice A3 k c3).ownBlock = some g → (Value.slice A2 k c2).ownBlock = some g → False) ∧ Hid (Below w4.heap.size w4 wr)) (fun _ _ i _ => l.length - (intOf i).toNat)
    case atStart => exact ⟨0, _, _, _, _, Nat.zero_le _, rfl, rfl, rfl, O1, O2, N0, B2⟩
    case round =>
      clear O1 O2 N0 B2
      obtain ⟨k, A3, A2, c3, c2, hk, rfl, rfl, rfl, o1, o2, ne, hbel⟩ := hrel
      have hsz := hbel.out.size
      by_cases hlt : k < l.length
      · obtain ⟨b, off, rfl, hbb, hc⟩ := (DA.out.keep hbel.out).rd.row rfl hlt
        have hDle := DA.out.le
        obtain ⟨q1, q2⟩ := hc k hlt
        obtain ⟨y, hy⟩ : ∃ y, l.getD k (0, 0) = y := ⟨_, rfl⟩
        obtain ⟨t, v⟩ := y
        have T1 := hide (tms_snoc hlt hy)
        have T2 := hide (vls_snoc hlt hy)
        rw [hy] at q1 q2
        clear hc hy
        have VB : Hid (∀ t' : Int, (wr.alloc (.cells #[.int .i64 t'] 3)).cell? ⟨b, off + k * 2 + 1, none⟩ = some (.int .i64 v)) := hide (fun t' => by rw [World.cell?_alloc_lt _ _ _ (World.block_lt_of_cell? _ _ q2)]; exact q2)
        go_wp2_with (first
          | (at_builtin; refine wpList_append_own_at _ rfl (.tmp 43) (.tmp 49) 38 rfl w4.heap.size 3 i0 (.int .i64 0) 1 8 Try.underlying38 hi hz0 hz1 hz2 rfl (by decide) _ _ _ rfl (o1.out.alloc _) ⟨wr.heap.size, 0, none⟩ 1 1 [_] rfl rfl (one_new _ _ _) (by intro u hu; simp at hu; subst hu; rfl) (by unfold maxLen; omega) (by omega) (by simp; omega) ?_; intro v4 wA hown4 hgrow4 _ hat4; have G4 := two_grow (o2.out.alloc (.cells #[.int .i64 t] 3)) ne.out hgrow4 hat4; have HB4 := (hbel.out.alloc hsz (.cells #[.int .i64 t] 3)).grown hgrow4 (by simp; omega) (fun g hgg => (o1.out.lt g hgg).1); have V4 : wA.cell? ⟨b, off + k * 2 + 1, none⟩ = some (.int .i64 v) := hgrow4.cell (VB.out t) (fun e => by have h1 : w4.heap.size ≤ b := (o1.out.lt _ e.symm).1; omega); have hs4 := HB4.size)
          | (at_builtin; refine wpList_append_own_at _ rfl (.tmp 51) (.tmp 57) 38 rfl w4.heap.size 3 i0 (.int .i64 0) 1 8 Try.underlying38 hi hz0 hz1 hz2 rfl (by decide) _ _ _ rfl (G4.1.alloc _) ⟨wA.heap.size, 0, none⟩ 1 1 [_] rfl rfl (one_new _ _ _) (by intro u hu; simp at hu; subst hu; rfl) (by unfold maxLen; omega) (by omega) (by simp; omega) ?_; intro v5 wB hown5 hgrow5 _ hat5; have G5 := two_grow (hown4.alloc (.cells #[.int .i64 v] 3)) (fun g h1 h2 => G4.2 g h2 h1) hgrow5 hat5; have HB5 := (HB4.alloc hs4 (.cells #[.int .i64 v] 3)).grown hgrow5 (by simp; omega) (fun g hgg => (G4.1.lt g hgg).1)))
        have h4 := G5.1
        rw [T1.out] at h4
        have h5 := hown5
        rw [T2.out] at h5
        obtain ⟨A4, c4, rfl, o4⟩ := own_ret h4
        obtain ⟨A5, c5, rfl, o5⟩ := own_ret h5
        have O4 := hide o4
        have O5 := hide o5
        have NE := hide (fun g h1 h2 => G5.2 g h2 h1)
        have B5 := hide HB5
        clear o4 o5 h4 h5 G5 HB5 hown5 hown4 G4 HB4 hgrow4 hgrow5 hat4 hat5 V4
        go_wp2
        go_roundw
        case rel => exact ⟨k + 1, A4, A5, c4, c5, by omega, by go_num, rfl, rfl, O4, O5, NE, B5⟩
        case measure => simp [intOf]; omega
      · obtain rfl : k = l.length := by omega
        have e1 : l.take l.length = l := List.take_of_length_le (Nat.le_refl _)
        rw [e1] at o1 o2
        have k1 := okB_tms HK.out
        have k2 := okB_vls HK.out
        have hXe := HX.out
        rw [bpk_yes HK.out] at hXe
        have p1 := pack0_small k1
        have p2 := pack0_small k2
        have D2 := hide (DA.out.keep hbel.out)
        have U2 := hide (UX.out.keep hbel.out)
        have CL : Hid (∀ wx, Below wr.heap.size wr wx → Calls Try.prog 18 #[.slice A4 l.length d4, .slice A1 l.length d1] wx (Bl wx true)) := hide (fun wx hx => by
          have := lyRows_any A4 A1 _ _ d4 d1 l l _ _ wx rfl rfl (U2.out.keep hx).rd (D2.out.keep hx).rd (by omega) (by omega) (U2.out.keep hx).top (D2.out.keep hx).le
          rwa [decide_eq_true rfl] at this)
        have C1 : Hid (∀ wx, Below wr.heap.size wr wx → Calls Try.prog 19 #[.slice A3 l.length c3] wx fun e w' => e = .returned (.string (S (PN.pack0 (tms l)))) ∧ Below wx.heap.size wx w') := hide (fun wx hx => by
          have := implNumsPack A3 _ c3 (tms l) _ wx (by simp) ((Rd.of_own o1.out).below hx) (by omega) hx.size
          rwa [PN.pack_of_ok k1] at this)
        have C2 : Hid (∀ wx, Below wr.heap.size wr wx → Calls Try.prog 19 #[.slice A2 l.length c2] wx fun e w' => e = .returned (.string (S (PN.pack0 (vls l)))) ∧ Below wx.heap.size wx w') := hide (fun wx hx => by
          have := implNumsPack A2 _ c2 (vls l) _ wx (by simp) ((Rd.of_own o2.out).below hx) (by omega) hx.size
          rwa [PN.pack_of_ok k2] at this)
        have BX := hide (BW.out.trans (hbel.out.mono BW.out.size))
        clear o1 o2 ne hbel k1 k2 e1 hlt UX DA
        generalize PN.pack0 (tms l) = Q1 at *
        generalize PN.pack0 (vls l) = Q2 at *
        have hH : (UInt8.ofNat Q1.length).toNat = Q1.length := PN.ofNat_toNat (by omega)
        obtain ⟨y, hy⟩ : ∃ y, y = UInt8.ofNat Q1.length := ⟨_, rfl⟩
        rw [← hy] at hH hXe
        subst hXe
        have hS : ∀ h, (S (y :: (Q1 ++ Q2)))[0]'h = y := fun _ => rfl
        have hHi : (y.toNat : Int) = (Q1.length : Int) := by rw [hH]
        have hsz2 : (S (y :: (Q1 ++ Q2))).size = Q1.length + Q2.length + 1 := by rw [S_size]; simp
        have q1 : (S (y :: (Q1 ++ Q2))).extract 1 (Q1.length + 1) = S Q1 := by rw [S_mid]; simp
        have q2 : (S (y :: (Q1 ++ Q2))).extract (Q1.length + 1) (Q1.length + Q2.length + 1) = S Q2 := by rw [S_mid]; simp
        have q3 : ((Q1.length : Int) + 1).toNat = Q1.length + 1 := by omega
        have qs : ∀ w : World, (Instr.slice 9 (.string (S (y :: (Q1 ++ Q2)))) (some (.int .i64 1)) (some (.int .i64 ((Q1.length : Int) + 1))) none).run Try.prog w = .ok (.string (S Q1)) w := fun w => by
          rw [run_slice_string w 9 _ .i64 .i64 1 ((Q1.length : Int) + 1) Try.underlying9 (by omega) (by omega) (by rw [hsz2]; omega), q3, show (1 : Int).toNat = 1 from rfl, q1]
        have qt : ∀ w : World, (Instr.slice 9 (.string (S (y :: (Q1 ++ Q2)))) (some (.int .i64 ((Q1.length : Int) + 1))) none none).run Try.prog w = .ok (.string (S Q2)) w := fun w => by
          rw [run_slice_string_from_if w 9 _ .i64 ((Q1.length : Int) + 1) Try.underlying9, if_pos (by rw [hsz2]; omega), q3, hsz2, q2]
        have e1 : ((S Q1).toList == (S Q1).toList) = true := beq_self_eq_true _
        have e2 : ((S Q2).toList == (S Q2).toList) = true := beq_self_eq_true _
        clear hs hH hy HX HU HU2 heq t1 t2
        go_wp2
        refine wp_region_ext wr.heap.size (by kernel_rfl) (by kernel_rfl) ?_
        repeat (go_big_quiet_step ((first
          | (go_at_call 18; exact ext_call _ (Nat.le_refl _) (CL.out _ (Ext.is _)))
          | (go_at_call 19; first | (with_reducible exact ext_call _ (Nat.le_refl _) (C1.out _ (Ext.is _))) | (with_reducible exact ext_call _ (Nat.le_refl _) (C2.out _ (Ext.is _)))))))
        refine wpQuiet_nil ?_
        intro _ hw'
        obtain ⟨x, hw''⟩ := hw'
        subst hw''
        go_wp2
        go_ret
        exact ⟨ret_bool (by simp), BX.out.trans (x.is.mono BX.out.size)⟩

end Go.Proofs.Ytlalldjlgaldeaa
