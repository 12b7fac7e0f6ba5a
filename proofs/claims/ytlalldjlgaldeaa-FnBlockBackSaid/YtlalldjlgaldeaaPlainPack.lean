/-
  PLAIN: the bytes of a block, and the block of bytes; no program in sight.
-/
import Derived.Test.YtlalldjlgaldeaaBlockPack
namespace Go.Proofs.Ytlalldjlgaldeaa
set_option linter.unusedVariables false
open Go.RowKit

theorem tms_zip {ts vs : List Int} (h : ts.length = vs.length) : tms (ts.zip vs) = ts := by unfold tms; exact List.map_fst_zip (by omega)
theorem vls_zip {ts vs : List Int} (h : ts.length = vs.length) : vls (ts.zip vs) = vs := by unfold vls; exact List.map_snd_zip (by omega)
theorem zip_of (l : List PB.Row) : (tms l).zip (vls l) = l := by
  induction l with
  | nil => rfl
  | cons r l ih =>
    show (r.1, r.2) :: (tms l).zip (vls l) = r :: l
    rw [ih]
theorem of_bpk {l : List PB.Row} {a : UInt8} {r : List UInt8} (hl : PB.blockB l = true) (h : bpk l = a :: r) : a.toNat ≤ r.length ∧ PN.unp (r.take a.toNat) = some (tms l) ∧ PN.unp (r.drop a.toNat) = some (vls l) := by
  rw [bpk_yes hl] at h
  injection h with h1 h2
  have p := pack0_small (okB_tms hl)
  have ha : a.toNat = (PN.pack0 (tms l)).length := by rw [← h1, PN.ofNat_toNat (by omega)]
  rw [ha, ← h2]
  refine ⟨by simp, ?_, ?_⟩
  · rw [List.take_left']
    · exact PN.unp_some (okB_tms hl) rfl
    · rfl
  · rw [List.drop_left']
    · exact PN.unp_some (okB_vls hl) rfl
    · rfl
theorem to_bpk {a : UInt8} {r : List UInt8} {ts vs : List Int} (h0 : a.toNat ≤ r.length) (h1 : PN.unp (r.take a.toNat) = some ts) (h2 : PN.unp (r.drop a.toNat) = some vs) (h3 : ts.length = vs.length) (hb : PB.blockB (ts.zip vs) = true) : bpk (ts.zip vs) = a :: r := by
  obtain ⟨_, e1⟩ := PN.of_unp h1
  obtain ⟨_, e2⟩ := PN.of_unp h2
  rw [bpk_yes hb, tms_zip h3, vls_zip h3, e1, e2, List.take_append_drop]
  have : (r.take a.toNat).length = a.toNat := by rw [List.length_take]; omega
  rw [this, PN.ofNat_of]
theorem bpk_inj {x l : List PB.Row} (hx : PB.blockB x = true) (hl : PB.blockB l = true) (h : bpk x = bpk l) : x = l := by
  have e := bpk_yes hl
  obtain ⟨_, h1, h2⟩ := of_bpk hx (h.trans e)
  obtain ⟨_, h3, h4⟩ := of_bpk hl e
  rw [h1] at h3
  rw [h2] at h4
  injection h3 with h3
  injection h4 with h4
  rw [← zip_of x, ← zip_of l, h3, h4]

/-- What BlockUnpack hands back. -/
noncomputable def buO (s : List UInt8) : List PB.Row × Bool := open Classical in if h : ∃ l, PB.blockB l = true ∧ bpk l = s then (Classical.choose h, true) else ([], false)
theorem buO_some {s : List UInt8} {l : List PB.Row} (h1 : PB.blockB l = true) (h2 : bpk l = s) : buO s = (l, true) := by
  have h : ∃ l, PB.blockB l = true ∧ bpk l = s := ⟨l, h1, h2⟩
  unfold buO
  rw [dif_pos h]
  have hc := Classical.choose_spec h
  rw [bpk_inj hc.1 h1 (hc.2.trans h2.symm)]
theorem buO_none {s : List UInt8} (h : ∀ l, PB.blockB l = true → bpk l = s → False) : buO s = ([], false) := by
  unfold buO
  rw [dif_neg]
  rintro ⟨l, h1, h2⟩
  exact h l h1 h2
theorem of_buO {s : List UInt8} {L : List PB.Row} (h : buO s = (L, true)) : PB.blockB L = true ∧ bpk L = s := by
  unfold buO at h
  split at h
  · rename_i hh
    have hc := Classical.choose_spec hh
    injection h with h1 h2
    rw [← h1]; exact hc
  · injection h with h1 h2; cases h2
theorem buO_len (s : List UInt8) : (buO s).1.length ≤ 24 := by
  unfold buO
  split
  · rename_i hh
    exact (PB.blockB_iff.1 (Classical.choose_spec hh).1).2.2
  · exact Nat.zero_le _
/-- It stops: there is no such block. -/
theorem bu_nil : buO [] = ([], false) := buO_none fun l hl h => by rw [bpk_yes hl] at h; cases h
theorem bu_short {a : UInt8} {r : List UInt8} (h : r.length < a.toNat) : buO (a :: r) = ([], false) := buO_none fun l hl hh => by have := (of_bpk hl hh).1; omega
theorem bu_parts {a : UInt8} {r : List UInt8} {L1 L2 : List Int} {K1 K2 : Bool} (h1 : unpO (r.take a.toNat) = (L1, K1)) (h2 : unpO (r.drop a.toNat) = (L2, K2)) (h : K1 = false ∨ K2 = false ∨ L1.length ≠ L2.length) : buO (a :: r) = ([], false) := by
  refine buO_none fun l hl hh => ?_
  obtain ⟨_, e1, e2⟩ := of_bpk hl hh
  rw [unpO_some e1] at h1
  rw [unpO_some e2] at h2
  injection h1 with a1 b1
  injection h2 with a2 b2
  rcases h with h | h | h
  · rw [← b1] at h; cases h
  · rw [← b2] at h; cases h
  · rw [← a1, ← a2] at h; simp at h
theorem unp_of {l : List UInt8} {L : List Int} (h : unpO l = (L, true)) : PN.unp l = some L := by
  unfold unpO at h
  cases hh : PN.unp l with
  | none => rw [hh] at h; injection h with a b; cases b
  | some y => rw [hh] at h; injection h with a b; rw [a]
/-- It is at the end: the block is such, or there is none. -/
theorem bu_end {a : UInt8} {r : List UInt8} {L1 L2 : List Int} (h0 : a.toNat ≤ r.length) (h1 : unpO (r.take a.toNat) = (L1, true)) (h2 : unpO (r.drop a.toNat) = (L2, true)) (h3 : L1.length = L2.length) :
    (PB.blockB (L1.zip L2) = true → buO (a :: r) = (L1.zip L2, true)) ∧ (PB.blockB (L1.zip L2) = false → buO (a :: r) = ([], false)) := by
  refine ⟨fun hb => buO_some hb (to_bpk h0 (unp_of h1) (unp_of h2) h3 hb), fun hb => buO_none fun l hl hh => ?_⟩
  obtain ⟨_, e1, e2⟩ := of_bpk hl hh
  rw [unp_of h1] at e1
  rw [unp_of h2] at e2
  injection e1 with e1
  injection e2 with e2
  rw [e1, e2, zip_of, hl] at hb
  cases hb
theorem bu_end2 {a : UInt8} {r : List UInt8} {L1 L2 : List Int} (h0 : a.toNat ≤ r.length) (h1 : unpO (r.take a.toNat) = (L1, true)) (h2 : unpO (r.drop a.toNat) = (L2, true)) (h3 : L1.length = L2.length) :
    (bpk (L1.zip L2) = a :: r → buO (a :: r) = (L1.zip L2, true)) ∧ (bpk (L1.zip L2) ≠ a :: r → buO (a :: r) = ([], false)) := by
  obtain ⟨p, q⟩ := bu_end h0 h1 h2 h3
  cases hb : PB.blockB (L1.zip L2)
  · refine ⟨fun h => ?_, fun _ => q hb⟩
    rw [bpk_no hb] at h; cases h
  · exact ⟨fun _ => p hb, fun h => absurd (to_bpk h0 (unp_of h1) (unp_of h2) h3 hb) h⟩

end Go.Proofs.Ytlalldjlgaldeaa
