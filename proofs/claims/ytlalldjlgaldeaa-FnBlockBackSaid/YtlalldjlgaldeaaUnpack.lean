/-
  WALKS: numbers unpacked, by the reference and by the program.
-/
import Derived.Test.YtlalldjlgaldeaaGet
import Derived.Test.YtlalldjlgaldeaaInts
namespace Go.Proofs.Ytlalldjlgaldeaa
set_option linter.unusedVariables false
open Go.RowKit

/-- What NumsUnpack hands back. -/
noncomputable def unpO (l : List UInt8) : List Int × Bool := match PN.unp l with | some x => (x, true) | none => ([], false)
theorem unpO_some {l : List UInt8} {x : List Int} (h : PN.unp l = some x) : unpO l = (x, true) := by unfold unpO; rw [h]
theorem unpO_none {l : List UInt8} (h : PN.unp l = none) : unpO l = ([], false) := by unfold unpO; rw [h]
/-- A list of integers in the call's own memory, and a word whether it was done. -/
def IntLB (w : World) (p : List Int × Bool) (e : Ending) (w' : World) : Prop :=
  ∃ A c, e = .returned (.tuple #[.slice A p.1.length c, .bool p.2]) ∧ w'.ownsRow w.heap.size 3 1 (.slice A p.1.length c) p.1.length (ints p.1) ∧ Below w.heap.size w w'
def lenS : Value → Nat | .string s => s.size | _ => 0
theorem own_intU {w : World} {B n : Nat} {v : Value} {l : List Int} {x : Int} (h : w.ownsRow B 3 1 v n (ints l ++ [.int .i64 x])) (hn : n = l.length + 1) : ∃ A c, v = .slice A (l ++ [x]).length c ∧ w.ownsRow B 3 1 (.slice A (l ++ [x]).length c) (l ++ [x]).length (ints (l ++ [x])) := by
  have e : ints l ++ [.int .i64 x] = ints (l ++ [x]) := by rw [ints_append]; rfl
  have e2 : n = (l ++ [x]).length := by simp [hn]
  subst e2
  rw [e] at h
  obtain ⟨A, c, hv, ho⟩ := own_ret h
  exact ⟨A, c, hv, ho⟩
theorem own_emptyU (w : World) (base : Nat) (hb : base ≤ w.heap.size) : (w.alloc (.cells #[] 3)).ownsRow base 3 1 (.slice (some ⟨w.heap.size, 0, none⟩) 0 0) 0 (ints []) := World.ownsRow_lit w #[] 0 hb (Nat.zero_le _) rfl
theorem intLB_none {w wr : World} {l : List UInt8} (h : PN.unp l = none) (b : Below w.heap.size w wr) : IntLB w (unpO l) (.returned (.tuple #[.slice (some ⟨wr.heap.size, 0, none⟩) 0 0, .bool false])) (wr.alloc (.cells #[] 3)) := by
  rw [unpO_none h]
  exact ⟨_, _, rfl, own_emptyU wr _ b.size, b.alloc b.size _⟩
theorem intLB_some {w wr : World} {l : List UInt8} {acc : List Int} {A : Option Addr} {c : Nat} (h : PN.unp l = some acc) (o : wr.ownsRow w.heap.size 3 1 (.slice A acc.length c) acc.length (ints acc)) (b : Below w.heap.size w wr) :
    IntLB w (unpO l) (.returned (.tuple #[.slice A acc.length c, .bool true])) wr := by
  rw [unpO_some h]
  exact ⟨_, _, rfl, o, b⟩
theorem get_small {l : List UInt8} {z : Nat} {t : List UInt8} (h : PN.get l = some (z, t)) : z < 2097152 := (PN.put_get h).2

set_option maxRecDepth 100000 in
set_option maxHeartbeats 3200000 in
theorem specNumsUnpack (l : List UInt8) (w : World) (hl : l.length ≤ 1000000000) : Calls Try.prog 29 #[.string (S l)] w (IntLB w (unpO l)) := by
  obtain ⟨i0, hi, hz0, hz1, hz2⟩ := info_parts info_int
  have hO : Hid ((w.alloc (.cells #[] 3)).ownsRow w.heap.size 3 1 (.slice (some ⟨w.heap.size, 0, none⟩) 0 0) 0 (ints [])) := hide (own_emptyU w _ (Nat.le_refl _))
  go_enter Try.func29, Try.ntmps29
  go_wp2
  go_loopw [0, 4, 5, 6] (fun s v la sp wr => ∃ (rem : List UInt8) (acc : List Int) (x y : Int) (A : Option Addr) (c : Nat), rem.length ≤ l.length ∧ s = .string (S rem) ∧ v = .slice A acc.length c ∧ la = .int .i64 x ∧ sp = .int .i64 y ∧ Hid (wr.ownsRow w.heap.size 3 1 (.slice A acc.length c) acc.length (ints acc)) ∧ Hid (PN.SpecAt l acc x y rem) ∧ Hid (Below w.heap.size w wr)) (fun s _ _ _ _ => lenS s)
  case atStart => exact ⟨l, [], 0, 0, _, _, Nat.le_refl _, rfl, rfl, rfl, rfl, hO, hide (PN.SpecAt.start l), hide ((Below.refl _ _).alloc (Nat.le_refl _) _)⟩
  case round =>
    clear hO
    obtain ⟨rem, acc, la, sp, A', c', hrl, rfl, rfl, rfl, rfl, ho, hp, hbel⟩ := hrel
    have hsz := hbel.out.size
    have ha24 := hp.out.len
    have hbd := hp.out.bd
    have hSz := S_size rem
    by_cases hrem : rem = []
    · obtain ⟨t1, t2⟩ := S_empty _ hrem
      have F := hide (intLB_some (hrem ▸ hp.out).done ho.out hbel.out)
      clear hrem hp ho hbel
      go_wp2
      exact bodyPost_ret (v := .tuple #[.slice A' acc.length c', .bool true]) (by simp [results, Try.results29, go_sem]) rfl F.out
    · obtain ⟨t1, t2⟩ := S_full _ hrem
      have HR := hide hrem
      have C := hide (l1Get_any rem wr (by omega))
      cases hg : PN.get rem with
      | none =>
        rw [getR_none hg] at C
        have F := hide (intLB_none (hp.out.none HR.out (.inr hg)) hbel.out)
        clear hg hrem hp ho hbel
        go_wp2_with fail
        refine C.out.mono ?_
        rintro e w' ⟨rfl, rfl⟩
        go_wp2
        exact bodyPost_ret (v := .tuple #[.slice (some ⟨wr.heap.size, 0, none⟩) 0 0, .bool false]) (by simp [results, Try.results29, go_sem]) rfl F.out
      | some p =>
        obtain ⟨z, t⟩ := p
        obtain ⟨u, hu1, hu2, rfl, hu3⟩ := PN.get_lt hg
        rw [getR_some hg hu2] at C
        have hz := get_small hg
        have hu0 : ((u : Int) == 0) = false := beq_eq_false_iff_ne.2 (by omega)
        have HG := hide hg
        clear hg hrem
        by_cases h24 : 24 ≤ acc.length
        · have F := hide (intLB_none (hp.out.none HR.out (.inl h24)) hbel.out)
          clear hp ho hbel
          go_wp2_with fail
          refine C.out.mono ?_
          rintro e w' ⟨rfl, rfl⟩
          go_wp2
          exact bodyPost_ret (v := .tuple #[.slice (some ⟨wr.heap.size, 0, none⟩) 0 0, .bool false]) (by simp [results, Try.results29, go_sem]) rfl F.out
        · have CZ := hide (l1Zag_any (z : Int) (by omega) wr)
          rw [Int.toNat_natCast] at CZ
          have hzb := PN.zag_bd z 1048576 (by omega)
          have hdr : (S rem).extract u rem.length = S (rem.drop u) := by rw [← hSz]; exact S_drop rem u
          obtain ⟨g1, g2, g3, g4⟩ := hbd
          obtain ⟨g5, g6⟩ := hzb
          by_cases h2 : acc.length < 2
          · have HN := hide (hp.out.next (d := PN.zag z) (by omega) HG.out (by rw [if_pos h2]))
            have HD : Hid (PN.zag z = PN.zag z) := hide rfl
            clear HG hp HR
            generalize PN.zag z = zz at *
            have ho' := ho.out
            go_wp2_with fail
            refine C.out.mono ?_
            rintro e w' ⟨rfl, rfl⟩
            go_wp2_with fail
            refine CZ.out.mono ?_
            rintro e w' ⟨rfl, rfl⟩
            go_wp2_with (first
              | (at_builtin; refine wpList_append_own _ rfl (.tmp 38) (.tmp 40) 38 rfl w.heap.size 3 i0 (.int .i64 0) 1 8 Try.underlying38 hi hz0 hz1 hz2 rfl (by decide) _ _ _ rfl (ho'.alloc _) ⟨wr.heap.size, 0, none⟩ 1 1 [_] rfl rfl (one_new _ _ _) (by intro u hu; simp at hu; subst hu; rfl) (by unfold maxLen; omega) (by omega) (by simp; omega) ?_; intro v4 w4 hown4 hgrow4 _))
            have hg4 : (wr.alloc _).grownBy w4 (Value.ownBlock (.slice A' acc.length c')) := hgrow4
            have HB := hide ((hbel.out.alloc hsz _).grown hg4 (by simp; omega) (fun g hgg => (ho'.lt g hgg).1))
            obtain ⟨A4, c4, rfl, ho4⟩ := own_intU hown4 rfl
            have O4 := hide ho4
            clear hown4 hgrow4 hg4 ho' ho hbel ho4
            have CN := hide (l1Nums_any A4 _ c4 (acc ++ [la + (zz)]) _ w4 rfl (Rd.of_own O4.out) (by simp; omega))
            go_wp2_with fail
            refine CN.out.mono ?_
            rintro e w' ⟨rfl, rfl⟩
            cases hk : PN.okB (acc ++ [la + (zz)])
            · have F := hide (intLB_none (HN.out.2 hk) HB.out)
              clear hk
              go_wp2
              exact bodyPost_ret (v := .tuple #[.slice (some ⟨w4.heap.size, 0, none⟩) 0 0, .bool false]) (by simp [results, Try.results29, go_sem]) rfl F.out
            · have HS := hide (HN.out.1 hk)
              clear hk
              go_wp2
              go_roundw
              case rel => exact ⟨rem.drop u, _, _, _, A4, c4, by simp; omega, rfl, by simp, rfl, rfl, O4, HS, HB⟩
              case measure => simp [lenS, S_size]; omega
          · have HN := hide (hp.out.next (d := PN.zag z + sp) (by omega) HG.out (by rw [if_neg h2]))
            have HD : Hid (PN.zag z + sp = PN.zag z + sp) := hide rfl
            clear HG hp HR
            generalize PN.zag z = zz at *
            have ho' := ho.out
            go_wp2_with fail
            refine C.out.mono ?_
            rintro e w' ⟨rfl, rfl⟩
            go_wp2_with fail
            refine CZ.out.mono ?_
            rintro e w' ⟨rfl, rfl⟩
            go_wp2_with (first
              | (at_builtin; refine wpList_append_own _ rfl (.tmp 38) (.tmp 40) 38 rfl w.heap.size 3 i0 (.int .i64 0) 1 8 Try.underlying38 hi hz0 hz1 hz2 rfl (by decide) _ _ _ rfl (ho'.alloc _) ⟨wr.heap.size, 0, none⟩ 1 1 [_] rfl rfl (one_new _ _ _) (by intro u hu; simp at hu; subst hu; rfl) (by unfold maxLen; omega) (by omega) (by simp; omega) ?_; intro v4 w4 hown4 hgrow4 _))
            have hg4 : (wr.alloc _).grownBy w4 (Value.ownBlock (.slice A' acc.length c')) := hgrow4
            have HB := hide ((hbel.out.alloc hsz _).grown hg4 (by simp; omega) (fun g hgg => (ho'.lt g hgg).1))
            obtain ⟨A4, c4, rfl, ho4⟩ := own_intU hown4 rfl
            have O4 := hide ho4
            clear hown4 hgrow4 hg4 ho' ho hbel ho4
            have CN := hide (l1Nums_any A4 _ c4 (acc ++ [la + (zz + sp)]) _ w4 rfl (Rd.of_own O4.out) (by simp; omega))
            go_wp2_with fail
            refine CN.out.mono ?_
            rintro e w' ⟨rfl, rfl⟩
            cases hk : PN.okB (acc ++ [la + (zz + sp)])
            · have F := hide (intLB_none (HN.out.2 hk) HB.out)
              clear hk
              go_wp2
              exact bodyPost_ret (v := .tuple #[.slice (some ⟨w4.heap.size, 0, none⟩) 0 0, .bool false]) (by simp [results, Try.results29, go_sem]) rfl F.out
            · have HS := hide (HN.out.1 hk)
              clear hk
              go_wp2
              go_roundw
              case rel => exact ⟨rem.drop u, _, _, _, A4, c4, by simp; omega, rfl, by simp, rfl, rfl, O4, HS, HB⟩
              case measure => simp [lenS, S_size]; omega

theorem or_low {x b m : Nat} {i : Nat} (hm : m = 2 ^ i) (hx : x < m) (hb : b < 256) (hi : i ≤ 14) : bits .or .i64 (x : Int) ((b : Int) * (m : Int)) = (x : Int) + (b : Int) * (m : Int) := by
  have hpos : 0 < m := by rw [hm]; exact Nat.two_pow_pos i
  have hmi : m ≤ 16384 := by rw [hm]; exact Nat.pow_le_pow_right (by omega) hi
  have h2 : b * m ≤ 256 * 16384 := Nat.mul_le_mul (by omega) hmi
  have h3 : ((b : Int) * (m : Int)) = ((b * m : Nat) : Int) := by push_cast; rfl
  rw [h3]
  have hk : ∀ n : Int, 0 ≤ n → n < 2 ^ 40 → IntKind.i64.wrap n = n := fun n h1 h2 => IntWalk.i64_in _ (by omega)
  rw [(bits_nat .i64 40 (by decide) hk x (b * m) (by omega) (by omega)).2]
  have hor : x ||| b * m = x + b * m := by
    rw [Nat.or_comm, Nat.mul_comm, hm, ← Nat.two_pow_add_eq_or_of_lt (by rw [← hm]; exact hx)]
    omega
  rw [hor]
  push_cast; rfl

set_option maxRecDepth 100000 in
set_option maxHeartbeats 6400000 in
theorem implNumsUnpack (l : List UInt8) (w : World) (hl : l.length ≤ 1000000000) : Calls Try.prog 30 #[.string (S l)] w (IntLB w (unpO l)) := by
  obtain ⟨i0, hi, hz0, hz1, hz2⟩ := info_parts info_int
  have hO : Hid ((w.alloc (.cells #[] 3)).ownsRow w.heap.size 3 1 (.slice (some ⟨w.heap.size, 0, none⟩) 0 0) 0 (ints [])) := hide (own_emptyU w _ (Nat.le_refl _))
  have hSz := S_size l
  go_enter Try.func30, Try.ntmps30
  go_wp2
  go_loopw [4, 5, 6, 7] (fun v la sp i wr => ∃ (p : Nat) (acc : List Int) (x y : Int) (A : Option Addr) (c : Nat), p ≤ l.length ∧ i = .int .i64 p ∧ v = .slice A acc.length c ∧ la = .int .i64 x ∧ sp = .int .i64 y ∧ acc.length ≤ 24 ∧ Hid (wr.ownsRow w.heap.size 3 1 (.slice A acc.length c) acc.length (ints acc)) ∧ Hid (PN.ImplAt l acc x y (l.drop p)) ∧ Hid (Below w.heap.size w wr)) (fun _ _ _ i _ => l.length - (intOf i).toNat)
  case atStart => exact ⟨0, [], 0, 0, _, _, Nat.zero_le _, rfl, rfl, rfl, rfl, by simp, hO, hide (PN.ImplAt.start l), hide ((Below.refl _ _).alloc (Nat.le_refl _) _)⟩
  case round =>
    clear hO
    obtain ⟨p, acc, la, sp, A', c', hpl, rfl, rfl, rfl, rfl, ha24, ho, hp, hbel⟩ := hrel
    have hsz := hbel.out.size
    have hla := hp.out.la
    have hsp := hp.out.sp
    by_cases hlt : p < l.length
    · go_wp2
      obtain ⟨W, hW⟩ : ∃ W, W = wr := ⟨_, rfl⟩
      rw [← hW] at ho hbel hsz ⊢
      clear hW
      go_loopw [7, 8, 9] (fun i z sh wr => ∃ (k x : Nat), k ≤ 2 ∧ p + k ≤ l.length ∧ i = .int .i64 ((p + k : Nat) : Int) ∧ z = .int .i64 (x : Nat) ∧ sh = .int .i64 ((7 * k : Nat) : Int) ∧ x < 128 ^ k ∧ Hid (PN.gd 0 0 (l.drop p) = PN.gd k x (l.drop (p + k))) ∧ W = wr) (fun i _ _ _ => l.length - (intOf i).toNat)
      case atStart => exact ⟨0, 0, by omega, by omega, rfl, rfl, rfl, by simp, hide rfl, rfl⟩
      case round =>
        obtain ⟨k, x, hk2, hpk, rfl, rfl, rfl, hx, hg, rfl⟩ := hrel
        by_cases hlk : p + k < l.length
        · have hd := drop_get hlk
          have hq := hg.out
          rw [hd] at hq
          have hS := S_get l (p + k) (by omega)
          obtain ⟨b, hb⟩ : ∃ b, b = l.getD (p + k) 0 := ⟨_, rfl⟩
          rw [← hb] at hS hq
          have hb2 := PN.toNat_lt b
          have HQ := hide hq
          clear hd hq hg hb
          rcases (show k = 0 ∨ k = 1 ∨ k = 2 from by omega) with rfl | rfl | rfl
          · have hpe : ((p : Int) == (l.length : Int)) = false := beq_eq_false_iff_ne.2 (by omega)
            replace hS : (S l)[p]'(by omega) = b := hS
            by_cases h7 : b.toNat < 128
            · have h7d : decide (128 ≤ (b.toNat : Int)) = false := decide_eq_false (by omega)
              obtain ⟨Z, hZ⟩ : ∃ Z, Z = x + 1 * b.toNat := ⟨_, rfl⟩
              have HG : Hid (PN.gd 0 0 (l.drop p) = some (Z, l.drop (p + 1))) := hide (by rw [HQ.out, hZ]; simp [PN.gd, h7])
              by_cases h24 : acc.length = 24
              · have F := hide (intLB_none (hp.out.none (by simp; omega) (.inl (by omega))) hbel.out)
                have h24d : ((acc.length : Int) == 24) = true := by rw [h24]; rfl
                clear HG HQ hp ho hbel hZ
                go_wp2
                exact bodyPost_ret (v := .tuple #[.slice (some ⟨W.heap.size, 0, none⟩) 0 0, .bool false]) (by simp [results, Try.results30, go_sem]) rfl F.out
              · have h24d : ((acc.length : Int) == 24) = false := beq_eq_false_iff_ne.2 (by omega)
                have hor : bits .or .i64 (x : Int) (b.toNat : Int) = (Z : Int) := by
                  rw [hZ]
                  have := or_low (x := x) (b := b.toNat) (m := 1) (i := 0) (by decide) (by omega) hb2 (by omega)
                  simp at this
                  rw [this]
                  omega
                have CZ := hide (implNumZag (Z : Int) W)
                obtain ⟨zz, hzz⟩ : ∃ zz, zz = (if 0 ≤ (Z : Int) ∧ (Z : Int) ≤ 15984 then PN.zag (Z : Int).toNat else 0) := ⟨_, rfl⟩
                obtain ⟨q1, q2⟩ := PN.nz_bd (Z : Int)
                unfold numZag at CZ
                rw [← hzz] at CZ q1 q2
                clear HQ hZ
                by_cases h2 : acc.length < 2
                · have HN := hide (hp.out.next (d := zz) (by omega) HG.out (by rw [← hzz, if_pos h2]))
                  clear HG hp hzz
                  have ho' := ho.out
                  go_wp2_with fail
                  refine CZ.out.mono ?_
                  rintro e w' ⟨rfl, rfl⟩
                  go_wp2_with (first
                    | (at_builtin; refine wpList_append_own _ rfl (.tmp 75) (.tmp 77) 38 rfl w.heap.size 3 i0 (.int .i64 0) 1 8 Try.underlying38 hi hz0 hz1 hz2 rfl (by decide) _ _ _ rfl (ho'.alloc _) ⟨W.heap.size, 0, none⟩ 1 1 [_] rfl rfl (one_new _ _ _) (by intro u hu; simp at hu; subst hu; rfl) (by unfold maxLen; omega) (by omega) (by simp; omega) ?_; intro v4 w4 hown4 hgrow4 _))
                  have hg4 : (W.alloc _).grownBy w4 (Value.ownBlock (.slice A' acc.length c')) := hgrow4
                  have HB := hide ((hbel.out.alloc hsz _).grown hg4 (by simp; omega) (fun g hgg => (ho'.lt g hgg).1))
                  obtain ⟨A4, c4, rfl, ho4⟩ := own_intU hown4 rfl
                  have O4 := hide ho4
                  clear hown4 hgrow4 hg4 ho' ho hbel ho4
                  go_roundw
                  case rel => exact ⟨p + 1, _, _, _, A4, c4, by omega, by go_num, by simp, rfl, rfl, by simp; omega, O4, HN, HB⟩
                  case measure => simp [intOf]; omega
                · have HN := hide (hp.out.next (d := zz + sp) (by omega) HG.out (by rw [← hzz, if_neg h2]))
                  clear HG hp hzz
                  have ho' := ho.out
                  go_wp2_with fail
                  refine CZ.out.mono ?_
                  rintro e w' ⟨rfl, rfl⟩
                  go_wp2_with (first
                    | (at_builtin; refine wpList_append_own _ rfl (.tmp 75) (.tmp 77) 38 rfl w.heap.size 3 i0 (.int .i64 0) 1 8 Try.underlying38 hi hz0 hz1 hz2 rfl (by decide) _ _ _ rfl (ho'.alloc _) ⟨W.heap.size, 0, none⟩ 1 1 [_] rfl rfl (one_new _ _ _) (by intro u hu; simp at hu; subst hu; rfl) (by unfold maxLen; omega) (by omega) (by simp; omega) ?_; intro v4 w4 hown4 hgrow4 _))
                  have hg4 : (W.alloc _).grownBy w4 (Value.ownBlock (.slice A' acc.length c')) := hgrow4
                  have HB := hide ((hbel.out.alloc hsz _).grown hg4 (by simp; omega) (fun g hgg => (ho'.lt g hgg).1))
                  obtain ⟨A4, c4, rfl, ho4⟩ := own_intU hown4 rfl
                  have O4 := hide ho4
                  clear hown4 hgrow4 hg4 ho' ho hbel ho4
                  go_roundw
                  case rel => exact ⟨p + 1, _, _, _, A4, c4, by omega, by go_num, by simp, rfl, rfl, by simp; omega, O4, HN, HB⟩
                  case measure => simp [intOf]; omega
            · have h7d : decide (128 ≤ (b.toNat : Int)) = true := decide_eq_true (by omega)
              obtain ⟨c, hc⟩ : ∃ c : Nat, b.toNat = c + 128 := ⟨b.toNat - 128, by omega⟩
              have HN : Hid (PN.gd 0 0 (l.drop p) = PN.gd 1 (x + 1 * c) (l.drop (p + 1))) := hide (by rw [HQ.out]; simp [PN.gd, h7]; rw [hc]; simp)
              have hor : bits .or .i64 (x : Int) (c : Int) = ((x + 1 * c : Nat) : Int) := by
                have := or_low (x := x) (b := c) (m := 1) (i := 0) (by decide) (by omega) (by omega) (by omega)
                simp at this
                rw [this]
                omega
              have hs : (b.toNat : Int) - 128 = (c : Int) := by omega
              have hxx : x + 1 * c < 128 := by have : x < 1 := hx; omega
              clear HQ
              go_wp2
              go_roundw
              case rel => exact ⟨1, x + 1 * c, by omega, by omega, by go_num, by first | rfl | simp, by first | rfl | simp, hxx, HN, trivial⟩
              case measure => simp [intOf]; omega
          · have hpe : ((p : Int) + 1 == (l.length : Int)) = false := beq_eq_false_iff_ne.2 (by omega)
            replace hS : (S l)[p + 1]'(by omega) = b := hS
            by_cases h7 : b.toNat < 128
            · have h7d : decide (128 ≤ (b.toNat : Int)) = false := decide_eq_false (by omega)
              obtain ⟨Z, hZ⟩ : ∃ Z, Z = x + 128 * b.toNat := ⟨_, rfl⟩
              have HG : Hid (PN.gd 0 0 (l.drop p) = some (Z, l.drop (p + 2))) := hide (by rw [HQ.out, hZ]; simp [PN.gd, h7])
              by_cases h24 : acc.length = 24
              · have F := hide (intLB_none (hp.out.none (by simp; omega) (.inl (by omega))) hbel.out)
                have h24d : ((acc.length : Int) == 24) = true := by rw [h24]; rfl
                clear HG HQ hp ho hbel hZ
                go_wp2
                exact bodyPost_ret (v := .tuple #[.slice (some ⟨W.heap.size, 0, none⟩) 0 0, .bool false]) (by simp [results, Try.results30, go_sem]) rfl F.out
              · have h24d : ((acc.length : Int) == 24) = false := beq_eq_false_iff_ne.2 (by omega)
                have hor : bits .or .i64 (x : Int) ((b.toNat : Int) * 128) = (Z : Int) := by
                  rw [hZ]
                  have := or_low (x := x) (b := b.toNat) (m := 128) (i := 7) (by decide) (by omega) hb2 (by omega)
                  simp at this
                  rw [this]
                  omega
                have CZ := hide (implNumZag (Z : Int) W)
                obtain ⟨zz, hzz⟩ : ∃ zz, zz = (if 0 ≤ (Z : Int) ∧ (Z : Int) ≤ 15984 then PN.zag (Z : Int).toNat else 0) := ⟨_, rfl⟩
                obtain ⟨q1, q2⟩ := PN.nz_bd (Z : Int)
                unfold numZag at CZ
                rw [← hzz] at CZ q1 q2
                clear HQ hZ
                by_cases h2 : acc.length < 2
                · have HN := hide (hp.out.next (d := zz) (by omega) HG.out (by rw [← hzz, if_pos h2]))
                  clear HG hp hzz
                  have ho' := ho.out
                  go_wp2_with fail
                  refine CZ.out.mono ?_
                  rintro e w' ⟨rfl, rfl⟩
                  go_wp2_with (first
                    | (at_builtin; refine wpList_append_own _ rfl (.tmp 75) (.tmp 77) 38 rfl w.heap.size 3 i0 (.int .i64 0) 1 8 Try.underlying38 hi hz0 hz1 hz2 rfl (by decide) _ _ _ rfl (ho'.alloc _) ⟨W.heap.size, 0, none⟩ 1 1 [_] rfl rfl (one_new _ _ _) (by intro u hu; simp at hu; subst hu; rfl) (by unfold maxLen; omega) (by omega) (by simp; omega) ?_; intro v4 w4 hown4 hgrow4 _))
                  have hg4 : (W.alloc _).grownBy w4 (Value.ownBlock (.slice A' acc.length c')) := hgrow4
                  have HB := hide ((hbel.out.alloc hsz _).grown hg4 (by simp; omega) (fun g hgg => (ho'.lt g hgg).1))
                  obtain ⟨A4, c4, rfl, ho4⟩ := own_intU hown4 rfl
                  have O4 := hide ho4
                  clear hown4 hgrow4 hg4 ho' ho hbel ho4
                  go_roundw
                  case rel => exact ⟨p + 2, _, _, _, A4, c4, by omega, by go_num, by simp, rfl, rfl, by simp; omega, O4, HN, HB⟩
                  case measure => simp [intOf]; omega
                · have HN := hide (hp.out.next (d := zz + sp) (by omega) HG.out (by rw [← hzz, if_neg h2]))
                  clear HG hp hzz
                  have ho' := ho.out
                  go_wp2_with fail
                  refine CZ.out.mono ?_
                  rintro e w' ⟨rfl, rfl⟩
                  go_wp2_with (first
                    | (at_builtin; refine wpList_append_own _ rfl (.tmp 75) (.tmp 77) 38 rfl w.heap.size 3 i0 (.int .i64 0) 1 8 Try.underlying38 hi hz0 hz1 hz2 rfl (by decide) _ _ _ rfl (ho'.alloc _) ⟨W.heap.size, 0, none⟩ 1 1 [_] rfl rfl (one_new _ _ _) (by intro u hu; simp at hu; subst hu; rfl) (by unfold maxLen; omega) (by omega) (by simp; omega) ?_; intro v4 w4 hown4 hgrow4 _))
                  have hg4 : (W.alloc _).grownBy w4 (Value.ownBlock (.slice A' acc.length c')) := hgrow4
                  have HB := hide ((hbel.out.alloc hsz _).grown hg4 (by simp; omega) (fun g hgg => (ho'.lt g hgg).1))
                  obtain ⟨A4, c4, rfl, ho4⟩ := own_intU hown4 rfl
                  have O4 := hide ho4
                  clear hown4 hgrow4 hg4 ho' ho hbel ho4
                  go_roundw
                  case rel => exact ⟨p + 2, _, _, _, A4, c4, by omega, by go_num, by simp, rfl, rfl, by simp; omega, O4, HN, HB⟩
                  case measure => simp [intOf]; omega
            · have h7d : decide (128 ≤ (b.toNat : Int)) = true := decide_eq_true (by omega)
              obtain ⟨c, hc⟩ : ∃ c : Nat, b.toNat = c + 128 := ⟨b.toNat - 128, by omega⟩
              have HN : Hid (PN.gd 0 0 (l.drop p) = PN.gd 2 (x + 128 * c) (l.drop (p + 2))) := hide (by rw [HQ.out]; simp [PN.gd, h7]; rw [hc]; simp)
              have hor : bits .or .i64 (x : Int) ((c : Int) * 128) = ((x + 128 * c : Nat) : Int) := by
                have := or_low (x := x) (b := c) (m := 128) (i := 7) (by decide) (by omega) (by omega) (by omega)
                simp at this
                rw [this]
                omega
              have hs : (b.toNat : Int) - 128 = (c : Int) := by omega
              have hxx : x + 128 * c < 16384 := by have : x < 128 := hx; omega
              clear HQ
              go_wp2
              go_roundw
              case rel => exact ⟨2, x + 128 * c, by omega, by omega, by go_num, by first | rfl | simp, by first | rfl | simp, hxx, HN, trivial⟩
              case measure => simp [intOf]; omega
          · have hpe : ((p : Int) + 2 == (l.length : Int)) = false := beq_eq_false_iff_ne.2 (by omega)
            by_cases h7 : b.toNat < 128
            · have h7d : decide (128 ≤ (b.toNat : Int)) = false := decide_eq_false (by omega)
              obtain ⟨Z, hZ⟩ : ∃ Z, Z = x + 16384 * b.toNat := ⟨_, rfl⟩
              have HG : Hid (PN.gd 0 0 (l.drop p) = some (Z, l.drop (p + 3))) := hide (by rw [HQ.out, hZ]; simp [PN.gd])
              by_cases h24 : acc.length = 24
              · have F := hide (intLB_none (hp.out.none (by simp; omega) (.inl (by omega))) hbel.out)
                have h24d : ((acc.length : Int) == 24) = true := by rw [h24]; rfl
                clear HG HQ hp ho hbel hZ
                go_wp2
                exact bodyPost_ret (v := .tuple #[.slice (some ⟨W.heap.size, 0, none⟩) 0 0, .bool false]) (by simp [results, Try.results30, go_sem]) rfl F.out
              · have h24d : ((acc.length : Int) == 24) = false := beq_eq_false_iff_ne.2 (by omega)
                have hor : bits .or .i64 (x : Int) ((b.toNat : Int) * 16384) = (Z : Int) := by
                  rw [hZ]
                  have := or_low (x := x) (b := b.toNat) (m := 16384) (i := 14) (by decide) (by omega) hb2 (by omega)
                  simp at this
                  rw [this]
                  omega
                have CZ := hide (implNumZag (Z : Int) W)
                obtain ⟨zz, hzz⟩ : ∃ zz, zz = (if 0 ≤ (Z : Int) ∧ (Z : Int) ≤ 15984 then PN.zag (Z : Int).toNat else 0) := ⟨_, rfl⟩
                obtain ⟨q1, q2⟩ := PN.nz_bd (Z : Int)
                unfold numZag at CZ
                rw [← hzz] at CZ q1 q2
                clear HQ hZ
                by_cases h2 : acc.length < 2
                · have HN := hide (hp.out.next (d := zz) (by omega) HG.out (by rw [← hzz, if_pos h2]))
                  clear HG hp hzz
                  have ho' := ho.out
                  go_wp2_with fail
                  refine CZ.out.mono ?_
                  rintro e w' ⟨rfl, rfl⟩
                  go_wp2_with (first
                    | (at_builtin; refine wpList_append_own _ rfl (.tmp 75) (.tmp 77) 38 rfl w.heap.size 3 i0 (.int .i64 0) 1 8 Try.underlying38 hi hz0 hz1 hz2 rfl (by decide) _ _ _ rfl (ho'.alloc _) ⟨W.heap.size, 0, none⟩ 1 1 [_] rfl rfl (one_new _ _ _) (by intro u hu; simp at hu; subst hu; rfl) (by unfold maxLen; omega) (by omega) (by simp; omega) ?_; intro v4 w4 hown4 hgrow4 _))
                  have hg4 : (W.alloc _).grownBy w4 (Value.ownBlock (.slice A' acc.length c')) := hgrow4
                  have HB := hide ((hbel.out.alloc hsz _).grown hg4 (by simp; omega) (fun g hgg => (ho'.lt g hgg).1))
                  obtain ⟨A4, c4, rfl, ho4⟩ := own_intU hown4 rfl
                  have O4 := hide ho4
                  clear hown4 hgrow4 hg4 ho' ho hbel ho4
                  go_roundw
                  case rel => exact ⟨p + 3, _, _, _, A4, c4, by omega, by go_num, by simp, rfl, rfl, by simp; omega, O4, HN, HB⟩
                  case measure => simp [intOf]; omega
                · have HN := hide (hp.out.next (d := zz + sp) (by omega) HG.out (by rw [← hzz, if_neg h2]))
                  clear HG hp hzz
                  have ho' := ho.out
                  go_wp2_with fail
                  refine CZ.out.mono ?_
                  rintro e w' ⟨rfl, rfl⟩
                  go_wp2_with (first
                    | (at_builtin; refine wpList_append_own _ rfl (.tmp 75) (.tmp 77) 38 rfl w.heap.size 3 i0 (.int .i64 0) 1 8 Try.underlying38 hi hz0 hz1 hz2 rfl (by decide) _ _ _ rfl (ho'.alloc _) ⟨W.heap.size, 0, none⟩ 1 1 [_] rfl rfl (one_new _ _ _) (by intro u hu; simp at hu; subst hu; rfl) (by unfold maxLen; omega) (by omega) (by simp; omega) ?_; intro v4 w4 hown4 hgrow4 _))
                  have hg4 : (W.alloc _).grownBy w4 (Value.ownBlock (.slice A' acc.length c')) := hgrow4
                  have HB := hide ((hbel.out.alloc hsz _).grown hg4 (by simp; omega) (fun g hgg => (ho'.lt g hgg).1))
                  obtain ⟨A4, c4, rfl, ho4⟩ := own_intU hown4 rfl
                  have O4 := hide ho4
                  clear hown4 hgrow4 hg4 ho' ho hbel ho4
                  go_roundw
                  case rel => exact ⟨p + 3, _, _, _, A4, c4, by omega, by go_num, by simp, rfl, rfl, by simp; omega, O4, HN, HB⟩
                  case measure => simp [intOf]; omega
            · have h7d : decide (128 ≤ (b.toNat : Int)) = true := decide_eq_true (by omega)
              obtain ⟨Z, hZ⟩ : ∃ Z, Z = x + 16384 * b.toNat := ⟨_, rfl⟩
              have HG : Hid (PN.gd 0 0 (l.drop p) = some (Z, l.drop (p + 3))) := hide (by rw [HQ.out, hZ]; simp [PN.gd])
              by_cases h24 : acc.length = 24
              · have F := hide (intLB_none (hp.out.none (by simp; omega) (.inl (by omega))) hbel.out)
                have h24d : ((acc.length : Int) == 24) = true := by rw [h24]; rfl
                clear HG HQ hp ho hbel hZ
                go_wp2
                exact bodyPost_ret (v := .tuple #[.slice (some ⟨W.heap.size, 0, none⟩) 0 0, .bool false]) (by simp [results, Try.results30, go_sem]) rfl F.out
              · have h24d : ((acc.length : Int) == 24) = false := beq_eq_false_iff_ne.2 (by omega)
                have hor : bits .or .i64 (x : Int) ((b.toNat : Int) * 16384) = (Z : Int) := by
                  rw [hZ]
                  have := or_low (x := x) (b := b.toNat) (m := 16384) (i := 14) (by decide) (by omega) hb2 (by omega)
                  simp at this
                  rw [this]
                  omega
                have CZ := hide (implNumZag (Z : Int) W)
                obtain ⟨zz, hzz⟩ : ∃ zz, zz = (if 0 ≤ (Z : Int) ∧ (Z : Int) ≤ 15984 then PN.zag (Z : Int).toNat else 0) := ⟨_, rfl⟩
                obtain ⟨q1, q2⟩ := PN.nz_bd (Z : Int)
                unfold numZag at CZ
                rw [← hzz] at CZ q1 q2
                clear HQ hZ
                by_cases h2 : acc.length < 2
                · have HN := hide (hp.out.next (d := zz) (by omega) HG.out (by rw [← hzz, if_pos h2]))
                  clear HG hp hzz
                  have ho' := ho.out
                  go_wp2_with fail
                  refine CZ.out.mono ?_
                  rintro e w' ⟨rfl, rfl⟩
                  go_wp2_with (first
                    | (at_builtin; refine wpList_append_own _ rfl (.tmp 75) (.tmp 77) 38 rfl w.heap.size 3 i0 (.int .i64 0) 1 8 Try.underlying38 hi hz0 hz1 hz2 rfl (by decide) _ _ _ rfl (ho'.alloc _) ⟨W.heap.size, 0, none⟩ 1 1 [_] rfl rfl (one_new _ _ _) (by intro u hu; simp at hu; subst hu; rfl) (by unfold maxLen; omega) (by omega) (by simp; omega) ?_; intro v4 w4 hown4 hgrow4 _))
                  have hg4 : (W.alloc _).grownBy w4 (Value.ownBlock (.slice A' acc.length c')) := hgrow4
                  have HB := hide ((hbel.out.alloc hsz _).grown hg4 (by simp; omega) (fun g hgg => (ho'.lt g hgg).1))
                  obtain ⟨A4, c4, rfl, ho4⟩ := own_intU hown4 rfl
                  have O4 := hide ho4
                  clear hown4 hgrow4 hg4 ho' ho hbel ho4
                  go_roundw
                  case rel => exact ⟨p + 3, _, _, _, A4, c4, by omega, by go_num, by simp, rfl, rfl, by simp; omega, O4, HN, HB⟩
                  case measure => simp [intOf]; omega
                · have HN := hide (hp.out.next (d := zz + sp) (by omega) HG.out (by rw [← hzz, if_neg h2]))
                  clear HG hp hzz
                  have ho' := ho.out
                  go_wp2_with fail
                  refine CZ.out.mono ?_
                  rintro e w' ⟨rfl, rfl⟩
                  go_wp2_with (first
                    | (at_builtin; refine wpList_append_own _ rfl (.tmp 75) (.tmp 77) 38 rfl w.heap.size 3 i0 (.int .i64 0) 1 8 Try.underlying38 hi hz0 hz1 hz2 rfl (by decide) _ _ _ rfl (ho'.alloc _) ⟨W.heap.size, 0, none⟩ 1 1 [_] rfl rfl (one_new _ _ _) (by intro u hu; simp at hu; subst hu; rfl) (by unfold maxLen; omega) (by omega) (by simp; omega) ?_; intro v4 w4 hown4 hgrow4 _))
                  have hg4 : (W.alloc _).grownBy w4 (Value.ownBlock (.slice A' acc.length c')) := hgrow4
                  have HB := hide ((hbel.out.alloc hsz _).grown hg4 (by simp; omega) (fun g hgg => (ho'.lt g hgg).1))
                  obtain ⟨A4, c4, rfl, ho4⟩ := own_intU hown4 rfl
                  have O4 := hide ho4
                  clear hown4 hgrow4 hg4 ho' ho hbel ho4
                  go_roundw
                  case rel => exact ⟨p + 3, _, _, _, A4, c4, by omega, by go_num, by simp, rfl, rfl, by simp; omega, O4, HN, HB⟩
                  case measure => simp [intOf]; omega
        · have hpk' : p + k = l.length := by omega
          have hqe : ((p : Int) + (k : Int) == (l.length : Int)) = true := by rw [← hpk']; push_cast; exact beq_self_eq_true _
          have F := hide (intLB_none (hp.out.none (by simp; omega) (.inr (by rw [hg.out, List.drop_of_length_le (by omega)]; rfl))) hbel.out)
          clear hg hp ho hbel
          go_wp2
          exact bodyPost_ret (v := .tuple #[.slice (some ⟨W.heap.size, 0, none⟩) 0 0, .bool false]) (by simp [results, Try.results30, go_sem]) rfl F.out
    · have hd := hp.out
      rw [List.drop_of_length_le (by omega)] at hd
      have HD := hide hd.done
      have C := hide (implNumsPack A' _ c' acc _ wr rfl (Rd.of_own ho.out) (by omega) (Nat.le_refl _))
      clear hd hp
      go_wp2_with fail
      refine C.out.mono ?_
      rintro e w2 ⟨rfl, b2⟩
      have B2 := hide (hbel.out.trans (b2.mono hsz))
      have O2 := hide (own_below ho.out b2)
      clear C b2 ho hbel
      by_cases hpk : PN.pack acc = l
      · have F := hide (intLB_some (HD.out.1 hpk) O2.out B2.out)
        have hb1 : ((S (PN.pack acc)).toList == (S l).toList) = true := by rw [hpk]; exact beq_self_eq_true _
        clear HD hpk O2 B2
        go_wp2
        exact bodyPost_ret (v := .tuple #[.slice A' acc.length c', .bool true]) (by simp [results, Try.results30, go_sem]) rfl F.out
      · have F := hide (intLB_none (HD.out.2 hpk) B2.out)
        have hb1 : ((S (PN.pack acc)).toList == (S l).toList) = false := by rw [S_toList, S_toList]; exact beq_eq_false_iff_ne.2 hpk
        clear HD hpk O2 B2
        go_wp2
        exact bodyPost_ret (v := .tuple #[.slice (some ⟨w2.heap.size, 0, none⟩) 0 0, .bool false]) (by simp [results, Try.results30, go_sem]) rfl F.out

end Go.Proofs.Ytlalldjlgaldeaa
