/-
  The walks over bins.Get's taker: ones, a great number.
-/
import Derived.Test.YtgmnkihldlajcaaGreatDoorGetA
namespace Go.Proofs.YtgmnkihldlajcaaGreatDoor
open Go.RowKit

set_option maxRecDepth 100000 in
set_option maxHeartbeats 1600000 in
theorem take_ones {w0 wM w : World} {b tb sb tk : Nat} {sv : Value} {el inc : Int} {k0 k1 k2 k3 : Value} {d d' : Dec} (v l : Nat) (rest : List Int) (h : TakeAt w0 wM w b tb sb tk sv 0 el inc k0 k1 k2 k3 d) (hvl : v ≤ l) (hl : l ≤ 100) (hg : d.gives (deedsL el inc 0 (onesL v l ++ rest)) d') (hs : d.s.size ≤ 140737488355328)
    (e0 : 0 ≤ el) (e1 : el ≤ 19) (i0 : 0 ≤ inc) (i1 : inc ≤ 7) :
    Calls Tryz.prog 89 #[.pointer (some ⟨tk, 0, none⟩), .int .i64 l] w fun r w' => r = .returned (.int .i64 v) ∧ ∃ sv' n' d1, TakeAt w0 wM w' b tb sb tk sv' n' el inc k0 k1 k2 k3 d1 ∧ d1.gives (deedsL el inc n' rest) d' ∧ d1.s = d.s := by
  have H := Lib.hid h
  have Hg := Lib.hid hg
  have hctx : ∀ n, 0 ≤ ctxAt el inc n := fun n => (ctxAt_range el inc n e0 e1 i0).1
  have Hctx := Lib.hid hctx
  clear h hg hctx
  go_enter Tryz.func89, Tryz.ntmps89
  go_wp2
  go_loopw [5] (fun i wr => ∃ (k : Nat) (sv1 : Value) (d1 : Dec), k ≤ v ∧ i = .int .i64 k ∧ TakeAt w0 wM wr b tb sb tk sv1 k el inc k0 k1 k2 k3 d1 ∧ Hid (d1.gives (deedsL el inc k (onesL (v - k) (l - k) ++ rest)) d') ∧ Hid (d1.s = d.s)) (fun i _ => v - (intOf i).toNat)
  case atStart => exact ⟨0, sv, d, Nat.zero_le _, rfl, H.out, Hg, Lib.hid rfl⟩
  case round =>
    obtain ⟨k, sv1, d1, hk, rfl, h1, hgv, hds⟩ := hrel
    have H1 := Lib.hid h1
    have hs1 : Hid (d1.s.size ≤ 140737488355328) := Lib.hid (by rw [hds.out]; exact hs)
    clear h1
    by_cases hlt : k < v
    · have hgv2 := hgv.out
      rw [show v - k = (v - (k + 1)) + 1 by omega, show l - k = (l - (k + 1)) + 1 by omega, onesL_succ, List.cons_append] at hgv2
      obtain ⟨d2, q1, q2, q3⟩ := gives_one (Hctx.out k) hgv2
      have Q1 := Lib.hid q1
      have Q2 : Hid (d2.s = d.s) := Lib.hid (q2.trans hds.out)
      have Q3 := Lib.hid q3
      clear hgv2 q1 q2 q3
      have hkl : k < l := by omega
      go_wp2_with fail
      refine (take_bin H1.out Q1.out hs1.out e0 e1 i0 i1 (by omega)).mono ?_
      rintro r w2 ⟨rfl, sv2, g1⟩
      have G1 := Lib.hid g1
      clear g1
      go_wp2
      go_roundw
      case rel => exact ⟨k + 1, sv2, d2, by omega, by go_num, G1.out, Q3, Q2⟩
      case measure => simp [intOf] <;> omega
    · obtain rfl : k = v := by omega
      by_cases hkl : k < l
      · have hgv2 := hgv.out
        have ho : onesL (k - k) (l - k) = [48] := by unfold onesL; rw [if_pos (by omega)]; simp
        rw [ho, List.singleton_append] at hgv2
        obtain ⟨d2, q1, q2, q3⟩ := gives_nought (Hctx.out k) hgv2
        have Q1 := Lib.hid q1
        have Q2 : Hid (d2.s = d.s) := Lib.hid (q2.trans hds.out)
        have Q3 := Lib.hid q3
        clear hgv2 q1 q2 q3 ho
        go_wp2_with fail
        refine (take_bin H1.out Q1.out hs1.out e0 e1 i0 i1 (by omega)).mono ?_
        rintro r w2 ⟨rfl, sv2, g1⟩
        have G1 := Lib.hid g1
        clear g1
        go_wp2
        go_ret
        exact ⟨rfl, sv2, k + 1, d2, G1.out, Q3.out, Q2.out⟩
      · have hgv2 := hgv.out
        have ho : onesL (k - k) (l - k) = [] := by unfold onesL; rw [if_neg (by omega)]; simp
        rw [ho, List.nil_append] at hgv2
        have Q3 := Lib.hid hgv2
        clear hgv2 ho
        go_wp2
        go_ret
        exact ⟨rfl, sv1, k, d1, H1.out, Q3.out, hds.out⟩

set_option maxRecDepth 100000 in
set_option maxHeartbeats 3200000 in
theorem take_great {w0 wM w : World} {b tb sb tk : Nat} {sv : Value} {el inc : Int} {k0 k1 k2 k3 : Value} {d d' : Dec} (v own j0 most : Nat) (rest : List Int) (h : TakeAt w0 wM w b tb sb tk sv 0 el inc k0 k1 k2 k3 d) (hvl : v ≤ most) (hm : most ≤ 65535) (ho : own ≤ 20) (_hj0 : j0 ≤ 4) (hjo : 2 ^ j0 ≤ own)
    (hg : d.gives (deedsL el inc 0 (greatL v own j0 ++ rest)) d') (hs : d.s.size ≤ 140737488355328) (e0 : 0 ≤ el) (e1 : el ≤ 19) (i0 : 0 ≤ inc) (i1 : inc ≤ 7) :
    Calls Tryz.prog 90 #[.pointer (some ⟨tk, 0, none⟩), .int .i64 own, .int .i64 j0, .int .i64 most] w fun r w' => r = .returned (.int .i64 v) ∧ ∃ sv' n' d1, TakeAt w0 wM w' b tb sb tk sv' n' el inc k0 k1 k2 k3 d1 ∧ d1.gives (deedsL el inc n' rest) d' ∧ d1.s = d.s := by
  have H := Lib.hid h
  have Hs := Lib.hid hs
  have Hjo := Lib.hid hjo
  have hg1 := hg
  unfold greatL at hg1
  rw [List.append_assoc] at hg1
  have Hg := Lib.hid hg1
  clear h hg hg1 hs hjo
  go_enter Tryz.func90, Tryz.ntmps90
  go_wp2_with fail
  refine (take_ones (min v own) own _ H.out (by omega) (by omega) Hg.out Hs.out e0 e1 i0 i1).mono ?_
  rintro r w1 ⟨rfl, sv1, n1, d1, g1, g2, g3⟩
  have G1 := Lib.hid g1
  have G3 := Lib.hid g3
  by_cases hov : own ≤ v
  · rw [if_pos hov] at g2
    have G2 := Lib.hid g2
    have hmin : ((min v own : Nat) : Int) = (own : Int) := by omega
    rw [hmin]
    clear g1 g2 g3 hmin
    go_wp2
    go_loopw [2, 9] (fun p q wr => ∃ (f i y x : Nat) (d2 : Dec), p = .int .i64 i ∧ q = .int .i64 y ∧ y + x = v ∧ Hid (2 ^ i ≤ y) ∧ Hid (x + 2 ^ i < 2 ^ (i + f)) ∧ TakeAt w0 wM wr b tb sb tk sv1 n1 el inc k0 k1 k2 k3 d2 ∧ Hid (d2.gives (deedsL el inc n1 (tailL f x i ++ rest)) d') ∧ Hid (d2.s = d.s)) (fun p _ _ => 40 - (intOf p).toNat)
    case atStart =>
      refine ⟨18, j0, own, v - own, d1, rfl, rfl, by omega, Hjo, Lib.hid ?_, G1.out, G2, G3⟩
      have h1 : 2 ^ (j0 + 18) = 2 ^ j0 * 262144 := by rw [Nat.pow_add]
      have h2 : 1 ≤ 2 ^ j0 := Nat.one_le_two_pow
      rw [h1]; omega
    case round =>
      obtain ⟨f, i, y, x, d2, rfl, rfl, hyx, hiy, hfu, h2, hgv, hds⟩ := hrel
      have H2 := Lib.hid h2
      have hs2 : Hid (d2.s.size ≤ 140737488355328) := Lib.hid (by rw [hds.out]; exact Hs.out)
      obtain ⟨p, hpi⟩ : ∃ p : Nat, p = 2 ^ i := ⟨_, rfl⟩
      have hpy : p ≤ y := by rw [hpi]; exact hiy.out
      have hp1 : 1 ≤ p := by rw [hpi]; exact Nat.one_le_two_pow
      have hi15 : i ≤ 15 := by
        rcases Nat.lt_or_ge 15 i with h | h
        · have : 2 ^ 16 ≤ 2 ^ i := Nat.pow_le_pow_right (by decide) h
          omega
        · exact h
      have Hw := Lib.hid (wrap_pow i p hpi (by omega))
      have Hp := Lib.hid hpi
      have hf0 : 1 ≤ f := by
        rcases Nat.eq_zero_or_pos f with h | h
        · subst h; have := hfu.out; simp at this; have := Nat.one_le_two_pow (n := i); omega
        · exact h
      obtain ⟨f, rfl⟩ : ∃ f', f = f' + 1 := ⟨f - 1, by omega⟩
      clear h2 hpi
      by_cases hc : p ≤ x
      · have hgv2 := hgv.out
        rw [tailL, if_pos (by rw [← Hp.out]; exact hc), List.cons_append] at hgv2
        obtain ⟨d3, q1, q2, q3⟩ := gives_by (by omega) hgv2
        have Q1 := Lib.hid (show d2.bypass = (1, 0, d3) from q1)
        have Q2 : Hid (d3.s = d.s) := Lib.hid (q2.trans hds.out)
        have Q3 := Lib.hid q3
        have hi14 : i ≤ 14 := by
          rcases Nat.lt_or_ge 14 i with h | h
          · have : 2 ^ 15 ≤ 2 ^ i := Nat.pow_le_pow_right (by decide) h
            have := Hp.out
            omega
          · exact h
        have hyp : y + p ≤ 65535 := by omega
        clear hgv2 q1 q2 q3
        go_wp2_with fail
        refine (take_by H2.out Q1.out hs2.out).mono ?_
        rintro r w2 ⟨rfl, g1⟩
        have K1 := Lib.hid g1
        clear g1
        go_wp2
        have hsum : wrap64 ((y : Int) + wrap64 (2 ^ i)) = ((y + p : Nat) : Int) := by rw [Hw.out, IntWalk.wrap64_in _ ⟨by omega, by omega⟩]; simp
        have Hsum := Lib.hid hsum
        clear hsum
        go_roundw
        case rel =>
          refine ⟨f, i + 1, y + p, x - p, d3, by go_num, by rw [Hsum.out], by omega, Lib.hid ?_, Lib.hid ?_, K1.out, by rw [Hp.out]; exact Q3, Q2⟩
          · rw [Nat.pow_succ, ← Hp.out]; omega
          · have h1 := hfu.out
            rw [show i + 1 + f = i + (f + 1) from by omega, Nat.pow_succ 2 i]
            rw [← Hp.out] at h1 ⊢
            omega
        case measure =>
          simp [intOf] <;> omega
      · have hgv2 := hgv.out
        rw [tailL, if_neg (by rw [← Hp.out]; exact hc), List.cons_append] at hgv2
        obtain ⟨d3, q1, q2, q3⟩ := gives_by (by omega) hgv2
        have Q1 := Lib.hid (show d2.bypass = (0, 0, d3) from q1)
        have Q2 : Hid (d3.s = d.s) := Lib.hid (q2.trans hds.out)
        have Q3 := Lib.hid q3
        have hxm : Hid (x % 2 ^ i = x) := Lib.hid (Nat.mod_eq_of_lt (by rw [← Hp.out]; omega))
        clear hgv2 q1 q2 q3
        go_wp2_with fail
        refine (take_by H2.out Q1.out hs2.out).mono ?_
        rintro r w2 ⟨rfl, g1⟩
        have K1 := Lib.hid g1
        clear g1
        go_wp2
        obtain ⟨wo, hwo⟩ : ∃ wo : World, wo = wr := ⟨_, rfl⟩
        subst hwo
        go_loopw [2, 9] (fun p q wr => ∃ (j z : Nat) (d4 : Dec), p = .int .i64 ((j : Int) - 1) ∧ q = .int .i64 z ∧ j ≤ i ∧ Hid (z + x % 2 ^ j = v) ∧ TakeAt w0 wM wr b tb sb tk sv1 n1 el inc k0 k1 k2 k3 d4 ∧ Hid (d4.gives (deedsL el inc n1 (lowL x j ++ rest)) d') ∧ Hid (d4.s = d.s)) (fun p _ _ => (intOf p + 1).toNat)
        case atStart => exact ⟨i, y, d3, by go_num, rfl, Nat.le_refl _, Lib.hid (by rw [hxm.out]; exact hyx), K1.out, Q3, Q2⟩
        case round =>
          obtain ⟨j, z, d4, rfl, rfl, hji, hzv, h4, hgv4, hds4⟩ := hrel
          have H4 := Lib.hid h4
          have hs4 : Hid (d4.s.size ≤ 140737488355328) := Lib.hid (by rw [hds4.out]; exact Hs.out)
          clear h4
          by_cases hj : 1 ≤ j
          · obtain ⟨j, rfl⟩ : ∃ i', j = i' + 1 := ⟨j - 1, by omega⟩
            have hgv5 := hgv4.out
            rw [lowL, List.cons_append] at hgv5
            obtain ⟨d5, q1, q2, q3⟩ := gives_by (by omega) hgv5
            obtain ⟨bt, hbt⟩ : ∃ bt : Nat, bt = x / 2 ^ j % 2 := ⟨_, rfl⟩
            have hbt1 : bt = 0 ∨ bt = 1 := by omega
            have Q1 : Hid (d4.bypass = ((bt : Int), 0, d5)) := Lib.hid (by rw [q1, hbt]; simp only [Prod.mk.injEq, and_true]; omega)
            have Q2 : Hid (d5.s = d.s) := Lib.hid (q2.trans hds4.out)
            have Q3 := Lib.hid q3
            obtain ⟨p2, hp2⟩ : ∃ p2 : Nat, p2 = 2 ^ j := ⟨_, rfl⟩
            have hlow : Hid (z + bt * p2 + x % 2 ^ j = v) := Lib.hid (by have h := hzv.out; rw [low_split, ← hbt, ← hp2] at h; rw [hp2] at h ⊢; omega)
            have hzb : z + bt * p2 ≤ v := by have := hlow.out; omega
            have hp2b : p2 ≤ 32768 := by
              have : p2 ≤ 2 ^ 15 := by rw [hp2]; exact Nat.pow_le_pow_right (by decide) (by omega)
              omega
            have hsh : wrap64 ((bt : Int) * 2 ^ j) = ((bt * p2 : Nat) : Int) := by
              have h1 : (bt : Int) * 2 ^ j = ((bt * p2 : Nat) : Int) := by rw [hp2]; simp
              rw [h1]
              refine IntWalk.wrap64_in _ ⟨by omega, ?_⟩
              rcases hbt1 with h | h <;> rw [h] <;> omega
            obtain ⟨m, hmm⟩ : ∃ m : Nat, m = bt * p2 := ⟨_, rfl⟩
            rw [← hmm] at hlow hzb hsh
            have Hsh := Lib.hid hsh
            clear hsh
            have hzm : z + m ≤ 65535 := by omega
            clear hgv5 q1 q2 q3 hbt hp2 hmm hbt1
            go_wp2_with fail
            refine (take_by H4.out Q1.out hs4.out).mono ?_
            rintro r w3 ⟨rfl, g1⟩
            have K3 := Lib.hid g1
            clear g1
            go_wp2
            have hsum : wrap64 ((z : Int) + wrap64 ((bt : Int) * 2 ^ j)) = ((z + m : Nat) : Int) := by rw [Hsh.out, IntWalk.wrap64_in _ ⟨by omega, by omega⟩]; simp
            have Hsum := Lib.hid hsum
            clear hsum
            go_roundw
            case rel => exact ⟨j, z + m, d5, by go_num, by rw [Hsum.out], by omega, hlow, K3.out, Q3, Q2⟩
            case measure => simp [intOf] <;> omega
          · obtain rfl : j = 0 := by omega
            have hz : z = v := by have := hzv.out; simp [Nat.mod_one] at this; exact this
            subst hz
            have Q3 : Hid (d4.gives (deedsL el inc n1 rest) d') := Lib.hid (by have := hgv4.out; rw [lowL, List.nil_append] at this; exact this)
            go_wp2
            go_ret
            exact ⟨rfl, sv1, n1, d4, H4.out, Q3.out, hds4.out⟩
  · rw [if_neg hov] at g2
    have G2 := Lib.hid g2
    have hmin : ((min v own : Nat) : Int) = (v : Int) := by omega
    rw [hmin]
    clear g1 g2 g3 hmin
    go_wp2
    go_ret
    exact ⟨rfl, sv1, n1, d1, G1.out, by have := G2.out; rwa [List.nil_append] at this, G3.out⟩
end Go.Proofs.YtgmnkihldlajcaaGreatDoor
