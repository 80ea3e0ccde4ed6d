/-
  The walks over package bins (the maker of bins) and over the document's answer for it.
-/
import Derived.Test.YtibojidpifgblaaRows
import Derived.Test.YtibojidpifgblaaLib
import Derived.Test.YtibojidpifgblaaBinsSpec
namespace Go.Proofs.Ytibojidpifgblaa
open Go.RowKit

theorem elt8 : Elt Try.prog 55 5 (.int .u8 0) 1 1 := ⟨Try.underlying55, by kernel_rfl, rfl, by decide⟩
theorem elt64 : Elt Try.prog 30 3 (.int .i64 0) 1 8 := ⟨Try.underlying30, by kernel_rfl, rfl, by decide⟩

/-- A maker at block b that holds xs; all of it from block B on. -/
def MakerAt (B : Nat) (w : World) (b : Nat) (xs : List Int) : Prop :=
  ∃ sv, w.heap[b]? = some (.cells #[sv] 57 (0, 0)) ∧ w.ownsRow B 5 1 sv xs.length (xs.map (Value.int .u8)) ∧ B ≤ b

theorem MakerAt.step {B b g cap : Nat} {w w1 : World} {xs : List Int} {x : Int} {sv : Value} (hb : w.heap[b]? = some (.cells #[sv] 57 (0, 0)))
    (hown : w.ownsRow B 5 1 sv xs.length (xs.map (Value.int .u8))) (hB : B ≤ b)
    (hp : Pushed w B 5 1 sv (xs.length + 1) (xs.map (Value.int .u8) ++ [.int .u8 x]) (.slice (some ⟨g, 0, none⟩) (xs.length + 1) cap) w1) :
    MakerAt B (w1.setCell ⟨b, 0, none⟩ (.slice (some ⟨g, 0, none⟩) (xs.length + 1) cap)) b (xs ++ [x]) ∧ Below B w (w1.setCell ⟨b, 0, none⟩ (.slice (some ⟨g, 0, none⟩) (xs.length + 1) cap)) ∧ w1.heap[b]? = some (.cells #[sv] 57 (0, 0)) := by
  obtain ⟨hown1, hg, -⟩ := hp
  have hne : sv.ownBlock ≠ some b := by
    intro h
    obtain ⟨cur, hc⟩ := ownsRow_block hown h
    rw [hb] at hc
    simp at hc
  have hlt := lt_of_block hb
  have hb1 : w1.heap[b]? = some (.cells #[sv] 57 (0, 0)) := (hg.block b hlt (fun e => hne e.symm)).trans hb
  refine ⟨⟨_, heap_set_same _ hb1, ?_, hB⟩, ?_, hb1⟩
  · have hne1 : (Value.slice (some ⟨g, 0, none⟩) (xs.length + 1) cap).ownBlock ≠ some b := by
      intro h
      obtain ⟨cur, hc⟩ := ownsRow_block hown1 h
      rw [hb1] at hc
      simp at hc
    exact ownsRow_cast (ownsRow_setCell_other hown1 hne1 _) (by simp) (by simp)
  · refine Below.setCell (Below.grown (Below.refl _ _) hg (by omega) ?_) hB _
    intro k hk
    exact (hown.lt k hk).1

theorem MakerAt.first {b g cap : Nat} {w w1 : World} {x : Int} (hb : w.heap[b]? = some (.cells #[.slice none 0 0] 57 (0, 0)))
    (hp : Pushed w b 5 1 (.slice none 0 0) 1 [.int .u8 x] (.slice (some ⟨g, 0, none⟩) 1 cap) w1) :
    (w1.setCell ⟨b, 0, none⟩ (.slice (some ⟨g, 0, none⟩) 1 cap)).ownsRow b 5 1 (.slice (some ⟨g, 0, none⟩) 1 cap) [x].length ([x].map (Value.int .u8)) ∧
    (w1.setCell ⟨b, 0, none⟩ (.slice (some ⟨g, 0, none⟩) 1 cap)).heap[b]? = some (.cells #[.slice (some ⟨g, 0, none⟩) 1 cap] 57 (0, 0)) ∧
    Below b w (w1.setCell ⟨b, 0, none⟩ (.slice (some ⟨g, 0, none⟩) 1 cap)) ∧ w1.heap[b]? = some (.cells #[.slice none 0 0] 57 (0, 0)) := by
  obtain ⟨hown1, hg, -⟩ := hp
  have hlt := lt_of_block hb
  have hb1 : w1.heap[b]? = some (.cells #[.slice none 0 0] 57 (0, 0)) := (hg.block b hlt (fun e => by simp [Value.ownBlock] at e)).trans hb
  have hne1 : (Value.slice (some ⟨g, 0, none⟩) 1 cap).ownBlock ≠ some b := by
    intro h
    obtain ⟨cur, hc⟩ := ownsRow_block hown1 h
    rw [hb1] at hc
    simp at hc
  have hbl : Below b w w1 := Below.grown (Below.refl _ _) hg (by omega) (fun k hk => by simp [Value.ownBlock] at hk)
  exact ⟨ownsRow_setCell_other hown1 hne1 _, heap_set_same _ hb1, hbl.setCell (p := ⟨b, 0, none⟩) (Nat.le_refl _) _, hb1⟩

set_option maxHeartbeats 400000 in
theorem maker_bypass (B b : Nat) (x : Int) (xs : List Int) (w : World) (hm : MakerAt B w b xs) (hl : xs.length < 1000000) (h0 : 0 ≤ x) (h1 : x ≤ 1) :
    Calls Try.prog 21 #[.pointer (some ⟨b, 0, none⟩), .int .i64 x] w fun e w' => e = .returned (.tuple #[]) ∧ MakerAt B w' b (xs ++ [97 + x]) ∧ Below B w w' := by
  obtain ⟨sv, hb, hown, hB⟩ := hm
  have hlt := lt_of_block hb
  have hc := cell_of_one hb
  go_enter Try.func21, Try.ntmps21
  go_wp2_with (at_builtin; refine wpList_push rfl _ _ rfl elt8 B _ _ _ _ hown rfl rfl (by simp) rfl (by omega) (by decide) (by omega) ?_)
  intro g cap w1 hp
  obtain ⟨hM, hB', hb1⟩ := MakerAt.step hb hown hB hp
  have hc1 := cell_of_one hb1
  have hf1 := free_of_one hb1
  have H1 := Lib.hid hM; have H2 := Lib.hid hB'
  clear hM hB' hp
  go_wp2
  go_end0
  exact ⟨rfl, H1.out, H2.out⟩

theorem onesL_snoc (n : Nat) : (List.replicate n (49 : Int)) ++ [49] = List.replicate (n + 1) 49 := by
  rw [List.replicate_succ']

set_option maxHeartbeats 400000 in
theorem maker_ones (B b n l : Nat) (xs : List Int) (w : World) (hm : MakerAt B w b xs) (hl : xs.length < 1000000) (hn : n ≤ 1000000) (hl2 : l ≤ 1000000) :
    Calls Try.prog 18 #[.pointer (some ⟨b, 0, none⟩), .int .i64 n, .int .i64 l] w fun e w' => e = .returned (.tuple #[]) ∧ MakerAt B w' b (xs ++ onesL n l) ∧ Below B w w' := by
  go_enter Try.func18, Try.ntmps18
  go_wp2
  go_loopw [7] (fun i wr => ∃ (k : Nat) (ys : List Int), k ≤ n ∧ i = .int .i64 k ∧ Hid (ys = xs ++ List.replicate k 49) ∧ ys.length = xs.length + k ∧ MakerAt B wr b ys ∧ Below B w wr) (fun i _ => n - (intOf i).toNat)
  case atStart => exact ⟨0, xs, Nat.zero_le _, rfl, Lib.hid (by simp), rfl, hm, Below.refl _ _⟩
  case round =>
    obtain ⟨k, ys, hk, rfl, hys, hlen, hmk, hbel⟩ := hrel
    obtain ⟨sv, hb, hown, hB⟩ := hmk
    have hc := cell_of_one hb
    have hlt := lt_of_block hb
    have hlen' : ys.length ≤ xs.length + k := by omega
    have Hlen := Lib.hid hlen
    clear hlen
    by_cases hkn : k < n
    · go_wp2_with (at_builtin; refine wpList_push rfl _ _ rfl elt8 B _ _ _ _ hown rfl rfl (by simp) rfl (by omega) (by decide) (by omega) ?_)
      intro g cap w1 hp
      obtain ⟨hM, hB', hb1⟩ := MakerAt.step hb hown hB hp
      have hc1 := cell_of_one hb1
      have hf1 := free_of_one hb1
      have H1 := Lib.hid hM; have H2 := Lib.hid hB'
      clear hM hB' hp
      go_wp2
      go_roundw
      case rel => exact ⟨k + 1, ys ++ [49], by omega, by go_num, Lib.hid (by rw [hys.out, List.append_assoc, onesL_snoc]), by have := Hlen.out; simp; omega, H1.out, hbel.trans H2.out⟩
      case measure => simp [intOf] <;> omega
    · obtain rfl : k = n := by omega
      by_cases hnl : k < l
      · go_wp2_with (at_builtin; refine wpList_push rfl _ _ rfl elt8 B _ _ _ _ hown rfl rfl (by simp) rfl (by omega) (by decide) (by omega) ?_)
        intro g cap w1 hp
        obtain ⟨hM, hB', hb1⟩ := MakerAt.step hb hown hB hp
        have hc1 := cell_of_one hb1
        have hf1 := free_of_one hb1
        have H1 := Lib.hid hM; have H2 := Lib.hid hB'
        clear hM hB' hp
        go_wp2
        go_end0
        refine ⟨rfl, ?_, hbel.trans H2.out⟩
        have := H1.out
        have e : ys ++ [48] = xs ++ onesL k l := by rw [hys.out]; simp [onesL, hnl]
        rw [e] at this
        exact this
      · go_wp2
        go_end0
        have hm2 : MakerAt B _ b ys := ⟨sv, hb, hown, hB⟩
        have e : ys = xs ++ onesL k l := by rw [hys.out]; simp [onesL, hnl]
        rw [e] at hm2
        exact ⟨rfl, hm2, hbel⟩

theorem wrap_pow (j p : Nat) (h : p = 2 ^ j) (hj : j ≤ 40) : wrap64 (2 ^ j) = (p : Int) := by
  have h1 : (2 : Int) ^ j = (p : Int) := by rw [h]; simp
  have h2 : p ≤ 2 ^ 40 := by rw [h]; exact Nat.pow_le_pow_right (by decide) hj
  rw [h1]
  exact IntWalk.wrap64_in _ ⟨by omega, by omega⟩

set_option maxHeartbeats 1000000 in
theorem maker_tail (B b x k : Nat) (xs : List Int) (w : World) (hm : MakerAt B w b xs) (hl : xs.length < 100000) (hx : x < 65536) (hk : k ≤ 4) :
    Calls Try.prog 28 #[.pointer (some ⟨b, 0, none⟩), .int .i64 x, .int .i64 k] w fun e w' => e = .returned (.tuple #[]) ∧ MakerAt B w' b (xs ++ tailL 18 x k) ∧ Below B w w' := by
  go_enter Try.func28, Try.ntmps28
  go_wp2
  go_loopw [1, 2] (fun p q wr => ∃ (f y j : Nat) (ys : List Int), p = .int .i64 y ∧ q = .int .i64 j ∧ Hid (ys ++ tailL f y j = xs ++ tailL 18 x k) ∧ Hid (y + 2 ^ j < 2 ^ (j + f)) ∧ ys.length + f ≤ xs.length + 18 ∧ j + f ≤ k + 18 ∧ y ≤ x ∧ MakerAt B wr b ys ∧ Below B w wr) (fun p _ _ => (intOf p).toNat)
  case atStart =>
    refine ⟨18, x, k, xs, rfl, rfl, Lib.hid rfl, Lib.hid ?_, by omega, by omega, by omega, hm, Below.refl _ _⟩
    have h1 : 2 ^ (k + 18) = 2 ^ k * 262144 := by rw [Nat.pow_add]
    have h2 : 1 ≤ 2 ^ k := Nat.one_le_two_pow
    rw [h1]; omega
  case round =>
    obtain ⟨f, y, j, ys, rfl, rfl, hys, had, hlen, hjf, hyx, hmk, hbel⟩ := hrel
    obtain ⟨p, hpj⟩ : ∃ p : Nat, p = 2 ^ j := ⟨_, rfl⟩
    have hw := wrap_pow j p hpj (by omega)
    have hp1 : 1 ≤ p := by rw [hpj]; exact Nat.one_le_two_pow
    have hp2 : p ≤ 4194304 := by
      have : p ≤ 2 ^ 22 := by rw [hpj]; exact Nat.pow_le_pow_right (by decide) (by omega)
      omega
    have Hp := Lib.hid hpj
    clear hpj
    have hf0 : 1 ≤ f := by
      rcases Nat.eq_zero_or_pos f with h | h
      · subst h; have := had.out; simp at this; have := Nat.one_le_two_pow (n := j); omega
      · exact h
    obtain ⟨f, rfl⟩ : ∃ f', f = f' + 1 := ⟨f - 1, by omega⟩
    by_cases hc : p ≤ y
    · go_wp2_with fail
      refine (maker_bypass B b 1 ys _ hmk (by omega) (by omega) (by omega)).mono ?_
      rintro e w1 ⟨rfl, hm1, hb1⟩
      have H1 := Lib.hid hm1; have H2 := Lib.hid hb1
      clear hm1 hb1
      go_wp2
      go_roundw
      case rel =>
        refine ⟨f, y - p, j + 1, ys ++ [98], by go_num, by go_num, Lib.hid ?_, Lib.hid ?_, by simp; omega, by omega, by omega, H1.out, hbel.trans H2.out⟩
        · rw [← hys.out, List.append_assoc]
          congr 1
          rw [tailL, if_pos (by rw [← Hp.out]; exact hc), ← Hp.out]
          rfl
        · have h1 := had.out
          rw [show j + 1 + f = j + (f + 1) from by omega, Nat.pow_succ 2 j]
          rw [← Hp.out] at h1 ⊢
          omega
      case measure => simp [intOf] <;> omega
    · have htail : tailL (f + 1) y j = 97 :: lowL y j := by rw [tailL, if_neg (by rw [← Hp.out]; exact hc)]
      have Ht := Lib.hid htail
      clear htail
      go_wp2_with fail
      refine (maker_bypass B b 0 ys _ hmk (by omega) (by omega) (by omega)).mono ?_
      rintro e w1 ⟨rfl, hm1, hb1⟩
      have H2 := Lib.hid hb1
      clear hb1
      go_wp2
      obtain ⟨wo, hwo⟩ : ∃ wo : World, wo = wr := ⟨_, rfl⟩
      subst hwo
      go_loopw [2] (fun q wr => ∃ (i : Nat) (zs : List Int), q = .int .i64 ((i : Int) - 1) ∧ i ≤ j ∧ Hid (zs ++ lowL y i = xs ++ tailL 18 x k) ∧ zs.length + i ≤ ys.length + 1 + j ∧ MakerAt B wr b zs ∧ Below B wo wr) (fun q _ => (intOf q + 1).toNat)
      case atStart => exact ⟨j, ys ++ [97], by go_num, Nat.le_refl _, Lib.hid (by rw [← hys.out, Ht.out]; simp), by simp, hm1, H2.out⟩
      case round =>
        obtain ⟨i, zs, rfl, hij, hzs, hlz, hmk2, hbel2⟩ := hrel
        by_cases hi : 1 ≤ i
        · obtain ⟨i, rfl⟩ : ∃ i', i = i' + 1 := ⟨i - 1, by omega⟩
          have hbit : (0 : Int) ≤ (y : Int) / 2 ^ i % 2 ∧ (y : Int) / 2 ^ i % 2 ≤ 1 := by omega
          have hcast : (y : Int) / 2 ^ i % 2 = ((y / 2 ^ i % 2 : Nat) : Int) := by simp
          have Hc := Lib.hid hcast
          clear hcast
          go_wp2_with fail
          refine (maker_bypass B b _ zs _ hmk2 (by omega) hbit.1 hbit.2).mono ?_
          rintro e w2 ⟨rfl, hm2, hb2⟩
          have H3 := Lib.hid hb2
          clear hb2
          go_wp2
          go_roundw
          case rel =>
            refine ⟨i, _, by go_num, by omega, Lib.hid ?_, ?_, hm2, hbel2.trans H3.out⟩
            · rw [← hzs.out, List.append_assoc, Hc.out]; rfl
            · simp only [List.length_append, List.length_singleton]; omega
          case measure => simp [intOf] <;> omega
        · obtain rfl : i = 0 := by omega
          go_wp2
          go_end0
          have e : zs = xs ++ tailL 18 x k := by rw [← hzs.out]; simp [lowL]
          rw [e] at hmk2
          exact ⟨rfl, hmk2, hbel.trans hbel2⟩

theorem maker_tail_i (B b : Nat) (x k : Int) (xs : List Int) (w : World) (hm : MakerAt B w b xs) (hl : xs.length < 100000) (h0 : 0 ≤ x) (hx : x < 65536) (hk0 : 0 ≤ k) (hk : k ≤ 4) :
    Calls Try.prog 28 #[.pointer (some ⟨b, 0, none⟩), .int .i64 x, .int .i64 k] w fun e w' => e = .returned (.tuple #[]) ∧ MakerAt B w' b (xs ++ tailL 18 x.toNat k.toNat) ∧ Below B w w' := by
  obtain ⟨x, rfl⟩ := Int.eq_ofNat_of_zero_le h0
  obtain ⟨k, rfl⟩ := Int.eq_ofNat_of_zero_le hk0
  exact maker_tail B b x k xs w hm hl (by omega) (by omega)
theorem maker_ones_i (B b : Nat) (n l : Int) (xs : List Int) (w : World) (hm : MakerAt B w b xs) (hl : xs.length < 1000000) (hn0 : 0 ≤ n) (hn : n ≤ 1000000) (hl0 : 0 ≤ l) (hl2 : l ≤ 1000000) :
    Calls Try.prog 18 #[.pointer (some ⟨b, 0, none⟩), .int .i64 n, .int .i64 l] w fun e w' => e = .returned (.tuple #[]) ∧ MakerAt B w' b (xs ++ onesL n.toNat l.toNat) ∧ Below B w w' := by
  obtain ⟨n, rfl⟩ := Int.eq_ofNat_of_zero_le hn0
  obtain ⟨l, rfl⟩ := Int.eq_ofNat_of_zero_le hl0
  exact maker_ones B b n l xs w hm hl (by omega) (by omega)

set_option maxHeartbeats 400000 in
theorem maker_great (B b : Nat) (v own k : Int) (xs : List Int) (w : World) (hm : MakerAt B w b xs) (hl : xs.length < 1000) (hv0 : 0 ≤ v) (hx : v < 65536) (ho0 : 0 ≤ own) (ho : own ≤ 100) (hk0 : 0 ≤ k) (hk : k ≤ 4) :
    Calls Try.prog 19 #[.pointer (some ⟨b, 0, none⟩), .int .i64 v, .int .i64 own, .int .i64 k] w fun e w' => e = .returned (.tuple #[]) ∧ MakerAt B w' b (xs ++ greatL v.toNat own.toNat k.toNat) ∧ Below B w w' := by
  by_cases h : own ≤ v
  · have e1 : xs ++ onesL own.toNat own.toNat ++ tailL 18 (v - own).toNat k.toNat = xs ++ greatL v.toNat own.toNat k.toNat := by
      unfold greatL; rw [if_pos (by omega), Nat.min_eq_right (by omega), List.append_assoc, show (v - own).toNat = v.toNat - own.toNat by omega]
    have H := Lib.hid e1
    clear e1
    rcases Int.lt_or_eq_of_le h with h' | h'
    · go_enter Try.func19, Try.ntmps19
      go_wp2_with fail
      refine (maker_ones_i B b own own xs _ hm (by omega) (by omega) (by omega) (by omega) (by omega)).mono ?_
      rintro e w1 ⟨rfl, hm1, hb1⟩
      have Hb := Lib.hid hb1
      clear hb1
      go_wp2_with fail
      refine (maker_tail_i B b (v - own) k _ _ hm1 (by simp [onesL]; omega) (by omega) (by omega) hk0 hk).mono ?_
      rintro e w2 ⟨rfl, hm2, hb2⟩
      have Hb2 := Lib.hid hb2
      clear hb2
      go_wp2
      go_end0
      rw [H.out] at hm2
      exact ⟨rfl, hm2, Hb.out.trans Hb2.out⟩
    · subst h'
      go_enter Try.func19, Try.ntmps19
      go_wp2_with fail
      refine (maker_ones_i B b own own xs _ hm (by omega) (by omega) (by omega) (by omega) (by omega)).mono ?_
      rintro e w1 ⟨rfl, hm1, hb1⟩
      have Hb := Lib.hid hb1
      clear hb1
      go_wp2_with fail
      refine (maker_tail_i B b 0 k _ _ hm1 (by simp [onesL]; omega) (by omega) (by omega) hk0 hk).mono ?_
      rintro e w2 ⟨rfl, hm2, hb2⟩
      have Hb2 := Lib.hid hb2
      clear hb2
      go_wp2
      go_end0
      have e2 := H.out
      rw [show (own - own).toNat = Int.toNat 0 by simp] at e2
      rw [e2] at hm2
      exact ⟨rfl, hm2, Hb.out.trans Hb2.out⟩
  · have e1 : xs ++ onesL v.toNat own.toNat = xs ++ greatL v.toNat own.toNat k.toNat := by
      unfold greatL; rw [if_neg (by omega), Nat.min_eq_left (by omega)]; simp
    have H := Lib.hid e1
    clear e1
    go_enter Try.func19, Try.ntmps19
    go_wp2_with fail
    refine (maker_ones_i B b v own xs _ hm (by omega) (by omega) (by omega) (by omega) (by omega)).mono ?_
    rintro e w1 ⟨rfl, hm1, hb1⟩
    have Hb := Lib.hid hb1
    clear hb1
    go_wp2_with fail
    go_end0
    rw [H.out] at hm1
    exact ⟨rfl, hm1, Hb.out⟩
end Go.Proofs.Ytibojidpifgblaa
