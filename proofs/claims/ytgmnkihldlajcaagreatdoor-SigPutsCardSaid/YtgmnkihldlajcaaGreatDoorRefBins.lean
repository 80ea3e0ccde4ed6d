/-
  The walks over the document's answer for elements' bins (package zoetroperef5: kind, may, ones, tail, Bits).
-/
import Derived.Test.YtgmnkihldlajcaaGreatDoorBinsA
import Derived.Test.YtgmnkihldlajcaaGreatDoorLib
namespace Go.Proofs.YtgmnkihldlajcaaGreatDoor
open Go.RowKit

set_option maxRecDepth 100000 in
set_option maxHeartbeats 1600000 in
theorem ref_kind (el : Int) (w : World) :
    Calls Tryz.prog 61 #[.int .i64 el] w fun e w' => e = .returned (.int .i64 (kindOf el)) ∧ w = w' := by
  by_cases h : 0 ≤ el ∧ el < 20
  · rcases (show el = 0 ∨ el = 1 ∨ el = 2 ∨ el = 3 ∨ el = 4 ∨ el = 5 ∨ el = 6 ∨ el = 7 ∨ el = 8 ∨ el = 9 ∨ el = 10 ∨ el = 11 ∨ el = 12 ∨ el = 13 ∨ el = 14 ∨ el = 15 ∨ el = 16 ∨ el = 17 ∨ el = 18 ∨ el = 19 by omega) with rfl | rfl | rfl | rfl | rfl | rfl | rfl | rfl | rfl | rfl | rfl | rfl | rfl | rfl | rfl | rfl | rfl | rfl | rfl | rfl
    all_goals
      go_enter Tryz.func61, Tryz.ntmps61
      go_wp2
      go_ret
      exact ⟨rfl, rfl⟩
  · have he : kindOf el = 0 := by
      unfold kindOf
      split
      · rfl
      · rename_i h
        have : kindTab[el.toNat]? = Option.none := List.getElem?_eq_none (by simp [kindTab]; omega)
        simp [List.getD, this]
    have hn : ∀ c : Int, 0 ≤ c → c < 20 → (el == c) = false := fun c h0 h1 => by simp; omega
    have n0 := hn 0 (by decide) (by decide); have n1 := hn 1 (by decide) (by decide); have n2 := hn 2 (by decide) (by decide); have n3 := hn 3 (by decide) (by decide)
    have n4 := hn 4 (by decide) (by decide); have n5 := hn 5 (by decide) (by decide); have n6 := hn 6 (by decide) (by decide); have n7 := hn 7 (by decide) (by decide)
    have n8 := hn 8 (by decide) (by decide); have n9 := hn 9 (by decide) (by decide); have n10 := hn 10 (by decide) (by decide); have n11 := hn 11 (by decide) (by decide)
    have n12 := hn 12 (by decide) (by decide); have n13 := hn 13 (by decide) (by decide); have n14 := hn 14 (by decide) (by decide); have n15 := hn 15 (by decide) (by decide)
    have n16 := hn 16 (by decide) (by decide); have n17 := hn 17 (by decide) (by decide); have n18 := hn 18 (by decide) (by decide); have n19 := hn 19 (by decide) (by decide)
    have He := Lib.hid he
    clear he hn
    go_enter Tryz.func61, Tryz.ntmps61
    go_wp2
    go_ret
    exact ⟨ret_int He.out.symm, rfl⟩

set_option maxRecDepth 100000 in
set_option maxHeartbeats 800000 in
theorem ref_may (el v m : Int) (w : World) :
    Calls Tryz.prog 60 #[.int .i64 el, .int .i64 v, .int .i64 m] w fun e w' => e = .returned (.bool (mayOf (kindOf el) v m)) ∧ w = w' := by
  have hk := kindOf_range el
  have hkind := ref_kind el w
  generalize hkk : kindOf el = k at *
  clear hkk
  have Hkind := Lib.hid hkind
  clear hkind
  rcases (show k = 0 ∨ k = 1 ∨ k = 2 ∨ k = 3 ∨ k = 4 by omega) with rfl | rfl | rfl | rfl | rfl
  all_goals
    clear hk
    go_enter Tryz.func60, Tryz.ntmps60
    go_wp2_with fail
    refine Hkind.out.mono ?_
    rintro e w1 ⟨rfl, rfl⟩
    go_wp2
  all_goals
    go_ret
    refine ⟨ret_bool ?_, rfl⟩
    rw [Bool.eq_iff_iff]
    simp [mayOf]
    try omega

/-- A slice of bytes that the call itself has made. -/
def OwnsBytes (B : Nat) (w : World) (sv : Value) (xs : List Int) : Prop := w.ownsRow B 5 1 sv xs.length (xs.map (Value.int .u8))
set_option maxRecDepth 100000 in
theorem OwnsBytes.push {B g cap : Nat} {w w1 : World} {sv : Value} {xs : List Int} {x : Int} (hB : B ≤ w.heap.size) (hown : OwnsBytes B w sv xs)
    (hp : Pushed w B 5 1 sv (xs.length + 1) (xs.map (Value.int .u8) ++ [.int .u8 x]) (.slice (some ⟨g, 0, none⟩) (xs.length + 1) cap) w1) :
    OwnsBytes B w1 (.slice (some ⟨g, 0, none⟩) (xs.length + 1) cap) (xs ++ [x]) ∧ Below B w w1 :=
  ⟨ownsRow_cast hp.1 (by simp) (by simp), Below.grown (Below.refl _ _) hp.2.1 hB (fun k hk => (hown.lt k hk).1)⟩

set_option maxRecDepth 100000 in
set_option maxHeartbeats 800000 in
theorem ref_ones (v most : Int) (w : World) (h0 : 0 ≤ v) (h1 : v ≤ 1000000) (h2 : 0 ≤ most) (h3 : most ≤ 1000000) :
    Calls Tryz.prog 62 #[.int .i64 v, .int .i64 most] w fun e w' => ∃ sv, e = .returned sv ∧ OwnsBytes w.heap.size w' sv (onesL (min v.toNat most.toNat) most.toNat) ∧ Below w.heap.size w w' := by
  obtain ⟨n, rfl⟩ := Int.eq_ofNat_of_zero_le h0
  obtain ⟨l, rfl⟩ := Int.eq_ofNat_of_zero_le h2
  obtain ⟨m, hm⟩ : ∃ m, m = min n l := ⟨_, rfl⟩
  have hm1 : m ≤ n := by omega
  have hm2 : m ≤ l := by omega
  have hm3 : m = n ∨ m = l := by omega
  have e1 : onesL (min (n : Int).toNat (l : Int).toNat) (l : Int).toNat = onesL m l := by rw [hm]; rfl
  rw [e1]
  clear e1 hm h0 h2
  go_enter Tryz.func62, Tryz.ntmps62
  go_wp2
  go_loopw [5, 6] (fun o i wr => ∃ (k : Nat) (ys : List Int), k ≤ m ∧ i = .int .i64 k ∧ Hid (ys = List.replicate k 49) ∧ ys.length ≤ k ∧ OwnsBytes w.heap.size wr o ys ∧ Below w.heap.size w wr) (fun _ i _ => m - (intOf i).toNat)
  case atStart => exact ⟨0, [], Nat.zero_le _, rfl, Lib.hid rfl, by simp, World.ownsRow_nil _ _ _ _, Below.refl _ _⟩
  case round =>
    obtain ⟨k, ys, hk, rfl, hys, hlen, hown, hbel⟩ := hrel
    have hsz := hbel.size
    by_cases hkm : k < m
    · go_wp2_with (at_builtin; refine wpList_push rfl _ _ rfl elt8 w.heap.size _ _ _ _ hown rfl rfl (by simp) rfl (by omega) (by decide) (by omega) ?_)
      intro g cap w1 hp
      obtain ⟨ho, hb⟩ := hown.push hsz hp
      have H1 := Lib.hid ho; have H2 := Lib.hid hb
      clear ho hb hp
      go_wp2
      go_roundw
      case rel => exact ⟨k + 1, ys ++ [49], by omega, by go_num, Lib.hid (by rw [hys.out, onesL_snoc]), by simp; omega, H1.out, hbel.trans H2.out⟩
      case measure => simp [intOf] <;> omega
    · obtain rfl : k = m := by omega
      by_cases hnl : k < n
      · have hkl : ¬ k < l := by omega
        have e : ys = onesL k l := by rw [hys.out]; simp [onesL, hkl]
        rw [e] at hown
        have H := Lib.hid hown
        clear hown e
        by_cases hnl2 : n < l
        · omega
        · go_wp2
          go_ret
          exact ⟨_, rfl, H.out, hbel⟩
      · obtain rfl : k = n := by omega
        by_cases hkl : k < l
        · go_wp2_with (at_builtin; refine wpList_push rfl _ _ rfl elt8 w.heap.size _ _ _ _ hown rfl rfl (by simp) rfl (by omega) (by decide) (by omega) ?_)
          intro g cap w1 hp
          obtain ⟨ho, hb⟩ := hown.push hsz hp
          have e : ys ++ [48] = onesL k l := by rw [hys.out]; simp [onesL, hkl]
          rw [e] at ho
          have H1 := Lib.hid ho; have H2 := Lib.hid hb
          clear ho hb hp e
          go_wp2
          go_ret
          exact ⟨_, rfl, H1.out, hbel.trans H2.out⟩
        · have e : ys = onesL k l := by rw [hys.out]; simp [onesL, hkl]
          rw [e] at hown
          have H := Lib.hid hown
          clear hown e
          go_wp2
          go_ret
          exact ⟨_, rfl, H.out, hbel⟩

set_option maxRecDepth 100000 in
set_option maxHeartbeats 1600000 in
theorem ref_tail (x k : Int) (w : World) (h0 : 0 ≤ x) (hx : x < 65536) (hk0 : 0 ≤ k) (hk : k ≤ 4) :
    Calls Tryz.prog 63 #[.int .i64 x, .int .i64 k] w fun e w' => ∃ sv, e = .returned sv ∧ OwnsBytes w.heap.size w' sv (tailL 18 x.toNat k.toNat) ∧ Below w.heap.size w w' := by
  obtain ⟨x, rfl⟩ := Int.eq_ofNat_of_zero_le h0
  obtain ⟨k, rfl⟩ := Int.eq_ofNat_of_zero_le hk0
  rw [Int.toNat_natCast, Int.toNat_natCast]
  clear h0 hk0
  go_enter Tryz.func63, Tryz.ntmps63
  go_wp2
  go_loopw [0, 1, 5] (fun p q o wr => ∃ (f y j : Nat) (ys : List Int), p = .int .i64 y ∧ q = .int .i64 j ∧ Hid (ys ++ tailL f y j = tailL 18 x k) ∧ Hid (y + 2 ^ j < 2 ^ (j + f)) ∧ ys.length + f ≤ 18 ∧ j + f ≤ k + 18 ∧ y ≤ x ∧ OwnsBytes w.heap.size wr o ys ∧ Below w.heap.size w wr) (fun p _ _ _ => (intOf p).toNat)
  case atStart =>
    refine ⟨18, x, k, [], rfl, rfl, Lib.hid rfl, Lib.hid ?_, by simp, by omega, by omega, World.ownsRow_nil _ _ _ _, Below.refl _ _⟩
    have h1 : 2 ^ (k + 18) = 2 ^ k * 262144 := by rw [Nat.pow_add]
    have h2 : 1 ≤ 2 ^ k := Nat.one_le_two_pow
    rw [h1]; omega
  case round =>
    obtain ⟨f, y, j, ys, rfl, rfl, hys, had, hlen, hjf, hyx, hown, hbel⟩ := hrel
    have hsz := hbel.size
    obtain ⟨p, hpj⟩ : ∃ p : Nat, p = 2 ^ j := ⟨_, rfl⟩
    have hw := wrap_pow j p hpj (by omega)
    have hp1 : 1 ≤ p := by rw [hpj]; exact Nat.one_le_two_pow
    have hp2 : p ≤ 4194304 := by
      have : p ≤ 2 ^ 22 := by rw [hpj]; exact Nat.pow_le_pow_right (by decide) (by omega)
      omega
    have Hp := Lib.hid hpj
    clear hpj
    have hf0 : 1 ≤ f := by
      rcases Nat.eq_zero_or_pos f with h | h
      · subst h; have := had.out; simp at this; have := Nat.one_le_two_pow (n := j); omega
      · exact h
    obtain ⟨f, rfl⟩ : ∃ f', f = f' + 1 := ⟨f - 1, by omega⟩
    by_cases hc : p ≤ y
    · go_wp2_with (at_builtin; refine wpList_push rfl _ _ rfl elt8 w.heap.size _ _ _ _ hown rfl rfl (by simp) rfl (by omega) (by decide) (by omega) ?_)
      intro g cap w1 hp
      obtain ⟨ho, hb⟩ := hown.push hsz hp
      have H1 := Lib.hid ho; have H2 := Lib.hid hb
      clear ho hb hp
      go_wp2
      go_roundw
      case rel =>
        refine ⟨f, y - p, j + 1, ys ++ [98], by go_num, by go_num, Lib.hid ?_, Lib.hid ?_, by simp; omega, by omega, by omega, H1.out, hbel.trans H2.out⟩
        · rw [← hys.out, List.append_assoc]
          congr 1
          rw [tailL, if_pos (by rw [← Hp.out]; exact hc), ← Hp.out]
          rfl
        · have h1 := had.out
          rw [show j + 1 + f = j + (f + 1) from by omega, Nat.pow_succ 2 j]
          rw [← Hp.out] at h1 ⊢
          omega
      case measure => simp [intOf] <;> omega
    · have htail : tailL (f + 1) y j = 97 :: lowL y j := by rw [tailL, if_neg (by rw [← Hp.out]; exact hc)]
      have Ht := Lib.hid htail
      clear htail
      go_wp2_with (at_builtin; refine wpList_push rfl _ _ rfl elt8 w.heap.size _ _ _ _ hown rfl rfl (by simp) rfl (by omega) (by decide) (by omega) ?_)
      intro g cap w1 hp
      obtain ⟨ho, hb⟩ := hown.push hsz hp
      have hb1 := hbel.trans hb
      have H2 := Lib.hid hb1
      have hl1 : (ys ++ [97]).length = ys.length + 1 := by simp
      have H1 := Lib.hid ho
      clear hb hb1 hp ho
      go_wp2
      go_loopw [5, 6] (fun o2 q2 wr2 => ∃ (i : Nat) (zs : List Int), q2 = .int .i64 ((i : Int) - 1) ∧ i ≤ j ∧ Hid (zs ++ lowL y i = tailL 18 x k) ∧ zs.length + i ≤ ys.length + 1 + j ∧ OwnsBytes w.heap.size wr2 o2 zs ∧ Below w.heap.size w wr2) (fun _ q _ => (intOf q + 1).toNat)
      case atStart => exact ⟨j, ys ++ [97], by go_num, Nat.le_refl _, Lib.hid (by rw [← hys.out, Ht.out]; simp), by simp, H1.out, H2.out⟩
      case round =>
        obtain ⟨i, zs, rfl, hij, hzs, hlz, hown2, hbel2⟩ := hrel
        have hsz2 := hbel2.size
        by_cases hi : 1 ≤ i
        · obtain ⟨i, rfl⟩ : ∃ i', i = i' + 1 := ⟨i - 1, by omega⟩
          have hbit : (0 : Int) ≤ (y : Int) / 2 ^ i % 2 ∧ (y : Int) / 2 ^ i % 2 ≤ 1 := by omega
          have hcast : (y : Int) / 2 ^ i % 2 = ((y / 2 ^ i % 2 : Nat) : Int) := by simp
          have Hc := Lib.hid hcast
          clear hcast
          obtain ⟨hbit0, hbit1⟩ := hbit
          go_wp2_with (at_builtin; refine wpList_push rfl _ _ rfl elt8 w.heap.size _ _ _ _ hown2 rfl rfl (by simp) rfl (by omega) (by decide) (by omega) ?_)
          intro g cap w1 hp
          obtain ⟨ho, hb⟩ := hown2.push hsz2 hp
          have H3 := Lib.hid hb
          have H4 := Lib.hid ho
          clear hb hp ho
          go_wp2
          go_roundw
          case rel =>
            refine ⟨i, _, by go_num, by omega, Lib.hid ?_, ?_, H4.out, hbel2.trans H3.out⟩
            · rw [← hzs.out, List.append_assoc, Hc.out]; rfl
            · simp only [List.length_append, List.length_singleton]; omega
          case measure => simp [intOf] <;> omega
        · obtain rfl : i = 0 := by omega
          have e : zs = tailL 18 x k := by rw [← hzs.out]; simp [lowL]
          rw [e] at hown2
          have H4 := Lib.hid hown2
          clear hown2 e
          go_wp2
          go_ret
          exact ⟨_, rfl, H4.out, hbel2⟩

set_option maxRecDepth 100000 in
theorem OwnsBytes.mono {B B' : Nat} {w : World} {sv : Value} {xs : List Int} (h : OwnsBytes B w sv xs) (hB : B' ≤ B) : OwnsBytes B' w sv xs := by
  refine ⟨h.1, ?_⟩
  rcases h.2 with hn | ⟨g, cap, cur, rfl, hb, r⟩
  · exact .inl hn
  · exact .inr ⟨g, cap, cur, rfl, by omega, r⟩
set_option maxRecDepth 100000 in
theorem OwnsBytes.below {B B' : Nat} {w w' : World} {sv : Value} {xs : List Int} (h : OwnsBytes B w sv xs) (hb : Below B' w w') (hB : w.heap.size ≤ B') : OwnsBytes B w' sv xs :=
  ownsRow_of_block h fun g hg => hb.block g (by have := (h.lt g hg).2; omega)
set_option maxRecDepth 100000 in
theorem OwnsBytes.shape {B : Nat} {w : World} {sv : Value} {xs : List Int} (h : OwnsBytes B w sv xs) (hne : xs ≠ []) :
    ∃ g cap, sv = .slice (some ⟨g, 0, none⟩) xs.length cap ∧ ∀ j u, (xs.map (Value.int .u8))[j]? = some u → w.cell? ((⟨g, 0, none⟩ : Addr).add j) = some u := by
  rcases h.2 with ⟨rfl, hn⟩ | ⟨g, cap, cur, rfl, _⟩
  · exact absurd (List.eq_nil_of_length_eq_zero hn) hne
  · exact ⟨g, cap, rfl, h.cells (g := g) rfl⟩
set_option maxRecDepth 100000 in
theorem OwnsBytes.joined {B g cap : Nat} {w w1 : World} {sv : Value} {xs ys : List Int} (hB : B ≤ w.heap.size) (hown : OwnsBytes B w sv xs)
    (hp : Pushed w B 5 1 sv (xs.length + ys.length) (xs.map (Value.int .u8) ++ ys.map (Value.int .u8)) (.slice (some ⟨g, 0, none⟩) (xs.length + ys.length) cap) w1) :
    OwnsBytes B w1 (.slice (some ⟨g, 0, none⟩) (xs.length + ys.length) cap) (xs ++ ys) ∧ Below B w w1 :=
  ⟨ownsRow_cast hp.1 (by simp) (by simp), Below.grown (Below.refl _ _) hp.2.1 hB (fun k hk => (hown.lt k hk).1)⟩
set_option maxRecDepth 100000 in
theorem tailL_ne (f x k : Nat) : tailL (f + 1) x k ≠ [] := by
  unfold tailL
  split <;> simp
set_option maxRecDepth 100000 in
theorem tailL_pos (f x k : Nat) : 0 < (tailL (f + 1) x k).length := List.length_pos_iff.2 (tailL_ne f x k)

set_option maxRecDepth 100000 in
theorem ref_text {w : World} {B : Nat} {sv : Value} {xs : List Int} (h : OwnsBytes B w sv xs) : (convert 39 9 sv).run Tryz.prog w = .ok (.string (strOfNums xs)) w :=
  run_text Tryz.underlying39 Tryz.underlying5 Tryz.underlying9 h

set_option maxRecDepth 100000 in
set_option maxHeartbeats 1600000 in
theorem refbits_no (el v most : Int) (w : World) (h : mayOf (kindOf el) v most = false) :
    Calls Tryz.prog 40 #[.int .i64 el, .int .i64 v, .int .i64 most] w fun e w' => e = .returned (.tuple #[.string (strOfNums []), .int .i64 600]) ∧ Below w.heap.size w w' := by
  have H := Lib.hid h
  clear h
  go_enter Tryz.func40, Tryz.ntmps40
  go_wp2_with fail
  refine (ref_may el v most _).mono ?_
  rintro e w2 ⟨rfl, rfl⟩
  rw [H.out]
  go_wp2
  go_ret2
  exact ⟨rfl, Below.refl _ _⟩

set_option maxRecDepth 100000 in
set_option maxHeartbeats 1600000 in
theorem refbits_flag (el v most : Int) (w : World) (h : mayOf (kindOf el) v most = true) (hk : kindOf el = 1) :
    Calls Tryz.prog 40 #[.int .i64 el, .int .i64 v, .int .i64 most] w fun e w' => e = .returned (.tuple #[.string (strOfNums (rawL 1 v most)), .int .i64 0]) ∧ Below w.heap.size w w' := by
  have hb : v = 0 ∨ v = 1 := by rw [hk] at h; simpa [mayOf] using h
  have hv0 : 0 ≤ v := by omega
  have hv1 : v ≤ 1 := by omega
  have H := Lib.hid h
  have Hk := Lib.hid hk
  have ht : ∀ x : Int, (convert 39 9 (.slice (some ⟨w.heap.size, 0, none⟩) 1 1)).run Tryz.prog (w.alloc (.cells #[.int .u8 x] 5)) = .ok (.string (strOfNums [x])) (w.alloc (.cells #[.int .u8 x] 5)) := by
    intro x
    refine ref_text (B := w.heap.size) (xs := [x]) ?_
    exact ⟨rfl, .inr ⟨_, 1, _, rfl, Nat.le_refl _, heap_alloc_at _ _, Nat.le_refl _, by simp [maxLen], rfl, rfl⟩⟩
  clear h hk hb
  go_enter Tryz.func40, Tryz.ntmps40
  go_wp2_with fail
  refine (ref_may el v most _).mono ?_
  rintro e w2 ⟨rfl, rfl⟩
  rw [H.out]
  go_wp2_with fail
  refine (ref_kind el _).mono ?_
  rintro e w2 ⟨rfl, rfl⟩
  rw [Hk.out]
  go_wp2
  go_ret2
  exact ⟨rfl, (Below.refl _ _).alloc (Nat.le_refl _) _⟩

set_option maxRecDepth 100000 in
set_option maxHeartbeats 1600000 in
theorem refbits_short (el v most : Int) (w : World) (h : mayOf (kindOf el) v most = true) (hk : kindOf el = 2) :
    Calls Tryz.prog 40 #[.int .i64 el, .int .i64 v, .int .i64 most] w fun e w' => e = .returned (.tuple #[.string (strOfNums (rawL 2 v most)), .int .i64 0]) ∧ Below w.heap.size w w' := by
  have hb : 1 ≤ most ∧ most ≤ 63 ∧ 0 ≤ v ∧ v ≤ most := by rw [hk] at h; simpa [mayOf] using h
  obtain ⟨b1, b2, b3, b4⟩ := hb
  have H := Lib.hid h
  have Hk := Lib.hid hk
  clear h hk
  go_enter Tryz.func40, Tryz.ntmps40
  go_wp2_with fail
  refine (ref_may el v most _).mono ?_
  rintro e w2 ⟨rfl, rfl⟩
  rw [H.out]
  go_wp2_with fail
  refine (ref_kind el _).mono ?_
  rintro e w2 ⟨rfl, rfl⟩
  rw [Hk.out]
  go_wp2_with fail
  refine (ref_ones v most _ (by omega) (by omega) (by omega) (by omega)).mono ?_
  rintro e w2 ⟨sv, rfl, hown, hbel⟩
  rw [Nat.min_eq_left (by omega)] at hown
  have ht := ref_text hown
  have Hb := Lib.hid hbel
  clear hown hbel
  go_wp2
  go_ret2
  exact ⟨rfl, Hb.out⟩

set_option maxRecDepth 100000 in
set_option maxHeartbeats 1600000 in
theorem refbits_great (el v most : Int) (w : World) (h : mayOf (kindOf el) v most = true) (hk : kindOf el = 4) :
    Calls Tryz.prog 40 #[.int .i64 el, .int .i64 v, .int .i64 most] w fun e w' => e = .returned (.tuple #[.string (strOfNums (rawL 4 v most)), .int .i64 0]) ∧ Below w.heap.size w w' := by
  have hb : 0 ≤ v ∧ v ≤ 65535 := by rw [hk] at h; simpa [mayOf] using h
  obtain ⟨v0, v1⟩ := hb
  have H := Lib.hid h
  have Hk := Lib.hid hk
  clear h hk
  have e4 : rawL 4 v most = greatL v.toNat 14 0 := by
    show greatL v.natAbs 14 0 = _
    rw [show v.toNat = v.natAbs by omega]
  rw [e4]
  clear e4
  go_enter Tryz.func40, Tryz.ntmps40
  go_wp2_with fail
  refine (ref_may el v most _).mono ?_
  rintro e w2 ⟨rfl, rfl⟩
  rw [H.out]
  go_wp2_with fail
  refine (ref_kind el _).mono ?_
  rintro e w2 ⟨rfl, rfl⟩
  rw [Hk.out]
  go_wp2_with fail
  refine (ref_ones v 14 _ (by omega) (by omega) (by omega) (by omega)).mono ?_
  rintro e w2 ⟨sv, rfl, hown, hbel⟩
  rw [show (14 : Int).toNat = 14 from rfl] at hown
  obtain ⟨A, hA⟩ : ∃ A, A = onesL (min v.toNat 14) 14 := ⟨_, rfl⟩
  rw [← hA] at hown
  have la : A.length ≤ 15 := by have := onesL_length (min v.toNat 14) 14 (by omega); rw [hA]; omega
  have HA := Lib.hid hA
  clear hA
  have hsz := hbel.size
  by_cases hc : 14 ≤ v
  · have Hown := Lib.hid hown
    have Hb := Lib.hid hbel
    clear hown hbel
    go_wp2_with fail
    refine (ref_tail (v - 14) 0 _ (by omega) (by omega) (by omega) (by omega)).mono ?_
    rintro e w3 ⟨tv, rfl, htail, hbt⟩
    simp only [Int.toNat_zero] at htail
    obtain ⟨T, hT⟩ : ∃ T, T = tailL 18 (v - 14).toNat 0 := ⟨_, rfl⟩
    rw [← hT] at htail
    have lt1 : T.length ≤ 36 := by have := tailL_length 18 (v - 14).toNat 0; rw [hT]; omega
    have lt0 : 0 < T.length := by rw [hT]; exact tailL_pos _ _ _
    have HT := Lib.hid hT
    clear hT
    have hown3 := (Hown.out).below hbt (Nat.le_refl _)
    have hsz3 := hbt.size
    obtain ⟨g, cap, rfl, hcells⟩ := htail.shape (List.length_pos_iff.1 lt0)
    have Hcells := Lib.hid hcells
    have Hb3 := Lib.hid ((Hb.out).trans (hbt.mono hsz))
    clear hcells hbt htail Hown
    go_wp2_with (at_builtin; refine wpList_appendG rfl _ _ rfl elt8 w.heap.size _ _ _ rfl hown3 _ _ _ _ rfl (by simp) Hcells.out (ints_oneCell _ _) lt0 (by decide) (by omega) (by omega) ?_)
    intro g2 cap2 w4 hp
    obtain ⟨ho, hb4⟩ := OwnsBytes.joined (by omega) hown3 hp
    have e4 : A ++ T = greatL v.toNat 14 0 := by
      rw [HA.out, HT.out]
      unfold greatL
      rw [if_pos (by omega), show (v - 14).toNat = v.toNat - 14 by omega]
    have ht := ref_text ho
    rw [e4] at ht
    have Hb4 := Lib.hid ((Hb3.out).trans hb4)
    clear hb4 ho hp hown3 e4
    go_wp2
    go_ret2
    exact ⟨rfl, Hb4.out⟩
  · have e4 : A = greatL v.toNat 14 0 := by
      rw [HA.out]
      unfold greatL
      rw [if_neg (by omega), List.append_nil]
    rw [e4] at hown
    have ht := ref_text hown
    have Hb := Lib.hid hbel
    clear hown hbel e4
    go_wp2
    go_ret2
    exact ⟨rfl, Hb.out⟩
end Go.Proofs.YtgmnkihldlajcaaGreatDoor

/-
  The walk over the document's Bits at signed elements; and all of Bits.
-/
namespace Go.Proofs.YtgmnkihldlajcaaGreatDoor
open Go.RowKit

set_option maxRecDepth 100000 in
set_option maxHeartbeats 1600000 in
theorem refbits_pb (el v most : Int) (w : World) (h : mayOf (kindOf el) v most = true) (hk : kindOf el = 3) (hv : 9 ≤ v) :
    Calls Tryz.prog 40 #[.int .i64 el, .int .i64 v, .int .i64 most] w fun e w' => e = .returned (.tuple #[.string (strOfNums (greatL v.natAbs 9 3 ++ signL v)), .int .i64 0]) ∧ Below w.heap.size w w' := by
  have hb : -32767 ≤ v ∧ v ≤ 32767 := by rw [hk] at h; simpa [mayOf] using h
  obtain ⟨v0, v1⟩ := hb
  have H := Lib.hid h
  have Hk := Lib.hid hk
  have Hs : Hid (signL v = [97]) := Lib.hid (by unfold signL; rw [if_pos (by omega)])
  clear h hk
  go_enter Tryz.func40, Tryz.ntmps40
  go_wp2_with fail
  refine (ref_may el v most _).mono ?_
  rintro e w2 ⟨rfl, rfl⟩
  rw [H.out]
  go_wp2_with fail
  refine (ref_kind el _).mono ?_
  rintro e w2 ⟨rfl, rfl⟩
  rw [Hk.out]
  go_wp2_with fail
  refine (ref_ones v 9 _ (by omega) (by omega) (by omega) (by omega)).mono ?_
  rintro e w2 ⟨sv, rfl, hown, hbel⟩
  rw [show (9 : Int).toNat = 9 from rfl] at hown
  obtain ⟨A, hA⟩ : ∃ A, A = onesL (min (v).toNat 9) 9 := ⟨_, rfl⟩
  rw [← hA] at hown
  have la : A.length ≤ 10 := by have := onesL_length (min (v).toNat 9) 9 (by omega); rw [hA]; omega
  have HA := Lib.hid hA
  clear hA
  have hsz := hbel.size
  have Hown := Lib.hid hown
  have Hb := Lib.hid hbel
  clear hown hbel
  go_wp2_with fail
  refine (ref_tail (v - 9) 3 _ (by omega) (by omega) (by omega) (by omega)).mono ?_
  rintro e w3 ⟨tv, rfl, htail, hbt⟩
  rw [show (3 : Int).toNat = 3 from rfl] at htail
  obtain ⟨T, hT⟩ : ∃ T, T = tailL 18 (v - 9).toNat 3 := ⟨_, rfl⟩
  rw [← hT] at htail
  have lt1 : T.length ≤ 39 := by have := tailL_length 18 (v - 9).toNat 3; rw [hT]; omega
  have lt0 : 0 < T.length := by rw [hT]; exact tailL_pos _ _ _
  have HT := Lib.hid hT
  clear hT
  have hown3 := (Hown.out).below hbt (Nat.le_refl _)
  have hsz3 := hbt.size
  obtain ⟨g, cap, rfl, hcells⟩ := htail.shape (List.length_pos_iff.1 lt0)
  have Hcells := Lib.hid hcells
  have Hb3 := Lib.hid ((Hb.out).trans (hbt.mono hsz))
  clear hcells hbt htail Hown
  go_wp2_with (at_builtin; refine wpList_appendG rfl _ _ rfl elt8 w.heap.size _ _ _ rfl hown3 _ _ _ _ rfl (by simp) Hcells.out (ints_oneCell _ _) lt0 (by decide) (by omega) (by omega) ?_)
  intro g2 cap2 w4 hp
  obtain ⟨ho, hb4⟩ := OwnsBytes.joined (by omega) hown3 hp
  have e4 : A ++ T = greatL v.natAbs 9 3 := by
    rw [HA.out, HT.out]
    unfold greatL
    rw [if_pos (by omega), show (v - 9).toNat = v.natAbs - 9 by omega, show (v).toNat = v.natAbs by omega]
  have Hb4 := Lib.hid ((Hb3.out).trans hb4)
  have hsz4 := (Hb4.out).size
  clear hb4 hp hown3
  obtain ⟨S, hS⟩ : ∃ S, S = A ++ T := ⟨_, rfl⟩
  have ls : S.length ≤ 60 := by rw [hS]; rw [List.length_append]; omega
  rw [← hS] at ho e4
  have HS := Lib.hid e4
  clear hS e4
  go_wp2_with (at_builtin; refine wpList_push rfl _ _ rfl elt8 w.heap.size _ _ _ _ ho rfl rfl (by simp) rfl (by omega) (by decide) (by omega) ?_)
  intro g3 cap3 w5 hp
  obtain ⟨ho5, hb5⟩ := ho.push (by omega) hp
  have e5 : S ++ [97] = greatL v.natAbs 9 3 ++ signL v := by rw [HS.out, Hs.out]
  rw [e5] at ho5
  have ht := ref_text ho5
  have Hb5 := Lib.hid ((Hb4.out).trans hb5)
  clear hb5 ho5 hp ho e5
  go_wp2
  go_ret2
  exact ⟨rfl, Hb5.out⟩

set_option maxRecDepth 100000 in
set_option maxHeartbeats 1600000 in
theorem refbits_ps (el v most : Int) (w : World) (h : mayOf (kindOf el) v most = true) (hk : kindOf el = 3) (hv : 0 < v) (hv2 : v < 9) :
    Calls Tryz.prog 40 #[.int .i64 el, .int .i64 v, .int .i64 most] w fun e w' => e = .returned (.tuple #[.string (strOfNums (greatL v.natAbs 9 3 ++ signL v)), .int .i64 0]) ∧ Below w.heap.size w w' := by
  have hb : -32767 ≤ v ∧ v ≤ 32767 := by rw [hk] at h; simpa [mayOf] using h
  obtain ⟨v0, v1⟩ := hb
  have H := Lib.hid h
  have Hk := Lib.hid hk
  have Hs : Hid (signL v = [97]) := Lib.hid (by unfold signL; rw [if_pos (by omega)])
  clear h hk
  go_enter Tryz.func40, Tryz.ntmps40
  go_wp2_with fail
  refine (ref_may el v most _).mono ?_
  rintro e w2 ⟨rfl, rfl⟩
  rw [H.out]
  go_wp2_with fail
  refine (ref_kind el _).mono ?_
  rintro e w2 ⟨rfl, rfl⟩
  rw [Hk.out]
  go_wp2_with fail
  refine (ref_ones v 9 _ (by omega) (by omega) (by omega) (by omega)).mono ?_
  rintro e w2 ⟨sv, rfl, hown, hbel⟩
  rw [show (9 : Int).toNat = 9 from rfl] at hown
  obtain ⟨A, hA⟩ : ∃ A, A = onesL (min (v).toNat 9) 9 := ⟨_, rfl⟩
  rw [← hA] at hown
  have la : A.length ≤ 10 := by have := onesL_length (min (v).toNat 9) 9 (by omega); rw [hA]; omega
  have HA := Lib.hid hA
  clear hA
  have hsz := hbel.size
  have ho := hown
  have e4 : A = greatL v.natAbs 9 3 := by
    rw [HA.out]
    unfold greatL
    rw [if_neg (by omega), List.append_nil, show (v).toNat = v.natAbs by omega]
  have Hb4 := Lib.hid hbel
  have hsz4 := (Hb4.out).size
  clear hown hbel
  have HS := Lib.hid e4
  clear e4
  go_wp2_with (at_builtin; refine wpList_push rfl _ _ rfl elt8 w.heap.size _ _ _ _ ho rfl rfl (by simp) rfl (by omega) (by decide) (by omega) ?_)
  intro g3 cap3 w5 hp
  obtain ⟨ho5, hb5⟩ := ho.push (by omega) hp
  have e5 : A ++ [97] = greatL v.natAbs 9 3 ++ signL v := by rw [HS.out, Hs.out]
  rw [e5] at ho5
  have ht := ref_text ho5
  have Hb5 := Lib.hid ((Hb4.out).trans hb5)
  clear hb5 ho5 hp ho e5
  go_wp2
  go_ret2
  exact ⟨rfl, Hb5.out⟩

set_option maxRecDepth 100000 in
set_option maxHeartbeats 1600000 in
theorem refbits_nb (el v most : Int) (w : World) (h : mayOf (kindOf el) v most = true) (hk : kindOf el = 3) (hv : v ≤ -9) :
    Calls Tryz.prog 40 #[.int .i64 el, .int .i64 v, .int .i64 most] w fun e w' => e = .returned (.tuple #[.string (strOfNums (greatL v.natAbs 9 3 ++ signL v)), .int .i64 0]) ∧ Below w.heap.size w w' := by
  have hb : -32767 ≤ v ∧ v ≤ 32767 := by rw [hk] at h; simpa [mayOf] using h
  obtain ⟨v0, v1⟩ := hb
  have H := Lib.hid h
  have Hk := Lib.hid hk
  have Hs : Hid (signL v = [98]) := Lib.hid (by unfold signL; rw [if_neg (by omega), if_pos (by omega)])
  clear h hk
  go_enter Tryz.func40, Tryz.ntmps40
  go_wp2_with fail
  refine (ref_may el v most _).mono ?_
  rintro e w2 ⟨rfl, rfl⟩
  rw [H.out]
  go_wp2_with fail
  refine (ref_kind el _).mono ?_
  rintro e w2 ⟨rfl, rfl⟩
  rw [Hk.out]
  go_wp2_with fail
  refine (ref_ones (-v) 9 _ (by omega) (by omega) (by omega) (by omega)).mono ?_
  rintro e w2 ⟨sv, rfl, hown, hbel⟩
  rw [show (9 : Int).toNat = 9 from rfl] at hown
  obtain ⟨A, hA⟩ : ∃ A, A = onesL (min ((-v)).toNat 9) 9 := ⟨_, rfl⟩
  rw [← hA] at hown
  have la : A.length ≤ 10 := by have := onesL_length (min ((-v)).toNat 9) 9 (by omega); rw [hA]; omega
  have HA := Lib.hid hA
  clear hA
  have hsz := hbel.size
  have Hown := Lib.hid hown
  have Hb := Lib.hid hbel
  clear hown hbel
  go_wp2_with fail
  refine (ref_tail ((-v) - 9) 3 _ (by omega) (by omega) (by omega) (by omega)).mono ?_
  rintro e w3 ⟨tv, rfl, htail, hbt⟩
  rw [show (3 : Int).toNat = 3 from rfl] at htail
  obtain ⟨T, hT⟩ : ∃ T, T = tailL 18 ((-v) - 9).toNat 3 := ⟨_, rfl⟩
  rw [← hT] at htail
  have lt1 : T.length ≤ 39 := by have := tailL_length 18 ((-v) - 9).toNat 3; rw [hT]; omega
  have lt0 : 0 < T.length := by rw [hT]; exact tailL_pos _ _ _
  have HT := Lib.hid hT
  clear hT
  have hown3 := (Hown.out).below hbt (Nat.le_refl _)
  have hsz3 := hbt.size
  obtain ⟨g, cap, rfl, hcells⟩ := htail.shape (List.length_pos_iff.1 lt0)
  have Hcells := Lib.hid hcells
  have Hb3 := Lib.hid ((Hb.out).trans (hbt.mono hsz))
  clear hcells hbt htail Hown
  go_wp2_with (at_builtin; refine wpList_appendG rfl _ _ rfl elt8 w.heap.size _ _ _ rfl hown3 _ _ _ _ rfl (by simp) Hcells.out (ints_oneCell _ _) lt0 (by decide) (by omega) (by omega) ?_)
  intro g2 cap2 w4 hp
  obtain ⟨ho, hb4⟩ := OwnsBytes.joined (by omega) hown3 hp
  have e4 : A ++ T = greatL v.natAbs 9 3 := by
    rw [HA.out, HT.out]
    unfold greatL
    rw [if_pos (by omega), show ((-v) - 9).toNat = v.natAbs - 9 by omega, show ((-v)).toNat = v.natAbs by omega]
  have Hb4 := Lib.hid ((Hb3.out).trans hb4)
  have hsz4 := (Hb4.out).size
  clear hb4 hp hown3
  obtain ⟨S, hS⟩ : ∃ S, S = A ++ T := ⟨_, rfl⟩
  have ls : S.length ≤ 60 := by rw [hS]; rw [List.length_append]; omega
  rw [← hS] at ho e4
  have HS := Lib.hid e4
  clear hS e4
  go_wp2_with (at_builtin; refine wpList_push rfl _ _ rfl elt8 w.heap.size _ _ _ _ ho rfl rfl (by simp) rfl (by omega) (by decide) (by omega) ?_)
  intro g3 cap3 w5 hp
  obtain ⟨ho5, hb5⟩ := ho.push (by omega) hp
  have e5 : S ++ [98] = greatL v.natAbs 9 3 ++ signL v := by rw [HS.out, Hs.out]
  rw [e5] at ho5
  have ht := ref_text ho5
  have Hb5 := Lib.hid ((Hb4.out).trans hb5)
  clear hb5 ho5 hp ho e5
  go_wp2
  go_ret2
  exact ⟨rfl, Hb5.out⟩

set_option maxRecDepth 100000 in
set_option maxHeartbeats 1600000 in
theorem refbits_ns (el v most : Int) (w : World) (h : mayOf (kindOf el) v most = true) (hk : kindOf el = 3) (hv : v < 0) (hv2 : -9 < v) :
    Calls Tryz.prog 40 #[.int .i64 el, .int .i64 v, .int .i64 most] w fun e w' => e = .returned (.tuple #[.string (strOfNums (greatL v.natAbs 9 3 ++ signL v)), .int .i64 0]) ∧ Below w.heap.size w w' := by
  have hb : -32767 ≤ v ∧ v ≤ 32767 := by rw [hk] at h; simpa [mayOf] using h
  obtain ⟨v0, v1⟩ := hb
  have H := Lib.hid h
  have Hk := Lib.hid hk
  have Hs : Hid (signL v = [98]) := Lib.hid (by unfold signL; rw [if_neg (by omega), if_pos (by omega)])
  clear h hk
  go_enter Tryz.func40, Tryz.ntmps40
  go_wp2_with fail
  refine (ref_may el v most _).mono ?_
  rintro e w2 ⟨rfl, rfl⟩
  rw [H.out]
  go_wp2_with fail
  refine (ref_kind el _).mono ?_
  rintro e w2 ⟨rfl, rfl⟩
  rw [Hk.out]
  go_wp2_with fail
  refine (ref_ones (-v) 9 _ (by omega) (by omega) (by omega) (by omega)).mono ?_
  rintro e w2 ⟨sv, rfl, hown, hbel⟩
  rw [show (9 : Int).toNat = 9 from rfl] at hown
  obtain ⟨A, hA⟩ : ∃ A, A = onesL (min ((-v)).toNat 9) 9 := ⟨_, rfl⟩
  rw [← hA] at hown
  have la : A.length ≤ 10 := by have := onesL_length (min ((-v)).toNat 9) 9 (by omega); rw [hA]; omega
  have HA := Lib.hid hA
  clear hA
  have hsz := hbel.size
  have ho := hown
  have e4 : A = greatL v.natAbs 9 3 := by
    rw [HA.out]
    unfold greatL
    rw [if_neg (by omega), List.append_nil, show ((-v)).toNat = v.natAbs by omega]
  have Hb4 := Lib.hid hbel
  have hsz4 := (Hb4.out).size
  clear hown hbel
  have HS := Lib.hid e4
  clear e4
  go_wp2_with (at_builtin; refine wpList_push rfl _ _ rfl elt8 w.heap.size _ _ _ _ ho rfl rfl (by simp) rfl (by omega) (by decide) (by omega) ?_)
  intro g3 cap3 w5 hp
  obtain ⟨ho5, hb5⟩ := ho.push (by omega) hp
  have e5 : A ++ [98] = greatL v.natAbs 9 3 ++ signL v := by rw [HS.out, Hs.out]
  rw [e5] at ho5
  have ht := ref_text ho5
  have Hb5 := Lib.hid ((Hb4.out).trans hb5)
  clear hb5 ho5 hp ho e5
  go_wp2
  go_ret2
  exact ⟨rfl, Hb5.out⟩

set_option maxRecDepth 100000 in
set_option maxHeartbeats 1600000 in
theorem refbits_z (el v most : Int) (w : World) (h : mayOf (kindOf el) v most = true) (hk : kindOf el = 3) (hv : ¬ 0 < v) (hv2 : ¬ v < 0) :
    Calls Tryz.prog 40 #[.int .i64 el, .int .i64 v, .int .i64 most] w fun e w' => e = .returned (.tuple #[.string (strOfNums (greatL v.natAbs 9 3 ++ signL v)), .int .i64 0]) ∧ Below w.heap.size w w' := by
  have hb : -32767 ≤ v ∧ v ≤ 32767 := by rw [hk] at h; simpa [mayOf] using h
  obtain ⟨v0, v1⟩ := hb
  have H := Lib.hid h
  have Hk := Lib.hid hk
  have Hs : Hid (signL v = []) := Lib.hid (by unfold signL; rw [if_neg (by omega), if_neg (by omega)])
  clear h hk
  go_enter Tryz.func40, Tryz.ntmps40
  go_wp2_with fail
  refine (ref_may el v most _).mono ?_
  rintro e w2 ⟨rfl, rfl⟩
  rw [H.out]
  go_wp2_with fail
  refine (ref_kind el _).mono ?_
  rintro e w2 ⟨rfl, rfl⟩
  rw [Hk.out]
  go_wp2_with fail
  refine (ref_ones v 9 _ (by omega) (by omega) (by omega) (by omega)).mono ?_
  rintro e w2 ⟨sv, rfl, hown, hbel⟩
  rw [show (9 : Int).toNat = 9 from rfl] at hown
  obtain ⟨A, hA⟩ : ∃ A, A = onesL (min (v).toNat 9) 9 := ⟨_, rfl⟩
  rw [← hA] at hown
  have la : A.length ≤ 10 := by have := onesL_length (min (v).toNat 9) 9 (by omega); rw [hA]; omega
  have HA := Lib.hid hA
  clear hA
  have hsz := hbel.size
  have ho := hown
  have e4 : A = greatL v.natAbs 9 3 := by
    rw [HA.out]
    unfold greatL
    rw [if_neg (by omega), List.append_nil, show (v).toNat = v.natAbs by omega]
  have Hb4 := Lib.hid hbel
  have hsz4 := (Hb4.out).size
  clear hown hbel
  have ht := ref_text ho
  rw [e4, ← List.append_nil (greatL v.natAbs 9 3), ← Hs.out] at ht
  clear ho e4
  go_wp2
  go_ret2
  exact ⟨rfl, Hb4.out⟩

set_option maxRecDepth 100000 in
/-- ████ The document's Bits, every element, every number ████ -/
theorem refbits_any (el v most : Int) (w : World) :
    Calls Tryz.prog 40 #[.int .i64 el, .int .i64 v, .int .i64 most] w fun e w' => e = .returned (.tuple #[.string (strOfNums (bitsL el v most)), .int .i64 (bitsE el v most)]) ∧ Below w.heap.size w w' := by
  cases h : mayOf (kindOf el) v most with
  | false =>
    have e1 : bitsL el v most = [] := by simp [bitsL, h]
    have e2 : bitsE el v most = 600 := by simp [bitsE, h]
    rw [e1, e2]
    exact refbits_no el v most w h
  | true =>
    have e1 : bitsL el v most = rawL (kindOf el) v most := by simp [bitsL, h]
    have e2 : bitsE el v most = 0 := by simp [bitsE, h]
    rw [e1, e2]
    obtain ⟨r0, r1⟩ := kindOf_range el
    have h0 : kindOf el ≠ 0 := by intro e; rw [e] at h; simp [mayOf] at h
    rcases (show kindOf el = 1 ∨ kindOf el = 2 ∨ kindOf el = 3 ∨ kindOf el = 4 by omega) with hk | hk | hk | hk
    · rw [hk]; exact refbits_flag el v most w h hk
    · rw [hk]; exact refbits_short el v most w h hk
    · rw [hk]
      show Calls _ _ _ w fun e w' => e = .returned (.tuple #[.string (strOfNums (greatL v.natAbs 9 3 ++ signL v)), .int .i64 0]) ∧ Below w.heap.size w w'
      rcases (show 9 ≤ v ∨ (0 < v ∧ v < 9) ∨ v ≤ -9 ∨ (v < 0 ∧ -9 < v) ∨ (¬ 0 < v ∧ ¬ v < 0) by omega) with hv | ⟨hv, hv2⟩ | hv | ⟨hv, hv2⟩ | ⟨hv, hv2⟩
      · exact refbits_pb el v most w h hk hv
      · exact refbits_ps el v most w h hk hv hv2
      · exact refbits_nb el v most w h hk hv
      · exact refbits_ns el v most w h hk hv hv2
      · exact refbits_z el v most w h hk hv hv2
    · rw [hk]; exact refbits_great el v most w h hk
end Go.Proofs.YtgmnkihldlajcaaGreatDoor

/-
  The walks over bins.Init and the document's Init.
-/
namespace Go.Proofs.YtgmnkihldlajcaaGreatDoor
open Go.RowKit

set_option maxRecDepth 100000 in
set_option maxHeartbeats 1600000 in
theorem ref_init (qp : Int) (w : World) (h0 : -9223372036854775808 ≤ qp) (h1 : qp ≤ 9223372036854775807) :
    Calls Tryz.prog 7 #[.int .i64 qp] w fun e w' => ∃ g, e = .returned (.slice (some ⟨g, 0, none⟩) 256 256) ∧ w'.heap[g]? = some (.cells (ints (initL qp)) 3 (0, 0)) ∧ w.heap.size ≤ g ∧ Only [] w w' := by
  obtain ⟨q0, q1⟩ := clampQp_range qp
  have hq : (qp < 0 ∧ clampQp qp = 0) ∨ (51 < qp ∧ clampQp qp = 51) ∨ (0 < qp ∧ qp ≤ 51 ∧ clampQp qp = qp) ∨ (qp = 0 ∧ clampQp qp = 0) := by
    unfold clampQp; split
    · omega
    · split <;> omega
  obtain ⟨f, hf⟩ : ∃ f, f = initAt (clampQp qp) := ⟨_, rfl⟩
  have hl : initL qp = (List.range 256).map f := by rw [hf]; rfl
  rw [hl]
  clear hl
  generalize clampQp qp = q at *
  have hm : ∀ k : Nat, (-1020 : Int) ≤ ((7 * (k : Int) + 5) % 41 - 20) * q ∧ ((7 * (k : Int) + 5) % 41 - 20) * q ≤ 1020 := by
    intro k
    have h1 : (-20 : Int) ≤ (7 * (k : Int) + 5) % 41 - 20 := by omega
    have h2 : (7 * (k : Int) + 5) % 41 - 20 ≤ (20 : Int) := by omega
    have h3 := Int.mul_le_mul_of_nonneg_right h1 q0
    have h4 := Int.mul_le_mul_of_nonneg_right h2 q0
    omega
  have Hm := Lib.hid hm
  clear hm
  rcases hq with ⟨hq, rfl⟩ | ⟨hq, rfl⟩ | ⟨hq, hq2, rfl⟩ | ⟨rfl, rfl⟩
  all_goals
    have Hf := Lib.hid hf
    clear hf
    go_enter Tryz.func7, Tryz.ntmps7
    go_wp2_with (at_make; refine wpList_make1 rfl _ _ rfl elt64 rfl 256 rfl rfl rfl rfl (by decide) (by decide) ?_)
    intro w1 hb ho hs
    rw [ints_replicate, ← fillTo_zero f 256] at hb
    have Hb := Lib.hid hb
    have Ho := Lib.hid ho
    clear hb ho hs
    go_wp2
    go_loopw [4] (fun i wr => ∃ k : Nat, k ≤ 256 ∧ i = .int .i64 k ∧ wr.heap[w.heap.size]? = some (.cells (ints (fillTo f 256 k)) 3 (0, 0)) ∧ Only [] w wr) (fun i _ => 256 - (intOf i).toNat)
    case atStart => exact ⟨0, by omega, rfl, Hb.out, Ho.out⟩
    case round =>
      obtain ⟨k, hk, rfl, hblk, hon⟩ := hrel
      by_cases hlt : k < 256
      · have c1 : ∃ v0, wr.cell? ⟨w.heap.size, k, none⟩ = some v0 := ⟨_, by rw [cells_of hblk]; exact ints_at _ _ (by rw [fillTo_length]; exact hlt)⟩
        obtain ⟨v0, c1⟩ := c1
        have z := free_of hblk k
        have Hblk := Lib.hid hblk
        have Hon := Lib.hid hon
        clear hblk hon
        obtain ⟨hm0, hm1⟩ := Hm.out k
        go_wp2
        all_goals
          go_roundw
          case rel =>
            refine ⟨k + 1, by omega, by go_num, ?_, Hon.out.setCell (.inr (Nat.le_refl _)) _⟩
            rw [heap_set_same _ Hblk.out, ints_setIf, fillTo_set]
            rw [Hf.out]
            unfold initAt initY initX
            omega
          case measure => simp [intOf] <;> omega
      · obtain rfl : k = 256 := by omega
        rw [fillTo_full] at hblk
        have Hblk := Lib.hid hblk
        have Hon := Lib.hid hon
        clear hblk hon
        go_wp2
        go_ret
        exact ⟨_, rfl, Hblk.out, Nat.le_refl _, Hon.out⟩
end Go.Proofs.YtgmnkihldlajcaaGreatDoor
