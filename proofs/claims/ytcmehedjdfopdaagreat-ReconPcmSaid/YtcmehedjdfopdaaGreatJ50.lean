/-
  The walk over package recon's filterer.edge, over what strength and lines give.
-/
import Derived.Test.YtcmehedjdfopdaaGreatJ49
namespace Go.Proofs.YtcmehedjdfopdaaGreat
open Go Go.RowKit

/-- What strength gives between two macroblocks that were drawn. -/
def StrengthGives (w : World) (ab n : Nat) (R : Int → Prop) : Prop :=
  ∀ wx, Only [] w wx → ∀ (a b : Nat) (i1 i2 : Int) (bo : Bool), a < n → b < n → Calls Tryz.prog 96 #[.agg #[.pointer (some ⟨ab, a * 23, none⟩), .int .i64 i1], .agg #[.pointer (some ⟨ab, b * 23, none⟩), .int .i64 i2], .bool bo] wx fun e w' => ∃ s : Int, e = .returned (.int .i64 s) ∧ R s ∧ 0 ≤ s ∧ Only [] wx w'
/-- Lines of a plane stay. -/
def LinesKeep (w : World) (fb po ab n pw ph nn : Nat) (ch : Bool) (R : Int → Prop) : Prop :=
  ∀ wx, Only [] w wx → ∀ (a b X Yr along across : Nat) (i1 i2 bs : Int), a < n → b < n → R bs → 0 < bs → X + nn ≤ pw → Yr + nn ≤ ph → (along = pw ∧ across = 1 ∧ 4 ≤ X ∧ X + 4 ≤ pw ∨ along = 1 ∧ across = pw ∧ 4 ≤ Yr ∧ Yr + 4 ≤ ph) →
    Calls Tryz.prog 97 #[.pointer (some ⟨fb, 0, none⟩), .pointer (some ⟨fb, po, none⟩), .int .i64 ((Yr * pw + X : Nat) : Int), .int .i64 along, .int .i64 across, .int .i64 nn, .agg #[.pointer (some ⟨ab, a * 23, none⟩), .int .i64 i1], .agg #[.pointer (some ⟨ab, b * 23, none⟩), .int .i64 i2], .int .i64 bs, .bool ch] wx fun e w' => e = .returned (.tuple #[]) ∧ Only [] wx w'
theorem StrengthGives.only {w w' : World} {ab n : Nat} {R : Int → Prop} (h : StrengthGives w ab n R) (ho : Only [] w w') : StrengthGives w' ab n R := fun wx hx => h wx (ho.trans hx)
theorem LinesKeep.only {w w' : World} {fb po ab n pw ph nn : Nat} {ch : Bool} {R : Int → Prop} (h : LinesKeep w fb po ab n pw ph nn ch R) (ho : Only [] w w') : LinesKeep w' fb po ab n pw ph nn ch R := fun wx hx => h wx (ho.trans hx)


set_option maxRecDepth 100000 in
set_option maxHeartbeats 3200000 in
theorem fl_edge_up {w : World} {fb cb ab wide high n cap pw side nn k x y e : Nat} {R : Int → Prop} (hf : w.cell? ⟨fb, 0, none⟩ = some (.pointer (some ⟨cb, 0, none⟩))) (hw : w.cell? ⟨cb, 0, none⟩ = some (.int .i64 wide)) (ha : w.cell? ⟨cb, 7, none⟩ = some (.slice (some ⟨ab, 0, none⟩) n cap))
    (hk : k < 3) (h1 : w.cell? ⟨fb, 2 + 3 * k + 1, none⟩ = some (.int .i64 pw)) (h2 : w.cell? ⟨fb, 2 + 3 * k + 2, none⟩ = some (.int .i64 side)) (hside : side / 4 = nn) (hs16 : side ≤ 16) (hpw : pw = 4 * wide * nn) (hn : n = wide * high) (hw60 : wide ≤ 60) (hh60 : high ≤ 60)
    (hx : x < wide) (hy : y < high) (he : e < 4) (hb : 4 ≤ (4 * x + e) * nn) (hb2 : (4 * x + e) * nn + 4 ≤ pw)
    (hS : StrengthGives w ab n R) (hL : LinesKeep w fb (2 + 3 * k) ab n pw (4 * high * nn) nn (decide (0 < k)) R) :
    Calls Tryz.prog 68 #[.pointer (some ⟨fb, 0, none⟩), .int .i64 x, .int .i64 y, .int .i64 e, .int .i64 k, .bool true] w fun r w' => r = .returned (.tuple #[]) ∧ Only [] w w' := by
  have hnn : nn ≤ 4 := by omega
  have hn0 : 1 ≤ nn := by
    rcases Nat.eq_zero_or_pos nn with h | h
    · rw [h, Nat.mul_zero] at hb; omega
    · exact h
  have qs : IntKind.i64.wrap ((side : Int).tdiv 4) = (nn : Int) := by rw [Int.tdiv_eq_ediv_of_nonneg (by omega), show (side : Int) / 4 = (nn : Int) by omega]; exact i64n _ (by omega)
  have hn2 : n ≤ 3600 := by rw [hn]; exact Nat.le_trans (Nat.mul_le_mul hw60 hh60) (by omega)
  obtain ⟨po, hpo⟩ : ∃ po, po = 2 + 3 * k := ⟨_, rfl⟩
  have hfb := World.block_lt_of_cell? w _ hf
  have hkk : decide ((0 : Int) < (k : Int)) = decide (0 < k) := by simp
  rw [← hpo] at h1 h2 hL
  have hpo3 : 2 + k * 3 = po := by omega
  have hAt := fun (wx : World) (hx : Only [] w wx) => @fl_at wx fb cb ab wide n cap (hx.cell hf (by simp)) (hx.cell hw (by simp)) (hx.cell ha (by simp))
  have HPW := Lib.hid hpw
  have HN := Lib.hid hn
  have hsd : (side : Int) / 4 = (nn : Int) := by omega
  have HAt := Lib.hid hAt
  have HS := Lib.hid hS
  have HL := Lib.hid hL
  have O0 : Hid (Only [] w w) := Lib.hid (Only.refl [] w)
  clear hS hL hAt hf hw ha hpo hpw hn hside qs
  go_enter Tryz.func68, Tryz.ntmps68
  go_wp2
  go_loopw [34] (fun q wr => ∃ i : Nat, i ≤ 4 ∧ q = .int .i64 i ∧ Only [] w wr) (fun q _ => 4 - (intOf q).toNat)
  case atStart => exact ⟨0, by omega, rfl, O0.out⟩
  case round =>
    obtain ⟨i, hi, rfl, ho⟩ := hrel
    by_cases hlt : i < 4
    · obtain ⟨x4, hx4⟩ : ∃ x4 : Nat, x4 = 4 * x := ⟨_, rfl⟩
      obtain ⟨y4, hy4⟩ : ∃ y4 : Nat, y4 = 4 * y := ⟨_, rfl⟩
      obtain ⟨bx, hbx⟩ : ∃ bx : Nat, bx = x4 + e := ⟨_, rfl⟩
      obtain ⟨by1, hby⟩ : ∃ by1 : Nat, by1 = y4 + i := ⟨_, rfl⟩
      obtain ⟨cx, hcx⟩ : ∃ cx : Nat, cx = bx - 1 := ⟨_, rfl⟩
      obtain ⟨cy, hcy⟩ : ∃ cy : Nat, cy = by1 := ⟨_, rfl⟩
      have hb1 : 1 ≤ bx := by
        rcases Nat.eq_zero_or_pos (4 * x + e) with h | h
        · rw [h, Nat.zero_mul] at hb; omega
        · omega
      obtain ⟨t1, ht1⟩ : ∃ t1 : Nat, t1 = by1 * nn := ⟨_, rfl⟩
      obtain ⟨t2, ht2⟩ : ∃ t2 : Nat, t2 = t1 * pw := ⟨_, rfl⟩
      obtain ⟨t3, ht3⟩ : ∃ t3 : Nat, t3 = bx * nn := ⟨_, rfl⟩
      obtain ⟨at0, hat0⟩ : ∃ at0 : Nat, at0 = t2 + t3 := ⟨_, rfl⟩
      have l1 : t1 ≤ 960 := by rw [ht1]; exact Nat.le_trans (Nat.mul_le_mul (by omega : by1 ≤ 240) hnn) (by omega)
      have lp : pw ≤ 960 := by rw [HPW.out]; exact Nat.le_trans (Nat.mul_le_mul (by omega : 4 * wide ≤ 240) hnn) (by omega)
      have l2 : t2 ≤ 921600 := by rw [ht2]; exact Nat.le_trans (Nat.mul_le_mul l1 lp) (by omega)
      have l3 : t3 ≤ 960 := by rw [ht3]; exact Nat.le_trans (Nat.mul_le_mul (by omega : bx ≤ 240) hnn) (by omega)
      have r1 : IntKind.i64.wrap (4 * (x : Int)) = (x4 : Int) := by rw [show 4 * (x : Int) = (x4 : Int) by omega]; exact i64n _ (by omega)
      have r2 : IntKind.i64.wrap (4 * (y : Int)) = (y4 : Int) := by rw [show 4 * (y : Int) = (y4 : Int) by omega]; exact i64n _ (by omega)
      have r3 : IntKind.i64.wrap ((x4 : Int) + e) = (bx : Int) := by rw [show (x4 : Int) + e = (bx : Int) by omega]; exact i64n _ (by omega)
      have r4 : IntKind.i64.wrap ((y4 : Int) + i) = (by1 : Int) := by rw [show (y4 : Int) + i = (by1 : Int) by omega]; exact i64n _ (by omega)
      have r5 : IntKind.i64.wrap ((bx : Int) - 1) = (cx : Int) := by rw [show (bx : Int) - 1 = (cx : Int) by omega]; exact i64n _ (by omega)
      have r6 : IntKind.i64.wrap ((by1 : Int)) = (cy : Int) := by rw [show (by1 : Int) = (cy : Int) by omega]; exact i64n _ (by omega)
      have r7 : IntKind.i64.wrap ((by1 : Int) * nn) = (t1 : Int) := by rw [← Int.natCast_mul, ← ht1]; exact i64n _ (by omega)
      have r8 : IntKind.i64.wrap ((t1 : Int) * pw) = (t2 : Int) := by rw [← Int.natCast_mul, ← ht2]; exact i64n _ (by omega)
      have r9 : IntKind.i64.wrap ((bx : Int) * nn) = (t3 : Int) := by rw [← Int.natCast_mul, ← ht3]; exact i64n _ (by omega)
      have r10 : IntKind.i64.wrap ((t2 : Int) + t3) = (at0 : Int) := by rw [← Int.natCast_add, ← hat0]; exact i64n _ (by omega)
      obtain ⟨ia, hia⟩ : ∃ ia, ia = cy / 4 * wide + cx / 4 := ⟨_, rfl⟩
      obtain ⟨ib, hib⟩ : ∃ ib, ib = by1 / 4 * wide + bx / 4 := ⟨_, rfl⟩
      have hin : ∀ a b : Nat, a ≤ y → b ≤ x → a * wide + b < n := fun a b h1 h2 => by
        rw [HN.out, Nat.mul_comm wide high]
        exact Nat.lt_of_lt_of_le (by omega : a * wide + b < a * wide + wide) (by rw [← Nat.succ_mul]; exact Nat.mul_le_mul (by omega) (Nat.le_refl _))
      have la : ia < n := by rw [hia]; exact hin _ _ (by omega) (by omega)
      have lb : ib < n := by rw [hib]; exact hin _ _ (by omega) (by omega)
      have hatp : at0 = t1 * pw + t3 := by rw [hat0, ht2]
      have hX : t3 + nn ≤ pw := by
        rw [ht3, HPW.out, ← Nat.succ_mul]
        exact Nat.mul_le_mul (by omega) (Nat.le_refl _)
      have hY : t1 + nn ≤ 4 * high * nn := by
        rw [ht1, ← Nat.succ_mul]
        exact Nat.mul_le_mul (by omega) (Nat.le_refl _)
      have hcs : 4 ≤ t3 ∧ t3 + 4 ≤ pw := by
        rw [ht3, hbx, hx4]
        exact ⟨hb, hb2⟩
      have w1 := ho.cell h1 (by simp)
      have w2 := ho.cell h2 (by simp)
      have HO := Lib.hid ho
      have HX := Lib.hid (And.intro hX (And.intro hY hcs))
      have HAT := Lib.hid hatp
      have HIA := Lib.hid (And.intro hia hib)
      have HBB : Hid (bx ≤ 240 ∧ by1 ≤ 240 ∧ cx ≤ 240 ∧ cy ≤ 240) := Lib.hid (by omega)
      clear ho hX hY hcs hatp hia hib hx4 hy4 hbx hby hcx hcy ht1 ht2 ht3 hat0 hin
      go_wp2_with fail
      refine (HAt.out _ HO.out cx cy ia (by have := HBB.out; omega) (by have := HBB.out; omega) HIA.out.1 la hn2).mono ?_
      rintro r wa ⟨j1, rfl, oa⟩
      have OA := Lib.hid (HO.out.trans oa)
      clear oa HO
      go_wp2_with fail
      refine (HAt.out _ OA.out bx by1 ib (by have := HBB.out; omega) (by have := HBB.out; omega) HIA.out.2 lb hn2).mono ?_
      rintro r wb ⟨j2, rfl, ob⟩
      have OB := Lib.hid (OA.out.trans ob)
      clear ob OA w1
      go_wp2_with fail
      have A1 := Lib.hid (heap_alloc2_old wb (.cells #[.pointer (some ⟨ab, ia * 23, none⟩), .int .i64 j1] 196) (.cells #[.pointer (some ⟨ab, ib * 23, none⟩), .int .i64 j2] 196))
      have A2 := Lib.hid (heap_alloc2_new wb (.cells #[.pointer (some ⟨ab, ia * 23, none⟩), .int .i64 j1] 196) (.cells #[.pointer (some ⟨ab, ib * 23, none⟩), .int .i64 j2] 196))
      have OC : Hid (Only [] w ((wb.alloc (.cells #[.pointer (some ⟨ab, ia * 23, none⟩), .int .i64 j1] 196)).alloc (.cells #[.pointer (some ⟨ab, ib * 23, none⟩), .int .i64 j2] 196))) := Lib.hid ((OB.out.alloc _).alloc _)
      generalize ((wb.alloc (.cells #[.pointer (some ⟨ab, ia * 23, none⟩), .int .i64 j1] 196)).alloc (.cells #[.pointer (some ⟨ab, ib * 23, none⟩), .int .i64 j2] 196)) = wc at *
      refine (HS.out _ OC.out ia ib j1 j2 _ la lb).mono ?_
      rintro r wd ⟨s, rfl, hR, hs0, od⟩
      have D1 := Lib.hid (od.heap A1.out (by simp))
      have D2 := Lib.hid (od.heap A2.out (by simp))
      have OD := Lib.hid (OC.out.trans od)
      have hp1 := od.cell (OC.out.cell h1 (by simp)) (by simp)
      generalize wb.heap.size = pbk at *
      clear od OC OB A1 A2
      by_cases hs : 0 < s
      · have hup := Tryz.underlying196
        have hip : (Tryz.prog.info? 196).map (·.size) = some 2 := by kernel_rfl
        have gt0 : decide (s > 0) = true := decide_eq_true hs
        have hl := HL.out _ OD.out.drew ia ib t3 t1 pw 1 j1 j2 s la lb hR hs HX.out.1 HX.out.2.1 (.inl ⟨rfl, rfl, HX.out.2.2⟩)
        rw [← HAT.out] at hl
        have Hl := Lib.hid hl
        clear hl
        go_wp2_with fail
        have x1 : wd.drew.rangeAt pbk 0 [.pointer (some ⟨ab, ia * 23, none⟩), .int .i64 j1] := fun j v hj => by rw [Nat.zero_add, cells_of (show wd.drew.heap[pbk]? = _ from D1.out), ← hj, List.getElem?_toArray]
        have x2 : wd.drew.rangeAt (pbk + 1) 0 [.pointer (some ⟨ab, ib * 23, none⟩), .int .i64 j2] := fun j v hj => by rw [Nat.zero_add, cells_of (show wd.drew.heap[pbk + 1]? = _ from D2.out), ← hj, List.getElem?_toArray]
        refine wp_region_L (by kernel_rfl) (fun w' => w'.cell? ⟨fb, po + 1, none⟩ = some (.int .i64 pw) ∧ w'.rangeAt pbk 0 [.pointer (some ⟨ab, ia * 23, none⟩), .int .i64 j1] ∧ w'.rangeAt (pbk + 1) 0 [.pointer (some ⟨ab, ib * 23, none⟩), .int .i64 j2]) 22 ?_
        have hS0 : (fun w' => w'.cell? ⟨fb, po + 1, none⟩ = some (.int .i64 pw) ∧ w'.rangeAt pbk 0 [.pointer (some ⟨ab, ia * 23, none⟩), .int .i64 j1] ∧ w'.rangeAt (pbk + 1) 0 [.pointer (some ⟨ab, ib * 23, none⟩), .int .i64 j2]) wd.drew := ⟨hp1, x1, x2⟩
        refine AnyL.take 0 (v := ?_) rfl (by kernel_rfl) (by kernel_rfl) (by kernel_rfl) (by kernel_rfl) (fun _ _ _ h => h) (by assumption) (Or.inl ⟨by rfl, ?_⟩) ?_
        rotate_left
        · (intro w' hSw; (try dsimp only at hSw); go_simp; try (with_reducible rfl))
        try simp only [Act.put, List.setIfInBounds_toArray, List.set_cons_zero, List.set_cons_succ]
        refine AnyL.take 1 (v := ?_) rfl (by kernel_rfl) (by kernel_rfl) (by kernel_rfl) (by kernel_rfl) (fun _ _ _ h => h) (by assumption) (Or.inl ⟨by rfl, ?_⟩) ?_
        rotate_left
        · (intro w' hSw; (try dsimp only at hSw); go_simp; try (with_reducible rfl))
        try simp only [Act.put, List.setIfInBounds_toArray, List.set_cons_zero, List.set_cons_succ]
        refine AnyL.take 2 (v := ?_) rfl (by kernel_rfl) (by kernel_rfl) (by kernel_rfl) (by kernel_rfl) (fun _ _ _ h => h) (by assumption) (Or.inl ⟨by rfl, ?_⟩) ?_
        rotate_left
        · (intro w' hSw; (try dsimp only at hSw); go_simp; try (with_reducible rfl))
        try simp only [Act.put, List.setIfInBounds_toArray, List.set_cons_zero, List.set_cons_succ]
        refine AnyL.take 3 (v := ?_) rfl (by kernel_rfl) (by kernel_rfl) (by kernel_rfl) (by kernel_rfl) (fun _ _ _ h => h) (by assumption) (Or.inl ⟨by rfl, ?_⟩) ?_
        rotate_left
        · (intro w' hSw; (try dsimp only at hSw); go_simp; try (with_reducible rfl))
        try simp only [Act.put, List.setIfInBounds_toArray, List.set_cons_zero, List.set_cons_succ]
        refine AnyL.take 4 (v := ?_) rfl (by kernel_rfl) (by kernel_rfl) (by kernel_rfl) (by kernel_rfl) (fun _ _ _ h => h) (by assumption) (Or.inl ⟨by rfl, ?_⟩) ?_
        rotate_left
        · (intro w' hSw; (try dsimp only at hSw); go_simp; try (with_reducible rfl))
        try simp only [Act.put, List.setIfInBounds_toArray, List.set_cons_zero, List.set_cons_succ]
        refine AnyL.take 5 (v := ?_) rfl (by kernel_rfl) (by kernel_rfl) (by kernel_rfl) (by kernel_rfl) (fun _ _ _ h => h) (by assumption) (Or.inl ⟨by rfl, ?_⟩) ?_
        rotate_left
        · (intro w' hSw; (try dsimp only at hSw); go_simp; try (with_reducible rfl))
        try simp only [Act.put, List.setIfInBounds_toArray, List.set_cons_zero, List.set_cons_succ]
        refine AnyL.take 6 (v := ?_) rfl (by kernel_rfl) (by kernel_rfl) (by kernel_rfl) (by kernel_rfl) (fun _ _ _ h => h) (by assumption) (Or.inl ⟨by rfl, ?_⟩) ?_
        rotate_left
        · (intro w' hSw; (try dsimp only at hSw); go_simp; try (with_reducible rfl))
        try simp only [Act.put, List.setIfInBounds_toArray, List.set_cons_zero, List.set_cons_succ]
        refine AnyL.take 7 (v := ?_) rfl (by kernel_rfl) (by kernel_rfl) (by kernel_rfl) (by kernel_rfl) (fun _ _ _ h => h) (by assumption) (Or.inl ⟨by rfl, ?_⟩) ?_
        rotate_left
        · (intro w' hSw; (try dsimp only at hSw); go_simp; try (with_reducible rfl))
        try simp only [Act.put, List.setIfInBounds_toArray, List.set_cons_zero, List.set_cons_succ]
        refine AnyL.take 8 (v := ?_) rfl (by kernel_rfl) (by kernel_rfl) (by kernel_rfl) (by kernel_rfl) (fun _ _ _ h => h) (by assumption) (Or.inl ⟨by rfl, ?_⟩) ?_
        rotate_left
        · (intro w' hSw; (try dsimp only at hSw); go_simp; try (with_reducible rfl))
        try simp only [Act.put, List.setIfInBounds_toArray, List.set_cons_zero, List.set_cons_succ]
        refine AnyL.take 9 (v := ?_) rfl (by kernel_rfl) (by kernel_rfl) (by kernel_rfl) (by kernel_rfl) (fun _ _ _ h => h) (by assumption) (Or.inl ⟨by rfl, ?_⟩) ?_
        rotate_left
        · (intro w' hSw; (try dsimp only at hSw); go_simp; try (with_reducible rfl))
        try simp only [Act.put, List.setIfInBounds_toArray, List.set_cons_zero, List.set_cons_succ]
        refine AnyL.take 10 (v := ?_) rfl (by kernel_rfl) (by kernel_rfl) (by kernel_rfl) (by kernel_rfl) (fun _ _ _ h => h) (by assumption) (Or.inl ⟨by rfl, ?_⟩) ?_
        rotate_left
        · (intro w' hSw; (try dsimp only at hSw); go_simp; try (with_reducible rfl))
        try simp only [Act.put, List.setIfInBounds_toArray, List.set_cons_zero, List.set_cons_succ]
        refine AnyL.take 11 (v := ?_) rfl (by kernel_rfl) (by kernel_rfl) (by kernel_rfl) (by kernel_rfl) (fun _ _ _ h => h) (by assumption) (Or.inl ⟨by rfl, ?_⟩) ?_
        rotate_left
        · (intro w' hSw; (try dsimp only at hSw); go_simp; try (with_reducible rfl))
        try simp only [Act.put, List.setIfInBounds_toArray, List.set_cons_zero, List.set_cons_succ]
        refine AnyL.take 12 (v := ?_) rfl (by kernel_rfl) (by kernel_rfl) (by kernel_rfl) (by kernel_rfl) (fun _ _ _ h => h) (by assumption) (Or.inl ⟨by rfl, ?_⟩) ?_
        rotate_left
        · (intro w' hSw; (try dsimp only at hSw); go_simp; try (with_reducible rfl))
        try simp only [Act.put, List.setIfInBounds_toArray, List.set_cons_zero, List.set_cons_succ]
        refine AnyL.take 13 (v := ?_) rfl (by kernel_rfl) (by kernel_rfl) (by kernel_rfl) (by kernel_rfl) (fun _ _ _ h => h) (by assumption) (Or.inl ⟨by rfl, ?_⟩) ?_
        rotate_left
        · (intro w' hSw; (try dsimp only at hSw); go_simp; try (with_reducible rfl))
        try simp only [Act.put, List.setIfInBounds_toArray, List.set_cons_zero, List.set_cons_succ]
        refine AnyL.take 14 (v := ?_) rfl (by kernel_rfl) (by kernel_rfl) (by kernel_rfl) (by kernel_rfl) (fun _ _ _ h => h) (by assumption) (Or.inl ⟨by rfl, ?_⟩) ?_
        rotate_left
        · (intro w' hSw; (try dsimp only at hSw); go_simp; try (with_reducible rfl))
        try simp only [Act.put, List.setIfInBounds_toArray, List.set_cons_zero, List.set_cons_succ]
        refine AnyL.take 15 (v := ?_) rfl (by kernel_rfl) (by kernel_rfl) (by kernel_rfl) (by kernel_rfl) (fun _ _ _ h => h) (by assumption) (Or.inl ⟨by rfl, ?_⟩) ?_
        rotate_left
        · (intro w' hSw; (try dsimp only at hSw); go_simp; try (with_reducible rfl))
        try simp only [Act.put, List.setIfInBounds_toArray, List.set_cons_zero, List.set_cons_succ]
        refine AnyL.take 16 (v := ?_) rfl (by kernel_rfl) (by kernel_rfl) (by kernel_rfl) (by kernel_rfl) (fun _ _ _ h => h) (by assumption) (Or.inl ⟨by rfl, ?_⟩) ?_
        rotate_left
        · (intro w' hSw; (try dsimp only at hSw); go_simp; try (with_reducible rfl))
        try simp only [Act.put, List.setIfInBounds_toArray, List.set_cons_zero, List.set_cons_succ]
        refine AnyL.take 17 rfl (by kernel_rfl) (by kernel_rfl) (by kernel_rfl) (by kernel_rfl) (fun _ _ _ h => h) (by assumption) (yieldsIf_load_mid (by rfl) _ _ rfl pbk 0 rfl [.pointer (some ⟨ab, ia * 23, none⟩), .int .i64 j1] _ (fun w' h => h.2.1) hup rfl hip) ?_
        try simp only [Act.put, List.setIfInBounds_toArray, List.set_cons_zero, List.set_cons_succ]
        refine AnyL.take 18 rfl (by kernel_rfl) (by kernel_rfl) (by kernel_rfl) (by kernel_rfl) (fun _ _ _ h => h) (by assumption) (yieldsIf_load_mid (by rfl) _ _ rfl (pbk + 1) 0 rfl [.pointer (some ⟨ab, ib * 23, none⟩), .int .i64 j2] _ (fun w' h => h.2.2) hup rfl hip) ?_
        try simp only [Act.put, List.setIfInBounds_toArray, List.set_cons_zero, List.set_cons_succ]
        refine AnyL.take 19 (v := ?_) rfl (by kernel_rfl) (by kernel_rfl) (by kernel_rfl) (by kernel_rfl) (fun _ _ _ h => h) (by assumption) (Or.inl ⟨by rfl, ?_⟩) ?_
        rotate_left
        · (intro w' hSw; (try dsimp only at hSw); go_simp; try (with_reducible rfl))
        try simp only [Act.put, List.setIfInBounds_toArray, List.set_cons_zero, List.set_cons_succ]
        refine AnyL.take 20 (v := ?_) rfl (by kernel_rfl) (by kernel_rfl) (by kernel_rfl) (by kernel_rfl) (fun _ _ _ h => h) (by assumption) (Or.inl ⟨by rfl, ?_⟩) ?_
        rotate_left
        · (intro w' hSw; (try dsimp only at hSw); go_simp; try (with_reducible rfl))
        try simp only [Act.put, List.setIfInBounds_toArray, List.set_cons_zero, List.set_cons_succ]
        refine AnyL.take 21 (v := ?_) rfl (by kernel_rfl) (by kernel_rfl) (by kernel_rfl) (by kernel_rfl) (fun _ _ _ h => h) (by assumption) (Or.inl ⟨by rfl, ?_⟩) ?_
        rotate_left
        · (intro w' hSw; (try dsimp only at hSw); go_simp; try (with_reducible rfl))
        try simp only [Act.put, List.setIfInBounds_toArray, List.set_cons_zero, List.set_cons_succ]
        refine AnyL.one 22 (by kernel_rfl) rfl (fun K hK => ?_)
        go_simp
        go_at_call 97
        refine Hl.out.mono ?_
        rintro r we ⟨rfl, oe⟩
        refine hK _ _ (fun h => (h rfl).elim) (fun _ => ?_)
        clear hK K hS0
        try simp only [Act.put, List.setIfInBounds_toArray, List.set_cons_zero, List.set_cons_succ]
        refine AnyL.done (by kernel_rfl) ?_ _
        have OE := Lib.hid (OD.out.drew.trans oe)
        clear oe x1 x2 Hl
        go_wp2
        go_roundw
        case rel => exact ⟨i + 1, by omega, by go_num, OE.out⟩
        case measure => simp [intOf] <;> omega
      · obtain rfl : s = 0 := by omega
        go_wp2
        go_roundw
        case rel => exact ⟨i + 1, by omega, by go_num, OD.out⟩
        case measure => simp [intOf] <;> omega
    · obtain rfl : i = 4 := by omega
      have HO := Lib.hid ho
      clear ho
      go_wp2
      go_end0
      exact ⟨rfl, HO.out⟩

set_option maxRecDepth 100000 in
set_option maxHeartbeats 3200000 in
theorem fl_edge_lv {w : World} {fb cb ab wide high n cap pw side nn k x y e : Nat} {R : Int → Prop} (hf : w.cell? ⟨fb, 0, none⟩ = some (.pointer (some ⟨cb, 0, none⟩))) (hw : w.cell? ⟨cb, 0, none⟩ = some (.int .i64 wide)) (ha : w.cell? ⟨cb, 7, none⟩ = some (.slice (some ⟨ab, 0, none⟩) n cap))
    (hk : k < 3) (h1 : w.cell? ⟨fb, 2 + 3 * k + 1, none⟩ = some (.int .i64 pw)) (h2 : w.cell? ⟨fb, 2 + 3 * k + 2, none⟩ = some (.int .i64 side)) (hside : side / 4 = nn) (hs16 : side ≤ 16) (hpw : pw = 4 * wide * nn) (hn : n = wide * high) (hw60 : wide ≤ 60) (hh60 : high ≤ 60)
    (hx : x < wide) (hy : y < high) (he : e < 4) (hb : 4 ≤ (4 * y + e) * nn) (hb2 : (4 * y + e) * nn + 4 ≤ 4 * high * nn)
    (hS : StrengthGives w ab n R) (hL : LinesKeep w fb (2 + 3 * k) ab n pw (4 * high * nn) nn (decide (0 < k)) R) :
    Calls Tryz.prog 68 #[.pointer (some ⟨fb, 0, none⟩), .int .i64 x, .int .i64 y, .int .i64 e, .int .i64 k, .bool false] w fun r w' => r = .returned (.tuple #[]) ∧ Only [] w w' := by
  have hnn : nn ≤ 4 := by omega
  have hn0 : 1 ≤ nn := by
    rcases Nat.eq_zero_or_pos nn with h | h
    · rw [h, Nat.mul_zero] at hb; omega
    · exact h
  have qs : IntKind.i64.wrap ((side : Int).tdiv 4) = (nn : Int) := by rw [Int.tdiv_eq_ediv_of_nonneg (by omega), show (side : Int) / 4 = (nn : Int) by omega]; exact i64n _ (by omega)
  have hn2 : n ≤ 3600 := by rw [hn]; exact Nat.le_trans (Nat.mul_le_mul hw60 hh60) (by omega)
  obtain ⟨po, hpo⟩ : ∃ po, po = 2 + 3 * k := ⟨_, rfl⟩
  have hfb := World.block_lt_of_cell? w _ hf
  have hkk : decide ((0 : Int) < (k : Int)) = decide (0 < k) := by simp
  rw [← hpo] at h1 h2 hL
  have hpo3 : 2 + k * 3 = po := by omega
  have hAt := fun (wx : World) (hx : Only [] w wx) => @fl_at wx fb cb ab wide n cap (hx.cell hf (by simp)) (hx.cell hw (by simp)) (hx.cell ha (by simp))
  have HPW := Lib.hid hpw
  have HN := Lib.hid hn
  have hsd : (side : Int) / 4 = (nn : Int) := by omega
  have HAt := Lib.hid hAt
  have HS := Lib.hid hS
  have HL := Lib.hid hL
  have O0 : Hid (Only [] w w) := Lib.hid (Only.refl [] w)
  clear hS hL hAt hf hw ha hpo hpw hn hside qs
  go_enter Tryz.func68, Tryz.ntmps68
  go_wp2
  go_loopw [34] (fun q wr => ∃ i : Nat, i ≤ 4 ∧ q = .int .i64 i ∧ Only [] w wr) (fun q _ => 4 - (intOf q).toNat)
  case atStart => exact ⟨0, by omega, rfl, O0.out⟩
  case round =>
    obtain ⟨i, hi, rfl, ho⟩ := hrel
    by_cases hlt : i < 4
    · obtain ⟨x4, hx4⟩ : ∃ x4 : Nat, x4 = 4 * x := ⟨_, rfl⟩
      obtain ⟨y4, hy4⟩ : ∃ y4 : Nat, y4 = 4 * y := ⟨_, rfl⟩
      obtain ⟨bx, hbx⟩ : ∃ bx : Nat, bx = x4 + i := ⟨_, rfl⟩
      obtain ⟨by1, hby⟩ : ∃ by1 : Nat, by1 = y4 + e := ⟨_, rfl⟩
      obtain ⟨cx, hcx⟩ : ∃ cx : Nat, cx = bx := ⟨_, rfl⟩
      obtain ⟨cy, hcy⟩ : ∃ cy : Nat, cy = by1 - 1 := ⟨_, rfl⟩
      have hb1 : 1 ≤ by1 := by
        rcases Nat.eq_zero_or_pos (4 * y + e) with h | h
        · rw [h, Nat.zero_mul] at hb; omega
        · omega
      obtain ⟨t1, ht1⟩ : ∃ t1 : Nat, t1 = by1 * nn := ⟨_, rfl⟩
      obtain ⟨t2, ht2⟩ : ∃ t2 : Nat, t2 = t1 * pw := ⟨_, rfl⟩
      obtain ⟨t3, ht3⟩ : ∃ t3 : Nat, t3 = bx * nn := ⟨_, rfl⟩
      obtain ⟨at0, hat0⟩ : ∃ at0 : Nat, at0 = t2 + t3 := ⟨_, rfl⟩
      have l1 : t1 ≤ 960 := by rw [ht1]; exact Nat.le_trans (Nat.mul_le_mul (by omega : by1 ≤ 240) hnn) (by omega)
      have lp : pw ≤ 960 := by rw [HPW.out]; exact Nat.le_trans (Nat.mul_le_mul (by omega : 4 * wide ≤ 240) hnn) (by omega)
      have l2 : t2 ≤ 921600 := by rw [ht2]; exact Nat.le_trans (Nat.mul_le_mul l1 lp) (by omega)
      have l3 : t3 ≤ 960 := by rw [ht3]; exact Nat.le_trans (Nat.mul_le_mul (by omega : bx ≤ 240) hnn) (by omega)
      have r1 : IntKind.i64.wrap (4 * (x : Int)) = (x4 : Int) := by rw [show 4 * (x : Int) = (x4 : Int) by omega]; exact i64n _ (by omega)
      have r2 : IntKind.i64.wrap (4 * (y : Int)) = (y4 : Int) := by rw [show 4 * (y : Int) = (y4 : Int) by omega]; exact i64n _ (by omega)
      have r3 : IntKind.i64.wrap ((x4 : Int) + i) = (bx : Int) := by rw [show (x4 : Int) + i = (bx : Int) by omega]; exact i64n _ (by omega)
      have r4 : IntKind.i64.wrap ((y4 : Int) + e) = (by1 : Int) := by rw [show (y4 : Int) + e = (by1 : Int) by omega]; exact i64n _ (by omega)
      have r5 : IntKind.i64.wrap ((by1 : Int) - 1) = (cy : Int) := by rw [show (by1 : Int) - 1 = (cy : Int) by omega]; exact i64n _ (by omega)
      have r6 : IntKind.i64.wrap ((bx : Int)) = (cx : Int) := by rw [show (bx : Int) = (cx : Int) by omega]; exact i64n _ (by omega)
      have r7 : IntKind.i64.wrap ((by1 : Int) * nn) = (t1 : Int) := by rw [← Int.natCast_mul, ← ht1]; exact i64n _ (by omega)
      have r8 : IntKind.i64.wrap ((t1 : Int) * pw) = (t2 : Int) := by rw [← Int.natCast_mul, ← ht2]; exact i64n _ (by omega)
      have r9 : IntKind.i64.wrap ((bx : Int) * nn) = (t3 : Int) := by rw [← Int.natCast_mul, ← ht3]; exact i64n _ (by omega)
      have r10 : IntKind.i64.wrap ((t2 : Int) + t3) = (at0 : Int) := by rw [← Int.natCast_add, ← hat0]; exact i64n _ (by omega)
      obtain ⟨ia, hia⟩ : ∃ ia, ia = cy / 4 * wide + cx / 4 := ⟨_, rfl⟩
      obtain ⟨ib, hib⟩ : ∃ ib, ib = by1 / 4 * wide + bx / 4 := ⟨_, rfl⟩
      have hin : ∀ a b : Nat, a ≤ y → b ≤ x → a * wide + b < n := fun a b h1 h2 => by
        rw [HN.out, Nat.mul_comm wide high]
        exact Nat.lt_of_lt_of_le (by omega : a * wide + b < a * wide + wide) (by rw [← Nat.succ_mul]; exact Nat.mul_le_mul (by omega) (Nat.le_refl _))
      have la : ia < n := by rw [hia]; exact hin _ _ (by omega) (by omega)
      have lb : ib < n := by rw [hib]; exact hin _ _ (by omega) (by omega)
      have hatp : at0 = t1 * pw + t3 := by rw [hat0, ht2]
      have hX : t3 + nn ≤ pw := by
        rw [ht3, HPW.out, ← Nat.succ_mul]
        exact Nat.mul_le_mul (by omega) (Nat.le_refl _)
      have hY : t1 + nn ≤ 4 * high * nn := by
        rw [ht1, ← Nat.succ_mul]
        exact Nat.mul_le_mul (by omega) (Nat.le_refl _)
      have hcs : 4 ≤ t1 ∧ t1 + 4 ≤ 4 * high * nn := by
        rw [ht1, hby, hy4]
        exact ⟨hb, hb2⟩
      have w1 := ho.cell h1 (by simp)
      have w2 := ho.cell h2 (by simp)
      have HO := Lib.hid ho
      have HX := Lib.hid (And.intro hX (And.intro hY hcs))
      have HAT := Lib.hid hatp
      have HIA := Lib.hid (And.intro hia hib)
      have HBB : Hid (bx ≤ 240 ∧ by1 ≤ 240 ∧ cx ≤ 240 ∧ cy ≤ 240) := Lib.hid (by omega)
      clear ho hX hY hcs hatp hia hib hx4 hy4 hbx hby hcx hcy ht1 ht2 ht3 hat0 hin
      go_wp2_with fail
      go_quiet (fail)
      rename_i nq
      have w1 : (wr.drewN nq).cell? ⟨fb, po + 1, none⟩ = some (.int .i64 pw) := w1
      have HO := Lib.hid (HO.out.drewN nq)
      clear w2
      generalize wr.drewN nq = wr at *
      go_wp2_with fail
      refine (HAt.out _ HO.out cx cy ia (by have := HBB.out; omega) (by have := HBB.out; omega) HIA.out.1 la hn2).mono ?_
      rintro r wa ⟨j1, rfl, oa⟩
      have OA := Lib.hid (HO.out.trans oa)
      clear oa HO
      go_wp2_with fail
      refine (HAt.out _ OA.out bx by1 ib (by have := HBB.out; omega) (by have := HBB.out; omega) HIA.out.2 lb hn2).mono ?_
      rintro r wb ⟨j2, rfl, ob⟩
      have OB := Lib.hid (OA.out.trans ob)
      clear ob OA w1
      go_wp2_with fail
      have A1 := Lib.hid (heap_alloc2_old wb (.cells #[.pointer (some ⟨ab, ia * 23, none⟩), .int .i64 j1] 196) (.cells #[.pointer (some ⟨ab, ib * 23, none⟩), .int .i64 j2] 196))
      have A2 := Lib.hid (heap_alloc2_new wb (.cells #[.pointer (some ⟨ab, ia * 23, none⟩), .int .i64 j1] 196) (.cells #[.pointer (some ⟨ab, ib * 23, none⟩), .int .i64 j2] 196))
      have OC : Hid (Only [] w ((wb.alloc (.cells #[.pointer (some ⟨ab, ia * 23, none⟩), .int .i64 j1] 196)).alloc (.cells #[.pointer (some ⟨ab, ib * 23, none⟩), .int .i64 j2] 196))) := Lib.hid ((OB.out.alloc _).alloc _)
      generalize ((wb.alloc (.cells #[.pointer (some ⟨ab, ia * 23, none⟩), .int .i64 j1] 196)).alloc (.cells #[.pointer (some ⟨ab, ib * 23, none⟩), .int .i64 j2] 196)) = wc at *
      refine (HS.out _ OC.out ia ib j1 j2 _ la lb).mono ?_
      rintro r wd ⟨s, rfl, hR, hs0, od⟩
      have D1 := Lib.hid (od.heap A1.out (by simp))
      have D2 := Lib.hid (od.heap A2.out (by simp))
      have OD := Lib.hid (OC.out.trans od)
      have hp1 := od.cell (OC.out.cell h1 (by simp)) (by simp)
      generalize wb.heap.size = pbk at *
      clear od OC OB A1 A2
      by_cases hs : 0 < s
      · have hup := Tryz.underlying196
        have hip : (Tryz.prog.info? 196).map (·.size) = some 2 := by kernel_rfl
        have gt0 : decide (s > 0) = true := decide_eq_true hs
        have hl := HL.out _ OD.out.drew ia ib t3 t1 1 pw j1 j2 s la lb hR hs HX.out.1 HX.out.2.1 (.inr ⟨rfl, rfl, HX.out.2.2⟩)
        rw [← HAT.out] at hl
        have Hl := Lib.hid hl
        clear hl
        go_wp2_with fail
        have x1 : wd.drew.rangeAt pbk 0 [.pointer (some ⟨ab, ia * 23, none⟩), .int .i64 j1] := fun j v hj => by rw [Nat.zero_add, cells_of (show wd.drew.heap[pbk]? = _ from D1.out), ← hj, List.getElem?_toArray]
        have x2 : wd.drew.rangeAt (pbk + 1) 0 [.pointer (some ⟨ab, ib * 23, none⟩), .int .i64 j2] := fun j v hj => by rw [Nat.zero_add, cells_of (show wd.drew.heap[pbk + 1]? = _ from D2.out), ← hj, List.getElem?_toArray]
        refine wp_region_L (by kernel_rfl) (fun w' => w'.cell? ⟨fb, po + 1, none⟩ = some (.int .i64 pw) ∧ w'.rangeAt pbk 0 [.pointer (some ⟨ab, ia * 23, none⟩), .int .i64 j1] ∧ w'.rangeAt (pbk + 1) 0 [.pointer (some ⟨ab, ib * 23, none⟩), .int .i64 j2]) 22 ?_
        have hS0 : (fun w' => w'.cell? ⟨fb, po + 1, none⟩ = some (.int .i64 pw) ∧ w'.rangeAt pbk 0 [.pointer (some ⟨ab, ia * 23, none⟩), .int .i64 j1] ∧ w'.rangeAt (pbk + 1) 0 [.pointer (some ⟨ab, ib * 23, none⟩), .int .i64 j2]) wd.drew := ⟨hp1, x1, x2⟩
        refine AnyL.take 0 (v := ?_) rfl (by kernel_rfl) (by kernel_rfl) (by kernel_rfl) (by kernel_rfl) (fun _ _ _ h => h) (by assumption) (Or.inl ⟨by rfl, ?_⟩) ?_
        rotate_left
        · (intro w' hSw; (try dsimp only at hSw); go_simp; try (with_reducible rfl))
        try simp only [Act.put, List.setIfInBounds_toArray, List.set_cons_zero, List.set_cons_succ]
        refine AnyL.take 1 (v := ?_) rfl (by kernel_rfl) (by kernel_rfl) (by kernel_rfl) (by kernel_rfl) (fun _ _ _ h => h) (by assumption) (Or.inl ⟨by rfl, ?_⟩) ?_
        rotate_left
        · (intro w' hSw; (try dsimp only at hSw); go_simp; try (with_reducible rfl))
        try simp only [Act.put, List.setIfInBounds_toArray, List.set_cons_zero, List.set_cons_succ]
        refine AnyL.take 2 (v := ?_) rfl (by kernel_rfl) (by kernel_rfl) (by kernel_rfl) (by kernel_rfl) (fun _ _ _ h => h) (by assumption) (Or.inl ⟨by rfl, ?_⟩) ?_
        rotate_left
        · (intro w' hSw; (try dsimp only at hSw); go_simp; try (with_reducible rfl))
        try simp only [Act.put, List.setIfInBounds_toArray, List.set_cons_zero, List.set_cons_succ]
        refine AnyL.take 3 (v := ?_) rfl (by kernel_rfl) (by kernel_rfl) (by kernel_rfl) (by kernel_rfl) (fun _ _ _ h => h) (by assumption) (Or.inl ⟨by rfl, ?_⟩) ?_
        rotate_left
        · (intro w' hSw; (try dsimp only at hSw); go_simp; try (with_reducible rfl))
        try simp only [Act.put, List.setIfInBounds_toArray, List.set_cons_zero, List.set_cons_succ]
        refine AnyL.take 4 (v := ?_) rfl (by kernel_rfl) (by kernel_rfl) (by kernel_rfl) (by kernel_rfl) (fun _ _ _ h => h) (by assumption) (Or.inl ⟨by rfl, ?_⟩) ?_
        rotate_left
        · (intro w' hSw; (try dsimp only at hSw); go_simp; try (with_reducible rfl))
        try simp only [Act.put, List.setIfInBounds_toArray, List.set_cons_zero, List.set_cons_succ]
        refine AnyL.take 5 (v := ?_) rfl (by kernel_rfl) (by kernel_rfl) (by kernel_rfl) (by kernel_rfl) (fun _ _ _ h => h) (by assumption) (Or.inl ⟨by rfl, ?_⟩) ?_
        rotate_left
        · (intro w' hSw; (try dsimp only at hSw); go_simp; try (with_reducible rfl))
        try simp only [Act.put, List.setIfInBounds_toArray, List.set_cons_zero, List.set_cons_succ]
        refine AnyL.take 6 (v := ?_) rfl (by kernel_rfl) (by kernel_rfl) (by kernel_rfl) (by kernel_rfl) (fun _ _ _ h => h) (by assumption) (Or.inl ⟨by rfl, ?_⟩) ?_
        rotate_left
        · (intro w' hSw; (try dsimp only at hSw); go_simp; try (with_reducible rfl))
        try simp only [Act.put, List.setIfInBounds_toArray, List.set_cons_zero, List.set_cons_succ]
        refine AnyL.take 7 (v := ?_) rfl (by kernel_rfl) (by kernel_rfl) (by kernel_rfl) (by kernel_rfl) (fun _ _ _ h => h) (by assumption) (Or.inl ⟨by rfl, ?_⟩) ?_
        rotate_left
        · (intro w' hSw; (try dsimp only at hSw); go_simp; try (with_reducible rfl))
        try simp only [Act.put, List.setIfInBounds_toArray, List.set_cons_zero, List.set_cons_succ]
        refine AnyL.take 8 (v := ?_) rfl (by kernel_rfl) (by kernel_rfl) (by kernel_rfl) (by kernel_rfl) (fun _ _ _ h => h) (by assumption) (Or.inl ⟨by rfl, ?_⟩) ?_
        rotate_left
        · (intro w' hSw; (try dsimp only at hSw); go_simp; try (with_reducible rfl))
        try simp only [Act.put, List.setIfInBounds_toArray, List.set_cons_zero, List.set_cons_succ]
        refine AnyL.take 9 (v := ?_) rfl (by kernel_rfl) (by kernel_rfl) (by kernel_rfl) (by kernel_rfl) (fun _ _ _ h => h) (by assumption) (Or.inl ⟨by rfl, ?_⟩) ?_
        rotate_left
        · (intro w' hSw; (try dsimp only at hSw); go_simp; try (with_reducible rfl))
        try simp only [Act.put, List.setIfInBounds_toArray, List.set_cons_zero, List.set_cons_succ]
        refine AnyL.take 10 (v := ?_) rfl (by kernel_rfl) (by kernel_rfl) (by kernel_rfl) (by kernel_rfl) (fun _ _ _ h => h) (by assumption) (Or.inl ⟨by rfl, ?_⟩) ?_
        rotate_left
        · (intro w' hSw; (try dsimp only at hSw); go_simp; try (with_reducible rfl))
        try simp only [Act.put, List.setIfInBounds_toArray, List.set_cons_zero, List.set_cons_succ]
        refine AnyL.take 11 (v := ?_) rfl (by kernel_rfl) (by kernel_rfl) (by kernel_rfl) (by kernel_rfl) (fun _ _ _ h => h) (by assumption) (Or.inl ⟨by rfl, ?_⟩) ?_
        rotate_left
        · (intro w' hSw; (try dsimp only at hSw); go_simp; try (with_reducible rfl))
        try simp only [Act.put, List.setIfInBounds_toArray, List.set_cons_zero, List.set_cons_succ]
        refine AnyL.take 12 (v := ?_) rfl (by kernel_rfl) (by kernel_rfl) (by kernel_rfl) (by kernel_rfl) (fun _ _ _ h => h) (by assumption) (Or.inl ⟨by rfl, ?_⟩) ?_
        rotate_left
        · (intro w' hSw; (try dsimp only at hSw); go_simp; try (with_reducible rfl))
        try simp only [Act.put, List.setIfInBounds_toArray, List.set_cons_zero, List.set_cons_succ]
        refine AnyL.take 13 (v := ?_) rfl (by kernel_rfl) (by kernel_rfl) (by kernel_rfl) (by kernel_rfl) (fun _ _ _ h => h) (by assumption) (Or.inl ⟨by rfl, ?_⟩) ?_
        rotate_left
        · (intro w' hSw; (try dsimp only at hSw); go_simp; try (with_reducible rfl))
        try simp only [Act.put, List.setIfInBounds_toArray, List.set_cons_zero, List.set_cons_succ]
        refine AnyL.take 14 (v := ?_) rfl (by kernel_rfl) (by kernel_rfl) (by kernel_rfl) (by kernel_rfl) (fun _ _ _ h => h) (by assumption) (Or.inl ⟨by rfl, ?_⟩) ?_
        rotate_left
        · (intro w' hSw; (try dsimp only at hSw); go_simp; try (with_reducible rfl))
        try simp only [Act.put, List.setIfInBounds_toArray, List.set_cons_zero, List.set_cons_succ]
        refine AnyL.take 15 (v := ?_) rfl (by kernel_rfl) (by kernel_rfl) (by kernel_rfl) (by kernel_rfl) (fun _ _ _ h => h) (by assumption) (Or.inl ⟨by rfl, ?_⟩) ?_
        rotate_left
        · (intro w' hSw; (try dsimp only at hSw); go_simp; try (with_reducible rfl))
        try simp only [Act.put, List.setIfInBounds_toArray, List.set_cons_zero, List.set_cons_succ]
        refine AnyL.take 16 (v := ?_) rfl (by kernel_rfl) (by kernel_rfl) (by kernel_rfl) (by kernel_rfl) (fun _ _ _ h => h) (by assumption) (Or.inl ⟨by rfl, ?_⟩) ?_
        rotate_left
        · (intro w' hSw; (try dsimp only at hSw); go_simp; try (with_reducible rfl))
        try simp only [Act.put, List.setIfInBounds_toArray, List.set_cons_zero, List.set_cons_succ]
        refine AnyL.take 17 rfl (by kernel_rfl) (by kernel_rfl) (by kernel_rfl) (by kernel_rfl) (fun _ _ _ h => h) (by assumption) (yieldsIf_load_mid (by rfl) _ _ rfl pbk 0 rfl [.pointer (some ⟨ab, ia * 23, none⟩), .int .i64 j1] _ (fun w' h => h.2.1) hup rfl hip) ?_
        try simp only [Act.put, List.setIfInBounds_toArray, List.set_cons_zero, List.set_cons_succ]
        refine AnyL.take 18 rfl (by kernel_rfl) (by kernel_rfl) (by kernel_rfl) (by kernel_rfl) (fun _ _ _ h => h) (by assumption) (yieldsIf_load_mid (by rfl) _ _ rfl (pbk + 1) 0 rfl [.pointer (some ⟨ab, ib * 23, none⟩), .int .i64 j2] _ (fun w' h => h.2.2) hup rfl hip) ?_
        try simp only [Act.put, List.setIfInBounds_toArray, List.set_cons_zero, List.set_cons_succ]
        refine AnyL.take 19 (v := ?_) rfl (by kernel_rfl) (by kernel_rfl) (by kernel_rfl) (by kernel_rfl) (fun _ _ _ h => h) (by assumption) (Or.inl ⟨by rfl, ?_⟩) ?_
        rotate_left
        · (intro w' hSw; (try dsimp only at hSw); go_simp; try (with_reducible rfl))
        try simp only [Act.put, List.setIfInBounds_toArray, List.set_cons_zero, List.set_cons_succ]
        refine AnyL.take 20 (v := ?_) rfl (by kernel_rfl) (by kernel_rfl) (by kernel_rfl) (by kernel_rfl) (fun _ _ _ h => h) (by assumption) (Or.inl ⟨by rfl, ?_⟩) ?_
        rotate_left
        · (intro w' hSw; (try dsimp only at hSw); go_simp; try (with_reducible rfl))
        try simp only [Act.put, List.setIfInBounds_toArray, List.set_cons_zero, List.set_cons_succ]
        refine AnyL.take 21 (v := ?_) rfl (by kernel_rfl) (by kernel_rfl) (by kernel_rfl) (by kernel_rfl) (fun _ _ _ h => h) (by assumption) (Or.inl ⟨by rfl, ?_⟩) ?_
        rotate_left
        · (intro w' hSw; (try dsimp only at hSw); go_simp; try (with_reducible rfl))
        try simp only [Act.put, List.setIfInBounds_toArray, List.set_cons_zero, List.set_cons_succ]
        refine AnyL.one 22 (by kernel_rfl) rfl (fun K hK => ?_)
        go_simp
        go_at_call 97
        refine Hl.out.mono ?_
        rintro r we ⟨rfl, oe⟩
        refine hK _ _ (fun h => (h rfl).elim) (fun _ => ?_)
        clear hK K hS0
        try simp only [Act.put, List.setIfInBounds_toArray, List.set_cons_zero, List.set_cons_succ]
        refine AnyL.done (by kernel_rfl) ?_ _
        have OE := Lib.hid (OD.out.drew.trans oe)
        clear oe x1 x2 Hl
        go_wp2
        go_roundw
        case rel => exact ⟨i + 1, by omega, by go_num, OE.out⟩
        case measure => simp [intOf] <;> omega
      · obtain rfl : s = 0 := by omega
        go_wp2
        go_roundw
        case rel => exact ⟨i + 1, by omega, by go_num, OD.out⟩
        case measure => simp [intOf] <;> omega
    · obtain rfl : i = 4 := by omega
      have HO := Lib.hid ho
      clear ho
      go_wp2
      go_end0
      exact ⟨rfl, HO.out⟩
end Go.Proofs.YtcmehedjdfopdaaGreat
