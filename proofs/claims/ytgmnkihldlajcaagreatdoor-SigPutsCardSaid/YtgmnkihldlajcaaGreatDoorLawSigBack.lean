/-
  SigBack: blocks come back as they were.
-/
import Derived.Test.YtgmnkihldlajcaaGreatDoorLaw8Awake
import Derived.Test.YtgmnkihldlajcaaGreatDoorDoor3
namespace Go.Proofs.YtgmnkihldlajcaaGreatDoor
open Go.RowKit

/-- May a block be; its acts. -/
def Blk.fine (y : Blk) : Bool := blkFine y.cs y.cat y.inc
def Blk.deeds (y : Blk) : List Deed := sigDeeds y.cs y.cat y.inc
def doneBlks (ys : List Blk) (j : Nat) : List Blk := (ys.take j).filter Blk.fine
def blksOps (D : List Blk) : List Deed := D.flatMap Blk.deeds
theorem doneBlks_fine (ys : List Blk) (j : Nat) : ∀ a ∈ doneBlks ys j, a.fine = true := fun _ h => (List.mem_filter.1 h).2
theorem doneBlks_mem (ys : List Blk) (j : Nat) : ∀ a ∈ doneBlks ys j, a ∈ ys := fun _ h => List.mem_of_mem_take (List.mem_filter.1 h).1
theorem doneBlks_length (ys : List Blk) (j : Nat) : (doneBlks ys j).length ≤ j := by
  have := List.length_filter_le Blk.fine (ys.take j)
  have := List.length_take_le j ys
  unfold doneBlks
  omega
theorem doneBlks_step (ys : List Blk) (j : Nat) (h : j < ys.length) : doneBlks ys (j + 1) = if (ys.getD j blk0).fine then doneBlks ys j ++ [ys.getD j blk0] else doneBlks ys j := by
  unfold doneBlks
  have he : ys.getD j blk0 = ys[j] := by simp [List.getD, List.getElem?_eq_getElem h]
  rw [List.take_add_one, List.getElem?_eq_getElem h, List.filter_append, he]
  by_cases hf : ys[j].fine = true <;> simp [hf]
theorem Blk.spec {y : Blk} (h : y.fine = true) : mayB y.cs.length y.cat y.inc = true ∧ rangeB y.cs = true := blkFine_spec h
theorem Blk.small {y : Blk} (h : y.fine = true) : y.cs.length ≤ 16 ∧ 0 ≤ y.cat ∧ 0 ≤ y.inc := by
  obtain ⟨h1, h2, h3, h4, h5⟩ := mayB_spec (Blk.spec h).1
  omega
theorem Blk.deeds_fits {y : Blk} (h : y.fine = true) : ∀ o ∈ y.deeds, o.fits 256 := sigDeeds_fits _ _ _ (Blk.small h).2.1 (Blk.small h).2.2
theorem Blk.deeds_length {y : Blk} (h : y.fine = true) : y.deeds.length ≤ 5000 := sigDeeds_length _ _ _ (Blk.small h).1
theorem blksOps_fits (D : List Blk) (h : ∀ a ∈ D, a.fine = true) : ∀ o ∈ blksOps D, o.fits 256 := by
  intro o ho
  obtain ⟨a, ha, hoa⟩ := List.mem_flatMap.1 ho
  exact Blk.deeds_fits (h a ha) o hoa
theorem blksOps_length (D : List Blk) (h : ∀ a ∈ D, a.fine = true) : (blksOps D).length ≤ 5000 * D.length := by
  induction D with
  | nil => simp [blksOps]
  | cons a D ih =>
    have h1 := Blk.deeds_length (h a (by simp))
    have h2 : (blksOps (a :: D)).length = a.deeds.length + (blksOps D).length := by simp [blksOps]
    have h3 := ih (fun b hb => h b (by simp [hb]))
    rw [h2, List.length_cons]
    omega
theorem blksOps_snoc (D : List Blk) (a : Blk) : blksOps (D ++ [a]) = blksOps D ++ a.deeds := by simp [blksOps]
theorem blksOps_split (D : List Blk) (p : Nat) (h : p < D.length) : (blksOps D).drop (blksOps (D.take p)).length = (D.getD p blk0).deeds ++ blksOps (D.drop (p + 1)) ∧ (blksOps (D.take (p + 1))).length = (blksOps (D.take p)).length + (D.getD p blk0).deeds.length := by
  have he : D.getD p blk0 = D[p] := by simp [List.getD, List.getElem?_eq_getElem h]
  have h1 : blksOps D = blksOps (D.take p) ++ ((D.getD p blk0).deeds ++ blksOps (D.drop (p + 1))) := by
    have h2 : D = D.take p ++ (D.getD p blk0 :: D.drop (p + 1)) := by
      rw [he, ← List.drop_eq_getElem_cons h, List.take_append_drop]
    have h3 : blksOps (D.take p ++ (D.getD p blk0 :: D.drop (p + 1))) = blksOps (D.take p) ++ ((D.getD p blk0).deeds ++ blksOps (D.drop (p + 1))) := by simp [blksOps]
    rw [← h3, ← h2]
  constructor
  · rw [h1, List.drop_left]
  · rw [List.take_add_one, List.getElem?_eq_getElem h, he]
    show (blksOps (D.take p ++ [D[p]])).length = _
    rw [blksOps_snoc, List.length_append]
/-- The cells of such rows. -/
def blkCells (y : Blk) : List Value := [y.u, .int .i64 y.cat, .int .i64 y.inc]
def flatBlks (D : List Blk) : List Value := D.flatMap blkCells
theorem flatBlks_snoc (D : List Blk) (a : Blk) : flatBlks (D ++ [a]) = flatBlks D ++ blkCells a := by simp [flatBlks]
theorem flatBlks_at (D : List Blk) : ∀ (p q : Nat), p < D.length → q < 3 → (flatBlks D)[p * 3 + q]? = (blkCells (D.getD p blk0))[q]? := by
  induction D with
  | nil => intro p q h; simp at h
  | cons a D ih =>
    intro p q hp hq
    have hl : (blkCells a).length = 3 := rfl
    have hc : flatBlks (a :: D) = blkCells a ++ flatBlks D := by simp [flatBlks]
    rw [hc]
    cases p with
    | zero =>
      rw [List.getElem?_append_left (by omega)]
      simp
    | succ p =>
      rw [List.getElem?_append_right (by omega), hl, show (p + 1) * 3 + q - 3 = p * 3 + q by omega, ih p q (by simpa using hp) hq]
      simp [List.getD]
theorem blkCode_ok (y : Blk) : blkCode y.cs y.cat y.inc = 0 ∧ y.fine = true ∨ blkCode y.cs y.cat y.inc ≠ 0 ∧ y.fine = false := by
  unfold blkCode Blk.fine blkFine
  cases mayB y.cs.length y.cat y.inc <;> cases rangeB y.cs <;> simp

theorem eltBlk : Elt Tryz.prog 22 31 (.agg #[.slice none 0 0, .int .i64 0, .int .i64 0]) 3 40 := ⟨Tryz.underlying22, by kernel_rfl, rfl, by decide⟩

/-- A list of blocks that the call has made, an encoder, a decoder beside it. -/
theorem enc_past_blks {w0 w w' : World} {b tb sb B m : Nat} {ov dv : Value} {e : Enc} {xs : List Value} (h : EncAt w0 w b tb sb ov e) (ho : w.ownsRow B 31 3 dv m xs) (hB : w0.heap.size ≤ B) (hO : Only dv.ownBlock.toList w w') : EncAt w0 w' b tb sb ov e := by
  have hc : ∀ g, dv.ownBlock = some g → ∃ cur, w.heap[g]? = some (.cells cur 31 (0, 0)) := fun g hg => ownsRow_block ho hg
  have hb : ∀ g, dv.ownBlock = some g → B ≤ g := fun g hg => by
    rcases ho.2 with ⟨rfl, _⟩ | ⟨g', cap, cur, rfl, hb, _⟩
    · simp [Value.ownBlock] at hg
    · simp [Value.ownBlock] at hg; subst hg; exact hb
  refine h.only hO (fun i hi => ?_) (fun hi => ?_) (fun hi => ?_) (fun hi => ?_) (fun g hg hi => ?_)
  · exact Nat.le_trans hB (hb i (by simpa using hi))
  · obtain ⟨c, hc⟩ := hc _ (by simpa using hi); exact block_type hc h.is.cells (by decide) rfl
  · obtain ⟨c, hc⟩ := hc _ (by simpa using hi); exact block_type hc h.is.tab (by decide) rfl
  · obtain ⟨c, hc⟩ := hc _ (by simpa using hi); exact block_type hc h.is.sts (by decide) rfl
  · obtain ⟨c, hc⟩ := hc _ (by simpa using hi)
    obtain ⟨c2, hc2⟩ := ownsRow_block h.is.out hg
    exact block_type hc hc2 (by decide) rfl
theorem blks_past_enc {w0 w w' : World} {b tb sb B m : Nat} {ov ov' dv : Value} {e : Enc} {xs : List Value} (ho : w.ownsRow B 31 3 dv m xs) (h : EncAt w0 w b tb sb ov e) (hg : EncGo w w' b sb ov ov') : w'.ownsRow B 31 3 dv m xs := by
  refine ownsRow_of_block ho fun g hgo => ?_
  obtain ⟨c, hc⟩ := ownsRow_block ho hgo
  refine hg.only.block g (lt_of_block hc) ?_
  simp only [List.mem_cons, Option.mem_toList, not_or]
  exact ⟨block_type hc h.is.cells (by decide), block_type hc h.is.sts (by decide), fun hi => by obtain ⟨c2, hc2⟩ := ownsRow_block h.is.out hi; exact block_type hc hc2 (by decide) rfl⟩
theorem blks_past_dec {w0 w w' : World} {b tb sb B m : Nat} {dv : Value} {d : Dec} {xs : List Value} (ho : w.ownsRow B 31 3 dv m xs) (h : DecAt w0 w b tb sb d) (hg : Only [b, sb] w w') : w'.ownsRow B 31 3 dv m xs := by
  refine ownsRow_of_block ho fun g hgo => ?_
  obtain ⟨c, hc⟩ := ownsRow_block ho hgo
  refine hg.block g (lt_of_block hc) ?_
  simp only [List.mem_cons, List.not_mem_nil, or_false, not_or]
  exact ⟨block_type hc h.is.cells (by decide), block_type hc h.is.sts (by decide)⟩
theorem blks_past {w w' : World} {B m : Nat} {dv : Value} {xs : List Value} (ho : w.ownsRow B 31 3 dv m xs) (hg : Only [] w w') : w'.ownsRow B 31 3 dv m xs :=
  ownsRow_of_block ho fun g hgo => by
    obtain ⟨c, hc⟩ := ownsRow_block ho hgo
    exact hg.block g (lt_of_block hc) (by simp)
/-- What came in, in a later world. -/
theorem IntSlice.later {w w' : World} {v : Value} {xs : List Int} (h : IntSlice w v xs) (ho : Only [] w w') : IntSlice w' v xs := h.only ho (by simp)

theorem Read.len {st : List Int} {ops : List Deed} {j : Nat} {d : Dec} (hf : ∀ o ∈ ops, o.fits st.length) (h : Read st ops j d) : d.st.length = st.length := by
  have hl : (Enc.new st).st.length = st.length := by simp [Enc.new, beginOf]
  have h1 := (Enc.new st).live_run (ops.take j) (Enc.live_new st) (fun o ho => by rw [hl]; exact hf o (List.mem_of_mem_take ho))
  rw [h.meets.st, h1.2.1, hl]

end Go.Proofs.YtgmnkihldlajcaaGreatDoor
