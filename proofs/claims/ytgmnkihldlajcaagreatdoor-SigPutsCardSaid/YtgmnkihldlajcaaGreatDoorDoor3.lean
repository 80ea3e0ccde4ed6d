/-
  Arguments: a slice of structs, each of a slice of ints and two ints.
-/
import Derived.Test.YtgmnkihldlajcaaGreatDoorDoor2
namespace Go.Proofs.YtgmnkihldlajcaaGreatDoor
open Go.ChangeShapes Go.WideShapes Go.ChangeAt Go.RowKit

/-- A list out of what is there at each place. -/
theorem list_pick {α : Type} (d : α) (Q : Nat → α → Prop) : ∀ n, (∀ i, i < n → ∃ y, Q i y) → ∃ ys : List α, ys.length = n ∧ ∀ i, i < n → Q i (ys.getD i d) := by
  intro n
  induction n with
  | zero => intro _; exact ⟨[], rfl, fun i hi => by omega⟩
  | succ n ih =>
    intro h
    obtain ⟨ys, hl, hq⟩ := ih (fun i hi => h i (by omega))
    obtain ⟨y, hy⟩ := h n (by omega)
    refine ⟨ys ++ [y], by simp [hl], fun i hi => ?_⟩
    by_cases hin : i < n
    · have h1 : (ys ++ [y]).getD i d = ys.getD i d := by
        simp only [List.getD, List.getElem?_append_left (show i < ys.length by omega)]
      rw [h1]; exact hq i hin
    · obtain rfl : i = n := by omega
      have h1 : (ys ++ [y]).getD i d = y := by
        simp only [List.getD, List.getElem?_append_right (show ys.length ≤ i by omega), hl, Nat.sub_self]
        rfl
      rw [h1]; exact hy

/-- A field that is a slice of ints. -/
theorem ints_of_trod {H : Type} {enc : TypeId × Value → H} {P : Program} {ts te : TypeId} {W : World} {fuel : Nat} {cs : List Value} {x : DataW H × List MemPlace} (hts : P.underlying ts = some (.slice te)) (hte : P.underlying te = some (.int .i64)) (hce : P.cellsOf te = 1)
    (h : DataW.trod enc P W 0 (fun _ => true) true fuel ts cs = some x) : ∃ (u : Value) (xs : List Int), cs = [u] ∧ IntSlice W u xs ∧ (xs.length ≤ maxLen ∧ ∀ c, u = .slice none xs.length c → c = 0) ∧ (x.1 = .nil ∧ xs = [] ∨ ∃ sp, x.1 = .slice (lits .i64 xs) (lits .i64 sp)) := by
  rcases open_ints hts hte hce h with ⟨hcs, hx⟩ | ⟨a, len, cap, zs, hcs, _, hl, hm, hz, hx, hcell, _⟩
  · exact ⟨_, [], hcs, ⟨_, _, rfl, .inl rfl⟩, ⟨by simp, fun c hc => by injection hc with _ _ hc; exact hc.symm⟩, .inl ⟨by rw [hx], rfl⟩⟩
  · have hz2 : zs.length = cap := by simpa using hz
    have hlen : (zs.take len).length = len := by rw [List.length_take]; omega
    refine ⟨_, zs.take len, hcs, ⟨some a, cap, by rw [hlen], ?_⟩, ⟨by rw [hlen]; omega, fun c hc => by injection hc with hc; cases hc⟩, .inr ⟨_, by rw [hx]⟩⟩
    by_cases h0 : len = 0
    · left
      exact List.eq_nil_of_length_eq_zero (by omega)
    · right
      have hsp := World.cell?_spot (hcell 0 (by omega))
      have hspot : a.spot = none := by
        unfold Addr.add at hsp
        split at hsp <;> simp_all
      obtain ⟨g, off, sp⟩ := a
      simp only at hspot
      subst hspot
      refine ⟨g, off, rfl, fun i hi => ?_⟩
      have := hcell i (by omega)
      rw [add_plain] at this
      rw [this]
      simp only [List.getD]
      rw [List.getElem?_take_of_lt (by omega)]

/-- A block with its category, as it came in. -/
structure Blk where
  u : Value
  cs : List Int
  cat : Int
  inc : Int
def blk0 : Blk := ⟨.slice none 0 0, [], 0, 0⟩
def BlkSlice (w : World) (v : Value) (ys : List Blk) : Prop :=
  ∃ ao cap, v = .slice ao ys.length cap ∧ (ys = [] ∨ ∃ g off, ao = some ⟨g, off, none⟩ ∧ ∀ i, i < ys.length →
    w.cell? ⟨g, off + i * 3, none⟩ = some (ys.getD i blk0).u ∧ w.cell? ⟨g, off + (i * 3 + 1), none⟩ = some (.int .i64 (ys.getD i blk0).cat) ∧ w.cell? ⟨g, off + (i * 3 + 2), none⟩ = some (.int .i64 (ys.getD i blk0).inc) ∧
      IntSlice w (ys.getD i blk0).u (ys.getD i blk0).cs ∧ (ys.getD i blk0).cs.length ≤ maxLen ∧ ∀ c, (ys.getD i blk0).u = .slice none (ys.getD i blk0).cs.length c → c = 0)

theorem addr_add (a : Addr) (i j : Nat) : (a.add i).add j = a.add (i + j) := by
  obtain ⟨b, o, s⟩ := a
  by_cases k1 : i = 0
  · rw [k1, Nat.zero_add]; rfl
  · by_cases k2 : j = 0
    · subst k2; rw [Nat.add_zero]; simp [Addr.add, k1]
    · simp [Addr.add, k1, k2, Nat.add_assoc]

theorem weightsAll_mem {H : Type} {P : Program} {e : TypeId} {d : DataW H} {l : List (DataW H)} (h : d ∈ l) : ∀ x ∈ DataW.weights P e d, x ∈ DataW.weightsAll P e l := by
  induction l with
  | nil => cases h
  | cons a l ih =>
    intro x hx
    unfold DataW.weightsAll
    rcases List.mem_cons.1 h with rfl | h
    · exact List.mem_append_left _ hx
    · exact List.mem_append_right _ (ih h x hx)
/-- How much a slice of ints in it may weigh. -/
def blkFits (y : Blk) : Prop := y.cs.length ≤ 17592186043904

theorem open_blks {H : Type} {enc : TypeId × Value → H} {P : Program} {ts te tc ti : TypeId} {f0 f1 f2 : Field} {W : World} {r : Reach} {b0 : Nat} {v : Value} {d : DataW H} {p : List MemPlace}
    (hts : P.underlying ts = some (.slice te)) (hte : P.underlying te = some (.struct #[f0, f1, f2])) (htc : P.underlying tc = some (.slice ti)) (hti : P.underlying ti = some (.int .i64)) (hce : P.cellsOf te = 3) (hci : P.cellsOf ti = 1) (hcc : P.cellsOf tc = 1)
    (h0 : f0.type = tc ∧ f0.offset = 0) (h1 : f1.type = ti ∧ f1.offset = 1) (h2 : f2.type = ti ∧ f2.offset = 2) (hbi : P.bytesOf ti = 8)
    (hval : Value.okWide P W r b0 ts v) (h : DataW.Trod enc P W 0 (fun _ => true) true ts v d p) :
    ∃ ys : List Blk, BlkSlice W v ys ∧ ys.length ≤ maxLen ∧ ((DataW.weights P ts d).all (· ≤ reachBytes) = true → ∀ y ∈ ys, blkFits y) := by
  obtain ⟨a0, len0, cap0, rfl⟩ := okWide_slice hts hval
  obtain ⟨fu, hf0⟩ := h
  rcases DataW.trod_slice hts hf0 with ⟨hcs, hx⟩ | ⟨a, len, cap, elems, rest, m, rfl, hcs, hx, _, hl, hm, hel, hcell, _, _⟩
  · simp [Value.cells] at hcs
    obtain ⟨rfl, rfl, rfl⟩ := hcs
    exact ⟨[], ⟨_, _, rfl, .inl rfl⟩, by simp, fun _ y hy => by cases hy⟩
  · simp [Value.cells] at hcs
    obtain ⟨rfl, rfl, rfl⟩ := hcs
    simp only [Prod.mk.injEq] at hx
    have key : ∀ i, i < len0 → ∃ y : Blk, W.cell? (a.add (i * 3)) = some y.u ∧ W.cell? (a.add (i * 3 + 1)) = some (.int .i64 y.cat) ∧ W.cell? (a.add (i * 3 + 2)) = some (.int .i64 y.inc) ∧ IntSlice W y.u y.cs ∧ (y.cs.length ≤ maxLen ∧ ∀ c, y.u = .slice none y.cs.length c → c = 0) ∧
        ((∀ x ∈ DataW.weights P ts d, x ≤ reachBytes) → blkFits y) := by
      intro i hi
      have q1 := hcell i hi
      have hie : i < elems.length := by omega
      rw [List.getElem?_eq_getElem hie, hce] at q1
      obtain ⟨cs, hcs1, hcs2⟩ := Option.bind_eq_some_iff.1 q1
      obtain ⟨ys, m2, rfl, hy1, hy2, hy3, hy4⟩ := DataW.trod_struct hte hcs2
      have y3 : ys.length = 3 := by simpa using hy3
      have g0 := hy4 0 f0 rfl
      have g1 := hy4 1 f1 rfl
      have g2 := hy4 2 f2 rfl
      rw [h0.1, h0.2, hcc, List.getElem?_eq_getElem (show 0 < ys.length by omega)] at g0
      rw [h1.1, h1.2, hci, List.getElem?_eq_getElem (show 1 < ys.length by omega)] at g1
      rw [h2.1, h2.2, hci, List.getElem?_eq_getElem (show 2 < ys.length by omega)] at g2
      obtain ⟨u, xs, c0, c1, c2, c3⟩ := ints_of_trod htc hti hci g0
      obtain ⟨z1, z2, -, -⟩ := DataW.trod_int hti g1
      obtain ⟨w1, w2, -, -⟩ := DataW.trod_int hti g2
      have e0 : cs[0]? = some u := by have := congrArg (fun l => l[0]?) c0; simpa [List.getElem?_take, List.getElem?_drop] using this
      have e1 : cs[1]? = some (.int .i64 z1) := by have := congrArg (fun l => l[0]?) z2; simpa [List.getElem?_take, List.getElem?_drop] using this
      have e2 : cs[2]? = some (.int .i64 w1) := by have := congrArg (fun l => l[0]?) w2; simpa [List.getElem?_take, List.getElem?_drop] using this
      have hfit : (∀ x ∈ DataW.weights P ts d, x ≤ reachBytes) → xs.length ≤ 17592186043904 := by
        intro hw
        rcases c3 with ⟨_, h⟩ | ⟨sp, h⟩
        · rw [h]; simp
        · have hin : ∀ x ∈ DataW.weights P te elems[i].1, x ≤ reachBytes := by
            intro x hx1
            apply hw
            rw [hx.1]
            unfold DataW.weights
            rw [hts]
            refine List.mem_cons_of_mem _ (List.mem_append_left _ (weightsAll_mem (List.mem_map_of_mem (List.getElem_mem hie)) x hx1))
          have h8 := hin ((xs.length + sp.length) * 8) (by
            rw [hy1]
            simp only
            unfold DataW.weights
            rw [hte]
            obtain ⟨y0, yr, rfl⟩ : ∃ y0 yr, ys = y0 :: yr := by
              match ys, y3 with
              | y0 :: yr, _ => exact ⟨y0, yr, rfl⟩
            simp only [List.map_cons]
            unfold DataW.weightsEach
            refine List.mem_append_left _ ?_
            have h' : y0.1 = .slice (lits .i64 xs) (lits .i64 sp) := h
            rw [h', h0.1]
            unfold DataW.weights
            rw [htc]
            simp only [hbi]
            refine List.mem_cons.2 (.inl ?_)
            simp [lits])
          unfold reachBytes at h8
          omega
      unfold World.cells? at hcs1
      split at hcs1
      · have k0 := mapM_range_get hcs1 0 (by omega)
        have k1 := mapM_range_get hcs1 1 (by omega)
        have k2 := mapM_range_get hcs1 2 (by omega)
        rw [e0, addr_add, Nat.add_zero] at k0
        rw [e1, addr_add] at k1
        rw [e2, addr_add] at k2
        exact ⟨⟨u, xs, z1, w1⟩, k0, k1, k2, c1, c2, hfit⟩
      · cases hcs1
    obtain ⟨ys, hyl, hyq⟩ := list_pick blk0 _ len0 key
    refine ⟨ys, ⟨some a, cap0, by rw [hyl], ?_⟩, by rw [hyl]; omega, fun hw y hy => ?_⟩
    · by_cases hz : len0 = 0
      · left
        exact List.eq_nil_of_length_eq_zero (by omega)
      · right
        have hsp := World.cell?_spot (hyq 0 (by omega)).1
        have hspot : a.spot = none := by
          unfold Addr.add at hsp
          split at hsp <;> simp_all
        obtain ⟨g, off, sp⟩ := a
        simp only at hspot
        subst hspot
        refine ⟨g, off, rfl, fun i hi => ?_⟩
        obtain ⟨k0, k1, k2, k3, k4, -⟩ := hyq i (by omega)
        rw [add_plain] at k0 k1 k2
        exact ⟨k0, k1, k2, k3, k4⟩
    · obtain ⟨i, hi, rfl⟩ := List.getElem_of_mem hy
      obtain ⟨-, -, -, -, -, h6⟩ := hyq i (by omega)
      rw [show ys.getD i blk0 = ys[i] by simp [List.getD, List.getElem?_eq_getElem hi]] at h6
      refine h6 fun x hx1 => ?_
      have := List.all_eq_true.1 hw x hx1
      simpa using this
end Go.Proofs.YtgmnkihldlajcaaGreatDoor
