/-
  Arguments: a slice of structs of ints as a list of lists.
-/
import Derived.Test.YtibojidpifgblaaDoorDoor2
namespace Go.Proofs.YtibojidpifgblaaDoor
open Go.ChangeShapes Go.WideShapes Go.ChangeAt Go.RowKit

/-- A slice value that reads as a list of rows of n ints. -/
def RowSlice (w : World) (n : Nat) (v : Value) (xs : List (List Int)) : Prop :=
  ∃ ao cap, v = .slice ao xs.length cap ∧ (xs = [] ∨ ∃ g off, ao = some ⟨g, off, none⟩ ∧ ∀ i j, i < xs.length → j < n → w.cell? ⟨g, off + (i * n + j), none⟩ = some (.int .i64 ((xs.getD i []).getD j 0)))
def rowOf {H : Type} (y : DataW H × List MemPlace) : List Int := match y.1 with | .agg ps => ps.map (fun d => match d with | .lit (.int _ n) => n | _ => 0) | _ => []

theorem mapM_range_get {α : Type} {f : Nat → Option α} : ∀ {n : Nat} {l : List α}, (List.range n).mapM f = some l → ∀ i, i < n → f i = l[i]? := by
  intro n l h i hi
  have h1 := mapM_some_get h i i (by simp [hi])
  exact h1

theorem open_rows {H : Type} {enc : TypeId × Value → H} {P : Program} {ts te ti : TypeId} {fs : Array Field} {n : Nat} {W : World} {r : Reach} {b0 : Nat} {v : Value} {d : DataW H} {p : List MemPlace}
    (hts : P.underlying ts = some (.slice te)) (hte : P.underlying te = some (.struct fs)) (hti : P.underlying ti = some (.int .i64)) (hce : P.cellsOf te = n) (hci : P.cellsOf ti = 1)
    (hn : fs.size = n) (hf : ∀ j, j < n → ∃ f : Field, fs[j]? = some f ∧ f.type = ti ∧ f.offset = j) (hpos : 0 < n)
    (hval : Value.okWide P W r b0 ts v) (h : DataW.Trod enc P W 0 (fun _ => true) true ts v d p) :
    ∃ xs : List (List Int), RowSlice W n v xs ∧ xs.length ≤ maxLen ∧ xs.length ≤ Rows.uptoBulk d := by
  obtain ⟨a0, len0, cap0, rfl⟩ := okWide_slice hts hval
  obtain ⟨fu, hf0⟩ := h
  rcases DataW.trod_slice hts hf0 with ⟨hcs, hx⟩ | ⟨a, len, cap, elems, rest, m, rfl, hcs, hx, _, hl, hm, hel, hcell, _, _⟩
  · simp [Value.cells] at hcs
    obtain ⟨rfl, rfl, rfl⟩ := hcs
    exact ⟨[], ⟨_, _, rfl, .inl rfl⟩, by simp, by simp⟩
  · simp [Value.cells] at hcs
    obtain ⟨rfl, rfl, rfl⟩ := hcs
    simp only [Prod.mk.injEq] at hx
    have hlen : (elems.map rowOf).length = len0 := by simp [hel]
    have key : ∀ i j, i < len0 → j < n → W.cell? (a.add (i * n + j)) = some (.int .i64 (((elems.map rowOf).getD i []).getD j 0)) := by
      intro i j hi hj
      have h1 := hcell i hi
      have hie : i < elems.length := by omega
      rw [List.getElem?_eq_getElem hie] at h1
      rw [hce] at h1
      obtain ⟨cs, hcs1, hcs2⟩ := Option.bind_eq_some_iff.1 h1
      obtain ⟨ys, m2, rfl, hy1, hy2, hy3, hy4⟩ := DataW.trod_struct hte hcs2
      obtain ⟨f, hf1, hf2, hf3⟩ := hf j hj
      have h2 := hy4 j f hf1
      rw [hf2, hf3, hci] at h2
      have hjy : j < ys.length := by omega
      rw [List.getElem?_eq_getElem hjy] at h2
      obtain ⟨z, hz1, hz2, hz3⟩ := DataW.trod_int hti h2
      have hcsj : cs[j]? = some (.int .i64 z) := by
        have := congrArg (fun l => l[0]?) hz1
        simpa [List.getElem?_take, List.getElem?_drop] using this
      unfold World.cells? at hcs1
      split at hcs1
      · have h3 := mapM_range_get hcs1 j hj
        rw [hcsj] at h3
        have h4 : (a.add (i * n)).add j = a.add (i * n + j) := by
          obtain ⟨b, o, s⟩ := a
          by_cases k1 : i * n = 0
          · rw [k1, Nat.zero_add]; rfl
          · by_cases k2 : j = 0
            · subst k2; rw [Nat.add_zero]; simp [Addr.add, k1]
            · simp [Addr.add, k1, k2, Nat.add_assoc]
        rw [h4] at h3
        rw [h3]
        congr 2
        have h5 : (elems.map rowOf).getD i [] = rowOf elems[i] := by simp [List.getD, hie]
        rw [h5, hy1]
        unfold rowOf
        simp only [List.getD, List.getElem?_map, List.getElem?_eq_getElem hjy, Option.map_some, hz2, Option.getD_some]
      · cases hcs1
    refine ⟨elems.map rowOf, ⟨some a, cap0, by rw [hlen], ?_⟩, by rw [hlen]; omega, ?_⟩
    · by_cases h0 : len0 = 0
      · left
        exact List.eq_nil_of_length_eq_zero (by omega)
      · right
        have hsp := World.cell?_spot (key 0 0 (by omega) hpos)
        have hspot : a.spot = none := by
          unfold Addr.add at hsp
          split at hsp <;> simp_all
        obtain ⟨g, off, sp⟩ := a
        simp only at hspot
        subst hspot
        refine ⟨g, off, rfl, fun i j hi hj => ?_⟩
        have := key i j (by omega) hj
        rw [add_plain] at this
        exact this
    · rw [hx.1]
      have := bulks.slice_le (elems.map (·.1)) (rest.map (·.1))
      simp at this ⊢
      omega
end Go.Proofs.YtibojidpifgblaaDoor
