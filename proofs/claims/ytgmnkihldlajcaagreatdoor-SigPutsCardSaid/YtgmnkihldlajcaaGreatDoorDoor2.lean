/-
  FOR A PROOF OF AN '..UptoSaid': WHAT THE BOUND GIVES. Copy it as <Name>Bulk.lean (put your seat's Name for YtgmnkihldlajcaaGreatDoor, the bound of 'uptoSmall' for 1048576), name it in GOCLAIM.json's 'order' behind <Name>Rows. By an AI agent, Sun Nov 15 2026. No person has read it. No macro, syntax, notation, axiom, sorry.
-/
import Derived.Test.YtgmnkihldlajcaaGreatDoorRows
import Derived.Test.YtgmnkihldlajcaaGreatDoorDoor
import Derived.Test.YtgmnkihldlajcaaGreatDoorPlain
import Derived.ProofKit
import Derived.OpenShut
import Derived.ShutString
import Derived.Carry
namespace Go.Proofs.YtgmnkihldlajcaaGreatDoor.bulks

theorem one_le {H : Type} (d : DataW H) : 1 ≤ Rows.uptoBulk d := by
  cases d with
  | lit l => cases l <;> simp [Rows.uptoBulk]
  | nil => simp [Rows.uptoBulk]
  | ptr d => simp [Rows.uptoBulk]
  | slice elems spare => simp [Rows.uptoBulk]
  | agg parts => simp [Rows.uptoBulk]
  | iface t d => simp [Rows.uptoBulk]
  | map entries => simp [Rows.uptoBulk]
  | held h => simp [Rows.uptoBulk]

/-- a part's bulk is at most the whole's -/
theorem part_le {H : Type} {d : DataW H} {l : List (DataW H)} (h : d ∈ l) : Rows.uptoBulk d ≤ Rows.uptoBulkAll l := by
  induction l with
  | nil => cases h
  | cons x r ih =>
    simp only [Rows.uptoBulkAll]
    cases List.mem_cons.1 h with
    | inl e => subst e; omega
    | inr e => have := ih e; omega

theorem append {H : Type} (l r : List (DataW H)) : Rows.uptoBulkAll (l ++ r) = Rows.uptoBulkAll l + Rows.uptoBulkAll r := by
  induction l with
  | nil => simp [Rows.uptoBulkAll]
  | cons x l ih => simp only [List.cons_append, Rows.uptoBulkAll, ih]; omega

/-- so many values at the most -/
theorem length_le {H : Type} (l : List (DataW H)) : l.length ≤ Rows.uptoBulkAll l := by
  induction l with
  | nil => simp [Rows.uptoBulkAll]
  | cons x r ih => have := one_le x; simp only [Rows.uptoBulkAll, List.length_cons]; omega

/-- a slice's places, and what they hold -/
theorem slice_le {H : Type} (elems spare : List (DataW H)) : elems.length + spare.length + 1 ≤ Rows.uptoBulk (.slice elems spare) := by
  have h1 := length_le elems
  have h2 := length_le spare
  simp only [Rows.uptoBulk]
  omega
theorem slice_elems {H : Type} (elems spare : List (DataW H)) : Rows.uptoBulkAll elems + 1 ≤ Rows.uptoBulk (.slice elems spare) := by
  simp only [Rows.uptoBulk]
  omega

/-- a string's letters -/
theorem string_eq {H : Type} (bytes : List UInt8) : Rows.uptoBulk (DataW.lit (H := H) (.string bytes)) = bytes.length + 1 := by
  simp [Rows.uptoBulk]

/-- THE BOUND, as the builder hands it over ('hk') -/
theorem bound {H : Type} {l : List (DataW H)} (hk : Rows.uptoSmall H l = true) : Rows.uptoBulkAll l ≤ 1048576 := by
  simpa [Rows.uptoSmall] using hk

/-- ROOM: a slice of n elements of b bytes, grown by append: below the 2^48 bytes that append, make and a Builder bear. Here n up to 2^21, b up to 4,096: put your own numbers. -/
theorem room {n b : Nat} (hn : n ≤ 2097152) (hb : b ≤ 4096) : (n + n / 4 + 192) * b ≤ 281474976710656 := by
  have h : (n + n / 4 + 192) * b ≤ 2621632 * 4096 := Nat.mul_le_mul (by omega) hb
  omega

end Go.Proofs.YtgmnkihldlajcaaGreatDoor.bulks

/-
  Arguments: slices of ints and of plain structs of ints as lists; the law's post out of 'true, and only new blocks'.
-/
namespace Go.Proofs.YtgmnkihldlajcaaGreatDoor
open Go.ChangeShapes Go.WideShapes Go.ChangeAt Go.RowKit

theorem laidOut : laidOutB Tryz.prog = true := by kernel_rfl

theorem trodAll_later {P : Program} {H : Type} {enc : TypeId × Value → H} {W W' : World} (hl : laidOutB P = true) (hb : Below W.heap.size W W') : ∀ {ts : List TypeId} {vs : List Value} {ds : List (DataW H)} {ps : List MemPlace},
    (ts.all fun t => P.readableRec t && decide (t < P.types.size)) = true → (∀ x ∈ ps, x.block < W.heap.size) → DataW.TrodAll enc P W 0 (fun _ => true) true ts vs ds ps →
    DataW.TrodAll enc P W' 0 (fun b => decide (b < W.heap.size)) true ts vs ds ps := by
  intro ts
  induction ts with
  | nil =>
    intro vs ds ps _ _ h
    cases vs <;> cases ds <;> simp_all [DataW.TrodAll]
  | cons t ts ih =>
    intro vs ds ps hr hlt h
    obtain ⟨v, vs, d, ds, p, q, rfl, rfl, rfl, h1, h2⟩ := trodAll_cons h
    simp only [List.all_cons, Bool.and_eq_true, decide_eq_true_eq] at hr
    exact trodAll_cons_mk (Below.trod hl hr.1.1 hr.1.2 h1 hb (fun x hx => hlt x (by simp [hx]))) (ih hr.2 (fun x hx => hlt x (by simp [hx])) h2)

/-- THE LAW's POST: true, the arguments as they were. -/
theorem post_true {H : Type} {enc : TypeId × Value → H} {P : Program} {tb : TypeId} {W W' : World} {args : Array Value} {ds gs : List (DataW H)} {before : List MemPlace} (hl : laidOutB P = true) (htb : P.underlying tb = some .bool) (f : Func) (s : ChangeSpec)
    (hW : DataW.Whole enc P f.params.toList s.vars false W args.toList ds gs before) (hs : s.vars = []) (hr : f.resultTypes = #[tb])
    (hres : (s.fn H (ds ++ gs)).results = [.lit (.bool true)]) (harg : (s.fn H (ds ++ gs)).args = ds) (hvar : (s.fn H (ds ++ gs)).vars = [])
    (hp : (f.params.toList.all fun t => P.readableRec t && decide (t < P.types.size)) = true) (ho : Only [] W W') :
    s.post enc P f false true false false W args (.bool true) W' := by
  have hlt : ∀ x ∈ before, x.block < W.heap.size := fun x hx => by simpa using hW.lt x hx
  obtain ⟨p, q, hA, hV, hb, hfz, hnd⟩ := id hW
  rw [hs] at hV
  obtain ⟨rfl, rfl⟩ := trodVars_none hV
  rw [List.append_nil] at hb
  subst hb
  refine ⟨ds, [], before, [], before, [], hW, ?_, ?_, ?_, ho.frame _, fun h => by cases h⟩
  · rw [hr, hres]
    exact trodAll_cons_mk (shut_bool htb _) trodAll_mk0
  · rw [harg]
    exact trodAll_later hl ho.below hp hlt hA
  · rw [hs, hvar]; rfl

/-- A slice of ints that came in. -/
theorem open_intList {H : Type} {enc : TypeId × Value → H} {P : Program} {ts te : TypeId} {W : World} {r : Reach} {b0 : Nat} {v : Value} {d : DataW H} {p : List MemPlace} (hts : P.underlying ts = some (.slice te)) (hte : P.underlying te = some (.int .i64)) (hce : P.cellsOf te = 1)
    (hval : Value.okWide P W r b0 ts v)
    (h : DataW.Trod enc P W 0 (fun _ => true) true ts v d p) : ∃ xs : List Int, IntSlice W v xs ∧ xs.length ≤ maxLen ∧ ((d = .nil ∧ xs = []) ∨ ∃ sp, d = .slice (lits .i64 xs) (lits .i64 sp)) ∧ (∀ n ∈ xs, (Lit.int .i64 n).wf = true) ∧ (∀ c, v = .slice none xs.length c → c = 0) := by
  obtain ⟨a0, len0, cap0, rfl⟩ := okWide_slice hts hval
  obtain ⟨n, hf⟩ := h
  rcases open_ints hts hte hce hf with ⟨hcs, hx⟩ | ⟨a, len, cap, zs, hcs, _, hl, hm, hz, hx, hcell, hwz⟩
  · simp [Value.cells] at hcs
    obtain ⟨rfl, rfl, rfl⟩ := hcs
    simp only [Prod.mk.injEq] at hx
    exact ⟨[], ⟨_, _, rfl, .inl rfl⟩, by simp, .inl ⟨hx.1, rfl⟩, by simp, fun c hc => by injection hc with _ _ hc; exact hc.symm⟩
  · simp [Value.cells] at hcs
    obtain ⟨rfl, rfl, rfl⟩ := hcs
    simp only [Prod.mk.injEq] at hx
    have hz2 : zs.length = cap0 := by simpa using hz
    have hlen : (zs.take len0).length = len0 := by rw [List.length_take]; omega
    refine ⟨zs.take len0, ⟨some a, cap0, by rw [hlen], ?_⟩, by rw [hlen]; omega, .inr ⟨_, hx.1⟩, fun n hn => hwz n (List.mem_of_mem_take hn), fun c hc => by injection hc with hc; cases hc⟩
    by_cases h0 : len0 = 0
    · left
      exact List.eq_nil_of_length_eq_zero (by omega)
    · right
      have hsp := World.cell?_spot (hcell 0 (by omega))
      have hspot : a.spot = none := by
        unfold Addr.add at hsp
        split at hsp <;> simp_all
      obtain ⟨g, off, sp⟩ := a
      simp only at hspot
      subst hspot
      refine ⟨g, off, rfl, fun i hi => ?_⟩
      have := hcell i (by omega)
      rw [add_plain] at this
      rw [this]
      simp only [List.getD]
      rw [List.getElem?_take_of_lt (by omega)]
/-- How much such a slice weighs in the second form's bound. -/
theorem bulk_intList {H : Type} {d : DataW H} {xs : List Int} (h : (d = .nil ∧ xs = []) ∨ ∃ sp, d = .slice (lits .i64 xs) (lits .i64 sp)) : xs.length ≤ Rows.uptoBulk d := by
  rcases h with ⟨_, h⟩ | ⟨sp, rfl⟩
  · rw [h]; simp
  · have h2 := bulks.slice_le (H := H) (lits .i64 xs) (lits .i64 sp)
    have h3 : (lits (H := H) .i64 xs).length = xs.length := by simp [lits]
    omega
end Go.Proofs.YtgmnkihldlajcaaGreatDoor

/-
  Arguments: a slice of structs of ints as a list of lists.
-/
namespace Go.Proofs.YtgmnkihldlajcaaGreatDoor
open Go.ChangeShapes Go.WideShapes Go.ChangeAt Go.RowKit

/-- A slice value that reads as a list of rows of n ints. -/
def RowSlice (w : World) (n : Nat) (v : Value) (xs : List (List Int)) : Prop :=
  ∃ ao cap, v = .slice ao xs.length cap ∧ (xs = [] ∨ ∃ g off, ao = some ⟨g, off, none⟩ ∧ ∀ i j, i < xs.length → j < n → w.cell? ⟨g, off + (i * n + j), none⟩ = some (.int .i64 ((xs.getD i []).getD j 0)))
def rowOf {H : Type} (y : DataW H × List MemPlace) : List Int := match y.1 with | .agg ps => ps.map (fun d => match d with | .lit (.int _ n) => n | _ => 0) | _ => []

theorem mapM_range_get {α : Type} {f : Nat → Option α} : ∀ {n : Nat} {l : List α}, (List.range n).mapM f = some l → ∀ i, i < n → f i = l[i]? := by
  intro n l h i hi
  have h1 := mapM_some_get h i i (by simp [hi])
  exact h1

theorem open_rows {H : Type} {enc : TypeId × Value → H} {P : Program} {ts te ti : TypeId} {fs : Array Field} {n : Nat} {W : World} {r : Reach} {b0 : Nat} {v : Value} {d : DataW H} {p : List MemPlace}
    (hts : P.underlying ts = some (.slice te)) (hte : P.underlying te = some (.struct fs)) (hti : P.underlying ti = some (.int .i64)) (hce : P.cellsOf te = n) (hci : P.cellsOf ti = 1)
    (hn : fs.size = n) (hf : ∀ j, j < n → ∃ f : Field, fs[j]? = some f ∧ f.type = ti ∧ f.offset = j) (hpos : 0 < n)
    (hval : Value.okWide P W r b0 ts v) (h : DataW.Trod enc P W 0 (fun _ => true) true ts v d p) :
    ∃ xs : List (List Int), RowSlice W n v xs ∧ xs.length ≤ maxLen ∧ xs.length ≤ Rows.uptoBulk d := by
  obtain ⟨a0, len0, cap0, rfl⟩ := okWide_slice hts hval
  obtain ⟨fu, hf0⟩ := h
  rcases DataW.trod_slice hts hf0 with ⟨hcs, hx⟩ | ⟨a, len, cap, elems, rest, m, rfl, hcs, hx, _, hl, hm, hel, hcell, _, _⟩
  · simp [Value.cells] at hcs
    obtain ⟨rfl, rfl, rfl⟩ := hcs
    exact ⟨[], ⟨_, _, rfl, .inl rfl⟩, by simp, by simp⟩
  · simp [Value.cells] at hcs
    obtain ⟨rfl, rfl, rfl⟩ := hcs
    simp only [Prod.mk.injEq] at hx
    have hlen : (elems.map rowOf).length = len0 := by simp [hel]
    have key : ∀ i j, i < len0 → j < n → W.cell? (a.add (i * n + j)) = some (.int .i64 (((elems.map rowOf).getD i []).getD j 0)) := by
      intro i j hi hj
      have h1 := hcell i hi
      have hie : i < elems.length := by omega
      rw [List.getElem?_eq_getElem hie] at h1
      rw [hce] at h1
      obtain ⟨cs, hcs1, hcs2⟩ := Option.bind_eq_some_iff.1 h1
      obtain ⟨ys, m2, rfl, hy1, hy2, hy3, hy4⟩ := DataW.trod_struct hte hcs2
      obtain ⟨f, hf1, hf2, hf3⟩ := hf j hj
      have h2 := hy4 j f hf1
      rw [hf2, hf3, hci] at h2
      have hjy : j < ys.length := by omega
      rw [List.getElem?_eq_getElem hjy] at h2
      obtain ⟨z, hz1, hz2, hz3⟩ := DataW.trod_int hti h2
      have hcsj : cs[j]? = some (.int .i64 z) := by
        have := congrArg (fun l => l[0]?) hz1
        simpa [List.getElem?_take, List.getElem?_drop] using this
      unfold World.cells? at hcs1
      split at hcs1
      · have h3 := mapM_range_get hcs1 j hj
        rw [hcsj] at h3
        have h4 : (a.add (i * n)).add j = a.add (i * n + j) := by
          obtain ⟨b, o, s⟩ := a
          by_cases k1 : i * n = 0
          · rw [k1, Nat.zero_add]; rfl
          · by_cases k2 : j = 0
            · subst k2; rw [Nat.add_zero]; simp [Addr.add, k1]
            · simp [Addr.add, k1, k2, Nat.add_assoc]
        rw [h4] at h3
        rw [h3]
        congr 2
        have h5 : (elems.map rowOf).getD i [] = rowOf elems[i] := by simp [List.getD, hie]
        rw [h5, hy1]
        unfold rowOf
        simp only [List.getD, List.getElem?_map, List.getElem?_eq_getElem hjy, Option.map_some, hz2, Option.getD_some]
      · cases hcs1
    refine ⟨elems.map rowOf, ⟨some a, cap0, by rw [hlen], ?_⟩, by rw [hlen]; omega, ?_⟩
    · by_cases h0 : len0 = 0
      · left
        exact List.eq_nil_of_length_eq_zero (by omega)
      · right
        have hsp := World.cell?_spot (key 0 0 (by omega) hpos)
        have hspot : a.spot = none := by
          unfold Addr.add at hsp
          split at hsp <;> simp_all
        obtain ⟨g, off, sp⟩ := a
        simp only at hspot
        subst hspot
        refine ⟨g, off, rfl, fun i j hi hj => ?_⟩
        have := key i j (by omega) hj
        rw [add_plain] at this
        exact this
    · rw [hx.1]
      have := bulks.slice_le (elems.map (·.1)) (rest.map (·.1))
      simp at this ⊢
      omega
end Go.Proofs.YtgmnkihldlajcaaGreatDoor

/-
  How much a string, a slice of ints that came in may weigh.
-/
namespace Go.Proofs.YtgmnkihldlajcaaGreatDoor
open Go.RowKit
theorem reach_string {H : Type} {P : Program} {t : TypeId} {ts : List TypeId} {s : ByteArray} {r : List (DataW H)}
    (h : (DataW.weightsEach P (t :: ts) (.lit (.string s.data.toList) :: r)).all (· ≤ reachBytes) = true) : s.size ≤ 140737488355328 := by
  have h1 : s.data.toList.length ≤ reachBytes := by
    unfold DataW.weightsEach at h
    rw [List.all_append, Bool.and_eq_true] at h
    have h2 := h.1
    simp [DataW.weights] at h2
    simpa using h2
  have h3 : s.data.toList.length = s.size := by rw [Array.length_toList]; rfl
  unfold reachBytes at h1
  omega
/-- How long a slice of ints that came in may be. -/
theorem reach_ints {H : Type} {P : Program} {t te : TypeId} {ts : List TypeId} {d : DataW H} {xs : List Int} {r : List (DataW H)} (hts : P.underlying t = some (.slice te)) (hb : P.bytesOf te = 8)
    (hd : (d = .nil ∧ xs = []) ∨ ∃ sp, d = .slice (Go.ChangeShapes.lits .i64 xs) (Go.ChangeShapes.lits .i64 sp))
    (h : (DataW.weightsEach P (t :: ts) (d :: r)).all (· ≤ reachBytes) = true) : xs.length ≤ 17592186043904 := by
  rcases hd with ⟨_, rfl⟩ | ⟨sp, rfl⟩
  · simp
  · unfold DataW.weightsEach at h
    rw [List.all_append, Bool.and_eq_true] at h
    have h2 := h.1
    simp only [DataW.weights, hts, hb, List.all_cons, Bool.and_eq_true, decide_eq_true_eq] at h2
    have h3 := h2.1
    have h4 : (Go.ChangeShapes.lits (H := H) .i64 xs).length = xs.length := by simp [Go.ChangeShapes.lits]
    rw [h4] at h3
    unfold reachBytes at h3
    omega
end Go.Proofs.YtgmnkihldlajcaaGreatDoor
