/-
  The walk over package syntax's idle: are a macroblock's fields zero that its kind does not use? The walk over the reference's Same, on macroblocks that are alike.
-/
import Derived.Test.YtcppbdlmcbjmeaaGreatDoorJ11
import Derived.Test.YtcppbdlmcbjmeaaGreatDoorJ10
import Derived.Laws.BytesArg
namespace Go.Proofs.YtcppbdlmcbjmeaaGreatDoor
open Go.RowKit

def idleOk (y : Nat → Int) (len : Nat) : Prop := (y 0 = 0 ∨ allEq 16 (fun i => y (2 + i)) (fun _ => 0) = true) ∧ (y 0 = 0 ∨ y 0 = 1 ∨ y 19 = 0) ∧ (y 0 = 1 ∨ y 18 = 0) ∧ (y 0 = 4 ∨ y 1 = 0) ∧ (y 0 = 2 ∨ len = 0)
theorem eq_modes (y : Nat → Int) (w : World) : (Op.equalIn 10000 39 (.agg #[.int .i64 (y 2), .int .i64 (y 3), .int .i64 (y 4), .int .i64 (y 5), .int .i64 (y 6), .int .i64 (y 7), .int .i64 (y 8), .int .i64 (y 9), .int .i64 (y 10), .int .i64 (y 11), .int .i64 (y 12), .int .i64 (y 13), .int .i64 (y 14), .int .i64 (y 15), .int .i64 (y 16), .int .i64 (y 17)]) (.agg #[.int .i64 0, .int .i64 0, .int .i64 0, .int .i64 0, .int .i64 0, .int .i64 0, .int .i64 0, .int .i64 0, .int .i64 0, .int .i64 0, .int .i64 0, .int .i64 0, .int .i64 0, .int .i64 0, .int .i64 0, .int .i64 0])).run Tryz.prog w = .ok (allEq 16 (fun i => y (2 + i)) (fun _ => 0)) w := eq_16 (fun i => y (2 + i)) (fun _ => 0) 9998 w
set_option maxRecDepth 100000 in
set_option maxHeartbeats 12000000 in
theorem my_idle {mb len cap : Nat} {ao : Option Addr} {y : Nat → Int} {w : World} (hc : ∀ j, j < 482 → w.cell? ⟨mb, j, none⟩ = some (.int .i64 (y j))) (h482 : w.cell? ⟨mb, 482, none⟩ = some (.slice ao len cap)) :
    Calls Tryz.prog 86 #[.pointer (some ⟨mb, 0, none⟩)] w fun e w' => Tells (idleOk y len) w e w' := by
  have heq := eq_modes y
  have m0 := hc 2 (by decide)
  have m1 := hc 3 (by decide)
  have m2 := hc 4 (by decide)
  have m3 := hc 5 (by decide)
  have m4 := hc 6 (by decide)
  have m5 := hc 7 (by decide)
  have m6 := hc 8 (by decide)
  have m7 := hc 9 (by decide)
  have m8 := hc 10 (by decide)
  have m9 := hc 11 (by decide)
  have m10 := hc 12 (by decide)
  have m11 := hc 13 (by decide)
  have m12 := hc 14 (by decide)
  have m13 := hc 15 (by decide)
  have m14 := hc 16 (by decide)
  have m15 := hc 17 (by decide)
  have c0 := hc 0 (by decide)
  have c1 := hc 1 (by decide)
  have c18 := hc 18 (by decide)
  have c19 := hc 19 (by decide)
  unfold idleOk
  generalize allEq 16 (fun i => y (2 + i)) (fun _ => 0) = M at *
  generalize y 0 = kd at *
  generalize y 1 = a1 at *
  generalize y 18 = a18 at *
  generalize y 19 = a19 at *
  clear hc
  have hk : (kd = 0 ∨ kd = 1 ∨ kd = 2 ∨ kd = 4) ∨ ((kd == 0) = false ∧ (kd == 1) = false ∧ (kd == 2) = false ∧ (kd == 4) = false) := by
    by_cases h0 : kd = 0
    · exact .inl (.inl h0)
    · by_cases h1 : kd = 1
      · exact .inl (.inr (.inl h1))
      · by_cases h2 : kd = 2
        · exact .inl (.inr (.inr (.inl h2)))
        · by_cases h4 : kd = 4
          · exact .inl (.inr (.inr (.inr h4)))
          · exact .inr ⟨by simpa using h0, by simpa using h1, by simpa using h2, by simpa using h4⟩
  have h1' : a1 = 0 ∨ (a1 == 0) = false := by by_cases h : a1 = 0 <;> simp [h]
  have h18' : a18 = 0 ∨ (a18 == 0) = false := by by_cases h : a18 = 0 <;> simp [h]
  have h19' : a19 = 0 ∨ (a19 == 0) = false := by by_cases h : a19 = 0 <;> simp [h]
  have hl' : len = 0 ∨ (((len : Nat) : Int) == 0) = false := by by_cases h : len = 0 <;> simp [h]
  rcases hk with (rfl | rfl | rfl | rfl) | ⟨e0, e1, e2, e4⟩
  · cases M with
    | false =>
      rcases h19' with rfl | q19
      · rcases h18' with rfl | qa18
        · rcases h1' with rfl | qa1
          · rcases hl' with rfl | qlen
            · go_enter Tryz.func86, Tryz.ntmps86
              go_wp2
              go_ret
              exact Tells.yes (by simp_all) (Only.refl _ _)
            · go_enter Tryz.func86, Tryz.ntmps86
              go_wp2
              go_ret
              exact Tells.no (by simp_all) (Only.refl _ _)
          · go_enter Tryz.func86, Tryz.ntmps86
            go_wp2
            go_ret
            exact Tells.no (by simp_all) (Only.refl _ _)
        · go_enter Tryz.func86, Tryz.ntmps86
          go_wp2
          go_ret
          exact Tells.no (by simp_all) (Only.refl _ _)
      · rcases h18' with rfl | qa18
        · rcases h1' with rfl | qa1
          · rcases hl' with rfl | qlen
            · go_enter Tryz.func86, Tryz.ntmps86
              go_wp2
              go_ret
              exact Tells.yes (by simp_all) (Only.refl _ _)
            · go_enter Tryz.func86, Tryz.ntmps86
              go_wp2
              go_ret
              exact Tells.no (by simp_all) (Only.refl _ _)
          · go_enter Tryz.func86, Tryz.ntmps86
            go_wp2
            go_ret
            exact Tells.no (by simp_all) (Only.refl _ _)
        · go_enter Tryz.func86, Tryz.ntmps86
          go_wp2
          go_ret
          exact Tells.no (by simp_all) (Only.refl _ _)
    | true =>
      rcases h19' with rfl | q19
      · rcases h18' with rfl | qa18
        · rcases h1' with rfl | qa1
          · rcases hl' with rfl | qlen
            · go_enter Tryz.func86, Tryz.ntmps86
              go_wp2
              go_ret
              exact Tells.yes (by simp_all) (Only.refl _ _)
            · go_enter Tryz.func86, Tryz.ntmps86
              go_wp2
              go_ret
              exact Tells.no (by simp_all) (Only.refl _ _)
          · go_enter Tryz.func86, Tryz.ntmps86
            go_wp2
            go_ret
            exact Tells.no (by simp_all) (Only.refl _ _)
        · go_enter Tryz.func86, Tryz.ntmps86
          go_wp2
          go_ret
          exact Tells.no (by simp_all) (Only.refl _ _)
      · rcases h18' with rfl | qa18
        · rcases h1' with rfl | qa1
          · rcases hl' with rfl | qlen
            · go_enter Tryz.func86, Tryz.ntmps86
              go_wp2
              go_ret
              exact Tells.yes (by simp_all) (Only.refl _ _)
            · go_enter Tryz.func86, Tryz.ntmps86
              go_wp2
              go_ret
              exact Tells.no (by simp_all) (Only.refl _ _)
          · go_enter Tryz.func86, Tryz.ntmps86
            go_wp2
            go_ret
            exact Tells.no (by simp_all) (Only.refl _ _)
        · go_enter Tryz.func86, Tryz.ntmps86
          go_wp2
          go_ret
          exact Tells.no (by simp_all) (Only.refl _ _)
  · cases M with
    | false =>
      rcases h19' with rfl | q19
      · go_enter Tryz.func86, Tryz.ntmps86
        go_wp2
        go_ret
        exact Tells.no (by simp_all) (Only.refl _ _)
      · go_enter Tryz.func86, Tryz.ntmps86
        go_wp2
        go_ret
        exact Tells.no (by simp_all) (Only.refl _ _)
    | true =>
      rcases h19' with rfl | q19
      · rcases h1' with rfl | qa1
        · rcases hl' with rfl | qlen
          · go_enter Tryz.func86, Tryz.ntmps86
            go_wp2
            go_ret
            exact Tells.yes (by simp_all) (Only.refl _ _)
          · go_enter Tryz.func86, Tryz.ntmps86
            go_wp2
            go_ret
            exact Tells.no (by simp_all) (Only.refl _ _)
        · go_enter Tryz.func86, Tryz.ntmps86
          go_wp2
          go_ret
          exact Tells.no (by simp_all) (Only.refl _ _)
      · rcases h1' with rfl | qa1
        · rcases hl' with rfl | qlen
          · go_enter Tryz.func86, Tryz.ntmps86
            go_wp2
            go_ret
            exact Tells.yes (by simp_all) (Only.refl _ _)
          · go_enter Tryz.func86, Tryz.ntmps86
            go_wp2
            go_ret
            exact Tells.no (by simp_all) (Only.refl _ _)
        · go_enter Tryz.func86, Tryz.ntmps86
          go_wp2
          go_ret
          exact Tells.no (by simp_all) (Only.refl _ _)
  · cases M with
    | false =>
      rcases h19' with rfl | q19
      · go_enter Tryz.func86, Tryz.ntmps86
        go_wp2
        go_ret
        exact Tells.no (by simp_all) (Only.refl _ _)
      · go_enter Tryz.func86, Tryz.ntmps86
        go_wp2
        go_ret
        exact Tells.no (by simp_all) (Only.refl _ _)
    | true =>
      rcases h19' with rfl | q19
      · rcases h18' with rfl | qa18
        · rcases h1' with rfl | qa1
          · go_enter Tryz.func86, Tryz.ntmps86
            go_wp2
            go_ret
            exact Tells.yes (by simp_all) (Only.refl _ _)
          · go_enter Tryz.func86, Tryz.ntmps86
            go_wp2
            go_ret
            exact Tells.no (by simp_all) (Only.refl _ _)
        · go_enter Tryz.func86, Tryz.ntmps86
          go_wp2
          go_ret
          exact Tells.no (by simp_all) (Only.refl _ _)
      · go_enter Tryz.func86, Tryz.ntmps86
        go_wp2
        go_ret
        exact Tells.no (by simp_all) (Only.refl _ _)
  · cases M with
    | false =>
      rcases h19' with rfl | q19
      · go_enter Tryz.func86, Tryz.ntmps86
        go_wp2
        go_ret
        exact Tells.no (by simp_all) (Only.refl _ _)
      · go_enter Tryz.func86, Tryz.ntmps86
        go_wp2
        go_ret
        exact Tells.no (by simp_all) (Only.refl _ _)
    | true =>
      rcases h19' with rfl | q19
      · rcases h18' with rfl | qa18
        · rcases hl' with rfl | qlen
          · go_enter Tryz.func86, Tryz.ntmps86
            go_wp2
            go_ret
            exact Tells.yes (by simp_all) (Only.refl _ _)
          · go_enter Tryz.func86, Tryz.ntmps86
            go_wp2
            go_ret
            exact Tells.no (by simp_all) (Only.refl _ _)
        · go_enter Tryz.func86, Tryz.ntmps86
          go_wp2
          go_ret
          exact Tells.no (by simp_all) (Only.refl _ _)
      · go_enter Tryz.func86, Tryz.ntmps86
        go_wp2
        go_ret
        exact Tells.no (by simp_all) (Only.refl _ _)
  · cases M with
    | false =>
      rcases h19' with rfl | q19
      · go_enter Tryz.func86, Tryz.ntmps86
        go_wp2
        go_ret
        exact Tells.no (by simp_all) (Only.refl _ _)
      · go_enter Tryz.func86, Tryz.ntmps86
        go_wp2
        go_ret
        exact Tells.no (by simp_all) (Only.refl _ _)
    | true =>
      rcases h19' with rfl | q19
      · rcases h18' with rfl | qa18
        · rcases h1' with rfl | qa1
          · rcases hl' with rfl | qlen
            · go_enter Tryz.func86, Tryz.ntmps86
              go_wp2
              go_ret
              exact Tells.yes (by simp_all) (Only.refl _ _)
            · go_enter Tryz.func86, Tryz.ntmps86
              go_wp2
              go_ret
              exact Tells.no (by simp_all) (Only.refl _ _)
          · go_enter Tryz.func86, Tryz.ntmps86
            go_wp2
            go_ret
            exact Tells.no (by simp_all) (Only.refl _ _)
        · go_enter Tryz.func86, Tryz.ntmps86
          go_wp2
          go_ret
          exact Tells.no (by simp_all) (Only.refl _ _)
      · go_enter Tryz.func86, Tryz.ntmps86
        go_wp2
        go_ret
        exact Tells.no (by simp_all) (Only.refl _ _)
end Go.Proofs.YtcppbdlmcbjmeaaGreatDoor

namespace Go.Proofs.YtcppbdlmcbjmeaaGreatDoor
open Go.RowKit

/-- An array equals itself, where its elements do. -/
theorem eq_arr {P : Program} {t elem : TypeId} {len n : Nat} (hu : P.underlying t = some (.array len elem)) (hi : (P.info? elem).map (·.size) = some n) {xs : Array Value} {D : Nat} {w : World}
    (h : ∀ i, i < len → ∃ v, (part elem xs (i * n)).run P w = .ok v w ∧ (Op.equalIn D elem v v).run P w = .ok true w) :
    (Op.equalIn (D + 1) t (.agg xs) (.agg xs)).run P w = .ok true w := by
  cases hq : P.info? elem with
  | none => simp [hq] at hi
  | some i =>
    have hs : i.size = n := by simpa [hq] using hi
    rw [Op.equalIn]
    simp [run_underlying hu, sizeOf, typeInfo, hq, hs]
    have key : ∀ (m k : Nat), k + m ≤ len → Sem.run P (forIn (List.range' k m) ((none : Option Bool), ()) fun i __s => do
            let __do_lift ← part elem xs (i * n)
            let __do_lift_1 ← part elem xs (i * n)
            let __do_lift ← Op.equalIn D elem __do_lift __do_lift_1
            if __do_lift = false then pure (ForInStep.done (some false, ())) else pure (ForInStep.yield (none, ()))) w = .ok (none, ()) w := by
      intro m
      induction m with
      | zero => intro k _; simp
      | succ m ih =>
        intro k hk
        obtain ⟨v, h1, h2⟩ := h k (by omega)
        rw [List.range'_succ, List.forIn_cons]
        simp [h1, h2]
        exact ih (k + 1) (by omega)
    rw [key len 0 (by omega)]
    simp
def StrOf (w : World) (v : Value) (s : ByteArray) : Prop := (convert 49 9 v).run Tryz.prog w = .ok (.string s) w
theorem strOf_nil (w : World) (l c : Nat) : StrOf w (.slice none l c) ByteArray.empty := run_convert_bytes_nil w 49 5 Tryz.underlying49 Tryz.underlying5 l c 9 Tryz.underlying9
theorem strOf_bytes {w : World} {b len cap : Nat} {xs : List Int} (hl : xs.length = len) (h : ∀ i, i < len → w.cell? ⟨b, i, none⟩ = some (.int .u8 (xs.getD i 0))) : StrOf w (.slice (some ⟨b, 0, none⟩) len cap) (strOfNums xs) :=
  run_convert_bytes_arg w 49 5 Tryz.underlying49 Tryz.underlying5 b 0 len cap xs hl (fun i hi => by rw [Nat.zero_add]; exact h i hi) 9 Tryz.underlying9
/-- Numbers as values. -/
def csV (y : Nat → Int) (off len : Nat) : List Value := (List.range len).map fun i => .int .i64 (y (off + i))
theorem csV_len (y : Nat → Int) (off len : Nat) : (csV y off len).length = len := by simp [csV]
theorem csV_at (y : Nat → Int) (off len i : Nat) (h : i < len) : (csV y off len)[i]? = some (.int .i64 (y (off + i))) := by simp [csV, h]
theorem csV_extract (y : Nat → Int) (off len a n : Nat) (h : a + n ≤ len) : (csV y off len).toArray.extract a (a + n) = (csV y (off + a) n).toArray := by
  apply Array.ext'
  rw [Array.toList_extract]
  apply List.ext_getElem?
  intro j
  show (List.take (a + n - a) (List.drop a (csV y off len)))[j]? = (csV y (off + a) n)[j]?
  rw [show a + n - a = n by omega, List.getElem?_take, List.getElem?_drop]
  by_cases hj : j < n
  · rw [if_pos hj, csV_at y off len _ (by omega), csV_at y _ n j hj, Nat.add_assoc]
  · rw [if_neg hj, List.getElem?_eq_none (by rw [csV_len]; omega)]
theorem eq_ints {t : TypeId} {n : Nat} (hu : Tryz.prog.underlying t = some (.array n 3)) (y : Nat → Int) (off D : Nat) (w : World) : (Op.equalIn (D + 2) t (.agg (csV y off n).toArray) (.agg (csV y off n).toArray)).run Tryz.prog w = .ok true w := by
  refine eq_arr (n := 1) hu (by kernel_rfl) fun i hi => ⟨.int .i64 (y (off + i)), ?_, by rw [eq_int]; simp⟩
  rw [Nat.mul_one]
  simp [part, isAgg, run_underlying Tryz.underlying3, csV_at y off n i hi]
theorem part_agg {t : TypeId} {d : TypeDesc} {n : Nat} (hu : Tryz.prog.underlying t = some d) (hd : (match d with | .struct _ | .array _ _ => true | _ => false) = true) (hi : (Tryz.prog.info? t).map (·.size) = some n) (y : Nat → Int) (off len a : Nat) (h : a + n ≤ len) (w : World) :
    (part t (csV y off len).toArray a).run Tryz.prog w = .ok (.agg (csV y (off + a) n).toArray) w := by
  cases hq : Tryz.prog.info? t with
  | none => simp [hq] at hi
  | some i =>
    have hs : i.size = n := by simpa [hq] using hi
    have he := csV_extract y off len a n h
    obtain ⟨xs, hxs⟩ : ∃ xs, xs = (csV y off len).toArray := ⟨_, rfl⟩
    rw [← hxs] at he ⊢
    clear hxs
    cases d <;> simp_all [part, isAgg, run_underlying hu, sizeOf, typeInfo]
theorem eq_row {t e : TypeId} {m n : Nat} (hu : Tryz.prog.underlying t = some (.array m e)) (he : Tryz.prog.underlying e = some (.array n 3)) (hi : (Tryz.prog.info? e).map (·.size) = some n) (y : Nat → Int) (off D : Nat) (w : World) :
    (Op.equalIn (D + 3) t (.agg (csV y off (m * n)).toArray) (.agg (csV y off (m * n)).toArray)).run Tryz.prog w = .ok true w := by
  refine eq_arr (n := n) hu hi fun i hm => ⟨_, part_agg he rfl hi y off (m * n) (i * n) ?_ w, eq_ints he y (off + i * n) D w⟩
  have : (i + 1) * n ≤ m * n := Nat.mul_le_mul_right n hm
  rw [Nat.add_mul] at this
  omega
set_option maxRecDepth 100000 in
theorem eq_parts4 (y : Nat → Int) (off : Nat) (w : World) : (Op.equalIn 10000 46 (.agg (csV y off 28).toArray) (.agg (csV y off 28).toArray)).run Tryz.prog w = .ok true w := by
  refine eq_arr (D := 9999) (n := 7) Tryz.underlying46 (by kernel_rfl) fun i hi => ⟨_, part_agg (n := 7) Tryz.underlying45 rfl (by kernel_rfl) y off 28 (i * 7) (by omega) w, ?_⟩
  have h := eq_part (fun j => y (off + i * 7 + j)) (fun j => y (off + i * 7 + j)) 9995 w
  have ha : allEq 7 (fun j => y (off + i * 7 + j)) (fun j => y (off + i * 7 + j)) = true := allEq_iff.2 fun _ _ => rfl
  rw [ha] at h
  exact h
theorem wpList_load_g {P : Program} {ops : Array Oper} {rest : List Oper} {op : Oper} {a : Act} {w : World} {Q : Exit → Act → World → Prop} (hw : Region.wanted op (yielded ops a.tmps) = true) (ty : TypeId) (x : Operand) (ho : op.op = .load ty x)
    (b o : Nat) (hx : a.eval x = .pointer (some ⟨b, o, none⟩)) (cs : List Value) (d : TypeDesc) (hc : w.rangeAt b o cs)
    (hu : P.underlying ty = some d) (hd : d.isRow = true) (hi : (P.info? ty).map (·.size) = some cs.length)
    (h : wpList P ops Q rest (a.put op.dst (.agg cs.toArray)) w) : wpList P ops Q (op :: rest) a w :=
  wpList_step fun K hK => by rw [if_pos hw]; exact wp_load_mid ty x ho b o hx cs d hc hu hd hi (hK _ _ h)
theorem BlkIn.csV {w : World} {b : Nat} {t : TypeId} {X : Nat → Value} {y : Nat → Int} (h : BlkIn w b 483 t X) (hX : ∀ j, j < 482 → X j = .int .i64 (y j)) (off len : Nat) (hl : off + len ≤ 482) : w.rangeAt b off (csV y off len) := fun j v hj => by
  have hj2 : j < len := by
    apply Classical.byContradiction
    intro e
    rw [List.getElem?_eq_none (by rw [csV_len]; omega)] at hj
    cases hj
  rw [csV_at y off len j hj2] at hj
  rw [h.cell (off + j) (by omega), hX (off + j) (by omega), hj]
/-- Here the walk stands still. -/
structure Held (p : Prop) : Prop where
  out : p
theorem held_at {P : Program} {ops : Array Oper} {rest : List Oper} {o : Oper} {a : Act} {w : World} {Q : Exit → Act → World → Prop} (d : Nat) (_hd : o.dst = some d) (h : Held (wpList P ops Q (o :: rest) a w)) : wpList P ops Q (o :: rest) a w := h.out
set_option maxRecDepth 100000 in
set_option maxHeartbeats 3200000 in
theorem rf_same {Xa Xb : Nat → Value} {y : Nat → Int} {s : ByteArray} {w : World} (ha : ∀ j, j < 482 → Xa j = .int .i64 (y j)) (hb : ∀ j, j < 482 → Xb j = .int .i64 (y j)) (sa : ∀ wx, Only [] w wx → StrOf wx (Xa 482) s) (sb : ∀ wx, Only [] w wx → StrOf wx (Xb 482) s) :
    Calls Tryz.prog 20 #[.agg (fnA 483 Xa), .agg (fnA 483 Xb)] w fun e w' => e = .returned (.bool true) ∧ Only [] w w' := by
  obtain ⟨XA, hXA⟩ : ∃ XA, XA = fnA 483 Xa := ⟨_, rfl⟩
  obtain ⟨XB, hXB⟩ : ∃ XB, XB = fnA 483 Xb := ⟨_, rfl⟩
  have A0 : BlkIn ((w.alloc (.cells XA 51)).alloc (.cells XB 51)) w.heap.size 483 51 Xa := by
    unfold BlkIn
    rw [← hXA]
    exact heap_alloc_lt _ (heap_alloc_at w _)
  have B0 : BlkIn ((w.alloc (.cells XA 51)).alloc (.cells XB 51)) (w.heap.size + 1) 483 51 Xb := by
    unfold BlkIn
    have h := heap_alloc_at (w.alloc (.cells XA 51)) (.cells XB 51)
    rw [World.size_alloc] at h
    rw [← hXB]
    exact h
  have O0 := Lib.hid (((Only.refl [] w).alloc (.cells XA 51)).alloc (.cells XB 51))
  have s1 : (convert 49 9 (Xa 482)).run Tryz.prog ((w.alloc (.cells XA 51)).alloc (.cells XB 51)) = .ok (.string s) ((w.alloc (.cells XA 51)).alloc (.cells XB 51)) := sa _ O0.out
  have s2 : (convert 49 9 (Xb 482)).run Tryz.prog ((w.alloc (.cells XA 51)).alloc (.cells XB 51)) = .ok (.string s) ((w.alloc (.cells XA 51)).alloc (.cells XB 51)) := sb _ O0.out
  have ra1 := Lib.hid (A0.csV ha 2 16 (by decide))
  have ra2 := Lib.hid (A0.csV ha 20 28 (by decide))
  have ra3 := Lib.hid (A0.csV ha 50 (24 * 16) (by decide))
  have ra4 := Lib.hid (A0.csV ha 434 (3 * 16) (by decide))
  have rb1 := Lib.hid (B0.csV hb 2 16 (by decide))
  have rb2 := Lib.hid (B0.csV hb 20 28 (by decide))
  have rb3 := Lib.hid (B0.csV hb 50 (24 * 16) (by decide))
  have rb4 := Lib.hid (B0.csV hb 434 (3 * 16) (by decide))
  have ca : ∀ j, j < 482 → ((w.alloc (.cells XA 51)).alloc (.cells XB 51)).cell? ⟨w.heap.size, j, none⟩ = some (.int .i64 (y j)) := fun j hj => by rw [A0.cell j (by omega), ha j hj]
  have cb : ∀ j, j < 482 → ((w.alloc (.cells XA 51)).alloc (.cells XB 51)).cell? ⟨w.heap.size + 1, j, none⟩ = some (.int .i64 (y j)) := fun j hj => by rw [B0.cell j (by omega), hb j hj]
  have a0 := ca 0 (by decide)
  have a1 := ca 1 (by decide)
  have a18 := ca 18 (by decide)
  have a19 := ca 19 (by decide)
  have a48 := ca 48 (by decide)
  have a49 := ca 49 (by decide)
  have a482 := A0.cell 482 (by decide)
  have b0 := cb 0 (by decide)
  have b1 := cb 1 (by decide)
  have b18 := cb 18 (by decide)
  have b19 := cb 19 (by decide)
  have b48 := cb 48 (by decide)
  have b49 := cb 49 (by decide)
  have b482 := B0.cell 482 (by decide)
  have q1 : ∀ wx, (Op.equalIn 10000 39 (.agg (csV y 2 16).toArray) (.agg (csV y 2 16).toArray)).run Tryz.prog wx = .ok true wx := fun wx => eq_ints (D := 9998) Tryz.underlying39 y 2 wx
  have q2 : ∀ wx, (Op.equalIn 10000 46 (.agg (csV y 20 28).toArray) (.agg (csV y 20 28).toArray)).run Tryz.prog wx = .ok true wx := fun wx => eq_parts4 y 20 wx
  have q3 : ∀ wx, (Op.equalIn 10000 47 (.agg (csV y 50 (24 * 16)).toArray) (.agg (csV y 50 (24 * 16)).toArray)).run Tryz.prog wx = .ok true wx := fun wx => eq_row (D := 9997) Tryz.underlying47 Tryz.underlying39 (by kernel_rfl) y 50 wx
  have q4 : ∀ wx, (Op.equalIn 10000 48 (.agg (csV y 434 (3 * 16)).toArray) (.agg (csV y 434 (3 * 16)).toArray)).run Tryz.prog wx = .ok true wx := fun wx => eq_row (D := 9997) Tryz.underlying48 Tryz.underlying39 (by kernel_rfl) y 434 wx
  have l1 := Lib.hid (show (Tryz.prog.info? 39).map (·.size) = some (csV y 2 16).length by rw [csV_len]; kernel_rfl)
  have l2 := Lib.hid (show (Tryz.prog.info? 46).map (·.size) = some (csV y 20 28).length by rw [csV_len]; kernel_rfl)
  have l3 := Lib.hid (show (Tryz.prog.info? 47).map (·.size) = some (csV y 50 (24 * 16)).length by rw [csV_len]; kernel_rfl)
  have l4 := Lib.hid (show (Tryz.prog.info? 48).map (·.size) = some (csV y 434 (3 * 16)).length by rw [csV_len]; kernel_rfl)
  rw [← hXA, ← hXB]
  clear ca cb A0 B0 ha hb hXA hXB sa sb
  generalize Xa 482 = pa at *
  generalize Xb 482 = pb at *
  generalize csV y 2 16 = M1 at *
  generalize csV y 20 28 = M2 at *
  generalize csV y 50 (24 * 16) = M3 at *
  generalize csV y 434 (3 * 16) = M4 at *
  generalize y 0 = y0 at *
  generalize y 1 = y1 at *
  generalize y 18 = y18 at *
  generalize y 19 = y19 at *
  generalize y 48 = y48 at *
  generalize y 49 = y49 at *
  go_enter Tryz.func20, Tryz.ntmps20
  go_wp2_with (refine held_at 11 rfl ?_)
  refine ⟨?_⟩
  (refine wpList_step (fun K hK => ?_); rw [if_pos (by rfl)]; go_simp; refine hK _ _ ?_; clear hK K)
  refine wpList_nil ?_
  iterate 6 go_step
  refine wp_seq ?_
  refine wp_region_lit ?_
  iterate 14 (refine wpList_step (fun K hK => ?_); rw [if_pos (by rfl)]; go_simp; refine hK _ _ ?_; clear hK K)
  refine wpList_load_g (by rfl) 39 _ rfl w.heap.size 2 rfl M1 _ ra1.out Tryz.underlying39 rfl l1.out ?_
  simp only [Act.put, List.setIfInBounds_toArray, List.set_cons_zero, List.set_cons_succ]
  iterate 1 (refine wpList_step (fun K hK => ?_); rw [if_pos (by rfl)]; go_simp; refine hK _ _ ?_; clear hK K)
  refine wpList_load_g (by rfl) 39 _ rfl (w.heap.size + 1) 2 rfl M1 _ rb1.out Tryz.underlying39 rfl l1.out ?_
  simp only [Act.put, List.setIfInBounds_toArray, List.set_cons_zero, List.set_cons_succ]
  iterate 18 (refine wpList_step (fun K hK => ?_); rw [if_pos (by rfl)]; go_simp; refine hK _ _ ?_; clear hK K)
  refine wpList_load_g (by rfl) 46 _ rfl w.heap.size 20 rfl M2 _ ra2.out Tryz.underlying46 rfl l2.out ?_
  simp only [Act.put, List.setIfInBounds_toArray, List.set_cons_zero, List.set_cons_succ]
  iterate 1 (refine wpList_step (fun K hK => ?_); rw [if_pos (by rfl)]; go_simp; refine hK _ _ ?_; clear hK K)
  refine wpList_load_g (by rfl) 46 _ rfl (w.heap.size + 1) 20 rfl M2 _ rb2.out Tryz.underlying46 rfl l2.out ?_
  simp only [Act.put, List.setIfInBounds_toArray, List.set_cons_zero, List.set_cons_succ]
  iterate 18 (refine wpList_step (fun K hK => ?_); rw [if_pos (by rfl)]; go_simp; refine hK _ _ ?_; clear hK K)
  refine wpList_load_g (by rfl) 47 _ rfl w.heap.size 50 rfl M3 _ ra3.out Tryz.underlying47 rfl l3.out ?_
  simp only [Act.put, List.setIfInBounds_toArray, List.set_cons_zero, List.set_cons_succ]
  iterate 1 (refine wpList_step (fun K hK => ?_); rw [if_pos (by rfl)]; go_simp; refine hK _ _ ?_; clear hK K)
  refine wpList_load_g (by rfl) 47 _ rfl (w.heap.size + 1) 50 rfl M3 _ rb3.out Tryz.underlying47 rfl l3.out ?_
  simp only [Act.put, List.setIfInBounds_toArray, List.set_cons_zero, List.set_cons_succ]
  iterate 4 (refine wpList_step (fun K hK => ?_); rw [if_pos (by rfl)]; go_simp; refine hK _ _ ?_; clear hK K)
  refine wpList_load_g (by rfl) 48 _ rfl w.heap.size 434 rfl M4 _ ra4.out Tryz.underlying48 rfl l4.out ?_
  simp only [Act.put, List.setIfInBounds_toArray, List.set_cons_zero, List.set_cons_succ]
  iterate 1 (refine wpList_step (fun K hK => ?_); rw [if_pos (by rfl)]; go_simp; refine hK _ _ ?_; clear hK K)
  refine wpList_load_g (by rfl) 48 _ rfl (w.heap.size + 1) 434 rfl M4 _ rb4.out Tryz.underlying48 rfl l4.out ?_
  simp only [Act.put, List.setIfInBounds_toArray, List.set_cons_zero, List.set_cons_succ]
  iterate 3 (refine wpList_step (fun K hK => ?_); rw [if_pos (by rfl)]; go_simp; refine hK _ _ ?_; clear hK K)
  refine wpList_nil ?_
  go_wp2
  go_ret
  exact ⟨rfl, O0.out⟩
end Go.Proofs.YtcppbdlmcbjmeaaGreatDoor
