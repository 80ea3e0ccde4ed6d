/-
  The walks over package engine: numbers, the tables.
-/
import Derived.Test.YtibojidpifgblaaDoorElt
import Derived.Test.YtibojidpifgblaaDoorRows
import Derived.Test.YtibojidpifgblaaDoorLib2
import Derived.Test.YtibojidpifgblaaDoorOnce
import Derived.Test.YtibojidpifgblaaDoorEngSpec
import Derived.Test.YtibojidpifgblaaDoorShelf
namespace Go.Proofs.YtibojidpifgblaaDoor
open Go.RowKit


/-- The library's table of blanks stands as the program's text lays it. -/
def Asc (w : World) : Prop := Lib.TabIs Tryd.prog w "strings.asciiSpace" .u8 Lib.asciiSpaceTab

theorem asc_named : Tryd.prog.globalNamed "strings.asciiSpace" = some 0 := by kernel_rfl
theorem Asc.lt {w : World} (h : Asc w) : 0 < w.heap.size := by
  unfold Asc Lib.TabIs World.var? at h
  rw [asc_named] at h
  rcases Nat.lt_or_ge 0 w.heap.size with g | g
  · exact g
  · simp [Array.getElem?_eq_none g] at h
theorem Asc.only {S : List Nat} {w w' : World} (ha : Asc w) (h : Only S w w') (hS : ∀ k ∈ S, 0 < k) : Asc w' :=
  var?_below (B := 0 + 1) (h.below' (fun k hk => hS k hk) ha.lt) asc_named (by omega) ha
theorem Asc.below {B : Nat} {w w' : World} (ha : Asc w) (h : Below B w w') (hS : 0 < B) : Asc w' :=
  var?_below (h.mono (show 0 + 1 ≤ B from hS)) asc_named (by omega) ha
theorem numOf_snoc (l : List UInt8) (b : UInt8) : numOf (l ++ [b]) = 10 * numOf l + ((b.toNat : Int) - 48) := by simp [numOf]
theorem numOf_range' (l : List UInt8) : ∀ x : Int, 0 ≤ x → (∀ b ∈ l, 48 ≤ b.toNat ∧ b.toNat ≤ 57) →
    0 ≤ l.foldl (fun x b => 10 * x + ((b.toNat : Int) - 48)) x ∧ l.foldl (fun x b => 10 * x + ((b.toNat : Int) - 48)) x < (x + 1) * 10 ^ l.length := by
  induction l with
  | nil => intro x hx _; simp; omega
  | cons b l ih =>
    intro x hx h
    have h2 := h b (by simp)
    have h1 := ih (10 * x + ((b.toNat : Int) - 48)) (by omega) (fun c hc => h c (by simp [hc]))
    rw [List.foldl_cons, List.length_cons]
    refine ⟨h1.1, Int.lt_of_lt_of_le h1.2 ?_⟩
    have h3 : (10 * x + ((b.toNat : Int) - 48) + 1) ≤ (x + 1) * 10 := by omega
    have h4 : (0 : Int) ≤ 10 ^ l.length := Int.le_of_lt (Int.pow_pos (by decide))
    have := Int.mul_le_mul_of_nonneg_right h3 h4
    rw [Int.pow_succ, Int.mul_comm ((10 : Int) ^ l.length) 10, ← Int.mul_assoc]
    exact this
theorem numOf_range (l : List UInt8) (h : okWord l = true) (i : Nat) : 0 ≤ numOf (l.take i) ∧ numOf (l.take i) < 1000000000 := by
  unfold okWord at h
  simp only [Bool.and_eq_true, decide_eq_true_eq, List.all_eq_true] at h
  have h1 := numOf_range' (l.take i) 0 (by omega) (fun b hb => h.2 b (List.mem_of_mem_take hb))
  have h2 : (l.take i).length ≤ 9 := by rw [List.length_take]; omega
  have h3 : (10 : Int) ^ (l.take i).length ≤ 10 ^ 9 := by
    have : 10 ^ (l.take i).length ≤ 10 ^ 9 := Nat.pow_le_pow_right (by decide) h2
    exact_mod_cast this
  unfold numOf
  omega
theorem numOf_take (l : List UInt8) (i : Nat) (h : i < l.length) : numOf (l.take (i + 1)) = 10 * numOf (l.take i) + ((l[i].toNat : Int) - 48) := by
  rw [List.take_succ_eq_append_getElem h, numOf_snoc]
theorem okWord_at (l : List UInt8) (h : okWord l = true) (i : Nat) (hi : i < l.length) : 48 ≤ l[i].toNat ∧ l[i].toNat ≤ 57 := by
  unfold okWord at h
  simp only [Bool.and_eq_true, decide_eq_true_eq, List.all_eq_true] at h
  exact h.2 _ (List.getElem_mem hi)

set_option maxHeartbeats 800000 in
theorem eng_numbers (s : ByteArray) (xs : List Int) (w : World) (hok : numsOk s.data.toList xs = true) (ha : Asc w) :
    Calls Tryd.prog 76 #[.string s] w fun e w' => ∃ sv, e = .returned sv ∧ w'.ownsRow w.heap.size 3 1 sv xs.length (xs.map (Value.int .i64)) ∧ Below w.heap.size w w' := by
  unfold numsOk at hok
  simp only [Bool.and_eq_true, decide_eq_true_eq, List.all_eq_true] at hok
  obtain ⟨⟨⟨⟨hw, hx⟩, has⟩, hsl⟩, hxl⟩ := hok
  have hlen : s.size = s.data.toList.length := by simp
  have hf := Tryd.strings_Fields s w (by rw [hlen]; omega) (fun j b hj => by
    obtain ⟨hlt, rfl⟩ := List.getElem?_eq_some_iff.1 hj
    exact has _ (List.getElem_mem hlt)) ha
  generalize Lib.fields s.data.toList = W at *
  have hWx : W.length = xs.length := by rw [← hx]; simp
  have hWl : W.length < 10000 := by omega
  have Hf := Lib.hid hf
  have Hw := Lib.hid hw
  have Hx := Lib.hid hx
  have HWx := Lib.hid hWx
  clear hf hw hx has hsl hxl hlen ha hWx
  rw [← HWx.out]
  go_enter Tryd.func76, Tryd.ntmps76
  go_wp2_with fail
  refine (Hf.out).mono ?_
  rintro e w1 ⟨rfl, hw1⟩
  have hb1 : w1.heap[w.heap.size]? = some (.cells (W.map fun l => Value.string ⟨l.toArray⟩).toArray 9 (0, 0)) := by rw [hw1]; exact heap_alloc_at _ _
  have hbl1 : Below w.heap.size w w1 := by rw [hw1]; exact (Below.refl _ _).alloc (Nat.le_refl _) _
  have Hb1 := Lib.hid hb1
  have Hbl1 := Lib.hid hbl1
  clear hw1 hb1 hbl1
  go_wp2
  go_loopw [3, 11] (fun o i wr => ∃ (k : Nat) (ys : List Int), k ≤ W.length ∧ i = .int .i64 k ∧ Hid (ys = (W.take k).map numOf) ∧ ys.length ≤ k ∧ wr.ownsRow w.heap.size 3 1 o ys.length (ys.map (Value.int .i64)) ∧
    wr.heap[w.heap.size]? = some (.cells (W.map fun l => Value.string ⟨l.toArray⟩).toArray 9 (0, 0)) ∧ Below w.heap.size w wr) (fun _ i _ => W.length - (intOf i).toNat)
  case atStart => exact ⟨0, [], Nat.zero_le _, rfl, Lib.hid (by simp), by simp, World.ownsRow_nil _ _ _ _, Hb1.out, Hbl1.out⟩
  case round =>
    obtain ⟨k, ys, hk, rfl, hys, hyl, hown, hblk, hbel⟩ := hrel
    have hsz := hbel.size
    by_cases hlt : k < W.length
    · obtain ⟨l, hl⟩ : ∃ l, l = W[k] := ⟨_, rfl⟩
      have hcell : wr.cell? ⟨w.heap.size, k, none⟩ = some (.string ⟨l.toArray⟩) := by
        rw [cells_of hblk, hl]
        simp [hlt]
      have hokl : okWord l = true := by rw [hl]; exact Hw.out _ (List.getElem_mem hlt)
      have hll : l.length ≤ 9 := by
        have := hokl
        unfold okWord at this
        simp only [Bool.and_eq_true, decide_eq_true_eq] at this
        exact this.1
      have Hl := Lib.hid hl
      have Hokl := Lib.hid hokl
      have Hblk := Lib.hid hblk
      obtain ⟨t, ht⟩ : ∃ t : ByteArray, t = ⟨l.toArray⟩ := ⟨_, rfl⟩
      rw [← ht] at hcell
      have hts : t.size = l.length := by rw [ht]; rfl
      have htb : ∀ i (h : i < t.size) (h' : i < l.length), (t[i]'h).toNat = (l[i]'h').toNat := by
        subst ht
        intro i h h'
        rfl
      have Hts := Lib.hid hts
      have Htb := Lib.hid htb
      have htl : t.size ≤ 9 := by omega
      clear hl hokl hblk ht hts htb
      go_wp2
      go_loop [6, 17] (fun p q => ∃ i : Nat, i ≤ t.size ∧ q = .int .i64 i ∧ ∃ y : Int, p = .int .i64 y ∧ Hid (y = numOf (l.take i)) ∧ 0 ≤ y ∧ y < 1000000000) (fun _ q => t.size - (intOf q).toNat)
      case atStart => exact ⟨0, Nat.zero_le _, rfl, 0, rfl, Lib.hid (by simp [numOf]), by omega, by omega⟩
      case round =>
        obtain ⟨i, hi, rfl, y, rfl, hy, hy0, hy1⟩ := hrel
        by_cases hit : i < t.size
        · have hil : i < l.length := by rw [← Hts.out]; exact hit
          have hbb := okWord_at l Hokl.out i hil
          have hbe := Htb.out i hit hil
          rw [← hbe] at hbb
          obtain ⟨d, hd⟩ : ∃ d : Nat, d = (t[i]'hit).toNat := ⟨_, rfl⟩
          have hd' : ((t[i]'hit).toNat : Int) = d := by rw [hd]
          rw [← hd] at hbb
          obtain ⟨hd0, hd1⟩ := hbb
          have Hd := Lib.hid hd
          have Hbe := Lib.hid hbe
          clear hd hbe
          have hnum := numOf_take l i hil
          rw [← Hbe.out, ← Hd.out, ← hy.out] at hnum
          have hrg := numOf_range l Hokl.out (i + 1)
          have Hn := Lib.hid hnum
          have Hr := Lib.hid hrg
          clear hnum hrg
          go_wp2
          go_round
          case rel => exact ⟨i + 1, by omega, by go_num, _, rfl, Lib.hid Hn.out.symm, by have := Hr.out; rw [Hn.out] at this; omega, by have := Hr.out; rw [Hn.out] at this; omega⟩
          case measure => simp [intOf] <;> omega
        · obtain rfl : i = t.size := by omega
          have hyl2 : y = numOf l := by rw [hy.out, Hts.out, List.take_length]
          have Hyl := Lib.hid hyl2
          clear hyl2
          go_wp2_with (at_builtin; refine wpList_push rfl _ _ rfl elt64 w.heap.size _ _ _ _ hown rfl rfl (by simp) rfl (by omega) (by decide) (by omega) ?_)
          intro g cap w2 hp
          have hbelow : Below w.heap.size wr w2 := Below.grown (Below.refl _ _) hp.2.1 hsz (fun k hk => (hown.lt k hk).1)
          have hown2 := ownsRow_cast (ys := (ys ++ [y]).map (Value.int .i64)) (m := (ys ++ [y]).length) hp.1 (by simp) (by simp)
          have hblk2 : w2.heap[w.heap.size]? = some (.cells (W.map fun l => Value.string ⟨l.toArray⟩).toArray 9 (0, 0)) := by
            rw [hp.2.1.block w.heap.size (lt_of_block Hblk.out) (fun e => by
              obtain ⟨cur, hc⟩ := ownsRow_block hown e.symm
              rw [Hblk.out] at hc
              simp at hc)]
            exact Hblk.out
          have H3 := Lib.hid hblk2
          clear hblk2
          have H1 := Lib.hid hown2
          have H2 := Lib.hid (hbel.trans hbelow)
          clear hp hown hbelow hown2
          go_wp2
          go_roundw
          case rel =>
            refine ⟨k + 1, ys ++ [y], by omega, by go_num, Lib.hid ?_, by simp; omega, ?_, H3.out, H2.out⟩
            · rw [List.take_succ_eq_append_getElem hlt, List.map_append, ← hys.out, ← Hl.out, List.map_singleton, ← Hyl.out]
            · exact ownsRow_cast H1.out rfl rfl
          case measure => simp [intOf] <;> omega
    · obtain rfl : k = W.length := by omega
      have e : ys = xs := by rw [hys.out, List.take_length, Hx.out]
      rw [e] at hown
      have H1 := Lib.hid hown
      clear hown e hblk
      go_wp2
      go_ret
      refine ⟨_, rfl, ?_, hbel⟩
      exact ownsRow_cast H1.out HWx.out.symm rfl
end Go.Proofs.YtibojidpifgblaaDoor
