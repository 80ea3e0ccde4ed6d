/-
  The walk over package recon's plane.get: samples in a row or a column. The walks over package xform, for blocks of the lowest coefficient alone.
-/
import Derived.Test.YtcmehedjdfopdaaGreatJ02
import Derived.BigRegion
import Derived.StillTailTactics
import Derived.IntWalk
import Derived.Laws.Cover3
namespace Go.Proofs.YtcmehedjdfopdaaGreat
open Go.RowKit

/-- Samples of a plane in a row or a column. -/
def getL (pl : List Int) (pw x y dx dy n : Nat) : List Int := (List.range n).map fun i => pl.getD ((y + i * dy) * pw + x + i * dx) 0
theorem getL_length (pl : List Int) (pw x y dx dy n : Nat) : (getL pl pw x y dx dy n).length = n := by simp [getL]

/-- A plane: its struct in a block, its samples in another. -/
structure PlaneAt (w : World) (p g : Nat) (cap pw side : Nat) (pl : List Int) : Prop where
  st : w.heap[p]? = some (.cells #[.slice (some ⟨g, 0, none⟩) pl.length cap, .int .i64 pw, .int .i64 side] 117 (0, 0))
  sm : ∃ rest, w.heap[g]? = some (.cells (u8s pl ++ rest) 5 (0, 0))
  ok : okPl pl
theorem PlaneAt.only {w w' : World} {S : List Nat} {p g cap pw side : Nat} {pl : List Int} (h : PlaneAt w p g cap pw side pl) (ho : Only S w w') (hp : p ∉ S) (hg : g ∉ S) : PlaneAt w' p g cap pw side pl := by
  obtain ⟨rest, hr⟩ := h.sm
  exact ⟨ho.heap h.st hp, ⟨rest, ho.heap hr hg⟩, h.ok⟩
theorem PlaneAt.smp {w : World} {p g cap pw side : Nat} {pl : List Int} (h : PlaneAt w p g cap pw side pl) (i : Nat) (hi : i < pl.length) : w.cell? ⟨g, i, none⟩ = some (.int .u8 (pl.getD i 0)) := by
  obtain ⟨rest, hr⟩ := h.sm
  rw [cells_of hr, Array.getElem?_append_left (by rw [u8s_size]; exact hi)]
  exact u8s_at pl i hi

theorem i64w (n : Int) (h0 : -9223372036854775808 ≤ n) (h1 : n ≤ 9223372036854775807) : IntKind.i64.wrap n = n := IntWalk.i64_in n (by constructor <;> omega)
theorem i64n (n : Nat) (h1 : n ≤ 1000000000) : IntKind.i64.wrap (n : Int) = n := i64w _ (by omega) (by omega)

set_option maxRecDepth 100000 in
set_option maxHeartbeats 1600000 in
theorem plane_get {w : World} {p g cap pw side : Nat} {pl : List Int} (h : PlaneAt w p g cap pw side pl) (x y dx dy n : Nat) (hd : dx ≤ 1 ∧ dy ≤ 1) (hn : n ≤ 16) (hx : x ≤ 1000) (hy : y ≤ 1000) (hl : pl.length ≤ 1000000)
    (hin : ∀ k, k < n → (y + k * dy) * pw + x + k * dx < pl.length) :
    Calls Tryz.prog 77 #[.pointer (some ⟨p, 0, none⟩), .int .i64 x, .int .i64 y, .int .i64 dx, .int .i64 dy, .int .i64 n] w fun e w' => ∃ g', e = .returned (.slice (some ⟨g', 0, none⟩) n n) ∧ w'.heap[g']? = some (.cells (ints (getL pl pw x y dx dy n)) 3 (0, 0)) ∧ w.heap.size ≤ g' ∧ Only [] w w' := by
  obtain ⟨f, hf⟩ : ∃ f : Nat → Int, ∀ i, f i = pl.getD ((y + i * dy) * pw + x + i * dx) 0 := ⟨_, fun _ => rfl⟩
  have hfull : getL pl pw x y dx dy n = fillTo f n n := by
    rw [fillTo_full]
    unfold getL
    congr 1
    funext i
    exact (hf i).symm
  rw [hfull]
  obtain ⟨len, hlen⟩ : ∃ len, len = pl.length := ⟨_, rfl⟩
  have hst := h.st
  rw [← hlen] at hl hin hst
  have H := Lib.hid h
  have Hf := Lib.hid hf
  have Hin := Lib.hid hin
  have Hst := Lib.hid hst
  have Hlen := Lib.hid hlen
  have hpb := lt_of_block hst
  clear h hf hin hst hfull hlen
  go_enter Tryz.func77, Tryz.ntmps77
  go_wp2_with (refine wpList_make1 rfl _ _ rfl elt64 rfl n rfl rfl (by simp) (by simp) (by decide) (by omega) ?_)
  intro w1 hw1 ho1 hs1
  rw [ints_replicate, ← fillTo_zero f] at hw1
  have Hw1 := Lib.hid hw1
  have Ho1 := Lib.hid ho1
  clear hw1 ho1
  go_wp2
  go_loopw [19] (fun q wr => ∃ k : Nat, k ≤ n ∧ q = .int .i64 k ∧ wr.heap[w.heap.size]? = some (.cells (ints (fillTo f n k)) 3 (0, 0)) ∧ Only [] w wr) (fun q _ => n - (intOf q).toNat)
  case atStart => exact ⟨0, Nat.zero_le _, rfl, Hw1.out, Ho1.out⟩
  case round =>
    obtain ⟨k, hk, rfl, hc, ho⟩ := hrel
    by_cases hlt : k < n
    · have hP := H.out.only ho (by simp) (by simp)
      have hi := Hin.out k hlt
      obtain ⟨i, hi0⟩ : ∃ i, i = (y + k * dy) * pw + x + k * dx := ⟨_, rfl⟩
      obtain ⟨a, ha⟩ : ∃ a : Nat, a = k * dy := ⟨_, rfl⟩
      obtain ⟨b, hb⟩ : ∃ b : Nat, b = y + a := ⟨_, rfl⟩
      obtain ⟨c, hc0⟩ : ∃ c : Nat, c = b * pw := ⟨_, rfl⟩
      obtain ⟨d, hd0⟩ : ∃ d : Nat, d = c + x := ⟨_, rfl⟩
      obtain ⟨e, he⟩ : ∃ e : Nat, e = k * dx := ⟨_, rfl⟩
      have hi1 : i = d + e := by rw [hi0, hd0, hc0, hb, ha, he]
      have a1 : a ≤ 16 := by rw [ha]; exact Nat.le_trans (Nat.mul_le_mul (by omega : k ≤ 16) hd.2) (by omega)
      have e1 : e ≤ 16 := by rw [he]; exact Nat.le_trans (Nat.mul_le_mul (by omega : k ≤ 16) hd.1) (by omega)
      have b1 : b ≤ 1016 := by omega
      have hil : i < len := by rw [hi0]; exact hi
      have c1 : c ≤ 1000000 := by omega
      have q1 : IntKind.i64.wrap ((k : Int) * dy) = (a : Int) := by rw [← Int.natCast_mul, ← ha]; exact i64n _ (by omega)
      have q2 : IntKind.i64.wrap ((y : Int) + a) = (b : Int) := by rw [← Int.natCast_add, ← hb]; exact i64n _ (by omega)
      have q3 : IntKind.i64.wrap ((b : Int) * pw) = (c : Int) := by rw [← Int.natCast_mul, ← hc0]; exact i64n _ (by omega)
      have q4 : IntKind.i64.wrap ((c : Int) + x) = (d : Int) := by rw [← Int.natCast_add, ← hd0]; exact i64n _ (by omega)
      have q5 : IntKind.i64.wrap ((k : Int) * dx) = (e : Int) := by rw [← Int.natCast_mul, ← he]; exact i64n _ (by omega)
      have q6 : IntKind.i64.wrap ((d : Int) + e) = (i : Int) := by rw [← Int.natCast_add, ← hi1]; exact i64n _ (by omega)
      have s0 : wr.cell? ⟨p, 0, none⟩ = some (.slice (some ⟨g, 0, none⟩) len cap) := by rw [cells_of (ho.heap Hst.out (by simp))]; rfl
      have s1 : wr.cell? ⟨p, 1, none⟩ = some (.int .i64 pw) := by rw [cells_of (ho.heap Hst.out (by simp))]; rfl
      obtain ⟨v, hv⟩ : ∃ v, v = pl.getD i 0 := ⟨_, rfl⟩
      have s2 : wr.cell? ⟨g, i, none⟩ = some (.int .u8 v) := by rw [hv]; exact hP.smp i (by rw [← Hlen.out]; exact hil)
      have hvr : 0 ≤ v ∧ v ≤ 255 := by rw [hv]; exact H.out.ok i
      have hvf : v = f k := by rw [hv, Hf.out k, hi0]
      have z1 := free_of hc k
      have s3 : wr.cell? ⟨w.heap.size, k, none⟩ = some (.int .i64 ((fillTo f n k).getD k 0)) := by rw [cells_of hc, ints_at _ _ (by rw [fillTo_length]; exact hlt)]
      have C2 := Lib.hid (heap_set_same (i := k) (.int .i64 v) hc)
      have O2 := Lib.hid (ho.setCell (p := ⟨w.heap.size, k, none⟩) (.inr (Nat.le_refl _)) (.int .i64 v))
      have Hvf := Lib.hid hvf
      clear hP hi hi0 ha hb hc0 hd0 he hi1 hv hvf hc ho a1 b1 c1 e1
      go_wp2
      go_still_tail 26, (by kernel_rfl)
      change wpList _ _ _ _ _ wr.drew
      go_wp2
      go_roundw
      case rel => exact ⟨k + 1, by omega, by go_num, by have := C2.out; rw [ints_setIf, fillTo_set f n k v Hvf.out] at this; exact this, O2.out.drew⟩
      case measure => simp [intOf] <;> omega
    · obtain rfl : k = n := by omega
      have C2 := Lib.hid hc
      have O2 := Lib.hid ho
      clear hc ho
      go_wp2
      go_ret
      exact ⟨_, rfl, C2.out, Nat.le_refl _, O2.out⟩
end Go.Proofs.YtcmehedjdfopdaaGreat

namespace Go.Proofs.YtcmehedjdfopdaaGreat
open Go.RowKit

theorem xf_clip (x : Int) (w : World) (h0 : -1048576 ≤ x) (h1 : x ≤ 1048576) : Calls Tryz.prog 180 #[.int .i64 x] w fun e w' => e = .returned (.int .i64 x) ∧ w = w' := by
  go_enter Tryz.func180, Tryz.ntmps180
  go_wp2 <;> go_ret <;> exact ⟨ret_int (by omega), rfl⟩

set_option maxRecDepth 100000 in
set_option maxHeartbeats 1600000 in
theorem inv_one (d : Int) (w : World) (h0 : -1099511627776 ≤ d) (h1 : d ≤ 1099511627776) :
    Calls Tryz.prog 179 #[.agg #[.int .i64 d, .int .i64 0, .int .i64 0, .int .i64 0]] w fun e w' => e = .returned (.agg #[.int .i64 d, .int .i64 d, .int .i64 d, .int .i64 d]) ∧ Only [] w w' := by
  go_enter Tryz.func179, Tryz.ntmps179
  go_wp2
  go_quiet (fail)
  go_wp2
  refine bodyPost_ret (v := .agg #[.int .i64 d, .int .i64 d, .int .i64 d, .int .i64 d]) (by simp [results, Tryz.results179, go_sem]) rfl ⟨rfl, ?_⟩
  repeat (first | exact Only.refl _ _ | (refine Only.setCell ?_ (.inr (by simp)) _) | refine Only.alloc ?_ _ | refine Only.drewN ?_ _ | refine Only.drew ?_)

set_option maxRecDepth 100000 in
set_option maxHeartbeats 1600000 in
theorem had_one (d : Int) (w : World) (h0 : -1099511627776 ≤ d) (h1 : d ≤ 1099511627776) :
    Calls Tryz.prog 161 #[.agg #[.int .i64 d, .int .i64 0, .int .i64 0, .int .i64 0]] w fun e w' => e = .returned (.agg #[.int .i64 d, .int .i64 d, .int .i64 d, .int .i64 d]) ∧ Only [] w w' := by
  go_enter Tryz.func161, Tryz.ntmps161
  go_wp2
  go_quiet (fail)
  go_wp2
  refine bodyPost_ret (v := .agg #[.int .i64 d, .int .i64 d, .int .i64 d, .int .i64 d]) (by simp [results, Tryz.results161, go_sem]) rfl ⟨rfl, ?_⟩
  repeat (first | exact Only.refl _ _ | (refine Only.setCell ?_ (.inr (by simp)) _) | refine Only.alloc ?_ _ | refine Only.drewN ?_ _ | refine Only.drew ?_)

/-- A slice of a row of four, the whole. -/
theorem xf_sliced (a b c d : Int) (w : World) : Calls Tryz.prog 181 #[.agg #[.int .i64 a, .int .i64 b, .int .i64 c, .int .i64 d]] w fun e w' => e = .returned (.slice (some ⟨w.heap.size, 0, none⟩) 4 4) ∧
    w'.heap[w.heap.size]? = some (.cells (ints [a, b, c, d]) 218 (0, 0)) ∧ Only [] w w' := by
  go_enter Tryz.func181, Tryz.ntmps181
  go_wp2
  go_ret
  exact ⟨rfl, heap_alloc_at _ _, (Only.refl _ _).alloc _⟩

/-- The lowest coefficient alone. -/
def dcL (d : Int) : List Int := d :: List.replicate 15 0
def sc16 : List Int := [0, 1, 4, 8, 5, 2, 3, 6, 9, 12, 13, 10, 7, 11, 14, 15]
theorem dcL_length (d : Int) : (dcL d).length = 16 := by simp [dcL]
theorem dcL_at (d : Int) (i : Nat) : (dcL d).getD i 0 = if i = 0 then d else 0 := by
  cases i with
  | zero => rfl
  | succ i =>
    simp only [dcL, List.getD, List.getElem?_cons_succ, List.getElem?_replicate]
    split <;> rfl

set_option maxRecDepth 100000 in
set_option maxHeartbeats 3200000 in
theorem xf_clipped (d : Int) (w : World) (h0 : -1048576 ≤ d) (h1 : d ≤ 1048576) :
    Calls Tryz.prog 160 #[.agg (ints (dcL d))] w fun e w' => e = .returned (.agg (ints (dcL d))) ∧ Only [] w w' := by
  go_enter Tryz.func160, Tryz.ntmps160
  go_wp2
  go_loopw [4] (fun q wr => ∃ k : Nat, k ≤ 16 ∧ q = .int .i64 k ∧ wr.heap[w.heap.size]? = some (.cells (ints (dcL d)) 36 (0, 0)) ∧ (∃ z : Array Value, z.size = 16 ∧ wr.heap[w.heap.size + 1]? = some (.cells z 36 (0, 0))) ∧ Only [] w wr) (fun q _ => 16 - (intOf q).toNat)
  case atStart => exact ⟨0, by omega, rfl, heap_alloc_lt _ (heap_alloc_at w _), ⟨_, rfl, heap_alloc2_new _ _ _⟩, ((Only.refl _ _).alloc _).alloc _⟩
  case round =>
    obtain ⟨k, hk, rfl, hb, ⟨z, hz, hr⟩, ho⟩ := hrel
    by_cases hlt : k < 16
    · have c1 := cells_of hb k
      rw [ints_at _ _ (by rw [dcL_length]; exact hlt)] at c1
      have z1 := free_of hb k
      obtain ⟨x, hx⟩ : ∃ x, x = (dcL d).getD k 0 := ⟨_, rfl⟩
      have hx0 : -1048576 ≤ x ∧ x ≤ 1048576 := by rw [hx, dcL_at]; split <;> omega
      rw [← hx] at c1
      have Hb := Lib.hid hb
      have Hr := Lib.hid hr
      have Ho := Lib.hid ho
      have Hx := Lib.hid hx
      clear hb hr ho hx
      go_wp2_with fail
      refine (xf_clip x _ hx0.1 hx0.2).mono ?_
      rintro r w2 ⟨rfl, rfl⟩
      have hs := heap_set_same (i := k) (.int .i64 x) Hb.out
      rw [ints_setIf, Hx.out, set_getD, ← Hx.out] at hs
      have Hs := Lib.hid hs
      have Hs2 := Lib.hid (heap_set_other (b := w.heap.size) (i := k) (.int .i64 x) Hr.out (by omega))
      have Ho2 := Lib.hid (Ho.out.setCell (p := ⟨w.heap.size, k, none⟩) (.inr (Nat.le_refl _)) (.int .i64 x))
      clear hs
      go_wp2
      go_roundw
      case rel => exact ⟨k + 1, by omega, by go_num, Hs.out, ⟨z, hz, Hs2.out⟩, Ho2.out⟩
      case measure => simp [intOf] <;> omega
    · obtain rfl : k = 16 := by omega
      have hsz : (ints (dcL d)).size = 16 := by rw [ints_size, dcL_length]
      have Hb := Lib.hid hb
      have Hr := Lib.hid hr
      have Ho := Lib.hid ho
      have Hz := Lib.hid hz
      have Hsz := Lib.hid hsz
      clear hb hr ho hz hsz
      go_wp2_with (first
        | (with_reducible refine wpList_load_row rfl _ _ rfl _ rfl _ _ _ _ Hb.out Tryz.underlying36 rfl (by rw [Hsz.out]; kernel_rfl) ?_)
        | (refine wpList_store_agg rfl _ _ _ rfl _ _ rfl rfl Hr.out (by rw [Hsz.out]; kernel_rfl) (by rw [Hz.out, Hsz.out]) (ints_one _) ?_))
      intro w2 hw2 ho2
      have W2 := Lib.hid hw2
      have O2 := Lib.hid (Ho.out.trans' ho2 (by simp))
      clear hw2 ho2
      go_wp2
      refine ret_cell rfl _ rfl W2.out Tryz.underlying36 rfl (by rw [Hsz.out]; kernel_rfl) rfl ⟨rfl, O2.out⟩
end Go.Proofs.YtcmehedjdfopdaaGreat
