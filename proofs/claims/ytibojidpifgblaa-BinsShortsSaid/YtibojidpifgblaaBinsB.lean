/-
  The walks over package bins: the kinds of elements, made once; Bits.
-/
import Derived.Test.YtibojidpifgblaaBinsA
import Derived.Test.YtibojidpifgblaaOnce
namespace Go.Proofs.Ytibojidpifgblaa
open Go.RowKit

/-- Stores at places, one behind the other. -/
def wrs (cs : Array Value) (l : List (Nat × Value)) : Array Value := l.foldl (fun c p => c.setIfInBounds p.1 p.2) cs
theorem wrs_take (cs : Array Value) (l : List (Nat × Value)) (k : Nat) (p : Nat × Value) (h : l[k]? = some p) : wrs cs (l.take (k + 1)) = (wrs cs (l.take k)).setIfInBounds p.1 p.2 := by
  obtain ⟨hk, rfl⟩ := List.getElem?_eq_some_iff.1 h
  rw [wrs, List.take_succ_eq_append_getElem hk, List.foldl_append]
  rfl
theorem wrs_size (cs : Array Value) (l : List (Nat × Value)) : (wrs cs l).size = cs.size := by
  unfold wrs
  induction l generalizing cs with
  | nil => rfl
  | cons p l ih => rw [List.foldl_cons, ih]; simp

def kindFlags : List Int := [0, 2, 14, 15, 16, 18, 19]
def kindShorts : List Int := [1, 3, 4, 5, 6, 7, 8, 11, 12]
def kindSigneds : List Int := [9, 10, 13]
def kz (x : Value) : Array Value := #[.int .u32 0, .int .i32 1, x, .int .i64 0, .int .i64 0, .int .i64 0, .int .i64 0, .int .i64 0, .int .i64 0, .int .i64 0, .int .i64 0, .int .i64 0, .int .i64 0, .int .i64 0, .int .i64 0, .int .i64 0, .int .i64 0, .int .i64 0, .int .i64 0, .int .i64 0, .int .i64 0, .int .i64 0, .int .i64 0]
def kws (l : List Int) (v : Int) : List (Nat × Value) := l.map fun e => (3 + e.toNat, .int .i64 v)
def k1 (x : Value) (k : Nat) : Array Value := wrs (kz x) ((kws kindFlags 1).take k)
def k2 (x : Value) (k : Nat) : Array Value := wrs (k1 x 7) ((kws kindShorts 2).take k)
def k3 (x : Value) (k : Nat) : Array Value := wrs (k2 x 9) ((kws kindSigneds 3).take k)
def kEnd (x : Value) : Array Value := (k3 x 3).setIfInBounds 20 (.int .i64 4)
theorem kEnd_eq (x : Value) : kEnd x = #[.int .u32 0, .int .i32 1, x, .int .i64 1, .int .i64 2, .int .i64 1, .int .i64 2, .int .i64 2, .int .i64 2, .int .i64 2, .int .i64 2, .int .i64 2, .int .i64 3, .int .i64 3, .int .i64 2, .int .i64 2, .int .i64 3, .int .i64 1, .int .i64 1, .int .i64 1, .int .i64 4, .int .i64 1, .int .i64 1] := by kernel_rfl

theorem wrs_cell (cs : Array Value) (l : List (Nat × Value)) (k i : Nat) (h : i < cs.size) : ∃ v, (wrs cs (l.take k))[i]? = some v := by
  have : i < (wrs cs (l.take k)).size := by rw [wrs_size]; exact h
  exact ⟨_, Array.getElem?_eq_getElem this⟩

/-- What a round of one of the three loops has at hand. -/
structure KR (kb pb sb : Nat) (cs : Array Value) (L : List Int) (w wr : World) : Prop where
  hk : wr.heap[kb]? = some (.cells cs 52 (0, 0))
  hp : wr.heap[pb]? = some (.cells #[.pointer (some ⟨kb, 0, none⟩)] 37 (0, 0))
  hs : wr.heap[sb]? = some (.cells (L.map (Value.int .i64)).toArray 3 (0, 0))
  only : Only [kb] w wr
theorem KR.step {kb pb sb : Nat} {cs : Array Value} {L M : List Int} {v : Int} {w wr : World} {k : Nat} (h : KR kb pb sb (wrs cs ((kws M v).take k)) L w wr) (hk : k < M.length) :
    KR kb pb sb (wrs cs ((kws M v).take (k + 1))) L w (wr.setCell ⟨kb, 3 + (M.getD k 0).toNat, none⟩ (.int .i64 v)) := by
  have h1 : pb ≠ kb := by intro e; subst e; have := h.hk; rw [h.hp] at this; simp at this
  have h2 : sb ≠ kb := by intro e; subst e; have := h.hk; rw [h.hs] at this; simp at this
  refine ⟨?_, heap_set_other _ h.hp h1, heap_set_other _ h.hs h2, h.only.setCell (.inl (by simp)) _⟩
  have e : (kws M v)[k]? = some (3 + (M.getD k 0).toNat, .int .i64 v) := by simp [kws, List.getElem?_eq_getElem hk]
  rw [wrs_take _ _ _ _ e]
  exact heap_set_same _ h.hk
theorem KR.start {kb pb : Nat} {cs : Array Value} {w wr : World} (L : List Int) (hk : wr.heap[kb]? = some (.cells cs 52 (0, 0)))
    (hp : wr.heap[pb]? = some (.cells #[.pointer (some ⟨kb, 0, none⟩)] 37 (0, 0))) (ho : Only [kb] w wr) (v : Int) (M : List Int) :
    KR kb pb wr.heap.size (wrs cs ((kws M v).take 0)) L w (wr.alloc (.cells (L.map (Value.int .i64)).toArray 3)) :=
  ⟨heap_alloc_lt _ hk, heap_alloc_lt _ hp, heap_alloc_at _ _, ho.alloc _⟩
/-- The facts that the walk of a round reads. -/
theorem KR.facts {kb pb sb : Nat} {cs : Array Value} {L M : List Int} {v : Int} {w wr : World} {k : Nat} (h : KR kb pb sb (wrs cs ((kws M v).take k)) L w wr) (hL : L = M) (hk : k < M.length) (hc : cs.size = 23) (hb : ∀ i, i < M.length → 0 ≤ M.getD i 0 ∧ M.getD i 0 < 20) :
    ∃ e : Int, Hid (e = M.getD k 0) ∧ 0 ≤ e ∧ e < 20 ∧ wr.cell? ⟨sb, k, none⟩ = some (.int .i64 e) ∧ wr.cell? ⟨pb, 0, none⟩ = some (.pointer (some ⟨kb, 0, none⟩)) ∧
      (∃ v0, wr.cell? ⟨kb, 3 + e.toNat, none⟩ = some v0) ∧ wr.frozen? ⟨kb, 3 + e.toNat, none⟩ = false := by
  subst hL
  obtain ⟨h0, h1⟩ := hb k hk
  refine ⟨L.getD k 0, rfl, h0, h1, ?_, cell_of_one h.hp, ?_, free_of h.hk _⟩
  · rw [cells_of h.hs]; simp [List.getElem?_eq_getElem hk]
  · rw [cells_of h.hk]
    exact wrs_cell _ _ _ _ (by omega)

theorem kz_size (x : Value) : (kz x).size = 23 := rfl
theorem k1_size (x : Value) (k : Nat) : (k1 x k).size = 23 := by rw [k1, wrs_size, kz_size]
theorem k2_size (x : Value) (k : Nat) : (k2 x k).size = 23 := by rw [k2, wrs_size, k1_size]
theorem k3_size (x : Value) (k : Nat) : (k3 x k).size = 23 := by rw [k3, wrs_size, k2_size]

set_option maxRecDepth 100000 in
set_option maxHeartbeats 1600000 in
theorem kinds_fill (kb pb : Nat) (x : Value) (w : World) (hk : w.heap[kb]? = some (.cells (kz x) 52 (0, 0))) (hp : w.heap[pb]? = some (.cells #[.pointer (some ⟨kb, 0, none⟩)] 37 (0, 0))) :
    Calls Try.prog 27 #[.pointer (some ⟨pb, 0, none⟩)] w fun e w' => e = .returned (.tuple #[]) ∧ w'.heap[kb]? = some (.cells (kEnd x) 52 (0, 0)) ∧ Only [kb] w w' := by
  have hne : kb ≠ pb := by rintro rfl; rw [hk] at hp; simp [kz] at hp
  have h0 := KR.start (w := w) kindFlags hk hp (Only.refl _ _) 1 kindFlags
  have H0 := Lib.hid h0
  clear h0 hk hp
  go_enter Try.func27, Try.ntmps27
  go_wp2
  go_loopw [9] (fun i wr => ∃ k : Nat, k ≤ 7 ∧ i = .int .i64 k ∧ KR kb pb w.heap.size (k1 x k) kindFlags w wr) (fun i _ => 7 - (intOf i).toNat)
  case atStart => exact ⟨0, by omega, rfl, H0.out⟩
  case round =>
    obtain ⟨k, hk7, rfl, hr⟩ := hrel
    by_cases hk : k < 7
    · obtain ⟨e, he, he0, he1, c1, c2, ⟨v0, c3⟩, z⟩ := KR.facts (cs := kz x) (M := kindFlags) (v := 1) (k := k) hr rfl hk (kz_size x) (by decide)
      have hn := KR.step (cs := kz x) (M := kindFlags) (v := 1) (k := k) hr hk
      rw [← he.out] at hn
      have H := Lib.hid hn
      clear hn hr
      go_wp2
      go_roundw
      case rel => exact ⟨k + 1, by omega, by go_num, H.out⟩
      case measure => simp [intOf] <;> omega
    · obtain rfl : k = 7 := by omega
      have h0 := KR.start (w := w) kindShorts hr.hk hr.hp hr.only 2 kindShorts
      have H0 := Lib.hid h0
      clear h0 hr
      obtain ⟨wo, hwo⟩ : ∃ wo : World, wo = wr := ⟨_, rfl⟩
      subst hwo
      go_wp2
      go_loopw [21] (fun i wr => ∃ k : Nat, k ≤ 9 ∧ i = .int .i64 k ∧ KR kb pb wo.heap.size (k2 x k) kindShorts w wr) (fun i _ => 9 - (intOf i).toNat)
      case atStart => exact ⟨0, by omega, rfl, H0.out⟩
      case round =>
        obtain ⟨k, hk7, rfl, hr⟩ := hrel
        by_cases hk : k < 9
        · obtain ⟨e, he, he0, he1, c1, c2, ⟨v0, c3⟩, z⟩ := KR.facts (cs := k1 x 7) (M := kindShorts) (v := 2) (k := k) hr rfl hk (k1_size x 7) (by decide)
          have hn := KR.step (cs := k1 x 7) (M := kindShorts) (v := 2) (k := k) hr hk
          rw [← he.out] at hn
          have H := Lib.hid hn
          clear hn hr
          go_wp2
          go_roundw
          case rel => exact ⟨k + 1, by omega, by go_num, H.out⟩
          case measure => simp [intOf] <;> omega
        · obtain rfl : k = 9 := by omega
          have h0 := KR.start (w := w) kindSigneds hr.hk hr.hp hr.only 3 kindSigneds
          have H0 := Lib.hid h0
          clear h0 hr
          obtain ⟨wq, hwq⟩ : ∃ wq : World, wq = wr := ⟨_, rfl⟩
          subst hwq
          go_wp2
          go_loopw [33] (fun i wr => ∃ k : Nat, k ≤ 3 ∧ i = .int .i64 k ∧ KR kb pb wq.heap.size (k3 x k) kindSigneds w wr) (fun i _ => 3 - (intOf i).toNat)
          case atStart => exact ⟨0, by omega, rfl, H0.out⟩
          case round =>
            obtain ⟨k, hk7, rfl, hr⟩ := hrel
            by_cases hk : k < 3
            · obtain ⟨e, he, he0, he1, c1, c2, ⟨v0, c3⟩, z⟩ := KR.facts (cs := k2 x 9) (M := kindSigneds) (v := 3) (k := k) hr rfl hk (k2_size x 9) (by decide)
              have hn := KR.step (cs := k2 x 9) (M := kindSigneds) (v := 3) (k := k) hr hk
              rw [← he.out] at hn
              have H := Lib.hid hn
              clear hn hr
              go_wp2
              go_roundw
              case rel => exact ⟨k + 1, by omega, by go_num, H.out⟩
              case measure => simp [intOf] <;> omega
            · obtain rfl : k = 3 := by omega
              have c2 := cell_of_one hr.hp
              have c3 : ∃ v0, wr.cell? ⟨kb, 20, none⟩ = some v0 := by rw [cells_of hr.hk]; exact ⟨_, Array.getElem?_eq_getElem (by rw [k3_size]; decide)⟩
              obtain ⟨v0, c3⟩ := c3
              have z := free_of hr.hk 20
              have hn : (wr.setCell ⟨kb, 20, none⟩ (.int .i64 4)).heap[kb]? = some (.cells (kEnd x) 52 (0, 0)) := heap_set_same _ hr.hk
              have H := Lib.hid hn
              have H2 := Lib.hid (hr.only.setCell (p := ⟨kb, 20, none⟩) (.inl (by simp)) (.int .i64 4))
              clear hn hr
              go_wp2
              go_end0
              exact ⟨rfl, H.out, H2.out⟩
def kNew : Array Value := #[.int .u32 0, .int .i32 0, .int .u32 0, .int .i64 0, .int .i64 0, .int .i64 0, .int .i64 0, .int .i64 0, .int .i64 0, .int .i64 0, .int .i64 0, .int .i64 0, .int .i64 0, .int .i64 0, .int .i64 0, .int .i64 0, .int .i64 0, .int .i64 0, .int .i64 0, .int .i64 0, .int .i64 0, .int .i64 0, .int .i64 0]
theorem kNew_set : kNew.setIfInBounds 1 (.int .i32 1) = kz (.int .u32 0) := by kernel_rfl
def kDone : Array Value := ((kEnd (.int .u32 0)).setIfInBounds 0 (.int .u32 1)).setIfInBounds 1 (.int .i32 0)
theorem kDone_at : ∀ i, i < 20 → kDone[3 + i]? = some (.int .i64 (kindTab.getD i 0)) := by
  have e : kDone = #[.int .u32 1, .int .i32 0, .int .u32 0, .int .i64 1, .int .i64 2, .int .i64 1, .int .i64 2, .int .i64 2, .int .i64 2, .int .i64 2, .int .i64 2, .int .i64 2, .int .i64 3, .int .i64 3, .int .i64 2, .int .i64 2, .int .i64 3, .int .i64 1, .int .i64 1, .int .i64 1, .int .i64 4, .int .i64 1, .int .i64 1] := by kernel_rfl
  intro i hi
  rw [e]
  match i, hi with
  | 0, _ => rfl | 1, _ => rfl | 2, _ => rfl | 3, _ => rfl | 4, _ => rfl | 5, _ => rfl | 6, _ => rfl | 7, _ => rfl | 8, _ => rfl | 9, _ => rfl
  | 10, _ => rfl | 11, _ => rfl | 12, _ => rfl | 13, _ => rfl | 14, _ => rfl | 15, _ => rfl | 16, _ => rfl | 17, _ => rfl | 18, _ => rfl | 19, _ => rfl
  | n + 20, h => omega

set_option maxHeartbeats 800000 in
theorem kinds_get (kb : Nat) (el : Int) (w : World) (hk : w.heap[kb]? = some (.cells kNew 52 (0, 0))) :
    Calls Try.prog 16 #[.pointer (some ⟨kb, 0, none⟩), .int .i64 el] w fun e w' => e = .returned (.int .i64 (kindOf el)) ∧ Only [kb] w w' := by
  have hlt := lt_of_block hk
  have hmf : ∀ (fn : Fn) (first cap : Array Value) (w : World), (Instr.makeFunc fn first cap).run Try.prog w = .ok (.func fn first cap) w := fun _ _ _ _ => rfl
  have hent := fun w => run_enter (args := #[.pointer (some ⟨w.heap.size, 0, none⟩)]) Try.func27 (by kernel_rfl) (by kernel_rfl) w
  -- the world in which Do is called
  have hk1 := heap_alloc_lt (.cells #[.pointer (some ⟨kb, 0, none⟩)] 37) hk
  have hp1 := heap_alloc_at w (.cells #[.pointer (some ⟨kb, 0, none⟩)] 37)
  have hk2 := heap_set_same (i := 1) (.int .i32 1) hk1
  rw [kNew_set] at hk2
  have hp2 := heap_set_other (i := 1) (b := kb) (.int .i32 1) hp1 (by omega)
  have hdo := once_do kb 0 27 #[.pointer (some ⟨w.heap.size, 0, none⟩)] (fun w => run_enter Try.func27 (by kernel_rfl) (by kernel_rfl) _ w)
    (w.alloc (.cells #[.pointer (some ⟨kb, 0, none⟩)] 37)) (fun w1 => w1.heap[kb]? = some (.cells (kEnd (.int .u32 0)) 52 (0, 0)) ∧ w1.heap[w.heap.size]? = some (.cells #[.pointer (some ⟨kb, 0, none⟩)] 37 (0, 0)) ∧ Only [kb] w w1)
    (by rw [cells_of hk1]; rfl) (by rw [cells_of hk1]; rfl) (free_of hk1 _)
    ((kinds_fill kb w.heap.size (.int .u32 0) _ hk2 hp2).mono fun e w' ⟨he, h1, h2⟩ => ⟨he, ⟨by rw [cells_of h1, kEnd_eq]; rfl, by rw [cells_of h1, kEnd_eq]; rfl, free_of h1 _, free_of h1 _⟩, h1, h2.heap hp2 (by simp; omega),
      (((Only.refl _ _).alloc _).setCell (.inl (by simp)) _).trans h2⟩)
  have Hdo := Lib.hid hdo
  clear hdo hk1 hp1 hk2 hp2
  by_cases hr : el < 0 ∨ 20 ≤ el
  · have he : kindOf el = 0 := by
      unfold kindOf
      split
      · rfl
      · rename_i h
        have : kindTab[el.toNat]? = none := List.getElem?_eq_none (by simp [kindTab]; omega)
        simp [List.getD, this]
    have He := Lib.hid he
    clear he
    rcases hr with hr | hr
    all_goals
      go_enter Try.func16, Try.ntmps16
      go_wp2_with fail
      refine Hdo.out.mono ?_
      rintro e w1 ⟨rfl, w0, ⟨h1, h2, h3⟩, rfl⟩
      have Ho := Lib.hid (((h3.drew).setCell (p := ⟨kb, 0, none⟩) (.inl (by simp)) (.int .u32 1)).setCell (p := ⟨kb, 1, none⟩) (.inl (by simp)) (.int .i32 0))
      clear h1 h2 h3
      go_wp2
      go_ret
      exact ⟨ret_int (by rw [He.out]), Ho.out⟩
  · obtain ⟨n, rfl⟩ := Int.eq_ofNat_of_zero_le (show 0 ≤ el by omega)
    have hn : n < 20 := by omega
    have he : kindOf n = kindTab.getD n 0 := by unfold kindOf; rw [if_neg (by omega)]; rfl
    have He := Lib.hid he
    clear he hr
    go_enter Try.func16, Try.ntmps16
    go_wp2_with fail
    refine Hdo.out.mono ?_
    rintro e w1 ⟨rfl, w0, ⟨h1, h2, h3⟩, rfl⟩
    have Ho := Lib.hid (((h3.drew).setCell (p := ⟨kb, 0, none⟩) (.inl (by simp)) (.int .u32 1)).setCell (p := ⟨kb, 1, none⟩) (.inl (by simp)) (.int .i32 0))
    have g1 := heap_set_same (i := 1) (.int .i32 0) (heap_set_same (i := 0) (.int .u32 1) (w := w0.drew) h1)
    have g2 := heap_set_other (i := 1) (b := kb) (.int .i32 0) (heap_set_other (i := 0) (b := kb) (.int .u32 1) (w := w0.drew) h2 (by omega)) (by omega)
    have c1 := cell_of_one g2
    have c2 := cells_of g1 (3 + n)
    rw [show ((kEnd (.int .u32 0)).setIfInBounds 0 (.int .u32 1)).setIfInBounds 1 (.int .i32 0) = kDone from rfl, kDone_at n hn] at c2
    generalize ((w0.drew.setCell ⟨kb, 0, none⟩ (.int .u32 1)).setCell ⟨kb, 1, none⟩ (.int .i32 0)) = wz at *
    clear h1 h2 h3 g1 g2
    go_wp2
    go_ret
    exact ⟨ret_int (by rw [He.out]; simp [List.getD]), Ho.out⟩

set_option maxHeartbeats 800000 in
theorem bins_may (k v m : Int) (w : World) :
    Calls Try.prog 17 #[.int .i64 k, .int .i64 v, .int .i64 m] w fun e w' => e = .returned (.bool (mayOf k v m)) ∧ w = w' := by
  by_cases hk : k = 1 ∨ k = 2 ∨ k = 3 ∨ k = 4
  · rcases hk with rfl | rfl | rfl | rfl
    all_goals
      go_enter Try.func17, Try.ntmps17
      go_wp2
    all_goals
      go_ret
      refine ⟨ret_bool ?_, rfl⟩
      rw [Bool.eq_iff_iff]
      simp [mayOf]
      try omega
  · have h1 : (k == 1) = false := by simp; omega
    have h2 : (k == 2) = false := by simp; omega
    have h3 : (k == 3) = false := by simp; omega
    have h4 : (k == 4) = false := by simp; omega
    have e : mayOf k v m = false := by
      unfold mayOf
      rw [if_neg (by omega), if_neg (by omega), if_neg (by omega), if_neg (by omega)]
    have He := Lib.hid e
    clear e
    go_enter Try.func17, Try.ntmps17
    go_wp2
    go_ret
    exact ⟨ret_bool He.out.symm, rfl⟩
end Go.Proofs.Ytibojidpifgblaa
