/-
  The walks over package engine: the tables, made once; next, Range, Next.
-/
import Derived.Test.YtibojidpifgblaaDoorEngA
import Derived.Test.YtibojidpifgblaaDoorLib3
namespace Go.Proofs.YtibojidpifgblaaDoor
open Go.RowKit

/-- A table's cells: the Once's three, the widths, the states behind a less likely bin. -/
def tabCells (a b x : Value) (ws ds : List Int) : Array Value := ([a, b, x] ++ ws.map (Value.int .i64) ++ ds.map (Value.int .i64)).toArray
theorem tabCells_size (a b x : Value) (ws ds : List Int) : (tabCells a b x ws ds).size = 3 + ws.length + ds.length := by simp [tabCells]; omega
theorem tabCells_w (a b x : Value) (ws ds : List Int) (i : Nat) (h : i < ws.length) : (tabCells a b x ws ds)[3 + i]? = some (.int .i64 (ws.getD i 0)) := by
  have h1 : 3 + i = i + 1 + 1 + 1 := by omega
  rw [h1]
  have h2 : (ws.map (Value.int .i64) ++ ds.map (Value.int .i64))[i]? = some (.int .i64 (ws.getD i 0)) := by
    rw [List.getElem?_append_left (by simpa using h)]
    simp [h, List.getD]
  simpa [tabCells] using h2
theorem tabCells_d (a b x : Value) (ws ds : List Int) (i : Nat) (h : i < ds.length) : (tabCells a b x ws ds)[3 + ws.length + i]? = some (.int .i64 (ds.getD i 0)) := by
  have h1 : 3 + ws.length + i = (ws.length + i) + 1 + 1 + 1 := by omega
  rw [h1]
  have h2 : (ws.map (Value.int .i64) ++ ds.map (Value.int .i64))[ws.length + i]? = some (.int .i64 (ds.getD i 0)) := by
    rw [List.getElem?_append_right (by simp)]
    simp [h, List.getD]
  simpa [tabCells] using h2
theorem tabCells_copy (a b x : Value) (ws ds es : List Int) (h1 : ws.length = 256) (h2 : ds.length = es.length) :
    ((tabCells a b x ws ds).toList.take 259 ++ (es.map (Value.int .i64) ++ (tabCells a b x ws ds).toList.drop (259 + (es.map (Value.int .i64)).length))).toArray = tabCells a b x ws es := by
  have e : (tabCells a b x ws ds).toList = ([a, b, x] ++ ws.map (Value.int .i64)) ++ ds.map (Value.int .i64) := by simp [tabCells]
  have hl : ([a, b, x] ++ ws.map (Value.int .i64)).length = 259 := by simp [h1]
  rw [e, ← hl, List.take_left, List.drop_append, List.drop_eq_nil_of_le (by omega), List.drop_eq_nil_of_le (by simp [h2])]
  simp [tabCells]
theorem tabCells_setw (a b x : Value) (ws ds : List Int) (i : Nat) (v : Int) (h : i < ws.length) : (tabCells a b x ws ds).setIfInBounds (3 + i) (.int .i64 v) = tabCells a b x (ws.set i v) ds := by
  unfold tabCells
  apply Array.ext'
  have h1 : 3 + i = i + 1 + 1 + 1 := by omega
  rw [h1]
  simp [h, List.map_set]

set_option maxRecDepth 100000 in
set_option maxHeartbeats 1600000 in
theorem eng_fill (tb pb : Nat) (x : Value) (w : World) (ht : w.heap[tb]? = some (.cells (tabCells (.int .u32 0) (.int .i32 1) x (List.replicate 256 0) (List.replicate 64 0)) 83 (0, 0))) (hp : w.heap[pb]? = some (.cells #[.pointer (some ⟨tb, 0, none⟩)] 84 (0, 0))) (ha : Asc w) (hG : 0 < tb) :
    Calls Tryd.prog 75 #[.pointer (some ⟨pb, 0, none⟩)] w fun e w' => e = .returned (.tuple #[]) ∧ w'.heap[tb]? = some (.cells (tabCells (.int .u32 0) (.int .i32 1) x widthL downL) 83 (0, 0)) ∧ Only [tb] w w' := by
  have hne : tb ≠ pb := by rintro rfl; rw [ht] at hp; simp [tabCells] at hp
  have Ht := Lib.hid ht
  have Hp := Lib.hid hp
  have Hasc0 := Lib.hid ha
  clear ht hp
  go_enter Tryd.func75, Tryd.ntmps75
  go_wp2_with fail
  refine (eng_numbers _ widthL _ (by kernel_rfl) ha).mono ?_
  rintro e w1 ⟨sv, rfl, hown, hbel⟩
  have hown' : w1.ownsRow w.heap.size 3 1 sv 256 (widthL.map (Value.int .i64)) := hown
  obtain ⟨g, cap, cur, rfl, hg, hgb, hcell⟩ := owned_shape hown' (by omega)
  have Hcell := Lib.hid (show ∀ i, i < 256 → w1.cell? ⟨g, i, none⟩ = some (.int .i64 (widthL.getD i 0)) from fun i hi => by
    rw [hcell i hi, List.getElem?_map]
    have : i < widthL.length := hi
    simp [List.getElem?_eq_getElem this])
  have hlt := lt_of_block Ht.out
  have hgt : tb < g := by omega
  have Ht1 := Lib.hid ((hbel.block tb hlt).trans Ht.out)
  have Hp1 := Lib.hid ((hbel.block pb (lt_of_block Hp.out)).trans Hp.out)
  have Ho := Lib.hid ((Only.of_below hbel).mono (T := [tb]) (by simp))
  have Hgl := Lib.hid (lt_of_block hgb)
  clear hown hown' hgb hcell hbel
  go_wp2
  go_loopw [7] (fun i wr => ∃ k : Nat, k ≤ 256 ∧ i = .int .i64 k ∧ wr.heap[tb]? = some (.cells (tabCells (.int .u32 0) (.int .i32 1) x (fillTo (fun i => widthL.getD i 0) 256 k) (List.replicate 64 0)) 83 (0, 0)) ∧
    (∀ b, b ≠ tb → wr.heap[b]? = w1.heap[b]?) ∧ Only [tb] w wr) (fun i _ => 256 - (intOf i).toNat)
  case atStart => exact ⟨0, Nat.zero_le _, rfl, by rw [fillTo_zero]; exact Ht1.out, fun _ _ => rfl, Ho.out⟩
  case round =>
    obtain ⟨k, hk, rfl, hblk, hoth, hon⟩ := hrel
    have c2 : wr.cell? ⟨pb, 0, none⟩ = some (.pointer (some ⟨tb, 0, none⟩)) := cell_of_one ((hoth pb (fun e => hne e.symm)).trans Hp1.out)
    by_cases hlk : k < 256
    · have c1 : wr.cell? ⟨g, k, none⟩ = some (.int .i64 (widthL.getD k 0)) := (World.cell?_of_block (hoth g (by omega))).trans (Hcell.out k hlk)
      have he : 3 + k / 4 * 4 + k % 4 = 3 + k := by omega
      have c3 : ∃ v0, wr.cell? ⟨tb, 3 + k, none⟩ = some v0 := ⟨_, by rw [cells_of hblk]; exact tabCells_w _ _ _ _ _ _ (by rw [fillTo_length]; exact hlk)⟩
      obtain ⟨v0, c3⟩ := c3
      have z := free_of hblk (3 + k)
      obtain ⟨wk, hwk⟩ : ∃ wk, wk = widthL.getD k 0 := ⟨_, rfl⟩
      rw [← hwk] at c1
      have Hwk := Lib.hid hwk
      clear hwk
      have Hblk := Lib.hid hblk
      have Hoth := Lib.hid hoth
      have Hon := Lib.hid hon
      clear hblk hoth hon
      go_wp2
      go_roundw
      case rel =>
        refine ⟨k + 1, by omega, by go_num, ?_, ?_, Hon.out.setCell (.inl (by simp)) _⟩
        · rw [heap_set_same _ Hblk.out, tabCells_setw _ _ _ _ _ _ _ (by rw [fillTo_length]; exact hlk), fillTo_set _ _ _ _ Hwk.out]
        · intro b hb
          rw [← Hoth.out b hb]
          exact Below.heap_setCell _ _ _ _ hb
      case measure => simp [intOf] <;> omega
    · obtain rfl : k = 256 := by omega
      rw [fillTo_full, show (List.range 256).map (fun i => widthL.getD i 0) = widthL by decide] at hblk
      have Hblk := Lib.hid hblk
      have Hon := Lib.hid hon
      have ha2 : Asc wr.drew := Asc.only Hasc0.out hon.drew (by simpa using hG)
      have hasc := Lib.hid ha2
      have hpl : pb < wr.drew.heap.size := World.block_lt_of_cell? wr _ c2
      have htl : tb < wr.drew.heap.size := lt_of_block hblk
      have hsz : w.heap.size ≤ wr.heap.size := hon.size
      clear hblk hon hoth ha2
      go_wp2_with fail
      go_region_held3 (fun w' => w'.cell? ⟨pb, 0, none⟩ = some (.pointer (some ⟨tb, 0, none⟩))) (first | go_keep | assumption)
        (first
          | (go_at_call 76
             refine (eng_numbers _ downL _ (by kernel_rfl) hasc.out).mono ?_
             rintro e w2 ⟨sv2, rfl, hown2, hbel2⟩
             obtain ⟨g2, cap2, cur2, rfl, hg2, hgb2, hcell2⟩ := owned_shape (show w2.ownsRow _ _ 1 _ 64 (downL.map (Value.int .i64)) from hown2) (by omega)
             have c2b := (hbel2.cell (p := ⟨pb, 0, none⟩) hpl).trans c2
             have Ht2 := (hbel2.block tb htl).trans Hblk.out
             have Hcell2 : ∀ j v, (downL.map (Value.int .i64))[j]? = some v → w2.cell? ((⟨g2, 0, none⟩ : Addr).add j) = some v := (hown2.cells (g := g2) rfl)
             clear hown2 hcell2 hgb2 hasc)
          | (refine step_copy_block rfl _ _ _ _ rfl 3 Tryd.underlying28 (by kernel_rfl) tb 259 64 64 ⟨g2, 0, none⟩ 64 cap2 (by rfl) (by rfl) _ _ Ht2 (downL.map (Value.int .i64)) (by rfl) Hcell2 (by rw [tabCells_size]; simp; decide) (ints_oneCell _ _) ?_
             intro w3 ht3 ho3
             have c3b := ho3.cell c2b (by simp; omega)))
      rw [tabCells_copy _ _ _ _ _ _ (by decide) (by decide)] at ht3
      have ho4 : Only [tb] w w3 := (Hon.out.drew.trans' ((Only.of_below hbel2).mono (T := [tb]) (by simp)) (by simp)).trans ho3
      have H3 := Lib.hid ht3
      have H4 := Lib.hid ho4
      clear ht3 ho3 ho4 Ht2 Hcell2 c2b c3b hbel2
      go_wp2
      go_end0
      exact ⟨rfl, H3.out, H4.out⟩

/-- A table that has been made. -/
def tabDone : Array Value := tabCells (.int .u32 1) (.int .i32 0) (.int .u32 0) widthL downL
def TableAt (w : World) (tb : Nat) : Prop := w.heap[tb]? = some (.cells tabDone 83 (0, 0))
def tabNew : Array Value := tabCells (.int .u32 0) (.int .i32 0) (.int .u32 0) (List.replicate 256 0) (List.replicate 64 0)
theorem tab_once (x : Value) : ((tabCells (.int .u32 0) (.int .i32 1) x widthL downL).setIfInBounds 0 (.int .u32 1)).setIfInBounds 1 (.int .i32 0) = tabCells (.int .u32 1) (.int .i32 0) x widthL downL := by
  simp [tabCells]

set_option maxRecDepth 100000 in
set_option maxHeartbeats 800000 in
theorem eng_get (tb : Nat) (w : World) (ht : w.heap[tb]? = some (.cells tabNew 83 (0, 0))) (ha : Asc w) (hG : 0 < tb) :
    Calls Tryd.prog 45 #[.pointer (some ⟨tb, 0, none⟩)] w fun e w' => e = .returned (.pointer (some ⟨tb, 0, none⟩)) ∧ TableAt w' tb ∧ Only [tb] w w' := by
  have hlt := lt_of_block ht
  have hmf : ∀ (fn : Fn) (first cap : Array Value) (w : World), (Instr.makeFunc fn first cap).run Tryd.prog w = .ok (.func fn first cap) w := fun _ _ _ _ => rfl
  have hk1 := heap_alloc_lt (.cells #[.pointer (some ⟨tb, 0, none⟩)] 84) ht
  have hp1 := heap_alloc_at w (.cells #[.pointer (some ⟨tb, 0, none⟩)] 84)
  have hk2 := heap_set_same (i := 1) (.int .i32 1) hk1
  rw [show tabNew.setIfInBounds 1 (.int .i32 1) = tabCells (.int .u32 0) (.int .i32 1) (.int .u32 0) (List.replicate 256 0) (List.replicate 64 0) by simp [tabNew, tabCells]] at hk2
  have hp2 := heap_set_other (i := 1) (b := tb) (.int .i32 1) hp1 (by omega)
  have ho2 : Only [tb] w ((w.alloc (.cells #[.pointer (some ⟨tb, 0, none⟩)] 84)).setCell ⟨tb, 1, none⟩ (.int .i32 1)) := ((Only.refl _ _).alloc _).setCell (.inl (by simp)) _
  have hdo := once_do tb 0 75 #[.pointer (some ⟨w.heap.size, 0, none⟩)] (fun w => run_enter Tryd.func75 (by kernel_rfl) (by kernel_rfl) _ w)
    (w.alloc (.cells #[.pointer (some ⟨tb, 0, none⟩)] 84)) (fun w1 => w1.heap[tb]? = some (.cells (tabCells (.int .u32 0) (.int .i32 1) (.int .u32 0) widthL downL) 83 (0, 0)) ∧ w1.heap[w.heap.size]? = some (.cells #[.pointer (some ⟨tb, 0, none⟩)] 84 (0, 0)) ∧ Only [tb] w w1)
    (by rw [cells_of hk1]; simp [tabNew, tabCells]) (by rw [cells_of hk1]; simp [tabNew, tabCells]) (free_of hk1 _)
    ((eng_fill tb w.heap.size (.int .u32 0) _ hk2 hp2 (ha.only ho2 (by simpa using hG)) hG).mono fun e w' ⟨he, h1, h2⟩ => ⟨he, ⟨by rw [cells_of h1]; simp [tabCells], by rw [cells_of h1]; simp [tabCells], free_of h1 _, free_of h1 _⟩, h1, h2.heap hp2 (by simp; omega), ho2.trans h2⟩)
  have Hdo := Lib.hid hdo
  clear hdo hk1 hp1 hk2 hp2 ho2 ht ha
  go_enter Tryd.func45, Tryd.ntmps45
  go_wp2_with fail
  refine Hdo.out.mono ?_
  rintro e w1 ⟨rfl, w0, ⟨h1, h2, h3⟩, rfl⟩
  have Ho := Lib.hid (((h3.drew).setCell (p := ⟨tb, 0, none⟩) (.inl (by simp)) (.int .u32 1)).setCell (p := ⟨tb, 1, none⟩) (.inl (by simp)) (.int .i32 0))
  have g1 := heap_set_same (i := 1) (.int .i32 0) (heap_set_same (i := 0) (.int .u32 1) (w := w0.drew) h1)
  have g2 := heap_set_other (i := 1) (b := tb) (.int .i32 0) (heap_set_other (i := 0) (b := tb) (.int .u32 1) (w := w0.drew) h2 (by omega)) (by omega)
  rw [tab_once] at g1
  have c1 := cell_of_one g2
  have G1 := Lib.hid (show TableAt _ tb from g1)
  generalize ((w0.drew.setCell ⟨tb, 0, none⟩ (.int .u32 1)).setCell ⟨tb, 1, none⟩ (.int .i32 0)) = wz at *
  clear h1 h2 h3 g1 g2
  go_wp2
  go_ret
  exact ⟨rfl, G1.out, Ho.out⟩
end Go.Proofs.YtibojidpifgblaaDoor
