/-
  The walk over package recon's brush.keep: the samples of a macroblock, plane by plane, row by row.
-/
import Derived.Test.YtcmehedjdfopdaaGreatJ17
namespace Go.Proofs.YtcmehedjdfopdaaGreat
open Go.RowKit

/-- The first rows of a macroblock's samples. -/
def keepTo (pl : List Int) (pw X side : Nat) : Nat → List Int
  | 0 => []
  | k + 1 => keepTo pl pw X side k ++ getL pl pw X k 1 0 side
theorem keepTo_length (pl : List Int) (pw X side k : Nat) : (keepTo pl pw X side k).length = k * side := by
  induction k with
  | zero => simp [keepTo]
  | succ k ih => rw [keepTo, List.length_append, ih, getL_length, Nat.succ_mul]
/-- A list in a field has more. -/
theorem push_rows {w wr w5 w7 : World} {S : List Nat} {b i B n n2 : Nat} {e T : TypeId} {xs ys : List Value} {sv sv' : Value} {cs : Array Value} (hw : b ∈ S ∨ w.heap.size ≤ b) (hB : b < B) (hBw : w.heap.size ≤ B) (hcell : wr.heap[b]? = some (.cells cs T (0, 0)))
    (hown : wr.ownsRow B e 1 sv n xs) (ho : Only S w wr) (h5 : Only [] wr w5) (hown2 : w7.ownsRow B e 1 sv' n2 ys) (hg : w5.grownBy w7 sv.ownBlock) :
    (w7.setCell ⟨b, i, none⟩ sv').heap[b]? = some (.cells (cs.setIfInBounds i sv') T (0, 0)) ∧ (w7.setCell ⟨b, i, none⟩ sv').ownsRow B e 1 sv' n2 ys ∧ Only S w (w7.setCell ⟨b, i, none⟩ sv') := by
  have hO := own_ge hown
  have o1 : Only sv.ownBlock.toList wr w7 := (h5.mono (by simp)).grown hg (fun k hk => .inl (by simp [hk]))
  have hk : b ∉ sv.ownBlock.toList := fun hi => by have := hO b (by simpa using hi); omega
  have hcells := o1.heap hcell hk
  have o2 : Only S w w7 := ho.trans' o1 (fun i hi => .inr (by have := hO i (by simpa using hi); omega))
  refine ⟨heap_set_same _ hcells, ownsRow_of_block hown2 fun g hgo => ?_, o2.setCell hw _⟩
  obtain ⟨c, hc⟩ := ownsRow_block hown2 hgo
  have hBg : B ≤ g := own_ge hown2 g hgo
  exact (heap_set_other _ hc (by omega)).trans hc.symm
set_option maxRecDepth 100000 in
set_option maxHeartbeats 3200000 in
theorem brush_keep {w : World} {b cb mb db x yb ub vb cy cu cv wide high : Nat} {Y U V : List Int} {al cur : Value} {aft : Int} (hb : BrushAt w b cb mb db x 0) (hc : CanAt w cb yb ub vb cy cu cv wide high Y U V al cur aft) (hw : wide ≤ 60)
    (hx : x ≤ 60) (hly : Y.length ≤ 1000000) (hlu : U.length ≤ 1000000) (hlv : V.length ≤ 1000000) (hiny : ∀ r, r < 16 → ∀ k, k < 16 → (r + k * 0) * (16 * wide) + x * 16 + k * 1 < Y.length) (hinu : ∀ r, r < 8 → ∀ k, k < 8 → (r + k * 0) * (8 * wide) + x * 8 + k * 1 < U.length) (hinv : ∀ r, r < 8 → ∀ k, k < 8 → (r + k * 0) * (8 * wide) + x * 8 + k * 1 < V.length) :
    Calls Tryz.prog 51 #[.pointer (some ⟨b, 0, none⟩)] w fun e w' => ∃ v0 v1 v2, e = .returned (.agg #[v0, v1, v2]) ∧ w'.ownsRow w.heap.size 3 1 v0 (16 * 16) ((keepTo Y (16 * wide) (x * 16) 16 16).map (Value.int .i64)) ∧ w'.ownsRow w.heap.size 3 1 v1 (8 * 8) ((keepTo U (8 * wide) (x * 8) 8 8).map (Value.int .i64)) ∧ w'.ownsRow w.heap.size 3 1 v2 (8 * 8) ((keepTo V (8 * wide) (x * 8) 8 8).map (Value.int .i64)) ∧ Only [] w w' := by
  have s0 : w.cell? ⟨b, 0, none⟩ = some (.pointer (some ⟨cb, 0, none⟩)) := by rw [cells_of hb]; rfl
  have hpl := fun (wx : World) (ho : Only [] w wx) => recon_planes cb 2 (16 * wide) _ _ _ wx (by rw [cells_of (ho.heap hc.st (by simp))]; rfl) (by rw [cells_of (ho.heap hc.st (by simp))]; rfl) (by rw [cells_of (ho.heap hc.st (by simp))]; rfl) (by rw [cells_of (ho.heap hc.st (by simp))]; rfl) (by omega) ⟨_, _, _, rfl⟩ ⟨_, _, _, rfl⟩ ⟨_, _, _, rfl⟩
  have hW2 : (((16 * wide : Nat) : Int)) / 2 = ((8 * wide : Nat) : Int) := by omega
  obtain ⟨Zp, hZp⟩ : ∃ Zp, Zp = planesV ((16 * wide : Nat) : Int) (.slice (some ⟨yb, 0, none⟩) Y.length cy) (.slice (some ⟨ub, 0, none⟩) U.length cu) (.slice (some ⟨vb, 0, none⟩) V.length cv) := ⟨_, rfl⟩
  have hidx := fun w : World => planes_index ((16 * wide : Nat) : Int) (.slice (some ⟨yb, 0, none⟩) Y.length cy) (.slice (some ⟨ub, 0, none⟩) U.length cu) (.slice (some ⟨vb, 0, none⟩) V.length cv) w Tryz.underlying118 Tryz.underlying117 (by kernel_rfl)
  rw [← hZp] at hpl hidx
  rw [hW2] at hidx
  have hi0 : ∀ w, _ := fun w => (hidx w).1
  have hi1 : ∀ w, _ := fun w => (hidx w).2.1
  have hi2 : ∀ w, _ := fun w => (hidx w).2.2
  clear hidx
  obtain ⟨pw, hpw⟩ : ∃ n, n = 16 * wide := ⟨_, rfl⟩
  obtain ⟨pc, hpc⟩ : ∃ n, n = 8 * wide := ⟨_, rfl⟩
  rw [← hpw] at hi0 hiny ⊢
  rw [← hpc] at hi1 hi2 hinu hinv ⊢
  obtain ⟨ylen, hyl⟩ : ∃ n, n = Y.length := ⟨_, rfl⟩
  obtain ⟨ulen, hul⟩ : ∃ n, n = U.length := ⟨_, rfl⟩
  obtain ⟨vlen, hvl⟩ : ∃ n, n = V.length := ⟨_, rfl⟩
  rw [← hyl] at hi0
  rw [← hul] at hi1
  rw [← hvl] at hi2
  obtain ⟨XX, hXX⟩ : ∃ XX : Nat, XX = x * 16 := ⟨_, rfl⟩
  obtain ⟨XC, hXC⟩ : ∃ XC : Nat, XC = x * 8 := ⟨_, rfl⟩
  have qx : IntKind.i64.wrap ((x : Int) * 16) = (XX : Int) := by rw [show (x : Int) * 16 = (XX : Int) by omega]; exact i64n _ (by omega)
  have qc : IntKind.i64.wrap ((x : Int) * 8) = (XC : Int) := by rw [show (x : Int) * 8 = (XC : Int) by omega]; exact i64n _ (by omega)
  have q00 : IntKind.i64.wrap 0 = 0 := by decide
  have hXX2 : XX ≤ 1000 := by omega
  have hXC2 : XC ≤ 1000 := by omega
  rw [← hXX] at hiny ⊢
  rw [← hXC] at hinu hinv ⊢
  have hsy : SmpAt w yb Y := ⟨hc.ys, hc.oy⟩
  have hsu : SmpAt w ub U := ⟨hc.us, hc.ou⟩
  have hsv : SmpAt w vb V := ⟨hc.vs, hc.ov⟩
  have hbl := lt_of_block hb
  have HP := Lib.hid hpl
  have Hb := Lib.hid hb
  have Hiny := Lib.hid hiny
  have Hinu := Lib.hid hinu
  have Hinv := Lib.hid hinv
  have Hyl := Lib.hid hyl
  have Hul := Lib.hid hul
  have Hvl := Lib.hid hvl
  have HSY := Lib.hid hsy
  have HSU := Lib.hid hsu
  have HSV := Lib.hid hsv
  have hcb := lt_of_block hc.st
  clear hb hc hpl hZp hiny hinu hinv hyl hul hvl hsy hsu hsv hpw hpc hXX hXC hW2
  have A0 := Lib.hid (heap_alloc2_old w (.cells #[.slice none 0 0, .slice none 0 0, .slice none 0 0] 129) (.cells #[.slice none 0 0, .slice none 0 0, .slice none 0 0] 129))
  have A1 := Lib.hid (heap_alloc2_new w (.cells #[.slice none 0 0, .slice none 0 0, .slice none 0 0] 129) (.cells #[.slice none 0 0, .slice none 0 0, .slice none 0 0] 129))
  have OA : Hid (Only [] w ((w.alloc (.cells #[.slice none 0 0, .slice none 0 0, .slice none 0 0] 129)).alloc (.cells #[.slice none 0 0, .slice none 0 0, .slice none 0 0] 129))) := Lib.hid (((Only.refl [] w).alloc _).alloc _)
  go_enter Tryz.func51, Tryz.ntmps51
  go_wp2_with fail
  refine (HP.out _ OA.out).mono ?_
  rintro e w1 ⟨rfl, g1⟩
  have O1 := Lib.hid (OA.out.trans g1)
  have B0 := Lib.hid (g1.heap A0.out (by simp))
  have B1 := Lib.hid (g1.heap A1.out (by simp))
  clear g1 s0 HP A0 A1 OA
  obtain ⟨rb, hrb⟩ : ∃ n, n = w.heap.size := ⟨_, rfl⟩
  rw [← hrb] at B0
  go_wp2
  go_loopw [14] (fun q wr => (q = .int .i64 0 ∧ wr.heap[w.heap.size + 1]? = some (.cells #[.slice none 0 0, .slice none 0 0, .slice none 0 0] 129 (0, 0)) ∧ wr.heap[rb]? = some (.cells #[.slice none 0 0, .slice none 0 0, .slice none 0 0] 129 (0, 0)) ∧ Only [] w wr) ∨ (q = .int .i64 1 ∧ ∃ a0 c0, wr.heap[w.heap.size + 1]? = some (.cells #[.slice a0 (16 * 16) c0, .slice none 0 0, .slice none 0 0] 129 (0, 0)) ∧ wr.ownsRow w.heap.size 3 1 (.slice a0 (16 * 16) c0) (16 * 16) ((keepTo Y pw XX 16 16).map (Value.int .i64)) ∧ wr.heap[rb]? = some (.cells #[.slice none 0 0, .slice none 0 0, .slice none 0 0] 129 (0, 0)) ∧ Only [] w wr) ∨ (q = .int .i64 2 ∧ ∃ a0 c0, ∃ a1 c1, wr.heap[w.heap.size + 1]? = some (.cells #[.slice a0 (16 * 16) c0, .slice a1 (8 * 8) c1, .slice none 0 0] 129 (0, 0)) ∧ wr.ownsRow w.heap.size 3 1 (.slice a0 (16 * 16) c0) (16 * 16) ((keepTo Y pw XX 16 16).map (Value.int .i64)) ∧ wr.ownsRow w.heap.size 3 1 (.slice a1 (8 * 8) c1) (8 * 8) ((keepTo U pc XC 8 8).map (Value.int .i64)) ∧ wr.heap[rb]? = some (.cells #[.slice none 0 0, .slice none 0 0, .slice none 0 0] 129 (0, 0)) ∧ Only [] w wr) ∨ (q = .int .i64 3 ∧ ∃ a0 c0, ∃ a1 c1, ∃ a2 c2, wr.heap[w.heap.size + 1]? = some (.cells #[.slice a0 (16 * 16) c0, .slice a1 (8 * 8) c1, .slice a2 (8 * 8) c2] 129 (0, 0)) ∧ wr.ownsRow w.heap.size 3 1 (.slice a0 (16 * 16) c0) (16 * 16) ((keepTo Y pw XX 16 16).map (Value.int .i64)) ∧ wr.ownsRow w.heap.size 3 1 (.slice a1 (8 * 8) c1) (8 * 8) ((keepTo U pc XC 8 8).map (Value.int .i64)) ∧ wr.ownsRow w.heap.size 3 1 (.slice a2 (8 * 8) c2) (8 * 8) ((keepTo V pc XC 8 8).map (Value.int .i64)) ∧ wr.heap[rb]? = some (.cells #[.slice none 0 0, .slice none 0 0, .slice none 0 0] 129 (0, 0)) ∧ Only [] w wr)) (fun q _ => 3 - (intOf q).toNat)
  case atStart => exact .inl ⟨rfl, B1.out, B0.out, O1.out⟩
  case round =>
    rcases hrel with ⟨rfl, hcell, hres, ho⟩ | ⟨rfl, a0, c0, hcell, ho0, hres, ho⟩ | ⟨rfl, a0, c0, a1, c1, hcell, ho0, ho1, hres, ho⟩ | ⟨rfl, a0, c0, a1, c1, a2, c2, hcell, ho0, ho1, ho2, hres, ho⟩
    · have hP1 := (HSY.out.only ho (by simp)).plane (cap := cy) (pw := pw) (side := 16)
      rw [← Hyl.out] at hP1
      have hcell1 := heap_alloc_lt (.cells #[.slice (some ⟨yb, 0, none⟩) ylen cy, .int .i64 ((pw : Nat) : Int), .int .i64 16] 117) hcell
      have hres1 := heap_alloc_lt (.cells #[.slice (some ⟨yb, 0, none⟩) ylen cy, .int .i64 ((pw : Nat) : Int), .int .i64 16] 117) hres
      have hoA := ho.alloc (.cells #[.slice (some ⟨yb, 0, none⟩) ylen cy, .int .i64 ((pw : Nat) : Int), .int .i64 16] 117)
      have hpb : wr.heap.size < (wr.alloc (.cells #[.slice (some ⟨yb, 0, none⟩) ylen cy, .int .i64 ((pw : Nat) : Int), .int .i64 16] 117)).heap.size := by simp
      have hob : w.heap.size + 1 < wr.heap.size := lt_of_block hcell
      go_wp2
      generalize wr.alloc (.cells #[.slice (some ⟨yb, 0, none⟩) ylen cy, .int .i64 ((pw : Nat) : Int), .int .i64 16] 117) = wo at *
      generalize wr.heap.size = pb at *
      have HP1 := Lib.hid hP1
      have HC1 := Lib.hid hcell1
      have HR1 := Lib.hid hres1
      have HO1 := Lib.hid hoA
      clear hP1 hcell1 hres1 hoA hcell hres ho
      go_loopw [20] (fun q wr => ∃ row : Nat, row ≤ 16 ∧ q = .int .i64 row ∧ ∃ av cv, wr.heap[w.heap.size + 1]? = some (.cells #[.slice av (row * 16) cv, .slice none 0 0, .slice none 0 0] 129 (0, 0)) ∧ wr.ownsRow wo.heap.size 3 1 (.slice av (row * 16) cv) (row * 16) ((keepTo Y pw XX 16 row).map (Value.int .i64)) ∧ Only [w.heap.size + 1] wo wr) (fun q _ => 16 - (intOf q).toNat)
      case atStart => exact ⟨0, Nat.zero_le _, rfl, _, _, by rw [Nat.zero_mul]; exact HC1.out, by rw [Nat.zero_mul]; exact ⟨rfl, .inl ⟨rfl, rfl⟩⟩, Only.refl _ wo⟩
      case round =>
        obtain ⟨row, hrow, rfl, av, cv, hcell, hown, ho⟩ := hrel
        by_cases hlt : row < 16
        · obtain ⟨n, hn⟩ : ∃ n, n = row * 16 := ⟨_, rfl⟩
          rw [← hn] at hcell hown
          have hn2 : n + 16 = (row + 1) * 16 := by omega
          have hn3 : n ≤ 256 := by omega
          have OW := HO1.out.trans' ho (fun i hi => .inr (by simp only [List.mem_singleton] at hi; omega))
          have f3 : wr.cell? ⟨b, 3, none⟩ = some (.int .i64 x) := by rw [cells_of (OW.heap Hb.out (by simp))]; rfl
          have f4 : wr.cell? ⟨b, 4, none⟩ = some (.int .i64 0) := by rw [cells_of (OW.heap Hb.out (by simp))]; rfl
          have hPr := HP1.out.only ho (by simp; omega) (by simp; exact fun h => by have := lt_of_block HSY.out.sm.choose_spec; omega)
          have f2 : wr.cell? ⟨pb, 2, none⟩ = some (.int .i64 16) := by rw [cells_of hPr.st]; rfl
          have fo : wr.cell? ⟨w.heap.size + 1, 0, none⟩ = some (.slice av n cv) := by rw [cells_of hcell]; rfl
          have zo := free_of hcell 0
          have qr : IntKind.i64.wrap (row : Int) = row := i64n _ (by omega)
          have hget : ∀ wx : World, Only [] wr wx → Calls Tryz.prog 77 #[.pointer (some ⟨pb, 0, none⟩), .int .i64 XX, .int .i64 row, .int .i64 1, .int .i64 0, .int .i64 16] wx fun e w' => ∃ g', e = .returned (.slice (some ⟨g', 0, none⟩) 16 16) ∧ w'.heap[g']? = some (.cells (ints (getL Y pw XX row 1 0 16)) 3 (0, 0)) ∧ wx.heap.size ≤ g' ∧ Only [] wx w' := fun (wx : World) (hx : Only [] wr wx) => plane_get (hPr.only hx (by simp) (by simp)) XX row 1 0 16 ⟨by omega, by omega⟩ (by omega) hXX2 (by omega) hly (Hiny.out row hlt)
          have HG := Lib.hid hget
          have Hown := Lib.hid hown
          have Hcell := Lib.hid hcell
          have Ho := Lib.hid ho
          have hne : (Value.slice av n cv).ownBlock ≠ some (w.heap.size + 1) := fun hi => by have := own_ge hown _ hi; omega
          have Hne := Lib.hid hne
          have hsr := ho.size
          obtain ⟨i2, hi2, hz2, hs2, hb2⟩ := info_parts elt64.hi
          have Hi2 := Lib.hid hi2
          have Hz2 := Lib.hid hz2
          have Hs2 := Lib.hid hs2
          have Hb2 := Lib.hid hb2
          have Hn := Lib.hid hn
          obtain ⟨L, hL⟩ : ∃ L, L = getL Y pw XX row 1 0 16 := ⟨_, rfl⟩
          have hLl : (L.map (Value.int .i64)).length = 16 * 1 := by rw [List.length_map, hL, getL_length]
          rw [← hL] at HG
          have HL := Lib.hid hL
          clear OW hPr hget hown hcell ho hne hi2 hz2 hs2 hb2 hn hL
          go_wp2
          have wl := lt_of_block Hb.out
          refine wp_region_L (by kernel_rfl) (fun w' => w'.cell? ⟨b, 3, none⟩ = some (.int .i64 x) ∧ w'.cell? ⟨b, 4, none⟩ = some (.int .i64 0) ∧ w'.cell? ⟨pb, 2, none⟩ = some (.int .i64 16) ∧ w'.cell? ⟨w.heap.size + 1, 0, none⟩ = some (.slice av n cv)) 25 ?_
          have hS0 : (fun w' : World => w'.cell? ⟨b, 3, none⟩ = some (.int .i64 x) ∧ w'.cell? ⟨b, 4, none⟩ = some (.int .i64 0) ∧ w'.cell? ⟨pb, 2, none⟩ = some (.int .i64 16) ∧ w'.cell? ⟨w.heap.size + 1, 0, none⟩ = some (.slice av n cv)) wr.drew := ⟨f3, f4, f2, fo⟩
          refine AnyL.take 0 (v := ?_) rfl (by kernel_rfl) (by kernel_rfl) (by kernel_rfl) (by kernel_rfl) (fun _ _ _ h => h) (by assumption) (Or.inl ⟨by rfl, ?_⟩) ?_
          rotate_left
          · (intro w' hSw; (try dsimp only at hSw); go_simp; try (with_reducible rfl))
          try simp only [Act.put, List.setIfInBounds_toArray, List.set_cons_zero, List.set_cons_succ]
          refine AnyL.take 1 (v := ?_) rfl (by kernel_rfl) (by kernel_rfl) (by kernel_rfl) (by kernel_rfl) (fun _ _ _ h => h) (by assumption) (Or.inl ⟨by rfl, ?_⟩) ?_
          rotate_left
          · (intro w' hSw; (try dsimp only at hSw); go_simp; try (with_reducible rfl))
          try simp only [Act.put, List.setIfInBounds_toArray, List.set_cons_zero, List.set_cons_succ]
          refine AnyL.take 2 (v := ?_) rfl (by kernel_rfl) (by kernel_rfl) (by kernel_rfl) (by kernel_rfl) (fun _ _ _ h => h) (by assumption) (Or.inl ⟨by rfl, ?_⟩) ?_
          rotate_left
          · (intro w' hSw; (try dsimp only at hSw); go_simp; try (with_reducible rfl))
          try simp only [Act.put, List.setIfInBounds_toArray, List.set_cons_zero, List.set_cons_succ]
          refine AnyL.take 3 (v := ?_) rfl (by kernel_rfl) (by kernel_rfl) (by kernel_rfl) (by kernel_rfl) (fun _ _ _ h => h) (by assumption) (Or.inl ⟨by rfl, ?_⟩) ?_
          rotate_left
          · (intro w' hSw; (try dsimp only at hSw); go_simp; try (with_reducible rfl))
          try simp only [Act.put, List.setIfInBounds_toArray, List.set_cons_zero, List.set_cons_succ]
          refine AnyL.take 4 (v := ?_) rfl (by kernel_rfl) (by kernel_rfl) (by kernel_rfl) (by kernel_rfl) (fun _ _ _ h => h) (by assumption) (Or.inl ⟨by rfl, ?_⟩) ?_
          rotate_left
          · (intro w' hSw; (try dsimp only at hSw); go_simp; try (with_reducible rfl))
          try simp only [Act.put, List.setIfInBounds_toArray, List.set_cons_zero, List.set_cons_succ]
          refine AnyL.take 5 (v := ?_) rfl (by kernel_rfl) (by kernel_rfl) (by kernel_rfl) (by kernel_rfl) (fun _ _ _ h => h) (by assumption) (Or.inl ⟨by rfl, ?_⟩) ?_
          rotate_left
          · (intro w' hSw; (try dsimp only at hSw); go_simp; try (with_reducible rfl))
          try simp only [Act.put, List.setIfInBounds_toArray, List.set_cons_zero, List.set_cons_succ]
          refine AnyL.take 6 (v := ?_) rfl (by kernel_rfl) (by kernel_rfl) (by kernel_rfl) (by kernel_rfl) (fun _ _ _ h => h) (by assumption) (Or.inl ⟨by rfl, ?_⟩) ?_
          rotate_left
          · (intro w' hSw; (try dsimp only at hSw); go_simp; try (with_reducible rfl))
          try simp only [Act.put, List.setIfInBounds_toArray, List.set_cons_zero, List.set_cons_succ]
          refine AnyL.take 7 (v := ?_) rfl (by kernel_rfl) (by kernel_rfl) (by kernel_rfl) (by kernel_rfl) (fun _ _ _ h => h) (by assumption) (Or.inl ⟨by rfl, ?_⟩) ?_
          rotate_left
          · (intro w' hSw; (try dsimp only at hSw); go_simp; try (with_reducible rfl))
          try simp only [Act.put, List.setIfInBounds_toArray, List.set_cons_zero, List.set_cons_succ]
          refine AnyL.take 8 (v := ?_) rfl (by kernel_rfl) (by kernel_rfl) (by kernel_rfl) (by kernel_rfl) (fun _ _ _ h => h) (by assumption) (Or.inl ⟨by rfl, ?_⟩) ?_
          rotate_left
          · (intro w' hSw; (try dsimp only at hSw); go_simp; try (with_reducible rfl))
          try simp only [Act.put, List.setIfInBounds_toArray, List.set_cons_zero, List.set_cons_succ]
          refine AnyL.take 9 (v := ?_) rfl (by kernel_rfl) (by kernel_rfl) (by kernel_rfl) (by kernel_rfl) (fun _ _ _ h => h) (by assumption) (Or.inl ⟨by rfl, ?_⟩) ?_
          rotate_left
          · (intro w' hSw; (try dsimp only at hSw); go_simp; try (with_reducible rfl))
          try simp only [Act.put, List.setIfInBounds_toArray, List.set_cons_zero, List.set_cons_succ]
          refine AnyL.take 10 (v := ?_) rfl (by kernel_rfl) (by kernel_rfl) (by kernel_rfl) (by kernel_rfl) (fun _ _ _ h => h) (by assumption) (Or.inl ⟨by rfl, ?_⟩) ?_
          rotate_left
          · (intro w' hSw; (try dsimp only at hSw); go_simp; try (with_reducible rfl))
          try simp only [Act.put, List.setIfInBounds_toArray, List.set_cons_zero, List.set_cons_succ]
          refine AnyL.take 11 (v := ?_) rfl (by kernel_rfl) (by kernel_rfl) (by kernel_rfl) (by kernel_rfl) (fun _ _ _ h => h) (by assumption) (Or.inl ⟨by rfl, ?_⟩) ?_
          rotate_left
          · (intro w' hSw; (try dsimp only at hSw); go_simp; try (with_reducible rfl))
          try simp only [Act.put, List.setIfInBounds_toArray, List.set_cons_zero, List.set_cons_succ]
          refine AnyL.take 12 (v := ?_) rfl (by kernel_rfl) (by kernel_rfl) (by kernel_rfl) (by kernel_rfl) (fun _ _ _ h => h) (by assumption) (Or.inl ⟨by rfl, ?_⟩) ?_
          rotate_left
          · (intro w' hSw; (try dsimp only at hSw); go_simp; try (with_reducible rfl))
          try simp only [Act.put, List.setIfInBounds_toArray, List.set_cons_zero, List.set_cons_succ]
          refine AnyL.take 13 (v := ?_) rfl (by kernel_rfl) (by kernel_rfl) (by kernel_rfl) (by kernel_rfl) (fun _ _ _ h => h) (by assumption) (Or.inl ⟨by rfl, ?_⟩) ?_
          rotate_left
          · (intro w' hSw; (try dsimp only at hSw); go_simp; try (with_reducible rfl))
          try simp only [Act.put, List.setIfInBounds_toArray, List.set_cons_zero, List.set_cons_succ]
          refine AnyL.take 14 (v := ?_) rfl (by kernel_rfl) (by kernel_rfl) (by kernel_rfl) (by kernel_rfl) (fun _ _ _ h => h) (by assumption) (Or.inl ⟨by rfl, ?_⟩) ?_
          rotate_left
          · (intro w' hSw; (try dsimp only at hSw); go_simp; try (with_reducible rfl))
          try simp only [Act.put, List.setIfInBounds_toArray, List.set_cons_zero, List.set_cons_succ]
          refine AnyL.take 15 (v := ?_) rfl (by kernel_rfl) (by kernel_rfl) (by kernel_rfl) (by kernel_rfl) (fun _ _ _ h => h) (by assumption) (Or.inl ⟨by rfl, ?_⟩) ?_
          rotate_left
          · (intro w' hSw; (try dsimp only at hSw); go_simp; try (with_reducible rfl))
          try simp only [Act.put, List.setIfInBounds_toArray, List.set_cons_zero, List.set_cons_succ]
          refine AnyL.take 16 (v := ?_) rfl (by kernel_rfl) (by kernel_rfl) (by kernel_rfl) (by kernel_rfl) (fun _ _ _ h => h) (by assumption) (Or.inl ⟨by rfl, ?_⟩) ?_
          rotate_left
          · (intro w' hSw; (try dsimp only at hSw); go_simp; try (with_reducible rfl))
          try simp only [Act.put, List.setIfInBounds_toArray, List.set_cons_zero, List.set_cons_succ]
          refine AnyL.take 17 (v := ?_) rfl (by kernel_rfl) (by kernel_rfl) (by kernel_rfl) (by kernel_rfl) (fun _ _ _ h => h) (by assumption) (Or.inl ⟨by rfl, ?_⟩) ?_
          rotate_left
          · (intro w' hSw; (try dsimp only at hSw); go_simp; try (with_reducible rfl))
          try simp only [Act.put, List.setIfInBounds_toArray, List.set_cons_zero, List.set_cons_succ]
          refine AnyL.take 18 (v := ?_) rfl (by kernel_rfl) (by kernel_rfl) (by kernel_rfl) (by kernel_rfl) (fun _ _ _ h => h) (by assumption) (Or.inl ⟨by rfl, ?_⟩) ?_
          rotate_left
          · (intro w' hSw; (try dsimp only at hSw); go_simp; try (with_reducible rfl))
          try simp only [Act.put, List.setIfInBounds_toArray, List.set_cons_zero, List.set_cons_succ]
          refine AnyL.take 19 (v := ?_) rfl (by kernel_rfl) (by kernel_rfl) (by kernel_rfl) (by kernel_rfl) (fun _ _ _ h => h) (by assumption) (Or.inl ⟨by rfl, ?_⟩) ?_
          rotate_left
          · (intro w' hSw; (try dsimp only at hSw); go_simp; try (with_reducible rfl))
          try simp only [Act.put, List.setIfInBounds_toArray, List.set_cons_zero, List.set_cons_succ]
          refine AnyL.take 20 (v := ?_) rfl (by kernel_rfl) (by kernel_rfl) (by kernel_rfl) (by kernel_rfl) (fun _ _ _ h => h) (by assumption) (Or.inl ⟨by rfl, ?_⟩) ?_
          rotate_left
          · (intro w' hSw; (try dsimp only at hSw); go_simp; try (with_reducible rfl))
          try simp only [Act.put, List.setIfInBounds_toArray, List.set_cons_zero, List.set_cons_succ]
          refine AnyL.take 21 (v := ?_) rfl (by kernel_rfl) (by kernel_rfl) (by kernel_rfl) (by kernel_rfl) (fun _ _ _ h => h) (by assumption) (Or.inl ⟨by rfl, ?_⟩) ?_
          rotate_left
          · (intro w' hSw; (try dsimp only at hSw); go_simp; try (with_reducible rfl))
          try simp only [Act.put, List.setIfInBounds_toArray, List.set_cons_zero, List.set_cons_succ]
          refine AnyL.one 22 (by kernel_rfl) rfl (fun K hK => ?_)
          go_simp
          with_reducible refine (HG.out _ (Only.refl [] wr).drew).mono ?_
          rintro r w5 ⟨g', rfl, hg1, hg2, hg3⟩
          have O5 := Lib.hid ((Only.refl [] wr).drew.trans hg3)
          have d3 := O5.out.cell f3 (by simp)
          have d4 := O5.out.cell f4 (by simp)
          have d2 := O5.out.cell f2 (by simp)
          have dO := O5.out.cell fo (by simp)
          have G5 := Lib.hid hg1
          have Hown5 := Lib.hid (ownsRow_of_block (w' := w5) Hown.out (fun g hg => by obtain ⟨c, hc⟩ := ownsRow_block Hown.out hg; exact O5.out.block g (lt_of_block hc) (by simp)))
          have hs5 := O5.out.size
          have C5 := Lib.hid (O5.out.heap Hcell.out (by simp))
          clear hg1 hg2 hg3
          refine hK _ _ (fun _ => ⟨d3, d4, d2, dO⟩) (fun _ => ?_)
          clear hK K
          try simp only [Act.put, List.setIfInBounds_toArray, List.set_cons_zero, List.set_cons_succ]
          refine AnyL.one 23 (by kernel_rfl) rfl (fun K hK => ?_)
          refine step_append_lies _ rfl _ _ _ rfl wo.heap.size 3 i2 _ 1 8 Tryz.underlying58 Hi2.out Hz2.out Hs2.out Hb2.out rfl (by omega) (.slice av n cv) n _ rfl Hown5.out
                  ⟨g', 0, none⟩ 16 16 (L.map (Value.int .i64)) rfl hLl (row_news G5.out) (ints_oneCell' L) (by omega) (by unfold maxLen; omega) (by omega) (by omega) w5.heap.size rfl ?_
          intro gg cap2 w7 hown2 hgrow hat hlt2
          have Hown2 := Lib.hid hown2
          have Hgrow : Hid (w5.grownBy w7 (Value.slice av n cv).ownBlock) := Lib.hid hgrow
          have O7 := ((Only.refl (Value.slice av n cv).ownBlock.toList w5).grown Hgrow.out (fun i hi => .inl (by simp [hi])))
          have hOo := own_ge Hown.out
          have C7 := Lib.hid (O7.heap C5.out (fun hi => Hne.out (by simpa using hi)))
          have g3 := O7.cell d3 (fun hi => by have := hOo b (by simpa using hi); omega)
          have g4 := O7.cell d4 (fun hi => by have := hOo b (by simpa using hi); omega)
          have g2 := O7.cell d2 (fun hi => by have := hOo pb (by simpa using hi); omega)
          have gO := O7.cell dO (fun hi => by have := hOo (w.heap.size + 1) (by simpa using hi); omega)
          have zO7 := free_of C7.out 0
          clear hown2 hgrow hat O7 hOo d3 d4 d2 dO
          refine hK _ _ (fun _ => ⟨g3, g4, g2, gO⟩) (fun _ => ?_)
          clear hK K
          try simp only [Act.put, List.setIfInBounds_toArray, List.set_cons_zero, List.set_cons_succ]
          refine AnyL.one 24 (by kernel_rfl) rfl (fun K hK => ?_)
          go_simp
          refine hK _ _ (fun _ => ⟨g3, g4, g2, gO⟩) (fun _ => ?_)
          clear hK K
          try simp only [Act.put, List.setIfInBounds_toArray, List.set_cons_zero, List.set_cons_succ]
          refine AnyL.one 25 (by kernel_rfl) rfl (fun K hK => ?_)
          go_simp
          refine hK _ _ (fun h => absurd rfl h) (fun _ => ?_)
          clear hK K
          try simp only [Act.put, List.setIfInBounds_toArray, List.set_cons_zero, List.set_cons_succ]
          refine AnyL.done (by kernel_rfl) ?_ _
          all_goals
            have hp := push_rows (i := 0) (.inl (List.mem_singleton.2 rfl)) (show w.heap.size + 1 < wo.heap.size by omega) (Nat.le_refl _) Hcell.out Hown.out Ho.out O5.out Hown2.out Hgrow.out
            rw [hn2] at hp
            have P := Lib.hid hp
            clear hp
            go_wp2
            go_roundw
            case rel => exact ⟨row + 1, by omega, by go_num, _, cap2, P.out.1, by rw [keepTo, ← HL.out, List.map_append]; exact P.out.2.1, P.out.2.2⟩
            case measure => simp [intOf] <;> omega
        · obtain rfl : row = 16 := by omega
          have OW := Lib.hid (HO1.out.trans' ho (fun i hi => .inr (by simp only [List.mem_singleton] at hi; omega)))
          have K0 := Lib.hid (own_mono hown (show w.heap.size ≤ wo.heap.size by omega))
          have HC2 := Lib.hid hcell
          have HR2 := Lib.hid (ho.heap HR1.out (by simp; omega))
          clear hcell hown ho
          go_wp2
          go_roundw
          case rel => exact .inr (.inl ⟨by go_num, av, cv, HC2.out, K0.out, HR2.out, OW.out⟩)
          case measure => simp [intOf] <;> omega
    · have hP1 := (HSU.out.only ho (by simp)).plane (cap := cu) (pw := pc) (side := 8)
      rw [← Hul.out] at hP1
      have hcell1 := heap_alloc_lt (.cells #[.slice (some ⟨ub, 0, none⟩) ulen cu, .int .i64 ((pc : Nat) : Int), .int .i64 8] 117) hcell
      have hres1 := heap_alloc_lt (.cells #[.slice (some ⟨ub, 0, none⟩) ulen cu, .int .i64 ((pc : Nat) : Int), .int .i64 8] 117) hres
      have hoA := ho.alloc (.cells #[.slice (some ⟨ub, 0, none⟩) ulen cu, .int .i64 ((pc : Nat) : Int), .int .i64 8] 117)
      have hpb : wr.heap.size < (wr.alloc (.cells #[.slice (some ⟨ub, 0, none⟩) ulen cu, .int .i64 ((pc : Nat) : Int), .int .i64 8] 117)).heap.size := by simp
      have hob : w.heap.size + 1 < wr.heap.size := lt_of_block hcell
      have hs0 := ho0.alloc (.cells #[.slice (some ⟨ub, 0, none⟩) ulen cu, .int .i64 ((pc : Nat) : Int), .int .i64 8] 117)
      go_wp2
      generalize wr.alloc (.cells #[.slice (some ⟨ub, 0, none⟩) ulen cu, .int .i64 ((pc : Nat) : Int), .int .i64 8] 117) = wo at *
      generalize wr.heap.size = pb at *
      have HP1 := Lib.hid hP1
      have HC1 := Lib.hid hcell1
      have HR1 := Lib.hid hres1
      have HO1 := Lib.hid hoA
      have HS0 := Lib.hid hs0
      clear hP1 hcell1 hres1 hoA hcell hres ho hs0 ho0
      go_loopw [20] (fun q wr => ∃ row : Nat, row ≤ 8 ∧ q = .int .i64 row ∧ ∃ av cv, wr.heap[w.heap.size + 1]? = some (.cells #[.slice a0 (16 * 16) c0, .slice av (row * 8) cv, .slice none 0 0] 129 (0, 0)) ∧ wr.ownsRow wo.heap.size 3 1 (.slice av (row * 8) cv) (row * 8) ((keepTo U pc XC 8 row).map (Value.int .i64)) ∧ Only [w.heap.size + 1] wo wr) (fun q _ => 8 - (intOf q).toNat)
      case atStart => exact ⟨0, Nat.zero_le _, rfl, _, _, by rw [Nat.zero_mul]; exact HC1.out, by rw [Nat.zero_mul]; exact ⟨rfl, .inl ⟨rfl, rfl⟩⟩, Only.refl _ wo⟩
      case round =>
        obtain ⟨row, hrow, rfl, av, cv, hcell, hown, ho⟩ := hrel
        by_cases hlt : row < 8
        · obtain ⟨n, hn⟩ : ∃ n, n = row * 8 := ⟨_, rfl⟩
          rw [← hn] at hcell hown
          have hn2 : n + 8 = (row + 1) * 8 := by omega
          have hn3 : n ≤ 256 := by omega
          have OW := HO1.out.trans' ho (fun i hi => .inr (by simp only [List.mem_singleton] at hi; omega))
          have f3 : wr.cell? ⟨b, 3, none⟩ = some (.int .i64 x) := by rw [cells_of (OW.heap Hb.out (by simp))]; rfl
          have f4 : wr.cell? ⟨b, 4, none⟩ = some (.int .i64 0) := by rw [cells_of (OW.heap Hb.out (by simp))]; rfl
          have hPr := HP1.out.only ho (by simp; omega) (by simp; exact fun h => by have := lt_of_block HSU.out.sm.choose_spec; omega)
          have f2 : wr.cell? ⟨pb, 2, none⟩ = some (.int .i64 8) := by rw [cells_of hPr.st]; rfl
          have fo : wr.cell? ⟨w.heap.size + 1, 1, none⟩ = some (.slice av n cv) := by rw [cells_of hcell]; rfl
          have zo := free_of hcell 1
          have qr : IntKind.i64.wrap (row : Int) = row := i64n _ (by omega)
          have hget : ∀ wx : World, Only [] wr wx → Calls Tryz.prog 77 #[.pointer (some ⟨pb, 0, none⟩), .int .i64 XC, .int .i64 row, .int .i64 1, .int .i64 0, .int .i64 8] wx fun e w' => ∃ g', e = .returned (.slice (some ⟨g', 0, none⟩) 8 8) ∧ w'.heap[g']? = some (.cells (ints (getL U pc XC row 1 0 8)) 3 (0, 0)) ∧ wx.heap.size ≤ g' ∧ Only [] wx w' := fun (wx : World) (hx : Only [] wr wx) => plane_get (hPr.only hx (by simp) (by simp)) XC row 1 0 8 ⟨by omega, by omega⟩ (by omega) hXC2 (by omega) hlu (Hinu.out row hlt)
          have HG := Lib.hid hget
          have Hown := Lib.hid hown
          have Hcell := Lib.hid hcell
          have Ho := Lib.hid ho
          have hne : (Value.slice av n cv).ownBlock ≠ some (w.heap.size + 1) := fun hi => by have := own_ge hown _ hi; omega
          have Hne := Lib.hid hne
          have hsr := ho.size
          obtain ⟨i2, hi2, hz2, hs2, hb2⟩ := info_parts elt64.hi
          have Hi2 := Lib.hid hi2
          have Hz2 := Lib.hid hz2
          have Hs2 := Lib.hid hs2
          have Hb2 := Lib.hid hb2
          have Hn := Lib.hid hn
          obtain ⟨L, hL⟩ : ∃ L, L = getL U pc XC row 1 0 8 := ⟨_, rfl⟩
          have hLl : (L.map (Value.int .i64)).length = 8 * 1 := by rw [List.length_map, hL, getL_length]
          rw [← hL] at HG
          have HL := Lib.hid hL
          clear OW hPr hget hown hcell ho hne hi2 hz2 hs2 hb2 hn hL
          go_wp2
          have wl := lt_of_block Hb.out
          refine wp_region_L (by kernel_rfl) (fun w' => w'.cell? ⟨b, 3, none⟩ = some (.int .i64 x) ∧ w'.cell? ⟨b, 4, none⟩ = some (.int .i64 0) ∧ w'.cell? ⟨pb, 2, none⟩ = some (.int .i64 8) ∧ w'.cell? ⟨w.heap.size + 1, 1, none⟩ = some (.slice av n cv)) 25 ?_
          have hS0 : (fun w' : World => w'.cell? ⟨b, 3, none⟩ = some (.int .i64 x) ∧ w'.cell? ⟨b, 4, none⟩ = some (.int .i64 0) ∧ w'.cell? ⟨pb, 2, none⟩ = some (.int .i64 8) ∧ w'.cell? ⟨w.heap.size + 1, 1, none⟩ = some (.slice av n cv)) wr.drew := ⟨f3, f4, f2, fo⟩
          refine AnyL.take 0 (v := ?_) rfl (by kernel_rfl) (by kernel_rfl) (by kernel_rfl) (by kernel_rfl) (fun _ _ _ h => h) (by assumption) (Or.inl ⟨by rfl, ?_⟩) ?_
          rotate_left
          · (intro w' hSw; (try dsimp only at hSw); go_simp; try (with_reducible rfl))
          try simp only [Act.put, List.setIfInBounds_toArray, List.set_cons_zero, List.set_cons_succ]
          refine AnyL.take 1 (v := ?_) rfl (by kernel_rfl) (by kernel_rfl) (by kernel_rfl) (by kernel_rfl) (fun _ _ _ h => h) (by assumption) (Or.inl ⟨by rfl, ?_⟩) ?_
          rotate_left
          · (intro w' hSw; (try dsimp only at hSw); go_simp; try (with_reducible rfl))
          try simp only [Act.put, List.setIfInBounds_toArray, List.set_cons_zero, List.set_cons_succ]
          refine AnyL.take 2 (v := ?_) rfl (by kernel_rfl) (by kernel_rfl) (by kernel_rfl) (by kernel_rfl) (fun _ _ _ h => h) (by assumption) (Or.inl ⟨by rfl, ?_⟩) ?_
          rotate_left
          · (intro w' hSw; (try dsimp only at hSw); go_simp; try (with_reducible rfl))
          try simp only [Act.put, List.setIfInBounds_toArray, List.set_cons_zero, List.set_cons_succ]
          refine AnyL.take 3 (v := ?_) rfl (by kernel_rfl) (by kernel_rfl) (by kernel_rfl) (by kernel_rfl) (fun _ _ _ h => h) (by assumption) (Or.inl ⟨by rfl, ?_⟩) ?_
          rotate_left
          · (intro w' hSw; (try dsimp only at hSw); go_simp; try (with_reducible rfl))
          try simp only [Act.put, List.setIfInBounds_toArray, List.set_cons_zero, List.set_cons_succ]
          refine AnyL.take 4 (v := ?_) rfl (by kernel_rfl) (by kernel_rfl) (by kernel_rfl) (by kernel_rfl) (fun _ _ _ h => h) (by assumption) (Or.inl ⟨by rfl, ?_⟩) ?_
          rotate_left
          · (intro w' hSw; (try dsimp only at hSw); go_simp; try (with_reducible rfl))
          try simp only [Act.put, List.setIfInBounds_toArray, List.set_cons_zero, List.set_cons_succ]
          refine AnyL.take 5 (v := ?_) rfl (by kernel_rfl) (by kernel_rfl) (by kernel_rfl) (by kernel_rfl) (fun _ _ _ h => h) (by assumption) (Or.inl ⟨by rfl, ?_⟩) ?_
          rotate_left
          · (intro w' hSw; (try dsimp only at hSw); go_simp; try (with_reducible rfl))
          try simp only [Act.put, List.setIfInBounds_toArray, List.set_cons_zero, List.set_cons_succ]
          refine AnyL.take 6 (v := ?_) rfl (by kernel_rfl) (by kernel_rfl) (by kernel_rfl) (by kernel_rfl) (fun _ _ _ h => h) (by assumption) (Or.inl ⟨by rfl, ?_⟩) ?_
          rotate_left
          · (intro w' hSw; (try dsimp only at hSw); go_simp; try (with_reducible rfl))
          try simp only [Act.put, List.setIfInBounds_toArray, List.set_cons_zero, List.set_cons_succ]
          refine AnyL.take 7 (v := ?_) rfl (by kernel_rfl) (by kernel_rfl) (by kernel_rfl) (by kernel_rfl) (fun _ _ _ h => h) (by assumption) (Or.inl ⟨by rfl, ?_⟩) ?_
          rotate_left
          · (intro w' hSw; (try dsimp only at hSw); go_simp; try (with_reducible rfl))
          try simp only [Act.put, List.setIfInBounds_toArray, List.set_cons_zero, List.set_cons_succ]
          refine AnyL.take 8 (v := ?_) rfl (by kernel_rfl) (by kernel_rfl) (by kernel_rfl) (by kernel_rfl) (fun _ _ _ h => h) (by assumption) (Or.inl ⟨by rfl, ?_⟩) ?_
          rotate_left
          · (intro w' hSw; (try dsimp only at hSw); go_simp; try (with_reducible rfl))
          try simp only [Act.put, List.setIfInBounds_toArray, List.set_cons_zero, List.set_cons_succ]
          refine AnyL.take 9 (v := ?_) rfl (by kernel_rfl) (by kernel_rfl) (by kernel_rfl) (by kernel_rfl) (fun _ _ _ h => h) (by assumption) (Or.inl ⟨by rfl, ?_⟩) ?_
          rotate_left
          · (intro w' hSw; (try dsimp only at hSw); go_simp; try (with_reducible rfl))
          try simp only [Act.put, List.setIfInBounds_toArray, List.set_cons_zero, List.set_cons_succ]
          refine AnyL.take 10 (v := ?_) rfl (by kernel_rfl) (by kernel_rfl) (by kernel_rfl) (by kernel_rfl) (fun _ _ _ h => h) (by assumption) (Or.inl ⟨by rfl, ?_⟩) ?_
          rotate_left
          · (intro w' hSw; (try dsimp only at hSw); go_simp; try (with_reducible rfl))
          try simp only [Act.put, List.setIfInBounds_toArray, List.set_cons_zero, List.set_cons_succ]
          refine AnyL.take 11 (v := ?_) rfl (by kernel_rfl) (by kernel_rfl) (by kernel_rfl) (by kernel_rfl) (fun _ _ _ h => h) (by assumption) (Or.inl ⟨by rfl, ?_⟩) ?_
          rotate_left
          · (intro w' hSw; (try dsimp only at hSw); go_simp; try (with_reducible rfl))
          try simp only [Act.put, List.setIfInBounds_toArray, List.set_cons_zero, List.set_cons_succ]
          refine AnyL.take 12 (v := ?_) rfl (by kernel_rfl) (by kernel_rfl) (by kernel_rfl) (by kernel_rfl) (fun _ _ _ h => h) (by assumption) (Or.inl ⟨by rfl, ?_⟩) ?_
          rotate_left
          · (intro w' hSw; (try dsimp only at hSw); go_simp; try (with_reducible rfl))
          try simp only [Act.put, List.setIfInBounds_toArray, List.set_cons_zero, List.set_cons_succ]
          refine AnyL.take 13 (v := ?_) rfl (by kernel_rfl) (by kernel_rfl) (by kernel_rfl) (by kernel_rfl) (fun _ _ _ h => h) (by assumption) (Or.inl ⟨by rfl, ?_⟩) ?_
          rotate_left
          · (intro w' hSw; (try dsimp only at hSw); go_simp; try (with_reducible rfl))
          try simp only [Act.put, List.setIfInBounds_toArray, List.set_cons_zero, List.set_cons_succ]
          refine AnyL.take 14 (v := ?_) rfl (by kernel_rfl) (by kernel_rfl) (by kernel_rfl) (by kernel_rfl) (fun _ _ _ h => h) (by assumption) (Or.inl ⟨by rfl, ?_⟩) ?_
          rotate_left
          · (intro w' hSw; (try dsimp only at hSw); go_simp; try (with_reducible rfl))
          try simp only [Act.put, List.setIfInBounds_toArray, List.set_cons_zero, List.set_cons_succ]
          refine AnyL.take 15 (v := ?_) rfl (by kernel_rfl) (by kernel_rfl) (by kernel_rfl) (by kernel_rfl) (fun _ _ _ h => h) (by assumption) (Or.inl ⟨by rfl, ?_⟩) ?_
          rotate_left
          · (intro w' hSw; (try dsimp only at hSw); go_simp; try (with_reducible rfl))
          try simp only [Act.put, List.setIfInBounds_toArray, List.set_cons_zero, List.set_cons_succ]
          refine AnyL.take 16 (v := ?_) rfl (by kernel_rfl) (by kernel_rfl) (by kernel_rfl) (by kernel_rfl) (fun _ _ _ h => h) (by assumption) (Or.inl ⟨by rfl, ?_⟩) ?_
          rotate_left
          · (intro w' hSw; (try dsimp only at hSw); go_simp; try (with_reducible rfl))
          try simp only [Act.put, List.setIfInBounds_toArray, List.set_cons_zero, List.set_cons_succ]
          refine AnyL.take 17 (v := ?_) rfl (by kernel_rfl) (by kernel_rfl) (by kernel_rfl) (by kernel_rfl) (fun _ _ _ h => h) (by assumption) (Or.inl ⟨by rfl, ?_⟩) ?_
          rotate_left
          · (intro w' hSw; (try dsimp only at hSw); go_simp; try (with_reducible rfl))
          try simp only [Act.put, List.setIfInBounds_toArray, List.set_cons_zero, List.set_cons_succ]
          refine AnyL.take 18 (v := ?_) rfl (by kernel_rfl) (by kernel_rfl) (by kernel_rfl) (by kernel_rfl) (fun _ _ _ h => h) (by assumption) (Or.inl ⟨by rfl, ?_⟩) ?_
          rotate_left
          · (intro w' hSw; (try dsimp only at hSw); go_simp; try (with_reducible rfl))
          try simp only [Act.put, List.setIfInBounds_toArray, List.set_cons_zero, List.set_cons_succ]
          refine AnyL.take 19 (v := ?_) rfl (by kernel_rfl) (by kernel_rfl) (by kernel_rfl) (by kernel_rfl) (fun _ _ _ h => h) (by assumption) (Or.inl ⟨by rfl, ?_⟩) ?_
          rotate_left
          · (intro w' hSw; (try dsimp only at hSw); go_simp; try (with_reducible rfl))
          try simp only [Act.put, List.setIfInBounds_toArray, List.set_cons_zero, List.set_cons_succ]
          refine AnyL.take 20 (v := ?_) rfl (by kernel_rfl) (by kernel_rfl) (by kernel_rfl) (by kernel_rfl) (fun _ _ _ h => h) (by assumption) (Or.inl ⟨by rfl, ?_⟩) ?_
          rotate_left
          · (intro w' hSw; (try dsimp only at hSw); go_simp; try (with_reducible rfl))
          try simp only [Act.put, List.setIfInBounds_toArray, List.set_cons_zero, List.set_cons_succ]
          refine AnyL.take 21 (v := ?_) rfl (by kernel_rfl) (by kernel_rfl) (by kernel_rfl) (by kernel_rfl) (fun _ _ _ h => h) (by assumption) (Or.inl ⟨by rfl, ?_⟩) ?_
          rotate_left
          · (intro w' hSw; (try dsimp only at hSw); go_simp; try (with_reducible rfl))
          try simp only [Act.put, List.setIfInBounds_toArray, List.set_cons_zero, List.set_cons_succ]
          refine AnyL.one 22 (by kernel_rfl) rfl (fun K hK => ?_)
          go_simp
          with_reducible refine (HG.out _ (Only.refl [] wr).drew).mono ?_
          rintro r w5 ⟨g', rfl, hg1, hg2, hg3⟩
          have O5 := Lib.hid ((Only.refl [] wr).drew.trans hg3)
          have d3 := O5.out.cell f3 (by simp)
          have d4 := O5.out.cell f4 (by simp)
          have d2 := O5.out.cell f2 (by simp)
          have dO := O5.out.cell fo (by simp)
          have G5 := Lib.hid hg1
          have Hown5 := Lib.hid (ownsRow_of_block (w' := w5) Hown.out (fun g hg => by obtain ⟨c, hc⟩ := ownsRow_block Hown.out hg; exact O5.out.block g (lt_of_block hc) (by simp)))
          have hs5 := O5.out.size
          have C5 := Lib.hid (O5.out.heap Hcell.out (by simp))
          clear hg1 hg2 hg3
          refine hK _ _ (fun _ => ⟨d3, d4, d2, dO⟩) (fun _ => ?_)
          clear hK K
          try simp only [Act.put, List.setIfInBounds_toArray, List.set_cons_zero, List.set_cons_succ]
          refine AnyL.one 23 (by kernel_rfl) rfl (fun K hK => ?_)
          refine step_append_lies _ rfl _ _ _ rfl wo.heap.size 3 i2 _ 1 8 Tryz.underlying58 Hi2.out Hz2.out Hs2.out Hb2.out rfl (by omega) (.slice av n cv) n _ rfl Hown5.out
                  ⟨g', 0, none⟩ 8 8 (L.map (Value.int .i64)) rfl hLl (row_news G5.out) (ints_oneCell' L) (by omega) (by unfold maxLen; omega) (by omega) (by omega) w5.heap.size rfl ?_
          intro gg cap2 w7 hown2 hgrow hat hlt2
          have Hown2 := Lib.hid hown2
          have Hgrow : Hid (w5.grownBy w7 (Value.slice av n cv).ownBlock) := Lib.hid hgrow
          have O7 := ((Only.refl (Value.slice av n cv).ownBlock.toList w5).grown Hgrow.out (fun i hi => .inl (by simp [hi])))
          have hOo := own_ge Hown.out
          have C7 := Lib.hid (O7.heap C5.out (fun hi => Hne.out (by simpa using hi)))
          have g3 := O7.cell d3 (fun hi => by have := hOo b (by simpa using hi); omega)
          have g4 := O7.cell d4 (fun hi => by have := hOo b (by simpa using hi); omega)
          have g2 := O7.cell d2 (fun hi => by have := hOo pb (by simpa using hi); omega)
          have gO := O7.cell dO (fun hi => by have := hOo (w.heap.size + 1) (by simpa using hi); omega)
          have zO7 := free_of C7.out 1
          clear hown2 hgrow hat O7 hOo d3 d4 d2 dO
          refine hK _ _ (fun _ => ⟨g3, g4, g2, gO⟩) (fun _ => ?_)
          clear hK K
          try simp only [Act.put, List.setIfInBounds_toArray, List.set_cons_zero, List.set_cons_succ]
          refine AnyL.one 24 (by kernel_rfl) rfl (fun K hK => ?_)
          go_simp
          refine hK _ _ (fun _ => ⟨g3, g4, g2, gO⟩) (fun _ => ?_)
          clear hK K
          try simp only [Act.put, List.setIfInBounds_toArray, List.set_cons_zero, List.set_cons_succ]
          refine AnyL.one 25 (by kernel_rfl) rfl (fun K hK => ?_)
          go_simp
          refine hK _ _ (fun h => absurd rfl h) (fun _ => ?_)
          clear hK K
          try simp only [Act.put, List.setIfInBounds_toArray, List.set_cons_zero, List.set_cons_succ]
          refine AnyL.done (by kernel_rfl) ?_ _
          all_goals
            have hp := push_rows (i := 1) (.inl (List.mem_singleton.2 rfl)) (show w.heap.size + 1 < wo.heap.size by omega) (Nat.le_refl _) Hcell.out Hown.out Ho.out O5.out Hown2.out Hgrow.out
            rw [hn2] at hp
            have P := Lib.hid hp
            clear hp
            go_wp2
            go_roundw
            case rel => exact ⟨row + 1, by omega, by go_num, _, cap2, P.out.1, by rw [keepTo, ← HL.out, List.map_append]; exact P.out.2.1, P.out.2.2⟩
            case measure => simp [intOf] <;> omega
        · obtain rfl : row = 8 := by omega
          have OW := Lib.hid (HO1.out.trans' ho (fun i hi => .inr (by simp only [List.mem_singleton] at hi; omega)))
          have K1 := Lib.hid (own_mono hown (show w.heap.size ≤ wo.heap.size by omega))
          have HC2 := Lib.hid hcell
          have HR2 := Lib.hid (ho.heap HR1.out (by simp; omega))
          have K0 := Lib.hid (own_stay HS0.out ho HC1.out (by decide))
          clear hcell hown ho
          go_wp2
          go_roundw
          case rel => exact .inr (.inr (.inl ⟨by go_num, a0, c0, av, cv, HC2.out, K0.out, K1.out, HR2.out, OW.out⟩))
          case measure => simp [intOf] <;> omega
    · have hP1 := (HSV.out.only ho (by simp)).plane (cap := cv) (pw := pc) (side := 8)
      rw [← Hvl.out] at hP1
      have hcell1 := heap_alloc_lt (.cells #[.slice (some ⟨vb, 0, none⟩) vlen cv, .int .i64 ((pc : Nat) : Int), .int .i64 8] 117) hcell
      have hres1 := heap_alloc_lt (.cells #[.slice (some ⟨vb, 0, none⟩) vlen cv, .int .i64 ((pc : Nat) : Int), .int .i64 8] 117) hres
      have hoA := ho.alloc (.cells #[.slice (some ⟨vb, 0, none⟩) vlen cv, .int .i64 ((pc : Nat) : Int), .int .i64 8] 117)
      have hpb : wr.heap.size < (wr.alloc (.cells #[.slice (some ⟨vb, 0, none⟩) vlen cv, .int .i64 ((pc : Nat) : Int), .int .i64 8] 117)).heap.size := by simp
      have hob : w.heap.size + 1 < wr.heap.size := lt_of_block hcell
      have hs0 := ho0.alloc (.cells #[.slice (some ⟨vb, 0, none⟩) vlen cv, .int .i64 ((pc : Nat) : Int), .int .i64 8] 117)
      have hs1 := ho1.alloc (.cells #[.slice (some ⟨vb, 0, none⟩) vlen cv, .int .i64 ((pc : Nat) : Int), .int .i64 8] 117)
      go_wp2
      generalize wr.alloc (.cells #[.slice (some ⟨vb, 0, none⟩) vlen cv, .int .i64 ((pc : Nat) : Int), .int .i64 8] 117) = wo at *
      generalize wr.heap.size = pb at *
      have HP1 := Lib.hid hP1
      have HC1 := Lib.hid hcell1
      have HR1 := Lib.hid hres1
      have HO1 := Lib.hid hoA
      have HS0 := Lib.hid hs0
      have HS1 := Lib.hid hs1
      clear hP1 hcell1 hres1 hoA hcell hres ho hs0 ho0 hs1 ho1
      go_loopw [20] (fun q wr => ∃ row : Nat, row ≤ 8 ∧ q = .int .i64 row ∧ ∃ av cv, wr.heap[w.heap.size + 1]? = some (.cells #[.slice a0 (16 * 16) c0, .slice a1 (8 * 8) c1, .slice av (row * 8) cv] 129 (0, 0)) ∧ wr.ownsRow wo.heap.size 3 1 (.slice av (row * 8) cv) (row * 8) ((keepTo V pc XC 8 row).map (Value.int .i64)) ∧ Only [w.heap.size + 1] wo wr) (fun q _ => 8 - (intOf q).toNat)
      case atStart => exact ⟨0, Nat.zero_le _, rfl, _, _, by rw [Nat.zero_mul]; exact HC1.out, by rw [Nat.zero_mul]; exact ⟨rfl, .inl ⟨rfl, rfl⟩⟩, Only.refl _ wo⟩
      case round =>
        obtain ⟨row, hrow, rfl, av, cv, hcell, hown, ho⟩ := hrel
        by_cases hlt : row < 8
        · obtain ⟨n, hn⟩ : ∃ n, n = row * 8 := ⟨_, rfl⟩
          rw [← hn] at hcell hown
          have hn2 : n + 8 = (row + 1) * 8 := by omega
          have hn3 : n ≤ 256 := by omega
          have OW := HO1.out.trans' ho (fun i hi => .inr (by simp only [List.mem_singleton] at hi; omega))
          have f3 : wr.cell? ⟨b, 3, none⟩ = some (.int .i64 x) := by rw [cells_of (OW.heap Hb.out (by simp))]; rfl
          have f4 : wr.cell? ⟨b, 4, none⟩ = some (.int .i64 0) := by rw [cells_of (OW.heap Hb.out (by simp))]; rfl
          have hPr := HP1.out.only ho (by simp; omega) (by simp; exact fun h => by have := lt_of_block HSV.out.sm.choose_spec; omega)
          have f2 : wr.cell? ⟨pb, 2, none⟩ = some (.int .i64 8) := by rw [cells_of hPr.st]; rfl
          have fo : wr.cell? ⟨w.heap.size + 1, 2, none⟩ = some (.slice av n cv) := by rw [cells_of hcell]; rfl
          have zo := free_of hcell 2
          have qr : IntKind.i64.wrap (row : Int) = row := i64n _ (by omega)
          have hget : ∀ wx : World, Only [] wr wx → Calls Tryz.prog 77 #[.pointer (some ⟨pb, 0, none⟩), .int .i64 XC, .int .i64 row, .int .i64 1, .int .i64 0, .int .i64 8] wx fun e w' => ∃ g', e = .returned (.slice (some ⟨g', 0, none⟩) 8 8) ∧ w'.heap[g']? = some (.cells (ints (getL V pc XC row 1 0 8)) 3 (0, 0)) ∧ wx.heap.size ≤ g' ∧ Only [] wx w' := fun (wx : World) (hx : Only [] wr wx) => plane_get (hPr.only hx (by simp) (by simp)) XC row 1 0 8 ⟨by omega, by omega⟩ (by omega) hXC2 (by omega) hlv (Hinv.out row hlt)
          have HG := Lib.hid hget
          have Hown := Lib.hid hown
          have Hcell := Lib.hid hcell
          have Ho := Lib.hid ho
          have hne : (Value.slice av n cv).ownBlock ≠ some (w.heap.size + 1) := fun hi => by have := own_ge hown _ hi; omega
          have Hne := Lib.hid hne
          have hsr := ho.size
          obtain ⟨i2, hi2, hz2, hs2, hb2⟩ := info_parts elt64.hi
          have Hi2 := Lib.hid hi2
          have Hz2 := Lib.hid hz2
          have Hs2 := Lib.hid hs2
          have Hb2 := Lib.hid hb2
          have Hn := Lib.hid hn
          obtain ⟨L, hL⟩ : ∃ L, L = getL V pc XC row 1 0 8 := ⟨_, rfl⟩
          have hLl : (L.map (Value.int .i64)).length = 8 * 1 := by rw [List.length_map, hL, getL_length]
          rw [← hL] at HG
          have HL := Lib.hid hL
          clear OW hPr hget hown hcell ho hne hi2 hz2 hs2 hb2 hn hL
          go_wp2
          have wl := lt_of_block Hb.out
          refine wp_region_L (by kernel_rfl) (fun w' => w'.cell? ⟨b, 3, none⟩ = some (.int .i64 x) ∧ w'.cell? ⟨b, 4, none⟩ = some (.int .i64 0) ∧ w'.cell? ⟨pb, 2, none⟩ = some (.int .i64 8) ∧ w'.cell? ⟨w.heap.size + 1, 2, none⟩ = some (.slice av n cv)) 25 ?_
          have hS0 : (fun w' : World => w'.cell? ⟨b, 3, none⟩ = some (.int .i64 x) ∧ w'.cell? ⟨b, 4, none⟩ = some (.int .i64 0) ∧ w'.cell? ⟨pb, 2, none⟩ = some (.int .i64 8) ∧ w'.cell? ⟨w.heap.size + 1, 2, none⟩ = some (.slice av n cv)) wr.drew := ⟨f3, f4, f2, fo⟩
          refine AnyL.take 0 (v := ?_) rfl (by kernel_rfl) (by kernel_rfl) (by kernel_rfl) (by kernel_rfl) (fun _ _ _ h => h) (by assumption) (Or.inl ⟨by rfl, ?_⟩) ?_
          rotate_left
          · (intro w' hSw; (try dsimp only at hSw); go_simp; try (with_reducible rfl))
          try simp only [Act.put, List.setIfInBounds_toArray, List.set_cons_zero, List.set_cons_succ]
          refine AnyL.take 1 (v := ?_) rfl (by kernel_rfl) (by kernel_rfl) (by kernel_rfl) (by kernel_rfl) (fun _ _ _ h => h) (by assumption) (Or.inl ⟨by rfl, ?_⟩) ?_
          rotate_left
          · (intro w' hSw; (try dsimp only at hSw); go_simp; try (with_reducible rfl))
          try simp only [Act.put, List.setIfInBounds_toArray, List.set_cons_zero, List.set_cons_succ]
          refine AnyL.take 2 (v := ?_) rfl (by kernel_rfl) (by kernel_rfl) (by kernel_rfl) (by kernel_rfl) (fun _ _ _ h => h) (by assumption) (Or.inl ⟨by rfl, ?_⟩) ?_
          rotate_left
          · (intro w' hSw; (try dsimp only at hSw); go_simp; try (with_reducible rfl))
          try simp only [Act.put, List.setIfInBounds_toArray, List.set_cons_zero, List.set_cons_succ]
          refine AnyL.take 3 (v := ?_) rfl (by kernel_rfl) (by kernel_rfl) (by kernel_rfl) (by kernel_rfl) (fun _ _ _ h => h) (by assumption) (Or.inl ⟨by rfl, ?_⟩) ?_
          rotate_left
          · (intro w' hSw; (try dsimp only at hSw); go_simp; try (with_reducible rfl))
          try simp only [Act.put, List.setIfInBounds_toArray, List.set_cons_zero, List.set_cons_succ]
          refine AnyL.take 4 (v := ?_) rfl (by kernel_rfl) (by kernel_rfl) (by kernel_rfl) (by kernel_rfl) (fun _ _ _ h => h) (by assumption) (Or.inl ⟨by rfl, ?_⟩) ?_
          rotate_left
          · (intro w' hSw; (try dsimp only at hSw); go_simp; try (with_reducible rfl))
          try simp only [Act.put, List.setIfInBounds_toArray, List.set_cons_zero, List.set_cons_succ]
          refine AnyL.take 5 (v := ?_) rfl (by kernel_rfl) (by kernel_rfl) (by kernel_rfl) (by kernel_rfl) (fun _ _ _ h => h) (by assumption) (Or.inl ⟨by rfl, ?_⟩) ?_
          rotate_left
          · (intro w' hSw; (try dsimp only at hSw); go_simp; try (with_reducible rfl))
          try simp only [Act.put, List.setIfInBounds_toArray, List.set_cons_zero, List.set_cons_succ]
          refine AnyL.take 6 (v := ?_) rfl (by kernel_rfl) (by kernel_rfl) (by kernel_rfl) (by kernel_rfl) (fun _ _ _ h => h) (by assumption) (Or.inl ⟨by rfl, ?_⟩) ?_
          rotate_left
          · (intro w' hSw; (try dsimp only at hSw); go_simp; try (with_reducible rfl))
          try simp only [Act.put, List.setIfInBounds_toArray, List.set_cons_zero, List.set_cons_succ]
          refine AnyL.take 7 (v := ?_) rfl (by kernel_rfl) (by kernel_rfl) (by kernel_rfl) (by kernel_rfl) (fun _ _ _ h => h) (by assumption) (Or.inl ⟨by rfl, ?_⟩) ?_
          rotate_left
          · (intro w' hSw; (try dsimp only at hSw); go_simp; try (with_reducible rfl))
          try simp only [Act.put, List.setIfInBounds_toArray, List.set_cons_zero, List.set_cons_succ]
          refine AnyL.take 8 (v := ?_) rfl (by kernel_rfl) (by kernel_rfl) (by kernel_rfl) (by kernel_rfl) (fun _ _ _ h => h) (by assumption) (Or.inl ⟨by rfl, ?_⟩) ?_
          rotate_left
          · (intro w' hSw; (try dsimp only at hSw); go_simp; try (with_reducible rfl))
          try simp only [Act.put, List.setIfInBounds_toArray, List.set_cons_zero, List.set_cons_succ]
          refine AnyL.take 9 (v := ?_) rfl (by kernel_rfl) (by kernel_rfl) (by kernel_rfl) (by kernel_rfl) (fun _ _ _ h => h) (by assumption) (Or.inl ⟨by rfl, ?_⟩) ?_
          rotate_left
          · (intro w' hSw; (try dsimp only at hSw); go_simp; try (with_reducible rfl))
          try simp only [Act.put, List.setIfInBounds_toArray, List.set_cons_zero, List.set_cons_succ]
          refine AnyL.take 10 (v := ?_) rfl (by kernel_rfl) (by kernel_rfl) (by kernel_rfl) (by kernel_rfl) (fun _ _ _ h => h) (by assumption) (Or.inl ⟨by rfl, ?_⟩) ?_
          rotate_left
          · (intro w' hSw; (try dsimp only at hSw); go_simp; try (with_reducible rfl))
          try simp only [Act.put, List.setIfInBounds_toArray, List.set_cons_zero, List.set_cons_succ]
          refine AnyL.take 11 (v := ?_) rfl (by kernel_rfl) (by kernel_rfl) (by kernel_rfl) (by kernel_rfl) (fun _ _ _ h => h) (by assumption) (Or.inl ⟨by rfl, ?_⟩) ?_
          rotate_left
          · (intro w' hSw; (try dsimp only at hSw); go_simp; try (with_reducible rfl))
          try simp only [Act.put, List.setIfInBounds_toArray, List.set_cons_zero, List.set_cons_succ]
          refine AnyL.take 12 (v := ?_) rfl (by kernel_rfl) (by kernel_rfl) (by kernel_rfl) (by kernel_rfl) (fun _ _ _ h => h) (by assumption) (Or.inl ⟨by rfl, ?_⟩) ?_
          rotate_left
          · (intro w' hSw; (try dsimp only at hSw); go_simp; try (with_reducible rfl))
          try simp only [Act.put, List.setIfInBounds_toArray, List.set_cons_zero, List.set_cons_succ]
          refine AnyL.take 13 (v := ?_) rfl (by kernel_rfl) (by kernel_rfl) (by kernel_rfl) (by kernel_rfl) (fun _ _ _ h => h) (by assumption) (Or.inl ⟨by rfl, ?_⟩) ?_
          rotate_left
          · (intro w' hSw; (try dsimp only at hSw); go_simp; try (with_reducible rfl))
          try simp only [Act.put, List.setIfInBounds_toArray, List.set_cons_zero, List.set_cons_succ]
          refine AnyL.take 14 (v := ?_) rfl (by kernel_rfl) (by kernel_rfl) (by kernel_rfl) (by kernel_rfl) (fun _ _ _ h => h) (by assumption) (Or.inl ⟨by rfl, ?_⟩) ?_
          rotate_left
          · (intro w' hSw; (try dsimp only at hSw); go_simp; try (with_reducible rfl))
          try simp only [Act.put, List.setIfInBounds_toArray, List.set_cons_zero, List.set_cons_succ]
          refine AnyL.take 15 (v := ?_) rfl (by kernel_rfl) (by kernel_rfl) (by kernel_rfl) (by kernel_rfl) (fun _ _ _ h => h) (by assumption) (Or.inl ⟨by rfl, ?_⟩) ?_
          rotate_left
          · (intro w' hSw; (try dsimp only at hSw); go_simp; try (with_reducible rfl))
          try simp only [Act.put, List.setIfInBounds_toArray, List.set_cons_zero, List.set_cons_succ]
          refine AnyL.take 16 (v := ?_) rfl (by kernel_rfl) (by kernel_rfl) (by kernel_rfl) (by kernel_rfl) (fun _ _ _ h => h) (by assumption) (Or.inl ⟨by rfl, ?_⟩) ?_
          rotate_left
          · (intro w' hSw; (try dsimp only at hSw); go_simp; try (with_reducible rfl))
          try simp only [Act.put, List.setIfInBounds_toArray, List.set_cons_zero, List.set_cons_succ]
          refine AnyL.take 17 (v := ?_) rfl (by kernel_rfl) (by kernel_rfl) (by kernel_rfl) (by kernel_rfl) (fun _ _ _ h => h) (by assumption) (Or.inl ⟨by rfl, ?_⟩) ?_
          rotate_left
          · (intro w' hSw; (try dsimp only at hSw); go_simp; try (with_reducible rfl))
          try simp only [Act.put, List.setIfInBounds_toArray, List.set_cons_zero, List.set_cons_succ]
          refine AnyL.take 18 (v := ?_) rfl (by kernel_rfl) (by kernel_rfl) (by kernel_rfl) (by kernel_rfl) (fun _ _ _ h => h) (by assumption) (Or.inl ⟨by rfl, ?_⟩) ?_
          rotate_left
          · (intro w' hSw; (try dsimp only at hSw); go_simp; try (with_reducible rfl))
          try simp only [Act.put, List.setIfInBounds_toArray, List.set_cons_zero, List.set_cons_succ]
          refine AnyL.take 19 (v := ?_) rfl (by kernel_rfl) (by kernel_rfl) (by kernel_rfl) (by kernel_rfl) (fun _ _ _ h => h) (by assumption) (Or.inl ⟨by rfl, ?_⟩) ?_
          rotate_left
          · (intro w' hSw; (try dsimp only at hSw); go_simp; try (with_reducible rfl))
          try simp only [Act.put, List.setIfInBounds_toArray, List.set_cons_zero, List.set_cons_succ]
          refine AnyL.take 20 (v := ?_) rfl (by kernel_rfl) (by kernel_rfl) (by kernel_rfl) (by kernel_rfl) (fun _ _ _ h => h) (by assumption) (Or.inl ⟨by rfl, ?_⟩) ?_
          rotate_left
          · (intro w' hSw; (try dsimp only at hSw); go_simp; try (with_reducible rfl))
          try simp only [Act.put, List.setIfInBounds_toArray, List.set_cons_zero, List.set_cons_succ]
          refine AnyL.take 21 (v := ?_) rfl (by kernel_rfl) (by kernel_rfl) (by kernel_rfl) (by kernel_rfl) (fun _ _ _ h => h) (by assumption) (Or.inl ⟨by rfl, ?_⟩) ?_
          rotate_left
          · (intro w' hSw; (try dsimp only at hSw); go_simp; try (with_reducible rfl))
          try simp only [Act.put, List.setIfInBounds_toArray, List.set_cons_zero, List.set_cons_succ]
          refine AnyL.one 22 (by kernel_rfl) rfl (fun K hK => ?_)
          go_simp
          with_reducible refine (HG.out _ (Only.refl [] wr).drew).mono ?_
          rintro r w5 ⟨g', rfl, hg1, hg2, hg3⟩
          have O5 := Lib.hid ((Only.refl [] wr).drew.trans hg3)
          have d3 := O5.out.cell f3 (by simp)
          have d4 := O5.out.cell f4 (by simp)
          have d2 := O5.out.cell f2 (by simp)
          have dO := O5.out.cell fo (by simp)
          have G5 := Lib.hid hg1
          have Hown5 := Lib.hid (ownsRow_of_block (w' := w5) Hown.out (fun g hg => by obtain ⟨c, hc⟩ := ownsRow_block Hown.out hg; exact O5.out.block g (lt_of_block hc) (by simp)))
          have hs5 := O5.out.size
          have C5 := Lib.hid (O5.out.heap Hcell.out (by simp))
          clear hg1 hg2 hg3
          refine hK _ _ (fun _ => ⟨d3, d4, d2, dO⟩) (fun _ => ?_)
          clear hK K
          try simp only [Act.put, List.setIfInBounds_toArray, List.set_cons_zero, List.set_cons_succ]
          refine AnyL.one 23 (by kernel_rfl) rfl (fun K hK => ?_)
          refine step_append_lies _ rfl _ _ _ rfl wo.heap.size 3 i2 _ 1 8 Tryz.underlying58 Hi2.out Hz2.out Hs2.out Hb2.out rfl (by omega) (.slice av n cv) n _ rfl Hown5.out
                  ⟨g', 0, none⟩ 8 8 (L.map (Value.int .i64)) rfl hLl (row_news G5.out) (ints_oneCell' L) (by omega) (by unfold maxLen; omega) (by omega) (by omega) w5.heap.size rfl ?_
          intro gg cap2 w7 hown2 hgrow hat hlt2
          have Hown2 := Lib.hid hown2
          have Hgrow : Hid (w5.grownBy w7 (Value.slice av n cv).ownBlock) := Lib.hid hgrow
          have O7 := ((Only.refl (Value.slice av n cv).ownBlock.toList w5).grown Hgrow.out (fun i hi => .inl (by simp [hi])))
          have hOo := own_ge Hown.out
          have C7 := Lib.hid (O7.heap C5.out (fun hi => Hne.out (by simpa using hi)))
          have g3 := O7.cell d3 (fun hi => by have := hOo b (by simpa using hi); omega)
          have g4 := O7.cell d4 (fun hi => by have := hOo b (by simpa using hi); omega)
          have g2 := O7.cell d2 (fun hi => by have := hOo pb (by simpa using hi); omega)
          have gO := O7.cell dO (fun hi => by have := hOo (w.heap.size + 1) (by simpa using hi); omega)
          have zO7 := free_of C7.out 2
          clear hown2 hgrow hat O7 hOo d3 d4 d2 dO
          refine hK _ _ (fun _ => ⟨g3, g4, g2, gO⟩) (fun _ => ?_)
          clear hK K
          try simp only [Act.put, List.setIfInBounds_toArray, List.set_cons_zero, List.set_cons_succ]
          refine AnyL.one 24 (by kernel_rfl) rfl (fun K hK => ?_)
          go_simp
          refine hK _ _ (fun _ => ⟨g3, g4, g2, gO⟩) (fun _ => ?_)
          clear hK K
          try simp only [Act.put, List.setIfInBounds_toArray, List.set_cons_zero, List.set_cons_succ]
          refine AnyL.one 25 (by kernel_rfl) rfl (fun K hK => ?_)
          go_simp
          refine hK _ _ (fun h => absurd rfl h) (fun _ => ?_)
          clear hK K
          try simp only [Act.put, List.setIfInBounds_toArray, List.set_cons_zero, List.set_cons_succ]
          refine AnyL.done (by kernel_rfl) ?_ _
          all_goals
            have hp := push_rows (i := 2) (.inl (List.mem_singleton.2 rfl)) (show w.heap.size + 1 < wo.heap.size by omega) (Nat.le_refl _) Hcell.out Hown.out Ho.out O5.out Hown2.out Hgrow.out
            rw [hn2] at hp
            have P := Lib.hid hp
            clear hp
            go_wp2
            go_roundw
            case rel => exact ⟨row + 1, by omega, by go_num, _, cap2, P.out.1, by rw [keepTo, ← HL.out, List.map_append]; exact P.out.2.1, P.out.2.2⟩
            case measure => simp [intOf] <;> omega
        · obtain rfl : row = 8 := by omega
          have OW := Lib.hid (HO1.out.trans' ho (fun i hi => .inr (by simp only [List.mem_singleton] at hi; omega)))
          have K2 := Lib.hid (own_mono hown (show w.heap.size ≤ wo.heap.size by omega))
          have HC2 := Lib.hid hcell
          have HR2 := Lib.hid (ho.heap HR1.out (by simp; omega))
          have K0 := Lib.hid (own_stay HS0.out ho HC1.out (by decide))
          have K1 := Lib.hid (own_stay HS1.out ho HC1.out (by decide))
          clear hcell hown ho
          go_wp2
          go_roundw
          case rel => exact .inr (.inr (.inr (⟨by go_num, a0, c0, a1, c1, av, cv, HC2.out, K0.out, K1.out, K2.out, HR2.out, OW.out⟩)))
          case measure => simp [intOf] <;> omega
    · have HC := Lib.hid hcell
      have HR := Lib.hid hres
      have H0 := Lib.hid ho0
      have H1 := Lib.hid ho1
      have H2 := Lib.hid ho2
      have HO := Lib.hid ho
      have hone : (#[.slice a0 (16 * 16) c0, .slice a1 (8 * 8) c1, .slice a2 (8 * 8) c2] : Array Value).all (·.oneCell') = true := by simp [Value.oneCell']
      have hi3 : (Tryz.prog.info? 129).map (·.size) = some 3 := by kernel_rfl
      have hi4 : (Tryz.prog.info? 129).map (·.size) = some (#[.slice a0 (16 * 16) c0, .slice a1 (8 * 8) c1, .slice a2 (8 * 8) c2] : Array Value).size := hi3
      have Hi4 := Lib.hid hi4
      have Hone := Lib.hid hone
      clear hcell hres ho0 ho1 ho2 ho hone hi3 hi4
      go_wp2_with (first
        | (with_reducible refine wpList_load_row rfl _ _ rfl _ rfl _ _ _ _ HC.out Tryz.underlying129 rfl Hi4.out ?_)
        | (refine wpList_store_agg rfl _ _ _ rfl rb #[.slice a0 (16 * 16) c0, .slice a1 (8 * 8) c1, .slice a2 (8 * 8) c2] (by rw [hrb]; rfl) rfl HR.out Hi4.out rfl Hone.out ?_))
      intro w8 hw8 ho8
      have W8 := Lib.hid hw8
      have O8 := Lib.hid (HO.out.trans' ho8 (fun i hi => .inr (by simp only [List.mem_singleton] at hi; omega)))
      have K0 := Lib.hid (own_stay H0.out ho8 (show wr.heap[w.heap.size]? = _ by rw [← hrb]; exact HR.out) (by decide))
      have K1 := Lib.hid (own_stay H1.out ho8 (show wr.heap[w.heap.size]? = _ by rw [← hrb]; exact HR.out) (by decide))
      have K2 := Lib.hid (own_stay H2.out ho8 (show wr.heap[w.heap.size]? = _ by rw [← hrb]; exact HR.out) (by decide))
      clear hw8 ho8
      go_wp2
      exact ret_cell rfl w.heap.size rfl W8.out Tryz.underlying129 rfl Hi4.out rfl ⟨_, _, _, rfl, K0.out, K1.out, K2.out, O8.out⟩
end Go.Proofs.YtcmehedjdfopdaaGreat
