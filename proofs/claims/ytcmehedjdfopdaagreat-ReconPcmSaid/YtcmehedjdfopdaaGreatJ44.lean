/-
  The walk over package recon's Mb of samples. The walks over package recon's draw and Mb of a row's second macroblock, by horizontal modes: in the first one's slice, or in another.
-/
import Derived.Test.YtcmehedjdfopdaaGreatJ42
import Derived.Test.YtcmehedjdfopdaaGreatJ43
import Derived.Test.YtcmehedjdfopdaaGreatJ28
import Derived.Test.YtcmehedjdfopdaaGreatJ39
import Derived.Test.YtcmehedjdfopdaaGreatJ13
namespace Go.Proofs.YtcmehedjdfopdaaGreat
open Go.RowKit

theorem toldP (f c : Nat) (hq : Int) (ao : Option Addr) (cap : Nat) (wx : World) :
    Calls Tryz.prog 27 #[.agg (mbL 2 0 0 0 0 z16 z28 (.slice ao 384 cap)).toArray, .agg (headI f c hq).toArray] wx fun e w' => e = .returned (.bool true) ∧ Only [] wx w' := by
  have hM := mbL_is 2 0 0 0 0 z16 z28 (.slice ao 384 cap) z16_len z28_len z16_one z28_one rfl
  exact sy_toldI _ _ 2 0 0 0 0 _ _ (.inr (.inr rfl)) wx hM rfl fun wy mb h => sy_bodyP mb ao cap wy (hM.at h) (hM.modes h)
theorem refsP (f c : Nat) (hq : Int) (ao : Option Addr) (cap : Nat) (wx : World) :
    Calls Tryz.prog 28 #[.agg (mbL 2 0 0 0 0 z16 z28 (.slice ao 384 cap)).toArray, .agg (headI f c hq).toArray] wx fun e w' => e = .returned (.bool true) ∧ Only [] wx w' :=
  sy_refsI _ _ 2 (.inr (.inr rfl)) wx rfl

/-- What samples make of the planes. -/
def lumaP (wide x y : Nat) (f : Nat → Int) (Y : List Int) : List Int := putTo (16 * wide) (x * 16) (y * 16) 16 (fillTo (fun i => f (0 + i)) 256 256) Y 256
def chromaP (wide x y o : Nat) (f : Nat → Int) (U : List Int) : List Int := putTo (8 * wide) (x * 8) (y * 8) 8 (fillTo (fun i => f (o + i)) 64 64) U 64
theorem lumaP_length (wide x y : Nat) (f : Nat → Int) (Y : List Int) : (lumaP wide x y f Y).length = Y.length := putTo_length _ _ _ _ _ _ _
theorem chromaP_length (wide x y o : Nat) (f : Nat → Int) (U : List Int) : (chromaP wide x y o f U).length = U.length := putTo_length _ _ _ _ _ _ _

theorem mb_pcm {w : World} {B cb yb ub vb cy cu cv wide high n c sb pb po pcap : Nat} {Y U V : List Int} {ao : Option Addr} {aft hq qp pq : Int} {de : Bool} {fi co : Nat} {D : List Value} (hc : CanAt w cb yb ub vb cy cu cv wide high Y U V (.slice ao n c) (.pointer (some ⟨sb, 0, none⟩)) aft) (ha : (n : Int) < aft) (hn : n ≤ 3600) (hw0 : 1 ≤ wide) (hwd : wide ≤ 60) (hy60 : n / wide ≤ 60)
    (hown : w.ownsRow B 94 23 (.slice ao n c) n D) (hs : w.heap[sb]? = some (.cells (headI fi co hq ++ restL de pq ++ ([.int .i64 qp] : List Value)).toArray 89 (0, 0))) (hb1 : B ≤ cb)
    (hly : Y.length ≤ 1000000) (hlu : U.length ≤ 1000000) (hlv : V.length ≤ 1000000) (hiny : ∀ k, k < 256 → spot (16 * wide) (n % wide * 16) (n / wide * 16) 16 k < Y.length) (hinu : ∀ k, k < 64 → spot (8 * wide) (n % wide * 8) (n / wide * 8) 8 k < U.length) (hinv : ∀ k, k < 64 → spot (8 * wide) (n % wide * 8) (n / wide * 8) 8 k < V.length)
    (f : Nat → Int) (hP : ∀ i, i < 384 → w.cell? ⟨pb, po + i, none⟩ = some (.int .u8 (f i))) (hf : ∀ i, i < 384 → 0 ≤ f i ∧ f i ≤ 255) (pny : pb ≠ yb) (pnu : pb ≠ ub) (pnv : pb ≠ vb) :
    Calls Tryz.prog 13 #[.pointer (some ⟨cb, 0, none⟩), .agg (mbL 2 0 0 0 0 z16 z28 (.slice (some ⟨pb, po, none⟩) 384 pcap)).toArray] w (MbOut (fun _ _ => True) (fun Y' => Y' = lumaP wide (n % wide) (n / wide) f Y) B cb yb ub vb cy cu cv wide high n sb (.slice ao n c) 2 0 qp (chromaP wide (n % wide) (n / wide) 256 f U) (chromaP wide (n % wide) (n / wide) 320 f V) aft D (headI fi co hq) (restL de pq) w) := by
  have hM := mbL_is 2 0 0 0 0 z16 z28 (.slice (some ⟨pb, po, none⟩) 384 pcap) z16_len z28_len z16_one z28_one rfl
  have hl : (mbL 2 0 0 0 0 z16 z28 (.slice (some ⟨pb, po, none⟩) 384 pcap)).length = 483 := mbL_length z16_len z28_len
  have hmod : n % wide < wide := Nat.mod_lt _ (by omega)
  have hyl := lt_of_block hc.ys.choose_spec
  have hul := lt_of_block hc.us.choose_spec
  have hvl := lt_of_block hc.vs.choose_spec
  refine mb_drawnP (mqp := 0) (Y := Y) (U := U) (V := V) hc ha hn hw0 hwd hown _ _ rfl rfl hs hb1 (mbL 2 0 0 0 0 z16 z28 (.slice (some ⟨pb, po, none⟩) 384 pcap)) hl rfl (mbL_ps z16_len z28_len 0) (mbL_ps z16_len z28_len 1) (fun i hi => by have := hM.co i hi; rwa [List.getElem?_toArray] at this)
    (toldP fi co hq _ pcap) (refsP fi co hq _ pcap) (fun _ _ => True) stableT (fun Y' => Y' = lumaP wide (n % wide) (n / wide) f Y) (fun Y' h => by rw [h, lumaP_length]) (chromaP_length _ _ _ _ _ _) (chromaP_length _ _ _ _ _ _) ?_
  intro wx b mb db hb hm hd h1 h2 h3 ho
  have hcx := hc.only ho (by simp) (by simp) (by simp) (by simp)
  have hA := hM.at hm
  refine (draw_pcm hb hA.k0 (brush_pcm hb hcx hwd (by omega) hy60 hly hlu hlv hiny hinu hinv hA.k482 f (fun i hi => ho.cell (hP i hi) (by simp)) hf pny pnu pnv (by omega) (by omega) (by omega))).mono ?_
  rintro e w' ⟨rfl, sy, su, sv, o⟩
  exact ⟨rfl, _, _, _, _, o.heap hd (by simp; omega), by simp [Value.oneCell'], ⟨_, rfl, sy⟩, su, sv, trivial, o.mono (by simp)⟩
end Go.Proofs.YtcmehedjdfopdaaGreat

namespace Go.Proofs.YtcmehedjdfopdaaGreat
open Go Go.RowKit

/-! Plain: two macroblocks side by side. -/
def flA : List Bool := putFl (16 * 2) (0 * 16) (0 * 16) 16 (List.replicate 512 false) 256
def flB : List Bool := putFl (8 * 2) (0 * 8) (0 * 8) 8 (List.replicate 128 false) 64
theorem flA_full : putFl (16 * 2) (1 * 16) 0 16 flA 256 = List.replicate 512 true := by kernel_rfl
theorem flB_full : putFl (8 * 2) (1 * 8) 0 8 flB 64 = List.replicate 128 true := by kernel_rfl
theorem flA_len : flA.length = 512 := by kernel_rfl
theorem flB_len : flB.length = 128 := by kernel_rfl
theorem flA_edge : ((List.range 16).all fun k => flA.getD ((0 + k * 1) * (16 * 2) + (1 * 16 - 1) + k * 0) false) = true := by kernel_rfl
theorem flB_edge : ((List.range 8).all fun k => flB.getD ((0 + k * 1) * (8 * 2) + (1 * 8 - 1) + k * 0) false) = true := by kernel_rfl
def halfY (u : Int) : List Int := duo 128 u flA
def halfU (u : Int) : List Int := duo 128 u flB
theorem halfY_len (u : Int) : (halfY u).length = 512 := by rw [halfY, duo_length, flA_len]
theorem halfU_len (u : Int) : (halfU u).length = 128 := by rw [halfU, duo_length, flB_len]
theorem fill_same (u : Int) (n : Nat) (f : Nat → Int) (hf : ∀ i, i < n → f i = u) : fillTo f n n = List.replicate n u := by
  rw [fillTo_full]
  apply List.ext_getElem?
  intro i
  by_cases h : i < n
  · simp [h, hf i h]
  · simp [h]
theorem lumaP_half (u : Int) (f : Nat → Int) (hf : ∀ i, i < 384 → f i = u) : lumaP 2 0 0 f (List.replicate 512 128) = halfY u := by
  unfold lumaP
  rw [fill_same u 256 (fun i => f (0 + i)) (fun i hi => hf _ (by omega)), ← duo_false 128 u, putTo_duo 128 u _ _ _ _ 256 _ 256 (Nat.le_refl _)]
  rfl
theorem chromaP_half (u : Int) (f : Nat → Int) (o : Nat) (ho : o + 64 ≤ 384) (hf : ∀ i, i < 384 → f i = u) : chromaP 2 0 0 o f (List.replicate 128 128) = halfU u := by
  unfold chromaP
  rw [fill_same u 64 (fun i => f (o + i)) (fun i hi => hf _ (by omega)), ← duo_false 128 u, putTo_duo 128 u _ _ _ _ 64 _ 64 (Nat.le_refl _)]
  rfl
theorem putY_full (u : Int) : putTo (16 * 2) (1 * 16) 0 16 (List.replicate 256 u) (halfY u) 256 = List.replicate 512 u := by
  rw [halfY, putTo_duo 128 u _ _ _ _ 256 _ 256 (Nat.le_refl _), flA_full, duo_true]
theorem putU_full (u : Int) : putTo (8 * 2) (1 * 8) 0 8 (List.replicate 64 u) (halfU u) 64 = List.replicate 128 u := by
  rw [halfU, putTo_duo 128 u _ _ _ _ 64 _ 64 (Nat.le_refl _), flB_full, duo_true]
theorem edge_row (u : Int) (fl : List Bool) (pw X n : Nat) (hl : ∀ k, k < n → (0 + k * 1) * pw + X + k * 0 < fl.length) (h : ((List.range n).all fun k => fl.getD ((0 + k * 1) * pw + X + k * 0) false) = true) : getL (duo 128 u fl) pw X 0 0 1 n = List.replicate n u := by
  rw [List.all_eq_true] at h
  unfold getL
  apply List.ext_getElem?
  intro i
  by_cases hi : i < n
  · have h1 := h i (List.mem_range.2 hi)
    rw [List.getElem?_map, List.getElem?_range hi, List.getElem?_replicate, if_pos hi]
    simp only [Option.map_some]
    rw [duo_at _ _ _ _ (hl i hi), h1, if_pos rfl]
  · rw [List.getElem?_map, List.getElem?_replicate, if_neg hi, List.getElem?_eq_none (by simp; omega)]
    rfl

section
variable {w : World} {b cb mb db sb : Nat} {ao : Option Addr} {n cap wide x : Nat}
set_option maxRecDepth 100000 in
theorem there_yes2 {y first : Nat} (hb : BrushAt w b cb mb db x y) (s1 : w.cell? ⟨cb, 0, none⟩ = some (.int .i64 wide)) (s2 : w.cell? ⟨cb, 7, none⟩ = some (.slice ao n cap)) (s3 : w.cell? ⟨cb, 8, none⟩ = some (.pointer (some ⟨sb, 0, none⟩))) (s4 : w.cell? ⟨sb, 0, none⟩ = some (.int .i64 first)) (s5 : w.cell? ⟨sb, 26, none⟩ = some (.bool false)) (x1 : Nat) (hw : wide ≤ 1000) (hx : x1 < wide) (h0 : first ≤ x1) (h1 : x1 < n) :
    Calls Tryz.prog 103 #[.pointer (some ⟨b, 0, none⟩), .int .i64 x1, .int .i64 0] w fun e w' => e = .returned (.bool true) ∧ w = w' := by
  have s0 : w.cell? ⟨b, 0, none⟩ = some (.pointer (some ⟨cb, 0, none⟩)) := by rw [cells_of hb]; rfl
  clear hb
  go_enter Tryz.func103, Tryz.ntmps103
  go_wp2
  go_ret
  exact ⟨rfl, rfl⟩
set_option maxRecDepth 100000 in
theorem there_no2 {y first : Nat} (hb : BrushAt w b cb mb db x y) (s1 : w.cell? ⟨cb, 0, none⟩ = some (.int .i64 wide)) (_ : w.cell? ⟨cb, 7, none⟩ = some (.slice ao n cap)) (s3 : w.cell? ⟨cb, 8, none⟩ = some (.pointer (some ⟨sb, 0, none⟩))) (s4 : w.cell? ⟨sb, 0, none⟩ = some (.int .i64 first)) (_ : w.cell? ⟨sb, 26, none⟩ = some (.bool false)) (x1 : Nat) (hw : wide ≤ 1000) (hx : x1 < wide) (h0 : x1 < first) :
    Calls Tryz.prog 103 #[.pointer (some ⟨b, 0, none⟩), .int .i64 x1, .int .i64 0] w fun e w' => e = .returned (.bool false) ∧ w = w' := by
  have s0 : w.cell? ⟨b, 0, none⟩ = some (.pointer (some ⟨cb, 0, none⟩)) := by rw [cells_of hb]; rfl
  clear hb
  go_enter Tryz.func103, Tryz.ntmps103
  go_wp2
  go_ret
  exact ⟨rfl, rfl⟩
/-- What there reads of a canvas and its slice. -/
structure See (w : World) (cb sb wide n : Nat) (first : Int) : Prop where
  s1 : w.cell? ⟨cb, 0, none⟩ = some (.int .i64 wide)
  s2 : ∃ ao cap, w.cell? ⟨cb, 7, none⟩ = some (.slice ao n cap)
  s3 : w.cell? ⟨cb, 8, none⟩ = some (.pointer (some ⟨sb, 0, none⟩))
  s4 : w.cell? ⟨sb, 0, none⟩ = some (.int .i64 first)
  s5 : w.cell? ⟨sb, 26, none⟩ = some (.bool false)
theorem See.only {w w' : World} {cb sb wide n : Nat} {first : Int} {S : List Nat} (h : See w cb sb wide n first) (ho : Only S w w') (h1 : cb ∉ S) (h2 : sb ∉ S) : See w' cb sb wide n first :=
  ⟨ho.cell h.s1 h1, let ⟨a, c, h⟩ := h.s2; ⟨a, c, ho.cell h h1⟩, ho.cell h.s3 h1, ho.cell h.s4 h2, ho.cell h.s5 h2⟩
theorem See.of {w : World} {cb yb ub vb cy cu cv wide high n c sb : Nat} {Y U V : List Int} {ao : Option Addr} {aft : Int} {fi co : Int} {hq qp pq : Int} {de : Bool} (hc : CanAt w cb yb ub vb cy cu cv wide high Y U V (.slice ao n c) (.pointer (some ⟨sb, 0, none⟩)) aft)
    (hs : w.heap[sb]? = some (.cells (headI fi co hq ++ restL de pq ++ ([.int .i64 qp] : List Value)).toArray 89 (0, 0))) : See w cb sb wide n fi :=
  ⟨by rw [cells_of hc.st]; rfl, ⟨ao, c, by rw [cells_of hc.st]; rfl⟩, by rw [cells_of hc.st]; rfl, by rw [cells_of hs]; rfl, by rw [cells_of hs]; rfl⟩
/-- The left edge, even. -/
def RL (u : Int) (side : Nat) (w : World) (ao : Option Addr) (n c : Nat) : Prop := ∃ g, ao = some ⟨g, 0, none⟩ ∧ n = side ∧ c = side ∧ w.heap[g]? = some (.cells (ints (List.replicate side u)) 3 (0, 0))
theorem edges_second {p g cap pw side : Nat} {u : Int} {pl : List Int} (hb : BrushAt w b cb mb db 1 0) (hv : See w cb sb 2 1 0) (hp : PlaneAt w p g cap pw side pl) (hs : side ≤ 16) (hs0 : 1 ≤ side) (hl : pl.length ≤ 1000000) (hin : ∀ k, k < side → k * pw + 1 * side ≤ pl.length) (he : getL pl pw (1 * side - 1) 0 0 1 side = List.replicate side u) : EdgesGive w b p (RL u side) := by
  have h1 : ThereAt w b (((1 : Nat) : Int) - 1) 0 true := fun wx hx => by
    have hv := hv.only hx (by simp) (by simp)
    obtain ⟨a, c, h2⟩ := hv.s2
    exact there_yes2 (first := 0) (hx.heap hb (by simp)) hv.s1 h2 hv.s3 hv.s4 hv.s5 0 (by omega) (by omega) (by omega) (by omega)
  have h2 : ThereAt w b ((1 : Nat) : Int) (-1) false := fun wx hx => there_neg2 (hx.heap hb (by simp)) (hv.only hx (by simp) (by simp)).s1 _ _ (by omega) (.inr ⟨by omega, by omega, rfl⟩)
  have h3 : ThereAt w b (((1 : Nat) : Int) - 1) (-1) false := fun wx hx => there_neg2 (hx.heap hb (by simp)) (hv.only hx (by simp) (by simp)).s1 _ _ (by omega) (.inr ⟨by omega, by omega, rfl⟩)
  refine (edges_left hb hp (by omega) hs (by omega) hs0 hl hin h1 h2 h3).mono ?_
  rintro e w' ⟨g', rfl, hg, ho⟩
  rw [he] at hg
  exact ⟨_, _, _, rfl, ⟨g', rfl, rfl, rfl, hg⟩, ho⟩
theorem edges_apart {p g cap pw side : Nat} {pl : List Int} (hb : BrushAt w b cb mb db 1 0) (hv : See w cb sb 2 1 1) (hp : PlaneAt w p g cap pw side pl) (hs : side ≤ 16) : EdgesGive w b p R0 := by
  have h1 : ThereAt w b (((1 : Nat) : Int) - 1) 0 false := fun wx hx => by
    have hv := hv.only hx (by simp) (by simp)
    obtain ⟨a, c, h2⟩ := hv.s2
    exact there_no2 (first := 1) (hx.heap hb (by simp)) hv.s1 h2 hv.s3 hv.s4 hv.s5 0 (by omega) (by omega) (by omega)
  have h2 : ThereAt w b ((1 : Nat) : Int) (-1) false := fun wx hx => there_neg2 (hx.heap hb (by simp)) (hv.only hx (by simp) (by simp)).s1 _ _ (by omega) (.inr ⟨by omega, by omega, rfl⟩)
  have h3 : ThereAt w b (((1 : Nat) : Int) - 1) (-1) false := fun wx hx => there_neg2 (hx.heap hb (by simp)) (hv.only hx (by simp) (by simp)).s1 _ _ (by omega) (.inr ⟨by omega, by omega, rfl⟩)
  exact (edges_none hb hp (by omega) hs h1 h2 h3).mono fun e w' ⟨he, ho⟩ => ⟨none, 0, 0, he, ⟨rfl, rfl, rfl⟩, ho⟩
end
theorem flat_rows (u : Int) (n : Nat) : flatL n (fun _ y => (List.replicate n u).getD y 0) = List.replicate (n * n) u := by
  unfold flatL
  apply List.ext_getElem?
  intro i
  by_cases hi : i < n * n
  · have hd : i / n < n := Nat.div_lt_of_lt_mul hi
    rw [List.getElem?_map, List.getElem?_range hi, List.getElem?_replicate, if_pos hi]
    simp only [Option.map_some]
    rw [rep_at _ _ _ hd]
  · rw [List.getElem?_map, List.getElem?_replicate, if_neg hi, List.getElem?_eq_none (by simp; omega)]
    rfl
theorem whole_second (u : Int) (u0 : 0 ≤ u) (u1 : u ≤ 255) (wx : World) (ao : Option Addr) (n c : Nat) (h : RL u 16 wx ao n c) : Calls Tryz.prog 85 #[.int .i64 1, .slice ao n c, .slice none 0 0, .int .i64 (-1)] wx fun e w' => ∃ v, e = .returned (.tuple #[v, .int .i64 0]) ∧ w'.ownsRow wx.heap.size 3 1 v 256 ((List.replicate 256 u).map (Value.int .i64)) ∧ Only [] wx w' := by
  obtain ⟨g, rfl, rfl, rfl, hg⟩ := h
  have := whole_h (.slice (some ⟨g, 0, none⟩) 16 16) (.slice none 0 0) (List.replicate 16 u) (-1) wx (IntSlice.of_ints hg) (IntSlice.nil wx) (by simp) (fun i hi => by rw [List.length_replicate] at hi; rw [rep_at _ _ _ hi]; omega) (by omega) (by omega)
  rw [flat_rows u 16] at this
  exact this
theorem chroma_second (u : Int) (u0 : 0 ≤ u) (u1 : u ≤ 255) (wx : World) (ao : Option Addr) (n c : Nat) (h : RL u 8 wx ao n c) : Calls Tryz.prog 83 #[.int .i64 1, .slice ao n c, .slice none 0 0, .int .i64 (-1)] wx fun e w' => ∃ v, e = .returned (.tuple #[v, .int .i64 0]) ∧ w'.ownsRow wx.heap.size 3 1 v 64 ((List.replicate 64 u).map (Value.int .i64)) ∧ Only [] wx w' := by
  obtain ⟨g, rfl, rfl, rfl, hg⟩ := h
  have := chroma_h (.slice (some ⟨g, 0, none⟩) 8 8) (.slice none 0 0) (List.replicate 8 u) (-1) wx (IntSlice.of_ints hg) (IntSlice.nil wx) (by simp) (fun i hi => by rw [List.length_replicate] at hi; rw [rep_at _ _ _ hi]; omega) (by omega) (by omega)
  rw [flat_rows u 8] at this
  exact this
end Go.Proofs.YtcmehedjdfopdaaGreat
