/-
  The walk over NewWriter without an engine. The walk over Writer.Mb, for a macroblock of a slice of type I that may be. The walks over Writer.End and Writer.Bytes. The walk over NewWriter with an engine. The walks over Writer.End and Writer.Bytes with an engine. The walk over NewReader without an engine.
-/
import Derived.Test.YtcppbdlmcbjmeaaGreatDoorJ35
import Derived.Test.YtcppbdlmcbjmeaaGreatDoorJ38
import Derived.Test.YtcppbdlmcbjmeaaGreatDoorJ28
import Derived.Test.YtcppbdlmcbjmeaaGreatDoorJ26
namespace Go.Proofs.YtcppbdlmcbjmeaaGreatDoor
open Go.RowKit

set_option maxRecDepth 100000 in
set_option maxHeartbeats 3200000 in
theorem sx_newWriter0 {hd : Nat → Value} {f cnt t a0 a1 qp wide : Int} {bb : Nat} {Pc : Array Value} {w : World} (hp : Pc[0]? = some (.bool false)) (hh : HeadIs hd f cnt t a0 a1 qp) (hw : 1 ≤ wide ∧ wide ≤ 8) (hf : 0 ≤ f) (hc : 1 ≤ cnt) (ht : 0 ≤ t ∧ t ≤ 2) (hq : 0 ≤ qp ∧ qp ≤ 51) (ha0 : 0 ≤ a0 ∧ a0 ≤ 8) (ha1 : 0 ≤ a1 ∧ a1 ≤ 8) :
    Calls Tryz.prog 12 #[.pointer (some ⟨bb, 0, none⟩), .agg (hdL hd).toArray, .agg Pc, .int .i64 wide] w fun e w' => ∃ sb wb, e = .returned (.tuple #[.pointer (some ⟨wb, 0, none⟩), .int .i64 0]) ∧ BlkIn w' sb 75 106 (stS hd wide qp) ∧ WcIs w' wb sb bb (.pointer none) false ∧ w.heap.size ≤ sb ∧ w.heap.size ≤ wb ∧ Only [] w w' := by
  have hbg := fun (wx : World) => sx_begin (w := wx) hh hw hf hc ht hq ha0 ha1
  obtain ⟨HL, hHL⟩ : ∃ HL, HL = hdL hd := ⟨_, rfl⟩
  have O1 : Hid (Only [] w ((w.alloc (.cells HL.toArray 26)).alloc (.cells Pc 28))) := Lib.hid (((Only.refl [] w).alloc _).alloc _)
  have hr : ((w.alloc (.cells HL.toArray 26)).alloc (.cells Pc 28)).rangeAt w.heap.size 0 HL := fun j v hj => by
    rw [Nat.zero_add, cells_of (heap_alloc_lt _ (heap_alloc_at w _))]
    simpa using hj
  have cp : ((w.alloc (.cells HL.toArray 26)).alloc (.cells Pc 28)).cell? ⟨w.heap.size + 1, 0, none⟩ = some (.bool false) := by
    have h := heap_alloc_at (w.alloc (.cells HL.toArray 26)) (.cells Pc 28)
    rw [show (w.alloc (.cells HL.toArray 26)).heap.size = w.heap.size + 1 by simp] at h
    rw [cells_of h, hp]
  have hlen : (Tryz.prog.info? 26).map (·.size) = some HL.length := by rw [hHL]; show _ = some 21; kernel_rfl
  rw [← hHL] at hbg ⊢
  have HBG := Lib.hid hbg
  have HR := Lib.hid hr
  have HLen := Lib.hid hlen
  clear hbg hr hlen hHL hh hp
  go_enter Tryz.func12, Tryz.ntmps12
  go_wp2_with (with_reducible refine wpList_load_mid rfl 26 _ rfl w.heap.size 0 rfl HL _ HR.out Tryz.underlying26 rfl HLen.out ?_)
  refine (HBG.out _).mono ?_
  rintro e w1 ⟨sb, rfl, h1, h2, h3⟩
  have hsz : w.heap.size + 1 < ((w.alloc (.cells HL.toArray 26)).alloc (.cells Pc 28)).heap.size := by simp
  have cp1 := h3.cell cp (by simp)
  have O2 := Lib.hid (O1.out.trans h3)
  have H1 := Lib.hid h1
  have hsb : w.heap.size ≤ sb := by omega
  have hs1 := h3.size
  clear h1 h2 h3 cp HR
  generalize (w.alloc (.cells HL.toArray 26)).alloc (.cells Pc 28) = wa at *
  have cp2 := ((Only.refl [] w1).alloc (.cells #[.pointer (some ⟨sb, 0, none⟩), .pointer (some ⟨bb, 0, none⟩), .pointer none, .bool false] 89)).cell cp1 (by simp)
  go_wp2
  go_ret2
  exact ⟨sb, w1.heap.size, rfl, H1.out.only ((Only.refl [] w1).alloc _) (by simp), heap_alloc_at w1 _, hsb, by omega, O2.out.alloc _⟩
end Go.Proofs.YtcppbdlmcbjmeaaGreatDoor

namespace Go.Proofs.YtcppbdlmcbjmeaaGreatDoor
open Go.RowKit

theorem fnA_toArray (n : Nat) (X : Nat → Value) : (fnA n X).toList.toArray = fnA n X := by simp
theorem fnA_list_length (n : Nat) (X : Nat → Value) : (fnA n X).toList.length = n := by simp [fnA]
theorem BlkIn.range {w : World} {b n : Nat} {t : TypeId} {X : Nat → Value} (h : BlkIn w b n t X) : w.rangeAt b 0 (fnA n X).toList := fun j v hj => by
  rw [Nat.zero_add, cells_of h]
  simpa using hj
/-- What a writer or a reader of macroblocks keeps between them. -/
structure Sta (c : Cod) (w : World) (sb : Nat) (S : Nat → Value) (n : Nat) (D : List Value) (F : List Nat) (r : List Ask) : Prop where
  s : BlkIn w sb 75 106 S
  a : w.ownsRow 0 103 46 (S 23) n D
  c : c.C F r w
  ns : sb ∉ F
  na : ∀ g, (S 23).ownBlock = some g → g ∉ F
theorem Sta.only {c : Cod} {w w' : World} {sb n : Nat} {S : Nat → Value} {D : List Value} {F Y : List Nat} {r : List Ask} (h : Sta c w sb S n D F r) (hc : c.Ok) (ho : Only Y w w') (h1 : sb ∉ Y) (h2 : ∀ g, (S 23).ownBlock = some g → g ∉ Y) (h3 : ∀ i ∈ F, i ∉ Y) : Sta c w' sb S n D F r :=
  ⟨h.s.only ho h1, ownsRow_of_block h.a fun g hg => by obtain ⟨cur, hc⟩ := ownsRow_block h.a hg; exact ho.block g (lt_of_block hc) (h2 g hg), hc.keep F r w w' Y h.c ho h3, h.ns, h.na⟩
set_option maxRecDepth 100000 in
set_option maxHeartbeats 6400000 in
theorem wr_mb {c : Cod} {w : World} {wb sb n f wide len cap : Nat} {S X : Nat → Value} {hd : Nat → Value} {ds : List DoneP} {F : List Nat} {r : List Ask} {y ps : Nat → Int} {p cnt a0 a1 qp : Int} {ao : Option Addr} (hc : c.Ok) (hT : c.T = 31) (hpv : c.pv = .pointer (some ⟨wb, 0, none⟩)) (hwr : c.wr = true)
    (hcell : ∀ F r w, c.C F r w → w.cell? ⟨wb, 0, none⟩ = some (.pointer (some ⟨sb, 0, none⟩)) ∧ wb ∈ F) (h : Sta c w sb S n (donesA ds) F (mbAsk f wide ds p y ps ++ r))
    (hh : HeadIs hd f cnt 2 a0 a1 qp) (hS : ∀ j, j < 21 → S j = hd j) (h21 : S 21 = .int .i64 wide) (h22 : S 22 = .int .i64 p) (bf : f ≤ 1000000) (bw : 1 ≤ wide ∧ wide ≤ 1000000) (bn : n ≤ 1000000) (hds : ds.length = n) (hnc : (n : Int) < cnt)
    (hb : Behind ds p) (hy : IntraOk y ps) (hX : ∀ j, j < 482 → X j = .int .i64 (y j)) (h482 : X 482 = .slice ao len cap) (hlen : len = if y 0 = 2 then 384 else 0) (hnil : y 0 ≠ 2 → ao = none ∧ cap = 0)
    (hpcm : y 0 = 2 → ∃ g, ao = some ⟨g, 0, none⟩ ∧ ∀ i, i < 384 → w.cell? ⟨g, i, none⟩ = some (.int .u8 (ps i))) :
    Calls Tryz.prog 15 #[.pointer (some ⟨wb, 0, none⟩), .agg (fnA 483 X)] w fun e w' => e = .returned (.int .i64 0) ∧ ∃ (v' : Value) (F' : List Nat), Sta c w' sb (upd (upd S 22 (.int .i64 (nextP p y))) 23 v') (n + 1) (donesA (ds ++ [dOf y])) F' r ∧ Only (sb :: (F ++ (S 23).ownBlock.toList)) w w' ∧ (∀ i ∈ F', i ∈ F ∨ w.heap.size ≤ i) ∧ (∀ g, v'.ownBlock = some g → (S 23).ownBlock = some g ∨ w.heap.size ≤ g) := by
  have hmay := fun wx => my_may (len := len) (cap := cap) (ao := ao) (y := y) (X := X) (Hc := (hdL hd).toArray) (t := 2) (w := wx) (.inr (.inr rfl)) (by simpa using (hdL_at hd 2 (by decide)).trans (by rw [hh.h2])) hX h482 (by have := hy.kind; omega)
  have hok : bodyOk y len 2 ∧ noParts y := ⟨by rw [hlen]; exact hy.body, hy.parts⟩
  obtain ⟨XL, hXL⟩ : ∃ XL, XL = (fnA 483 X).toList := ⟨_, rfl⟩
  obtain ⟨HL, hHL⟩ : ∃ HL, HL = hdL hd := ⟨_, rfl⟩
  have eX : fnA 483 X = XL.toArray := by rw [hXL, fnA_toArray]
  have hsl := h.s.lt
  have hB : BlkIn (w.alloc (.cells XL.toArray 51)) w.heap.size 483 51 X := by
    unfold BlkIn
    rw [heap_alloc_at, eX]
  have hO : Only [] w (w.alloc (.cells XL.toArray 51)) := (Only.refl [] w).alloc _
  have hrX := hB.range
  rw [← hXL] at hrX
  have hSt := h.only hc hO (by simp) (by simp) (by simp)
  have hrH : (w.alloc (.cells XL.toArray 51)).rangeAt sb 0 HL := fun j v hj => by
    have hjl : j < 21 := by
      apply Classical.byContradiction
      intro e
      rw [hHL, List.getElem?_eq_none (by show 21 ≤ j; omega)] at hj
      cases hj
    rw [Nat.zero_add, hSt.s.cell j (by omega), hS j hjl]
    rw [hHL, hdL_at hd j hjl] at hj
    exact hj
  have hXi : (Tryz.prog.info? 51).map (·.size) = some XL.length := by rw [hXL, fnA_list_length]; kernel_rfl
  have hHi : (Tryz.prog.info? 26).map (·.size) = some HL.length := by rw [hHL]; show _ = some 21; kernel_rfl
  have cw1 := (hcell F _ _ hSt.c).1
  have cs1 : (w.alloc (.cells XL.toArray 51)).cell? ⟨sb, 1, none⟩ = some (.int .i64 cnt) := by rw [hSt.s.cell 1 (by decide), hS 1 (by decide), hh.h1]
  have cs23 : (w.alloc (.cells XL.toArray 51)).cell? ⟨sb, 23, none⟩ = some (S 23) := hSt.s.cell 23 (by decide)
  obtain ⟨ad, capd, hv23⟩ : ∃ ad capd, S 23 = .slice ad n capd := by
    rcases h.a.2 with ⟨h1, h2⟩ | ⟨g, cap, cur, h1, _⟩
    · exact ⟨none, 0, by rw [h1, h2]⟩
    · exact ⟨_, cap, h1⟩
  rw [hv23] at cs23
  rw [eX, ← hHL] at hmay
  rw [eX]
  have HM := Lib.hid hmay
  have Hok := Lib.hid hok
  have HrX := Lib.hid hrX
  have HrH := Lib.hid hrH
  have HXi := Lib.hid hXi
  have HHi := Lib.hid hHi
  have HSt := Lib.hid hSt
  have HB := Lib.hid hB
  have HO := Lib.hid hO
  have Hh := Lib.hid hh
  have HS := Lib.hid hS
  have Hv23 := Lib.hid hv23
  clear hmay hok hrX hrH hXi hHi hSt hB hO hXL hHL eX hh hS hv23
  go_enter Tryz.func15, Tryz.ntmps15
  go_wp2_with fail
  generalize w.alloc (.cells XL.toArray 51) = w1 at *
  go_region
  rw [show decide (cnt ≤ (n : Int)) = false from decide_eq_false (by omega)]
  have od : Only [] w1 w1.drew := (Only.refl [] w1).drew
  replace HSt := Lib.hid (HSt.out.only hc od (by simp) (by simp) (by simp))
  replace HB := Lib.hid (HB.out.only od (by simp))
  replace HO := Lib.hid (HO.out.trans od)
  replace HrX : Hid (w1.drew.rangeAt w.heap.size 0 XL) := Lib.hid HrX.out
  replace HrH : Hid (w1.drew.rangeAt sb 0 HL) := Lib.hid HrH.out
  replace cw1 : w1.drew.cell? ⟨wb, 0, none⟩ = some (.pointer (some ⟨sb, 0, none⟩)) := cw1
  replace cs1 : w1.drew.cell? ⟨sb, 1, none⟩ = some (.int .i64 cnt) := cs1
  clear od cs23
  generalize w1.drew = w1 at *
  go_wp2_with fail
  refine wp_region_L (by kernel_rfl) (fun w' => w'.cell? ⟨wb, 0, none⟩ = some (.pointer (some ⟨sb, 0, none⟩)) ∧ w'.rangeAt w.heap.size 0 XL ∧ w'.rangeAt sb 0 HL) 10 ?_
  have hS0 : (fun w' => w'.cell? ⟨wb, 0, none⟩ = some (.pointer (some ⟨sb, 0, none⟩)) ∧ w'.rangeAt w.heap.size 0 XL ∧ w'.rangeAt sb 0 HL) w1.drew := ⟨cw1, HrX.out, HrH.out⟩
  refine AnyL.take 0 rfl (by kernel_rfl) (by kernel_rfl) (by kernel_rfl) (by kernel_rfl) (fun _ _ _ h => h) (by assumption) (yieldsIf_load_mid (by rfl) _ _ rfl w.heap.size 0 rfl XL _ (fun w' h => h.2.1) Tryz.underlying51 rfl HXi.out) ?_
  try simp only [Act.put, List.setIfInBounds_toArray, List.set_cons_zero, List.set_cons_succ]
  refine AnyL.take 1 (v := ?_) rfl (by kernel_rfl) (by kernel_rfl) (by kernel_rfl) (by kernel_rfl) (fun _ _ _ h => h) (by assumption) (Or.inl ⟨by rfl, ?_⟩) ?_
  rotate_left
  · (intro w' hSw; (try dsimp only at hSw); go_simp; try (with_reducible rfl))
  try simp only [Act.put, List.setIfInBounds_toArray, List.set_cons_zero, List.set_cons_succ]
  refine AnyL.take 2 (v := ?_) rfl (by kernel_rfl) (by kernel_rfl) (by kernel_rfl) (by kernel_rfl) (fun _ _ _ h => h) (by assumption) (Or.inl ⟨by rfl, ?_⟩) ?_
  rotate_left
  · (intro w' hSw; (try dsimp only at hSw); go_simp; try (with_reducible rfl))
  try simp only [Act.put, List.setIfInBounds_toArray, List.set_cons_zero, List.set_cons_succ]
  refine AnyL.take 3 (v := ?_) rfl (by kernel_rfl) (by kernel_rfl) (by kernel_rfl) (by kernel_rfl) (fun _ _ _ h => h) (by assumption) (Or.inl ⟨by rfl, ?_⟩) ?_
  rotate_left
  · (intro w' hSw; (try dsimp only at hSw); go_simp; try (with_reducible rfl))
  try simp only [Act.put, List.setIfInBounds_toArray, List.set_cons_zero, List.set_cons_succ]
  refine AnyL.take 4 (v := ?_) rfl (by kernel_rfl) (by kernel_rfl) (by kernel_rfl) (by kernel_rfl) (fun _ _ _ h => h) (by assumption) (Or.inl ⟨by rfl, ?_⟩) ?_
  rotate_left
  · (intro w' hSw; (try dsimp only at hSw); go_simp; try (with_reducible rfl))
  try simp only [Act.put, List.setIfInBounds_toArray, List.set_cons_zero, List.set_cons_succ]
  refine AnyL.take 5 (v := ?_) rfl (by kernel_rfl) (by kernel_rfl) (by kernel_rfl) (by kernel_rfl) (fun _ _ _ h => h) (by assumption) (Or.inl ⟨by rfl, ?_⟩) ?_
  rotate_left
  · (intro w' hSw; (try dsimp only at hSw); go_simp; try (with_reducible rfl))
  try simp only [Act.put, List.setIfInBounds_toArray, List.set_cons_zero, List.set_cons_succ]
  refine AnyL.take 6 (v := ?_) rfl (by kernel_rfl) (by kernel_rfl) (by kernel_rfl) (by kernel_rfl) (fun _ _ _ h => h) (by assumption) (Or.inl ⟨by rfl, ?_⟩) ?_
  rotate_left
  · (intro w' hSw; (try dsimp only at hSw); go_simp; try (with_reducible rfl))
  try simp only [Act.put, List.setIfInBounds_toArray, List.set_cons_zero, List.set_cons_succ]
  refine AnyL.take 7 rfl (by kernel_rfl) (by kernel_rfl) (by kernel_rfl) (by kernel_rfl) (fun _ _ _ h => h) (by assumption) (yieldsIf_load_mid (by rfl) _ _ rfl sb 0 rfl HL _ (fun w' h => h.2.2) Tryz.underlying26 rfl HHi.out) ?_
  try simp only [Act.put, List.setIfInBounds_toArray, List.set_cons_zero, List.set_cons_succ]
  refine AnyL.one 8 (by kernel_rfl) rfl (fun K hK => ?_)
  rw [if_pos (by rfl)]
  go_simp
  refine (HM.out w1.drew).mono ?_
  rintro e w2 ⟨b2, rfl, hb2, ho2⟩
  obtain rfl : b2 = true := hb2.2 Hok.out
  have hS1 : (fun w' => w'.cell? ⟨wb, 0, none⟩ = some (.pointer (some ⟨sb, 0, none⟩)) ∧ w'.rangeAt w.heap.size 0 XL ∧ w'.rangeAt sb 0 HL) w2 := ⟨ho2.cell hS0.1 (by simp), fun j v hj => ho2.cell (hS0.2.1 j v hj) (by simp), fun j v hj => ho2.cell (hS0.2.2 j v hj) (by simp)⟩
  have HO2 := Lib.hid ((Only.refl [] w1).drew.trans ho2)
  clear ho2 hb2
  refine hK _ _ (fun _ => hS1) (fun hKq => ?_)
  clear hK K hKq
  try simp only [Act.put, List.setIfInBounds_toArray, List.set_cons_zero, List.set_cons_succ]
  refine AnyL.one 9 (by kernel_rfl) rfl (fun K hK => ?_)
  go_simp
  refine hK _ _ (fun _ => hS1) (fun hKq => ?_)
  clear hK K hKq
  try simp only [Act.put, List.setIfInBounds_toArray, List.set_cons_zero, List.set_cons_succ]
  refine AnyL.one 10 (by kernel_rfl) rfl (fun K hK => ?_)
  go_simp
  refine hK _ _ (fun _ => hS1) (fun hKq => ?_)
  clear hK K hKq
  try simp only [Act.put, List.setIfInBounds_toArray, List.set_cons_zero, List.set_cons_succ]
  refine AnyL.done (by kernel_rfl) ?_ _
  have HSt2 := Lib.hid (HSt.out.only hc HO2.out (by simp) (by simp) (by simp))
  have HB2 := Lib.hid (HB.out.only HO2.out (by simp))
  have HOw := Lib.hid (HO.out.trans HO2.out)
  have c482 : w2.cell? ⟨w.heap.size, 482, none⟩ = some (.slice ao len cap) := by rw [HB2.out.cell 482 (by decide), h482]
  have z482 := HB2.out.free 482
  have hF : ∀ i ∈ F, i < w.heap.size := fun i hi => hc.low F _ _ h.c i hi
  have hg23 : ∀ g, (S 23).ownBlock = some g → g < w.heap.size := fun g hg => by obtain ⟨cur, hcur⟩ := ownsRow_block h.a hg; exact lt_of_block hcur
  have HF := Lib.hid hF
  have Hg23 := Lib.hid hg23
  have hws := HOw.out.size
  clear HSt HB HO HO2 HrX HrH HXi HHi HM cw1 cs1 hS0 hS1 hF hg23
  -- a continuation for both kinds of samples
  have hK : Hid (∀ (w3 : World) (pv : Value) (X' : Nat → Value), Sta c w3 sb S n (donesA ds) F (mbAsk f wide ds p y ps ++ r) → BlkIn w3 w.heap.size 483 51 X' → X' = upd X 482 pv → Only [] w w3 → w.heap.size < w3.heap.size →
      (y 0 = 2 → ∃ (pb cap : Nat), pv = .slice (some ⟨pb, 0, none⟩) 384 cap ∧ PcmIs w3 pb ps ∧ w.heap.size ≤ pb) →
      Calls Tryz.prog 37 #[.pointer (some ⟨w3.heap.size, 0, none⟩)] (w3.alloc (.cells #[.pointer (some ⟨sb, 0, none⟩), .iface c.T c.pv, .pointer (some ⟨w.heap.size, 0, none⟩)] 112)) fun e w' => e = .returned (.tuple #[]) ∧ ∃ (v' : Value) (F' : List Nat), Sta c w' sb (upd (upd S 22 (.int .i64 (nextP p y))) 23 v') (n + 1) (donesA (ds ++ [dOf y])) F' r ∧ Only (sb :: (F ++ (S 23).ownBlock.toList)) w w' ∧ (∀ i ∈ F', i ∈ F ∨ w.heap.size ≤ i) ∧ (∀ g, v'.ownBlock = some g → (S 23).ownBlock = some g ∨ w.heap.size ≤ g)) := Lib.hid (by
    intro w3 pv X' hst hm hX' ho hw3 hp
    have oK : Only [] w3 (w3.alloc (.cells #[.pointer (some ⟨sb, 0, none⟩), .iface c.T c.pv, .pointer (some ⟨w.heap.size, 0, none⟩)] 112)) := (Only.refl [] w3).alloc _
    have hst4 := hst.only hc oK (by simp) (by simp) (by simp)
    have sc : Scene c F _ (w3.alloc (.cells #[.pointer (some ⟨sb, 0, none⟩), .iface c.T c.pv, .pointer (some ⟨w.heap.size, 0, none⟩)] 112)) w3.heap.size sb w.heap.size S X' n (donesA ds) F (mbAsk f wide ds p y ps ++ r) :=
      { k := heap_alloc_at w3 _, s := hst4.s, m := hm.only oK (by simp), a := hst4.a, c := hst4.c, nk := fun e => by have := HF.out _ e; omega, ns := hst4.ns, nm := fun e => by have := HF.out _ e; omega, na := hst4.na, o := Only.refl _ _, n := fun _ hi => .inl hi, l := ⟨lt_of_block (heap_alloc_at w3 _), hst4.s.lt, (hm.only oK (by simp)).lt⟩ }
    refine (wk_run_I hc sc (by rw [HS.out 0 (by decide), Hh.out.h0]) (by rw [HS.out 2 (by decide), Hh.out.h2]) h21 h22 bf bw bn hds hb hy (x := y) ⟨fun j hj => by rw [hX', upd_ne _ _ (by omega), hX j hj], fun _ _ _ => rfl, fun e => by rw [hwr] at e; cases e⟩ (fun h2 => by
      obtain ⟨pb, capb, e1, e2, e3⟩ := hp h2
      refine .inr ⟨pb, capb, ps, by rw [hX', upd_same, e1], e2.only oK (by simp), fun hm => by have := HF.out _ hm; omega, fun _ _ _ => rfl⟩)).mono ?_
    rintro e w5 ⟨rfl, v', F', Xf, G', hr, -, h7, h8⟩
    have hG : ∀ g ∈ G', (S 23).ownBlock = some g ∨ w.heap.size ≤ g := by
      intro g hg
      by_cases h2 : y 0 = 2
      · obtain ⟨pb, capb, q1, q2, q3, q4, q5⟩ := h8 h2
        obtain ⟨pb0, cap0, e1, e2, e3⟩ := hp h2
        have hpb : w.heap.size ≤ pb := by
          rcases q4 with q4 | ⟨cap', q4⟩
          · have := oK.size; omega
          · rw [hX', upd_same, e1] at q4
            injection q4 with q4
            injection q4 with q4
            injection q4 with q4
            omega
        rw [q5] at hg
        rcases List.mem_cons.1 hg with rfl | hg
        · exact .inr hpb
        · exact .inl (by simpa using hg)
      · rw [(h7 h2).2] at hg
        exact .inl (by simpa using hg)
    have hwk := (ho.trans oK).size
    refine ⟨rfl, v', F', ⟨hr.s, hr.a, hr.c, hr.ns, hr.na⟩, ?_, ?_, ?_⟩
    · refine ((ho.trans oK).mono (T := sb :: (F ++ (S 23).ownBlock.toList)) (by simp)).trans' hr.o (fun i hi => ?_)
      simp only [List.mem_cons, List.mem_append, Option.mem_toList] at hi ⊢
      rcases hi with h1 | h1 | h1 | h1
      · exact .inl (.inl h1)
      · exact .inr (by omega)
      · exact .inl (.inr (.inl h1))
      · rcases hG i h1 with h2 | h2
        · exact .inl (.inr (.inr h2))
        · exact .inr h2
    · intro i hi
      rcases hr.n i hi with h1 | h1
      · exact .inl h1
      · exact .inr (by omega)
    · intro g hg
      rcases hr.ga g (by rw [upd_same]; exact hg) with h1 | h1
      · exact hG g h1
      · exact .inr (by omega))
  have hmlt := HB2.out.lt
  have hwbl := HF.out wb (hcell F _ _ HSt2.out.c).2
  have hwbn : wb ≠ w.heap.size := by omega
  by_cases h2 : y 0 = 2
  · obtain ⟨g, rfl, hg⟩ := hpcm h2
    have hl384 : len = 384 := by rw [hlen, if_pos h2]
    have hnews : ∀ (j : Nat) (v : Value), ((List.range 384).map fun i => Value.int .u8 (ps i))[j]? = some v → w2.cell? ((⟨g, 0, none⟩ : Addr).add j) = some v := fun j v hj => by
      have hjl : j < 384 := by
        apply Classical.byContradiction
        intro e
        rw [List.getElem?_eq_none (by simp; omega)] at hj
        cases hj
      rw [Addr.add_lit, Nat.zero_add, HOw.out.cell (hg j hjl) (by simp)]
      simpa [hjl] using hj
    subst hl384
    have Hnews := Lib.hid hnews
    have H2 := Lib.hid h2
    clear hnews hg h2 hpcm hlen hnil
    go_wp2_with (at_builtin; refine wpList_appendB rfl _ _ rfl elt8 w2.heap.size _ 0 [] rfl (World.ownsRow_nil _ _ _ _) ⟨g, 0, none⟩ 384 cap ((List.range 384).map fun i => Value.int .u8 (ps i)) rfl (by simp) Hnews.out (by simp [Value.oneCell']) (by omega) (by omega) (by omega) (by omega) ?_)
    intro g2 cap2 w3 hpu
    have hpu1 : w3.ownsRow w2.heap.size 5 1 (.slice (some ⟨g2, 0, none⟩) (0 + 384) cap2) (0 + 384) ([] ++ (List.range 384).map fun i => Value.int .u8 (ps i)) := hpu.1
    have hpu2 : w2.grownBy w3 none := hpu.2.1
    have ow3 : Only [] w2 w3 := (Only.refl [] w2).grown hpu2 (fun k hk => by cases hk)
    obtain ⟨g3, cap3, cur, e1, hb3, hg3, hc3⟩ := owned_shape hpu1 (by decide)
    injection e1 with e1 e2 e3
    injection e1 with e1
    injection e1 with e1
    subst e1 e3
    clear e2
    have hpcm3 : PcmIs w3 g2 ps := ⟨cur, hg3, fun i hi => ⟨by
      have := hc3 i (by omega)
      rw [cells_of hg3] at this
      rw [this, List.nil_append]
      simp [hi], hy.pcm i hi⟩⟩
    have hm3 := HB2.out.only ow3 (by simp)
    have hs3 := HSt2.out.only hc ow3 (by simp) (by simp) (by simp)
    have oS : Only [w.heap.size] w3 (w3.setCell ⟨w.heap.size, 482, none⟩ (.slice (some ⟨g2, 0, none⟩) 384 cap2)) := (Only.refl _ w3).setCell (.inl (by simp)) _
    have hmS := hm3.set 482 (.slice (some ⟨g2, 0, none⟩) 384 cap2)
    have hsS := hs3.only hc oS (by simp; omega) (fun g hg => by have := Hg23.out g hg; simp; omega) (fun i hi => by have := HF.out i hi; simp; omega)
    have hpS := hpcm3.only oS (by simp; omega)
    have oT : Only [] w (w3.setCell ⟨w.heap.size, 482, none⟩ (.slice (some ⟨g2, 0, none⟩) 384 cap2)) := (HOw.out.trans ow3).setCell (.inr (Nat.le_refl _)) _
    have cwS := (hcell F _ _ hs3.c).1
    have c482' := hm3.cell 482 (by decide)
    rw [h482] at c482'
    have z482' := hm3.free 482
    have hsz3 := ow3.size
    have hk2 := hK.out (w3.setCell ⟨w.heap.size, 482, none⟩ (.slice (some ⟨g2, 0, none⟩) 384 cap2)) (.slice (some ⟨g2, 0, none⟩) 384 cap2) _ hsS hmS rfl oT (by simp; omega) (fun _ => ⟨g2, cap2, rfl, hpS, by omega⟩)
    rw [hT, hpv, show (w3.setCell ⟨w.heap.size, 482, none⟩ (.slice (some ⟨g2, 0, none⟩) 384 cap2)).heap.size = w3.heap.size by simp] at hk2
    have HK2 := Lib.hid hk2
    clear hpu hpu1 hpu2 ow3 hb3 hg3 hc3 hpcm3 hm3 hs3 oS hmS hsS hpS oT hk2 c482 z482
    go_wp2_with fail
    refine HK2.out.mono ?_
    rintro e w5 ⟨rfl, v', F', q1, q2, q3, q4⟩
    have Q1 := Lib.hid q1
    have Q2 := Lib.hid q2
    have Q3 := Lib.hid q3
    have Q4 := Lib.hid q4
    clear q1 q2 q3 q4 HK2
    go_wp2
    go_ret
    exact ⟨rfl, v', F', Q1.out, Q2.out, Q3.out, Q4.out⟩
  · obtain ⟨rfl, rfl⟩ := hnil h2
    have hl0 : len = 0 := by rw [hlen, if_neg h2]
    subst hl0
    have H2 := Lib.hid h2
    have oS : Only [w.heap.size] w2 (w2.setCell ⟨w.heap.size, 482, none⟩ (.slice none 0 0)) := (Only.refl _ w2).setCell (.inl (by simp)) _
    have hmS := HB2.out.set 482 (.slice none 0 0)
    have hsS := HSt2.out.only hc oS (by simp; omega) (fun g hg => by have := Hg23.out g hg; simp; omega) (fun i hi => by have := HF.out i hi; simp; omega)
    have oT : Only [] w (w2.setCell ⟨w.heap.size, 482, none⟩ (.slice none 0 0)) := HOw.out.setCell (.inr (Nat.le_refl _)) _
    have cwS := (hcell F _ _ HSt2.out.c).1
    have hk2 := hK.out (w2.setCell ⟨w.heap.size, 482, none⟩ (.slice none 0 0)) (.slice none 0 0) _ hsS hmS rfl oT (by simp; omega) (fun h => absurd h H2.out)
    rw [hT, hpv, show (w2.setCell ⟨w.heap.size, 482, none⟩ (.slice none 0 0)).heap.size = w2.heap.size by simp] at hk2
    have HK2 := Lib.hid hk2
    clear oS hmS hsS oT hk2 h2 hnil hlen hpcm
    go_wp2_with fail
    refine HK2.out.mono ?_
    rintro e w5 ⟨rfl, v', F', q1, q2, q3, q4⟩
    have Q1 := Lib.hid q1
    have Q2 := Lib.hid q2
    have Q3 := Lib.hid q3
    have Q4 := Lib.hid q4
    clear q1 q2 q3 q4 HK2
    go_wp2
    go_ret
    exact ⟨rfl, v', F', Q1.out, Q2.out, Q3.out, Q4.out⟩
end Go.Proofs.YtcppbdlmcbjmeaaGreatDoor

namespace Go.Proofs.YtcppbdlmcbjmeaaGreatDoor
open Go.RowKit

theorem slice_of {w : World} {B n s : Nat} {e : TypeId} {v : Value} {xs : List Value} (h : w.ownsRow B e s v n xs) : ∃ ad cap, v = .slice ad n cap := by
  rcases h.2 with ⟨h1, h2⟩ | ⟨g, cap, cur, h1, _⟩
  · exact ⟨none, 0, by rw [h1, h2]⟩
  · exact ⟨_, cap, h1⟩
theorem wc_set_over {wb sb bb : Nat} {ev : Value} {over : Bool} {w : World} (h : WcIs w wb sb bb ev over) : WcIs (w.setCell ⟨wb, 3, none⟩ (.bool true)) wb sb bb ev true := by
  unfold WcIs at h ⊢
  rw [heap_set_same _ h]
  rfl
set_option maxRecDepth 100000 in
set_option maxHeartbeats 1600000 in
theorem wr_end0 {w : World} {wb sb bb n : Nat} {S : Nat → Value} {D : List Value} {ov : Value} {bs : List Int} {cnt : Int} (hW : WcIs w wb sb bb (.pointer none) false) (hs : BlkIn w sb 75 106 S) (ha : w.ownsRow 0 103 46 (S 23) n D) (h1 : S 1 = .int .i64 cnt) (hn : cnt ≤ n) (hb : WrIs w bb ov bs) (hl : bs.length < 800000000) :
    Calls Tryz.prog 16 #[.pointer (some ⟨wb, 0, none⟩)] w fun e w' => e = .returned (.int .i64 0) ∧ ∃ ov', WcIs w' wb sb bb (.pointer none) true ∧ WrIs w' bb ov' (bs ++ trailN bs.length) ∧ Only (wb :: bb :: ov.ownBlock.toList) w w' := by
  obtain ⟨c0, c1, c2, c3⟩ := hW.cells
  obtain ⟨ad, cap, hv⟩ := slice_of ha
  have s1 : w.cell? ⟨sb, 1, none⟩ = some (.int .i64 cnt) := by rw [hs.cell 1 (by decide), h1]
  have s23 : w.cell? ⟨sb, 23, none⟩ = some (.slice ad n cap) := by rw [hs.cell 23 (by decide), hv]
  have z3 := free_of hW 3
  have HW := Lib.hid hW
  have HB := Lib.hid hb
  clear hW hb hs ha h1 hv
  go_enter Tryz.func16, Tryz.ntmps16
  go_wp2
  go_quiet (fail)
  rename_i nq
  have HW1 : Hid (WcIs (w.drewN nq) wb sb bb (.pointer none) false) := Lib.hid HW.out
  have HB1 : Hid (WrIs (w.drewN nq) bb ov bs) := Lib.hid (HB.out.drewN nq)
  have O1 : Hid (Only [] w (w.drewN nq)) := Lib.hid ((Only.refl [] w).drewN nq)
  replace c1 : (w.drewN nq).cell? ⟨wb, 1, none⟩ = some (.pointer (some ⟨bb, 0, none⟩)) := c1
  replace c2 : (w.drewN nq).cell? ⟨wb, 2, none⟩ = some (.pointer none) := c2
  replace c3 : (w.drewN nq).cell? ⟨wb, 3, none⟩ = some (.bool false) := c3
  replace z3 : (w.drewN nq).frozen? ⟨wb, 3, none⟩ = false := z3
  clear HW HB s1 s23 c0
  generalize w.drewN nq = w1 at *
  have HW2 := Lib.hid (wc_set_over HW1.out)
  have oS : Only [wb] w1 (w1.setCell ⟨wb, 3, none⟩ (.bool true)) := (Only.refl _ w1).setCell (.inl (by simp)) _
  have hne := HW1.out.ne HB1.out
  have HB2 := Lib.hid (HB1.out.only oS (by simp; exact Ne.symm hne.1) (fun g hg => by simp; exact Ne.symm (hne.2 g hg).1))
  have O2 : Hid (Only [wb] w (w1.setCell ⟨wb, 3, none⟩ (.bool true))) := Lib.hid ((O1.out.mono (T := [wb]) (by simp)).trans oS)
  have Hne := Lib.hid hne
  clear oS hne
  go_wp2_with fail
  generalize w1.setCell ⟨wb, 3, none⟩ (.bool true) = w2 at *
  refine (bits_trail bb ov bs w2 HB2.out (by omega)).mono ?_
  rintro e w3 ⟨rfl, ov', q1, q2⟩
  have Q1 := Lib.hid q1
  have Q2 := Lib.hid q2
  clear q1 q2
  go_wp2
  go_ret
  refine ⟨rfl, ov', HW2.out.only Q2.out.only (by simp only [List.mem_cons, Option.mem_toList, not_or]; exact ⟨Hne.out.1, fun h => (Hne.out.2 wb h).1 rfl⟩), Q1.out, ?_⟩
  exact (O2.out.mono (T := wb :: bb :: ov.ownBlock.toList) (by simp)).trans (Q2.out.only.mono (fun i hi => List.mem_cons_of_mem _ hi))
set_option maxRecDepth 100000 in
theorem wr_bytes0 {w : World} {wb sb bb : Nat} {ov : Value} {bs : List Int} {over : Bool} (hW : WcIs w wb sb bb (.pointer none) over) (hb : WrIs w bb ov bs) :
    Calls Tryz.prog 18 #[.pointer (some ⟨wb, 0, none⟩)] w fun e w' => e = .returned (.string (strOfNums (packed bs))) ∧ w = w' := by
  obtain ⟨c0, c1, c2, c3⟩ := hW.cells
  have HB := Lib.hid hb
  clear hW hb
  go_enter Tryz.func18, Tryz.ntmps18
  go_wp2_with fail
  refine (bits_bytes bb ov bs w HB.out).mono ?_
  rintro e w1 ⟨rfl, rfl⟩
  go_wp2
  go_ret
  exact ⟨rfl, rfl⟩
end Go.Proofs.YtcppbdlmcbjmeaaGreatDoor

namespace Go.Proofs.YtcppbdlmcbjmeaaGreatDoor
open Go.RowKit

/-- What fills the bits up to a whole byte. -/
def fillN (n : Nat) : Nat := (8 - n % 8) % 8
/-- A writer with an engine, begun. -/
def NewW1 (hd : Nat → Value) (wide qp : Int) (bb : Nat) (ov : Value) (bs : List Int) (w : World) (e : Ending) (w' : World) : Prop := ∃ (sb wb eb tb sk : Nat) (ov' : Value), e = .returned (.tuple #[.pointer (some ⟨wb, 0, none⟩), .int .i64 0]) ∧ BlkIn w' sb 75 106 (stS hd wide qp) ∧
  WcIs w' wb sb bb (.pointer (some ⟨eb, 0, none⟩)) false ∧ EncIs w' eb tb sk (.slice none 0 0) (Enc.new (initL qp)) ∧ WrIs w' bb ov' (bs ++ List.replicate (fillN bs.length) 1) ∧ EncTo w w' bb ov ov' ∧ w.heap.size ≤ sb ∧ w.heap.size ≤ wb ∧ w.heap.size ≤ eb ∧ w.heap.size ≤ tb ∧ w.heap.size ≤ sk

set_option maxRecDepth 100000 in
set_option maxHeartbeats 3200000 in
theorem sx_newWriter1 {hd : Nat → Value} {f cnt t a0 a1 qp wide : Int} {bb : Nat} {ov : Value} {bs : List Int} {Pc : Array Value} {w : World} (hA : Asc w) (hA2 : ∀ g ∈ bb :: ov.ownBlock.toList, 0 < g) (hb : WrIs w bb ov bs) (hl : bs.length < 900000) (hp : Pc[0]? = some (.bool true)) (hh : HeadIs hd f cnt t a0 a1 qp) (h17 : hd 17 = .int .i64 qp) (hw : 1 ≤ wide ∧ wide ≤ 8) (hf : 0 ≤ f) (hc : 1 ≤ cnt) (ht : 0 ≤ t ∧ t ≤ 2) (hq : 0 ≤ qp ∧ qp ≤ 51) (ha0 : 0 ≤ a0 ∧ a0 ≤ 8) (ha1 : 0 ≤ a1 ∧ a1 ≤ 8) :
    Calls Tryz.prog 12 #[.pointer (some ⟨bb, 0, none⟩), .agg (hdL hd).toArray, .agg Pc, .int .i64 wide] w (NewW1 hd wide qp bb ov bs w) := by
  have hbg := fun (wx : World) => sx_begin (w := wx) hh hw hf hc ht hq ha0 ha1
  have hl17 : (hdL hd)[17]? = some (.int .i64 qp) := by rw [← h17]; rfl
  obtain ⟨HL, hHL⟩ : ∃ HL, HL = hdL hd := ⟨_, rfl⟩
  have O1 : Hid (Only [] w ((w.alloc (.cells HL.toArray 26)).alloc (.cells Pc 28))) := Lib.hid (((Only.refl [] w).alloc _).alloc _)
  have hr : ((w.alloc (.cells HL.toArray 26)).alloc (.cells Pc 28)).rangeAt w.heap.size 0 HL := fun j v hj => by
    rw [Nat.zero_add, cells_of (heap_alloc_lt _ (heap_alloc_at w _))]
    simpa using hj
  have cp : ((w.alloc (.cells HL.toArray 26)).alloc (.cells Pc 28)).cell? ⟨w.heap.size + 1, 0, none⟩ = some (.bool true) := by
    have h := heap_alloc_at (w.alloc (.cells HL.toArray 26)) (.cells Pc 28)
    rw [show (w.alloc (.cells HL.toArray 26)).heap.size = w.heap.size + 1 by simp] at h
    rw [cells_of h, hp]
  have cq : ((w.alloc (.cells HL.toArray 26)).alloc (.cells Pc 28)).cell? ⟨w.heap.size, 17, none⟩ = some (.int .i64 qp) := by
    have h := hr 17 _ (hHL ▸ hl17)
    simpa using h
  have hlen : (Tryz.prog.info? 26).map (·.size) = some HL.length := by rw [hHL]; show _ = some 21; kernel_rfl
  rw [← hHL] at hbg ⊢
  have hbw := lt_of_block hb.cells.choose_spec
  have hov : ∀ q, ov.ownBlock = some q → q < w.heap.size := fun q hq => by obtain ⟨c, hc⟩ := ownsRow_block hb.out hq; exact lt_of_block hc
  have HBG := Lib.hid hbg
  have HR := Lib.hid hr
  have HLen := Lib.hid hlen
  have HBb := Lib.hid hb
  have HA := Lib.hid hA
  have HA2 := Lib.hid hA2
  have Hov := Lib.hid hov
  have Hl := Lib.hid hl
  clear hbg hr hlen hHL hh hp hl17 hb hA hA2 hov h17 hl
  go_enter Tryz.func12, Tryz.ntmps12
  go_wp2_with (with_reducible refine wpList_load_mid rfl 26 _ rfl w.heap.size 0 rfl HL _ HR.out Tryz.underlying26 rfl HLen.out ?_)
  refine (HBG.out _).mono ?_
  rintro e w1 ⟨sb, rfl, h1, h2, h3⟩
  have hsz : w.heap.size + 1 < ((w.alloc (.cells HL.toArray 26)).alloc (.cells Pc 28)).heap.size := by simp
  have cp1 := h3.cell cp (by simp)
  have cq1 := h3.cell cq (by simp)
  have O2 := Lib.hid (O1.out.trans h3)
  have H1 := Lib.hid h1
  have hsb : w.heap.size ≤ sb := by omega
  have hs1 := h3.size
  have hsb1 : sb < w1.heap.size := lt_of_block h1
  clear h1 h2 h3 cp cq HR
  generalize (w.alloc (.cells HL.toArray 26)).alloc (.cells Pc 28) = wa at *
  have ox := (Only.refl [] w1).alloc (.cells #[.pointer (some ⟨sb, 0, none⟩), .pointer (some ⟨bb, 0, none⟩), .pointer none, .bool false] 89)
  have cp2 := ox.cell cp1 (by simp)
  have cq2 := ox.cell cq1 (by simp)
  have hW : WcIs (w1.alloc (.cells #[.pointer (some ⟨sb, 0, none⟩), .pointer (some ⟨bb, 0, none⟩), .pointer none, .bool false] 89)) w1.heap.size sb bb (.pointer none) false := heap_alloc_at w1 _
  have H2 := Lib.hid (H1.out.only ox (by simp))
  have O3 := Lib.hid (O2.out.trans ox)
  have Hw := Lib.hid hW
  have Hb := Lib.hid (HBb.out.only O3.out (by simp) (by simp))
  have hnb : sb ≠ bb := by omega
  have hnw : w1.heap.size ≠ bb := by omega
  clear O1 O2 H1 cp1 cq1 ox hW HBb HBG
  have hszz : w1.heap.size < (w1.alloc (.cells #[.pointer (some ⟨sb, 0, none⟩), .pointer (some ⟨bb, 0, none⟩), .pointer none, .bool false] 89)).heap.size := by simp
  go_wp2_with fail
  generalize w1.heap.size = wb at *
  generalize w1.alloc (.cells #[.pointer (some ⟨sb, 0, none⟩), .pointer (some ⟨bb, 0, none⟩), .pointer none, .bool false] 89) = w2 at *
  go_loopw [] (fun wr => ∃ (j : Nat) (ov2 : Value), j ≤ fillN bs.length ∧ WrIs wr bb ov2 (bs ++ List.replicate j 1) ∧ EncTo w2 wr bb ov ov2) (fun wr => (8 - cellNat wr bb 1 % 8) % 8)
  case atStart => exact ⟨0, ov, Nat.zero_le _, by simpa using Hb.out, EncTo.refl _ _ _⟩
  case round =>
    obtain ⟨j, ov2, hj, hi, ht⟩ := hrel
    have hj8 : j ≤ 7 := by unfold fillN at hj; omega
    have hn : (bs ++ List.replicate j (1 : Int)).length = bs.length + j := by simp
    obtain ⟨G, hG⟩ : ∃ G : Int, G = ((bs ++ List.replicate j (1 : Int)).length : Int) := ⟨_, rfl⟩
    have hGn : G = (bs.length + j : Nat) := by rw [hG, hn]
    have hlen := bits_len bb ov2 _ wr hi
    rw [← hG] at hlen
    have hc1 : cellNat wr bb 1 = bs.length + j := by
      obtain ⟨c, hc⟩ := hi.cells
      rw [cellNat_of (show wr.cell? ⟨bb, 1, none⟩ = some (.int .i64 ((bs ++ List.replicate j (1 : Int)).length : Int)) by rw [cells_of hc]; rfl), hn]; rfl
    have Hi := Lib.hid hi
    have Ht := Lib.hid ht
    have Hlen := Lib.hid hlen
    have HG := Lib.hid hGn
    have g0 : 0 ≤ G ∧ G ≤ 900100 := by have := Hl.out; omega
    have Hc1 := Lib.hid hc1
    clear hi ht hlen hG hn hGn hc1
    by_cases hz : G % 8 = 0
    · skip
      go_wp2_with fail
      refine Hlen.out.mono ?_
      rintro r wx ⟨rfl, rfl⟩
      have hjl : j = fillN bs.length := by have := HG.out; unfold fillN at hj ⊢; omega
      have hn1 : ∀ k, w.heap.size ≤ k → k ∉ bb :: ov.ownBlock.toList := by
        intro k hk
        simp only [List.mem_cons, Option.mem_toList, not_or]
        exact ⟨by omega, fun h => by have := Hov.out _ h; omega⟩
      have cq3 := Ht.out.only.cell cq2 (hn1 _ (Nat.le_refl _))
      have H3 := Lib.hid (H2.out.only Ht.out.only (hn1 _ hsb))
      have Hw3 := Lib.hid (Hw.out.only Ht.out.only (hn1 _ (by omega)))
      have HA3 := Lib.hid ((HA.out.only O3.out (by simp)).only Ht.out.only HA2.out)
      have T3 : Hid (EncTo w wr bb ov ov2) := Lib.hid ((EncTo.mk (O3.out.mono (by simp)) (fun _ h => .inl h)).trans Ht.out)
      have hszr := Ht.out.only.size
      have hwv : ∀ g, ov2.ownBlock = some g → g ≠ wb := by
        intro g hg
        rcases Ht.out.new g hg with h | h
        · have := Hov.out _ h; omega
        · omega
      have Hwv := Lib.hid hwv
      clear hwv
      clear Hlen Ht HA HA2 Hc1 cq2
      go_wp2_with fail
      refine (bins_init qp wr (by omega) (by omega)).mono ?_
      rintro r w4 ⟨g, rfl, k1, k2, k3⟩
      have HI := Lib.hid (IntSlice.of_block (cap := 256) k1)
      have K3 := Lib.hid k3
      have Hk2 := Lib.hid k2
      clear k1 k3 k2
      go_wp2_with fail
      have henc := eng_new _ _ w4 HI.out (by rw [initL_length]; omega) (HA3.out.only K3.out (by simp))
      rw [initL_length] at henc
      refine henc.mono ?_
      rintro r w5 ⟨eb, tb, sk, rfl, m1, m2, m3, m4, m5⟩
      have O5 := Lib.hid (K3.out.trans m2)
      have M1 := Lib.hid m1
      have hs4 := K3.out.size
      have Hw5 := Hw3.out.only O5.out (by simp)
      have z2 := free_of Hw5 2
      have q2 : w5.cell? ⟨wb, 2, none⟩ = some (.pointer none) := by rw [cells_of Hw5]; rfl
      have HW5 := Lib.hid Hw5
      clear m1 m2 henc Hw5
      go_wp2
      go_ret2
      have hwb5 : wb < w4.heap.size := by omega
      have hO5 := O5.out
      have hset : Only [wb] w5 (w5.setCell ⟨wb, 2, none⟩ (.pointer (some ⟨eb, 0, none⟩))) := (Only.refl _ w5).setCell (.inl (by simp)) _
      refine ⟨sb, wb, eb, tb, sk, ov2, rfl, (H3.out.only hO5 (by simp)).only hset (by simp; omega), ?_, M1.out.only hset (by simp; omega) (by simp; omega) (by simp; omega) (by simp [Value.ownBlock]), ?_, ?_, hsb, by omega, by omega, by omega, by omega⟩
      · unfold WcIs
        rw [heap_set_same _ HW5.out]
        rfl
      · rw [← hjl]
        exact (Hi.out.only hO5 (by simp) (by simp)).only hset (by simp; omega) (fun g hg => by simp; exact Hwv.out g hg)
      · exact ⟨(T3.out.only.trans (hO5.mono (by simp))).setCell (.inr (show w.heap.size ≤ wb by omega)) _, T3.out.new⟩
    · skip
      go_wp2_with fail
      refine Hlen.out.mono ?_
      rintro r wx ⟨rfl, rfl⟩
      go_wp2_with fail
      refine (bits_bits bb ov2 _ 1 1 wr Hi.out (by omega) (by omega) (by have := HG.out; simp; omega)).mono ?_
      rintro r wx ⟨rfl, ov3, k1, k2⟩
      have hjl : j < fillN bs.length := by have := HG.out; unfold fillN at hj ⊢; omega
      have k1' : WrIs wx bb ov3 (bs ++ List.replicate (j + 1) 1) := by
        have e : bs ++ List.replicate j (1 : Int) ++ bitsN 1 1 = bs ++ List.replicate (j + 1) 1 := by
          rw [List.append_assoc, List.replicate_succ']; rfl
        rw [← e]; exact k1
      have hc2 : cellNat wx bb 1 = bs.length + j + 1 := by
        obtain ⟨c, hc⟩ := k1'.cells
        rw [cellNat_of (show wx.cell? ⟨bb, 1, none⟩ = some (.int .i64 ((bs ++ List.replicate (j + 1) (1 : Int)).length : Int)) by rw [cells_of hc]; rfl)]
        simp; omega
      have K1 := Lib.hid k1'
      have K2 := Lib.hid (Ht.out.trans k2)
      have Hc2 := Lib.hid hc2
      clear k1 k2 k1' hc2
      go_wp2
      go_roundw
      case rel => exact ⟨j + 1, ov3, hjl, K1.out, K2.out⟩
      case measure =>
        show (8 - cellNat wx bb 1 % 8) % 8 < (8 - cellNat wr bb 1 % 8) % 8
        have a1 := Hc1.out
        have a2 := Hc2.out
        have a3 := HG.out
        rw [a1, a2]
        omega
end Go.Proofs.YtcppbdlmcbjmeaaGreatDoor

namespace Go.Proofs.YtcppbdlmcbjmeaaGreatDoor
open Go.RowKit

set_option maxRecDepth 100000 in
set_option maxHeartbeats 1600000 in
theorem wr_end1 {w : World} {wb sb bb eb tb sk n : Nat} {S : Nat → Value} {D : List Value} {ov eo : Value} {bs : List Int} {e : Enc} {cnt : Int} (hW : WcIs w wb sb bb (.pointer (some ⟨eb, 0, none⟩)) false) (hs : BlkIn w sb 75 106 S) (ha : w.ownsRow 0 103 46 (S 23) n D) (h1 : S 1 = .int .i64 cnt) (hn : cnt ≤ n) (hb : WrIs w bb ov bs) (he : EncIs w eb tb sk eo e) (hg : e.Good) (hl : e.cost < 390000000) (hd : ∀ g, eo.ownBlock = some g → ov.ownBlock ≠ some g) :
    Calls Tryz.prog 16 #[.pointer (some ⟨wb, 0, none⟩)] w fun r w' => r = .returned (.int .i64 0) ∧ ∃ eo', WcIs w' wb sb bb (.pointer (some ⟨eb, 0, none⟩)) true ∧ EncIs w' eb tb sk eo' (e.term 1) ∧ WrIs w' bb ov bs ∧ Only (wb :: eb :: sk :: eo.ownBlock.toList) w w' := by
  obtain ⟨c0, c1, c2, c3⟩ := hW.cells
  obtain ⟨ad, cap, hv⟩ := slice_of ha
  have s1 : w.cell? ⟨sb, 1, none⟩ = some (.int .i64 cnt) := by rw [hs.cell 1 (by decide), h1]
  have s23 : w.cell? ⟨sb, 23, none⟩ = some (.slice ad n cap) := by rw [hs.cell 23 (by decide), hv]
  have z3 := free_of hW 3
  have hne := hW.ne hb
  have hne2 := EncIs.ne hW he
  have HW := Lib.hid hW
  have HB := Lib.hid hb
  have HE := Lib.hid he
  have Hne := Lib.hid hne
  have Hne2 := Lib.hid hne2
  have Hg := Lib.hid hg
  have Hd := Lib.hid hd
  clear hW hb hs ha h1 hv he hne hne2 hg hd
  go_enter Tryz.func16, Tryz.ntmps16
  go_wp2
  go_quiet (fail)
  rename_i nq
  have HW1 : Hid (WcIs (w.drewN nq) wb sb bb (.pointer (some ⟨eb, 0, none⟩)) false) := Lib.hid HW.out
  have HB1 : Hid (WrIs (w.drewN nq) bb ov bs) := Lib.hid (HB.out.drewN nq)
  have HE1 : Hid (EncIs (w.drewN nq) eb tb sk eo e) := Lib.hid (HE.out.drewN nq)
  have O1 : Hid (Only [] w (w.drewN nq)) := Lib.hid ((Only.refl [] w).drewN nq)
  replace c1 : (w.drewN nq).cell? ⟨wb, 1, none⟩ = some (.pointer (some ⟨bb, 0, none⟩)) := c1
  replace c2 : (w.drewN nq).cell? ⟨wb, 2, none⟩ = some (.pointer (some ⟨eb, 0, none⟩)) := c2
  replace c3 : (w.drewN nq).cell? ⟨wb, 3, none⟩ = some (.bool false) := c3
  replace z3 : (w.drewN nq).frozen? ⟨wb, 3, none⟩ = false := z3
  clear HW HB HE s1 s23 c0
  generalize w.drewN nq = w1 at *
  have HW2 := Lib.hid (wc_set_over HW1.out)
  have oS : Only [wb] w1 (w1.setCell ⟨wb, 3, none⟩ (.bool true)) := (Only.refl _ w1).setCell (.inl (by simp)) _
  have HB2 := Lib.hid (HB1.out.only oS (by simp; exact Ne.symm Hne.out.1) (fun g hg => by simp; exact Ne.symm (Hne.out.2 g hg).1))
  have HE2 := Lib.hid (HE1.out.only oS (by simp; exact Ne.symm Hne2.out.1) (by simp; exact Ne.symm Hne2.out.2.1) (by simp; exact Ne.symm Hne2.out.2.2.1) (fun g hg => by simp; exact Ne.symm (Hne2.out.2.2.2 g hg)))
  have O2 : Hid (Only [wb] w (w1.setCell ⟨wb, 3, none⟩ (.bool true))) := Lib.hid ((O1.out.mono (T := [wb]) (by simp)).trans oS)
  clear oS
  go_wp2_with fail
  generalize w1.setCell ⟨wb, 3, none⟩ (.bool true) = w2 at *
  refine (EncAt.term (EncAt.bare HE2.out Hg.out) 1 (by omega)).mono ?_
  rintro r w3 ⟨rfl, eo', q1, q2⟩
  have Q1 := Lib.hid q1.is
  have Q2 := Lib.hid q2
  clear q1 q2
  go_wp2
  go_ret
  have hs3 := Q2.out.only
  have hwn : wb ∉ eb :: sk :: eo.ownBlock.toList := by
    simp only [List.mem_cons, Option.mem_toList, not_or]
    exact ⟨Hne2.out.1, Hne2.out.2.2.1, fun h => Hne2.out.2.2.2 wb h rfl⟩
  obtain ⟨cc, hcc⟩ := HB2.out.cells
  have hb1 : bb ∉ eb :: sk :: eo.ownBlock.toList := by
    simp only [List.mem_cons, Option.mem_toList, not_or]
    refine ⟨block_type hcc HE2.out.cells (by decide), block_type hcc HE2.out.sts (by decide), fun h => ?_⟩
    obtain ⟨cur, hcur⟩ := ownsRow_block HE2.out.out h
    exact absurd rfl (block_type hcc hcur (by decide))
  have hb2 : ∀ g, ov.ownBlock = some g → g ∉ eb :: sk :: eo.ownBlock.toList := by
    intro g hg
    obtain ⟨cur, hcur⟩ := ownsRow_block HB2.out.out hg
    simp only [List.mem_cons, Option.mem_toList, not_or]
    exact ⟨block_type hcur HE2.out.cells (by decide), block_type hcur HE2.out.sts (by decide), fun h => Hd.out g h hg⟩
  exact ⟨rfl, eo', HW2.out.only hs3 hwn, Q1.out, HB2.out.only hs3 hb1 hb2, (O2.out.mono (T := wb :: eb :: sk :: eo.ownBlock.toList) (by simp)).trans (hs3.mono (fun i hi => List.mem_cons_of_mem _ hi))⟩
set_option maxRecDepth 100000 in
theorem wr_bytes1 {w : World} {wb sb bb eb tb sk : Nat} {ov eo : Value} {bs : List Int} {e : Enc} {over : Bool} (hW : WcIs w wb sb bb (.pointer (some ⟨eb, 0, none⟩)) over) (hb : WrIs w bb ov bs) (he : EncIs w eb tb sk eo e) (hsz : (strOfNums (packed bs)).size + (strOfNums (packed e.bits)).size ≤ 9223372036854775807) :
    Calls Tryz.prog 18 #[.pointer (some ⟨wb, 0, none⟩)] w fun r w' => r = .returned (.string (strOfNums (packed bs) ++ strOfNums (packed e.bits))) ∧ Only [] w w' := by
  obtain ⟨c0, c1, c2, c3⟩ := hW.cells
  have HB := Lib.hid hb
  have HE := Lib.hid he
  clear hW hb he
  go_enter Tryz.func18, Tryz.ntmps18
  have HQ1 : Hid (∀ n, Calls Tryz.prog 43 #[.pointer (some ⟨bb, 0, none⟩)] (w.drewN n) fun r w' => r = .returned (.string (strOfNums (packed bs))) ∧ w' = w.drewN n) := Lib.hid fun n => ((bits_bytes bb ov bs _ (HB.out.drewN n)).mono fun _ _ ⟨h1, h2⟩ => ⟨h1, h2.symm⟩)
  have HQ2 : Hid (∀ n, Calls Tryz.prog 44 #[.pointer (some ⟨eb, 0, none⟩)] (w.drewN n) fun r w' => r = .returned (.string (strOfNums (packed e.bits))) ∧ w' = w.drewN n) := Lib.hid fun n => ((eng_bytes eb tb sk eo e _ (HE.out.drewN n)).mono fun _ _ ⟨h1, h2⟩ => ⟨h1, h2.symm⟩)
  obtain ⟨s1, hs1⟩ : ∃ s, s = strOfNums (packed bs) := ⟨_, rfl⟩
  obtain ⟨s2, hs2⟩ : ∃ s, s = strOfNums (packed e.bits) := ⟨_, rfl⟩
  rw [← hs1] at HQ1 ⊢
  rw [← hs2] at HQ2 ⊢
  rw [← hs1, ← hs2] at hsz
  have Hbig := Lib.hid (show ¬ (9223372036854775807 < s1.size + s2.size) by omega)
  obtain ⟨y, hy⟩ : ∃ y, y = s1 ++ s2 := ⟨_, rfl⟩
  rw [← hy]
  have Hy := Lib.hid hy
  clear hs1 hs2 HB HE hsz hy
  go_wp2_with fail
  refine wp_region_quiet_lit (by kernel_rfl) (by kernel_rfl) ?_
  iterate 10 (quiet_step (first | (go_at_call 43; exact Calls.quiet_of_same (HQ1.out _)) | (go_at_call 44; exact Calls.quiet_of_same (HQ2.out _))))
  refine wpQuiet_step (fun K hK => ?_)
  go_simp
  refine ⟨.string y, fun a => ?_, hK _ ?_⟩
  · rw [if_neg Hbig.out, Hy.out]
    exact ⟨rfl, rfl⟩
  clear hK K
  quiet_step (fail)
  refine wpQuiet_nil ?_
  intro _ hw'
  obtain ⟨nq, hw''⟩ := hw'
  subst hw''
  go_wp2
  go_ret
  exact ⟨rfl, (Only.refl [] w).drewN nq⟩
end Go.Proofs.YtcppbdlmcbjmeaaGreatDoor

namespace Go.Proofs.YtcppbdlmcbjmeaaGreatDoor
open Go.RowKit

/-- A reader without an engine, begun. -/
def NewR0 (hd : Nat → Value) (wide qp : Int) (s s1 : ByteArray) (p : Nat) (w : World) (e : Ending) (w' : World) : Prop := ∃ (sb rb bb : Nat), e = .returned (.tuple #[.pointer (some ⟨rb, 0, none⟩), .int .i64 0]) ∧ BlkIn w' sb 75 106 (stS hd wide qp) ∧
  RcIs w' rb sb bb s (.pointer none) 0 0 false ∧ RdIs w' bb s1 p ∧ w.heap.size ≤ sb ∧ w.heap.size ≤ rb ∧ w.heap.size ≤ bb ∧ Only [] w w'

set_option maxRecDepth 100000 in
set_option maxHeartbeats 3200000 in
theorem sx_newReader0 {hd : Nat → Value} {f cnt t a0 a1 qp wide : Int} {a y : Nat} {s s1 : ByteArray} {Pc : Array Value} {w : World} (hs : s.size ≤ 140737488355328) (ha : a ≤ 8 * s.size) (hs1 : s1 = s.extract (a / 8) s.size) (hy : y < 2 ^ (a % 8)) (hH : Holds s1 0 (bitsN y (a % 8))) (hp : Pc[0]? = some (.bool false)) (hh : HeadIs hd f cnt t a0 a1 qp) (hw : 1 ≤ wide ∧ wide ≤ 8) (hf : 0 ≤ f) (hc : 1 ≤ cnt) (ht : 0 ≤ t ∧ t ≤ 2) (hq : 0 ≤ qp ∧ qp ≤ 51) (ha0 : 0 ≤ a0 ∧ a0 ≤ 8) (ha1 : 0 ≤ a1 ∧ a1 ≤ 8) :
    Calls Tryz.prog 17 #[.string s, .int .i64 a, .agg (hdL hd).toArray, .agg Pc, .int .i64 wide] w (NewR0 hd wide qp s s1 (a % 8) w) := by
  have hbg := fun (wx : World) => sx_begin (w := wx) hh hw hf hc ht hq ha0 ha1
  obtain ⟨HL, hHL⟩ : ∃ HL, HL = hdL hd := ⟨_, rfl⟩
  have O1 : Hid (Only [] w ((w.alloc (.cells HL.toArray 26)).alloc (.cells Pc 28))) := Lib.hid (((Only.refl [] w).alloc _).alloc _)
  have hr : ((w.alloc (.cells HL.toArray 26)).alloc (.cells Pc 28)).rangeAt w.heap.size 0 HL := fun j v hj => by
    rw [Nat.zero_add, cells_of (heap_alloc_lt _ (heap_alloc_at w _))]
    simpa using hj
  have cp : ((w.alloc (.cells HL.toArray 26)).alloc (.cells Pc 28)).cell? ⟨w.heap.size + 1, 0, none⟩ = some (.bool false) := by
    have h := heap_alloc_at (w.alloc (.cells HL.toArray 26)) (.cells Pc 28)
    rw [show (w.alloc (.cells HL.toArray 26)).heap.size = w.heap.size + 1 by simp] at h
    rw [cells_of h, hp]
  have hlen : (Tryz.prog.info? 26).map (·.size) = some HL.length := by rw [hHL]; show _ = some 21; kernel_rfl
  rw [← hHL] at hbg ⊢
  have HBG := Lib.hid hbg
  have HR := Lib.hid hr
  have HLen := Lib.hid hlen
  have HH := Lib.hid hH
  have Hy := Lib.hid hy
  have Hs1 := Lib.hid hs1
  obtain ⟨SZ, hSZ⟩ : ∃ n, n = s.size := ⟨_, rfl⟩
  rw [← hSZ] at hs ha
  clear hbg hr hlen hHL hh hp hH hy hs1
  go_enter Tryz.func17, Tryz.ntmps17
  go_wp2_with (with_reducible refine wpList_load_mid rfl 26 _ rfl w.heap.size 0 rfl HL _ HR.out Tryz.underlying26 rfl HLen.out ?_)
  refine (HBG.out _).mono ?_
  rintro e w1 ⟨sb, rfl, h1, h2, h3⟩
  have hsz : w.heap.size + 1 < ((w.alloc (.cells HL.toArray 26)).alloc (.cells Pc 28)).heap.size := by simp
  have cp1 := h3.cell cp (by simp)
  have O2 := Lib.hid (O1.out.trans h3)
  have H1 := Lib.hid h1
  have hsb : w.heap.size ≤ sb := by omega
  have hsw := h3.size
  clear h1 h2 h3 cp HR
  generalize (w.alloc (.cells HL.toArray 26)).alloc (.cells Pc 28) = wa at *
  go_wp2_with fail
  refine (rd_open _ _).mono ?_
  rintro r w2 ⟨rfl, k1, k2, k3⟩
  rw [← Hs1.out] at k1
  have cp2 := k2.cell cp1 (by simp)
  have ox := (Only.refl [] w2).alloc (.cells #[.pointer (some ⟨sb, 0, none⟩), .string s, .pointer (some ⟨w1.heap.size, 0, none⟩), .pointer none, .int .i64 0, .int .i64 0, .bool false] 118)
  have cp3 := ox.cell cp2 (by simp)
  have hR : RcIs (w2.alloc (.cells #[.pointer (some ⟨sb, 0, none⟩), .string s, .pointer (some ⟨w1.heap.size, 0, none⟩), .pointer none, .int .i64 0, .int .i64 0, .bool false] 118)) w2.heap.size sb w1.heap.size s (.pointer none) 0 0 false := heap_alloc_at w2 _
  have H3 := Lib.hid ((H1.out.only k2 (by simp)).only ox (by simp))
  have O3 := Lib.hid ((O2.out.trans k2).trans ox)
  have HRc := Lib.hid hR
  have HRd := Lib.hid (k1.only ox (by simp))
  have hsb2 : sb < w1.heap.size := lt_of_block H1.out
  have cR : (w2.alloc (.cells #[.pointer (some ⟨sb, 0, none⟩), .string s, .pointer (some ⟨w1.heap.size, 0, none⟩), .pointer none, .int .i64 0, .int .i64 0, .bool false] 118)).cell? ⟨w2.heap.size, 2, none⟩ = some (.pointer (some ⟨w1.heap.size, 0, none⟩)) := by rw [cells_of hR]; rfl
  have K3 := Lib.hid k3
  clear k1 k2 k3 cp1 cp2 ox hR H1 O1 O2
  go_wp2_with fail
  have k3 := K3.out
  have hs1s : s1.size ≤ 140737488355328 := by
    rw [Hs1.out, ByteArray.size_extract, ← hSZ]; omega
  have hrd := rd_bits w1.heap.size s1 0 y (a % 8) _ HRd.out HH.out Hy.out (by omega) hs1s
  rw [show ((a % 8 : Nat) : Int) = (a : Int) % 8 by omega, Nat.zero_add] at hrd
  refine hrd.mono ?_
  rintro r w3 ⟨rfl, m1, m2⟩
  have cp4 := m2.cell cp3 (by simp; omega)
  have H4 := Lib.hid (H3.out.only m2 (by simp; omega))
  have hne : w2.heap.size ∉ [w1.heap.size] := by simp; omega
  have HR4 := Lib.hid (HRc.out.only m2 hne)
  have O4 : Hid (Only [] w w3) := Lib.hid (O3.out.trans' m2 (fun i hi => .inr (by simp at hi; omega)))
  have M1 := Lib.hid m1
  clear m1 m2 hrd cp3 H3 O3 HRc HRd cR k3
  have hsz2 := Lib.hid (show w.heap.size ≤ w2.heap.size ∧ w.heap.size ≤ w1.heap.size by have := K3.out; omega)
  clear K3
  go_wp2
  go_ret2
  exact ⟨sb, w2.heap.size, w1.heap.size, rfl, H4.out, HR4.out, M1.out, hsb, hsz2.out.1, hsz2.out.2, O4.out⟩
end Go.Proofs.YtcppbdlmcbjmeaaGreatDoor
