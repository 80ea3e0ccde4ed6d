/-
  The walk over NewReader with an engine. The walk over Reader.End without an engine. The walk over Reader.Mb, for a macroblock of a slice of type I. A whole slice of type I: what is asked of its coder; what a writer or a reader holds between two macroblocks. The walk over Reader.End with an engine. A writer and a reader of a slice of type I, with an engine and without: begun, and at their ends.
-/
import Derived.Test.YtcppbdlmcbjmeaaGreatDoorJ40
import Derived.Test.YtcppbdlmcbjmeaaGreatDoorJ39
import Derived.Test.YtcppbdlmcbjmeaaGreatDoorJ37
import Derived.Test.YtcppbdlmcbjmeaaGreatDoorJ27
import Derived.Test.YtcppbdlmcbjmeaaGreatDoorJ26
namespace Go.Proofs.YtcppbdlmcbjmeaaGreatDoor
open Go.RowKit

theorem init_sl {w : World} {g : Nat} {qp : Int} (h : w.heap[g]? = some (.cells (ints (initL qp)) 3 (0, 0))) : IntSlice w (.slice (some ⟨g, 0, none⟩) 256 256) (initL qp) := by
  have := IntSlice.of_block (cap := 256) h
  rwa [initL_length] at this
def bbNe (x y : Nat) : Prop := ¬ (y = x)
/-- A reader with an engine, begun. -/
def NewR1 (hd : Nat → Value) (wide qp : Int) (s : ByteArray) (a : Nat) (w : World) (e : Ending) (w' : World) : Prop := ∃ (sb rb bb db tb sk : Nat), e = .returned (.tuple #[.pointer (some ⟨rb, 0, none⟩), .int .i64 0]) ∧ BlkIn w' sb 75 106 (stS hd wide qp) ∧
  RcIs w' rb sb bb s (.pointer (some ⟨db, 0, none⟩)) ((a + 7) / 8 : Nat) 0 false ∧ DecIs w' db tb sk (Dec.begin (s.extract ((a + 7) / 8) s.size) (initL qp)) ∧ w.heap.size ≤ sb ∧ w.heap.size ≤ rb ∧ w.heap.size ≤ bb ∧ w.heap.size ≤ db ∧ w.heap.size ≤ tb ∧ w.heap.size ≤ sk ∧ Only [] w w'

set_option maxRecDepth 100000 in
set_option maxHeartbeats 3200000 in
theorem sx_newReader1 {hd : Nat → Value} {f cnt t a0 a1 qp wide : Int} {a y : Nat} {s s1 : ByteArray} {Pc : Array Value} {w : World} (hs : s.size ≤ 140737488355328) (ha : a ≤ 8 * s.size) (hs1 : s1 = s.extract (a / 8) s.size) (hy : y < 2 ^ (a % 8)) (hH : Holds s1 0 (bitsN y (a % 8))) (hF : Holds s1 (a % 8) (List.replicate (fillN a) 1)) (hA : Asc w) (h17 : hd 17 = .int .i64 qp) (h0 : beginCode (s.extract ((a + 7) / 8) s.size) = 0) (hp : Pc[0]? = some (.bool true)) (hh : HeadIs hd f cnt t a0 a1 qp) (hw : 1 ≤ wide ∧ wide ≤ 8) (hf : 0 ≤ f) (hc : 1 ≤ cnt) (ht : 0 ≤ t ∧ t ≤ 2) (hq : 0 ≤ qp ∧ qp ≤ 51) (ha0 : 0 ≤ a0 ∧ a0 ≤ 8) (ha1 : 0 ≤ a1 ∧ a1 ≤ 8) :
    Calls Tryz.prog 17 #[.string s, .int .i64 a, .agg (hdL hd).toArray, .agg Pc, .int .i64 wide] w (NewR1 hd wide qp s a w) := by
  have hbg := fun (wx : World) => sx_begin (w := wx) hh hw hf hc ht hq ha0 ha1
  have hl17 : (hdL hd)[17]? = some (.int .i64 qp) := by rw [← h17]; rfl
  obtain ⟨HL, hHL⟩ : ∃ HL, HL = hdL hd := ⟨_, rfl⟩
  have O1 : Hid (Only [] w ((w.alloc (.cells HL.toArray 26)).alloc (.cells Pc 28))) := Lib.hid (((Only.refl [] w).alloc _).alloc _)
  have hr : ((w.alloc (.cells HL.toArray 26)).alloc (.cells Pc 28)).rangeAt w.heap.size 0 HL := fun j v hj => by
    rw [Nat.zero_add, cells_of (heap_alloc_lt _ (heap_alloc_at w _))]
    simpa using hj
  have cp : ((w.alloc (.cells HL.toArray 26)).alloc (.cells Pc 28)).cell? ⟨w.heap.size + 1, 0, none⟩ = some (.bool true) := by
    have h := heap_alloc_at (w.alloc (.cells HL.toArray 26)) (.cells Pc 28)
    rw [show (w.alloc (.cells HL.toArray 26)).heap.size = w.heap.size + 1 by simp] at h
    rw [cells_of h, hp]
  have cq : ((w.alloc (.cells HL.toArray 26)).alloc (.cells Pc 28)).cell? ⟨w.heap.size, 17, none⟩ = some (.int .i64 qp) := by
    have h := hr 17 _ (hHL ▸ hl17)
    simpa using h
  have hlen : (Tryz.prog.info? 26).map (·.size) = some HL.length := by rw [hHL]; show _ = some 21; kernel_rfl
  rw [← hHL] at hbg ⊢
  have HBG := Lib.hid hbg
  have HF := Lib.hid hF
  have HA := Lib.hid hA
  have H0 := Lib.hid h0
  have HR := Lib.hid hr
  have HLen := Lib.hid hlen
  have HH := Lib.hid hH
  have Hy := Lib.hid hy
  have Hs1 := Lib.hid hs1
  obtain ⟨SZ, hSZ⟩ : ∃ n, n = s.size := ⟨_, rfl⟩
  rw [← hSZ] at hs ha
  clear hbg hr hlen hHL hh hp hH hy hs1 hF hA h0 h17 hl17
  go_enter Tryz.func17, Tryz.ntmps17
  go_wp2_with (with_reducible refine wpList_load_mid rfl 26 _ rfl w.heap.size 0 rfl HL _ HR.out Tryz.underlying26 rfl HLen.out ?_)
  refine (HBG.out _).mono ?_
  rintro e w1 ⟨sb, rfl, h1, h2, h3⟩
  have hsz : w.heap.size + 1 < ((w.alloc (.cells HL.toArray 26)).alloc (.cells Pc 28)).heap.size := by simp
  have cp1 := h3.cell cp (by simp)
  have cq1 := h3.cell cq (by simp)
  have O2 := Lib.hid (O1.out.trans h3)
  have H1 := Lib.hid h1
  have hsb : w.heap.size ≤ sb := by omega
  have hsw := h3.size
  clear h1 h2 h3 cp cq HR
  generalize (w.alloc (.cells HL.toArray 26)).alloc (.cells Pc 28) = wa at *
  go_wp2_with fail
  refine (rd_open _ _).mono ?_
  rintro r w2 ⟨rfl, k1, k2, k3⟩
  rw [← Hs1.out] at k1
  have cp2 := k2.cell cp1 (by simp)
  have cq2 := k2.cell cq1 (by simp)
  have ox := (Only.refl [] w2).alloc (.cells #[.pointer (some ⟨sb, 0, none⟩), .string s, .pointer (some ⟨w1.heap.size, 0, none⟩), .pointer none, .int .i64 0, .int .i64 0, .bool false] 118)
  have cp3 := ox.cell cp2 (by simp)
  have cq3 := ox.cell cq2 (by simp)
  have hR : RcIs (w2.alloc (.cells #[.pointer (some ⟨sb, 0, none⟩), .string s, .pointer (some ⟨w1.heap.size, 0, none⟩), .pointer none, .int .i64 0, .int .i64 0, .bool false] 118)) w2.heap.size sb w1.heap.size s (.pointer none) 0 0 false := heap_alloc_at w2 _
  have H3 := Lib.hid ((H1.out.only k2 (by simp)).only ox (by simp))
  have O3 := Lib.hid ((O2.out.trans k2).trans ox)
  have HRc := Lib.hid hR
  have HRd := Lib.hid (k1.only ox (by simp))
  have hsb2 : sb < w1.heap.size := lt_of_block H1.out
  have cR : (w2.alloc (.cells #[.pointer (some ⟨sb, 0, none⟩), .string s, .pointer (some ⟨w1.heap.size, 0, none⟩), .pointer none, .int .i64 0, .int .i64 0, .bool false] 118)).cell? ⟨w2.heap.size, 2, none⟩ = some (.pointer (some ⟨w1.heap.size, 0, none⟩)) := by rw [cells_of hR]; rfl
  have K3 := Lib.hid k3
  clear k1 k2 k3 cp1 cp2 cq1 cq2 ox hR H1 O1 O2
  go_wp2_with fail
  have k3 := K3.out
  have hs1s : s1.size ≤ 140737488355328 := by
    rw [Hs1.out, ByteArray.size_extract, ← hSZ]; omega
  have hrd := rd_bits w1.heap.size s1 0 y (a % 8) _ HRd.out HH.out Hy.out (by omega) hs1s
  rw [show ((a % 8 : Nat) : Int) = (a : Int) % 8 by omega, Nat.zero_add] at hrd
  refine hrd.mono ?_
  rintro r w3 ⟨rfl, m1, m2⟩
  have cp4 := m2.cell cp3 (by simp; omega)
  have cq4 := m2.cell cq3 (by simp; omega)
  have H4 := Lib.hid (H3.out.only m2 (by simp; omega))
  have hne : w2.heap.size ∉ [w1.heap.size] := by simp; omega
  have HR4 := Lib.hid (HRc.out.only m2 hne)
  have O4 : Hid (Only [] w w3) := Lib.hid (O3.out.trans' m2 (fun i hi => .inr (by simp at hi; omega)))
  have M1 := Lib.hid m1
  clear m1 m2 hrd cp3 cq3 H3 O3 HRc HRd cR k3
  have hsz2 := Lib.hid (show w.heap.size + 1 < w2.heap.size ∧ w.heap.size + 1 < w1.heap.size by have := K3.out; omega)
  clear K3
  have z4 := free_of HR4.out 4
  have c4 : w3.cell? ⟨w2.heap.size, 4, none⟩ = some (.int .i64 0) := by rw [cells_of HR4.out]; rfl
  go_wp2_with fail
  have hR5 : RcIs (w3.setCell ⟨w2.heap.size, 4, none⟩ (.int .i64 ((a : Int) / 8))) w2.heap.size sb w1.heap.size s (.pointer none) ((a : Int) / 8) 0 false := by
    unfold RcIs
    rw [heap_set_same _ HR4.out]
    rfl
  have oS : Only [w2.heap.size] w3 (w3.setCell ⟨w2.heap.size, 4, none⟩ (.int .i64 ((a : Int) / 8))) := (Only.refl _ w3).setCell (.inl (by simp)) _
  have hlo := Hid.out hsz2
  have hns : sb ∉ [w2.heap.size] := by simp; exact block_type H4.out HR4.out (by decide)
  have H5 := Lib.hid (H4.out.only oS hns)
  have hnb : w1.heap.size ∉ [w2.heap.size] := by simp; exact block_type M1.out HR4.out (by decide)
  have M5 := Lib.hid (M1.out.only oS hnb)
  have cq5 := oS.cell cq4 (by simp; omega)
  have O5 : Hid (Only [] w (w3.setCell ⟨w2.heap.size, 4, none⟩ (.int .i64 ((a : Int) / 8)))) := Lib.hid (O4.out.trans' oS (fun i hi => .inr (by simp at hi; omega)))
  have HR5 := Lib.hid hR5
  have hrb : bbNe w2.heap.size w1.heap.size := by unfold bbNe; simpa using hnb
  clear cp4 cq4 H4 HR4 O4 M1 z4 c4 hR5 oS hns hnb HBG HH Hy hs1s hlo HLen
  obtain ⟨hz1, hz2⟩ := hsz2.out
  clear hsz2 hne
  generalize w3.setCell ⟨w2.heap.size, 4, none⟩ (.int .i64 ((a : Int) / 8)) = w4 at *
  generalize w2.heap.size = rb at *
  generalize w1.heap.size = bb at *
  go_loopw [1] (fun i wr => ∃ j F : Nat, j ≤ fillN a ∧ i = .int .i64 ((a + j : Nat) : Int) ∧ RdIs wr bb s1 (a % 8 + j) ∧ RcIs wr rb sb bb s (.pointer none) F 0 false ∧ Only [rb, bb] w4 wr ∧ (j = 0 → F = a / 8) ∧ (0 < j → F = a / 8 + 1)) (fun i _ => ((8 - intOf i % 8) % 8).toNat)
  case atStart => exact ⟨0, a / 8, Nat.zero_le _, rfl, M5.out, by have := HR5.out; simpa using this, Only.refl _ _, fun _ => rfl, fun h => absurd h (by omega)⟩
  case round =>
    obtain ⟨j, F, hj, rfl, k1, k2, k3, f1, f2⟩ := hrel
    have hj7 : j ≤ 7 := by unfold fillN at hj; omega
    by_cases hz : (a + j) % 8 = 0
    · have hjl : j = fillN a := by unfold fillN at hj ⊢; omega
      have hF : F = (a + 7) / 8 := by
        rcases Nat.eq_zero_or_pos j with h | h
        · have := f1 h; unfold fillN at hjl; omega
        · have := f2 h; unfold fillN at hjl; omega
      subst hF
      have hsb5 : sb ∉ [rb, bb] := by
        have n1 := block_type H5.out HR5.out (by decide)
        have n2 := block_type H5.out M5.out (by decide)
        simp; exact ⟨n1, n2⟩
      have H6 := Lib.hid (H5.out.only k3 hsb5)
      have cq6 := k3.cell cq5 (by simp; omega)
      have c46 : wr.cell? ⟨rb, 4, none⟩ = some (.int .i64 ((a + 7) / 8 : Nat)) := by rw [cells_of k2]; rfl
      have O6 : Hid (Only [] w wr) := Lib.hid (O5.out.trans' k3 (fun i hi => .inr (by simp at hi; omega)))
      have HK2 := Lib.hid k2
      obtain ⟨A, hA⟩ : ∃ A : Int, A = ((a + j : Nat) : Int) := ⟨_, rfl⟩
      have hA8 : A % 8 = 0 ∧ 0 ≤ A ∧ A ≤ 4503599627370496 := by omega
      rw [← hA]
      clear k1 k2 k3 hA hz f1 f2 hjl hj hsb5
      go_wp2_with fail
      obtain ⟨G, hG⟩ : ∃ G : Int, G = ((a + 7) / 8 : Nat) := ⟨_, rfl⟩
      rw [← hG] at c46
      have hG0 : 0 ≤ G ∧ G ≤ (s.size : Int) := by omega
      obtain ⟨hG1, hG2⟩ := hG0
      have HG := Lib.hid hG
      clear hG
      go_region_held3 (fun w' => w'.cell? ⟨rb, 4, none⟩ = some (.int .i64 G) ∧ w'.cell? ⟨w.heap.size, 17, none⟩ = some (.int .i64 qp)) (first | exact ⟨c46, cq6⟩ | exact ⟨e2, e3⟩ | exact ⟨e0, e1⟩ | go_keep | assumption)
        (first | (go_at_call 36; refine (bins_init qp _ (by omega) (by omega)).mono ?_; rintro r w4 ⟨g, rfl, k1, k2, k3⟩; have e0 := k3.cell (show World.cell? _ ⟨rb, 4, none⟩ = some (.int .i64 G) by assumption) (by simp); have e1 := k3.cell (show World.cell? _ ⟨w.heap.size, 17, none⟩ = some (.int .i64 qp) by assumption) (by simp)) | (go_at_call 42; refine (eng_dnew _ _ (initL qp) _ (init_sl k1) (by rw [initL_length]; omega) ((HA.out.only O6.out (by simp)).only ((Only.refl [] wr).drew.trans k3) (by simp)) (by rw [ByteArray.size_extract]; omega)).mono ?_; rintro r w5 ⟨db, tb, sk, rfl, q1, q2, q3, q4, q5⟩; have e2 := q2.cell e0 (by simp); have e3 := q2.cell e1 (by simp)))
      have hGt : G.toNat = (a + 7) / 8 := by have := HG.out; omega
      have hbp : beginPtr (s.extract G.toNat s.size) db = .pointer (some ⟨db, 0, none⟩) := by rw [hGt]; unfold beginPtr; rw [if_pos H0.out]
      rw [hbp]
      rw [hGt, H0.out]
      rw [hGt, H0.out] at q1
      have Q1 := Lib.hid (q1 rfl)
      have oo : Only [] wr w5 := ((Only.refl [] wr).drew.trans k3).trans q2
      have hK6 := HK2.out.only oo (by simp)
      have z3 := free_of hK6 3
      have c3 : w5.cell? ⟨rb, 3, none⟩ = some (.pointer none) := by rw [cells_of hK6]; rfl
      have HK6 := Lib.hid hK6
      have OO := Lib.hid oo
      have hk3 : wr.heap.size ≤ w4.heap.size := k3.size
      clear hK6 oo q1 q2 k1 k3
      go_wp2
      go_ret2
      have oS : Only [rb] w5 (w5.setCell ⟨rb, 3, none⟩ (.pointer (some ⟨db, 0, none⟩))) := (Only.refl _ w5).setCell (.inl (by simp)) _
      have hs5 : BlkIn w5 sb 75 106 (stS hd wide qp) := H6.out.only OO.out (by simp)
      have hwr := O6.out.size
      have hw5 := OO.out.size
      refine ⟨sb, rb, bb, db, tb, sk, rfl, hs5.only oS (by simp; exact block_type hs5 HK6.out (by decide)), ?_, Q1.out.only oS (by simp; exact block_type Q1.out.cells HK6.out (by decide)) (by simp; exact block_type Q1.out.tab HK6.out (by decide)) (by simp; exact block_type Q1.out.sts HK6.out (by decide)), by omega, by omega, by omega, by omega, by omega, by omega, (O6.out.trans OO.out).trans' oS (fun i hi => .inr (by simp at hi; omega))⟩
      unfold RcIs
      rw [heap_set_same _ HK6.out]
      rw [show (((a + 7) / 8 : Nat) : Int) = G from HG.out.symm]
      rfl
    · have hjl : j < fillN a := by unfold fillN at hj ⊢; omega
      have c2 := k2.cells.2.2.1
      have hH1 : Holds s1 (a % 8 + j) (bitsN 1 1) := by
        have h := HF.out.2 j (by simpa using hjl)
        have h1 := HF.out.1
        refine ⟨by simp at h1 ⊢; show a % 8 + j + 1 ≤ _; omega, fun i hi => ?_⟩
        have : i = 0 := by have : (bitsN 1 1).length = 1 := rfl; omega
        subst this
        rw [Nat.add_zero, h]
        simp [List.getD, hjl]; rfl
      have HK2 := Lib.hid k2
      have HK3 := Lib.hid k3
      have hs1s : s1.size ≤ 140737488355328 := by
        rw [Hs1.out, ByteArray.size_extract, ← hSZ]; omega
      have hrd := rd_bits bb s1 (a % 8 + j) 1 1 wr k1 hH1 (by omega) (by omega) hs1s
      obtain ⟨A, hA⟩ : ∃ A : Int, A = ((a + j : Nat) : Int) := ⟨_, rfl⟩
      have HAj := Lib.hid hA
      have hA8 : A % 8 ≠ 0 ∧ 0 ≤ A ∧ A ≤ 4503599627370496 := by omega
      have Hrd := Lib.hid hrd
      rw [← hA]
      have Hz := Lib.hid hz
      have Hjl := Lib.hid hjl
      have Hj := Lib.hid hj
      clear k1 k2 k3 hrd hH1 hA hz f1 f2 hjl hj hs1s
      go_wp2_with fail
      refine Hrd.out.mono ?_
      rintro r w5 ⟨rfl, m1, m2⟩
      have hK5 := HK2.out.only m2 (by simp; intro e; exact hrb (e ▸ rfl))
      have z4 := free_of hK5 4
      have c4 : w5.cell? ⟨rb, 4, none⟩ = some (.int .i64 F) := by rw [cells_of hK5]; rfl
      have HK5 := Lib.hid hK5
      have M1 := Lib.hid m1
      have O6 := Lib.hid (HK3.out.trans (m2.mono (T := [rb, bb]) (by simp)))
      clear hK5 m1 m2 Hrd
      go_wp2
      go_roundw
      case rel =>
        have hA := HAj.out
        have hz := Hz.out
        have hjl := Hjl.out
        refine ⟨j + 1, a / 8 + 1, hjl, by rw [hA]; congr 1, ?_, ?_, O6.out.setCell (.inl (by simp)) _, fun h => absurd h (by omega), fun _ => rfl⟩
        · exact M1.out.only ((Only.refl [rb] w5).setCell (.inl (by simp)) _) (by simp; exact fun e => hrb (e ▸ rfl))
        · unfold RcIs
          rw [heap_set_same _ HK5.out]
          have e : A / 8 + 1 = ((a / 8 + 1 : Nat) : Int) := by unfold fillN at hjl; omega
          rw [e]; rfl
      case measure =>
        show ((8 - (A + 1) % 8) % 8).toNat < ((8 - A % 8) % 8).toNat
        omega
end Go.Proofs.YtcppbdlmcbjmeaaGreatDoor

namespace Go.Proofs.YtcppbdlmcbjmeaaGreatDoor
open Go.RowKit

theorem rc_set_over {rb sb bb : Nat} {s : ByteArray} {dv : Value} {fr code : Int} {over : Bool} {w : World} (h : RcIs w rb sb bb s dv fr code over) : RcIs (w.setCell ⟨rb, 6, none⟩ (.bool true)) rb sb bb s dv fr code true := by
  unfold RcIs at h ⊢
  rw [heap_set_same _ h]
  rfl
set_option maxRecDepth 100000 in
set_option maxHeartbeats 1600000 in
theorem rd_end0 {w : World} {rb sb bb n q k : Nat} {S : Nat → Value} {D : List Value} {s t : ByteArray} {fr code cnt : Int} (hR : RcIs w rb sb bb t (.pointer none) fr code false) (hs : BlkIn w sb 75 106 S) (ha : w.ownsRow 0 103 46 (S 23) n D) (h1 : S 1 = .int .i64 cnt) (hn : cnt ≤ n) (hb : RdIs w bb s q)
    (hq : q + 1 + k = 8 * s.size) (hk : k ≤ 7) (hbt : bitOf s q = 1) (hz : ∀ j, j < k → bitOf s (q + 1 + j) = 0) (hss : s.size ≤ 140737488355328) :
    Calls Tryz.prog 21 #[.pointer (some ⟨rb, 0, none⟩)] w fun e w' => e = .returned (.int .i64 0) ∧ Only [rb, bb] w w' := by
  obtain ⟨c0, c1, c2, c3, c4, c5, c6⟩ := hR.cells
  obtain ⟨ad, cap, hv⟩ := slice_of ha
  have s1 : w.cell? ⟨sb, 1, none⟩ = some (.int .i64 cnt) := by rw [hs.cell 1 (by decide), h1]
  have s23 : w.cell? ⟨sb, 23, none⟩ = some (.slice ad n cap) := by rw [hs.cell 23 (by decide), hv]
  have z6 := free_of hR 6
  have HR := Lib.hid hR
  have HB := Lib.hid hb
  have hne : bb ≠ rb := block_type hb hR (by decide)
  have Htr := Lib.hid (fun (wx : World) (h : RdIs wx bb s q) => rd_trail bb s q k wx h hq hk hbt hz hss)
  clear hR hb hs ha h1 hv hq hbt hz hss hk
  go_enter Tryz.func21, Tryz.ntmps21
  go_wp2
  go_quiet (fail)
  rename_i nq
  have HR1 : Hid (RcIs (w.drewN nq) rb sb bb t (.pointer none) fr code false) := Lib.hid HR.out
  have HB1 : Hid (RdIs (w.drewN nq) bb s q) := Lib.hid HB.out
  have O1 : Hid (Only [] w (w.drewN nq)) := Lib.hid ((Only.refl [] w).drewN nq)
  replace c2 : (w.drewN nq).cell? ⟨rb, 2, none⟩ = some (.pointer (some ⟨bb, 0, none⟩)) := c2
  replace c3 : (w.drewN nq).cell? ⟨rb, 3, none⟩ = some (.pointer none) := c3
  replace c6 : (w.drewN nq).cell? ⟨rb, 6, none⟩ = some (.bool false) := c6
  replace z6 : (w.drewN nq).frozen? ⟨rb, 6, none⟩ = false := z6
  clear HR HB s1 s23 c0 c1 c4 c5
  generalize w.drewN nq = w1 at *
  have oS : Only [rb] w1 (w1.setCell ⟨rb, 6, none⟩ (.bool true)) := (Only.refl _ w1).setCell (.inl (by simp)) _
  have HB2 := Lib.hid (HB1.out.only oS (by simpa using hne))
  have O2 : Hid (Only [rb, bb] w (w1.setCell ⟨rb, 6, none⟩ (.bool true))) := Lib.hid ((O1.out.mono (T := [rb, bb]) (by simp)).trans (oS.mono (by simp)))
  clear oS
  go_wp2_with fail
  generalize w1.setCell ⟨rb, 6, none⟩ (.bool true) = w2 at *
  refine (Htr.out w2 HB2.out).mono ?_
  rintro e w3 ⟨rfl, q1, q2⟩
  have O3 := Lib.hid (O2.out.trans (q2.mono (by simp)))
  clear q1 q2
  go_wp2
  go_ret
  exact ⟨rfl, O3.out⟩
end Go.Proofs.YtcppbdlmcbjmeaaGreatDoor

namespace Go.Proofs.YtcppbdlmcbjmeaaGreatDoor
open Go.RowKit

/-- What a reader of macroblocks holds while it reads. -/
def RcLive (w : World) (rb sb : Nat) : Prop := w.cell? ⟨rb, 0, none⟩ = some (.pointer (some ⟨sb, 0, none⟩)) ∧ w.cell? ⟨rb, 5, none⟩ = some (.int .i64 0) ∧ w.cell? ⟨rb, 6, none⟩ = some (.bool false)
/-- A macroblock read. -/
def RdMb (c : Cod) (w : World) (sb n : Nat) (S : Nat → Value) (ds : List DoneP) (F : List Nat) (r : List Ask) (y ps : Nat → Int) (p : Int) (e : Ending) (w' : World) : Prop := ∃ (Xf : Nat → Value) (v' : Value) (F' : List Nat), e = .returned (.tuple #[.agg (fnA 483 Xf), .int .i64 0]) ∧
  Sta c w' sb (upd (upd S 22 (.int .i64 (nextP p y))) 23 v') (n + 1) (donesA (ds ++ [dOf y])) F' r ∧ (∀ j, j < 482 → Xf j = .int .i64 (y j)) ∧ (y 0 ≠ 2 → Xf 482 = .slice none 0 0) ∧
  (y 0 = 2 → ∃ pb cap, Xf 482 = .slice (some ⟨pb, 0, none⟩) 384 cap ∧ PcmIs w' pb ps ∧ pb ∉ F' ∧ v'.ownBlock ≠ some pb ∧ w.heap.size ≤ pb) ∧
  Only (sb :: (F ++ (S 23).ownBlock.toList)) w w' ∧ (∀ i ∈ F', i ∈ F ∨ w.heap.size ≤ i) ∧ (∀ g, v'.ownBlock = some g → (S 23).ownBlock = some g ∨ w.heap.size ≤ g)
/-- An empty macroblock. -/
def mb0 : Nat → Value := fun j => if j = 482 then .slice none 0 0 else .int .i64 0
theorem mb0_cells : Tryz.zeroCells51 = fnA 483 mb0 := by kernel_rfl
/-- The deferred closure of a macroblock that is read finds no panic. -/
theorem mb_idle (pr pm pe : Value) (w : World) :
    CallsD Tryz.prog 45 #[pr, pm, pe] .returning w fun e u' w' => e = .returned (.tuple #[]) ∧ u' = .returning ∧ w' = w := by
  refine callsD_of_wpS Tryz.func45 rfl fun c₀ cs hu => ?_
  apply wpS_seq
  apply wpS_region
  simp [wpOpsS, go_sem, recoverD, hu, Tryz.ntmps45, Exit.thenS]
  apply wpS_seq
  apply wpS_region
  simp [wpOpsS, go_sem, Exit.thenS]
  refine wpS_cond (t := false) (by simp [Act.eval, Array.replicate]) ?_
  simp only [Bool.false_eq_true, if_false]
  refine wpS_of_wp (wp_skip ?_)
  cases c₀
  simp_all [bodyPostS, results, Tryz.results45]
set_option maxRecDepth 100000 in
set_option maxHeartbeats 6400000 in
theorem rd_mb {c : Cod} {w : World} {rb sb n f wide : Nat} {S : Nat → Value} {hd : Nat → Value} {ds : List DoneP} {F : List Nat} {r : List Ask} {y ps : Nat → Int} {p cnt a0 a1 qp : Int} (hc : c.Ok) (hT : c.T = 53) (hpv : c.pv = .pointer (some ⟨rb, 0, none⟩)) (hwr : c.wr = false)
    (hcell : ∀ F r w, c.C F r w → RcLive w rb sb ∧ rb ∈ F) (h : Sta c w sb S n (donesA ds) F (mbAsk f wide ds p y ps ++ r))
    (hh : HeadIs hd f cnt 2 a0 a1 qp) (hS : ∀ j, j < 21 → S j = hd j) (h21 : S 21 = .int .i64 wide) (h22 : S 22 = .int .i64 p) (bf : f ≤ 1000000) (bw : 1 ≤ wide ∧ wide ≤ 1000000) (bn : n ≤ 1000000) (hds : ds.length = n) (hnc : (n : Int) < cnt)
    (hb : Behind ds p) (hy : IntraOk y ps) :
    Calls Tryz.prog 19 #[.pointer (some ⟨rb, 0, none⟩)] w (RdMb c w sb n S ds F r y ps p) := by
  have hmf : ∀ (fn : Fn) (first cap : Array Value) (w : World), (Instr.makeFunc fn first cap).run Tryz.prog w = .ok (.func fn first cap) w := fun _ _ _ _ => rfl
  obtain ⟨hlv, hrF⟩ := hcell F _ _ h.c
  have hF : ∀ i ∈ F, i < w.heap.size := fun i hi => hc.low F _ _ h.c i hi
  have hg23 : ∀ g, (S 23).ownBlock = some g → g < w.heap.size := fun g hg => by obtain ⟨cur, hcur⟩ := ownsRow_block h.a hg; exact lt_of_block hcur
  have hsl := h.s.lt
  have hrl := hF rb hrF
  obtain ⟨ad, capd, hv23⟩ : ∃ ad capd, S 23 = .slice ad n capd := by
    rcases h.a.2 with ⟨h1, h2⟩ | ⟨g, cap, cur, h1, _⟩
    · exact ⟨none, 0, by rw [h1, h2]⟩
    · exact ⟨_, cap, h1⟩
  obtain ⟨wA, hwA⟩ : ∃ wA, wA = ((w.alloc (.cells #[.pointer (some ⟨rb, 0, none⟩)] 53)).alloc (.cells Tryz.zeroCells51 51)).alloc (.cells #[.int .i64 0] 32) := ⟨_, rfl⟩
  have oA : Only [] w wA := by rw [hwA]; exact (((Only.refl _ w).alloc _).alloc _).alloc _
  have a0 : wA.heap[w.heap.size]? = some (.cells #[.pointer (some ⟨rb, 0, none⟩)] 53 (0, 0)) := by rw [hwA]; exact heap_alloc_lt _ (heap_alloc_lt _ (heap_alloc_at w _))
  have a1 : BlkIn wA (w.heap.size + 1) 483 51 mb0 := by
    unfold BlkIn
    rw [hwA, ← mb0_cells]
    have := heap_alloc_at (w.alloc (.cells #[.pointer (some ⟨rb, 0, none⟩)] 53)) (.cells Tryz.zeroCells51 51)
    exact heap_alloc_lt _ (by simpa using this)
  have a2 : wA.heap[w.heap.size + 1 + 1]? = some (.cells #[.int .i64 0] 32 (0, 0)) := by
    rw [hwA]
    have := heap_alloc_at ((w.alloc (.cells #[.pointer (some ⟨rb, 0, none⟩)] 53)).alloc (.cells Tryz.zeroCells51 51)) (.cells #[.int .i64 0] 32)
    simpa using this
  have sA : w.heap.size + 1 + 1 < wA.heap.size := lt_of_block a2
  have hSt := h.only hc oA (by simp) (by simp) (by simp)
  obtain ⟨r0, r5, r6⟩ := (hcell F _ _ hSt.c).1
  have cr : wA.cell? ⟨w.heap.size, 0, none⟩ = some (.pointer (some ⟨rb, 0, none⟩)) := by rw [cells_of a0]; rfl
  have cs1 : wA.cell? ⟨sb, 1, none⟩ = some (.int .i64 cnt) := by rw [hSt.s.cell 1 (by decide), hS 1 (by decide), hh.h1]
  have cs23 : wA.cell? ⟨sb, 23, none⟩ = some (.slice ad n capd) := by rw [hSt.s.cell 23 (by decide), hv23]
  have ze := free_of a2 0
  have HSt := Lib.hid hSt
  have HB := Lib.hid a1
  have HE := Lib.hid a2
  have HO := Lib.hid oA
  have Hh := Lib.hid hh
  have HS := Lib.hid hS
  have HF := Lib.hid hF
  have Hg23 := Lib.hid hg23
  have Hv23 := Lib.hid hv23
  clear hSt a1 a2 a0 oA hh hS hF hg23 hv23 hlv
  go_enter_defers Tryz.func19, Tryz.ntmps19
  go_wp2_with fail
  rw [← hwA]
  clear hwA
  go_quiet (fail)
  rename_i nq
  replace HSt : Hid (Sta c (wA.drewN nq) sb S n (donesA ds) F (mbAsk f wide ds p y ps ++ r)) := Lib.hid (HSt.out.only hc ((Only.refl [] wA).drewN nq) (by simp) (by simp) (by simp))
  replace HB : Hid (BlkIn (wA.drewN nq) (w.heap.size + 1) 483 51 mb0) := Lib.hid HB.out
  replace HE : Hid ((wA.drewN nq).heap[w.heap.size + 1 + 1]? = some (.cells #[.int .i64 0] 32 (0, 0))) := Lib.hid HE.out
  replace HO : Hid (Only [] w (wA.drewN nq)) := Lib.hid (HO.out.drewN nq)
  replace cr : (wA.drewN nq).cell? ⟨w.heap.size, 0, none⟩ = some (.pointer (some ⟨rb, 0, none⟩)) := cr
  replace r0 : (wA.drewN nq).cell? ⟨rb, 0, none⟩ = some (.pointer (some ⟨sb, 0, none⟩)) := r0
  replace r5 : (wA.drewN nq).cell? ⟨rb, 5, none⟩ = some (.int .i64 0) := r5
  replace sA : w.heap.size + 1 + 1 < (wA.drewN nq).heap.size := sA
  replace ze : (wA.drewN nq).frozen? ⟨w.heap.size + 1 + 1, 0, none⟩ = false := ze
  clear r6 cs1 cs23
  generalize wA.drewN nq = w1 at *
  rw [show decide (cnt ≤ (n : Int)) = false from decide_eq_false (by omega)]
  go_wp2_with fail
  go_still_tail 7, (by kernel_rfl)
  change wpList _ _ _ _ _ w1.drew
  replace HSt : Hid (Sta c w1.drew sb S n (donesA ds) F (mbAsk f wide ds p y ps ++ r)) := Lib.hid (HSt.out.only hc (Only.refl [] w1).drew (by simp) (by simp) (by simp))
  replace HB : Hid (BlkIn w1.drew (w.heap.size + 1) 483 51 mb0) := Lib.hid HB.out
  replace HE : Hid (w1.drew.heap[w.heap.size + 1 + 1]? = some (.cells #[.int .i64 0] 32 (0, 0))) := Lib.hid HE.out
  replace HO : Hid (Only [] w w1.drew) := Lib.hid HO.out.drew
  replace sA : w.heap.size + 1 + 1 < w1.drew.heap.size := sA
  clear cr r0 r5 ze
  generalize w1.drew = w2 at *
  go_wp2_with fail
  have oK : Only [] w2 (w2.alloc (.cells #[.pointer (some ⟨sb, 0, none⟩), .iface 53 (.pointer (some ⟨rb, 0, none⟩)), .pointer (some ⟨w.heap.size + 1, 0, none⟩)] 112)) := (Only.refl [] w2).alloc _
  have hst4 := HSt.out.only hc oK (by simp) (by simp) (by simp)
  have hsK := oK.size
  have sc : Scene c F _ (w2.alloc (.cells #[.pointer (some ⟨sb, 0, none⟩), .iface 53 (.pointer (some ⟨rb, 0, none⟩)), .pointer (some ⟨w.heap.size + 1, 0, none⟩)] 112)) w2.heap.size sb (w.heap.size + 1) S mb0 n (donesA ds) F (mbAsk f wide ds p y ps ++ r) :=
    { k := by rw [hT, hpv]; exact heap_alloc_at w2 _, s := hst4.s, m := HB.out.only oK (by simp), a := hst4.a, c := hst4.c, nk := fun e => by have := HF.out _ e; omega, ns := hst4.ns, nm := fun e => by have := HF.out _ e; omega, na := hst4.na, o := Only.refl _ _, n := fun _ hi => .inl hi, l := ⟨lt_of_block (heap_alloc_at w2 _), hst4.s.lt, (HB.out.only oK (by simp)).lt⟩ }
  refine (wk_run_I hc sc (by rw [HS.out 0 (by decide), Hh.out.h0]) (by rw [HS.out 2 (by decide), Hh.out.h2]) h21 h22 bf bw bn hds hb hy (x := fun _ => 0) ⟨fun j hj => by unfold mb0; rw [if_neg (by omega)], fun e => (by rw [hwr] at e; cases e), fun _ _ _ => rfl⟩ (fun _ => .inl ⟨hwr, rfl⟩)).mono ?_
  rintro e w5 ⟨rfl, v', F', Xf, G', hr, h6, h7, h8⟩
  have hp8 : y 0 = 2 → ∃ pb cap, Xf 482 = .slice (some ⟨pb, 0, none⟩) 384 cap ∧ PcmIs w5 pb ps ∧ pb ∉ F' ∧ w2.heap.size < pb ∧ G' = pb :: (S 23).ownBlock.toList := fun h2 => by
    obtain ⟨pb, capb, q1, q2, q3, q4, q5⟩ := h8 h2
    refine ⟨pb, capb, q1, q2, q3, ?_, q5⟩
    rcases q4 with q4 | ⟨cap', q4⟩
    · rw [World.size_alloc] at q4; omega
    · cases q4
  have hG : ∀ g ∈ G', (S 23).ownBlock = some g ∨ w2.heap.size < g := by
    intro g hg
    by_cases h2 : y 0 = 2
    · obtain ⟨pb, capb, q1, q2, q3, q4, q5⟩ := hp8 h2
      rw [q5] at hg
      rcases List.mem_cons.1 hg with rfl | hg
      · exact .inr q4
      · exact .inl (by simpa using hg)
    · rw [(h7 h2).2] at hg
      exact .inl (by simpa using hg)
  have hga : ∀ g, v'.ownBlock = some g → (S 23).ownBlock = some g ∨ w2.heap.size < g := by
    intro g hg
    rcases hr.ga g (by rw [upd_same]; exact hg) with h1 | h1
    · exact hG g h1
    · rw [World.size_alloc] at h1; exact .inr (by omega)
  have hpo : ∀ pb, v'.ownBlock = some pb → ∀ cap, Xf 482 = .slice (some ⟨pb, 0, none⟩) 384 cap → y 0 = 2 → False := by
    intro pb hg cap hx h2
    obtain ⟨pb2, capb, q1, q2, q3, q4, q5⟩ := hp8 h2
    rw [q1] at hx
    injection hx with hx
    injection hx with hx
    injection hx with hx
    subst hx
    obtain ⟨cur, hcur⟩ := ownsRow_block hr.a (by rw [upd_same]; exact hg)
    obtain ⟨cur2, hcur2, -⟩ := q2
    rw [hcur] at hcur2
    simp at hcur2
  have sta : Sta c w5 sb (upd (upd S 22 (.int .i64 (nextP p y))) 23 v') (n + 1) (donesA (ds ++ [dOf y])) F' r := ⟨hr.s, hr.a, hr.c, hr.ns, hr.na⟩
  have o5 : Only (sb :: (F ++ (S 23).ownBlock.toList)) w w5 := by
    refine ((HO.out.trans oK).mono (T := sb :: (F ++ (S 23).ownBlock.toList)) (by simp)).trans' hr.o (fun i hi => ?_)
    simp only [List.mem_cons, List.mem_append, Option.mem_toList] at hi ⊢
    rcases hi with h1 | h1 | h1 | h1
    · exact .inl (.inl h1)
    · exact .inr (by omega)
    · exact .inl (.inr (.inl h1))
    · rcases hG i h1 with h2 | h2
      · exact .inl (.inr (.inr h2))
      · exact .inr (by omega)
  have hM5 : BlkIn w5 (w.heap.size + 1) 483 51 Xf := hr.m
  have hnM : w.heap.size + 1 ∉ F' := hr.nm
  have hE5 : w5.heap[w.heap.size + 1 + 1]? = some (.cells #[.int .i64 0] 32 (0, 0)) := (hr.o.heap (oK.heap HE.out (by simp)) (by
    simp only [List.mem_cons, List.mem_append, not_or]
    refine ⟨by omega, by omega, fun e => by have := HF.out _ e; omega, fun e => ?_⟩
    rcases hG _ e with h1 | h1
    · have := Hg23.out _ h1; omega
    · omega))
  have hFn : ∀ i ∈ F', i ∈ F ∨ w.heap.size + 1 + 1 < i := fun i hi => (hr.n i hi).imp id (fun h => by rw [World.size_alloc] at h; omega)
  obtain ⟨XL, hXL⟩ : ∃ XL, XL = (fnA 483 Xf).toList := ⟨_, rfl⟩
  have eX : fnA 483 Xf = XL.toArray := by rw [hXL, fnA_toArray]
  have hX1 : XL.toArray.all (·.oneCell') = true := by
    rw [Array.all_eq_true_iff_forall_mem]
    intro v hv
    rw [hXL] at hv
    obtain ⟨j, hj, rfl⟩ : ∃ j, j < 483 ∧ Xf j = v := by simpa [fnA] using hv
    by_cases hj2 : j < 482
    · rw [h6 j hj2]; rfl
    · obtain rfl : j = 482 := by omega
      by_cases h2 : y 0 = 2
      · obtain ⟨pb, capb, q1, -⟩ := hp8 h2
        rw [q1]; rfl
      · rw [(h7 h2).1]; rfl
  have hXi : (Tryz.prog.info? 51).map (·.size) = some XL.toArray.size := by rw [List.size_toArray, hXL, fnA_list_length]; kernel_rfl
  have hM6 : w5.heap[w.heap.size + 1]? = some (.cells XL.toArray 51 (0, 0)) := by rw [← eX]; exact hM5
  have hrX : w5.rangeAt (w.heap.size + 1) 0 XL := by rw [hXL]; exact hM5.range
  have hXi2 : (Tryz.prog.info? 51).map (·.size) = some XL.length := by rw [hXi, List.size_toArray]
  have Hpost : Hid (∀ w7, Only [w.heap.size + 1, w.heap.size + 1 + 1] w5 w7 → RdMb c w sb n S ds F r y ps p (.returned (.tuple #[.agg XL.toArray, .int .i64 0])) w7) := Lib.hid (by
    intro w7 o7
    have hgn : ∀ g, v'.ownBlock = some g → g ∉ [w.heap.size + 1, w.heap.size + 1 + 1] := by
      intro g hg
      simp only [List.mem_cons, List.not_mem_nil, or_false, not_or]
      rcases hga g hg with h1 | h1
      · have := Hg23.out _ h1; omega
      · omega
    refine ⟨Xf, v', F', by rw [← eX], sta.only hc o7 (by simp; omega) (by rw [upd_same]; exact hgn) (fun i hi => ?_), h6, fun h2 => (h7 h2).1, fun h2 => ?_, o5.trans' o7 (fun i hi => .inr (by simp at hi; omega)), fun i hi => (hFn i hi).imp id (by omega), fun g hg => (hga g hg).imp id (by omega)⟩
    · simp only [List.mem_cons, List.not_mem_nil, or_false, not_or]
      rcases hFn i hi with h1 | h1
      · have := HF.out _ h1; omega
      · omega
    · obtain ⟨pb, capb, q1, q2, q3, q4, q5⟩ := hp8 h2
      exact ⟨pb, capb, q1, q2.only o7 (by simp; omega), q3, fun hg => hpo pb hg capb q1 h2, by omega⟩)
  have HM6 := Lib.hid hM6
  have HrX := Lib.hid hrX
  have HX1 := Lib.hid hX1
  have HXi := Lib.hid hXi
  have HXi2 := Lib.hid hXi2
  have HE5 := Lib.hid hE5
  have sA5 : w.heap.size + 1 + 1 < w5.heap.size := lt_of_block hE5
  clear hM6 hrX hX1 hXi hXi2 hE5 sta o5 hM5 hnM hFn hXL eX hpo hga hG hp8 hr h6 h7 h8 sc hst4 oK hsK
  go_wp2_with (with_reducible first
    | refine wpList_load_mid rfl 51 _ rfl (w.heap.size + 1) 0 rfl XL _ HrX.out Tryz.underlying51 rfl HXi2.out ?_
    | refine wpList_store_agg rfl 51 _ _ rfl (w.heap.size + 1) XL.toArray rfl rfl HM6.out HXi.out rfl HX1.out ?_)
  intro w6 hw6 ho6
  have HM7 := Lib.hid hw6
  have he6 := ho6.heap HE5.out (by simp)
  have ce6 := cells_of he6 0
  have ze6 := free_of he6 0
  have HE6 := Lib.hid he6
  have O6 := Lib.hid ho6
  clear hw6 ho6 he6 HM6 HrX HX1
  go_wp2
  refine leaves_cons (f := 45) (args := #[.pointer (some ⟨w.heap.size, 0, none⟩), .pointer (some ⟨w.heap.size + 1, 0, none⟩), .pointer (some ⟨w.heap.size + 1 + 1, 0, none⟩)]) (by simp) (by simp [go_sem]) ?_
  refine (mb_idle _ _ _ _).mono ?_
  rintro e u' w'' ⟨rfl, rfl, rfl⟩
  have oS : Only [w.heap.size + 1 + 1] w6 (w6.setCell ⟨w.heap.size + 1 + 1, 0, none⟩ (.int .i64 0)) := (Only.refl _ w6).setCell (.inl (by simp)) _
  have hM8 := oS.heap HM7.out (by simp)
  have hE8 := heap_set_same (i := 0) (.int .i64 0) HE6.out
  have O8 := O6.out.mono (T := [w.heap.size + 1, w.heap.size + 1 + 1]) (by simp) |>.trans (oS.mono (by simp))
  generalize w6.setCell ⟨w.heap.size + 1 + 1, 0, none⟩ (.int .i64 0) = w8 at *
  have hrow := run_loadVar_row (P := Tryz.prog) w8 (w.heap.size + 1) _ 51 XL.toArray (0, 0) _ hM8 Tryz.underlying51 rfl HXi.out
  have ce8 : w8.cell? ⟨w.heap.size + 1 + 1, 0, none⟩ = some (.int .i64 0) := by rw [cells_of hE8]; rfl
  have hone : (loadVar 32 ⟨w.heap.size + 1 + 1, 0, none⟩).run Tryz.prog w8 = .ok (.int .i64 0) w8 := by simp [go_sem, ce8]
  have hp := Hpost.out w8 O8
  simp [Leaves, settle, results, Tryz.results19, asAddr, hrow, hone]
  exact hp
end Go.Proofs.YtcppbdlmcbjmeaaGreatDoor

namespace Go.Proofs.YtcppbdlmcbjmeaaGreatDoor
open Go.RowKit

/-- A macroblock as numbers: its cells, its samples. -/
structure MbN where
  y : Nat → Int
  ps : Nat → Int
def MbN.ok (m : MbN) : Prop := IntraOk m.y m.ps
def dsOf (ms : List MbN) : List DoneP := ms.map fun m => dOf m.y
def qpOf (p : Int) (ms : List MbN) : Int := ms.foldl (fun p m => nextP p m.y) p
def sliceAsk (f wide : Nat) : List DoneP → Int → List MbN → List Ask
  | _, _, [] => []
  | ds, p, m :: l => mbAsk f wide ds p m.y m.ps ++ sliceAsk f wide (ds ++ [dOf m.y]) (nextP p m.y) l
theorem fine_slice (f wide : Nat) : ∀ (l : List MbN) (ds : List DoneP) (p : Int), (∀ m ∈ l, m.ok) → Behind ds p → ∀ a ∈ sliceAsk f wide ds p l, a.fine
  | [], _, _, _, _ => fine_nil
  | m :: l, ds, p, hm, hb => fine_of (fine_mb (hm m (by simp)) hb f wide) (fine_slice f wide l _ _ (fun x hx => hm x (by simp [hx])) (hb.next (hm m (by simp))))
theorem modesAsk_length {g : Nat → List Ask} {k : Nat} (h : ∀ b, (g b).length ≤ k) : ∀ j, (modesAsk g j).length ≤ j * k
  | 0 => by simp [modesAsk]
  | j + 1 => by
    have h1 := h (16 - (j + 1))
    have h2 := modesAsk_length h j
    show (g (16 - (j + 1)) ++ modesAsk g j).length ≤ _
    rw [List.length_append, Nat.add_mul]
    omega
theorem chromaAsk_length (inc : Int) (y : Nat → Int) : ∀ j, (chromaAsk inc y j).length = j
  | 0 => rfl
  | j + 1 => by simp [chromaAsk, chromaAsk_length inc y j]
theorem restAsk_length (kind : Int) (L H : Nat) (d inc : Int) (y : Nat → Int) : (restAsk kind L H d inc y).length ≤ 40 := by
  have h0 : ∀ b, (lumaAsk kind L inc y b).length ≤ 1 := by
    intro b
    unfold lumaAsk
    split
    · simp
    · split <;> simp
  have h1 := modesAsk_length h0 16
  unfold restAsk
  simp only [List.length_cons, List.length_append]
  have h2 : (if toldB kind (L + 16 * H) = true then [Ask.elem 13 0 d 0] else []).length ≤ 1 := by split <;> simp
  have h3 : (if kind = 1 then [Ask.coefs (csOf y 434 16) 0 inc] else []).length ≤ 1 := by split <;> simp
  have h4 : (if 0 < H then [Ask.coefs (csOf y 450 4) 3 inc, .coefs (csOf y 466 4) 3 inc] else []).length ≤ 2 := by split <;> simp
  have h5 : (if H = 2 then chromaAsk inc y 8 else []).length ≤ 8 := by split <;> simp [chromaAsk_length]
  omega
theorem mbAsk_length (f wide : Nat) (ds : List DoneP) (p : Int) (y ps : Nat → Int) : (mbAsk f wide ds p y ps).length ≤ 400 := by
  unfold mbAsk
  rw [List.length_cons]
  split
  · simp [pcmAsk]
  · split
    · have := restAsk_length 1 (lumaN y) (chromaN y) (dqp p (y 49)) (incN ds f wide) y
      simp only [List.length_cons]
      omega
    · have := restAsk_length 0 (lumaN y) (chromaN y) (dqp p (y 49)) (incN ds f wide) y
      have h1 := modesAsk_length (g := fun b => modeAsk (usualB ds f wide ds.length (fun i => y (2 + i)) b) (y (2 + b))) (k := 2) (fun b => by unfold modeAsk; split <;> simp) 16
      simp only [List.length_cons, List.length_append]
      omega
theorem sliceAsk_length (f wide : Nat) : ∀ (l : List MbN) (ds : List DoneP) (p : Int), (sliceAsk f wide ds p l).length ≤ 400 * l.length
  | [], _, _ => by simp [sliceAsk]
  | m :: l, ds, p => by
    have h1 := mbAsk_length f wide ds p m.y m.ps
    have h2 := sliceAsk_length f wide l (ds ++ [dOf m.y]) (nextP p m.y)
    show (mbAsk f wide ds p m.y m.ps ++ _).length ≤ _
    rw [List.length_append, List.length_cons]
    omega
theorem behind_nil {p : Int} (h : 0 ≤ p ∧ p ≤ 51) : Behind [] p := ⟨h, fun _ h => absurd h (by simp), fun _ h => absurd h (by simp)⟩
theorem behind_all : ∀ (l : List MbN) (ds : List DoneP) (p : Int), (∀ m ∈ l, m.ok) → Behind ds p → Behind (ds ++ dsOf l) (qpOf p l)
  | [], ds, p, _, h => by simpa [dsOf, qpOf] using h
  | m :: l, ds, p, hm, h => by
    have := behind_all l (ds ++ [dOf m.y]) (nextP p m.y) (fun x hx => hm x (by simp [hx])) (h.next (hm m (by simp)))
    simpa [dsOf, qpOf] using this
/-- Between two macroblocks: n are done, the rest is still to come, all this in the blocks G. -/
structure Along (c : Cod) (w : World) (sb : Nat) (hd : Nat → Value) (f wide : Nat) (p : Int) (ms : List MbN) (n : Nat) (G : List Nat) : Prop where
  sta : ∃ (S : Nat → Value) (F : List Nat), Sta c w sb S n (donesA (dsOf (ms.take n))) F (sliceAsk f wide (dsOf (ms.take n)) (qpOf p (ms.take n)) (ms.drop n)) ∧ (∀ j, j < 21 → S j = hd j) ∧ S 21 = .int .i64 wide ∧ S 22 = .int .i64 (qpOf p (ms.take n)) ∧ G = sb :: (F ++ (S 23).ownBlock.toList)
theorem dsOf_length (ms : List MbN) : (dsOf ms).length = ms.length := by simp [dsOf]
theorem take_snoc {ms : List MbN} {n : Nat} {m : MbN} (h : ms[n]? = some m) : ms.take (n + 1) = ms.take n ++ [m] := by rw [List.take_add_one, h]; rfl
theorem drop_snoc {ms : List MbN} {n : Nat} {m : MbN} (h : ms[n]? = some m) : ms.drop n = m :: ms.drop (n + 1) := by
  have hn : n < ms.length := by
    rcases Nat.lt_or_ge n ms.length with h2 | h2
    · exact h2
    · rw [List.getElem?_eq_none h2] at h; cases h
  rw [List.drop_eq_getElem_cons hn]
  rw [List.getElem?_eq_getElem hn] at h
  injection h with h
  rw [h]
theorem dsOf_snoc (l : List MbN) (m : MbN) : dsOf (l ++ [m]) = dsOf l ++ [dOf m.y] := by simp [dsOf]
theorem qpOf_snoc (p : Int) (l : List MbN) (m : MbN) : qpOf p (l ++ [m]) = nextP (qpOf p l) m.y := by simp [qpOf]
/-- A macroblock in memory, as a writer is handed it. -/
structure MbIn (w : World) (X : Nat → Value) (m : MbN) : Prop where
  cell : ∀ j, j < 482 → X j = .int .i64 (m.y j)
  pcm : ∃ (ao : Option Addr) (len cap : Nat), X 482 = .slice ao len cap ∧ (len = if m.y 0 = 2 then 384 else 0) ∧ (m.y 0 ≠ 2 → ao = none ∧ cap = 0) ∧ (m.y 0 = 2 → ∃ g, ao = some ⟨g, 0, none⟩ ∧ ∀ i, i < 384 → w.cell? ⟨g, i, none⟩ = some (.int .u8 (m.ps i)))
/-- A macroblock in memory, as a reader gives it: its samples in a block of its own. -/
structure MbOutN (w : World) (G : List Nat) (X : Nat → Value) (m : MbN) : Prop where
  cell : ∀ j, j < 482 → X j = .int .i64 (m.y j)
  nil : m.y 0 ≠ 2 → X 482 = .slice none 0 0
  pcm : m.y 0 = 2 → ∃ pb cap, X 482 = .slice (some ⟨pb, 0, none⟩) 384 cap ∧ PcmIs w pb m.ps ∧ pb ∉ G ∧ pb < w.heap.size
/-- What is done elsewhere leaves it. -/
theorem MbOutN.step {w w' : World} {G G' Y : List Nat} {X : Nat → Value} {m : MbN} (h : MbOutN w G X m) (ho : Only Y w w') (hY : ∀ i ∈ Y, i ∈ G ∨ w.heap.size ≤ i) (hG : ∀ i ∈ G', i ∈ G ∨ w.heap.size ≤ i) : MbOutN w' G' X m where
  cell := h.cell
  nil := h.nil
  pcm := fun h2 => by
    obtain ⟨pb, cap, h3, h4, h5, h6⟩ := h.pcm h2
    refine ⟨pb, cap, h3, h4.only ho (fun e => ?_), fun e => ?_, Nat.lt_of_lt_of_le h6 ho.size⟩
    · rcases hY pb e with h7 | h7
      · exact h5 h7
      · omega
    · rcases hG pb e with h7 | h7
      · exact h5 h7
      · omega
/-- Something else was done. -/
theorem Along.only {c : Cod} {w w' : World} {sb f wide n : Nat} {hd : Nat → Value} {p : Int} {ms : List MbN} {G Y : List Nat} (h : Along c w sb hd f wide p ms n G) (hc : c.Ok) (ho : Only Y w w') (hY : ∀ i ∈ G, i ∉ Y) : Along c w' sb hd f wide p ms n G := by
  obtain ⟨S, F, h1, h2, h3, h4, rfl⟩ := h.sta
  exact ⟨S, F, h1.only hc ho (hY sb (by simp)) (fun g hg => hY g (by simp [hg])) (fun i hi => hY i (by simp [hi])), h2, h3, h4, rfl⟩
theorem Along.low {c : Cod} {w : World} {sb f wide n : Nat} {hd : Nat → Value} {p : Int} {ms : List MbN} {G : List Nat} (h : Along c w sb hd f wide p ms n G) (hc : c.Ok) : ∀ i ∈ G, i < w.heap.size := by
  obtain ⟨S, F, h1, -, -, -, rfl⟩ := h.sta
  intro i hi
  simp only [List.mem_cons, List.mem_append, Option.mem_toList] at hi
  rcases hi with rfl | hi | hi
  · exact h1.s.lt
  · exact hc.low _ _ _ h1.c i hi
  · obtain ⟨cur, hcur⟩ := ownsRow_block h1.a hi
    exact lt_of_block hcur
theorem along_upd {S : Nat → Value} {hd : Nat → Value} {wide : Nat} {q : Int} {v' : Value} (h2 : ∀ j, j < 21 → S j = hd j) (h3 : S 21 = .int .i64 wide) :
    (∀ j, j < 21 → upd (upd S 22 (.int .i64 q)) 23 v' j = hd j) ∧ upd (upd S 22 (.int .i64 q)) 23 v' 21 = .int .i64 wide ∧ upd (upd S 22 (.int .i64 q)) 23 v' 22 = .int .i64 q ∧ upd (upd S 22 (.int .i64 q)) 23 v' 23 = v' := by
  refine ⟨fun j hj => ?_, ?_, ?_, upd_same _ _ _⟩
  · rw [upd_ne _ _ (by omega), upd_ne _ _ (by omega), h2 j hj]
  · rw [upd_ne _ _ (by omega), upd_ne _ _ (by omega), h3]
  · rw [upd_ne _ _ (by omega), upd_same]
/-- The next macroblock is written. -/
theorem wr_next {c : Cod} {w : World} {wb sb f wide n : Nat} {hd X : Nat → Value} {p cnt a0 a1 qp : Int} {ms : List MbN} {m : MbN} {G : List Nat} (hc : c.Ok) (hT : c.T = 31) (hpv : c.pv = .pointer (some ⟨wb, 0, none⟩)) (hwr : c.wr = true)
    (hcell : ∀ F r w, c.C F r w → w.cell? ⟨wb, 0, none⟩ = some (.pointer (some ⟨sb, 0, none⟩)) ∧ wb ∈ F) (h : Along c w sb hd f wide p ms n G) (hm : ms[n]? = some m) (hok : ∀ m ∈ ms, m.ok) (hp : 0 ≤ p ∧ p ≤ 51)
    (hh : HeadIs hd f cnt 2 a0 a1 qp) (bf : f ≤ 1000000) (bw : 1 ≤ wide ∧ wide ≤ 1000000) (bn : n ≤ 1000000) (hnc : (n : Int) < cnt) (hX : MbIn w X m) :
    Calls Tryz.prog 15 #[.pointer (some ⟨wb, 0, none⟩), .agg (fnA 483 X)] w fun e w' => e = .returned (.int .i64 0) ∧ ∃ G', Along c w' sb hd f wide p ms (n + 1) G' ∧ Only G w w' ∧ ∀ i ∈ G', i ∈ G ∨ w.heap.size ≤ i := by
  obtain ⟨S, F, h1, h2, h3, h4, rfl⟩ := h.sta
  obtain ⟨ao, len, cap, q1, q2, q3, q4⟩ := hX.pcm
  have hn : n < ms.length := by
    rcases Nat.lt_or_ge n ms.length with h2 | h2
    · exact h2
    · rw [List.getElem?_eq_none h2] at hm; cases hm
  rw [drop_snoc hm] at h1
  have hb := behind_all (ms.take n) [] p (fun x hx => hok x (List.mem_of_mem_take hx)) (behind_nil hp)
  rw [List.nil_append] at hb
  refine (wr_mb hc hT hpv hwr hcell h1 hh h2 h3 h4 bf bw bn (by rw [dsOf_length, List.length_take]; omega) hnc hb (hok m (List.mem_of_getElem? hm)) hX.cell q1 q2 q3 q4).mono ?_
  rintro e w' ⟨rfl, v', F', k1, k2, k3, k4⟩
  obtain ⟨e1, e2, e3, e4⟩ := along_upd (q := nextP (qpOf p (ms.take n)) m.y) (v' := v') h2 h3
  refine ⟨rfl, _, ⟨_, F', by rw [take_snoc hm, dsOf_snoc, qpOf_snoc]; exact k1, e1, e2, by rw [take_snoc hm, qpOf_snoc]; exact e3, rfl⟩, k2, fun i hi => ?_⟩
  rw [e4] at hi
  simp only [List.mem_cons, List.mem_append, Option.mem_toList] at hi ⊢
  rcases hi with rfl | hi | hi
  · exact .inl (.inl rfl)
  · rcases k3 i hi with h7 | h7
    · exact .inl (.inr (.inl h7))
    · exact .inr h7
  · rcases k4 i hi with h7 | h7
    · exact .inl (.inr (.inr h7))
    · exact .inr h7
/-- The next macroblock, read. -/
def RdNext (c : Cod) (w : World) (sb : Nat) (hd : Nat → Value) (f wide : Nat) (p : Int) (ms : List MbN) (n : Nat) (G : List Nat) (m : MbN) (e : Ending) (w' : World) : Prop := ∃ (Xf : Nat → Value) (G' : List Nat), e = .returned (.tuple #[.agg (fnA 483 Xf), .int .i64 0]) ∧ Along c w' sb hd f wide p ms (n + 1) G' ∧ Only G w w' ∧ (∀ i ∈ G', i ∈ G ∨ w.heap.size ≤ i) ∧ MbOutN w' G' Xf m
theorem rd_next {c : Cod} {w : World} {rb sb f wide n : Nat} {hd : Nat → Value} {p cnt a0 a1 qp : Int} {ms : List MbN} {m : MbN} {G : List Nat} (hc : c.Ok) (hT : c.T = 53) (hpv : c.pv = .pointer (some ⟨rb, 0, none⟩)) (hwr : c.wr = false)
    (hcell : ∀ F r w, c.C F r w → RcLive w rb sb ∧ rb ∈ F) (h : Along c w sb hd f wide p ms n G) (hm : ms[n]? = some m) (hok : ∀ m ∈ ms, m.ok) (hp : 0 ≤ p ∧ p ≤ 51)
    (hh : HeadIs hd f cnt 2 a0 a1 qp) (bf : f ≤ 1000000) (bw : 1 ≤ wide ∧ wide ≤ 1000000) (bn : n ≤ 1000000) (hnc : (n : Int) < cnt) :
    Calls Tryz.prog 19 #[.pointer (some ⟨rb, 0, none⟩)] w (RdNext c w sb hd f wide p ms n G m) := by
  obtain ⟨S, F, h1, h2, h3, h4, rfl⟩ := h.sta
  have hn : n < ms.length := by
    rcases Nat.lt_or_ge n ms.length with h2 | h2
    · exact h2
    · rw [List.getElem?_eq_none h2] at hm; cases hm
  rw [drop_snoc hm] at h1
  have hb := behind_all (ms.take n) [] p (fun x hx => hok x (List.mem_of_mem_take hx)) (behind_nil hp)
  rw [List.nil_append] at hb
  refine (rd_mb hc hT hpv hwr hcell h1 hh h2 h3 h4 bf bw bn (by rw [dsOf_length, List.length_take]; omega) hnc hb (hok m (List.mem_of_getElem? hm))).mono ?_
  rintro e w' ⟨Xf, v', F', rfl, k1, k5, k6, k7, k2, k3, k4⟩
  obtain ⟨e1, e2, e3, e4⟩ := along_upd (q := nextP (qpOf p (ms.take n)) m.y) (v' := v') h2 h3
  refine ⟨Xf, _, rfl, ⟨_, F', by rw [take_snoc hm, dsOf_snoc, qpOf_snoc]; exact k1, e1, e2, by rw [take_snoc hm, qpOf_snoc]; exact e3, rfl⟩, k2, fun i hi => ?_, ⟨k5, k6, fun h2 => ?_⟩⟩
  · rw [e4] at hi
    simp only [List.mem_cons, List.mem_append, Option.mem_toList] at hi ⊢
    rcases hi with rfl | hi | hi
    · exact .inl (.inl rfl)
    · rcases k3 i hi with h7 | h7
      · exact .inl (.inr (.inl h7))
      · exact .inr h7
    · rcases k4 i hi with h7 | h7
      · exact .inl (.inr (.inr h7))
      · exact .inr h7
  · obtain ⟨pb, cap, j1, j2, j3, j4, j5⟩ := k7 h2
    refine ⟨pb, cap, j1, j2, ?_, j2.lt⟩
    rw [e4]
    simp only [List.mem_cons, List.mem_append, Option.mem_toList, not_or]
    exact ⟨fun e => by have := h1.s.lt; omega, j3, j4⟩
end Go.Proofs.YtcppbdlmcbjmeaaGreatDoor

namespace Go.Proofs.YtcppbdlmcbjmeaaGreatDoor
open Go.RowKit

set_option maxRecDepth 100000 in
set_option maxHeartbeats 3200000 in
theorem rd_end1 {w : World} {rb sb bb db tb sk n q k frn : Nat} {S : Nat → Value} {D : List Value} {s t : ByteArray} {code cnt : Int} {d d' : Dec} (hR : RcIs w rb sb bb t (.pointer (some ⟨db, 0, none⟩)) (frn : Int) code false) (hs : BlkIn w sb 75 106 S) (ha : w.ownsRow 0 103 46 (S 23) n D) (h1 : S 1 = .int .i64 cnt) (hn : cnt ≤ n) (hd : DecIs w db tb sk d) (hok : d.Ok) (ht : d.term = (1, 0, d')) (hp : d'.pos = q + 1) (hds : d.s.size ≤ 140737488355328) (hss : s = t.extract frn t.size) (hfr : frn ≤ t.size) (hts : t.size ≤ 140737488355328)
    (hq : q + 1 + k = 8 * s.size) (hk : k ≤ 7) (hbt : bitOf s q = 1) (hz : ∀ j, j < k → bitOf s (q + 1 + j) = 0) :
    Calls Tryz.prog 21 #[.pointer (some ⟨rb, 0, none⟩)] w fun e w' => e = .returned (.int .i64 0) ∧ Only [rb, db, sk] w w' := by
  obtain ⟨c0, c1, c2, c3, c4, c5, c6⟩ := hR.cells
  obtain ⟨ad, cap, hv⟩ := slice_of ha
  have s1 : w.cell? ⟨sb, 1, none⟩ = some (.int .i64 cnt) := by rw [hs.cell 1 (by decide), h1]
  have s23 : w.cell? ⟨sb, 23, none⟩ = some (.slice ad n cap) := by rw [hs.cell 23 (by decide), hv]
  have z6 := free_of hR 6
  have hsz : s.size ≤ 140737488355328 := by rw [hss, ByteArray.size_extract]; omega
  have hterm : ∀ wx, DecIs wx db tb sk d → Calls Tryz.prog 47 #[.pointer (some ⟨db, 0, none⟩)] wx fun r w' => r = .returned (.tuple #[.int .i64 1, .int .i64 0]) ∧ DecIs w' db tb sk d' ∧ Only [db, sk] wx w' := by
    intro wx hx
    have h := (DecAt.bare hx hok).term hds
    rw [ht] at h
    exact h.mono fun _ _ ⟨k1, k2, k3⟩ => ⟨k1, k2.is, k3⟩
  have hnd := hR.neD hd
  have HTerm := Lib.hid hterm
  have HR := Lib.hid hR
  have HD := Lib.hid hd
  have Hnd := Lib.hid hnd
  have Htr := Lib.hid (fun (b : Nat) (wx : World) (h : RdIs wx b s q) => rd_trail b s q k wx h hq hk hbt hz hsz)
  have Hss := Lib.hid hss
  have Hsz := Lib.hid hsz
  have Hp := Lib.hid hp
  have hqs : q ≤ 8 * s.size := by omega
  have Hqs := Lib.hid hqs
  have hq9 : q ≤ 1125899906842624 := by omega
  clear hR hd hs ha h1 hv hq hbt hz hsz hk hterm hnd hss ht hok hds hp hqs c5
  go_enter Tryz.func21, Tryz.ntmps21
  go_wp2
  go_quiet (fail)
  rename_i nq
  have HR1 : Hid (RcIs (w.drewN nq) rb sb bb t (.pointer (some ⟨db, 0, none⟩)) (frn : Int) code false) := Lib.hid HR.out
  have HD1 : Hid (DecIs (w.drewN nq) db tb sk d) := Lib.hid (HD.out.drewN nq)
  have O1 : Hid (Only [] w (w.drewN nq)) := Lib.hid ((Only.refl [] w).drewN nq)
  replace c1 : (w.drewN nq).cell? ⟨rb, 1, none⟩ = some (.string t) := c1
  replace c3 : (w.drewN nq).cell? ⟨rb, 3, none⟩ = some (.pointer (some ⟨db, 0, none⟩)) := c3
  replace c4 : (w.drewN nq).cell? ⟨rb, 4, none⟩ = some (.int .i64 frn) := c4
  replace c6 : (w.drewN nq).cell? ⟨rb, 6, none⟩ = some (.bool false) := c6
  replace z6 : (w.drewN nq).frozen? ⟨rb, 6, none⟩ = false := z6
  clear HR HD s1 s23 c0 c2
  generalize w.drewN nq = w1 at *
  have oS : Only [rb] w1 (w1.setCell ⟨rb, 6, none⟩ (.bool true)) := (Only.refl _ w1).setCell (.inl (by simp)) _
  have HR2 := Lib.hid (rc_set_over HR1.out)
  have HD2 := Lib.hid (HD1.out.only oS (by simp; exact Ne.symm Hnd.out.1) (by simp; exact Ne.symm Hnd.out.2.1) (by simp; exact Ne.symm Hnd.out.2.2))
  have O2 : Hid (Only [rb, db, sk] w (w1.setCell ⟨rb, 6, none⟩ (.bool true))) := Lib.hid ((O1.out.mono (T := [rb, db, sk]) (by simp)).trans (oS.mono (by simp)))
  clear oS HR1 HD1 O1
  go_wp2_with fail
  generalize w1.setCell ⟨rb, 6, none⟩ (.bool true) = w2 at *
  refine (HTerm.out w2 HD2.out).mono ?_
  rintro e w3 ⟨rfl, q1, q2⟩
  have HR3 := Lib.hid (HR2.out.only q2 (by simp; exact ⟨Hnd.out.1, Hnd.out.2.2⟩))
  have HD3 := Lib.hid q1
  have O3 : Hid (Only [rb, db, sk] w w3) := Lib.hid (O2.out.trans (q2.mono (by simp)))
  obtain ⟨-, d1, -, d3, d4, -, -⟩ := HR3.out.cells
  clear q1 q2 HR2 HD2 O2 HTerm c1 c3 c4 c6 z6
  go_wp2_with fail
  obtain ⟨G, hG⟩ : ∃ G : Int, G = (frn : Int) := ⟨_, rfl⟩
  rw [← hG] at d4
  have hG1 : 0 ≤ G := by omega
  have hG2 : G ≤ (t.size : Int) := by omega
  have HG := Lib.hid hG
  clear hG
  go_region_held3 (fun w' => w'.cell? ⟨rb, 1, none⟩ = some (.string t) ∧ w'.cell? ⟨rb, 4, none⟩ = some (.int .i64 G)) (first | exact ⟨d1, d4⟩ | exact ⟨e0, e1⟩ | go_keep | assumption)
    (first | (go_at_call 40; refine (rd_open _ _).mono ?_; rintro r w4 ⟨rfl, k1, k2, k3⟩; have e0 := k2.cell (show World.cell? _ ⟨rb, 1, none⟩ = some (.string t) by assumption) (by simp); have e1 := k2.cell (show World.cell? _ ⟨rb, 4, none⟩ = some (.int .i64 G) by assumption) (by simp)))
  have hGt : G.toNat = frn := by have := HG.out; omega
  have o4 : Only [] w3 w4 := (Only.refl [] w3).drew.trans k2
  obtain ⟨tb2, htb2⟩ : ∃ tb2, tb2 = w3.heap.size := ⟨_, rfl⟩
  have HT : Hid (RdIs w4 tb2 s 0) := Lib.hid (by rw [Hss.out, ← hGt, htb2]; exact k1)
  have HR4 := Lib.hid (HR3.out.only o4 (by simp))
  have HD4 := Lib.hid (HD3.out.only o4 (by simp) (by simp) (by simp))
  have O4 : Hid (Only [rb, db, sk] w w4) := Lib.hid (O3.out.trans (o4.mono (by simp)))
  have Hf : Hid (w.heap.size ≤ tb2) := Lib.hid (by rw [htb2]; exact O3.out.size)
  have hat : Hid (∀ wx, DecIs wx db tb sk d' → Calls Tryz.prog 48 #[.pointer (some ⟨db, 0, none⟩)] wx fun r w' => r = .returned (.int .i64 ((q : Int) + 1)) ∧ wx = w') := Lib.hid (fun wx hx => by
    have h := eng_at db tb sk d' wx hx
    rw [Hp.out] at h
    exact h)
  rw [← htb2]
  clear k1 k2 k3 e0 e1 d1 d3 d4 hG1 hG2 HR3 HD3 O3 hGt HG o4 htb2 Hp Hss
  obtain ⟨-, -, -, d3, -, -, -⟩ := HR4.out.cells
  go_wp2_with fail
  refine (hat.out _ HD4.out).mono ?_
  rintro e w5 ⟨rfl, rfl⟩
  clear hat
  go_wp2
  go_loopw [6] (fun v wr => ∃ m : Nat, m ≤ q ∧ v = .int .i64 (m : Int) ∧ Hid (RdIs wr tb2 s (q - m)) ∧ Hid (Only [tb2] w4 wr)) (fun v _ => (intOf v).toNat)
  case atStart => exact ⟨q, Nat.le_refl _, rfl, by rw [Nat.sub_self]; exact HT, Lib.hid (Only.refl _ _)⟩
  case round =>
    obtain ⟨m, hm, rfl, h1, h2⟩ := hrel
    by_cases h0 : m = 0
    · subst h0
      rw [Nat.sub_zero] at h1
      go_wp2_with fail
      refine (Htr.out tb2 _ h1.out).mono ?_
      rintro e w6 ⟨rfl, q1, q2⟩
      have O6 : Hid (Only [rb, db, sk] w w6) := Lib.hid (O4.out.trans' (h2.out.trans q2) (fun i hi => .inr (by simp at hi; rw [hi]; exact Hf.out)))
      clear q1 q2
      go_wp2
      go_ret
      exact ⟨rfl, O6.out⟩
    · obtain ⟨kk, hkk, hkm, hk0, hmin⟩ : ∃ kk : Nat, kk ≤ 32 ∧ kk ≤ m ∧ 0 < kk ∧ min (m : Int) 32 = kk := ⟨min m 32, by omega, by omega, by omega, by omega⟩
      obtain ⟨y, hy, hH⟩ := holds_any s kk (q - m) (by have := Hqs.out; omega)
      have hb := rd_bits tb2 s (q - m) y kk wr h1.out hH hy hkk Hsz.out
      rw [show q - m + kk = q - (m - kk) by omega] at hb
      have HB := Lib.hid hb
      have Hmin := Lib.hid hmin
      have e2 : Hid ((m : Int) - kk = ((m - kk : Nat) : Int)) := Lib.hid (by omega)
      clear hy hH hb hmin
      go_wp2_with fail
      rw [Hmin.out]
      refine HB.out.mono ?_
      rintro e w6 ⟨rfl, q1, q2⟩
      have H6 := Lib.hid q1
      have O6 := Lib.hid (h2.out.trans q2)
      clear q1 q2
      go_wp2
      rw [e2.out]
      exact ⟨⟨m - kk, by omega, rfl, H6, O6⟩, by simp [intOf]; omega⟩
end Go.Proofs.YtcppbdlmcbjmeaaGreatDoor

namespace Go.Proofs.YtcppbdlmcbjmeaaGreatDoor
open Go.RowKit

/-- What a slice's macroblocks ask. -/
def asksOf (f wide : Nat) (p : Int) (ms : List MbN) : List Ask := sliceAsk f wide [] p ms
/-- The bytes of a slice behind the bits bs. -/
def textOf (cabac : Bool) (f wide : Nat) (p : Int) (bs : List Int) (ms : List MbN) : ByteArray :=
  if cabac then strOfNums (packed (bs ++ List.replicate (fillN bs.length) 1)) ++ strOfNums (packed (((Enc.new (initL p)).run (asksDeeds (asksOf f wide p ms))).term 1).bits)
  else strOfNums (packed (bs ++ asksBits (asksOf f wide p ms) ++ trailN (bs ++ asksBits (asksOf f wide p ms)).length))
/-- A writer begun: its coder, its blocks; what its end gives. -/
structure WBegun (w0 w : World) (wb : Nat) (hd : Nat → Value) (f wide : Nat) (p : Int) (ms : List MbN) (text : ByteArray) (G0 : List Nat) (c : Cod) (sb : Nat) (G : List Nat) : Prop where
  ok : c.Ok
  T : c.T = 31
  pv : c.pv = .pointer (some ⟨wb, 0, none⟩)
  wr : c.wr = true
  cell : ∀ F r w, c.C F r w → w.cell? ⟨wb, 0, none⟩ = some (.pointer (some ⟨sb, 0, none⟩)) ∧ wb ∈ F
  along : Along c w sb hd f wide p ms 0 G
  new : ∀ i ∈ G, i ∈ G0 ∨ w0.heap.size ≤ i
  ends : ∀ (w1 : World) (G1 : List Nat), Along c w1 sb hd f wide p ms ms.length G1 → Calls Tryz.prog 16 #[.pointer (some ⟨wb, 0, none⟩)] w1 fun e w2 => e = .returned (.int .i64 0) ∧ Only G1 w1 w2 ∧
    ∀ w3, Only [] w2 w3 → Calls Tryz.prog 18 #[.pointer (some ⟨wb, 0, none⟩)] w3 fun e w4 => e = .returned (.string text) ∧ Only [] w3 w4
/-- A reader begun. -/
structure RBegun (w0 w : World) (rb : Nat) (hd : Nat → Value) (f wide : Nat) (p : Int) (ms : List MbN) (c : Cod) (sb : Nat) (G : List Nat) : Prop where
  ok : c.Ok
  T : c.T = 53
  pv : c.pv = .pointer (some ⟨rb, 0, none⟩)
  wr : c.wr = false
  cell : ∀ F r w, c.C F r w → RcLive w rb sb ∧ rb ∈ F
  along : Along c w sb hd f wide p ms 0 G
  new : ∀ i ∈ G, w0.heap.size ≤ i
  ends : ∀ (w1 : World) (G1 : List Nat), Along c w1 sb hd f wide p ms ms.length G1 → Calls Tryz.prog 21 #[.pointer (some ⟨rb, 0, none⟩)] w1 fun e w2 => e = .returned (.int .i64 0) ∧ Only G1 w1 w2
def NewW (w0 : World) (hd : Nat → Value) (f wide : Nat) (p : Int) (ms : List MbN) (text : ByteArray) (G0 : List Nat) (e : Ending) (w : World) : Prop :=
  ∃ (wb : Nat) (c : Cod) (sb : Nat) (G : List Nat), e = .returned (.tuple #[.pointer (some ⟨wb, 0, none⟩), .int .i64 0]) ∧ Only G0 w0 w ∧ WBegun w0 w wb hd f wide p ms text G0 c sb G
def NewR (w0 : World) (hd : Nat → Value) (f wide : Nat) (p : Int) (ms : List MbN) (e : Ending) (w : World) : Prop :=
  ∃ (rb : Nat) (c : Cod) (sb : Nat) (G : List Nat), e = .returned (.tuple #[.pointer (some ⟨rb, 0, none⟩), .int .i64 0]) ∧ Only [] w0 w ∧ RBegun w0 w rb hd f wide p ms c sb G
theorem stS_at (hd : Nat → Value) (wide qp : Int) : (∀ j, j < 21 → stS hd wide qp j = hd j) ∧ stS hd wide qp 21 = .int .i64 wide ∧ stS hd wide qp 22 = .int .i64 qp ∧ stS hd wide qp 23 = .slice none 0 0 :=
  ⟨fun j hj => by unfold stS; rw [if_pos hj], rfl, rfl, rfl⟩
/-- A coder that has all still to come. -/
theorem along_zero {c : Cod} {w : World} {sb f wide : Nat} {hd : Nat → Value} {p : Int} {ms : List MbN} {F : List Nat} (hs : BlkIn w sb 75 106 (stS hd wide p)) (hc : c.C F (asksOf f wide p ms) w) (hn : sb ∉ F) : Along c w sb hd f wide p ms 0 (sb :: F) := by
  obtain ⟨h1, h2, h3, h4⟩ := stS_at hd wide p
  refine ⟨stS hd wide p, F, ⟨hs, ?_, hc, hn, fun g hg => by rw [h4] at hg; cases hg⟩, h1, h2, h3, by rw [h4]; simp [Value.ownBlock]⟩
  rw [h4]
  exact World.ownsRow_nil _ _ _ _
theorem along_last {c : Cod} {w : World} {sb f wide : Nat} {hd : Nat → Value} {p : Int} {ms : List MbN} {G : List Nat} (h : Along c w sb hd f wide p ms ms.length G) :
    ∃ (S : Nat → Value) (F : List Nat), BlkIn w sb 75 106 S ∧ w.ownsRow 0 103 46 (S 23) ms.length (donesA (dsOf ms)) ∧ c.C F [] w ∧ (∀ j, j < 21 → S j = hd j) ∧ (∀ i ∈ F, i ∈ G) := by
  obtain ⟨S, F, h1, h2, -, -, rfl⟩ := h.sta
  rw [List.take_length, List.drop_length] at h1
  exact ⟨S, F, h1.s, h1.a, h1.c, h2, fun i hi => by simp [hi]⟩
end Go.Proofs.YtcppbdlmcbjmeaaGreatDoor
