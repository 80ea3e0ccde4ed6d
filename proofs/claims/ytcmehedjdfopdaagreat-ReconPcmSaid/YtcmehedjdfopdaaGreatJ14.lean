/-
  The walks over package recon's brush.rests without chroma's rests, and brush.chroma. The walk over package recon's mayWeights without weights. The walk over package recon's mayHead for slices of kind I.
-/
import Derived.Test.YtcmehedjdfopdaaGreatJ12
import Derived.Test.YtcmehedjdfopdaaGreatJ13
namespace Go.Proofs.YtcmehedjdfopdaaGreat
open Go.RowKit

theorem rests_none {w : World} {b mb : Nat} (s0 : w.cell? ⟨b, 1, none⟩ = some (.pointer (some ⟨mb, 0, none⟩))) (s1 : w.cell? ⟨mb, 48, none⟩ = some (.int .i64 0)) :
    Calls Tryz.prog 84 #[.pointer (some ⟨b, 0, none⟩)] w fun e w' => e = .returned (.tuple #[]) ∧ w = w' := by
  go_enter Tryz.func84, Tryz.ntmps84
  go_wp2
  first | go_end0 | (simp only [Exit.inBlock, Exit.then]; refine bodyPost_ret (results_none rfl _ _ _) rfl ?_) | refine bodyPost_ret (results_none rfl _ _ _) rfl ?_
  exact ⟨rfl, rfl⟩
/-- A plane's samples in their block. -/
structure SmpAt (w : World) (g : Nat) (pl : List Int) : Prop where
  sm : ∃ rest, w.heap[g]? = some (.cells (u8s pl ++ rest) 5 (0, 0))
  ok : okPl pl
theorem SmpAt.only {w w' : World} {S : List Nat} {g : Nat} {pl : List Int} (h : SmpAt w g pl) (ho : Only S w w') (hg : g ∉ S) : SmpAt w' g pl := by
  obtain ⟨rest, hr⟩ := h.sm
  exact ⟨⟨rest, ho.heap hr hg⟩, h.ok⟩
theorem PlaneAt.smpAt {w : World} {p g cap pw side : Nat} {pl : List Int} (h : PlaneAt w p g cap pw side pl) : SmpAt w g pl := ⟨h.sm, h.ok⟩
theorem SmpAt.plane {w : World} {g cap pw side : Nat} {pl : List Int} (h : SmpAt w g pl) :
    PlaneAt (w.alloc (.cells #[.slice (some ⟨g, 0, none⟩) pl.length cap, .int .i64 pw, .int .i64 side] 117)) w.heap.size g cap pw side pl := by
  obtain ⟨rest, hr⟩ := h.sm
  exact ⟨heap_alloc_at w _, ⟨rest, heap_alloc_lt _ hr⟩, h.ok⟩

set_option maxRecDepth 100000 in
set_option maxHeartbeats 1600000 in
theorem chroma_drawn {w : World} {b cb mb db x yb ub vb cy cu cv wide high : Nat} {Y U V : List Int} {al cur : Value} {aft : Int} {mode : Int} (R : World → Option Addr → Nat → Nat → Prop) (hb : BrushAt w b cb mb db x 0) (hc : CanAt w cb yb ub vb cy cu cv wide high Y U V al cur aft) (hw : wide ≤ 60)
    (hE : ∀ wx p g cp pl, (pl = U ∨ pl = V) → PlaneAt wx p g cp (8 * wide) 8 pl → Only [ub] w wx → EdgesGive wx b p R) {mc : Array Value} (hmc : w.heap[mb]? = some (.cells mc 48 (0, 0))) (hmw : w.cell? ⟨mb, 19, none⟩ = some (.int .i64 mode)) (hcp : w.cell? ⟨mb, 48, none⟩ = some (.int .i64 0))
    (S : List Int) (hS : S.length = 64) (hS2 : ∀ i, i < 64 → 0 ≤ S.getD i 0 ∧ S.getD i 0 ≤ 255)
    (hW : ∀ wx ao n c, R wx ao n c → Calls Tryz.prog 83 #[.int .i64 mode, .slice ao n c, .slice none 0 0, .int .i64 (-1)] wx fun e w' => ∃ v, e = .returned (.tuple #[v, .int .i64 0]) ∧ w'.ownsRow wx.heap.size 3 1 v 64 (S.map (Value.int .i64)) ∧ Only [] wx w')
    (hx : x ≤ 60) (hlu : U.length ≤ 1000000) (hlv : V.length ≤ 1000000) (hinu : ∀ k, k < 64 → spot (8 * wide) (x * 8) 0 8 k < U.length) (hinv : ∀ k, k < 64 → spot (8 * wide) (x * 8) 0 8 k < V.length) :
    Calls Tryz.prog 53 #[.pointer (some ⟨b, 0, none⟩)] w fun e w' => e = .returned (.bool true) ∧ SmpAt w' ub (putTo (8 * wide) (x * 8) 0 8 S U 64) ∧ SmpAt w' vb (putTo (8 * wide) (x * 8) 0 8 S V 64) ∧ Only [ub, vb] w w' := by
  have s0 : w.cell? ⟨b, 0, none⟩ = some (.pointer (some ⟨cb, 0, none⟩)) := by rw [cells_of hb]; rfl
  have hpl := recon_planes cb 2 (16 * wide) _ _ _ w (by rw [cells_of hc.st]; rfl) (by rw [cells_of hc.st]; rfl) (by rw [cells_of hc.st]; rfl) (by rw [cells_of hc.st]; rfl) (by omega) ⟨_, _, _, rfl⟩ ⟨_, _, _, rfl⟩ ⟨_, _, _, rfl⟩
  have hW2 : (((16 * wide : Nat) : Int)) / 2 = ((8 * wide : Nat) : Int) := by omega
  obtain ⟨Zp, hZp⟩ : ∃ Zp, Zp = planesV ((16 * wide : Nat) : Int) (.slice (some ⟨yb, 0, none⟩) Y.length cy) (.slice (some ⟨ub, 0, none⟩) U.length cu) (.slice (some ⟨vb, 0, none⟩) V.length cv) := ⟨_, rfl⟩
  have hz3 : Zp[3]? = some (.slice (some ⟨ub, 0, none⟩) U.length cu) := by rw [hZp]; rfl
  have hz4 : Zp[4]? = some (.int .i64 ((8 * wide : Nat) : Int)) := by rw [hZp, ← hW2]; rfl
  have hz5 : Zp[5]? = some (.int .i64 8) := by rw [hZp]; rfl
  have hz6 : Zp[6]? = some (.slice (some ⟨vb, 0, none⟩) V.length cv) := by rw [hZp]; rfl
  have hz7 : Zp[7]? = some (.int .i64 ((8 * wide : Nat) : Int)) := by rw [hZp, ← hW2]; rfl
  have hz8 : Zp[8]? = some (.int .i64 8) := by rw [hZp]; rfl
  have hzs : Zp.size = 9 := by rw [hZp]; rfl
  have hz1 : Zp.all (·.oneCell') = true := by rw [hZp]; exact planesV_one _ _ _ _ _ _ _ _ _ _
  rw [← hZp] at hpl
  have hi9 : (Tryz.prog.info? 118).map (·.size) = some 9 := by kernel_rfl
  obtain ⟨pw, hpw⟩ : ∃ n, n = 8 * wide := ⟨_, rfl⟩
  rw [← hpw] at hz4 hz7 hE hinu hinv ⊢
  obtain ⟨ulen, hul⟩ : ∃ n, n = U.length := ⟨_, rfl⟩
  obtain ⟨vlen, hvl⟩ : ∃ n, n = V.length := ⟨_, rfl⟩
  rw [← hul] at hz3
  rw [← hvl] at hz6
  obtain ⟨XX, hXX⟩ : ∃ XX : Nat, XX = x * 8 := ⟨_, rfl⟩
  have qx : IntKind.i64.wrap ((x : Int) * 8) = (XX : Int) := by rw [show (x : Int) * 8 = (XX : Int) by omega]; exact i64n _ (by omega)
  have q00 : IntKind.i64.wrap 0 = 0 := by decide
  have hXX2 : XX ≤ 1000 := by omega
  rw [← hXX] at hinu hinv ⊢
  obtain ⟨urest, hub⟩ := hc.us
  obtain ⟨vrest, hvb⟩ := hc.vs
  have hcub : ub ≠ vb := hc.uv
  have bu : b ≠ ub := block_ne hb hub (by decide)
  have bv : b ≠ vb := block_ne hb hvb (by decide)
  have mu : mb ≠ ub := block_ne hmc hub (by decide)
  have mv : mb ≠ vb := block_ne hmc hvb (by decide)
  have ubl := lt_of_block hub
  have vbl := lt_of_block hvb
  have hcb := lt_of_block hc.st
  have hsu : SmpAt w ub U := ⟨hc.us, hc.ou⟩
  have hsv : SmpAt w vb V := ⟨hc.vs, hc.ov⟩
  have HP := Lib.hid hpl
  have HE := Lib.hid hE
  have HW := Lib.hid hW
  have Hb := Lib.hid hb
  have HS := Lib.hid hS
  have HS2 := Lib.hid hS2
  have Hinu := Lib.hid hinu
  have Hinv := Lib.hid hinv
  have Hul := Lib.hid hul
  have Hvl := Lib.hid hvl
  have HSU := Lib.hid hsu
  have HSV := Lib.hid hsv
  have Hmw := Lib.hid hmw
  have Hcp := Lib.hid hcp
  have Z3 := Lib.hid hz3
  have Z4 := Lib.hid hz4
  have Z5 := Lib.hid hz5
  have Z6 := Lib.hid hz6
  have Z7 := Lib.hid hz7
  have Z8 := Lib.hid hz8
  have Hzs := Lib.hid hzs
  have Hz1 := Lib.hid hz1
  clear hb hc hpl hE hW hZp hS hS2 hinu hinv hul hvl hsu hsv hmw hcp hz3 hz4 hz5 hz6 hz7 hz8 hzs hz1 hub hvb hmc hpw hXX hW2
  go_enter Tryz.func53, Tryz.ntmps53
  go_wp2_with fail
  refine HP.out.mono ?_
  rintro e w1 ⟨rfl, g1⟩
  have O1 := Lib.hid g1
  clear g1 s0 HP
  go_wp2_with (refine wpList_store_agg rfl _ _ _ rfl _ _ rfl rfl (heap_alloc_at w1 _) (by rw [Hzs.out]; exact hi9) (by rw [Hzs.out]; rfl) Hz1.out ?_)
  intro w2 hw2 ho2
  have hws := O1.out.size
  have O2 : Hid (Only [] w w2) := Lib.hid ((O1.out.alloc _).trans' ho2 (fun i hi => .inr (by simp only [List.mem_singleton] at hi; omega)))
  have W2 := Lib.hid hw2
  clear hw2 ho2 O1
  generalize w1.heap.size = psb at *
  go_wp2
  go_loopw [20] (fun q wr => (q = .int .i64 0 ∧ Only [] w2 wr) ∨ (q = .int .i64 1 ∧ SmpAt wr ub (putTo pw XX 0 8 S U 64) ∧ Only [ub] w2 wr) ∨ (q = .int .i64 2 ∧ SmpAt wr ub (putTo pw XX 0 8 S U 64) ∧ SmpAt wr vb (putTo pw XX 0 8 S V 64) ∧ Only [ub, vb] w2 wr)) (fun q _ => 2 - (intOf q).toNat)
  case atStart => exact .inl ⟨rfl, Only.refl _ w2⟩
  case round =>
    rcases hrel with ⟨rfl, ho⟩ | ⟨rfl, hu, ho⟩ | ⟨rfl, hu, hv, ho⟩
    · have c0 : wr.cell? ⟨psb, 3, none⟩ = some (.slice (some ⟨ub, 0, none⟩) ulen cu) := by rw [cells_of (ho.heap W2.out (by simp))]; exact Z3.out
      have c1 : wr.cell? ⟨psb, 4, none⟩ = some (.int .i64 ((pw : Nat) : Int)) := by rw [cells_of (ho.heap W2.out (by simp))]; exact Z4.out
      have c2 : wr.cell? ⟨psb, 5, none⟩ = some (.int .i64 8) := by rw [cells_of (ho.heap W2.out (by simp))]; exact Z5.out
      have HO := Lib.hid ho
      have hgs : ub < wr.heap.size := by have := ho.size; have := O2.out.size; omega
      have OW : Hid (Only [] w wr) := Lib.hid ((O2.out.mono (by simp)).trans ho)
      have HG : Hid (SmpAt wr ub U) := Lib.hid (HSU.out.only ((O2.out).trans ho) (by simp))
      
      clear ho
      go_wp2_with fail
      have hP := HG.out.plane (cap := cu) (pw := pw) (side := 8)
      rw [← Hul.out] at hP
      refine (HE.out _ _ _ _ _ (.inl rfl) hP ((OW.out.alloc _).mono (by simp))).mono ?_
      rintro e w3 ⟨ao, n, c, rfl, hR, ho3⟩
      have P3 := Lib.hid (hP.only ho3 (by simp) (by simp))
      have O3 := Lib.hid ((HO.out.alloc _).trans (ho3.mono (by simp)))
      have OW3 : Hid (Only [] w w3) := Lib.hid ((OW.out.alloc _).trans (ho3.mono (by simp)))
      have m3 : w3.cell? ⟨mb, 19, none⟩ = some (.int .i64 mode) := OW3.out.cell Hmw.out (by simp)
      have k3 : w3.cell? ⟨b, 1, none⟩ = some (.pointer (some ⟨mb, 0, none⟩)) := by rw [cells_of (OW3.out.heap Hb.out (by simp))]; rfl
      have HR := Lib.hid hR
      clear hR ho3 hP c0 c1 c2 HO OW HG
      generalize wr.heap.size = pb at *
      go_wp2_with fail
      refine (HW.out _ _ _ _ HR.out).mono ?_
      rintro e w4 ⟨v, rfl, hv, ho4⟩
      have O4 := Lib.hid (O3.out.trans (ho4.mono (by simp)))
      have OW4 := Lib.hid (OW3.out.trans (ho4.mono (by simp)))
      have P4 := Lib.hid (P3.out.only ho4 (by simp) (by simp))
      have Hv := Lib.hid hv
      have e3 : w4.cell? ⟨b, 3, none⟩ = some (.int .i64 x) := by rw [cells_of (OW4.out.heap Hb.out (by simp))]; rfl
      have e4 : w4.cell? ⟨b, 4, none⟩ = some (.int .i64 0) := by rw [cells_of (OW4.out.heap Hb.out (by simp))]; rfl
      clear hv ho4 m3 k3 P3 O3 OW3 HR
      go_wp2_with fail
      go_still_tail 11, (by kernel_rfl)
      change wpList _ _ _ _ _ w4.drew
      go_wp2_with fail
      have hput := plane_put P4.out.drew XX 0 8 64 v S (IntSlice.of_rows (w := w4) Hv.out HS.out.symm) (Apart.of_own (w := w4) Hv.out P4.out.sm.choose_spec (by decide)) HS.out HS2.out (by omega) (by omega) (by omega) (by omega) hlu Hinu.out
      refine hput.mono ?_
      rintro e w6 ⟨rfl, hp6, ho6⟩
      have P6 := Lib.hid hp6.smpAt
      have O6 : Hid (Only [ub] w2 w6) := Lib.hid ((O4.out.drew.mono (by simp)).trans ho6)
      clear hput hp6 ho6 Hv O4 OW4 P4 e3 e4
      go_wp2
      go_roundw
      case rel => exact .inr (.inl ⟨by go_num, P6.out, O6.out⟩)
      case measure => simp [intOf] <;> omega
    · have c0 : wr.cell? ⟨psb, 6, none⟩ = some (.slice (some ⟨vb, 0, none⟩) vlen cv) := by rw [cells_of (ho.heap W2.out (by simp; omega))]; exact Z6.out
      have c1 : wr.cell? ⟨psb, 7, none⟩ = some (.int .i64 ((pw : Nat) : Int)) := by rw [cells_of (ho.heap W2.out (by simp; omega))]; exact Z7.out
      have c2 : wr.cell? ⟨psb, 8, none⟩ = some (.int .i64 8) := by rw [cells_of (ho.heap W2.out (by simp; omega))]; exact Z8.out
      have HO := Lib.hid ho
      have hgs : vb < wr.heap.size := by have := ho.size; have := O2.out.size; omega
      have OW : Hid (Only [ub] w wr) := Lib.hid ((O2.out.mono (by simp)).trans ho)
      have HG : Hid (SmpAt wr vb V) := Lib.hid (HSV.out.only ((O2.out.mono (by simp)).trans ho) (by simp; exact fun h => hcub h.symm))
      have HU := Lib.hid hu
      clear ho hu
      go_wp2_with fail
      have hP := HG.out.plane (cap := cv) (pw := pw) (side := 8)
      rw [← Hvl.out] at hP
      refine (HE.out _ _ _ _ _ (.inr rfl) hP ((OW.out.alloc _))).mono ?_
      rintro e w3 ⟨ao, n, c, rfl, hR, ho3⟩
      have P3 := Lib.hid (hP.only ho3 (by simp) (by simp))
      have OU3 := Lib.hid (((Only.refl [] wr).alloc _).trans ho3)
      have O3 := Lib.hid ((HO.out.alloc _).trans (ho3.mono (by simp)))
      have OW3 : Hid (Only [ub] w w3) := Lib.hid ((OW.out.alloc _).trans (ho3.mono (by simp)))
      have m3 : w3.cell? ⟨mb, 19, none⟩ = some (.int .i64 mode) := OW3.out.cell Hmw.out (by simp <;> assumption)
      have k3 : w3.cell? ⟨b, 1, none⟩ = some (.pointer (some ⟨mb, 0, none⟩)) := by rw [cells_of (OW3.out.heap Hb.out (by simp <;> assumption))]; rfl
      have HR := Lib.hid hR
      clear hR ho3 hP c0 c1 c2 HO OW HG
      generalize wr.heap.size = pb at *
      go_wp2_with fail
      refine (HW.out _ _ _ _ HR.out).mono ?_
      rintro e w4 ⟨v, rfl, hv, ho4⟩
      have O4 := Lib.hid (O3.out.trans (ho4.mono (by simp)))
      have OU := Lib.hid ((OU3.out.trans ho4).drew)
      have OW4 := Lib.hid (OW3.out.trans (ho4.mono (by simp)))
      have P4 := Lib.hid (P3.out.only ho4 (by simp) (by simp))
      have Hv := Lib.hid hv
      have e3 : w4.cell? ⟨b, 3, none⟩ = some (.int .i64 x) := by rw [cells_of (OW4.out.heap Hb.out (by simp <;> assumption))]; rfl
      have e4 : w4.cell? ⟨b, 4, none⟩ = some (.int .i64 0) := by rw [cells_of (OW4.out.heap Hb.out (by simp <;> assumption))]; rfl
      clear hv ho4 m3 k3 P3 O3 OW3 HR
      go_wp2_with fail
      go_still_tail 11, (by kernel_rfl)
      change wpList _ _ _ _ _ w4.drew
      go_wp2_with fail
      have hput := plane_put P4.out.drew XX 0 8 64 v S (IntSlice.of_rows (w := w4) Hv.out HS.out.symm) (Apart.of_own (w := w4) Hv.out P4.out.sm.choose_spec (by decide)) HS.out HS2.out (by omega) (by omega) (by omega) (by omega) hlv Hinv.out
      refine hput.mono ?_
      rintro e w6 ⟨rfl, hp6, ho6⟩
      have P6 := Lib.hid hp6.smpAt
      have O6 : Hid (Only [ub, vb] w2 w6) := Lib.hid ((O4.out.drew.mono (by simp)).trans (ho6.mono (by simp)))
      have U6 := Lib.hid (((HU.out.only (OU.out) (by simp)).only ho6 (by simpa using hcub)))
      clear hput hp6 ho6 Hv O4 OW4 P4 e3 e4
      go_wp2
      go_roundw
      case rel => exact .inr (.inr ⟨by go_num, U6.out, P6.out, O6.out⟩)
      case measure => simp [intOf] <;> omega
    · have OW := Lib.hid ((O2.out.mono (by simp)).trans ho)
      have HU := Lib.hid hu
      have HV := Lib.hid hv
      have hre := rests_none (w := wr) (b := b) (mb := mb) (by rw [cells_of (OW.out.heap Hb.out (by simp; exact ⟨bu, bv⟩))]; rfl) (OW.out.cell Hcp.out (by simp; exact ⟨mu, mv⟩))
      have HRe := Lib.hid hre
      clear ho hu hv hre
      go_wp2_with fail
      refine HRe.out.mono ?_
      rintro e w9 ⟨rfl, rfl⟩
      go_wp2
      go_ret
      exact ⟨rfl, HU.out, HV.out, OW.out⟩
end Go.Proofs.YtcmehedjdfopdaaGreat

namespace Go.Proofs.YtcmehedjdfopdaaGreat
open Go.RowKit

theorem may_w0 (m : Int) (w : World) : Calls Tryz.prog 63 #[.slice none 0 0, .int .i64 m] w fun e w' => e = .returned (.bool true) ∧ w = w' := by
  go_enter Tryz.func63, Tryz.ntmps63
  go_wp2
  go_loopw [19] (fun q wr => q = .int .i64 0 ∧ w = wr) (fun _ _ => 0)
  case atStart => exact ⟨rfl, rfl⟩
  case round =>
    obtain ⟨rfl, rfl⟩ := hrel
    go_wp2
    go_ret
    exact ⟨rfl, rfl⟩
end Go.Proofs.YtcmehedjdfopdaaGreat

namespace Go.Proofs.YtcmehedjdfopdaaGreat
open Go.RowKit

theorem in_yes (x lo hi : Int) (h0 : lo ≤ x) (h1 : x ≤ hi) (w : World) : Calls Tryz.prog 35 #[.int .i64 x, .int .i64 lo, .int .i64 hi] w fun e w' => e = .returned (.bool true) ∧ w = w' := by
  go_enter Tryz.func35, Tryz.ntmps35
  go_wp2
  go_ret
  exact ⟨rfl, rfl⟩
theorem active_no (w : World) : Calls Tryz.prog 62 #[.int .i64 0, .bool false] w fun e w' => e = .returned (.bool true) ∧ w = w' := by
  go_enter Tryz.func62, Tryz.ntmps62
  go_wp2
  go_ret
  exact ⟨rfl, rfl⟩

set_option maxRecDepth 100000 in
set_option maxHeartbeats 800000 in
theorem may_headI {w : World} {hb : Nat} {qp : Int} (q0 : 0 ≤ qp) (q1 : qp ≤ 51) (c2 : w.cell? ⟨hb, 2, none⟩ = some (.int .i64 2)) (c7 : w.cell? ⟨hb, 7, none⟩ = some (.int .i64 0)) (c8 : w.cell? ⟨hb, 8, none⟩ = some (.int .i64 0)) (c11 : w.cell? ⟨hb, 11, none⟩ = some (.int .i64 0)) (c12 : w.cell? ⟨hb, 12, none⟩ = some (.int .i64 0)) (c13 : w.cell? ⟨hb, 13, none⟩ = some (.slice none 0 0)) (c14 : w.cell? ⟨hb, 14, none⟩ = some (.slice none 0 0)) (c17 : w.cell? ⟨hb, 17, none⟩ = some (.int .i64 qp)) (c19 : w.cell? ⟨hb, 19, none⟩ = some (.int .i64 0)) (c20 : w.cell? ⟨hb, 20, none⟩ = some (.int .i64 0)) :
    Calls Tryz.prog 37 #[.pointer (some ⟨hb, 0, none⟩)] w fun e w' => e = .returned (.bool true) ∧ Only [] w w' := by
  go_enter Tryz.func37, Tryz.ntmps37
  go_wp2_with fail
  go_quiet (first
    | (go_at_call 35; exact Calls.quiet_of_same ((in_yes _ _ _ (by omega) (by omega) _).mono fun _ _ ⟨h1, h2⟩ => ⟨h1, h2.symm⟩))
    | (go_at_call 62; exact Calls.quiet_of_same ((active_no _).mono fun _ _ ⟨h1, h2⟩ => ⟨h1, h2.symm⟩))
    | (go_at_call 63; exact Calls.quiet_of_same ((may_w0 _ _).mono fun _ _ ⟨h1, h2⟩ => ⟨h1, h2.symm⟩)))
  go_wp2
  go_ret
  exact ⟨rfl, (Only.refl [] w).drewN _⟩
end Go.Proofs.YtcmehedjdfopdaaGreat
