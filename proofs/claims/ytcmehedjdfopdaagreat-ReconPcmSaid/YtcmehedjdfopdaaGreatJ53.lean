/-
  The walk over the law ReconPcm.
-/
import Derived.Test.YtcmehedjdfopdaaGreatJ47
import Derived.Test.YtcmehedjdfopdaaGreatJ52
import Derived.Test.YtcmehedjdfopdaaGreatJ29
namespace Go.Proofs.YtcmehedjdfopdaaGreat
open Go Go.RowKit

/-- A slice of bytes that came in. -/
def BsAt (w : World) (a : Option Addr) (len : Nat) (bs : List Int) : Prop := bs.length = len ∧ ∀ i, i < len → ∃ x, a = some x ∧ w.cell? (x.add i) = some (.int .u8 (bs.getD i 0)) ∧ 0 ≤ bs.getD i 0 ∧ bs.getD i 0 ≤ 255
theorem BsAt.only {w w' : World} {a : Option Addr} {len : Nat} {bs : List Int} (h : BsAt w a len bs) (ho : Only [] w w') : BsAt w' a len bs :=
  ⟨h.1, fun i hi => by obtain ⟨x, h1, h2, h3⟩ := h.2 i hi; exact ⟨x, h1, ho.cell h2 (by simp), h3⟩⟩

theorem BsAt.some {w : World} {a : Option Addr} {len : Nat} {bs : List Int} (h : BsAt w a len bs) (h0 : 0 < len) : ∃ x, a = some x := by
  obtain ⟨x, h1, -⟩ := h.2 0 h0
  exact ⟨x, h1⟩
/-- A canvas on which k macroblocks of samples were drawn. -/
def PcmAt (w wr : World) (cb yb ub vb sb wide high A k : Nat) (de : Bool) : Prop := ∃ ao c Y U V D, Y.length = 256 * A ∧ U.length = 64 * A ∧ V.length = 64 * A ∧ CanAt wr cb yb ub vb (256 * A) (64 * A) (64 * A) wide high Y U V (.slice ao k c) (.pointer (some ⟨sb, 0, none⟩)) ((0 + A : Nat) : Int) ∧
  wr.ownsRow w.heap.size 94 23 (.slice ao k c) k D ∧ PcmKept sb k D ∧ wr.heap[sb]? = some (.cells (headI 0 A 51 ++ restL de 51 ++ ([.int .i64 51] : List Value)).toArray 89 (0, 0)) ∧ Only [] w wr
theorem PcmAt.only {w wr wz : World} {cb yb ub vb sb wide high A k : Nat} {de : Bool} (h : PcmAt w wr cb yb ub vb sb wide high A k de) (ho : Only [] wr wz) : PcmAt w wz cb yb ub vb sb wide high A k de := by
  obtain ⟨ao, c, Y, U, V, D, ly, lu, lv, hcan, hown, hkept, hs, how⟩ := h
  exact ⟨ao, c, Y, U, V, D, ly, lu, lv, hcan.only ho (by simp) (by simp) (by simp) (by simp), ownsRow_of_block hown fun g hg => by obtain ⟨cx, hcx⟩ := ownsRow_block hown hg; exact ho.block g (lt_of_block hcx) (by simp), hkept, ho.heap hs (by simp), how.trans ho⟩
theorem pcmOf_range (bs : List Int) (k i : Nat) (h : ∀ j, j < bs.length → 0 ≤ bs.getD j 0 ∧ bs.getD j 0 ≤ 255) : 0 ≤ pcmOf bs k i ∧ pcmOf bs k i ≤ 255 := by
  unfold pcmOf
  split
  · exact h _ (Nat.mod_lt _ (by assumption))
  · omega
theorem mbSetPcm (pb : Nat) : (Tryz.zeroCells48.setIfInBounds 0 (.int .i64 2)).setIfInBounds 482 (.slice (some ⟨pb, 0, none⟩) 384 384) = (mbL 2 0 0 0 0 z16 z28 (.slice (some ⟨pb, 0, none⟩) 384 384)).toArray := by kernel_rfl

set_option maxRecDepth 100000 in
set_option maxHeartbeats 6400000 in
theorem law_pcm (a0 : Option Addr) (len cap : Nat) (bs : List Int) (a1 a2 : Int) (de : Bool) (w : World) (hb : BsAt w a0 len bs) (hlen : len ≤ maxLen) : Calls Tryz.prog 8 #[.slice a0 len cap, .int .i64 a1, .int .i64 a2, .bool de] w fun e w' => e = .returned (.bool true) ∧ Only [] w w' := by
  obtain ⟨wide, hwide, hw2⟩ : ∃ wide : Nat, (wide : Int) = 1 + a1 % 2 ∧ (wide = 1 ∨ wide = 2) := ⟨(1 + a1 % 2).toNat, by omega, by omega⟩
  obtain ⟨high, hhigh, hh2⟩ : ∃ high : Nat, (high : Int) = 1 + a2 % 2 ∧ (high = 1 ∨ high = 2) := ⟨(1 + a2 % 2).toNat, by omega, by omega⟩
  have q1 : IntKind.i64.wrap (1 + a1 % 2) = (wide : Int) := by rw [← hwide]; exact i64n _ (by omega)
  have q2 : IntKind.i64.wrap (1 + a2 % 2) = (high : Int) := by rw [← hhigh]; exact i64n _ (by omega)
  obtain ⟨A, hA⟩ : ∃ A : Nat, A = wide * high := ⟨_, rfl⟩
  have hA4 : 1 ≤ A ∧ A ≤ 4 := by rcases hw2 with rfl | rfl <;> rcases hh2 with rfl | rfl <;> omega
  have q3 : IntKind.i64.wrap ((wide : Int) * (high : Int)) = (A : Int) := by rw [← Int.natCast_mul, ← hA]; exact i64n _ (by omega)
  have hrn := recon_new wide high hw2 hh2
  rw [← hA] at hrn
  have HRN := Lib.hid hrn
  have HA := Lib.hid hA
  have HB := Lib.hid hb
  clear hb hA hwide hhigh hrn
  go_enter Tryz.func8, Tryz.ntmps8
  go_wp2_with fail
  refine (awake22 _).mono ?_
  rintro e w1 ⟨rfl, o1⟩
  have O1 := Lib.hid o1
  clear o1
  go_wp2_with fail
  refine (HRN.out _).mono ?_
  rintro e w2 ⟨cb, yb, ub, vb, rfl, hc, l1, l2, l3, l4, o2⟩
  have C2 := Lib.hid hc
  have O2 := Lib.hid (O1.out.trans o2)
  have hz1 := O1.out.size
  have L2 : w.heap.size ≤ cb ∧ w.heap.size ≤ yb ∧ w.heap.size ≤ ub ∧ w.heap.size ≤ vb := by omega
  have HL2 := Lib.hid L2
  clear hc o2 l1 l2 l3 l4 HRN O1 L2
  go_wp2_with fail
  have C3 := Lib.hid (C2.out.only (show Only [] w2 (w2.alloc (.cells #[.bool false, .bool false, .int .i64 0, .int .i64 51, .int .i64 0, .bool false, .bool de, .int .i64 1, .int .i64 1] 32)) from (Only.refl [] w2).alloc _) (by simp) (by simp) (by simp) (by simp))
  have O3 := Lib.hid (O2.out.alloc (.cells #[.bool false, .bool false, .int .i64 0, .int .i64 51, .int .i64 0, .bool false, .bool de, .int .i64 1, .int .i64 1] 32))
  clear C2
  generalize w2.alloc (.cells #[.bool false, .bool false, .int .i64 0, .int .i64 51, .int .i64 0, .bool false, .bool de, .int .i64 1, .int .i64 1] 32) = w3 at *
  refine (slice_I (n := 0) C3.out (by omega) (by omega) (by omega) A hA4.1 (by have := HA.out; omega) 51 (by omega) (by omega) de 51 (by omega) (by omega)).mono ?_
  rintro e w4 ⟨sb, rfl, hsb, hs, hc, o4⟩
  rw [sliceCells 0 A 51 de 51] at hs
  have hz3 := O3.out.size
  have hsb0 : w.heap.size ≤ sb := by omega
  have O4 := Lib.hid (O3.out.trans' o4 (fun i hi => .inr (by have := HL2.out.1; simp only [List.mem_singleton] at hi; omega)))
  have hst : PcmAt w w4 cb yb ub vb sb wide high A 0 de := ⟨none, 0, _, _, _, [], List.length_replicate, List.length_replicate, List.length_replicate, hc, World.ownsRow_nil _ _ _ _, PcmKept.nil sb, hs, O4.out⟩
  have ST := Lib.hid hst
  clear hst hs hc o4 C3 O3 O2 hz3 hsb hz1
  go_wp2_with (first | (go_at_call 14; refine (num_any _ _).mono ?_; rintro e w' ⟨rfl, rfl⟩))
  go_loopw [15] (fun q wr => ∃ k : Nat, k ≤ A ∧ q = .int .i64 k ∧ PcmAt w wr cb yb ub vb sb wide high A k de) (fun q _ => A - (intOf q).toNat)
  case atStart => exact ⟨0, by omega, rfl, ST.out⟩
  case round =>
    obtain ⟨k, hk, rfl, hst⟩ := hrel
    have SK := Lib.hid hst
    clear hst
    by_cases hlt : k < A
    · have hltI : (k : Int) < (A : Int) := by omega
      have hk4 : k < 4 := by omega
      rename World => wo
      go_wp2_with (refine wpList_make1 rfl _ _ rfl elt8 rfl 384 rfl rfl (by simp) (by simp) (by decide) (by omega) ?_)
      intro w5 hw5 ho5 hs5
      obtain ⟨f, hf⟩ : ∃ f : Nat → Int, f = pcmOf bs k := ⟨_, rfl⟩
      rw [u8s_replicate, ← fillTo_zero f] at hw5
      have hfr : ∀ i, 0 ≤ f i ∧ f i ≤ 255 := fun i => by rw [hf]; exact pcmOf_range bs k i (fun j hj => by obtain ⟨x, -, -, h⟩ := HB.out.2 j (by rw [← HB.out.1]; exact hj); exact h)
      have W5 := Lib.hid hw5
      have O5 := Lib.hid ho5
      have HF := Lib.hid hf
      have HFR := Lib.hid hfr
      have O4x := Lib.hid (show Only [] w wo by obtain ⟨_, _, _, _, _, _, _, _, _, _, _, _, _, h⟩ := SK.out; exact h)
      clear hw5 ho5 hs5 hf hfr
      have Hpb : Hid (∃ pb, pb = wo.heap.size) := Lib.hid ⟨_, rfl⟩
      generalize hpb : wo.heap.size = pb at *
      have HPB := Lib.hid hpb
      clear hpb Hpb
      go_wp2
      go_loopw [17] (fun q wr => ∃ i : Nat, i ≤ 384 ∧ q = .int .i64 i ∧ wr.heap[pb]? = some (.cells (u8s (fillTo f 384 i)) 5 (0, 0)) ∧ Only [] wo wr) (fun q _ => 384 - (intOf q).toNat)
      case atStart => exact ⟨0, by omega, rfl, W5.out, O5.out⟩
      case round =>
        obtain ⟨i, hi, rfl, hc, ho⟩ := hrel
        by_cases hlt : i < 384
        · have hltI2 : (i : Int) < 384 := by omega
          obtain ⟨k3, hk3⟩ : ∃ k3 : Nat, k3 = k + 3 := ⟨_, rfl⟩
          obtain ⟨m, hm⟩ : ∃ m : Nat, m = i * k3 := ⟨_, rfl⟩
          have hm1 : m ≤ 384 * 8 := by rw [hm]; exact Nat.mul_le_mul (by omega) (by omega)
          obtain ⟨i7, hi7⟩ : ∃ i7 : Nat, i7 = i / 7 := ⟨_, rfl⟩
          obtain ⟨sm, hsm⟩ : ∃ sm : Nat, sm = m + i7 := ⟨_, rfl⟩
          obtain ⟨v0, hv0⟩ : ∃ v0 : Int, v0 = (sm : Int) % 256 := ⟨_, rfl⟩
          have p1 : IntKind.i64.wrap ((k : Int) + 3) = (k3 : Int) := by rw [show (k : Int) + 3 = (k3 : Int) by omega]; exact i64n _ (by omega)
          have p2 : IntKind.i64.wrap ((i : Int) * (k3 : Int)) = (m : Int) := by rw [← Int.natCast_mul, ← hm]; exact i64n _ (by omega)
          have p3 : IntKind.i64.wrap ((i : Int) / 7) = (i7 : Int) := by rw [show (i : Int) / 7 = (i7 : Int) by omega]; exact i64n _ (by omega)
          have p4 : IntKind.i64.wrap ((m : Int) + (i7 : Int)) = (sm : Int) := by rw [← Int.natCast_add, ← hsm]; exact i64n _ (by omega)
          have p5 : IntKind.u8.wrap (sm : Int) = v0 := by rw [IntKind.wrap_u8, hv0]
          have c2 : wr.cell? ⟨pb, i, none⟩ = some (.int .u8 ((fillTo f 384 i).getD i 0)) := by rw [cells_of hc, u8s_at _ _ (by rw [fillTo_length]; exact hlt)]
          have z2 := free_of hc i
          have d1 := heap_set_same (i := i) (.int .u8 v0) hc
          have o1 : Only [] wo (wr.setCell ⟨pb, i, none⟩ (.int .u8 v0)) := ho.setCell (p := ⟨pb, i, none⟩) (.inr (by simp only; rw [HPB.out]; exact Nat.le_refl _)) _
          have D1 := Lib.hid d1
          have OS := Lib.hid o1
          have hfi : len = 0 → f i = v0 := fun h => by
            have := HB.out.1
            rw [HF.out, pcmOf, if_neg (by omega), hv0, hsm, hm, hk3, hi7]
          have HFI := Lib.hid hfi
          by_cases hl0 : len = 0
          · as_aux_lemma =>
              subst hl0
              clear hk3 hm hi7 hsm hv0 hc ho d1 o1 hfi
              go_wp2
              go_roundw
              case rel => exact ⟨i + 1, by omega, by go_num, by have := D1.out; rw [u8s_setIf, fillTo_set f 384 i v0 (HFI.out rfl).symm] at this; exact this, OS.out⟩
              case measure => simp [intOf] <;> omega
          · as_aux_lemma =>
              have hlp : 0 < len := by omega
              have hlI : (0 : Int) < (len : Int) := by omega
              have hlz : (len : Int) ≠ 0 := by omega
              obtain ⟨x, hx⟩ := HB.out.some hlp
              subst hx
              obtain ⟨k5, hk5⟩ : ∃ k5 : Nat, k5 = k * 5 := ⟨_, rfl⟩
              obtain ⟨s2, hs2⟩ : ∃ s2 : Nat, s2 = i + k5 := ⟨_, rfl⟩
              obtain ⟨r, hr⟩ : ∃ r : Nat, r = s2 % len := ⟨_, rfl⟩
              have hrl : r < len := by rw [hr]; exact Nat.mod_lt _ hlp
              have p6 : IntKind.i64.wrap ((k : Int) * 5) = (k5 : Int) := by rw [show (k : Int) * 5 = (k5 : Int) by omega]; exact i64n _ (by omega)
              have p7 : IntKind.i64.wrap ((i : Int) + (k5 : Int)) = (s2 : Int) := by rw [← Int.natCast_add, ← hs2]; exact i64n _ (by omega)
              have p8 : (s2 : Int).tmod (len : Int) = (r : Int) := by rw [hr, Int.tmod_eq_emod_of_nonneg (by omega)]; rfl
              obtain ⟨x', hx', hcx, hv⟩ := HB.out.2 r hrl
              injection hx' with hx'
              subst hx'
              obtain ⟨v, hvv⟩ : ∃ v, v = bs.getD r 0 := ⟨_, rfl⟩
              rw [← hvv] at hcx
              have hfv : v = f i := by
                rw [HF.out, pcmOf, if_pos (by rw [HB.out.1]; exact hlp), hvv, hr, hs2, hk5, HB.out.1]
              have HFV := Lib.hid hfv
              have cx := o1.cell (O4x.out.cell hcx (by simp)) (by simp)
              have c3 : (wr.setCell ⟨pb, i, none⟩ (.int .u8 v0)).cell? ⟨pb, i, none⟩ = some (.int .u8 (((fillTo f 384 i).set i v0).getD i 0)) := by rw [cells_of d1, u8s_setIf, u8s_at _ _ (by rw [List.length_set, fillTo_length]; exact hlt)]
              have z3 := free_of d1 i
              have d2 := heap_set_same (i := i) (.int .u8 v) d1
              rw [u8s_setIf, u8s_setIf, List.set_set, fillTo_set f 384 i v hfv] at d2
              have D2 := Lib.hid d2
              have OS2 := Lib.hid (o1.setCell (p := ⟨pb, i, none⟩) (.inr (by simp only; rw [HPB.out]; exact Nat.le_refl _)) (.int .u8 v))
              clear hk3 hm hi7 hsm hv0 hc ho d1 o1 hfi hk5 hs2 hr hvv hfv d2 hcx
              go_wp2
              go_roundw
              case rel => exact ⟨i + 1, by omega, by go_num, D2.out, OS2.out⟩
              case measure => simp [intOf] <;> omega
        · as_aux_lemma =>
            obtain rfl : i = 384 := by omega
            obtain ⟨ao, c, Y, U, V, D, ly, lu, lv, hcan, hown, hkept, hs, how⟩ := SK.out
            have n1 := lt_of_block hcan.ys.choose_spec
            have n2 := lt_of_block hcan.us.choose_spec
            have n3 := lt_of_block hcan.vs.choose_spec
            have n4 := lt_of_block hs
            have n5 := lt_of_block hcan.st
            have n6 : ∀ g, (Value.slice ao k c).ownBlock = some g → g < wo.heap.size := fun g hg => by obtain ⟨cx, hcx⟩ := ownsRow_block hown hg; exact lt_of_block hcx
            have hx : k % wide < wide := Nat.mod_lt _ (by omega)
            have hy : k / wide < high := Nat.div_lt_of_lt_mul (by have := HA.out; omega)
            have hownr : wr.ownsRow w.heap.size 94 23 (.slice ao k c) k D := ownsRow_of_block hown fun g hg => by obtain ⟨cx, hcx⟩ := ownsRow_block hown hg; exact ho.block g (lt_of_block hcx) (by simp)
            have hmb := mb_pcm (B := w.heap.size) (n := k) (wide := wide) (f := f) (pb := pb) (po := 0) (pcap := 384) (hcan.only ho (by simp) (by simp) (by simp) (by simp)) (by omega) (by omega) (by omega) (by omega) (by have := Nat.div_le_self k wide; omega) hownr (ho.heap hs (by simp)) HL2.out.1 (by omega) (by omega) (by omega)
              (fun j hj => by rw [ly, HA.out]; exact in_plane (s := 16) (by omega) hx hy hj) (fun j hj => by rw [lu, HA.out]; exact in_plane (s := 8) (by omega) hx hy hj) (fun j hj => by rw [lv, HA.out]; exact in_plane (s := 8) (by omega) hx hy hj)
              (fun i hi => by rw [Nat.zero_add, cells_of hc, u8s_at _ _ (by rw [fillTo_length]; exact hi), fill_at _ _ _ hi]) (fun i _ => HFR.out i) (by rw [← HPB.out]; omega) (by rw [← HPB.out]; omega) (by rw [← HPB.out]; omega)
            obtain ⟨U', hU'⟩ : ∃ U', U' = chromaP wide (k % wide) (k / wide) 256 f U := ⟨_, rfl⟩
            obtain ⟨V', hV'⟩ : ∃ V', V' = chromaP wide (k % wide) (k / wide) 320 f V := ⟨_, rfl⟩
            rw [← hU', ← hV'] at hmb
            have HMB := Lib.hid hmb
            have HU' := Lib.hid hU'
            have HV' := Lib.hid hV'
            clear hU' hV'
            have hset := mbSetPcm pb
            have WOR := Lib.hid (how.trans ho)
            have KP := Lib.hid hkept
            have HP := Lib.hid hc
            have hnin : pb ∉ [yb, ub, vb, sb, cb] ++ (Value.slice ao k c).ownBlock.toList := by
              intro h
              simp only [List.mem_append, List.mem_cons, List.not_mem_nil, or_false] at h
              rcases h with h | h
              · rw [← HPB.out] at h; omega
              · have := n6 pb (by simpa using h); rw [← HPB.out] at this; omega
            have HNI := Lib.hid hnin
            have HGE := Lib.hid (own_geN hown)
            have HX := Lib.hid hx
            have HY := Lib.hid hy
            have LYU := Lib.hid (And.intro ly (And.intro lu lv))
            clear ly lu lv hcan hown hkept hs how n1 n2 n3 n4 n5 n6 hx hy hownr hmb hc ho hnin
            go_wp2_with fail
            refine HMB.out.mono ?_
            rintro e w6 ⟨rfl, p0, p1, p2, p3, ao', c', Y', hG, hc, hown, hs, -, o6⟩
            have hG' : Y' = lumaP wide (k % wide) (k / wide) f Y := hG
            have HG := Lib.hid hG'
            have lY : Y'.length = 256 * A := by rw [HG.out, lumaP_length]; exact LYU.out.1
            have lU : U'.length = 64 * A := by rw [HU'.out, chromaP_length]; exact LYU.out.2.1
            have lV : V'.length = 64 * A := by rw [HV'.out, chromaP_length]; exact LYU.out.2.2
            clear hG' hG
            have hW6 : Only [] w w6 := WOR.out.trans' o6 (fun i hi => .inr (by
              have h1 := HL2.out
              simp only [List.mem_append, List.mem_cons, List.not_mem_nil, or_false] at hi
              rcases hi with hi | hi
              · omega
              · exact HGE.out i (by simpa using hi)))
            have hst6 : PcmAt w w6 cb yb ub vb sb wide high A (k + 1) de := ⟨ao', c', _, _, _, _, lY, lU, lV, hc, hown, KP.out.add p0 p1 p2 p3, hs, hW6⟩
            have ST6 := Lib.hid hst6
            have P6 := Lib.hid (o6.heap HP.out HNI.out)
            obtain ⟨ny, hny⟩ : ∃ ny, ny = 256 * A := ⟨_, rfl⟩
            obtain ⟨nu, hnu⟩ : ∃ nu, nu = 64 * A := ⟨_, rfl⟩
            have hraw := canvas_raw (ny := ny) (nu := nu) (nv := nu) hc (by rw [hny]; exact lY) (by rw [hnu]; exact lU) (by rw [hnu]; exact lV) (by omega) (by omega) (by omega) (by omega) (by omega) (by omega)
            have HRAW := Lib.hid hraw
            have HNY := Lib.hid hny
            have LY := Lib.hid lY
            have LU := Lib.hid lU
            have LV := Lib.hid lV
            clear lY lU lV
            have HNU := Lib.hid hnu
            have HOK := Lib.hid (And.intro hc.oy (And.intro hc.ou hc.ov))
            clear hset HMB WOR KP HP HNI HGE hc hown hs o6 hW6 hst6 hny hnu hraw SK W5 O5 ST O4
            go_wp2_with fail
            refine HRAW.out.mono ?_
            rintro e w7 ⟨fa, rfl, ⟨g1, p1, g2, p2, g3, p3, rfl, h1, h2, h3⟩, o7⟩
            obtain ⟨w256, hw256⟩ : ∃ w256 : Nat, w256 = 256 * wide := ⟨_, rfl⟩
            obtain ⟨w64, hw64⟩ : ∃ w64 : Nat, w64 = 64 * wide := ⟨_, rfl⟩
            have r1 : IntKind.i64.wrap (256 * (wide : Int)) = (w256 : Int) := by rw [show 256 * (wide : Int) = (w256 : Int) by omega]; exact i64n _ (by omega)
            have r2 : IntKind.i64.wrap ((w256 : Int) * (high : Int)) = (ny : Int) := by
              have h1 := HNY.out
              have h2 := HA.out
              rw [← Int.natCast_mul, show w256 * high = ny by rw [h1, h2, hw256, Nat.mul_assoc]]
              exact i64n _ (by omega)
            have r3 : IntKind.i64.wrap (64 * (wide : Int)) = (w64 : Int) := by rw [show 64 * (wide : Int) = (w64 : Int) by omega]; exact i64n _ (by omega)
            have r4 : IntKind.i64.wrap ((w64 : Int) * (high : Int)) = (nu : Int) := by
              have h1 := HNU.out
              have h2 := HA.out
              rw [← Int.natCast_mul, show w64 * high = nu by rw [h1, h2, hw64, Nat.mul_assoc]]
              exact i64n _ (by omega)
            have KY := Lib.hid (smp_own h1 HOK.out.1 (by rw [HNY.out]; exact LY.out) (by have := HNY.out; omega))
            have KU := Lib.hid (smp_own h2 HOK.out.2.1 (by rw [HNU.out]; exact LU.out) (by have := HNU.out; omega))
            have KV := Lib.hid (smp_own h3 HOK.out.2.2 (by rw [HNU.out]; exact LV.out) (by have := HNU.out; omega))
            have P7 := Lib.hid (o7.heap P6.out (by simp))
            have O7 := Lib.hid o7
            clear h1 h2 h3 o7 hw256 hw64 HRAW P6 HOK
            go_wp2_with (first | (go_at_call 14; refine (num_any _ _).mono ?_; rintro e w' ⟨rfl, rfl⟩))
            have F8 := heap_alloc_at w7 (.cells #[.int .i64 (16 * (wide : Int)), .int .i64 (16 * (high : Int)), .slice (some ⟨g1, 0, none⟩) ny p1, .slice (some ⟨g2, 0, none⟩) nu p2, .slice (some ⟨g3, 0, none⟩) nu p3] 54)
            have OW : Only [] w7 (w7.alloc (.cells #[.int .i64 (16 * (wide : Int)), .int .i64 (16 * (high : Int)), .slice (some ⟨g1, 0, none⟩) ny p1, .slice (some ⟨g2, 0, none⟩) nu p2, .slice (some ⟨g3, 0, none⟩) nu p3] 54)) := (Only.refl [] w7).alloc _
            have KY8 := Lib.hid (KY.out.only OW (by simp))
            have KU8 := Lib.hid (KU.out.only OW (by simp))
            have KV8 := Lib.hid (KV.out.only OW (by simp))
            have P8 := Lib.hid (OW.heap P7.out (by simp))
            have ST8 := Lib.hid (ST6.out.only (O7.out.trans OW))
            clear KY KU KV P7 ST6 O7 OW r1 r2 r3 r4
            generalize w7.alloc (.cells #[.int .i64 (16 * (wide : Int)), .int .i64 (16 * (high : Int)), .slice (some ⟨g1, 0, none⟩) ny p1, .slice (some ⟨g2, 0, none⟩) nu p2, .slice (some ⟨g3, 0, none⟩) nu p3] 54) = w8 at *
            generalize w7.heap.size = fr at *
            have x2 : w8.cell? ⟨fr, 2, none⟩ = some (.slice (some ⟨g1, 0, none⟩) ny p1) := by rw [cells_of F8]; rfl
            have x3 : w8.cell? ⟨fr, 3, none⟩ = some (.slice (some ⟨g2, 0, none⟩) nu p2) := by rw [cells_of F8]; rfl
            have x4 : w8.cell? ⟨fr, 4, none⟩ = some (.slice (some ⟨g3, 0, none⟩) nu p3) := by rw [cells_of F8]; rfl
            clear F8
            obtain ⟨kx, hkx⟩ : ∃ kx : Nat, kx = k % wide := ⟨_, rfl⟩
            obtain ⟨kd, hkd⟩ : ∃ kd : Nat, kd = k / wide := ⟨_, rfl⟩
            have hwz : (wide : Int) ≠ 0 := by omega
            have hwn : wide ≠ 0 := by omega
            have qx : (k : Int).tmod (wide : Int) = (kx : Int) := by rw [hkx, Int.tmod_eq_emod_of_nonneg (by omega)]; rfl
            have hkd2 : kd ≤ 1 := by have := HY.out; omega
            have hkx2 : kx ≤ 1 := by have := HX.out; omega
            have qy : IntKind.i64.wrap ((k : Int) / (wide : Int)) = (kd : Int) := by rw [show (k : Int) / (wide : Int) = (kd : Int) by rw [hkd]; rfl]; exact i64n _ (by omega)
            have HKX := Lib.hid hkx
            have HKD := Lib.hid hkd
            clear hkx hkd
            go_loopw [20] (fun q wr => ∃ i : Nat, i ≤ 256 ∧ q = .int .i64 i ∧ Only [] w8 wr) (fun q _ => 256 - (intOf q).toNat)
            case atStart => exact ⟨0, by omega, rfl, Only.refl [] w8⟩
            case round =>
              obtain ⟨i, hi, rfl, ho⟩ := hrel
              have HO := Lib.hid ho
              by_cases hlt : i < 256
              · have hltI3 : (i : Int) < 256 := by omega
                have y2 := ho.cell x2 (by simp)
                have y3 := ho.cell x3 (by simp)
                have y4 := ho.cell x4 (by simp)
                obtain ⟨aa1, bb1, cc1, dd1, ee1, ff1, mm1, qv1, ii1, IX1⟩ := idx_ok 16 wide k i kd kx (by omega) (by omega) hkd2 hkx2 (by omega)
                have u11 : IntKind.i64.wrap ((kd : Int) * 16) = (aa1 : Int) := IX1.u1
                have u12 : IntKind.i64.wrap ((i : Int) / 16) = (bb1 : Int) := IX1.u2
                have u13 : IntKind.i64.wrap ((aa1 : Int) + (bb1 : Int)) = (cc1 : Int) := IX1.u3
                have u14 : IntKind.i64.wrap ((cc1 : Int) * 16) = (dd1 : Int) := IX1.u4
                have u15 : IntKind.i64.wrap ((dd1 : Int) * (wide : Int)) = (ee1 : Int) := IX1.u5
                have u16 : IntKind.i64.wrap ((kx : Int) * 16) = (ff1 : Int) := IX1.u6
                have u17 : (i : Int).tmod 16 = (mm1 : Int) := IX1.u7
                have u18 : IntKind.i64.wrap ((ee1 : Int) + (ff1 : Int)) = (qv1 : Int) := IX1.u8
                have u19 : IntKind.i64.wrap ((qv1 : Int) + (mm1 : Int)) = (ii1 : Int) := IX1.u9
                have ie1 := IX1.ie
                have is1 := IX1.spot
                rw [HKD.out, HKX.out] at ie1 is1
                have il1 : ii1 < ny := by rw [is1, HNY.out, HA.out]; exact in_plane (s := 16) (by omega) HX.out HY.out hlt
                have cy := HO.out.cell (show w8.cell? ⟨g1, ii1, none⟩ = some (.int .u8 (f i)) by
                  rw [KY8.out.at ii1 (by rw [LY.out, ← HNY.out]; exact il1), HG.out, ie1, luma_at f (by rw [LYU.out.1, HA.out]) HX.out HY.out hlt]) (by simp)
                have cp := HO.out.cell (show w8.cell? ⟨pb, i, none⟩ = some (.int .u8 (f i)) by rw [cells_of P8.out, u8s_at _ _ (by rw [fillTo_length]; omega), fill_at _ _ _ (by omega)]) (by simp)
                by_cases hl64 : i < 64
                · as_aux_lemma =>
                    have hlI4 : (i : Int) < 64 := by omega
                    have hlI5 : (i : Int) < 384 := by omega
                    have hl5 : i < 384 := by omega
                    obtain ⟨aa2, bb2, cc2, dd2, ee2, ff2, mm2, qv2, ii2, IX2⟩ := idx_ok 8 wide k i kd kx (by omega) (by omega) hkd2 hkx2 (by omega)
                    have u21 : IntKind.i64.wrap ((kd : Int) * 8) = (aa2 : Int) := IX2.u1
                    have u22 : IntKind.i64.wrap ((i : Int) / 8) = (bb2 : Int) := IX2.u2
                    have u23 : IntKind.i64.wrap ((aa2 : Int) + (bb2 : Int)) = (cc2 : Int) := IX2.u3
                    have u24 : IntKind.i64.wrap ((cc2 : Int) * 8) = (dd2 : Int) := IX2.u4
                    have u25 : IntKind.i64.wrap ((dd2 : Int) * (wide : Int)) = (ee2 : Int) := IX2.u5
                    have u26 : IntKind.i64.wrap ((kx : Int) * 8) = (ff2 : Int) := IX2.u6
                    have u27 : (i : Int).tmod 8 = (mm2 : Int) := IX2.u7
                    have u28 : IntKind.i64.wrap ((ee2 : Int) + (ff2 : Int)) = (qv2 : Int) := IX2.u8
                    have u29 : IntKind.i64.wrap ((qv2 : Int) + (mm2 : Int)) = (ii2 : Int) := IX2.u9
                    have ie2 := IX2.ie
                    have is2 := IX2.spot
                    rw [HKD.out, HKX.out] at ie2 is2
                    obtain ⟨j1, hj1⟩ : ∃ j1 : Nat, j1 = 256 + i := ⟨_, rfl⟩
                    obtain ⟨j2, hj2⟩ : ∃ j2 : Nat, j2 = 320 + i := ⟨_, rfl⟩
                    have v1 : IntKind.i64.wrap (256 + (i : Int)) = (j1 : Int) := by rw [show 256 + (i : Int) = (j1 : Int) by omega]; exact i64n _ (by omega)
                    have v2 : IntKind.i64.wrap (320 + (i : Int)) = (j2 : Int) := by rw [show 320 + (i : Int) = (j2 : Int) by omega]; exact i64n _ (by omega)
                    have il2 : ii2 < nu := by rw [is2, HNU.out, HA.out]; exact in_plane (s := 8) (by omega) HX.out HY.out hl64
                    have cu := HO.out.cell (show w8.cell? ⟨g2, ii2, none⟩ = some (.int .u8 (f j1)) by
                      rw [KU8.out.at ii2 (by rw [LU.out, ← HNU.out]; exact il2), HU'.out, ie2, chroma_at f (by rw [LYU.out.2.1, HA.out]) HX.out HY.out hl64, hj1]) (by simp)
                    have cv := HO.out.cell (show w8.cell? ⟨g3, ii2, none⟩ = some (.int .u8 (f j2)) by
                      rw [KV8.out.at ii2 (by rw [LV.out, ← HNU.out]; exact il2), HV'.out, ie2, chroma_at f (by rw [LYU.out.2.2, HA.out]) HX.out HY.out hl64, hj2]) (by simp)
                    have cp1 := HO.out.cell (show w8.cell? ⟨pb, j1, none⟩ = some (.int .u8 (f j1)) by rw [cells_of P8.out, u8s_at _ _ (by rw [fillTo_length]; omega), fill_at _ _ _ (by omega)]) (by simp)
                    have cp2 := HO.out.cell (show w8.cell? ⟨pb, j2, none⟩ = some (.int .u8 (f j2)) by rw [cells_of P8.out, u8s_at _ _ (by rw [fillTo_length]; omega), fill_at _ _ _ (by omega)]) (by simp)
                    have jb1 : j1 < 384 := by omega
                    have g64 : decide (i < 64) = true := decide_eq_true hl64
                    have jb2 : j2 < 384 := by omega
                    clear ie1 is1 IX1 ie2 is2 IX2 hj1 hj2
                    clear ho
                    go_wp2
                    try dsimp only [List.append]
                    refine wp_region_quiet_lit (by as_aux_lemma => kernel_rfl) (by as_aux_lemma => kernel_rfl) ?_
                    iterate 18 (go_big_quiet_step (fail))
                    as_aux_lemma =>
                      iterate 18 (go_big_quiet_step (fail))
                      as_aux_lemma =>
                        iterate 18 (go_big_quiet_step (fail))
                        as_aux_lemma =>
                          iterate 18 (go_big_quiet_step (fail))
                          as_aux_lemma =>
                            repeat (go_big_quiet_step (fail))
                            refine wpQuiet_nil ?_
                            intro _ hw'
                            obtain ⟨nq, hw''⟩ := hw'
                            subst hw''
                            go_wp2
                            go_roundw
                            case rel => exact ⟨i + 1, by omega, by go_num, HO.out.drewN nq⟩
                            case measure => simp [intOf] <;> omega
                · as_aux_lemma =>
                    have g64 : decide (i < 64) = false := decide_eq_false hl64
                    have hlI4 : ¬ (i : Int) < 64 := by omega
                    have g64i : decide ((i : Int) < 64) = false := decide_eq_false hlI4
                    have hlI5 : (i : Int) < 384 := by omega
                    have hl5 : i < 384 := by omega
                    clear ie1 is1 IX1
                    clear ho
                    go_wp2
                    try dsimp only [List.append]
                    refine wp_region_quiet_lit (by as_aux_lemma => kernel_rfl) (by as_aux_lemma => kernel_rfl) ?_
                    iterate 18 (go_big_quiet_step (fail))
                    as_aux_lemma =>
                      iterate 18 (go_big_quiet_step (fail))
                      as_aux_lemma =>
                        iterate 18 (go_big_quiet_step (fail))
                        as_aux_lemma =>
                          iterate 18 (go_big_quiet_step (fail))
                          as_aux_lemma =>
                            repeat (go_big_quiet_step (fail))
                            refine wpQuiet_nil ?_
                            intro _ hw'
                            obtain ⟨nq, hw''⟩ := hw'
                            subst hw''
                            go_wp2
                            go_roundw
                            case rel => exact ⟨i + 1, by omega, by go_num, HO.out.drewN nq⟩
                            case measure => simp [intOf] <;> omega
              · as_aux_lemma =>
                  obtain rfl : i = 256 := by omega
                  clear ho
                  go_wp2
                  go_roundw
                  case rel => exact ⟨k + 1, by omega, by go_num, ST8.out.only HO.out⟩
                  case measure => simp [intOf] <;> omega
    · as_aux_lemma =>
        obtain rfl : k = A := by omega
        obtain ⟨ao, c, Y, U, V, D, ly, lu, lv, hcan, hown, hkept, hs, how⟩ := SK.out
        obtain ⟨ny, hny⟩ : ∃ ny, ny = 256 * k := ⟨_, rfl⟩
        obtain ⟨nu, hnu⟩ : ∃ nu, nu = 64 * k := ⟨_, rfl⟩
        rw [← hny] at ly
        rw [← hnu] at lu lv
        obtain ⟨g0, cp0, hsl⟩ : ∃ g0 cp0, Value.slice ao k c = Value.slice (some ⟨g0, 0, none⟩) k cp0 := by
          rcases hown.2 with ⟨hv, h0⟩ | ⟨g', cap', cur, hv, _⟩
          · omega
          · exact ⟨g', cap', hv⟩
        injection hsl with e1 e2 e3
        subst e1 e3
        have hsl : SlcAt wr sb de := ⟨by rw [cells_of hs]; rfl, by rw [cells_of hs]; rfl, by rw [cells_of hs]; rfl, by rw [cells_of hs]; rfl, by rw [cells_of hs]; rfl⟩
        have hdr : ∀ a, a < k → DrwAt wr ⟨g0, a * 23, none⟩ sb 2 0 := fun a ha => by obtain ⟨d0, d1, d2⟩ := hkept.drw hown a ha; exact ⟨rfl, d0, d1, d2⟩
        obtain ⟨W, hW⟩ : ∃ W : Int, W = ((16 * wide : Nat) : Int) := ⟨_, rfl⟩
        obtain ⟨H, hH⟩ : ∃ H : Int, H = ((16 * high : Nat) : Int) := ⟨_, rfl⟩
        have f1 : 16 * wide * (16 * high) = 256 * (wide * high) := by rw [Nat.mul_assoc 16 wide, Nat.mul_left_comm wide 16, ← Nat.mul_assoc]
        have f2 : 8 * wide * (8 * high) = 64 * (wide * high) := by rw [Nat.mul_assoc 8 wide, Nat.mul_left_comm wide 8, ← Nat.mul_assoc]
        have e1 : ny = 16 * wide * (16 * high) := by rw [hny, f1, ← HA.out]
        have e2 : nu = 8 * wide * (8 * high) := by rw [hnu, f2, ← HA.out]
        have hfil := fun (wx : World) (hx : Only [] wr wx) => canvas_filter (hcan.only hx (by simp) (by simp) (by simp) (by simp)) ly lu lv (by omega) (by omega) (by omega) (by omega) HA.out e1 e2 e2 (fun a ha => (hdr a ha).only hx (by simp)) (⟨hx.cell hsl.so (by simp), hx.cell hsl.sd (by simp), hx.cell hsl.sa (by simp), hx.cell hsl.sc (by simp), hx.cell hsl.sq (by simp)⟩ : SlcAt wx sb de)
        have hraw := canvas_raw hcan ly lu lv (by omega) (by omega) (by omega) (by omega) (by omega) (by omega)
        have hdn := fun (wx : World) (hx : Only [] wr wx) => canvas_done (hcan.only hx (by simp) (by simp) (by simp) (by simp))
        unfold FrameOut at hraw
        rw [← hW, ← hH] at hraw
        rw [← hW, ← hH] at hfil
        have HFIL := Lib.hid hfil
        have HRAW := Lib.hid hraw
        have HDN := Lib.hid hdn
        have HOW := Lib.hid how
        have LY := Lib.hid ly
        have LU := Lib.hid lu
        have LV := Lib.hid lv
        clear hcan hown hkept hs how hsl hdr hW hH hfil hraw hdn ly lu lv SK hny hnu e1 e2 O4
        go_wp2_with fail
        refine HRAW.out.mono ?_
        rintro e w5 ⟨fa, rfl, ⟨g1, p1, g2, p2, g3, p3, rfl, h1, h2, h3⟩, o5⟩
        have B1 := Lib.hid (BytesAt.own h1 LY.out.symm LY.out.symm)
        have B2 := Lib.hid (BytesAt.own h2 LU.out.symm LU.out.symm)
        have B3 := Lib.hid (BytesAt.own h3 LV.out.symm LV.out.symm)
        have O5 := Lib.hid o5
        clear h1 h2 h3 o5
        go_wp2_with fail
        refine (HFIL.out _ O5.out).mono ?_
        rintro e w6 ⟨y, u, v, rfl, b1, b2, b3, o6⟩
        have SF := Lib.hid (same_frame (W := W) (H := H) (B1.out.only o6) b1 (B2.out.only o6) b2 (B3.out.only o6) b3)
        have O6 := Lib.hid (O5.out.trans o6)
        clear b1 b2 b3 o6
        go_wp2_with fail
        refine SF.out.mono ?_
        rintro e w7 ⟨rfl, o7⟩
        have O7 := Lib.hid (O6.out.trans o7)
        clear o7
        go_wp2_with fail
        refine (HDN.out _ O7.out).mono ?_
        rintro e w8 ⟨rfl, rfl⟩
        go_wp2
        go_ret
        exact ⟨rfl, HOW.out.trans O7.out⟩
end Go.Proofs.YtcmehedjdfopdaaGreat
