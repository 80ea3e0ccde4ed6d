/-
  The walks over package engine's encoder: renorm, may, Bin, Bypass, Terminate.
-/
import Derived.Test.YtibojidpifgblaaDoorEngD
namespace Go.Proofs.YtibojidpifgblaaDoor
open Go.RowKit

/-- The width and the low end doubled. -/
def Enc.twice (f : Enc) : Enc := { f with wid := 2 * f.wid, low := 2 * f.low }
theorem EncIs.twice {w : World} {b tb sb : Nat} {ov : Value} {f : Enc} (h : EncIs w b tb sb ov f) :
    EncIs ((w.setCell ⟨b, 3, none⟩ (.int .i64 (f.wid * 2))).setCell ⟨b, 2, none⟩ (.int .i64 (f.low * 2))) b tb sb ov f.twice := by
  have h1 : EncIs (w.setCell ⟨b, 3, none⟩ (.int .i64 (f.wid * 2))) b tb sb ov { f with wid := 2 * f.wid } := h.put 3 _ _ rfl rfl (by simp [encCells, Int.mul_comm])
  exact h1.put 2 _ _ rfl rfl (by simp [encCells, Enc.twice, Int.mul_comm])
theorem Enc.shift_low (f : Enc) (h : f.low < 256) : f.shift = (f.put 0).twice := by unfold Enc.shift Enc.twice; rw [if_pos h]
theorem Enc.shift_high (f : Enc) (h : 512 ≤ f.low) : f.shift = (Enc.put { f with low := f.low - 512 } 1).twice := by unfold Enc.shift Enc.twice; rw [if_neg (by omega), if_pos h]
theorem Enc.shift_mid (f : Enc) (h : ¬ f.low < 256) (h2 : ¬ 512 ≤ f.low) : f.shift = Enc.twice { f with low := f.low - 256, outs := f.outs + 1 } := by unfold Enc.shift Enc.twice; rw [if_neg h, if_neg h2]

set_option maxRecDepth 100000 in
set_option maxHeartbeats 800000 in
theorem eng_renorm (b tb sb : Nat) (ov : Value) (e : Enc) (w : World) (he : EncIs w b tb sb ov e) (hok : e.Ok) (hn : e.cost < 800000000) (hw : 256 ≤ e.wid * 2 ^ 8) :
    Calls Tryd.prog 51 #[.pointer (some ⟨b, 0, none⟩)] w fun r w' => r = .returned (.tuple #[]) ∧ ∃ ov', EncIs w' b tb sb ov' (Enc.norm 8 e) ∧ EncTo w w' b ov ov' := by
  have He := Lib.hid he
  have Hok := Lib.hid hok
  have Hn := Lib.hid hn
  have Hw := Lib.hid hw
  clear he hok hn hw
  go_enter Tryd.func51, Tryd.ntmps51
  go_wp2
  go_loopw [] (fun wr => ∃ (k : Nat) (ov2 : Value) (f : Enc), EncIs wr b tb sb ov2 f ∧ f.Ok ∧ EncTo w wr b ov ov2 ∧ Enc.norm k f = Enc.norm 8 e ∧ 256 ≤ f.wid * 2 ^ k ∧ f.cost + k ≤ e.cost + 8) (fun wr => 1024 - cellNat wr b 3)
  case atStart => exact ⟨8, ov, e, He.out, Hok.out, EncTo.refl _ _ _, rfl, Hw.out, Nat.le_refl _⟩
  case round =>
    obtain ⟨k, ov2, f, hi, ho, ht, hnorm, hk, hcost⟩ := hrel
    obtain ⟨-, -, c2, c3, c4, -, -, -, -⟩ := hi.cellsAt
    have y2 := free_of hi.cells 2
    have y4 := free_of hi.cells 4
    have hl0 := ho.low
    have hl1 := ho.top
    have hw0 := ho.wid0
    have hw1 := ho.wid1
    have ho1 : (f.outs : Int) ≤ 900000000 := by have := Hn.out; unfold Enc.cost at *; omega
    have hcn := cellNat_of c3
    have Hi := Lib.hid hi
    have Ho := Lib.hid ho
    have Ht := Lib.hid ht
    have Hk := Lib.hid hk
    have Hnorm := Lib.hid hnorm
    have Hcost := Lib.hid hcost
    have Hcn := Lib.hid hcn
    clear hi ho ht hnorm hk hcost hcn
    by_cases hwid : f.wid < 256
    · obtain ⟨k, rfl⟩ : ∃ j, k = j + 1 := ⟨k - 1, by
        have := Hk.out
        rcases k with _ | k
        · simp at this; omega
        · omega⟩
      have hs := f.ok_shift Ho.out hwid
      have hnx := Enc.norm_step k f hwid
      have Hs : Hid (f.shift.Ok ∧ Enc.norm k f.shift = Enc.norm 8 e ∧ 256 ≤ f.shift.wid * 2 ^ k ∧ f.shift.cost + k ≤ e.cost + 8 ∧ f.shift.wid = 2 * f.wid) :=
        Lib.hid ⟨hs.1, hnx ▸ Hnorm.out, by rw [hs.2.1, Int.mul_comm 2, Int.mul_assoc, Int.mul_comm 2, ← Int.pow_succ]; exact Hk.out, by have := hs.2.2; have := Hcost.out; omega, hs.2.1⟩
      clear hs hnx Hk Hnorm
      by_cases c1 : f.low < 256
      · have hsh := f.shift_low c1
        go_wp2_with fail
        refine (eng_put b tb sb ov2 f 0 wr Hi.out (.inl rfl) Ho.out.bits (by have := Hn.out; have := Hcost.out; omega)).mono ?_
        rintro r w1 ⟨rfl, ov3, g1, g2⟩
        obtain ⟨-, -, d2, d3, -, -, -, -, -⟩ := g1.cellsAt
        have d2' : w1.cell? ⟨b, 2, none⟩ = some (.int .i64 f.low) := d2
        have d3' : w1.cell? ⟨b, 3, none⟩ = some (.int .i64 f.wid) := d3
        have x2 := free_of g1.cells 2
        have x3 := free_of g1.cells 3
        have h1 : EncIs ((w1.setCell ⟨b, 3, none⟩ (.int .i64 (f.wid * 2))).setCell ⟨b, 2, none⟩ (.int .i64 (f.low * 2))) b tb sb ov3 f.shift := hsh ▸ g1.twice
        have h2 : EncTo w ((w1.setCell ⟨b, 3, none⟩ (.int .i64 (f.wid * 2))).setCell ⟨b, 2, none⟩ (.int .i64 (f.low * 2))) b ov ov3 := Ht.out.trans ((g2.set _ _).set _ _)
        have H1 := Lib.hid h1
        have H2 := Lib.hid h2
        clear d2 d3 g1 g2 h1 h2 hsh
        go_wp2
        go_roundw
        case rel => exact ⟨k, ov3, _, H1.out, Hs.out.1, H2.out, Hs.out.2.1, Hs.out.2.2.1, Hs.out.2.2.2.1⟩
        case measure =>
          have h3 := cellNat_of (H1.out.cellsAt.2.2.2.1)
          have h4 := Hs.out.2.2.2.2
          have h5 := Hcn.out
          omega
      · by_cases c2 : 512 ≤ f.low
        · have hsh := f.shift_high c2
          have h0 : EncIs (wr.setCell ⟨b, 2, none⟩ (.int .i64 (f.low - 512))) b tb sb ov2 { f with low := f.low - 512 } := Hi.out.put 2 _ _ rfl rfl rfl
          have hok2 : Enc.Ok { f with low := f.low - 512 } := f.ok_low _ _ _ Ho.out (by omega) (by omega) hw0 hw1
          have H0 := Lib.hid h0
          have Hok2 := Lib.hid hok2
          clear h0 hok2
          go_wp2_with fail
          refine (eng_put b tb sb ov2 _ 1 _ H0.out (.inr rfl) Hok2.out.bits (by have := Hn.out; have := Hcost.out; unfold Enc.cost at *; dsimp only; omega)).mono ?_
          rintro r w1 ⟨rfl, ov3, g1, g2⟩
          obtain ⟨-, -, d2, d3, -, -, -, -, -⟩ := g1.cellsAt
          have d2' : w1.cell? ⟨b, 2, none⟩ = some (.int .i64 (f.low - 512)) := d2
          have d3' : w1.cell? ⟨b, 3, none⟩ = some (.int .i64 f.wid) := d3
          have x2 := free_of g1.cells 2
          have x3 := free_of g1.cells 3
          have h1 : EncIs ((w1.setCell ⟨b, 3, none⟩ (.int .i64 (f.wid * 2))).setCell ⟨b, 2, none⟩ (.int .i64 ((f.low - 512) * 2))) b tb sb ov3 f.shift := hsh ▸ g1.twice
          have h2 : EncTo w ((w1.setCell ⟨b, 3, none⟩ (.int .i64 (f.wid * 2))).setCell ⟨b, 2, none⟩ (.int .i64 ((f.low - 512) * 2))) b ov ov3 := Ht.out.trans ((((EncTo.refl _ _ _).set _ _).trans g2).set _ _ |>.set _ _)
          have H1 := Lib.hid h1
          have H2 := Lib.hid h2
          clear d2 d3 g1 g2 h1 h2 hsh
          go_wp2
          go_roundw
          case rel => exact ⟨k, ov3, _, H1.out, Hs.out.1, H2.out, Hs.out.2.1, Hs.out.2.2.1, Hs.out.2.2.2.1⟩
          case measure =>
            have h3 := cellNat_of (H1.out.cellsAt.2.2.2.1)
            have h4 := Hs.out.2.2.2.2
            have h5 := Hcn.out
            omega
        · have hsh := f.shift_mid c1 c2
          have h0 : EncIs (wr.setCell ⟨b, 2, none⟩ (.int .i64 (f.low - 256))) b tb sb ov2 { f with low := f.low - 256 } := Hi.out.put 2 _ _ rfl rfl rfl
          have h00 : EncIs ((wr.setCell ⟨b, 2, none⟩ (.int .i64 (f.low - 256))).setCell ⟨b, 4, none⟩ (.int .i64 ((f.outs : Int) + 1))) b tb sb ov2 { f with low := f.low - 256, outs := f.outs + 1 } := h0.put 4 _ _ rfl rfl rfl
          have h1 : EncIs ((((wr.setCell ⟨b, 2, none⟩ (.int .i64 (f.low - 256))).setCell ⟨b, 4, none⟩ (.int .i64 ((f.outs : Int) + 1))).setCell ⟨b, 3, none⟩ (.int .i64 (f.wid * 2))).setCell ⟨b, 2, none⟩ (.int .i64 ((f.low - 256) * 2))) b tb sb ov2 f.shift := hsh ▸ h00.twice
          have h2 := ((((Ht.out.set 2 (.int .i64 (f.low - 256))).set 4 (.int .i64 ((f.outs : Int) + 1))).set 3 (.int .i64 (f.wid * 2))).set 2 (.int .i64 ((f.low - 256) * 2)))
          have x3 := free_of Hi.out.cells 3
          have H1 := Lib.hid h1
          have H2 := Lib.hid h2
          clear h0 h00 h1 h2 hsh
          go_wp2
          go_roundw
          case rel => exact ⟨k, ov2, _, H1.out, Hs.out.1, H2.out, Hs.out.2.1, Hs.out.2.2.1, Hs.out.2.2.2.1⟩
          case measure =>
            have h3 := cellNat_of (H1.out.cellsAt.2.2.2.1)
            have h4 := Hs.out.2.2.2.2
            have h5 := Hcn.out
            omega
    · have hd := Enc.norm_done k f (by omega)
      have H1 : Hid (EncIs wr b tb sb ov2 (Enc.norm 8 e)) := Lib.hid (by rw [← Hnorm.out, hd]; exact Hi.out)
      clear hd
      go_wp2
      go_end0
      exact ⟨rfl, _, H1.out, Ht.out⟩

set_option maxRecDepth 100000 in
theorem eng_may (b tb sb : Nat) (ov : Value) (e : Enc) (x : Int) (w : World) (he : EncIs w b tb sb ov e) :
    Calls Tryd.prog 50 #[.pointer (some ⟨b, 0, none⟩), .int .i64 x] w fun r w' => r = .returned (.int .i64 (codeOf (e.may x))) ∧ w = w' := by
  obtain ⟨-, -, -, -, -, -, c6, -, -⟩ := he.cellsAt
  clear he
  have hm : e.may x = ((x == 0 || x == 1) && !e.over) := rfl
  have Hm := Lib.hid hm
  generalize e.may x = m at *
  generalize e.over = o at *
  clear hm
  go_enter Tryd.func50, Tryd.ntmps50
  by_cases h : x = 0 ∨ x = 1
  · rcases h with rfl | rfl <;> cases o <;> go_wp2 <;> go_ret <;> exact ⟨ret_int (by rw [Hm.out]; rfl), rfl⟩
  · have hf : codeOf m = 501 := by
      rw [Hm.out, show (x == 0) = false by simp; omega, show (x == 1) = false by simp; omega]
      rfl
    have Hf := Lib.hid hf
    clear hf
    go_wp2 <;> go_ret <;> exact ⟨ret_int Hf.out.symm, rfl⟩
end Go.Proofs.YtibojidpifgblaaDoor
