/-
  The walks over package engine's decoder: renorm.
-/
import Derived.Test.YtibojidpifgblaaDoorEngH
namespace Go.Proofs.YtibojidpifgblaaDoor
open Go.RowKit

theorem need_below (k : Nat) : ∀ (w : Int) (j : Nat), j < need k w → w * 2 ^ j < 256 := by
  induction k with
  | zero => intro w j h; simp [need] at h
  | succ k ih =>
    intro w j h
    by_cases hw : w < 256
    · rw [need_step k w hw] at h
      cases j with
      | zero => simpa using hw
      | succ j =>
        rw [Int.pow_succ, Int.mul_comm _ 2, ← Int.mul_assoc, Int.mul_comm w 2]
        exact ih (2 * w) j (by omega)
    · rw [need_done _ w (by omega)] at h; omega

/-- '|' of a number whose low places are free. -/
theorem i64_or_add (a r : Int) (j : Nat) (hj : j ≤ 8) (ha : 0 ≤ a) (ha2 : a < 1024) (hr : 0 ≤ r) (hr2 : r < 2 ^ j) : bits .or .i64 (a * 2 ^ j) r = a * 2 ^ j + r := by
  obtain ⟨a, rfl⟩ := Int.eq_ofNat_of_zero_le ha
  obtain ⟨r, rfl⟩ := Int.eq_ofNat_of_zero_le hr
  have hp : 2 ^ j ≤ 2 ^ 8 := Nat.pow_le_pow_right (by decide) hj
  have hr3 : r < 2 ^ j := by exact_mod_cast hr2
  have e1 : ((a : Int) * 2 ^ j) = ((2 ^ j * a : Nat) : Int) := by simp [Int.mul_comm]
  have hb : 2 ^ j * a ≤ 256 * 1024 := Nat.mul_le_mul hp (by omega)
  have hor : 2 ^ j * a ||| r = 2 ^ j * a + r := (Nat.two_pow_add_eq_or_of_lt hr3 a).symm
  rw [e1]
  generalize 2 ^ j * a = x at *
  unfold bits
  show IntKind.i64.wrap ((BitVec.ofInt 64 (x : Int) ||| BitVec.ofInt 64 (r : Int)).toNat : Int) = _
  have h1 : (BitVec.ofInt 64 (x : Int)).toNat = x := by rw [BitVec.toNat_ofInt]; omega
  have h2 : (BitVec.ofInt 64 (r : Int)).toNat = r := by rw [BitVec.toNat_ofInt]; omega
  rw [BitVec.toNat_or, h1, h2, hor, IntKind.wrap_i64]
  omega
def endOf (ok : Bool) : Int := if ok then 0 else 500
def Dec.normalIf (d : Dec) (ok : Bool) (w o : Int) : Dec := if ok then d.normal w o else d
theorem Dec.normalIf_yes (d : Dec) (w o : Int) (n : Nat) (h : n = need 8 w) : d.normalIf true w o = { d with wid := w * 2 ^ n, off := o * 2 ^ n + readTo d.s d.pos n, pos := d.pos + n } := by rw [h]; rfl
theorem Dec.normalIf_no (d : Dec) (w o : Int) : d.normalIf false w o = d := rfl

set_option maxRecDepth 100000 in
set_option maxHeartbeats 800000 in
theorem eng_dnorm (b tb sb : Nat) (d : Dec) (wi o : Int) (w : World) (hd : DecIs w b tb sb d) (h0 : 2 ≤ wi) (h1 : wi ≤ 510) (h2 : 0 ≤ o) (h3 : o < wi) (hs : d.s.size ≤ 140737488355328) (hp : d.pos ≤ 8 * d.s.size) :
    Calls Tryd.prog 65 #[.pointer (some ⟨b, 0, none⟩), .int .i64 wi, .int .i64 o] w fun r w' => r = .returned (.int .i64 (endOf (d.has (need 8 wi)))) ∧ DecIs w' b tb sb (d.normalIf (d.has (need 8 wi)) wi o) ∧ Only [b] w w' := by
  have Hd := Lib.hid hd
  have hnl := need_le 8 wi
  have hnb := need_below 8 wi
  have hnw := need_wide 8 wi (by omega)
  have hnt := need_top 8 wi h1
  obtain ⟨N, hN⟩ : ∃ N, N = need 8 wi := ⟨_, rfl⟩
  have hno := d.normalIf_yes wi o N hN
  have Hno := Lib.hid hno
  rw [← hN] at hnl hnb hnw hnt ⊢
  have Hnb := Lib.hid hnb
  have Hnw := Lib.hid hnw
  have Hnt := Lib.hid hnt
  clear hd hnb hnw hnt hN hno
  go_enter Tryd.func65, Tryd.ntmps65
  go_wp2
  go_loop [7] (fun i => ∃ j : Nat, j ≤ N ∧ i = .int .i64 j) (fun i => N - (intOf i).toNat)
  case atStart => exact ⟨0, Nat.zero_le _, rfl⟩
  case round =>
    obtain ⟨j, hj, rfl⟩ := hrel
    by_cases hlt : j < N
    · have hx := Hnb.out j hlt
      have hx0 : 0 < wi * 2 ^ j := Int.mul_pos (by omega) (Int.pow_pos (by decide))
      go_wp2
      go_round
      case rel => exact ⟨j + 1, by omega, by go_num⟩
      case measure => simp [intOf] <;> omega
    · obtain rfl : j = N := by omega
      have hx := Hnw.out
      have hx2 := Hnt.out
      go_wp2_with fail
      refine (eng_has b tb sb j d w Hd.out (by omega) (by omega) hs).mono ?_
      rintro r w1 ⟨rfl, nq, rfl⟩
      by_cases hh : d.has j = true
      · have hhp : d.pos + j ≤ 8 * d.s.size := by unfold Dec.has at hh; simpa using hh
        have hd2 := (Hd.out.drewN nq).drew
        go_wp2
        go_region_held3 (fun w' => w'.heap.size = w'.heap.size) (rfl)
          (first | (go_at_call 60; refine (eng_read b tb sb j d _ hd2 (by omega) hs hhp).mono ?_; rintro r2 w2 ⟨rfl, g1, g2⟩; have z4 := free_of g1.cells 4; have z5 := free_of g1.cells 5; obtain ⟨-, -, -, -, e4, e5, -⟩ := g1.cellsAt))
        have hsz : 0 < (2 : Int) ^ j := Int.pow_pos (by decide)
        have ho2 : o * 2 ^ j < wi * 2 ^ j := Int.mul_lt_mul_of_pos_right h3 hsz
        have ho3 : 0 ≤ o * 2 ^ j := Int.mul_nonneg h2 (Int.le_of_lt hsz)
        have hrr := readTo_range d.s d.pos j
        have e1 : IntKind.i64.wrap (wi * 2 ^ j) = wi * 2 ^ j := by rw [IntKind.wrap_i64]; omega
        have e2 : IntKind.i64.wrap (o * 2 ^ j) = o * 2 ^ j := by rw [IntKind.wrap_i64]; omega
        rw [e1, e2, i64_or_add o (readTo d.s d.pos j) j (by omega) h2 (by omega) hrr.1 hrr.2]
        have H1 : Hid (DecIs ((w2.setCell ⟨b, 4, none⟩ (.int .i64 (wi * 2 ^ j))).setCell ⟨b, 5, none⟩ (.int .i64 (o * 2 ^ j + readTo d.s d.pos j))) b tb sb (d.normalIf (d.has j) wi o)) := Lib.hid (by
          rw [hh, Hno.out]
          have k1 : DecIs (w2.setCell ⟨b, 4, none⟩ (.int .i64 (wi * 2 ^ j))) b tb sb { d with pos := d.pos + j, wid := wi * 2 ^ j } := g1.put 4 (.int .i64 (wi * 2 ^ j)) { d with pos := d.pos + j, wid := wi * 2 ^ j } rfl rfl
          exact k1.put 5 _ _ rfl rfl)
        have H2 : Hid (Only [b] w ((w2.setCell ⟨b, 4, none⟩ (.int .i64 (wi * 2 ^ j))).setCell ⟨b, 5, none⟩ (.int .i64 (o * 2 ^ j + readTo d.s d.pos j)))) := Lib.hid (((((Only.refl _ _).drewN nq).drew.trans g2).setCell (.inl (by simp)) _).setCell (.inl (by simp)) _)
        have Hh := Lib.hid hh
        clear g1 g2 e4 e5 z4 z5 hh
        go_wp2
        go_ret
        exact ⟨ret_int (by rw [Hh.out]; rfl), H1.out, H2.out⟩
      · have hh' : d.has j = false := by simpa using hh
        rw [hh']
        have Hh := Lib.hid hh'
        clear hh hh'
        go_wp2
        go_ret
        rw [Hh.out]
        exact ⟨rfl, by rw [Dec.normalIf_no]; exact Hd.out.drewN nq, (Only.refl _ _).drewN nq⟩
end Go.Proofs.YtibojidpifgblaaDoor
