/-
  The walks over package engine's decoder: Bypass, Terminate, At.
-/
import Derived.Test.YtibojidpifgblaaDoorEngI
import Derived.Deep.RegionLaw
namespace Go.Proofs.YtibojidpifgblaaDoor
open Go.RowKit

theorem readTo_one (s : ByteArray) (p : Nat) : readTo s p 1 = bitOf s p := by simp [readTo]

set_option maxRecDepth 100000 in
theorem eng_at (b tb sb : Nat) (d : Dec) (w : World) (hd : DecIs w b tb sb d) :
    Calls Tryd.prog 35 #[.pointer (some ⟨b, 0, none⟩)] w fun r w' => r = .returned (.int .i64 d.pos) ∧ w = w' := by
  obtain ⟨-, -, -, c3, -, -, -⟩ := hd.cellsAt
  clear hd
  go_enter Tryd.func35, Tryd.ntmps35
  go_wp2
  go_ret
  exact ⟨rfl, rfl⟩

set_option maxRecDepth 100000 in
set_option maxHeartbeats 800000 in
theorem eng_dbypass (b tb sb : Nat) (d : Dec) (w : World) (hd : DecIs w b tb sb d) (hok : d.Ok) (hs : d.s.size ≤ 140737488355328) :
    Calls Tryd.prog 34 #[.pointer (some ⟨b, 0, none⟩)] w fun r w' => r = .returned (.tuple #[.int .i64 d.bypass.1, .int .i64 d.bypass.2.1]) ∧ DecIs w' b tb sb d.bypass.2.2 ∧ Only [b] w w' := by
  have hmay := eng_dmay b tb sb d w hd
  have hpos := hok.pos
  have Hd := Lib.hid hd
  cases hov : d.over
  · rw [hov] at hmay
    have hw1 := hok.wid1
    have ho0 := hok.off0
    have ho1 := hok.off1 hov
    have Hmay := Lib.hid hmay
    cases hh : d.has 1
    · have hb : d.bypass = (0, 500, d) := by unfold Dec.bypass; simp [hov, hh]
      rw [hb]
      clear hd hmay
      go_enter Tryd.func34, Tryd.ntmps34
      go_wp2_with fail
      refine Hmay.out.mono ?_
      rintro r0 w0 ⟨rfl, rfl⟩
      rw [show codeOf (!false) = 0 from rfl]
      go_wp2_with fail
      refine (eng_has b tb sb 1 d w Hd.out (by omega) (by omega) hs).mono ?_
      rintro r w1 ⟨rfl, nq, rfl⟩
      rw [hh]
      go_wp2
      go_ret2
      exact ⟨rfl, Hd.out.drewN nq, (Only.refl _ _).drewN nq⟩
    · have hhp : d.pos + 1 ≤ 8 * d.s.size := by unfold Dec.has at hh; simpa using hh
      have hbit := bitOf_bit d.s d.pos
      clear hd hmay
      go_enter Tryd.func34, Tryd.ntmps34
      go_wp2_with fail
      refine Hmay.out.mono ?_
      rintro r0 w0 ⟨rfl, rfl⟩
      rw [show codeOf (!false) = 0 from rfl]
      go_wp2_with fail
      refine (eng_has b tb sb 1 d w Hd.out (by omega) (by omega) hs).mono ?_
      rintro r w1 ⟨rfl, nq, rfl⟩
      rw [hh]
      have hd2 := (Hd.out.drewN nq).drew
      obtain ⟨-, -, -, -, -, c5, -⟩ := hd2.cellsAt
      have c5' : w.cell? ⟨b, 5, none⟩ = some (.int .i64 d.off) := c5
      go_wp2
      go_region_law (first | (go_simp; go_at_call 60; refine (eng_read b tb sb 1 d (w.drewN nq).drew hd2 (by omega) hs hhp).mono ?_; rintro r2 w2 ⟨rfl, g1, g2⟩; have z5 := free_of g1.cells 5; obtain ⟨-, -, -, -, e4, e5, -⟩ := g1.cellsAt))
      all_goals
        obtain ⟨o2, ho2⟩ : ∃ o2, o2 = 2 * d.off + bitOf d.s d.pos := ⟨_, rfl⟩
        have e1 : IntKind.i64.wrap (2 * d.off) = 2 * d.off := by rw [IntKind.wrap_i64]; omega
        have e2 : IntKind.i64.wrap (2 * d.off + bitOf d.s d.pos) = o2 := by rw [IntKind.wrap_i64]; omega
        rw [readTo_one, e1, e2]
        have k1 : DecIs (w2.setCell ⟨b, 5, none⟩ (.int .i64 o2)) b tb sb { d with pos := d.pos + 1, off := o2 } := g1.put 5 (.int .i64 o2) { d with pos := d.pos + 1, off := o2 } rfl rfl
        have k2 : Only [b] w (w2.setCell ⟨b, 5, none⟩ (.int .i64 o2)) := (((Only.refl _ _).drewN nq).drew.trans g2).setCell (.inl (by simp)) _
        generalize w2.setCell ⟨b, 5, none⟩ (.int .i64 o2) = wq at *
        obtain ⟨-, -, -, -, f4, f5, -⟩ := k1.cellsAt
        have f4' : wq.cell? ⟨b, 4, none⟩ = some (.int .i64 d.wid) := f4
        have f5' : wq.cell? ⟨b, 5, none⟩ = some (.int .i64 o2) := f5
        have y5 := free_of k1.cells 5
        have hby : d.bypass = if d.wid ≤ o2 then (1, 0, { d with off := o2 - d.wid, pos := d.pos + 1 }) else (0, 0, { d with off := o2, pos := d.pos + 1 }) := by
          unfold Dec.bypass
          rw [hov, hh, ho2]
          rfl
        have Hby := Lib.hid hby
        have hb0 : 0 ≤ o2 := by omega
        have hb1 : o2 ≤ 2000 := by omega
        have hb2 : o2 - d.wid < 510 := by omega
        have K1 := Lib.hid k1
        have K2 := Lib.hid k2
        clear g1 g2 e4 e5 z5 f4 f5 k1 k2 hd2 c5 c5' hby ho2 e1 e2
        by_cases hge : d.wid ≤ o2
        · go_wp2
          go_quiet (fail)
          go_wp2
          go_region
          go_wp2
          go_ret2
          rw [Hby.out, if_pos hge]
          exact ⟨rfl, (K1.out.drewN _).put 5 _ _ rfl rfl, (K2.out.drewN _).setCell (.inl (by simp)) _⟩
        · go_wp2
          go_quiet (fail)
          go_wp2
          go_ret2
          rw [Hby.out, if_neg (by omega)]
          exact ⟨rfl, K1.out.drewN _, K2.out.drewN _⟩
  · have hb : d.bypass = (0, 501, d) := by unfold Dec.bypass; simp [hov]
    rw [hb]
    rw [hov] at hmay
    have Hmay := Lib.hid hmay
    clear hd hmay
    go_enter Tryd.func34, Tryd.ntmps34
    go_wp2_with fail
    refine Hmay.out.mono ?_
    rintro r0 w0 ⟨rfl, rfl⟩
    rw [show codeOf (!true) = 501 from rfl]
    go_wp2
    go_ret2
    exact ⟨rfl, Hd.out, Only.refl _ _⟩
end Go.Proofs.YtibojidpifgblaaDoor
