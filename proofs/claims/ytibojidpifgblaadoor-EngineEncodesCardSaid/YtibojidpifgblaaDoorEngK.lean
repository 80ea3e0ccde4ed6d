/-
  The walks over package engine's decoder: Terminate, States, NewDecoder.
-/
import Derived.Test.YtibojidpifgblaaDoorEngJ
namespace Go.Proofs.YtibojidpifgblaaDoor
open Go.RowKit

set_option maxRecDepth 100000 in
set_option maxHeartbeats 800000 in
theorem eng_dterm (b tb sb : Nat) (d : Dec) (w : World) (hd : DecIs w b tb sb d) (hok : d.Ok) (hs : d.s.size ≤ 140737488355328) :
    Calls Tryd.prog 43 #[.pointer (some ⟨b, 0, none⟩)] w fun r w' => r = .returned (.tuple #[.int .i64 d.term.1, .int .i64 d.term.2.1]) ∧ DecIs w' b tb sb d.term.2.2 ∧ Only [b] w w' := by
  have hmay := eng_dmay b tb sb d w hd
  have hpos := hok.pos
  have Hd := Lib.hid hd
  cases hov : d.over
  · rw [hov] at hmay
    have hw1 := hok.wid1
    have hw2 := hok.wid2 hov
    have ho0 := hok.off0
    have ho1 := hok.off1 hov
    have Hmay := Lib.hid hmay
    obtain ⟨-, -, -, -, c4, c5, c6⟩ := hd.cellsAt
    rw [hov] at c6
    have z4 := free_of hd.cells 4
    have z6 := free_of hd.cells 6
    by_cases hge : d.wid - 2 ≤ d.off
    · have hb : d.term = (1, 0, { d with wid := d.wid - 2, over := true }) := by unfold Dec.term; simp [hov, hge]
      rw [hb]
      clear hd hmay
      go_enter Tryd.func43, Tryd.ntmps43
      go_wp2_with fail
      refine Hmay.out.mono ?_
      rintro r0 w0 ⟨rfl, rfl⟩
      rw [show codeOf (!false) = 0 from rfl]
      go_wp2
      go_quiet (fail)
      go_wp2
      go_ret2
      have k1 : DecIs ((w.drewN nq).setCell ⟨b, 4, none⟩ (.int .i64 (d.wid - 2))) b tb sb { d with wid := d.wid - 2 } := (Hd.out.drewN nq).put 4 _ _ rfl rfl
      exact ⟨rfl, k1.put 6 _ _ rfl rfl, (((Only.refl _ _).drewN nq).setCell (.inl (by simp)) _).setCell (.inl (by simp)) _⟩
    · have hb : d.term = (0, endOf (d.has (need 8 (d.wid - 2))), d.normalIf (d.has (need 8 (d.wid - 2))) (d.wid - 2) d.off) := by
        unfold Dec.term Dec.normalIf endOf
        rw [hov]
        simp only [Bool.false_eq_true, if_false, if_neg hge]
        split <;> rfl
      rw [hb]
      clear hd hmay
      go_enter Tryd.func43, Tryd.ntmps43
      go_wp2_with fail
      refine Hmay.out.mono ?_
      rintro r0 w0 ⟨rfl, rfl⟩
      rw [show codeOf (!false) = 0 from rfl]
      go_wp2
      go_quiet (fail)
      go_wp2
      have hd2 := (Hd.out.drewN nq).drew
      have hwr : IntKind.i64.wrap (d.wid - 2) = d.wid - 2 := by rw [IntKind.wrap_i64]; omega
      have ho3 : d.off < d.wid - 2 := by omega
      go_region_law (first | (go_simp; go_at_call 65; refine (eng_dnorm b tb sb d (d.wid - 2) d.off (w.drewN nq).drew hd2 (by omega) (by omega) ho0 ho3 hs hpos).mono ?_; rintro r2 w2 ⟨rfl, g1, g2⟩))
      all_goals
        have K1 := Lib.hid g1
        have K2 : Hid (Only [b] w w2) := Lib.hid ((((Only.refl _ _).drewN nq).drew).trans g2)
        clear g1 g2
        go_wp2
        go_ret2
        exact ⟨rfl, K1.out, K2.out⟩
  · have hb : d.term = (0, 501, d) := by unfold Dec.term; simp [hov]
    rw [hb]
    rw [hov] at hmay
    have Hmay := Lib.hid hmay
    clear hd hmay
    go_enter Tryd.func43, Tryd.ntmps43
    go_wp2_with fail
    refine Hmay.out.mono ?_
    rintro r0 w0 ⟨rfl, rfl⟩
    rw [show codeOf (!true) = 501 from rfl]
    go_wp2
    go_ret2
    exact ⟨rfl, Hd.out, Only.refl _ _⟩
end Go.Proofs.YtibojidpifgblaaDoor
