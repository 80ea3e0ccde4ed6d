/-
  The walks over the document's coding of a block by the engine (package zoetroperef7): Size, Within, rank, Code.
-/
import Derived.Test.YtgmnkihldlajcaaGreatDoorSigNz
import Derived.Test.YtgmnkihldlajcaaGreatDoorPutB
import Derived.Test.YtgmnkihldlajcaaGreatDoorHold2
namespace Go.Proofs.YtgmnkihldlajcaaGreatDoor
open Go.RowKit

/-- What the document's encoder still has to go over. -/
def RefDo (w0 wP w : World) (b tb sb : Nat) (ovP : Value) (eEnd : Enc) (os : List Deed) : Prop :=
  ∃ ov e, RefAt w0 w b tb sb ov e ∧ EncGo wP w b sb ovP ov ∧ e.Live ∧ e.st.length = 256 ∧ e.cost + 8 * os.length < 500000000 ∧ (∀ o ∈ os, o.fits 256) ∧ e.run os = eEnd
theorem RefDo.only {w0 wP w w' : World} {b tb sb : Nat} {ovP : Value} {eEnd : Enc} {os : List Deed} (h : RefDo w0 wP w b tb sb ovP eEnd os) (ho : Only [] w w') : RefDo w0 wP w' b tb sb ovP eEnd os := by
  obtain ⟨ov, e, h1, h2, h3⟩ := h
  exact ⟨ov, e, h1.only ho (by simp) (by simp) (by simp) (by simp) (by simp), ⟨h2.only.trans' ho (by simp), h2.new⟩, h3⟩
theorem RefDo.on {w0 wP w : World} {b tb sb : Nat} {ovP : Value} {eEnd : Enc} {os : List Deed} (h : RefDo w0 wP w b tb sb ovP eEnd os) : Only [] w0 w := by
  obtain ⟨ov, e, h1, -⟩ := h
  exact h1.on
theorem Enc.run_step (e : Enc) (a b : List Deed) (h : e.Live) (hst : e.st.length = 256) (hf : ∀ o ∈ a ++ b, o.fits 256) (hc : e.cost + 8 * (a ++ b).length < 500000000) :
    (e.run a).Live ∧ (e.run a).st.length = 256 ∧ (e.run a).cost + 8 * b.length < 500000000 ∧ (e.run a).run b = e.run (a ++ b) := by
  have h1 := e.live_run a h (fun o ho => by rw [hst]; exact hf o (by simp [ho]))
  rw [List.length_append] at hc
  exact ⟨h1.1, h1.2.1.trans hst, by have := h1.2.2; omega, by rw [Enc.run_append]⟩
theorem ref_el {w0 wP w : World} {b tb sb : Nat} {ovP : Value} {eEnd : Enc} {os : List Deed} (el inc v : Int) (hk : kindOf el = 1 ∨ kindOf el = 4) (h : RefDo w0 wP w b tb sb ovP eEnd (elemDeeds el inc v 1 ++ os)) (hb : bitsE el v 1 = 0) (i0 : 0 ≤ inc) (i1 : inc ≤ 7) :
    Calls Tryz.prog 27 #[.pointer (some ⟨b, 0, none⟩), .int .i64 el, .int .i64 inc, .int .i64 v, .int .i64 0] w fun r w' => r = .returned (.int .i64 0) ∧ RefDo w0 wP w' b tb sb ovP eEnd os := by
  obtain ⟨ov, e, h1, h2, h3, h4, h5, h6, h7⟩ := h
  obtain ⟨l1, l2, l3, l4⟩ := e.run_step _ _ h3 h4 h6 h5
  have hel : e.elem el inc v 0 = (0, e.run (elemDeeds el inc v 1)) := by rw [e.elem_live _ _ _ _ h3 h4, if_pos ⟨by rw [bitsE_most el v hk]; exact hb, i0, i1⟩, elemDeeds_most el inc v hk]
  refine (ref_elem h1 (by omega) el inc v 0).mono ?_
  rintro r w' ⟨rfl, ov', g1, g2⟩
  rw [hel] at g1 ⊢
  exact ⟨rfl, ov', _, g1, h2.trans g2, l1, l2, l3, fun o ho => h6 o (by simp [ho]), l4.trans h7⟩
theorem ref_by {w0 wP w : World} {b tb sb : Nat} {ovP : Value} {eEnd : Enc} {os : List Deed} (v : Int) (hv : v = 0 ∨ v = 1) (h : RefDo w0 wP w b tb sb ovP eEnd (.byp v :: os)) :
    Calls Tryz.prog 29 #[.pointer (some ⟨b, 0, none⟩), .int .i64 v] w fun r w' => r = .returned (.int .i64 0) ∧ RefDo w0 wP w' b tb sb ovP eEnd os := by
  obtain ⟨ov, e, h1, h2, h3, h4, h5, h6, h7⟩ := h
  obtain ⟨l1, l2, l3, l4⟩ := e.run_step [.byp v] os h3 h4 h6 h5
  have hmay : e.may v = true := by unfold Enc.may; rw [h3.going]; simp; omega
  refine (h1.bypass v (by omega)).mono ?_
  rintro r w' ⟨rfl, ov', g1, g2⟩
  rw [hmay]
  exact ⟨rfl, ov', _, g1, h2.trans g2, l1, l2, l3, fun o ho => h6 o (by simp [ho]), l4.trans h7⟩

theorem ref_size (n : Int) (w : World) : Calls Tryz.prog 25 #[.int .i64 n] w fun r w' => r = .returned (.bool (sizeB n)) ∧ w = w' := by
  go_enter Tryz.func25, Tryz.ntmps25
  by_cases h4 : n = 4
  · subst h4
    go_wp2
    go_ret
    exact ⟨rfl, rfl⟩
  · have b4 : (n == 4) = false := by simp [h4]
    by_cases h15 : n = 15
    · subst h15
      go_wp2
      go_ret
      exact ⟨rfl, rfl⟩
    · have b15 : (n == 15) = false := by simp [h15]
      by_cases h16 : n = 16
      · subst h16
        go_wp2
        go_ret
        exact ⟨rfl, rfl⟩
      · have b16 : (n == 16) = false := by simp [h16]
        have hs : Hid (sizeB n = false) := Lib.hid (decide_eq_false (by omega))
        clear h4 h15 h16
        go_wp2
        go_ret
        exact ⟨ret_bool hs.out.symm, rfl⟩

set_option maxRecDepth 100000 in
set_option maxHeartbeats 1600000 in
theorem ref_within (v : Value) (cs : List Int) (w : World) (hv : IntSlice w v cs) (hl : cs.length ≤ 16) : Calls Tryz.prog 26 #[v] w fun r w' => r = .returned (.bool (rangeB cs)) ∧ w = w' := by
  obtain ⟨n, hn⟩ : ∃ n, n = cs.length := ⟨_, rfl⟩
  obtain ⟨ao, cap0, rfl, hv0⟩ := hv
  rw [← hn] at hl ⊢
  have Hv := Lib.hid hv0
  have Hn := Lib.hid hn
  clear hv0 hn
  go_enter Tryz.func26, Tryz.ntmps26
  go_wp2
  go_loop [3] (fun q => ∃ k : Nat, k ≤ n ∧ q = .int .i64 k ∧ Hid (∀ i, i < k → -32767 ≤ cs.getD i 0 ∧ cs.getD i 0 ≤ 32767)) (fun q => n - (intOf q).toNat)
  case atStart => exact ⟨0, Nat.zero_le _, rfl, Lib.hid (fun i hi => by omega)⟩
  case round =>
    obtain ⟨k, hk, rfl, hin⟩ := hrel
    by_cases hlt : k < n
    · rcases Hv.out with h | ⟨g0, off, rfl, hc⟩
      · have := Hn.out; rw [h] at this; simp at this; omega
      have c1 := hc k (by rw [← Hn.out]; exact hlt)
      obtain ⟨x, hx⟩ : ∃ x, x = cs.getD k 0 := ⟨_, rfl⟩
      rw [← hx] at c1
      have Hx := Lib.hid hx
      clear hx hc
      rcases (show x < -32767 ∨ (-32767 ≤ x ∧ 32767 < x) ∨ (-32767 ≤ x ∧ x ≤ 32767) by omega) with h1 | ⟨h1, h2⟩ | ⟨h1, h2⟩
      · have Hr : Hid (rangeB cs = false) := Lib.hid (rangeB_not (i := k) (by rw [← Hx.out]; omega))
        go_wp2
        go_ret
        exact ⟨ret_bool Hr.out.symm, rfl⟩
      · have Hr : Hid (rangeB cs = false) := Lib.hid (rangeB_not (i := k) (by rw [← Hx.out]; omega))
        go_wp2
        go_ret
        exact ⟨ret_bool Hr.out.symm, rfl⟩
      · have Hin2 : Hid (∀ i, i < k + 1 → -32767 ≤ cs.getD i 0 ∧ cs.getD i 0 ≤ 32767) := Lib.hid (fun i hi => by
          rcases Nat.lt_or_ge i k with h | h
          · exact hin.out i h
          · obtain rfl : i = k := by omega
            rw [← Hx.out]; exact ⟨h1, h2⟩)
        go_wp2
        go_round
        case rel => exact ⟨k + 1, by omega, by go_num, Hin2⟩
        case measure => simp [intOf] <;> omega
    · obtain rfl : k = n := by omega
      have Hr : Hid (rangeB cs = true) := Lib.hid (rangeB_of (fun i hi => hin.out i (by rw [Hn.out]; exact hi)))
      go_wp2
      go_ret
      exact ⟨ret_bool Hr.out.symm, rfl⟩

theorem ref_rank (g : Nat) (cat : Int) (w : World) (hg : g ≤ 100) : Calls Tryz.prog 28 #[.int .i64 g, .int .i64 cat] w fun r w' => r = .returned (.int .i64 (rankOf cat g)) ∧ w = w' := by
  go_enter Tryz.func28, Tryz.ntmps28
  by_cases h : 1 < cat
  · have hr : Hid (rankOf cat g = min 5 (g : Int) + 1) := Lib.hid (by unfold rankOf; rw [decide_eq_true h]; rfl)
    go_wp2
    go_ret
    exact ⟨ret_int hr.out.symm, rfl⟩
  · have hr : Hid (rankOf cat g = min 5 (g : Int)) := Lib.hid (by unfold rankOf; rw [decide_eq_false h]; show _ + (0 : Int) = _; omega)
    go_wp2
    go_ret
    exact ⟨ret_int hr.out.symm, rfl⟩
end Go.Proofs.YtgmnkihldlajcaaGreatDoor
