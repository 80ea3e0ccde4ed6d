/-
  The walk over package sig's Get, where the decoder gives the block's bins.
-/
import Derived.Test.YtgmnkihldlajcaaGreatDoorSigD
namespace Go.Proofs.YtgmnkihldlajcaaGreatDoor
open Go.RowKit

set_option maxRecDepth 100000 in
set_option maxHeartbeats 3200000 in
theorem sig_get {w0 w : World} {b tb sb : Nat} {d d' : Dec} (h : DecAt w0 w b tb sb d) (cs : List Int) (cat inc : Int) (hm : mayB cs.length cat inc = true) (hr : rangeB cs = true) (hg : d.gives (sigDeeds cs cat inc) d') (hs : d.s.size ≤ 140737488355328) (hst : d.st.length = 256) :
    Calls Tryz.prog 33 #[.pointer (some ⟨b, 0, none⟩), .int .i64 cs.length, .int .i64 cat, .int .i64 inc] w fun r w' => ∃ g cap, r = .returned (.tuple #[.slice (some ⟨g, 0, none⟩) cs.length cap, .int .i64 0]) ∧ IntSlice w' (.slice (some ⟨g, 0, none⟩) cs.length cap) cs ∧ DecAt w0 w' b tb sb d' ∧ Only [b, sb] w w' := by
  obtain ⟨hsz, m1, m2, m3, m4⟩ := mayB_spec hm
  obtain ⟨n, hn⟩ : ∃ n, n = cs.length := ⟨_, rfl⟩
  rw [← hn] at hm hsz ⊢
  have H := Lib.hid h
  have Hm := Lib.hid hm
  have Hr := Lib.hid (rangeB_at hr)
  have Hn := Lib.hid hn
  have Hg := Lib.hid (show d.gives (sigDeeds cs cat inc ++ []) d' by rw [List.append_nil]; exact hg)
  have Hst := Lib.hid hst
  have hn16 : 4 ≤ n ∧ n ≤ 16 := by omega
  obtain ⟨hn4, hn16⟩ := hn16
  have hls := lt_of_block h.is.sts
  clear h hm hr hn hg hst hsz
  go_enter Tryz.func33, Tryz.ntmps33
  go_wp2_with fail
  refine (sig_may n cat inc w).mono ?_
  rintro r w1 ⟨rfl, rfl⟩
  rw [Hm.out, show mayCode true = 0 from rfl]
  go_wp2_with (refine wpList_make1 rfl _ _ rfl elt64 rfl n rfl rfl rfl rfl (by decide) (by omega) ?_)
  intro w2 hc2 ho2 hz2
  have C2 := Lib.hid hc2
  have O2 := Lib.hid ho2
  have H2 := Lib.hid (H.out.only ho2 (by simp) (by simp) (by simp) (by simp))
  clear hc2 ho2
  go_wp2_with fail
  refine (dec_keep b tb sb d w2 H2.out.is).mono ?_
  rintro r w3 ⟨⟨k0, k1, k2, k3, rfl⟩, ho3⟩
  have C3 := Lib.hid (ho3.heap C2.out (by simp))
  have O3 := Lib.hid (O2.out.trans ho3)
  have H3 := Lib.hid (H2.out.only ho3 (by simp) (by simp) (by simp) (by simp))
  clear ho3
  go_wp2_with fail
  refine (H3.out.states (by rw [Hst.out]; omega)).mono ?_
  rintro r w4 ⟨v4, rfl, -, h4, ho4⟩
  have C4 := Lib.hid (ho4.heap C3.out (by simp))
  have O4 := Lib.hid (O3.out.trans ho4)
  have H4 := Lib.hid h4
  clear h4 ho4
  go_wp2_with fail
  have oC : Only [] w4 ((w4.alloc (.cells #[.int .i64 k0, .int .i64 k1, .int .i64 k2, .bool k3] 95)).alloc (.cells #[.pointer none, .pointer (some ⟨b, 0, none⟩)] 70)) := ((Only.refl [] w4).alloc _).alloc _
  have hck : ((w4.alloc (.cells #[.int .i64 k0, .int .i64 k1, .int .i64 k2, .bool k3] 95)).alloc (.cells #[.pointer none, .pointer (some ⟨b, 0, none⟩)] 70)).heap[w4.heap.size + 1]? = some (.cells (coderCells false b) 70 (0, 0)) := by
    have := heap_alloc_at (w4.alloc (.cells #[.int .i64 k0, .int .i64 k1, .int .i64 k2, .bool k3] 95)) (.cells #[.pointer none, .pointer (some ⟨b, 0, none⟩)] 70)
    simpa [coderCells] using this
  have hz4 := O4.out.size
  have K5 : Hid (Coding w0 w _ false (w4.heap.size + 1) b tb sb (.slice none 0 0) (Enc.new []) d' (sigDeeds cs cat inc ++ [])) := Lib.hid
    ⟨hck, H.out.on.size, by omega, hls, .inr ⟨rfl, d, H4.out.only oC (by simp) (by simp) (by simp) (by simp), (O4.out.trans oC).mono (by simp), hs, Hg.out⟩⟩
  have M5 : Hid (MemAt _ w.heap.size n (List.replicate n 0)) := Lib.hid (by
    have h1 := oC.heap C4.out (by simp)
    rw [ints_replicate] at h1
    exact ⟨_, h1, fun i hi => ints_at _ _ (by simpa using hi)⟩)
  clear hck oC
  refine (sig_run cs (List.replicate n 0) w.heap.size n n cat inc K5.out M5.out (Nat.le_refl _) (fun h => by cases h) (fun _ i => by simp only [List.getD, List.getElem?_replicate]; split <;> rfl) (by simp) Hn.out.symm (by omega) hn16 Hr.out m1 m2 m3 m4).mono ?_
  rintro r w6 ⟨rfl, g1, g2⟩
  have q : DecAt w0 w6 b tb sb d' ∧ Only [b, sb] w w6 := by
    rcases g2.run with ⟨h, -⟩ | ⟨-, d6, h1, h2, -, h4⟩
    · cases h
    · rw [show d' = d6 from h4]
      exact ⟨h1, h2⟩
  have Q := Lib.hid q
  have I6 : Hid (IntSlice w6 (.slice (some ⟨w.heap.size, 0, none⟩) n n) cs) := Lib.hid (by
    have hnn := Hn.out
    subst hnn
    exact ⟨_, _, rfl, .inr ⟨_, 0, rfl, fun i hi => by rw [Nat.zero_add]; exact g1.cell i hi⟩⟩)
  clear q g1 g2
  go_wp2
  go_ret2
  exact ⟨_, _, rfl, I6.out, Q.out.1, Q.out.2⟩
end Go.Proofs.YtgmnkihldlajcaaGreatDoor
