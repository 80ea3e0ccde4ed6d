/-
  The walks over package engine's decoder: States, NewDecoder.
-/
import Derived.Test.YtibojidpifgblaaDoorEngK
namespace Go.Proofs.YtibojidpifgblaaDoor
open Go.RowKit

set_option maxRecDepth 100000 in
theorem eng_dstates (b tb sb : Nat) (e : Dec) (w : World) (he : DecIs w b tb sb e) (hl : e.st.length < 17592186044415) :
    Calls Tryd.prog 41 #[.pointer (some ⟨b, 0, none⟩)] w fun r w' => ∃ v, r = .returned v ∧ w'.ownsRow w.heap.size 3 1 v e.st.length (e.st.map (Value.int .i64)) ∧ Only [] w w' := by
  obtain ⟨-, c1, -, -, -, -, -⟩ := he.cellsAt
  have hst := he.state
  obtain ⟨L, hL⟩ : ∃ L, L = e.st.length := ⟨_, rfl⟩
  rw [← hL] at c1 hl hst ⊢
  obtain ⟨news, hnews⟩ : ∃ n, n = e.st.map (Value.int .i64) := ⟨_, rfl⟩
  have hnl : news.length = L * 1 := by rw [hnews, hL]; simp
  have hnc : ∀ j u, news[j]? = some u → w.cell? ((⟨sb, 0, none⟩ : Addr).add j) = some u := by
    intro j u hj
    rw [hnews, List.getElem?_map] at hj
    by_cases h : j < e.st.length
    · simp only [List.getElem?_eq_getElem h, Option.map_some, Option.some.injEq] at hj
      have := hst j (by omega)
      simp only [List.getD, List.getElem?_eq_getElem h, Option.getD_some] at this
      rw [← hj, ← this, Addr.add_lit, Nat.zero_add]
    · simp [List.getElem?_eq_none (by omega : e.st.length ≤ j)] at hj
  have hn1 : ∀ u ∈ news, u.oneCell' = true := by
    intro u hu
    rw [hnews] at hu
    obtain ⟨x, _, rfl⟩ := List.mem_map.1 hu
    rfl
  rw [← hnews]
  clear hst he hnews hL
  go_enter Tryd.func41, Tryd.ntmps41
  by_cases hz : L = 0
  · subst hz
    have hne : news = [] := List.eq_nil_of_length_eq_zero (by omega)
    subst hne
    go_wp2
    go_ret
    exact ⟨_, rfl, World.ownsRow_nil _ _ _ _, Only.refl _ _⟩
  · go_wp2_with (at_builtin; refine wpList_appendB rfl _ _ rfl elt64 w.heap.size (.slice none 0 0) 0 [] rfl (World.ownsRow_nil _ _ _ _) ⟨sb, 0, none⟩ L L news rfl hnl hnc hn1 (by omega) (by omega) (by omega) (Nat.le_refl _) ?_)
    intro g cap w2 hp
    have h1 := ownsRow_cast (m := L) (ys := news) hp.1 (by omega) (by simp)
    have h2 : Only [] w w2 := (Only.refl _ _).grown hp.2.1 (fun k hk => by simp [Value.ownBlock] at hk)
    clear hp hnc hn1
    have H1 := Lib.hid h1
    go_wp2
    go_ret
    exact ⟨_, rfl, ownsRow_cast H1.out rfl rfl, h2⟩

/-- What NewDecoder answers: its code. -/
def beginCode (s : ByteArray) : Int := if s.size < 2 then 500 else if 510 ≤ readTo s 0 9 then 501 else 0
def beginPtr (s : ByteArray) (b : Nat) : Value := if beginCode s = 0 then .pointer (some ⟨b, 0, none⟩) else .pointer none
theorem beginOk (s : ByteArray) (xs : List Int) (h : beginCode s = 0) : (Dec.begin s xs).Ok := by
  unfold beginCode at h
  by_cases h1 : s.size < 2
  · rw [if_pos h1] at h; omega
  · rw [if_neg h1] at h
    by_cases h2 : 510 ≤ readTo s 0 9
    · rw [if_pos h2] at h; omega
    · have := readTo_range s 0 9
      exact ⟨beginOf_range xs, this.1, fun _ => by show readTo s 0 9 < 510; omega, by show (254 : Int) ≤ 510; omega, fun _ => by show (256 : Int) ≤ 510; omega, Int.le_refl _, by show readTo s 0 9 < 510; omega, by show 9 ≤ 8 * s.size; omega⟩

set_option maxRecDepth 100000 in
set_option maxHeartbeats 800000 in
theorem eng_dnew (s : ByteArray) (v : Value) (xs : List Int) (w : World) (hv : IntSlice w v xs) (hl : xs.length ≤ 17592186044414) (ha : Asc w) (hs : s.size ≤ 140737488355328) :
    Calls Tryd.prog 33 #[.string s, v] w fun r w' => ∃ b tb sb, r = .returned (.tuple #[beginPtr s b, .int .i64 (beginCode s)]) ∧ (beginCode s = 0 → DecIs w' b tb sb (Dec.begin s xs)) ∧ Only [] w w' ∧ w.heap.size ≤ b ∧ w.heap.size ≤ tb ∧ w.heap.size ≤ sb := by
  have Ha := Lib.hid ha
  have Hv := Lib.hid hv
  go_enter Tryd.func33, Tryd.ntmps33
  go_wp2_with fail
  refine (eng_get_new w ha).mono ?_
  rintro r1 w1 ⟨rfl, ht, ho⟩
  have Ht := Lib.hid ht
  have Ho := Lib.hid ho
  clear ht
  go_wp2_with fail
  refine (eng_begin v xs w1 (hv.only ho (by simp)) hl).mono ?_
  rintro r2 w2 ⟨sb, rfl, hsb, hst, ho2⟩
  have htb := Ht.out.only ho2 (by simp)
  have Htb := Lib.hid htb
  have Hst := Lib.hid hst
  have Ho2 := Lib.hid (ho.trans ho2)
  have Hsb := Lib.hid (Nat.le_trans Ho.out.size hsb)
  clear htb hst ho ho2 hsb
  obtain ⟨d0, hd0⟩ : ∃ d0 : Dec, d0 = ⟨beginOf xs, s, 0, 510, 0, false⟩ := ⟨_, rfl⟩
  have h0 : DecIs (w2.alloc (.cells (decCells w.heap.size sb xs.length s 0 510 0 false) 91)) w2.heap.size w.heap.size sb d0 := by
    refine ⟨?_, heap_alloc_lt _ Htb.out, ?_⟩
    · rw [heap_alloc_at, hd0]
      show _ = some (Obj.cells (decCells _ _ (beginOf xs).length _ _ _ _ _) _ _)
      rw [beginOf_length]
      rfl
    · rw [hd0]; exact heap_alloc_lt _ Hst.out
  have hst0 : d0.s = s := by rw [hd0]
  have hp0 : d0.pos = 0 := by rw [hd0]
  have H0 := Lib.hid h0
  have Hon := Lib.hid (Ho2.out.alloc (.cells (decCells w.heap.size sb xs.length s 0 510 0 false) 91))
  have Hnew := Lib.hid Ho2.out.size
  have hhas : d0.has 9 = decide (2 ≤ s.size) := by unfold Dec.has; rw [hp0, hst0]; exact decide_eq_decide.2 (by omega)
  have hin2 : w2.heap.size < (w2.alloc (.cells (decCells w.heap.size sb xs.length s 0 510 0 false) 91)).heap.size := by simp
  have Hd0 := Lib.hid hd0
  clear h0 hd0
  by_cases hsz : 2 ≤ s.size
  · rw [show decide (2 ≤ s.size) = true by simp [hsz]] at hhas
    go_wp2_with fail
    refine (eng_has w2.heap.size w.heap.size sb 9 d0 _ H0.out (by omega) (by omega) (by rw [hst0]; exact hs)).mono ?_
    rintro r w3 ⟨rfl, nq, rfl⟩
    rw [hhas]
    go_wp2_with fail
    refine (eng_read w2.heap.size w.heap.size sb 9 d0 _ (H0.out.drewN nq) (by omega) (by rw [hst0]; exact hs) (by rw [hst0, hp0]; omega)).mono ?_
    rintro r w3 ⟨rfl, g1, g2⟩
    rw [hst0, hp0]
    obtain ⟨o, ho⟩ : ∃ o, o = readTo s 0 9 := ⟨_, rfl⟩
    have hor := readTo_range s 0 9
    rw [← ho] at hor ⊢
    obtain ⟨hor0, hor1⟩ := hor
    have k1 : DecIs (w3.setCell ⟨w2.heap.size, 5, none⟩ (.int .i64 o)) w2.heap.size w.heap.size sb (Dec.begin s xs) := by
      have e1 := g1.put 5 (.int .i64 o) { d0 with pos := d0.pos + 9, off := o } rfl rfl
      rw [Hd0.out, ho] at e1
      rw [ho]
      exact e1
    have k2 : Only [] w (w3.setCell ⟨w2.heap.size, 5, none⟩ (.int .i64 o)) := by
      have e2 : Only [w2.heap.size] w (w3.setCell ⟨w2.heap.size, 5, none⟩ (.int .i64 o)) := ((Hon.out.mono (by simp)).drewN nq |>.trans g2).setCell (.inl (by simp)) _
      exact ⟨e2.os, e2.tape, e2.output, e2.size, fun k hk _ => e2.block k hk (by have := Hnew.out; simp; omega)⟩
    have z5 := free_of g1.cells 5
    have c5 := g1.cellsAt.2.2.2.2.2.1
    have c4 := g1.cellsAt.2.2.2.2.1
    have c4' : w3.cell? ⟨w2.heap.size, 4, none⟩ = some (.int .i64 510) := by rw [c4]; dsimp only; rw [Hd0.out]
    have Ho := Lib.hid ho
    have K1 := Lib.hid k1
    have K2 := Lib.hid k2
    clear g1 g2 c4 ho k1 k2
    go_wp2
    generalize w3.setCell ⟨w2.heap.size, 5, none⟩ (.int .i64 o) = w4 at *
    have e4 := K1.out.cellsAt.2.2.2.2.1
    have e5 := K1.out.cellsAt.2.2.2.2.2.1
    have e4' : w4.cell? ⟨w2.heap.size, 4, none⟩ = some (.int .i64 510) := e4
    have e5' : w4.cell? ⟨w2.heap.size, 5, none⟩ = some (.int .i64 o) := by rw [e5]; show some (Value.int .i64 (readTo s 0 9)) = _; rw [Ho.out]
    clear e4 e5 c5 c4' z5
    by_cases hge : 510 ≤ o
    · have hbc : beginCode s = 501 := by unfold beginCode; rw [if_neg (by omega), if_pos (by rw [← Ho.out]; exact hge)]
      have hbp : beginPtr s w2.heap.size = .pointer none := by unfold beginPtr; rw [if_neg (by rw [hbc]; decide)]
      have Hbc := Lib.hid hbc
      have Hbp := Lib.hid hbp
      clear hbc hbp
      go_quiet (fail)
      go_wp2
      go_ret2
      exact ⟨w2.heap.size, w.heap.size, sb, by rw [Hbc.out, Hbp.out]; rfl, fun h => by rw [Hbc.out] at h; omega, K2.out.drewN _, Hnew.out, Nat.le_refl _, Hsb.out⟩
    · have hbc : beginCode s = 0 := by unfold beginCode; rw [if_neg (by omega), if_neg (by rw [← Ho.out]; exact hge)]
      have hbp : beginPtr s w2.heap.size = .pointer (some ⟨w2.heap.size, 0, none⟩) := by unfold beginPtr; rw [if_pos hbc]
      have Hbc := Lib.hid hbc
      have Hbp := Lib.hid hbp
      clear hbc hbp
      go_quiet (fail)
      go_wp2
      go_ret2
      exact ⟨w2.heap.size, by rw [Hbc.out, Hbp.out]; rfl, w.heap.size, sb, fun _ => K1.out.drewN _, K2.out.drewN _, Hnew.out, Nat.le_refl _, Hsb.out⟩
  · have hbc : beginCode s = 500 := by unfold beginCode; rw [if_pos (by omega)]
    have hbp : beginPtr s w2.heap.size = .pointer none := by unfold beginPtr; rw [if_neg (by rw [hbc]; decide)]
    rw [show decide (2 ≤ s.size) = false by simp [hsz]] at hhas
    have Hbc := Lib.hid hbc
    have Hbp := Lib.hid hbp
    clear hbc hbp
    go_wp2_with fail
    refine (eng_has w2.heap.size w.heap.size sb 9 d0 _ H0.out (by omega) (by omega) (by rw [hst0]; exact hs)).mono ?_
    rintro r w3 ⟨rfl, nq, rfl⟩
    rw [hhas]
    go_wp2
    go_ret2
    refine ⟨w2.heap.size, w.heap.size, sb, by rw [Hbc.out, Hbp.out]; rfl, fun h => by rw [Hbc.out] at h; omega, Hon.out.drewN nq, Hnew.out, Nat.le_refl _, Hsb.out⟩
end Go.Proofs.YtibojidpifgblaaDoor
