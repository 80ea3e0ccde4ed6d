/-
  The walks over an encoder's States, a decoder's At.
-/
import Derived.Test.YtgmnkihldlajcaaGreatDoorHold
namespace Go.Proofs.YtgmnkihldlajcaaGreatDoor
open Go.RowKit

set_option maxRecDepth 100000 in
theorem eng_states (b tb sb : Nat) (ov : Value) (e : Enc) (w : World) (he : EncIs w b tb sb ov e) (hl : e.st.length < 17592186044415) :
    Calls Tryz.prog 16 #[.pointer (some ⟨b, 0, none⟩)] w fun r w' => ∃ v, r = .returned v ∧ w'.ownsRow w.heap.size 3 1 v e.st.length (e.st.map (Value.int .i64)) ∧ Only [] w w' := by
  obtain ⟨-, c1, -, -, -, -, -, -, -⟩ := he.cellsAt
  have hst := he.state
  obtain ⟨L, hL⟩ : ∃ L, L = e.st.length := ⟨_, rfl⟩
  rw [← hL] at c1 hl hst ⊢
  obtain ⟨news, hnews⟩ : ∃ n, n = e.st.map (Value.int .i64) := ⟨_, rfl⟩
  have hnl : news.length = L * 1 := by rw [hnews, hL]; simp
  have hnc : ∀ j u, news[j]? = some u → w.cell? ((⟨sb, 0, none⟩ : Addr).add j) = some u := by
    intro j u hj
    rw [hnews, List.getElem?_map] at hj
    by_cases h : j < e.st.length
    · simp only [List.getElem?_eq_getElem h, Option.map_some, Option.some.injEq] at hj
      have := hst j (by omega)
      simp only [List.getD, List.getElem?_eq_getElem h, Option.getD_some] at this
      rw [← hj, ← this, Addr.add_lit, Nat.zero_add]
    · simp [List.getElem?_eq_none (by omega : e.st.length ≤ j)] at hj
  have hn1 : ∀ u ∈ news, u.oneCell' = true := by
    intro u hu
    rw [hnews] at hu
    obtain ⟨x, _, rfl⟩ := List.mem_map.1 hu
    rfl
  rw [← hnews]
  clear hst he hnews hL
  go_enter Tryz.func16, Tryz.ntmps16
  by_cases hz : L = 0
  · subst hz
    have hne : news = [] := List.eq_nil_of_length_eq_zero (by omega)
    subst hne
    go_wp2
    go_ret
    exact ⟨_, rfl, World.ownsRow_nil _ _ _ _, Only.refl _ _⟩
  · go_wp2_with (at_builtin; refine wpList_appendB rfl _ _ rfl elt64 w.heap.size (.slice none 0 0) 0 [] rfl (World.ownsRow_nil _ _ _ _) ⟨sb, 0, none⟩ L L news rfl hnl hnc hn1 (by omega) (by omega) (by omega) (Nat.le_refl _) ?_)
    intro g cap w2 hp
    have h1 := ownsRow_cast (m := L) (ys := news) hp.1 (by omega) (by simp)
    have h2 : Only [] w w2 := (Only.refl _ _).grown hp.2.1 (fun k hk => by simp [Value.ownBlock] at hk)
    clear hp hnc hn1
    have H1 := Lib.hid h1
    go_wp2
    go_ret
    exact ⟨_, rfl, ownsRow_cast H1.out rfl rfl, h2⟩

theorem EncAt.states {w0 w : World} {b tb sb : Nat} {ov : Value} {e : Enc} (h : EncAt w0 w b tb sb ov e) (hl : e.st.length < 17592186044415) :
    Calls Tryz.prog 16 #[.pointer (some ⟨b, 0, none⟩)] w fun r w' => ∃ v, r = .returned v ∧ w'.ownsRow w.heap.size 3 1 v e.st.length (e.st.map (Value.int .i64)) ∧ EncAt w0 w' b tb sb ov e ∧ Only [] w w' := by
  refine (eng_states b tb sb ov e w h.is hl).mono ?_
  rintro r w' ⟨v, rfl, h1, h2⟩
  exact ⟨v, rfl, h1, h.only h2 (by simp) (by simp) (by simp) (by simp) (by simp), h2⟩

end Go.Proofs.YtgmnkihldlajcaaGreatDoor
