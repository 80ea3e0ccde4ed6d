/-
  The walks over package recon's Mb of a row's second macroblock, by horizontal modes: in the first one's slice, or in another.
-/
import Derived.Test.YtcmehedjdfopdaaGreatJ44
namespace Go.Proofs.YtcmehedjdfopdaaGreat
open Go Go.RowKit

theorem in_a2 (Y : List Int) (h : Y.length = 512) : ∀ r, r < 16 → ∀ k, k < 16 → (r + k * 0) * (16 * 2) + 1 * 16 + k * 1 < Y.length := fun r hr k hk => by omega
theorem in_b2 (U : List Int) (h : U.length = 128) : ∀ r, r < 8 → ∀ k, k < 8 → (r + k * 0) * (8 * 2) + 1 * 8 + k * 1 < U.length := fun r hr k hk => by omega
theorem in_two4 : ∀ k, k < 16 → ∀ j, j < 16 → spot (16 * 2) (1 * 16 + 4 * blkX k) (0 * 16 + 4 * blkY k) 4 j < 512 := by decide
theorem okPl_half (u : Int) (u0 : 0 ≤ u) (u1 : u ≤ 255) (n : Nat) : okPl (List.replicate n u) := okPl_replicate n u u0 u1

section
variable {w : World} {B cb yb ub vb sb cy cu cv c : Nat} {ao : Option Addr} {u hq pq : Int} {de : Bool} {D : List Value}
set_option maxRecDepth 100000 in
theorem mb_second (hc : CanAt w cb yb ub vb cy cu cv 2 1 (halfY u) (halfU u) (halfU u) (.slice ao 1 c) (.pointer (some ⟨sb, 0, none⟩)) ((0 + 2 : Nat) : Int)) (hown : w.ownsRow B 94 23 (.slice ao 1 c) 1 D)
    (hs : w.heap[sb]? = some (.cells (headI (0 : Nat) (2 : Nat) hq ++ restL de pq ++ ([.int .i64 hq] : List Value)).toArray 89 (0, 0))) (hb1 : B ≤ cb) (u0 : 0 ≤ u) (u1 : u ≤ 255) :
    Calls Tryz.prog 13 #[.pointer (some ⟨cb, 0, none⟩), .agg (mbL 1 1 1 30 0 z16 z28 (.slice none 0 0)).toArray] w fun e w' => e = .returned (.int .i64 0) ∧ ∃ ao' c', CanAt w' cb yb ub vb cy cu cv 2 1 (List.replicate 512 u) (List.replicate 128 u) (List.replicate 128 u) (.slice ao' 2 c') (.pointer (some ⟨sb, 0, none⟩)) ((0 + 2 : Nat) : Int) ∧ Only ([yb, ub, vb, sb, cb] ++ (Value.slice ao 1 c).ownBlock.toList) w w' := by
  have hM := mbL_is 1 1 1 30 0 z16 z28 (.slice none 0 0) z16_len z28_len z16_one z28_one rfl
  have hl : (mbL 1 1 1 30 0 z16 z28 (.slice none 0 0)).length = 483 := mbL_length z16_len z28_len
  have hsee := See.of hc hs
  refine (mb_drawn16 (B := B) (Y := halfY u) (U := halfU u) (V := halfU u) (U' := List.replicate 128 u) (V' := List.replicate 128 u) hc (by omega) (by omega) (by omega) (by omega) hown _ _ rfl rfl hs hb1 (mbL 1 1 1 30 0 z16 z28 (.slice none 0 0)) hl rfl (mbL_ps z16_len z28_len 0) (mbL_ps z16_len z28_len 1) (fun i hi => by have := hM.co i hi; rwa [List.getElem?_toArray] at this)
    (told16 1 1 30 0 0 2 hq (by omega) (by omega) (by omega) (by omega) (by omega) (by omega) (by omega) (by omega)) (refs16 1 1 30 0 0 2 hq) (fun _ _ => True) stableT (fun Y' => Y' = List.replicate 512 u) (fun Y' h => by rw [h, halfY_len, List.length_replicate]) (by rw [halfU_len, List.length_replicate]) (by rw [halfU_len, List.length_replicate]) ?_).mono ?_
  · intro wx b mb db hb hm hd _ _ _ ho
    have hcx := hc.only ho (by simp) (by simp) (by simp) (by simp)
    have hvx := hsee.only ho (by simp) (by simp)
    have hA := hM.at hm
    have bny : b ≠ yb := block_ne hb hcx.ys.choose_spec (by decide)
    have cny : cb ≠ yb := block_ne hcx.st hcx.ys.choose_spec (by decide)
    have mny : mb ≠ yb := block_ne hm hcx.ys.choose_spec (by decide)
    have dny : db ≠ yb := block_ne hd hcx.ys.choose_spec (by decide)
    have sny : sb ≠ yb := block_ne hs hc.ys.choose_spec (by decide)
    have bnu : b ≠ ub := block_ne hb hcx.us.choose_spec (by decide)
    have cnu : cb ≠ ub := block_ne hcx.st hcx.us.choose_spec (by decide)
    have snu : sb ≠ ub := block_ne hs hc.us.choose_spec (by decide)
    have dnu : db ≠ ub := block_ne hd hcx.us.choose_spec (by decide)
    have dnv : db ≠ vb := block_ne hd hcx.vs.choose_spec (by decide)
    have hW : ∀ wy, Only [] wx wy → Calls Tryz.prog 55 #[.pointer (some ⟨b, 0, none⟩)] wy fun e w' => e = .returned (.bool true) ∧ (∃ Y', Y' = List.replicate 512 u ∧ SmpAt w' yb Y') ∧ Only [yb] wy w' := by
      intro wy hy
      have hby : BrushAt wy b cb mb db 1 0 := hy.heap hb (by simp)
      have hcy := hcx.only hy (by simp) (by simp) (by simp) (by simp)
      have hvy := hvx.only hy (by simp) (by simp)
      have hdy := hy.heap hd (by simp)
      refine (whole_drawn (S := List.replicate 256 u) (d := 0) (qp := 30) (RL u 16) hby hcy (by omega)
        (fun wz p hp ho => edges_second (ho.heap hby (by simp)) (hvy.only ho (by simp) (by simp)) hp (by omega) (by omega) (by rw [halfY_len]; omega) (fun k hk => by rw [halfY_len]; omega) (edge_row u flA (16 * 2) (1 * 16 - 1) 16 (fun k hk => by rw [flA_len]; omega) flA_edge))
        (hy.cell hA.k18 (by simp)) (by simp) (fun i hi => by rw [rep_at _ _ i hi]; omega) (fun wz ao n c hr => whole_second u u0 u1 wz ao n c hr)
        (hy.heap hm (by simp)) hdy (by rw [cells_of hdy]; rfl) (by omega) (by omega) (by omega) (by omega) (range_only hA.cf.d0 hy (by simp)) (fun k hk => range_only (hA.cf.co k (by omega)) hy (by simp)) (by omega) (by rw [halfY_len]; omega) (fun k hk => by rw [halfY_len]; unfold spot; omega) (fun k hk j hj => by rw [halfY_len]; exact in_two4 k hk j hj)).mono ?_
      rintro e w' ⟨p, r, rfl, r1, r2, -, hp, ho⟩
      have hr0 : r = 0 := by have := r1 (by omega); have := r2 (by omega); omega
      subst hr0
      rw [putY_full, lumaTo_zero (okPl_half u u0 u1 512)] at hp
      exact ⟨rfl, ⟨_, rfl, hp.smpAt⟩, ho⟩
    refine (draw_ok16 (U' := List.replicate 128 u) (V' := List.replicate 128 u) hb hcx (by omega) (by omega) (by rw [halfY_len]; omega) (by rw [halfU_len]; omega) (by rw [halfU_len]; omega) (in_a2 _ (halfY_len u)) (in_b2 _ (halfU_len u)) (in_b2 _ (halfU_len u)) hA.k0 (fun Y' => Y' = List.replicate 512 u) hW ?_).mono ?_
    · intro wy Y' hy hG hs'
      subst hG
      have hby : BrushAt wy b cb mb db 1 0 := hy.heap hb (by simpa using bny)
      have hmy := hy.heap hm (by simpa using mny)
      have hvy := hvx.only hy (by simpa using cny) (by simpa using sny)
      have hcy : CanAt wy cb yb ub vb cy cu cv 2 1 (List.replicate 512 u) (halfU u) (halfU u) (.slice ao 1 c) (.pointer (some ⟨sb, 0, none⟩)) ((0 + 2 : Nat) : Int) := by
        have hst := hy.heap hcx.st (by simpa using cny)
        rw [halfY_len] at hst
        exact ⟨by rw [List.length_replicate]; exact hst, hs'.sm, hcx.us.imp fun r g => hy.heap g (by simpa using hcx.yu.symm), hcx.vs.imp fun r g => hy.heap g (by simpa using hcx.yv.symm), hs'.ok, hcx.ou, hcx.ov, hcx.yu, hcx.yv, hcx.uv⟩
      refine (chroma_drawn (S := List.replicate 64 u) (RL u 8) hby hcy (by omega)
        (fun wz p g cp pl hpl hp ho => by
          have hpl' : pl = halfU u := hpl.elim id id
          subst hpl'
          exact edges_second (ho.heap hby (by simpa using bnu)) (hvy.only ho (by simpa using cnu) (by simpa using snu)) hp (by omega) (by omega) (by rw [halfU_len]; omega) (fun k hk => by rw [halfU_len]; omega) (edge_row u flB (8 * 2) (1 * 8 - 1) 8 (fun k hk => by rw [flB_len]; omega) flB_edge))
        hmy ((hM.at hmy).k19) ((hM.at hmy).k48) (by simp) (fun i hi => by rw [rep_at _ _ i hi]; omega) (fun wz ao n c hr => chroma_second u u0 u1 wz ao n c hr) (by omega) (by rw [halfU_len]; omega) (by rw [halfU_len]; omega) (fun k hk => by rw [halfU_len]; unfold spot; omega) (fun k hk => by rw [halfU_len]; unfold spot; omega)).mono ?_
      rintro e w' ⟨rfl, su, sv, ho⟩
      rw [putU_full] at su sv
      exact ⟨rfl, su, sv, ho⟩
    · rintro e w' ⟨rfl, sy, su, sv, o⟩
      exact ⟨rfl, _, _, _, _, o.heap hd (by simp; exact ⟨dny, dnu, dnv⟩), by simp [Value.oneCell'], sy, su, sv, trivial, o.mono (by simp)⟩
  · rintro e w' ⟨rfl, p0, p1, p2, p3, ao', c', Y', hG, hc9, -, -, -, o9⟩
    subst hG
    exact ⟨rfl, ao', c', hc9, o9⟩

set_option maxRecDepth 100000 in
theorem mb_apart (hc : CanAt w cb yb ub vb cy cu cv 2 1 (halfY u) (halfU u) (halfU u) (.slice ao 1 c) (.pointer (some ⟨sb, 0, none⟩)) ((1 + 1 : Nat) : Int)) (hown : w.ownsRow B 94 23 (.slice ao 1 c) 1 D)
    (hs : w.heap[sb]? = some (.cells (headI (1 : Nat) (1 : Nat) hq ++ restL de pq ++ ([.int .i64 hq] : List Value)).toArray 89 (0, 0))) :
    Calls Tryz.prog 13 #[.pointer (some ⟨cb, 0, none⟩), .agg (mbL 1 1 1 30 0 z16 z28 (.slice none 0 0)).toArray] w fun e w' => e = .returned (.int .i64 2200) ∧ (∃ Y' U' V', CanAt w' cb yb ub vb cy cu cv 2 1 Y' U' V' (.slice ao 1 c) (.pointer (some ⟨sb, 0, none⟩)) ((1 + 1 : Nat) : Int)) ∧ Only [yb, ub, vb] w w' := by
  have hM := mbL_is 1 1 1 30 0 z16 z28 (.slice none 0 0) z16_len z28_len z16_one z28_one rfl
  have hl : (mbL 1 1 1 30 0 z16 z28 (.slice none 0 0)).length = 483 := mbL_length z16_len z28_len
  have hsee := See.of hc hs
  refine (mb_refused16 (B := B) (Y := halfY u) (U := halfU u) (V := halfU u) (Y' := putTo (16 * 2) (1 * 16) 0 16 (keepTo (halfY u) (16 * 2) (1 * 16) 16 16) (halfY u) 256) (U' := halfU u) (V' := halfU u) hc (by omega) (by omega) (by omega) (by omega) hown _ _ rfl rfl hs (mbL 1 1 1 30 0 z16 z28 (.slice none 0 0)) hl rfl (mbL_ps z16_len z28_len 0) (mbL_ps z16_len z28_len 1) (fun i hi => by have := hM.co i hi; rwa [List.getElem?_toArray] at this)
    (told16 1 1 30 0 1 1 hq (by omega) (by omega) (by omega) (by omega) (by omega) (by omega) (by omega) (by omega)) (refs16 1 1 30 0 1 1 hq) (putTo_length _ _ _ _ _ _ _) rfl rfl ?_).mono ?_
  · intro wx b mb db hb hm hd _ _ _ ho
    have hcx := hc.only ho (by simp) (by simp) (by simp) (by simp)
    have hvx := hsee.only ho (by simp) (by simp)
    have hA := hM.at hm
    refine draw_nol16 hb hcx (by omega) (by omega) (by rw [halfY_len]; omega) (by rw [halfU_len]; omega) (by rw [halfU_len]; omega) (in_a2 _ (halfY_len u)) (in_b2 _ (halfU_len u)) (in_b2 _ (halfU_len u)) hA.k0 (Y' := halfY u) rfl ?_
    intro wy hy
    have hby : BrushAt wy b cb mb db 1 0 := hy.heap hb (by simp)
    have hcy := hcx.only hy (by simp) (by simp) (by simp) (by simp)
    have hvy := hvx.only hy (by simp) (by simp)
    refine (whole_refused R0 hby hcy (by omega) (fun wz p hp ho => edges_apart (ho.heap hby (by simp)) (hvy.only ho (by simp) (by simp)) hp (by omega)) (hy.cell hA.k18 (by simp)) (fun wz ao n c ⟨h1, h2, h3⟩ => by
      subst h1; subst h2; subst h3
      exact whole_no 1 (.inr (.inl rfl)) _ _ (-1) wz (IntSlice.nil wz) (IntSlice.nil wz) (by omega) (by omega))).mono ?_
    rintro e w' ⟨rfl, o⟩
    have hcz := hcy.only o (by simp) (by simp) (by simp) (by simp)
    exact ⟨rfl, ⟨hcz.ys, hcz.oy⟩, o.mono (by simp)⟩
  · rintro e w' ⟨rfl, hc9, o9⟩
    exact ⟨rfl, ⟨_, _, _, hc9⟩, o9⟩
end
end Go.Proofs.YtcmehedjdfopdaaGreat
