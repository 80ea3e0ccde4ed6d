/-
  EngineBypass: bins by bypass take one bit each, and a few at the end.
-/
import Derived.Test.YtibojidpifgblaaDoorLaw5Awake
import Derived.Test.YtibojidpifgblaaDoorEnc
namespace Go.Proofs.YtibojidpifgblaaDoor
open Go.RowKit

theorem EncAt.low {w0 w : World} {b tb sb : Nat} {ov : Value} {e : Enc} (h : EncAt w0 w b tb sb ov e) : b < w.heap.size ∧ tb < w.heap.size ∧ sb < w.heap.size ∧ ∀ g, ov.ownBlock = some g → g < w.heap.size :=
  ⟨lt_of_block h.is.cells, lt_of_block h.is.tab, lt_of_block h.is.sts, fun _ hg => by obtain ⟨c, hc⟩ := ownsRow_block h.is.out hg; exact lt_of_block hc⟩
/-- An encoder stays where only blocks from M on change, M above its own. -/
theorem EncAt.past {w0 w w' : World} {b tb sb M : Nat} {ov : Value} {e : Enc} {S : List Nat} (h : EncAt w0 w b tb sb ov e) (hl : b < M ∧ tb < M ∧ sb < M ∧ ∀ g, ov.ownBlock = some g → g < M) (hM : w0.heap.size ≤ M)
    (ho : Only S w w') (hS : ∀ i ∈ S, M ≤ i) : EncAt w0 w' b tb sb ov e :=
  h.only ho (fun i hi => Nat.le_trans hM (hS i hi)) (fun hi => by have := hS _ hi; omega) (fun hi => by have := hS _ hi; omega) (fun hi => by have := hS _ hi; omega) (fun g hg hi => by have := hS _ hi; have := hl.2.2.2 g hg; omega)

def bypOps (xs : List Int) : List Deed := (xs.take 200).map fun x => .byp (x % 2)
theorem bypOps_length (xs : List Int) : (bypOps xs).length = min 200 xs.length := by simp [bypOps]
theorem bypOps_at (xs : List Int) (j : Nat) (h : j < 200) (h2 : j < xs.length) : (bypOps xs)[j]? = some (.byp (xs.getD j 0 % 2)) := by
  simp [bypOps, List.getElem?_map, h, List.getElem?_eq_getElem h2, List.getD]
theorem bypOps_fits (xs : List Int) : ∀ o ∈ bypOps xs, o.fits ([] : List Int).length := by
  intro o ho
  simp only [bypOps, List.mem_map] at ho
  obtain ⟨x, _, rfl⟩ := ho
  show x % 2 = 0 ∨ x % 2 = 1
  omega
theorem byp_steps (ops : List Deed) : ∀ e : Enc, e.Live → (∀ o ∈ ops, ∃ b, o = .byp b ∧ (b = 0 ∨ b = 1)) → (e.run ops).steps = e.steps + ops.length := by
  induction ops with
  | nil => intro e _ _; rfl
  | cons o ops ih =>
    intro e h hf
    obtain ⟨b, rfl, hb⟩ := hf o (by simp)
    obtain ⟨h1, -, -, h4, -⟩ := e.live_bypass b h hb
    have := ih (e.bypass b) h1 (fun x hx => hf x (by simp [hx]))
    show ((e.bypass b).run ops).steps = _
    rw [this, h4, List.length_cons]
    omega
theorem bypOps_steps (xs : List Int) : ((Enc.new []).run (bypOps xs)).steps = min 200 xs.length := by
  rw [byp_steps (bypOps xs) (Enc.new []) (Enc.live_new []) (fun o ho => by
    simp only [bypOps, List.mem_map] at ho
    obtain ⟨x, _, rfl⟩ := ho
    exact ⟨x % 2, rfl, by omega⟩), bypOps_length]
  show 0 + _ = _
  omega
theorem run_next (xs : List Int) (ops : List Deed) (j : Nat) (o : Deed) (h : ops[j]? = some o) : (Enc.new xs).run (ops.take (j + 1)) = ((Enc.new xs).run (ops.take j)).deed o := by
  rw [List.take_add_one, h]
  exact Enc.run_snoc _ _ _
theorem run_costs (xs : List Int) (ops : List Deed) (j : Nat) (hf : ∀ o ∈ ops, o.fits xs.length) : ((Enc.new xs).run (ops.take j)).cost ≤ 8 * ops.length := by
  have hl : (Enc.new xs).st.length = xs.length := by simp [Enc.new, beginOf]
  have := ((Enc.new xs).live_run (ops.take j) (Enc.live_new xs) (fun o ho => by rw [hl]; exact hf o (List.mem_of_mem_take ho))).2.2
  have h0 : (Enc.new xs).cost = 0 := rfl
  have h1 : (ops.take j).length ≤ ops.length := by simp; omega
  omega

set_option maxRecDepth 100000 in
set_option maxHeartbeats 1600000 in
theorem law_byp (v : Value) (xs : List Int) (w : World) (ha : Asc w) (hv : IntSlice w v xs) (hl : xs.length ≤ 9223372036854775807) : Calls Tryd.prog 6 #[v] w fun e w' => e = .returned (.bool true) ∧ Only [] w w' := by
  have Ha := Lib.hid ha
  have Hv := Lib.hid hv
  obtain ⟨ao, cap, rfl, hc⟩ := hv
  have Hc := Lib.hid hc
  obtain ⟨ops, hops⟩ : ∃ o, o = bypOps xs := ⟨_, rfl⟩
  obtain ⟨N, hN⟩ : ∃ n, n = min 200 xs.length := ⟨_, rfl⟩
  have Hn := Lib.hid hN
  have hon : ops.length = N := by rw [hops, bypOps_length, hN]
  have hof : ∀ o ∈ ops, o.fits ([] : List Int).length := by rw [hops]; exact bypOps_fits xs
  have hoa : ∀ j, j < 200 → j < xs.length → ops[j]? = some (.byp (xs.getD j 0 % 2)) := by rw [hops]; exact bypOps_at xs
  have hos : ((Enc.new []).run ops).steps = N := by rw [hops, bypOps_steps, hN]
  have hN1 : N ≤ 200 := by omega
  have hN2 : N ≤ xs.length := by omega
  have Hof := Lib.hid hof
  have Hoa := Lib.hid hoa
  have Hos := Lib.hid hos
  have Hon := Lib.hid hon
  clear hc hops hN hof hoa hos hon
  go_enter Tryd.func6, Tryd.ntmps6
  go_wp2_with fail
  refine (awake5 w ha).mono ?_
  rintro r w1 ⟨rfl, h1⟩
  have H1 := Lib.hid h1
  clear h1
  go_wp2_with fail
  refine (enc_new ha H1.out (.slice none 0 0) [] ⟨_, _, rfl, .inl rfl⟩ (by decide)).mono ?_
  rintro r w2 ⟨b, t, s, rfl, h2, -, -, -, -⟩
  have H2 : Hid (EncAt w w2 b t s (.slice none 0 0) ((Enc.new []).run (ops.take 0))) := Lib.hid h2
  clear h2
  go_wp2
  go_loopw [4, 5] (fun k i wr => ∃ (j : Nat) (ov : Value), j ≤ N ∧ i = .int .i64 j ∧ k = .int .i64 j ∧ EncAt w wr b t s ov ((Enc.new []).run (ops.take j))) (fun _ i _ => N - (intOf i).toNat)
  case atStart => exact ⟨0, _, Nat.zero_le _, rfl, rfl, H2.out⟩
  case round =>
    obtain ⟨j, ov, hj, rfl, rfl, k1⟩ := hrel
    have K1 := Lib.hid k1
    clear k1
    by_cases hlt : j < N
    · rcases Hc.out with hx | ⟨g, off, rfl, hcell⟩
      · rw [hx] at hN2; simp at hN2; omega
      have c1 := K1.out.on.cell (hcell j (by omega)) (by simp)
      have ho := Hoa.out j (by omega) (by omega)
      obtain ⟨x, hx⟩ : ∃ x, x = xs.getD j 0 := ⟨_, rfl⟩
      rw [← hx] at c1 ho
      have hnx := run_next [] ops j _ ho
      have Hnx := Lib.hid hnx
      have hj1 : j < 200 := by omega
      have hj2 : j < xs.length := by omega
      clear hcell hx ho hnx
      go_wp2_with fail
      refine (K1.out.bypass (x % 2) (by have := run_costs [] ops j Hof.out; have := Hon.out; omega)).mono ?_
      rintro r w3 ⟨rfl, ov2, g1, -⟩
      have G1 : Hid (EncAt w w3 b t s ov2 ((Enc.new []).run (ops.take (j + 1)))) := Lib.hid (by rw [Hnx.out]; exact g1)
      clear g1
      go_wp2
      go_roundw
      case rel => exact ⟨j + 1, ov2, by omega, by go_num, by go_num, G1.out⟩
      case measure => simp [intOf] <;> omega
    · obtain rfl : j = N := by omega
      have htk : ops.take j = ops := by rw [← Hon.out]; exact List.take_length
      have hend : (xs.length ≤ j) ∨ (j = 200 ∧ j < xs.length) := by have := Hn.out; omega
      rw [htk] at K1
      clear htk
      have hcost := run_costs [] ops ops.length Hof.out
      rw [List.take_length] at hcost
      have Hcost := Lib.hid hcost
      clear hcost
      obtain ⟨z1, z2, z3, z4⟩ := Read.begins [] ops Hof.out
      have hbc : beginCode ((Enc.new []).run ops).text = 0 := by unfold beginCode; rw [if_neg z2, if_neg z3]
      obtain ⟨S, hS⟩ : ∃ S, S = ((Enc.new []).run ops).text := ⟨_, rfl⟩
      have hsz := ((Enc.new []).run ops).text_size ((Enc.new []).live_run ops (Enc.live_new []) Hof.out).1
      rw [← hS] at z4 hbc hsz
      rw [Hos.out] at hsz
      have HS := Lib.hid hS
      have Hz4 := Lib.hid z4
      have Hbc := Lib.hid hbc
      have Hsz := Lib.hid hsz
      clear z1 z2 z3 z4 hS hbc hsz
      have hsmall : S.size ≤ 100 := by have := Hsz.out; omega
      rcases hend with hend | ⟨hend, hend2⟩
      all_goals
        go_wp2_with fail
        refine (K1.out.term 1 (by have := Hcost.out; have := Hon.out; omega)).mono ?_
        rintro r w3 ⟨rfl, ov2, g1, -⟩
        have G1 := Lib.hid g1
        clear g1
        go_wp2_with fail
        refine (G1.out.bytes).mono ?_
        rintro r w4 ⟨rfl, rfl⟩
        rw [show strOfNums (packed (((Enc.new []).run ops).term 1).bits) = S from HS.out.symm]
        go_wp2_with fail
        have hlow := G1.out.low
        refine (dec_new ha G1.out.on S (.slice none 0 0) [] ⟨_, _, rfl, .inl rfl⟩ (by decide) (by omega)).mono ?_
        rintro r w4 ⟨b2, t2, s2, rfl, g1, g2, g3, g4, g5⟩
        have hp : beginPtr S b2 = .pointer (some ⟨b2, 0, none⟩) := by unfold beginPtr; rw [Hbc.out, if_pos rfl]
        rw [hp, Hbc.out]
        have D0 := Lib.hid (g1 Hbc.out)
        have Hlow := Lib.hid hlow
        have E0 := Lib.hid (G1.out.only g2 (by simp) (by simp) (by simp) (by simp) (by simp))
        have Hb2 := Lib.hid (show ∀ i ∈ [b2, s2], w3.heap.size ≤ i by intro i hi; simp at hi; rcases hi with rfl | rfl <;> assumption)
        have HM := Lib.hid G1.out.on.size
        clear g1 g2 g3 g4 g5 hp hlow G1
        go_wp2_with (first | (go_at_call 21; refine (num_any _ _).mono ?_; rintro e w' ⟨rfl, rfl⟩))
        obtain ⟨M, hM⟩ : ∃ M, M = w3.heap.size := ⟨_, rfl⟩
        rw [← hM] at Hlow Hb2 HM
        clear hM
        go_loopw [8] (fun i wr => ∃ (q : Nat) (d : Dec), q ≤ j ∧ i = .int .i64 q ∧ DecAt w wr b2 t2 s2 d ∧ EncAt w wr b t s ov2 (((Enc.new []).run ops).term 1) ∧ Read [] ops q d) (fun i _ => j - (intOf i).toNat)
        case atStart => exact ⟨0, _, Nat.zero_le _, rfl, D0.out, E0.out, Hz4.out⟩
        case round =>
          obtain ⟨q, d, hq, rfl, k1, k2, k3⟩ := hrel
          have K1 := Lib.hid k1
          have K2 := Lib.hid k2
          have K3 := Lib.hid k3
          have hds : d.s.size ≤ 100 := by rw [k3.text, ← HS.out]; exact hsmall
          clear k1 k2 k3
          by_cases hlq : q < j
          · rcases Hc.out with hx | ⟨g, off, rfl, hcell⟩
            · rw [hx] at hN2; simp at hN2; omega
            have ho := Hoa.out q (by omega) (by omega)
            obtain ⟨x, hx⟩ : ∃ x, x = xs.getD q 0 := ⟨_, rfl⟩
            have hcq := hcell q (by omega)
            rw [← hx] at ho hcq
            obtain ⟨d', y1, y2⟩ := Read.step [] ops q d Hof.out K3.out _ ho
            have y3 : d.bypass = (x % 2, 0, d') := y1
            have Y2 := Lib.hid y2
            have Hcq := Lib.hid hcq
            have hj2 : q < xs.length := by omega
            clear hcell hx ho y1 y2 hcq
            go_wp2_with fail
            refine (K1.out.bypass (by omega)).mono ?_
            rintro r w5 ⟨rfl, g1, g2⟩
            rw [y3] at g1 ⊢
            have c1 := g1.on.cell Hcq.out (by simp)
            have G1 := Lib.hid g1
            have G2 := Lib.hid (K2.out.past Hlow.out HM.out g2 Hb2.out)
            clear g1 g2 y3
            go_wp2_with (first | (go_at_call 21; refine (num_any _ _).mono ?_; rintro e w' ⟨rfl, rfl⟩))
            go_roundw
            case rel => exact ⟨q + 1, d', by omega, by go_num, G1.out, G2.out, Y2.out⟩
            case measure => simp [intOf] <;> omega
          · obtain rfl : q = j := by omega
            have hdp : (d.pos : Int) = 9 + q := by
              have := K3.out
              rw [← Hon.out] at this
              have := (Read.ends [] ops d Hof.out this).2.2.2
              rw [Hos.out] at this
              omega
            go_wp2_with fail
            refine (K1.out.at).mono ?_
            rintro r w5 ⟨rfl, rfl⟩
            rw [hdp]
            go_wp2_with fail
            refine (K2.out.bytes).mono ?_
            rintro r w5 ⟨rfl, rfl⟩
            rw [show strOfNums (packed (((Enc.new []).run ops).term 1).bits) = S from HS.out.symm]
            have hss : ((S.size : Nat) : Int) ≤ ((9 + (q : Int)) + 7) / 8 + 1 := by have := Hsz.out; omega
            go_wp2
            go_ret
            exact ⟨by first | rfl | exact ret_bool (decide_eq_true (by omega)), K1.out.on⟩
end Go.Proofs.YtibojidpifgblaaDoor
