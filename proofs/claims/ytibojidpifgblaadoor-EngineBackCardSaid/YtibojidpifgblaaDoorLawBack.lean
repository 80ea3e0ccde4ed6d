/-
  EngineBack: bins come back as they were written, and the decoder ends with the last bit.
-/
import Derived.Test.YtibojidpifgblaaDoorLawByp
import Derived.Test.YtibojidpifgblaaDoorDoor3
namespace Go.Proofs.YtibojidpifgblaaDoor
open Go.RowKit

/-- An act as the law reads it: a kind, a context out of n, a bit. -/
def ctxOf (n : Nat) (c : Int) : Nat := (c % 18446744073709551616 % n).toNat
def deedOf (n : Nat) (a : List Int) : Deed :=
  if a.getD 0 0 < 6 then .bin (ctxOf n (a.getD 1 0)) (a.getD 2 0 % 2) else if a.getD 0 0 < 8 then .byp (a.getD 2 0 % 2) else .ter
theorem deedOf_fits (n : Nat) (hn : 0 < n) (a : List Int) : (deedOf n a).fits n := by
  unfold deedOf
  split
  · refine ⟨?_, by omega⟩
    unfold ctxOf
    have h1 := Int.emod_nonneg (a.getD 1 0 % 18446744073709551616) (show (n : Int) ≠ 0 by omega)
    have h2 := Int.emod_lt_of_pos (a.getD 1 0 % 18446744073709551616) (show (0 : Int) < n by omega)
    omega
  · split
    · show _ % 2 = 0 ∨ _ % 2 = 1; omega
    · trivial
def backOps (n : Nat) (xs : List (List Int)) : List Deed := (xs.take 400).map (deedOf n)
theorem backOps_length (n : Nat) (xs : List (List Int)) : (backOps n xs).length = min 400 xs.length := by simp [backOps]
theorem backOps_at (n : Nat) (xs : List (List Int)) (j : Nat) (h : j < 400) (h2 : j < xs.length) : (backOps n xs)[j]? = some (deedOf n (xs.getD j [])) := by
  simp [backOps, List.getElem?_map, h, List.getElem?_eq_getElem h2, List.getD]
theorem backOps_fits (n : Nat) (hn : 0 < n) (xs : List (List Int)) : ∀ o ∈ backOps n xs, o.fits n := by
  intro o ho
  simp only [backOps, List.mem_map] at ho
  obtain ⟨x, _, rfl⟩ := ho
  exact deedOf_fits n hn x
/-- 'int(uint(c) % uint(n))'. -/
theorem u64ctx (c : Int) (n : Nat) (h0 : 0 < n) (h1 : n < 4611686018427387904) : wrap64 ((IntKind.u64.wrap c).tmod (n : Int)) = (ctxOf n c : Int) ∧ ctxOf n c < n ∧ (IntKind.u64.wrap c).tmod (n : Int) = (ctxOf n c : Int) := by
  have h2 := Int.emod_nonneg (c % 18446744073709551616) (show (n : Int) ≠ 0 by omega)
  have h3 := Int.emod_lt_of_pos (c % 18446744073709551616) (show (0 : Int) < n by omega)
  have h4 : (IntKind.u64.wrap c).tmod (n : Int) = c % 18446744073709551616 % n := by
    rw [IntKind.wrap_u64, Int.tmod_eq_emod_of_nonneg (by omega)]
  rw [h4]
  unfold ctxOf
  have h5 : ((c % 18446744073709551616 % n).toNat : Int) = c % 18446744073709551616 % n := by omega
  rw [h5, IntWalk.wrap64_in _ ⟨by omega, by omega⟩]
  omega

/-- The states that the law begins with. -/
def backSt (xs : List Int) : List Int := [20, 75, 126] ++ (xs.take 20).map (· % 128)
theorem backSt_len (xs : List Int) : (backSt xs).length = 3 + min 20 xs.length := by simp [backSt]; omega
theorem backSt_step (xs : List Int) (j : Nat) (h : j < xs.length) : [20, 75, 126] ++ (xs.take (j + 1)).map (· % 128) = ([20, 75, 126] ++ (xs.take j).map (· % 128)) ++ [xs.getD j 0 % 128] := by
  rw [List.take_add_one, List.getElem?_eq_getElem h, List.map_append, List.append_assoc]
  simp only [List.getD, List.getElem?_eq_getElem h, Option.getD_some, Option.toList_some, List.map_cons, List.map_nil]

set_option maxRecDepth 100000 in
set_option maxHeartbeats 8000000 in
theorem law_back (v u : Value) (xs : List Int) (ys : List (List Int)) (w : World) (ha : Asc w) (hv : IntSlice w v xs) (hu : RowSlice w 3 u ys) (hl : xs.length ≤ 9223372036854775807) (hl2 : ys.length ≤ 9223372036854775807) :
    Calls Tryd.prog 10 #[v, u] w fun e w' => e = .returned (.bool true) ∧ Only [] w w' := by
  have Ha := Lib.hid ha
  obtain ⟨ao, cap, rfl, hc⟩ := hv
  obtain ⟨bo, cap2, rfl, hd⟩ := hu
  have Hc := Lib.hid hc
  have Hd := Lib.hid hd
  clear hc hd
  go_enter Tryd.func10, Tryd.ntmps10
  go_wp2_with fail
  refine (awake5 w ha).mono ?_
  rintro r w1 ⟨rfl, h1⟩
  have H1 := Lib.hid h1
  clear h1
  go_wp2
  obtain ⟨N1, hN1⟩ : ∃ n, n = min 20 xs.length := ⟨_, rfl⟩
  have hN1a : N1 ≤ 20 := by omega
  have hN1b : N1 ≤ xs.length := by omega
  have Hn1 := Lib.hid hN1
  clear hN1
  go_loopw [5, 6] (fun s i wr => ∃ j n : Nat, j ≤ N1 ∧ i = .int .i64 j ∧ Hid (n = 3 + j) ∧ wr.ownsRow w.heap.size 3 1 s n ((([20, 75, 126] : List Int) ++ (xs.take j).map (· % 128)).map (Value.int .i64)) ∧ Only [] w wr) (fun _ i _ => N1 - (intOf i).toNat)
  case atStart =>
    refine ⟨0, 3, Nat.zero_le _, rfl, Lib.hid rfl, ⟨by simp, .inr ⟨w1.heap.size, 3, _, rfl, H1.out.size, heap_alloc_at _ _, by omega, by unfold maxLen; omega, by simp, by simp⟩⟩, H1.out.alloc _⟩
  case round =>
    obtain ⟨j, n, hj, rfl, hn, hown, hon⟩ := hrel
    by_cases hlt : j < N1
    · rcases Hc.out with hx | ⟨g, off, rfl, hcell⟩
      · rw [hx] at hN1b; simp at hN1b; omega
      have c1 := hon.cell (hcell j (by omega)) (by simp)
      have hstep := backSt_step xs j (by omega)
      obtain ⟨x, hx⟩ : ∃ x, x = xs.getD j 0 := ⟨_, rfl⟩
      rw [← hx] at c1 hstep
      have hj1 : j < 20 := by omega
      have hj2 : j < xs.length := by omega
      obtain ⟨zs, hzs⟩ : ∃ zs, zs = (([20, 75, 126] : List Int) ++ (xs.take j).map (· % 128)) := ⟨_, rfl⟩
      rw [← hzs] at hown hstep
      obtain ⟨bs, hbs⟩ : ∃ bs, bs = zs.map (Value.int .i64) := ⟨_, rfl⟩
      rw [← hbs] at hown
      have Hst := Lib.hid hstep
      have Hbs := Lib.hid hbs
      have Hon := Lib.hid hon
      have hsz := hon.size
      clear hcell hx hstep hzs hbs hon
      go_wp2_with (at_builtin; refine wpList_push rfl _ _ rfl elt64 w.heap.size _ _ _ _ hown rfl rfl (by simp) rfl (by omega) (by decide) (by have := hn.out; omega) ?_)
      intro g2 cap3 w2 hp
      have h2 := ownsRow_cast (m := n + 1) hp.1 rfl rfl
      have h3 := Hon.out.grown hp.2.1 (fun k hk => by
        have := hown.2
        rcases this with ⟨rfl, _⟩ | ⟨g', cap', cur', rfl, hb', _⟩
        · simp [Value.ownBlock] at hk
        · simp [Value.ownBlock] at hk; subst hk; exact .inr hb')
      have h4 : bs ++ [Value.int .i64 (x % 128)] = (([20, 75, 126] : List Int) ++ (xs.take (j + 1)).map (· % 128)).map (Value.int .i64) := by rw [Hst.out, Hbs.out]; simp
      rw [h4] at h2
      have H2 := Lib.hid h2
      have H3 := Lib.hid h3
      clear hp h2 h3 h4 hown
      go_wp2
      go_roundw
      case rel => exact ⟨j + 1, n + 1, by omega, by go_num, Lib.hid (by have := hn.out; omega), H2.out, H3.out⟩
      case measure => simp [intOf] <;> omega
    · obtain rfl : j = N1 := by omega
      have hend : (xs.length ≤ j) ∨ (j = 20 ∧ j < xs.length) := by have := Hn1.out; omega
      have hst : ([20, 75, 126] : List Int) ++ (xs.take j).map (· % 128) = backSt xs := by
        unfold backSt
        rcases hend with h | ⟨h, _⟩
        · rw [List.take_of_length_le h, List.take_of_length_le (by have := Hn1.out; omega)]
        · rw [h]
      rw [hst] at hown
      have hlen : (backSt xs).length = n := by rw [backSt_len, hn.out, Hn1.out]
      have hown2 := ownsRow_cast (m := (backSt xs).length) hown hlen.symm rfl
      obtain ⟨g, cap4, cur, rfl, hbg, hgb, _⟩ := owned_shape hown (by have := hn.out; omega)
      have hsl := IntSlice.of_owned hown2
      obtain ⟨st, hst2⟩ : ∃ st, st = backSt xs := ⟨_, rfl⟩
      rw [← hst2] at hsl hlen
      have Hsl := Lib.hid hsl
      have Hlen := Lib.hid hlen
      have Hon := Lib.hid hon
      have hn0 : 3 ≤ n := by have := hn.out; omega
      have hn1 : n ≤ 23 := by have := hn.out; omega
      clear hown hown2 hon hst hst2 hsl hlen hgb hbg
      obtain ⟨ops, hops⟩ : ∃ o, o = backOps n ys := ⟨_, rfl⟩
      obtain ⟨N2, hN2⟩ : ∃ m, m = min 400 ys.length := ⟨_, rfl⟩
      have hon : ops.length = N2 := by rw [hops, backOps_length, hN2]
      have hof : ∀ o ∈ ops, o.fits st.length := by rw [hops, Hlen.out]; exact backOps_fits n (by omega) ys
      have hoa : ∀ q, q < 400 → q < ys.length → ops[q]? = some (deedOf n (ys.getD q [])) := by rw [hops]; exact backOps_at n ys
      have hN2a : N2 ≤ 400 := by omega
      have hN2b : N2 ≤ ys.length := by omega
      have Hof := Lib.hid hof
      have Hoa := Lib.hid hoa
      have Hon2 := Lib.hid hon
      have Hn2 := Lib.hid hN2
      clear hops hN2 hof hoa hon
      rcases hend with hend | ⟨hend, hend2⟩
      all_goals
        go_wp2_with fail
        refine (enc_new (Ha.out.only Hon.out (by simp)) (Only.refl _ wr) _ st Hsl.out (by rw [Hlen.out]; omega)).mono ?_
        rintro r w2 ⟨b, t, s, rfl, h2, -, -, -, -⟩
        have H2 : Hid (EncAt wr w2 b t s (.slice none 0 0) ((Enc.new st).run (ops.take 0))) := Lib.hid h2
        clear h2
        go_wp2
        obtain ⟨wz, hwz⟩ : ∃ x, x = wr := ⟨_, rfl⟩
        rw [← hwz] at H2 Hon Hsl
        clear hwz
        go_loopw [8] (fun i wr => ∃ (q : Nat) (ov : Value), q ≤ N2 ∧ i = .int .i64 q ∧ EncAt wz wr b t s ov ((Enc.new st).run (ops.take q))) (fun i _ => N2 - (intOf i).toNat)
        case atStart => exact ⟨0, _, Nat.zero_le _, rfl, H2.out⟩
        case round =>
          obtain ⟨q, ov, hq, rfl, k1⟩ := hrel
          have K1 := Lib.hid k1
          clear k1
          by_cases hlq : q < N2
          · rcases Hd.out with hx | ⟨gy, offy, rfl, hcell⟩
            · rw [hx] at hN2b; simp at hN2b; omega
            have ho := Hoa.out q (by omega) (by omega)
            have hnx := run_next st ops q _ ho
            have hq1 : q < 400 := by omega
            have hq2 : q < ys.length := by omega
            have c0 := K1.out.on.cell (Hon.out.cell (hcell q 0 hq2 (by omega)) (by simp)) (by simp)
            have c1 := K1.out.on.cell (Hon.out.cell (hcell q 1 hq2 (by omega)) (by simp)) (by simp)
            have c2 := K1.out.on.cell (Hon.out.cell (hcell q 2 hq2 (by omega)) (by simp)) (by simp)
            obtain ⟨k, hk⟩ : ∃ k, k = (ys.getD q []).getD 0 0 := ⟨_, rfl⟩
            obtain ⟨c, hcc⟩ : ∃ k, k = (ys.getD q []).getD 1 0 := ⟨_, rfl⟩
            obtain ⟨x, hx⟩ : ∃ k, k = (ys.getD q []).getD 2 0 := ⟨_, rfl⟩
            have hdeed : deedOf n (ys.getD q []) = if k < 6 then .bin (ctxOf n c) (x % 2) else if k < 8 then .byp (x % 2) else .ter := by unfold deedOf; rw [← hk, ← hcc, ← hx]
            rw [hdeed] at hnx
            rw [← hk, Nat.add_zero] at c0
            rw [← hcc, ← Nat.add_assoc] at c1
            rw [← hx, ← Nat.add_assoc] at c2
            have Hnx := Lib.hid hnx
            obtain ⟨u1, u2, u3⟩ := u64ctx c n (by omega) (by omega)
            have hun : IntKind.u64.wrap (n : Int) = (n : Int) := by rw [IntKind.wrap_u64]; omega
            have huc : IntKind.i64.wrap (ctxOf n c : Int) = (ctxOf n c : Int) := by rw [IntKind.wrap_i64]; omega
            have hnz : n ≠ 0 := by omega
            have hcost := run_costs st ops q Hof.out
            have Hcost := Lib.hid hcost
            clear hcell ho hnx hk hcc hx hdeed hcost
            have ha1 : Only [] wr (wr.alloc (.cells #[.int .i64 k, .int .i64 c, .int .i64 x] 40)) := (Only.refl _ _).alloc _
            have K2 := Lib.hid (K1.out.only ha1 (by simp) (by simp) (by simp) (by simp) (by simp))
            clear ha1
            by_cases hk6 : k < 6
            · have hn3 := Hnx.out
              rw [if_pos hk6] at hn3
              have Hn3 := Lib.hid hn3
              clear hn3
              have hcq : ((Enc.new st).run (ops.take q)).cost < 700000000 := by have := Hcost.out; have := Hon2.out; omega
              have Hcq := Lib.hid hcq
              have K3 := Lib.hid K2.out.drew
              clear hcq
              go_wp2_with fail
              go_region_law (first | (go_simp; go_at_call 18; refine (K3.out.bin (ctxOf n c) (x % 2) Hcq.out).mono ?_; rintro r w3 ⟨rfl, ov2, g1, -⟩))
              all_goals
                have G1 : Hid (EncAt wz w3 b t s ov2 ((Enc.new st).run (ops.take (q + 1)))) := Lib.hid (by rw [Hn3.out]; exact g1)
                clear g1
                go_wp2
                go_roundw
                case rel => exact ⟨q + 1, ov2, by omega, by go_num, G1.out⟩
                case measure => simp [intOf] <;> omega
            · by_cases hk8 : k < 8
              · have hn3 := Hnx.out
                rw [if_neg hk6, if_pos hk8] at hn3
                have Hn3 := Lib.hid hn3
                clear hn3
                go_wp2_with fail
                refine (K2.out.bypass (x % 2) (by have := Hcost.out; have := Hon2.out; omega)).mono ?_
                rintro r w3 ⟨rfl, ov2, g1, -⟩
                have G1 : Hid (EncAt wz w3 b t s ov2 ((Enc.new st).run (ops.take (q + 1)))) := Lib.hid (by rw [Hn3.out]; exact g1)
                clear g1
                go_wp2
                go_roundw
                case rel => exact ⟨q + 1, ov2, by omega, by go_num, G1.out⟩
                case measure => simp [intOf] <;> omega
              · have hn3 := Hnx.out
                rw [if_neg hk6, if_neg hk8] at hn3
                have Hn3 := Lib.hid hn3
                clear hn3
                go_wp2_with fail
                refine (K2.out.term 0 (by have := Hcost.out; have := Hon2.out; omega)).mono ?_
                rintro r w3 ⟨rfl, ov2, g1, -⟩
                have G1 : Hid (EncAt wz w3 b t s ov2 ((Enc.new st).run (ops.take (q + 1)))) := Lib.hid (by rw [Hn3.out]; exact g1)
                clear g1
                go_wp2
                go_roundw
                case rel => exact ⟨q + 1, ov2, by omega, by go_num, G1.out⟩
                case measure => simp [intOf] <;> omega
          · obtain rfl : q = N2 := by omega
            have htk : ops.take q = ops := by rw [← Hon2.out]; exact List.take_length
            rw [htk] at K1
            have hend3 : (ys.length ≤ q) ∨ (q = 400 ∧ q < ys.length) := by have := Hn2.out; omega
            have hcost := run_costs st ops ops.length Hof.out
            rw [List.take_length] at hcost
            have Hcost := Lib.hid hcost
            obtain ⟨z1, z2, z3, z4⟩ := Read.begins st ops Hof.out
            have hbc : beginCode ((Enc.new st).run ops).text = 0 := by unfold beginCode; rw [if_neg z2, if_neg z3]
            obtain ⟨S, hS⟩ : ∃ S, S = ((Enc.new st).run ops).text := ⟨_, rfl⟩
            have hlv := (Enc.new st).live_run ops (Enc.live_new st) (fun o ho => by rw [show (Enc.new st).st.length = st.length by simp [Enc.new, beginOf]]; exact Hof.out o ho)
            have hsz := ((Enc.new st).run ops).text_size hlv.1
            have hstp : ((Enc.new st).run ops).steps ≤ 3201 := by
              have h1 := hlv.2.2
              have h2 : (Enc.new st).cost = 0 := rfl
              have h3 := Hon2.out
              have h4 : ((Enc.new st).run ops).steps ≤ ((Enc.new st).run ops).cost + 1 := by
                unfold Enc.cost Enc.steps
                split <;> omega
              omega
            rw [← hS] at z4 hbc hsz
            have hsmall : S.size ≤ 1000 := by omega
            have HS := Lib.hid hS
            have Hz4 := Lib.hid z4
            have Hbc := Lib.hid hbc
            clear z1 z2 z3 z4 hS hbc hsz hstp hlv htk hcost
            rcases hend3 with hend3 | ⟨hend3, hend4⟩
            all_goals
              go_wp2_with fail
              refine (K1.out.term 1 (by have := Hcost.out; have := Hon2.out; omega)).mono ?_
              rintro r w3 ⟨rfl, ov2, g1, -⟩
              have G1 := Lib.hid g1
              clear g1
              go_wp2_with fail
              refine (G1.out.bytes).mono ?_
              rintro r w4 ⟨rfl, rfl⟩
              rw [show strOfNums (packed (((Enc.new st).run ops).term 1).bits) = S from HS.out.symm]
              go_wp2_with fail
              have hlow := G1.out.low
              refine (dec_new (Ha.out.only Hon.out (by simp)) G1.out.on S _ st (Hsl.out.only G1.out.on (by simp)) (by rw [Hlen.out]; omega) (by omega)).mono ?_
              rintro r w4 ⟨b2, t2, s2, rfl, g1, g2, g3, g4, g5⟩
              have hp : beginPtr S b2 = .pointer (some ⟨b2, 0, none⟩) := by unfold beginPtr; rw [Hbc.out, if_pos rfl]
              rw [hp, Hbc.out]
              have D0 := Lib.hid (g1 Hbc.out)
              have Hlow := Lib.hid hlow
              have E0 := Lib.hid (G1.out.only g2 (by simp) (by simp) (by simp) (by simp) (by simp))
              have Hb2 := Lib.hid (show ∀ i ∈ [b2, s2], w3.heap.size ≤ i by intro i hi; simp at hi; rcases hi with rfl | rfl <;> assumption)
              have HM := Lib.hid G1.out.on.size
              clear g1 g2 g3 g4 g5 hp hlow G1
              go_wp2_with (first | (go_at_call 21; refine (num_any _ _).mono ?_; rintro e w' ⟨rfl, rfl⟩))
              obtain ⟨M, hM⟩ : ∃ M, M = w3.heap.size := ⟨_, rfl⟩
              rw [← hM] at Hlow Hb2 HM
              clear hM
              go_loopw [12] (fun i wr => ∃ (p : Nat) (d : Dec), p ≤ q ∧ i = .int .i64 p ∧ DecAt wz wr b2 t2 s2 d ∧ EncAt wz wr b t s ov2 (((Enc.new st).run ops).term 1) ∧ Read st ops p d) (fun i _ => q - (intOf i).toNat)
              case atStart => exact ⟨0, _, Nat.zero_le _, rfl, D0.out, E0.out, Hz4.out⟩
              case round =>
                obtain ⟨p, d, hp, rfl, k1, k2, k3⟩ := hrel
                have hds : d.s.size ≤ 1000 := by rw [k3.text, ← HS.out]; exact hsmall
                by_cases hlp : p < q
                · rcases Hd.out with hx | ⟨gy, offy, rfl, hcell⟩
                  · rw [hx] at hN2b; simp at hN2b; omega
                  have ho := Hoa.out p (by omega) (by omega)
                  have hq1 : p < 400 := by omega
                  have hq2 : p < ys.length := by omega
                  have c0 := k1.on.cell (Hon.out.cell (hcell p 0 hq2 (by omega)) (by simp)) (by simp)
                  have c1 := k1.on.cell (Hon.out.cell (hcell p 1 hq2 (by omega)) (by simp)) (by simp)
                  have c2 := k1.on.cell (Hon.out.cell (hcell p 2 hq2 (by omega)) (by simp)) (by simp)
                  obtain ⟨k, hk⟩ : ∃ k, k = (ys.getD p []).getD 0 0 := ⟨_, rfl⟩
                  obtain ⟨c, hcc⟩ : ∃ k, k = (ys.getD p []).getD 1 0 := ⟨_, rfl⟩
                  obtain ⟨x, hx⟩ : ∃ k, k = (ys.getD p []).getD 2 0 := ⟨_, rfl⟩
                  have hdeed : deedOf n (ys.getD p []) = if k < 6 then .bin (ctxOf n c) (x % 2) else if k < 8 then .byp (x % 2) else .ter := by unfold deedOf; rw [← hk, ← hcc, ← hx]
                  rw [hdeed] at ho
                  rw [← hk, Nat.add_zero] at c0
                  rw [← hcc, ← Nat.add_assoc] at c1
                  rw [← hx, ← Nat.add_assoc] at c2
                  obtain ⟨d', y1, y2⟩ := Read.step st ops p d Hof.out k3 _ ho
                  have Y1 := Lib.hid y1
                  have Y2 := Lib.hid y2
                  obtain ⟨u1, u2, u3⟩ := u64ctx c n (by omega) (by omega)
                  have hun : IntKind.u64.wrap (n : Int) = (n : Int) := by rw [IntKind.wrap_u64]; omega
                  have huc : IntKind.i64.wrap (ctxOf n c : Int) = (ctxOf n c : Int) := by rw [IntKind.wrap_i64]; omega
                  have hnz : n ≠ 0 := by omega
                  have ha1 : Only [] wr (wr.alloc (.cells #[.int .i64 k, .int .i64 c, .int .i64 x] 40)) := (Only.refl _ _).alloc _
                  have K1 := Lib.hid (k1.only ha1 (by simp) (by simp) (by simp) (by simp))
                  have K2 := Lib.hid (k2.only ha1 (by simp) (by simp) (by simp) (by simp) (by simp))
                  have k1lt : b2 < wr.heap.size ∧ s2 < wr.heap.size := ⟨lt_of_block k1.is.cells, lt_of_block k1.is.sts⟩
                  clear hcell ho hk hcc hx hdeed y1 y2 k1 k2 k3 ha1
                  have hlb := k1lt
                  have hnb : wr.heap.size ∉ [b2, s2] := by simp; omega
                  have c2' : (wr.alloc (.cells #[.int .i64 k, .int .i64 c, .int .i64 x] 40)).cell? ⟨wr.heap.size, 2, none⟩ = some (.int .i64 x) := by rw [cells_of (heap_alloc_at _ _)]; rfl
                  by_cases hk6 : k < 6
                  ·
                    skip
                    have y3 : d.bin (ctxOf n c) = (x % 2, 0, d') := by have := Y1.out; rw [if_pos hk6] at this; exact this
                    have Y3 := Lib.hid y3
                    clear y3
                    go_wp2_with fail
                    refine (K1.out.bin (ctxOf n c) (by omega)).mono ?_
                    rintro r w5 ⟨rfl, g1, g2⟩
                    rw [Y3.out] at g1 ⊢
                    have c3 := g2.cell c2' hnb
                    have G1 := Lib.hid g1
                    have G2 := Lib.hid (K2.out.past Hlow.out HM.out g2 Hb2.out)
                    clear g1 g2
                    go_wp2_with (first | (go_at_call 21; refine (num_any _ _).mono ?_; rintro e w' ⟨rfl, rfl⟩))
                    go_roundw
                    case rel => exact ⟨p + 1, d', by omega, by go_num, G1.out, G2.out, Y2.out⟩
                    case measure => simp [intOf] <;> omega

                  · by_cases hk8 : k < 8
                    ·
                      skip
                      have y3 : d.bypass = (x % 2, 0, d') := by have := Y1.out; rw [if_neg hk6, if_pos hk8] at this; exact this
                      have Y3 := Lib.hid y3
                      clear y3
                      go_wp2_with fail
                      refine (K1.out.bypass (by omega)).mono ?_
                      rintro r w5 ⟨rfl, g1, g2⟩
                      rw [Y3.out] at g1 ⊢
                      have c3 := g2.cell c2' hnb
                      have G1 := Lib.hid g1
                      have G2 := Lib.hid (K2.out.past Hlow.out HM.out g2 Hb2.out)
                      clear g1 g2
                      go_wp2_with (first | (go_at_call 21; refine (num_any _ _).mono ?_; rintro e w' ⟨rfl, rfl⟩))
                      go_roundw
                      case rel => exact ⟨p + 1, d', by omega, by go_num, G1.out, G2.out, Y2.out⟩
                      case measure => simp [intOf] <;> omega

                    ·
                      skip
                      have y3 : d.term = (0, 0, d') := by have := Y1.out; rw [if_neg hk6, if_neg hk8] at this; exact this
                      have Y3 := Lib.hid y3
                      clear y3
                      go_wp2_with fail
                      refine (K1.out.term (by omega)).mono ?_
                      rintro r w5 ⟨rfl, g1, g2⟩
                      rw [Y3.out] at g1 ⊢
                      have c3 := g2.cell c2' hnb
                      have G1 := Lib.hid g1
                      have G2 := Lib.hid (K2.out.past Hlow.out HM.out g2 Hb2.out)
                      clear g1 g2
                      go_wp2_with fail
                      go_quiet (first | (go_at_call 21; exact Calls.quiet_of_same ((num_any _ _).mono fun _ _ ⟨h1, h2⟩ => ⟨h1, h2.symm⟩)))
                      go_wp2
                      go_roundw
                      case rel => exact ⟨p + 1, d', by omega, by go_num, G1.out.drewN _, G2.out.drewN _, Y2.out⟩
                      case measure => simp [intOf] <;> omega

                · obtain rfl : p = q := by omega
                  have k3' := k3
                  rw [← Hon2.out] at k3'
                  obtain ⟨e1, e2, e3, -⟩ := Read.ends st ops d Hof.out k3'
                  have hst : (((Enc.new st).run ops).term 1).st.length < 1000000000 := by
                    rw [← e2, k3.meets.st]
                    have hlv := (Enc.new st).live_run (ops.take p) (Enc.live_new st) (fun o ho => by rw [show (Enc.new st).st.length = st.length by simp [Enc.new, beginOf]]; exact Hof.out o (List.mem_of_mem_take ho))
                    rw [hlv.2.1]
                    have : (Enc.new st).st.length = st.length := by simp [Enc.new, beginOf]
                    have := Hlen.out
                    omega
                  have hds2 : d.s = S := by rw [k3.text]; exact HS.out.symm
                  rw [hds2] at e3
                  have K1 := Lib.hid k1
                  have K2 := Lib.hid k2
                  have E1 := Lib.hid e1
                  have E2 := Lib.hid e2
                  have E3 := Lib.hid e3
                  have Hst := Lib.hid hst
                  clear k1 k2 k3 k3' e1 e2 e3 hst
                  go_wp2_with fail
                  refine (K1.out.term (by omega)).mono ?_
                  rintro r w5 ⟨rfl, g1, g2⟩
                  rw [E1.out] at g1 ⊢
                  have G1 := Lib.hid g1
                  have G2 := Lib.hid (K2.out.past Hlow.out HM.out g2 Hb2.out)
                  clear g1 g2
                  go_wp2_with (first | (go_at_call 21; refine (num_any _ _).mono ?_; rintro e w' ⟨rfl, rfl⟩))
                  have hdst : d.st.length < 1000000000 := by rw [E2.out]; exact Hst.out
                  have Hdst := Lib.hid hdst
                  clear hdst
                  refine (G1.out.states Hdst.out).mono ?_
                  rintro r w6 ⟨v1, rfl, g1, g2, g3⟩
                  have V1 := Lib.hid (IntSlice.of_owned g1)
                  have G3 := Lib.hid g2
                  have G4 := Lib.hid (G2.out.only g3 (by simp) (by simp) (by simp) (by simp) (by simp))
                  clear g1 g2 g3
                  go_wp2_with fail
                  refine (G4.out.states Hst.out).mono ?_
                  rintro r w7 ⟨v2, rfl, g1, g2, g3⟩
                  have V2 := Lib.hid (IntSlice.of_owned g1)
                  have V3 := Lib.hid (V1.out.only g3 (by simp))
                  have G5 := Lib.hid (G3.out.only g3 (by simp) (by simp) (by simp) (by simp))
                  have G6 := Lib.hid g2
                  clear g1 g2 g3
                  go_wp2_with fail
                  refine (same_ints v1 v2 _ _ w7 V3.out V2.out (by have := Hdst.out; show d.st.length ≤ _; omega) (by have := Hst.out; omega)).mono ?_
                  rintro r w8 ⟨rfl, g1⟩
                  have G7 := Lib.hid (G5.out.only g1 (by simp) (by simp) (by simp) (by simp))
                  have G8 := Lib.hid (G6.out.only g1 (by simp) (by simp) (by simp) (by simp) (by simp))
                  clear g1
                  rw [decide_eq_true (show d.st = _ from E2.out)]
                  go_wp2_with fail
                  refine (G7.out.at).mono ?_
                  rintro r w9 ⟨rfl, rfl⟩
                  obtain ⟨dp, hdp⟩ : ∃ dp : Nat, dp = d.pos := ⟨_, rfl⟩
                  have hdp2 : ((dp : Int) + 7) / 8 = (S.size : Int) := by have := E3.out; omega
                  have hdp3 : (dp : Int) ≤ 10000 := by have := E3.out; omega
                  rw [show ({ d with wid := d.wid - 2, over := true } : Dec).pos = dp from hdp.symm]
                  clear hdp
                  go_wp2_with fail
                  refine (G8.out.bytes).mono ?_
                  rintro r w9 ⟨rfl, rfl⟩
                  rw [show strOfNums (packed (((Enc.new st).run ops).term 1).bits) = S from HS.out.symm]
                  go_wp2
                  go_ret
                  exact ⟨ret_bool (by simp), Hon.out.trans G7.out.on⟩
end Go.Proofs.YtibojidpifgblaaDoor
