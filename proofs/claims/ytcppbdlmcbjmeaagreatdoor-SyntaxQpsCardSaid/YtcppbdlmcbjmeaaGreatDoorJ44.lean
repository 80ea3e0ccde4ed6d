/-
  SyntaxQps: the walk. SyntaxQps: the law.
-/
import Derived.Test.YtcppbdlmcbjmeaaGreatDoorJ42
import Derived.Test.YtcppbdlmcbjmeaaGreatDoorJ43
namespace Go.Proofs.YtcppbdlmcbjmeaaGreatDoor
open Go.RowKit

set_option maxRecDepth 100000 in
set_option maxHeartbeats 6400000 in
theorem walk_qps {xs : List Int} {v : Value} {cb : Bool} {w : World} (hA : Asc w) (haw : Calls Tryz.prog 11 #[] w fun e w' => e = .returned (.bool true) ∧ Only [] w w') (hS : IntSlice w v xs) (hl : xs.length ≤ 9223372036854775807) :
    Calls Tryz.prog 5 #[v, .bool cb] w fun e w' => e = .returned (.bool true) ∧ Only [] w w' := by
  have HAW := Lib.hid haw
  have HA := Lib.hid hA
  have HS := Lib.hid hS
  clear haw hA hS
  go_enter Tryz.func5, Tryz.ntmps5
  go_wp2_with fail
  refine HAW.out.mono ?_
  rintro e w1 ⟨rfl, o1⟩
  have O1 := Lib.hid o1
  have HA1 := Lib.hid (HA.out.only o1 (by simp))
  have HS1 := Lib.hid (HS.out.only o1 (fun _ _ _ _ h => by cases h))
  clear o1 HA HS HAW
  go_wp2
  obtain ⟨N, hN⟩ : ∃ N, N = xs.length := ⟨_, rfl⟩
  obtain ⟨ao, cap, hv, hcell⟩ := HS1.out
  rw [← hN] at hv hl hcell
  subst hv
  have hw1 := O1.out.size
  have HN := Lib.hid hN
  have Hcell := Lib.hid hcell
  clear hN hcell HS1
  go_loopw [6, 5] (fun q v wr => ∃ (n : Nat) (qs : List Int), n ≤ N ∧ n ≤ 20 ∧ q = .int .i64 (n : Int) ∧ Hid (wr.ownsRow w1.heap.size 51 483 v n (mbsA (qs.map fun z => mbV (dcY z))) ∧ qs.length = n ∧ (∀ z ∈ qs, 0 ≤ z ∧ z ≤ 51) ∧ Only [] w1 wr)) (fun q _ _ => ((N : Int) - intOf q).toNat)
  case atStart => exact ⟨0, [], Nat.zero_le _, Nat.zero_le _, rfl, Lib.hid ⟨World.ownsRow_nil _ _ _ _, rfl, fun z hz => by (cases hz), Only.refl _ _⟩⟩
  case round =>
    obtain ⟨n, qs, hn, hn20, rfl, Hr⟩ := hrel
    by_cases hin : n < N ∧ n < 20
    · obtain ⟨hin1, hin2⟩ := hin
      obtain ⟨g, off, rfl, hcg⟩ : ∃ g off, ao = some ⟨g, off, none⟩ ∧ wr.cell? ⟨g, off + n, none⟩ = some (.int .i64 (xs.getD n 0)) := by
        rcases Hcell.out with h | ⟨g, off, h1, h2⟩
        · have := HN.out; rw [h] at this; simp at this; omega
        · exact ⟨g, off, h1, Hr.out.2.2.2.cell (h2 n hin1) (by simp)⟩
      generalize xs.getD n 0 = x at hcg
      go_wp2_with (refine held_at 31 rfl ?_)
      refine ⟨?_⟩
      have hqr : 0 ≤ wrap64 ((IntKind.u64.wrap x).tmod 52) ∧ wrap64 ((IntKind.u64.wrap x).tmod 52) ≤ 51 := by
        have h0 : 0 ≤ IntKind.u64.wrap x := by rw [IntKind.wrap_u64]; omega
        have h1 : (IntKind.u64.wrap x).tmod 52 = IntKind.u64.wrap x % 52 := Int.tmod_eq_emod_of_nonneg h0
        rw [h1, show wrap64 (IntKind.u64.wrap x % 52) = IntKind.u64.wrap x % 52 from IntWalk.wrap64_in _ ⟨by omega, by omega⟩]
        omega
      generalize wrap64 ((IntKind.u64.wrap x).tmod 52) = qv at hqr
      obtain ⟨XL, hXL⟩ : ∃ XL, XL = (fnA 483 (mbV (dcY qv))).toList := ⟨_, rfl⟩
      have eX : fnA 483 (mbV (dcY qv)) = XL.toArray := by rw [hXL, fnA_toArray]
      have hb := built_dc qv
      have hX1 := mbV_one (dcY qv)
      rw [eX] at hb hX1
      have H483 := Lib.hid (show XL.length = 483 by rw [hXL, fnA_list_length])
      have H48 := Lib.hid (show XL.toArray.size = 483 by rw [List.size_toArray, H483.out])
      have HX1 : Hid (∀ u ∈ XL, u.oneCell' = true) := Lib.hid (fun u hu => Array.all_eq_true_iff_forall_mem.1 hX1 u (by simpa using hu))
      have Hsn : Hid (mbsA ((qs ++ [qv]).map fun z => mbV (dcY z)) = mbsA (qs.map fun z => mbV (dcY z)) ++ XL) := Lib.hid (by rw [List.map_append, List.map_singleton, mbsA_snoc, hXL])
      have N8 := Lib.hid (World.news_of_block (heap_alloc_at wr (.cells XL.toArray 51)))
      have Hown8 := Lib.hid (Hr.out.1.alloc (.cells XL.toArray 51))
      have hb8 : w1.heap.size ≤ (wr.alloc (.cells XL.toArray 51)).heap.size := by rw [World.size_alloc]; have := Hr.out.2.2.2.size; omega
      have Hqr := Lib.hid hqr
      clear eX hXL hX1 hqr
      refine wpList_build rfl 51 _ rfl XL.toArray (Eq.trans (by kernel_rfl) hb) ?_
      refine wpList_build1 rfl 29 _ rfl eltMb XL.toArray rfl (by decide) H48.out ?_
      refine wpList_appendB rfl _ _ rfl eltMb w1.heap.size u5 n _ rfl Hown8.out ⟨wr.heap.size, 0, none⟩ 1 1 XL rfl H483.out N8.out HX1.out (by decide) (by omega) (by omega) hb8 ?_
      intro g9 cap9 w9 hp9
      have Hp9 := Lib.hid hp9.of_alloc
      clear hp9 N8 Hown8 hb8 hb H48 HX1
      have Hown9 : Hid (w9.ownsRow w1.heap.size 51 483 (.slice (some ⟨g9, 0, none⟩) (n + 1) cap9) (n + 1) (mbsA ((qs ++ [qv]).map fun z => mbV (dcY z))) ∧ (qs ++ [qv]).length = n + 1 ∧ (∀ z ∈ qs ++ [qv], 0 ≤ z ∧ z ≤ 51) ∧ Only [] w1 w9) := Lib.hid (by
        refine ⟨by rw [Hsn.out]; exact Hp9.out.1, by rw [List.length_append, Hr.out.2.1]; rfl, fun z hz => ?_, Hr.out.2.2.2.grown Hp9.out.2.1 (fun k hk => ?_)⟩
        · rcases List.mem_append.1 hz with h | h
          · exact Hr.out.2.2.1 z h
          · rw [List.mem_singleton.1 h]; exact Hqr.out
        · rcases Hr.out.1.2 with ⟨h, _⟩ | ⟨gk, ck, cur, h, hb, _⟩
          · rw [h] at hk; cases hk
          · rw [h] at hk
            obtain rfl : gk = k := by simpa [Value.ownBlock] using hk
            exact .inr hb)
      clear Hp9 Hqr Hsn Hr
      go_wp2
      exact ⟨⟨n + 1, qs ++ [qv], by omega, by omega, rfl, Hown9⟩, by simp [intOf]; omega⟩
    · have Hstop := Lib.hid (show n ≤ 20 from hn20)
      -- behind the loop: so many macroblocks
      have hrest : Hid (∀ (a : Act), a = a → True) := Lib.hid (fun _ _ => trivial)
      clear hrest
      obtain ⟨k, hk⟩ : ∃ k, k = n := ⟨_, rfl⟩
      by_cases hn0 : n = 0
      · subst hn0
        by_cases hN : 0 < N
        · exact absurd ⟨hN, by omega⟩ hin
        · obtain rfl : N = 0 := by omega
          have hO := Lib.hid (O1.out.trans Hr.out.2.2.2)
          obtain ⟨av, cv, hv5⟩ := slice_of Hr.out.1
          subst hv5
          clear hin
          go_wp2
          go_ret
          exact ⟨rfl, hO.out⟩
      · obtain ⟨g, cap5, hv5, hg1, hg2⟩ := row_shape Hr.out.1 (by omega)
        subst hv5
        obtain ⟨ms, hms⟩ : ∃ ms, ms = qs.map dcM := ⟨_, rfl⟩
        have hml : ms.length = n := by rw [hms, List.length_map, Hr.out.2.1]
        have hmi : ∀ (i : Nat) (m : MbN), ms[i]? = some m → ∃ z, 0 ≤ z ∧ z ≤ 51 ∧ m = dcM z ∧ (qs.map fun z => mbV (dcY z))[i]? = some (mbV m.y) := fun i m hm => by
          rw [hms, List.getElem?_map] at hm
          obtain ⟨z, hz, rfl⟩ := Option.map_eq_some_iff.1 hm
          obtain ⟨h1, h2⟩ := Hr.out.2.2.1 z (List.mem_of_getElem? hz)
          exact ⟨z, h1, h2, rfl, by rw [List.getElem?_map, hz]; rfl⟩
        have Hmi := Lib.hid hmi
        have hok : ∀ m ∈ ms, m.ok := fun m hm => by
          obtain ⟨i, hi⟩ := List.getElem?_of_mem hm
          obtain ⟨z, h1, h2, rfl, -⟩ := hmi i m hi
          exact dcM_ok ⟨h1, h2⟩
        obtain ⟨HL, hHL⟩ : ∃ HL, HL = hdL (hdQ n 20) := ⟨_, rfl⟩
        obtain ⟨PL, hPL⟩ : ∃ PL, PL = ppsQ cb := ⟨_, rfl⟩
        have Hthere : Hid (∀ wx, Asc wx → MbsAt wx g ms → Calls Tryz.prog 22 #[.agg HL.toArray, .agg PL.toArray, .int .i64 3, .slice (some ⟨g, 0, none⟩) n cap5] wx (There wx ms)) := Lib.hid (fun wx h1x h2x => by
          rw [hHL, hPL]
          exact law_there (wide := 3) (cabac := cb) (qp := 20) h1x (by show _ = some 9; kernel_rfl) rfl (hdQ_is n 20) rfl (by decide) (by decide) (by decide) (by decide) (by rw [hml]) (by omega) (by omega) hok hml.symm h2x)
        have hHb := built_hdQ n 20
        rw [← hHL] at hHb
        have hPb := built_ppsQ cb
        rw [← hPL] at hPb
        have HHi := Lib.hid (show (Tryz.prog.info? 26).map (·.size) = some HL.length by rw [hHL]; show _ = some 21; kernel_rfl)
        have HHj := Lib.hid (show (Tryz.prog.info? 26).map (·.size) = some HL.toArray.size by rw [List.size_toArray]; exact HHi.out)
        have HZ := Lib.hid (show HL.toArray.size = 21 by rw [List.size_toArray, hHL]; rfl)
        have H1H := Lib.hid (show HL.toArray.all (·.oneCell') = true by rw [hHL]; exact hdQ_one _ _)
        have HHb := Lib.hid hHb
        have HPb := Lib.hid hPb
        have Hml := Lib.hid hml
        clear hms hmi hok hHL hPL hHb hPb hml
        have hstop : (n < N ∧ 20 ≤ n) ∨ ¬ n < N := by omega
        clear hin hk
        rcases hstop with ⟨hlt, h20⟩ | hlt
        all_goals
          go_wp2_with (refine held_at 39 rfl ?_)
          refine ⟨?_⟩
          refine wpList_build rfl 26 _ rfl HL.toArray (Eq.trans (by kernel_rfl) HHb.out) ?_
          go_wp2_with (refine wpList_store_agg rfl 26 _ _ rfl wr.heap.size HL.toArray rfl rfl (heap_alloc_at wr _) HHj.out (Eq.trans rfl HZ.out.symm) H1H.out ?_)
          intro w7 hw7 ho7
          have O7 : Hid (Only [] wr w7) := Lib.hid (((Only.refl [] wr).alloc _).trans' ho7 (fun i hi => .inr (by simp at hi; omega)))
          have Hr7 : Hid (w7.rangeAt wr.heap.size 0 HL) := Lib.hid (fun a v hv => by
            rw [Nat.zero_add, cells_of hw7]
            simpa using hv)
          have Ow7 : Hid (Only [] w w7) := Lib.hid ((O1.out.trans Hr.out.2.2.2).trans O7.out)
          have Hown7 : Hid (w7.ownsRow w1.heap.size 51 483 (.slice (some ⟨g, 0, none⟩) n cap5) n (mbsA (qs.map fun z => mbV (dcY z)))) := Lib.hid (ownsRow_of_block Hr.out.1 (fun gg hg => by
            obtain ⟨cur, hcur⟩ := ownsRow_block Hr.out.1 hg
            exact O7.out.block gg (lt_of_block hcur) (by simp)))
          have HA7 := Lib.hid ((HA1.out.only Hr.out.2.2.2 (by simp)).only O7.out (by simp))
          have HM7 : Hid (MbsAt w7 g ms) := Lib.hid ⟨fun i m hm => by
            obtain ⟨z, h1, h2, h3, h4⟩ := Hmi.out i m hm
            exact ⟨mbV m.y, row_range Hown7.out h4, mbV_in (by rw [h3]; exact (show (1 : Int) ≠ 2 by decide))⟩⟩
          have Hgo := Lib.hid (Hthere.out w7 HA7.out HM7.out)
          clear hw7 ho7 Hthere HA7 HM7
          go_wp2_with (first
            | (with_reducible refine wpList_load_mid rfl 26 _ rfl wr.heap.size 0 rfl HL _ Hr7.out Tryz.underlying26 rfl HHi.out ?_)
            | (refine wpList_build rfl 28 _ rfl PL.toArray (Eq.trans (by kernel_rfl) HPb.out) ?_))
          refine Hgo.out.mono ?_
          rintro e w8 ⟨v8, Xs, rfl, o8, own8, len8, mb8⟩
          obtain ⟨gx, capx, rfl, -, hgx⟩ := row_shape own8 (by have := Hml.out; omega)
          rw [Hml.out] at own8 len8 ⊢
          have Own8 := Lib.hid own8
          have Len8 := Lib.hid len8
          have Mb8 := Lib.hid mb8
          have O8 : Hid (Only [] w7 w8) := Lib.hid o8
          clear own8 len8 mb8 o8 Hgo Hr7
          go_wp2
          go_loopw [10] (fun q wl => ∃ j : Nat, j ≤ n ∧ q = .int .i64 (j : Int) ∧ Hid (Only [] w8 wl)) (fun q _ => ((n : Int) - intOf q).toNat)
          case atStart => exact ⟨0, Nat.zero_le _, rfl, Lib.hid (Only.refl _ _)⟩
          case round =>
            obtain ⟨j, hj, rfl, Hl⟩ := hrel
            by_cases hjn : j < n
            · obtain ⟨m, hm⟩ : ∃ m, ms[j]? = some m := ⟨_, List.getElem?_eq_getElem (show j < ms.length by rw [Hml.out]; exact hjn)⟩
              obtain ⟨Xf, hXf⟩ : ∃ Xf, Xs[j]? = some Xf := ⟨_, List.getElem?_eq_getElem (show j < Xs.length by rw [Len8.out]; exact hjn)⟩
              obtain ⟨z, z1, z2, hz3, hz4⟩ := Hmi.out j m hm
              have hmo := Mb8.out j m Xf hm hXf
              have hy0 : m.y 0 ≠ 2 := by rw [hz3]; exact (show (1 : Int) ≠ 2 by decide)
              have r1 := row_range Own8.out hXf
              have r2 := row_range Hown7.out hz4
              obtain ⟨X1, hX1⟩ : ∃ X1, X1 = (fnA 483 Xf).toList := ⟨_, rfl⟩
              obtain ⟨X2, hX2⟩ : ∃ X2, X2 = (fnA 483 (mbV m.y)).toList := ⟨_, rfl⟩
              rw [← hX1] at r1
              rw [← hX2] at r2
              have I1 := Lib.hid (show (Tryz.prog.info? 51).map (·.size) = some X1.length by rw [hX1, fnA_list_length]; kernel_rfl)
              have I2 := Lib.hid (show (Tryz.prog.info? 51).map (·.size) = some X2.length by rw [hX2, fnA_list_length]; kernel_rfl)
              have Hsame : Hid (∀ wx, Calls Tryz.prog 20 #[.agg X1.toArray, .agg X2.toArray] wx fun e w' => e = .returned (.bool true) ∧ Only [] wx w') := Lib.hid (fun wx => by
                have e1 : X1.toArray = fnA 483 Xf := by rw [hX1, fnA_toArray]
                have e2 : X2.toArray = fnA 483 (mbV m.y) := by rw [hX2, fnA_toArray]
                rw [e1, e2]
                exact rf_same hmo.cell (fun i hi => mbV_at hi) (s := ByteArray.empty) (fun wy _ => by rw [hmo.nil hy0]; exact strOf_nil wy 0 0) (fun wy _ => by exact strOf_nil wy 0 0))
              have R1 : Hid (wr.rangeAt gx (j * 483) X1) := Lib.hid (fun a v hv => Hl.out.cell (r1 a v hv) (by simp))
              have R2 : Hid (wr.rangeAt g (j * 483) X2) := Lib.hid (fun a v hv => Hl.out.cell (O8.out.cell (r2 a v hv) (by simp)) (by simp))
              clear hm hXf hz3 hz4 hmo hy0 r1 r2 hX1 hX2 z1 z2
              go_wp2_with fail
              refine wp_region_L (by kernel_rfl) (fun w' => w'.rangeAt gx (j * 483) X1 ∧ w'.rangeAt g (j * 483) X2) 9 ?_
              have hS0 : (fun w' : World => w'.rangeAt gx (j * 483) X1 ∧ w'.rangeAt g (j * 483) X2) wr.drew := ⟨R1.out, R2.out⟩
              refine AnyL.take 0 (v := ?_) rfl (by kernel_rfl) (by kernel_rfl) (by kernel_rfl) (by kernel_rfl) (fun _ _ _ h => h) (by assumption) (Or.inl ⟨by rfl, ?_⟩) ?_
              rotate_left
              · (intro w' hSw; (try dsimp only at hSw); go_simp; try (with_reducible rfl))
              try simp only [Act.put, List.setIfInBounds_toArray, List.set_cons_zero, List.set_cons_succ]
              refine AnyL.take 1 (v := ?_) rfl (by kernel_rfl) (by kernel_rfl) (by kernel_rfl) (by kernel_rfl) (fun _ _ _ h => h) (by assumption) (Or.inl ⟨by rfl, ?_⟩) ?_
              rotate_left
              · (intro w' hSw; (try dsimp only at hSw); go_simp; try (with_reducible rfl))
              try simp only [Act.put, List.setIfInBounds_toArray, List.set_cons_zero, List.set_cons_succ]
              refine AnyL.take 2 (v := ?_) rfl (by kernel_rfl) (by kernel_rfl) (by kernel_rfl) (by kernel_rfl) (fun _ _ _ h => h) (by assumption) (Or.inl ⟨by rfl, ?_⟩) ?_
              rotate_left
              · (intro w' hSw; (try dsimp only at hSw); go_simp; try (with_reducible rfl))
              try simp only [Act.put, List.setIfInBounds_toArray, List.set_cons_zero, List.set_cons_succ]
              refine AnyL.take 3 rfl (by kernel_rfl) (by kernel_rfl) (by kernel_rfl) (by kernel_rfl) (fun _ _ _ h => h) (by assumption) (yieldsIf_load_mid (by rfl) _ _ rfl gx (j * 483) rfl X1 _ (fun w' h => h.1) Tryz.underlying51 rfl I1.out) ?_
              try simp only [Act.put, List.setIfInBounds_toArray, List.set_cons_zero, List.set_cons_succ]
              refine AnyL.take 4 (v := ?_) rfl (by kernel_rfl) (by kernel_rfl) (by kernel_rfl) (by kernel_rfl) (fun _ _ _ h => h) (by assumption) (Or.inl ⟨by rfl, ?_⟩) ?_
              rotate_left
              · (intro w' hSw; (try dsimp only at hSw); go_simp; try (with_reducible rfl))
              try simp only [Act.put, List.setIfInBounds_toArray, List.set_cons_zero, List.set_cons_succ]
              refine AnyL.take 5 (v := ?_) rfl (by kernel_rfl) (by kernel_rfl) (by kernel_rfl) (by kernel_rfl) (fun _ _ _ h => h) (by assumption) (Or.inl ⟨by rfl, ?_⟩) ?_
              rotate_left
              · (intro w' hSw; (try dsimp only at hSw); go_simp; try (with_reducible rfl))
              try simp only [Act.put, List.setIfInBounds_toArray, List.set_cons_zero, List.set_cons_succ]
              refine AnyL.take 6 (v := ?_) rfl (by kernel_rfl) (by kernel_rfl) (by kernel_rfl) (by kernel_rfl) (fun _ _ _ h => h) (by assumption) (Or.inl ⟨by rfl, ?_⟩) ?_
              rotate_left
              · (intro w' hSw; (try dsimp only at hSw); go_simp; try (with_reducible rfl))
              try simp only [Act.put, List.setIfInBounds_toArray, List.set_cons_zero, List.set_cons_succ]
              refine AnyL.take 7 rfl (by kernel_rfl) (by kernel_rfl) (by kernel_rfl) (by kernel_rfl) (fun _ _ _ h => h) (by assumption) (yieldsIf_load_mid (by rfl) _ _ rfl g (j * 483) rfl X2 _ (fun w' h => h.2) Tryz.underlying51 rfl I2.out) ?_
              try simp only [Act.put, List.setIfInBounds_toArray, List.set_cons_zero, List.set_cons_succ]
              refine AnyL.one 8 (by kernel_rfl) rfl (fun K hK => ?_)
              go_simp
              refine (Hsame.out _).mono ?_
              rintro e w9 ⟨rfl, o9⟩
              have hS9 : (fun w' : World => w'.rangeAt gx (j * 483) X1 ∧ w'.rangeAt g (j * 483) X2) w9 := ⟨fun a v hv => o9.cell (hS0.1 a v hv) (by simp), fun a v hv => o9.cell (hS0.2 a v hv) (by simp)⟩
              have O9 : Hid (Only [] w8 w9) := Lib.hid ((Hl.out.drew).trans o9)
              refine hK _ _ (fun _ => hS9) (fun hKq => ?_)
              clear hK K hKq o9
              try simp only [Act.put, List.setIfInBounds_toArray, List.set_cons_zero, List.set_cons_succ]
              refine AnyL.one 9 (by kernel_rfl) rfl (fun K hK => ?_)
              go_simp
              refine hK _ _ (fun _ => hS9) (fun hKq => ?_)
              clear hK K hKq hS9 hS0
              try simp only [Act.put, List.setIfInBounds_toArray, List.set_cons_zero, List.set_cons_succ]
              refine AnyL.done (by kernel_rfl) ?_ _
              clear R1 R2 I1 I2 Hsame
              go_wp2
              exact ⟨⟨j + 1, by omega, rfl, O9⟩, by simp [intOf]; omega⟩
            · have hO := Lib.hid ((Ow7.out.trans O8.out).trans Hl.out)
              go_wp2
              go_ret
              exact ⟨rfl, hO.out⟩
end Go.Proofs.YtcppbdlmcbjmeaaGreatDoor

namespace Go.Proofs.YtcppbdlmcbjmeaaGreatDoor
open Go.RowKit

theorem law_qps {xs : List Int} {v : Value} {cb : Bool} {W : World} (hA : Asc W) (hS : IntSlice W v xs) (hl : xs.length ≤ maxLen) : Calls Tryz.prog 5 #[v, .bool cb] W fun e w' => e = .returned (.bool true) ∧ Only [] W w' :=
  walk_qps hA (walk_awake hA) hS (by unfold maxLen at hl; omega)
end Go.Proofs.YtcppbdlmcbjmeaaGreatDoor
