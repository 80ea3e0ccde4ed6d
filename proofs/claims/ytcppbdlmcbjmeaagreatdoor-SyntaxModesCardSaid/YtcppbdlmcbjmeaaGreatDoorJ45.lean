/-
  SyntaxModes: the walk. SyntaxModes: the law.
-/
import Derived.Test.YtcppbdlmcbjmeaaGreatDoorJ42
import Derived.Test.YtcppbdlmcbjmeaaGreatDoorJ43
namespace Go.Proofs.YtcppbdlmcbjmeaaGreatDoor
open Go.RowKit

/-- A macroblock by blocks' modes. -/
def mdY (f : Nat → Int) (c : Int) : Nat → Int := fun j => if 2 ≤ j ∧ j < 18 then f (j - 2) else if j = 19 then c else 0
theorem mdY_set {f : Nat → Int} {c v : Int} {b : Nat} (hb : b < 16) : fnA 483 (upd (mbV (mdY f c)) (2 + b) (.int .i64 v)) = fnA 483 (mbV (mdY (fun i => if i = b then v else f i) c)) := by
  congr 1
  funext j
  by_cases h : j = 2 + b
  · subst h
    rw [upd_same, mbV_at (by omega)]
    unfold mdY
    rw [if_pos (by omega), show 2 + b - 2 = b by omega]
    dsimp only
    rw [if_pos rfl]
  · rw [upd_ne _ _ h]
    unfold mbV mdY
    by_cases h2 : 2 ≤ j ∧ j < 18
    · rw [if_pos h2, if_pos h2]
      dsimp only
      rw [if_neg (show ¬ (j - 2 = b) by omega)]
    · rw [if_neg h2, if_neg h2]
theorem mdY_chroma {f : Nat → Int} {c v : Int} : fnA 483 (upd (mbV (mdY f c)) 19 (.int .i64 v)) = fnA 483 (mbV (mdY f v)) := by
  congr 1
  funext j
  by_cases h : j = 19
  · subst h
    rw [upd_same, mbV_at (by omega)]
    rfl
  · rw [upd_ne _ _ h]
    unfold mbV mdY
    rw [if_neg h, if_neg h]
theorem built_md : Tryz.prog.built 51 [(0, .int .i64 0)] = some (fnA 483 (mbV (mdY (fun _ => 0) 0))) := by kernel_rfl
def mdM (f : Nat → Int) (c : Int) : MbN := ⟨mdY f c, fun _ => 0⟩
theorem mdM_ok {f : Nat → Int} {c : Int} (hf : ∀ i, i < 16 → 0 ≤ f i ∧ f i ≤ 8) (hc : 0 ≤ c ∧ c ≤ 3) : (mdM f c).ok := by
  refine plain_ok (y := mdY f c) (.inl rfl) (fun _ => ⟨fun i hi => ?_, rfl, rfl⟩) (fun e => absurd e (show (0 : Int) ≠ 1 by decide)) hc (fun j hj hz => ?_)
  · unfold mdY
    rw [if_pos (by omega), show 2 + i - 2 = i by omega]
    exact hf i hi
  · unfold mdY
    rw [if_neg (by omega), if_neg (by omega)]
set_option maxRecDepth 100000 in
set_option maxHeartbeats 12800000 in
theorem walk_modes {xs : List Int} {v : Value} {cb : Bool} {a2 : Int} {w : World} (hA : Asc w) (haw : Calls Tryz.prog 11 #[] w fun e w' => e = .returned (.bool true) ∧ Only [] w w') (hS : IntSlice w v xs) (hl : xs.length ≤ 9223372036854775807) :
    Calls Tryz.prog 7 #[v, .bool cb, .int .i64 a2] w fun e w' => e = .returned (.bool true) ∧ Only [] w w' := by
  have HAW := Lib.hid haw
  have HA := Lib.hid hA
  have HS := Lib.hid hS
  clear haw hA hS
  go_enter Tryz.func7, Tryz.ntmps7
  go_wp2_with fail
  refine HAW.out.mono ?_
  rintro e w1 ⟨rfl, o1⟩
  have O1 := Lib.hid o1
  have HA1 := Lib.hid (HA.out.only o1 (by simp))
  have HS1 := Lib.hid (HS.out.only o1 (fun _ _ _ _ h => by cases h))
  clear o1 HA HS HAW
  go_wp2
  obtain ⟨N, hN⟩ : ∃ N, N = xs.length := ⟨_, rfl⟩
  obtain ⟨ao, cap, hv, hcell⟩ := HS1.out
  rw [← hN] at hv hl hcell
  subst hv
  obtain ⟨k, hk, hk1, hk4⟩ : ∃ k : Nat, 1 + a2 % 4 = (k : Int) ∧ 1 ≤ k ∧ k ≤ 4 := ⟨(1 + a2 % 4).toNat, by omega, by omega, by omega⟩
  rw [hk]
  have HN := Lib.hid hN
  have Hcell := Lib.hid hcell
  clear hN hcell HS1 hk
  go_loopw [9, 8] (fun q v wr => ∃ (n : Nat) (ms : List MbN), n ≤ k ∧ q = .int .i64 (n : Int) ∧ Hid (wr.ownsRow w1.heap.size 51 483 v n (mbsA (ms.map fun m => mbV m.y)) ∧ ms.length = n ∧ (∀ m ∈ ms, m.ok ∧ m.y 0 = 0) ∧ Only [] w1 wr)) (fun q _ _ => ((k : Int) - intOf q).toNat)
  case atStart => exact ⟨0, [], Nat.zero_le _, rfl, Lib.hid ⟨World.ownsRow_nil _ _ _ _, rfl, fun z hz => by (cases hz), Only.refl _ _⟩⟩
  case round =>
    obtain ⟨n, ms, hn, rfl, Hr⟩ := hrel
    by_cases hnk : n < k
    · obtain ⟨ZL, hZL⟩ : ∃ ZL, ZL = (fnA 483 (mbV (mdY (fun _ => 0) 0))).toList := ⟨_, rfl⟩
      have eZ : fnA 483 (mbV (mdY (fun _ => 0) 0)) = ZL.toArray := by rw [hZL, fnA_toArray]
      have hb := built_md
      have hZ1 := mbV_one (mdY (fun _ => 0) 0)
      rw [eZ] at hb hZ1
      have HZb := Lib.hid hb
      have HZ1 := Lib.hid hZ1
      have HZi := Lib.hid (show (Tryz.prog.info? 51).map (·.size) = some ZL.toArray.size by rw [List.size_toArray, hZL, fnA_list_length]; kernel_rfl)
      have HZ2 := Lib.hid ((show Tryz.zeroCells51.size = 483 by kernel_rfl).trans (show ZL.toArray.size = 483 by rw [List.size_toArray, hZL, fnA_list_length]).symm)
      have HeZ := Lib.hid eZ
      clear hb hZ1 eZ hZL
      go_wp2_with (first
        | (refine wpList_build rfl 51 _ rfl ZL.toArray (Eq.trans (by kernel_rfl) HZb.out) ?_)
        | (refine wpList_store_agg rfl 51 _ _ rfl wr.heap.size ZL.toArray rfl rfl (heap_alloc_at wr _) HZi.out HZ2.out HZ1.out ?_))
      intro w4 hw4 ho4
      obtain ⟨M, hM⟩ : ∃ M, M = wr.heap.size := ⟨_, rfl⟩
      rw [← hM] at hw4 ho4
      rw [← hM]
      have HB4 : Hid (BlkIn w4 M 483 51 (mbV (mdY (fun _ => 0) 0))) := Lib.hid (by unfold BlkIn; rw [HeZ.out]; exact hw4)
      have O4 : Hid (Only [] wr w4) := Lib.hid (((Only.refl [] wr).alloc _).trans' ho4 (fun i hi => .inr (by simp at hi; omega)))
      have HMr : Hid (M = wr.heap.size) := Lib.hid hM
      have Hr0 := Hr
      clear hw4 ho4 HZb HZ1 HZi HZ2 HeZ hM
      obtain ⟨wq, hwq⟩ : ∃ wq, wq = wr := ⟨_, rfl⟩
      rw [← hwq] at Hr0 O4 HMr
      clear Hr hwq
      go_wp2
      go_loopw [11] (fun q wi => ∃ (b : Nat) (f : Nat → Int), b ≤ 16 ∧ q = .int .i64 (b : Int) ∧ Hid (BlkIn wi M 483 51 (mbV (mdY f 0)) ∧ (∀ i, i < 16 → 0 ≤ f i ∧ f i ≤ 8) ∧ Only [] wq wi)) (fun q _ => (16 - intOf q).toNat)
      case atStart => exact ⟨0, fun _ => 0, by decide, rfl, Lib.hid ⟨HB4.out, fun _ _ => (show (0 : Int) ≤ 0 ∧ (0 : Int) ≤ 8 by decide), O4.out⟩⟩
      case round =>
        obtain ⟨b, f, hb, rfl, Hi⟩ := hrel
        by_cases hb16 : b < 16
        · have cb0 : wr.cell? ⟨M, 2 + b, none⟩ = some (.int .i64 (f b)) := by
            rw [Hi.out.1.cell (2 + b) (by omega), mbV_at (by omega)]
            unfold mdY
            rw [if_pos (by omega), show 2 + b - 2 = b by omega]
          have zb0 := Hi.out.1.free (2 + b)
          have H1 : Hid (BlkIn (wr.setCell ⟨M, 2 + b, none⟩ (.int .i64 ((b : Int) % 9))) M 483 51 (mbV (mdY (fun i => if i = b then (b : Int) % 9 else f i) 0))) := Lib.hid (by
            have h := Hi.out.1.set (2 + b) (.int .i64 ((b : Int) % 9))
            unfold BlkIn at h ⊢
            rw [h, mdY_set hb16])
          have hf1 : Hid (∀ i, i < 16 → 0 ≤ (if i = b then (b : Int) % 9 else f i) ∧ (if i = b then (b : Int) % 9 else f i) ≤ 8) := Lib.hid (fun i hi => by
            split
            · omega
            · exact Hi.out.2.1 i hi)
          have O1i : Hid (Only [] wq (wr.setCell ⟨M, 2 + b, none⟩ (.int .i64 ((b : Int) % 9)))) := Lib.hid (Hi.out.2.2.setCell (.inr (by show wq.heap.size ≤ M; rw [HMr.out]; exact Nat.le_refl _)) _)
          by_cases hN0 : N = 0
          · subst hN0
            go_wp2
            exact ⟨⟨b + 1, _, by omega, rfl, Lib.hid ⟨H1.out, hf1.out, O1i.out⟩⟩, by simp [intOf]; omega⟩
          · obtain ⟨g, off, rfl, hcg⟩ : ∃ g off, ao = some ⟨g, off, none⟩ ∧ ∀ i, i < N → (wr.setCell ⟨M, 2 + b, none⟩ (.int .i64 ((b : Int) % 9))).cell? ⟨g, off + i, none⟩ = some (.int .i64 (xs.getD i 0)) := by
              rcases Hcell.out with h | ⟨g, off, h1, h2⟩
              · have := HN.out; rw [h] at this; simp at this; omega
              · exact ⟨g, off, h1, fun i hi => O1i.out.cell (Hr0.out.2.2.2.cell (h2 i hi) (by simp)) (by simp)⟩
            obtain ⟨I, hI, hIN⟩ : ∃ I : Nat, (16 * (n : Int) + b) % N = I ∧ I < N := ⟨(16 * n + b) % N, by simp, Nat.mod_lt _ (by omega)⟩
            have hcI := hcg I hIN
            generalize xs.getD I 0 = x at hcI
            have HI := Lib.hid hI
            clear hcg hI
            go_wp2_with (refine held_at 47 rfl ?_)
            refine ⟨?_⟩
            rw [HI.out]
            have hqr : 0 ≤ wrap64 ((IntKind.u64.wrap x).tmod 9) ∧ wrap64 ((IntKind.u64.wrap x).tmod 9) ≤ 8 := by
              have h0 : 0 ≤ IntKind.u64.wrap x := by rw [IntKind.wrap_u64]; omega
              have h1 : (IntKind.u64.wrap x).tmod 9 = IntKind.u64.wrap x % 9 := Int.tmod_eq_emod_of_nonneg h0
              rw [h1, show wrap64 (IntKind.u64.wrap x % 9) = IntKind.u64.wrap x % 9 from IntWalk.wrap64_in _ ⟨by omega, by omega⟩]
              omega
            have cb1 := H1.out.cell (2 + b) (by omega)
            have zb1 := H1.out.free (2 + b)
            have H2 : Hid (BlkIn ((wr.setCell ⟨M, 2 + b, none⟩ (.int .i64 ((b : Int) % 9))).setCell ⟨M, 2 + b, none⟩ (.int .i64 (wrap64 ((IntKind.u64.wrap x).tmod 9)))) M 483 51 (mbV (mdY (fun i => if i = b then wrap64 ((IntKind.u64.wrap x).tmod 9) else if i = b then (b : Int) % 9 else f i) 0))) := Lib.hid (by
              have h := H1.out.set (2 + b) (.int .i64 (wrap64 ((IntKind.u64.wrap x).tmod 9)))
              unfold BlkIn at h ⊢
              rw [h, mdY_set hb16])
            have hf2 : Hid (∀ i, i < 16 → 0 ≤ (if i = b then wrap64 ((IntKind.u64.wrap x).tmod 9) else if i = b then (b : Int) % 9 else f i) ∧ (if i = b then wrap64 ((IntKind.u64.wrap x).tmod 9) else if i = b then (b : Int) % 9 else f i) ≤ 8) := Lib.hid (fun i hi => by
              by_cases hib : i = b
              · rw [if_pos hib]; exact hqr
              · rw [if_neg hib]; exact hf1.out i hi)
            have O2i : Hid (Only [] wq ((wr.setCell ⟨M, 2 + b, none⟩ (.int .i64 ((b : Int) % 9))).setCell ⟨M, 2 + b, none⟩ (.int .i64 (wrap64 ((IntKind.u64.wrap x).tmod 9))))) := Lib.hid (O1i.out.setCell (.inr (by show wq.heap.size ≤ M; rw [HMr.out]; exact Nat.le_refl _)) _)
            clear hqr H1 hf1 O1i
            go_wp2
            exact ⟨⟨b + 1, _, by omega, rfl, Lib.hid ⟨H2.out, hf2.out, O2i.out⟩⟩, by simp [intOf]; omega⟩
        · obtain rfl : b = 16 := by omega
          have c19 : wr.cell? ⟨M, 19, none⟩ = some (.int .i64 0) := by rw [Hi.out.1.cell 19 (by decide)]; rfl
          have z19 := Hi.out.1.free 19
          have hn4 : (n : Int) % 4 = n := by omega
          have H1 : Hid (BlkIn (wr.setCell ⟨M, 19, none⟩ (.int .i64 n)) M 483 51 (mbV (mdY f n))) := Lib.hid (by
            have h := Hi.out.1.set 19 (.int .i64 n)
            unfold BlkIn at h ⊢
            rw [h, mdY_chroma])
          have O1i : Hid (Only [] wq (wr.setCell ⟨M, 19, none⟩ (.int .i64 n))) := Lib.hid (Hi.out.2.2.setCell (.inr (by show wq.heap.size ≤ M; rw [HMr.out]; exact Nat.le_refl _)) _)
          have Hn4 := Lib.hid hn4
          clear hn4
          go_wp2_with (refine held_at 58 rfl ?_)
          refine ⟨?_⟩
          rw [Hn4.out]
          generalize wr.setCell ⟨M, 19, none⟩ (.int .i64 n) = w5 at *
          obtain ⟨XL, hXL⟩ : ∃ XL, XL = (fnA 483 (mbV (mdY f n))).toList := ⟨_, rfl⟩
          have eX : fnA 483 (mbV (mdY f n)) = XL.toArray := by rw [hXL, fnA_toArray]
          have hX1 := mbV_one (mdY f n)
          rw [eX] at hX1
          have hrX : w5.rangeAt M 0 XL := by rw [hXL]; exact H1.out.range
          have HrX := Lib.hid hrX
          have HXi := Lib.hid (show (Tryz.prog.info? 51).map (·.size) = some XL.length by rw [hXL, fnA_list_length]; kernel_rfl)
          have H483 := Lib.hid (show XL.length = 483 by rw [hXL, fnA_list_length])
          have H48 := Lib.hid (show XL.toArray.size = 483 by rw [List.size_toArray, H483.out])
          have HX1 : Hid (∀ u ∈ XL, u.oneCell' = true) := Lib.hid (fun u hu => Array.all_eq_true_iff_forall_mem.1 hX1 u (by simpa using hu))
          have hmo := mdM_ok (f := f) (c := n) Hi.out.2.1 (by omega)
          have Hsn : Hid (mbsA ((ms ++ [mdM f n]).map fun m => mbV m.y) = mbsA (ms.map fun m => mbV m.y) ++ XL) := Lib.hid (by rw [List.map_append, List.map_singleton, mbsA_snoc, hXL]; rfl)
          have N8 := Lib.hid (World.news_of_block (heap_alloc_at w5 (.cells XL.toArray 51)))
          have Hown8 := Lib.hid (((ownsRow_of_block Hr0.out.1 (fun gg hg => by
            obtain ⟨cur, hcur⟩ := ownsRow_block Hr0.out.1 hg
            exact O1i.out.block gg (lt_of_block hcur) (by simp))) : w5.ownsRow w1.heap.size 51 483 u8 n (mbsA (ms.map fun m => mbV m.y))).alloc (.cells XL.toArray 51))
          have Ow5 : Hid (Only [] w1 w5) := Lib.hid (Hr0.out.2.2.2.trans O1i.out)
          have hb8 : w1.heap.size ≤ (w5.alloc (.cells XL.toArray 51)).heap.size := by rw [World.size_alloc]; have := Ow5.out.size; omega
          have Hmo := Lib.hid hmo
          clear eX hXL hX1 hrX hmo c19 z19 H1 O1i Hi
          refine wpList_load_mid rfl 51 _ rfl M 0 rfl XL _ HrX.out Tryz.underlying51 rfl HXi.out ?_
          refine wpList_build1 rfl 29 _ rfl eltMb XL.toArray rfl (by decide) H48.out ?_
          refine wpList_appendB rfl _ _ rfl eltMb w1.heap.size u8 n _ rfl Hown8.out ⟨w5.heap.size, 0, none⟩ 1 1 XL rfl H483.out N8.out HX1.out (by decide) (by omega) (by omega) hb8 ?_
          intro g9 cap9 w9 hp9
          have Hp9 := Lib.hid hp9.of_alloc
          clear hp9 N8 Hown8 hb8 H48 HX1
          have Hown9 : Hid (w9.ownsRow w1.heap.size 51 483 (.slice (some ⟨g9, 0, none⟩) (n + 1) cap9) (n + 1) (mbsA ((ms ++ [mdM f n]).map fun m => mbV m.y)) ∧ (ms ++ [mdM f n]).length = n + 1 ∧ (∀ m ∈ ms ++ [mdM f n], m.ok ∧ m.y 0 = 0) ∧ Only [] w1 w9) := Lib.hid (by
            refine ⟨by rw [Hsn.out]; exact Hp9.out.1, by rw [List.length_append, Hr0.out.2.1]; rfl, fun m hm => ?_, Ow5.out.grown Hp9.out.2.1 (fun k hk => ?_)⟩
            · rcases List.mem_append.1 hm with h | h
              · exact Hr0.out.2.2.1 m h
              · rw [List.mem_singleton.1 h]; exact ⟨Hmo.out, rfl⟩
            · rcases Hr0.out.1.2 with ⟨h, _⟩ | ⟨gk, ck, cur, h, hb, _⟩
              · rw [h] at hk; cases hk
              · rw [h] at hk
                obtain rfl : gk = k := by simpa [Value.ownBlock] using hk
                exact .inr hb)
          clear Hp9 Hmo Hsn Hr0
          go_wp2
          exact ⟨⟨n + 1, ms ++ [mdM f n], by omega, rfl, Hown9⟩, by simp [intOf]; omega⟩
    · obtain rfl : n = k := by omega
      obtain ⟨g, cap5, hv5, hg1, hg2⟩ := row_shape Hr.out.1 (by omega)
      subst hv5
      obtain ⟨HL, hHL⟩ : ∃ HL, HL = hdL (hdQ n 20) := ⟨_, rfl⟩
      obtain ⟨PL, hPL⟩ : ∃ PL, PL = ppsQ cb := ⟨_, rfl⟩
      have HM : Hid (MbsAt wr g ms) := Lib.hid ⟨fun i m hm => ⟨mbV m.y, row_range Hr.out.1 (by rw [List.getElem?_map, hm]; rfl), mbV_in (by rw [(Hr.out.2.2.1 m (List.mem_of_getElem? hm)).2]; decide)⟩⟩
      have HAr := Lib.hid (HA1.out.only Hr.out.2.2.2 (by simp))
      have Hgo := Lib.hid (law_there (wide := 2) (cabac := cb) (qp := 20) (hd := hdQ n 20) (PL := ppsQ cb) (a0 := 0) (a1 := 0) (cnt := n) (k := n) (cap := cap5) HAr.out (by show _ = some 9; kernel_rfl) rfl (hdQ_is n 20) rfl (by decide) (by decide) (by decide) (by decide) (by rw [Hr.out.2.1]) (by rw [Hr.out.2.1]; omega) (by rw [Hr.out.2.1]; omega) (fun m hm => (Hr.out.2.2.1 m hm).1) Hr.out.2.1.symm HM.out)
      rw [← hHL, ← hPL] at Hgo
      have hHb := built_hdQ n 20
      rw [← hHL] at hHb
      have hPb := built_ppsQ cb
      rw [← hPL] at hPb
      have HHb := Lib.hid hHb
      have HPb := Lib.hid hPb
      clear hHL hPL hHb hPb HM HAr
      go_wp2_with (first
        | (refine wpList_build rfl 26 _ rfl HL.toArray (Eq.trans (by kernel_rfl) HHb.out) ?_)
        | (refine wpList_build rfl 28 _ rfl PL.toArray (Eq.trans (by kernel_rfl) HPb.out) ?_))
      refine Hgo.out.mono ?_
      rintro e w8 ⟨v8, Xs, rfl, o8, own8, len8, mb8⟩
      have hml := Hr.out.2.1
      rw [hml] at own8 len8
      obtain ⟨gx, capx, rfl, -, hgx⟩ := row_shape own8 (by omega)
      have Own8 := Lib.hid own8
      have Len8 := Lib.hid len8
      have Mb8 := Lib.hid mb8
      have Hml := Lib.hid hml
      have O8 : Hid (Only [] wr w8) := Lib.hid o8
      have Hr0 := Hr
      obtain ⟨wq, hwq⟩ : ∃ wq, wq = wr := ⟨_, rfl⟩
      rw [← hwq] at Hr0 O8
      clear own8 len8 mb8 o8 Hgo hml Hr hwq
      go_wp2
      go_loopw [14] (fun q wl => ∃ j : Nat, j ≤ n ∧ q = .int .i64 (j : Int) ∧ Hid (Only [] w8 wl)) (fun q _ => ((n : Int) - intOf q).toNat)
      case atStart => exact ⟨0, Nat.zero_le _, rfl, Lib.hid (Only.refl _ _)⟩
      case round =>
        obtain ⟨j, hj, rfl, Hl⟩ := hrel
        by_cases hjn : j < n
        · obtain ⟨m, hm⟩ : ∃ m, ms[j]? = some m := ⟨_, List.getElem?_eq_getElem (show j < ms.length by rw [Hml.out]; exact hjn)⟩
          obtain ⟨Xf, hXf⟩ : ∃ Xf, Xs[j]? = some Xf := ⟨_, List.getElem?_eq_getElem (show j < Xs.length by rw [Len8.out]; exact hjn)⟩
          have hmo := Mb8.out j m Xf hm hXf
          have r1 := row_range Own8.out hXf
          have r2 := row_range Hr0.out.1 (X := mbV m.y) (show (ms.map fun m => mbV m.y)[j]? = some (mbV m.y) by rw [List.getElem?_map, hm]; rfl)
          obtain ⟨MM, hMM⟩ : ∃ MM, MM = csV m.y 2 16 := ⟨_, rfl⟩
          obtain ⟨yc, hyc⟩ : ∃ yc, yc = m.y 19 := ⟨_, rfl⟩
          have at1 : ∀ i, i < 482 → wr.cell? ⟨gx, j * 483 + i, none⟩ = some (.int .i64 (m.y i)) := fun i hi => by
            have h := Hl.out.cell (r1 i (.int .i64 (m.y i)) (by simp [fnA, show i < 483 by omega, hmo.cell i hi])) (by simp)
            exact h
          have at2 : ∀ i, i < 482 → wr.cell? ⟨g, j * 483 + i, none⟩ = some (.int .i64 (m.y i)) := fun i hi => by
            have h := Hl.out.cell (O8.out.cell (r2 i (.int .i64 (m.y i)) (by simp [fnA, show i < 483 by omega, mbV_at hi])) (by simp)) (by simp)
            exact h
          have R1 : Hid (wr.rangeAt gx (j * 483 + 2) MM) := Lib.hid (fun a u hu => by
            have ha : a < 16 := by
              apply Classical.byContradiction
              intro e
              rw [hMM, List.getElem?_eq_none (by rw [csV_len]; omega)] at hu
              cases hu
            rw [hMM, csV_at m.y 2 16 a ha] at hu
            rw [Nat.add_assoc, at1 (2 + a) (by omega), hu])
          have R2 : Hid (wr.rangeAt g (j * 483 + 2) MM) := Lib.hid (fun a u hu => by
            have ha : a < 16 := by
              apply Classical.byContradiction
              intro e
              rw [hMM, List.getElem?_eq_none (by rw [csV_len]; omega)] at hu
              cases hu
            rw [hMM, csV_at m.y 2 16 a ha] at hu
            rw [Nat.add_assoc, at2 (2 + a) (by omega), hu])
          have C1 := at1 19 (by decide)
          have C2 := at2 19 (by decide)
          rw [← hyc] at C1 C2
          have IM := Lib.hid (show (Tryz.prog.info? 39).map (·.size) = some MM.length by rw [hMM, csV_len]; kernel_rfl)
          have qe : ∀ wx, (Op.equalIn 10000 39 (.agg MM.toArray) (.agg MM.toArray)).run Tryz.prog wx = .ok true wx := fun wx => by rw [hMM]; exact eq_ints (D := 9998) Tryz.underlying39 m.y 2 wx
          clear hm hXf hmo r1 r2 at1 at2 hMM hyc
          go_wp2_with fail
          refine wp_region_L (by kernel_rfl) (fun w' => w'.rangeAt gx (j * 483 + 2) MM ∧ w'.rangeAt g (j * 483 + 2) MM ∧ w'.cell? ⟨gx, j * 483 + 19, none⟩ = some (.int .i64 yc) ∧ w'.cell? ⟨g, j * 483 + 19, none⟩ = some (.int .i64 yc)) 23 ?_
          have hS0 : (fun w' : World => w'.rangeAt gx (j * 483 + 2) MM ∧ w'.rangeAt g (j * 483 + 2) MM ∧ w'.cell? ⟨gx, j * 483 + 19, none⟩ = some (.int .i64 yc) ∧ w'.cell? ⟨g, j * 483 + 19, none⟩ = some (.int .i64 yc)) wr.drew := ⟨R1.out, R2.out, C1, C2⟩
          refine AnyL.take 0 (v := ?_) rfl (by kernel_rfl) (by kernel_rfl) (by kernel_rfl) (by kernel_rfl) (fun _ _ _ h => h) (by assumption) (Or.inl ⟨by rfl, ?_⟩) ?_
          rotate_left
          · (intro w' hSw; (try dsimp only at hSw); go_simp; try (with_reducible rfl))
          try simp only [Act.put, List.setIfInBounds_toArray, List.set_cons_zero, List.set_cons_succ]
          refine AnyL.take 1 (v := ?_) rfl (by kernel_rfl) (by kernel_rfl) (by kernel_rfl) (by kernel_rfl) (fun _ _ _ h => h) (by assumption) (Or.inl ⟨by rfl, ?_⟩) ?_
          rotate_left
          · (intro w' hSw; (try dsimp only at hSw); go_simp; try (with_reducible rfl))
          try simp only [Act.put, List.setIfInBounds_toArray, List.set_cons_zero, List.set_cons_succ]
          refine AnyL.take 2 (v := ?_) rfl (by kernel_rfl) (by kernel_rfl) (by kernel_rfl) (by kernel_rfl) (fun _ _ _ h => h) (by assumption) (Or.inl ⟨by rfl, ?_⟩) ?_
          rotate_left
          · (intro w' hSw; (try dsimp only at hSw); go_simp; try (with_reducible rfl))
          try simp only [Act.put, List.setIfInBounds_toArray, List.set_cons_zero, List.set_cons_succ]
          refine AnyL.take 3 (v := ?_) rfl (by kernel_rfl) (by kernel_rfl) (by kernel_rfl) (by kernel_rfl) (fun _ _ _ h => h) (by assumption) (Or.inl ⟨by rfl, ?_⟩) ?_
          rotate_left
          · (intro w' hSw; (try dsimp only at hSw); go_simp; try (with_reducible rfl))
          try simp only [Act.put, List.setIfInBounds_toArray, List.set_cons_zero, List.set_cons_succ]
          refine AnyL.take 4 rfl (by kernel_rfl) (by kernel_rfl) (by kernel_rfl) (by kernel_rfl) (fun _ _ _ h => h) (by assumption) (yieldsIf_load_mid (by rfl) _ _ rfl gx (j * 483 + 2) rfl MM _ (fun w' h => h.1) Tryz.underlying39 rfl IM.out) ?_
          try simp only [Act.put, List.setIfInBounds_toArray, List.set_cons_zero, List.set_cons_succ]
          refine AnyL.take 5 (v := ?_) rfl (by kernel_rfl) (by kernel_rfl) (by kernel_rfl) (by kernel_rfl) (fun _ _ _ h => h) (by assumption) (Or.inl ⟨by rfl, ?_⟩) ?_
          rotate_left
          · (intro w' hSw; (try dsimp only at hSw); go_simp; try (with_reducible rfl))
          try simp only [Act.put, List.setIfInBounds_toArray, List.set_cons_zero, List.set_cons_succ]
          refine AnyL.take 6 (v := ?_) rfl (by kernel_rfl) (by kernel_rfl) (by kernel_rfl) (by kernel_rfl) (fun _ _ _ h => h) (by assumption) (Or.inl ⟨by rfl, ?_⟩) ?_
          rotate_left
          · (intro w' hSw; (try dsimp only at hSw); go_simp; try (with_reducible rfl))
          try simp only [Act.put, List.setIfInBounds_toArray, List.set_cons_zero, List.set_cons_succ]
          refine AnyL.take 7 (v := ?_) rfl (by kernel_rfl) (by kernel_rfl) (by kernel_rfl) (by kernel_rfl) (fun _ _ _ h => h) (by assumption) (Or.inl ⟨by rfl, ?_⟩) ?_
          rotate_left
          · (intro w' hSw; (try dsimp only at hSw); go_simp; try (with_reducible rfl))
          try simp only [Act.put, List.setIfInBounds_toArray, List.set_cons_zero, List.set_cons_succ]
          refine AnyL.take 8 (v := ?_) rfl (by kernel_rfl) (by kernel_rfl) (by kernel_rfl) (by kernel_rfl) (fun _ _ _ h => h) (by assumption) (Or.inl ⟨by rfl, ?_⟩) ?_
          rotate_left
          · (intro w' hSw; (try dsimp only at hSw); go_simp; try (with_reducible rfl))
          try simp only [Act.put, List.setIfInBounds_toArray, List.set_cons_zero, List.set_cons_succ]
          refine AnyL.take 9 rfl (by kernel_rfl) (by kernel_rfl) (by kernel_rfl) (by kernel_rfl) (fun _ _ _ h => h) (by assumption) (yieldsIf_load_mid (by rfl) _ _ rfl g (j * 483 + 2) rfl MM _ (fun w' h => h.2.1) Tryz.underlying39 rfl IM.out) ?_
          try simp only [Act.put, List.setIfInBounds_toArray, List.set_cons_zero, List.set_cons_succ]
          refine AnyL.take 10 (v := ?_) rfl (by kernel_rfl) (by kernel_rfl) (by kernel_rfl) (by kernel_rfl) (fun _ _ _ h => h) (by assumption) (Or.inl ⟨by rfl, ?_⟩) ?_
          rotate_left
          · (intro w' hSw; (try dsimp only at hSw); go_simp; try (with_reducible rfl))
          try simp only [Act.put, List.setIfInBounds_toArray, List.set_cons_zero, List.set_cons_succ]
          refine AnyL.take 11 (v := ?_) rfl (by kernel_rfl) (by kernel_rfl) (by kernel_rfl) (by kernel_rfl) (fun _ _ _ h => h) (by assumption) (Or.inl ⟨by rfl, ?_⟩) ?_
          rotate_left
          · (intro w' hSw; (try dsimp only at hSw); go_simp; try (with_reducible rfl))
          try simp only [Act.put, List.setIfInBounds_toArray, List.set_cons_zero, List.set_cons_succ]
          refine AnyL.take 12 (v := ?_) rfl (by kernel_rfl) (by kernel_rfl) (by kernel_rfl) (by kernel_rfl) (fun _ _ _ h => h) (by assumption) (Or.inl ⟨by rfl, ?_⟩) ?_
          rotate_left
          · (intro w' hSw; (try dsimp only at hSw); go_simp; try (with_reducible rfl))
          try simp only [Act.put, List.setIfInBounds_toArray, List.set_cons_zero, List.set_cons_succ]
          refine AnyL.take 13 (v := ?_) rfl (by kernel_rfl) (by kernel_rfl) (by kernel_rfl) (by kernel_rfl) (fun _ _ _ h => h) (by assumption) (Or.inl ⟨by rfl, ?_⟩) ?_
          rotate_left
          · (intro w' hSw; (try dsimp only at hSw); go_simp; try (with_reducible rfl))
          try simp only [Act.put, List.setIfInBounds_toArray, List.set_cons_zero, List.set_cons_succ]
          refine AnyL.take 14 (v := ?_) rfl (by kernel_rfl) (by kernel_rfl) (by kernel_rfl) (by kernel_rfl) (fun _ _ _ h => h) (by assumption) (Or.inl ⟨by rfl, ?_⟩) ?_
          rotate_left
          · (intro w' hSw; (try dsimp only at hSw); go_simp; try (with_reducible rfl))
          try simp only [Act.put, List.setIfInBounds_toArray, List.set_cons_zero, List.set_cons_succ]
          refine AnyL.take 15 (v := ?_) rfl (by kernel_rfl) (by kernel_rfl) (by kernel_rfl) (by kernel_rfl) (fun _ _ _ h => h) (by assumption) (Or.inl ⟨by rfl, ?_⟩) ?_
          rotate_left
          · (intro w' hSw; (try dsimp only at hSw); go_simp; try (with_reducible rfl))
          try simp only [Act.put, List.setIfInBounds_toArray, List.set_cons_zero, List.set_cons_succ]
          refine AnyL.take 16 (v := ?_) rfl (by kernel_rfl) (by kernel_rfl) (by kernel_rfl) (by kernel_rfl) (fun _ _ _ h => h) (by assumption) (Or.inl ⟨by rfl, ?_⟩) ?_
          rotate_left
          · (intro w' hSw; (try dsimp only at hSw); go_simp; try (with_reducible rfl))
          try simp only [Act.put, List.setIfInBounds_toArray, List.set_cons_zero, List.set_cons_succ]
          refine AnyL.take 17 (v := ?_) rfl (by kernel_rfl) (by kernel_rfl) (by kernel_rfl) (by kernel_rfl) (fun _ _ _ h => h) (by assumption) (Or.inl ⟨by rfl, ?_⟩) ?_
          rotate_left
          · (intro w' hSw; (try dsimp only at hSw); go_simp; try (with_reducible rfl))
          try simp only [Act.put, List.setIfInBounds_toArray, List.set_cons_zero, List.set_cons_succ]
          refine AnyL.take 18 (v := ?_) rfl (by kernel_rfl) (by kernel_rfl) (by kernel_rfl) (by kernel_rfl) (fun _ _ _ h => h) (by assumption) (Or.inl ⟨by rfl, ?_⟩) ?_
          rotate_left
          · (intro w' hSw; (try dsimp only at hSw); go_simp; try (with_reducible rfl))
          try simp only [Act.put, List.setIfInBounds_toArray, List.set_cons_zero, List.set_cons_succ]
          refine AnyL.take 19 (v := ?_) rfl (by kernel_rfl) (by kernel_rfl) (by kernel_rfl) (by kernel_rfl) (fun _ _ _ h => h) (by assumption) (Or.inl ⟨by rfl, ?_⟩) ?_
          rotate_left
          · (intro w' hSw; (try dsimp only at hSw); go_simp; try (with_reducible rfl))
          try simp only [Act.put, List.setIfInBounds_toArray, List.set_cons_zero, List.set_cons_succ]
          refine AnyL.take 20 (v := ?_) rfl (by kernel_rfl) (by kernel_rfl) (by kernel_rfl) (by kernel_rfl) (fun _ _ _ h => h) (by assumption) (Or.inl ⟨by rfl, ?_⟩) ?_
          rotate_left
          · (intro w' hSw; (try dsimp only at hSw); go_simp; try (with_reducible rfl))
          try simp only [Act.put, List.setIfInBounds_toArray, List.set_cons_zero, List.set_cons_succ]
          refine AnyL.take 21 (v := ?_) rfl (by kernel_rfl) (by kernel_rfl) (by kernel_rfl) (by kernel_rfl) (fun _ _ _ h => h) (by assumption) (Or.inl ⟨by rfl, ?_⟩) ?_
          rotate_left
          · (intro w' hSw; (try dsimp only at hSw); go_simp; try (with_reducible rfl))
          try simp only [Act.put, List.setIfInBounds_toArray, List.set_cons_zero, List.set_cons_succ]
          refine AnyL.take 22 (v := ?_) rfl (by kernel_rfl) (by kernel_rfl) (by kernel_rfl) (by kernel_rfl) (fun _ _ _ h => h) (by assumption) (Or.inl ⟨by rfl, ?_⟩) ?_
          rotate_left
          · (intro w' hSw; (try dsimp only at hSw); go_simp; try (with_reducible rfl))
          try simp only [Act.put, List.setIfInBounds_toArray, List.set_cons_zero, List.set_cons_succ]
          refine AnyL.one 23 (by kernel_rfl) rfl (fun K hK => ?_)
          go_simp
          refine hK _ _ (fun _ => hS0) (fun hKq => ?_)
          clear hK K hKq
          try simp only [Act.put, List.setIfInBounds_toArray, List.set_cons_zero, List.set_cons_succ]
          refine AnyL.done (by kernel_rfl) ?_ _
          have O9 : Hid (Only [] w8 wr.drew) := Lib.hid Hl.out.drew
          clear R1 R2 C1 C2 IM qe hS0
          generalize wr.drew = wd at *
          go_wp2
          exact ⟨⟨j + 1, by omega, rfl, O9⟩, by simp [intOf]; omega⟩
        · have hO := Lib.hid (((O1.out.trans Hr0.out.2.2.2).trans O8.out).trans Hl.out)
          go_wp2
          go_ret
          exact ⟨rfl, hO.out⟩
theorem law_modes {xs : List Int} {v : Value} {cb : Bool} {a2 : Int} {W : World} (hA : Asc W) (haw : Calls Tryz.prog 11 #[] W fun e w' => e = .returned (.bool true) ∧ Only [] W w') (hS : IntSlice W v xs) (hl : xs.length ≤ maxLen) : Calls Tryz.prog 7 #[v, .bool cb, .int .i64 a2] W fun e w' => e = .returned (.bool true) ∧ Only [] W w' :=
  walk_modes hA haw hS (by unfold maxLen at hl; omega)
end Go.Proofs.YtcppbdlmcbjmeaaGreatDoor

namespace Go.Proofs.YtcppbdlmcbjmeaaGreatDoor
open Go.RowKit

theorem law_modes2 {xs : List Int} {v : Value} {cb : Bool} {a2 : Int} {W : World} (hA : Asc W) (hS : IntSlice W v xs) (hl : xs.length ≤ maxLen) : Calls Tryz.prog 7 #[v, .bool cb, .int .i64 a2] W fun e w' => e = .returned (.bool true) ∧ Only [] W w' :=
  law_modes hA (walk_awake hA) hS hl
end Go.Proofs.YtcppbdlmcbjmeaaGreatDoor
