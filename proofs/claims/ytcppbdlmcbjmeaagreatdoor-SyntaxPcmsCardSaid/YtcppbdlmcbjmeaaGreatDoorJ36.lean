/-
  The walks over package levels: Size, places, te. The walk over levels.Put. The walks over levels' reader: got, te, level.
-/
import Derived.Test.YtcppbdlmcbjmeaaGreatDoorJ26
import Derived.Test.YtcppbdlmcbjmeaaGreatDoorJ32
import Derived.Test.YtcppbdlmcbjmeaaGreatDoorJ05
namespace Go.Proofs.YtcppbdlmcbjmeaaGreatDoor
open Go.RowKit

set_option maxRecDepth 100000 in
theorem lv_size (n : Int) (w : World) : Calls Tryz.prog 225 #[.int .i64 n] w fun r w' => r = .returned (.bool (sizeB n)) ∧ w = w' := by
  go_enter Tryz.func225, Tryz.ntmps225
  by_cases h1 : n = 4
  · subst h1; go_wp2; go_ret; exact ⟨rfl, rfl⟩
  · by_cases h2 : n = 15
    · subst h2; go_wp2; go_ret; exact ⟨rfl, rfl⟩
    · have e1 : (n == 4) = false := by simpa using h1
      have e2 : (n == 15) = false := by simpa using h2
      go_wp2
      go_ret
      refine ⟨ret_bool ?_, rfl⟩
      unfold sizeB
      simp [h1, h2]
      try exact Bool.eq_iff_iff.2 (by simp)
/-- Whole slices that the call owns, of places. -/
def natsV (ps : List Nat) : List Value := ps.map fun (p : Nat) => Value.int .i64 (p : Int)
set_option maxRecDepth 100000 in
set_option maxHeartbeats 1600000 in
theorem lv_places (v : Value) (cs : List Int) (w : World) (hv : IntSlice w v cs) (hn : cs.length ≤ 16) :
    Calls Tryz.prog 226 #[v] w fun r w' => ∃ u, r = .returned u ∧ w'.ownsRow w.heap.size 3 1 u (placesN cs).length (natsV (placesN cs)) ∧ Only [] w w' := by
  obtain ⟨ao, cap, rfl, hx⟩ := hv
  obtain ⟨n, hnn⟩ : ∃ n, n = cs.length := ⟨_, rfl⟩
  rw [← hnn] at hn ⊢
  have Hx := Lib.hid hx
  have Hn := Lib.hid hnn
  have hlen : (placesN cs).length ≤ n := by rw [hnn]; exact nzTo_length cs _
  have Hlen := Lib.hid hlen
  clear hx hnn hlen
  go_enter Tryz.func226, Tryz.ntmps226
  go_wp2
  go_loopw [3, 4] (fun o q wr => ∃ (k z : Nat) (dn : List Nat), k ≤ n ∧ q = .int .i64 ((k : Int) - 1) ∧ Hid (z = dn.length) ∧ z ≤ 16 ∧ wr.ownsRow w.heap.size 3 1 o z (natsV dn) ∧ Hid (dn ++ nzTo cs k = placesN cs) ∧ Only [] w wr) (fun _ q _ => (intOf q + 1).toNat)
  case atStart => exact ⟨n, 0, [], Nat.le_refl _, rfl, Lib.hid rfl, by decide, World.ownsRow_nil _ _ _ _, Lib.hid (by rw [Hn.out]; rfl), Only.refl _ _⟩
  case round =>
    obtain ⟨k, z, dn, hk, rfl, hz, hz16, hown, hdn, ho⟩ := hrel
    have Hown := Lib.hid hown
    have Ho := Lib.hid ho
    have hzl : Hid (z + (nzTo cs k).length ≤ 16) := Lib.hid (by
      have h2 := congrArg List.length hdn.out
      rw [List.length_append, ← hz.out] at h2
      have := Hlen.out
      omega)
    by_cases h0 : k = 0
    · subst h0
      clear hown ho
      go_wp2
      go_ret
      have e : dn = placesN cs := by rw [← hdn.out]; simp [nzTo]
      refine ⟨_, rfl, ?_, Ho.out⟩
      rw [← e]
      exact ownsRow_cast Hown.out hz.out rfl
    · obtain ⟨j, rfl⟩ : ∃ j, k = j + 1 := ⟨k - 1, by omega⟩
      rw [show (((j + 1 : Nat) : Int) - 1) = (j : Int) by omega]
      obtain ⟨g, off, rfl, hc⟩ : ∃ g off, ao = some ⟨g, off, none⟩ ∧ ∀ i, i < cs.length → w.cell? ⟨g, off + i, none⟩ = some (.int .i64 (cs.getD i 0)) := by
        rcases Hx.out with h | ⟨g, off, h1, h2⟩
        · have := Hn.out; rw [h] at this; simp at this; omega
        · exact ⟨g, off, h1, h2⟩
      have c1 : wr.cell? ⟨g, off + j, none⟩ = some (.int .i64 (cs.getD j 0)) := ho.cell (hc j (by have := Hn.out; omega)) (by simp)
      obtain ⟨x, hx⟩ : ∃ x, x = cs.getD j 0 := ⟨_, rfl⟩
      rw [← hx] at c1
      have Hc := Lib.hid hc
      have hd2 := hdn.out
      rw [nzTo, ← hx] at hd2
      have Hx2 := Lib.hid hx
      have hs := ho.size
      clear hown ho hc hx
      by_cases hx0 : x = 0
      · subst hx0
        rw [if_pos rfl] at hd2
        have Hd2 := Lib.hid hd2
        clear hd2 hdn
        go_wp2
        go_roundw
        case rel => exact ⟨j, z, dn, by omega, by go_num, hz, hz16, Hown.out, Hd2, Ho.out⟩
        case measure => simp [intOf] <;> omega
      · rw [if_neg hx0] at hd2
        have Hd2 := Lib.hid hd2
        have hb0 : (x != 0) = true := by simp [hx0]
        clear hd2 hdn
        go_wp2_with (at_builtin; refine wpList_push rfl _ _ rfl elt64 w.heap.size _ _ _ _ Hown.out rfl rfl (by simp) rfl (by omega) (by decide) (by omega) ?_)
        intro g5 cap5 w5 hp
        obtain ⟨o5, b5⟩ := pushed_only hp Hown.out
        have Own5 := Lib.hid (show w5.ownsRow w.heap.size 3 1 (.slice (some ⟨g5, 0, none⟩) (z + 1) cap5) (z + 1) (natsV (dn ++ [j])) from ownsRow_cast hp.1 rfl (by simp [natsV]))
        have O5 : Hid (Only [] w w5) := Lib.hid (Ho.out.trans' o5 (fun i hi => .inr (b5 i (by simpa using hi)).1))
        clear hp o5 b5
        go_wp2
        go_roundw
        case rel => exact ⟨j, z + 1, dn ++ [j], by omega, by go_num, Lib.hid (by rw [hz.out]; simp), (by have h9 := hzl.out; rw [nzTo, ← Hx2.out, if_neg hx0] at h9; simp at h9; omega), Own5.out, Lib.hid (by rw [← Hd2.out]; simp), O5.out⟩
        case measure => simp [intOf] <;> omega
set_option maxRecDepth 100000 in
set_option maxHeartbeats 800000 in
theorem lv_te (b : Nat) (ov : Value) (bs : List Int) (x most : Nat) (w : World) (h : WrIs w b ov bs) (hx : x ≤ most) (hm : most ≤ 16) (hlen : bs.length < 1000000000) :
    Calls Tryz.prog 227 #[.pointer (some ⟨b, 0, none⟩), .int .i64 x, .int .i64 most] w fun r w' => r = .returned (.tuple #[]) ∧ ∃ ov', WrIs w' b ov' (bs ++ tezN x most) ∧ EncTo w w' b ov ov' := by
  have H := Lib.hid h
  clear h
  go_enter Tryz.func227, Tryz.ntmps227
  unfold tezN
  by_cases h0 : most = 0
  · subst h0
    rw [if_pos rfl, List.append_nil]
    go_wp2
    go_end0
    exact ⟨rfl, _, H.out, EncTo.refl _ _ _⟩
  · rw [if_neg h0]
    go_wp2_with fail
    refine (bits_te b ov bs x most w H.out (by omega) hx (by omega) hlen).mono ?_
    rintro r w1 ⟨rfl, ov1, h1, h2⟩
    have H1 := Lib.hid h1
    have H2 := Lib.hid h2
    clear h1 h2
    go_wp2
    go_end0
    exact ⟨rfl, _, H1.out, H2.out⟩
end Go.Proofs.YtcppbdlmcbjmeaaGreatDoor

namespace Go.Proofs.YtcppbdlmcbjmeaaGreatDoor
open Go.RowKit

theorem seN_length (x : Int) (h0 : -1000000 ≤ x) (h1 : x ≤ 1000000) : (seN x).length ≤ 63 := by
  unfold seN
  apply ueN_length
  split <;> omega
theorem teN_length (x most : Nat) (h : x ≤ most) (hm : most ≤ 1000000) : (teN x most).length ≤ 63 := by
  unfold teN
  split
  · rw [bitsN_length]; decide
  · exact ueN_length x (by omega)
theorem tezN_length (x most : Nat) (h : x ≤ most) (hm : most ≤ 1000000) : (tezN x most).length ≤ 63 := by
  unfold tezN
  split
  · simp
  · exact teN_length x most h hm
theorem lvlN_length (ones i : Nat) (v : Int) (h0 : -32767 ≤ v) (h1 : v ≤ 32767) : (lvlN ones i v).length ≤ 63 := by
  unfold lvlN
  split
  · rw [bitsN_length]; decide
  · split
    · apply seN_length <;> split <;> omega
    · exact seN_length v (by omega) (by omega)
theorem lvlsN_drop (ones : Nat) : ∀ (vs : List Int) (i k : Nat), k < vs.length → lvlsN ones (i + k) (vs.drop k) = lvlN ones (i + k) (vs.getD k 0) ++ lvlsN ones (i + (k + 1)) (vs.drop (k + 1))
  | [], i, k, h => by simp at h
  | v :: vs, i, 0, _ => by simp [lvlsN]
  | v :: vs, i, k + 1, h => by
    have := lvlsN_drop ones vs (i + 1) k (by simpa using h)
    simp only [List.drop_succ_cons, List.getD_cons_succ]
    rw [show i + (k + 1) = i + 1 + k by omega, this, show i + (k + 1 + 1) = i + 1 + (k + 1) by omega]
theorem runsN_drop : ∀ (ps : List Nat) (left k : Nat), k + 1 < ps.length → left ≠ 0 → runsN left (ps.drop k) = teN (ps.getD k 0 - ps.getD (k + 1) 0 - 1) left ++ runsN (left - (ps.getD k 0 - ps.getD (k + 1) 0 - 1)) (ps.drop (k + 1))
  | [], left, k, h, _ => by simp at h
  | [a], left, k, h, _ => by simp at h
  | a :: b :: r, left, 0, _, h0 => by simp [runsN, h0]
  | a :: b :: r, left, k + 1, h, h0 => by
    have := runsN_drop (b :: r) left k (by simpa using h) h0
    simpa using this
theorem runsN_end (ps : List Nat) (left k : Nat) (h : left = 0 ∨ ps.length ≤ k + 1) : runsN left (ps.drop k) = [] := by
  rcases h with rfl | h
  · match ps.drop k with
    | [] => rfl
    | [a] => rfl
    | a :: b :: r => simp [runsN]
  · have hl : (ps.drop k).length ≤ 1 := by simp; omega
    match hd : ps.drop k with
    | [] => rfl
    | [a] => rfl
    | a :: b :: r => rw [hd] at hl; simp at hl
theorem owned_any {w : World} {B : Nat} {e : TypeId} {v : Value} {n : Nat} {xs : List Value} (h : w.ownsRow B e 1 v n xs) :
    ∃ ao cap, v = .slice ao n cap ∧ (0 < n → ∃ g, ao = some ⟨g, 0, none⟩ ∧ B ≤ g ∧ g < w.heap.size ∧ ∀ i, i < n → w.cell? ⟨g, i, none⟩ = xs[i]?) := by
  rcases h.2 with ⟨hv, h0⟩ | ⟨g, cap, cur, hv, hb, hg, _⟩
  · exact ⟨none, 0, by rw [hv, h0], fun h => by omega⟩
  · exact ⟨_, cap, hv, fun _ => ⟨g, rfl, hb, lt_of_block hg, fun i hi => by rw [hv] at h; exact h.cellAt i (by omega)⟩⟩
/-- A writer goes on; other blocks stay. -/
theorem EncTo.cell {w w' : World} {b : Nat} {ov ov' : Value} (h : EncTo w w' b ov ov') {a : Addr} {v : Value} (hc : w.cell? a = some v) (h1 : a.block ≠ b) (h2 : ov.ownBlock ≠ some a.block) : w'.cell? a = some v :=
  h.only.cell hc (by
    intro hm
    rcases List.mem_cons.1 hm with hm | hm
    · exact h1 hm
    · exact h2 (by simpa using hm))
set_option maxRecDepth 100000 in
set_option maxHeartbeats 1600000 in
theorem lv_put (b : Nat) (ov v : Value) (bs cs : List Int) (w : World) (h : WrIs w b ov bs) (hv : IntSlice w v cs) (hsz : cs.length = 4 ∨ cs.length = 15 ∨ cs.length = 16) (hr : rangeB cs = true) (hlen : bs.length < 900000000)
    (hsep : ∀ g off c, v = .slice (some ⟨g, off, none⟩) cs.length c → g ≠ b ∧ ov.ownBlock ≠ some g) :
    Calls Tryz.prog 218 #[.pointer (some ⟨b, 0, none⟩), v] w fun r w' => r = .returned (.int .i64 0) ∧ ∃ ov', WrIs w' b ov' (bs ++ levN cs) ∧ EncTo w w' b ov ov' := by
  have hvv := hv
  obtain ⟨ao, cap, rfl, hx⟩ := hv
  obtain ⟨g, off, rfl, hc⟩ : ∃ g off, ao = some ⟨g, off, none⟩ ∧ ∀ i, i < cs.length → w.cell? ⟨g, off + i, none⟩ = some (.int .i64 (cs.getD i 0)) := by
    rcases hx with h | ⟨g, off, h1, h2⟩
    · rw [h] at hsz; simp at hsz
    · exact ⟨g, off, h1, h2⟩
  obtain ⟨hgb, hgo⟩ := hsep g off cap rfl
  have hrange := fun i => rangeB_at hr i
  have hplN : (placesN cs).length ≤ cs.length := nzTo_length cs _
  obtain ⟨N, hN⟩ : ∃ N, N = cs.length := ⟨_, rfl⟩
  obtain ⟨n, hn⟩ : ∃ n, n = (placesN cs).length := ⟨_, rfl⟩
  rw [← hN] at hsz hplN hvv
  rw [← hn] at hplN
  have H := Lib.hid h
  have HV := Lib.hid hvv
  have Hc := Lib.hid hc
  have HN := Lib.hid hN
  have Hn := Lib.hid hn
  have Hr := Lib.hid hrange
  have Hgo := Lib.hid hgo
  have hN16 : N ≤ 16 := by omega
  have hN4 : 4 ≤ N := by omega
  have hszB : sizeB (N : Int) = true := by rcases hsz with rfl | rfl | rfl <;> rfl
  rw [← hN]
  clear h hvv hx hc hrange hn hgo hr hsep hsz hN
  go_enter Tryz.func218, Tryz.ntmps218
  go_wp2_with fail
  refine (lv_size _ _).mono ?_
  rintro r w1 ⟨rfl, rfl⟩
  rw [hszB]
  go_wp2
  go_loop [25] (fun q => ∃ k : Nat, k ≤ N ∧ q = .int .i64 k) (fun q => N - (intOf q).toNat)
  case atStart => exact ⟨0, Nat.zero_le _, rfl⟩
  case round =>
    obtain ⟨k, hk, rfl⟩ := hrel
    by_cases hlt : k < N
    · have c1 := Hc.out k (by rw [← HN.out]; exact hlt)
      have hxr := Hr.out k
      obtain ⟨x, hx⟩ : ∃ x, x = cs.getD k 0 := ⟨_, rfl⟩
      rw [← hx] at c1 hxr
      clear hx
      go_wp2
      go_round
      case rel => exact ⟨k + 1, by omega, by go_num⟩
      case measure => simp [intOf] <;> omega
    · obtain rfl : k = N := by omega
      go_wp2_with fail
      refine (lv_places _ cs w HV.out (by rw [← HN.out]; exact hN16)).mono ?_
      rintro r w1 ⟨u, rfl, hown, ho1⟩
      have hb0 := lt_of_block H.out.cells.choose_spec
      have hob : ∀ z, ov.ownBlock = some z → z < w.heap.size := fun z hz => by obtain ⟨c, hc⟩ := ownsRow_block H.out.out hz; exact lt_of_block hc
      obtain ⟨ao, capu, rfl, hu⟩ := owned_any hown
      rw [← Hn.out] at hu ⊢
      -- places and numbers, wherever the writer has gone on
      have hP : Hid (∀ wr ov2, EncTo w1 wr b ov ov2 → 0 < n → ∃ gu, ao = some ⟨gu, 0, none⟩ ∧ ∀ i, i < n → wr.cell? ⟨gu, i, none⟩ = some (.int .i64 ((placesN cs).getD i 0))) := Lib.hid (by
        intro wr ov2 he hn0
        obtain ⟨gu, e1, e2, e3, e4⟩ := hu hn0
        refine ⟨gu, e1, fun i hi => he.cell ?_ ?_ ?_⟩
        · rw [e4 i hi]
          unfold natsV
          rw [List.getElem?_map, List.getElem?_eq_getElem (by have := Hn.out; omega)]
          simp [List.getD, List.getElem?_eq_getElem (show i < (placesN cs).length by have := Hn.out; omega)]
        · show gu ≠ b
          omega
        · show ov.ownBlock ≠ some gu
          intro e
          have := hob gu e
          omega)
      have hC : Hid (∀ wr ov2, EncTo w1 wr b ov ov2 → ∀ j, j < k → wr.cell? ⟨g, off + j, none⟩ = some (.int .i64 (cs.getD j 0))) := Lib.hid (by
        intro wr ov2 he j hj
        exact he.cell (ho1.cell (Hc.out j (by rw [← HN.out]; exact hj)) (by simp)) hgb Hgo.out)
      have hW : WrIs w1 b ov bs := H.out.only ho1 (by simp) (by simp)
      have HW := Lib.hid hW
      have HO := Lib.hid ho1
      clear hown hu ho1 hW hob
      go_wp2_with fail
      refine (lv_te b ov bs n k w1 HW.out hplN hN16 (by omega)).mono ?_
      rintro r w2 ⟨rfl, ov2, h2, e2⟩
      have H2 := Lib.hid h2
      have E2 := Lib.hid e2
      clear h2 e2
      by_cases hn0 : n = 0
      · subst hn0
        go_wp2
        go_ret
        refine ⟨rfl, ov2, ?_, ?_⟩
        · have e : levN cs = tezN 0 k := by
            unfold levN
            rw [← Hn.out, if_pos rfl, List.append_nil, HN.out]
          rw [e]
          exact H2.out
        · exact EncTo.trans ⟨HO.out.mono (by simp), fun _ h => .inl h⟩ E2.out
      · obtain ⟨gu, rfl, hp2⟩ := hP.out w2 ov2 E2.out (by omega)
        have hP2 : Hid (∀ wr ov2, EncTo w1 wr b ov ov2 → ∀ i, i < n → wr.cell? ⟨gu, i, none⟩ = some (.int .i64 ((placesN cs).getD i 0))) := Lib.hid (by
          intro wr ov3 he
          obtain ⟨gu', e1, e2⟩ := hP.out wr ov3 he (by omega)
          injection e1 with e1
          injection e1 with e1
          subst e1
          exact e2)
        have hPk : Hid (∀ i, i < n → (placesN cs).getD i 0 < k) := Lib.hid (fun i hi => by rw [HN.out]; exact (nzTo_fall cs cs.length i (by have := Hn.out; unfold placesN at this; omega)).2.1)
        obtain ⟨O, hO⟩ : ∃ O, O = onesN 3 (valsN cs) := ⟨_, rfl⟩
        have hlv : (valsN cs).length = n := by rw [Hn.out]; simp [valsN]
        have hO3 : O ≤ 3 := by rw [hO]; exact (onesN_le 3 _).1
        have hOn : O ≤ n := by rw [hO, ← hlv]; exact (onesN_le 3 _).2
        have hOa : Hid (∀ i, i < O → (valsN cs).getD i 0 = 1 ∨ (valsN cs).getD i 0 = -1) := Lib.hid (by rw [hO]; exact onesN_at 3 _)
        have hOs : Hid (O < 3 → O < n → ¬ ((valsN cs).getD O 0 = 1 ∨ (valsN cs).getD O 0 = -1)) := Lib.hid (by rw [hO, ← hlv]; exact onesN_stop 3 _)
        have HO1 := Lib.hid hO
        clear hp2 hP hO hlv
        go_wp2
        go_loop [8] (fun q => ∃ j : Nat, j ≤ O ∧ q = .int .i64 j) (fun q => 4 - (intOf q).toNat)
        case atStart => exact ⟨0, Nat.zero_le _, rfl⟩
        case round =>
          obtain ⟨j, hj, rfl⟩ := hrel
          by_cases hjO : j < O
          · have hjn : j < n := by omega
            have cp := hP2.out w2 ov2 E2.out j hjn
            have hpk := hPk.out j hjn
            have cv := hC.out w2 ov2 E2.out _ hpk
            have hvj := valsN_at cs j (by rw [← Hn.out]; exact hjn)
            rw [← hvj] at cv
            obtain ⟨q, hq⟩ : ∃ q, q = (placesN cs).getD j 0 := ⟨_, rfl⟩
            obtain ⟨x, hx⟩ : ∃ x, x = (valsN cs).getD j 0 := ⟨_, rfl⟩
            rw [← hq] at cp cv hpk
            rw [← hx] at cv
            have hx1 : x = 1 ∨ x = -1 := by rw [hx]; exact hOa.out j hjO
            clear hq hx hvj
            rcases hx1 with rfl | rfl
            · go_wp2
              go_round
              case rel => exact ⟨j + 1, by omega, by go_num⟩
              case measure => simp [intOf] <;> omega
            · go_wp2
              go_round
              case rel => exact ⟨j + 1, by omega, by go_num⟩
              case measure => simp [intOf] <;> omega
          · obtain rfl : j = O := by omega
            obtain ⟨M, hM, hMe⟩ : ∃ M : Nat, M = min 3 n ∧ j ≤ M := ⟨_, rfl, by omega⟩
            have HM := Lib.hid hM
            have hwx : ∃ (q : Nat) (x : Int), (j < M → w2.cell? ⟨gu, j, none⟩ = some (.int .i64 q) ∧ w2.cell? ⟨g, off + q, none⟩ = some (.int .i64 x) ∧ q < k ∧ (x == 1) = false ∧ (x == -1) = false) := by
              by_cases hjn : j < n
              · have cp := hP2.out w2 ov2 E2.out j hjn
                have hpk := hPk.out j hjn
                have cv := hC.out w2 ov2 E2.out _ hpk
                rw [← valsN_at cs j (by rw [← Hn.out]; exact hjn)] at cv
                refine ⟨_, _, fun hjM => ⟨cp, cv, hpk, ?_, ?_⟩⟩
                · have := hOs.out (by omega) hjn
                  simp only [not_or] at this
                  simpa using this.1
                · have := hOs.out (by omega) hjn
                  simp only [not_or] at this
                  simpa using this.2
              · exact ⟨0, 0, fun h => by omega⟩
            obtain ⟨q, x, hqx⟩ := hwx
            have hsplit : ((w2.cell? ⟨gu, j, none⟩ = some (.int .i64 q) ∧ w2.cell? ⟨g, off + q, none⟩ = some (.int .i64 x) ∧ q < k ∧ (x == 1) = false ∧ (x == -1) = false) ∧ j < 3 ∧ j < n) ∨ ((3 : Int) ≤ j ∧ 3 ≤ n) ∨ ((n : Int) ≤ j ∧ n ≤ 3) := by
              by_cases hjM : j < M
              · exact .inl ⟨hqx hjM, by omega, by omega⟩
              · exact .inr (by omega)
            have hn3 : Hid (min (3 : Int) (n : Int) = (M : Int)) := Lib.hid (by omega)
            have hM16 : M ≤ 3 := by omega
            have hfall := fun i (hi : i < n) => nzTo_fall cs cs.length i (by have := Hn.out; unfold placesN at this; omega)
            have Hfall := Lib.hid hfall
            clear hM hfall hOa hOs
            rcases hsplit with ⟨⟨cp, cv, hpk, e1, e2⟩, h1, h3⟩ | ⟨h1, h3⟩ | ⟨h1, h3⟩
            all_goals
              clear hqx
              go_wp2_with fail
              try clear cp cv hpk e1 e2
              clear h1 h3
              rw [hn3.out]
              refine (lv_te b ov2 (bs ++ tezN n k) j M w2 H2.out (by omega) (by omega) (by have := tezN_length n k hplN (by omega); rw [List.length_append]; omega)).mono ?_
              rintro r w3 ⟨rfl, ov3, h3, e3⟩
              have HB0 : Hid ((bs ++ tezN n k ++ tezN j M).length ≤ bs.length + 126) := Lib.hid (by have h1 := tezN_length n k hplN (by omega); have h2 := tezN_length j M (by omega) (by omega); simp only [List.length_append]; omega)
              have H3 := Lib.hid h3
              have E3 := Lib.hid (E2.out.trans e3)
              clear h3 e3
              go_wp2
              go_loopw [82] (fun q wr => ∃ (i : Nat) (ov4 : Value) (bs4 : List Int), i ≤ n ∧ q = .int .i64 i ∧ WrIs wr b ov4 bs4 ∧ EncTo w1 wr b ov ov4 ∧ Hid (bs4 ++ lvlsN j i ((valsN cs).drop i) = bs ++ tezN n k ++ tezN j M ++ lvlsN j 0 (valsN cs)) ∧ Hid (bs4.length ≤ bs.length + 126 + 63 * i)) (fun q _ => n - (intOf q).toNat)
              case atStart => exact ⟨0, ov3, _, Nat.zero_le _, rfl, H3.out, E3.out, Lib.hid (by simp), Lib.hid (by have := HB0.out; omega)⟩
              case round =>
                obtain ⟨i, ov4, bs4, hi, rfl, hw4, he4, hb4, hl4⟩ := hrel
                have H4 := Lib.hid hw4
                have E4 := Lib.hid he4
                have hll := hl4.out
                by_cases hin : i < n
                · have cp := hP2.out wr ov4 he4 i hin
                  have hpk := hPk.out i hin
                  have cv := hC.out wr ov4 he4 _ hpk
                  have hxr := Hr.out ((placesN cs).getD i 0)
                  rw [← valsN_at cs i (by rw [← Hn.out]; exact hin)] at cv hxr
                  have hb5 := hb4.out
                  have hdr := lvlsN_drop j (valsN cs) 0 i (by rw [show (valsN cs).length = (placesN cs).length by simp [valsN], ← Hn.out]; exact hin)
                  simp only [Nat.zero_add] at hdr
                  rw [hdr] at hb5
                  obtain ⟨p, hp⟩ : ∃ p, p = (placesN cs).getD i 0 := ⟨_, rfl⟩
                  obtain ⟨x, hx⟩ : ∃ x, x = (valsN cs).getD i 0 := ⟨_, rfl⟩
                  rw [← hp] at cp cv hpk
                  rw [← hx] at cv hxr hb5
                  have hlx := lvlN_length j i x hxr.1 hxr.2
                  have Hb5 := Lib.hid hb5
                  have Hlx := Lib.hid hlx
                  clear hp hx hw4 he4 hb4 hb5 hdr hlx
                  by_cases hij : i < j
                  · by_cases hx0 : x < 0
                    · go_wp2_with fail
                      refine (bits_bits b ov4 bs4 1 1 wr H4.out (by decide) (by decide) (by omega)).mono ?_
                      rintro r w5 ⟨rfl, ov5, h5, e5⟩
                      have hbit : lvlN j i x = bitsN 1 1 := by unfold lvlN; rw [if_pos hij, if_pos hx0]
                      rw [← hbit] at h5
                      have H5 := Lib.hid h5
                      have E5 := Lib.hid (E4.out.trans e5)
                      clear h5 e5 hbit
                      go_wp2
                      go_roundw
                      case rel => exact ⟨i + 1, ov5, _, by omega, by go_num, H5.out, E5.out, Lib.hid (by rw [List.append_assoc]; exact Hb5.out), Lib.hid (by have := Hlx.out; rw [List.length_append]; omega)⟩
                      case measure => simp [intOf] <;> omega
                    · go_wp2_with fail
                      refine (bits_bits b ov4 bs4 0 1 wr H4.out (by decide) (by decide) (by omega)).mono ?_
                      rintro r w5 ⟨rfl, ov5, h5, e5⟩
                      have hbit : lvlN j i x = bitsN 0 1 := by unfold lvlN; rw [if_pos hij, if_neg (by omega)]
                      rw [← hbit] at h5
                      have H5 := Lib.hid h5
                      have E5 := Lib.hid (E4.out.trans e5)
                      clear h5 e5 hbit
                      go_wp2
                      go_roundw
                      case rel => exact ⟨i + 1, ov5, _, by omega, by go_num, H5.out, E5.out, Lib.hid (by rw [List.append_assoc]; exact Hb5.out), Lib.hid (by have := Hlx.out; rw [List.length_append]; omega)⟩
                      case measure => simp [intOf] <;> omega
                  · by_cases hnear : i = j ∧ j < 3
                    · obtain ⟨hij2, hj3⟩ := hnear
                      by_cases hx0 : 0 < x
                      · have hbit : lvlN j i x = seN (x - 1) := by unfold lvlN; rw [if_neg hij, if_pos ⟨hij2, hj3⟩, if_pos hx0]
                        have Hbit := Lib.hid hbit
                        have hij3 : (i : Int) = (j : Int) := by omega
                        have hb1 : ((i : Int) == (j : Int)) = true := by simp [hij3]
                        clear hbit hij2 hij3
                        go_wp2_with fail
                        all_goals
                          refine (bits_se b ov4 bs4 (x - 1) wr H4.out (by omega) (by omega) (by omega)).mono ?_
                          rintro r w5 ⟨rfl, ov5, h5, e5⟩
                          rw [← Hbit.out] at h5
                          have H5 := Lib.hid h5
                          have E5 := Lib.hid (E4.out.trans e5)
                          clear h5 e5
                          go_wp2
                          go_roundw
                          case rel => exact ⟨i + 1, ov5, _, by omega, by go_num, H5.out, E5.out, Lib.hid (by rw [List.append_assoc]; exact Hb5.out), Lib.hid (by have := Hlx.out; rw [List.length_append]; omega)⟩
                          case measure => simp [intOf] <;> omega
                      · have hbit : lvlN j i x = seN (x + 1) := by unfold lvlN; rw [if_neg hij, if_pos ⟨hij2, hj3⟩, if_neg hx0]
                        have Hbit := Lib.hid hbit
                        have hij3 : (i : Int) = (j : Int) := by omega
                        have hb1 : ((i : Int) == (j : Int)) = true := by simp [hij3]
                        clear hbit hij2 hij3
                        go_wp2_with fail
                        all_goals
                          refine (bits_se b ov4 bs4 (x + 1) wr H4.out (by omega) (by omega) (by omega)).mono ?_
                          rintro r w5 ⟨rfl, ov5, h5, e5⟩
                          rw [← Hbit.out] at h5
                          have H5 := Lib.hid h5
                          have E5 := Lib.hid (E4.out.trans e5)
                          clear h5 e5
                          go_wp2
                          go_roundw
                          case rel => exact ⟨i + 1, ov5, _, by omega, by go_num, H5.out, E5.out, Lib.hid (by rw [List.append_assoc]; exact Hb5.out), Lib.hid (by have := Hlx.out; rw [List.length_append]; omega)⟩
                          case measure => simp [intOf] <;> omega
                    · have hbit : lvlN j i x = seN x := by unfold lvlN; rw [if_neg hij, if_neg hnear]
                      have Hbit := Lib.hid hbit
                      have hor : ((i : Int) == (j : Int)) = false ∨ (((i : Int) == (j : Int)) = true ∧ (3 : Int) ≤ j) := by
                        by_cases hij3 : (i : Int) = (j : Int)
                        · exact .inr ⟨by simp [hij3], by omega⟩
                        · exact .inl (by simpa using hij3)
                      clear hbit hnear
                      rcases hor with hb1 | ⟨hb1, hj3⟩
                      all_goals go_wp2_with fail
                      all_goals
                        refine (bits_se b ov4 bs4 x wr H4.out (by omega) (by omega) (by omega)).mono ?_
                        rintro r w5 ⟨rfl, ov5, h5, e5⟩
                        rw [← Hbit.out] at h5
                        have H5 := Lib.hid h5
                        have E5 := Lib.hid (E4.out.trans e5)
                        clear h5 e5
                        go_wp2
                        go_roundw
                        case rel => exact ⟨i + 1, ov5, _, by omega, by go_num, H5.out, E5.out, Lib.hid (by rw [List.append_assoc]; exact Hb5.out), Lib.hid (by have := Hlx.out; rw [List.length_append]; omega)⟩
                        case measure => simp [intOf] <;> omega
                · obtain rfl : i = n := by omega
                  have hb5 : bs4 = bs ++ tezN i k ++ tezN j M ++ lvlsN j 0 (valsN cs) := by
                    have := hb4.out
                    rw [List.drop_eq_nil_of_le (by rw [show (valsN cs).length = (placesN cs).length by simp [valsN], ← Hn.out]; exact Nat.le_refl _)] at this
                    simpa [lvlsN] using this
                  have Hb5 := Lib.hid hb5
                  have c0 := hP2.out wr ov4 he4 0 (by omega)
                  have hf0 := Hfall.out 0 (by omega)
                  have hp0 := hPk.out 0 (by omega)
                  rw [show nzTo cs cs.length = placesN cs from rfl, ← Hn.out] at hf0
                  obtain ⟨p, hp⟩ : ∃ p, p = (placesN cs).getD 0 0 := ⟨_, rfl⟩
                  rw [← hp] at c0 hf0 hp0
                  have hf1 := hf0.1
                  obtain ⟨L, hL⟩ : ∃ L, L = p + 1 - i := ⟨_, rfl⟩
                  have hLi : ((p : Int) + 1 - (i : Int)) = (L : Int) := by omega
                  have hDi : ((k : Int) - (i : Int)) = ((k - i : Nat) : Int) := by omega
                  have HL := Lib.hid hL
                  have HLi := Lib.hid hLi
                  have HDi := Lib.hid hDi
                  have Hp := Lib.hid hp
                  have Hf1 := Lib.hid hf1
                  have hLk : L ≤ k - i := by omega
                  clear hw4 he4 hb4 hl4 hb5 hf0 hf1 hL hLi hDi hp
                  go_wp2_with fail
                  rw [HLi.out, HDi.out]
                  refine (lv_te b ov4 bs4 L (k - i) wr H4.out hLk (by omega) (by omega)).mono ?_
                  rintro r w5 ⟨rfl, ov5, h5, e5⟩
                  have H5 := Lib.hid h5
                  have E5 := Lib.hid (E4.out.trans e5)
                  have HB5 : Hid ((bs4 ++ tezN L (k - i)).length ≤ bs.length + 1400) := Lib.hid (by have := tezN_length L (k - i) hLk (by omega); rw [List.length_append]; omega)
                  clear h5 e5
                  go_wp2
                  go_loopw [12, 13] (fun pl q wr => ∃ (m L2 : Nat) (ov6 : Value) (bs6 : List Int), m + 1 ≤ i ∧ pl = .int .i64 L2 ∧ q = .int .i64 m ∧ WrIs wr b ov6 bs6 ∧ EncTo w1 wr b ov ov6 ∧ Hid (L2 = (placesN cs).getD m 0 - (i - 1 - m)) ∧ Hid (bs6 ++ runsN L2 ((placesN cs).drop m) = bs4 ++ tezN L (k - i) ++ runsN L (placesN cs)) ∧ Hid (bs6.length ≤ bs.length + 1400 + 63 * m)) (fun _ q _ => i - (intOf q).toNat)
                  case atStart => exact ⟨0, L, ov5, _, by omega, rfl, rfl, H5.out, E5.out, Lib.hid (by rw [← Hp.out, HL.out]; omega), Lib.hid (by simp), Lib.hid (by have := HB5.out; omega)⟩
                  case round =>
                    obtain ⟨m, L2, ov6, bs6, hm, rfl, rfl, hw6, he6, hL2, hb6, hl6⟩ := hrel
                    have H6 := Lib.hid hw6
                    have E6 := Lib.hid he6
                    have hll6 := hl6.out
                    by_cases hgo : m + 1 < i ∧ 0 < L2
                    · obtain ⟨hm1, hL20⟩ := hgo
                      have ca := hP2.out wr ov6 he6 m (by omega)
                      have cb := hP2.out wr ov6 he6 (m + 1) (by omega)
                      have hfa := Hfall.out m (by omega)
                      have hfb := Hfall.out (m + 1) (by omega)
                      have hpa := hPk.out m (by omega)
                      have hb7 := hb6.out
                      rw [runsN_drop _ _ _ (by have := Hn.out; omega) (by omega)] at hb7
                      have hL3 := hL2.out
                      rw [show nzTo cs cs.length = placesN cs from rfl, ← Hn.out] at hfa hfb
                      obtain ⟨pa, hpae⟩ : ∃ pa, pa = (placesN cs).getD m 0 := ⟨_, rfl⟩
                      obtain ⟨pb, hpbe⟩ : ∃ pb, pb = (placesN cs).getD (m + 1) 0 := ⟨_, rfl⟩
                      rw [← hpae] at ca hfa hpa hb7 hL3
                      rw [← hpbe] at cb hfa hfb hb7
                      have hlt3 := hfa.2.2 (by omega)
                      have hge3 := hfb.1
                      obtain ⟨R, hR⟩ : ∃ R, R = pa - pb - 1 := ⟨_, rfl⟩
                      rw [← hR] at hb7
                      have hRi : (pa : Int) - (pb : Int) - 1 = (R : Int) := by omega
                      have hRL : R ≤ L2 := by omega
                      have hLR : (L2 : Int) - (R : Int) = ((L2 - R : Nat) : Int) := by omega
                      have hL4 : L2 - R = pb - (i - 1 - (m + 1)) := by omega
                      have hte : tezN R L2 = teN R L2 := by unfold tezN; rw [if_neg (by omega)]
                      have HRi := Lib.hid hRi
                      have HLR := Lib.hid hLR
                      have HL4 := Lib.hid hL4
                      have Hte := Lib.hid hte
                      have Hb7 := Lib.hid hb7
                      have Hpb := Lib.hid hpbe
                      have hmi : ((m : Int) + 1) = ((m + 1 : Nat) : Int) := by omega
                      have Hmi := Lib.hid hmi
                      have hL216 : L2 ≤ 16 := by omega
                      have Hs := Lib.hid (And.intro hlt3 hge3)
                      have hpb16 : pb ≤ 16 := by omega
                      have hR16 : R ≤ 16 := by omega
                      clear hfa hfb hb7 hL3 hL2 hb6 hpae hpbe hR hRi hLR hL4 hte hmi hlt3 hge3 hw6 he6
                      go_wp2
                      go_region
                      rw [HRi.out]
                      have H7 : Hid (WrIs wr.drew b ov6 bs6) := Lib.hid (H6.out.drewN 1)
                      have E7 : Hid (EncTo w1 wr.drew b ov ov6) := Lib.hid E6.out.drew
                      clear ca cb H6 E6
                      generalize wr.drew = wd at *
                      go_wp2_with fail
                      refine (lv_te b ov6 bs6 R L2 wd H7.out hRL hL216 (by omega)).mono ?_
                      rintro r w8 ⟨rfl, ov8, h8, e8⟩
                      rw [Hte.out] at h8
                      have H8 := Lib.hid h8
                      have E8 := Lib.hid (E7.out.trans e8)
                      have hl8 : Hid ((teN R L2).length ≤ 63) := Lib.hid (teN_length R L2 hRL (by omega))
                      clear h8 e8
                      go_wp2
                      rw [HLR.out, Hmi.out]
                      go_roundw
                      case rel => exact ⟨m + 1, L2 - R, ov8, _, by omega, rfl, rfl, H8.out, E8.out, Lib.hid (by rw [← Hpb.out]; exact HL4.out), Lib.hid (by rw [List.append_assoc]; exact Hb7.out), Lib.hid (by have := hl8.out; rw [List.length_append]; omega)⟩
                      case measure => simp [intOf] <;> omega
                    · have hb7 : bs6 = bs ++ levN cs := by
                        have h1 := hb6.out
                        rw [runsN_end _ _ _ (by have := Hn.out; omega), List.append_nil, Hb5.out] at h1
                        rw [h1]
                        unfold levN
                        rw [← Hn.out, if_neg hn0, ← Hp.out, ← HL.out, ← HN.out, ← HO1.out, ← HM.out]
                        simp only [List.append_assoc]
                      have H7 : Hid (WrIs wr b ov6 (bs ++ levN cs)) := Lib.hid (hb7 ▸ hw6)
                      have E7 : Hid (EncTo w wr b ov ov6) := Lib.hid (EncTo.trans ⟨HO.out.mono (by simp), fun _ h => .inl h⟩ he6)
                      have hor : ((i : Int) ≤ (m : Int) + 1) ∨ ((m : Int) + 1 < i ∧ (L2 : Int) ≤ 0) := by omega
                      clear hb7 hw6 he6 hgo hL2 hb6
                      rcases hor with h1 | ⟨h1, h2⟩
                      all_goals
                        go_wp2
                        go_ret
                        exact ⟨rfl, ov6, H7.out, E7.out⟩
end Go.Proofs.YtcppbdlmcbjmeaaGreatDoor

namespace Go.Proofs.YtcppbdlmcbjmeaaGreatDoor
open Go.RowKit

/-- A reader of levels. -/
def LrIs (w : World) (kb b : Nat) : Prop := w.heap[kb]? = some (.cells #[.pointer (some ⟨b, 0, none⟩)] 360 (0, 0))
theorem LrIs.only {w w' : World} {S : List Nat} {kb b : Nat} (h : LrIs w kb b) (ho : Only S w w') (hb : kb ∉ S) : LrIs w' kb b := ho.heap h hb
theorem LrIs.ne {w : World} {kb b p : Nat} {s : ByteArray} (h : LrIs w kb b) (k : RdIs w b s p) : kb ≠ b := by
  rintro rfl
  unfold LrIs at h; unfold RdIs at k
  rw [h] at k; simp at k
set_option maxRecDepth 100000 in
theorem lv_got (kb : Nat) (x : Int) (w : World) : Calls Tryz.prog 272 #[.pointer (some ⟨kb, 0, none⟩), .int .i64 x, .int .i64 0] w fun r w' => r = .returned (.int .i64 x) ∧ w = w' := by
  go_enter Tryz.func272, Tryz.ntmps272
  go_wp2
  go_ret
  exact ⟨rfl, rfl⟩
set_option maxRecDepth 100000 in
set_option maxHeartbeats 800000 in
theorem lv_rte (kb b : Nat) (s : ByteArray) (p x most : Nat) (w : World) (hk : LrIs w kb b) (h : RdIs w b s p) (hH : Holds s p (tezN x most)) (hx : x ≤ most) (hm : most ≤ 16) (hs : s.size ≤ 140737488355328) :
    Calls Tryz.prog 271 #[.pointer (some ⟨kb, 0, none⟩), .int .i64 most] w fun r w' => r = .returned (.int .i64 x) ∧ RdIs w' b s (p + (tezN x most).length) ∧ Only [b] w w' := by
  have ck : w.cell? ⟨kb, 0, none⟩ = some (.pointer (some ⟨b, 0, none⟩)) := by rw [cells_of hk]; rfl
  have H := Lib.hid h
  unfold tezN at hH ⊢
  clear h hk
  go_enter Tryz.func271, Tryz.ntmps271
  by_cases h0 : most = 0
  · subst h0
    obtain rfl : x = 0 := by omega
    clear hH
    rw [if_pos rfl]
    go_wp2
    go_ret
    exact ⟨rfl, H.out, Only.refl _ _⟩
  · rw [if_neg h0] at hH ⊢
    have HH := Lib.hid hH
    clear hH
    go_wp2_with fail
    refine (rd_te b s p x most w H.out HH.out (by omega) hx (by omega) hs).mono ?_
    rintro r w1 ⟨rfl, h1, h2⟩
    have H1 := Lib.hid h1
    have H2 := Lib.hid h2
    clear h1 h2
    go_wp2_with fail
    refine (lv_got kb x w1).mono ?_
    rintro r w2 ⟨rfl, rfl⟩
    go_wp2
    go_ret
    exact ⟨rfl, H1.out, H2.out⟩
/-- What a level is told as. -/
def nearN (near : Bool) (v : Int) : Int := if near then (if 0 < v then v - 1 else v + 1) else v
theorem nearN_pos {v : Int} (h : 0 < nearN true v) (hv0 : v ≠ 0) : v = nearN true v + 1 := by
  have e : nearN true v = (if 0 < v then v - 1 else v + 1) := rfl
  rw [e] at h ⊢
  by_cases hv : 0 < v
  · rw [if_pos hv] at h ⊢; omega
  · rw [if_neg hv] at h ⊢; omega
theorem nearN_neg {v : Int} (h : ¬ 0 < nearN true v) (h0 : nearN true v ≠ 0) : v = nearN true v - 1 := by
  have e : nearN true v = (if 0 < v then v - 1 else v + 1) := rfl
  rw [e] at h h0 ⊢
  by_cases hv : 0 < v
  · rw [if_pos hv] at h h0 ⊢; omega
  · rw [if_neg hv] at h h0 ⊢; omega
theorem nearN_range (near : Bool) {v : Int} (hv : -32767 ≤ v ∧ v ≤ 32767) : -32767 ≤ nearN near v ∧ nearN near v ≤ 32767 := by
  cases near
  · exact hv
  · have e : nearN true v = (if 0 < v then v - 1 else v + 1) := rfl
    rw [e]
    split <;> omega
set_option maxRecDepth 100000 in
set_option maxHeartbeats 1600000 in
theorem lv_level (kb b : Nat) (s : ByteArray) (p : Nat) (near : Bool) (v : Int) (w : World) (hk : LrIs w kb b) (h : RdIs w b s p) (hH : Holds s p (seN (nearN near v))) (hv : -32767 ≤ v ∧ v ≤ 32767) (hv0 : v ≠ 0) (hn : nearN near v ≠ 0) (hs : s.size ≤ 140737488355328) :
    Calls Tryz.prog 273 #[.pointer (some ⟨kb, 0, none⟩), .bool near] w fun r w' => r = .returned (.int .i64 v) ∧ RdIs w' b s (p + (seN (nearN near v)).length) ∧ Only [b] w w' := by
  have ck : w.cell? ⟨kb, 0, none⟩ = some (.pointer (some ⟨b, 0, none⟩)) := by rw [cells_of hk]; rfl
  have H := Lib.hid h
  have HH := Lib.hid hH
  obtain ⟨c, hc⟩ : ∃ c, c = nearN near v := ⟨_, rfl⟩
  have hcr : -32767 ≤ c ∧ c ≤ 32767 := by rw [hc]; exact nearN_range near hv
  rw [← hc] at hn ⊢
  have Hc := Lib.hid hc
  replace hv0 := Lib.hid hv0
  have hcb : (c == 0) = false := by simpa using hn
  clear h hk hH hc
  go_enter Tryz.func273, Tryz.ntmps273
  go_wp2_with fail
  refine (rd_se b s p c w H.out (by rw [Hc.out]; exact HH.out) (by omega) (by omega) hs).mono ?_
  rintro r w1 ⟨rfl, h1, h2⟩
  have H1 := Lib.hid h1
  have H2 := Lib.hid h2
  clear h1 h2
  go_wp2_with fail
  refine (lv_got kb c w1).mono ?_
  rintro r w2 ⟨rfl, rfl⟩
  have hcc := Hc.out
  cases near with
  | false =>
    rw [show nearN false v = v from rfl] at hcc
    subst hcc
    clear Hc HH
    go_wp2
    go_ret
    exact ⟨rfl, H1.out, H2.out⟩
  | true =>
    by_cases h0 : 0 < c
    · have e : v = c + 1 := by rw [hcc] at h0 ⊢; exact nearN_pos h0 hv0.out
      subst e
      clear Hc HH hcc
      go_wp2
      go_ret
      exact ⟨rfl, H1.out, H2.out⟩
    · have e : v = c - 1 := by rw [hcc] at h0 hn ⊢; exact nearN_neg h0 hn
      subst e
      clear Hc HH hcc
      go_wp2
      go_ret
      exact ⟨rfl, H1.out, H2.out⟩
end Go.Proofs.YtcppbdlmcbjmeaaGreatDoor
