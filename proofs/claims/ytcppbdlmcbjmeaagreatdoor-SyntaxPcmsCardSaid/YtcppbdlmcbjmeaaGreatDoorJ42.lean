/-
  NewWriter and NewReader of a slice of type I, with an engine and without. The walk over the law's 'there', for macroblocks of a slice of type I. Rows of macroblocks, as the laws of chapter 21 build them.
-/
import Derived.Test.YtcppbdlmcbjmeaaGreatDoorJ41
import Derived.Test.YtcppbdlmcbjmeaaGreatDoorJ38
import Derived.Test.YtcppbdlmcbjmeaaGreatDoorJ26
import Derived.Test.YtcppbdlmcbjmeaaGreatDoorJ11
import Derived.Test.YtcppbdlmcbjmeaaGreatDoorJ20
import Derived.Test.YtcppbdlmcbjmeaaGreatDoorJ12
namespace Go.Proofs.YtcppbdlmcbjmeaaGreatDoor
open Go.RowKit

theorem stS_block {w : World} {sb g : Nat} {S : Nat → Value} {cs : Array Value} {t : TypeId} (h : BlkIn w sb 75 106 S) (k : w.heap[g]? = some (.cells cs t (0, 0))) (ht : 106 ≠ t) : sb ≠ g := by
  unfold BlkIn at h
  exact block_type h k ht
theorem asksOf_fine (f wide : Nat) {p : Int} {ms : List MbN} (hok : ∀ m ∈ ms, m.ok) (hp : 0 ≤ p ∧ p ≤ 51) : ∀ a ∈ asksOf f wide p ms, a.fine := fine_slice f wide ms [] p hok (behind_nil hp)
theorem asksOf_length (f wide : Nat) (p : Int) {ms : List MbN} (h : ms.length ≤ 20) : (asksOf f wide p ms).length ≤ 8000 := by
  have := sliceAsk_length f wide ms [] p
  unfold asksOf
  omega
set_option maxHeartbeats 1600000 in
theorem new_writer {hd : Nat → Value} {cnt a0 a1 qp : Int} {f wide bb : Nat} {ov : Value} {bs : List Int} {Pc : Array Value} {w : World} {cabac : Bool} {ms : List MbN} (hA : Asc w) (hA2 : ∀ g ∈ bb :: ov.ownBlock.toList, 0 < g) (hb : WrIs w bb ov bs) (hl : bs.length < 900000) (hp : Pc[0]? = some (.bool cabac)) (hh : HeadIs hd f cnt 2 a0 a1 qp) (h17 : hd 17 = .int .i64 qp) (hw : 1 ≤ wide ∧ wide ≤ 8) (hc : 1 ≤ cnt) (hq : 0 ≤ qp ∧ qp ≤ 51) (ha0 : 0 ≤ a0 ∧ a0 ≤ 8) (ha1 : 0 ≤ a1 ∧ a1 ≤ 8)
    (hcnt : cnt = ms.length) (hms : ms.length ≤ 20) (hok : ∀ m ∈ ms, m.ok) :
    Calls Tryz.prog 12 #[.pointer (some ⟨bb, 0, none⟩), .agg (hdL hd).toArray, .agg Pc, .int .i64 wide] w (NewW w hd f wide qp ms (textOf cabac f wide qp bs ms) (bb :: ov.ownBlock.toList)) := by
  have hfine := asksOf_fine f wide hok hq
  have hlen := asksOf_length f wide qp hms
  have hlow := hb.low
  have hcb := hb.cells
  cases cabac with
  | false =>
    refine (sx_newWriter0 hp hh (by omega) (by omega) hc (by decide) hq ha0 ha1).mono ?_
    rintro e w' ⟨sb, wb, rfl, h1, h2, h3, h4, h5⟩
    obtain ⟨T, hT⟩ : ∃ T, T = bs ++ asksBits (asksOf f wide qp ms) := ⟨_, rfl⟩
    have hb' : WrIs w' bb ov bs := hb.only h5 (by simp) (by simp)
    have hns : sb ∉ wb :: bb :: ov.ownBlock.toList := by
      simp only [List.mem_cons, Option.mem_toList, not_or]
      unfold WcIs at h2
      exact ⟨stS_block h1 h2 (by decide), by omega, fun e => by have := hlow.2 _ e; omega⟩
    refine ⟨wb, wrCod wb sb bb T, sb, sb :: wb :: bb :: ov.ownBlock.toList, rfl, h5.mono (by simp), ⟨wrCod_ok _ _ _ _, rfl, rfl, rfl, ?_, ?_, ?_, ?_⟩⟩
    · rintro F r w ⟨ov, bs, rfl, hW, -⟩
      exact ⟨hW.cells.1, by simp⟩
    · exact along_zero h1 ⟨ov, bs, rfl, h2, hb', hT.symm, hfine, by omega⟩ hns
    · intro i hi
      simp only [List.mem_cons, Option.mem_toList] at hi ⊢
      rcases hi with rfl | rfl | hi
      · exact .inr h3
      · exact .inr h4
      · exact .inl hi
    · intro w1 G1 hal
      obtain ⟨S, F, q1, q2, ⟨ov1, bs1, rfl, hW, hwr, ht, -, hle⟩, q4, q5⟩ := along_last hal
      have e1 : bs1 = T := by rw [← ht]; simp [asksBits]
      subst e1
      refine (wr_end0 hW q1 q2 (by rw [q4 1 (by decide), hh.h1]) (by omega) hwr (by simp only [List.length_nil] at hle; omega)).mono ?_
      rintro e w2 ⟨rfl, ov2, k1, k2, k3⟩
      refine ⟨rfl, k3.mono (fun i hi => q5 i hi), fun w3 ho => ?_⟩
      refine (wr_bytes0 (k1.only ho (by simp)) (k2.only ho (by simp) (by simp))).mono ?_
      rintro e w4 ⟨rfl, rfl⟩
      refine ⟨?_, Only.refl _ _⟩
      unfold textOf
      rw [if_neg (by decide), hT]
  | true =>
    refine (sx_newWriter1 hA hA2 hb hl hp hh h17 (by omega) (by omega) hc (by decide) hq ha0 ha1).mono ?_
    rintro e w' ⟨sb, wb, eb, tb, sk, ov', rfl, h1, h2, h3, h4, h5, g1, g2, g3, g4, g5⟩
    obtain ⟨T, hT⟩ : ∃ T, T = (Enc.new (initL qp)).run (asksDeeds (asksOf f wide qp ms)) := ⟨_, rfl⟩
    obtain ⟨cc, hcc⟩ := h4.cells
    have hns : sb ∉ wb :: bb :: eb :: tb :: sk :: ((Value.slice none 0 0).ownBlock.toList ++ ov'.ownBlock.toList) := by
      simp only [List.mem_cons, List.mem_append, Option.mem_toList, not_or]
      unfold WcIs at h2
      refine ⟨stS_block h1 h2 (by decide), stS_block h1 hcc (by decide), stS_block h1 h3.cells (by decide), stS_block h1 h3.tab (by decide), stS_block h1 h3.sts (by decide), fun e => (by cases e), fun e => ?_⟩
      obtain ⟨cur, hcur⟩ := ownsRow_block h4.out e
      exact stS_block h1 hcur (by decide) rfl
    have hxl : (Enc.new (initL qp)).st.length = 256 := by
      rw [show (Enc.new (initL qp)).st.length = (initL qp).length by simp [Enc.new, beginOf], initL_length]
    refine ⟨wb, weCod wb sb bb eb tb sk ov' (bs ++ List.replicate (fillN bs.length) 1) T, sb, sb :: wb :: bb :: eb :: tb :: sk :: ((Value.slice none 0 0).ownBlock.toList ++ ov'.ownBlock.toList), rfl, h5.only, ⟨weCod_ok _ _ _ _ _ _ _ _ _, rfl, rfl, rfl, ?_, ?_, ?_, ?_⟩⟩
    · rintro F r w ⟨ov, e, rfl, hW, -⟩
      exact ⟨hW.cells.1, by simp⟩
    · refine along_zero h1 ⟨.slice none 0 0, Enc.new (initL qp), rfl, h2, h3, Enc.live_new _, hxl, h4, fun g hg => (by cases hg), hT.symm, hfine, ?_⟩ hns
      have h0 : (Enc.new (initL qp)).cost = 0 := by simp [Enc.cost, Enc.new]
      omega
    · intro i hi
      simp only [List.mem_cons, List.mem_append, Option.mem_toList] at hi ⊢
      rcases hi with rfl | rfl | rfl | rfl | rfl | rfl | hi | hi
      · exact .inr g1
      · exact .inr g2
      · exact .inl (.inl rfl)
      · exact .inr g3
      · exact .inr g4
      · exact .inr g5
      · cases hi
      · rcases h5.new i hi with h6 | h6
        · exact .inl (.inr h6)
        · exact .inr h6
    · intro w1 G1 hal
      obtain ⟨S, F, q1, q2, ⟨ov1, e1, rfl, hW, he, hlv, hst, hwr, hd, ht, -, hle⟩, q4, q5⟩ := along_last hal
      have ee : e1 = T := ht
      subst ee
      have hco : e1.cost ≤ 380000000 := by simp only [List.length_nil] at hle; omega
      refine (wr_end1 hW q1 q2 (by rw [q4 1 (by decide), hh.h1]) (by omega) hwr he hlv.good (by omega) hd).mono ?_
      rintro e w2 ⟨rfl, eo', k1, k2, k3, k4⟩
      refine ⟨rfl, k4.mono (fun i hi => q5 i (by
        simp only [List.mem_cons, List.mem_append] at hi ⊢
        rcases hi with h | h | h | h <;> simp [h])), fun w3 ho => ?_⟩
      refine (wr_bytes1 (k1.only ho (by simp)) (k3.only ho (by simp) (by simp)) (k2.only ho (by simp) (by simp) (by simp) (by simp)) ?_).mono ?_
      · have hg := (e1.good_term 1 hlv.good).2
        have hf : fillN bs.length < 8 := by unfold fillN; omega
        unfold Enc.cost at hg hco
        rw [strOfNums_size, strOfNums_size, packed_length, packed_length, List.length_append, List.length_replicate]
        omega
      · rintro e w4 ⟨rfl, k5⟩
        refine ⟨?_, k5⟩
        unfold textOf
        rw [if_pos rfl, hT]
set_option maxHeartbeats 1600000 in
theorem new_reader {hd : Nat → Value} {cnt a0 a1 qp : Int} {f wide : Nat} {bs : List Int} {Pc : Array Value} {w : World} {cabac : Bool} {ms : List MbN} (hA : Asc w) (hbs : ∀ b ∈ bs, b = 0 ∨ b = 1) (hl : bs.length < 900000) (hp : Pc[0]? = some (.bool cabac)) (hh : HeadIs hd f cnt 2 a0 a1 qp) (h17 : hd 17 = .int .i64 qp) (hw : 1 ≤ wide ∧ wide ≤ 8) (hc : 1 ≤ cnt) (hq : 0 ≤ qp ∧ qp ≤ 51) (ha0 : 0 ≤ a0 ∧ a0 ≤ 8) (ha1 : 0 ≤ a1 ∧ a1 ≤ 8)
    (hcnt : cnt = ms.length) (hms : ms.length ≤ 20) (hok : ∀ m ∈ ms, m.ok) :
    Calls Tryz.prog 17 #[.string (textOf cabac f wide qp bs ms), .int .i64 bs.length, .agg (hdL hd).toArray, .agg Pc, .int .i64 wide] w (NewR w hd f wide qp ms) := by
  have hfine := asksOf_fine f wide hok hq
  have hlen := asksOf_length f wide qp hms
  cases cabac with
  | false =>
    obtain ⟨B, hB⟩ : ∃ B, B = bs ++ asksBits (asksOf f wide qp ms) := ⟨_, rfl⟩
    have hbl : (asksBits (asksOf f wide qp ms)).length ≤ 2500 * 8000 := by
      have := asksBits_length (asksOf f wide qp ms) hfine
      omega
    have hbb : ∀ b ∈ B ++ trailN B.length, b = 0 ∨ b = 1 := by
      intro b hb
      rw [hB] at hb
      simp only [List.mem_append] at hb
      rcases hb with (hb | hb) | hb
      · exact hbs b hb
      · exact asksBits_bit _ hfine b hb
      · exact trailN_bit _ b hb
    obtain ⟨s, hs⟩ : ∃ s, s = strOfNums (packed (B ++ trailN B.length)) := ⟨_, rfl⟩
    have htx : textOf false f wide qp bs ms = s := by unfold textOf; rw [if_neg (by decide), hs, hB]
    have hBl : B.length = bs.length + (asksBits (asksOf f wide qp ms)).length := by rw [hB, List.length_append]
    have htl := trailN_length B.length
    have hsz : 8 * s.size = B.length + (trailN B.length).length := by
      rw [hs, strOfNums_size, packed_length, List.length_append, htl]
      omega
    have hH := holds_packed hbb
    rw [← hs, hB, List.append_assoc, ← hB] at hH
    have hH2 := hH.right
    rw [Nat.zero_add, show bs.length = 8 * (bs.length / 8) + bs.length % 8 by omega] at hH2
    have hH3 := holds_extract hH2 (by omega)
    have hs1 : (s.extract (bs.length / 8) s.size).size = s.size - bs.length / 8 := by rw [ByteArray.size_extract]; omega
    obtain ⟨y, hy, hH0⟩ := holds_any (s.extract (bs.length / 8) s.size) (bs.length % 8) 0 (by omega)
    rw [htx]
    refine (sx_newReader0 (by omega) (by omega) rfl hy hH0 hp hh (by omega) (by omega) hc (by decide) hq ha0 ha1).mono ?_
    rintro e w' ⟨sb, rb, bb, rfl, h1, h2, h3, g1, g2, g3, h5⟩
    have hns : sb ∉ [rb, bb] := by
      simp only [List.mem_cons, List.not_mem_nil, or_false, not_or]
      unfold RcIs at h2
      unfold RdIs at h3
      exact ⟨stS_block h1 h2 (by decide), stS_block h1 h3 (by decide)⟩
    refine ⟨rb, rdCod rb sb bb s (s.extract (bs.length / 8) s.size) 0 (trailN B.length), sb, [sb, rb, bb], rfl, h5, ⟨rdCod_ok _ _ _ _ _ _ _, rfl, rfl, rfl, ?_, ?_, ?_, ?_⟩⟩
    · rintro F r w ⟨p, rfl, hW, -⟩
      obtain ⟨c0, -, -, -, -, c5, c6⟩ := hW.cells
      exact ⟨⟨c0, c5, c6⟩, by simp⟩
    · exact along_zero h1 ⟨bs.length % 8, rfl, h2, h3, hH3, hfine, by rw [hs1, List.length_append]; omega, by rw [hs1]; omega⟩ hns
    · intro i hi
      simp only [List.mem_cons, List.not_mem_nil, or_false] at hi
      rcases hi with rfl | rfl | rfl <;> assumption
    · intro w1 G1 hal
      obtain ⟨S, F, q1, q2, ⟨p, rfl, hW, hR, hHp, -, hpl, hps⟩, q4, q5⟩ := along_last hal
      rw [show asksBits [] ++ trailN B.length = trailN B.length from rfl] at hHp hpl
      obtain ⟨t1, t2⟩ := trailN_holds hHp
      refine (rd_end0 (k := (8 - (B.length + 1) % 8) % 8) hW q1 q2 (by rw [q4 1 (by decide), hh.h1]) (by omega) hR (by omega) (by omega) t1 t2 hps).mono ?_
      rintro e w2 ⟨rfl, k1⟩
      exact ⟨rfl, k1.mono (fun i hi => q5 i hi)⟩
  | true =>
    obtain ⟨ops, hops⟩ : ∃ ops, ops = asksDeeds (asksOf f wide qp ms) := ⟨_, rfl⟩
    have hfit : ∀ o ∈ ops, o.fits 256 := by rw [hops]; exact asksDeeds_fits _ hfine
    have hfit2 : ∀ o ∈ ops, o.fits (initL qp).length := by rw [initL_length]; exact hfit
    obtain ⟨b1, b2, b3, b4⟩ := Read.begins (initL qp) ops hfit2
    have hdl := asksDeeds_length _ hfine
    rw [← hops] at hdl
    have hxl : (Enc.new (initL qp)).st.length = (initL qp).length := by simp [Enc.new, beginOf]
    have hlive := (Enc.new (initL qp)).live_run ops (Enc.live_new _) (fun o ho => by rw [hxl]; exact hfit2 o ho)
    have hc0 : (Enc.new (initL qp)).cost = 0 := by simp [Enc.cost, Enc.new]
    have hcost := hlive.2.2
    rw [hc0] at hcost
    obtain ⟨en, hen⟩ : ∃ en, en = (Enc.new (initL qp)).run ops := ⟨_, rfl⟩
    rw [← hen] at b2 b3 b4 hlive hcost
    obtain ⟨eb1, -, -, eb4⟩ := en.end_bits hlive.1
    obtain ⟨X, hX⟩ : ∃ X, (en.term 1).bits = X ++ [1] := by rw [en.term_yes hlive.1]; exact ⟨_, rfl⟩
    have hgt := (en.good_term 1 hlive.1.good).2
    have hEl : (en.term 1).bits.length ≤ 400000000 := by
      unfold Enc.cost at hgt hcost
      omega
    obtain ⟨A, hAd⟩ : ∃ A, A = strOfNums (packed (bs ++ List.replicate (fillN bs.length) 1)) := ⟨_, rfl⟩
    have hfill : fillN bs.length < 8 ∧ (bs.length + fillN bs.length) % 8 = 0 := by unfold fillN; omega
    have hAs : A.size = (bs.length + 7) / 8 := by
      rw [hAd, strOfNums_size, packed_length, List.length_append, List.length_replicate]
      omega
    have hEs : en.text.size = ((en.term 1).bits.length + 7) / 8 := by
      unfold Enc.text
      rw [strOfNums_size, packed_length]
    have hnth : ∀ (i : Nat), 8 * en.text.size > i → bitOf en.text i = (en.term 1).bits.getD i 0 := fun i hi => by
      unfold Enc.text
      exact packed_pad _ eb4 i (by rw [← hEs]; omega)
    have htx : textOf true f wide qp bs ms = A ++ en.text := by unfold textOf Enc.text; rw [if_pos rfl, hAd, hen, hops]
    have hss : (A ++ en.text).size = A.size + en.text.size := ByteArray.size_append
    have hext : (A ++ en.text).extract ((bs.length + 7) / 8) (A ++ en.text).size = en.text := by rw [← hAs]; exact extract_right A en.text
    have hHA := (holds_packed (bs := bs ++ List.replicate (fillN bs.length) 1) (fun b hb => by
      rcases List.mem_append.1 hb with h | h
      · exact hbs b h
      · exact .inr (List.eq_of_mem_replicate h))).right
    rw [← hAd, Nat.zero_add] at hHA
    have hHF := hHA.more en.text
    rw [show bs.length = 8 * (bs.length / 8) + bs.length % 8 by omega] at hHF
    have hF := holds_extract hHF (by omega)
    rw [show 8 * (bs.length / 8) + bs.length % 8 = bs.length by omega] at hF
    obtain ⟨y, hy, hH0⟩ := holds_any ((A ++ en.text).extract (bs.length / 8) (A ++ en.text).size) (bs.length % 8) 0 (by rw [ByteArray.size_extract]; omega)
    have hbc : beginCode en.text = 0 := by
      unfold beginCode
      rw [if_neg b2, if_neg b3]
    rw [htx]
    refine (sx_newReader1 (by omega) (by omega) rfl hy hH0 hF hA h17 (by rw [hext]; exact hbc) hp hh (by omega) (by omega) hc (by decide) hq ha0 ha1).mono ?_
    rintro e w' ⟨sb, rb, bb, db, tb, sk, rfl, h1, h2, h3, g1, g2, g3, g4, g5, g6, h5⟩
    rw [hext] at h3
    have hns : sb ∉ [rb, db, tb, sk] := by
      simp only [List.mem_cons, List.not_mem_nil, or_false, not_or]
      unfold RcIs at h2
      exact ⟨stS_block h1 h2 (by decide), stS_block h1 h3.cells (by decide), stS_block h1 h3.tab (by decide), stS_block h1 h3.sts (by decide)⟩
    refine ⟨rb, geCod rb sb bb db tb sk (A ++ en.text) ((bs.length + 7) / 8 : Nat) (initL qp) ops, sb, [sb, rb, db, tb, sk], rfl, h5, ⟨geCod_ok _ _ _ _ _ _ _ _ _ _, rfl, rfl, rfl, ?_, ?_, ?_, ?_⟩⟩
    · rintro F r w ⟨d, j, rfl, hW, -⟩
      obtain ⟨c0, -, -, -, -, c5, c6⟩ := hW.cells
      exact ⟨⟨c0, c5, c6⟩, by simp⟩
    · exact along_zero h1 ⟨Dec.begin en.text (initL qp), 0, rfl, h2, h3, beginOk _ _ hbc, b4, by rw [List.drop_zero]; exact hops, hfine, initL_length _, hfit, by show en.text.size ≤ _; omega⟩ hns
    · intro i hi
      simp only [List.mem_cons, List.not_mem_nil, or_false] at hi
      rcases hi with rfl | rfl | rfl | rfl | rfl <;> assumption
    · intro w1 G1 hal
      obtain ⟨S, F, q1, q2, ⟨d, j, rfl, hW, hD, hdo, hR, hdr, -, -, -, hds⟩, q4, q5⟩ := along_last hal
      have hj : ops.length ≤ j := by
        have : (ops.drop j).length = 0 := by rw [hdr]; rfl
        rw [List.length_drop] at this
        omega
      have hR2 : Read (initL qp) ops ops.length d := ⟨by have := hR.meets; rwa [List.take_of_length_le hj, ← List.take_length (l := ops)] at this, hR.text⟩
      obtain ⟨r1, -, -, r4⟩ := Read.ends (initL qp) ops d hfit2 hR2
      rw [← hen] at r4
      have htx2 : d.s = en.text := by rw [hen]; exact hR.text
      have hXl : (en.term 1).bits.length = X.length + 1 := by rw [hX]; simp
      refine (rd_end1 (s := en.text) (q := d.pos - 1) (k := 8 * en.text.size - d.pos) hW q1 q2 (by rw [q4 1 (by decide), hh.h1]) (by omega) hD hdo r1 (by show d.pos = _; omega) hds hext.symm (by omega) (by omega) (by omega) (by omega) ?_ ?_).mono ?_
      · rw [hnth _ (by omega), hX, show d.pos - 1 = X.length by omega]
        simp
      · intro i hi
        rw [hnth _ (by omega), getD_beyond _ _ (by omega)]
      · rintro e w2 ⟨rfl, k1⟩
        exact ⟨rfl, k1.mono (fun i hi => q5 i (by
          simp only [List.mem_cons, List.not_mem_nil, or_false] at hi ⊢
          rcases hi with h | h | h <;> simp [h]))⟩
end Go.Proofs.YtcppbdlmcbjmeaaGreatDoor

namespace Go.Proofs.YtcppbdlmcbjmeaaGreatDoor
open Go.RowKit

/-- Macroblocks in a block, side by side. -/
structure MbsAt (w : World) (g : Nat) (ms : List MbN) : Prop where
  each : ∀ n m, ms[n]? = some m → ∃ X, w.rangeAt g (n * 483) (fnA 483 X).toList ∧ MbIn w X m
theorem MbsAt.only {w w' : World} {g : Nat} {ms : List MbN} (h : MbsAt w g ms) (ho : Only [] w w') : MbsAt w' g ms where
  each := fun n m hm => by
    obtain ⟨X, h1, h2⟩ := h.each n m hm
    obtain ⟨ao, len, cap, q1, q2, q3, q4⟩ := h2.pcm
    refine ⟨X, fun j v hj => ho.cell (h1 j v hj) (by simp), h2.cell, ao, len, cap, q1, q2, q3, fun h => ?_⟩
    obtain ⟨gp, e1, e2⟩ := q4 h
    exact ⟨gp, e1, fun i hi => ho.cell (e2 i hi) (by simp)⟩
/-- Macroblocks read, as values. -/
def mbsA (Xs : List (Nat → Value)) : List Value := Xs.flatMap fun X => (fnA 483 X).toList
theorem mbsA_snoc (Xs : List (Nat → Value)) (X : Nat → Value) : mbsA (Xs ++ [X]) = mbsA Xs ++ (fnA 483 X).toList := by simp [mbsA]
def There (w0 : World) (ms : List MbN) (e : Ending) (w : World) : Prop := ∃ (v : Value) (Xs : List (Nat → Value)), e = .returned (.tuple #[v, .bool true]) ∧ Only [] w0 w ∧ w.ownsRow w0.heap.size 51 483 v ms.length (mbsA Xs) ∧ Xs.length = ms.length ∧ ∀ (n : Nat) (m : MbN) (X : Nat → Value), ms[n]? = some m → Xs[n]? = some X → MbOutN w [] X m
set_option maxRecDepth 100000 in
theorem lw_num (x : Int) (w : World) : Calls Tryz.prog 14 #[.int .i64 x] w fun e w' => e = .returned (.int .i64 x) ∧ w = w' := by
  go_enter Tryz.func14, Tryz.ntmps14
  go_wp2
  go_ret
  exact ⟨rfl, rfl⟩
/-- While macroblocks are read: so many are read, they lie in a row. -/
structure RdRow (c : Cod) (w0 w : World) (sb : Nat) (hd : Nat → Value) (wide : Nat) (p : Int) (ms : List MbN) (j : Nat) (G : List Nat) (Xs : List (Nat → Value)) (v : Value) (B : Nat) : Prop where
  al : Along c w sb hd 0 wide p ms j G
  o : Only [] w0 w
  new : ∀ i ∈ G, w0.heap.size ≤ i
  own : w.ownsRow B 51 483 v j (mbsA Xs)
  len : Xs.length = j
  mb : ∀ (a : Nat) (m : MbN) (X : Nat → Value), ms[a]? = some m → Xs[a]? = some X → MbOutN w G X m
  dis : ∀ g, v.ownBlock = some g → g ∉ G ∧ w0.heap.size ≤ g
/-- One more is read, not yet in the row. -/
structure RdMore (c : Cod) (w0 w : World) (sb : Nat) (hd : Nat → Value) (wide : Nat) (p : Int) (ms : List MbN) (j : Nat) (G : List Nat) (Xs : List (Nat → Value)) (D : List Value) (X : Nat → Value) (v : Value) (B : Nat) : Prop where
  al : Along c w sb hd 0 wide p ms (j + 1) G
  o : Only [] w0 w
  new : ∀ i ∈ G, w0.heap.size ≤ i
  own : w.ownsRow B 51 483 v j (mbsA Xs)
  len : Xs.length = j
  mb : ∀ (a : Nat) (m : MbN) (Y : Nat → Value), ms[a]? = some m → (Xs ++ [X])[a]? = some Y → MbOutN w G Y m
  dis : ∀ g, v.ownBlock = some g → g ∉ G ∧ w0.heap.size ≤ g
  all : D = mbsA (Xs ++ [X])
theorem MbOutN.one {w : World} {G : List Nat} {X : Nat → Value} {m : MbN} (h : MbOutN w G X m) : (fnA 483 X).all (·.oneCell') = true := by
  rw [Array.all_eq_true_iff_forall_mem]
  intro v hv
  obtain ⟨j, hj, rfl⟩ : ∃ j, j < 483 ∧ X j = v := by simpa [fnA] using hv
  by_cases hj2 : j < 482
  · rw [h.cell j hj2]; rfl
  · obtain rfl : j = 482 := by omega
    by_cases h2 : m.y 0 = 2
    · obtain ⟨pb, capb, q1, -⟩ := h.pcm h2
      rw [q1]; rfl
    · rw [h.nil h2]; rfl
theorem RdRow.read {c : Cod} {w0 w w' : World} {sb wide j B : Nat} {hd X : Nat → Value} {p : Int} {ms : List MbN} {m : MbN} {G G' : List Nat} {Xs : List (Nat → Value)} {v : Value} (h : RdRow c w0 w sb hd wide p ms j G Xs v B) (hm : ms[j]? = some m)
    (q1 : Along c w' sb hd 0 wide p ms (j + 1) G') (q2 : Only G w w') (q3 : ∀ i ∈ G', i ∈ G ∨ w.heap.size ≤ i) (q4 : MbOutN w' G' X m) : RdMore c w0 w' sb hd wide p ms j G' Xs (mbsA (Xs ++ [X])) X v B where
  al := q1
  o := h.o.trans' q2 (fun i hi => .inr (h.new i hi))
  new := fun i hi => by
    rcases q3 i hi with h1 | h1
    · exact h.new i h1
    · have := h.o.size; omega
  own := ownsRow_of_block h.own fun g hg => by
    obtain ⟨cur, hcur⟩ := ownsRow_block h.own hg
    exact q2.block g (lt_of_block hcur) (h.dis g hg).1
  len := h.len
  mb := fun a m2 Y h1 h2 => by
    rcases Nat.lt_or_ge a Xs.length with ha | ha
    · rw [List.getElem?_append_left ha] at h2
      exact (h.mb a m2 Y h1 h2).step q2 (fun i hi => .inl hi) q3
    · rw [List.getElem?_append_right ha] at h2
      have ha2 : a - Xs.length = 0 := by
        rcases Nat.eq_zero_or_pos (a - Xs.length) with h3 | h3
        · exact h3
        · rw [List.getElem?_eq_none (by simp; omega)] at h2; cases h2
      rw [ha2] at h2
      obtain rfl : X = Y := by simpa using h2
      obtain rfl : a = j := by have := h.len; omega
      rw [hm] at h1
      obtain rfl : m = m2 := by simpa using h1
      exact q4
  dis := fun g hg => by
    refine ⟨fun e => ?_, (h.dis g hg).2⟩
    rcases q3 g e with h1 | h1
    · exact (h.dis g hg).1 h1
    · obtain ⟨cur, hcur⟩ := ownsRow_block h.own hg
      have := lt_of_block hcur
      omega
  all := rfl
/-- It is laid into the row. -/
theorem RdMore.push {c : Cod} {w0 w w1 w' : World} {sb wide j B g cap : Nat} {hd X : Nat → Value} {p : Int} {ms : List MbN} {G : List Nat} {Xs : List (Nat → Value)} {D : List Value} {v : Value} (h : RdMore c w0 w sb hd wide p ms j G Xs D X v B) (hc : c.Ok) (ho : Only [] w w1)
    (hp : Pushed w1 B 51 483 v (j + 1) D (.slice (some ⟨g, 0, none⟩) (j + 1) cap) w') : RdRow c w0 w' sb hd wide p ms (j + 1) G (Xs ++ [X]) (.slice (some ⟨g, 0, none⟩) (j + 1) cap) B := by
  obtain ⟨p1, p2, g', cap', p3, p4⟩ := hp
  injection p3 with p3
  injection p3 with p3
  injection p3 with p3
  subst p3
  have al1 := h.al.only hc ho (by simp)
  have hlow := h.al.low hc
  have o1 : Only v.ownBlock.toList w1 w' := (Only.refl _ w1).grown p2 (fun k hk => .inl (by simp [hk]))
  have hown : ∀ k, v.ownBlock = some k → ∃ cur, w1.heap[k]? = some (.cells cur 51 (0, 0)) := fun k hk => by
    obtain ⟨cur, hcur⟩ := ownsRow_block h.own hk
    exact ⟨cur, ho.heap hcur (by simp)⟩
  refine ⟨al1.only hc o1 (fun i hi hm => (h.dis i (by simpa using hm)).1 hi), (h.o.trans ho).trans' o1 (fun i hi => .inr (h.dis i (by simpa using hi)).2), h.new, by rw [← h.all]; exact p1, by rw [List.length_append, h.len]; rfl, fun a m Y h1 h2 => ?_, fun k hk => ?_⟩
  · have h3 := h.mb a m Y h1 h2
    refine ⟨h3.cell, h3.nil, fun h4 => ?_⟩
    obtain ⟨pb, capb, j1, j2, j3, j4⟩ := h3.pcm h4
    have j5 := j2.only ho (by simp)
    have j6 := j5.only o1 (fun hm => by
      obtain ⟨cur, hcur⟩ := hown pb (by simpa using hm)
      obtain ⟨cur2, hcur2, -⟩ := j5
      rw [hcur] at hcur2
      simp at hcur2)
    exact ⟨pb, capb, j1, j6, j3, j6.lt⟩
  · obtain rfl : g = k := by simpa [Value.ownBlock] using hk
    rcases p4 with p4 | p4
    · exact h.dis g p4
    · refine ⟨fun e => ?_, ?_⟩
      · have := hlow g e
        have := ho.size
        omega
      · have := (h.o.trans ho).size
        omega
set_option maxRecDepth 100000 in
set_option maxHeartbeats 12800000 in
theorem law_there {hd : Nat → Value} {PL : List Value} {cnt a0 a1 qp : Int} {wide g cap k : Nat} {cabac : Bool} {ms : List MbN} {w : World} (hA : Asc w) (hPl : (Tryz.prog.info? 28).map (·.size) = some PL.length) (hp : PL[0]? = some (.bool cabac)) (hh : HeadIs hd (0 : Nat) cnt 2 a0 a1 qp) (h17 : hd 17 = .int .i64 qp) (hw : 1 ≤ wide ∧ wide ≤ 8) (hq : 0 ≤ qp ∧ qp ≤ 51) (ha0 : 0 ≤ a0 ∧ a0 ≤ 8) (ha1 : 0 ≤ a1 ∧ a1 ≤ 8)
    (hcnt : cnt = ms.length) (h1 : 1 ≤ ms.length) (hms : ms.length ≤ 20) (hok : ∀ m ∈ ms, m.ok) (hk : k = ms.length) (hM : MbsAt w g ms) :
    Calls Tryz.prog 22 #[.agg (hdL hd).toArray, .agg PL.toArray, .int .i64 wide, .slice (some ⟨g, 0, none⟩) k cap] w (There w ms) := by
  obtain ⟨HL, hHL⟩ : ∃ HL, HL = hdL hd := ⟨_, rfl⟩
  obtain ⟨T, hT⟩ : ∃ T, T = textOf cabac 0 wide qp [] ms := ⟨_, rfl⟩
  have hHi : (Tryz.prog.info? 26).map (·.size) = some HL.length := by rw [hHL]; show _ = some 21; kernel_rfl
  have HNW : Hid (∀ wx bb, Asc wx → 0 < bb → WrIs wx bb (.slice none 0 0) [] → Calls Tryz.prog 12 #[.pointer (some ⟨bb, 0, none⟩), .agg HL.toArray, .agg PL.toArray, .int .i64 wide] wx (NewW wx hd 0 wide qp ms T [bb])) := Lib.hid (fun wx bb h1x h2x h3x => by
    rw [hHL, hT]
    exact new_writer (ov := .slice none 0 0) h1x (fun gx hg => by simp [Value.ownBlock] at hg; omega) h3x (by decide) (by simpa using hp) hh h17 hw (by omega) hq ha0 ha1 hcnt hms hok)
  have HNR : Hid (∀ wx, Asc wx → Calls Tryz.prog 17 #[.string T, .int .i64 0, .agg HL.toArray, .agg PL.toArray, .int .i64 wide] wx (NewR wx hd 0 wide qp ms)) := Lib.hid (fun wx h1x => by
    rw [hHL, hT]
    exact new_reader (bs := []) h1x (fun b hb => absurd hb (by simp)) (by decide) (by simpa using hp) hh h17 hw (by omega) hq ha0 ha1 hcnt hms hok)
  have hwA := heap_alloc_at (w.alloc (.cells HL.toArray 26)) (.cells PL.toArray 28)
  rw [World.size_alloc] at hwA
  have oA : Only [] w ((w.alloc (.cells HL.toArray 26)).alloc (.cells PL.toArray 28)) := ((Only.refl [] w).alloc _).alloc _
  have rH : ((w.alloc (.cells HL.toArray 26)).alloc (.cells PL.toArray 28)).rangeAt w.heap.size 0 HL := fun j v hj => by
    rw [Nat.zero_add, cells_of (heap_alloc_lt _ (heap_alloc_at w _))]
    simpa using hj
  have rP : ((w.alloc (.cells HL.toArray 26)).alloc (.cells PL.toArray 28)).rangeAt (w.heap.size + 1) 0 PL := fun j v hj => by
    rw [Nat.zero_add, cells_of hwA]
    simpa using hj
  have sA := lt_of_block hwA
  have HA := Lib.hid (hA.only oA (by simp))
  have Hpl := Lib.hid hPl
  have Hhi := Lib.hid hHi
  have HM := Lib.hid (hM.only oA)
  have HO := Lib.hid oA
  have HrH := Lib.hid rH
  have HrP := Lib.hid rP
  have Hh := Lib.hid hh
  have Hok := Lib.hid hok
  have Hk := Lib.hid hk
  have hk20 : k ≤ 20 := by omega
  have Hcnt := Lib.hid hcnt
  rw [← hHL]
  clear hPl hHi hwA oA rH rP hHL hT hA hM hh hok hp hk hcnt
  go_enter Tryz.func22, Tryz.ntmps22
  go_wp2_with fail
  generalize (w.alloc (.cells HL.toArray 26)).alloc (.cells PL.toArray 28) = wa at *
  refine wp_region_L (by kernel_rfl) (fun w' => w'.rangeAt w.heap.size 0 HL ∧ w'.rangeAt (w.heap.size + 1) 0 PL) 9 ?_
  have hS0 : (fun w' : World => w'.rangeAt w.heap.size 0 HL ∧ w'.rangeAt (w.heap.size + 1) 0 PL) wa.drew := ⟨HrH.out, HrP.out⟩
  refine AnyL.take 1 rfl (by kernel_rfl) (by kernel_rfl) (by kernel_rfl) (by kernel_rfl) (fun _ _ _ h => h) (by assumption) (yieldsIf_load_mid (by rfl) _ _ rfl w.heap.size 0 rfl HL _ (fun w' h => h.1) Tryz.underlying26 rfl Hhi.out) ?_
  try simp only [Act.put, List.setIfInBounds_toArray, List.set_cons_zero, List.set_cons_succ]
  refine AnyL.take 2 rfl (by kernel_rfl) (by kernel_rfl) (by kernel_rfl) (by kernel_rfl) (fun _ _ _ h => h) (by assumption) (yieldsIf_load_mid (by rfl) _ _ rfl (w.heap.size + 1) 0 rfl PL _ (fun w' h => h.2) Tryz.underlying28 rfl Hpl.out) ?_
  try simp only [Act.put, List.setIfInBounds_toArray, List.set_cons_zero, List.set_cons_succ]
  refine AnyL.take 3 (v := ?_) rfl (by kernel_rfl) (by kernel_rfl) (by kernel_rfl) (by kernel_rfl) (fun _ _ _ h => h) (by assumption) (Or.inl ⟨by rfl, ?_⟩) ?_
  rotate_left
  · (intro w' hSw; (try dsimp only at hSw); go_simp; try (with_reducible rfl))
  try simp only [Act.put, List.setIfInBounds_toArray, List.set_cons_zero, List.set_cons_succ]
  refine AnyL.one 0 (by kernel_rfl) rfl (fun K hK => ?_)
  go_simp
  refine (bits_new _).mono ?_
  rintro e w1 ⟨rfl, k1, k2, k3⟩
  have hSw1 : (fun w' : World => w'.rangeAt w.heap.size 0 HL ∧ w'.rangeAt (w.heap.size + 1) 0 PL) w1 := ⟨fun j v hj => k2.cell (hS0.1 j v hj) (by simp), fun j v hj => k2.cell (hS0.2 j v hj) (by simp)⟩
  have O1 : Hid (Only [] wa w1) := Lib.hid ((Only.refl [] wa).drew.trans k2)
  have K1 := Lib.hid k1
  have hbb : wa.heap.size < w1.heap.size := by rw [k3]; exact Nat.lt_succ_self _
  refine hK _ _ (fun _ => hSw1) (fun hKq => ?_)
  clear hK K hKq k1 k2 k3
  try simp only [Act.put, List.setIfInBounds_toArray, List.set_cons_zero, List.set_cons_succ]
  refine AnyL.one 4 (by kernel_rfl) rfl (fun K hK => ?_)
  go_simp
  refine (HNW.out w1 _ (HA.out.only O1.out (by simp)) (show _ < wa.heap.size from HA.out.lt) K1.out).mono ?_
  rintro e w2 ⟨wb, c, sb, G, rfl, o2, hb⟩
  have hSw2 : (fun w' : World => w'.rangeAt w.heap.size 0 HL ∧ w'.rangeAt (w.heap.size + 1) 0 PL) w2 := ⟨fun j v hj => o2.cell (hSw1.1 j v hj) (by simp; omega), fun j v hj => o2.cell (hSw1.2 j v hj) (by simp; omega)⟩
  have O2 : Hid (Only [] wa w2) := Lib.hid (O1.out.trans' o2 (fun i hi => .inr (by simp at hi; omega)))
  have hGn : Hid (∀ i ∈ G, wa.heap.size ≤ i) := Lib.hid (fun i hi => by
    rcases hb.new i hi with h | h
    · simp at h; omega
    · omega)
  have HB := Lib.hid hb
  refine hK _ _ (fun _ => hSw2) (fun hKq => ?_)
  clear hK K hKq o2 hb
  try simp only [Act.put, List.setIfInBounds_toArray, List.set_cons_zero, List.set_cons_succ]
  refine AnyL.take 5 (v := ?_) rfl (by kernel_rfl) (by kernel_rfl) (by kernel_rfl) (by kernel_rfl) (fun _ _ _ h => h) (by assumption) (Or.inl ⟨by rfl, ?_⟩) ?_
  rotate_left
  · (intro w' hSw; (try dsimp only at hSw); go_simp; try (with_reducible rfl))
  try simp only [Act.put, List.setIfInBounds_toArray, List.set_cons_zero, List.set_cons_succ]
  refine AnyL.take 6 (v := ?_) rfl (by kernel_rfl) (by kernel_rfl) (by kernel_rfl) (by kernel_rfl) (fun _ _ _ h => h) (by assumption) (Or.inl ⟨by rfl, ?_⟩) ?_
  rotate_left
  · (intro w' hSw; (try dsimp only at hSw); go_simp; try (with_reducible rfl))
  try simp only [Act.put, List.setIfInBounds_toArray, List.set_cons_zero, List.set_cons_succ]
  refine AnyL.take 7 (v := ?_) rfl (by kernel_rfl) (by kernel_rfl) (by kernel_rfl) (by kernel_rfl) (fun _ _ _ h => h) (by assumption) (Or.inl ⟨by rfl, ?_⟩) ?_
  rotate_left
  · (intro w' hSw; (try dsimp only at hSw); go_simp; try (with_reducible rfl))
  try simp only [Act.put, List.setIfInBounds_toArray, List.set_cons_zero, List.set_cons_succ]
  refine AnyL.take 8 (v := ?_) rfl (by kernel_rfl) (by kernel_rfl) (by kernel_rfl) (by kernel_rfl) (fun _ _ _ h => h) (by assumption) (Or.inl ⟨by rfl, ?_⟩) ?_
  rotate_left
  · (intro w' hSw; (try dsimp only at hSw); go_simp; try (with_reducible rfl))
  try simp only [Act.put, List.setIfInBounds_toArray, List.set_cons_zero, List.set_cons_succ]
  refine AnyL.one 9 (by kernel_rfl) rfl (fun K hK => ?_)
  go_simp
  refine hK _ _ (fun _ => hSw2) (fun hKq => ?_)
  clear hK K hKq
  try simp only [Act.put, List.setIfInBounds_toArray, List.set_cons_zero, List.set_cons_succ]
  refine AnyL.done (by kernel_rfl) ?_ _
  have hbs2 := O2.out.size
  clear O1 K1 hS0 hSw1 hbb
  have HS2 := Lib.hid hSw2
  clear hSw2
  go_wp2
  go_loopw [12] (fun q wr => ∃ (n : Nat) (G' : List Nat), n ≤ k ∧ q = .int .i64 (n : Int) ∧ Hid (Along c wr sb hd 0 wide qp ms n G') ∧ Hid (Only [] wa wr) ∧ Hid (∀ i ∈ G', wa.heap.size ≤ i)) (fun q _ => ((k : Int) - intOf q).toNat)
  case atStart => exact ⟨0, G, Nat.zero_le _, rfl, Lib.hid HB.out.along, O2, hGn⟩
  case round =>
    obtain ⟨n, G', hn, rfl, Hal, Hor, Hgn⟩ := hrel
    by_cases hnk : n < k
    · obtain ⟨m, hm⟩ : ∃ m, ms[n]? = some m := ⟨_, List.getElem?_eq_getElem (show n < ms.length by have := Hk.out; omega)⟩
      obtain ⟨X, hX1, hX2⟩ := (HM.out.only Hor.out).each n m hm
      have Hnext := Lib.hid (wr_next HB.out.ok HB.out.T HB.out.pv HB.out.wr HB.out.cell Hal.out hm Hok.out hq Hh.out (by decide) (by omega) (by have := Hk.out; omega) (by have := Hcnt.out; have := Hk.out; omega) hX2)
      obtain ⟨XL, hXL⟩ : ∃ XL, XL = (fnA 483 X).toList := ⟨_, rfl⟩
      have eX : fnA 483 X = XL.toArray := by rw [hXL, fnA_toArray]
      rw [eX] at Hnext
      rw [← hXL] at hX1
      have HrX := Lib.hid hX1
      have HXi := Lib.hid (show (Tryz.prog.info? 51).map (·.size) = some XL.length by rw [hXL, fnA_list_length]; kernel_rfl)
      clear hX1 hX2 hm hXL eX
      go_wp2_with (with_reducible refine wpList_load_mid rfl 51 _ rfl g (n * 483) rfl XL _ HrX.out Tryz.underlying51 rfl HXi.out ?_)
      refine Hnext.out.mono ?_
      rintro e w3 ⟨rfl, G2, q1, q2, q3⟩
      have Hal3 := Lib.hid q1
      have Hor3 : Hid (Only [] wa w3) := Lib.hid (Hor.out.trans' q2 (fun i hi => .inr (Hgn.out i hi)))
      have Hgn3 : Hid (∀ i ∈ G2, wa.heap.size ≤ i) := Lib.hid (fun i hi => by
        rcases q3 i hi with h | h
        · exact Hgn.out i h
        · have := Hor.out.size; omega)
      clear q1 q2 q3 Hnext Hal Hor Hgn HrX HXi
      go_wp2
      exact ⟨⟨n + 1, G2, by omega, rfl, Hal3, Hor3, Hgn3⟩, by simp [intOf]; omega⟩
    · obtain rfl : n = k := by omega
      have Hend := Lib.hid (HB.out.ends wr G' (by rw [← Hk.out]; exact Hal.out))
      go_wp2_with fail
      refine Hend.out.mono ?_
      rintro e w3 ⟨rfl, q1, q2⟩
      have O3 : Hid (Only [] wa w3) := Lib.hid (Hor.out.trans' q1 (fun i hi => .inr (Hgn.out i hi)))
      have HBy := Lib.hid q2
      have HrH3 : Hid (w3.rangeAt w.heap.size 0 HL) := Lib.hid (fun j v hj => O3.out.cell (HrH.out j v hj) (by simp))
      have HrP3 : Hid (w3.rangeAt (w.heap.size + 1) 0 PL) := Lib.hid (fun j v hj => O3.out.cell (HrP.out j v hj) (by simp))
      have HA3 := Lib.hid (HA.out.only O3.out (by simp))
      clear q1 q2 Hend Hal Hor Hgn
      go_wp2_with fail
      refine wp_region_L (by kernel_rfl) (fun w' => w'.rangeAt w.heap.size 0 HL ∧ w'.rangeAt (w.heap.size + 1) 0 PL) 10 ?_
      have hS0 : (fun w' : World => w'.rangeAt w.heap.size 0 HL ∧ w'.rangeAt (w.heap.size + 1) 0 PL) w3.drew := ⟨HrH3.out, HrP3.out⟩
      refine AnyL.take 0 (v := ?_) rfl (by kernel_rfl) (by kernel_rfl) (by kernel_rfl) (by kernel_rfl) (fun _ _ _ h => h) (by assumption) (Or.inl ⟨by rfl, ?_⟩) ?_
      rotate_left
      · (intro w' hSw; (try dsimp only at hSw); go_simp; try (with_reducible rfl))
      try simp only [Act.put, List.setIfInBounds_toArray, List.set_cons_zero, List.set_cons_succ]
      refine AnyL.take 2 rfl (by kernel_rfl) (by kernel_rfl) (by kernel_rfl) (by kernel_rfl) (fun _ _ _ h => h) (by assumption) (yieldsIf_load_mid (by rfl) _ _ rfl w.heap.size 0 rfl HL _ (fun w' h => h.1) Tryz.underlying26 rfl Hhi.out) ?_
      try simp only [Act.put, List.setIfInBounds_toArray, List.set_cons_zero, List.set_cons_succ]
      refine AnyL.take 3 rfl (by kernel_rfl) (by kernel_rfl) (by kernel_rfl) (by kernel_rfl) (fun _ _ _ h => h) (by assumption) (yieldsIf_load_mid (by rfl) _ _ rfl (w.heap.size + 1) 0 rfl PL _ (fun w' h => h.2) Tryz.underlying28 rfl Hpl.out) ?_
      try simp only [Act.put, List.setIfInBounds_toArray, List.set_cons_zero, List.set_cons_succ]
      refine AnyL.take 4 (v := ?_) rfl (by kernel_rfl) (by kernel_rfl) (by kernel_rfl) (by kernel_rfl) (fun _ _ _ h => h) (by assumption) (Or.inl ⟨by rfl, ?_⟩) ?_
      rotate_left
      · (intro w' hSw; (try dsimp only at hSw); go_simp; try (with_reducible rfl))
      try simp only [Act.put, List.setIfInBounds_toArray, List.set_cons_zero, List.set_cons_succ]
      refine AnyL.one 1 (by kernel_rfl) rfl (fun K hK => ?_)
      go_simp
      refine (HBy.out _ (Only.refl [] w3).drew).mono ?_
      rintro e w4 ⟨rfl, o4⟩
      have hSw4 : (fun w' : World => w'.rangeAt w.heap.size 0 HL ∧ w'.rangeAt (w.heap.size + 1) 0 PL) w4 := ⟨fun j v hj => o4.cell (hS0.1 j v hj) (by simp), fun j v hj => o4.cell (hS0.2 j v hj) (by simp)⟩
      have O4 : Hid (Only [] w3 w4) := Lib.hid ((Only.refl [] w3).drew.trans o4)
      refine hK _ _ (fun _ => hSw4) (fun hKq => ?_)
      clear hK K hKq o4
      try simp only [Act.put, List.setIfInBounds_toArray, List.set_cons_zero, List.set_cons_succ]
      refine AnyL.one 5 (by kernel_rfl) rfl (fun K hK => ?_)
      go_simp
      refine (HNR.out w4 (HA3.out.only O4.out (by simp))).mono ?_
      rintro e w5 ⟨rb, cr, sr, Gr, rfl, o5, hb5⟩
      have hSw5 : (fun w' : World => w'.rangeAt w.heap.size 0 HL ∧ w'.rangeAt (w.heap.size + 1) 0 PL) w5 := ⟨fun j v hj => o5.cell (hSw4.1 j v hj) (by simp), fun j v hj => o5.cell (hSw4.2 j v hj) (by simp)⟩
      have O5 : Hid (Only [] wa w5) := Lib.hid ((O3.out.trans O4.out).trans o5)
      have HR := Lib.hid hb5
      have HRn : Hid (∀ i ∈ Gr, w4.heap.size ≤ i) := Lib.hid hb5.new
      have hs4 : wa.heap.size ≤ w4.heap.size := (O3.out.trans O4.out).size
      have O45 : Hid (Only [] w4 w5) := Lib.hid o5
      have Oa4 : Hid (Only [] wa w4) := Lib.hid (O3.out.trans O4.out)
      refine hK _ _ (fun _ => hSw5) (fun hKq => ?_)
      clear hK K hKq o5 hb5 O4 HA3 hS0 hSw4 HrH3 HrP3 HBy O3
      try simp only [Act.put, List.setIfInBounds_toArray, List.set_cons_zero, List.set_cons_succ]
      refine AnyL.take 6 (v := ?_) rfl (by kernel_rfl) (by kernel_rfl) (by kernel_rfl) (by kernel_rfl) (fun _ _ _ h => h) (by assumption) (Or.inl ⟨by rfl, ?_⟩) ?_
      rotate_left
      · (intro w' hSw; (try dsimp only at hSw); go_simp; try (with_reducible rfl))
      try simp only [Act.put, List.setIfInBounds_toArray, List.set_cons_zero, List.set_cons_succ]
      refine AnyL.take 7 (v := ?_) rfl (by kernel_rfl) (by kernel_rfl) (by kernel_rfl) (by kernel_rfl) (fun _ _ _ h => h) (by assumption) (Or.inl ⟨by rfl, ?_⟩) ?_
      rotate_left
      · (intro w' hSw; (try dsimp only at hSw); go_simp; try (with_reducible rfl))
      try simp only [Act.put, List.setIfInBounds_toArray, List.set_cons_zero, List.set_cons_succ]
      refine AnyL.take 8 (v := ?_) rfl (by kernel_rfl) (by kernel_rfl) (by kernel_rfl) (by kernel_rfl) (fun _ _ _ h => h) (by assumption) (Or.inl ⟨by rfl, ?_⟩) ?_
      rotate_left
      · (intro w' hSw; (try dsimp only at hSw); go_simp; try (with_reducible rfl))
      try simp only [Act.put, List.setIfInBounds_toArray, List.set_cons_zero, List.set_cons_succ]
      refine AnyL.take 9 (v := ?_) rfl (by kernel_rfl) (by kernel_rfl) (by kernel_rfl) (by kernel_rfl) (fun _ _ _ h => h) (by assumption) (Or.inl ⟨by rfl, ?_⟩) ?_
      rotate_left
      · (intro w' hSw; (try dsimp only at hSw); go_simp; try (with_reducible rfl))
      try simp only [Act.put, List.setIfInBounds_toArray, List.set_cons_zero, List.set_cons_succ]
      refine AnyL.one 10 (by kernel_rfl) rfl (fun K hK => ?_)
      go_simp
      refine hK _ _ (fun _ => hSw5) (fun hKq => ?_)
      clear hK K hKq
      try simp only [Act.put, List.setIfInBounds_toArray, List.set_cons_zero, List.set_cons_succ]
      refine AnyL.done (by kernel_rfl) ?_ _
      clear hSw5
      go_wp2
      have hw5 : w.heap.size ≤ w5.heap.size := by have := O5.out.size; omega
      go_loopw [18, 17] (fun q v wr => ∃ (j : Nat) (G' : List Nat) (Xs : List (Nat → Value)), j ≤ n ∧ q = .int .i64 (j : Int) ∧ Hid (RdRow cr w4 wr sr hd wide qp ms j G' Xs v w.heap.size)) (fun q _ _ => ((n : Int) - intOf q).toNat)
      case atStart => exact ⟨0, Gr, [], Nat.zero_le _, rfl, Lib.hid ⟨HR.out.along, O45.out, HRn.out, World.ownsRow_nil _ _ _ _, rfl, fun a m X _ hX => absurd hX (by simp), fun g hg => by cases hg⟩⟩
      case round =>
        obtain ⟨j, G', Xs, hj, rfl, Hrow⟩ := hrel
        by_cases hjn : j < n
        · obtain ⟨m, hm⟩ : ∃ m, ms[j]? = some m := ⟨_, List.getElem?_eq_getElem (show j < ms.length by have := Hk.out; omega)⟩
          have Hnext := Lib.hid (rd_next HR.out.ok HR.out.T HR.out.pv HR.out.wr HR.out.cell Hrow.out.al hm Hok.out hq Hh.out (by decide) (by omega) (by have := Hk.out; omega) (by have := Hcnt.out; have := Hk.out; omega))
          have Hm := Lib.hid hm
          clear hm
          go_wp2_with fail
          refine Hnext.out.mono ?_
          rintro e w6 ⟨Xf, G2, rfl, q1, q2, q3, q4⟩
          obtain ⟨XL, hXL⟩ : ∃ XL, XL = (fnA 483 Xf).toList := ⟨_, rfl⟩
          have eX : fnA 483 Xf = XL.toArray := by rw [hXL, fnA_toArray]
          have hX1 := q4.one
          rw [eX] at hX1 ⊢
          have Hrow6 := Lib.hid (Hrow.out.read Hm.out q1 q2 q3 q4)
          rw [mbsA_snoc, ← hXL] at Hrow6
          have A6 := heap_alloc_at w6 (.cells Tryz.zeroCells51 51)
          have O6 := Lib.hid ((Only.refl [] w6).alloc (.cells Tryz.zeroCells51 51))
          have HX1 := Lib.hid hX1
          have HXi := Lib.hid (show (Tryz.prog.info? 51).map (·.size) = some XL.length by rw [hXL, fnA_list_length]; kernel_rfl)
          have HXj := Lib.hid (show (Tryz.prog.info? 51).map (·.size) = some XL.toArray.size by rw [List.size_toArray]; exact HXi.out)
          have HX483 := Lib.hid (show XL.length = 483 by rw [hXL, fnA_list_length])
          have HA6 := Lib.hid A6
          have HZ := Lib.hid ((show Tryz.zeroCells51.size = 483 by kernel_rfl).trans (show XL.toArray.size = 483 by rw [List.size_toArray, HX483.out]).symm)
          clear q1 q2 q3 q4 hX1 eX hXL Hrow Hnext A6
          go_wp2_with (with_reducible refine wpList_store_agg rfl 51 _ _ rfl w6.heap.size XL.toArray rfl rfl HA6.out HXj.out HZ.out HX1.out ?_)
          intro w7 hw7 ho7
          have O7 : Hid (Only [] w6 w7) := Lib.hid (O6.out.trans' ho7 (fun i hi => .inr (by simp at hi; omega)))
          have hr7 : w7.rangeAt w6.heap.size 0 XL := fun a v hv => by
            rw [Nat.zero_add, cells_of hw7]
            simpa using hv
          have Hr7 := Lib.hid hr7
          have hsz7 := O7.out.size
          have hsz6 : w.heap.size ≤ w6.heap.size := by have := Oa4.out.size; have := Hrow6.out.o.size; omega
          have N8 := Lib.hid (World.news_of_block (heap_alloc_at w7 (.cells XL.toArray 51)))
          have HX1l : Hid (∀ u ∈ XL, u.oneCell' = true) := Lib.hid (fun u hu => Array.all_eq_true_iff_forall_mem.1 HX1.out u (by simpa using hu))
          have Hown8 := Lib.hid (((ownsRow_of_block Hrow6.out.own (fun gg hg => by
            obtain ⟨cur, hcur⟩ := ownsRow_block Hrow6.out.own hg
            exact O7.out.block gg (lt_of_block hcur) (by simp))) : w7.ownsRow w.heap.size 51 483 u17 j (mbsA Xs)).alloc (.cells XL.toArray 51))
          clear hw7 ho7 hr7 O6 HA6 HZ HXj
          go_wp2_with fail
          refine (lw_num _ _).mono ?_
          rintro e wn ⟨rfl, rfl⟩
          have H48 := Lib.hid (show XL.toArray.size = 483 by rw [List.size_toArray, HX483.out])
          go_wp2_with (with_reducible first
            | refine wpList_load_mid rfl 51 _ rfl w6.heap.size 0 rfl XL _ Hr7.out Tryz.underlying51 rfl HXi.out ?_
            | refine wpList_build1 rfl 29 _ rfl eltMb XL.toArray rfl (by decide) H48.out ?_
            | refine held_at 84 rfl ?_)
          refine ⟨?_⟩
          have hb8 : w.heap.size ≤ (w7.alloc (.cells XL.toArray 51)).heap.size := by rw [World.size_alloc]; omega
          refine wpList_appendB rfl _ _ rfl eltMb w.heap.size u17 j (mbsA Xs) rfl Hown8.out ⟨w7.heap.size, 0, none⟩ 1 1 XL rfl HX483.out N8.out HX1l.out (by decide) (by omega) (by omega) hb8 ?_
          intro g9 cap9 w9 hp9
          have Hnew := Lib.hid (Hrow6.out.push HR.out.ok O7.out hp9.of_alloc)
          clear hp9 Hrow6 O7 Hr7 Hown8 N8
          go_wp2
          go_roundw
          case rel => exact ⟨_, _, _, _, _, _, _, _, _, _, _, _, _, _, _, _, _, _, _, _, _, _, _, _, ⟨j + 1, G2, Xs ++ [Xf], by omega, rfl, Hnew⟩, rfl⟩
          case measure => simp [intOf]; omega
        · obtain rfl : j = n := by omega
          have Hend2 := Lib.hid (HR.out.ends wr G' (by rw [← Hk.out]; exact Hrow.out.al))
          go_wp2_with fail
          refine Hend2.out.mono ?_
          rintro e w6 ⟨rfl, q1⟩
          have O6 : Hid (Only [] w w6) := Lib.hid (((HO.out.trans Oa4.out).trans Hrow.out.o).trans' q1 (fun i hi => .inr (by have := Hrow.out.new i hi; have := Oa4.out.size; omega)))
          have Hown6 : Hid (w6.ownsRow w.heap.size 51 483 u17 j (mbsA Xs)) := Lib.hid (ownsRow_of_block Hrow.out.own (fun gg hg => by
            obtain ⟨cur, hcur⟩ := ownsRow_block Hrow.out.own hg
            exact q1.block gg (lt_of_block hcur) (Hrow.out.dis gg hg).1))
          have Hmb : Hid (∀ (a : Nat) (m : MbN) (X : Nat → Value), ms[a]? = some m → Xs[a]? = some X → MbOutN w6 [] X m) := Lib.hid (fun a m X h1 h2 => (Hrow.out.mb a m X h1 h2).step q1 (fun i hi => .inl hi) (fun i hi => by cases hi))
          have Hlen := Lib.hid Hrow.out.len
          clear q1
          go_wp2_with fail
          refine (lw_num _ _).mono ?_
          rintro e wn ⟨rfl, rfl⟩
          go_wp2
          go_ret2
          exact ⟨u17, Xs, rfl, O6.out, by rw [← Hk.out]; exact Hown6.out, by rw [Hlen.out, Hk.out], Hmb.out⟩
end Go.Proofs.YtcppbdlmcbjmeaaGreatDoor

namespace Go.Proofs.YtcppbdlmcbjmeaaGreatDoor
open Go.RowKit

theorem mbsA_len : ∀ Xs : List (Nat → Value), (mbsA Xs).length = Xs.length * 483
  | [] => rfl
  | X :: Xs => by
    show ((fnA 483 X).toList ++ mbsA Xs).length = _
    rw [List.length_append, fnA_list_length, mbsA_len Xs, List.length_cons]
    omega
theorem mbsA_at : ∀ (Xs : List (Nat → Value)) (i j : Nat) (X : Nat → Value), Xs[i]? = some X → j < 483 → (mbsA Xs)[i * 483 + j]? = (fnA 483 X).toList[j]?
  | [], i, j, X, h, _ => by simp at h
  | Y :: Xs, 0, j, X, h, hj => by
    obtain rfl : Y = X := by simpa using h
    show ((fnA 483 Y).toList ++ mbsA Xs)[0 * 483 + j]? = _
    rw [Nat.zero_mul, Nat.zero_add, List.getElem?_append_left (by rw [fnA_list_length]; exact hj)]
  | Y :: Xs, i + 1, j, X, h, hj => by
    show ((fnA 483 Y).toList ++ mbsA Xs)[(i + 1) * 483 + j]? = _
    rw [List.getElem?_append_right (by rw [fnA_list_length]; omega), fnA_list_length, show (i + 1) * 483 + j - 483 = i * 483 + j by omega]
    exact mbsA_at Xs i j X (by simpa using h) hj
/-- A row's macroblock, as a range of cells. -/
theorem row_range {w : World} {B g n cap : Nat} {Xs : List (Nat → Value)} (h : w.ownsRow B 51 483 (.slice (some ⟨g, 0, none⟩) n cap) n (mbsA Xs)) {i : Nat} {X : Nat → Value} (hX : Xs[i]? = some X) : w.rangeAt g (i * 483) (fnA 483 X).toList := fun j v hj => by
  have hj2 : j < 483 := by
    apply Classical.byContradiction
    intro e
    rw [List.getElem?_eq_none (by rw [fnA_list_length]; omega)] at hj
    cases hj
  have h2 := h.cells (g := g) rfl (i * 483 + j) v (by rw [mbsA_at Xs i j X hX hj2, hj])
  rwa [Addr.add_lit, Nat.zero_add] at h2
theorem row_shape {w : World} {B s n : Nat} {e : TypeId} {v : Value} {xs : List Value} (h : w.ownsRow B e s v n xs) (hn : 0 < n) : ∃ g cap, v = .slice (some ⟨g, 0, none⟩) n cap ∧ B ≤ g ∧ g < w.heap.size := by
  rcases h.2 with ⟨_, h0⟩ | ⟨g, cap, cur, rfl, hb, hg, _⟩
  · omega
  · exact ⟨g, cap, rfl, hb, lt_of_block hg⟩
/-- A macroblock by its numbers, without samples. -/
def mbV (y : Nat → Int) : Nat → Value := fun j => if j = 482 then .slice none 0 0 else .int .i64 (y j)
theorem mbV_at {y : Nat → Int} {j : Nat} (h : j < 482) : mbV y j = .int .i64 (y j) := by
  unfold mbV
  rw [if_neg (by omega)]
theorem mbV_in {w : World} {m : MbN} (h : m.y 0 ≠ 2) : MbIn w (mbV m.y) m where
  cell := fun j hj => mbV_at hj
  pcm := ⟨none, 0, 0, rfl, by rw [if_neg h], fun _ => ⟨rfl, rfl⟩, fun h2 => absurd h2 h⟩
theorem mbV_one (y : Nat → Int) : (fnA 483 (mbV y)).all (·.oneCell') = true := by
  rw [Array.all_eq_true_iff_forall_mem]
  intro v hv
  obtain ⟨j, hj, rfl⟩ : ∃ j, j < 483 ∧ mbV y j = v := by simpa [fnA] using hv
  unfold mbV
  split <;> rfl
/-- An intra macroblock without coefficients. -/
theorem plain_ok {y : Nat → Int} (h0 : y 0 = 0 ∨ y 0 = 1) (h1 : y 0 = 0 → (∀ i, i < 16 → 0 ≤ y (2 + i) ∧ y (2 + i) ≤ 8) ∧ y 18 = 0 ∧ y 49 = 0) (h2 : y 0 = 1 → (∀ i, i < 16 → y (2 + i) = 0) ∧ 0 ≤ y 18 ∧ y 18 ≤ 3 ∧ 0 ≤ y 49 ∧ y 49 ≤ 51) (h3 : 0 ≤ y 19 ∧ y 19 ≤ 3) (hz : ∀ j, j < 482 → (j = 1 ∨ (20 ≤ j ∧ j ≠ 49)) → y j = 0) : IntraOk y (fun _ => 0) where
  body := by
    have h48 := hz 48 (by decide) (by omega)
    refine ⟨?_, ?_, ?_, ?_, fun e => ⟨(h1 e).1, h3⟩, fun e => ⟨(h2 e).2.1 |> fun a => ⟨a, (h2 e).2.2.1⟩, h3⟩, fun e => by omega, fun e => by omega⟩
    · unfold hasP; omega
    · unfold idleOk
      refine ⟨?_, ?_, ?_, .inr (hz 1 (by decide) (by omega)), .inr (by rw [if_neg (by omega)])⟩
      · rcases h0 with h | h
        · exact .inl h
        · exact .inr (allEq_iff.2 (h2 h).1)
      · rcases h0 with h | h
        · exact .inl h
        · exact .inr (.inl h)
      · rcases h0 with h | h
        · exact .inr (h1 h).2.1
        · exact .inl h
    · unfold qpOk
      rcases h0 with h | h
      · rw [h48, h, if_neg (by decide)]
        exact (h1 h).2.2
      · rw [h48, h, if_pos (by decide)]
        exact (h2 h).2.2.2
    · refine (coefsOk_iff (L := 0) (G := 0) (by decide) (by decide) (by rw [h48]; rfl)).2 ⟨fun _ => .inl rfl, fun b hb => ?_, fun k hk => ?_⟩
      · have h : ∀ i, i < 16 → y (50 + b * 16 + i) = 0 := fun i hi => hz _ (by omega) (by omega)
        refine ⟨fun _ => h, fun _ => h 0 (by decide), fun i hi => ?_⟩
        rw [h i hi]; omega
      · have h : ∀ i, i < 16 → y (434 + k * 16 + i) = 0 := fun i hi => hz _ (by omega) (by omega)
        refine ⟨fun _ => h, fun _ i hi => ?_, fun i hi => ?_⟩
        · have := h (4 + i) (by omega)
          rwa [← Nat.add_assoc] at this
        · rw [h i hi]; omega
  parts := fun i hi => hz _ (by omega) (by omega)
  pcm := fun _ _ => by omega
/-- A header of so many macroblocks of type I. -/
def hdQ (k q : Int) : Nat → Value := fun j => if j = 1 then .int .i64 k else if j = 2 then .int .i64 2 else if j = 17 then .int .i64 q else if j = 6 ∨ j = 15 ∨ j = 18 then .bool false else if j = 9 ∨ j = 10 ∨ j = 13 ∨ j = 14 ∨ j = 16 then .slice none 0 0 else .int .i64 0
theorem hdQ_is (k q : Int) : HeadIs (hdQ k q) (0 : Nat) k 2 0 0 q := ⟨rfl, rfl, rfl, rfl, rfl, rfl⟩
theorem built_hdQ (k q : Int) : Tryz.prog.built 26 [(1, .int .i64 k), (2, .int .i64 2), (17, .int .i64 q)] = some (hdL (hdQ k q)).toArray := by kernel_rfl
theorem hdQ_one (k q : Int) : (hdL (hdQ k q)).toArray.all (·.oneCell') = true := by kernel_rfl
def ppsQ (c : Bool) : List Value := [.bool c, .bool false, .int .i64 0, .int .i64 0, .int .i64 0, .bool false, .bool false, .int .i64 1, .int .i64 1]
theorem built_ppsQ (c : Bool) : Tryz.prog.built 28 [(0, .bool c), (7, .int .i64 1), (8, .int .i64 1)] = some (ppsQ c).toArray := by kernel_rfl
/-- A macroblock by its mean, with a Qp. -/
def dcY (q : Int) : Nat → Int := fun j => if j = 0 then 1 else if j = 18 then 2 else if j = 49 then q else 0
theorem built_dc (q : Int) : Tryz.prog.built 51 [(0, .int .i64 1), (3, .int .i64 2), (7, .int .i64 q)] = some (fnA 483 (mbV (dcY q))) := by kernel_rfl
def dcM (q : Int) : MbN := ⟨dcY q, fun _ => 0⟩
theorem dcM_ok {q : Int} (h : 0 ≤ q ∧ q ≤ 51) : (dcM q).ok := by
  refine plain_ok (y := dcY q) (.inr rfl) (fun e => absurd e (show (1 : Int) ≠ 0 by decide)) (fun _ => ⟨fun i hi => ?_, (show (0 : Int) ≤ 2 by decide), (show (2 : Int) ≤ 3 by decide), h⟩) (show (0 : Int) ≤ 0 ∧ (0 : Int) ≤ 3 by decide) (fun j hj hz => ?_)
  · unfold dcY
    rw [if_neg (by omega), if_neg (by omega), if_neg (by omega)]
  · unfold dcY
    rw [if_neg (by omega), if_neg (by omega), if_neg (by omega)]
end Go.Proofs.YtcppbdlmcbjmeaaGreatDoor
