/-
  The walks over a reader of macroblocks with an engine; such a reader is a coder.
-/
import Derived.Test.YtcppbdlmcbjmeaaGreatDoorJ38
import Derived.Test.YtcppbdlmcbjmeaaGreatDoorJ31
import Derived.Test.YtcppbdlmcbjmeaaGreatDoorJ33
namespace Go.Proofs.YtcppbdlmcbjmeaaGreatDoor
open Go.RowKit

theorem DecIs.low {w : World} {b tb sb : Nat} {d : Dec} (h : DecIs w b tb sb d) : b < w.heap.size ∧ tb < w.heap.size ∧ sb < w.heap.size := ⟨lt_of_block h.cells, lt_of_block h.tab, lt_of_block h.sts⟩
/-- A decoder since a world without blocks. -/
theorem DecAt.bare {w : World} {b tb sb : Nat} {d : Dec} (h : DecIs w b tb sb d) (hg : d.Ok) : DecAt { w with heap := #[] } w b tb sb d :=
  ⟨h, hg, ⟨rfl, rfl, rfl, Nat.zero_le _, fun k hk _ => absurd hk (Nat.not_lt_zero k)⟩, Nat.zero_le _, Nat.zero_le _, Nat.zero_le _⟩
set_option maxRecDepth 100000 in
set_option maxHeartbeats 800000 in
theorem cg_element {rb sb bb db tb sk : Nat} {over : Bool} {fr code : Int} {t : ByteArray} {d d' : Dec} {el inc v v' most : Int} {w : World} (hW : RcIs w rb sb bb t (.pointer (some ⟨db, 0, none⟩)) fr code over) (h : DecIs w db tb sk d) (hk : d.Ok) (hg : d.gives (elemDeeds el inc v most) d') (hf : (Ask.elem el inc v most).fine) (hs : d.s.size ≤ 140737488355328) :
    Calls Tryz.prog 261 #[.pointer (some ⟨rb, 0, none⟩), .int .i64 el, .int .i64 inc, .int .i64 v', .int .i64 most] w fun r w' => r = .returned (.int .i64 v) ∧ DecIs w' db tb sk d' ∧ d'.Ok ∧ Only [db, sk] w w' := by
  obtain ⟨-, -, -, c3, -⟩ := hW.cells
  have hget := bins_get (DecAt.bare h hk) el inc v most hf.2.1 hf.2.2.1 hf.2.2.2 hg hs
  have HG := Lib.hid hget
  clear hget hW h hk hg hf
  go_enter Tryz.func261, Tryz.ntmps261
  go_wp2_with fail
  refine HG.out.mono ?_
  rintro r w1 ⟨rfl, h1, h2⟩
  have H1 := Lib.hid h1
  have H2 := Lib.hid h2
  clear h1 h2 HG
  go_wp2_with fail
  refine (sx_got _ w1).mono ?_
  rintro r w2 ⟨rfl, rfl⟩
  go_wp2
  go_ret
  exact ⟨rfl, H1.out.is, H1.out.ok, H2.out⟩
set_option maxRecDepth 100000 in
set_option maxHeartbeats 1600000 in
theorem cg_coefs {rb sb bb db tb sk mb off cap : Nat} {over : Bool} {fr code : Int} {t : ByteArray} {d d' : Dec} {cs : List Int} {cat inc : Int} {X : Nat → Value} {w : World} (hW : RcIs w rb sb bb t (.pointer (some ⟨db, 0, none⟩)) fr code over) (h : DecIs w db tb sk d) (hk : d.Ok) (hst : d.st.length = 256) (hg : d.gives (sigDeeds cs cat inc) d') (hB : BlkIn w mb 483 51 X) (ho : off + cs.length ≤ 482)
    (hf : blkFine cs cat inc = true) (hne : mb ≠ db ∧ mb ≠ sk ∧ mb ≠ tb) (hs : d.s.size ≤ 140737488355328) :
    Calls Tryz.prog 260 #[.pointer (some ⟨rb, 0, none⟩), .slice (some ⟨mb, off, none⟩) cs.length cap, .int .i64 cat, .int .i64 inc] w fun r w' => r = .returned (.tuple #[]) ∧ DecIs w' db tb sk d' ∧ d'.Ok ∧ Only [db, sk, mb] w w' ∧
      BlkIn w' mb 483 51 (fun j => if off ≤ j ∧ j < off + cs.length then .int .i64 (cs.getD (j - off) 0) else X j) := by
  obtain ⟨-, -, -, c3, -⟩ := hW.cells
  have hfine := blkFine_spec hf
  have hsz := mayB_spec hfine.1
  have hget := sig_get (DecAt.bare h hk) cs cat inc hfine.1 hfine.2 hg hs hst
  have hms := hB.lt
  have hsp := fnA_splice 483 off X cs (by omega)
  obtain ⟨n, hn⟩ : ∃ n, n = cs.length := ⟨_, rfl⟩
  rw [← hn] at hget ho
  have hn4 : 4 ≤ n := by omega
  have HG := Lib.hid hget
  have HB := Lib.hid hB
  have Hsp := Lib.hid hsp
  have Hn := Lib.hid hn
  have Hne := Lib.hid hne
  rw [show (Value.slice (some ⟨mb, off, none⟩) cs.length cap) = Value.slice (some ⟨mb, off, none⟩) n cap by rw [hn]]
  clear hget hB hsp h hk hst hg hf hfine hsz hW hn hne
  go_enter Tryz.func260, Tryz.ntmps260
  go_wp2_with fail
  refine HG.out.mono ?_
  rintro r w1 ⟨g, capg, rfl, h1, h3, h4⟩
  have hB1 : w1.heap[mb]? = some (.cells (fnA 483 X) 51 (0, 0)) := HB.out.only h4 (by simp; exact ⟨Hne.out.1, Hne.out.2.1⟩)
  have hgc : ∀ (j : Nat) (v : Value), (cs.map (Value.int .i64))[j]? = some v → w1.cell? ((⟨g, 0, none⟩ : Addr).add j) = some v := by
    intro j v hj
    have hjl : j < cs.length := by
      apply Classical.byContradiction
      intro e
      rw [List.getElem?_eq_none (by simp; omega)] at hj
      cases hj
    obtain ⟨ao, cap9, hv9, hx9⟩ := h1
    injection hv9 with e1 e2 e3
    rcases hx9 with h0 | ⟨g9, off9, h5, h6⟩
    · rw [h0] at hjl; simp at hjl
    · rw [h5] at e1
      injection e1 with e1
      injection e1 with e1 e4
      subst e1 e4
      have h7 := h6 j hjl
      rw [Nat.zero_add] at h7
      rw [Addr.add_lit, Nat.zero_add, h7]
      rw [List.getElem?_map, List.getElem?_eq_getElem hjl] at hj
      simpa [List.getD, List.getElem?_eq_getElem hjl] using hj
  have H3 := Lib.hid h3
  have H4 := Lib.hid h4
  have HB1 := Lib.hid hB1
  have Hgc := Lib.hid hgc
  clear h1 h3 h4 hB1 hgc HG HB
  go_wp2_with fail
  refine (sx_gots _ _ _ w1).mono ?_
  rintro r w2 ⟨rfl, rfl⟩
  go_wp2_with (refine wpList_copy_block rfl _ _ _ _ rfl 3 (by kernel_rfl) (by kernel_rfl) mb off n cap ⟨g, 0, none⟩ n capg rfl rfl (fnA 483 X) 51 HB1.out (cs.map (Value.int .i64)) (by simp [Hn.out]) Hgc.out (by simp [fnA]; have := Hn.out; omega) (by simp [Value.oneCell']) ?_)
  intro w3 hg3 ho3
  rw [Hsp.out] at hg3
  have G3 := Lib.hid hg3
  have O3 := Lib.hid ho3
  clear hg3 ho3
  go_wp2
  go_end0
  exact ⟨rfl, H3.out.is.only O3.out (by simpa using Ne.symm Hne.out.1) (by simpa using Ne.symm Hne.out.2.2) (by simpa using Ne.symm Hne.out.2.1), H3.out.ok, (H4.out.mono (T := [db, sk, mb]) (by simp)).trans (O3.out.mono (by simp)), G3.out⟩
theorem gives_raw {d d' : Dec} {x m : Nat} (h : d.gives (rawDeeds x (m + 1)) d') : ∃ d1, d.bypass = (((x / 2 ^ m % 2 : Nat) : Int), 0, d1) ∧ d1.s = d.s ∧ d1.gives (rawDeeds x m) d' := by
  rw [rawDeeds_step] at h
  exact h
set_option maxRecDepth 100000 in
set_option maxHeartbeats 1600000 in
theorem cg_raw {rb sb bb db tb sk : Nat} {over : Bool} {fr code : Int} {t : ByteArray} {d d' : Dec} {x : Nat} {v' : Int} {w : World} (hW : RcIs w rb sb bb t (.pointer (some ⟨db, 0, none⟩)) fr code over) (h : DecIs w db tb sk d) (hk : d.Ok) (hg : d.gives (rawDeeds x 8) d') (hx : x ≤ 255) (hn : rb ≠ db ∧ rb ≠ sk) (hs : d.s.size ≤ 140737488355328) :
    Calls Tryz.prog 262 #[.pointer (some ⟨rb, 0, none⟩), .int .u8 v'] w fun r w' => r = .returned (.int .u8 x) ∧ DecIs w' db tb sk d' ∧ d'.Ok ∧ Only [db, sk] w w' := by
  have HW := Lib.hid hW
  have H := Lib.hid h
  have HK := Lib.hid hk
  have HG := Lib.hid hg
  have Hn := Lib.hid hn
  obtain ⟨-, -, -, c3, -⟩ := hW.cells
  clear hW h hk hg hn
  go_enter Tryz.func262, Tryz.ntmps262
  go_wp2
  go_loopw [5, 20] (fun a q wr => ∃ (m : Nat) (d1 : Dec) (y : Nat), m ≤ 8 ∧ q = .int .i64 ((8 - m : Nat) : Int) ∧ a = .int .i64 y ∧ Hid (y = x / 2 ^ m) ∧ DecIs wr db tb sk d1 ∧ Hid d1.Ok ∧ Hid (d1.gives (rawDeeds x m) d') ∧ Hid (d1.s = d.s) ∧ Only [db, sk] w wr) (fun _ q _ => 8 - (intOf q).toNat)
  case atStart => exact ⟨8, d, 0, Nat.le_refl _, rfl, rfl, Lib.hid (by omega), H.out, HK, HG, Lib.hid rfl, Only.refl _ _⟩
  case round =>
    obtain ⟨m, d1, y, hm, rfl, rfl, hy, h1, hk1, hg1, hs1, ho1⟩ := hrel
    have hWr : RcIs wr rb sb bb t (.pointer (some ⟨db, 0, none⟩)) fr code over := HW.out.only ho1 (by simp; exact Hn.out)
    obtain ⟨-, -, -, c3, -⟩ := hWr.cells
    have H1 := Lib.hid h1
    have O1 := Lib.hid ho1
    have hyb : y ≤ 255 := by have h9 := hy.out; have h8 := Nat.div_le_self x (2 ^ m); omega
    by_cases h0 : m = 0
    · subst h0
      have hyx : y = x := by have := hy.out; simpa using this
      have hd : d' = d1 := hg1.out
      have hw8 : IntKind.u8.wrap (y : Int) = (x : Int) := by rw [IntKind.wrap_u8, hyx]; omega
      have Hd := Lib.hid hd
      have Hyx : Hid ((y : Int) = (x : Int)) := Lib.hid (by omega)
      clear h1 ho1 hWr hyx hd hw8
      go_wp2
      go_ret
      exact ⟨ret_int Hyx.out, by rw [Hd.out]; exact H1.out, by rw [Hd.out]; exact hk1.out, O1.out⟩
    · obtain ⟨k, rfl⟩ : ∃ k, m = k + 1 := ⟨m - 1, by omega⟩
      obtain ⟨d2, g1, g2, g3⟩ := gives_raw hg1.out
      have G1 := Lib.hid g1
      have G3 := Lib.hid g3
      have S2 : Hid (d2.s = d.s) := Lib.hid (by rw [g2, hs1.out])
      obtain ⟨z, hz⟩ : ∃ z, z = x / 2 ^ k % 2 := ⟨_, rfl⟩
      have hz1 : z ≤ 1 := by rw [hz]; omega
      have hyz : 2 * y + z = x / 2 ^ k := by
        have h2 := hy.out
        rw [hz, h2, Nat.pow_succ, ← Nat.div_div_eq_div_mul]
        omega
      have Hz := Lib.hid hz
      have Hyz := Lib.hid hyz
      have hq : ((8 - (k + 1) : Nat) : Int) < 8 := by omega
      have hq2 : ((8 - (k + 1) : Nat) : Int) + 1 = ((8 - k : Nat) : Int) := by omega
      obtain ⟨q, hqe⟩ : ∃ q, q = 8 - (k + 1) := ⟨_, rfl⟩
      rw [← hqe] at hq hq2 ⊢
      have Hq2 := Lib.hid hq2
      have hq3 : q ≤ 8 := by omega
      have hqk := Lib.hid (show q + k = 7 by omega)
      clear h1 ho1 hWr g1 g2 g3 hz hyz hqe hq2
      go_wp2_with fail
      refine ((DecAt.bare H1.out hk1.out).bypass (by rw [hs1.out]; exact hs)).mono ?_
      rintro r w1 ⟨rfl, h4, o4⟩
      rw [G1.out] at h4 ⊢
      rw [← Hz.out]
      have H4 := Lib.hid h4
      have O4 := Lib.hid (O1.out.trans o4)
      clear h4 o4
      dsimp only
      go_wp2_with fail
      refine (sx_got _ w1).mono ?_
      rintro r w2 ⟨rfl, rfl⟩
      go_wp2
      rw [Hq2.out]
      exact ⟨⟨k, d2, 2 * y + z, by omega, rfl, by simp, Hyz, H4.out.is, Lib.hid H4.out.ok, G3, S2, O4.out⟩, by have := hqk.out; simp [intOf]; omega⟩
/-- The coder: what it has still to read is what of 'ops' comes behind those that are read. -/
def geCod (rb sb bb db tb sk : Nat) (t : ByteArray) (fr : Int) (xs : List Int) (ops : List Deed) : Cod where
  C F acts w := ∃ (d : Dec) (j : Nat), F = [rb, db, tb, sk] ∧ RcIs w rb sb bb t (.pointer (some ⟨db, 0, none⟩)) fr 0 false ∧ DecIs w db tb sk d ∧ d.Ok ∧ Read xs ops j d ∧ ops.drop j = asksDeeds acts ∧ (∀ a ∈ acts, a.fine) ∧ xs.length = 256 ∧ (∀ o ∈ ops, o.fits 256) ∧ d.s.size ≤ 140737488355328
  wr := false
  T := 53
  pv := .pointer (some ⟨rb, 0, none⟩)
  fE := 261
  fC := 260
  fR := 262
theorem RcIs.neD {w : World} {rb sb bb db tb sk : Nat} {t : ByteArray} {dv : Value} {fr code : Int} {over : Bool} {d : Dec} (h : RcIs w rb sb bb t dv fr code over) (k : DecIs w db tb sk d) : rb ≠ db ∧ rb ≠ tb ∧ rb ≠ sk := by
  unfold RcIs at h
  exact ⟨block_type h k.cells (by decide), block_type h k.tab (by decide), block_type h k.sts (by decide)⟩
theorem ge_gives {xs : List Int} {ops : List Deed} {d : Dec} {j : Nat} {a : Ask} {r : List Ask} (hR : Read xs ops j d) (ht : ops.drop j = asksDeeds (a :: r)) (hx : xs.length = 256) (hf : ∀ o ∈ ops, o.fits 256) :
    ∃ d', d.gives a.deeds d' ∧ Read xs ops (j + a.deeds.length) d' ∧ ops.drop (j + a.deeds.length) = asksDeeds r ∧ d'.s = d.s := by
  obtain ⟨d', h1, h2⟩ := hR.gives xs ops a.deeds (by rw [hx]; exact hf) j d (asksDeeds r) ht
  refine ⟨d', h1, h2, ?_, Dec.gives_s _ _ _ h1⟩
  rw [← List.drop_drop, ht]
  exact List.drop_left
theorem geCod_ok (rb sb bb db tb sk : Nat) (t : ByteArray) (fr : Int) (xs : List Int) (ops : List Deed) : (geCod rb sb bb db tb sk t fr xs ops).Ok where
  mE := fun w => by kernel_rfl
  mC := fun w => by kernel_rfl
  mR := fun w => by kernel_rfl
  eE := fun args w => run_enter Tryz.func261 (by kernel_rfl) (by kernel_rfl) args w
  eC := fun args w => run_enter Tryz.func260 (by kernel_rfl) (by kernel_rfl) args w
  eR := fun args w => run_enter Tryz.func262 (by kernel_rfl) (by kernel_rfl) args w
  elem := by
    rintro F r w el inc v most v' ⟨d, j, rfl, hW, h, hk, hR, ht, hf, hx, ho, hs⟩ hv
    obtain ⟨d', g1, g2, g3, g4⟩ := ge_gives hR ht hx ho
    refine (cg_element hW h hk g1 (hf _ (by simp)) hs).mono ?_
    rintro e w' ⟨rfl, h1, h2, h3⟩
    have n := hW.neD h
    exact ⟨rfl, _, ⟨d', _, rfl, hW.only h3 (by simp; exact ⟨n.1, n.2.2⟩), h1, h2, g2, g3, fun x hx => hf x (by simp [hx]), hx, ho, by rw [g4]; exact hs⟩, ⟨h3.mono (fun i hi => by simp at hi ⊢; rcases hi with h | h <;> simp [h]), fun i hi => .inl hi⟩⟩
  raw := by
    rintro F r w v v' ⟨d, j, rfl, hW, h, hk, hR, ht, hf, hx, ho, hs⟩ hv h0 h1
    obtain ⟨d', g1, g2, g3, g4⟩ := ge_gives hR ht hx ho
    have hv2 : 0 ≤ v ∧ v ≤ 255 := hf (.raw v) (by simp)
    obtain ⟨x, rfl⟩ := Int.eq_ofNat_of_zero_le hv2.1
    have n := hW.neD h
    refine (cg_raw hW h hk g1 (by omega) ⟨n.1, n.2.2⟩ hs).mono ?_
    rintro e w' ⟨rfl, h1, h2, h3⟩
    exact ⟨rfl, _, ⟨d', _, rfl, hW.only h3 (by simp; exact ⟨n.1, n.2.2⟩), h1, h2, g2, g3, fun x hx => hf x (by simp [hx]), hx, ho, by rw [g4]; exact hs⟩, ⟨h3.mono (fun i hi => by simp at hi ⊢; rcases hi with h | h <;> simp [h]), fun i hi => .inl hi⟩⟩
  coefs := by
    rintro F r w cs cat inc mb off cap X ⟨d, j, rfl, hW, h, hk, hR, ht, hf, hx, ho, hs⟩ hB hoff hc hm hn hv
    obtain ⟨d', g1, g2, g3, g4⟩ := ge_gives hR ht hx ho
    simp only [List.mem_cons, List.not_mem_nil, or_false, not_or] at hm
    have n := hW.neD h
    have hst : d.st.length = 256 := by
      have hl : (Enc.new xs).st.length = xs.length := by simp [Enc.new, beginOf]
      rw [hR.meets.st, ((Enc.new xs).live_run (ops.take j) (Enc.live_new xs) (fun o ho2 => by rw [hl, hx]; exact ho o (List.mem_of_mem_take ho2))).2.1, hl, hx]
    refine (cg_coefs hW h hk hst g1 hB hoff (hf (.coefs cs cat inc) (by simp)) ⟨hm.2.1, hm.2.2.2, hm.2.2.1⟩ hs).mono ?_
    rintro e w' ⟨rfl, h1, h2, h3, h4⟩
    exact ⟨rfl, _, ⟨d', _, rfl, hW.only h3 (by simp; exact ⟨n.1, n.2.2, Ne.symm hm.1⟩), h1, h2, g2, g3, fun x hx => hf x (by simp [hx]), hx, ho, by rw [g4]; exact hs⟩, ⟨h3.mono (fun i hi => by simp at hi ⊢; rcases hi with h | h | h <;> simp [h]), fun i hi => .inl (List.mem_cons_of_mem _ hi)⟩, by simp; exact ⟨hm.1, hm.2.1, hm.2.2.1, hm.2.2.2⟩, h4⟩
  keep := by
    rintro F r w w' X ⟨d, j, rfl, hW, h, hk, hR, ht, hf, hx, ho, hs⟩ hon hX
    exact ⟨d, j, rfl, hW.only hon (hX rb (by simp)), h.only hon (hX db (by simp)) (hX tb (by simp)) (hX sk (by simp)), hk, hR, ht, hf, hx, ho, hs⟩
  low := by
    rintro F r w ⟨d, j, rfl, hW, h, hk, hR, ht, hf, hx, ho, hs⟩ i hi
    simp only [List.mem_cons, List.not_mem_nil, or_false] at hi
    have l := h.low
    rcases hi with rfl | rfl | rfl | rfl
    · exact lt_of_block hW
    · exact l.1
    · exact l.2.1
    · exact l.2.2
end Go.Proofs.YtcppbdlmcbjmeaaGreatDoor
