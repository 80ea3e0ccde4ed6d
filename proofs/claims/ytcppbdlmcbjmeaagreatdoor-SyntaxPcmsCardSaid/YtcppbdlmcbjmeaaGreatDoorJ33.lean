/-
  The walk over package sig's block and run: a block is gone over, both ways. The walks over package sig's may, Put, Get. The walk over package sig's Get, where the decoder gives the block's bins. The walks over package sig's Put: a block that may be, one that may not.
-/
import Derived.Test.YtcppbdlmcbjmeaaGreatDoorJ32
import Derived.Test.YtcppbdlmcbjmeaaGreatDoorJ05
import Derived.Test.YtcppbdlmcbjmeaaGreatDoorJ02
namespace Go.Proofs.YtcppbdlmcbjmeaaGreatDoor
open Go.RowKit

/-- A store into the row. -/
theorem MemAt.set {w : World} {mb n p : Nat} {mem : List Int} (h : MemAt w mb n mem) (v : Int) (hp : p < mem.length) : MemAt (w.setCell ⟨mb, p, none⟩ (.int .i64 v)) mb n (mem.set p v) := by
  obtain ⟨cur, h1, h2⟩ := h
  refine ⟨_, heap_set_same _ h1, fun i hi => ?_⟩
  have h3 := h2 i hi
  by_cases hip : p = i
  · subst hip
    have hlt : p < cur.size := by
      rcases Nat.lt_or_ge p cur.size with h | h
      · exact h
      · rw [Array.getElem?_eq_none h] at h3; cases h3
    rw [Array.getElem?_setIfInBounds, if_pos rfl, if_pos hlt]
    simp [List.getD, hp]
  · rw [Array.getElem?_setIfInBounds, if_neg hip, h3]
    simp [List.getD, hip]
/-- The memory when the places of D are told: there the block's numbers, elsewhere what was. -/
def toldMem (cs mem : List Int) (D : List Nat) : List Int := (List.range mem.length).map fun i => if i ∈ D then cs.getD i 0 else mem.getD i 0
theorem toldMem_length (cs mem : List Int) (D : List Nat) : (toldMem cs mem D).length = mem.length := by simp [toldMem]
theorem toldMem_at (cs mem : List Int) (D : List Nat) (i : Nat) (hi : i < mem.length) : (toldMem cs mem D).getD i 0 = if i ∈ D then cs.getD i 0 else mem.getD i 0 := by
  simp [toldMem, List.getD, hi]
theorem toldMem_nil (cs mem : List Int) : toldMem cs mem [] = mem := by
  apply List.ext_getElem?
  intro i
  by_cases h : i < mem.length
  · simp [toldMem, h, List.getD]
  · simp [toldMem, h]
theorem toldMem_set (cs mem : List Int) (D : List Nat) (p : Nat) : (toldMem cs mem D).set p (cs.getD p 0) = toldMem cs mem (p :: D) := by
  apply List.ext_getElem?
  intro i
  rw [List.getElem?_set]
  by_cases h : i < mem.length
  · by_cases hp : p = i
    · subst hp; simp [toldMem, h]
    · have hp2 : ¬ i = p := fun e => hp e.symm
      simp [toldMem, h, hp, hp2]
  · by_cases hp : p = i
    · subst hp; simp [toldMem, h]
    · simp [toldMem, h, hp]
theorem toldMem_full (cs mem : List Int) (P : List Nat) (hl : cs.length = mem.length) (h : ∀ i, i < cs.length → i ∉ P → mem.getD i 0 = cs.getD i 0) : toldMem cs mem P = cs := by
  apply List.ext_getElem?
  intro i
  by_cases hi : i < mem.length
  · have hi2 : i < cs.length := by omega
    have h1 := h i hi2
    simp only [toldMem, List.getElem?_map, List.getElem?_range hi, Option.map_some, List.getElem?_eq_getElem hi2]
    congr 1
    split
    · simp [List.getD, List.getElem?_eq_getElem hi2]
    · rename_i hn
      rw [h1 hn]
      simp [List.getD, List.getElem?_eq_getElem hi2]
  · have hi2 : ¬ i < cs.length := by omega
    simp [toldMem, hi, List.getElem?_eq_none (by omega : cs.length ≤ i)]
theorem bits14 (v : Int) (h : v = 0 ∨ v = 1) : bitsE 14 v 1 = 0 := by rcases h with rfl | rfl <;> rfl
theorem bits17 (v : Int) (h0 : 0 ≤ v) (h1 : v ≤ 65535) : bitsE 17 v 1 = 0 := by
  have hk : kindOf 17 = 4 := by decide
  unfold bitsE
  rw [hk, if_pos (by simp [mayOf]; omega)]

/-- The deferred closure of a run that returns finds no panic. -/
theorem run_idle (pe : Value) (w : World) :
    CallsD Tryz.prog 231 #[pe] .returning w fun e u' w' => e = .returned (.tuple #[]) ∧ u' = .returning ∧ w' = w := by
  refine callsD_of_wpS Tryz.func231 rfl fun c₀ cs hu => ?_
  apply wpS_seq
  apply wpS_region
  simp [wpOpsS, go_sem, recoverD, hu, Tryz.ntmps231, Exit.thenS]
  apply wpS_seq
  apply wpS_region
  simp [wpOpsS, go_sem, Exit.thenS]
  refine wpS_cond (t := false) (by simp [Act.eval, Array.replicate]) ?_
  simp only [Bool.false_eq_true, if_false]
  refine wpS_of_wp (wp_skip ?_)
  cases c₀
  simp_all [bodyPostS, results, Tryz.results231]

/-- The coefficients' loop, one at a time: what is left, and the next one. -/
theorem take_rev (P : List Nat) (q : Nat) (h : q < P.length) : (P.take (q + 1)).reverse = P.getD q 0 :: (P.take q).reverse := by
  rw [List.take_add_one, List.getElem?_eq_getElem h]
  simp [List.getD, List.getElem?_eq_getElem h]
theorem drop_dec (P : List Nat) (q : Nat) (h : q < P.length) : P.drop q = P.getD q 0 :: P.drop (q + 1) := by
  rw [List.drop_eq_getElem_cons h]
  simp [List.getD, List.getElem?_eq_getElem h]

set_option maxRecDepth 100000 in
set_option maxHeartbeats 3200000 in
theorem sig_block {w0 wP w : World} {m : Bool} {ck b tb sb : Nat} {ovP : Value} {eEnd : Enc} {dEnd : Dec} {os : List Deed} (cs mem : List Int) (mb n cap : Nat) (cat inc : Int) (h : Coding w0 wP w m ck b tb sb ovP eEnd dEnd (sigDeeds cs cat inc ++ os))
    (hmem : MemAt w mb n mem) (hP : wP.heap.size ≤ mb) (hm : m = true → mem = cs) (hm0 : m = false → ∀ i, mem.getD i 0 = 0) (hml : mem.length = n) (hn : cs.length = n) (hn1 : 1 ≤ n) (hn2 : n ≤ 16) (hr : ∀ i, -32767 ≤ cs.getD i 0 ∧ cs.getD i 0 ≤ 32767)
    (c0 : 0 ≤ cat) (c1 : cat ≤ 3) (i0 : 0 ≤ inc) (i1 : inc ≤ 1) :
    Calls Tryz.prog 232 #[.pointer (some ⟨ck, 0, none⟩), .slice (some ⟨mb, 0, none⟩) n cap, .int .i64 cat, .int .i64 inc] w fun r w' => r = .returned (.tuple #[]) ∧
      MemAt w' mb n cs ∧ Coding w0 wP w' m ck b tb sb ovP eEnd dEnd os ∧ Calm w w' := by
  have hsb : sb < mb := by have := h.lsb; omega
  have hlr := lastTo_range cs cs.length
  have hlm : m = true → lastTo mem n = lastOf cs := fun hm' => by rw [hm hm', ← hn]; rfl
  have hmi : m = true → ∀ i, i < n → mem.getD i 0 = cs.getD i 0 := fun hm' i _ => by rw [hm hm']
  have hso : m = true → someTo mem n = decide (0 ≤ lastOf cs) := fun hm' => by rw [someTo_last, hlm hm']
  have H := Lib.hid h
  have Hmem := Lib.hid hmem
  have Hm0 := Lib.hid hm0
  have Hlm := Lib.hid hlm
  have Hmi := Lib.hid hmi
  have Hso := Lib.hid hso
  have Hn := Lib.hid hn
  have Hml := Lib.hid hml
  have Hr := Lib.hid hr
  clear h hmem hm hm0 hlm hmi hso hml hn hlr hr
  go_enter Tryz.func232, Tryz.ntmps232
  go_wp2
  go_loop [8, 18] (fun p q => ∃ k : Nat, k ≤ n ∧ q = .int .i64 k ∧ ∃ l : Bool, p = .bool l ∧ Hid (l = someTo mem k)) (fun _ q => n - (intOf q).toNat)
  case atStart => exact ⟨0, Nat.zero_le _, rfl, false, rfl, Lib.hid rfl⟩
  case round =>
    obtain ⟨k, hk, rfl, l, rfl, hlk⟩ := hrel
    by_cases hlt : k < n
    · have e1 := Hmem.out.cell k hlt
      obtain ⟨x, hx⟩ : ∃ x, x = mem.getD k 0 := ⟨_, rfl⟩
      rw [← hx] at e1
      have Hx := Lib.hid hx
      clear hx
      cases l with
      | true =>
        go_wp2
        go_round
        case rel => exact ⟨k + 1, by omega, by go_num, true, rfl, Lib.hid (by rw [someTo, ← hlk.out]; rfl)⟩
        case measure => simp [intOf] <;> omega
      | false =>
        by_cases h0 : x = 0
        · subst h0
          go_wp2
          go_round
          case rel => exact ⟨k + 1, by omega, by go_num, false, rfl, Lib.hid (by rw [someTo, ← hlk.out, ← Hx.out]; rfl)⟩
          case measure => simp [intOf] <;> omega
        · have hb0 : (x != 0) = true := by simp [h0]
          go_wp2
          go_round
          case rel => exact ⟨k + 1, by omega, by go_num, true, rfl, Lib.hid (by rw [someTo, ← hlk.out, ← Hx.out]; simp [h0])⟩
          case measure => simp [intOf] <;> omega
    · obtain rfl : k = n := by omega
      have Hll : Hid (m = true → l = decide (0 ≤ lastOf cs)) := Lib.hid (fun hm => by rw [hlk.out]; exact Hso.out hm)
      clear hlk
      by_cases hl : 0 ≤ lastOf cs
      · have hcd := H.out
        unfold sigDeeds at hcd
        rw [if_pos hl, List.append_assoc, List.append_assoc, Hn.out] at hcd
        have Hcd := Lib.hid hcd
        have Hu : Hid (m = true → flagOf l = 1) := Lib.hid (fun hm => by rw [Hll.out hm, decide_eq_true hl]; rfl)
        have Hl := Lib.hid hl
        clear hcd hl
        go_wp2_with fail
        refine (sig_flag l w).mono ?_
        rintro r w3 ⟨rfl, rfl⟩
        go_wp2_with fail
        refine (sig_element 14 (2 * cat + inc) 1 (flagOf l) Hcd.out rfl (by omega) (by omega) Hu.out).mono ?_
        rintro r w4 ⟨rfl, g1, g2⟩
        have G1 := Lib.hid g1
        have G2 := Lib.hid g2
        have M4 := Lib.hid (Hmem.out.spare g2 (by omega))
        clear g1 g2
        go_wp2_with fail
        refine (sig_places cs mem mb k cap G1.out M4.out hP Hmi.out Hlm.out Hn.out hn1 hn2 Hl.out).mono ?_
        rintro r w5 ⟨v, rfl, g3, g1, g2⟩
        have Sp5 := Lib.hid (G2.out.trans g2)
        have M5 := Lib.hid (M4.out.spare g2 (by omega))
        obtain ⟨P, hPd⟩ : ∃ P, P = placeOut cs (lastOf cs) 0 (k - 1) := ⟨_, rfl⟩
        rw [← hPd] at g3 g1
        obtain ⟨pm1, pm2⟩ := placeOut_mem cs (lastOf cs) (k - 1) 0 (by have := Hn.out; omega) rfl Hl.out
        rw [← hPd] at pm1 pm2
        have hPl : P.length ≤ 16 := by have := placeOut_length cs (lastOf cs) (k - 1) 0; rw [hPd]; omega
        have hPp : 0 < P.length := by rw [hPd]; exact placeOut_pos _ _ _ _
        obtain ⟨g, cap2, rfl, hgB, hgl⟩ := g3.form hPp
        have hmb4 : mb < w4.heap.size := by obtain ⟨cur, hc, -⟩ := M4.out; exact lt_of_block hc
        have Own5 := Lib.hid g3
        have K5 := Lib.hid g1
        have Pm1 := Lib.hid pm1
        have Pm2 := Lib.hid pm2
        obtain ⟨L, hL⟩ : ∃ L, L = P.length := ⟨_, rfl⟩
        rw [← hL] at Own5 hPl hPp ⊢
        have HL := Lib.hid hL
        obtain ⟨fl, hfl⟩ : ∃ fl, fl = flagOf (decide (1 < cat)) := ⟨_, rfl⟩
        have hfl1 : 0 ≤ fl ∧ fl ≤ 1 := by rw [hfl]; rcases flagOf_bit (decide (1 < cat)) with h | h <;> rw [h] <;> omega
        obtain ⟨hfl0, hfl1⟩ := hfl1
        have Hfl := Lib.hid hfl
        clear g1 g2 g3 pm1 pm2 hPd hL hfl
        go_wp2
        go_loopw [12, 13] (fun gr i wr => ∃ (q gg : Nat), q ≤ L ∧ i = .int .i64 ((q : Int) - 1) ∧ gr = .int .i64 gg ∧ gg + q ≤ 16 ∧ Coding w0 wP wr m ck b tb sb ovP eEnd dEnd (coefDeeds cs cat (P.take q).reverse gg ++ os) ∧
          Hid (MemAt wr mb k (toldMem cs mem (P.drop q))) ∧ Hid (wr.ownsRow w4.heap.size 3 1 (.slice (some ⟨g, 0, none⟩) L cap2) L (P.map fun (p : Nat) => Value.int .i64 (p : Int))) ∧ Hid (Calm w wr)) (fun _ i _ => (intOf i + 1).toNat)
        case atStart => exact ⟨L, 0, Nat.le_refl _, rfl, rfl, by omega, by rw [HL.out, List.take_length]; exact K5.out, Lib.hid (by rw [HL.out, List.drop_length, toldMem_nil]; exact M5.out), Own5, Lib.hid Sp5.out.2.2⟩
        case round =>
          obtain ⟨q, gg, hq, rfl, rfl, hgq, hcd, hme, how, hca⟩ := hrel
          have Hc := Lib.hid hcd
          by_cases hq1 : 1 ≤ q
          · obtain ⟨q, rfl⟩ : ∃ q', q = q' + 1 := ⟨q - 1, by omega⟩
            have hqP : q < P.length := by rw [← HL.out]; omega
            obtain ⟨p, hp⟩ : ∃ p, p = P.getD q 0 := ⟨_, rfl⟩
            have hpm : p ∈ P := by rw [hp]; simp only [List.getD, List.getElem?_eq_getElem hqP, Option.getD_some]; exact List.getElem_mem hqP
            obtain ⟨-, hpn, hp0⟩ := Pm1.out p hpm
            rw [Hn.out] at hpn
            have hcd2 := hcd
            rw [take_rev P q hqP, ← hp, coefDeeds, List.append_assoc, List.cons_append] at hcd2
            have Hcd2 := Lib.hid hcd2
            have hat : wr.cell? ⟨g, q, none⟩ = some (.int .i64 (p : Int)) := by
              rw [how.out.cellAt q (by omega), List.getElem?_map, List.getElem?_eq_getElem hqP, hp]
              simp [List.getD, List.getElem?_eq_getElem hqP]
            obtain ⟨X, hX⟩ : ∃ X, X = (toldMem cs mem (P.drop (q + 1))).getD p 0 := ⟨_, rfl⟩
            have hXc := hme.out.cell p hpn
            rw [← hX] at hXc
            have hXv : X = if p ∈ P.drop (q + 1) then cs.getD p 0 else mem.getD p 0 := by rw [hX, toldMem_at _ _ _ _ (by rw [Hml.out]; exact hpn)]
            have HXe : Hid (m = true → X = cs.getD p 0) := Lib.hid (fun hm' => by rw [hXv, Hmi.out hm' p hpn]; split <;> rfl)
            have hXr : -32767 ≤ X ∧ X ≤ 32767 := by
              have h1 := Hr.out p
              rw [hXv]
              split
              · exact h1
              · cases m with
                | true => rw [Hmi.out rfl p hpn]; exact h1
                | false => rw [Hm0.out rfl p]; omega
            obtain ⟨hXr0, hXr1⟩ := hXr
            have hcr := Hr.out p
            obtain ⟨c, hcc⟩ : ∃ c, c = cs.getD p 0 := ⟨_, rfl⟩
            rw [← hcc] at hcr hp0 HXe Hcd2
            obtain ⟨hcr0, hcr1⟩ := hcr
            obtain ⟨A, hA⟩ : ∃ A : Nat, A = c.natAbs := ⟨_, rfl⟩
            rw [← hA] at Hcd2
            have hA1 : 1 ≤ A ∧ A ≤ 32767 := by omega
            obtain ⟨hA1, hA2⟩ := hA1
            have Hcc := Lib.hid hcc
            have hsg : Hid ((c < 0 ∧ c = -(A : Int)) ∨ (0 < c ∧ c = (A : Int))) := Lib.hid (by omega)
            have Hp := Lib.hid hp
            have hplt : (p : Int) < k := by omega
            have hu1 : Hid (m = true → max X (-X) - 1 = (A : Int) - 1) := Lib.hid (fun hm' => by rw [HXe.out hm']; omega)
            have hrk : Hid (rankOf cat gg = min 5 (gg : Int) + fl) := Lib.hid (by rw [Hfl.out]; rfl)
            have hzP : wP.heap.size ≤ wr.heap.size := by
              rcases hcd.run with ⟨-, ov, e, -, h2, -⟩ | ⟨-, d, -, h2, -⟩
              · exact h2.only.size
              · exact h2.size
            have hzg : g < wr.heap.size := by obtain ⟨cur, hc⟩ := ownsRow_block how.out (g := g) rfl; exact lt_of_block hc
            clear hcd hcd2 hp hX hXv hcc hA hp0 hpm
            go_wp2_with fail
            refine (sig_flag (decide (1 < cat)) wr).mono ?_
            rintro r w6 ⟨rfl, rfl⟩
            rw [← Hfl.out]
            have Hcd3 := Hcd2
            rw [hrk.out] at Hcd3
            go_wp2_with fail
            refine (sig_element 17 (min 5 (gg : Int) + fl) ((A : Int) - 1) (max X (-X) - 1) Hcd3.out (bits17 _ (by omega) (by omega)) (by omega) (by omega) hu1.out).mono ?_
            rintro r w6 ⟨rfl, g1, g2⟩
            have K6 := Lib.hid g1
            have M6 := Lib.hid (hme.out.spare g2 (by omega))
            have hgs : sb < w4.heap.size := by have := Hcd3.out.lsb; omega
            have O6 := Lib.hid (g2.row how.out hgs)
            have C6 : Hid (Calm w w6) := Lib.hid (fun z zs hz => g2.2.2 z zs (hca.out z zs hz))
            clear g1 g2
            have hqP := Lib.hid hqP
            by_cases hgt : 1 < A
            · have k6 := K6.out
              rw [if_pos hgt] at k6
              have K6a := Lib.hid k6
              clear k6
              rcases hsg.out with ⟨hneg, hcA⟩ | ⟨hneg, hcA⟩
              · have k6 := K6a.out
                rw [decide_eq_true hneg] at k6
                have K6b := Lib.hid k6
                have Hu2 : Hid (m = true → flagOf (decide (X < 0)) = 1) := Lib.hid (fun hm' => by rw [HXe.out hm', decide_eq_true hneg]; rfl)
                have hcA := Lib.hid hcA
                clear k6 hneg
                go_wp2_with fail
                refine (sig_flag (decide (X < 0)) w6).mono ?_
                rintro r w7 ⟨rfl, rfl⟩
                go_wp2_with fail
                refine (sig_sign 1 (flagOf (decide (X < 0))) K6b.out (by omega) Hu2.out).mono ?_
                rintro r w8 ⟨rfl, g1, g2⟩
                have M8 := M6.out.spare g2 (by omega)
                have O8 := Lib.hid (g2.row O6.out hgs)
                have e1 : w8.cell? ⟨g, q, none⟩ = some (.int .i64 (p : Int)) := by
                  rw [O8.out.cellAt q (by omega), List.getElem?_map, List.getElem?_eq_getElem hqP.out, Hp.out]
                  simp [List.getD, List.getElem?_eq_getElem hqP.out]
                have e2 := M8.cell p hpn
                have e3 := M8.free p
                have e2x : ∃ y, w8.cell? ⟨mb, p, none⟩ = some (.int .i64 y) := ⟨_, e2⟩
                obtain ⟨y, e2⟩ := e2x
                have hset := M8.set (p := p) (-(A : Int)) (by rw [toldMem_length, Hml.out]; exact hpn)
                have hmm : (toldMem cs mem (P.drop (q + 1))).set p (-(A : Int)) = toldMem cs mem (P.drop q) := by
                  rw [show (-(A : Int) : Int) = cs.getD p 0 by rw [← Hcc.out]; exact hcA.out.symm, toldMem_set, drop_dec P q hqP.out, Hp.out]
                rw [hmm] at hset
                have Mset := Lib.hid hset
                obtain ⟨mcur, hmcur, -⟩ := M8
                have Kset := Lib.hid (g1.past (((Only.refl [mb] w8)).setCell (p := ⟨mb, p, none⟩) (.inl (by simp)) (.int .i64 (-(A : Int)))) (fun i hi => by simp at hi; subst hi; exact ⟨hP, _, hmcur⟩))
                have Oset := Lib.hid (ownsRow_of_block (w' := w8.setCell ⟨mb, p, none⟩ (.int .i64 (-(A : Int)))) O8.out (fun z hz => by simp [Value.ownBlock] at hz; exact Below.heap_setCell _ _ _ _ (show z ≠ mb by omega)))
                have C8 : Hid (Calm w (w8.setCell ⟨mb, p, none⟩ (.int .i64 (-(A : Int))))) := Lib.hid (fun z zs hz => heap_set_other _ (g2.2.2 z zs (C6.out z zs hz)) (block_type (g2.2.2 z zs (C6.out z zs hz)) hmcur (by decide)))
                clear g1 g2 hset hmm hmcur
                go_wp2
                go_roundw
                case rel => exact ⟨q, gg + 1, by omega, by go_num, by go_num, by omega, Kset.out, Mset, Oset, C8⟩
                case measure => simp [intOf] <;> omega
              · have k6 := K6a.out
                rw [decide_eq_false (by omega)] at k6
                have K6b := Lib.hid k6
                have Hu2 : Hid (m = true → flagOf (decide (X < 0)) = 0) := Lib.hid (fun hm' => by rw [HXe.out hm', decide_eq_false (by omega)]; rfl)
                have hcA := Lib.hid hcA
                clear k6 hneg
                go_wp2_with fail
                refine (sig_flag (decide (X < 0)) w6).mono ?_
                rintro r w7 ⟨rfl, rfl⟩
                go_wp2_with fail
                refine (sig_sign 0 (flagOf (decide (X < 0))) K6b.out (by omega) Hu2.out).mono ?_
                rintro r w8 ⟨rfl, g1, g2⟩
                have M8 := M6.out.spare g2 (by omega)
                have O8 := Lib.hid (g2.row O6.out hgs)
                have e1 : w8.cell? ⟨g, q, none⟩ = some (.int .i64 (p : Int)) := by
                  rw [O8.out.cellAt q (by omega), List.getElem?_map, List.getElem?_eq_getElem hqP.out, Hp.out]
                  simp [List.getD, List.getElem?_eq_getElem hqP.out]
                have e2 := M8.cell p hpn
                have e3 := M8.free p
                have e2x : ∃ y, w8.cell? ⟨mb, p, none⟩ = some (.int .i64 y) := ⟨_, e2⟩
                obtain ⟨y, e2⟩ := e2x
                have hset := M8.set (p := p) ((A : Int)) (by rw [toldMem_length, Hml.out]; exact hpn)
                have hmm : (toldMem cs mem (P.drop (q + 1))).set p ((A : Int)) = toldMem cs mem (P.drop q) := by
                  rw [show ((A : Int) : Int) = cs.getD p 0 by rw [← Hcc.out]; exact hcA.out.symm, toldMem_set, drop_dec P q hqP.out, Hp.out]
                rw [hmm] at hset
                have Mset := Lib.hid hset
                obtain ⟨mcur, hmcur, -⟩ := M8
                have Kset := Lib.hid (g1.past (((Only.refl [mb] w8)).setCell (p := ⟨mb, p, none⟩) (.inl (by simp)) (.int .i64 ((A : Int)))) (fun i hi => by simp at hi; subst hi; exact ⟨hP, _, hmcur⟩))
                have Oset := Lib.hid (ownsRow_of_block (w' := w8.setCell ⟨mb, p, none⟩ (.int .i64 ((A : Int)))) O8.out (fun z hz => by simp [Value.ownBlock] at hz; exact Below.heap_setCell _ _ _ _ (show z ≠ mb by omega)))
                have C8 : Hid (Calm w (w8.setCell ⟨mb, p, none⟩ (.int .i64 ((A : Int))))) := Lib.hid (fun z zs hz => heap_set_other _ (g2.2.2 z zs (C6.out z zs hz)) (block_type (g2.2.2 z zs (C6.out z zs hz)) hmcur (by decide)))
                clear g1 g2 hset hmm hmcur
                go_wp2
                go_roundw
                case rel => exact ⟨q, gg + 1, by omega, by go_num, by go_num, by omega, Kset.out, Mset, Oset, C8⟩
                case measure => simp [intOf] <;> omega
            · have k6 := K6.out
              rw [if_neg hgt] at k6
              have K6a := Lib.hid k6
              clear k6
              rcases hsg.out with ⟨hneg, hcA⟩ | ⟨hneg, hcA⟩
              · have k6 := K6a.out
                rw [decide_eq_true hneg] at k6
                have K6b := Lib.hid k6
                have Hu2 : Hid (m = true → flagOf (decide (X < 0)) = 1) := Lib.hid (fun hm' => by rw [HXe.out hm', decide_eq_true hneg]; rfl)
                have hcA := Lib.hid hcA
                clear k6 hneg
                go_wp2_with fail
                refine (sig_flag (decide (X < 0)) w6).mono ?_
                rintro r w7 ⟨rfl, rfl⟩
                go_wp2_with fail
                refine (sig_sign 1 (flagOf (decide (X < 0))) K6b.out (by omega) Hu2.out).mono ?_
                rintro r w8 ⟨rfl, g1, g2⟩
                have M8 := M6.out.spare g2 (by omega)
                have O8 := Lib.hid (g2.row O6.out hgs)
                have e1 : w8.cell? ⟨g, q, none⟩ = some (.int .i64 (p : Int)) := by
                  rw [O8.out.cellAt q (by omega), List.getElem?_map, List.getElem?_eq_getElem hqP.out, Hp.out]
                  simp [List.getD, List.getElem?_eq_getElem hqP.out]
                have e2 := M8.cell p hpn
                have e3 := M8.free p
                have e2x : ∃ y, w8.cell? ⟨mb, p, none⟩ = some (.int .i64 y) := ⟨_, e2⟩
                obtain ⟨y, e2⟩ := e2x
                have hset := M8.set (p := p) (-(A : Int)) (by rw [toldMem_length, Hml.out]; exact hpn)
                have hmm : (toldMem cs mem (P.drop (q + 1))).set p (-(A : Int)) = toldMem cs mem (P.drop q) := by
                  rw [show (-(A : Int) : Int) = cs.getD p 0 by rw [← Hcc.out]; exact hcA.out.symm, toldMem_set, drop_dec P q hqP.out, Hp.out]
                rw [hmm] at hset
                have Mset := Lib.hid hset
                obtain ⟨mcur, hmcur, -⟩ := M8
                have Kset := Lib.hid (g1.past (((Only.refl [mb] w8)).setCell (p := ⟨mb, p, none⟩) (.inl (by simp)) (.int .i64 (-(A : Int)))) (fun i hi => by simp at hi; subst hi; exact ⟨hP, _, hmcur⟩))
                have Oset := Lib.hid (ownsRow_of_block (w' := w8.setCell ⟨mb, p, none⟩ (.int .i64 (-(A : Int)))) O8.out (fun z hz => by simp [Value.ownBlock] at hz; exact Below.heap_setCell _ _ _ _ (show z ≠ mb by omega)))
                have C8 : Hid (Calm w (w8.setCell ⟨mb, p, none⟩ (.int .i64 (-(A : Int))))) := Lib.hid (fun z zs hz => heap_set_other _ (g2.2.2 z zs (C6.out z zs hz)) (block_type (g2.2.2 z zs (C6.out z zs hz)) hmcur (by decide)))
                clear g1 g2 hset hmm hmcur
                go_wp2
                go_roundw
                case rel => exact ⟨q, gg, by omega, by go_num, rfl, by omega, Kset.out, Mset, Oset, C8⟩
                case measure => simp [intOf] <;> omega
              · have k6 := K6a.out
                rw [decide_eq_false (by omega)] at k6
                have K6b := Lib.hid k6
                have Hu2 : Hid (m = true → flagOf (decide (X < 0)) = 0) := Lib.hid (fun hm' => by rw [HXe.out hm', decide_eq_false (by omega)]; rfl)
                have hcA := Lib.hid hcA
                clear k6 hneg
                go_wp2_with fail
                refine (sig_flag (decide (X < 0)) w6).mono ?_
                rintro r w7 ⟨rfl, rfl⟩
                go_wp2_with fail
                refine (sig_sign 0 (flagOf (decide (X < 0))) K6b.out (by omega) Hu2.out).mono ?_
                rintro r w8 ⟨rfl, g1, g2⟩
                have M8 := M6.out.spare g2 (by omega)
                have O8 := Lib.hid (g2.row O6.out hgs)
                have e1 : w8.cell? ⟨g, q, none⟩ = some (.int .i64 (p : Int)) := by
                  rw [O8.out.cellAt q (by omega), List.getElem?_map, List.getElem?_eq_getElem hqP.out, Hp.out]
                  simp [List.getD, List.getElem?_eq_getElem hqP.out]
                have e2 := M8.cell p hpn
                have e3 := M8.free p
                have e2x : ∃ y, w8.cell? ⟨mb, p, none⟩ = some (.int .i64 y) := ⟨_, e2⟩
                obtain ⟨y, e2⟩ := e2x
                have hset := M8.set (p := p) ((A : Int)) (by rw [toldMem_length, Hml.out]; exact hpn)
                have hmm : (toldMem cs mem (P.drop (q + 1))).set p ((A : Int)) = toldMem cs mem (P.drop q) := by
                  rw [show ((A : Int) : Int) = cs.getD p 0 by rw [← Hcc.out]; exact hcA.out.symm, toldMem_set, drop_dec P q hqP.out, Hp.out]
                rw [hmm] at hset
                have Mset := Lib.hid hset
                obtain ⟨mcur, hmcur, -⟩ := M8
                have Kset := Lib.hid (g1.past (((Only.refl [mb] w8)).setCell (p := ⟨mb, p, none⟩) (.inl (by simp)) (.int .i64 ((A : Int)))) (fun i hi => by simp at hi; subst hi; exact ⟨hP, _, hmcur⟩))
                have Oset := Lib.hid (ownsRow_of_block (w' := w8.setCell ⟨mb, p, none⟩ (.int .i64 ((A : Int)))) O8.out (fun z hz => by simp [Value.ownBlock] at hz; exact Below.heap_setCell _ _ _ _ (show z ≠ mb by omega)))
                have C8 : Hid (Calm w (w8.setCell ⟨mb, p, none⟩ (.int .i64 ((A : Int))))) := Lib.hid (fun z zs hz => heap_set_other _ (g2.2.2 z zs (C6.out z zs hz)) (block_type (g2.2.2 z zs (C6.out z zs hz)) hmcur (by decide)))
                clear g1 g2 hset hmm hmcur
                go_wp2
                go_roundw
                case rel => exact ⟨q, gg, by omega, by go_num, rfl, by omega, Kset.out, Mset, Oset, C8⟩
                case measure => simp [intOf] <;> omega
          · obtain rfl : q = 0 := by omega
            have hfin : toldMem cs mem (P.drop 0) = cs := by
              rw [List.drop_zero]
              refine toldMem_full cs mem P (by rw [Hn.out, Hml.out]) fun i hi hni => ?_
              have hz : cs.getD i 0 = 0 := by
                by_cases h0 : cs.getD i 0 = 0
                · exact h0
                · exact absurd (Pm2.out i (by omega) hi h0) hni
              rw [Hn.out] at hi
              cases m with
              | true => exact Hmi.out rfl i hi
              | false => rw [Hm0.out rfl i, hz]
            have hme2 := hme.out
            rw [hfin] at hme2
            have Hme := Lib.hid hme2
            have hc2 := Hc.out
            rw [List.take_zero, List.reverse_nil, coefDeeds, List.nil_append] at hc2
            have Hc2 := Lib.hid hc2
            clear hfin hme2 hc2 hcd
            go_wp2
            go_end0
            exact ⟨rfl, Hme.out, Hc2.out, hca.out⟩
      · have hcd := H.out
        unfold sigDeeds at hcd
        rw [if_neg hl] at hcd
        have Hcd := Lib.hid hcd
        have Hu : Hid (m = true → flagOf l = 0) := Lib.hid (fun hm => by rw [Hll.out hm, decide_eq_false hl]; rfl)
        have hz : ∀ i, i < k → cs.getD i 0 = 0 := fun i hi => by
          by_cases h0 : cs.getD i 0 = 0
          · exact h0
          · have := lastTo_ge cs cs.length i (by rw [Hn.out]; exact hi) h0
            unfold lastOf at hl
            omega
        have hmc : mem = cs := by
          have h1 := toldMem_full cs mem [] (by rw [Hn.out, Hml.out]) (fun i hi _ => by
            rw [Hn.out] at hi
            cases m with
            | true => exact Hmi.out rfl i hi
            | false => rw [Hm0.out rfl i, hz i hi])
          rw [toldMem_nil] at h1
          exact h1
        have Hmc := Lib.hid hmc
        clear hcd hl hz hmc
        go_wp2_with fail
        refine (sig_flag l w).mono ?_
        rintro r w3 ⟨rfl, rfl⟩
        go_wp2_with fail
        refine (sig_element 14 (2 * cat + inc) 0 (flagOf l) Hcd.out rfl (by omega) (by omega) Hu.out).mono ?_
        rintro r w4 ⟨rfl, g1, g2⟩
        have G1 := Lib.hid g1
        have M4 := Lib.hid (Hmem.out.spare g2 (by omega))
        rw [Hmc.out] at M4
        have C4 := Lib.hid g2.2.2
        clear g1 g2
        go_wp2
        refine bodyPost_ret (results_none rfl _ _ _) rfl ?_
        exact ⟨rfl, M4.out, G1.out, C4.out⟩

set_option maxRecDepth 100000 in
set_option maxHeartbeats 1600000 in
theorem sig_run {w0 wP w : World} {m : Bool} {ck b tb sb : Nat} {ovP : Value} {eEnd : Enc} {dEnd : Dec} {os : List Deed} (cs mem : List Int) (mb n cap : Nat) (cat inc : Int) (h : Coding w0 wP w m ck b tb sb ovP eEnd dEnd (sigDeeds cs cat inc ++ os))
    (hmem : MemAt w mb n mem) (hP : wP.heap.size ≤ mb) (hm : m = true → mem = cs) (hm0 : m = false → ∀ i, mem.getD i 0 = 0) (hml : mem.length = n) (hn : cs.length = n) (hn1 : 1 ≤ n) (hn2 : n ≤ 16) (hr : ∀ i, -32767 ≤ cs.getD i 0 ∧ cs.getD i 0 ≤ 32767)
    (c0 : 0 ≤ cat) (c1 : cat ≤ 3) (i0 : 0 ≤ inc) (i1 : inc ≤ 1) :
    Calls Tryz.prog 224 #[.pointer (some ⟨ck, 0, none⟩), .slice (some ⟨mb, 0, none⟩) n cap, .int .i64 cat, .int .i64 inc] w fun r w' => r = .returned (.int .i64 0) ∧
      MemAt w' mb n cs ∧ Coding w0 wP w' m ck b tb sb ovP eEnd dEnd os := by
  have hmf : ∀ (fn : Fn) (first cap : Array Value) (w : World), (Instr.makeFunc fn first cap).run Tryz.prog w = .ok (.func fn first cap) w := fun _ _ _ _ => rfl
  have ho : Only [] w (w.alloc (.cells #[.int .i64 0] 32)) := (Only.refl _ w).alloc _
  have Hb := Lib.hid (sig_block cs mem mb n cap cat inc (h.only ho) (hmem.only ho (by simp)) hP hm hm0 hml hn hn1 hn2 hr c0 c1 i0 i1)
  have he := heap_alloc_at w (.cells #[.int .i64 0] 32)
  have He := Lib.hid he
  have hPw : wP.heap.size ≤ w.heap.size := by
    rcases h.run with ⟨-, ov, e, -, h2, -⟩ | ⟨-, d, -, h2, -⟩
    · exact h2.only.size
    · exact h2.size
  clear h hmem hm hm0 hml hn hr ho he
  go_enter_defers Tryz.func224, Tryz.ntmps224
  go_wp2_with fail
  refine Hb.out.mono ?_
  rintro r w1 ⟨rfl, g1, g2, g3⟩
  have M1 := Lib.hid g1
  have K1 := Lib.hid g2
  have he1 := g3 _ _ He.out
  have ce := cells_of he1 0
  have ze := free_of he1 0
  have He1 := Lib.hid he1
  clear g1 g2 g3 he1
  go_wp2
  refine leaves_cons (f := 231) (args := #[.pointer (some ⟨w.heap.size, 0, none⟩)]) (by simp) (by simp [go_sem]) ?_
  refine (run_idle _ _).mono ?_
  rintro e u' w'' ⟨rfl, rfl, rfl⟩
  have f1 := heap_set_same (i := 0) (.int .i64 0) He1.out
  have cell : (w1.setCell ⟨w.heap.size, 0, none⟩ (.int .i64 0)).cell? ⟨w.heap.size, 0, none⟩ = some (.int .i64 0) := by rw [cells_of f1]; rfl
  have M2 : MemAt (w1.setCell ⟨w.heap.size, 0, none⟩ (.int .i64 0)) mb n cs := by
    obtain ⟨cur, k1, k2⟩ := M1.out
    exact ⟨cur, heap_set_other _ k1 (block_type k1 He1.out (by decide)), k2⟩
  have K2 := K1.out.pastE (w' := w1.setCell ⟨w.heap.size, 0, none⟩ (.int .i64 0)) ((Only.refl [w.heap.size] w1).setCell (.inl (by simp)) _) hPw He1.out
  generalize w1.setCell ⟨w.heap.size, 0, none⟩ (.int .i64 0) = w2 at *
  simp [Leaves, settle, results, Tryz.results224, go_sem, cell]
  exact ⟨M2, K2⟩
end Go.Proofs.YtcppbdlmcbjmeaaGreatDoor

namespace Go.Proofs.YtcppbdlmcbjmeaaGreatDoor
open Go.RowKit

theorem levels_size (n : Int) (w : World) : Calls Tryz.prog 225 #[.int .i64 n] w fun r w' => r = .returned (.bool (sizeB n)) ∧ w = w' := by
  go_enter Tryz.func225, Tryz.ntmps225
  by_cases h4 : n = 4
  · subst h4
    go_wp2
    go_ret
    exact ⟨rfl, rfl⟩
  · have b4 : (n == 4) = false := by simp [h4]
    by_cases h15 : n = 15
    · subst h15
      go_wp2
      go_ret
      exact ⟨rfl, rfl⟩
    · have b15 : (n == 15) = false := by simp [h15]
      by_cases h16 : n = 16
      · subst h16
        go_wp2
        go_ret
        exact ⟨rfl, rfl⟩
      · have b16 : (n == 16) = false := by simp [h16]
        have hs : Hid (sizeB n = false) := Lib.hid (decide_eq_false (by omega))
        clear h4 h15 h16
        go_wp2
        go_ret
        exact ⟨ret_bool hs.out.symm, rfl⟩

theorem sig_may (n cat inc : Int) (w : World) : Calls Tryz.prog 223 #[.int .i64 n, .int .i64 cat, .int .i64 inc] w fun r w' => r = .returned (.int .i64 (mayCode (mayB n cat inc))) ∧ w = w' := by
  cases hs : sizeB n with
  | false =>
    have hm : mayB n cat inc = false := by unfold mayB; rw [hs]; rfl
    rw [hm]
    have Hs := Lib.hid hs
    clear hs hm
    go_enter Tryz.func223, Tryz.ntmps223
    go_wp2_with fail
    refine (levels_size n w).mono ?_
    rintro r w1 ⟨rfl, rfl⟩
    rw [Hs.out]
    go_wp2
    go_ret
    exact ⟨rfl, rfl⟩
  | true =>
    have Hs := Lib.hid hs
    have hcases : (0 ≤ cat ∧ cat ≤ 3 ∧ 0 ≤ inc ∧ inc ≤ 1) ∨ cat < 0 ∨ (0 ≤ cat ∧ 3 < cat) ∨ (0 ≤ cat ∧ cat ≤ 3 ∧ inc < 0) ∨ (0 ≤ cat ∧ cat ≤ 3 ∧ 0 ≤ inc ∧ 1 < inc) := by omega
    rcases hcases with ⟨h1, h2, h3, h4⟩ | h1 | ⟨h1, h2⟩ | ⟨h1, h2, h3⟩ | ⟨h1, h2, h3, h4⟩
    · have hm : mayB n cat inc = true := by unfold mayB; rw [hs, decide_eq_true ⟨h1, h2, h3, h4⟩]; rfl
      rw [hm]
      clear hs hm
      go_enter Tryz.func223, Tryz.ntmps223
      go_wp2_with fail
      refine (levels_size n w).mono ?_
      rintro r w1 ⟨rfl, rfl⟩
      rw [Hs.out]
      go_wp2
      go_ret
      exact ⟨rfl, rfl⟩
    all_goals
      have hm : mayB n cat inc = false := by unfold mayB; rw [hs, decide_eq_false (by omega)]; rfl
      rw [hm]
      clear hs hm
      go_enter Tryz.func223, Tryz.ntmps223
      go_wp2_with fail
      refine (levels_size n w).mono ?_
      rintro r w1 ⟨rfl, rfl⟩
      rw [Hs.out]
      go_wp2
      go_ret
      exact ⟨rfl, rfl⟩
theorem sigput_nil (v cat inc : Value) (w : World) : Calls Tryz.prog 217 #[.pointer none, v, cat, inc] w fun r w' => r = .returned (.int .i64 1) ∧ w = w' := by
  go_enter Tryz.func217, Tryz.ntmps217
  go_wp2
  go_ret
  exact ⟨rfl, rfl⟩
end Go.Proofs.YtcppbdlmcbjmeaaGreatDoor

namespace Go.Proofs.YtcppbdlmcbjmeaaGreatDoor
open Go.RowKit

set_option maxRecDepth 100000 in
set_option maxHeartbeats 3200000 in
theorem sig_get {w0 w : World} {b tb sb : Nat} {d d' : Dec} (h : DecAt w0 w b tb sb d) (cs : List Int) (cat inc : Int) (hm : mayB cs.length cat inc = true) (hr : rangeB cs = true) (hg : d.gives (sigDeeds cs cat inc) d') (hs : d.s.size ≤ 140737488355328) (hst : d.st.length = 256) :
    Calls Tryz.prog 264 #[.pointer (some ⟨b, 0, none⟩), .int .i64 cs.length, .int .i64 cat, .int .i64 inc] w fun r w' => ∃ g cap, r = .returned (.tuple #[.slice (some ⟨g, 0, none⟩) cs.length cap, .int .i64 0]) ∧ IntSlice w' (.slice (some ⟨g, 0, none⟩) cs.length cap) cs ∧ DecAt w0 w' b tb sb d' ∧ Only [b, sb] w w' := by
  obtain ⟨hsz, m1, m2, m3, m4⟩ := mayB_spec hm
  obtain ⟨n, hn⟩ : ∃ n, n = cs.length := ⟨_, rfl⟩
  rw [← hn] at hm hsz ⊢
  have H := Lib.hid h
  have Hm := Lib.hid hm
  have Hr := Lib.hid (rangeB_at hr)
  have Hn := Lib.hid hn
  have Hg := Lib.hid (show d.gives (sigDeeds cs cat inc ++ []) d' by rw [List.append_nil]; exact hg)
  have Hst := Lib.hid hst
  have hn16 : 4 ≤ n ∧ n ≤ 16 := by omega
  obtain ⟨hn4, hn16⟩ := hn16
  have hls := lt_of_block h.is.sts
  clear h hm hr hn hg hst hsz
  go_enter Tryz.func264, Tryz.ntmps264
  go_wp2_with fail
  refine (sig_may n cat inc w).mono ?_
  rintro r w1 ⟨rfl, rfl⟩
  rw [Hm.out, show mayCode true = 0 from rfl]
  go_wp2_with (refine wpList_make1 rfl _ _ rfl elt64 rfl n rfl rfl rfl rfl (by decide) (by omega) ?_)
  intro w2 hc2 ho2 hz2
  have C2 := Lib.hid hc2
  have O2 := Lib.hid ho2
  have H2 := Lib.hid (H.out.only ho2 (by simp) (by simp) (by simp) (by simp))
  clear hc2 ho2
  go_wp2_with fail
  refine (dec_keep b tb sb d w2 H2.out.is).mono ?_
  rintro r w3 ⟨⟨k0, k1, k2, k3, rfl⟩, ho3⟩
  have C3 := Lib.hid (ho3.heap C2.out (by simp))
  have O3 := Lib.hid (O2.out.trans ho3)
  have H3 := Lib.hid (H2.out.only ho3 (by simp) (by simp) (by simp) (by simp))
  clear ho3
  go_wp2_with fail
  refine (H3.out.states (by rw [Hst.out]; omega)).mono ?_
  rintro r w4 ⟨v4, rfl, -, h4, ho4⟩
  have C4 := Lib.hid (ho4.heap C3.out (by simp))
  have O4 := Lib.hid (O3.out.trans ho4)
  have H4 := Lib.hid h4
  clear h4 ho4
  go_wp2_with fail
  have oC : Only [] w4 ((w4.alloc (.cells #[.int .i64 k0, .int .i64 k1, .int .i64 k2, .bool k3] 340)).alloc (.cells #[.pointer none, .pointer (some ⟨b, 0, none⟩)] 321)) := ((Only.refl [] w4).alloc _).alloc _
  have hck : ((w4.alloc (.cells #[.int .i64 k0, .int .i64 k1, .int .i64 k2, .bool k3] 340)).alloc (.cells #[.pointer none, .pointer (some ⟨b, 0, none⟩)] 321)).heap[w4.heap.size + 1]? = some (.cells (coderCells false b) 321 (0, 0)) := by
    have := heap_alloc_at (w4.alloc (.cells #[.int .i64 k0, .int .i64 k1, .int .i64 k2, .bool k3] 340)) (.cells #[.pointer none, .pointer (some ⟨b, 0, none⟩)] 321)
    simpa [coderCells] using this
  have hz4 := O4.out.size
  have K5 : Hid (Coding w0 w _ false (w4.heap.size + 1) b tb sb (.slice none 0 0) (Enc.new []) d' (sigDeeds cs cat inc ++ [])) := Lib.hid
    ⟨hck, H.out.on.size, by omega, hls, .inr ⟨rfl, d, H4.out.only oC (by simp) (by simp) (by simp) (by simp), (O4.out.trans oC).mono (by simp), hs, Hg.out⟩⟩
  have M5 : Hid (MemAt _ w.heap.size n (List.replicate n 0)) := Lib.hid (by
    have h1 := oC.heap C4.out (by simp)
    rw [ints_replicate] at h1
    exact ⟨_, h1, fun i hi => ints_at _ _ (by simpa using hi)⟩)
  clear hck oC
  refine (sig_run cs (List.replicate n 0) w.heap.size n n cat inc K5.out M5.out (Nat.le_refl _) (fun h => by cases h) (fun _ i => by simp only [List.getD, List.getElem?_replicate]; split <;> rfl) (by simp) Hn.out.symm (by omega) hn16 Hr.out m1 m2 m3 m4).mono ?_
  rintro r w6 ⟨rfl, g1, g2⟩
  have q : DecAt w0 w6 b tb sb d' ∧ Only [b, sb] w w6 := by
    rcases g2.run with ⟨h, -⟩ | ⟨-, d6, h1, h2, -, h4⟩
    · cases h
    · rw [show d' = d6 from h4]
      exact ⟨h1, h2⟩
  have Q := Lib.hid q
  have I6 : Hid (IntSlice w6 (.slice (some ⟨w.heap.size, 0, none⟩) n n) cs) := Lib.hid (by
    have hnn := Hn.out
    subst hnn
    exact ⟨_, _, rfl, .inr ⟨_, 0, rfl, fun i hi => by rw [Nat.zero_add]; exact g1.cell i hi⟩⟩)
  clear q g1 g2
  go_wp2
  go_ret2
  exact ⟨_, _, rfl, I6.out, Q.out.1, Q.out.2⟩
end Go.Proofs.YtcppbdlmcbjmeaaGreatDoor

namespace Go.Proofs.YtcppbdlmcbjmeaaGreatDoor
open Go.RowKit

theorem IntSlice.alloc {w : World} {v : Value} {xs : List Int} (h : IntSlice w v xs) (o : Obj) : IntSlice (w.alloc o) v xs := h.only ((Only.refl [] w).alloc o) (by simp)

set_option maxRecDepth 100000 in
set_option maxHeartbeats 3200000 in
theorem sigput_good {w0 w : World} {b tb sb : Nat} {ov : Value} {e : Enc} (h : EncAt w0 w b tb sb ov e) (hl : e.Live) (hst : e.st.length = 256) (v : Value) (cs : List Int) (cat inc : Int) (hv : IntSlice w v cs)
    (hc : e.cost < 400000000) (hm : mayB cs.length cat inc = true) (hr : rangeB cs = true) :
    Calls Tryz.prog 217 #[.pointer (some ⟨b, 0, none⟩), v, .int .i64 cat, .int .i64 inc] w fun r w' => r = .returned (.int .i64 0) ∧ ∃ ov', EncAt w0 w' b tb sb ov' (e.run (sigDeeds cs cat inc)) ∧ EncGo w w' b sb ov ov' := by
  obtain ⟨hsz, m1, m2, m3, m4⟩ := mayB_spec hm
  obtain ⟨n, hn⟩ : ∃ n, n = cs.length := ⟨_, rfl⟩
  obtain ⟨ao, cap0, rfl, hv0⟩ := hv
  obtain ⟨g0, off, rfl, hv⟩ : ∃ g off, ao = some ⟨g, off, none⟩ ∧ ∀ i, i < cs.length → w.cell? ⟨g, off + i, none⟩ = some (.int .i64 (cs.getD i 0)) := by
    rcases hv0 with rfl | h
    · simp at hsz
    · exact h
  have hcl : e.cost + 8 * (sigDeeds cs cat inc ++ []).length < 500000000 := by
    have := sigDeeds_length cs cat inc (by omega)
    rw [List.append_nil]
    omega
  have hf : ∀ o ∈ sigDeeds cs cat inc ++ [], o.fits 256 := by
    rw [List.append_nil]
    exact sigDeeds_fits cs cat inc m1 m3
  rw [← hn] at hv hm hsz ⊢
  have H := Lib.hid h
  have Hv := Lib.hid hv
  have Hm := Lib.hid hm
  have Hr := Lib.hid (rangeB_at hr)
  have Hn := Lib.hid hn
  have Hl := Lib.hid hl
  have Hst := Lib.hid hst
  have Hc := Lib.hid hcl
  have Hf := Lib.hid hf
  have hn16 : 4 ≤ n ∧ n ≤ 16 := by omega
  obtain ⟨hn4, hn16⟩ := hn16
  have hlb := lt_of_block h.is.cells
  have hls := lt_of_block h.is.sts
  clear hv0 h hv hm hr hn hl hst hc hf hcl hsz
  go_enter Tryz.func217, Tryz.ntmps217
  go_wp2_with fail
  refine (sig_may n cat inc w).mono ?_
  rintro r w1 ⟨rfl, rfl⟩
  rw [Hm.out, show mayCode true = 0 from rfl]
  go_wp2
  go_loop [24] (fun q => ∃ k : Nat, k ≤ n ∧ q = .int .i64 k) (fun q => n - (intOf q).toNat)
  case atStart => exact ⟨0, Nat.zero_le _, rfl⟩
  case round =>
    obtain ⟨k, hk, rfl⟩ := hrel
    by_cases hlt : k < n
    · have c1 := Hv.out k hlt
      obtain ⟨r0, r1⟩ := Hr.out k
      obtain ⟨x, hx⟩ : ∃ x, x = cs.getD k 0 := ⟨_, rfl⟩
      rw [← hx] at c1 r0 r1
      clear hx
      go_wp2
      go_round
      case rel => exact ⟨k + 1, by omega, by go_num⟩
      case measure => simp [intOf] <;> omega
    · obtain rfl : k = n := by omega
      have hnews : ∀ (j : Nat) (u : Value), (cs.map (Value.int .i64))[j]? = some u → (w.alloc (.cells #[.pointer (some ⟨b, 0, none⟩), .pointer none] 321)).cell? ((⟨g0, off, none⟩ : Addr).add j) = some u := by
        intro j u hj
        rw [List.getElem?_map] at hj
        by_cases hjl : j < cs.length
        · rw [List.getElem?_eq_getElem hjl] at hj
          have h1 := ((Only.refl [] w).alloc (.cells #[.pointer (some ⟨b, 0, none⟩), .pointer none] 321)).cell (Hv.out j (by rw [Hn.out]; exact hjl)) (by simp)
          rw [Addr.add_lit, h1]
          simpa [List.getD, List.getElem?_eq_getElem hjl] using hj
        · rw [List.getElem?_eq_none (by omega)] at hj; cases hj
      have Hnews := Lib.hid hnews
      clear hnews
      go_wp2_with (at_builtin; refine wpList_appendB rfl _ _ rfl elt64 (w.heap.size + 1) _ 0 [] rfl (World.ownsRow_nil _ _ _ _) ⟨g0, off, none⟩ k cap0 (cs.map (Value.int .i64)) rfl (by rw [List.length_map, ← Hn.out, Nat.mul_one]) Hnews.out (by simp [Value.oneCell']) (by omega) (by omega) (by omega) (by simp) ?_)
      intro g cap w5 hp
      have own5 := hp.1
      have o5 : Only [] (w.alloc (.cells #[.pointer (some ⟨b, 0, none⟩), .pointer none] 321)) w5 := (Only.refl [] _).grown hp.2.1 (fun z hz => by simp [Value.ownBlock] at hz)
      obtain ⟨cap', cur, hvv, hbg, hg5, hcur⟩ : ∃ cap' cur, Value.slice (some ⟨g, 0, none⟩) k cap = .slice (some ⟨g, 0, none⟩) k cap' ∧ w.heap.size + 1 ≤ g ∧ w5.heap[g]? = some (.cells cur 3 (0, 0)) ∧ ∀ i, i < k → w5.cell? ⟨g, i, none⟩ = (cs.map (Value.int .i64))[i]? := by
        obtain ⟨g', cap', cur, hv', hb', hg', hi'⟩ := owned_shape own5 (by omega)
        injection hv' with e1 e2 e3
        injection e1 with e1
        injection e1 with e1
        subst e1
        exact ⟨cap', cur, by rw [e3], hb', hg', hi'⟩
      have m5 : MemAt w5 g k cs := ⟨cur, hg5, fun i hi => by
        have h1 := hcur i hi
        rw [cells_of hg5] at h1
        rw [h1, List.getElem?_map, List.getElem?_eq_getElem (by have := Hn.out; omega)]
        simp [List.getD, List.getElem?_eq_getElem (show i < cs.length by have := Hn.out; omega)]⟩
      have hck : w5.heap[w.heap.size]? = some (.cells (coderCells true b) 321 (0, 0)) := o5.heap (heap_alloc_at w _) (by simp)
      have h5 : EncAt w0 w5 b tb sb ov e := H.out.only (((Only.refl [] w).alloc _).trans o5) (by simp) (by simp) (by simp) (by simp) (by simp)
      have K5 : Coding w0 w w5 true w.heap.size b tb sb ov (e.run (sigDeeds cs cat inc)) (Dec.begin ⟨#[]⟩ []) (sigDeeds cs cat inc ++ []) :=
        ⟨hck, H.out.on.size, Nat.le_refl _, hls, .inl ⟨rfl, ov, e, h5, EncGo.of_only (((Only.refl [] w).alloc _).trans o5), Hl.out, Hst.out, Hc.out, Hf.out, by rw [List.append_nil]⟩⟩
      have M5 := Lib.hid m5
      have HK := Lib.hid K5
      have hgw : w.heap.size ≤ g := by omega
      clear hp own5 o5 hvv hg5 hcur m5 hck h5 K5
      go_wp2_with fail
      refine (sig_run cs cs g k cap cat inc HK.out M5.out hgw (fun _ => rfl) (fun h => by cases h) Hn.out.symm Hn.out.symm (by omega) hn16 Hr.out m1 m2 m3 m4).mono ?_
      rintro r w6 ⟨rfl, -, g2⟩
      obtain ⟨e6, q1, q2, q3⟩ : ∃ ov6, EncAt w0 w6 b tb sb ov6 (e.run (sigDeeds cs cat inc)) ∧ EncGo w w6 b sb ov ov6 ∧ True := by
        rcases g2.run with ⟨-, ov6, e6, h1, h2, -, -, -, -, h7⟩ | ⟨h, -⟩
        · rw [show e6 = e.run (sigDeeds cs cat inc) from h7] at h1
          exact ⟨ov6, h1, h2, trivial⟩
        · cases h
      have Q1 := Lib.hid q1
      have Q2 := Lib.hid q2
      clear g2 q1 q2 q3
      go_wp2
      go_ret
      exact ⟨rfl, _, Q1.out, Q2.out⟩

set_option maxRecDepth 100000 in
set_option maxHeartbeats 1600000 in
theorem sigput_form (b : Nat) (ao : Option Addr) (n cap0 : Nat) (cat inc : Int) (w : World) (hm : mayB n cat inc = false) :
    Calls Tryz.prog 217 #[.pointer (some ⟨b, 0, none⟩), .slice ao n cap0, .int .i64 cat, .int .i64 inc] w fun r w' => r = .returned (.int .i64 800) ∧ w = w' := by
  have Hm := Lib.hid hm
  clear hm
  go_enter Tryz.func217, Tryz.ntmps217
  go_wp2_with fail
  refine (sig_may n cat inc w).mono ?_
  rintro r w1 ⟨rfl, rfl⟩
  rw [Hm.out, show mayCode false = 800 from rfl]
  go_wp2
  go_ret
  exact ⟨rfl, rfl⟩

set_option maxRecDepth 100000 in
set_option maxHeartbeats 1600000 in
theorem sigput_range (b : Nat) (v : Value) (cs : List Int) (cat inc : Int) (w : World) (hv : IntSlice w v cs) (hm : mayB cs.length cat inc = true) (hr : rangeB cs = false) :
    Calls Tryz.prog 217 #[.pointer (some ⟨b, 0, none⟩), v, .int .i64 cat, .int .i64 inc] w fun r w' => r = .returned (.int .i64 802) ∧ w = w' := by
  obtain ⟨hsz, -, -, -, -⟩ := mayB_spec hm
  obtain ⟨n, hn⟩ : ∃ n, n = cs.length := ⟨_, rfl⟩
  obtain ⟨ao, cap0, rfl, hv0⟩ := hv
  obtain ⟨g0, off, rfl, hv⟩ : ∃ g off, ao = some ⟨g, off, none⟩ ∧ ∀ i, i < cs.length → w.cell? ⟨g, off + i, none⟩ = some (.int .i64 (cs.getD i 0)) := by
    rcases hv0 with rfl | h
    · simp at hsz
    · exact h
  rw [← hn] at hv hm hsz ⊢
  have hn16 : n ≤ 16 := by omega
  have Hv := Lib.hid hv
  have Hm := Lib.hid hm
  have Hr := Lib.hid hr
  have Hn := Lib.hid hn
  clear hv0 hv hm hr hn hsz
  go_enter Tryz.func217, Tryz.ntmps217
  go_wp2_with fail
  refine (sig_may n cat inc w).mono ?_
  rintro r w1 ⟨rfl, rfl⟩
  rw [Hm.out, show mayCode true = 0 from rfl]
  go_wp2
  go_loop [24] (fun q => ∃ k : Nat, k ≤ n ∧ q = .int .i64 k ∧ Hid (∀ i, i < k → -32767 ≤ cs.getD i 0 ∧ cs.getD i 0 ≤ 32767)) (fun q => n - (intOf q).toNat)
  case atStart => exact ⟨0, Nat.zero_le _, rfl, Lib.hid (fun i hi => by omega)⟩
  case round =>
    obtain ⟨k, hk, rfl, hin⟩ := hrel
    by_cases hlt : k < n
    · have c1 := Hv.out k hlt
      obtain ⟨x, hx⟩ : ∃ x, x = cs.getD k 0 := ⟨_, rfl⟩
      rw [← hx] at c1
      have Hx := Lib.hid hx
      clear hx
      rcases (show x < -32767 ∨ (-32767 ≤ x ∧ 32767 < x) ∨ (-32767 ≤ x ∧ x ≤ 32767) by omega) with h1 | ⟨h1, h2⟩ | ⟨h1, h2⟩
      · go_wp2
        go_ret
        exact ⟨rfl, rfl⟩
      · go_wp2
        go_ret
        exact ⟨rfl, rfl⟩
      · have Hin2 : Hid (∀ i, i < k + 1 → -32767 ≤ cs.getD i 0 ∧ cs.getD i 0 ≤ 32767) := Lib.hid (fun i hi => by
          rcases Nat.lt_or_ge i k with h | h
          · exact hin.out i h
          · obtain rfl : i = k := by omega
            rw [← Hx.out]; exact ⟨h1, h2⟩)
        go_wp2
        go_round
        case rel => exact ⟨k + 1, by omega, by go_num, Hin2⟩
        case measure => simp [intOf] <;> omega
    · obtain rfl : k = n := by omega
      have := rangeB_of (cs := cs) (fun i hi => hin.out i (by rw [Hn.out]; exact hi))
      rw [Hr.out] at this
      cases this

/-- What Put answers, whatever the block. -/
theorem sig_put {w0 w : World} {b tb sb : Nat} {ov : Value} {e : Enc} (h : EncAt w0 w b tb sb ov e) (hl : e.Live) (hst : e.st.length = 256) (hc : e.cost < 400000000) (v : Value) (cs : List Int) (cat inc : Int) (hv : IntSlice w v cs) :
    Calls Tryz.prog 217 #[.pointer (some ⟨b, 0, none⟩), v, .int .i64 cat, .int .i64 inc] w fun r w' => r = .returned (.int .i64 (blkCode cs cat inc)) ∧ ∃ ov', EncAt w0 w' b tb sb ov' (if blkFine cs cat inc then e.run (sigDeeds cs cat inc) else e) ∧ EncGo w w' b sb ov ov' := by
  unfold blkCode blkFine
  cases hm : mayB cs.length cat inc with
  | false =>
    rw [if_neg (by decide), Bool.false_and, if_neg (by decide)]
    obtain ⟨ao, cap0, rfl, -⟩ := hv
    refine (sigput_form b ao cs.length cap0 cat inc w hm).mono ?_
    rintro r w' ⟨rfl, rfl⟩
    exact ⟨rfl, ov, h, EncGo.refl _ _ _ _⟩
  | true =>
    rw [if_pos rfl, Bool.true_and]
    cases hr : rangeB cs with
    | false =>
      rw [if_neg (by decide), if_neg (by decide)]
      refine (sigput_range b v cs cat inc w hv hm hr).mono ?_
      rintro r w' ⟨rfl, rfl⟩
      exact ⟨rfl, ov, h, EncGo.refl _ _ _ _⟩
    | true =>
      rw [if_pos rfl, if_pos rfl]
      exact sigput_good h hl hst v cs cat inc hv hc hm hr
end Go.Proofs.YtcppbdlmcbjmeaaGreatDoor
