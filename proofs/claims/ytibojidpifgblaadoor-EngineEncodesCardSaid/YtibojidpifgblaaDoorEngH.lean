/-
  The walks over package engine's decoder: has, read, may, renorm.
-/
import Derived.Test.YtibojidpifgblaaDoorEngG
import Derived.Test.YtibojidpifgblaaDoorDec
namespace Go.Proofs.YtibojidpifgblaaDoor
open Go.RowKit

/-- A decoder's cells. -/
def decCells (tb sb L : Nat) (s : ByteArray) (pos wid off : Int) (over : Bool) : Array Value :=
  #[.pointer (some ⟨tb, 0, none⟩), .slice (some ⟨sb, 0, none⟩) L L, .string s, .int .i64 pos, .int .i64 wid, .int .i64 off, .bool over]
/-- The decoder d lies in block b, its tables in tb, its states in sb. -/
structure DecIs (w : World) (b tb sb : Nat) (d : Dec) : Prop where
  cells : w.heap[b]? = some (.cells (decCells tb sb d.st.length d.s d.pos d.wid d.off d.over) 91 (0, 0))
  tab : TableAt w tb
  sts : w.heap[sb]? = some (.cells (ints d.st) 3 (0, 0))
theorem DecIs.put {w : World} {b tb sb : Nat} {d : Dec} (h : DecIs w b tb sb d) (i : Nat) (u : Value) (d' : Dec) (hst : d'.st = d.st)
    (hc : (decCells tb sb d.st.length d.s d.pos d.wid d.off d.over).setIfInBounds i u = decCells tb sb d.st.length d'.s d'.pos d'.wid d'.off d'.over) :
    DecIs (w.setCell ⟨b, i, none⟩ u) b tb sb d' := by
  refine ⟨?_, heap_set_other _ h.tab (block_type h.tab h.cells (by decide)), ?_⟩
  · rw [heap_set_same _ h.cells, hc, hst]
  · rw [hst]; exact heap_set_other _ h.sts (block_type h.sts h.cells (by decide))
theorem DecIs.setState {w : World} {b tb sb : Nat} {d : Dec} (h : DecIs w b tb sb d) (i : Nat) (v : Int) :
    DecIs (w.setCell ⟨sb, i, none⟩ (.int .i64 v)) b tb sb { d with st := d.st.set i v } := by
  refine ⟨?_, heap_set_other _ h.tab (block_type h.tab h.sts (by decide)), ?_⟩
  · have := heap_set_other (i := i) (.int .i64 v) h.cells (block_type h.cells h.sts (by decide))
    simpa using this
  · rw [heap_set_same _ h.sts, ints_setIf]
theorem DecIs.drew {w : World} {b tb sb : Nat} {d : Dec} (h : DecIs w b tb sb d) : DecIs w.drew b tb sb d := ⟨h.cells, h.tab, h.sts⟩
theorem DecIs.drewN {w : World} {b tb sb : Nat} {d : Dec} (h : DecIs w b tb sb d) (n : Nat) : DecIs (w.drewN n) b tb sb d := ⟨h.cells, h.tab, h.sts⟩
theorem DecIs.cellsAt {w : World} {b tb sb : Nat} {d : Dec} (h : DecIs w b tb sb d) : w.cell? ⟨b, 0, none⟩ = some (.pointer (some ⟨tb, 0, none⟩)) ∧ w.cell? ⟨b, 1, none⟩ = some (.slice (some ⟨sb, 0, none⟩) d.st.length d.st.length) ∧
    w.cell? ⟨b, 2, none⟩ = some (.string d.s) ∧ w.cell? ⟨b, 3, none⟩ = some (.int .i64 d.pos) ∧ w.cell? ⟨b, 4, none⟩ = some (.int .i64 d.wid) ∧ w.cell? ⟨b, 5, none⟩ = some (.int .i64 d.off) ∧ w.cell? ⟨b, 6, none⟩ = some (.bool d.over) := by
  refine ⟨?_, ?_, ?_, ?_, ?_, ?_, ?_⟩ <;> (rw [cells_of h.cells]; rfl)
theorem DecIs.state {w : World} {b tb sb : Nat} {d : Dec} (h : DecIs w b tb sb d) (i : Nat) (hi : i < d.st.length) : w.cell? ⟨sb, i, none⟩ = some (.int .i64 (d.st.getD i 0)) := by
  rw [cells_of h.sts]; exact ints_at _ _ hi
theorem DecIs.only {S : List Nat} {w w' : World} {b tb sb : Nat} {d : Dec} (h : DecIs w b tb sb d) (ho : Only S w w') (h1 : b ∉ S) (h2 : tb ∉ S) (h3 : sb ∉ S) : DecIs w' b tb sb d :=
  ⟨ho.heap h.cells h1, h.tab.only ho h2, ho.heap h.sts h3⟩

set_option maxRecDepth 100000 in
theorem eng_has (b tb sb n : Nat) (d : Dec) (w : World) (hd : DecIs w b tb sb d) (hn : n ≤ 1000) (hp : d.pos ≤ 2251799813685248) (hs : d.s.size ≤ 140737488355328) :
    Calls Tryd.prog 59 #[.pointer (some ⟨b, 0, none⟩), .int .i64 n] w fun r w' => r = .returned (.bool (d.has n)) ∧ ∃ k, w' = w.drewN k := by
  obtain ⟨-, -, c2, c3, -, -, -⟩ := hd.cellsAt
  have hh : d.has n = decide (d.pos + n ≤ 8 * d.s.size) := rfl
  have Hh := Lib.hid hh
  generalize d.has n = h at *
  generalize d.s = s at *
  generalize d.pos = p at *
  clear hd hh
  go_enter Tryd.func59, Tryd.ntmps59
  go_wp2
  go_quiet (fail)
  go_wp2
  go_ret
  refine ⟨ret_bool ?_, nq, rfl⟩
  rw [Hh.out]
  exact decide_eq_decide.2 (by omega)

set_option maxRecDepth 100000 in
theorem eng_dmay (b tb sb : Nat) (d : Dec) (w : World) (hd : DecIs w b tb sb d) :
    Calls Tryd.prog 61 #[.pointer (some ⟨b, 0, none⟩)] w fun r w' => r = .returned (.int .i64 (codeOf (!d.over))) ∧ w = w' := by
  obtain ⟨-, -, -, -, -, -, c6⟩ := hd.cellsAt
  clear hd
  generalize d.over = o at *
  go_enter Tryd.func61, Tryd.ntmps61
  cases o <;> go_wp2 <;> go_ret <;> exact ⟨rfl, rfl⟩

set_option maxRecDepth 100000 in
set_option maxHeartbeats 800000 in
theorem eng_read (b tb sb n : Nat) (d : Dec) (w : World) (hd : DecIs w b tb sb d) (hn : n ≤ 16) (hs : d.s.size ≤ 140737488355328) (hp : d.pos + n ≤ 8 * d.s.size) :
    Calls Tryd.prog 60 #[.pointer (some ⟨b, 0, none⟩), .int .i64 n] w fun r w' => r = .returned (.int .i64 (readTo d.s d.pos n)) ∧ DecIs w' b tb sb { d with pos := d.pos + n } ∧ Only [b] w w' := by
  have Hd := Lib.hid hd
  clear hd
  obtain ⟨s, hss⟩ : ∃ s, s = d.s := ⟨_, rfl⟩
  obtain ⟨p, hpp⟩ : ∃ p, p = d.pos := ⟨_, rfl⟩
  rw [← hss, ← hpp] at hp ⊢
  rw [← hss] at hs
  have Hs := Lib.hid hss
  have Hp := Lib.hid hpp
  clear hss hpp
  go_enter Tryd.func60, Tryd.ntmps60
  go_wp2
  go_loopw [5, 7] (fun x i wr => ∃ (k : Nat) (y : Int), k ≤ n ∧ i = .int .i64 k ∧ x = .int .i64 y ∧ Hid (y = readTo s p k) ∧ 0 ≤ y ∧ y < 65536 ∧ DecIs wr b tb sb { d with pos := p + k } ∧ Only [b] w wr) (fun _ i _ => n - (intOf i).toNat)
  case atStart => exact ⟨0, 0, Nat.zero_le _, rfl, rfl, Lib.hid rfl, by omega, by omega, by rw [Hp.out]; exact Hd.out, Only.refl _ _⟩
  case round =>
    obtain ⟨k, y, hk, rfl, rfl, hy, hy0, hy1, hi, ho⟩ := hrel
    by_cases hlt : k < n
    · obtain ⟨-, -, c2, c3, -, -, -⟩ := hi.cellsAt
      have z3 := free_of hi.cells 3
      rw [show ({ d with pos := p + k } : Dec).s = s from Hs.out.symm] at c2
      have c3' : wr.cell? ⟨b, 3, none⟩ = some (.int .i64 ((p : Int) + k)) := by rw [c3]; simp
      obtain ⟨q, r, hqr, hr⟩ : ∃ q r : Nat, p + k = 8 * q + r ∧ r < 8 := ⟨(p + k) / 8, (p + k) % 8, by omega, by omega⟩
      have hin : q < s.size := by omega
      have hw8 : IntKind.i64.wrap (((p : Int) + k) / 8) = (q : Int) := by rw [IntKind.wrap_i64]; omega
      have hd8 : Int.tdiv ((p : Int) + k) 8 = (q : Int) := by rw [Int.tdiv_eq_ediv_of_nonneg (by omega)]; omega
      have hwq : IntKind.i64.wrap (q : Int) = (q : Int) := by rw [IntKind.wrap_i64]; omega
      have hwr : IntKind.i64.wrap (r : Int) = (r : Int) := by rw [IntKind.wrap_i64]; omega
      have hm8 : Int.tmod ((p : Int) + k) 8 = (r : Int) := by rw [Int.tmod_eq_emod_of_nonneg (by omega)]; omega
      have hm9 : ((p : Int) + k) % 8 = (r : Int) := by omega
      have hw7 : IntKind.i64.wrap (7 - (r : Int)) = ((7 - r : Nat) : Int) := by rw [IntKind.wrap_i64]; omega
      have hw2 : IntKind.i64.wrap (2 * y) = 2 * y := by rw [IntKind.wrap_i64]; omega
      have Hi := Lib.hid hi
      have Ho := Lib.hid ho
      clear hi ho c3
      go_wp2
      go_quiet (fail)
      go_wp2
      go_roundw
      case rel =>
        obtain ⟨v, hv⟩ : ∃ v : Nat, v = s[q].toNat / 2 ^ (7 - r) := ⟨_, rfl⟩
        have hv1 : ((s[q].toNat : Nat) : Int) / 2 ^ (7 - r) = (v : Int) := by rw [hv]; simp
        have hv2 : v ≤ 255 := by
          have h1 := Nat.div_le_self s[q].toNat (2 ^ (7 - r))
          have h2 := s[q].toNat_lt
          omega
        have hb : bitOf s (p + k) = ((v % 2 : Nat) : Int) := by
          unfold bitOf
          rw [show (p + k) / 8 = q by omega, show (p + k) % 8 = r by omega, hv]
          have : s.data.toList.getD q 0 = s[q] := by
            simp only [List.getD, Array.getElem?_toList]
            rw [Array.getElem?_eq_getElem (show q < s.data.size from hin)]
            rfl
          rw [this]
        have hr1 := readTo_range s p (k + 1)
        have hr2 : readTo s p (k + 1) = 2 * y + bitOf s (p + k) := by rw [hy.out]; rfl
        have hpow : (2 : Int) ^ (k + 1) ≤ 2 ^ 16 := by
          have : 2 ^ (k + 1) ≤ 2 ^ 16 := Nat.pow_le_pow_right (by decide) (by omega)
          exact_mod_cast this
        refine ⟨k + 1, 2 * y + bitOf s (p + k), by omega, by go_num, ?_, Lib.hid hr2.symm, by omega, by omega, ?_, (Ho.out.drewN nq).setCell (.inl (by simp)) _⟩
        · rw [hv1, IntWalk.wrap64_in (v : Int) ⟨by omega, by omega⟩, IntWalk.wrap64_in _ ⟨by omega, by omega⟩, hb]
          simp
        · exact (Hi.out.drewN nq).put 3 _ { d with pos := p + (k + 1) } rfl (by simp [decCells]; omega)
      case measure => simp [intOf] <;> omega
    · obtain rfl : k = n := by omega
      rw [hy.out]
      have H1 := Lib.hid hi
      have H2 := Lib.hid ho
      clear hi ho
      go_wp2
      go_ret
      exact ⟨rfl, by rw [Hs.out]; exact H1.out, H2.out⟩
end Go.Proofs.YtibojidpifgblaaDoor
