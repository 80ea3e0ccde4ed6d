/-
  The walk over package recon's brush.around, on an even picture of one macroblock.
-/
import Derived.Test.YtcmehedjdfopdaaGreatJ31
import Derived.Test.YtcmehedjdfopdaaGreatJ33
namespace Go.Proofs.YtcmehedjdfopdaaGreat
open Go Go.RowKit

/-- What around's test answers. -/
def HasF (w : World) (b k : Nat) (cx cy : Int) (q : Bool) : Prop := ∀ (wx : World) (k2 k3 : Nat), Only [] w wx → wx.cell? ⟨k2, 0, none⟩ = some (.int .i64 k) → wx.cell? ⟨k3, 0, none⟩ = some (.pointer (some ⟨b, 0, none⟩)) →
  Calls Tryz.prog 102 #[.int .i64 cx, .int .i64 cy, .pointer (some ⟨k2, 0, none⟩), .pointer (some ⟨k3, 0, none⟩)] wx fun e w' => e = .returned (.bool q) ∧ Only [] wx w'
def AroundOut (w : World) (v : Int) (nl nt : Nat) (e : Ending) (w' : World) : Prop := ∃ vl vt co, e = .returned (.tuple #[vl, vt, .int .i64 co]) ∧ IntSlice w' vl (List.replicate nl v) ∧ IntSlice w' vt (List.replicate nt v) ∧ (-1 ≤ co ∧ co ≤ 255) ∧ Only [] w w'
theorem getL_same (v : Int) (N pw x y dx dy n : Nat) (h : ∀ k, k < n → (y + k * dy) * pw + x + k * dx < N) : getL (List.replicate N v) pw x y dx dy n = List.replicate n v := by
  unfold getL
  apply List.ext_getElem?
  intro i
  by_cases hi : i < n
  · simp [hi, List.getD, h i hi]
  · simp [hi]
theorem IntSlice.of_ints {w : World} {g c : Nat} {xs : List Int} {e : TypeId} (h : w.heap[g]? = some (.cells (ints xs) e (0, 0))) : IntSlice w (.slice (some ⟨g, 0, none⟩) xs.length c) xs :=
  ⟨_, c, rfl, .inr ⟨g, 0, rfl, fun i hi => by rw [Nat.zero_add, cells_of h, ints_at _ _ hi]⟩⟩
theorem own_ints {w : World} {B g n : Nat} {xs : List Int} (h : w.heap[g]? = some (.cells (ints xs) 3 (0, 0))) (hB : B ≤ g) (hn : xs.length = n) (hm : n ≤ maxLen) : w.ownsRow B 3 1 (.slice (some ⟨g, 0, none⟩) n n) n (xs.map (Value.int .i64)) := by
  refine ⟨by simp [hn], .inr ⟨g, n, ints xs, rfl, hB, h, Nat.le_refl _, hm, by rw [ints_size, hn, Nat.mul_one], ?_⟩⟩
  rw [Nat.mul_one, List.take_of_length_le (by simp [ints, hn])]
  rfl
theorem run_append_full {P : Program} {w : World} {t ty e : TypeId} {z : Value} {size bytes : Nat} (E : Elt P t e z size bytes) (B g n : Nat) (xs : List Value) (hown : w.ownsRow B e size (.slice (some ⟨g, 0, none⟩) n n) n xs)
    (a : Addr) (m c : Nat) (news : List Value) (hl : news.length = m * size) (hnews : ∀ j u, news[j]? = some u → w.cell? (a.add j) = some u)
    (hm : 0 < m) (hbytes : (n + m) * bytes ≤ 140737488355328) (hn : n + m ≤ 140737488355328) :
    ∃ cap w', (Builtin.append_ #[t, t] ty #[.slice (some ⟨g, 0, none⟩) n n, .slice (some a) m c]).run P w = .ok (.slice (some ⟨w.heap.size, 0, none⟩) (n + m) cap) w' ∧ w'.ownsRow w.heap.size e size (.slice (some ⟨w.heap.size, 0, none⟩) (n + m) cap) (n + m) (xs ++ news) ∧ Only [] w w' := by
  obtain ⟨i, hi, hz, rfl, rfl⟩ := info_parts E.hi
  have h63 : n + m ≤ maxLen := by unfold maxLen; omega
  have hlen : (xs ++ news).length = (n + m) * i.size := by rw [List.length_append, hown.1, hl, Nat.add_mul]
  have hr := run_append_grow (P := P) w t ty e i z E.ht hi hz ⟨g, 0, none⟩ n n xs hown.1 (hown.cells (g := g) rfl) a m c news hl hnews (by omega) (by omega) (growslice_fits (by omega) hbytes)
  have hge := grownCap_ge w (n + m) n e
  refine ⟨_, _, hr, ⟨hlen, .inr ⟨w.heap.size, _, _, rfl, Nat.le_refl _, heap_alloc_new w.drew _, hge, grownCap_le_maxLen w (n + m) n e h63, ?_, ?_⟩⟩, ((Only.refl [] w).drew).alloc _⟩
  · simp only [Array.size_append, List.size_toArray, size_zeroCells, E.zs, hown.1, hl, ← Nat.add_mul]
    congr 1
    omega
  · simp only [Array.toList_append, List.append_assoc]
    rw [← List.append_assoc, ← hlen]
    exact List.take_left
theorem wp_append_full {P : Program} {w : World} {o : Oper} {a : Act} {K : Act → World → Prop} {Q : Exit → Act → World → Prop} (s x : Operand) {t e : TypeId}
    (ho : o.op = .call { callee := .builtin .append, args := #[s, x], argTypes := #[t, t] }) {z : Value} {size bytes : Nat} (E : Elt P t e z size bytes)
    (B g n : Nat) (xs : List Value) (hs : a.eval s = .slice (some ⟨g, 0, none⟩) n n) (hown : w.ownsRow B e size (.slice (some ⟨g, 0, none⟩) n n) n xs)
    (ad : Addr) (m c : Nat) (news : List Value) (hx : a.eval x = .slice (some ad) m c) (hl : news.length = m * size) (hnews : ∀ j u, news[j]? = some u → w.cell? (ad.add j) = some u)
    (hm : 0 < m) (hby : (n + m) * bytes ≤ 140737488355328) (hn : n + m ≤ 140737488355328)
    (h : ∀ cap w', w'.ownsRow w.heap.size e size (.slice (some ⟨w.heap.size, 0, none⟩) (n + m) cap) (n + m) (xs ++ news) → Only [] w w' → K (a.put o.dst (.slice (some ⟨w.heap.size, 0, none⟩) (n + m) cap)) w') : o.wp P a w K Q := by
  obtain ⟨cap, w', hr, h1, h2⟩ := run_append_full (ty := o.type) E B g n xs hown ad m c news hl hnews hm hby hn
  unfold Oper.wp execOp
  simp only [ho, resolve, invoke, builtin, Sem.run_bind, Sem.run_pure, Result.andThen_ok, List.map_toArray, List.map_cons, List.map_nil, hs, hx, hr]
  exact h cap w' h1 h2
theorem wpList_append_full {P : Program} {w : World} {ops : Array Oper} {rest : List Oper} {o : Oper} {a : Act} {Q : Exit → Act → World → Prop} (hgd : o.guard = none) (s x : Operand) {t e : TypeId}
    (ho : o.op = .call { callee := .builtin .append, args := #[s, x], argTypes := #[t, t] }) {z : Value} {size bytes : Nat} (E : Elt P t e z size bytes)
    (B g n : Nat) (xs : List Value) (hs : a.eval s = .slice (some ⟨g, 0, none⟩) n n) (hown : w.ownsRow B e size (.slice (some ⟨g, 0, none⟩) n n) n xs)
    (ad : Addr) (m c : Nat) (news : List Value) (hx : a.eval x = .slice (some ad) m c) (hl : news.length = m * size) (hnews : ∀ j u, news[j]? = some u → w.cell? (ad.add j) = some u)
    (hm : 0 < m) (hby : (n + m) * bytes ≤ 140737488355328) (hn : n + m ≤ 140737488355328)
    (h : ∀ cap w', w'.ownsRow w.heap.size e size (.slice (some ⟨w.heap.size, 0, none⟩) (n + m) cap) (n + m) (xs ++ news) → Only [] w w' → wpList P ops Q rest (a.put o.dst (.slice (some ⟨w.heap.size, 0, none⟩) (n + m) cap)) w') :
    wpList P ops Q (o :: rest) a w :=
  wpList_plain hgd fun _ hK => wp_append_full s x ho E B g n xs hs hown ad m c news hx hl hnews hm hby hn fun cap w' h1 h2 => hK _ _ (h cap w' h1 h2)
theorem news_ints {w : World} {g : Nat} {xs : List Int} {e : TypeId} (h : w.heap[g]? = some (.cells (ints xs) e (0, 0))) (j : Nat) (u : Value) (hj : (xs.map (Value.int .i64))[j]? = some u) : w.cell? ((⟨g, 0, none⟩ : Addr).add j) = some u := by
  have e1 : (⟨g, 0, none⟩ : Addr).add j = ⟨g, j, none⟩ := by
    unfold Addr.add
    split
    · rename_i h0; rw [h0]
    · simp
  rw [e1, cells_of h, ← hj]
  simp [ints]
theorem rep48 (v : Int) : (List.replicate 4 v).map (Value.int .i64) ++ (List.replicate 4 v).map (Value.int .i64) = (List.replicate 8 v).map (Value.int .i64) := by rw [← List.map_append, List.replicate_append_replicate]

set_option maxRecDepth 100000 in
set_option maxHeartbeats 3200000 in
theorem around_a {w : World} {b cb mb db p g cap k bx by' : Nat} {v : Int} (hb : BrushAt w b cb mb db 0 0) (_ : PlaneAt w p g cap 16 16 (List.replicate 256 v)) (hk : k < 16) (hbx : blkX k = bx) (hby : blkY k = by') 
    (h1 : HasF w b k ((bx : Int) - 1) by' false) (h2 : HasF w b k ((bx : Int) - 1) ((by' : Int) - 1) false) (h3 : HasF w b k bx ((by' : Int) - 1) false) :
    Calls Tryz.prog 78 #[.pointer (some ⟨b, 0, none⟩), .pointer (some ⟨p, 0, none⟩), .int .i64 k] w fun e w' => e = .returned (.tuple #[.slice none 0 0, .slice none 0 0, .int .i64 (-1)]) ∧ Only [] w w' := by
  have hblk := fun w => syn_block k w hk
  have hlt := blk_lt k hk
  rw [hbx, hby] at hblk hlt
  obtain ⟨XX, hXX⟩ : ∃ XX : Nat, XX = 4 * bx := ⟨_, rfl⟩
  obtain ⟨YY, hYY⟩ : ∃ YY : Nat, YY = 4 * by' := ⟨_, rfl⟩
  have qx : IntKind.i64.wrap (4 * (bx : Int)) = (XX : Int) := by rw [show 4 * (bx : Int) = (XX : Int) by omega]; exact i64n _ (by omega)
  have qy : IntKind.i64.wrap (4 * (by' : Int)) = (YY : Int) := by rw [show 4 * (by' : Int) = (YY : Int) by omega]; exact i64n _ (by omega)
  have qxx : IntKind.i64.wrap (XX : Int) = (XX : Int) := i64n _ (by omega)
  have qyy : IntKind.i64.wrap (YY : Int) = (YY : Int) := i64n _ (by omega)
  have qb1 : IntKind.i64.wrap ((bx : Int) - 1) = (bx : Int) - 1 := i64w _ (by omega) (by omega)
  have qb2 : IntKind.i64.wrap ((bx : Int) + 1) = (bx : Int) + 1 := i64w _ (by omega) (by omega)
  have qy1 : IntKind.i64.wrap ((by' : Int) - 1) = (by' : Int) - 1 := i64w _ (by omega) (by omega)
  have qn : IntKind.i64.wrap (-1) = -1 := by decide
  have hmf : ∀ (fn : Fn) (first cap : Array Value) (w : World), (Instr.makeFunc fn first cap).run Tryz.prog w = .ok (.func fn first cap) w := fun _ _ _ _ => rfl
  have s3 : w.cell? ⟨b, 3, none⟩ = some (.int .i64 0) := by rw [cells_of hb]; rfl
  have s4 : w.cell? ⟨b, 4, none⟩ = some (.int .i64 0) := by rw [cells_of hb]; rfl
  have H1 := Lib.hid h1
  have H2 := Lib.hid h2
  have H3 := Lib.hid h3
  have HB := Lib.hid hblk
  have a3 : ((w.alloc (.cells #[.pointer (some ⟨b, 0, none⟩)] 95)).alloc (.cells #[.int .i64 k] 3)).cell? ⟨b, 3, none⟩ = some (.int .i64 0) := cell_alloc (cell_alloc s3)
  have a4 : ((w.alloc (.cells #[.pointer (some ⟨b, 0, none⟩)] 95)).alloc (.cells #[.int .i64 k] 3)).cell? ⟨b, 4, none⟩ = some (.int .i64 0) := cell_alloc (cell_alloc s4)
  have k3 : ((w.alloc (.cells #[.pointer (some ⟨b, 0, none⟩)] 95)).alloc (.cells #[.int .i64 k] 3)).cell? ⟨w.heap.size, 0, none⟩ = some (.pointer (some ⟨b, 0, none⟩)) := cells_of (heap_alloc_lt _ (heap_alloc_at w _)) 0
  have k2 : ((w.alloc (.cells #[.pointer (some ⟨b, 0, none⟩)] 95)).alloc (.cells #[.int .i64 k] 3)).cell? ⟨w.heap.size + 1, 0, none⟩ = some (.int .i64 k) := cells_of (heap_alloc2_new w _ _) 0
  have OA : Hid (Only [] w ((w.alloc (.cells #[.pointer (some ⟨b, 0, none⟩)] 95)).alloc (.cells #[.int .i64 k] 3))) := Lib.hid (((Only.refl [] w).alloc _).alloc _)
  clear hb h1 h2 h3 hblk s3 s4 hXX hYY hbx hby
  go_enter Tryz.func78, Tryz.ntmps78
  go_wp2_with fail
  generalize ((w.alloc (.cells #[.pointer (some ⟨b, 0, none⟩)] 95)).alloc (.cells #[.int .i64 k] 3)) = wA at *
  generalize w.heap.size + 1 = b2 at *
  generalize w.heap.size = b3 at *
  refine (HB.out _).mono ?_
  rintro e w' ⟨rfl, rfl⟩
  go_wp2_with fail
  go_quiet (fail)
  rename_i nq
  have c2 : (wA.drewN nq).cell? ⟨b2, 0, none⟩ = some (.int .i64 k) := k2
  have c3 : (wA.drewN nq).cell? ⟨b3, 0, none⟩ = some (.pointer (some ⟨b, 0, none⟩)) := k3
  have O0 := Lib.hid (OA.out.drewN nq)
  clear k2 k3 a3 a4 OA
  generalize wA.drewN nq = w0 at *
  go_wp2_with fail
  refine (H1.out _ _ _ O0.out c2 c3).mono ?_
  rintro e w1 ⟨rfl, o⟩
  have O1 := Lib.hid (O0.out.trans o)
  have d2 := o.cell c2 (by simp)
  have d3 := o.cell c3 (by simp)
  clear o c2 c3 O0
  have c2 := d2
  have c3 := d3
  clear d2 d3
  go_wp2_with fail
  refine (H2.out _ _ _ O1.out c2 c3).mono ?_
  rintro e w2 ⟨rfl, o⟩
  have O2 := Lib.hid (O1.out.trans o)
  have d2 := o.cell c2 (by simp)
  have d3 := o.cell c3 (by simp)
  clear o c2 c3 O1
  have c2 := d2
  have c3 := d3
  clear d2 d3
  go_wp2_with fail
  refine (H3.out _ _ _ O2.out c2 c3).mono ?_
  rintro e w3 ⟨rfl, o⟩
  have O3 := Lib.hid (O2.out.trans o)
  have d2 := o.cell c2 (by simp)
  have d3 := o.cell c3 (by simp)
  clear o c2 c3 O2
  have c2 := d2
  have c3 := d3
  clear d2 d3
  go_wp2
  go_ret3
  exact ⟨rfl, O3.out⟩

set_option maxRecDepth 100000 in
set_option maxHeartbeats 3200000 in
theorem around_b {w : World} {b cb mb db p g cap k bx by' : Nat} {v : Int} (hb : BrushAt w b cb mb db 0 0) (hp : PlaneAt w p g cap 16 16 (List.replicate 256 v)) (hk : k < 16) (hbx : blkX k = bx) (hby : blkY k = by') (hx0 : 1 ≤ bx)
    (h1 : HasF w b k ((bx : Int) - 1) by' true) (h2 : HasF w b k ((bx : Int) - 1) ((by' : Int) - 1) false) (h3 : HasF w b k bx ((by' : Int) - 1) false) :
    Calls Tryz.prog 78 #[.pointer (some ⟨b, 0, none⟩), .pointer (some ⟨p, 0, none⟩), .int .i64 k] w (AroundOut w v 4 0) := by
  have hblk := fun w => syn_block k w hk
  have hlt := blk_lt k hk
  rw [hbx, hby] at hblk hlt
  obtain ⟨XX, hXX⟩ : ∃ XX : Nat, XX = 4 * bx := ⟨_, rfl⟩
  obtain ⟨YY, hYY⟩ : ∃ YY : Nat, YY = 4 * by' := ⟨_, rfl⟩
  have qx : IntKind.i64.wrap (4 * (bx : Int)) = (XX : Int) := by rw [show 4 * (bx : Int) = (XX : Int) by omega]; exact i64n _ (by omega)
  have qy : IntKind.i64.wrap (4 * (by' : Int)) = (YY : Int) := by rw [show 4 * (by' : Int) = (YY : Int) by omega]; exact i64n _ (by omega)
  have qxx : IntKind.i64.wrap (XX : Int) = (XX : Int) := i64n _ (by omega)
  have qyy : IntKind.i64.wrap (YY : Int) = (YY : Int) := i64n _ (by omega)
  have qb1 : IntKind.i64.wrap ((bx : Int) - 1) = (bx : Int) - 1 := i64w _ (by omega) (by omega)
  have qb2 : IntKind.i64.wrap ((bx : Int) + 1) = (bx : Int) + 1 := i64w _ (by omega) (by omega)
  have qy1 : IntKind.i64.wrap ((by' : Int) - 1) = (by' : Int) - 1 := i64w _ (by omega) (by omega)
  have qn : IntKind.i64.wrap (-1) = -1 := by decide
  have hmf : ∀ (fn : Fn) (first cap : Array Value) (w : World), (Instr.makeFunc fn first cap).run Tryz.prog w = .ok (.func fn first cap) w := fun _ _ _ _ => rfl
  obtain ⟨X1, hX1⟩ : ∃ X1 : Nat, XX = X1 + 1 := ⟨XX - 1, by omega⟩
  have qx1 : IntKind.i64.wrap ((XX : Int) - 1) = (X1 : Int) := by rw [show (XX : Int) - 1 = (X1 : Int) by omega]; exact i64n _ (by omega)
  have gl : ∀ wx, Only [] w wx → Calls Tryz.prog 77 #[.pointer (some ⟨p, 0, none⟩), .int .i64 X1, .int .i64 YY, .int .i64 0, .int .i64 1, .int .i64 4] wx fun e w' => ∃ g', e = .returned (.slice (some ⟨g', 0, none⟩) 4 4) ∧ w'.heap[g']? = some (.cells (ints (List.replicate 4 v)) 3 (0, 0)) ∧ wx.heap.size ≤ g' ∧ Only [] wx w' := by
    intro wx hw
    have := plane_get (hp.only hw (by simp) (by simp)) X1 YY 0 1 4 ⟨by omega, by omega⟩ (by omega) (by omega) (by omega) (by rw [List.length_replicate]; omega) (fun j hj => by rw [List.length_replicate]; omega)
    rw [getL_same v 256 16 X1 YY 0 1 4 (fun j hj => by omega)] at this
    exact this
  have Hgl := Lib.hid gl
  clear gl
  have s3 : w.cell? ⟨b, 3, none⟩ = some (.int .i64 0) := by rw [cells_of hb]; rfl
  have s4 : w.cell? ⟨b, 4, none⟩ = some (.int .i64 0) := by rw [cells_of hb]; rfl
  have H1 := Lib.hid h1
  have H2 := Lib.hid h2
  have H3 := Lib.hid h3
  have HB := Lib.hid hblk
  have a3 : ((w.alloc (.cells #[.pointer (some ⟨b, 0, none⟩)] 95)).alloc (.cells #[.int .i64 k] 3)).cell? ⟨b, 3, none⟩ = some (.int .i64 0) := cell_alloc (cell_alloc s3)
  have a4 : ((w.alloc (.cells #[.pointer (some ⟨b, 0, none⟩)] 95)).alloc (.cells #[.int .i64 k] 3)).cell? ⟨b, 4, none⟩ = some (.int .i64 0) := cell_alloc (cell_alloc s4)
  have k3 : ((w.alloc (.cells #[.pointer (some ⟨b, 0, none⟩)] 95)).alloc (.cells #[.int .i64 k] 3)).cell? ⟨w.heap.size, 0, none⟩ = some (.pointer (some ⟨b, 0, none⟩)) := cells_of (heap_alloc_lt _ (heap_alloc_at w _)) 0
  have k2 : ((w.alloc (.cells #[.pointer (some ⟨b, 0, none⟩)] 95)).alloc (.cells #[.int .i64 k] 3)).cell? ⟨w.heap.size + 1, 0, none⟩ = some (.int .i64 k) := cells_of (heap_alloc2_new w _ _) 0
  have OA : Hid (Only [] w ((w.alloc (.cells #[.pointer (some ⟨b, 0, none⟩)] 95)).alloc (.cells #[.int .i64 k] 3))) := Lib.hid (((Only.refl [] w).alloc _).alloc _)
  clear hb hp hX1 h1 h2 h3 hblk s3 s4 hXX hYY hbx hby
  go_enter Tryz.func78, Tryz.ntmps78
  go_wp2_with fail
  generalize ((w.alloc (.cells #[.pointer (some ⟨b, 0, none⟩)] 95)).alloc (.cells #[.int .i64 k] 3)) = wA at *
  generalize w.heap.size + 1 = b2 at *
  generalize w.heap.size = b3 at *
  refine (HB.out _).mono ?_
  rintro e w' ⟨rfl, rfl⟩
  go_wp2_with fail
  go_quiet (fail)
  rename_i nq
  have c2 : (wA.drewN nq).cell? ⟨b2, 0, none⟩ = some (.int .i64 k) := k2
  have c3 : (wA.drewN nq).cell? ⟨b3, 0, none⟩ = some (.pointer (some ⟨b, 0, none⟩)) := k3
  have O0 := Lib.hid (OA.out.drewN nq)
  clear k2 k3 a3 a4 OA
  generalize wA.drewN nq = w0 at *
  go_wp2_with fail
  refine (H1.out _ _ _ O0.out c2 c3).mono ?_
  rintro e w1 ⟨rfl, o⟩
  have O1 := Lib.hid (O0.out.trans o)
  have d2 := o.cell c2 (by simp)
  have d3 := o.cell c3 (by simp)
  clear o c2 c3 O0
  have c2 := d2
  have c3 := d3
  clear d2 d3
  go_wp2_with fail
  refine (Hgl.out _ O1.out).mono ?_
  rintro e w2 ⟨g1, rfl, hc, hge, o⟩
  have O2 := Lib.hid (O1.out.trans o)
  have d2 := o.cell c2 (by simp)
  have d3 := o.cell c3 (by simp)
  clear o c2 c3 O1
  have c2 := d2
  have c3 := d3
  clear d2 d3
  have C1 := Lib.hid hc
  clear hc hge
  go_wp2_with fail
  refine (H2.out _ _ _ O2.out c2 c3).mono ?_
  rintro e w3 ⟨rfl, o⟩
  have O3 := Lib.hid (O2.out.trans o)
  have d2 := o.cell c2 (by simp)
  have d3 := o.cell c3 (by simp)
  have C1' := Lib.hid (o.heap C1.out (by simp))
  clear o c2 c3 O2 C1
  have c2 := d2
  have c3 := d3
  clear d2 d3
  have C1 := C1'
  clear C1'
  go_wp2_with fail
  refine (H3.out _ _ _ O3.out c2 c3).mono ?_
  rintro e w4 ⟨rfl, o⟩
  have O4 := Lib.hid (O3.out.trans o)
  have d2 := o.cell c2 (by simp)
  have d3 := o.cell c3 (by simp)
  have C1' := Lib.hid (o.heap C1.out (by simp))
  clear o c2 c3 O3 C1
  have c2 := d2
  have c3 := d3
  clear d2 d3
  have C1 := C1'
  clear C1'
  go_wp2
  go_ret3
  exact ⟨_, _, _, rfl, IntSlice.of_ints C1.out, IntSlice.nil _, by omega, O4.out⟩

set_option maxRecDepth 100000 in
set_option maxHeartbeats 3200000 in
theorem around_c {w : World} {b cb mb db p g cap k bx by' : Nat} {v : Int} (hb : BrushAt w b cb mb db 0 0) (hp : PlaneAt w p g cap 16 16 (List.replicate 256 v)) (hk : k < 16) (hbx : blkX k = bx) (hby : blkY k = by') (hy0 : 1 ≤ by') (hx3 : bx ≤ 2)
    (h1 : HasF w b k ((bx : Int) - 1) by' false) (h2 : HasF w b k ((bx : Int) - 1) ((by' : Int) - 1) false) (h3 : HasF w b k bx ((by' : Int) - 1) true) (h4 : HasF w b k ((bx : Int) + 1) ((by' : Int) - 1) true) :
    Calls Tryz.prog 78 #[.pointer (some ⟨b, 0, none⟩), .pointer (some ⟨p, 0, none⟩), .int .i64 k] w (AroundOut w v 0 8) := by
  have hblk := fun w => syn_block k w hk
  have hlt := blk_lt k hk
  rw [hbx, hby] at hblk hlt
  obtain ⟨XX, hXX⟩ : ∃ XX : Nat, XX = 4 * bx := ⟨_, rfl⟩
  obtain ⟨YY, hYY⟩ : ∃ YY : Nat, YY = 4 * by' := ⟨_, rfl⟩
  have qx : IntKind.i64.wrap (4 * (bx : Int)) = (XX : Int) := by rw [show 4 * (bx : Int) = (XX : Int) by omega]; exact i64n _ (by omega)
  have qy : IntKind.i64.wrap (4 * (by' : Int)) = (YY : Int) := by rw [show 4 * (by' : Int) = (YY : Int) by omega]; exact i64n _ (by omega)
  have qxx : IntKind.i64.wrap (XX : Int) = (XX : Int) := i64n _ (by omega)
  have qyy : IntKind.i64.wrap (YY : Int) = (YY : Int) := i64n _ (by omega)
  have qb1 : IntKind.i64.wrap ((bx : Int) - 1) = (bx : Int) - 1 := i64w _ (by omega) (by omega)
  have qb2 : IntKind.i64.wrap ((bx : Int) + 1) = (bx : Int) + 1 := i64w _ (by omega) (by omega)
  have qy1 : IntKind.i64.wrap ((by' : Int) - 1) = (by' : Int) - 1 := i64w _ (by omega) (by omega)
  have qn : IntKind.i64.wrap (-1) = -1 := by decide
  have hmf : ∀ (fn : Fn) (first cap : Array Value) (w : World), (Instr.makeFunc fn first cap).run Tryz.prog w = .ok (.func fn first cap) w := fun _ _ _ _ => rfl
  obtain ⟨Y1, hY1⟩ : ∃ Y1 : Nat, YY = Y1 + 1 := ⟨YY - 1, by omega⟩
  have qy2 : IntKind.i64.wrap ((YY : Int) - 1) = (Y1 : Int) := by rw [show (YY : Int) - 1 = (Y1 : Int) by omega]; exact i64n _ (by omega)
  obtain ⟨X4, hX4⟩ : ∃ X4 : Nat, X4 = XX + 4 := ⟨_, rfl⟩
  have qx4 : IntKind.i64.wrap ((XX : Int) + 4) = (X4 : Int) := by rw [show (XX : Int) + 4 = (X4 : Int) by omega]; exact i64n _ (by omega)
  have gt : ∀ wx, Only [] w wx → Calls Tryz.prog 77 #[.pointer (some ⟨p, 0, none⟩), .int .i64 XX, .int .i64 Y1, .int .i64 1, .int .i64 0, .int .i64 4] wx fun e w' => ∃ g', e = .returned (.slice (some ⟨g', 0, none⟩) 4 4) ∧ w'.heap[g']? = some (.cells (ints (List.replicate 4 v)) 3 (0, 0)) ∧ wx.heap.size ≤ g' ∧ Only [] wx w' := by
    intro wx hw
    have := plane_get (hp.only hw (by simp) (by simp)) XX Y1 1 0 4 ⟨by omega, by omega⟩ (by omega) (by omega) (by omega) (by rw [List.length_replicate]; omega) (fun j hj => by rw [List.length_replicate]; omega)
    rw [getL_same v 256 16 XX Y1 1 0 4 (fun j hj => by omega)] at this
    exact this
  have Hgt := Lib.hid gt
  clear gt
  have gr : ∀ wx, Only [] w wx → Calls Tryz.prog 77 #[.pointer (some ⟨p, 0, none⟩), .int .i64 X4, .int .i64 Y1, .int .i64 1, .int .i64 0, .int .i64 4] wx fun e w' => ∃ g', e = .returned (.slice (some ⟨g', 0, none⟩) 4 4) ∧ w'.heap[g']? = some (.cells (ints (List.replicate 4 v)) 3 (0, 0)) ∧ wx.heap.size ≤ g' ∧ Only [] wx w' := by
    intro wx hw
    have := plane_get (hp.only hw (by simp) (by simp)) X4 Y1 1 0 4 ⟨by omega, by omega⟩ (by omega) (by omega) (by omega) (by rw [List.length_replicate]; omega) (fun j hj => by rw [List.length_replicate]; omega)
    rw [getL_same v 256 16 X4 Y1 1 0 4 (fun j hj => by omega)] at this
    exact this
  have Hgr := Lib.hid gr
  clear gr
  have s3 : w.cell? ⟨b, 3, none⟩ = some (.int .i64 0) := by rw [cells_of hb]; rfl
  have s4 : w.cell? ⟨b, 4, none⟩ = some (.int .i64 0) := by rw [cells_of hb]; rfl
  have H1 := Lib.hid h1
  have H2 := Lib.hid h2
  have H3 := Lib.hid h3
  have H4 := Lib.hid h4
  have HB := Lib.hid hblk
  have a3 : ((w.alloc (.cells #[.pointer (some ⟨b, 0, none⟩)] 95)).alloc (.cells #[.int .i64 k] 3)).cell? ⟨b, 3, none⟩ = some (.int .i64 0) := cell_alloc (cell_alloc s3)
  have a4 : ((w.alloc (.cells #[.pointer (some ⟨b, 0, none⟩)] 95)).alloc (.cells #[.int .i64 k] 3)).cell? ⟨b, 4, none⟩ = some (.int .i64 0) := cell_alloc (cell_alloc s4)
  have k3 : ((w.alloc (.cells #[.pointer (some ⟨b, 0, none⟩)] 95)).alloc (.cells #[.int .i64 k] 3)).cell? ⟨w.heap.size, 0, none⟩ = some (.pointer (some ⟨b, 0, none⟩)) := cells_of (heap_alloc_lt _ (heap_alloc_at w _)) 0
  have k2 : ((w.alloc (.cells #[.pointer (some ⟨b, 0, none⟩)] 95)).alloc (.cells #[.int .i64 k] 3)).cell? ⟨w.heap.size + 1, 0, none⟩ = some (.int .i64 k) := cells_of (heap_alloc2_new w _ _) 0
  have OA : Hid (Only [] w ((w.alloc (.cells #[.pointer (some ⟨b, 0, none⟩)] 95)).alloc (.cells #[.int .i64 k] 3))) := Lib.hid (((Only.refl [] w).alloc _).alloc _)
  clear hb hp hY1 hX4 h1 h2 h3 h4 hblk s3 s4 hXX hYY hbx hby
  go_enter Tryz.func78, Tryz.ntmps78
  go_wp2_with fail
  generalize ((w.alloc (.cells #[.pointer (some ⟨b, 0, none⟩)] 95)).alloc (.cells #[.int .i64 k] 3)) = wA at *
  generalize w.heap.size + 1 = b2 at *
  generalize w.heap.size = b3 at *
  refine (HB.out _).mono ?_
  rintro e w' ⟨rfl, rfl⟩
  go_wp2_with fail
  go_quiet (fail)
  rename_i nq
  have c2 : (wA.drewN nq).cell? ⟨b2, 0, none⟩ = some (.int .i64 k) := k2
  have c3 : (wA.drewN nq).cell? ⟨b3, 0, none⟩ = some (.pointer (some ⟨b, 0, none⟩)) := k3
  have O0 := Lib.hid (OA.out.drewN nq)
  clear k2 k3 a3 a4 OA
  generalize wA.drewN nq = w0 at *
  go_wp2_with fail
  refine (H1.out _ _ _ O0.out c2 c3).mono ?_
  rintro e w1 ⟨rfl, o⟩
  have O1 := Lib.hid (O0.out.trans o)
  have d2 := o.cell c2 (by simp)
  have d3 := o.cell c3 (by simp)
  clear o c2 c3 O0
  have c2 := d2
  have c3 := d3
  clear d2 d3
  go_wp2_with fail
  refine (H2.out _ _ _ O1.out c2 c3).mono ?_
  rintro e w2 ⟨rfl, o⟩
  have O2 := Lib.hid (O1.out.trans o)
  have d2 := o.cell c2 (by simp)
  have d3 := o.cell c3 (by simp)
  clear o c2 c3 O1
  have c2 := d2
  have c3 := d3
  clear d2 d3
  go_wp2_with fail
  refine (H3.out _ _ _ O2.out c2 c3).mono ?_
  rintro e w3 ⟨rfl, o⟩
  have O3 := Lib.hid (O2.out.trans o)
  have d2 := o.cell c2 (by simp)
  have d3 := o.cell c3 (by simp)
  clear o c2 c3 O2
  have c2 := d2
  have c3 := d3
  clear d2 d3
  go_wp2_with fail
  refine (Hgt.out _ O3.out).mono ?_
  rintro e w4 ⟨g3, rfl, hc, hge, o⟩
  have O4 := Lib.hid (O3.out.trans o)
  have d2 := o.cell c2 (by simp)
  have d3 := o.cell c3 (by simp)
  clear o c2 c3 O3
  have c2 := d2
  have c3 := d3
  clear d2 d3
  have C3 := Lib.hid hc
  clear hc hge
  go_wp2_with fail
  refine (H4.out _ _ _ O4.out c2 c3).mono ?_
  rintro e w5 ⟨rfl, o⟩
  have O5 := Lib.hid (O4.out.trans o)
  have d2 := o.cell c2 (by simp)
  have d3 := o.cell c3 (by simp)
  have C3' := Lib.hid (o.heap C3.out (by simp))
  clear o c2 c3 O4 C3
  have c2 := d2
  have c3 := d3
  clear d2 d3
  have C3 := C3'
  clear C3'
  go_wp2_with fail
  refine (Hgr.out _ O5.out).mono ?_
  rintro e w6 ⟨g4, rfl, hc, hge, o⟩
  have O6 := Lib.hid (O5.out.trans o)
  have d2 := o.cell c2 (by simp)
  have d3 := o.cell c3 (by simp)
  have C3' := Lib.hid (o.heap C3.out (by simp))
  clear o c2 c3 O5 C3
  have c2 := d2
  have c3 := d3
  clear d2 d3
  have C3 := C3'
  clear C3'
  have C4 := Lib.hid hc
  clear hc hge
  have HE : Hid (w6.ownsRow 0 3 1 (.slice (some ⟨g3, 0, none⟩) 4 4) 4 ((List.replicate 4 v).map (Value.int .i64))) := Lib.hid (own_ints C3.out (Nat.zero_le _) (by simp) (by decide))
  go_wp2_with (refine wpList_append_full rfl _ _ rfl elt64 0 g3 4 _ rfl HE.out ⟨g4, 0, none⟩ 4 4 ((List.replicate 4 v).map (Value.int .i64)) rfl (by simp) (news_ints C4.out) (by decide) (by decide) (by decide) ?_)
  intro cap9 w7 h9 o9
  have O7 := Lib.hid (O6.out.trans o9)
  have V9 : Hid (IntSlice w7 (.slice (some ⟨w6.heap.size, 0, none⟩) (4 + 4) cap9) (List.replicate 8 v)) := Lib.hid (IntSlice.of_rows (by rw [← rep48]; exact h9) (by simp))
  clear h9 o9
  go_wp2
  go_ret3
  exact ⟨_, _, _, rfl, IntSlice.nil _, V9.out, by omega, O7.out⟩

set_option maxRecDepth 100000 in
set_option maxHeartbeats 3200000 in
theorem around_d {w : World} {b cb mb db p g cap k bx by' : Nat} {v : Int} (hb : BrushAt w b cb mb db 0 0) (hp : PlaneAt w p g cap 16 16 (List.replicate 256 v)) (hk : k < 16) (hbx : blkX k = bx) (hby : blkY k = by') (hx0 : 1 ≤ bx) (hy0 : 1 ≤ by') (hx3 : bx ≤ 2) (hv0 : 0 ≤ v) (hv1 : v ≤ 255)
    (h1 : HasF w b k ((bx : Int) - 1) by' true) (h2 : HasF w b k ((bx : Int) - 1) ((by' : Int) - 1) true) (h3 : HasF w b k bx ((by' : Int) - 1) true) (h4 : HasF w b k ((bx : Int) + 1) ((by' : Int) - 1) true) :
    Calls Tryz.prog 78 #[.pointer (some ⟨b, 0, none⟩), .pointer (some ⟨p, 0, none⟩), .int .i64 k] w (AroundOut w v 4 8) := by
  have hblk := fun w => syn_block k w hk
  have hlt := blk_lt k hk
  rw [hbx, hby] at hblk hlt
  obtain ⟨XX, hXX⟩ : ∃ XX : Nat, XX = 4 * bx := ⟨_, rfl⟩
  obtain ⟨YY, hYY⟩ : ∃ YY : Nat, YY = 4 * by' := ⟨_, rfl⟩
  have qx : IntKind.i64.wrap (4 * (bx : Int)) = (XX : Int) := by rw [show 4 * (bx : Int) = (XX : Int) by omega]; exact i64n _ (by omega)
  have qy : IntKind.i64.wrap (4 * (by' : Int)) = (YY : Int) := by rw [show 4 * (by' : Int) = (YY : Int) by omega]; exact i64n _ (by omega)
  have qxx : IntKind.i64.wrap (XX : Int) = (XX : Int) := i64n _ (by omega)
  have qyy : IntKind.i64.wrap (YY : Int) = (YY : Int) := i64n _ (by omega)
  have qb1 : IntKind.i64.wrap ((bx : Int) - 1) = (bx : Int) - 1 := i64w _ (by omega) (by omega)
  have qb2 : IntKind.i64.wrap ((bx : Int) + 1) = (bx : Int) + 1 := i64w _ (by omega) (by omega)
  have qy1 : IntKind.i64.wrap ((by' : Int) - 1) = (by' : Int) - 1 := i64w _ (by omega) (by omega)
  have qn : IntKind.i64.wrap (-1) = -1 := by decide
  have hmf : ∀ (fn : Fn) (first cap : Array Value) (w : World), (Instr.makeFunc fn first cap).run Tryz.prog w = .ok (.func fn first cap) w := fun _ _ _ _ => rfl
  obtain ⟨X1, hX1⟩ : ∃ X1 : Nat, XX = X1 + 1 := ⟨XX - 1, by omega⟩
  have qx1 : IntKind.i64.wrap ((XX : Int) - 1) = (X1 : Int) := by rw [show (XX : Int) - 1 = (X1 : Int) by omega]; exact i64n _ (by omega)
  obtain ⟨Y1, hY1⟩ : ∃ Y1 : Nat, YY = Y1 + 1 := ⟨YY - 1, by omega⟩
  have qy2 : IntKind.i64.wrap ((YY : Int) - 1) = (Y1 : Int) := by rw [show (YY : Int) - 1 = (Y1 : Int) by omega]; exact i64n _ (by omega)
  obtain ⟨X4, hX4⟩ : ∃ X4 : Nat, X4 = XX + 4 := ⟨_, rfl⟩
  have qx4 : IntKind.i64.wrap ((XX : Int) + 4) = (X4 : Int) := by rw [show (XX : Int) + 4 = (X4 : Int) by omega]; exact i64n _ (by omega)
  have gl : ∀ wx, Only [] w wx → Calls Tryz.prog 77 #[.pointer (some ⟨p, 0, none⟩), .int .i64 X1, .int .i64 YY, .int .i64 0, .int .i64 1, .int .i64 4] wx fun e w' => ∃ g', e = .returned (.slice (some ⟨g', 0, none⟩) 4 4) ∧ w'.heap[g']? = some (.cells (ints (List.replicate 4 v)) 3 (0, 0)) ∧ wx.heap.size ≤ g' ∧ Only [] wx w' := by
    intro wx hw
    have := plane_get (hp.only hw (by simp) (by simp)) X1 YY 0 1 4 ⟨by omega, by omega⟩ (by omega) (by omega) (by omega) (by rw [List.length_replicate]; omega) (fun j hj => by rw [List.length_replicate]; omega)
    rw [getL_same v 256 16 X1 YY 0 1 4 (fun j hj => by omega)] at this
    exact this
  have Hgl := Lib.hid gl
  clear gl
  have gc : ∀ wx, Only [] w wx → Calls Tryz.prog 77 #[.pointer (some ⟨p, 0, none⟩), .int .i64 X1, .int .i64 Y1, .int .i64 1, .int .i64 0, .int .i64 1] wx fun e w' => ∃ g', e = .returned (.slice (some ⟨g', 0, none⟩) 1 1) ∧ w'.heap[g']? = some (.cells (ints (List.replicate 1 v)) 3 (0, 0)) ∧ wx.heap.size ≤ g' ∧ Only [] wx w' := by
    intro wx hw
    have := plane_get (hp.only hw (by simp) (by simp)) X1 Y1 1 0 1 ⟨by omega, by omega⟩ (by omega) (by omega) (by omega) (by rw [List.length_replicate]; omega) (fun j hj => by rw [List.length_replicate]; omega)
    rw [getL_same v 256 16 X1 Y1 1 0 1 (fun j hj => by omega)] at this
    exact this
  have Hgc := Lib.hid gc
  clear gc
  have gt : ∀ wx, Only [] w wx → Calls Tryz.prog 77 #[.pointer (some ⟨p, 0, none⟩), .int .i64 XX, .int .i64 Y1, .int .i64 1, .int .i64 0, .int .i64 4] wx fun e w' => ∃ g', e = .returned (.slice (some ⟨g', 0, none⟩) 4 4) ∧ w'.heap[g']? = some (.cells (ints (List.replicate 4 v)) 3 (0, 0)) ∧ wx.heap.size ≤ g' ∧ Only [] wx w' := by
    intro wx hw
    have := plane_get (hp.only hw (by simp) (by simp)) XX Y1 1 0 4 ⟨by omega, by omega⟩ (by omega) (by omega) (by omega) (by rw [List.length_replicate]; omega) (fun j hj => by rw [List.length_replicate]; omega)
    rw [getL_same v 256 16 XX Y1 1 0 4 (fun j hj => by omega)] at this
    exact this
  have Hgt := Lib.hid gt
  clear gt
  have gr : ∀ wx, Only [] w wx → Calls Tryz.prog 77 #[.pointer (some ⟨p, 0, none⟩), .int .i64 X4, .int .i64 Y1, .int .i64 1, .int .i64 0, .int .i64 4] wx fun e w' => ∃ g', e = .returned (.slice (some ⟨g', 0, none⟩) 4 4) ∧ w'.heap[g']? = some (.cells (ints (List.replicate 4 v)) 3 (0, 0)) ∧ wx.heap.size ≤ g' ∧ Only [] wx w' := by
    intro wx hw
    have := plane_get (hp.only hw (by simp) (by simp)) X4 Y1 1 0 4 ⟨by omega, by omega⟩ (by omega) (by omega) (by omega) (by rw [List.length_replicate]; omega) (fun j hj => by rw [List.length_replicate]; omega)
    rw [getL_same v 256 16 X4 Y1 1 0 4 (fun j hj => by omega)] at this
    exact this
  have Hgr := Lib.hid gr
  clear gr
  have s3 : w.cell? ⟨b, 3, none⟩ = some (.int .i64 0) := by rw [cells_of hb]; rfl
  have s4 : w.cell? ⟨b, 4, none⟩ = some (.int .i64 0) := by rw [cells_of hb]; rfl
  have H1 := Lib.hid h1
  have H2 := Lib.hid h2
  have H3 := Lib.hid h3
  have H4 := Lib.hid h4
  have HB := Lib.hid hblk
  have a3 : ((w.alloc (.cells #[.pointer (some ⟨b, 0, none⟩)] 95)).alloc (.cells #[.int .i64 k] 3)).cell? ⟨b, 3, none⟩ = some (.int .i64 0) := cell_alloc (cell_alloc s3)
  have a4 : ((w.alloc (.cells #[.pointer (some ⟨b, 0, none⟩)] 95)).alloc (.cells #[.int .i64 k] 3)).cell? ⟨b, 4, none⟩ = some (.int .i64 0) := cell_alloc (cell_alloc s4)
  have k3 : ((w.alloc (.cells #[.pointer (some ⟨b, 0, none⟩)] 95)).alloc (.cells #[.int .i64 k] 3)).cell? ⟨w.heap.size, 0, none⟩ = some (.pointer (some ⟨b, 0, none⟩)) := cells_of (heap_alloc_lt _ (heap_alloc_at w _)) 0
  have k2 : ((w.alloc (.cells #[.pointer (some ⟨b, 0, none⟩)] 95)).alloc (.cells #[.int .i64 k] 3)).cell? ⟨w.heap.size + 1, 0, none⟩ = some (.int .i64 k) := cells_of (heap_alloc2_new w _ _) 0
  have OA : Hid (Only [] w ((w.alloc (.cells #[.pointer (some ⟨b, 0, none⟩)] 95)).alloc (.cells #[.int .i64 k] 3))) := Lib.hid (((Only.refl [] w).alloc _).alloc _)
  clear hb hp hX1 hY1 hX4 h1 h2 h3 h4 hblk s3 s4 hXX hYY hbx hby
  go_enter Tryz.func78, Tryz.ntmps78
  go_wp2_with fail
  generalize ((w.alloc (.cells #[.pointer (some ⟨b, 0, none⟩)] 95)).alloc (.cells #[.int .i64 k] 3)) = wA at *
  generalize w.heap.size + 1 = b2 at *
  generalize w.heap.size = b3 at *
  refine (HB.out _).mono ?_
  rintro e w' ⟨rfl, rfl⟩
  go_wp2_with fail
  go_quiet (fail)
  rename_i nq
  have c2 : (wA.drewN nq).cell? ⟨b2, 0, none⟩ = some (.int .i64 k) := k2
  have c3 : (wA.drewN nq).cell? ⟨b3, 0, none⟩ = some (.pointer (some ⟨b, 0, none⟩)) := k3
  have O0 := Lib.hid (OA.out.drewN nq)
  clear k2 k3 a3 a4 OA
  generalize wA.drewN nq = w0 at *
  go_wp2_with fail
  refine (H1.out _ _ _ O0.out c2 c3).mono ?_
  rintro e w1 ⟨rfl, o⟩
  have O1 := Lib.hid (O0.out.trans o)
  have d2 := o.cell c2 (by simp)
  have d3 := o.cell c3 (by simp)
  clear o c2 c3 O0
  have c2 := d2
  have c3 := d3
  clear d2 d3
  go_wp2_with fail
  refine (Hgl.out _ O1.out).mono ?_
  rintro e w2 ⟨g1, rfl, hc, hge, o⟩
  have O2 := Lib.hid (O1.out.trans o)
  have d2 := o.cell c2 (by simp)
  have d3 := o.cell c3 (by simp)
  clear o c2 c3 O1
  have c2 := d2
  have c3 := d3
  clear d2 d3
  have C1 := Lib.hid hc
  clear hc hge
  go_wp2_with fail
  refine (H2.out _ _ _ O2.out c2 c3).mono ?_
  rintro e w3 ⟨rfl, o⟩
  have O3 := Lib.hid (O2.out.trans o)
  have d2 := o.cell c2 (by simp)
  have d3 := o.cell c3 (by simp)
  have C1' := Lib.hid (o.heap C1.out (by simp))
  clear o c2 c3 O2 C1
  have c2 := d2
  have c3 := d3
  clear d2 d3
  have C1 := C1'
  clear C1'
  go_wp2_with fail
  refine (Hgc.out _ O3.out).mono ?_
  rintro e w4 ⟨g2, rfl, hc, hge, o⟩
  have O4 := Lib.hid (O3.out.trans o)
  have d2 := o.cell c2 (by simp)
  have d3 := o.cell c3 (by simp)
  have C1' := Lib.hid (o.heap C1.out (by simp))
  clear o c2 c3 O3 C1
  have c2 := d2
  have c3 := d3
  clear d2 d3
  have C1 := C1'
  clear C1'
  have C2 := Lib.hid hc
  clear hc hge
  have e2 : w4.cell? ⟨g2, 0, none⟩ = some (.int .i64 v) := by rw [cells_of C2.out]; rfl
  go_wp2_with fail
  refine (H3.out _ _ _ O4.out c2 c3).mono ?_
  rintro e w5 ⟨rfl, o⟩
  clear e2 C2
  have O5 := Lib.hid (O4.out.trans o)
  have d2 := o.cell c2 (by simp)
  have d3 := o.cell c3 (by simp)
  have C1' := Lib.hid (o.heap C1.out (by simp))
  clear o c2 c3 O4 C1
  have c2 := d2
  have c3 := d3
  clear d2 d3
  have C1 := C1'
  clear C1'
  go_wp2_with fail
  refine (Hgt.out _ O5.out).mono ?_
  rintro e w6 ⟨g3, rfl, hc, hge, o⟩
  have O6 := Lib.hid (O5.out.trans o)
  have d2 := o.cell c2 (by simp)
  have d3 := o.cell c3 (by simp)
  have C1' := Lib.hid (o.heap C1.out (by simp))
  clear o c2 c3 O5 C1
  have c2 := d2
  have c3 := d3
  clear d2 d3
  have C1 := C1'
  clear C1'
  have C3 := Lib.hid hc
  clear hc hge
  go_wp2_with fail
  refine (H4.out _ _ _ O6.out c2 c3).mono ?_
  rintro e w7 ⟨rfl, o⟩
  have O7 := Lib.hid (O6.out.trans o)
  have d2 := o.cell c2 (by simp)
  have d3 := o.cell c3 (by simp)
  have C1' := Lib.hid (o.heap C1.out (by simp))
  have C3' := Lib.hid (o.heap C3.out (by simp))
  clear o c2 c3 O6 C1 C3
  have c2 := d2
  have c3 := d3
  clear d2 d3
  have C1 := C1'
  clear C1'
  have C3 := C3'
  clear C3'
  go_wp2_with fail
  refine (Hgr.out _ O7.out).mono ?_
  rintro e w8 ⟨g4, rfl, hc, hge, o⟩
  have O8 := Lib.hid (O7.out.trans o)
  have d2 := o.cell c2 (by simp)
  have d3 := o.cell c3 (by simp)
  have C1' := Lib.hid (o.heap C1.out (by simp))
  have C3' := Lib.hid (o.heap C3.out (by simp))
  clear o c2 c3 O7 C1 C3
  have c2 := d2
  have c3 := d3
  clear d2 d3
  have C1 := C1'
  clear C1'
  have C3 := C3'
  clear C3'
  have C4 := Lib.hid hc
  clear hc hge
  have HE : Hid (w8.ownsRow 0 3 1 (.slice (some ⟨g3, 0, none⟩) 4 4) 4 ((List.replicate 4 v).map (Value.int .i64))) := Lib.hid (own_ints C3.out (Nat.zero_le _) (by simp) (by decide))
  go_wp2_with (refine wpList_append_full rfl _ _ rfl elt64 0 g3 4 _ rfl HE.out ⟨g4, 0, none⟩ 4 4 ((List.replicate 4 v).map (Value.int .i64)) rfl (by simp) (news_ints C4.out) (by decide) (by decide) (by decide) ?_)
  intro cap9 w9 h9 o9
  have O9 := Lib.hid (O8.out.trans o9)
  have V9 : Hid (IntSlice w9 (.slice (some ⟨w8.heap.size, 0, none⟩) (4 + 4) cap9) (List.replicate 8 v)) := Lib.hid (IntSlice.of_rows (by rw [← rep48]; exact h9) (by simp))
  have C9 := Lib.hid (o9.heap C1.out (by simp))
  clear h9 o9
  go_wp2
  go_ret3
  exact ⟨_, _, _, rfl, IntSlice.of_ints C9.out, V9.out, by omega, O9.out⟩

set_option maxRecDepth 100000 in
set_option maxHeartbeats 3200000 in
theorem around_e {w : World} {b cb mb db p g cap k bx by' : Nat} {v : Int} (hb : BrushAt w b cb mb db 0 0) (hp : PlaneAt w p g cap 16 16 (List.replicate 256 v)) (hk : k < 16) (hbx : blkX k = bx) (hby : blkY k = by') (hx0 : 1 ≤ bx) (hy0 : 1 ≤ by') (hv0 : 0 ≤ v) (hv1 : v ≤ 255)
    (h1 : HasF w b k ((bx : Int) - 1) by' true) (h2 : HasF w b k ((bx : Int) - 1) ((by' : Int) - 1) true) (h3 : HasF w b k bx ((by' : Int) - 1) true) (h4 : HasF w b k ((bx : Int) + 1) ((by' : Int) - 1) false) :
    Calls Tryz.prog 78 #[.pointer (some ⟨b, 0, none⟩), .pointer (some ⟨p, 0, none⟩), .int .i64 k] w (AroundOut w v 4 8) := by
  have hblk := fun w => syn_block k w hk
  have hlt := blk_lt k hk
  rw [hbx, hby] at hblk hlt
  obtain ⟨XX, hXX⟩ : ∃ XX : Nat, XX = 4 * bx := ⟨_, rfl⟩
  obtain ⟨YY, hYY⟩ : ∃ YY : Nat, YY = 4 * by' := ⟨_, rfl⟩
  have qx : IntKind.i64.wrap (4 * (bx : Int)) = (XX : Int) := by rw [show 4 * (bx : Int) = (XX : Int) by omega]; exact i64n _ (by omega)
  have qy : IntKind.i64.wrap (4 * (by' : Int)) = (YY : Int) := by rw [show 4 * (by' : Int) = (YY : Int) by omega]; exact i64n _ (by omega)
  have qxx : IntKind.i64.wrap (XX : Int) = (XX : Int) := i64n _ (by omega)
  have qyy : IntKind.i64.wrap (YY : Int) = (YY : Int) := i64n _ (by omega)
  have qb1 : IntKind.i64.wrap ((bx : Int) - 1) = (bx : Int) - 1 := i64w _ (by omega) (by omega)
  have qb2 : IntKind.i64.wrap ((bx : Int) + 1) = (bx : Int) + 1 := i64w _ (by omega) (by omega)
  have qy1 : IntKind.i64.wrap ((by' : Int) - 1) = (by' : Int) - 1 := i64w _ (by omega) (by omega)
  have qn : IntKind.i64.wrap (-1) = -1 := by decide
  have hmf : ∀ (fn : Fn) (first cap : Array Value) (w : World), (Instr.makeFunc fn first cap).run Tryz.prog w = .ok (.func fn first cap) w := fun _ _ _ _ => rfl
  obtain ⟨X1, hX1⟩ : ∃ X1 : Nat, XX = X1 + 1 := ⟨XX - 1, by omega⟩
  have qx1 : IntKind.i64.wrap ((XX : Int) - 1) = (X1 : Int) := by rw [show (XX : Int) - 1 = (X1 : Int) by omega]; exact i64n _ (by omega)
  obtain ⟨Y1, hY1⟩ : ∃ Y1 : Nat, YY = Y1 + 1 := ⟨YY - 1, by omega⟩
  have qy2 : IntKind.i64.wrap ((YY : Int) - 1) = (Y1 : Int) := by rw [show (YY : Int) - 1 = (Y1 : Int) by omega]; exact i64n _ (by omega)
  have gl : ∀ wx, Only [] w wx → Calls Tryz.prog 77 #[.pointer (some ⟨p, 0, none⟩), .int .i64 X1, .int .i64 YY, .int .i64 0, .int .i64 1, .int .i64 4] wx fun e w' => ∃ g', e = .returned (.slice (some ⟨g', 0, none⟩) 4 4) ∧ w'.heap[g']? = some (.cells (ints (List.replicate 4 v)) 3 (0, 0)) ∧ wx.heap.size ≤ g' ∧ Only [] wx w' := by
    intro wx hw
    have := plane_get (hp.only hw (by simp) (by simp)) X1 YY 0 1 4 ⟨by omega, by omega⟩ (by omega) (by omega) (by omega) (by rw [List.length_replicate]; omega) (fun j hj => by rw [List.length_replicate]; omega)
    rw [getL_same v 256 16 X1 YY 0 1 4 (fun j hj => by omega)] at this
    exact this
  have Hgl := Lib.hid gl
  clear gl
  have gc : ∀ wx, Only [] w wx → Calls Tryz.prog 77 #[.pointer (some ⟨p, 0, none⟩), .int .i64 X1, .int .i64 Y1, .int .i64 1, .int .i64 0, .int .i64 1] wx fun e w' => ∃ g', e = .returned (.slice (some ⟨g', 0, none⟩) 1 1) ∧ w'.heap[g']? = some (.cells (ints (List.replicate 1 v)) 3 (0, 0)) ∧ wx.heap.size ≤ g' ∧ Only [] wx w' := by
    intro wx hw
    have := plane_get (hp.only hw (by simp) (by simp)) X1 Y1 1 0 1 ⟨by omega, by omega⟩ (by omega) (by omega) (by omega) (by rw [List.length_replicate]; omega) (fun j hj => by rw [List.length_replicate]; omega)
    rw [getL_same v 256 16 X1 Y1 1 0 1 (fun j hj => by omega)] at this
    exact this
  have Hgc := Lib.hid gc
  clear gc
  have gt : ∀ wx, Only [] w wx → Calls Tryz.prog 77 #[.pointer (some ⟨p, 0, none⟩), .int .i64 XX, .int .i64 Y1, .int .i64 1, .int .i64 0, .int .i64 4] wx fun e w' => ∃ g', e = .returned (.slice (some ⟨g', 0, none⟩) 4 4) ∧ w'.heap[g']? = some (.cells (ints (List.replicate 4 v)) 3 (0, 0)) ∧ wx.heap.size ≤ g' ∧ Only [] wx w' := by
    intro wx hw
    have := plane_get (hp.only hw (by simp) (by simp)) XX Y1 1 0 4 ⟨by omega, by omega⟩ (by omega) (by omega) (by omega) (by rw [List.length_replicate]; omega) (fun j hj => by rw [List.length_replicate]; omega)
    rw [getL_same v 256 16 XX Y1 1 0 4 (fun j hj => by omega)] at this
    exact this
  have Hgt := Lib.hid gt
  clear gt
  have s3 : w.cell? ⟨b, 3, none⟩ = some (.int .i64 0) := by rw [cells_of hb]; rfl
  have s4 : w.cell? ⟨b, 4, none⟩ = some (.int .i64 0) := by rw [cells_of hb]; rfl
  have H1 := Lib.hid h1
  have H2 := Lib.hid h2
  have H3 := Lib.hid h3
  have H4 := Lib.hid h4
  have HB := Lib.hid hblk
  have a3 : ((w.alloc (.cells #[.pointer (some ⟨b, 0, none⟩)] 95)).alloc (.cells #[.int .i64 k] 3)).cell? ⟨b, 3, none⟩ = some (.int .i64 0) := cell_alloc (cell_alloc s3)
  have a4 : ((w.alloc (.cells #[.pointer (some ⟨b, 0, none⟩)] 95)).alloc (.cells #[.int .i64 k] 3)).cell? ⟨b, 4, none⟩ = some (.int .i64 0) := cell_alloc (cell_alloc s4)
  have k3 : ((w.alloc (.cells #[.pointer (some ⟨b, 0, none⟩)] 95)).alloc (.cells #[.int .i64 k] 3)).cell? ⟨w.heap.size, 0, none⟩ = some (.pointer (some ⟨b, 0, none⟩)) := cells_of (heap_alloc_lt _ (heap_alloc_at w _)) 0
  have k2 : ((w.alloc (.cells #[.pointer (some ⟨b, 0, none⟩)] 95)).alloc (.cells #[.int .i64 k] 3)).cell? ⟨w.heap.size + 1, 0, none⟩ = some (.int .i64 k) := cells_of (heap_alloc2_new w _ _) 0
  have OA : Hid (Only [] w ((w.alloc (.cells #[.pointer (some ⟨b, 0, none⟩)] 95)).alloc (.cells #[.int .i64 k] 3))) := Lib.hid (((Only.refl [] w).alloc _).alloc _)
  clear hb hp hX1 hY1 h1 h2 h3 h4 hblk s3 s4 hXX hYY hbx hby
  go_enter Tryz.func78, Tryz.ntmps78
  go_wp2_with fail
  generalize ((w.alloc (.cells #[.pointer (some ⟨b, 0, none⟩)] 95)).alloc (.cells #[.int .i64 k] 3)) = wA at *
  generalize w.heap.size + 1 = b2 at *
  generalize w.heap.size = b3 at *
  refine (HB.out _).mono ?_
  rintro e w' ⟨rfl, rfl⟩
  go_wp2_with fail
  go_quiet (fail)
  rename_i nq
  have c2 : (wA.drewN nq).cell? ⟨b2, 0, none⟩ = some (.int .i64 k) := k2
  have c3 : (wA.drewN nq).cell? ⟨b3, 0, none⟩ = some (.pointer (some ⟨b, 0, none⟩)) := k3
  have O0 := Lib.hid (OA.out.drewN nq)
  clear k2 k3 a3 a4 OA
  generalize wA.drewN nq = w0 at *
  go_wp2_with fail
  refine (H1.out _ _ _ O0.out c2 c3).mono ?_
  rintro e w1 ⟨rfl, o⟩
  have O1 := Lib.hid (O0.out.trans o)
  have d2 := o.cell c2 (by simp)
  have d3 := o.cell c3 (by simp)
  clear o c2 c3 O0
  have c2 := d2
  have c3 := d3
  clear d2 d3
  go_wp2_with fail
  refine (Hgl.out _ O1.out).mono ?_
  rintro e w2 ⟨g1, rfl, hc, hge, o⟩
  have O2 := Lib.hid (O1.out.trans o)
  have d2 := o.cell c2 (by simp)
  have d3 := o.cell c3 (by simp)
  clear o c2 c3 O1
  have c2 := d2
  have c3 := d3
  clear d2 d3
  have C1 := Lib.hid hc
  clear hc hge
  go_wp2_with fail
  refine (H2.out _ _ _ O2.out c2 c3).mono ?_
  rintro e w3 ⟨rfl, o⟩
  have O3 := Lib.hid (O2.out.trans o)
  have d2 := o.cell c2 (by simp)
  have d3 := o.cell c3 (by simp)
  have C1' := Lib.hid (o.heap C1.out (by simp))
  clear o c2 c3 O2 C1
  have c2 := d2
  have c3 := d3
  clear d2 d3
  have C1 := C1'
  clear C1'
  go_wp2_with fail
  refine (Hgc.out _ O3.out).mono ?_
  rintro e w4 ⟨g2, rfl, hc, hge, o⟩
  have O4 := Lib.hid (O3.out.trans o)
  have d2 := o.cell c2 (by simp)
  have d3 := o.cell c3 (by simp)
  have C1' := Lib.hid (o.heap C1.out (by simp))
  clear o c2 c3 O3 C1
  have c2 := d2
  have c3 := d3
  clear d2 d3
  have C1 := C1'
  clear C1'
  have C2 := Lib.hid hc
  clear hc hge
  have e2 : w4.cell? ⟨g2, 0, none⟩ = some (.int .i64 v) := by rw [cells_of C2.out]; rfl
  go_wp2_with fail
  refine (H3.out _ _ _ O4.out c2 c3).mono ?_
  rintro e w5 ⟨rfl, o⟩
  clear e2 C2
  have O5 := Lib.hid (O4.out.trans o)
  have d2 := o.cell c2 (by simp)
  have d3 := o.cell c3 (by simp)
  have C1' := Lib.hid (o.heap C1.out (by simp))
  clear o c2 c3 O4 C1
  have c2 := d2
  have c3 := d3
  clear d2 d3
  have C1 := C1'
  clear C1'
  go_wp2_with fail
  refine (Hgt.out _ O5.out).mono ?_
  rintro e w6 ⟨g3, rfl, hc, hge, o⟩
  have O6 := Lib.hid (O5.out.trans o)
  have d2 := o.cell c2 (by simp)
  have d3 := o.cell c3 (by simp)
  have C1' := Lib.hid (o.heap C1.out (by simp))
  clear o c2 c3 O5 C1
  have c2 := d2
  have c3 := d3
  clear d2 d3
  have C1 := C1'
  clear C1'
  have C3 := Lib.hid hc
  clear hc hge
  go_wp2_with fail
  refine (H4.out _ _ _ O6.out c2 c3).mono ?_
  rintro e w7 ⟨rfl, o⟩
  have O7 := Lib.hid (O6.out.trans o)
  have d2 := o.cell c2 (by simp)
  have d3 := o.cell c3 (by simp)
  have C1' := Lib.hid (o.heap C1.out (by simp))
  have C3' := Lib.hid (o.heap C3.out (by simp))
  clear o c2 c3 O6 C1 C3
  have c2 := d2
  have c3 := d3
  clear d2 d3
  have C1 := C1'
  clear C1'
  have C3 := C3'
  clear C3'
  have HE : Hid (w7.ownsRow 0 3 1 (.slice (some ⟨g3, 0, none⟩) 4 4) 4 ((List.replicate 4 v).map (Value.int .i64))) := Lib.hid (own_ints C3.out (Nat.zero_le _) (by simp) (by decide))
  have e3 : w7.cell? ⟨g3, 3, none⟩ = some (.int .i64 v) := by rw [cells_of C3.out]; rfl
  go_wp2_with fail
  refine wp_region_L (by kernel_rfl) (fun w' => w'.cell? ⟨g3, 3, none⟩ = some (.int .i64 v)) 19 ?_
  have hS0 : (fun w' => w'.cell? ⟨g3, 3, none⟩ = some (.int .i64 v)) w7.drew := e3
  refine AnyL.take 0 (v := ?_) rfl (by kernel_rfl) (by kernel_rfl) (by kernel_rfl) (by kernel_rfl) (fun _ _ _ h => h) (by assumption) (Or.inl ⟨by rfl, ?_⟩) ?_
  rotate_left
  · (intro w' hSw; (try dsimp only at hSw); go_simp; try (with_reducible rfl))
  try simp only [Act.put, List.setIfInBounds_toArray, List.set_cons_zero, List.set_cons_succ]
  refine AnyL.take 1 (v := ?_) rfl (by kernel_rfl) (by kernel_rfl) (by kernel_rfl) (by kernel_rfl) (fun _ _ _ h => h) (by assumption) (Or.inl ⟨by rfl, ?_⟩) ?_
  rotate_left
  · (intro w' hSw; (try dsimp only at hSw); go_simp; try (with_reducible rfl))
  try simp only [Act.put, List.setIfInBounds_toArray, List.set_cons_zero, List.set_cons_succ]
  refine AnyL.take 2 (v := ?_) rfl (by kernel_rfl) (by kernel_rfl) (by kernel_rfl) (by kernel_rfl) (fun _ _ _ h => h) (by assumption) (Or.inl ⟨by rfl, ?_⟩) ?_
  rotate_left
  · (intro w' hSw; (try dsimp only at hSw); go_simp; try (with_reducible rfl))
  try simp only [Act.put, List.setIfInBounds_toArray, List.set_cons_zero, List.set_cons_succ]
  refine AnyL.take 3 (v := ?_) rfl (by kernel_rfl) (by kernel_rfl) (by kernel_rfl) (by kernel_rfl) (fun _ _ _ h => h) (by assumption) (Or.inl ⟨by rfl, ?_⟩) ?_
  rotate_left
  · (intro w' hSw; (try dsimp only at hSw); go_simp; try (with_reducible rfl))
  try simp only [Act.put, List.setIfInBounds_toArray, List.set_cons_zero, List.set_cons_succ]
  refine AnyL.take 4 (v := ?_) rfl (by kernel_rfl) (by kernel_rfl) (by kernel_rfl) (by kernel_rfl) (fun _ _ _ h => h) (by assumption) (Or.inl ⟨by rfl, ?_⟩) ?_
  rotate_left
  · (intro w' hSw; (try dsimp only at hSw); go_simp; try (with_reducible rfl))
  try simp only [Act.put, List.setIfInBounds_toArray, List.set_cons_zero, List.set_cons_succ]
  refine AnyL.take 5 (v := ?_) rfl (by kernel_rfl) (by kernel_rfl) (by kernel_rfl) (by kernel_rfl) (fun _ _ _ h => h) (by assumption) (Or.inl ⟨by rfl, ?_⟩) ?_
  rotate_left
  · (intro w' hSw; (try dsimp only at hSw); go_simp; try (with_reducible rfl))
  try simp only [Act.put, List.setIfInBounds_toArray, List.set_cons_zero, List.set_cons_succ]
  refine AnyL.take 6 (v := ?_) rfl (by kernel_rfl) (by kernel_rfl) (by kernel_rfl) (by kernel_rfl) (fun _ _ _ h => h) (by assumption) (Or.inl ⟨by rfl, ?_⟩) ?_
  rotate_left
  · (intro w' hSw; (try dsimp only at hSw); go_simp; try (with_reducible rfl))
  try simp only [Act.put, List.setIfInBounds_toArray, List.set_cons_zero, List.set_cons_succ]
  refine AnyL.take 7 (v := ?_) rfl (by kernel_rfl) (by kernel_rfl) (by kernel_rfl) (by kernel_rfl) (fun _ _ _ h => h) (by assumption) (Or.inl ⟨by rfl, ?_⟩) ?_
  rotate_left
  · (intro w' hSw; (try dsimp only at hSw); go_simp; try (with_reducible rfl))
  try simp only [Act.put, List.setIfInBounds_toArray, List.set_cons_zero, List.set_cons_succ]
  refine AnyL.take 8 (v := ?_) rfl (by kernel_rfl) (by kernel_rfl) (by kernel_rfl) (by kernel_rfl) (fun _ _ _ h => h) (by assumption) (Or.inl ⟨by rfl, ?_⟩) ?_
  rotate_left
  · (intro w' hSw; (try dsimp only at hSw); go_simp; try (with_reducible rfl))
  try simp only [Act.put, List.setIfInBounds_toArray, List.set_cons_zero, List.set_cons_succ]
  refine AnyL.take 9 (v := ?_) rfl (by kernel_rfl) (by kernel_rfl) (by kernel_rfl) (by kernel_rfl) (fun _ _ _ h => h) (by assumption) (Or.inl ⟨by rfl, ?_⟩) ?_
  rotate_left
  · (intro w' hSw; (try dsimp only at hSw); go_simp; try (with_reducible rfl))
  try simp only [Act.put, List.setIfInBounds_toArray, List.set_cons_zero, List.set_cons_succ]
  refine AnyL.take 10 (v := ?_) rfl (by kernel_rfl) (by kernel_rfl) (by kernel_rfl) (by kernel_rfl) (fun _ _ _ h => h) (by assumption) (Or.inl ⟨by rfl, ?_⟩) ?_
  rotate_left
  · (intro w' hSw; (try dsimp only at hSw); go_simp; try (with_reducible rfl))
  try simp only [Act.put, List.setIfInBounds_toArray, List.set_cons_zero, List.set_cons_succ]
  refine AnyL.take 11 (v := ?_) rfl (by kernel_rfl) (by kernel_rfl) (by kernel_rfl) (by kernel_rfl) (fun _ _ _ h => h) (by assumption) (Or.inl ⟨by rfl, ?_⟩) ?_
  rotate_left
  · (intro w' hSw; (try dsimp only at hSw); go_simp; try (with_reducible rfl))
  try simp only [Act.put, List.setIfInBounds_toArray, List.set_cons_zero, List.set_cons_succ]
  refine AnyL.take 12 (v := ?_) rfl (by kernel_rfl) (by kernel_rfl) (by kernel_rfl) (by kernel_rfl) (fun _ _ _ h => h) (by assumption) (Or.inl ⟨by rfl, ?_⟩) ?_
  rotate_left
  · (intro w' hSw; (try dsimp only at hSw); go_simp; try (with_reducible rfl))
  try simp only [Act.put, List.setIfInBounds_toArray, List.set_cons_zero, List.set_cons_succ]
  refine AnyL.take 13 (v := ?_) rfl (by kernel_rfl) (by kernel_rfl) (by kernel_rfl) (by kernel_rfl) (fun _ _ _ h => h) (by assumption) (Or.inl ⟨by rfl, ?_⟩) ?_
  rotate_left
  · (intro w' hSw; (try dsimp only at hSw); go_simp; try (with_reducible rfl))
  try simp only [Act.put, List.setIfInBounds_toArray, List.set_cons_zero, List.set_cons_succ]
  refine AnyL.take 16 (v := ?_) rfl (by kernel_rfl) (by kernel_rfl) (by kernel_rfl) (by kernel_rfl) (fun _ _ _ h => h) (by assumption) (Or.inl ⟨by rfl, ?_⟩) ?_
  rotate_left
  · (intro w' hSw; (try dsimp only at hSw); go_simp; try (with_reducible rfl))
  try simp only [Act.put, List.setIfInBounds_toArray, List.set_cons_zero, List.set_cons_succ]
  have hE : w7.drew.ownsRow 0 3 1 (.slice (some ⟨g3, 0, none⟩) 4 4) 4 ((List.replicate 4 v).map (Value.int .i64)) := HE.out
  have hO : Only [] w7 w7.drew := (Only.refl [] w7).drew
  refine AnyL.one 14 (by kernel_rfl) rfl (fun K hK => ?_)
  go_simp
  refine hK _ _ (fun _ => cell_alloc hS0) (fun _ => ?_)
  clear hK K
  try simp only [Act.put, List.setIfInBounds_toArray, List.set_cons_zero, List.set_cons_succ]
  have hA := heap_alloc_at w7.drew (.cells (ints [v, v, v, v]) 3)
  refine AnyL.one 15 (by kernel_rfl) rfl (fun K hK => ?_)
  rw [if_pos (by rfl)]
  refine wp_append_full _ _ rfl elt64 0 g3 4 _ rfl (hE.alloc _) ⟨w7.heap.size, 0, none⟩ 4 4 ((List.replicate 4 v).map (Value.int .i64)) rfl (by simp) (news_ints hA) (by decide) (by decide) (by decide) ?_
  intro cap9 w8 h9 o9
  refine hK _ _ (fun _ => o9.cell (cell_alloc hS0) (by simp)) (fun _ => ?_)
  clear hK K
  try simp only [Act.put, List.setIfInBounds_toArray, List.set_cons_zero, List.set_cons_succ]
  refine AnyL.one 17 (by kernel_rfl) rfl (fun K hK => ?_)
  go_simp
  refine hK _ _ (fun _ => o9.cell (cell_alloc hS0) (by simp)) (fun _ => ?_)
  clear hK K
  try simp only [Act.put, List.setIfInBounds_toArray, List.set_cons_zero, List.set_cons_succ]
  refine AnyL.one 18 (by kernel_rfl) rfl (fun K hK => ?_)
  go_simp
  refine hK _ _ (fun _ => o9.cell (cell_alloc hS0) (by simp)) (fun _ => ?_)
  clear hK K
  try simp only [Act.put, List.setIfInBounds_toArray, List.set_cons_zero, List.set_cons_succ]
  refine AnyL.one 19 (by kernel_rfl) rfl (fun K hK => ?_)
  go_simp
  refine hK _ _ (fun h => (h rfl).elim) (fun _ => ?_)
  clear hK K
  try simp only [Act.put, List.setIfInBounds_toArray, List.set_cons_zero, List.set_cons_succ]
  refine AnyL.done (by kernel_rfl) ?_ _
  have oo := (hO.alloc (.cells (ints [v, v, v, v]) 3)).trans o9
  change w8.ownsRow (w7.alloc (.cells (ints [v, v, v, v]) 3)).heap.size 3 1 (.slice (some ⟨(w7.alloc (.cells (ints [v, v, v, v]) 3)).heap.size, 0, none⟩) 8 cap9) 8 _ at h9
  rw [World.size_alloc] at h9
  have O8 := Lib.hid (O7.out.trans oo)
  have V9 : Hid (IntSlice w8 (.slice (some ⟨w7.heap.size + 1, 0, none⟩) 8 cap9) (List.replicate 8 v)) := Lib.hid (IntSlice.of_rows (by rw [← rep48]; exact h9) (by simp))
  have C9 := Lib.hid (oo.heap C1.out (by simp))
  clear h9 o9 oo hO hE hA hS0
  go_wp2_with fail
  go_ret3
  exact ⟨_, _, _, rfl, IntSlice.of_ints C9.out, V9.out, by omega, O8.out⟩
end Go.Proofs.YtcmehedjdfopdaaGreat
