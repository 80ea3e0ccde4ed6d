/-
  A runner of the model's code inside Lean, with the proof that it is right: loops, calls, equality, regions in one order, functions. Nothing here is of this program.
-/
import Derived.Test.YtcmehedjdfopdaaGreatExC
import Derived.ChangeKeysEq
import Derived.Scope
import Derived.Defers
namespace Go.Exec
open Go
variable {P : Program} {N : Nat} {ρ : Nat → Int} {H : Hy}
theorem exec_binS (a : Act) (ob : Oper) {op : BinOp} {t ty : TypeId} {x y : Operand} (h : ob.op = .binOp op t x y ty) (w : World) {s u : ByteArray} (hx : a.eval x = .string s) (hy : a.eval y = .string u) {r : Value} (hr : (binOp op t (.string s) (.string u)).run P w = .ok r w) :
    (execOp a.eval ob).run P w = .ok (.value r) w := by
  simp only [execOp, h, hx, hy]
  have hg : eqGuard op t x y (.string s) (.string u) = pure () := by cases op <;> rfl
  rw [hg]
  simp [hr]
theorem cat_ok {t ty : TypeId} {x y : Operand} : PureOk P N ρ (.binOp .add t x y ty) (catC N x y) := by
  intro call A S v S' h
  unfold catC at h ⊢
  simp only at h ⊢
  obtain ⟨h1, h2⟩ := chk_ok h
  obtain ⟨h3, h4⟩ := and_ok h1
  obtain ⟨h5, h6⟩ := chk_ok h2
  cases h6
  refine ⟨rfl, fun _ _ => by rw [h1]; show chk (Nat.ble (Nat.add ((opd N x).f A).s.a ((opd N y).f A).s.a) 1000000000) _ = _; rw [h5]; rfl, fun η a w ob _ ho hop => ?_⟩
  obtain ⟨s, ex, ha, hb⟩ := ((hop x (by simp [Op.operands])).asSc (by rw [beq_ok h3]; omega)).asStr (beq_ok h3)
  obtain ⟨u, ey, ha2, hb2⟩ := ((hop y (by simp [Op.operands])).asSc (by rw [beq_ok h4]; omega)).asStr (beq_ok h4)
  have hle := ble_ok h5
  have hs : s.size = ((opd N x).f A).s.a := by rw [ha]; simp
  have hu : u.size = ((opd N y).f A).s.a := by rw [ha2]; simp
  have hle' : s.size + u.size ≤ 1000000000 := by rw [hs, hu]; exact hle
  refine ⟨.string (s ++ u), exec_binS a ob ho w ex ey ?_, .sc (.str (s := ⟨2, _, _, 0, 0, [], []⟩) _ rfl ?_ ?_)⟩
  · rw [binOp_string_add]; exact run_string_add_sum w s u (by omega)
  · show ((opd N x).f A).s.a + ((opd N y).f A).s.a = _
    rw [ha, ha2]; simp
  · show ((opd N x).f A).s.b + 256 ^ ((opd N x).f A).s.a * ((opd N y).f A).s.b = _
    rw [hb, hb2, ha, ByteArray.data_append, Array.toList_append, strOf_app]
theorem strEq {s u : ByteArray} : (s.toList == u.toList) = Bool.and (Nat.beq s.data.toList.length u.data.toList.length) (Nat.beq (strOf s.data.toList) (strOf u.data.toList)) := by
  have hl : ∀ s : ByteArray, s.toList = s.data.toList := fun s => ByteArray.toList_eq s
  rw [hl, hl, Bool.eq_iff_iff, beq_iff_eq]
  constructor
  · intro h; rw [h]; simp
  · intro h
    obtain ⟨h1, h2⟩ := and_ok h
    exact strOf_inj _ _ (beq_ok h1) (beq_ok h2)
theorem strEql_ok {t ty : TypeId} {x y : Operand} : PureOk P N ρ (.binOp .eql t x y ty) ⟨fun _ A S => chk (Bool.and (Nat.beq ((opd N x).f A).s.tag 2) (Nat.beq ((opd N y).f A).s.tag 2)) (okB (Bool.and (Nat.beq ((opd N x).f A).s.a ((opd N y).f A).s.a) (Nat.beq ((opd N x).f A).s.b ((opd N y).f A).s.b)) S)⟩ := by
  intro call A S v S' h
  simp only at h ⊢
  obtain ⟨h1, h2⟩ := chk_ok h
  obtain ⟨h3, h4⟩ := and_ok h1
  obtain ⟨rfl, h5⟩ := okB1 h2
  refine ⟨rfl, fun _ S2 => by rw [h1]; exact h5 S2, fun η a w ob _ ho hop => ?_⟩
  obtain ⟨s, ex, ha, hb⟩ := ((hop x (by simp [Op.operands])).asSc (by rw [beq_ok h3]; omega)).asStr (beq_ok h3)
  obtain ⟨u, ey, ha2, hb2⟩ := ((hop y (by simp [Op.operands])).asSc (by rw [beq_ok h4]; omega)).asStr (beq_ok h4)
  exact ⟨_, exec_binS a ob ho w ex ey (by rw [binOp_string_eql]; rfl), okB2 η h2 (by rw [ha, hb, ha2, hb2, strEq])⟩
theorem strNeq_ok {t ty : TypeId} {x y : Operand} : PureOk P N ρ (.binOp .neq t x y ty) ⟨fun _ A S => chk (Bool.and (Nat.beq ((opd N x).f A).s.tag 2) (Nat.beq ((opd N y).f A).s.tag 2)) (okB (Bool.not (Bool.and (Nat.beq ((opd N x).f A).s.a ((opd N y).f A).s.a) (Nat.beq ((opd N x).f A).s.b ((opd N y).f A).s.b))) S)⟩ := by
  intro call A S v S' h
  simp only at h ⊢
  obtain ⟨h1, h2⟩ := chk_ok h
  obtain ⟨h3, h4⟩ := and_ok h1
  obtain ⟨rfl, h5⟩ := okB1 h2
  refine ⟨rfl, fun _ S2 => by rw [h1]; exact h5 S2, fun η a w ob _ ho hop => ?_⟩
  obtain ⟨s, ex, ha, hb⟩ := ((hop x (by simp [Op.operands])).asSc (by rw [beq_ok h3]; omega)).asStr (beq_ok h3)
  obtain ⟨u, ey, ha2, hb2⟩ := ((hop y (by simp [Op.operands])).asSc (by rw [beq_ok h4]; omega)).asStr (beq_ok h4)
  exact ⟨_, exec_binS a ob ho w ex ey (by rw [binOp_string_neq]; rfl), okB2 η h2 (by rw [ha, hb, ha2, hb2, strEq])⟩
theorem unXor_ok {k : IntKind} {t : TypeId} {x : Operand} : PureOk P N ρ (.unOp .xor t x) ⟨fun _ A S => chk (Nat.beq ((opd N x).f A).s.tag (kcode k)) (okI k (Nat.sub (Nat.sub (kmod k) 1) ((opd N x).f A).s.a) S)⟩ := by
  intro call A S v S' h
  simp only at h ⊢
  obtain ⟨h1, h2⟩ := chk_ok h
  cases h2
  refine ⟨rfl, fun _ _ => by rw [h1]; rfl, fun η a w ob _ ho hop => ?_⟩
  obtain ⟨ex, lx⟩ := ((hop x (by simp [Op.operands])).asSc (by rw [beq_ok h1]; have := kcode_ge k; omega)).asInt (beq_ok h1)
  have hall : BitVec.ofInt k.bits (if k.signed then -1 else k.max) = BitVec.allOnes k.bits := by cases k <;> rfl
  refine ⟨.int k (k.wrap (((kmod k - 1 - ((opd N x).f A).s.a) : Nat) : Int)), ?_, VR.mkI k (by have := kmod_pos k; show kmod k - 1 - _ < _; omega)⟩
  simp only [execOp, ho, ex, Op.unary, Op.intBits, hall, ofInt_wrap]
  have : (BitVec.allOnes k.bits ^^^ BitVec.ofNat k.bits ((opd N x).f A).s.a).toNat = kmod k - 1 - ((opd N x).f A).s.a := by
    rw [BitVec.allOnes_xor, BitVec.toNat_not, toNat_ofNat k lx, ← kmod_eq]
  rw [this]
  rfl
theorem minV_ok {isMax : Bool} {k : IntKind} : ∀ {vs : List V} {x : V} {K : V → Ans} {v : V} {S : St}, minV isMax k vs x K = .ok v S → ∃ r, K r = .ok v S ∧ (∀ K', minV isMax k vs x K' = K' r) ∧
    ∀ (η : Nv) us, VRL η vs us → x.s.tag = kcode k → x.s.a < kmod k → r.s.tag = kcode k ∧ r.s.a < kmod k ∧ ∀ w, ((us.foldlM (if isMax then Builtin.max2 else Builtin.min2) (.int k (k.wrap x.s.a)) : Sem Value)).run P w = .ok (.int k (k.wrap r.s.a)) w := by
  intro vs
  induction vs with
  | nil =>
    intro x K v S h
    refine ⟨x, h, fun _ => rfl, fun η us hv ht hl => ?_⟩
    cases hv
    exact ⟨ht, hl, fun w => rfl⟩
  | cons y r ih =>
    intro x K v S h
    obtain ⟨h1, h2⟩ := chk_ok (b := Nat.beq y.s.tag (kcode k)) h
    have hy := beq_ok h1
    have main : ∀ z : V, (z = (if (Nat.ble (bias k x.s.a) (bias k y.s.a)) = true then (Bool.rec (motive := fun _ => V) x y isMax) else (Bool.rec (motive := fun _ => V) y x isMax))) → minV isMax k r z K = .ok v S → ∃ q, K q = .ok v S ∧ (∀ K', minV isMax k (y :: r) x K' = K' q) ∧
        ∀ (η : Nv) us, VRL η (y :: r) us → x.s.tag = kcode k → x.s.a < kmod k → q.s.tag = kcode k ∧ q.s.a < kmod k ∧ ∀ w, ((us.foldlM (if isMax then Builtin.max2 else Builtin.min2) (.int k (k.wrap x.s.a)) : Sem Value)).run P w = .ok (.int k (k.wrap q.s.a)) w := by
      intro z hz hm
      obtain ⟨q, q1, q2, q3⟩ := ih hm
      refine ⟨q, q1, fun K' => ?_, fun η us hv ht hl => ?_⟩
      · show chk (Nat.beq y.s.tag (kcode k)) (iff (Nat.ble (bias k x.s.a) (bias k y.s.a)) (minV isMax k r _ K') (minV isMax k r _ K')) = _
        rw [h1]
        by_cases hb : Nat.ble (bias k x.s.a) (bias k y.s.a) = true
        · rw [if_pos hb] at hz; rw [hb]; rw [hz] at q2; exact q2 K'
        · rw [if_neg hb] at hz; rw [Bool.eq_false_iff.2 hb]; rw [hz] at q2; exact q2 K'
      · cases hv with
        | cons hy1 hs =>
          rename_i u us'
          obtain ⟨eu, ly⟩ := (hy1.asSc (by rw [hy]; have := kcode_ge k; omega)).asInt hy
          have hlt := bias_lt k ly hl
          have hlt2 := bias_lt k hl ly
          have hzt : z.s.tag = kcode k ∧ z.s.a < kmod k ∧ (if isMax then (if k.wrap (y.s.a : Int) > k.wrap (x.s.a : Int) then k.wrap (y.s.a : Int) else k.wrap (x.s.a : Int)) else (if k.wrap (y.s.a : Int) < k.wrap (x.s.a : Int) then k.wrap (y.s.a : Int) else k.wrap (x.s.a : Int))) = k.wrap (z.s.a : Int) := by
            by_cases hb : Nat.ble (bias k x.s.a) (bias k y.s.a) = true
            · have hb' := ble_ok hb
              rw [if_pos hb] at hz
              cases isMax
              · simp only at hz; subst hz
                exact ⟨ht, hl, by rw [if_neg (by simp), if_neg (by rw [hlt]; omega)]⟩
              · simp only at hz; subst hz
                refine ⟨hy, ly, ?_⟩
                rw [if_pos rfl]
                by_cases hgt : k.wrap (z.s.a : Int) > k.wrap (x.s.a : Int)
                · rw [if_pos hgt]
                · rw [if_neg hgt]
                  have h5 : ¬ (k.wrap (z.s.a : Int) < k.wrap (x.s.a : Int)) := by rw [hlt]; omega
                  have : k.wrap (x.s.a : Int) = k.wrap (z.s.a : Int) := by omega
                  exact this
            · have hb' := ble_no (Bool.eq_false_iff.2 hb)
              rw [if_neg hb] at hz
              cases isMax
              · simp only at hz; subst hz
                exact ⟨hy, ly, by rw [if_neg (by simp), if_pos (by rw [hlt]; exact hb')]⟩
              · simp only at hz; subst hz
                exact ⟨ht, hl, by rw [if_pos rfl, if_neg (by have := hlt.2 hb'; omega)]⟩
          obtain ⟨z1, z2, z3⟩ := hzt
          obtain ⟨r1, r2, r3⟩ := q3 η us' hs z1 z2
          refine ⟨r1, r2, fun w => ?_⟩
          rw [List.foldlM_cons, eu]
          have hstep : ((if isMax then Builtin.max2 else Builtin.min2) (.int k (k.wrap (x.s.a : Int))) (.int k (k.wrap (y.s.a : Int)))).run P w = .ok (.int k (k.wrap (z.s.a : Int))) w := by
            rw [← z3]
            cases isMax <;> rfl
          simp only [Sem.run_bind, hstep, Result.andThen_ok]
          exact r3 w
    rcases iff_ok h2 with ⟨h3, h4⟩ | ⟨h3, h4⟩
    · exact main _ (by rw [if_pos h3]) h4
    · exact main _ (by rw [if_neg (by rw [h3]; simp)]) h4
end Go.Exec

namespace Go.Exec
open Go
variable {P : Program} {N : Nat} {ρ : Nat → Int} {H : Hy}
theorem forIn_all {α : Type} (b : α → Bool) (w : World) (body : α → Option Bool × Unit → Sem (ForInStep (Option Bool × Unit))) : ∀ (l : List α), (∀ x ∈ l, (body x (none, ())).run P w = .ok (if b x then .yield (none, ()) else .done (some false, ())) w) →
    (forIn l (none, ()) body).run P w = .ok (if l.all b then (none, ()) else (some false, ())) w
  | [], _ => by simp
  | x :: r, h => by
    have h1 := h x (by simp)
    rw [List.forIn_cons]
    simp only [Sem.run_bind, h1, Result.andThen_ok]
    by_cases hb : b x = true
    · rw [if_pos hb]
      have := forIn_all b w body r fun y hy => h y (by simp [hy])
      simp only [this, List.all_cons, hb, Bool.true_and]
    · rw [if_neg hb]
      simp [hb]
/-- A value of a type that lies in cells from o on. -/
def Win (P : Program) (η : Nv) (c : Nat → Sc) (o : Nat) (t : TypeId) (x : Value) : Prop :=
  (isAggT P t = false ∧ SR η (c o) x) ∨ (isAggT P t = true ∧ ∃ cs : Array Value, x = .agg cs ∧ cs.size = sizeT P t ∧ ∀ j v, cs[j]? = some v → SR η (c (o + j)) v)
theorem part_win {η : Nv} {c : Nat → Sc} {o o' : Nat} {e : TypeId} {xs : Array Value} (hx : ∀ j v, xs[j]? = some v → SR η (c (o + j)) v) (hfit : o' + partSize P e ≤ xs.size) (hk : known P e) (w : World) : ∃ y, (part e xs o').run P w = .ok y w ∧ Win P η c (o + o') e y := by
  have ha := run_isAgg (P := P) (t := e) w hk.1
  unfold partSize at hfit
  unfold part
  cases hb : isAggT P e with
  | false =>
    rw [hb] at ha hfit
    simp only at hfit
    have hlt : o' < xs.size := by omega
    exact ⟨xs[o'], by simp [ha, hlt], .inl ⟨hb, hx o' _ (Array.getElem?_eq_getElem hlt)⟩⟩
  | true =>
    rw [hb] at ha hfit
    simp only at hfit
    obtain ⟨i, hi⟩ := Option.ne_none_iff_exists'.1 hk.2
    have hsz : sizeT P e = i.size := by simp [sizeT, hi]
    refine ⟨.agg (xs.extract o' (o' + i.size)), by simp [ha, run_sizeOf' hi], .inr ⟨hb, _, rfl, by simp; omega, fun j v hv => ?_⟩⟩
    rw [Array.getElem?_extract] at hv
    split at hv
    · rw [Nat.add_assoc]; exact hx (o' + j) v hv
    · cases hv
noncomputable def same (c e : Nat → Sc) : List Nat → Nat → Bool
  | [], _ => true
  | g :: r, o => cellEq g (c o) (e o) && same c e r (o + 1)
def okT (c e : Nat → Sc) : List Nat → Nat → Prop
  | [], _ => True
  | g :: r, o => okC g (c o) (e o) = true ∧ okT c e r (o + 1)
theorem same_append (c e : Nat → Sc) : ∀ (l m : List Nat) (o : Nat), same c e (l ++ m) o = (same c e l o && same c e m (o + l.length))
  | [], m, o => by simp [same]
  | g :: r, m, o => by simp only [List.cons_append, same, same_append c e r m (o + 1), Bool.and_assoc, List.length_cons]; congr 3; omega
theorem okC_ok {g : Nat} {a b : Sc} (h : okC g a b = true) : (a.tag = g ∧ b.tag = g) ∨ (a.tag = 24 ∧ b.tag = 24 ∧ a.a = b.a ∧ a.b = g ∧ b.b = g) := by
  rcases or_ok h with h | h
  · obtain ⟨h1, h2⟩ := and_ok h; exact .inl ⟨beq_ok h1, beq_ok h2⟩
  · obtain ⟨h1, h2⟩ := and_ok h
    obtain ⟨h3, h4⟩ := and_ok h1
    obtain ⟨h5, h6⟩ := and_ok h2
    obtain ⟨h7, h8⟩ := and_ok h6
    exact .inr ⟨beq_ok h3, beq_ok h4, beq_ok h5, beq_ok h7, beq_ok h8⟩
theorem SR.noVar {η : Nv} {s : Sc} {v : Value} {g : Nat} (h : SR η s v) (ht : s.tag = 24) (hb : s.b = g) (hg : g < 16) : False := by
  cases h with
  | int k h _ => have := kcode_ge k; omega
  | var k h hk => have := kcode_ge k; omega
  | _ => omega
theorem okT_append {c e : Nat → Sc} : ∀ {l m : List Nat} {o : Nat}, okT c e (l ++ m) o → okT c e l o ∧ okT c e m (o + l.length)
  | [], m, o, h => ⟨trivial, by simpa using h⟩
  | g :: r, m, o, ⟨h1, h3⟩ => by
    obtain ⟨h4, h5⟩ := okT_append h3
    exact ⟨⟨h1, h4⟩, by rw [List.length_cons, show o + (r.length + 1) = o + 1 + r.length by omega]; exact h5⟩
def FlatEq (P : Program) (η : Nv) (c e : Nat → Sc) (d : Nat) (t : TypeId) (l : List Nat) : Prop :=
  ∀ o x y D w, okT c e l o → Win P η c o t x → Win P η e o t y → (Op.equalIn (D + d) t x y).run P w = .ok (same c e l o) w
theorem flatF_eq {η : Nv} {c e : Nat → Sc} {ih : TypeId → Option (List Nat)} {d : Nat} (hih : ∀ t l, ih t = some l → l.length = partSize P t → FlatEq P η c e d t l) : ∀ (fs : List Field) (o' : Nat) (l : List Nat), flatF P ih fs o' = some l → ∀ (o : Nat) (xs ys : Array Value) D w, okT c e l (o + o') → o' + l.length ≤ xs.size → o' + l.length ≤ ys.size → (∀ j v, xs[j]? = some v → SR η (c (o + j)) v) → (∀ j v, ys[j]? = some v → SR η (e (o + j)) v) →
    (Op.eqFields (D + d) xs ys fs).run P w = .ok (same c e l (o + o')) w := by
  intro fs
  induction fs with
  | nil => intro o' l h o xs ys D w _ _ _ _ _; cases h; rfl
  | cons f r ihr =>
    intro o' l h o xs ys D w hok hsx hsy hx hy
    unfold flatF at h
    split at h
    · rename_i hc
      obtain ⟨hn, rfl, hk⟩ := hc
      cases hl : ih f.type with
      | none => rw [hl] at h; cases h
      | some l1 =>
        rw [hl] at h
        simp only at h
        split at h
        · rename_i hlen
          cases hm : flatF P ih r (f.offset + l1.length) with
          | none => rw [hm] at h; cases h
          | some l2 =>
            rw [hm] at h
            cases h
            rw [List.length_append] at hsx hsy
            obtain ⟨k1, k2⟩ := okT_append hok
            obtain ⟨u, p1, q1⟩ := part_win (o' := f.offset) hx (by omega) hk w
            obtain ⟨v, p2, q2⟩ := part_win (o' := f.offset) hy (by omega) hk w
            have h3 := hih f.type l1 hl hlen (o + f.offset) u v D w k1 q1 q2
            have h4 := ihr (f.offset + l1.length) l2 hm o xs ys D w (by rw [← Nat.add_assoc]; exact k2) (by omega) (by omega) hx hy
            unfold Op.eqFields
            rw [if_pos hn]
            simp only [Sem.run_bind, p1, p2, h3, Result.andThen_ok]
            rw [same_append]
            cases hs : same c e l1 (o + f.offset) with
            | false => simp
            | true => simp only [Bool.not_true, Bool.false_eq_true, if_false, Bool.true_and]; rw [h4, Nat.add_assoc]
        · cases h
    · cases h
theorem eqItems_eq {η : Nv} {c e : Nat → Sc} {d : Nat} {t : TypeId} {l : List Nat} (hih : FlatEq P η c e d t l) (hk : known P t) (hlen : l.length = partSize P t) (hsz : sizeT P t = l.length) : ∀ (n i o : Nat) (xs ys : Array Value) D w, okT c e (repL n l) (o + i * l.length) → (i + n) * l.length ≤ xs.size → (i + n) * l.length ≤ ys.size → (∀ j v, xs[j]? = some v → SR η (c (o + j)) v) → (∀ j v, ys[j]? = some v → SR η (e (o + j)) v) →
    (Op.eqItems (D + d) t (P.cellsOf t) xs ys (List.range' i n)).run P w = .ok (same c e (repL n l) (o + i * l.length)) w := by
  have hcells : P.cellsOf t = l.length := by
    rw [← hsz]
    obtain ⟨i, hi⟩ := Option.ne_none_iff_exists'.1 hk.2
    simp [Program.cellsOf, sizeT, hi]
  intro n
  induction n with
  | zero => intro i o xs ys D w _ _ _ _ _; rfl
  | succ n ihn =>
    intro i o xs ys D w hok hsx hsy hx hy
    have hok' : okT c e (l ++ repL n l) (o + i * l.length) := hok
    obtain ⟨k1, k2⟩ := okT_append hok'
    have e1 : (i + (n + 1)) * l.length = i * l.length + l.length + n * l.length := by rw [Nat.add_mul, Nat.add_mul]; omega
    have e2 : (i + 1) * l.length = i * l.length + l.length := by rw [Nat.add_mul]; omega
    obtain ⟨u, p1, q1⟩ := part_win (o' := i * l.length) hx (by omega) hk w
    obtain ⟨v, p2, q2⟩ := part_win (o' := i * l.length) hy (by omega) hk w
    have h3 := hih (o + i * l.length) u v D w k1 q1 q2
    have h4 := ihn (i + 1) o xs ys D w (by rw [e2, ← Nat.add_assoc]; exact k2) (by rw [Nat.add_mul, e2]; omega) (by rw [Nat.add_mul, e2]; omega) hx hy
    rw [List.range'_succ]
    unfold Op.eqItems
    rw [hcells] at h4 ⊢
    simp only [Sem.run_bind, p1, p2, h3, Result.andThen_ok]
    show _ = Result.ok (same c e (l ++ repL n l) (o + i * l.length)) w
    rw [same_append]
    cases hs : same c e l (o + i * l.length) with
    | false => simp
    | true => simp only [Bool.not_true, Bool.false_eq_true, if_false, Bool.true_and]; rw [h4, e2, ← Nat.add_assoc]
theorem repL_length (l : List Nat) : ∀ n, (repL n l).length = n * l.length
  | 0 => by rw [Nat.zero_mul]; rfl
  | n + 1 => by
    show (l ++ repL n l).length = _
    rw [List.length_append, repL_length l n, Nat.add_mul]; omega
theorem flat_eq {η : Nv} {c e : Nat → Sc} : ∀ (d : Nat) (t : TypeId) (l : List Nat), flat P d t = some l → (isAggT P t = true → l.length = sizeT P t) → FlatEq P η c e d t l := by
  intro d
  induction d with
  | zero => intro t l h; cases h
  | succ d ih =>
    intro t l h hsz o x y D w hok hx hy
    unfold flat at h
    split at h
    · rename_i k hd
      cases h
      have ha : isAggT P t = false := by unfold isAggT; rw [hd]
      have hx := (hx.resolve_right fun h => by rw [ha] at h; cases h.1).2
      have hy := (hy.resolve_right fun h => by rw [ha] at h; cases h.1).2
      rcases okC_ok hok.1 with ⟨h1, h2⟩ | ⟨h1, h2, h3, h4, h5⟩
      rotate_left
      · have e1 := hx.asVar h1 h4
        have e2 := hy.asVar h2 h5
        subst e1; subst e2
        rw [show D + (d + 1) = (D + d) + 1 from rfl, run_equalIn_int w (D + d) t k k _ _ (desc_ok hd (by simp))]
        congr 1
        have hk : cellEq (kcode k) (c o) (e o) = Nat.beq (c o).a (e o).a := by unfold cellEq; cases k <;> rfl
        simp only [same, Bool.and_true, hk, h3]
        simp
      obtain ⟨rfl, hl⟩ := hx.asInt h1
      obtain ⟨rfl, hl'⟩ := hy.asInt h2
      rw [show D + (d + 1) = (D + d) + 1 from rfl, run_equalIn_int w (D + d) t k k _ _ (desc_ok hd (by simp))]
      congr 1
      have hk : cellEq (kcode k) (c o) (e o) = Nat.beq (c o).a (e o).a := by unfold cellEq; cases k <;> rfl
      simp only [same, Bool.and_true, hk]
      rw [Bool.eq_iff_iff, beq_iff_eq]
      constructor
      · intro h3
        have : (c o).a = (e o).a := (wrap_inj k hl hl').1 h3
        rw [this]; exact Nat.beq_refl _
      · intro h3; rw [beq_ok h3]
    · rename_i hd
      cases h
      have ha : isAggT P t = false := by unfold isAggT; rw [hd]
      have hx := (hx.resolve_right fun h => by rw [ha] at h; cases h.1).2
      have hy := (hy.resolve_right fun h => by rw [ha] at h; cases h.1).2
      rcases okC_ok hok.1 with ⟨h1, h2⟩ | ⟨h1, h2, h3, h4, h5⟩
      rotate_left
      · exact absurd (hx.noVar h1 h4 (by decide)) id
      obtain ⟨b, rfl, hl⟩ := hx.asBool h1
      obtain ⟨b', rfl, hl'⟩ := hy.asBool h2
      rw [show D + (d + 1) = (D + d) + 1 from rfl, run_equalIn_bool w (D + d) t b b' (desc_ok hd (by simp))]
      congr 1
      have hk : cellEq 1 (c o) (e o) = Nat.beq (c o).a (e o).a := rfl
      simp only [same, Bool.and_true, hk, hl, hl']
      cases b <;> cases b' <;> rfl
    · rename_i hd
      cases h
      have ha : isAggT P t = false := by unfold isAggT; rw [hd]
      have hx := (hx.resolve_right fun h => by rw [ha] at h; cases h.1).2
      have hy := (hy.resolve_right fun h => by rw [ha] at h; cases h.1).2
      rcases okC_ok hok.1 with ⟨h1, h2⟩ | ⟨h1, h2, h3, h4, h5⟩
      rotate_left
      · exact absurd (hx.noVar h1 h4 (by decide)) id
      obtain ⟨s, rfl, hl, hm⟩ := hx.asStr h1
      obtain ⟨s', rfl, hl', hm'⟩ := hy.asStr h2
      rw [show D + (d + 1) = (D + d) + 1 from rfl, run_equalIn_string w (D + d) t s s' (desc_ok hd (by simp))]
      congr 1
      have hk : cellEq 2 (c o) (e o) = Bool.and (Nat.beq (c o).a (e o).a) (Nat.beq (c o).b (e o).b) := rfl
      simp only [same, Bool.and_true, hk, hl, hl', hm, hm', strEq]
    · rename_i n t' hd
      have ha : isAggT P t = true := by unfold isAggT; rw [hd]
      split at h
      · rename_i hk
        cases hl : flat P d t' with
        | none => rw [hl] at h; cases h
        | some l1 =>
          rw [hl] at h
          simp only at h
          split at h
          · rename_i hlen
            cases h
            obtain ⟨-, cs, rfl, hs, hx⟩ := hx.resolve_left fun h => by rw [ha] at h; cases h.1
            obtain ⟨-, cs', rfl, hs', hy⟩ := hy.resolve_left fun h => by rw [ha] at h; cases h.1
            obtain ⟨i, hi⟩ := Option.ne_none_iff_exists'.1 hk.2
            have hz := hsz ha
            rw [repL_length] at hz
            rw [show D + (d + 1) = (D + d) + 1 from rfl, run_equalIn_array w (D + d) cs cs' (desc_ok hd (by simp)) hi, List.range_eq_range']
            have := eqItems_eq (ih t' l1 hl (fun _ => hlen.2.symm)) hk hlen.1 hlen.2 n 0 o cs cs' D w (by simpa using hok) (by rw [Nat.zero_add]; omega) (by rw [Nat.zero_add]; omega) hx hy
            simpa using this
          · cases h
      · cases h
    · rename_i fs hd
      have ha : isAggT P t = true := by unfold isAggT; rw [hd]
      split at h
      · rename_i hst
        obtain ⟨-, cs, rfl, hs, hx⟩ := hx.resolve_left fun h => by rw [ha] at h; cases h.1
        obtain ⟨-, cs', rfl, hs', hy⟩ := hy.resolve_left fun h => by rw [ha] at h; cases h.1
        have hz := hsz ha
        have hf : P.fieldsOf t = fs := by unfold Program.fieldsOf; rw [desc_ok hd (by simp)]
        rw [show D + (d + 1) = (D + d) + 1 from rfl, run_equalIn_struct w (D + d) t cs cs' (by rw [hf]; exact desc_ok hd (by simp)) hst, hf]
        exact flatF_eq (ih := flat P d) (fun t l h hp => ih t l h (fun ha => by rw [hp]; unfold partSize; rw [ha])) fs.toList 0 l h o cs cs' D w hok (by omega) (by omega) hx hy
      · cases h
    · cases h
end Go.Exec

namespace Go.Exec
open Go
variable {P : Program} {N : Nat} {ρ : Nat → Int} {H : Hy}
theorem VRL.app {η : Nv} : ∀ {a b : List V} {x y : List Value}, VRL η a x → VRL η b y → VRL η (app a b) (x ++ y)
  | _, _, _, _, .nil, h => h
  | _, _, _, _, .cons h hs, k => .cons h (VRL.app hs k)
theorem VRL.vsS {η : Nv} : ∀ {a : List Sc} {x : List Value}, SRL η a x → VRL η (vsS a) x
  | _, _, .nil => .nil
  | _, _, .cons h hs => .cons (.sc h) (VRL.vsS hs)
theorem VRL.toArray {η : Nv} {vs : List V} {xs : Array Value} (h : VRL η vs xs.toList) : VRL η vs xs.toList := h
/-- A function's value, as the executor sees it. -/
theorem call_chain {c : Call} {f : Operand} {cl : OpC} (hc : c.callee = .value f)
    (h : ∀ call A S v S' η a w, Cal P ρ call → η.ρ = ρ → OR η N A a f → (∀ x ∈ c.args.toList, OR η N A a x) → Rep P η S w → cl.f call A S = .ok v S' →
      S'.ds = S.ds ∧ ∃ g first caps, a.eval f = .func (.func g) first caps ∧ Comes' P g (first ++ c.args.map a.eval ++ caps) w fun x w' => ∃ ζ, Move P η S w ζ S' w' ∧ VR ζ v x) : ChainOk P N ρ (.call c) cl := by
  intro call A S v S' η a w ob hcal hρ ho hop hR hD hcl next Q hn
  have hof : OR η N A a f := hop f (by simp [Op.operands, Call.operands, hc])
  have hox : ∀ x ∈ c.args.toList, OR η N A a x := fun x hx => hop x (by simp only [Op.operands, Call.operands, hc]; simp; exact .inr (by simpa using hx))
  obtain ⟨hds, g, first, caps, ef, hcm⟩ := h call A S v S' η a w hcal hρ hof hox hR hcl
  have hex : (execOp a.eval ob).run P w = (callFunc g (first ++ c.args.map a.eval ++ caps)).run P w := by
    simp only [execOp, ho, resolve, hc, ef, Deferred.ofValue]
    simp [invoke]
  unfold Oper.wp
  rw [hex]
  rcases hcm with ⟨h1, h2⟩ | ⟨x, w', h1, ζ, hm, hv⟩
  · rw [h1]
    rw [Oper.upon_enter]
    refine h2.mono ?_
    rintro e w' ⟨x, rfl, ζ, hm, hv⟩
    exact hn x ζ w' a.defers hm hv (by rw [hds]; exact hD.up hm.ext.le)
  · rw [h1]
    exact hn x ζ w' a.defers hm hv (by rw [hds]; exact hD.up hm.ext.le)
theorem callC_ok {c : Call} {f : Operand} (hc : c.callee = .value f) : ChainOk P N ρ (.call c) (callC N f c.args.toList) := by
  refine call_chain hc fun call A S v S' η a w hcal hρ hof hox hR h => ?_
  have hvs := VRL.opds c.args.toList hox
  have hmap : (c.args.map a.eval).toList = c.args.toList.map a.eval := by rw [Array.toList_map]
  cases f with
  | func g =>
    obtain ⟨h1, h2⟩ := hcal.ok g _ S v S' η _ w hρ hvs hR h
    refine ⟨h1, g, #[], #[], rfl, ?_⟩
    have e : (#[] ++ c.args.map a.eval ++ #[] : Array Value) = (c.args.toList.map a.eval).toArray := by
      apply Array.ext'; simp
    rw [e]; exact h2
  | tmp t =>
    have h' : chk (Nat.beq ((opd N (.tmp t)).f A).s.tag 7) (call ((opd N (.tmp t)).f A).s.a (app (vsS ((opd N (.tmp t)).f A).s.xs) (app ((opds N c.args.toList).f A) (vsS ((opd N (.tmp t)).f A).s.ys))) S) = .ok v S' := h
    obtain ⟨h1, h2⟩ := chk_ok h'
    obtain ⟨xs, ys, ef, hx, hy⟩ := (hof.asSc (by rw [beq_ok h1]; omega)).asFn (beq_ok h1)
    obtain ⟨h3, h4⟩ := hcal.ok _ _ S v S' η _ w hρ (VRL.app (VRL.vsS hx) (VRL.app hvs (VRL.vsS hy))) hR h2
    refine ⟨h3, _, xs.toArray, ys.toArray, ef, ?_⟩
    have e : (xs.toArray ++ c.args.map a.eval ++ ys.toArray : Array Value) = (xs ++ (c.args.toList.map a.eval ++ ys)).toArray := by
      apply Array.ext'; simp
    rw [e]; exact h4
  | const u =>
    have h' : chk (Nat.beq ((opd N (.const u)).f A).s.tag 7) (call ((opd N (.const u)).f A).s.a (app (vsS ((opd N (.const u)).f A).s.xs) (app ((opds N c.args.toList).f A) (vsS ((opd N (.const u)).f A).s.ys))) S) = .ok v S' := h
    obtain ⟨h1, h2⟩ := chk_ok h'
    obtain ⟨xs, ys, ef, hx, hy⟩ := (hof.asSc (by rw [beq_ok h1]; omega)).asFn (beq_ok h1)
    obtain ⟨h3, h4⟩ := hcal.ok _ _ S v S' η _ w hρ (VRL.app (VRL.vsS hx) (VRL.app hvs (VRL.vsS hy))) hR h2
    refine ⟨h3, _, xs.toArray, ys.toArray, ef, ?_⟩
    have e : (xs.toArray ++ c.args.map a.eval ++ ys.toArray : Array Value) = (xs ++ (c.args.toList.map a.eval ++ ys)).toArray := by
      apply Array.ext'; simp
    rw [e]; exact h4
  | global u =>
    have h' : chk (Nat.beq ((opd N (.global u)).f A).s.tag 7) (call ((opd N (.global u)).f A).s.a (app (vsS ((opd N (.global u)).f A).s.xs) (app ((opds N c.args.toList).f A) (vsS ((opd N (.global u)).f A).s.ys))) S) = .ok v S' := h
    obtain ⟨h1, h2⟩ := chk_ok h'
    obtain ⟨xs, ys, ef, hx, hy⟩ := (hof.asSc (by rw [beq_ok h1]; omega)).asFn (beq_ok h1)
    obtain ⟨h3, h4⟩ := hcal.ok _ _ S v S' η _ w hρ (VRL.app (VRL.vsS hx) (VRL.app hvs (VRL.vsS hy))) hR h2
    refine ⟨h3, _, xs.toArray, ys.toArray, ef, ?_⟩
    have e : (xs.toArray ++ c.args.map a.eval ++ ys.toArray : Array Value) = (xs ++ (c.args.toList.map a.eval ++ ys)).toArray := by
      apply Array.ext'; simp
    rw [e]; exact h4
/-- What is said of methods is so. -/
def MthOk (P : Program) (mth : Nat → String → Option Nat) : Prop := ∀ t m g, mth t m = some g → ∀ v w, (method (P.types.size + Made.depth) t v m).run P w = .ok (g, v) w
theorem invokeC_ok {mth : Nat → String → Option Nat} (hm : MthOk P mth) {c : Call} {r : Operand} {m : String} (hc : c.callee = .invoke r m) : ChainOk P N ρ (.call c) (invokeC mth N r m c.args.toList) := by
  intro call A S v S' η a w ob hcal hρ ho hop hR hD h next Q hn
  have hof : OR η N A a r := hop r (by simp [Op.operands, Call.operands, hc])
  have hox : ∀ x ∈ c.args.toList, OR η N A a x := fun x hx => hop x (by simp only [Op.operands, Call.operands, hc]; simp; exact .inr (by simpa using hx))
  have hvs := VRL.opds c.args.toList hox
  have h' : chk (Nat.beq ((opd N r).f A).s.tag 9) (Option.rec (motive := fun _ => Ans) .no (fun g => call g (app (vsS ((opd N r).f A).s.xs) ((opds N c.args.toList).f A)) S) (mth ((opd N r).f A).s.a m)) = .ok v S' := h
  obtain ⟨h1, h2⟩ := chk_ok h'
  obtain ⟨u, er, hx⟩ := (hof.asSc (by rw [beq_ok h1]; omega)).asIfc (beq_ok h1)
  cases hg : mth ((opd N r).f A).s.a m with
  | none => rw [hg] at h2; cases h2
  | some g =>
    rw [hg] at h2
    obtain ⟨hds, hcm⟩ := hcal.ok g _ S v S' η _ w hρ (VRL.app (VRL.vsS hx) hvs) hR h2
    have hmr := hm _ _ _ hg u w
    have e : ([u] ++ c.args.toList.map a.eval).toArray = (#[u] ++ (#[a.eval r] ++ c.args.map a.eval).extract 1 (#[a.eval r] ++ c.args.map a.eval).size : Array Value) := by
      apply Array.ext'; simp; rw [List.take_of_length_le (by simp)]
    have hex : (execOp a.eval ob).run P w = (callFunc g ([u] ++ c.args.toList.map a.eval).toArray).run P w := by
      rw [e]
      simp only [execOp, ho, resolve, hc]
      simp only [Sem.run_bind, Sem.run_pure, Result.andThen_ok, invoke]
      have h0 : (#[a.eval r] ++ c.args.map a.eval)[0]? = some (a.eval r) := by rw [Array.getElem?_append_left (by simp)]; rfl
      rw [h0]
      simp only [callMethod, er]
      simp [hmr]
    unfold Oper.wp
    rw [hex]
    rcases hcm with ⟨h1, h2⟩ | ⟨x, w', h1, ζ, hm, hv⟩
    · rw [h1]
      rw [Oper.upon_enter]
      refine h2.mono ?_
      rintro e w' ⟨x, rfl, ζ, hm, hv⟩
      exact hn x ζ w' a.defers hm hv (by rw [hds]; exact hD.up hm.ext.le)
    · rw [h1]
      exact hn x ζ w' a.defers hm hv (by rw [hds]; exact hD.up hm.ext.le)
theorem move_ds {η : Nv} {S : St} {w : World} (hR : Rep P η S w) (ds : List (Nat × List V)) : Move P η S w η ⟨S.heap, S.next, ds⟩ w := ⟨⟨Nv.le.refl η, Nat.le_refl _, fun n _ hn hl hb => .inr ⟨n, id, hn, hl, hb⟩, fun _ _ => rfl⟩, ⟨hR.live, hR.inj, hR.new, hR.low, hR.own, hR.top, hR.inv, hR.foot⟩, Fr.refl η S w⟩
theorem deferC_ok {c : Call} {f : Operand} (hc : c.callee = .value f) : ChainOk P N ρ (.defer c) (deferC N f c.args.toList) := by
  intro call A S v S' η a w ob hcal hρ ho hop hR hD h next Q hn
  have hof : OR η N A a f := hop f (by simp [Op.operands, Call.operands, hc])
  have hox : ∀ x ∈ c.args.toList, OR η N A a x := fun x hx => hop x (by simp only [Op.operands, Call.operands, hc]; simp; exact .inr (by simpa using hx))
  have hvs := VRL.opds c.args.toList hox
  obtain ⟨h1, h2⟩ := chk_ok h
  cases h2
  obtain ⟨xs, ys, ef, hx, hy⟩ := (hof.asSc (by rw [beq_ok h1]; omega)).asFn (beq_ok h1)
  have hex : (execOp a.eval ob).run P w = .ok (.defer ⟨.fn (.func ((opd N f).f A).s.a) ys.toArray, xs.toArray ++ c.args.map a.eval⟩) w := by
    simp only [execOp, ho, resolve, hc, ef, Deferred.ofValue]
    simp
  unfold Oper.wp
  rw [hex, Oper.upon_defer]
  refine hn undef η w _ (move_ds hR _) (VR.undef η) (.cons ?_ hD)
  have e : (xs.toArray ++ c.args.map a.eval ++ ys.toArray : Array Value).toList = xs ++ (c.args.toList.map a.eval ++ ys) := by simp
  rw [e]
  exact VRL.app (VRL.vsS hx) (VRL.app hvs (VRL.vsS hy))
end Go.Exec

namespace Go.Exec
open Go
variable {P : Program} {N : Nat} {ρ : Nat → Int} {H : Hy}
def eqOp (neg : Bool) : BinOp := if neg then .neq else .eql
theorem eq_at {t : TypeId} {u v : Value} {r : Bool} {w : World} (hq : ∀ D, (Op.equalIn (D + 1) t u v).run P w = .ok r w) : (Op.equal t u v).run P w = .ok r w := hq 9999
theorem nilC_ok {t ty : TypeId} {x y : Operand} {neg : Bool} {z : Nat} {full : Nat → Bool} {nilV : Value} (Full : Value → Prop)
    (hz : ∀ (η : Nv) s v, SR η s v → s.tag = z → v = nilV) (hf : ∀ (η : Nv) s v, SR η s v → full s.tag = true → Full v) (hz97 : z ≤ 97) (hf97 : ∀ n, full n = true → n ≤ 97)
    (e1 : ∀ w, (eqGuard (eqOp neg) t x y nilV nilV).run P w = .ok () w ∧ (binOp (eqOp neg) t nilV nilV).run P w = .ok (.bool (!neg)) w)
    (e2 : ∀ v w, Full v → (eqGuard (eqOp neg) t x y nilV v).run P w = .ok () w ∧ (binOp (eqOp neg) t nilV v).run P w = .ok (.bool neg) w)
    (e3 : ∀ v w, Full v → (eqGuard (eqOp neg) t x y v nilV).run P w = .ok () w ∧ (binOp (eqOp neg) t v nilV).run P w = .ok (.bool neg) w) :
    PureOk P N ρ (.binOp (eqOp neg) t x y ty) (nilC N neg x y z full) := by
  intro call A S v S' h
  unfold nilC at h ⊢
  simp only at h ⊢
  have run : ∀ {a : Act} {w : World} {ob : Oper} {u v r : Value}, ob.op = .binOp (eqOp neg) t x y ty → a.eval x = u → a.eval y = v → (eqGuard (eqOp neg) t x y u v).run P w = .ok () w ∧ (binOp (eqOp neg) t u v).run P w = .ok r w → (execOp a.eval ob).run P w = .ok (.value r) w := fun {a w ob u v r} ho hx hy hr => by
    simp only [execOp, ho, hx, hy]
    simp [hr.1, hr.2]
  rcases iff_ok h with ⟨h1, h2⟩ | ⟨h1, h2⟩
  · rcases iff_ok h2 with ⟨h3, h4⟩ | ⟨h3, h4⟩
    · obtain ⟨rfl, h5⟩ := okB1 h4
      refine ⟨rfl, fun _ S2 => by rw [h1, h3]; exact h5 S2, fun η a w ob _ ho hop => ?_⟩
      have ex := hz η _ _ ((hop x (by simp [Op.operands])).asSc (by rw [beq_ok h1]; exact hz97)) (beq_ok h1)
      have ey := hz η _ _ ((hop y (by simp [Op.operands])).asSc (by rw [beq_ok h3]; exact hz97)) (beq_ok h3)
      exact ⟨_, run ho ex ey (e1 w), okB2 η h4 rfl⟩
    · obtain ⟨h5, h6⟩ := chk_ok h4
      obtain ⟨rfl, h7⟩ := okB1 h6
      refine ⟨rfl, fun _ S2 => by rw [h1, h3, h5]; exact h7 S2, fun η a w ob _ ho hop => ?_⟩
      have ex := hz η _ _ ((hop x (by simp [Op.operands])).asSc (by rw [beq_ok h1]; exact hz97)) (beq_ok h1)
      have ey := hf η _ _ ((hop y (by simp [Op.operands])).asSc (hf97 _ h5)) h5
      exact ⟨_, run ho ex rfl (e2 _ w ey), okB2 η h6 rfl⟩
  · obtain ⟨h3, h4⟩ := chk_ok h2
    obtain ⟨h5, h6⟩ := and_ok h3
    obtain ⟨rfl, h7⟩ := okB1 h4
    refine ⟨rfl, fun _ S2 => by rw [h1, h3]; exact h7 S2, fun η a w ob _ ho hop => ?_⟩
    have ex := hf η _ _ ((hop x (by simp [Op.operands])).asSc (hf97 _ h5)) h5
    have ey := hz η _ _ ((hop y (by simp [Op.operands])).asSc (by rw [beq_ok h6]; exact hz97)) (beq_ok h6)
    exact ⟨_, run ho rfl ey (e3 _ w ex), okB2 η h4 rfl⟩
theorem SR.asNilf {η : Nv} {s : Sc} {v : Value} (h : SR η s v) (ht : s.tag = 8) : v = .nilFunc := by
  cases h with
  | nilf h => rfl
  | int j h ha => have := kcode_ge j; omega
  | _ => omega
theorem SR.asNili {η : Nv} {s : Sc} {v : Value} (h : SR η s v) (ht : s.tag = 10) : v = .nilIface := by
  cases h with
  | nili h => rfl
  | int j h ha => have := kcode_ge j; omega
  | _ => omega
theorem eqCs_ok {c e : Cells} {k : Bool → Ans} {v : V} {S : St} : ∀ (l : List Nat) (i : Nat) (r : Bool), List.rec (motive := fun _ => Nat → Bool → Ans) (fun _ r => k r) (fun g _ ih i r => force i (fun i => chk (okC g ((accC i).f c) ((accC i).f e)) (iff (cellEq g ((accC i).f c) ((accC i).f e)) (ih (Nat.add i 1) r) (ih (Nat.add i 1) false))) .no) l i r = .ok v S →
    okT (fun i => (accC i).f c) (fun i => (accC i).f e) l i ∧ k (r && same (fun i => (accC i).f c) (fun i => (accC i).f e) l i) = .ok v S
  | [], i, r, h => ⟨trivial, by simp only [same, Bool.and_true]; exact h⟩
  | g :: l, i, r, h => by
    obtain ⟨h1, h2⟩ := chk_ok (show chk (okC g ((accC i).f c) ((accC i).f e)) _ = .ok v S from h)
    rcases iff_ok h2 with ⟨h5, h6⟩ | ⟨h5, h6⟩
    · obtain ⟨h7, h8⟩ := eqCs_ok l (i + 1) r h6
      exact ⟨⟨h1, h7⟩, by simp only [same, h5, Bool.true_and]; exact h8⟩
    · obtain ⟨h7, h8⟩ := eqCs_ok l (i + 1) false h6
      refine ⟨⟨h1, h7⟩, ?_⟩
      simp only [same, h5, Bool.false_and, Bool.and_false]
      simpa using h8
theorem eqCs_indep {c e : Cells} {k k' : Bool → Ans} {v : V} {S S' : St} (hk : ∀ r, k r = .ok v S → k' r = .ok v S') : ∀ (l : List Nat) (i : Nat) (r : Bool), List.rec (motive := fun _ => Nat → Bool → Ans) (fun _ r => k r) (fun g _ ih i r => force i (fun i => chk (okC g ((accC i).f c) ((accC i).f e)) (iff (cellEq g ((accC i).f c) ((accC i).f e)) (ih (Nat.add i 1) r) (ih (Nat.add i 1) false))) .no) l i r = .ok v S →
    List.rec (motive := fun _ => Nat → Bool → Ans) (fun _ r => k' r) (fun g _ ih i r => force i (fun i => chk (okC g ((accC i).f c) ((accC i).f e)) (iff (cellEq g ((accC i).f c) ((accC i).f e)) (ih (Nat.add i 1) r) (ih (Nat.add i 1) false))) .no) l i r = .ok v S'
  | [], i, r, h => hk r h
  | g :: l, i, r, h => by
    obtain ⟨h1, h2⟩ := chk_ok (show chk (okC g ((accC i).f c) ((accC i).f e)) _ = .ok v S from h)
    show chk (okC g ((accC i).f c) ((accC i).f e)) _ = .ok v S'
    rw [h1]
    rcases iff_ok h2 with ⟨h5, h6⟩ | ⟨h5, h6⟩
    · have := eqCs_indep hk l (i + 1) r h6
      show iff (cellEq g ((accC i).f c) ((accC i).f e)) _ _ = .ok v S'
      rw [h5]; exact this
    · have := eqCs_indep hk l (i + 1) false h6
      show iff (cellEq g ((accC i).f c) ((accC i).f e)) _ _ = .ok v S'
      rw [h5]; exact this
theorem win_of {η : Nv} {t : TypeId} {v : V} {x : Value} (hv : VR η v x) (h : (fits P t).f v = true) (ha : isAggT P t = true) : (∃ cs, x = .agg cs) ∧ Win P η (fun i => (accC i).f v.cs) 0 t x := by
  unfold fits at h
  rw [ha] at h
  obtain ⟨h1, h2⟩ := and_ok h
  obtain ⟨cs, rfl, h3, -, h4⟩ := hv.asAgg (beq_ok h1)
  exact ⟨⟨cs, rfl⟩, .inr ⟨ha, cs, rfl, by rw [← h3]; exact beq_ok h2, fun j y hy => by rw [Nat.zero_add]; exact h4 j y hy⟩⟩
theorem eqAgg_ok {t ty : TypeId} {x y : Operand} {neg : Bool} (ha : isAggT P t = true) : PureOk P N ρ (.binOp (eqOp neg) t x y ty) (eqAgg P N t neg x y) := by
  unfold eqAgg
  split
  · rename_i l hl
    split
    · rename_i hc
      obtain ⟨hgt, hlen⟩ := hc
      intro call A S v S' h
      simp only at h ⊢
      obtain ⟨h1, h2⟩ := chk_ok h
      obtain ⟨h3, h4⟩ := and_ok h1
      obtain ⟨h5, h6⟩ := eqCs_ok l 0 true h2
      obtain ⟨rfl, h7⟩ := okB1 h6
      refine ⟨rfl, fun _ S2 => ?_, fun η a w ob _ ho hop => ?_⟩
      · rw [h1]
        exact eqCs_indep (fun r hr => (okB1 hr).2 S2) l 0 true h2
      · obtain ⟨⟨cs, ex⟩, w1⟩ := win_of (hop x (by simp [Op.operands])) h3 ha
        obtain ⟨⟨cs', ey⟩, w2⟩ := win_of (hop y (by simp [Op.operands])) h4 ha
        have hq := flat_eq 10 t l hl (fun _ => hlen) 0 _ _ 9990 w h5 w1 w2
        rw [ex, ey] at hq
        refine ⟨.bool (neg ^^ same (fun i => (accC i).f ((opd N x).f A).cs) (fun i => (accC i).f ((opd N y).f A).cs) l 0), ?_, okB2 η h6 (by cases neg <;> simp)⟩
        simp only [execOp, ho, ex, ey]
        have hq' : (Op.equalIn 10000 t (.agg cs) (.agg cs')).run P w = .ok (same (fun i => (accC i).f ((opd N x).f A).cs) (fun i => (accC i).f ((opd N y).f A).cs) l 0) w := hq
        cases neg
        · simp [eqOp, run_eqGuard_agg w _ t x y cs cs' hgt, run_eql_struct, hq']
        · simp [eqOp, run_eqGuard_agg w _ t x y cs cs' hgt, run_neq_struct, hq']
    · exact pure_bad
  · exact pure_bad
theorem eqC_ok {t ty : TypeId} {x y : Operand} {neg : Bool} : PureOk P N ρ (.binOp (eqOp neg) t x y ty) (eqC P N t neg x y) := by
  unfold eqC
  split
  · rename_i hd
    have hu := desc_ok hd (by simp)
    intro call A S v S' h
    simp only at h ⊢
    obtain ⟨h1, h2⟩ := chk_ok h
    obtain ⟨h3, h4⟩ := and_ok h1
    obtain ⟨rfl, h5⟩ := okB1 h2
    refine ⟨rfl, fun _ S2 => by rw [h1]; exact h5 S2, fun η a w ob _ ho hop => ?_⟩
    obtain ⟨b, ex, ha⟩ := ((hop x (by simp [Op.operands])).asSc (by rw [beq_ok h3]; omega)).asBool (beq_ok h3)
    obtain ⟨c, ey, hb⟩ := ((hop y (by simp [Op.operands])).asSc (by rw [beq_ok h4]; omega)).asBool (beq_ok h4)
    refine ⟨.bool (neg ^^ (b == c)), ?_, okB2 η h2 (by rw [ha, hb]; cases neg <;> cases b <;> cases c <;> rfl)⟩
    have hq : (Op.equal t (.bool b) (.bool c)).run P w = .ok (b == c) w := by
      refine eq_at fun D => ?_
      simp [Op.equalIn, run_underlying hu]
    simp only [execOp, ho, ex, ey, eqGuard_at_bool]
    cases neg
    · simp [eqOp, binOp, hq]
    · simp [eqOp, binOp, hq]
  · rename_i e hd
    have hu := desc_ok hd (by simp)
    refine nilC_ok (nilV := .pointer none) (fun v => ∃ a, v = .pointer (some a)) (fun η s v h ht => h.asNilp ht) (fun η s v h ht => by obtain ⟨b, -, e⟩ := h.asPtr (beq_ok ht).symm; exact ⟨_, e⟩) (by omega) (fun n h => by have := beq_ok h; omega)
      (fun w => ⟨by rw [eqGuard_at_pointer]; rfl, ?_⟩) (fun v w ⟨a, h⟩ => ?_) (fun v w ⟨a, h⟩ => ?_)
    · have hq : (Op.equal t (.pointer none) (.pointer none)).run P w = .ok true w := by
        refine eq_at fun D => ?_
        simp [Op.equalIn, run_underlying hu]
      cases neg <;> simp [eqOp, binOp, hq]
    · subst h
      have hq : (Op.equal t (.pointer none) (.pointer (some a))).run P w = .ok false w := by
        refine eq_at fun D => ?_
        simp [Op.equalIn, run_underlying hu]
      exact ⟨by rw [eqGuard_at_pointer]; rfl, by cases neg <;> simp [eqOp, binOp, hq]⟩
    · subst h
      have hq : (Op.equal t (.pointer (some a)) (.pointer none)).run P w = .ok false w := by
        refine eq_at fun D => ?_
        simp [Op.equalIn, run_underlying hu]
      exact ⟨by rw [eqGuard_at_pointer]; rfl, by cases neg <;> simp [eqOp, binOp, hq]⟩
  · rename_i e hd
    have hu := desc_ok hd (by simp)
    refine nilC_ok (nilV := .slice none 0 0) (fun v => ∃ a n c, v = .slice (some a) n c) (fun η s v h ht => h.asNils ht) (fun η s v h ht => ?_) (by omega) (fun n h => by rcases or_ok h with h | h <;> have := beq_ok h <;> omega)
      (fun w => ⟨by rw [eqGuard_at_slice]; rfl, ?_⟩) (fun v w ⟨a, n, c, h⟩ => ?_) (fun v w ⟨a, n, c, h⟩ => ?_)
    · rcases or_ok ht with h1 | h1
      · obtain ⟨b, -, e, -⟩ := h.asSl (beq_ok h1); exact ⟨_, _, _, e⟩
      · obtain ⟨b, -, e, -⟩ := h.asSu (beq_ok h1); exact ⟨_, _, _, e⟩
    · have hq : (Op.equal t (.slice none 0 0) (.slice none 0 0)).run P w = .ok true w := by
        refine eq_at fun D => ?_
        simp [Op.equalIn, run_underlying hu]
      cases neg <;> simp [eqOp, binOp, hq]
    · subst h
      have hq : (Op.equal t (.slice none 0 0) (.slice (some a) n c)).run P w = .ok false w := by
        refine eq_at fun D => ?_
        simp [Op.equalIn, run_underlying hu]
      exact ⟨by rw [eqGuard_at_slice]; rfl, by cases neg <;> simp [eqOp, binOp, hq]⟩
    · subst h
      have hq : (Op.equal t (.slice (some a) n c) (.slice none 0 0)).run P w = .ok false w := by
        refine eq_at fun D => ?_
        simp [Op.equalIn, run_underlying hu]
      exact ⟨by rw [eqGuard_at_slice]; rfl, by cases neg <;> simp [eqOp, binOp, hq]⟩
  · rename_i hd
    have hu := desc_ok hd (by simp)
    refine nilC_ok (nilV := .nilFunc) (fun v => ∃ f a c, v = .func f a c) (fun η s v h ht => h.asNilf ht) (fun η s v h ht => by obtain ⟨b, c, e, -⟩ := h.asFn (beq_ok ht).symm; exact ⟨_, _, _, e⟩) (by omega) (fun n h => by have := beq_ok h; omega)
      (fun w => ⟨by rw [eqGuard_at_nilFunc]; rfl, ?_⟩) (fun v w ⟨f, a, c, h⟩ => ?_) (fun v w ⟨f, a, c, h⟩ => ?_)
    · have hq : (Op.equal t .nilFunc .nilFunc).run P w = .ok true w := by
        refine eq_at fun D => ?_
        simp [Op.equalIn, run_underlying hu]
      cases neg <;> simp [eqOp, binOp, hq]
    · subst h
      have hq : (Op.equal t .nilFunc (.func f a c)).run P w = .ok false w := by
        refine eq_at fun D => ?_
        simp [Op.equalIn, run_underlying hu]
      exact ⟨by rw [eqGuard_at_nilFunc]; rfl, by cases neg <;> simp [eqOp, binOp, hq]⟩
    · subst h
      have hq : (Op.equal t (.func f a c) .nilFunc).run P w = .ok false w := by
        refine eq_at fun D => ?_
        simp [Op.equalIn, run_underlying hu]
      exact ⟨by rw [eqGuard_at_func]; rfl, by cases neg <;> simp [eqOp, binOp, hq]⟩
  · rename_i hd
    have hu := desc_ok hd (by simp)
    cases hc : Bool.or (isNilK x) (isNilK y) with
    | false => exact pure_bad
    | true =>
      refine nilC_ok (nilV := .nilIface) (fun v => ∃ d u, v = .iface d u) (fun η s v h ht => h.asNili ht) (fun η s v h ht => by obtain ⟨u, e, -⟩ := h.asIfc (beq_ok ht).symm; exact ⟨_, _, e⟩) (by omega) (fun n h => by have := beq_ok h; omega)
        (fun w => ⟨?_, ?_⟩) (fun v w ⟨d, u, h⟩ => ?_) (fun v w ⟨d, u, h⟩ => ?_)
      · rcases or_ok hc with h1 | h1
        · unfold isNilK at h1
          split at h1
          · rw [eqGuard_nil_constL]; rfl
          · cases h1
        · unfold isNilK at h1
          split at h1
          · rw [eqGuard_nil_constR]; rfl
          · cases h1
      · have hq : (Op.equal t .nilIface .nilIface).run P w = .ok true w := by
          refine eq_at fun D => ?_
          simp [Op.equalIn, run_underlying hu]
        cases neg <;> simp [eqOp, binOp, hq]
      · subst h
        have hq : (Op.equal t .nilIface (.iface d u)).run P w = .ok false w := by
          refine eq_at fun D => ?_
          simp [Op.equalIn, run_underlying hu]
        exact ⟨by rw [eqGuard_nil_iface]; rfl, by cases neg <;> simp [eqOp, binOp, hq]⟩
      · subst h
        have hq : (Op.equal t (.iface d u) .nilIface).run P w = .ok false w := by
          refine eq_at fun D => ?_
          simp [Op.equalIn, run_underlying hu]
        exact ⟨by rw [eqGuard_at_iface]; rfl, by cases neg <;> simp [eqOp, binOp, hq]⟩
  · rename_i hd; exact eqAgg_ok (by unfold isAggT; rw [hd])
  · rename_i hd; exact eqAgg_ok (by unfold isAggT; rw [hd])
  · exact pure_bad
theorem convSS_ok {src dst : TypeId} {x : Operand} (hs : desc P src = .string) (hd : desc P dst = .string) : PureOk P N ρ (.convert src dst x) ⟨fun _ A S => chk (Nat.beq ((opd N x).f A).s.tag 2) (.ok ((opd N x).f A) S)⟩ := by
  intro call A S v S' h
  simp only at h ⊢
  obtain ⟨h1, h2⟩ := chk_ok h
  cases h2
  refine ⟨rfl, fun _ _ => by rw [h1]; rfl, fun η a w ob _ ho hop => ?_⟩
  have hx := hop x (by simp [Op.operands])
  obtain ⟨s, ex, -, -⟩ := (hx.asSc (by rw [beq_ok h1]; omega)).asStr (beq_ok h1)
  refine ⟨.string s, ?_, by have := hx; unfold OR at this; rw [ex] at this; exact this⟩
  simp only [execOp, ho, ex]
  simp [convert, run_underlying (desc_ok hs (by simp)), run_underlying (desc_ok hd (by simp))]
theorem mins_ok {isMax : Bool} {t : TypeId} {ts : List TypeId} {c : Call} (hc : c.callee = .builtin (if isMax then .max else .min)) (_ht : c.argTypes.toList = t :: ts) : PureOk P N ρ (.call c) (minsC P N isMax t c.args.toList) := by
  obtain ⟨cal, args, tys⟩ := c
  simp only at hc
  generalize hb : (if isMax then Builtin.max else Builtin.min) = bb at hc
  subst hc
  unfold minsC
  split
  · rename_i k x r hd hxs
    intro call A S v S' h
    simp only at h ⊢
    obtain ⟨h1, h2⟩ := chk_ok h
    obtain ⟨q, h3, h4, h5⟩ := minV_ok (P := P) h2
    cases h3
    refine ⟨rfl, fun _ _ => by rw [h1]; exact h4 _, fun η a w ob _ ho hop => ?_⟩
    have hx := hop x (by simp [Op.operands, Call.operands]; rw [← Array.mem_toList_iff, hxs]; simp)
    have hr : ∀ z ∈ r, OR η N A a z := fun z hz => hop z (by simp [Op.operands, Call.operands]; rw [← Array.mem_toList_iff, hxs]; simp [hz])
    obtain ⟨ex, lx⟩ := (hx.asSc (by rw [beq_ok h1]; have := kcode_ge k; omega)).asInt (beq_ok h1)
    obtain ⟨g1, g2, g3⟩ := h5 η (r.map a.eval) (VRL.opds r hr) (beq_ok h1) lx
    have e : args.toList.map a.eval = .int k (k.wrap (((opd N x).f A).s.a : Int)) :: r.map a.eval := by rw [hxs, List.map_cons, ex]
    refine ⟨.int k (k.wrap (v.s.a : Int)), ?_, ?_⟩
    · rw [exec_builtin a ob ho w]
      subst hb
      cases isMax
      · simp [builtin, Builtin.min_, e]
        have := g3 w
        simp at this
        rw [this]; rfl
      · simp [builtin, Builtin.max_, e]
        have := g3 w
        simp at this
        rw [this]; rfl
    · have hs : SR η v.s (.int k (k.wrap (v.s.a : Int))) := .int k g1 g2
      exact .sc hs
  · exact pure_bad
theorem builtin_ok {c : Call} {b : Builtin} (hc : c.callee = .builtin b) : ChainOk P N ρ (.call c) (builtinC P N b c.argTypes.toList c.args.toList) := by
  unfold builtinC
  split
  · rename_i t t2 s x h1 h2; exact append_ok hc h2 h1
  · rename_i t ts d x h1 h2; exact copy_ok hc h2 h1
  · rename_i t ts x h1 h2; exact (lenC_ok hc h2 h1).chain
  · rename_i t ts xs h1; exact (mins_ok (isMax := false) hc h1).chain
  · rename_i t ts xs h1; exact (mins_ok (isMax := true) hc h1).chain
  · exact chain_bad
theorem opC_ok {mth : Nat → String → Option Nat} (hH : HyAt P ρ H) (hm : MthOk P mth) (o : Op) : ChainOk P N ρ o (opC H P mth N o) := by
  unfold opC
  split
  · exact move_ok.chain
  · exact assign_ok.chain
  · exact pick_ok.chain
  · exact alloc_ok.chain
  · exact box_ok.chain
  · exact build_ok.chain
  · exact buildSlice_ok.chain
  · exact load_ok.chain
  · exact store_ok
  · exact nilCheck_ok.chain
  · rename_i op t x y ty
    unfold binC
    split
    · rename_i k hd
      by_cases hsl : op = .shl
      · subst hsl; exact (shl_ok hH).chain
      · by_cases hsr : op = .shr
        · subst hsr; exact (shr_ok hH).chain
        · exact (intC_ok hH hsl hsr).chain
    · split
      · exact cat_ok.chain
      · exact strEql_ok.chain
      · exact strNeq_ok.chain
      · exact chain_bad
    · split
      · exact (eqC_ok (neg := false)).chain
      · exact (eqC_ok (neg := true)).chain
      · exact chain_bad
  · rename_i op t x
    unfold unC
    split
    · exact (neg_ok hH).chain
    · exact unXor_ok.chain
    · exact not_ok'.chain
    · exact chain_bad
  · rename_i s d x
    unfold convC
    split
    · rename_i k k' hs hd
      have := convI_ok (x := x) (N := N) hH hs hd
      unfold convC at this
      rw [hs, hd] at this
      exact this.chain
    · rename_i hs hd; exact (convSS_ok hs hd).chain
    · rename_i e hs hd
      split
      · rename_i he
        split
        · rename_i h1; exact convSB_ok hs hd he h1
        · exact chain_bad
      · exact chain_bad
    · rename_i e hs hd
      split
      · rename_i he
        split
        · exact (convBS_ok hs hd he).chain
        · exact chain_bad
      · exact chain_bad
    · exact chain_bad
  · rename_i t x
    split
    · exact chain_bad
    · split
      · rename_i hi hd; exact (makeInterface_ok hd (fun ms e => hi ms e)).chain
      · exact chain_bad
  · exact makeFunc_ok.chain
  · exact make_ok.chain
  · rename_i t x l h m
    split
    · rename_i hn; exact (slice_ok hn).chain
    · exact chain_bad
  · exact fieldAddr_ok.chain
  · exact field_ok.chain
  · exact indexAddr_ok.chain
  · exact index_ok.chain
  · split
    · rename_i hd; exact (s2a_ok hd).chain
    · exact chain_bad
  · exact extract_ok.chain
  · rename_i c
    split
    · rename_i hc; exact builtin_ok hc
    · rename_i hc; exact callC_ok hc
    · rename_i hc; exact invokeC_ok hm hc
  · rename_i c
    split
    · rename_i hc; exact deferC_ok hc
    · exact chain_bad
  · exact chain_bad
end Go.Exec

namespace Go.Exec
open Go
variable {P : Program} {N : Nat} {ρ : Nat → Int} {H : Hy}
/-- The executor's state and the model's. -/
structure RS (P : Program) (ρ : Nat → Int) (η : Nv) (N : Nat) (A : Env) (S : St) (a : Act) (w : World) : Prop where
  ar : AR η N A a
  rep : Rep P η S w
  dr : DRL η S.ds a.defers
  rho : η.ρ = ρ
theorem bnd_ok {r : Ans} {K : V → St → Ans} {v : V} {S : St} (h : bnd r K = .ok v S) : ∃ u T, r = .ok u T ∧ K u T = .ok v S := by
  cases r with
  | no => cases h
  | ok u T => exact ⟨u, T, rfl, h⟩
theorem AR.put {η : Nv} {A : Env} {a : Act} (h : AR η N A a) {v : V} {y : Value} (hv : VR η v y) (d : Option Tmp) (ds : List Deferred) : AR η N ((Exec.put N d).f v A) ({ a with defers := ds }.put d y) := by
  cases d with
  | none => exact ⟨h.size, h.le, h.tmp⟩
  | some dd =>
    obtain ⟨d, hdd⟩ : ∃ d : Nat, d = dd := ⟨dd, rfl⟩
    subst hdd
    have hN := h.le
    unfold Exec.put Act.put
    simp only
    by_cases hd : d < N
    · have hb : Nat.blt d N = true := Nat.ble_eq_true_of_le hd
      rw [hb]
      refine ⟨by simpa using h.size, h.le, fun t ht => ?_⟩
      by_cases e : d = t
      · subst e
        have e1 : (acc (α := V) 3 d).f ((upd (α := V) 3 d).f v A) = v := acc_upd_same v 3 d A
        have e2 : (a.tmps.setIfInBounds d y).getD d undef = y := by
          rw [Array.getD_eq_getD_getElem?]; simp [h.size, hd]
        show VR η ((acc (α := V) 3 d).f ((upd (α := V) 3 d).f v A)) ((a.tmps.setIfInBounds d y).getD d undef)
        rw [e1, e2]; exact hv
      · have e1 : (acc (α := V) 3 t).f ((upd (α := V) 3 d).f v A) = (acc (α := V) 3 t).f A := acc_upd_ne v 3 d t A (by omega) (by omega) e
        have e2 : (a.tmps.setIfInBounds d y).getD t undef = a.tmps.getD t undef := by
          rw [Array.getD_eq_getD_getElem?, Array.getElem?_setIfInBounds_ne e, ← Array.getD_eq_getD_getElem?]
        show VR η ((acc (α := V) 3 t).f ((upd (α := V) 3 d).f v A)) ((a.tmps.setIfInBounds d y).getD t undef)
        rw [e1, e2]; exact h.tmp t ht
    · have hb : Nat.blt d N = false := by rw [Bool.eq_false_iff]; intro hh; exact hd (blt_ok hh)
      rw [hb]
      refine ⟨by simpa using h.size, h.le, fun t ht => ?_⟩
      have e2 : (a.tmps.setIfInBounds d y).getD t undef = a.tmps.getD t undef := by
        rw [Array.getD_eq_getD_getElem?, Array.getElem?_setIfInBounds_ne (show d ≠ t by omega), ← Array.getD_eq_getD_getElem?]
      show VR η ((acc (α := V) 3 t).f A) ((a.tmps.setIfInBounds d y).getD t undef)
      rw [e2]; exact h.tmp t ht
theorem RS.put {η ζ : Nv} {A : Env} {S S' : St} {a : Act} {w w' : World} (h : RS P ρ η N A S a w) (hm : Move P η S w ζ S' w') {v : V} {y : Value} (hv : VR ζ v y) (d : Option Tmp) {ds : List Deferred} (hd : DRL ζ S'.ds ds) : RS P ρ ζ N ((Exec.put N d).f v A) S' ({ a with defers := ds }.put d y) w' := by
  refine ⟨(h.ar.up hm.ext.le).put hv d ds, hm.rep, ?_, hm.ext.le.ρ.trans h.rho⟩
  cases d <;> exact hd
theorem Act.same (a : Act) : ({ a with defers := a.defers } : Act) = a := rfl
/-- The guard of an operation. -/
theorem guard_ok {η : Nv} {A : Env} {a : Act} (h : AR η N A a) {ops : Array Oper} {j d : Nat} (hd : dstOf ops.toList j = some d) (hN : d < N) (want : Bool) (o : Oper) (ho : o.guard = some (j, want)) :
    (((acc (α := V) 3 d).f A).s.tag = 1 → Region.wanted o (yielded ops a.tmps) = Nat.beq ((acc (α := V) 3 d).f A).s.a (cond want 1 0)) ∧ (((acc (α := V) 3 d).f A).s.tag = 99 → Region.wanted o (yielded ops a.tmps) = false) := by
  have hv := h.tmp d hN
  have hds : (ops[j]?).bind (·.dst) = some d := by
    unfold dstOf at hd
    rw [← Array.getElem?_toList]
    split at hd
    · rename_i o' ho'; rw [ho']; exact hd
    · cases hd
  have hget : a.tmps[d]? = some (a.tmps.getD d undef) := by
    have : d < a.tmps.size := by rw [h.size]; exact hN
    rw [Array.getD_eq_getD_getElem?, Array.getElem?_eq_getElem this]; rfl
  refine ⟨fun ht => ?_, fun ht => ?_⟩
  · obtain ⟨b, e1, e2⟩ := (hv.asSc (by omega)).asBool ht
    have : yielded ops a.tmps j = some b := by
      unfold yielded
      rw [hds, Option.bind_some, hget, e1]
    unfold Region.wanted
    rw [ho]
    simp only [this, e2]
    cases b <;> cases want <;> rfl
  · obtain ⟨xs, e1, _⟩ := hv.asTup ht
    have : yielded ops a.tmps j = none := by
      unfold yielded
      rw [hds, Option.bind_some, hget, e1]
    unfold Region.wanted
    rw [ho]
    simp only [this]
    rfl
theorem regC_ok {mth : Nat → String → Option Nat} (hH : HyAt P ρ H) (hmth : MthOk P mth) {call : Caller} (hcal : Cal P ρ call) {ops : Array Oper} {Q : Exit → Act → World → Prop} {v : V} {T : St} : ∀ (suf pre : List Oper) (A : Env) (S : St) (a : Act) (w : World) (η : Nv) (K : Env → St → Ans),
    ops.toList = pre ++ suf → RS P ρ η N A S a w → (regC H P mth N ops.toList suf).f call A S K = .ok v T →
    (∀ A' S' a' w' ζ, Move P η S w ζ S' w' → RS P ρ ζ N A' S' a' w' → K A' S' = .ok v T → Q .normal a' w') → wpOps P ops Q (List.range' pre.length suf.length) a w := by
  intro suf
  induction suf with
  | nil => intro pre A S a w η K _ hr h hK; exact hK A S a w η (Move.refl hr.rep) hr h
  | cons o r ih =>
    intro pre A S a w η K hops hr h hK
    have ho : ops[pre.length]? = some o := by
      rw [← Array.getElem?_toList, hops, List.getElem?_append_right (Nat.le_refl _)]; simp
    have hnext : ∀ {A' : Env} {S' : St} {a' : Act} {w' : World} {ζ : Nv}, Move P η S w ζ S' w' → RS P ρ ζ N A' S' a' w' → (regC H P mth N ops.toList r).f call A' S' K = .ok v T → wpOps P ops Q (List.range' (pre.length + 1) r.length) a' w' := by
      intro A' S' a' w' ζ hm hr' h'
      have := ih (pre ++ [o]) A' S' a' w' ζ K (by rw [hops]; simp) hr' h' (fun A2 S2 a2 w2 ζ2 hm2 hr2 hk => hK A2 S2 a2 w2 ζ2 (hm.trans hm2) hr2 hk)
      simpa using this
    have hrun : ∀ {K' : V → St → Ans}, (∀ u S1, K' u S1 = (regC H P mth N ops.toList r).f call ((Exec.put N o.dst).f u A) S1 K) → bnd ((opC H P mth N o.op).f call A S) K' = .ok v T → o.wp P a w (wpOps P ops Q (List.range' (pre.length + 1) r.length)) Q := by
      intro K' hK' hb
      obtain ⟨u, S1, h1, h2⟩ := bnd_ok hb
      rw [hK'] at h2
      exact opC_ok hH hmth o.op call A S u S1 η a w o hcal hr.rho rfl (fun x _ => hr.ar.opd x) hr.rep hr.dr h1 _ _ (fun y ζ w' d' hm hv hd => hnext hm (hr.put hm hv o.dst hd) h2)
    have hskip : (regC H P mth N ops.toList r).f call ((Exec.put N o.dst).f undefV A) S K = .ok v T → wpOps P ops Q (List.range' (pre.length + 1) r.length) (a.put o.dst undef) w := fun h' =>
      hnext (Move.refl hr.rep) (hr.put (Move.refl hr.rep) (VR.undef η) o.dst hr.dr) h'
    rw [List.length_cons, List.range'_succ]
    unfold wpOps
    simp only [ho]
    unfold regC at h
    cases hg : o.guard with
    | none =>
      rw [hg] at h
      simp only at h
      have hw : Region.wanted o (yielded ops a.tmps) = true := by unfold Region.wanted; rw [hg]
      rw [if_pos hw]
      exact .inl (hrun (fun _ _ => rfl) h)
    | some g =>
      obtain ⟨j, want⟩ := g
      rw [hg] at h
      simp only at h
      cases hd : dstOf ops.toList j with
      | none => rw [hd] at h; cases h
      | some d =>
        rw [hd] at h
        simp only at h
        cases hdN : Nat.blt d N with
        | false => rw [hdN] at h; cases h
        | true =>
          rw [hdN] at h
          simp only at h
          obtain ⟨g1, g2⟩ := guard_ok hr.ar hd (blt_ok hdN) want o hg
          rcases iff_ok h with ⟨h1, h2⟩ | ⟨h1, h2⟩
          · have hw := g1 (beq_ok h1)
            rcases iff_ok h2 with ⟨h3, h4⟩ | ⟨h3, h4⟩
            · rw [if_pos (by rw [hw]; exact h3)]
              exact .inl (hrun (fun _ _ => rfl) h4)
            · rw [if_neg (by rw [hw]; exact Bool.eq_false_iff.1 h3)]
              exact hskip h4
          · obtain ⟨h3, h4⟩ := chk_ok h2
            rw [if_neg (by rw [g2 (beq_ok h3)]; simp)]
            exact hskip h4
/-- The regions of a text that draw their order. -/
def Code.Draws (id : Nat) (ops : Array Oper) : Code → Prop
  | .region i o true => i = id ∧ o = ops
  | .seq a b => Code.Draws id ops a ∨ Code.Draws id ops b
  | .cond _ a b => Code.Draws id ops a ∨ Code.Draws id ops b
  | .block _ a => Code.Draws id ops a
  | .loop a => Code.Draws id ops a
  | .scope a => Code.Draws id ops a
  | _ => False
/-- A function's region that draws its order. -/
def Drawn (P : Program) (g N id : Nat) (ops : Array Oper) : Prop := ∃ fn c, P.funcs[g]? = some fn ∧ fn.body = some c ∧ fn.ntmps = N ∧ Code.Draws id ops c
/-- What a region that draws its order must keep. -/
def DrawOk (P : Program) (ρ : Nat → Int) (H : Hy) (mth : Nat → String → Option Nat) (D : Nat → Draw) : Prop :=
  ∀ (call : Caller), Cal P ρ call → ∀ (g N : Nat) (id : Nat) (ops : Array Oper), Drawn P g N id ops → ∀ (Q : Exit → Act → World → Prop) (v : V) (T : St) (A : Env) (S : St) (a : Act) (w : World) (η : Nv) (K : Env → St → Ans),
    RS P ρ η N A S a w → (D g id H P mth N ops.toList).f call A S K = .ok v T → (∀ A' S' a' w' ζ, Move P η S w ζ S' w' → RS P ρ ζ N A' S' a' w' → K A' S' = .ok v T → Q .normal a' w') → (Code.region id ops true).wp P Q a w
theorem wp_loop_fuel {Q : Exit → Act → World → Prop} {c : Code} (F : Nat → Act → World → Prop) (h0 : ∀ a w, ¬ F 0 a w) (hs : ∀ n a w, F (n + 1) a w → c.wp P (Exit.then (F n) Q) a w) (n : Nat) (a : Act) (w : World) (h : F n a w) : (Code.loop c).wp P Q a w := by
  intro b k cs
  have key : ∀ n a w, F n a w → ∃ e a' w', Q e a' w' ∧ Arrives P (lone (b.at a (.code c :: .inLoop c :: k)) cs w) b k cs e a' w' := by
    intro n
    induction n with
    | zero => intro a w h; exact absurd h (h0 a w)
    | succ n ih =>
      intro a w h
      obtain ⟨e, a₁, w₁, hq, harr⟩ := hs n a w h b (.inLoop c :: k) cs
      cases e with
      | normal =>
        obtain ⟨e₂, a₂, w₂, hq₂, harr₂⟩ := ih a₁ w₁ hq
        exact ⟨e₂, a₂, w₂, hq₂, .of_steps (Steps.trans harr (.one step_inLoop)) harr₂⟩
      | exit id => exact ⟨_, a₁, w₁, hq, .pass (x := .inLoop c) rfl (fun _ _ => .inl (by simp)) harr⟩
      | goto l => exact ⟨_, a₁, w₁, hq, .pass (x := .inLoop c) rfl (fun _ _ => .inl (by simp)) harr⟩
      | ret => exact ⟨_, a₁, w₁, hq, .pass (x := .inLoop c) rfl (fun _ _ => .inl (by simp)) harr⟩
      | panic ch => exact ⟨_, a₁, w₁, hq, .pass (x := .inLoop c) rfl (fun _ _ => .inl (by simp)) harr⟩
      | outgrown => exact ⟨_, a₁, w₁, hq, .pass (x := .inLoop c) rfl (fun _ _ => .inl (by simp)) harr⟩
  obtain ⟨e, a', w', hq, harr⟩ := key n a w h
  exact ⟨e, a', w', hq, .of_steps (.one step_loop) harr⟩
theorem codC_ok {D : Nat → Draw} {g : Nat} {mth : Nat → String → Option Nat} (hH : HyAt P ρ H) (hmth : MthOk P mth) (hD : DrawOk P ρ H mth D) {call : Caller} (hcal : Cal P ρ call) {v : V} {T : St} : ∀ (c : Code), (∀ id ops, Code.Draws id ops c → Drawn P g N id ops) → ∀ (Q : Exit → Act → World → Prop) (A : Env) (S : St) (a : Act) (w : World) (η : Nv) (Kn : Env → St → Ans) (Kx : Nat → Env → St → Ans) (Kr : Env → St → Ans),
    RS P ρ η N A S a w → (codC (D g) H P mth N c).f call A S Kn Kx Kr = .ok v T →
    (∀ A' S' a' w' ζ, Move P η S w ζ S' w' → RS P ρ ζ N A' S' a' w' → Kn A' S' = .ok v T → Q .normal a' w') →
    (∀ i A' S' a' w' ζ, Move P η S w ζ S' w' → RS P ρ ζ N A' S' a' w' → Kx i A' S' = .ok v T → Q (.exit i) a' w') →
    (∀ A' S' a' w' ζ, Move P η S w ζ S' w' → RS P ρ ζ N A' S' a' w' → Kr A' S' = .ok v T → Q .ret a' w') → c.wp P Q a w := by
  intro c
  induction c with
  | skip => intro hg Q A S a w η Kn Kx Kr hr h hn hx hrt; exact wp_skip (hn A S a w η (Move.refl hr.rep) hr h)
  | label l => intro hg Q A S a w η Kn Kx Kr hr h hn hx hrt; exact wp_label (hn A S a w η (Move.refl hr.rep) hr h)
  | region id ops draw =>
    intro hg Q A S a w η Kn Kx Kr hr h hn hx hrt
    cases draw with
    | false =>
      have := regC_ok (Q := Q) hH hmth hcal ops.toList [] A S a w η Kn (by simp) hr h hn
      exact wp_region (by rw [List.range_eq_range']; simpa using this)
    | true => exact hD call hcal g N id ops (hg id ops ⟨rfl, rfl⟩) Q v T A S a w η Kn hr h hn
  | seq x y ihx ihy =>
    intro hg Q A S a w η Kn Kx Kr hr h hn hx hrt
    refine wp_seq (ihx (fun id ops h => hg id ops (.inl h)) _ A S a w η _ Kx Kr hr h (fun A1 S1 a1 w1 ζ hm hr1 h1 => ?_) (fun i A1 S1 a1 w1 ζ hm hr1 h1 => hx i A1 S1 a1 w1 ζ hm hr1 h1) (fun A1 S1 a1 w1 ζ hm hr1 h1 => hrt A1 S1 a1 w1 ζ hm hr1 h1))
    exact ihy (fun id ops h => hg id ops (.inr h)) Q A1 S1 a1 w1 ζ Kn Kx Kr hr1 h1 (fun A2 S2 a2 w2 θ hm2 hr2 h2 => hn A2 S2 a2 w2 θ (hm.trans hm2) hr2 h2) (fun i A2 S2 a2 w2 θ hm2 hr2 h2 => hx i A2 S2 a2 w2 θ (hm.trans hm2) hr2 h2) (fun A2 S2 a2 w2 θ hm2 hr2 h2 => hrt A2 S2 a2 w2 θ (hm.trans hm2) hr2 h2)
  | cond x p q ihp ihq =>
    intro hg Q A S a w η Kn Kx Kr hr h hn hx hrt
    obtain ⟨h1, h2⟩ := chk_ok h
    obtain ⟨b, e1, e2⟩ := ((hr.ar.opd x).asSc (by rw [beq_ok h1]; omega)).asBool (beq_ok h1)
    rcases iff_ok h2 with ⟨h3, h4⟩ | ⟨h3, h4⟩
    · have hb : b = true := by
        cases b
        · rw [e2] at h3; cases h3
        · rfl
      subst hb
      exact wp_cond_true e1 (ihp (fun id ops h => hg id ops (.inl h)) Q A S a w η Kn Kx Kr hr h4 hn hx hrt)
    · have hb : b = false := by
        cases b
        · rfl
        · rw [e2] at h3; cases h3
      subst hb
      exact wp_cond_false e1 (ihq (fun id ops h => hg id ops (.inr h)) Q A S a w η Kn Kx Kr hr h4 hn hx hrt)
  | block id c ih =>
    intro hg Q A S a w η Kn Kx Kr hr h hn hx hrt
    refine wp_block (ih hg _ A S a w η Kn _ Kr hr h hn (fun i A1 S1 a1 w1 ζ hm hr1 h1 => ?_) hrt)
    rcases iff_ok h1 with ⟨h2, h3⟩ | ⟨h2, h3⟩
    · have := beq_ok h2
      subst this
      simp only [Exit.inBlock, if_true]
      exact hn A1 S1 a1 w1 ζ hm hr1 h3
    · have := beq_no h2
      simp only [Exit.inBlock, if_neg this]
      exact hx i A1 S1 a1 w1 ζ hm hr1 h3
  | loop c ih =>
    intro hg Q A S a w η Kn Kx Kr hr h hn hx hrt
    have h' : loopN (fun ih A S => (codC (D g) H P mth N c).f call A S ih Kx Kr) loopFuel A S = .ok v T := h
    clear h
    generalize loopFuel = n at h'
    refine wp_loop_fuel (fun n a1 w1 => ∃ A1 S1 ζ, Move P η S w ζ S1 w1 ∧ RS P ρ ζ N A1 S1 a1 w1 ∧ loopN (fun ih A S => (codC (D g) H P mth N c).f call A S ih Kx Kr) n A1 S1 = .ok v T) (fun a1 w1 ⟨A1, S1, ζ, _, _, h0⟩ => by cases h0) (fun n a1 w1 ⟨A1, S1, ζ, hm, hr1, h1⟩ => ?_) n a w ⟨A, S, η, Move.refl hr.rep, hr, h'⟩
    exact ih hg _ A1 S1 a1 w1 ζ _ Kx Kr hr1 h1 (fun A2 S2 a2 w2 θ hm2 hr2 h2 => ⟨A2, S2, θ, hm.trans hm2, hr2, h2⟩) (fun i A2 S2 a2 w2 θ hm2 hr2 h2 => hx i A2 S2 a2 w2 θ (hm.trans hm2) hr2 h2) (fun A2 S2 a2 w2 θ hm2 hr2 h2 => hrt A2 S2 a2 w2 θ (hm.trans hm2) hr2 h2)
  | exit i => intro hg Q A S a w η Kn Kx Kr hr h hn hx hrt; exact wp_exit (hx i A S a w η (Move.refl hr.rep) hr h)
  | ret => intro hg Q A S a w η Kn Kx Kr hr h hn hx hrt; exact wp_ret (hrt A S a w η (Move.refl hr.rep) hr h)
  | rangeFunc f ps as b _ _ => intro hg Q A S a w η Kn Kx Kr hr h hn hx hrt; cases h
  | scope b ih =>
    intro hg Q A S a w η Kn Kx Kr hr h hn hx hrt
    exact wp_scope_straight (ih hg _ A S a w η Kn Kx Kr hr h hn hx hrt)
  | goto l => intro hg Q A S a w η Kn Kx Kr hr h hn hx hrt; cases h
  | refuse s => intro hg Q A S a w η Kn Kx Kr hr h hn hx hrt; cases h
end Go.Exec

namespace Go.Exec
open Go
variable {P : Program} {N : Nat} {ρ : Nat → Int} {H : Hy}
theorem setArgs_acc (hN : N ≤ 512) : ∀ (vs : List V) (i : Nat) (A : Env) (t : Nat), i + vs.length ≤ N → t < N → (acc (α := V) 3 t).f (setArgs N vs i A) = if h : i ≤ t ∧ t < i + vs.length then vs[t - i] else (acc (α := V) 3 t).f A := by
  intro vs
  induction vs with
  | nil => intro i A t _ ht; rw [dif_neg (by simp only [List.length_nil]; omega)]; rfl
  | cons v r ih =>
    intro i A t hl ht
    simp only [List.length_cons] at hl
    have hi : Nat.blt i N = true := Nat.ble_eq_true_of_le (by omega)
    have e : setArgs N (v :: r) i A = setArgs N r (i + 1) ((upd (α := V) 3 i).f v A) := by
      show setArgs N r (i + 1) ((put N (some i)).f v A) = _
      unfold put
      simp only [hi]
    rw [e, ih (i + 1) _ t (by omega) ht]
    by_cases h1 : i + 1 ≤ t ∧ t < i + 1 + r.length
    · rw [dif_pos h1, dif_pos (by simp only [List.length_cons]; omega)]
      have : t - i = (t - (i + 1)) + 1 := by omega
      simp only [this, List.getElem_cons_succ]
    · rw [dif_neg h1]
      by_cases h2 : t = i
      · subst h2
        rw [dif_pos (by simp only [List.length_cons]; omega), acc_upd_same]
        simp
      · rw [dif_neg (by simp only [List.length_cons]; omega), acc_upd_ne v 3 i t A (by omega) (by omega) (Ne.symm h2)]
theorem VRL.length {η : Nv} : ∀ {vs : List V} {xs : List Value}, VRL η vs xs → vs.length = xs.length
  | _, _, .nil => rfl
  | _, _, .cons _ hs => by simp [VRL.length hs]
theorem VRL.at {η : Nv} {vs : List V} {xs : List Value} (h : VRL η vs xs) (i : Nat) (hi : i < vs.length) (hj : i < xs.length) : VR η vs[i] xs[i] := by
  obtain ⟨x, h1, h2⟩ := h.get i vs[i] (List.getElem?_eq_getElem hi)
  rw [List.getElem?_eq_getElem hj] at h1
  injection h1 with h1
  rw [h1]; exact h2
theorem args_ok {η : Nv} {vs : List V} {xs : List Value} (h : VRL η vs xs) (hN : N ≤ 512) (hl : vs.length ≤ N) : AR η N (setArgs N vs 0 env0) ⟨xs.toArray ++ Array.replicate (N - xs.toArray.size) undef, []⟩ := by
  have hlen := h.length
  refine ⟨by simp; omega, hN, fun t ht => ?_⟩
  have e0 : (acc (α := V) 3 t).f env0 = undefV := acc_emp undefV 3 t
  rw [setArgs_acc hN vs 0 env0 t (by omega) ht]
  by_cases hc : 0 ≤ t ∧ t < 0 + vs.length
  · rw [dif_pos hc]
    have hx : t < xs.length := by omega
    have e1 : (xs.toArray ++ Array.replicate (N - xs.toArray.size) undef).getD t undef = xs[t] := by
      rw [Array.getD_eq_getD_getElem?, Array.getElem?_append_left (by simpa using hx)]
      simp [hx]
    show VR η vs[t] ((xs.toArray ++ Array.replicate (N - xs.toArray.size) undef).getD t undef)
    rw [e1]
    exact h.at t (by omega) hx
  · rw [dif_neg hc, e0]
    have e1 : (xs.toArray ++ Array.replicate (N - xs.toArray.size) undef).getD t undef = undef := by
      rw [Array.getD_eq_getD_getElem?, Array.getElem?_append_right (by simp; omega)]
      rw [Array.getElem?_replicate]
      split <;> rfl
    show VR η undefV ((xs.toArray ++ Array.replicate (N - xs.toArray.size) undef).getD t undef)
    rw [e1]
    exact VR.undef η
def resM (tmps : Array Value) : ResultVar → Sem Value
  | .tmp t => pure (tmps.getD t undef)
  | .cell a t => do loadVar t (← asAddr (tmps.getD a undef))
theorem resC_ok : ∀ {rs : List ResultVar} {A : Env} {S : St} {k : List V → Ans} {v : V} {T : St}, (resC P N rs).f A S k = .ok v T → ∃ vs, k vs = .ok v T ∧ ∀ η a w, AR η N A a → Rep P η S w → ∃ xs, (rs.mapM (resM a.tmps)).run P w = .ok xs w ∧ VRL η vs xs
  | [], A, S, k, v, T, h => ⟨[], h, fun η a w _ _ => ⟨[], by simp, .nil⟩⟩
  | .tmp t :: r, A, S, k, v, T, h => by
    obtain ⟨vs, h1, h2⟩ := resC_ok (rs := r) h
    refine ⟨_, h1, fun η a w ha hR => ?_⟩
    obtain ⟨xs, h3, h4⟩ := h2 η a w ha hR
    refine ⟨a.tmps.getD t undef :: xs, ?_, .cons (ha.opd (.tmp t)) h4⟩
    rw [List.mapM_cons]
    simp [resM, h3]
  | .cell c t :: r, A, S, k, v, T, h => by
    unfold resC at h
    split at h
    · rename_i hk
      obtain ⟨g1, g2⟩ := ptrD_ok h
      obtain ⟨u, S1, g3, g4⟩ := bnd_ok g2
      obtain ⟨rfl, g5⟩ := loadAt_ok hk.1 hk.2 g3
      obtain ⟨vs, h1, h2⟩ := resC_ok (rs := r) g4
      refine ⟨_, h1, fun η a w ha hR => ?_⟩
      obtain ⟨xs, h3, h4⟩ := h2 η a w ha hR
      obtain ⟨b, hb, ex⟩ := ((ha.opd (.tmp c)).asSc (by rw [beq_ok g1]; omega)).asPtr (beq_ok g1)
      obtain ⟨y, hy, hv⟩ := g5 η w b hR hb
      refine ⟨y :: xs, ?_, .cons hv h4⟩
      rw [List.mapM_cons]
      have ex' : a.tmps.getD c undef = .pointer (some ⟨b, ((opd N (.tmp c)).f A).s.b, none⟩) := ex
      simp only [resM, ex', asAddr]
      simp [hy, h3]
    · cases h
theorem ret_ok {η : Nv} {vs : List V} {xs : List Value} (h : VRL η vs xs) : VR η (ret vs) (if h : xs.toArray.size = 1 then xs.toArray[0] else .tuple xs.toArray) := by
  cases h with
  | nil => exact .tup [] rfl .nil
  | cons h1 hs =>
    cases hs with
    | nil => exact h1
    | cons h2 hs2 =>
      rw [dif_neg (by simp)]
      exact .tup _ rfl (.cons h1 (.cons h2 hs2))
/-- What is said of functions that are not run by their code. -/
def SpecOk (P : Program) (ρ : Nat → Int) (spec : Nat → Option FnC) : Prop :=
  ∀ g c, spec g = some c → ∀ call, Cal P ρ call → ∀ vs S v S' η args w, η.ρ = ρ → VRL η vs args → Rep P η S w → c.f call vs S = .ok v S' → S'.ds = S.ds ∧ Comes' P g args.toArray w fun x w' => ∃ ζ, Move P η S w ζ S' w' ∧ VR ζ v x
theorem fnOk_enter {g : Nat} (h : fnOk P g = true) (args : Array Value) (w : World) : (callFunc g args).run P w = .ok (.enter g args) w := by
  unfold fnOk at h
  split at h
  · rename_i fn hfn
    have hf : P.funcs[g]? = some fn := by rw [← Array.getElem?_toList]; exact hfn
    split at h
    · rename_i c hb
      have hname := of_decide_eq_true h
      unfold callFunc
      simp only [Sem.run_bind]
      have : (program : Sem Program).run P w = .ok P w := rfl
      simp only [this, Result.andThen_ok, hf]
      rw [if_neg (by simpa using hname), if_neg (by rw [hb]; simp)]
      rfl
    · cases h
  · cases h
/-- What is said of deferred functions that do nothing. -/
def IdleOk (P : Program) (idle : Nat → Nat → Bool) : Prop := ∀ g k, idle g k = true → ∀ (args : Array Value) (w : World), args.size = k → CallsD P g args .returning w fun e u' w' => (∃ v, e = .returned v) ∧ u' = .returning ∧ w' = w
theorem leaves_idle {idle : Nat → Nat → Bool} (hI : IdleOk P idle) {fn : Func} {tmps : Array Value} {R : Ending → World → Prop} {η : Nv} {w : World} (hw : ∃ v, (results fn tmps).run P w = .ok v w ∧ R (.returned v) w) : ∀ {ds : List (Nat × List V)} {defs : List Deferred}, DRL η ds defs → idles P idle ds = true → Leaves P fn tmps R defs .returning w
  | _, _, .nil, _ => hw
  | _, _, .cons (g := g) (vs := vs) (args := args) (caps := caps) (ds := ds) (defs := defs) h hs, hi => by
    have hi' : Bool.rec (motive := fun _ => Bool) false (idles P idle ds) (Bool.and (idle g vs.length) (fnOk P g)) = true := hi
    cases hb : Bool.and (idle g vs.length) (fnOk P g) with
    | false => rw [hb] at hi'; cases hi'
    | true =>
      rw [hb] at hi'
      obtain ⟨h1, h2⟩ := and_ok hb
      have hl : (args ++ caps).size = vs.length := by have := h.length; simp at this ⊢; omega
      refine leaves_cons (f := g) (args := args ++ caps) (by simp) ?_ ((hI g _ h1 (args ++ caps) w hl).mono ?_)
      · have := fnOk_enter h2 (args ++ caps) w
        simpa [invoke] using this
      · rintro e u' w' ⟨⟨v, rfl⟩, rfl, rfl⟩
        exact leaves_idle hI hw hs hi'
theorem fnC_ok {D : Nat → Draw} {mth : Nat → String → Option Nat} {spec : Nat → Option FnC} {idle : Nat → Nat → Bool} (hI : IdleOk P idle) (hH : HyAt P ρ H) (hmth : MthOk P mth) (hD : DrawOk P ρ H mth D) (hS : SpecOk P ρ spec) {call : Caller} (hcal : Cal P ρ call) (g : Nat) {vs : List V} {S : St} {v : V} {S' : St} {η : Nv} {args : List Value} {w : World} (hρ : η.ρ = ρ) (hv : VRL η vs args) (hR : Rep P η S w)
    (h : (fnC D H P mth spec idle g).f call vs S = .ok v S') : S'.ds = S.ds ∧ Comes' P g args.toArray w fun x w' => ∃ ζ, Move P η S w ζ S' w' ∧ VR ζ v x := by
  unfold fnC at h
  split at h
  · rename_i c hc
    exact hS g c hc call hcal vs S v S' η args w hρ hv hR h
  · split at h
    · rename_i fn hfn
      have hf : P.funcs[g]? = some fn := by rw [← Array.getElem?_toList]; exact hfn
      split at h
      · rename_i c hb
        cases hbb : Bool.and (Nat.ble fn.ntmps 512) (decide (fn.name ≠ "runtime.NumGoroutine")) with
        | false => rw [hbb] at h; cases h
        | true =>
          rw [hbb] at h
          simp only at h
          obtain ⟨h1, h2⟩ := and_ok hbb
          have hN := ble_ok h1
          have hname := of_decide_eq_true h2
          obtain ⟨h3, h4⟩ := chk_ok h
          have hl := ble_ok h3
          obtain ⟨v1, T, h5, h6⟩ := bnd_ok h4
          cases h6
          have hend : ∀ A1 S1, (endC idle P fn.ntmps fn.results.toList).f A1 S1 = .ok v T → idles P idle S1.ds = true ∧ ∃ vs', v = ret vs' ∧ T = ⟨S1.heap, S1.next, []⟩ ∧ ∀ ζ a w', AR ζ fn.ntmps A1 a → Rep P ζ ⟨S1.heap, S1.next, []⟩ w' → ∃ xs, (fn.results.toList.mapM (resM a.tmps)).run P w' = .ok xs w' ∧ VRL ζ vs' xs := by
            intro A1 S1 he
            obtain ⟨k0, k1⟩ := chk_ok he
            obtain ⟨vs', k1, k2⟩ := resC_ok k1
            cases k1
            exact ⟨k0, vs', rfl, rfl, k2⟩
          refine ⟨rfl, .inl ⟨?_, ?_⟩⟩
          · unfold callFunc
            simp only [Sem.run_bind]
            have : (program : Sem Program).run P w = .ok P w := rfl
            simp only [this, Result.andThen_ok, hf]
            rw [if_neg (by simpa using hname), if_neg (by rw [hb]; simp)]
            rfl
          · refine calls_of_wp_defers hf hb ?_
            have hr : RS P ρ η fn.ntmps (setArgs fn.ntmps vs 0 env0) ⟨S.heap, S.next, []⟩ ⟨args.toArray ++ Array.replicate (fn.ntmps - args.toArray.size) undef, []⟩ w := ⟨args_ok hv hN hl, (move_ds hR []).rep, .nil, hρ⟩
            have hfin : ∀ A1 S1 a1 w1 ζ, Move P η ⟨S.heap, S.next, []⟩ w ζ S1 w1 → RS P ρ ζ fn.ntmps A1 S1 a1 w1 → (endC idle P fn.ntmps fn.results.toList).f A1 S1 = .ok v T → Leaves P fn a1.tmps (fun e w' => ∃ y, e = .returned y ∧ ∃ ζ, Move P η S w ζ ⟨T.heap, T.next, S.ds⟩ w' ∧ VR ζ v y) a1.defers .returning w1 := by
              intro A1 S1 a1 w1 ζ hm hr1 he
              obtain ⟨k1, vs', rfl, rfl, k2⟩ := hend A1 S1 he
              have hm1 := hm.trans (move_ds hr1.rep [])
              obtain ⟨xs, k3, k4⟩ := k2 ζ a1 w1 hr1.ar hm1.rep
              refine leaves_idle hI ⟨_, ?_, _, rfl, ζ, (move_ds hR []).trans (hm1.trans (move_ds hm1.rep S.ds)), ret_ok k4⟩ hr1.dr k1
              have er : results fn a1.tmps = (do let vs ← fn.results.mapM (resM a1.tmps); pure (if h : vs.size = 1 then vs[0] else .tuple vs)) := by
                unfold results
                congr 1
              rw [er]
              have hmm : (fn.results.mapM (resM a1.tmps)).run P w1 = .ok xs.toArray w1 := by
                rw [Array.mapM_eq_mapM_toList, map_eq_pure_bind]
                simp only [Sem.run_bind, k3, Result.andThen_ok, Sem.run_pure]
              simp only [Sem.run_bind, hmm, Result.andThen_ok, Sem.run_pure]
            refine codC_ok (T := T) (g := g) hH hmth hD hcal c (fun id ops hd => ⟨fn, c, hf, hb, rfl, hd⟩) _ _ _ _ w η _ _ _ hr h5 (fun A1 S1 a1 w1 ζ hm hr1 he => ?_) (fun i A1 S1 a1 w1 ζ hm hr1 he => by cases he) (fun A1 S1 a1 w1 ζ hm hr1 he => ?_)
            · exact hfin A1 S1 a1 w1 ζ hm hr1 he
            · exact hfin A1 S1 a1 w1 ζ hm hr1 he
      · cases h
    · cases h
theorem callN_ok {D : Nat → Draw} {mth : Nat → String → Option Nat} {spec : Nat → Option FnC} {idle : Nat → Nat → Bool} (hI : IdleOk P idle) (hH : HyAt P ρ H) (hmth : MthOk P mth) (hD : DrawOk P ρ H mth D) (hS : SpecOk P ρ spec) (n : Nat) : Cal P ρ (callN D H P mth spec idle n) := by
  induction n with
  | zero => exact ⟨fun g vs S v S' η args w _ _ _ h => by cases h⟩
  | succ n ih => exact ⟨fun g vs S v S' η args w hρ hv hR h => fnC_ok hI hH hmth hD hS ih g hρ hv hR h⟩
end Go.Exec
