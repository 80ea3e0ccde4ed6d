/-
  A runner of the model's code inside Lean, with the proof that it is right: operations on values. Nothing here is of this program.
-/
import Derived.Test.YtcmehedjdfopdaaGreatExA
namespace Go.Exec
open Go
variable {P : Program} {N : Nat} {ρ : Nat → Int} {H : Hy}
/-- What the law's person says of variables holds for these values. -/
structure HyAt (P : Program) (ρ : Nat → Int) (H : Hy) : Prop where
  bin : ∀ op k s1 s2 s (η : Nv) t w n m, η.ρ = ρ → H.bin op k s1 s2 = some s → SR η s1 (.int k n) → SR η s2 (.int k m) → op ≠ .shl → op ≠ .shr → ∃ y, (binOp op t (.int k n) (.int k m)).run P w = .ok y w ∧ SR η s y
  sh : ∀ op k j s1 c s (η : Nv) w n, η.ρ = ρ → H.sh op k s1 c = some s → c ≤ 127 → SR η s1 (.int k n) → (op = .shl ∨ op = .shr) → ∃ y, (Op.shift op k n j (c : Int)).run P w = .ok y w ∧ SR η s y
  conv : ∀ k k' s1 s (η : Nv) n, η.ρ = ρ → H.conv k k' s1 = some s → SR η s1 (.int k n) → SR η s (.int k' (k'.wrap n))
  neg : ∀ k s1 s (η : Nv) n, η.ρ = ρ → H.neg k s1 = some s → SR η s1 (.int k n) → SR η s (.int k (k.wrap (0 - n)))
theorem isIk_le {k : IntKind} {s : Sc} (h : isIk k s = true) : s.tag ≤ 97 := by
  have hg := kcode_ge k
  rcases or_ok h with h | h
  · have := beq_ok h; omega
  · obtain ⟨h1, -⟩ := and_ok h
    obtain ⟨-, h2⟩ := and_ok h1
    have := ble_ok h2
    omega

theorem exec_bin (a : Act) (ob : Oper) {op : BinOp} {t ty : TypeId} {x y : Operand} (h : ob.op = .binOp op t x y ty) (w : World) {k : IntKind} {n m : Int} (hx : a.eval x = .int k n) (hy : a.eval y = .int k m) {r : Value} (hr : (binOp op t (.int k n) (.int k m)).run P w = .ok r w) :
    (execOp a.eval ob).run P w = .ok (.value r) w := by
  simp only [execOp, h, hx, hy]
  have hg : eqGuard op t x y (.int k n) (.int k m) = pure () := by cases op <;> rfl
  rw [hg]
  simp [hr]

/-- An operation with operands of one kind of int. -/
theorem both_ok (hH : HyAt P ρ H) {op : BinOp} {k : IntKind} {t ty : TypeId} {x y : Operand} {g : Nat → Nat → St → Ans} (hsl : op ≠ .shl) (hsr : op ≠ .shr)
    (hg1 : ∀ a b S v S', g a b S = .ok v S' → S' = S ∧ ∀ S2, g a b S2 = .ok v S2)
    (hg2 : ∀ a b S v S', a < kmod k → b < kmod k → g a b S = .ok v S' → ∀ η w, ∃ y, (binOp op t (.int k (k.wrap a)) (.int k (k.wrap b))).run P w = .ok y w ∧ VR η v y) :
    PureOk P N ρ (.binOp op t x y ty) (both H N op k x y g) := by
  intro call A S v S' h
  unfold both at h ⊢
  simp only at h ⊢
  rcases iff_ok h with ⟨hb, hk⟩ | ⟨hb, hk⟩
  · obtain ⟨h1, h2⟩ := and_ok hb
    obtain ⟨rfl, h3⟩ := hg1 _ _ _ _ _ hk
    refine ⟨rfl, fun call2 S2 => ?_, fun η a w ob hρ ho hop => ?_⟩
    · simp only [hb, iff]; exact h3 S2
    · obtain ⟨e1, l1⟩ := ((hop x (by simp [Op.operands])).asSc (by rw [beq_ok h1]; have := kcode_ge k; omega)).asInt (beq_ok h1)
      obtain ⟨e2, l2⟩ := ((hop y (by simp [Op.operands])).asSc (by rw [beq_ok h2]; have := kcode_ge k; omega)).asInt (beq_ok h2)
      obtain ⟨r, hr, hv⟩ := hg2 _ _ _ _ _ l1 l2 hk η w
      exact ⟨r, exec_bin a ob ho w e1 e2 hr, hv⟩
  · obtain ⟨hc, hk⟩ := chk_ok hk
    obtain ⟨h1, h2⟩ := and_ok hc
    cases hb2 : H.bin op k ((opd N x).f A).s ((opd N y).f A).s with
    | none => rw [hb2] at hk; cases hk
    | some s =>
      rw [hb2] at hk
      cases hk
      refine ⟨rfl, fun call2 S2 => ?_, fun η a w ob hρ ho hop => ?_⟩
      · simp only [hb, hc, iff, chk, symR]
      · have q1 := (hop x (by simp [Op.operands])).asSc (isIk_le h1)
        have q2 := (hop y (by simp [Op.operands])).asSc (isIk_le h2)
        obtain ⟨n1, e1⟩ := q1.asIk h1
        obtain ⟨n2, e2⟩ := q2.asIk h2
        rw [e1] at q1
        rw [e2] at q2
        obtain ⟨r, hr, hv⟩ := hH.bin op k _ _ s η t w _ _ hρ hb2 q1 q2 hsl hsr
        exact ⟨r, exec_bin a ob ho w e1 e2 hr, .sc hv⟩

theorem okI1 {k : IntKind} {n : Nat} {S S' : St} {v : V} (h : okI k n S = .ok v S') : S' = S ∧ ∀ S2, okI k n S2 = .ok v S2 := by
  cases h; exact ⟨rfl, fun _ => rfl⟩
theorem okB1 {b : Bool} {S S' : St} {v : V} (h : okB b S = .ok v S') : S' = S ∧ ∀ S2, okB b S2 = .ok v S2 := by
  cases b <;> cases h <;> exact ⟨rfl, fun _ => rfl⟩
theorem okB2 {b c : Bool} {S S' : St} {v : V} (η : Nv) (h : okB b S = .ok v S') (hbc : b = c) : VR η v (.bool c) := by
  subst hbc
  obtain ⟨v', h', hv⟩ := VR.bool (η := η) b S
  rw [h] at h'; cases h'; exact hv
theorem toNat_ofNat (k : IntKind) {a : Nat} (h : a < kmod k) : (BitVec.ofNat k.bits a).toNat = a := by
  rw [BitVec.toNat_ofNat, ← kmod_eq, Nat.mod_eq_of_lt h]

theorem intC_ok (hH : HyAt P ρ H) {k : IntKind} {op : BinOp} {t ty : TypeId} {x y : Operand} (hsl : op ≠ .shl) (hsr : op ≠ .shr) : PureOk P N ρ (.binOp op t x y ty) (intC H N k op x y) := by
  cases op with
  | add =>
    unfold intC
    refine both_ok hH hsl hsr (fun a b S v S' h => okI1 h) fun a b S v S' ha hb h η w => ?_
    cases h; exact ⟨_, by rw [binOp_add]; rfl, by rw [wrap_add]; exact VR.mkI k (mod_lt k _)⟩
  | sub =>
    unfold intC
    refine both_ok hH hsl hsr (fun a b S v S' h => okI1 h) fun a b S v S' ha hb h η w => ?_
    cases h; exact ⟨_, by rw [binOp_sub]; rfl, by rw [wrap_sub _ _ _ hb]; exact VR.mkI k (mod_lt k _)⟩
  | mul =>
    unfold intC
    refine both_ok hH hsl hsr (fun a b S v S' h => okI1 h) fun a b S v S' ha hb h η w => ?_
    cases h; exact ⟨_, by rw [binOp_mul]; rfl, by rw [wrap_mul]; exact VR.mkI k (mod_lt k _)⟩
  | and =>
    unfold intC
    refine both_ok hH hsl hsr (fun a b S v S' h => okI1 h) fun a b S v S' ha hb h η w => ?_
    cases h
    refine ⟨_, by rw [binOp_and]; rfl, ?_⟩
    rw [ofInt_wrap, ofInt_wrap, BitVec.toNat_and, toNat_ofNat k ha, toNat_ofNat k hb]
    exact VR.mkI k (land_lt k ha)
  | or =>
    unfold intC
    refine both_ok hH hsl hsr (fun a b S v S' h => okI1 h) fun a b S v S' ha hb h η w => ?_
    cases h
    refine ⟨_, by rw [binOp_or]; rfl, ?_⟩
    rw [ofInt_wrap, ofInt_wrap, BitVec.toNat_or, toNat_ofNat k ha, toNat_ofNat k hb]
    exact VR.mkI k (lor_lt k ha hb)
  | xor =>
    unfold intC
    refine both_ok hH hsl hsr (fun a b S v S' h => okI1 h) fun a b S v S' ha hb h η w => ?_
    cases h
    refine ⟨_, by rw [binOp_xor]; rfl, ?_⟩
    rw [ofInt_wrap, ofInt_wrap, BitVec.toNat_xor, toNat_ofNat k ha, toNat_ofNat k hb]
    exact VR.mkI k (xor_lt k ha hb)
  | andNot =>
    unfold intC
    refine both_ok hH hsl hsr (fun a b S v S' h => okI1 h) fun a b S v S' ha hb h η w => ?_
    cases h
    refine ⟨_, by rw [binOp_andNot]; rfl, ?_⟩
    rw [ofInt_wrap, ofInt_wrap, BitVec.toNat_and, BitVec.toNat_not, toNat_ofNat k ha, toNat_ofNat k hb, ← kmod_eq]
    exact VR.mkI k (land_lt k ha)
  | quo =>
    unfold intC
    refine both_ok hH hsl hsr (fun a b S v S' h => by obtain ⟨h1, h2⟩ := chk_ok h; obtain ⟨e, h3⟩ := okI1 h2; exact ⟨e, fun S2 => by simp only [h1, chk]; exact h3 S2⟩) fun a b S v S' ha hb h η w => ?_
    obtain ⟨h1, h2⟩ := chk_ok h
    obtain ⟨h3, h4⟩ := and_ok h1
    obtain ⟨pa, pb⟩ := (posBoth_iff k a b).1 h4
    have hb1 := ble_ok h3
    cases h2
    refine ⟨_, by rw [binOp_quo, wrap_small k pa, wrap_small k pb]; unfold Op.intDiv; rw [if_neg (by omega)]; rfl, ?_⟩
    rw [Int.tdiv_eq_ediv_of_nonneg (by omega), ← Int.natCast_ediv]
    exact VR.mkI k (Nat.lt_of_le_of_lt (Nat.div_le_self a b) ha)
  | rem =>
    unfold intC
    refine both_ok hH hsl hsr (fun a b S v S' h => by obtain ⟨h1, h2⟩ := chk_ok h; obtain ⟨e, h3⟩ := okI1 h2; exact ⟨e, fun S2 => by simp only [h1, chk]; exact h3 S2⟩) fun a b S v S' ha hb h η w => ?_
    obtain ⟨h1, h2⟩ := chk_ok h
    obtain ⟨h3, h4⟩ := and_ok h1
    obtain ⟨pa, pb⟩ := (posBoth_iff k a b).1 h4
    have hb1 := ble_ok h3
    cases h2
    have hml : Nat.mod a b < kmod k / 2 := Nat.lt_of_le_of_lt (Nat.mod_le a b) pa
    refine ⟨_, by rw [binOp_rem, wrap_small k pa, wrap_small k pb]; unfold Op.intDiv; rw [if_neg (by omega)]; rfl, ?_⟩
    rw [Int.tmod_eq_emod_of_nonneg (by omega), ← Int.natCast_emod]
    have := VR.mkI (η := η) k (n := Nat.mod a b) (by omega)
    rw [wrap_small k hml] at this
    exact this
  | shl => exact absurd rfl hsl
  | shr => exact absurd rfl hsr
  | eql =>
    unfold intC
    refine both_ok hH hsl hsr (fun a b S v S' h => okB1 h) fun a b S v S' ha hb h η w => ?_
    exact ⟨_, by rw [binOp_eql]; rfl, okB2 η h (by
        rw [Bool.eq_iff_iff, beq_iff_eq, wrap_inj k ha hb]; exact Nat.beq_eq ▸ Iff.rfl)⟩
  | neq =>
    unfold intC
    refine both_ok hH hsl hsr (fun a b S v S' h => okB1 h) fun a b S v S' ha hb h η w => ?_
    exact ⟨_, by rw [binOp_neq]; rfl, okB2 η h (by
        show (!(Nat.beq a b)) = !(k.wrap (a:Int) == k.wrap (b:Int))
        congr 1
        rw [Bool.eq_iff_iff, beq_iff_eq, wrap_inj k ha hb]; exact Nat.beq_eq ▸ Iff.rfl)⟩
  | lss =>
    unfold intC
    refine both_ok hH hsl hsr (fun a b S v S' h => okB1 h) fun a b S v S' ha hb h η w => ?_
    exact ⟨_, by rw [binOp_lss]; rfl, okB2 η h (by
        rw [Bool.eq_iff_iff, decide_eq_true_iff, bias_lt k ha hb]; exact ⟨blt_ok, Nat.ble_eq_true_of_le⟩)⟩
  | leq =>
    unfold intC
    refine both_ok hH hsl hsr (fun a b S v S' h => okB1 h) fun a b S v S' ha hb h η w => ?_
    exact ⟨_, by rw [binOp_leq]; rfl, okB2 η h (by
        rw [Bool.eq_iff_iff, decide_eq_true_iff]
        have := bias_lt k hb ha
        exact ⟨fun h => by have := ble_ok h; omega, fun h => Nat.ble_eq_true_of_le (by omega)⟩)⟩
  | gtr =>
    unfold intC
    refine both_ok hH hsl hsr (fun a b S v S' h => okB1 h) fun a b S v S' ha hb h η w => ?_
    exact ⟨_, by rw [binOp_gtr]; rfl, okB2 η h (by
        rw [Bool.eq_iff_iff, decide_eq_true_iff]
        have := bias_lt k hb ha
        exact ⟨fun h => by have := blt_ok h; omega, fun h => Nat.ble_eq_true_of_le (by omega)⟩)⟩
  | geq =>
    unfold intC
    refine both_ok hH hsl hsr (fun a b S v S' h => okB1 h) fun a b S v S' ha hb h η w => ?_
    exact ⟨_, by rw [binOp_geq]; rfl, okB2 η h (by
        rw [Bool.eq_iff_iff, decide_eq_true_iff]
        have := bias_lt k ha hb
        exact ⟨fun h => by have := ble_ok h; omega, fun h => Nat.ble_eq_true_of_le (by omega)⟩)⟩
end Go.Exec

namespace Go.Exec
open Go
variable {P : Program} {N : Nat} {ρ : Nat → Int} {H : Hy}
theorem desc_ok {t : TypeId} {d : TypeDesc} (h : desc P t = d) (hd : d ≠ .invalid) : P.underlying t = some d := by
  unfold desc at h
  split at h
  · rename_i d' h'; rw [h', h]
  · exact absurd h.symm hd
theorem run_under {t : TypeId} {d : TypeDesc} (h : desc P t = d) (hd : d ≠ .invalid) (w : World) : (underlying t).run P w = .ok d w := run_underlying (desc_ok h hd) w
theorem sizeT_ok {t : TypeId} (h : sizeT P t ≠ 0) : ∃ i, P.info? t = some i ∧ i.size = sizeT P t := by
  unfold sizeT at h ⊢
  split at h
  · rename_i i hi; exact ⟨i, hi, by simp⟩
  · exact absurd rfl h
theorem run_sizeOf {t : TypeId} (h : sizeT P t ≠ 0) (w : World) : (sizeOf t).run P w = .ok (sizeT P t) w := by
  obtain ⟨i, hi, hs⟩ := sizeT_ok h
  simp [sizeOf, typeInfo, hi, hs]
theorem add_at (b o n : Nat) : (⟨b, o, none⟩ : Addr).add n = ⟨b, o + n, none⟩ := by
  unfold Addr.add
  split
  · rename_i h; subst h; rfl
  · rfl
theorem mem1 {x y : Operand} {xs : List Operand} (h : y = x) : y ∈ x :: xs := by rw [h]; exact List.mem_cons_self

theorem move_ok {x : Operand} : PureOk P N ρ (.move x) ⟨fun _ A S => .ok ((opd N x).f A) S⟩ := by
  intro call A S v S' h
  cases h
  exact ⟨rfl, fun _ _ => rfl, fun η a w ob _ ho hop => ⟨a.eval x, by simp only [execOp, ho]; rfl, hop x (by simp [Op.operands])⟩⟩
theorem assign_ok {x : Operand} : PureOk P N ρ (.assign x) ⟨fun _ A S => .ok ((opd N x).f A) S⟩ := by
  intro call A S v S' h
  cases h
  exact ⟨rfl, fun _ _ => rfl, fun η a w ob _ ho hop => ⟨a.eval x, by simp only [execOp, ho]; rfl, hop x (by simp [Op.operands])⟩⟩
theorem pick_ok {c x y : Operand} : PureOk P N ρ (.pick c x y) ⟨fun _ A S => chk (Nat.beq ((opd N c).f A).s.tag 1) (iff (Nat.beq ((opd N c).f A).s.a 1) (.ok ((opd N x).f A) S) (.ok ((opd N y).f A) S))⟩ := by
  intro call A S v S' h
  simp only at h ⊢
  obtain ⟨h1, h2⟩ := chk_ok h
  rcases iff_ok h2 with ⟨h3, h4⟩ | ⟨h3, h4⟩ <;> cases h4 <;> refine ⟨rfl, fun _ _ => by simp only [h1, h3, chk, iff], fun η a w ob _ ho hop => ?_⟩
  · obtain ⟨b, e1, e2⟩ := ((hop c (by simp [Op.operands])).asSc (by rw [beq_ok h1]; omega)).asBool (beq_ok h1)
    have hb : b = true := by
      cases b
      · rw [e2] at h3; cases h3
      · rfl
    subst hb
    exact ⟨a.eval x, by simp only [execOp, ho, e1]; rfl, hop x (by simp [Op.operands])⟩
  · obtain ⟨b, e1, e2⟩ := ((hop c (by simp [Op.operands])).asSc (by rw [beq_ok h1]; omega)).asBool (beq_ok h1)
    have hb : b = false := by
      cases b
      · rfl
      · rw [e2] at h3; cases h3
    subst hb
    exact ⟨a.eval y, by simp only [execOp, ho, e1]; rfl, hop y (by simp [Op.operands])⟩
theorem nilCheck_ok {x : Operand} : PureOk P N ρ (.nilCheck x) ⟨fun _ A S => chk (Bool.or (Nat.beq ((opd N x).f A).s.tag 4) (Bool.or (Nat.beq ((opd N x).f A).s.tag 7) (Nat.beq ((opd N x).f A).s.tag 9))) (.ok ((opd N x).f A) S)⟩ := by
  intro call A S v S' h
  simp only at h ⊢
  obtain ⟨h1, h2⟩ := chk_ok h
  cases h2
  refine ⟨rfl, fun _ _ => by simp only [h1, chk], fun η a w ob _ ho hop => ?_⟩
  have hx := hop x (by simp [Op.operands])
  rcases or_ok h1 with h3 | h3
  · obtain ⟨b, -, e⟩ := (hx.asSc (by rw [beq_ok h3]; omega)).asPtr (beq_ok h3)
    exact ⟨a.eval x, by simp only [execOp, ho, e]; rfl, hx⟩
  · rcases or_ok h3 with h3 | h3
    · obtain ⟨xs, ys, e, -, -⟩ := (hx.asSc (by rw [beq_ok h3]; omega)).asFn (beq_ok h3)
      exact ⟨a.eval x, by simp only [execOp, ho, e]; rfl, hx⟩
    · obtain ⟨u, e, -⟩ := (hx.asSc (by rw [beq_ok h3]; omega)).asIfc (beq_ok h3)
      exact ⟨a.eval x, by simp only [execOp, ho, e]; rfl, hx⟩
theorem ptrD_ok {x : V} {k : Nat → Nat → Ans} {v : V} {S : St} (h : ptrD x k = .ok v S) : Nat.beq x.s.tag 4 = true ∧ k x.s.a x.s.b = .ok v S := chk_ok h
theorem ptrD_eq {x : V} {k : Nat → Nat → Ans} (h : Nat.beq x.s.tag 4 = true) : ptrD x k = k x.s.a x.s.b := by simp only [ptrD, h, chk]; rfl
theorem VR.ptr {η : Nv} {n b : Nat} (o : Nat) (h : PtrTo η n b) : VR η (mkP n o) (.pointer (some ⟨b, o, none⟩)) := .sc (.ptr (s := ⟨4, n, o, 0, 0, [], []⟩) b rfl h)
theorem fieldOf_ok {t : TypeId} {f : Nat} {q : Field} (h : fieldOf P t f = some q) : ∃ fs, desc P t = .struct fs ∧ fs[f]? = some q := by
  unfold fieldOf at h
  split at h
  · rename_i fs hd; exact ⟨fs, hd, h⟩
  · cases h
theorem fieldAddr_ok {t : TypeId} {x : Operand} {f : Nat} : PureOk P N ρ (.fieldAddr t x f) (fieldAddrC P N t x f) := by
  unfold fieldAddrC
  split
  · rename_i q hq
    cases hz : Nat.beq (sizeT P q.type) 0
    · intro call A S v S' h
      simp only at h ⊢
      obtain ⟨h1, h2⟩ := ptrD_ok h
      cases h2
      refine ⟨rfl, fun _ _ => by rw [ptrD_eq h1]; rfl, fun η a w ob _ ho hop => ?_⟩
      obtain ⟨b, hb, e⟩ := ((hop x (by simp [Op.operands])).asSc (by rw [beq_ok h1]; omega)).asPtr (beq_ok h1)
      obtain ⟨fs, hd, hf⟩ := fieldOf_ok hq
      refine ⟨_, ?_, VR.ptr (((opd N x).f A).s.b + q.offset) hb⟩
      have hs := run_sizeOf (P := P) (beq_no hz) w
      have hne := beq_no hz
      simp only [execOp, ho, e, Instr.fieldAt]
      simp [run_under hd (by simp), hf, Instr.sureAddr, fieldPlace, hs, hne, add_at]
    · exact pure_bad
  · exact pure_bad
theorem idxN_ok {i : V} {k : Nat → Ans} {v : V} {S : St} (h : idxN i k = .ok v S) : (19 ≤ i.s.tag ∧ i.s.tag ≤ 23 ∧ i.s.a < 9223372036854775808) ∧ k i.s.a = .ok v S ∧ ∀ k', idxN i k' = k' i.s.a := by
  obtain ⟨h1, h2⟩ := chk_ok h
  obtain ⟨h3, h4⟩ := and_ok h1
  obtain ⟨h5, h6⟩ := and_ok h3
  exact ⟨⟨ble_ok h5, ble_ok h6, blt_ok h4⟩, h2, fun k' => by simp only [idxN, h1, chk]; rfl⟩
/-- An index as the model reads it. -/
theorem idx_val {η : Nv} {i : V} {x : Value} (h : VR η i x) (hi : 19 ≤ i.s.tag ∧ i.s.tag ≤ 23 ∧ i.s.a < 9223372036854775808) : ∃ k, x = .int k (i.s.a : Int) := by
  obtain ⟨h1, h2, h3⟩ := hi
  obtain ⟨k, ht, rfl, hl⟩ := (h.asSc (by omega)).asAnyInt (by omega) h2
  refine ⟨k, ?_⟩
  rw [wrap_nat k hl, if_pos]
  cases k <;> simp only [khalf, kcode, true_or] at * <;> omega
end Go.Exec

namespace Go.Exec
open Go
variable {P : Program} {N : Nat} {ρ : Nat → Int} {H : Hy}
theorem isSl_ok {η : Nv} {v : V} {x : Value} (h : isSl v = true) (hv : VR η v x) : ∃ b cap, η.σ v.s.a = some b ∧ x = .slice (some ⟨b, v.s.b, none⟩) v.s.c cap ∧ v.s.c ≤ cap ∧ (v.s.tag = 6 → cap = v.s.d) ∧ (v.s.tag = 12 → cap = η.κ v.s.a - v.s.d ∧ v.s.d + v.s.c ≤ η.κ v.s.a) := by
  rcases or_ok h with h1 | h1 <;> have h2 := beq_ok h1
  · obtain ⟨b, hb, e, hc⟩ := (hv.asSc (by omega)).asSl h2
    exact ⟨b, _, hb, e, hc, fun _ => rfl, fun h => by omega⟩
  · obtain ⟨b, hb, e, hc⟩ := (hv.asSc (by omega)).asSu h2
    exact ⟨b, _, hb, e, by omega, fun h => by omega, fun _ => ⟨rfl, hc⟩⟩
theorem run_sizeOf' {t : TypeId} {i : TypeInfo} (h : P.info? t = some i) (w : World) : (sizeOf t).run P w = .ok i.size w := by simp [sizeOf, typeInfo, h]
theorem indexAddr_ok {t : TypeId} {x i : Operand} : PureOk P N ρ (.indexAddr t x i) (indexAddrC P N t x i) := by
  unfold indexAddrC
  split
  · rename_i len e hd
    cases hz : Nat.beq (sizeT P e) 0
    · intro call A S v S' h
      simp only at h ⊢
      obtain ⟨hi, h2, hi2⟩ := idxN_ok h
      obtain ⟨h3, h4⟩ := chk_ok h2
      obtain ⟨h5, h6⟩ := ptrD_ok h4
      cases h6
      refine ⟨rfl, fun _ _ => by rw [hi2, h3, ptrD_eq h5]; rfl, fun η a w ob _ ho hop => ?_⟩
      obtain ⟨b, hb, ex⟩ := ((hop x (by simp [Op.operands])).asSc (by rw [beq_ok h5]; omega)).asPtr (beq_ok h5)
      obtain ⟨k, ei⟩ := idx_val (hop i (by simp [Op.operands])) hi
      refine ⟨_, ?_, VR.ptr (((opd N x).f A).s.b + ((opd N i).f A).s.a * sizeT P e) hb⟩
      have hs := run_sizeOf (P := P) (beq_no hz) w
      have hlt := blt_ok h3
      simp only [execOp, ho, ex, ei, Instr.indexAt]
      simp [run_under hd (by simp), Instr.sureAddr, asIntOf, hs, hlt, add_at]
    · exact pure_bad
  · rename_i e hd
    cases hz : Nat.beq (sizeT P e) 0
    · intro call A S v S' h
      simp only at h ⊢
      rcases iff_ok h with ⟨h0, h⟩ | ⟨h0, h⟩
      · obtain ⟨g1, g2⟩ := chk_ok h
        cases g2
        refine ⟨rfl, fun _ _ => by rw [h0]; show chk _ _ = _; rw [g1]; rfl, fun η a w ob _ ho hop => ?_⟩
        obtain ⟨g3, g4⟩ := and_ok g1
        obtain ⟨g5, g6⟩ := and_ok g3
        obtain ⟨g7, g8⟩ := and_ok g4
        obtain ⟨g9, g10⟩ := and_ok g7
        obtain ⟨kk, base, n, m, ex, hk, hn, hc⟩ := (hop x (by simp [Op.operands])).asArgx (beq_ok h0)
        have ei := ((hop i (by simp [Op.operands])).asSc (by rw [beq_ok g5]; omega)).asVar (k := .i64) (beq_ok g5) (beq_ok g6)
        have t1 := ble_ok g9
        have t2 := blt_ok g10
        obtain ⟨q, e1, hlt, ad, rfl, hcell⟩ := hc (((opd N i).f A).s.a - ((opd N x).f A).s.d) (by have : ((opd N i).f A).s.a < ((opd N x).f A).s.d + ((opd N x).f A).s.c := t2; omega)
        rw [show ((opd N x).f A).s.d + (((opd N i).f A).s.a - ((opd N x).f A).s.d) = ((opd N i).f A).s.a by omega] at e1 hcell
        rw [e1] at ei
        refine ⟨.pointer (some (ad.add q)), ?_, .argp (v := vS ⟨102, ((opd N i).f A).s.a + ((opd N x).f A).s.c, ((opd N x).f A).s.a, 0, 0, [], []⟩) kk _ rfl hk hcell⟩
        have hs := run_sizeOf (P := P) (beq_no hz) w
        simp only [execOp, ho, ex, ei, Instr.indexAt]
        simp [run_under hd (by simp), asIntOf, hs, hlt, beq_ok g8]
      obtain ⟨hi, h2, hi2⟩ := idxN_ok h
      rcases iff_ok h2 with ⟨h1, h2⟩ | ⟨h1, h2⟩
      · obtain ⟨h3, h4⟩ := chk_ok h2
        obtain ⟨h5, h6⟩ := and_ok h3
        cases h4
        refine ⟨rfl, fun _ _ => by rw [h0]; show idxN _ _ = _; rw [hi2, h1]; show chk _ _ = _; rw [h3]; rfl, fun η a w ob _ ho hop => ?_⟩
        obtain ⟨kk, base, n, m, ex, hk, hn, hc⟩ := (hop x (by simp [Op.operands])).asArg (beq_ok h1)
        obtain ⟨k, ei⟩ := idx_val (hop i (by simp [Op.operands])) hi
        obtain ⟨hlt, ad, rfl, hcell⟩ := hc _ (blt_ok h5)
        refine ⟨.pointer (some (ad.add ((opd N i).f A).s.a)), ?_, .argp (v := vS ⟨102, ((opd N x).f A).s.d + ((opd N i).f A).s.a, ((opd N x).f A).s.a, 0, 0, [], []⟩) kk _ rfl hk hcell⟩
        have hs := run_sizeOf (P := P) (beq_no hz) w
        simp only [execOp, ho, ex, ei, Instr.indexAt]
        simp [run_under hd (by simp), asIntOf, hs, hlt, beq_ok h6]
      obtain ⟨h3, h4⟩ := chk_ok h2
      obtain ⟨h5, h6⟩ := and_ok h3
      cases h4
      refine ⟨rfl, fun _ _ => by rw [h0]; show idxN _ _ = _; rw [hi2, h1]; show chk _ _ = _; rw [h3]; rfl, fun η a w ob _ ho hop => ?_⟩
      obtain ⟨b, cap, hb, ex, -, -, -⟩ := isSl_ok h5 (hop x (by simp [Op.operands]))
      obtain ⟨k, ei⟩ := idx_val (hop i (by simp [Op.operands])) hi
      refine ⟨_, ?_, VR.ptr (((opd N x).f A).s.b + ((opd N i).f A).s.a * sizeT P e) (.inl hb)⟩
      have hs := run_sizeOf (P := P) (beq_no hz) w
      have hlt := blt_ok h6
      simp only [execOp, ho, ex, ei, Instr.indexAt]
      simp [run_under hd (by simp), asIntOf, hs, hlt, add_at]
    · exact pure_bad
  · exact pure_bad
theorem nthV_ok : ∀ {vs : List V} {n : Nat} {k : V → Ans} {v : V} {S : St}, nthV vs n k = .ok v S → ∃ u, vs[n]? = some u ∧ k u = .ok v S ∧ ∀ k', nthV vs n k' = k' u
  | [], n, k, v, S, h => by cases h
  | u :: r, 0, k, v, S, h => ⟨u, rfl, h, fun _ => rfl⟩
  | u :: r, n + 1, k, v, S, h => by
    obtain ⟨x, h1, h2, h3⟩ := nthV_ok (vs := r) (n := n) (k := k) h
    exact ⟨x, h1, h2, fun k' => h3 k'⟩
theorem VRL.get {η : Nv} : ∀ {vs : List V} {xs : List Value}, VRL η vs xs → ∀ (n : Nat) (u : V), vs[n]? = some u → ∃ x, xs[n]? = some x ∧ VR η u x
  | _, _, .nil, n, u, h => by simp at h
  | _, _, .cons h hs, 0, u, e => by simp at e; subst e; exact ⟨_, rfl, h⟩
  | _, _, .cons h hs, n + 1, u, e => by
    obtain ⟨x, h1, h2⟩ := hs.get n u (by simpa using e)
    exact ⟨x, by simpa using h1, h2⟩
theorem extract_ok {t : Operand} {i : Nat} : PureOk P N ρ (.extract t i) ⟨fun _ A S => chk (Nat.beq ((opd N t).f A).s.tag 99) (nthV ((opd N t).f A).vs i (fun v => .ok v S))⟩ := by
  intro call A S v S' h
  simp only at h ⊢
  obtain ⟨h1, h2⟩ := chk_ok h
  obtain ⟨u, hu, h3, h4⟩ := nthV_ok h2
  cases h3
  refine ⟨rfl, fun _ _ => by rw [h1, h4]; rfl, fun η a w ob _ ho hop => ?_⟩
  obtain ⟨xs, e, hx⟩ := (hop t (by simp [Op.operands])).asTup (beq_ok h1)
  obtain ⟨y, hy, hv⟩ := hx.get i _ hu
  refine ⟨y, ?_, hv⟩
  simp only [execOp, ho, e, Instr.extract]
  simp [hy]
theorem isAggT_ok {t : TypeId} (h : isAggT P t = true) : (∃ fs, desc P t = .struct fs) ∨ ∃ n e, desc P t = .array n e := by
  unfold isAggT at h
  split at h
  · rename_i fs hd; exact .inl ⟨fs, hd⟩
  · rename_i n e hd; exact .inr ⟨n, e, hd⟩
  · cases h
theorem run_isAgg {t : TypeId} (w : World) (hd : P.underlying t ≠ none) : (isAgg t).run P w = .ok (isAggT P t) w := by
  unfold isAgg isAggT desc
  cases hu : P.underlying t with
  | none => exact absurd hu hd
  | some d =>
    simp only [Sem.run_bind, run_underlying hu, Result.andThen]
    cases d <;> rfl
/-- A part of a value of many cells. -/
theorem part_ok {η : Nv} {t : TypeId} {c : Cells} {o : Nat} {cs : Array Value} (hfit : o + partSize P t ≤ cs.size) (hs : cs.size ≤ 32768) (hc : ∀ i y, cs[i]? = some y → SR η ((accC i).f c) y) (hu : P.underlying t ≠ none) (hi : P.info? t ≠ none) (w : World) :
    ∃ y, (part t cs o).run P w = .ok y w ∧ VR η ((partV P t).f c o) y := by
  have ha := run_isAgg (P := P) (t := t) w hu
  unfold partV
  unfold partSize at hfit
  unfold part
  cases hb : isAggT P t with
  | false =>
    rw [hb] at ha hfit
    simp only at hfit ⊢
    have hlt : o < cs.size := by omega
    refine ⟨cs[o], ?_, ?_⟩
    · simp [ha, hlt]
    · exact .sc (hc o _ (Array.getElem?_eq_getElem hlt))
  | true =>
    rw [hb] at ha hfit
    simp only at hfit ⊢
    obtain ⟨i, hi⟩ := Option.ne_none_iff_exists'.1 hi
    have hsz : sizeT P t = i.size := by simp [sizeT, hi]
    refine ⟨.agg (cs.extract o (o + i.size)), ?_, ?_⟩
    · simp [ha, run_sizeOf' hi]
    · rw [hsz] at hfit ⊢
      have hsize : (cs.extract o (o + i.size)).size = i.size := by simp; omega
      refine .agg _ rfl hsize.symm (by omega) fun j y hy => ?_
      have hj : j < i.size := by
        rcases Nat.lt_or_ge j i.size with h' | h'
        · exact h'
        · rw [Array.getElem?_eq_none (by omega)] at hy; cases hy
      show SR η ((accC j).f ((subC o).f c)) y
      rw [accC_sub o j c (by omega)]
      refine hc (o + j) y ?_
      rw [Array.getElem?_extract, if_pos (by omega)] at hy
      exact hy
theorem field_ok {t : TypeId} {x : Operand} {f : Nat} : PureOk P N ρ (.field t x f) (fieldC P N t x f) := by
  unfold fieldC
  split
  · rename_i q hq
    split
    · rename_i hok
      intro call A S v S' h
      simp only at h ⊢
      obtain ⟨h1, h2⟩ := chk_ok h
      obtain ⟨h3, h4⟩ := and_ok h1
      cases h2
      refine ⟨rfl, fun _ _ => by rw [h1]; rfl, fun η a w ob _ ho hop => ?_⟩
      obtain ⟨cs, e, ha, hs, hc⟩ := (hop x (by simp [Op.operands])).asAgg (beq_ok h3)
      obtain ⟨fs, hd, hf⟩ := fieldOf_ok hq
      have hfit := ble_ok h4
      rw [ha] at hfit
      obtain ⟨y, hy, hv⟩ := part_ok (P := P) (η := η) (t := q.type) (c := ((opd N x).f A).cs) (o := q.offset) (cs := cs) hfit hs hc hok.1 hok.2 w
      refine ⟨y, ?_, hv⟩
      simp only [execOp, ho, e, Instr.field]
      simp [run_under hd (by simp), hf, asAgg, hy]
    · exact pure_bad
  · exact pure_bad
theorem strOf_byte : ∀ (l : List UInt8) (j : Nat) (b : UInt8), l[j]? = some b → byteAt (strOf l) j = b.toNat
  | [], j, b, h => by simp at h
  | x :: r, 0, b, h => by
    simp at h; subst h
    show (x.toNat + 256 * strOf r) / 256 ^ 0 % 256 = x.toNat
    have := x.toNat_lt
    rw [Nat.pow_zero, Nat.div_one]
    omega
  | x :: r, j + 1, b, h => by
    have ih := strOf_byte r j b (by simpa using h)
    have hx := x.toNat_lt
    show (x.toNat + 256 * strOf r) / 256 ^ (j + 1) % 256 = b.toNat
    rw [Nat.pow_succ, Nat.mul_comm (256 ^ j) 256, ← Nat.div_div_eq_div_mul]
    rw [show (x.toNat + 256 * strOf r) / 256 = strOf r by omega]
    exact ih
theorem strOf_lt : ∀ (l : List UInt8), strOf l < 256 ^ l.length
  | [] => by decide
  | x :: r => by
    have ih := strOf_lt r
    have hx := x.toNat_lt
    show x.toNat + 256 * strOf r < 256 ^ (r.length + 1)
    rw [Nat.pow_succ]
    omega
theorem strOf_app : ∀ (a b : List UInt8), strOf (a ++ b) = strOf a + 256 ^ a.length * strOf b
  | [], b => by simp [strOf]
  | x :: r, b => by
    have ih := strOf_app r b
    show x.toNat + 256 * strOf (r ++ b) = x.toNat + 256 * strOf r + 256 ^ (r.length + 1) * strOf b
    rw [ih, Nat.pow_succ, Nat.mul_comm (256 ^ r.length) 256, Nat.mul_assoc, Nat.mul_add]
    omega
theorem strOf_inj : ∀ (a b : List UInt8), a.length = b.length → strOf a = strOf b → a = b
  | [], [], _, _ => rfl
  | [], _ :: _, h, _ => by simp at h
  | _ :: _, [], h, _ => by simp at h
  | x :: r, y :: s, hl, h => by
    have hx := x.toNat_lt
    have hy := y.toNat_lt
    have h' : x.toNat + 256 * strOf r = y.toNat + 256 * strOf s := h
    have e1 : x.toNat = y.toNat := by omega
    rw [strOf_inj r s (by simpa using hl) (by omega), UInt8.toNat_inj.1 e1]
theorem strOf_drop (l : List UInt8) (n : Nat) (h : n ≤ l.length) : strOf (l.drop n) = strOf l / 256 ^ n := by
  have h1 := strOf_app (l.take n) (l.drop n)
  rw [List.take_append_drop] at h1
  have h2 := strOf_lt (l.take n)
  have hl : (l.take n).length = n := by simp; omega
  rw [hl] at h1 h2
  rw [h1, Nat.add_mul_div_left _ _ (Nat.pow_pos (by decide)), Nat.div_eq_of_lt h2, Nat.zero_add]
theorem strOf_take (l : List UInt8) (n : Nat) (h : n ≤ l.length) : strOf (l.take n) = strOf l % 256 ^ n := by
  have h1 := strOf_app (l.take n) (l.drop n)
  rw [List.take_append_drop] at h1
  have h2 := strOf_lt (l.take n)
  have hl : (l.take n).length = n := by simp; omega
  rw [hl] at h1 h2
  rw [h1, Nat.add_mul_mod_self_left, Nat.mod_eq_of_lt h2]
theorem VR.byte {η : Nv} {n : Nat} (h : n < 256) : VR η (Exec.mkI (kcode .u8) n) (.int .u8 (n : Int)) := by
  have := VR.mkI (η := η) .u8 (n := n) h
  rwa [IntWalk.u8_in (n : Int) (by omega)] at this
theorem index_ok {t : TypeId} {x i : Operand} : PureOk P N ρ (.index t x i) (indexC P N t x i) := by
  unfold indexC
  split
  · rename_i len e hd
    split
    · rename_i hok
      intro call A S v S' h
      simp only at h ⊢
      obtain ⟨hi, h2, hi2⟩ := idxN_ok h
      obtain ⟨h1, h2⟩ := chk_ok h2
      obtain ⟨h5, h6⟩ := and_ok h1
      obtain ⟨h3, h4⟩ := and_ok h6
      cases h2
      refine ⟨rfl, fun _ _ => by rw [hi2, h1]; rfl, fun η a w ob _ ho hop => ?_⟩
      obtain ⟨cs, ex, ha, hs, hc⟩ := (hop x (by simp [Op.operands])).asAgg (beq_ok h3)
      obtain ⟨k, ei⟩ := idx_val (hop i (by simp [Op.operands])) hi
      have hfit := ble_ok h4
      rw [ha] at hfit
      obtain ⟨j, hj⟩ := Option.ne_none_iff_exists'.1 hok.2
      have hsz : sizeT P e = j.size := by simp [sizeT, hj]
      obtain ⟨y, hy, hv⟩ := part_ok (P := P) (η := η) (t := e) (c := ((opd N x).f A).cs) (o := ((opd N i).f A).s.a * sizeT P e) (cs := cs) hfit hs hc hok.1 hok.2 w
      refine ⟨y, ?_, hv⟩
      have hlt := blt_ok h5
      rw [hsz] at hy
      simp only [execOp, ho, ex, ei, Instr.index]
      simp [run_under hd (by simp), asIntOf, hlt, run_sizeOf' hj, hy]
    · exact pure_bad
  · rename_i hd
    intro call A S v S' h
    simp only at h ⊢
    obtain ⟨hi, h2, hi2⟩ := idxN_ok h
    obtain ⟨h1, h2⟩ := chk_ok h2
    obtain ⟨h3, h4⟩ := and_ok h1
    cases h2
    refine ⟨rfl, fun _ _ => by rw [hi2, h1]; rfl, fun η a w ob _ ho hop => ?_⟩
    obtain ⟨t, ex, ha, hb⟩ := ((hop x (by simp [Op.operands])).asSc (by rw [beq_ok h3]; omega)).asStr (beq_ok h3)
    obtain ⟨k, ei⟩ := idx_val (hop i (by simp [Op.operands])) hi
    have hlt := blt_ok h4
    generalize ((opd N i).f A).s.a = j at *
    rw [ha] at hlt
    have hj : j < t.data.size := by simpa using hlt
    have hbyte : byteAt ((opd N x).f A).s.b j = t.data[j].toNat := by
      rw [hb]
      exact strOf_byte t.data.toList j t.data[j] (by simp)
    rw [hbyte]
    refine ⟨_, ?_, VR.byte t.data[j].toNat_lt⟩
    have hget : t[j]? = some t.data[j] := by
      have hj' : j < t.size := hj
      rw [getElem?_pos t j hj']
      rfl
    simp only [execOp, ho, ex, ei, Instr.index]
    simp [run_under hd (by simp), asIntOf, hget]
  · exact pure_bad
end Go.Exec

namespace Go.Exec
open Go
variable {P : Program} {N : Nat} {ρ : Nat → Int} {H : Hy}
theorem s2a_ok {t : TypeId} {x : Operand} {n : Nat} {e : TypeId} (hd : desc P t = .array n e) : PureOk P N ρ (.sliceToArrayPointer t x)
    ⟨fun _ A S => chk (Bool.and (isSl ((opd N x).f A)) (Nat.ble n ((opd N x).f A).s.c)) (force ((opd N x).f A).s.a (fun m => force ((opd N x).f A).s.b (fun o => .ok (mkP m o) S) .no) .no)⟩ := by
  intro call A S v S' h
  simp only at h ⊢
  obtain ⟨h1, h2⟩ := chk_ok h
  obtain ⟨h3, h4⟩ := and_ok h1
  cases h2
  refine ⟨rfl, fun _ _ => by rw [h1]; rfl, fun η a w ob _ ho hop => ?_⟩
  obtain ⟨b, cap, hb, ex, -, -, -⟩ := isSl_ok h3 (hop x (by simp [Op.operands]))
  refine ⟨_, ?_, VR.ptr _ (.inl hb)⟩
  have hle := ble_ok h4
  simp only [execOp, ho, ex, Instr.arrayAt]
  simp [run_under hd (by simp), Nat.not_lt.2 hle]
theorem shift_val (k : IntKind) {s : Nat} (h : s ≤ 127) : (k.wrap (s : Int)) = s := by
  by_cases hk : s < kmod k / 2
  · exact wrap_small k hk
  · exfalso; cases k <;> simp only [kmod] at hk <;> omega
theorem exec_shift (a : Act) (ob : Oper) {op : BinOp} {t ty : TypeId} {x y : Operand} (h : ob.op = .binOp op t x y ty) (hop : op = .shl ∨ op = .shr) (w : World) {k j : IntKind} {n m : Int} (hx : a.eval x = .int k n) (hy : a.eval y = .int j m) {r : Value} (hr : (Op.shift op k n j m).run P w = .ok r w) :
    (execOp a.eval ob).run P w = .ok (.value r) w := by
  simp only [execOp, h, hx, hy]
  have hg : eqGuard op t x y (.int k n) (.int j m) = pure () := by cases op <;> rfl
  rw [hg]
  rcases hop with rfl | rfl
  · rw [binOp_shl]; simp [hr]
  · rw [binOp_shr]; simp [hr]
theorem pow_cast (n : Nat) : ((2 ^ n : Nat) : Int) = 2 ^ n := by simp
theorem shl_ok (hH : HyAt P ρ H) {k : IntKind} {t ty : TypeId} {x y : Operand} : PureOk P N ρ (.binOp .shl t x y ty) (shiftC H N .shl k shlN x y) := by
  unfold shiftC
  intro call A S v S' h
  simp only at h ⊢
  obtain ⟨h4, h2⟩ := chk_ok h
  obtain ⟨h5, h6⟩ := and_ok h4
  obtain ⟨h7, h8⟩ := and_ok h5
  rcases iff_ok h2 with ⟨h3, h2⟩ | ⟨h3, h2⟩
  rotate_left
  · obtain ⟨g1, g2⟩ := chk_ok h2
    cases hb2 : H.sh .shl k ((opd N x).f A).s ((opd N y).f A).s.a with
    | none => rw [hb2] at g2; cases g2
    | some s =>
      rw [hb2] at g2
      cases g2
      refine ⟨rfl, fun call2 S2 => by simp only [h4, h3, g1, iff, chk, symR], fun η a w ob hρ ho hop => ?_⟩
      have q1 := (hop x (by simp [Op.operands])).asSc (isIk_le g1)
      obtain ⟨n1, e1⟩ := q1.asIk g1
      rw [e1] at q1
      obtain ⟨j, -, ey, ly⟩ := ((hop y (by simp [Op.operands])).asSc (by have := ble_ok h8; omega)).asAnyInt (ble_ok h7) (ble_ok h8)
      rw [shift_val j (ble_ok h6)] at ey
      obtain ⟨r, hr, hv⟩ := hH.sh .shl k j _ _ s η w n1 hρ hb2 (ble_ok h6) q1 (.inl rfl)
      exact ⟨r, exec_shift a ob ho (.inl rfl) w e1 ey hr, .sc hv⟩
  obtain ⟨rfl, h9⟩ := okI1 h2
  refine ⟨rfl, fun _ S2 => by simp only [h4, h3, chk, iff]; exact h9 S2, fun η a w ob _ ho hop => ?_⟩
  obtain ⟨ex, lx⟩ := ((hop x (by simp [Op.operands])).asSc (by rw [beq_ok h3]; have := kcode_ge k; omega)).asInt (beq_ok h3)
  obtain ⟨j, -, ey, ly⟩ := ((hop y (by simp [Op.operands])).asSc (by have := ble_ok h8; omega)).asAnyInt (ble_ok h7) (ble_ok h8)
  rw [shift_val j (ble_ok h6)] at ey
  cases h2
  refine ⟨_, exec_shift a ob ho (.inl rfl) w ex ey (by unfold Op.shift; rw [if_neg (by omega)]; rfl), ?_⟩
  have := VR.mkI (η := η) k (mod_lt k (((opd N x).f A).s.a * 2 ^ (min ((opd N y).f A).s.a k.bits)))
  have e : k.wrap (k.wrap (((opd N x).f A).s.a : Int) * 2 ^ (min (((opd N y).f A).s.a : Int).toNat k.bits)) = k.wrap ((Nat.mod (((opd N x).f A).s.a * 2 ^ (min ((opd N y).f A).s.a k.bits)) (kmod k) : Nat) : Int) := by
    apply wrap_congr
    rw [Int.toNat_natCast, Int.mul_emod, wrap_mod, ← Int.mul_emod]
    show _ = ((((((opd N x).f A).s.a * 2 ^ (min ((opd N y).f A).s.a k.bits)) % kmod k : Nat) : Int)) % (kmod k : Int)
    rw [Int.natCast_emod, Int.emod_emod_of_dvd _ (Int.dvd_refl _), Int.natCast_mul, pow_cast]
  rw [e]
  exact this
theorem or_false' {a b : Bool} (h : Bool.or a b = false) : a = false ∧ b = false := by cases a <;> cases b <;> first | exact ⟨rfl, rfl⟩ | cases h
theorem sgn_iff (k : IntKind) (r : Nat) : Bool.or (Nat.beq (khalf k) 0) (Nat.blt r (khalf k)) = true ↔ (khalf k = 0 ∨ r < khalf k) := by
  constructor
  · intro h
    rcases or_ok h with h | h
    · exact .inl (beq_ok h)
    · exact .inr (blt_ok h)
  · intro h
    cases hb : Bool.or (Nat.beq (khalf k) 0) (Nat.blt r (khalf k))
    · obtain ⟨h1, h2⟩ := or_false' hb
      rcases h with h | h
      · exact absurd h (beq_no h1)
      · have := blt_no h2; omega
    · rfl
theorem toI_eq (k : IntKind) {r : Nat} (h : r < kmod k) : toI k r = k.wrap (r : Int) := by
  rw [wrap_nat k h]
  unfold toI
  by_cases hc : khalf k = 0 ∨ r < khalf k
  · rw [if_pos hc, (sgn_iff k r).2 hc]; rfl
  · have : Bool.or (Nat.beq (khalf k) 0) (Nat.blt r (khalf k)) = false := by rw [Bool.eq_false_iff]; exact fun e => hc ((sgn_iff k r).1 e)
    rw [if_neg hc, this]; rfl
theorem wrap_neg_in (k : IntKind) {n : Int} (h0 : n < 0) (h1 : -(khalf k : Int) ≤ n) : k.wrap n = n := by
  cases k <;> simp [IntKind.wrap, IntKind.bits, IntKind.signed, khalf] at * <;> (try split) <;> omega
theorem shrN_val (k : IntKind) {r : Nat} (s : Nat) (lx : r < kmod k) : (k.wrap (r : Int)).fdiv (2 ^ (min s k.bits)) = k.wrap ((shrN k r s : Nat) : Int) ∧ shrN k r s < kmod k := by
  have hp : 0 < 2 ^ (min s k.bits) := Nat.pow_pos (by decide)
  have hpc : ((2 : Int) ^ (min s k.bits)) = ((2 ^ (min s k.bits) : Nat) : Int) := (pow_cast _).symm
  unfold shrN
  rw [hpc, Int.fdiv_eq_ediv_of_nonneg _ (by omega)]
  show _ = k.wrap ((Bool.rec (motive := fun _ => Nat) (ofI k (Int.fdiv (toI k r) (Int.ofNat (2 ^ (min s k.bits))))) (r / (2 ^ (min s k.bits))) (Bool.or (Nat.beq (khalf k) 0) (Nat.blt r (khalf k))) : Nat) : Int) ∧
    (Bool.rec (motive := fun _ => Nat) (ofI k (Int.fdiv (toI k r) (Int.ofNat (2 ^ (min s k.bits))))) (r / (2 ^ (min s k.bits))) (Bool.or (Nat.beq (khalf k) 0) (Nat.blt r (khalf k)))) < kmod k
  generalize 2 ^ (min s k.bits) = p at *
  by_cases hc : khalf k = 0 ∨ r < khalf k
  · rw [(sgn_iff k r).2 hc]
    have hd : r / p ≤ r := Nat.div_le_self r p
    have hl : r / p < kmod k := by omega
    refine ⟨?_, hl⟩
    show _ = k.wrap ((r / p : Nat) : Int)
    rw [wrap_nat k lx, if_pos hc, wrap_nat k hl, if_pos (by omega), Int.natCast_ediv]
  · have hf : Bool.or (Nat.beq (khalf k) 0) (Nat.blt r (khalf k)) = false := by rw [Bool.eq_false_iff]; exact fun e => hc ((sgn_iff k r).1 e)
    rw [hf]
    refine ⟨?_, res_lt k _⟩
    show _ = k.wrap ((ofI k (Int.fdiv (toI k r) (Int.ofNat p)) : Nat) : Int)
    unfold ofI
    rw [wrap_res, toI_eq k lx, show Int.ofNat p = (p : Int) from rfl, Int.fdiv_eq_ediv_of_nonneg _ (by omega)]
    have hw : k.wrap (r : Int) = (r : Int) - kmod k := by rw [wrap_nat k lx, if_neg hc]
    rw [hw]
    have h2 : kmod k = 2 * khalf k := by cases k <;> simp [kmod, khalf] at * 
    have hneg : ((r : Int) - kmod k) < 0 := by omega
    have hge : -(khalf k : Int) ≤ (r : Int) - kmod k := by omega
    generalize (r : Int) - kmod k = x at *
    symm
    apply wrap_neg_in
    · exact Int.ediv_neg_of_neg_of_pos hneg (by omega)
    · have : x ≤ x / (p : Int) := by
        have h3 : x / (p : Int) * p + x % p = x := Int.ediv_mul_add_emod x p
        have h4 := Int.emod_nonneg x (show (p : Int) ≠ 0 by omega)
        have h5 : x / (p : Int) < 0 := Int.ediv_neg_of_neg_of_pos hneg (by omega)
        have h6 : x / (p : Int) * p ≤ x / (p : Int) * 1 := Int.mul_le_mul_of_nonpos_left (by omega) (by omega)
        have h7 := Int.emod_lt_of_pos x (show 0 < (p : Int) by omega)
        rcases Int.lt_or_le (x / (p : Int)) x with h8 | h8
        · exfalso
          have h9 : (x / (p : Int) + 1) ≤ x := by omega
          have h10 : (x / (p : Int) + 1) * p ≤ (x / (p : Int) + 1) * 1 := Int.mul_le_mul_of_nonpos_left (by omega) (by omega)
          rw [Int.add_mul] at h10
          omega
        · exact h8
      omega
theorem shr_ok (hH : HyAt P ρ H) {k : IntKind} {t ty : TypeId} {x y : Operand} : PureOk P N ρ (.binOp .shr t x y ty) (shiftC H N .shr k shrN x y) := by
  unfold shiftC
  intro call A S v S' h
  simp only at h ⊢
  obtain ⟨h4, h2⟩ := chk_ok h
  obtain ⟨h5, h6⟩ := and_ok h4
  obtain ⟨h7, h8⟩ := and_ok h5
  rcases iff_ok h2 with ⟨h3, h2⟩ | ⟨h3, h2⟩
  rotate_left
  · obtain ⟨g1, g2⟩ := chk_ok h2
    cases hb2 : H.sh .shr k ((opd N x).f A).s ((opd N y).f A).s.a with
    | none => rw [hb2] at g2; cases g2
    | some s =>
      rw [hb2] at g2
      cases g2
      refine ⟨rfl, fun call2 S2 => by simp only [h4, h3, g1, iff, chk, symR], fun η a w ob hρ ho hop => ?_⟩
      have q1 := (hop x (by simp [Op.operands])).asSc (isIk_le g1)
      obtain ⟨n1, e1⟩ := q1.asIk g1
      rw [e1] at q1
      obtain ⟨j, -, ey, ly⟩ := ((hop y (by simp [Op.operands])).asSc (by have := ble_ok h8; omega)).asAnyInt (ble_ok h7) (ble_ok h8)
      rw [shift_val j (ble_ok h6)] at ey
      obtain ⟨r, hr, hv⟩ := hH.sh .shr k j _ _ s η w n1 hρ hb2 (ble_ok h6) q1 (.inr rfl)
      exact ⟨r, exec_shift a ob ho (.inr rfl) w e1 ey hr, .sc hv⟩
  obtain ⟨rfl, h9⟩ := okI1 h2
  refine ⟨rfl, fun _ S2 => by simp only [h4, h3, chk, iff]; exact h9 S2, fun η a w ob _ ho hop => ?_⟩
  obtain ⟨ex, lx⟩ := ((hop x (by simp [Op.operands])).asSc (by rw [beq_ok h3]; have := kcode_ge k; omega)).asInt (beq_ok h3)
  obtain ⟨j, -, ey, ly⟩ := ((hop y (by simp [Op.operands])).asSc (by have := ble_ok h8; omega)).asAnyInt (ble_ok h7) (ble_ok h8)
  rw [shift_val j (ble_ok h6)] at ey
  cases h2
  refine ⟨_, exec_shift a ob ho (.inr rfl) w ex ey (by unfold Op.shift; rw [if_neg (by omega)]; rfl), ?_⟩
  rw [Int.toNat_natCast]
  obtain ⟨e, hl⟩ := shrN_val k ((opd N y).f A).s.a lx
  rw [e]
  exact VR.mkI k hl
theorem neg_ok (hH : HyAt P ρ H) {k : IntKind} {t : TypeId} {x : Operand} : PureOk P N ρ (.unOp .neg t x) ⟨fun _ A S => iff (Nat.beq ((opd N x).f A).s.tag (kcode k)) (okI k (Nat.mod (Nat.sub (kmod k) ((opd N x).f A).s.a) (kmod k)) S) (chk (isIk k ((opd N x).f A).s) (symR (H.neg k ((opd N x).f A).s) S))⟩ := by
  intro call A S v S' h
  simp only at h ⊢
  rcases iff_ok h with ⟨h1, h2⟩ | ⟨h1, h2⟩
  rotate_left
  · obtain ⟨g1, g2⟩ := chk_ok h2
    cases hb2 : H.neg k ((opd N x).f A).s with
    | none => rw [hb2] at g2; cases g2
    | some s =>
      rw [hb2] at g2
      cases g2
      refine ⟨rfl, fun call2 S2 => by simp only [h1, g1, iff, chk, symR], fun η a w ob hρ ho hop => ?_⟩
      have q1 := (hop x (by simp [Op.operands])).asSc (isIk_le g1)
      obtain ⟨n1, e1⟩ := q1.asIk g1
      rw [e1] at q1
      exact ⟨.int k (k.wrap (0 - n1)), by simp only [execOp, ho, e1]; rfl, .sc (hH.neg k _ s η n1 hρ hb2 q1)⟩
  cases h2
  refine ⟨rfl, fun _ _ => by rw [h1]; rfl, fun η a w ob _ ho hop => ?_⟩
  obtain ⟨ex, lx⟩ := ((hop x (by simp [Op.operands])).asSc (by rw [beq_ok h1]; have := kcode_ge k; omega)).asInt (beq_ok h1)
  refine ⟨.int k (k.wrap (0 - k.wrap (((opd N x).f A).s.a : Int))), by simp only [execOp, ho, ex]; rfl, ?_⟩
  rw [wrap_neg k _ lx]
  exact VR.mkI k (mod_lt k _)
theorem not_ok' {t : TypeId} {x : Operand} : PureOk P N ρ (.unOp .not t x) ⟨fun _ A S => chk (Nat.beq ((opd N x).f A).s.tag 1) (okB (Nat.beq ((opd N x).f A).s.a 0) S)⟩ := by
  intro call A S v S' h
  simp only at h ⊢
  obtain ⟨h1, h2⟩ := chk_ok h
  obtain ⟨rfl, h3⟩ := okB1 h2
  refine ⟨rfl, fun _ S2 => by rw [h1]; exact h3 S2, fun η a w ob _ ho hop => ?_⟩
  obtain ⟨b, ex, e⟩ := ((hop x (by simp [Op.operands])).asSc (by rw [beq_ok h1]; omega)).asBool (beq_ok h1)
  refine ⟨.bool (!b), by simp only [execOp, ho, ex]; rfl, okB2 η h2 ?_⟩
  rw [e]; cases b <;> rfl
theorem makeInterface_ok {t : TypeId} {x : Operand} (hd : P.underlying t ≠ none) (hi : ∀ ms, desc P t ≠ .interface ms) : PureOk P N ρ (.makeInterface t x) ⟨fun _ A S => chk (Nat.ble ((opd N x).f A).s.tag 97) (.ok (vS ⟨9, t, 0, 0, 0, [((opd N x).f A).s], []⟩) S)⟩ := by
  intro call A S v S' h
  simp only at h ⊢
  obtain ⟨h1, h2⟩ := chk_ok h
  cases h2
  refine ⟨rfl, fun _ _ => by rw [h1]; rfl, fun η a w ob _ ho hop => ?_⟩
  have hx := (hop x (by simp [Op.operands])).asSc (ble_ok h1)
  refine ⟨.iface t (a.eval x), ?_, .sc (.ifc (s := ⟨9, t, 0, 0, 0, [((opd N x).f A).s], []⟩) _ rfl (.cons hx .nil))⟩
  obtain ⟨d, hu⟩ := Option.ne_none_iff_exists'.1 hd
  have hdd : desc P t = d := by simp [desc, hu]
  simp only [execOp, ho, Instr.makeInterface]
  simp only [Sem.run_bind, run_underlying hu, Result.andThen]
  cases d <;> first | rfl | exact absurd hdd (hi _)
theorem scs_ok : ∀ {vs : List V} {k : List Sc → Ans} {v : V} {S : St}, scs vs k = .ok v S → (∀ u ∈ vs, u.s.tag ≤ 97) ∧ k (vs.map (·.s)) = .ok v S ∧ ∀ k', scs vs k' = k' (vs.map (·.s))
  | [], k, v, S, h => ⟨fun _ h => (by cases h), h, fun _ => rfl⟩
  | u :: r, k, v, S, h => by
    have h' : chk (Nat.ble u.s.tag 97) (scs r (fun l => k (u.s :: l))) = .ok v S := h
    obtain ⟨h1, h2⟩ := chk_ok h'
    obtain ⟨h3, h4, h5⟩ := scs_ok h2
    refine ⟨fun x hx => ?_, h4, fun k' => ?_⟩
    · rcases List.mem_cons.1 hx with rfl | hx
      · exact ble_ok h1
      · exact h3 x hx
    · show chk (Nat.ble u.s.tag 97) (scs r (fun l => k' (u.s :: l))) = _
      rw [h1]; exact h5 _
theorem VRL.scs {η : Nv} : ∀ {vs : List V} {xs : List Value}, VRL η vs xs → (∀ u ∈ vs, u.s.tag ≤ 97) → SRL η (vs.map (·.s)) xs
  | _, _, .nil, _ => .nil
  | _, _, .cons h hs, hu => .cons (h.asSc (hu _ (by simp))) (VRL.scs hs fun u hx => hu u (by simp [hx]))
theorem makeFunc_ok {f : FuncId} {fs cs : Array Operand} : PureOk P N ρ (.makeFunc (.func f) fs cs) ⟨fun _ A S => scs ((opds N fs.toList).f A) (fun a => scs ((opds N cs.toList).f A) (fun b => .ok (vS ⟨7, f, 0, 0, 0, a, b⟩) S))⟩ := by
  intro call A S v S' h
  simp only at h ⊢
  obtain ⟨h1, h2, h3⟩ := scs_ok h
  obtain ⟨h4, h5, h6⟩ := scs_ok h2
  cases h5
  refine ⟨rfl, fun _ _ => by rw [h3, h6], fun η a w ob _ ho hop => ?_⟩
  have hf := VRL.scs (VRL.opds fs.toList fun x hx => hop x (by show x ∈ (fs ++ cs).toList; rw [Array.toList_append]; exact List.mem_append.2 (.inl hx))) h1
  have hc := VRL.scs (VRL.opds cs.toList fun x hx => hop x (by show x ∈ (fs ++ cs).toList; rw [Array.toList_append]; exact List.mem_append.2 (.inr hx))) h4
  refine ⟨.func (.func f) (fs.map a.eval) (cs.map a.eval), by simp only [execOp, ho, Instr.makeFunc]; rfl, ?_⟩
  have := SR.fn (η := η) (s := ⟨7, f, 0, 0, 0, ((opds N fs.toList).f A).map (·.s), ((opds N cs.toList).f A).map (·.s)⟩) _ _ rfl hf hc
  have e1 : fs.map a.eval = (fs.toList.map a.eval).toArray := by apply Array.ext'; rw [Array.toList_map]
  have e2 : cs.map a.eval = (cs.toList.map a.eval).toArray := by apply Array.ext'; rw [Array.toList_map]
  rw [e1, e2]
  exact .sc this
end Go.Exec

namespace Go.Exec
open Go
variable {P : Program} {N : Nat} {ρ : Nat → Int} {H : Hy}
theorem conv_val (k k' : IntKind) {a : Nat} (h : a < kmod k) :
    k'.wrap (((Bool.rec (motive := fun _ => Nat) (ofI k' (toI k a)) (Nat.mod a (kmod k')) (Bool.or (Nat.beq (khalf k) 0) (Nat.blt a (khalf k)))) : Nat) : Int) = k'.wrap (k.wrap (a : Int)) ∧
    (Bool.rec (motive := fun _ => Nat) (ofI k' (toI k a)) (Nat.mod a (kmod k')) (Bool.or (Nat.beq (khalf k) 0) (Nat.blt a (khalf k)))) < kmod k' := by
  by_cases hc : khalf k = 0 ∨ a < khalf k
  · rw [(sgn_iff k a).2 hc]
    refine ⟨?_, mod_lt k' a⟩
    rw [wrap_nat k h, if_pos hc]
    apply wrap_congr
    show (((a % kmod k' : Nat) : Int)) % (kmod k' : Int) = _
    rw [Int.natCast_emod, Int.emod_emod_of_dvd _ (Int.dvd_refl _)]
  · have hf : Bool.or (Nat.beq (khalf k) 0) (Nat.blt a (khalf k)) = false := by rw [Bool.eq_false_iff]; exact fun e => hc ((sgn_iff k a).1 e)
    rw [hf]
    refine ⟨?_, res_lt k' _⟩
    show k'.wrap ((ofI k' (toI k a) : Nat) : Int) = _
    unfold ofI
    rw [wrap_res, toI_eq k h]
theorem convI_ok (hH : HyAt P ρ H) {src dst : TypeId} {x : Operand} {k k' : IntKind} (hs : desc P src = .int k) (hd : desc P dst = .int k') : PureOk P N ρ (.convert src dst x) (convC H P N src dst x) := by
  unfold convC
  rw [hs, hd]
  intro call A S v S' h
  simp only at h ⊢
  rcases iff_ok h with ⟨h1, h2⟩ | ⟨h1, h2⟩
  · cases h2
    refine ⟨rfl, fun _ _ => by rw [h1]; rfl, fun η a w ob _ ho hop => ?_⟩
    obtain ⟨ex, lx⟩ := ((hop x (by simp [Op.operands])).asSc (by rw [beq_ok h1]; have := kcode_ge k; omega)).asInt (beq_ok h1)
    obtain ⟨e, hl⟩ := conv_val k k' lx
    refine ⟨.int k' (k'.wrap (k.wrap (((opd N x).f A).s.a : Int))), ?_, ?_⟩
    · simp only [execOp, ho, ex, convert]
      simp [run_under hs (by simp), run_under hd (by simp), Conv.intToInt]
    · rw [← e]; exact VR.mkI k' hl
  · obtain ⟨h3, h4⟩ := chk_ok h2
    cases hb : H.conv k k' ((opd N x).f A).s with
    | none => rw [hb] at h4; cases h4
    | some s =>
      rw [hb] at h4
      cases h4
      refine ⟨rfl, fun _ _ => by simp only [h1, h3, iff, chk, symR], fun η a w ob hρ ho hop => ?_⟩
      have q1 := (hop x (by simp [Op.operands])).asSc (isIk_le h3)
      obtain ⟨n1, ex⟩ := q1.asIk h3
      rw [ex] at q1
      refine ⟨.int k' (k'.wrap n1), ?_, .sc (hH.conv k k' _ s η n1 hρ hb q1)⟩
      simp only [execOp, ho, ex, convert]
      simp [run_under hs (by simp), run_under hd (by simp), Conv.intToInt]
theorem lenV_ok {x : V} {k : Nat → Ans} {v : V} {S : St} (h : lenV x k = .ok v S) : ∃ n, k n = .ok v S ∧ (∀ k', lenV x k' = k' n) ∧ ((isSl x = true ∧ n = x.s.c) ∨ (x.s.tag = 2 ∧ n = x.s.a) ∨ (x.s.tag = 5 ∧ n = 0)) := by
  rcases iff_ok h with ⟨h1, h2⟩ | ⟨h1, h2⟩
  · exact ⟨x.s.c, h2, fun k' => by simp only [lenV, h1, iff]; rfl, .inl ⟨h1, rfl⟩⟩
  · rcases iff_ok h2 with ⟨h3, h4⟩ | ⟨h3, h4⟩
    · exact ⟨x.s.a, h4, fun k' => by simp only [lenV, h1, h3, iff]; rfl, .inr (.inl ⟨beq_ok h3, rfl⟩)⟩
    · rcases iff_ok h4 with ⟨h5, h6⟩ | ⟨h5, h6⟩
      · exact ⟨0, h6, fun k' => by simp only [lenV, h1, h3, h5, iff], .inr (.inr ⟨beq_ok h5, rfl⟩)⟩
      · cases h6
/-- What has a length: a slice, a nil slice or a string, as the model reads it. -/
theorem len_val {η : Nv} {x : V} {u : Value} {n : Nat} (hv : VR η x u) (h : (isSl x = true ∧ n = x.s.c) ∨ (x.s.tag = 2 ∧ n = x.s.a) ∨ (x.s.tag = 5 ∧ n = 0)) :
    (∃ b cap, η.σ x.s.a = some b ∧ u = .slice (some ⟨b, x.s.b, none⟩) n cap ∧ n ≤ cap ∧ n = x.s.c ∧ isSl x = true ∧ (x.s.tag = 6 → cap = x.s.d) ∧ (x.s.tag = 12 → cap = η.κ x.s.a - x.s.d ∧ x.s.d + x.s.c ≤ η.κ x.s.a)) ∨ (∃ t : ByteArray, u = .string t ∧ n = t.data.toList.length ∧ x.s.tag = 2 ∧ x.s.b = strOf t.data.toList) ∨ (u = .slice none 0 0 ∧ n = 0 ∧ x.s.tag = 5) := by
  rcases h with ⟨h1, rfl⟩ | ⟨h1, rfl⟩ | ⟨h1, rfl⟩
  · obtain ⟨b, cap, hb, e, hc, h6, h12⟩ := isSl_ok h1 hv
    exact .inl ⟨b, cap, hb, e, hc, rfl, h1, h6, h12⟩
  · obtain ⟨t, e, ha, hb⟩ := (hv.asSc (by omega)).asStr h1
    exact .inr (.inl ⟨t, e, ha, h1, hb⟩)
  · exact .inr (.inr ⟨(hv.asSc (by omega)).asNils h1, rfl, h1⟩)
theorem i64_nat {n : Nat} (h : n < 9223372036854775808) : IntKind.i64.wrap (n : Int) = n := IntWalk.i64_in n (by omega)
theorem VR.i64 {η : Nv} {n : Nat} (h : n < 9223372036854775808) : VR η (Exec.mkI 19 n) (goInt n) := by
  have := VR.mkI (η := η) .i64 (n := n) (by simp only [kmod]; omega)
  rwa [i64_nat h] at this
theorem exec_builtin (a : Act) (ob : Oper) {b : Builtin} {xs : Array Operand} {ts : Array TypeId} (h : ob.op = .call ⟨.builtin b, xs, ts⟩) (w : World) :
    (execOp a.eval ob).run P w = (builtin b ts ob.type (xs.map fun | .const _ => true | _ => false) (xs.map a.eval)).run P w := by
  simp only [execOp, h, resolve]
  simp [invoke]
  rfl
theorem lenC_ok {t : TypeId} {ts : List TypeId} {x : Operand} {c : Call} (hc : c.callee = .builtin .len) (hx : c.args.toList = [x]) (ht : c.argTypes.toList = t :: ts) : PureOk P N ρ (.call c) (lenC P N t x) := by
  obtain ⟨cal, args, tys⟩ := c
  simp only at hc hx ht
  subst hc
  have hx' : args = #[x] := Array.ext' (by simpa using hx)
  subst hx'
  have ht' : tys[0]? = some t := by rw [← Array.getElem?_toList, ht]; rfl
  unfold lenC
  split
  · rename_i n e hd
    split
    · rename_i hn
      intro call A S v S' h
      cases h
      refine ⟨rfl, fun _ _ => rfl, fun η a w ob _ ho hop => ⟨goInt n, ?_, VR.i64 (blt_ok hn)⟩⟩
      rw [exec_builtin a ob ho w]
      simp [builtin, Builtin.len_, ht', run_under hd (by simp)]
    · exact pure_bad
  · rename_i q hd
    split
    · rename_i n e hd2
      split
      · rename_i hn
        intro call A S v S' h
        cases h
        refine ⟨rfl, fun _ _ => rfl, fun η a w ob _ ho hop => ⟨goInt n, ?_, VR.i64 (blt_ok hn)⟩⟩
        rw [exec_builtin a ob ho w]
        simp [builtin, Builtin.len_, ht', run_under hd (by simp), run_under hd2 (by simp)]
      · exact pure_bad
    · exact pure_bad
  · rename_i hd
    intro call A S v S' h
    simp only at h ⊢
    obtain ⟨h1, h2⟩ := chk_ok h
    obtain ⟨n, h3, h4, h5⟩ := lenV_ok h2
    obtain ⟨h6, h7⟩ := chk_ok h3
    cases h7
    refine ⟨rfl, fun _ _ => by rw [h1, h4, h6]; rfl, fun η a w ob _ ho hop => ⟨goInt n, ?_, VR.i64 (blt_ok h6)⟩⟩
    rw [exec_builtin a ob ho w]
    have ht2 := beq_ok h1
    rcases len_val (hop x (by simp [Op.operands, Call.operands])) h5 with ⟨b, cap, -, e, -, -, hs, -⟩ | ⟨t, e, hn, -⟩ | ⟨e, hn, h⟩
    · rcases or_ok hs with hs | hs <;> have := beq_ok hs <;> omega
    · have : t.size = n := by rw [hn]; simp
      simp [builtin, Builtin.len_, ht', run_under hd (by simp), e, this]
    · omega
  · rename_i q hd
    intro call A S v S' h
    simp only at h ⊢
    rcases iff_ok h with ⟨h0, h⟩ | ⟨h0, h⟩
    · cases h
      refine ⟨rfl, fun _ _ => by rw [h0]; rfl, fun η a w ob _ ho hop => ?_⟩
      obtain ⟨base, n, m, ex, hn⟩ : ∃ base n m, a.eval x = .slice base n m ∧ η.ρ ((opd N x).f A).s.b = (n : Int) := by
        rcases or_ok h0 with h0 | h0
        · obtain ⟨k, base, n, m, ex, -, hn, -⟩ := (hop x (by simp [Op.operands, Call.operands])).asArg (beq_ok h0)
          exact ⟨base, n, m, ex, hn⟩
        · obtain ⟨k, base, n, m, ex, -, hn, -⟩ := (hop x (by simp [Op.operands, Call.operands])).asArgx (beq_ok h0)
          exact ⟨base, n, m, ex, hn⟩
      refine ⟨.int .i64 (η.ρ ((opd N x).f A).s.b), ?_, .sc (.var (s := ⟨24, ((opd N x).f A).s.b, 19, 0, 0, [], []⟩) .i64 rfl rfl)⟩
      rw [exec_builtin a ob ho w, hn]
      simp [builtin, Builtin.len_, ht', run_under hd (by simp), ex, goInt]
    obtain ⟨h1, h2⟩ := chk_ok h
    obtain ⟨n, h3, h4, h5⟩ := lenV_ok h2
    obtain ⟨h6, h7⟩ := chk_ok h3
    cases h7
    refine ⟨rfl, fun _ _ => by rw [h0]; show chk _ _ = _; rw [h1, h4, h6]; rfl, fun η a w ob _ ho hop => ⟨goInt n, ?_, VR.i64 (blt_ok h6)⟩⟩
    rw [exec_builtin a ob ho w]
    have ht2 := beq_no (not_ok h1)
    rcases len_val (hop x (by simp [Op.operands, Call.operands])) h5 with ⟨b, cap, -, e, -, -, hs, -⟩ | ⟨t, e, hn, h, -⟩ | ⟨e, hn, h⟩
    · simp [builtin, Builtin.len_, ht', run_under hd (by simp), e]
    · exact absurd h ht2
    · subst hn
      simp [builtin, Builtin.len_, ht', run_under hd (by simp), e]
  · exact pure_bad
end Go.Exec

namespace Go.Exec
open Go
variable {P : Program} {N : Nat} {ρ : Nat → Int} {H : Hy}
theorem opt_ok {x : Option Operand} {d : Nat} {A : Env} {k : Nat → Ans} {v : V} {S : St} (h : opt N x d A k = .ok v S) : ∃ n, k n = .ok v S ∧ (∀ k', opt N x d A k' = k' n) ∧
    ∀ η a, (∀ y, x = some y → OR η N A a y) → (x = none ∧ n = d) ∨ ∃ y j, x = some y ∧ a.eval y = .int j (n : Int) := by
  cases x with
  | none => exact ⟨d, h, fun _ => rfl, fun _ _ _ => .inl ⟨rfl, rfl⟩⟩
  | some y =>
    obtain ⟨hi, h2, hi2⟩ := idxN_ok h
    refine ⟨_, h2, fun k' => hi2 k', fun η a ho => .inr ⟨y, ?_⟩⟩
    obtain ⟨j, e⟩ := idx_val (ho y rfl) hi
    exact ⟨j, rfl, e⟩
theorem run_sliceBound {y : Nat} {j : IntKind} {n : Nat} {code : BoundsCode} (h : n ≤ y) (w : World) : (Instr.sliceBound (.int j (n : Int)) y code).run P w = .ok n w := by
  unfold Instr.sliceBound
  simp only [asIntOf]
  simp [h]
/-- The bounds of a slice operation. -/
theorem run_bounds {a : Act} {lo hi mx : Option Operand} {l h m len cap : Nat} {b : Bool} (hl : (lo = none ∧ l = 0) ∨ ∃ y j, lo = some y ∧ a.eval y = .int j (l : Int)) (hh : (hi = none ∧ h = len) ∨ ∃ y j, hi = some y ∧ a.eval y = .int j (h : Int)) (hm : (mx = none ∧ m = cap) ∨ ∃ y j, mx = some y ∧ a.eval y = .int j (m : Int))
    (h1 : l ≤ h) (h2 : h ≤ m) (h3 : m ≤ cap) (hn : mx ≠ none → hi ≠ none) (w : World) :
    (Instr.sliceBounds b len cap (lo.map a.eval) (hi.map a.eval) (mx.map a.eval)).run P w = .ok (l, h, m) w := by
  unfold Instr.sliceBounds
  rcases hl with ⟨rfl, rfl⟩ | ⟨y1, j1, rfl, e1⟩ <;> rcases hh with ⟨rfl, rfl⟩ | ⟨y2, j2, rfl, e2⟩ <;> rcases hm with ⟨rfl, rfl⟩ | ⟨y3, j3, rfl, e3⟩ <;>
    simp_all [run_sliceBound]
theorem opt_mem {x : Option Operand} {y : Operand} (h : x = some y) : y ∈ x.toArray.toList := by subst h; simp
theorem VR.sl {η : Nv} {n b : Nat} (o : Nat) {len cap : Nat} (h : η.σ n = some b) (hc : len ≤ cap) : VR η (mkSl n o len cap) (.slice (some ⟨b, o, none⟩) len cap) := .sc (.sl (s := ⟨6, n, o, len, cap, [], []⟩) b rfl h hc)
theorem VR.su {η : Nv} {n b : Nat} (o : Nat) {len d : Nat} (h : η.σ n = some b) (hc : d + len ≤ η.κ n) : VR η (mkSu n o len d) (.slice (some ⟨b, o, none⟩) len (η.κ n - d)) := .sc (.su (s := ⟨12, n, o, len, d, [], []⟩) b rfl h hc)
theorem slice_ok {t : TypeId} {x : Operand} {lo hi mx : Option Operand} (hn : mx ≠ none → hi ≠ none) : PureOk P N ρ (.slice t x lo hi mx) (sliceC P N t x lo hi mx) := by
  have hx : x ∈ (Op.slice t x lo hi mx).operands.toList := by simp [Op.operands]
  have hlo : ∀ y, lo = some y → y ∈ (Op.slice t x lo hi mx).operands.toList := fun y e => by subst e; simp [Op.operands]
  have hhi : ∀ y, hi = some y → y ∈ (Op.slice t x lo hi mx).operands.toList := fun y e => by subst e; simp [Op.operands]
  have hmx : ∀ y, mx = some y → y ∈ (Op.slice t x lo hi mx).operands.toList := fun y e => by subst e; simp [Op.operands]
  unfold sliceC
  split
  · -- a string
    rename_i hd
    intro call A S v S' h
    simp only at h ⊢
    obtain ⟨h1, h2⟩ := chk_ok h
    obtain ⟨h3, h4⟩ := and_ok h1
    obtain ⟨l, k1, f1, r1⟩ := opt_ok h2
    obtain ⟨q, k2, f2, r2⟩ := opt_ok k1
    obtain ⟨h5, h6⟩ := chk_ok k2
    obtain ⟨h7, h8⟩ := and_ok h5
    cases h6
    refine ⟨rfl, fun _ _ => by rw [h1, show ∀ z, chk true z = z from fun _ => rfl, f1, f2, h5]; rfl, fun η a w ob _ ho hop => ?_⟩
    have b1 := r1 η a (fun y e => hop y (hlo y e))
    have b2 := r2 η a (fun y e => hop y (hhi y e))
    obtain ⟨s, ex, ha, hb⟩ := ((hop x hx).asSc (by rw [beq_ok h3]; omega)).asStr (beq_ok h3)
    have hle1 := ble_ok h7
    have hle2 := ble_ok h8
    rw [ha] at b2 hle2
    have hmn : mx = none := by cases mx with | none => rfl | some y => simp at h4
    subst hmn
    have hsz : s.size = s.data.toList.length := by simp
    have hbd := run_bounds (P := P) (a := a) (lo := lo) (hi := hi) (mx := none) (l := l) (h := q) (m := s.data.toList.length) (len := s.data.toList.length) (cap := s.data.toList.length) (b := false) b1 b2 (.inl ⟨rfl, rfl⟩) hle1 hle2 (Nat.le_refl _) (fun h => absurd rfl h) w
    have hext : (s.extract l q).data.toList = (s.data.toList.drop l).take (q - l) := by simp
    refine ⟨.string (s.extract l q), ?_, .sc (.str (s := ⟨2, q - l, _, 0, 0, [], []⟩) _ rfl ?_ ?_)⟩
    · simp only [execOp, ho, ex, Instr.sliceAt]
      rw [hsz.symm] at hbd
      simp [run_under hd (by simp), Instr.slice] at hbd ⊢
      rw [hbd]
      simp
    · rw [hext]; simp; simp at hle2; omega
    · rw [hext, strOf_take _ _ (by simp; simp at hle2; omega), strOf_drop _ _ (by omega), ← hb]
      rfl
  · -- a slice
    rename_i e hd
    split
    · rename_i hz
      have hz' : sizeT P e ≠ 0 := hz
      intro call A S v S' h
      simp only at h ⊢
      rcases iff_ok h with ⟨h1, h2⟩ | ⟨h1, h2⟩
      · obtain ⟨l, k1, f1, r1⟩ := opt_ok h2
        obtain ⟨q, k2, f2, r2⟩ := opt_ok k1
        obtain ⟨m, k3, f3, r3⟩ := opt_ok k2
        obtain ⟨h5, h6⟩ := chk_ok k3
        obtain ⟨h7, h8⟩ := and_ok h5
        obtain ⟨h9, h10⟩ := and_ok h8
        cases h6
        refine ⟨rfl, fun _ _ => by rw [h1, show ∀ y z, iff true y z = y from fun _ _ => rfl, f1, f2, f3, h5]; rfl, fun η a w ob _ ho hop => ?_⟩
        have b1 := r1 η a (fun y e => hop y (hlo y e))
        have b2 := r2 η a (fun y e => hop y (hhi y e))
        have b3 := r3 η a (fun y e => hop y (hmx y e))
        obtain ⟨b, hb, ex, hc⟩ := ((hop x hx).asSc (by rw [beq_ok h1]; omega)).asSl (beq_ok h1)
        have hbd := run_bounds (P := P) (a := a) (b := true) b1 b2 b3 (ble_ok h7) (ble_ok h9) (ble_ok h10) hn w
        have l1 := ble_ok h7
        have l2 := ble_ok h9
        refine ⟨.slice (some (if m = l then ⟨b, ((opd N x).f A).s.b, none⟩ else ⟨b, ((opd N x).f A).s.b + l * sizeT P e, none⟩)) (q - l) (m - l), ?_, ?_⟩
        · simp only [execOp, ho, ex, Instr.sliceAt]
          have hs := run_sizeOf (P := P) hz' w
          simp [run_under hd (by simp), Instr.slice] at hbd ⊢
          rw [hbd]
          simp [hs, add_at]
          split <;> rfl
        · by_cases hml : m = l
          · rw [if_pos hml]
            have : Nat.beq m l = true := by rw [hml]; exact Nat.beq_refl l
            rw [this]
            exact VR.sl _ hb (show q - l ≤ m - l by omega)
          · rw [if_neg hml]
            have : Nat.beq m l = false := by rw [Bool.eq_false_iff]; exact fun e => hml (beq_ok e)
            rw [this]
            exact VR.sl _ hb (show q - l ≤ m - l by omega)
      · rcases iff_ok h2 with ⟨h3, h4⟩ | ⟨h3, h4⟩
        · obtain ⟨l, k1, f1, r1⟩ := opt_ok h4
          obtain ⟨q, k2, f2, r2⟩ := opt_ok k1
          cases mx with
          | none =>
            obtain ⟨h5, h6⟩ := chk_ok k2
            obtain ⟨h7, h8⟩ := and_ok h5
            obtain ⟨h9, h10⟩ := and_ok h8
            cases h6
            refine ⟨rfl, fun _ _ => by rw [h1, h3, show ∀ y z, iff false y z = z from fun _ _ => rfl, show ∀ y z, iff true y z = y from fun _ _ => rfl, f1, f2, h5]; rfl, fun η a w ob _ ho hop => ?_⟩
            have b1 := r1 η a (fun y e => hop y (hlo y e))
            have b2 := r2 η a (fun y e => hop y (hhi y e))
            obtain ⟨b, hb, ex, hc⟩ := ((hop x hx).asSc (by rw [beq_ok h3]; omega)).asSu (beq_ok h3)
            have l1 := ble_ok h7
            have l2 := ble_ok h9
            have hbd := run_bounds (P := P) (a := a) (mx := none) (b := true) b1 b2 (.inl ⟨rfl, rfl⟩) (ble_ok h7) (show q ≤ η.κ ((opd N x).f A).s.a - ((opd N x).f A).s.d by omega) (Nat.le_refl _) hn w
            have hne : l = 0 ∨ l < ((opd N x).f A).s.c := by
              rcases or_ok h10 with h | h
              · exact .inl (beq_ok h)
              · exact .inr (blt_ok h)
            refine ⟨.slice (some ⟨b, ((opd N x).f A).s.b + l * sizeT P e, none⟩) (q - l) (η.κ ((opd N x).f A).s.a - (((opd N x).f A).s.d + l)), ?_, ?_⟩
            · simp only [execOp, ho, ex, Instr.sliceAt]
              have hs := run_sizeOf (P := P) hz' w
              simp [run_under hd (by simp), Instr.slice] at hbd ⊢
              rw [hbd]
              simp [hs, add_at]
              refine ⟨?_, by omega⟩
              rcases hne with rfl | hlt
              · simp
              · intro h9; omega
            · exact VR.su _ hb (by show ((opd N x).f A).s.d + l + (q - l) ≤ _; omega)
          | some mo =>
            obtain ⟨hi3, k3, f3⟩ := idxN_ok k2
            obtain ⟨h5, h6⟩ := chk_ok k3
            obtain ⟨h7, h8⟩ := and_ok h5
            obtain ⟨h9, h10⟩ := and_ok h8
            cases h6
            refine ⟨rfl, fun _ _ => by rw [h1, h3, show ∀ y z, iff false y z = z from fun _ _ => rfl, show ∀ y z, iff true y z = y from fun _ _ => rfl, f1, f2]; simp only; rw [f3, h5]; rfl, fun η a w ob _ ho hop => ?_⟩
            have b1 := r1 η a (fun y e => hop y (hlo y e))
            have b2 := r2 η a (fun y e => hop y (hhi y e))
            obtain ⟨j3, e3⟩ := idx_val (hop mo (hmx mo rfl)) hi3
            generalize hm : ((opd N mo).f A).s.a = m at *
            obtain ⟨b, hb, ex, hc⟩ := ((hop x hx).asSc (by rw [beq_ok h3]; omega)).asSu (beq_ok h3)
            have l1 := ble_ok h7
            have l2 := ble_ok h9
            have l3 := ble_ok h10
            have hbd := run_bounds (P := P) (a := a) (mx := some mo) (m := m) (cap := η.κ ((opd N x).f A).s.a - ((opd N x).f A).s.d) (b := true) b1 b2 (.inr ⟨mo, j3, rfl, e3⟩) (ble_ok h7) (ble_ok h9) (by omega) hn w
            refine ⟨.slice (some (if m = l then ⟨b, ((opd N x).f A).s.b, none⟩ else ⟨b, ((opd N x).f A).s.b + l * sizeT P e, none⟩)) (q - l) (m - l), ?_, ?_⟩
            · simp only [execOp, ho, ex, Instr.sliceAt]
              have hs := run_sizeOf (P := P) hz' w
              simp [run_under hd (by simp), Instr.slice] at hbd ⊢
              rw [hbd]
              simp [hs, add_at]
              split <;> rfl
            · by_cases hml : m = l
              · rw [if_pos hml]
                have : Nat.beq m l = true := by rw [hml]; exact Nat.beq_refl l
                rw [this]
                exact VR.sl _ hb (show q - l ≤ m - l by omega)
              · rw [if_neg hml]
                have : Nat.beq m l = false := by rw [Bool.eq_false_iff]; exact fun e => hml (beq_ok e)
                rw [this]
                exact VR.sl _ hb (show q - l ≤ m - l by omega)
        · obtain ⟨h5, h6⟩ := chk_ok h4
          obtain ⟨l, k1, f1, r1⟩ := opt_ok h6
          obtain ⟨q, k2, f2, r2⟩ := opt_ok k1
          obtain ⟨h7, h8⟩ := chk_ok k2
          obtain ⟨h9, h10⟩ := and_ok h7
          obtain ⟨h11, h12⟩ := and_ok h10
          cases h8
          refine ⟨rfl, fun _ _ => by rw [h1, h3, h5, show ∀ y z, iff false y z = z from fun _ _ => rfl, show ∀ y z, iff false y z = z from fun _ _ => rfl, show ∀ z, chk true z = z from fun _ => rfl, f1, f2, h7]; rfl, fun η a w ob _ ho hop => ?_⟩
          have b1 := r1 η a (fun y e => hop y (hlo y e))
          have b2 := r2 η a (fun y e => hop y (hhi y e))
          have ex := ((hop x hx).asSc (by rw [beq_ok h5]; omega)).asNils (beq_ok h5)
          have hmn : mx = none := by cases mx with | none => rfl | some y => simp at h9
          subst hmn
          have e1 := beq_ok h11
          have e2 := beq_ok h12
          subst e1; subst e2
          have hbd := run_bounds (P := P) (a := a) (lo := lo) (hi := hi) (mx := none) (m := 0) (len := 0) (cap := 0) (b := true) b1 b2 (.inl ⟨rfl, rfl⟩) (Nat.le_refl _) (Nat.le_refl _) (Nat.le_refl _) hn w
          refine ⟨.slice none 0 0, ?_, by rw [← ex]; exact hop x hx⟩
          simp only [execOp, ho, ex, Instr.sliceAt]
          have hs := run_sizeOf (P := P) hz' w
          simp [run_under hd (by simp), Instr.slice] at hbd ⊢
          rw [hbd]
          simp [hs]
    · exact pure_bad
  · -- an array behind a pointer
    rename_i n e hd
    split
    · rename_i hz
      have hz' : sizeT P e ≠ 0 := hz
      intro call A S v S' h
      simp only at h ⊢
      obtain ⟨h1, h2⟩ := ptrD_ok h
      obtain ⟨l, k1, f1, r1⟩ := opt_ok h2
      obtain ⟨q, k2, f2, r2⟩ := opt_ok k1
      obtain ⟨m, k3, f3, r3⟩ := opt_ok k2
      obtain ⟨h5, h6⟩ := chk_ok k3
      obtain ⟨h7, h8⟩ := and_ok h5
      obtain ⟨h9, h10⟩ := and_ok h8
      cases h6
      refine ⟨rfl, fun _ _ => by rw [ptrD_eq h1, f1, f2, f3, h5]; rfl, fun η a w ob _ ho hop => ?_⟩
      have b1 := r1 η a (fun y e => hop y (hlo y e))
      have b2 := r2 η a (fun y e => hop y (hhi y e))
      have b3 := r3 η a (fun y e => hop y (hmx y e))
      obtain ⟨b, hb, ex⟩ := ((hop x hx).asSc (by rw [beq_ok h1]; omega)).asPtr (beq_ok h1)
      obtain ⟨h10, h11⟩ := and_ok h10
      have hb := hb.resolve_right (fun h => absurd (ble_ok h11) (Nat.not_le_of_gt h.1))
      have hbd := run_bounds (P := P) (a := a) (b := false) b1 b2 b3 (ble_ok h7) (ble_ok h9) (ble_ok h10) hn w
      have l1 := ble_ok h7
      have l2 := ble_ok h9
      refine ⟨.slice (some (if m = l then ⟨b, ((opd N x).f A).s.b, none⟩ else ⟨b, ((opd N x).f A).s.b + l * sizeT P e, none⟩)) (q - l) (m - l), ?_, ?_⟩
      · simp only [execOp, ho, ex, Instr.sliceAt]
        have hs := run_sizeOf (P := P) hz' w
        simp [run_under hd (by simp), Instr.sureAddr] at hbd ⊢
        rw [hbd]
        simp [hs, add_at]
      · by_cases hml : m = l
        · rw [if_pos hml]
          have : Nat.beq m l = true := by rw [hml]; exact Nat.beq_refl l
          rw [this]
          exact VR.sl _ hb (show q - l ≤ m - l by omega)
        · rw [if_neg hml]
          have : Nat.beq m l = false := by rw [Bool.eq_false_iff]; exact fun e => hml (beq_ok e)
          rw [this]
          exact VR.sl _ hb (show q - l ≤ m - l by omega)
    · exact pure_bad
  · exact pure_bad
end Go.Exec

namespace Go.Exec
open Go
variable {P : Program} {N : Nat} {ρ : Nat → Int} {H : Hy}
/-- Cells as a row of values. -/
def CR (η : Nv) (c : Cells) (cs : Array Value) : Prop := ∀ i y, cs[i]? = some y → SR η ((accC i).f c) y
theorem CR.up {η ζ : Nv} (hl : η.le ζ) {c : Cells} {cs : Array Value} (h : CR η c cs) : CR ζ c cs := fun i y hy => (h i y hy).up hl
theorem foldl_set (off : Nat) : ∀ (vs : List Value) (k : Nat) (cs : Array Value), ((vs.zipIdx k).foldl (fun cs p => cs.setIfInBounds (off + p.2) p.1) cs).size = cs.size ∧
    ∀ i, ((vs.zipIdx k).foldl (fun cs p => cs.setIfInBounds (off + p.2) p.1) cs)[i]? = if off + k ≤ i ∧ i < off + k + vs.length ∧ i < cs.size then vs[i - (off + k)]? else cs[i]?
  | [], k, cs => ⟨rfl, fun i => by rw [if_neg (by simp; omega)]; rfl⟩
  | v :: r, k, cs => by
    obtain ⟨h1, h2⟩ := foldl_set off r (k + 1) (cs.setIfInBounds (off + k) v)
    refine ⟨by simpa using h1, fun i => ?_⟩
    have := h2 i
    simp only [List.zipIdx_cons, List.foldl_cons]
    rw [this]
    by_cases hi : i = off + k
    · subst hi
      rw [if_neg (by omega)]
      by_cases hs : off + k < cs.size
      · rw [if_pos ⟨Nat.le_refl _, by simp, hs⟩]; simp [hs]
      · rw [if_neg (by omega)]; simp [hs]
    · rw [Array.getElem?_setIfInBounds_ne (Ne.symm hi)]
      by_cases hc : off + (k + 1) ≤ i ∧ i < off + (k + 1) + r.length ∧ i < (cs.setIfInBounds (off + k) v).size
      · have h3 : i < cs.size := by simpa using hc.2.2
        rw [if_pos hc, if_pos ⟨by omega, by simp; omega, h3⟩]
        rw [show i - (off + k) = (i - (off + (k + 1))) + 1 by omega]
        simp
      · rw [if_neg hc, if_neg]
        intro hh
        exact hc ⟨by omega, by have := hh.2.1; simp at this; omega, by simpa using hh.2.2⟩
theorem fill_part {η : Nv} {c : Cells} {cs : Array Value} {pc : Cells} (vs : Array Value) (off : Nat) (hc : CR η c cs) (hv : ∀ i y, vs[i]? = some y → SR η ((accC (off + i)).f pc) y)
    (ho : ∀ i, i < cs.size → (i < off ∨ off + vs.size ≤ i) → (accC i).f pc = (accC i).f c) :
    ∃ cs', vs.zipIdx.foldl (fun cs (c, j) => cs.setIfInBounds (off + j) c) cs = cs' ∧ cs'.size = cs.size ∧ CR η pc cs' := by
  obtain ⟨h1, h2⟩ := foldl_set off vs.toList 0 cs
  have e : vs.zipIdx.foldl (fun cs (c, j) => cs.setIfInBounds (off + j) c) cs = (vs.toList.zipIdx 0).foldl (fun cs p => cs.setIfInBounds (off + p.2) p.1) cs := by
    rw [← Array.foldl_toList, Array.toList_zipIdx]
  refine ⟨_, e, h1, fun i y hy => ?_⟩
  rw [h2 i] at hy
  simp only [Nat.add_zero, Array.length_toList] at hy
  by_cases hcc : off ≤ i ∧ i < off + vs.size ∧ i < cs.size
  · rw [if_pos hcc] at hy
    have := hv (i - off) y (by simpa using hy)
    rwa [show off + (i - off) = i by omega] at this
  · rw [if_neg hcc] at hy
    have hi : i < cs.size := by
      rcases Nat.lt_or_ge i cs.size with h | h
      · exact h
      · rw [Array.getElem?_eq_none h] at hy; cases hy
    rw [ho i hi (by omega)]
    exact hc i y hy
/-- One part: the executor's and the model's. -/
theorem putPart_ok {e : TypeId} {o total : Nat} {x : V} {c : Cells} {k : Cells → Ans} {v : V} {S : St} (h : (putPart P e o total).f x c k = .ok v S) : ∃ pc, k pc = .ok v S ∧ (∀ k', (putPart P e o total).f x c k' = k' pc) ∧
    ∀ (η : Nv) (u : Value) (cs : Array Value), VR η x u → cs.size = total → total ≤ 32768 → CR η c cs → u.cells.size = sizeT P e ∧ o + u.cells.size ≤ cs.size ∧ ∃ cs', u.cells.zipIdx.foldl (fun cs (c, j) => cs.setIfInBounds (o + j) c) cs = cs' ∧ cs'.size = cs.size ∧ CR η pc cs' := by
  unfold putPart at h ⊢
  cases hb : isAggT P e with
  | false =>
    rw [hb] at h
    simp only at h ⊢
    obtain ⟨h1, h2⟩ := chk_ok h
    obtain ⟨h3, h4⟩ := and_ok h1
    obtain ⟨h5, h6⟩ := and_ok h4
    refine ⟨_, h2, fun k' => by rw [h1]; rfl, fun η u cs hx hs ht hc => ?_⟩
    have hu := hx.asSc (ble_ok h3)
    have hone := hu.one
    have hcells : u.cells = #[u] := by cases u <;> first | rfl | (simp [Value.oneCell'] at hone)
    have hlt := blt_ok h6
    rw [hcells]
    refine ⟨by rw [beq_ok h5]; rfl, by simp; omega, ?_⟩
    refine fill_part #[u] o hc (fun i y hy => ?_) (fun i hi hio => ?_)
    · have : i = 0 := by
        rcases Nat.lt_or_ge i 1 with h | h
        · omega
        · rw [Array.getElem?_eq_none (by simpa using h)] at hy; cases hy
      subst this
      simp at hy; subst hy
      rw [Nat.add_zero, accC_updC_same]; exact hu
    · simp at hio
      exact accC_updC_ne _ _ (by omega) (by omega) (by omega)
  | true =>
    rw [hb] at h
    simp only at h ⊢
    obtain ⟨h1, h2⟩ := chk_ok h
    obtain ⟨h3, h4⟩ := and_ok h1
    obtain ⟨h5, h6⟩ := and_ok h4
    refine ⟨_, h2, fun k' => by rw [h1]; rfl, fun η u cs hx hs ht hc => ?_⟩
    obtain ⟨us, rfl, ha, hus, huc⟩ := hx.asAgg (beq_ok h3)
    have hsz : us.size = sizeT P e := by rw [← ha]; exact beq_ok h5
    have hle := ble_ok h6
    show us.size = sizeT P e ∧ o + us.size ≤ cs.size ∧ _
    have hle' : o + us.size ≤ cs.size := by rw [hsz, hs]; exact hle
    refine ⟨hsz, hle', fill_part us o hc (fun i y hy => ?_) (fun i hi hio => ?_)⟩
    · have hi : i < us.size := by
        rcases Nat.lt_or_ge i us.size with h | h
        · exact h
        · rw [Array.getElem?_eq_none h] at hy; cases hy
      rw [accC_paste 0 o (sizeT P e) x.cs c (by omega) (by omega), if_pos (by omega)]
      have := huc i y hy
      rwa [show 0 + (o + i - o) = i by omega]
    · rw [accC_paste 0 o (sizeT P e) x.cs c (by omega) (by omega), if_neg (by omega)]
theorem parts_ok {t : TypeId} {total : Nat} {A : Env} : ∀ {ps : List (Nat × Operand)} {c : Cells} {k : Cells → Ans} {v : V} {S : St}, (partsC P N t total ps).f A c k = .ok v S → ∃ pc, k pc = .ok v S ∧ (∀ k', (partsC P N t total ps).f A c k' = k' pc) ∧
    ∀ (η : Nv) (a : Act) (cs : Array Value) (pl : Nat → Option (Nat × Nat)), (∀ p ∈ ps, OR η N A a p.2) → (∀ i q, places P t i = some q → pl i = some (q.1, sizeT P q.2)) → cs.size = total → total ≤ 32768 → CR η c cs →
      ∃ cs', Instr.fill pl cs (ps.map fun (i, x) => (i, a.eval x)) = some cs' ∧ cs'.size = cs.size ∧ CR η pc cs'
  | [], c, k, v, S, h => ⟨c, h, fun _ => rfl, fun η a cs pl _ _ hs ht hc => ⟨cs, rfl, rfl, hc⟩⟩
  | p :: r, c, k, v, S, h => by
    unfold partsC at h ⊢
    cases hq : places P t p.1 with
    | none => rw [hq] at h; cases h
    | some q =>
      rw [hq] at h
      simp only at h ⊢
      obtain ⟨c1, h1, h2, h3⟩ := putPart_ok h
      obtain ⟨c2, h4, h5, h6⟩ := parts_ok h1
      refine ⟨c2, h4, fun k' => by rw [h2, h5], fun η a cs pl hop hpl hs ht hc => ?_⟩
      obtain ⟨g1, g2, cs1, g3, g4, g5⟩ := h3 η (a.eval p.2) cs (hop p (by simp)) hs ht hc
      obtain ⟨cs2, g6, g7, g8⟩ := h6 η a cs1 pl (fun x hx => hop x (by simp [hx])) hpl (by rw [g4]; exact hs) ht g5
      refine ⟨cs2, ?_, by rw [g7, g4], g8⟩
      simp only [List.map_cons]
      unfold Instr.fill
      rw [hpl p.1 q hq]
      simp only [g1]
      rw [if_neg (by simp; omega)]
      rw [g3]
      exact g6
end Go.Exec

namespace Go.Exec
open Go
variable {P : Program} {N : Nat} {ρ : Nat → Int} {H : Hy}
theorem run_mapM {α β : Type} (f : α → Sem β) (g : α → β) (w : World) : ∀ (l : List α), (∀ x ∈ l, (f x).run P w = .ok (g x) w) → (l.mapM f).run P w = .ok (l.map g) w
  | [], _ => by simp
  | x :: r, h => by
    have h1 := h x (by simp)
    have h2 := run_mapM f g w r fun y hy => h y (by simp [hy])
    simp [List.mapM_cons, h1, h2]
theorem zeroT_ok {t : TypeId} {z : V} (h : zeroT P t = some z) : ∃ i v, P.info? t = some i ∧ i.zero = some v ∧ lift v = some z := by
  unfold zeroT at h
  split at h
  · rename_i i hi
    split at h
    · rename_i v hv; exact ⟨i, v, hi, hv, h⟩
    · cases h
  · cases h
theorem run_zero {t : TypeId} {i : TypeInfo} {v : Value} (hi : P.info? t = some i) (hv : i.zero = some v) (w : World) : (zeroValue t).run P w = .ok v w := by
  simp [zeroValue, typeInfo, hi, hv]
theorem fits_agg {t : TypeId} {z : V} (ha : isAggT P t = true) (h : (fits P t).f z = true) : z.s.tag = 98 ∧ z.s.a = sizeT P t := by
  unfold fits at h
  rw [ha] at h
  obtain ⟨h1, h2⟩ := and_ok h
  exact ⟨beq_ok h1, beq_ok h2⟩
theorem fits_one {t : TypeId} {z : V} (ha : isAggT P t = false) (h : (fits P t).f z = true) : z.s.tag ≤ 97 := by
  unfold fits at h
  rw [ha] at h
  exact ble_ok h
theorem run_build_struct {t : TypeId} {fs : Array Field} {cs cs' : Array Value} {parts : Array (Nat × Value)} {w : World} (hzero : (zeroValue t).run P w = .ok (.agg cs) w) (hd : desc P t = .struct fs)
    (hk : ∀ f ∈ fs.toList, P.info? f.type ≠ none) (hf : Instr.fill (fun i => (fs.map fun f => (f.offset, sizeT P f.type))[i]?) cs parts.toList = some cs') : (Instr.build t parts).run P w = .ok (.agg cs') w := by
  have h1 := run_mapM (P := P) (fun f : Field => (do pure (f.offset, ← sizeOf f.type) : Sem (Nat × Nat))) (fun f => (f.offset, sizeT P f.type)) w fs.toList (fun f hf => by
    obtain ⟨j, hj⟩ := Option.ne_none_iff_exists'.1 (hk f hf)
    simp [run_sizeOf' hj, sizeT, hj])
  have hm : (fs.mapM fun f => (do pure (f.offset, ← sizeOf f.type) : Sem (Nat × Nat))).run P w = .ok (fs.map fun f => (f.offset, sizeT P f.type)) w := by
    rw [Array.mapM_eq_mapM_toList, map_eq_pure_bind]
    simp only [Sem.run_bind, h1, Result.andThen_ok, Sem.run_pure]
    congr 1
    apply Array.ext'
    simp
  unfold Instr.build
  simp only [Sem.run_bind, hzero, Result.andThen_ok, run_under hd (by simp), hm, Value.cells, hf, Sem.run_pure]
theorem run_build_array {t e : TypeId} {n : Nat} {cs cs' : Array Value} {parts : Array (Nat × Value)} {w : World} (hzero : (zeroValue t).run P w = .ok (.agg cs) w) (hd : desc P t = .array n e)
    (hk : P.info? e ≠ none) (hf : Instr.fill (fun i => some (i * sizeT P e, sizeT P e)) cs parts.toList = some cs') : (Instr.build t parts).run P w = .ok (.agg cs') w := by
  obtain ⟨j, hj⟩ := Option.ne_none_iff_exists'.1 hk
  have hs : sizeT P e = j.size := by simp [sizeT, hj]
  rw [hs] at hf
  unfold Instr.build
  simp only [Sem.run_bind, hzero, Result.andThen_ok, run_under hd (by simp), run_sizeOf' hj, Value.cells, hf, Sem.run_pure]
theorem unit_ok {t : TypeId} (h : unit P t = true) (ha : isAggT P t = false) : sizeT P t = 1 := by
  unfold unit at h
  rw [ha] at h
  exact beq_ok h
theorem build_ok {t : TypeId} {ps : Array (Nat × Operand)} : PureOk P N ρ (.build t ps) (buildC P N t ps.toList) := by
  unfold buildC
  split
  · rename_i z hz
    cases hb : Bool.and (partsKnown P t) (Bool.and (isAggT P t) ((fits P t).f z)) with
    | false => exact pure_bad
    | true =>
      obtain ⟨hk, hb2⟩ := and_ok hb
      obtain ⟨hagg, hfit⟩ := and_ok hb2
      obtain ⟨i, v0, hi, hv0, hl⟩ := zeroT_ok hz
      obtain ⟨ht, hsz⟩ := fits_agg hagg hfit
      intro call A S v S' h
      simp only at h ⊢
      obtain ⟨pc, h1, h2, h3⟩ := parts_ok h
      cases h1
      refine ⟨rfl, fun _ _ => h2 _, fun η a w ob _ ho hop => ?_⟩
      obtain ⟨cs, rfl, ha, hs, hc⟩ := (VR.of_lift (η := η) hl).asAgg ht
      have hzero := run_zero (P := P) hi hv0 w
      have hopp : ∀ p ∈ ps.toList, OR η N A a p.2 := fun p hp => hop p.2 (by simp only [Op.operands]; simp; exact ⟨p.1, by simpa using hp⟩)
      have hpt : (ps.map fun (i, x) => (i, a.eval x)).toList = ps.toList.map fun (i, x) => (i, a.eval x) := by simp
      have key : ∀ pl, (∀ i q, places P t i = some q → pl i = some (q.1, sizeT P q.2)) → ∃ cs', Instr.fill pl cs (ps.map fun (i, x) => (i, a.eval x)).toList = some cs' ∧ cs'.size = cs.size ∧ CR η pc cs' := fun pl hpl => by
        rw [hpt]; exact h3 η a cs pl hopp hpl (by rw [← ha, hsz]) (by rw [← hsz, ha]; exact hs) hc
      have fin : ∀ cs', (Instr.build t (ps.map fun (i, x) => (i, a.eval x))).run P w = .ok (.agg cs') w → cs'.size = cs.size → CR η pc cs' → ∃ y, (execOp a.eval ob).run P w = .ok (.value y) w ∧ VR η (mkAgg (sizeT P t) pc) y := fun cs' g1 g2 g3 => by
        refine ⟨.agg cs', ?_, .agg cs' rfl ?_ (by rw [g2]; exact hs) g3⟩
        · simp only [execOp, ho, Sem.run_bind, g1, Result.andThen_ok, Sem.run_pure]
        · show sizeT P t = cs'.size
          rw [g2, ← ha, hsz]
      rcases isAggT_ok hagg with ⟨fs, hd⟩ | ⟨n, e, hd⟩
      · obtain ⟨cs', g1, g2, g3⟩ := key (fun i => (fs.map fun f => (f.offset, sizeT P f.type))[i]?) (by
          intro i q hq
          unfold places at hq
          rw [hd] at hq
          simp only at hq
          split at hq
          · rename_i f hf; cases hq; simp [hf]
          · cases hq)
        refine fin cs' (run_build_struct hzero hd (fun f hf => ?_) g1) g2 g3
        unfold partsKnown at hk
        rw [hd] at hk
        have := List.all_eq_true.1 hk f hf
        intro e; rw [e] at this; cases this
      · obtain ⟨cs', g1, g2, g3⟩ := key (fun i => some (i * sizeT P e, sizeT P e)) (by
          intro i q hq
          unfold places at hq
          rw [hd] at hq
          cases hq; rfl)
        refine fin cs' (run_build_array hzero hd ?_ g1) g2 g3
        unfold partsKnown at hk
        rw [hd] at hk
        simp only at hk
        intro e'; rw [e'] at hk; cases hk
  · exact pure_bad
end Go.Exec
