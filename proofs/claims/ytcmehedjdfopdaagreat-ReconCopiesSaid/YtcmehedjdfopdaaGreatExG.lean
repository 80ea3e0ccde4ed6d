/-
  A runner of the model's code inside Lean, with the proof that it is right: known answers from lent blocks. Nothing here is of this program.
-/
import Derived.Test.YtcmehedjdfopdaaGreatExF
import Derived.Lib.MakeNoZero
namespace Go.Exec
open Go
variable {P : Program} {N : Nat} {ρ : Nat → Int} {H : Hy}
/-- A start that holds the program's variables gs and blocks that are lent (256, 257, ..). -/
structure StartP (S1 : St) (gs : List Nat) (k : Nat) : Prop where
  low : ∀ n ∈ gs, n < 256
  next : 272 ≤ S1.next
  le : k ≤ 16
  only : ∀ n, n < 32768 → 0 < (blkAt S1 n).size → n ∈ gs ∨ (256 ≤ n ∧ n < 256 + k)
noncomputable def lendB (Bs : List Blk) : Nat → St → St := List.rec (motive := fun _ => Nat → St → St) (fun _ S => S) (fun B _ ih i S => ih (i + 1) ((putB i).f B S)) Bs
theorem lendB_next : ∀ (Bs : List Blk) (i : Nat) (S : St), (lendB Bs i S).next = S.next
  | [], _, _ => rfl
  | _ :: Bs, i, S => lendB_next Bs (i + 1) ((putB i).f _ S)
theorem lendB_out : ∀ (Bs : List Blk) (i : Nat) (S : St) (n : Nat), i + Bs.length ≤ 32768 → n < 32768 → (n < i ∨ i + Bs.length ≤ n) → blkAt (lendB Bs i S) n = blkAt S n
  | [], _, _, _, _, _, _ => rfl
  | B :: Bs, i, S, n, hi, hn, h => by
    simp only [List.length_cons] at hi h
    have := lendB_out Bs (i + 1) ((putB i).f B S) n (by omega) hn (by omega)
    exact this.trans (blkAt_put_ne S B (by omega) hn (by omega))
theorem lendB_in : ∀ (Bs : List Blk) (i : Nat) (S : St) (j : Nat) (B : Blk), i + Bs.length ≤ 32768 → Bs[j]? = some B → blkAt (lendB Bs i S) (i + j) = B
  | [], _, _, _, _, _, h => by simp at h
  | B :: Bs, i, S, 0, C, hi, h => by
    simp only [List.length_cons] at hi
    simp at h
    subst h
    exact (lendB_out Bs (i + 1) ((putB i).f B S) i (by omega) (by omega) (.inl (by omega))).trans (blkAt_put_same S i B)
  | B :: Bs, i, S, j + 1, C, hi, h => by
    simp only [List.length_cons] at hi
    simp at h
    have := lendB_in Bs (i + 1) ((putB i).f B S) j C (by omega) h
    rw [show i + (j + 1) = i + 1 + j by omega]
    exact this
theorem startP {S : St} {gs : List Nat} (hS : Start S gs) {Bs : List Blk} (hk : Bs.length ≤ 16) : StartP (lendB Bs 256 S) gs Bs.length := by
  refine ⟨hS.low, by rw [lendB_next]; exact hS.next, hk, fun n hn hl => ?_⟩
  by_cases h : n < 256 ∨ 256 + Bs.length ≤ n
  · rw [lendB_out Bs 256 S n (by omega) hn h] at hl
    exact .inl (hS.only n hn hl)
  · exact .inr (by omega)
/-- a block that stands for another: unknown cells stand for all -/
noncomputable def matB (e y : Blk) : Bool := Bool.and (Bool.and (Nat.beq e.size y.size) (Nat.beq e.elem y.elem)) (Bool.and (Nat.ble 1 e.size) (allN e.size (fun i => matS ((accC i).f e.cs) ((accC i).f y.cs))))
theorem matB_ok {e y : Blk} (h : matB e y = true) : e.size = y.size ∧ e.elem = y.elem ∧ 1 ≤ e.size ∧ ∀ i, i < e.size → matS ((accC i).f e.cs) ((accC i).f y.cs) = true := by
  obtain ⟨h1, h2⟩ := and_ok h
  obtain ⟨h3, h4⟩ := and_ok h1
  obtain ⟨h5, h6⟩ := and_ok h2
  exact ⟨beq_ok h3, beq_ok h4, ble_ok h5, allN_ok h6⟩
theorem Live.mat {η ζ : Nv} {x y : Blk} {n m b : Nat} {w : World} (h : Live P η y m b w) (hs : matB x y = true) (hσ : ζ.σ n = some b) (hκ : ζ.κ n = η.κ m) : Live P ζ x n b w := by
  obtain ⟨h1, h2, -, h3⟩ := matB_ok hs
  refine ⟨hσ, h1 ▸ h.size, by rw [h1, h2, hκ]; exact h.cap, fun i hi => ?_, by rw [h2, hκ]; exact h.all⟩
  obtain ⟨v, hv, hr⟩ := h.cell i (h1 ▸ hi)
  exact ⟨v, hv, hr.mat (h3 i hi)⟩
noncomputable def nthN (ns : List Nat) (n : Nat) : Nat := List.rec (motive := fun _ => Nat → Nat) (fun _ => 0) (fun h _ ih n => Nat.rec (motive := fun _ => Nat) h (fun m _ => ih m) n) ns n
theorem nthN_eq : ∀ (ns : List Nat) (i : Nat), nthN ns i = ns.getD i 0
  | [], i => by cases i <;> rfl
  | _ :: _, 0 => rfl
  | _ :: ns, i + 1 => nthN_eq ns i
/-- an argument that stands for another: a pointer to a lent block for a pointer to the block of that place in ns -/
noncomputable def matP (ns : List Nat) (e v : V) : Bool :=
  Bool.rec (motive := fun _ => Bool) (matV e v) (Bool.and (Bool.and (Nat.beq v.s.tag 4) (Nat.beq e.s.b v.s.b)) (Bool.and (Bool.and (Nat.ble 256 e.s.a) (Nat.blt (Nat.sub e.s.a 256) ns.length)) (Nat.beq v.s.a (nthN ns (Nat.sub e.s.a 256))))) (Nat.beq e.s.tag 4)
noncomputable def matPs (ns : List Nat) (es : List V) : List V → Bool := List.rec (motive := fun _ => List V → Bool) (fun vs => List.rec (motive := fun _ => Bool) true (fun _ _ _ => false) vs)
  (fun e _ ih vs => List.rec (motive := fun _ => Bool) false (fun v r _ => Bool.rec (motive := fun _ => Bool) false (ih r) (matP ns e v)) vs) es
/-- the blocks ns of a state fit the lent ones -/
noncomputable def matBs (S : St) (Bs : List Blk) : List Nat → Bool := List.rec (motive := fun _ => List Nat → Bool) (fun ns => List.rec (motive := fun _ => Bool) true (fun _ _ _ => false) ns)
  (fun B _ ih ns => List.rec (motive := fun _ => Bool) false (fun n r _ => Bool.rec (motive := fun _ => Bool) false (ih r) (Bool.and (Bool.and (Nat.ble 256 n) (Nat.blt n 32768)) (matB B ((getB n).f S)))) ns) Bs
noncomputable def diffN (ns : List Nat) : Bool := List.rec (motive := fun _ => Bool) true (fun n r ih => Bool.rec (motive := fun _ => Bool) false ih (List.rec (motive := fun _ => Bool) true (fun m _ ih2 => Bool.rec (motive := fun _ => Bool) ih2 false (Nat.beq n m)) r)) ns
theorem matBs_ok {S : St} : ∀ {Bs : List Blk} {ns : List Nat}, matBs S Bs ns = true → ns.length = Bs.length ∧ ∀ (i : Nat) (B : Blk), Bs[i]? = some B → ∃ n, ns[i]? = some n ∧ 256 ≤ n ∧ n < 32768 ∧ matB B (blkAt S n) = true
  | [], [], _ => ⟨rfl, fun i B h => by simp at h⟩
  | [], _ :: _, h => by cases h
  | _ :: _, [], h => by cases h
  | B :: Bs, n :: ns, h => by
    have h' : Bool.rec (motive := fun _ => Bool) false (matBs S Bs ns) (Bool.and (Bool.and (Nat.ble 256 n) (Nat.blt n 32768)) (matB B ((getB n).f S))) = true := h
    cases hb : Bool.and (Bool.and (Nat.ble 256 n) (Nat.blt n 32768)) (matB B ((getB n).f S)) with
    | false => rw [hb] at h'; cases h'
    | true =>
      rw [hb] at h'
      obtain ⟨h1, h2⟩ := and_ok hb
      obtain ⟨h3, h4⟩ := and_ok h1
      obtain ⟨k1, k2⟩ := matBs_ok h'
      refine ⟨by simp [k1], fun i C hC => ?_⟩
      cases i with
      | zero => simp at hC; subst hC; exact ⟨n, rfl, ble_ok h3, blt_ok h4, h2⟩
      | succ i => simp at hC; exact k2 i C (by simpa using hC)
theorem diffN_ok : ∀ {ns : List Nat}, diffN ns = true → ns.Nodup
  | [], _ => List.nodup_nil
  | n :: r, h => by
    have h' : Bool.rec (motive := fun _ => Bool) false (diffN r) (List.rec (motive := fun _ => Bool) true (fun m _ ih2 => Bool.rec (motive := fun _ => Bool) ih2 false (Nat.beq n m)) r) = true := h
    have key : ∀ (r : List Nat), List.rec (motive := fun _ => Bool) true (fun m _ ih2 => Bool.rec (motive := fun _ => Bool) ih2 false (Nat.beq n m)) r = true → n ∉ r := by
      intro r
      induction r with
      | nil => intro _ hm; cases hm
      | cons m r ih =>
        intro hr hm
        cases hb : Nat.beq n m with
        | true => simp only [hb] at hr; cases hr
        | false =>
          simp only [hb] at hr
          rcases List.mem_cons.1 hm with e | hm
          · exact beq_no hb e
          · exact ih hr hm
    cases hb : List.rec (motive := fun _ => Bool) true (fun m _ ih2 => Bool.rec (motive := fun _ => Bool) ih2 false (Nat.beq n m)) r with
    | false => rw [hb] at h'; cases h'
    | true => rw [hb] at h'; exact List.nodup_cons.2 ⟨key r hb, diffN_ok h'⟩
/-- A run from the program's variables and lent blocks stands for the run from every state in which the arguments point to blocks that fit. -/
theorem lent_ok {call : Caller} (hcal : Cal P ρ call) {g : Nat} {S1 : St} {gs : List Nat} {Bs : List Blk} (hS : StartP S1 gs Bs.length) (hB : ∀ (i : Nat) (B : Blk), Bs[i]? = some B → blkAt S1 (256 + i) = B)
    {vs0 : List V} {v : V} {T : St} (hr : call g vs0 S1 = .ok v T)
    {ns : List Nat} {vs : List V} {S : St} {η : Nv} {args : List Value} {w : World} (hρ : η.ρ = ρ) (hv : VRL η vs args) (hR : Rep P η S w) (hm : matPs ns vs0 vs = true) (hg : sameG gs S1 S = true) (hbs : matBs S Bs ns = true) (hd : diffN ns = true) :
    Comes' P g args.toArray w fun x w' => ∃ θ ζ, Move P θ S1 w ζ T w' ∧ VR ζ v x ∧ ∀ b, b < w.heap.size → w'.heap[b]? = w.heap[b]? := by
  obtain ⟨hlen, hbk⟩ := matBs_ok hbs
  have hnd := diffN_ok hd
  have hk := hS.le
  let θ : Nv := Nv.mk0 (fun n => if n ∈ gs then η.σ n else if 256 ≤ n ∧ n < 256 + ns.length then η.σ (ns.getD (n - 256) 0) else none) (fun n => if n ∈ gs then η.κ n else η.κ (ns.getD (n - 256) 0)) η.ρ
  have hng : ∀ n, 256 ≤ n → n ∉ gs := fun n h1 h2 => by have := hS.low n h2; omega
  have hin : ∀ n, n ∈ gs → θ.σ n = η.σ n ∧ θ.κ n = η.κ n := fun n hn => by simp [θ, Nv.mk0, hn]
  have hout : ∀ i, i < ns.length → θ.σ (256 + i) = η.σ (ns.getD i 0) ∧ θ.κ (256 + i) = η.κ (ns.getD i 0) := fun i hi => by
    have := hng (256 + i) (by omega)
    simp [θ, Nv.mk0, this, hi]
  have hcase : ∀ n b, θ.σ n = some b → (n ∈ gs ∧ η.σ n = some b) ∨ ∃ i, n = 256 + i ∧ i < ns.length ∧ η.σ (ns.getD i 0) = some b := by
    intro n b h
    by_cases h1 : n ∈ gs
    · exact .inl ⟨h1, by rw [← (hin n h1).1]; exact h⟩
    · by_cases h2 : 256 ≤ n ∧ n < 256 + ns.length
      · refine .inr ⟨n - 256, by omega, by omega, ?_⟩
        have := (hout (n - 256) (by omega)).1
        rw [show 256 + (n - 256) = n by omega] at this
        rw [← this]; exact h
      · simp only [θ, Nv.mk0, h1, h2, if_false] at h; cases h
  have hblk : ∀ i, i < ns.length → ∃ B, Bs[i]? = some B ∧ blkAt S1 (256 + i) = B ∧ 256 ≤ ns.getD i 0 ∧ ns.getD i 0 < 32768 ∧ matB B (blkAt S (ns.getD i 0)) = true := by
    intro i hi
    have hi' : i < Bs.length := by omega
    obtain ⟨n, h1, h2, h3, h4⟩ := hbk i Bs[i] (List.getElem?_eq_getElem hi')
    have e : ns.getD i 0 = n := by rw [List.getD_eq_getElem?_getD, h1]; rfl
    exact ⟨Bs[i], List.getElem?_eq_getElem hi', hB i _ (List.getElem?_eq_getElem hi'), by rw [e]; exact h2, by rw [e]; exact h3, by rw [e]; exact h4⟩
  have hR1 : Rep P θ S1 w := by
    refine ⟨fun n hn hl => ?_, fun n m b hn hm' hl hl' h h' => ?_, fun n hn => ?_, fun n b h => ?_, fun n b hn h => ?_, by have := hS.next; omega, trivial, fun _ h => h.elim⟩
    · rcases hS.only n hn hl with hgn | ⟨h1, h2⟩
      · have hb := sameG_ok hg n hgn
        obtain ⟨b, hlv⟩ := hR.live n hn (by have := (sameB_ok hb).1; omega)
        exact ⟨b, hlv.same hb ((hin n hgn).1.trans hlv.σ) (hin n hgn).2⟩
      · obtain ⟨i, rfl⟩ : ∃ i, n = 256 + i := ⟨n - 256, by omega⟩
        obtain ⟨B, -, e, h5, h6, h7⟩ := hblk i (by omega)
        obtain ⟨q1, -, q3, -⟩ := matB_ok h7
        obtain ⟨b, hlv⟩ := hR.live _ h6 (by omega)
        rw [e]
        exact ⟨b, hlv.mat h7 ((hout i (by omega)).1.trans hlv.σ) (hout i (by omega)).2⟩
    · have hlive : ∀ n, n ∈ gs → n < 32768 → 0 < (blkAt S1 n).size → 0 < (blkAt S n).size := fun n hgn hn hl => by
        have := (sameB_ok (sameG_ok hg n hgn)).1; omega
      have hlive2 : ∀ i, i < ns.length → ns.getD i 0 < 32768 ∧ 0 < (blkAt S (ns.getD i 0)).size ∧ 256 ≤ ns.getD i 0 := fun i hi => by
        obtain ⟨B, -, -, h5, h6, h7⟩ := hblk i hi
        obtain ⟨q1, -, q3, -⟩ := matB_ok h7
        exact ⟨h6, by omega, h5⟩
      rcases hcase n b h with ⟨g1, g2⟩ | ⟨i, rfl, g1, g2⟩ <;> rcases hcase m b h' with ⟨k1, k2⟩ | ⟨j, rfl, k1, k2⟩
      · exact hR.inj n m b hn hm' (hlive n g1 hn hl) (hlive m k1 hm' hl') g2 k2
      · obtain ⟨q1, q2, q3⟩ := hlive2 j k1
        have := hR.inj n _ b hn q1 (hlive n g1 hn hl) q2 g2 k2
        have := hS.low n g1; omega
      · obtain ⟨q1, q2, q3⟩ := hlive2 i g1
        have := hR.inj _ m b q1 hm' q2 (hlive m k1 hm' hl') g2 k2
        have := hS.low m k1; omega
      · obtain ⟨q1, q2, -⟩ := hlive2 i g1
        obtain ⟨r1, r2, -⟩ := hlive2 j k1
        have e := hR.inj _ _ b q1 r1 q2 r2 g2 k2
        rw [List.getD_eq_getElem?_getD, List.getD_eq_getElem?_getD, List.getElem?_eq_getElem g1, List.getElem?_eq_getElem k1] at e
        have e' : ns[i] = ns[j] := by simpa using e
        have hp := List.pairwise_iff_getElem.1 hnd
        rcases Nat.lt_trichotomy i j with hij | hij | hij
        · exact absurd e' (hp i j g1 k1 hij)
        · omega
        · exact absurd e'.symm (hp j i k1 g1 hij)
    · have h1 : n ∉ gs := fun h => by have := hS.low n h; have := hS.next; omega
      have h2 : ¬ (256 ≤ n ∧ n < 256 + ns.length) := by have := hS.next; omega
      simp only [θ, Nv.mk0, h1, h2, if_false]
    · rcases hcase n b h with ⟨-, g2⟩ | ⟨i, -, -, g2⟩ <;> exact hR.low _ b g2
    · rcases hcase n b h with ⟨-, g2⟩ | ⟨i, rfl, -, g2⟩
      · exact hR.own n b hn g2
      · omega
  have hvl : VRL θ vs0 args := by
    have one : ∀ e v x, VR η v x → matP ns e v = true → VR θ e x := by
      intro e v x h hs
      unfold matP at hs
      cases hc : Nat.beq e.s.tag 4 with
      | false => rw [hc] at hs; exact h.mat hs
      | true =>
        rw [hc] at hs
        obtain ⟨h1, h2⟩ := and_ok hs
        obtain ⟨h3, h4⟩ := and_ok h1
        obtain ⟨h5, h6⟩ := and_ok h2
        obtain ⟨h7, h8⟩ := and_ok h5
        obtain ⟨b, hb, rfl⟩ := (h.asSc (by rw [beq_ok h3]; omega)).asPtr (beq_ok h3)
        have hi := blt_ok h8
        have e1 : v.s.a = ns.getD (e.s.a - 256) 0 := (beq_ok h6).trans (nthN_eq ns _)
        obtain ⟨B, -, -, q1, q2, q3⟩ := hblk (e.s.a - 256) hi
        obtain ⟨r1, -, r3, -⟩ := matB_ok q3
        have hσ : η.σ v.s.a = some b := hb.live hR (by rw [e1]; exact q2) (by rw [e1]; omega)
        have hθ : θ.σ e.s.a = some b := by
          have := (hout (e.s.a - 256) hi).1
          rw [show 256 + (e.s.a - 256) = e.s.a by have := ble_ok h7; omega] at this
          rw [this, ← e1]; exact hσ
        rw [← beq_ok h4]
        exact .sc (.ptr (s := e.s) b (beq_ok hc) (.inl hθ))
    have all : ∀ (es vs : List V) (xs : List Value), VRL η vs xs → matPs ns es vs = true → VRL θ es xs := by
      intro es
      induction es with
      | nil =>
        intro vs xs h hm
        cases h with
        | nil => exact .nil
        | cons _ _ => cases hm
      | cons e es ih =>
        intro vs xs h hm
        cases h with
        | nil => cases hm
        | @cons v x vs xs h hs =>
          have hm' : Bool.rec (motive := fun _ => Bool) false (matPs ns es vs) (matP ns e v) = true := hm
          cases hp : matP ns e v with
          | false => rw [hp] at hm'; cases hm'
          | true => rw [hp] at hm'; exact .cons (one e v x h hp) (ih vs xs hs hm')
    exact all vs0 vs args hv hm
  obtain ⟨-, hc⟩ := hcal.ok g vs0 S1 v T θ args w hρ hvl hR1 hr
  have hsame : ∀ (ζ : Nv) (w' : World), Move P θ S1 w ζ T w' → ∀ b, b < w.heap.size → w'.heap[b]? = w.heap[b]? := fun ζ w' hmv b hb => hmv.fr.block b hb (fun n h0 hn hl => by
    rcases hS.only n hn hl with h | h
    · have := hS.low n h; omega
    · omega)
  rcases hc with ⟨he, hc⟩ | ⟨x, w', he, ζ, hmv, hx⟩
  · refine .inl ⟨he, hc.mono ?_⟩
    rintro e w' ⟨x, rfl, ζ, hmv, hx⟩
    exact ⟨x, rfl, θ, ζ, hmv, hx, hsame ζ w' hmv⟩
  · exact .inr ⟨x, w', he, θ, ζ, hmv, hx, hsame ζ w' hmv⟩
/-- Nothing old has changed: the state stands for the new world, too. -/
theorem move_same {η : Nv} {S : St} {w w' : World} (hR : Rep P η S w) (hos : w'.os = w.os) (ht : w'.tape = w.tape) (ho : w'.output = w.output) (hsz : w.heap.size ≤ w'.heap.size) (h : ∀ b, b < w.heap.size → w'.heap[b]? = w.heap[b]?) : Move P η S w η S w' :=
  ⟨⟨Nv.le.refl η, Nat.le_refl _, fun n _ hn hl hb => .inr ⟨n, id, hn, hl, hb⟩, fun _ _ => rfl⟩,
    ⟨fun n hn hl => by obtain ⟨b, hb⟩ := hR.live n hn hl; exact ⟨b, hb.heap_same (h b (hR.low n b hb.σ))⟩, hR.inj, hR.new, fun n b hb => Nat.lt_of_lt_of_le (hR.low n b hb) hsz, hR.own, hR.top, η.st _ _ (fun b hb => h b (hR.foot b hb).1) hR.inv, fun b hb => ⟨Nat.lt_of_lt_of_le (hR.foot b hb).1 hsz, (hR.foot b hb).2⟩⟩,
    ⟨hos, ht, ho, hsz, fun b hb _ => h b hb⟩⟩
end Go.Exec

namespace Go.Exec
open Go
variable {P : Program} {N : Nat} {ρ : Nat → Int} {H : Hy}
/-- A known answer: which arguments are pointers (their places), the blocks they point to, the arguments, the answer. -/
structure LEnt where
  ps : List Nat
  Bs : List Blk
  vs : List V
  r : V
noncomputable def namesC (ps : List Nat) (vs : List V) : (List Nat → Ans) → Ans :=
  List.rec (motive := fun _ => (List Nat → Ans) → Ans) (fun k => k []) (fun i _ ih k => nthV vs i (fun v => force v.s.a (fun n => ih (fun l => k (n :: l))) .no)) ps
theorem namesC_ok {vs : List V} : ∀ {ps : List Nat} {k : List Nat → Ans} {v : V} {S : St}, namesC ps vs k = .ok v S → ∃ ns, k ns = .ok v S
  | [], k, v, S, h => ⟨[], h⟩
  | i :: ps, k, v, S, h => by
    obtain ⟨x, -, h1, -⟩ := nthV_ok (show nthV vs i (fun v => force v.s.a (fun n => namesC ps vs (fun l => k (n :: l))) .no) = .ok v S from h)
    obtain ⟨ns, h2⟩ := namesC_ok (ps := ps) (k := fun l => k (x.s.a :: l)) h1
    exact ⟨_, h2⟩
noncomputable def fitsL (S1 : St) (gs : List Nat) (e : LEnt) (ns : List Nat) (vs : List V) (S : St) : Bool := Bool.and (matPs ns e.vs vs) (Bool.and (matBs S e.Bs ns) (Bool.and (diffN ns) (sameG gs S1 S)))
def LMemo (P : Program) (ρ : Nat → Int) (S1 : St) (gs : List Nat) (g : Nat) (e : LEnt) : Prop :=
  ∀ (ns : List Nat) (vs : List V) (S : St) (η : Nv) (args : List Value) (w : World), η.ρ = ρ → VRL η vs args → Rep P η S w → fitsL S1 gs e ns vs S = true → Comes' P g args.toArray w fun x w' => ∃ ζ, Move P η S w ζ S w' ∧ VR ζ e.r x
noncomputable def lentC (S1 : St) (gs : List Nat) (es : List LEnt) (c : FnC) : FnC :=
  ⟨fun call vs S => List.rec (motive := fun _ => Ans) (c.f call vs S) (fun e _ ih => namesC e.ps vs (fun ns => iff (fitsL S1 gs e ns vs S) (.ok e.r S) ih)) es⟩
theorem lent_one {g : Nat} {S1 : St} {gs : List Nat} {c : FnC} (hc : OneOk P ρ g c) : ∀ {es : List LEnt}, (∀ e ∈ es, LMemo P ρ S1 gs g e) → OneOk P ρ g (lentC S1 gs es c)
  | [], _ => hc
  | e :: es, he => by
    intro call hcal vs S v S' η args w hρ hv hR h
    have hrest := lent_one hc (es := es) (fun x hx => he x (List.mem_cons_of_mem _ hx)) call hcal vs S v S' η args w hρ hv hR
    obtain ⟨ns, h1⟩ := namesC_ok (show namesC e.ps vs (fun ns => iff (fitsL S1 gs e ns vs S) (.ok e.r S) ((lentC S1 gs es c).f call vs S)) = .ok v S' from h)
    rcases iff_ok h1 with ⟨h2, h3⟩ | ⟨h2, h3⟩
    · cases h3
      exact ⟨rfl, he e List.mem_cons_self ns vs S η args w hρ hv hR h2⟩
    · exact hrest h3
noncomputable def okLent (e : LEnt) (r : Ans) : Bool := Ans.rec (motive := fun _ => Bool) false (fun v _ => matT e.r v) r
/-- A run from lent blocks gives a known answer. -/
theorem lmemo_ok {call : Caller} (hcal : Cal P ρ call) {g : Nat} {S0 : St} {gs : List Nat} (hS : Start S0 gs) {e : LEnt} (hk : e.Bs.length ≤ 16) (h : okLent e (call g e.vs (lendB e.Bs 256 S0)) = true) : LMemo P ρ S0 gs g e := by
  intro ns vs S η args w hρ hv hR hf
  obtain ⟨f1, f2⟩ := and_ok hf
  obtain ⟨f3, f4⟩ := and_ok f2
  obtain ⟨f5, f6⟩ := and_ok f4
  cases hr : call g e.vs (lendB e.Bs 256 S0) with
  | no => rw [hr] at h; cases h
  | ok v T =>
    rw [hr] at h
    have hgl : sameG gs (lendB e.Bs 256 S0) S = true := by
      have key : ∀ gs' : List Nat, (∀ n ∈ gs', n < 256) → sameG gs' S0 S = true → sameG gs' (lendB e.Bs 256 S0) S = true := by
        intro gs'
        induction gs' with
        | nil => intro _ _; rfl
        | cons n gs' ih =>
          intro hlow hh
          have h' : Bool.rec (motive := fun _ => Bool) false (sameG gs' S0 S) (sameB (blkAt S0 n) (blkAt S n)) = true := hh
          show Bool.rec (motive := fun _ => Bool) false (sameG gs' (lendB e.Bs 256 S0) S) (sameB (blkAt (lendB e.Bs 256 S0) n) (blkAt S n)) = true
          have hn := hlow n List.mem_cons_self
          rw [lendB_out e.Bs 256 S0 n (by omega) (by omega) (.inl hn)]
          cases hb : sameB (blkAt S0 n) (blkAt S n) with
          | false => rw [hb] at h'; cases h'
          | true => rw [hb] at h'; exact ih (fun m hm => hlow m (List.mem_cons_of_mem _ hm)) h'
      exact key gs hS.low f6
    rcases lent_ok hcal (startP hS hk) (fun i B hB => lendB_in e.Bs 256 S0 i B (by omega) hB) hr hρ hv hR f1 hgl f3 f5 with ⟨h1, h2⟩ | ⟨y, w', h1, θ, ζ, hmv, hx, hsame⟩
    · refine .inl ⟨h1, h2.mono ?_⟩
      rintro x w' ⟨y, rfl, θ, ζ, hmv, hx, hsame⟩
      exact ⟨y, rfl, η, move_same hR hmv.fr.os hmv.fr.tape hmv.fr.output hmv.fr.size hsame, hx.matT h⟩
    · exact .inr ⟨y, w', h1, η, move_same hR hmv.fr.os hmv.fr.tape hmv.fr.output hmv.fr.size hsame, hx.matT h⟩
end Go.Exec

namespace Go.Exec
open Go
variable {P : Program} {N : Nat} {ρ : Nat → Int} {H : Hy}
/-- A step of a region that draws its order, reckoned ahead: an operation that only reckons or loads; an allocation with its place among those; another one, with the allocations that are laid down ahead of it and the loads that are looked at again behind it. -/
inductive Stp where
  | run (i : Nat)
  | alc (i j : Nat)
  | chn (i : Nat) (cs rs : List Nat)
structure Plan where
  k : Nat
  l : List Stp
  fin : List Nat
noncomputable def commitN (l : List Nat) (n0 : Nat) (Z S : St) (K : St → Ans) : Ans :=
  List.rec (motive := fun _ => St → Ans) K (fun j _ ih S => force (Nat.add n0 j) (fun r => chk (Nat.blt r 32768) (ih ((putB r).f ((getB r).f Z) S))) .no) l S
theorem commitN_eq (n0 : Nat) (Z : St) : ∀ (l : List Alc) (S : St) (K : St → Ans), commit l n0 Z S K = commitN (l.map (fun q => q.2.2)) n0 Z S K
  | [], _, _ => rfl
  | q :: l, S, K => by
    show force (Nat.add n0 q.2.2) (fun r => chk (Nat.blt r 32768) (commit l n0 Z ((putB r).f ((getB r).f Z) S) K)) .no = force (Nat.add n0 q.2.2) (fun r => chk (Nat.blt r 32768) (commitN (l.map (fun q => q.2.2)) n0 Z ((putB r).f ((getB r).f Z) S) K)) .no
    simp only [commitN_eq n0 Z l]
noncomputable def recheckN (H : Hy) (P : Program) (mth : Nat → String → Option Nat) (N : Nat) (ops : List Oper) (l : List Nat) : RchC :=
  match l with
  | [] => ⟨fun _ A S K => K A S⟩
  | i :: r => match ops[i]? with
    | some o => ⟨fun call A S K => (gopC H P mth N ops o).f call A S (fun v _ => chk (sameD N o.dst v A) ((recheckN H P mth N ops r).f call A S K))⟩
    | none => ⟨fun _ _ _ _ => .no⟩
theorem recheckN_eq {mth : Nat → String → Option Nat} {ops : List Oper} : ∀ (l : List (Nat × Oper)), (∀ p ∈ l, ops[p.1]? = some p.2) → ∀ call A S K, (recheck H P mth N ops l).f call A S K = (recheckN H P mth N ops (l.map (·.1))).f call A S K
  | [], _, _, _, _, _ => rfl
  | p :: l, h, call, A, S, K => by
    have hp := h p List.mem_cons_self
    have ih := recheckN_eq (mth := mth) l (fun q hq => h q (List.mem_cons_of_mem _ hq))
    simp only [recheck, List.map_cons, recheckN, hp, ih]
noncomputable def drawP (H : Hy) (P : Program) (mth : Nat → String → Option Nat) (N : Nat) (ops : List Oper) (k : Nat) (fin : List Nat) : List Stp → DrwC
  | [] => ⟨fun _ n0 A Z S K => commitN fin n0 Z S (fun S => K A S)⟩
  | .run i :: r => match ops[i]? with
    | some o => ⟨fun call n0 A Z S K => (gopC H P mth N ops o).f call A S (fun v S => (drawP H P mth N ops k fin r).f call n0 ((put N o.dst).f v A) Z S K)⟩
    | none => ⟨fun _ _ _ _ _ _ => .no⟩
  | .alc i j :: r => match ops[i]? with
    | some o => ⟨fun call n0 A Z S K => chk (Nat.beq Z.next (Nat.add n0 j)) (bnd ((opC H P mth N o.op).f call A Z) (fun v Z => (drawP H P mth N ops k fin r).f call n0 ((put N o.dst).f v A) Z S K))⟩
    | none => ⟨fun _ _ _ _ _ _ => .no⟩
  | .chn i cs rs :: r => match ops[i]? with
    | some o => ⟨fun call n0 A Z S K => commitN cs n0 Z S (fun S => (gopC H P mth N ops o).f call A S (fun v S => (recheckN H P mth N ops rs).f call ((put N o.dst).f v A) S (fun A S => (drawP H P mth N ops k fin r).f call n0 A Z S K)))⟩
    | none => ⟨fun _ _ _ _ _ _ => .no⟩
noncomputable def conO (s : Stp) (r : Option (List Stp × List Nat)) : Option (List Stp × List Nat) := match r with | some p => some (s :: p.1, p.2) | none => none
/-- The steps of drawE. -/
noncomputable def planE (P : Program) (ops : List Oper) (k : Nat) : List Nat → Nat → Nat → List (Nat × Oper) → Nat → List Alc → Option (List Stp × List Nat)
  | [], m, _, _, _, alc => Bool.rec (motive := fun _ => Option (List Stp × List Nat)) none (some ([], alc.map (fun q => q.2.2))) ((List.range ops.length).all (bit m))
  | i :: r, m, sure, lds, j, alc => match ops[i]? with
    | none => none
    | some o => Bool.rec (motive := fun _ => Option (List Stp × List Nat)) none
      (match kindOf P o.op, o.guard with
        | 0, _ => conO (.run i) (planE P ops k r (setb m i) sure lds j alc)
        | 1, _ => conO (.run i) (planE P ops k r (setb m i) sure ((i, o) :: lds) j alc)
        | 3, none => Bool.rec (motive := fun _ => Option (List Stp × List Nat)) none (conO (.alc i j) (planE P ops k r (setb m i) sure lds (Nat.add j 1) ((i, o, j) :: alc))) (Nat.blt j k)
        | _, _ => Bool.rec (motive := fun _ => Option (List Stp × List Nat)) none
          (conO (.chn i ((alc.filter fun q => bit (clos ops 4096 (edges o) sure) q.1).map (fun q => q.2.2)) ((lds.filter fun p => Bool.not (bit (clos ops 4096 (edges o) sure) p.1)).map (·.1)))
            (planE P ops k r (setb m i) (setb (clos ops 4096 (edges o) sure) i) (lds.filter fun p => Bool.not (bit (clos ops 4096 (edges o) sure) p.1)) j (alc.filter fun q => Bool.not (bit (clos ops 4096 (edges o) sure) q.1)))) (frontier ops m i))
      (Bool.and (Bool.not (bit m i)) (readyB m o))
theorem conO_some {s : Stp} {r : Option (List Stp × List Nat)} {l : List Stp} {fin : List Nat} (h : conO s r = some (l, fin)) : ∃ l', r = some (l', fin) ∧ l = s :: l' := by
  unfold conO at h
  split at h
  · rename_i p
    injection h with h
    injection h with h1 h2
    subst h1; subst h2
    exact ⟨p.1, rfl, rfl⟩
  · cases h
theorem planE_ok {mth : Nat → String → Option Nat} {ops : List Oper} {k : Nat} : ∀ (sch : List Nat) (m sure : Nat) (lds : List (Nat × Oper)) (j : Nat) (alc : List Alc) (l : List Stp) (fin : List Nat), (∀ p ∈ lds, ops[p.1]? = some p.2) → planE P ops k sch m sure lds j alc = some (l, fin) →
    ∀ call n0 A Z S K, (drawE H P mth N ops k sch m sure lds j alc).f call n0 A Z S K = (drawP H P mth N ops k fin l).f call n0 A Z S K
  | [], m, sure, lds, j, alc, l, fin, hl, h => by
    intro call n0 A Z S K
    simp only [planE] at h
    cases hb : (List.range ops.length).all (bit m) with
    | false => rw [hb] at h; cases h
    | true =>
      rw [hb] at h
      injection h with h
      injection h with h1 h2
      subst h1; subst h2
      simp only [drawE, hb, drawP]
      exact commitN_eq n0 Z alc S _
  | i :: r, m, sure, lds, j, alc, l, fin, hl, h => by
    intro call n0 A Z S K
    simp only [planE] at h
    cases ho : ops[i]? with
    | none => rw [ho] at h; cases h
    | some o =>
      rw [ho] at h
      simp only at h
      cases hb : Bool.and (Bool.not (bit m i)) (readyB m o) with
      | false => rw [hb] at h; cases h
      | true =>
        rw [hb] at h
        simp only at h
        simp only [drawE, ho, hb]
        split at h
        · rename_i hk
          obtain ⟨l', h1, rfl⟩ := conO_some h
          have ih := planE_ok (mth := mth) r _ _ _ _ _ _ _ hl h1
          simp only [hk, drawP, ho, ih]
        · rename_i hk
          obtain ⟨l', h1, rfl⟩ := conO_some h
          have ih := planE_ok (mth := mth) r _ _ _ _ _ _ _ (fun p hp => by
            rcases List.mem_cons.1 hp with rfl | hp
            · exact ho
            · exact hl p hp) h1
          simp only [hk, drawP, ho, ih]
        · rename_i hk hgd
          cases hjk : Nat.blt j k with
          | false => rw [hjk] at h; cases h
          | true =>
            rw [hjk] at h
            simp only at h
            obtain ⟨l', h1, rfl⟩ := conO_some h
            have ih := planE_ok (mth := mth) r _ _ _ _ _ _ _ hl h1
            simp only [hk, hgd, drawP, ho, ih, Bool.and_true]
        · rename_i hn0 hn1 hn3
          cases hfr : frontier ops m i with
          | false => rw [hfr] at h; cases h
          | true =>
            rw [hfr] at h
            simp only at h
            obtain ⟨l', h1, rfl⟩ := conO_some h
            have hf : ∀ p ∈ lds.filter (fun p => Bool.not (bit (clos ops 4096 (edges o) sure) p.1)), ops[p.1]? = some p.2 := fun p hp => hl p (List.mem_filter.1 hp).1
            have ih := planE_ok (mth := mth) r _ _ _ _ _ _ _ hf h1
            have hre := recheckN_eq (H := H) (P := P) (N := N) (mth := mth) (ops := ops) _ hf
            split
            · rename_i hk; exact absurd hk hn0
            · rename_i hk; exact absurd hk hn1
            · rename_i hk hgd; exact absurd hgd (hn3 hk)
            · simp only [drawP, ho, ih, commitN_eq, hre]
noncomputable def eqLN (l : List Nat) : List Nat → Bool := List.rec (motive := fun _ => List Nat → Bool) (fun m => List.rec (motive := fun _ => Bool) true (fun _ _ _ => false) m)
  (fun x _ ih m => List.rec (motive := fun _ => Bool) false (fun y r _ => Bool.and (Nat.beq x y) (ih r)) m) l
theorem eqLN_ok : ∀ {l m : List Nat}, eqLN l m = true → l = m
  | [], [], _ => rfl
  | [], _ :: _, h => by cases h
  | _ :: _, [], h => by cases h
  | x :: l, y :: m, h => by
    obtain ⟨h1, h2⟩ := and_ok (show Bool.and (Nat.beq x y) (eqLN l m) = true from h)
    rw [beq_ok h1, eqLN_ok h2]
noncomputable def eqSt (s t : Stp) : Bool := match s, t with
  | .run i, .run j => Nat.beq i j
  | .alc i j, .alc x y => Bool.and (Nat.beq i x) (Nat.beq j y)
  | .chn i c r, .chn j d s => Bool.and (Nat.beq i j) (Bool.and (eqLN c d) (eqLN r s))
  | _, _ => false
theorem eqSt_ok {s t : Stp} (h : eqSt s t = true) : s = t := by
  cases s <;> cases t <;> simp only [eqSt] at h
  · rw [beq_ok h]
  · cases h
  · cases h
  · cases h
  · obtain ⟨h1, h2⟩ := and_ok h; rw [beq_ok h1, beq_ok h2]
  · cases h
  · cases h
  · cases h
  · obtain ⟨h1, h2⟩ := and_ok h; obtain ⟨h3, h4⟩ := and_ok h2; rw [beq_ok h1, eqLN_ok h3, eqLN_ok h4]
noncomputable def eqSts (l : List Stp) : List Stp → Bool := List.rec (motive := fun _ => List Stp → Bool) (fun m => List.rec (motive := fun _ => Bool) true (fun _ _ _ => false) m)
  (fun x _ ih m => List.rec (motive := fun _ => Bool) false (fun y r _ => Bool.and (eqSt x y) (ih r)) m) l
theorem eqSts_ok : ∀ {l m : List Stp}, eqSts l m = true → l = m
  | [], [], _ => rfl
  | [], _ :: _, h => by cases h
  | _ :: _, [], h => by cases h
  | x :: l, y :: m, h => by
    obtain ⟨h1, h2⟩ := and_ok (show Bool.and (eqSt x y) (eqSts l m) = true from h)
    rw [eqSt_ok h1, eqSts_ok h2]
/-- A plan is that of drawE's steps. -/
noncomputable def planB (P : Program) (N : Nat) (ops : List Oper) (p : Plan) : Bool := Bool.and (okOps P N ops) (Bool.and (Nat.beq p.k (nAlc P ops)) (match planE P ops (nAlc P ops) (schedE P ops.zipIdx ops.length 0) 0 0 [] 0 [] with | some q => Bool.and (eqSts p.l q.1) (eqLN p.fin q.2) | none => false))
abbrev Plans := Nat → Nat → Option Plan
/-- A region is run by its plan. -/
noncomputable def theDraw3 (t : Plans) : Nat → Draw := fun g id H P mth N ops =>
  match t g id with
  | some p => ⟨fun call A S K => force S.next (fun n0 => force (Nat.add n0 p.k) (fun n1 => (drawP H P mth N ops p.k p.fin p.l).f call n0 A S ⟨S.heap, n1, S.ds⟩ K) .no) .no⟩
  | none => ⟨fun _ _ _ _ => .no⟩
/-- Every plan of a table is right. -/
noncomputable def chkC (P : Program) (t : Nat → Option Plan) (N : Nat) : Code → Bool
  | .region i o true => (match t i with | some p => planB P N o.toList p | none => true)
  | .seq a b => Bool.and (chkC P t N a) (chkC P t N b)
  | .cond _ a b => Bool.and (chkC P t N a) (chkC P t N b)
  | .block _ a => chkC P t N a
  | .loop a => chkC P t N a
  | .scope a => chkC P t N a
  | _ => true
theorem chkC_ok {t : Nat → Option Plan} {id : Nat} {ops : Array Oper} {p : Plan} (ht : t id = some p) : ∀ (c : Code), chkC P t N c = true → Code.Draws id ops c → planB P N ops.toList p = true
  | .region i o true, h, hd => by
    obtain ⟨rfl, rfl⟩ := hd
    simp only [chkC, ht] at h
    exact h
  | .region i o false, h, hd => by cases hd
  | .seq a b, h, hd => by
    obtain ⟨h1, h2⟩ := and_ok h
    rcases hd with hd | hd
    · exact chkC_ok ht a h1 hd
    · exact chkC_ok ht b h2 hd
  | .cond _ a b, h, hd => by
    obtain ⟨h1, h2⟩ := and_ok h
    rcases hd with hd | hd
    · exact chkC_ok ht a h1 hd
    · exact chkC_ok ht b h2 hd
  | .block _ a, h, hd => chkC_ok ht a h hd
  | .loop a, h, hd => chkC_ok ht a h hd
  | .skip, _, hd => by cases hd
  | .label _, _, hd => by cases hd
  | .exit _, _, hd => by cases hd
  | .ret, _, hd => by cases hd
  | .rangeFunc _ _ _ _, _, hd => by cases hd
  | .scope a, h, hd => chkC_ok ht a h hd
  | .goto _, _, hd => by cases hd
  | .refuse _, _, hd => by cases hd
noncomputable def chkF (P : Program) (t : Plans) (g : Nat) : Bool := match P.funcs.toList[g]? with
  | some fn => (match fn.body with | some c => chkC P (t g) fn.ntmps c | none => true)
  | none => true
def PlansOk (P : Program) (t : Plans) : Prop := ∀ g, chkF P t g = true
/-- the functions from n on, so many -/
noncomputable def chkFs (P : Program) (t : Plans) (n k : Nat) : Bool := Nat.rec (motive := fun _ => Nat → Bool) (fun _ => true) (fun _ ih g => Bool.and (chkF P t g) (ih (Nat.add g 1))) k n
theorem chkFs_ok {t : Plans} : ∀ {k n : Nat}, chkFs P t n k = true → ∀ g, n ≤ g → g < n + k → chkF P t g = true
  | 0, _, _, g, h1, h2 => by omega
  | k + 1, n, h, g, h1, h2 => by
    obtain ⟨h3, h4⟩ := and_ok (show Bool.and (chkF P t n) (chkFs P t (Nat.add n 1) k) = true from h)
    by_cases e : g = n
    · subst e; exact h3
    · exact chkFs_ok (n := Nat.add n 1) h4 g (by show n + 1 ≤ g; omega) (by show g < n + 1 + k; omega)
theorem plansOk_of {t : Plans} {k : Nat} (h : ∀ g, g < k → chkF P t g = true) (hk : P.funcs.size ≤ k) : PlansOk P t := fun g => by
  by_cases hg : g < k
  · exact h g hg
  · unfold chkF
    have : P.funcs.toList[g]? = none := List.getElem?_eq_none (by simp; omega)
    rw [this]
theorem theDraw3_ok {mth : Nat → String → Option Nat} {t : Plans} (ht : PlansOk P t) (hmix : P.follows .mixedOrders = true) (hH : HyAt P ρ H) (hmth : MthOk P mth) : DrawOk P ρ H mth (theDraw3 t) := by
  intro call hcal g N id ops hd Q v T A S a w η K hrs h hK
  have h2 := theDraw2_ok hmix hH hmth call hcal g N id ops hd Q v T A S a w η K hrs
  refine h2 ?_ hK
  unfold theDraw3 at h
  cases hp : t g id with
  | none => rw [hp] at h; cases h
  | some p =>
    rw [hp] at h
    simp only [force_eq] at h
    obtain ⟨fn, c, hf, hb, hN, hdr⟩ := hd
    have hc := ht g
    unfold chkF at hc
    have hf' : P.funcs.toList[g]? = some fn := by rw [Array.getElem?_toList]; exact hf
    rw [hf'] at hc
    simp only [hb] at hc
    have hpb := chkC_ok hp c hc hdr
    obtain ⟨k1, k2⟩ := and_ok hpb
    obtain ⟨k3, k4⟩ := and_ok k2
    split at k4
    · rename_i q hq
      obtain ⟨k5, k6⟩ := and_ok k4
      have hq' : planE P ops.toList (nAlc P ops.toList) (schedE P ops.toList.zipIdx ops.toList.length 0) 0 0 [] 0 [] = some (p.l, p.fin) := by rw [hq, eqSts_ok k5, eqLN_ok k6]
      unfold theDraw2
      rw [← hN]
      rw [k1]
      simp only [force_eq]
      rw [planE_ok _ _ _ _ _ _ _ _ (fun p hp => by cases hp) hq']
      rw [← hN, beq_ok k3] at h
      exact h
    · cases k4
end Go.Exec

namespace Go.Exec
open Go
variable {P : Program} {N : Nat} {ρ : Nat → Int} {H : Hy}
/-- A new name for a new block, which lies in a world that has only grown. -/
theorem move_adopt {η : Nv} {S : St} {w w' : World} {B : Blk} {k b : Nat} (hR : Rep P η S w) (hos : w'.os = w.os) (ht : w'.tape = w.tape) (ho : w'.output = w.output) (hsz : w.heap.size ≤ w'.heap.size) (hsame : ∀ b, b < w.heap.size → w'.heap[b]? = w.heap[b]?)
    (hn : S.next < 32768) (hb : w.heap.size ≤ b) (hb2 : b < w'.heap.size) (hl : Live P (η.set S.next b k) B S.next b w') :
    Move P η S w (η.set S.next b k) ⟨(updH S.next).f B S.heap, S.next + 1, S.ds⟩ w' := by
  have hnone := hR.new S.next (Nat.le_refl _)
  have hle := Nv.le_set hnone b k
  have hsm := blkAt_up_same S S.next (S.next + 1) B S.ds
  have hne : ∀ m, m < 32768 → m ≠ S.next → blkAt ⟨(updH S.next).f B S.heap, S.next + 1, S.ds⟩ m = blkAt S m := fun m hm h => blkAt_up_ne S _ _ S.ds hn hm (Ne.symm h)
  have hset : ∀ m, m ≠ S.next → (η.set S.next b k).σ m = η.σ m := fun m h => by simp [Nv.set, h]
  have hsetk : ∀ m, m ≠ S.next → (η.set S.next b k).κ m = η.κ m := fun m h => by simp [Nv.set, h]
  have hat : (η.set S.next b k).σ S.next = some b := by simp [Nv.set]
  refine ⟨⟨hle, Nat.le_succ _, fun n c h1 h2 h3 => ?_, fun n hn' => hset n (Nat.ne_of_lt hn')⟩, ⟨fun n h1 h2 => ?_, fun n m c h1 h2 h3 h4 h5 h6 => ?_, fun n hn' => ?_, fun n c hc => ?_, fun n c hn' hc => hR.own n c hn' (by rw [← hset n (by have := hR.top; omega)]; exact hc), Nat.le_succ_of_le hR.top, η.st _ _ (fun c hc => hsame c (hR.foot c hc).1) hR.inv, fun c hc => ⟨Nat.lt_of_lt_of_le (hR.foot c hc).1 hsz, fun n h1 h2 h3 => ?_⟩⟩, ⟨hos, ht, ho, hsz, fun c hc _ => hsame c hc⟩⟩
  · by_cases h : n = S.next
    · subst h; rw [hat] at h3; cases h3; exact .inl hb
    · rw [hne n h1 h] at h2; rw [hset n h] at h3; exact .inr ⟨n, id, h1, h2, h3⟩
  · by_cases h : n = S.next
    · subst h; rw [hsm]; exact ⟨b, hl⟩
    · rw [hne n h1 h] at h2 ⊢
      obtain ⟨c, hc⟩ := hR.live n h1 h2
      have hc' := hc.heap_same (hsame c (hR.low n c hc.σ))
      refine ⟨c, (hset n h).trans hc.σ, hc'.size, by rw [hsetk n h]; exact hc'.cap, fun i hi => ?_, fun i hi => ?_⟩
      · obtain ⟨v, hv, hs⟩ := hc'.cell i hi
        exact ⟨v, hv, hs.up hle⟩
      · rw [hsetk n h] at hi; exact hc'.all i hi
  · by_cases hn1 : n = S.next <;> by_cases hm1 : m = S.next
    · rw [hn1, hm1]
    · subst hn1; rw [hat] at h5; rw [hset m hm1] at h6; cases h5; have := hR.low m _ h6; omega
    · subst hm1; rw [hat] at h6; rw [hset n hn1] at h5; cases h6; have := hR.low n _ h5; omega
    · rw [hne n h1 hn1] at h3; rw [hne m h2 hm1] at h4; rw [hset n hn1] at h5; rw [hset m hm1] at h6
      exact hR.inj n m c h1 h2 h3 h4 h5 h6
  · have h1 : S.next + 1 ≤ n := hn'
    rw [hset n (by omega)]; exact hR.new n (by omega)
  · by_cases h : n = S.next
    · subst h; rw [hat] at hc; cases hc; exact hb2
    · rw [hset n h] at hc; exact Nat.lt_of_lt_of_le (hR.low n c hc) hsz
  · by_cases h : n = S.next
    · subst h; rw [hat] at h3; cases h3; have := (hR.foot _ hc).1; omega
    · rw [hne n h1 h] at h2; rw [hset n h] at h3; exact (hR.foot c hc).2 n h1 h2 h3
/-- A known answer that is a new slice of plain cells: the arguments, the slice (its name aside), its block. -/
structure GEnt where
  vs : List V
  r : Sc
  B : Blk
noncomputable def okGraft (e : GEnt) (r : Ans) : Bool := Ans.rec (motive := fun _ => Bool) false (fun v T =>
  Bool.and (Bool.and (Bool.and (Bool.or (Nat.beq e.r.tag 6) (Nat.beq e.r.tag 12)) (Nat.beq v.s.tag e.r.tag)) (Bool.and (Nat.beq v.s.b e.r.b) (Bool.and (Nat.beq v.s.c e.r.c) (Nat.beq v.s.d e.r.d))))
    (Bool.and (Bool.and (Nat.ble 272 v.s.a) (Nat.blt v.s.a 32768)) (Bool.and (Nat.ble 1 e.B.size) (sameB e.B ((getB v.s.a).f T))))) r
noncomputable def relS (n : Nat) (r : Sc) : V := vS ⟨r.tag, n, r.b, r.c, r.d, [], []⟩
def GMemo (P : Program) (ρ : Nat → Int) (S1 : St) (gs : List Nat) (g : Nat) (e : GEnt) : Prop :=
  ∀ (vs : List V) (S : St) (η : Nv) (args : List Value) (w : World), η.ρ = ρ → VRL η vs args → Rep P η S w → matVs e.vs vs = true → sameG gs S1 S = true → S.next < 32768 →
    Comes' P g args.toArray w fun x w' => ∃ ζ, Move P η S w ζ ⟨(updH S.next).f e.B S.heap, S.next + 1, S.ds⟩ w' ∧ VR ζ (relS S.next e.r) x
noncomputable def graftC (S1 : St) (gs : List Nat) (es : List GEnt) (c : FnC) : FnC :=
  ⟨fun call vs S => List.rec (motive := fun _ => Ans) (c.f call vs S) (fun e _ ih => iff (matVs e.vs vs) (iff (sameG gs S1 S) (force S.next (fun n => chk (Nat.blt n 32768) (.ok (relS n e.r) ⟨(updH n).f e.B S.heap, Nat.add n 1, S.ds⟩)) .no) ih) ih) es⟩
theorem graft_one {g : Nat} {S1 : St} {gs : List Nat} {c : FnC} (hc : OneOk P ρ g c) : ∀ {es : List GEnt}, (∀ e ∈ es, GMemo P ρ S1 gs g e) → OneOk P ρ g (graftC S1 gs es c)
  | [], _ => hc
  | e :: es, he => by
    intro call hcal vs S v S' η args w hρ hv hR h
    have hrest := graft_one hc (es := es) (fun x hx => he x (List.mem_cons_of_mem _ hx)) call hcal vs S v S' η args w hρ hv hR
    rcases iff_ok (show iff (matVs e.vs vs) (iff (sameG gs S1 S) (force S.next (fun n => chk (Nat.blt n 32768) (.ok (relS n e.r) ⟨(updH n).f e.B S.heap, Nat.add n 1, S.ds⟩)) .no) ((graftC S1 gs es c).f call vs S)) ((graftC S1 gs es c).f call vs S) = .ok v S' from h) with ⟨h1, h2⟩ | ⟨h1, h2⟩
    · rcases iff_ok h2 with ⟨h3, h4⟩ | ⟨h3, h4⟩
      · rw [force_eq] at h4
        obtain ⟨h5, h6⟩ := chk_ok h4
        cases h6
        exact ⟨rfl, he e List.mem_cons_self vs S η args w hρ hv hR h1 h3 (blt_ok h5)⟩
      · exact hrest h4
    · exact hrest h2
theorem graft_ok {call : Caller} (hcal : Cal P ρ call) {g : Nat} {S0 : St} {gs : List Nat} (hS : Start S0 gs) {e : GEnt} (h : okGraft e (call g e.vs S0) = true) : GMemo P ρ S0 gs g e := by
  intro vs S η args w hρ hv hR hm hg hnx
  cases hr : call g e.vs S0 with
  | no => rw [hr] at h; cases h
  | ok v T =>
    rw [hr] at h
    obtain ⟨g1, g2⟩ := and_ok (show Bool.and _ _ = true from h)
    obtain ⟨g3, g4⟩ := and_ok g1
    obtain ⟨g5, g6⟩ := and_ok g3
    obtain ⟨g7, g8⟩ := and_ok g4
    obtain ⟨g9, g10⟩ := and_ok g8
    obtain ⟨k1, k2⟩ := and_ok g2
    obtain ⟨k3, k4⟩ := and_ok k1
    obtain ⟨k5, k6⟩ := and_ok k2
    have hSP : StartP S0 gs 0 := ⟨hS.low, hS.next, by omega, fun n hn hl => .inl (hS.only n hn hl)⟩
    have hmP : matPs [] e.vs vs = true := by
      have key : ∀ (es vs : List V), matVs es vs = true → matPs [] es vs = true := by
        intro es
        induction es with
        | nil => intro vs hh; exact hh
        | cons x es ih =>
          intro vs hh
          cases vs with
          | nil => cases hh
          | cons v vs =>
            have h' : Bool.rec (motive := fun _ => Bool) false (matVs es vs) (matV x v) = true := hh
            cases hx : matV x v with
            | false => rw [hx] at h'; cases h'
            | true =>
              rw [hx] at h'
              show Bool.rec (motive := fun _ => Bool) false (matPs [] es vs) (matP [] x v) = true
              have : matP [] x v = true := by
                unfold matP
                cases ht : Nat.beq x.s.tag 4 with
                | false => exact hx
                | true =>
                  exfalso
                  unfold matV at hx
                  have e4 := beq_ok ht
                  rw [e4] at hx
                  obtain ⟨q1, q2⟩ := and_ok (show Bool.and (matS x.s v.s) (Nat.ble v.s.tag 97) = true from hx)
                  rcases or_ok q1 with q | q
                  · have := beq_ok q; omega
                  · obtain ⟨r1, -, -, r4⟩ := eqP_ok q
                    have := pureS_ok r4
                    omega
              rw [this]
              exact ih vs h'
      exact key e.vs vs hm
    have hfin : ∀ x w', (∃ θ ζ, Move P θ S0 w ζ T w' ∧ VR ζ v x ∧ ∀ b, b < w.heap.size → w'.heap[b]? = w.heap[b]?) → ∃ ζ, Move P η S w ζ ⟨(updH S.next).f e.B S.heap, S.next + 1, S.ds⟩ w' ∧ VR ζ (relS S.next e.r) x := by
      rintro x w' ⟨θ, ζ, hmv, hx, hsame⟩
      have hs : SR ζ v.s x := hx.asSc (by rw [beq_ok g6]; rcases or_ok g5 with q | q <;> have := beq_ok q <;> omega)
      have hka := blt_ok k4
      have hk0 := ble_ok k3
      have hsb := sameB_ok k6
      obtain ⟨b, hlv⟩ := hmv.rep.live v.s.a hka (by have := hsb.1; have := ble_ok k5; show 0 < (blkAt T v.s.a).size; have : e.B.size = (blkAt T v.s.a).size := hsb.1; omega)
      have hbnew : w.heap.size ≤ b := by
        rcases hmv.ext.live v.s.a b hka (by have : e.B.size = (blkAt T v.s.a).size := hsb.1; have := ble_ok k5; omega) hlv.σ with h1 | ⟨m, h1, h2, h3, -⟩
        · exact h1
        · have := hS.low m (hS.only m h2 h3); have := h1 hk0; omega
      have hlow := hmv.rep.low _ b hlv.σ
      have hat : (η.set S.next b (ζ.κ v.s.a)).σ S.next = some b := by simp [Nv.set]
      have hatk : (η.set S.next b (ζ.κ v.s.a)).κ S.next = ζ.κ v.s.a := by simp [Nv.set]
      have hl2 : Live P (η.set S.next b (ζ.κ v.s.a)) e.B S.next b w' := by
        obtain ⟨q1, q2, q3⟩ := hsb
        refine ⟨hat, q1 ▸ hlv.size, by rw [q1, q2, hatk]; exact hlv.cap, fun i hi => ?_, by rw [q2, hatk]; exact hlv.all⟩
        obtain ⟨u, hu, hr'⟩ := hlv.cell i (q1 ▸ hi)
        exact ⟨u, hu, hr'.same (q3 i hi)⟩
      refine ⟨_, move_adopt hR hmv.fr.os hmv.fr.tape hmv.fr.output hmv.fr.size hsame hnx hbnew hlow hl2, ?_⟩
      rcases or_ok g5 with q | q
      · obtain ⟨b', hb', rfl, hle⟩ := hs.asSl ((beq_ok g6).trans (beq_ok q))
        have : b' = b := by rw [hlv.σ] at hb'; injection hb' with hb'; exact hb'.symm
        subst this
        rw [beq_ok g9, beq_ok g10] at hle
        rw [beq_ok g7, beq_ok g9, beq_ok g10]
        exact .sc (.sl (s := ⟨e.r.tag, S.next, e.r.b, e.r.c, e.r.d, [], []⟩) b' (beq_ok q) hat hle)
      · obtain ⟨b', hb', rfl, hle⟩ := hs.asSu ((beq_ok g6).trans (beq_ok q))
        have : b' = b := by rw [hlv.σ] at hb'; injection hb' with hb'; exact hb'.symm
        subst this
        have hsu := SR.su (η := η.set S.next b' (ζ.κ v.s.a)) (s := ⟨e.r.tag, S.next, e.r.b, e.r.c, e.r.d, [], []⟩) b' (beq_ok q) hat (by rw [hatk]; rw [beq_ok g9, beq_ok g10] at hle; exact hle)
        rw [hatk] at hsu
        rw [beq_ok g7, beq_ok g9, beq_ok g10]
        exact .sc hsu
    rcases lent_ok hcal hSP (Bs := []) (fun i B hB => by simp at hB) hr hρ hv hR hmP hg rfl rfl with ⟨h1, h2⟩ | ⟨y, w', h1, h2⟩
    · refine .inl ⟨h1, h2.mono ?_⟩
      rintro x w' ⟨y, rfl, hy⟩
      exact ⟨y, rfl, hfin y w' hy⟩
    · exact .inr ⟨y, w', h1, hfin y w' h2⟩
end Go.Exec

namespace Go.Exec
open Go
variable {P : Program} {N : Nat} {ρ : Nat → Int} {H : Hy}
/-- What an operation on two ints of 64 bits with a sign gives. -/
def opV (op : BinOp) (x y : Int) : Option Value := match op with
  | .add => some (.int .i64 (IntKind.i64.wrap (x + y)))
  | .sub => some (.int .i64 (IntKind.i64.wrap (x - y)))
  | .mul => some (.int .i64 (IntKind.i64.wrap (x * y)))
  | .quo => if y = 0 then none else some (.int .i64 (IntKind.i64.wrap (x.tdiv y)))
  | .rem => if y = 0 then none else some (.int .i64 (x.tmod y))
  | .and => some (.int .i64 (IntKind.i64.wrap ((BitVec.ofInt 64 x &&& BitVec.ofInt 64 y).toNat : Nat)))
  | .eql => some (.bool (x == y))
  | .neq => some (.bool (x != y))
  | .lss => some (.bool (decide (x < y)))
  | .leq => some (.bool (decide (x ≤ y)))
  | .gtr => some (.bool (decide (y < x)))
  | .geq => some (.bool (decide (y ≤ x)))
  | _ => none
theorem opV_run {op : BinOp} {x y : Int} {v : Value} (h : opV op x y = some v) (t : TypeId) (w : World) : (binOp op t (.int .i64 x) (.int .i64 y)).run P w = .ok v w := by
  cases op <;> simp only [opV] at h <;> first
    | (cases h; done)
    | (injection h with h; subst h
       first
        | (rw [binOp_add]; rfl) | (rw [binOp_sub]; rfl) | (rw [binOp_mul]; rfl) | (rw [binOp_and]; rfl) | (rw [binOp_eql]; rfl) | (rw [binOp_neq]; rfl) | (rw [binOp_lss]; rfl) | (rw [binOp_leq]; rfl) | (rw [binOp_gtr]; rfl) | (rw [binOp_geq]; rfl))
    | (split at h
       · cases h
       · rename_i hy
         injection h with h; subst h
         first
          | (rw [binOp_rem]; unfold Op.intDiv; rw [if_neg hy]; rfl)
          | (rw [binOp_quo]; unfold Op.intDiv; rw [if_neg hy]; rfl))
/-- A row: an operation, its operands (a variable, by its number, or a plain number, by its residue), what it gives. -/
structure Row where
  op : BinOp
  v1 : Bool
  a1 : Nat
  v2 : Bool
  a2 : Nat
  s : Sc
def valR (ρ : Nat → Int) (v : Bool) (a : Nat) : Int := match v with | true => ρ a | false => IntKind.i64.wrap a
/-- A row holds. -/
def RowOk (ρ : Nat → Int) (e : Row) : Prop := ∃ v, opV e.op (valR ρ e.v1 e.a1) (valR ρ e.v2 e.a2) = some v ∧ ∀ η : Nv, η.ρ = ρ → SR η e.s v
noncomputable def fitR (v : Bool) (a : Nat) (s : Sc) : Bool := Bool.and (Nat.beq s.tag (Bool.rec (motive := fun _ => Nat) 19 24 v)) (Nat.beq s.a a)
noncomputable def rowsF (l : List Row) : BinOp → IntKind → Sc → Sc → Option Sc := fun op k s t =>
  Bool.rec (motive := fun _ => Option Sc) none (List.rec (motive := fun _ => Option Sc) none (fun e _ ih => Bool.rec (motive := fun _ => Option Sc) ih (some e.s) (Bool.and (Nat.beq (opN e.op) (opN op)) (Bool.and (fitR e.v1 e.a1 s) (fitR e.v2 e.a2 t)))) l) (Bool.and (isI64 k) (Nat.blt (opN op) 99))
theorem opN_inj {a b : BinOp} (h : opN a = opN b) (hb : opN b < 99) : a = b := by
  cases a <;> cases b <;> first | rfl | (simp [opN] at h; done) | (simp [opN] at hb; done)
theorem fitR_ok {v : Bool} {a : Nat} {s : Sc} {η : Nv} {n : Int} (h : fitR v a s = true) (hs : SR η s (.int .i64 n)) (hρ : η.ρ = ρ) : n = valR ρ v a := by
  obtain ⟨h1, h2⟩ := and_ok h
  have ht := beq_ok h1
  have ha := beq_ok h2
  cases v with
  | true =>
    have ht : s.tag = 24 := ht
    have : ∀ u, SR η s u → u = .int .i64 n → n = ρ a := by
      intro u hu e
      cases hu with
      | unk h _ => omega
      | int k h _ => have := kcode_ge k; omega
      | var k h hb => injection e with _ e; rw [← e, hρ, ha]
      | ints k m h _ _ => omega
      | _ => cases e
    exact this _ hs rfl
  | false =>
    have ht : s.tag = 19 := ht
    obtain ⟨e, -⟩ := hs.asInt (k := .i64) ht
    injection e with _ e
    rw [e, ha]; rfl
theorem rowsF_ok {l : List Row} (h : ∀ e ∈ l, RowOk ρ e) : BinAt P ρ (rowsF l) := by
  intro op k s1 s2 s η t w n m hρ hs h1 h2 hsl hsr
  cases hb : Bool.and (isI64 k) (Nat.blt (opN op) 99) with
  | false => simp only [rowsF, hb] at hs; cases hs
  | true =>
    simp only [rowsF, hb] at hs
    obtain ⟨h3, h4⟩ := and_ok hb
    have hk : k = .i64 := by cases k <;> first | rfl | cases h3
    subst hk
    have key : ∀ (l : List Row), (∀ e ∈ l, RowOk ρ e) → List.rec (motive := fun _ => Option Sc) none (fun e _ ih => Bool.rec (motive := fun _ => Option Sc) ih (some e.s) (Bool.and (Nat.beq (opN e.op) (opN op)) (Bool.and (fitR e.v1 e.a1 s1) (fitR e.v2 e.a2 s2)))) l = some s →
        ∃ y, (binOp op t (.int .i64 n) (.int .i64 m)).run P w = .ok y w ∧ SR η s y := by
      intro l
      induction l with
      | nil => intro _ hh; cases hh
      | cons e l ih =>
        intro hl hh
        cases hc : Bool.and (Nat.beq (opN e.op) (opN op)) (Bool.and (fitR e.v1 e.a1 s1) (fitR e.v2 e.a2 s2)) with
        | false => simp only [hc] at hh; exact ih (fun x hx => hl x (List.mem_cons_of_mem _ hx)) hh
        | true =>
          simp only [hc] at hh
          injection hh with hh
          subst hh
          obtain ⟨k1, k2⟩ := and_ok hc
          obtain ⟨k3, k4⟩ := and_ok k2
          obtain ⟨v, hv, hsr'⟩ := hl e List.mem_cons_self
          rw [opN_inj (beq_ok k1) (blt_ok h4)] at hv
          rw [← fitR_ok k3 h1 hρ, ← fitR_ok k4 h2 hρ] at hv
          exact ⟨v, opV_run hv t w, hsr' η hρ⟩
    exact key l h hs
/-- the runner of a law with such rows, and variables of 64 bits without a sign that stand for such with one: pairs (i, j): the conversion of i is j -/
noncomputable def convF (l : List (Nat × Nat)) : IntKind → IntKind → Sc → Option Sc := fun k k' s => match k, k' with
  | .i64, .u64 => Bool.rec (motive := fun _ => Option Sc) none (List.rec (motive := fun _ => Option Sc) none (fun e _ ih => Bool.rec (motive := fun _ => Option Sc) ih (some ⟨24, e.2, 23, 0, 0, [], []⟩) (Nat.beq e.1 s.a)) l) (Nat.beq s.tag 24)
  | _, _ => none
theorem convF_ok {l : List (Nat × Nat)} (h : ∀ e ∈ l, IntKind.u64.wrap (ρ e.1) = ρ e.2) : ConvAt ρ (convF l) := by
  intro k k' s1 s η n hρ hs h1
  unfold convF at hs
  split at hs
  · cases hb : Nat.beq s1.tag 24 with
    | false => rw [hb] at hs; cases hs
    | true =>
      rw [hb] at hs
      have hn : n = ρ s1.a := by
        have : ∀ u, SR η s1 u → u = .int .i64 n → n = ρ s1.a := by
          intro u hu e
          cases hu with
          | unk h _ => have := beq_ok hb; omega
          | int k h _ => have := kcode_ge k; have := beq_ok hb; omega
          | var k h hb' => injection e with _ e; rw [← e, hρ]
          | ints k m h _ _ => have := beq_ok hb; omega
          | _ => cases e
        exact this _ h1 rfl
      have key : ∀ (l : List (Nat × Nat)), (∀ e ∈ l, IntKind.u64.wrap (ρ e.1) = ρ e.2) → List.rec (motive := fun _ => Option Sc) none (fun e _ ih => Bool.rec (motive := fun _ => Option Sc) ih (some ⟨24, e.2, 23, 0, 0, [], []⟩) (Nat.beq e.1 s1.a)) l = some s → SR η s (.int .u64 (IntKind.u64.wrap n)) := by
        intro l
        induction l with
        | nil => intro _ hh; cases hh
        | cons e l ih =>
          intro hl hh
          cases hc : Nat.beq e.1 s1.a with
          | false => simp only [hc] at hh; exact ih (fun x hx => hl x (List.mem_cons_of_mem _ hx)) hh
          | true =>
            simp only [hc] at hh
            injection hh with hh
            subst hh
            rw [hn, ← beq_ok hc, hl e List.mem_cons_self, ← hρ]
            exact .var (s := ⟨24, e.2, 23, 0, 0, [], []⟩) .u64 rfl rfl
      exact key l h hs
  · cases hs
/-- and shifts to the right of such variables -/
noncomputable def inSnd (c : List (Nat × Nat)) (i : Nat) : Bool := List.rec (motive := fun _ => Bool) false (fun e _ ih => Bool.rec (motive := fun _ => Bool) ih true (Nat.beq e.2 i)) c
theorem inSnd_ok {i : Nat} : ∀ {c : List (Nat × Nat)}, inSnd c i = true → ∃ e ∈ c, e.2 = i
  | e :: c, h => by
    have h' : Bool.rec (motive := fun _ => Bool) (inSnd c i) true (Nat.beq e.2 i) = true := h
    cases hb : Nat.beq e.2 i with
    | true => exact ⟨e, List.mem_cons_self, beq_ok hb⟩
    | false =>
      rw [hb] at h'
      obtain ⟨x, hx, hi⟩ := inSnd_ok h'
      exact ⟨x, List.mem_cons_of_mem _ hx, hi⟩
noncomputable def shR (c : List (Nat × Nat)) (op : BinOp) (k : IntKind) (s : Sc) : Bool := match op, k with
  | .shr, .u64 => Bool.and (Nat.beq s.tag 24) (inSnd c s.a)
  | _, _ => false
noncomputable def hyR (l : List Row) (c : List (Nat × Nat)) : Hy where
  bin := (hyU (rowsF l) (convF c)).bin
  sh := fun op k s n => Bool.rec (motive := fun _ => Option Sc) ((hyU (rowsF l) (convF c)).sh op k s n) (some (unkS k)) (shR c op k s)
  conv := (hyU (rowsF l) (convF c)).conv
  neg := (hyU (rowsF l) (convF c)).neg
theorem hyR_ok {l : List Row} {c : List (Nat × Nat)} (hl : ∀ e ∈ l, RowOk ρ e) (hc : ∀ e ∈ c, IntKind.u64.wrap (ρ e.1) = ρ e.2) : HyAt P ρ (hyR l c) where
  bin := (hyU_ok (rowsF_ok hl) (convF_ok hc)).bin
  sh := by
    intro op k j s1 c0 s η w n hρ h hc1 h1 hop
    have h' : Bool.rec (motive := fun _ => Option Sc) ((hyU (rowsF l) (convF c)).sh op k s1 c0) (some (unkS k)) (shR c op k s1) = some s := h
    cases hb : shR c op k s1 with
    | false => rw [hb] at h'; exact (hyU_ok (rowsF_ok hl) (convF_ok hc)).sh op k j s1 c0 s η w n hρ h' hc1 h1 hop
    | true =>
      rw [hb] at h'
      injection h' with h'
      subst h'
      unfold shR at hb
      split at hb
      · obtain ⟨h2, h3⟩ := and_ok hb
        obtain ⟨e, he, hi⟩ := inSnd_ok h3
        have hn : n = ρ s1.a := by
          have : ∀ u, SR η s1 u → u = .int .u64 n → n = ρ s1.a := by
            intro u hu e
            cases hu with
            | unk h _ => have := beq_ok h2; omega
            | int k h _ => have := kcode_ge k; have := beq_ok h2; omega
            | var k h hb' => injection e with _ e; rw [← e, hρ]
            | ints k m h _ _ => have := beq_ok h2; omega
            | _ => cases e
          exact this _ h1 rfl
        have hn2 : IntKind.u64.wrap n = n := by rw [hn, ← hi, ← hc e he, wrap_wrap]
        refine ⟨_, by unfold Op.shift; rw [if_neg (by omega)]; rfl, .unkS .u64 ?_⟩
        rw [Int.toNat_natCast]
        have hr : n = IntKind.u64.wrap (((n % (kmod .u64 : Int)).toNat : Nat) : Int) := by rw [wrap_res, hn2]
        obtain ⟨e1, -⟩ := shrN_val .u64 c0 (res_lt .u64 n)
        rw [hr, e1, wrap_wrap]
      · cases hb
  conv := (hyU_ok (P := P) (rowsF_ok hl) (convF_ok hc)).conv
  neg := (hyU_ok (P := P) (rowsF_ok hl) (convF_ok hc)).neg
/-- A known answer at plain arguments, said of their values. -/
theorem Memo.at {S1 : St} {gs : List Nat} {g : Nat} {vs : List V} {v : V} (h : Memo P ρ S1 gs g vs v) {S : St} {η : Nv} {args : List Value} {w : World} (hρ : η.ρ = ρ) (hv : VRL η vs args) (hm : matVs vs vs = true) (hR : Rep P η S w) (hg : sameG gs S1 S = true) : Comes' P g args.toArray w fun x w' => ∃ ζ, Move P η S w ζ S w' ∧ VR ζ v x :=
  h vs S η args w hρ hv hR hm hg
end Go.Exec

namespace Go.Exec
open Go
variable {P : Program} {N : Nat} {ρ : Nat → Int} {H : Hy}
/-- A row for a shift of a variable of 64 bits with a sign by a plain number. -/
structure ShRow where
  left : Bool
  i : Nat
  c : Nat
  s : Sc
def ShOk (ρ : Nat → Int) (e : ShRow) : Prop := ∀ η : Nv, η.ρ = ρ → SR η e.s (.int .i64 (match e.left with | true => IntKind.i64.wrap (ρ e.i * 2 ^ min e.c 64) | false => (ρ e.i).fdiv (2 ^ min e.c 64)))
/-- A row for a conversion of a variable. -/
structure CvRow where
  k : IntKind
  k' : IntKind
  i : Nat
  s : Sc
def CvOk (ρ : Nat → Int) (e : CvRow) : Prop := ∀ η : Nv, η.ρ = ρ → SR η e.s (.int e.k' (e.k'.wrap (ρ e.i)))
noncomputable def findS {α : Type} (f : α → Bool) (g : α → Sc) (l : List α) : Option Sc := List.rec (motive := fun _ => Option Sc) none (fun e _ ih => Bool.rec (motive := fun _ => Option Sc) ih (some (g e)) (f e)) l
theorem findS_ok {α : Type} {f : α → Bool} {g : α → Sc} {s : Sc} : ∀ {l : List α}, findS f g l = some s → ∃ e ∈ l, f e = true ∧ g e = s
  | [], h => by cases h
  | e :: l, h => by
    have h' : Bool.rec (motive := fun _ => Option Sc) (findS f g l) (some (g e)) (f e) = some s := h
    cases hb : f e with
    | true =>
      rw [hb] at h'
      injection h' with h'
      exact ⟨e, List.mem_cons_self, hb, h'⟩
    | false =>
      rw [hb] at h'
      obtain ⟨x, h1, h2⟩ := findS_ok h'
      exact ⟨x, List.mem_cons_of_mem _ h1, h2⟩
noncomputable def isVar (k : IntKind) (i : Nat) (s : Sc) : Bool := Bool.and (Nat.beq s.tag 24) (Bool.and (Nat.beq s.a i) (Nat.beq s.b (kcode k)))
theorem isVar_val {k : IntKind} {i : Nat} {s : Sc} {η : Nv} {n : Int} (h : isVar k i s = true) (hs : SR η s (.int k n)) : n = η.ρ i := by
  obtain ⟨h1, h2⟩ := and_ok h
  obtain ⟨h3, h4⟩ := and_ok h2
  have e := hs.asVar (beq_ok h1) (beq_ok h4)
  injection e with _ e
  rw [e, beq_ok h3]
noncomputable def shlB (op : BinOp) (b : Bool) : Bool := match op, b with | .shl, true => true | .shr, false => true | _, _ => false
noncomputable def shF (l : List ShRow) (op : BinOp) (k : IntKind) (s : Sc) (c : Nat) : Option Sc := findS (fun e : ShRow => Bool.and (Bool.and (shlB op e.left) (isI64 k)) (Bool.and (isVar .i64 e.i s) (Nat.beq e.c c))) (fun e => e.s) l
noncomputable def cvF (l : List CvRow) (k k' : IntKind) (s : Sc) : Option Sc := findS (fun e : CvRow => Bool.and (Bool.and (Nat.beq (kcode e.k) (kcode k)) (Nat.beq (kcode e.k') (kcode k'))) (isVar e.k e.i s)) (fun e => e.s) l
theorem cvF_ok {l : List CvRow} (h : ∀ e ∈ l, CvOk ρ e) : ConvAt ρ (cvF l) := by
  intro k k' s1 s η n hρ hs h1
  obtain ⟨e, he, hf, rfl⟩ := findS_ok hs
  obtain ⟨h2, h3⟩ := and_ok hf
  obtain ⟨h4, h5⟩ := and_ok h2
  have hk := kcode_inj (beq_ok h4)
  have hk' := kcode_inj (beq_ok h5)
  subst hk; subst hk'
  have hn := isVar_val h3 h1
  rw [hn, hρ]
  exact h e he η hρ
/-- A row for the rest of a variable of 64 bits without a sign: the variable, the plain number, the rest. -/
structure URow where
  i : Nat
  c : Nat
  r : Nat
def UOk (ρ : Nat → Int) (e : URow) : Prop := e.r < 18446744073709551616 ∧ e.c ≠ 0 ∧ e.c < 18446744073709551616 ∧ (ρ e.i).tmod e.c = e.r
noncomputable def uRem (op : BinOp) (k : IntKind) : Bool := match op, k with | .rem, .u64 => true | _, _ => false
noncomputable def urF (l : List URow) (op : BinOp) (k : IntKind) (s t : Sc) : Option Sc := Bool.rec (motive := fun _ => Option Sc) none (findS (fun e : URow => Bool.and (isVar .u64 e.i s) (Bool.and (Nat.beq t.tag 23) (Nat.beq t.a e.c))) (fun e => ⟨23, e.r, 0, 0, 0, [], []⟩) l) (uRem op k)
theorem urF_ok {l : List URow} (h : ∀ e ∈ l, UOk ρ e) : BinAt P ρ (urF l) := by
  intro op k s1 s2 s η t w n m hρ hs h1 h2 hsl hsr
  cases hb : uRem op k with
  | false => simp only [urF, hb] at hs; cases hs
  | true =>
    simp only [urF, hb] at hs
    obtain ⟨e, he, hf, rfl⟩ := findS_ok hs
    obtain ⟨h3, h4⟩ := and_ok hf
    obtain ⟨h5, h6⟩ := and_ok h4
    have hop : op = .rem ∧ k = .u64 := by
      unfold uRem at hb
      split at hb
      · exact ⟨rfl, rfl⟩
      · cases hb
    obtain ⟨rfl, rfl⟩ := hop
    obtain ⟨q1, q2, q3, q4⟩ := h e he
    have hn := isVar_val h3 h1
    obtain ⟨e2, -⟩ := h2.asInt (k := .u64) (beq_ok h5)
    injection e2 with _ e2
    rw [beq_ok h6, IntKind.wrap_u64, Int.emod_eq_of_lt (by omega) (by omega)] at e2
    rw [hρ] at hn
    refine ⟨.int .u64 (n.tmod m), ?_, ?_⟩
    · rw [binOp_rem]; unfold Op.intDiv; rw [if_neg (by rw [e2]; omega)]; rfl
    · rw [hn, e2, q4]
      have := SR.int (η := η) (s := ⟨23, e.r, 0, 0, 0, [], []⟩) .u64 rfl q1
      rw [IntKind.wrap_u64, Int.emod_eq_of_lt (by show (0 : Int) ≤ ((e.r : Nat) : Int); omega) (by show ((e.r : Nat) : Int) < _; omega)] at this
      exact this
noncomputable def orF (f g : BinOp → IntKind → Sc → Sc → Option Sc) : BinOp → IntKind → Sc → Sc → Option Sc := fun op k s t => Option.rec (motive := fun _ => Option Sc) (g op k s t) some (f op k s t)
theorem orF_ok {f g : BinOp → IntKind → Sc → Sc → Option Sc} (hf : BinAt P ρ f) (hg : BinAt P ρ g) : BinAt P ρ (orF f g) := by
  intro op k s1 s2 s η t w n m hρ hs h1 h2 hsl hsr
  cases h : f op k s1 s2 with
  | some r => simp only [orF, h] at hs; injection hs with hs; subst hs; exact hf op k s1 s2 _ η t w n m hρ h h1 h2 hsl hsr
  | none => simp only [orF, h] at hs; exact hg op k s1 s2 _ η t w n m hρ hs h1 h2 hsl hsr
/-- the runner of a law with rows of operations, conversions, shifts, rests -/
noncomputable def hyS (l : List Row) (c : List CvRow) (d : List ShRow) (u : List URow) : Hy where
  bin := (hyU (orF (rowsF l) (urF u)) (cvF c)).bin
  sh := fun op k s n => Option.rec (motive := fun _ => Option Sc) ((hyU (orF (rowsF l) (urF u)) (cvF c)).sh op k s n) some (shF d op k s n)
  conv := (hyU (orF (rowsF l) (urF u)) (cvF c)).conv
  neg := (hyU (orF (rowsF l) (urF u)) (cvF c)).neg
theorem hyS_ok {l : List Row} {c : List CvRow} {d : List ShRow} {u : List URow} (hl : ∀ e ∈ l, RowOk ρ e) (hc : ∀ e ∈ c, CvOk ρ e) (hd : ∀ e ∈ d, ShOk ρ e) (hu : ∀ e ∈ u, UOk ρ e) : HyAt P ρ (hyS l c d u) where
  bin := (hyU_ok (orF_ok (rowsF_ok hl) (urF_ok hu)) (cvF_ok hc)).bin
  sh := by
    intro op k j s1 c0 s η w n hρ h hc1 h1 hop
    cases hs : shF d op k s1 c0 with
    | none =>
      have e : (hyU (orF (rowsF l) (urF u)) (cvF c)).sh op k s1 c0 = some s := by rw [← h]; simp only [hyS, hs]
      exact (hyU_ok (orF_ok (rowsF_ok hl) (urF_ok hu)) (cvF_ok hc)).sh op k j s1 c0 s η w n hρ e hc1 h1 hop
    | some r =>
      have e : some r = some s := by rw [← h]; simp only [hyS, hs]
      injection e with e
      subst e
      obtain ⟨e, he, hf, rfl⟩ := findS_ok hs
      obtain ⟨h2, h3⟩ := and_ok hf
      obtain ⟨h4, h5⟩ := and_ok h2
      obtain ⟨h6, h7⟩ := and_ok h3
      have hk : k = .i64 := by cases k <;> first | rfl | cases h5
      subst hk
      have hn := isVar_val h6 h1
      have hr := hd e he η hρ
      rw [hn, hρ, ← beq_ok h7]
      rcases hop with rfl | rfl
      · have hb : e.left = true := by cases hb : e.left <;> rw [hb] at h4 <;> first | rfl | cases h4
        rw [hb] at hr
        exact ⟨_, by unfold Op.shift; rw [if_neg (by omega)]; rfl, by rw [Int.toNat_natCast]; exact hr⟩
      · have hb : e.left = false := by cases hb : e.left <;> rw [hb] at h4 <;> first | rfl | cases h4
        rw [hb] at hr
        exact ⟨_, by unfold Op.shift; rw [if_neg (by omega)]; rfl, by rw [Int.toNat_natCast]; exact hr⟩
  conv := (hyU_ok (P := P) (orF_ok (rowsF_ok hl) (urF_ok hu)) (cvF_ok hc)).conv
  neg := (hyU_ok (P := P) (orF_ok (rowsF_ok hl) (urF_ok hu)) (cvF_ok hc)).neg
/-- A function of one int that gives an int: of variables known, else by c. -/
noncomputable def varC (l : List (Nat × Sc)) (c : FnC) : FnC := ⟨fun call vs S => chk (Nat.beq vs.length 1) (nthV vs 0 (fun v => Option.rec (motive := fun _ => Ans) (c.f call vs S) (fun s => .ok (vS s) S) (findS (fun e : Nat × Sc => isVar .i64 e.1 v.s) (fun e => e.2) l)))⟩
theorem var_one {g : Nat} {l : List (Nat × Sc)} {c : FnC} (hc : OneOk P ρ g c) (h : ∀ e ∈ l, ∀ w, ∃ y, (∀ η : Nv, η.ρ = ρ → SR η e.2 y) ∧ (callFunc g #[.int .i64 (ρ e.1)]).run P w = .ok (.enter g #[.int .i64 (ρ e.1)]) w ∧
    Calls P g #[.int .i64 (ρ e.1)] w fun r w' => r = .returned y ∧ (w'.os = w.os ∧ w'.tape = w.tape ∧ w'.output = w.output ∧ w.heap.size ≤ w'.heap.size ∧ ∀ b, b < w.heap.size → w'.heap[b]? = w.heap[b]?)) : OneOk P ρ g (varC l c) := by
  intro call hcal vs S v S' η args w hρ hv hR hh
  obtain ⟨h0, h1⟩ := chk_ok hh
  match vs, args, hv, h0, h1 with
  | [p], [x], .cons hp .nil, _, h1 =>
    have h2 : Option.rec (motive := fun _ => Ans) (c.f call [p] S) (fun s => .ok (vS s) S) (findS (fun e : Nat × Sc => isVar .i64 e.1 p.s) (fun e => e.2) l) = .ok v S' := h1
    cases hf : findS (fun e : Nat × Sc => isVar .i64 e.1 p.s) (fun e => e.2) l with
    | none => rw [hf] at h2; exact hc call hcal [p] S v S' η [x] w hρ (.cons hp .nil) hR h2
    | some s =>
      rw [hf] at h2
      cases h2
      obtain ⟨e, he, hi, rfl⟩ := findS_ok hf
      obtain ⟨k1, k2⟩ := and_ok hi
      obtain ⟨k3, k4⟩ := and_ok k2
      have ex := (hp.asSc (by rw [beq_ok k1]; omega)).asVar (k := .i64) (beq_ok k1) (beq_ok k4)
      rw [beq_ok k3, hρ] at ex
      subst ex
      obtain ⟨y, hy, hent, hcl⟩ := h e he w
      refine ⟨rfl, .inl ⟨hent, hcl.mono ?_⟩⟩
      rintro r w' ⟨rfl, q1, q2, q3, q4, q5⟩
      exact ⟨y, rfl, η, move_same hR q1 q2 q3 q4 q5, .sc (hy η hρ)⟩
end Go.Exec

namespace Go.Exec
open Go
variable {P : Program} {N : Nat} {ρ : Nat → Int} {H : Hy}
theorem digits_one : ∀ (n t : Nat) (acc : Array Value), (∀ v ∈ acc, v.oneCell' = true) → ∀ v ∈ Extern.BytealgMakeNoZero.digits n t acc, v.oneCell' = true
  | 0, _, _, h => h
  | n + 1, t, acc, h => by
    rw [Extern.BytealgMakeNoZero.digits]
    refine digits_one n _ _ (fun v hv => ?_)
    rcases Array.mem_push.1 hv with hv | rfl
    · exact h v hv
    · rfl
theorem run_noZero (w : World) (ps : Array TypeId) (t e : TypeId) (ht : P.underlying t = some (.slice e)) (n : Nat) (hn : n ≤ 281474976710656) :
    ∃ cs : Array Value, (Extern.BytealgMakeNoZero.makeNoZero ps #[t] #[.int .i64 n]).run P w = .ok (.slice (some ⟨w.heap.size, 0, none⟩) n cs.size) (w.drew.drew.alloc (.cells cs e)) ∧ n ≤ cs.size ∧ ∀ v ∈ cs, v.oneCell' = true := by
  have hdef : Extern.BytealgMakeNoZero.makeNoZero ps #[t] #[.int .i64 n] =
      (do
        let .slice elem ← underlying t | stuck "bytealg.MakeNoZero: slice type expected"
        if (n : Int) < 0 || (n : Int) > 2 ^ 48 then runtimePanic (.error "makeslice: len out of range")
        let cap ← choose (.appendCap (n : Int).toNat 0 elem)
        askRoom cap
        let bytes ← choose (.extern "internal/bytealg.MakeNoZero.bytes" 0)
        let a ← newRow elem (Extern.BytealgMakeNoZero.digits cap bytes #[])
        pure (.slice (some a) (n : Int).toNat cap)) := rfl
  refine ⟨Extern.BytealgMakeNoZero.digits (grownCap w n 0 e) ((Question.extern "internal/bytealg.MakeNoZero.bytes" 0).cut (w.tape (w.drawn + 1) (.extern "internal/bytealg.MakeNoZero.bytes" 0))) #[], ?_, ?_, ?_⟩
  · rw [hdef]
    have h1 : ¬ (n : Int) < 0 := by omega
    have h2 : ¬ (281474976710656 : Int) < (n : Int) := by omega
    simp [run_underlying ht, h1, h2, Question.forced, newRow, Lib.size_digits, grownCap]
  · rw [Lib.size_digits]
    simpa using grownCap_ge w n 0 e
  · exact digits_one _ _ _ (fun v hv => by simp at hv)
theorem noZero_law {g e ti ts : Nat} {fn : Func} (hf : P.funcs[g]? = some fn) (hname : (fn.name == "runtime.NumGoroutine") = false) (hb : fn.body.isNone = true) (hn : Extern.findNext fn = none) (he : Extern.find fn = some (Extern.BytealgMakeNoZero.makeNoZero #[ti] #[ts])) (ht : P.underlying ts = some (.slice e)) : NoZeroLaw P g e := by
  intro n w hnn
  obtain ⟨cs, h1, h2, h3⟩ := run_noZero (P := P) w #[ti] ts e ht n (by omega)
  refine ⟨cs, 2, ?_, h2, h3⟩
  rw [run_callFunc_extern hf hname hb hn he, h1]
  rfl
/-- Two slices of bytes that are alike, cell by cell: plain bytes or variables. -/
noncomputable def eqByte (a b : Sc) : Bool := Bool.or (Bool.and (Bool.and (Nat.beq a.tag 20) (Nat.beq b.tag 20)) (Nat.beq a.a b.a)) (Bool.and (isVar .u8 a.a a) (isVar .u8 a.a b))
noncomputable def sameBy : FnC := ⟨fun _ vs S => chk (Nat.beq vs.length 2) (nthV vs 0 (fun x => nthV vs 1 (fun y => chk (Bool.and (Bool.and (isSl x) (isSl y)) (Bool.and (Bool.and (Nat.beq x.s.b 0) (Nat.beq y.s.b 0)) (Nat.beq x.s.c y.s.c)))
  (chk (Bool.and (Bool.and (Bool.and (Nat.blt x.s.a 32768) (Nat.ble x.s.c ((getB x.s.a).f S).size)) (Bool.and (Nat.blt y.s.a 32768) (Nat.ble y.s.c ((getB y.s.a).f S).size))) (allN x.s.c (fun i => eqByte ((accC i).f ((getB x.s.a).f S).cs) ((accC i).f ((getB y.s.a).f S).cs)))) (chk (Nat.ble 1 x.s.c) (.ok vT S))))))⟩
/-- What the law's SameBytes is asked to say. -/
def SameLaw (P : Program) (g : Nat) : Prop := ∀ (w : World) (b1 b2 : Nat) (n c1 c2 : Nat) (xs : List Int), xs.length = n → (∀ i, i < n → w.cell? ⟨b1, i, none⟩ = some (.int .u8 (xs.getD i 0))) → (∀ i, i < n → w.cell? ⟨b2, i, none⟩ = some (.int .u8 (xs.getD i 0))) →
  (callFunc g #[.slice (some ⟨b1, 0, none⟩) n c1, .slice (some ⟨b2, 0, none⟩) n c2]).run P w = .ok (.enter g #[.slice (some ⟨b1, 0, none⟩) n c1, .slice (some ⟨b2, 0, none⟩) n c2]) w ∧
  Calls P g #[.slice (some ⟨b1, 0, none⟩) n c1, .slice (some ⟨b2, 0, none⟩) n c2] w fun e w' => e = .returned (.bool true) ∧ w = w'
theorem eqByte_val {η : Nv} {a b : Sc} {x y : Value} (h : eqByte a b = true) (hx : SR η a x) (hy : SR η b y) : ∃ n : Int, x = .int .u8 n ∧ y = .int .u8 n := by
  rcases or_ok h with h | h
  · obtain ⟨h1, h2⟩ := and_ok h
    obtain ⟨h3, h4⟩ := and_ok h1
    obtain ⟨e1, -⟩ := hx.asInt (k := .u8) (beq_ok h3)
    obtain ⟨e2, -⟩ := hy.asInt (k := .u8) (beq_ok h4)
    exact ⟨_, e1, by rw [e2, beq_ok h2]⟩
  · obtain ⟨h1, h2⟩ := and_ok h
    obtain ⟨a1, a2⟩ := and_ok h1
    obtain ⟨a3, a4⟩ := and_ok a2
    obtain ⟨b1, b2⟩ := and_ok h2
    obtain ⟨b3, b4⟩ := and_ok b2
    exact ⟨_, hx.asVar (beq_ok a1) (beq_ok a4), by rw [hy.asVar (beq_ok b1) (beq_ok b4), beq_ok b3]⟩
theorem same_one {g : Nat} (hS : SameLaw P g) : OneOk P ρ g sameBy := by
  intro call hcal vs S v S' η args w hρ hv hR h
  obtain ⟨h0, h⟩ := chk_ok h
  match vs, args, hv, h0, h with
  | [p, q], [x, y], .cons hp (.cons hq .nil), _, h =>
    obtain ⟨h1, h2⟩ := chk_ok (show chk (Bool.and (Bool.and (isSl p) (isSl q)) (Bool.and (Bool.and (Nat.beq p.s.b 0) (Nat.beq q.s.b 0)) (Nat.beq p.s.c q.s.c))) _ = .ok v S' from h)
    obtain ⟨h3, h4⟩ := and_ok h1
    obtain ⟨h5, h6⟩ := and_ok h3
    obtain ⟨h7, h8⟩ := and_ok h4
    obtain ⟨h9, h10⟩ := and_ok h7
    obtain ⟨k1, k2⟩ := chk_ok h2
    obtain ⟨k3, k4⟩ := chk_ok k2
    cases k4
    obtain ⟨j1, j2⟩ := and_ok k1
    obtain ⟨j3, j4⟩ := and_ok j1
    obtain ⟨j5, j6⟩ := and_ok j3
    obtain ⟨j7, j8⟩ := and_ok j4
    have hc := ble_ok k3
    have e0 := beq_ok h8
    obtain ⟨b1, c1, hb1, ex, -, -, -⟩ := isSl_ok h5 hp
    obtain ⟨b2, c2, hb2, ey, -, -, -⟩ := isSl_ok h6 hq
    rw [beq_ok h9] at ex
    rw [beq_ok h10] at ey
    rw [← e0] at ey
    have l1 : p.s.c ≤ (blkAt S p.s.a).size := ble_ok j6
    have l2 : q.s.c ≤ (blkAt S q.s.a).size := ble_ok j8
    obtain ⟨b1', hl1⟩ := hR.live p.s.a (blt_ok j5) (by omega)
    obtain ⟨b2', hl2⟩ := hR.live q.s.a (blt_ok j7) (by omega)
    obtain rfl : b1 = b1' := by have := hl1.σ; rw [hb1] at this; injection this
    obtain rfl : b2 = b2' := by have := hl2.σ; rw [hb2] at this; injection this
    have hall : ∀ i, i < p.s.c → ∃ n : Int, w.cell? ⟨b1, i, none⟩ = some (.int .u8 n) ∧ w.cell? ⟨b2, i, none⟩ = some (.int .u8 n) := fun i hi => by
      obtain ⟨u1, q1, r1⟩ := hl1.cell i (by omega)
      obtain ⟨u2, q2, r2⟩ := hl2.cell i (by omega)
      obtain ⟨n, rfl, rfl⟩ := eqByte_val (allN_ok j2 i hi) r1 r2
      exact ⟨n, q1, q2⟩
    let f : Nat → Int := fun i => match w.cell? ⟨b1, i, none⟩ with | some (.int _ n) => n | _ => 0
    have hget : ∀ i, i < p.s.c → ((List.range p.s.c).map f).getD i 0 = f i := fun i hi => by simp [List.getD, hi]
    obtain ⟨hent, hcl⟩ := hS w b1 b2 p.s.c c1 c2 ((List.range p.s.c).map f) (by simp) (fun i hi => by
      obtain ⟨n, q1, -⟩ := hall i hi
      rw [hget i hi, q1]; simp [f, q1]) (fun i hi => by
      obtain ⟨n, q1, q2⟩ := hall i hi
      rw [hget i hi, q2]; simp [f, q1])
    subst ex; subst ey
    refine ⟨rfl, .inl ⟨hent, hcl.mono ?_⟩⟩
    rintro e w' ⟨rfl, rfl⟩
    exact ⟨_, rfl, η, Move.refl hR, VR.vT η⟩
end Go.Exec

namespace Go.Exec
open Go
variable {P : Program} {N : Nat} {ρ : Nat → Int} {H : Hy}
/-- What a program's sampler is asked to say of an even plane of sides W and h, of a block of side bw. -/
def EvenLaw (P : Program) (g W h bw : Nat) : Prop := ∀ (w : World) (b cap x y : Nat) (v : Int), W * h ≤ cap → x ≤ 4096 → y ≤ 4096 → 0 ≤ v → v ≤ 255 → (∀ i, i < W * h → w.cell? ⟨b, i, none⟩ = some (.int .u8 v)) → (∀ i, i < cap → (w.cell? ⟨b, i, none⟩).isSome = true ∧ w.frozen? ⟨b, i, none⟩ = false) → b < w.heap.size →
  Calls P g #[.slice (some ⟨b, 0, none⟩) (W * h) cap, .int .i64 W, .int .i64 h, .int .i64 x, .int .i64 y, .int .i64 bw, .int .i64 bw] w fun r w' => ∃ b' cap', r = .returned (.tuple #[.slice (some ⟨b', 0, none⟩) (bw * bw) cap', .int .i64 0]) ∧
    w.heap.size ≤ b' ∧ b' < w'.heap.size ∧ bw * bw ≤ cap' ∧ (∀ i, i < bw * bw → w'.cell? ⟨b', i, none⟩ = some (.int .i64 v)) ∧ (∀ i, i < cap' → (w'.cell? ⟨b', i, none⟩).isSome = true ∧ w'.frozen? ⟨b', i, none⟩ = false) ∧
    w'.os = w.os ∧ w'.tape = w.tape ∧ w'.output = w.output ∧ w.heap.size ≤ w'.heap.size ∧ ∀ k, k < w.heap.size → w'.heap[k]? = w.heap[k]?
noncomputable def memN (n : Nat) (L : List Nat) : Bool := List.rec (motive := fun _ => Bool) false (fun i _ ih => Bool.or (Nat.beq n i) ih) L
theorem memN_ok {n : Nat} : ∀ {L : List Nat}, memN n L = true → n ∈ L
  | [], h => by cases h
  | i :: L, h => by
    rcases or_ok (show Bool.or (Nat.beq n i) (memN n L) = true from h) with h | h
    · rw [beq_ok h]; exact List.mem_cons_self
    · exact List.mem_cons_of_mem _ (memN_ok h)
noncomputable def litN (lo hi : Nat) (v : V) : Bool := Bool.and (Nat.beq v.s.tag 19) (Bool.and (Nat.ble lo v.s.a) (Nat.ble v.s.a hi))
noncomputable def posN (L : List Nat) (v : V) : Bool := Bool.or (litN 0 4096 v) (Bool.and (isVar .i64 v.s.a v.s) (memN v.s.a L))
theorem lit_val {η : Nv} {lo hi : Nat} {v : V} {x : Value} (hh : hi ≤ 1048576) (h : litN lo hi v = true) (hv : VR η v x) : x = .int .i64 (v.s.a : Int) ∧ lo ≤ v.s.a ∧ v.s.a ≤ hi := by
  obtain ⟨h1, h2⟩ := and_ok h
  obtain ⟨h3, h4⟩ := and_ok h2
  have h5 := ble_ok h4
  obtain ⟨e, hl⟩ := (hv.asSc (by rw [beq_ok h1]; omega)).asInt (k := .i64) (beq_ok h1)
  refine ⟨?_, ble_ok h3, h5⟩
  rw [e, wrap_nat .i64 hl, if_pos (.inr (Nat.lt_of_le_of_lt (Nat.le_trans h5 hh) (by decide)))]
theorem pos_val {η : Nv} {L : List Nat} {v : V} {x : Value} (hρ : η.ρ = ρ) (hL : ∀ i ∈ L, 0 ≤ ρ i ∧ ρ i ≤ 4096) (h : posN L v = true) (hv : VR η v x) : ∃ n : Nat, x = .int .i64 (n : Int) ∧ n ≤ 4096 := by
  rcases or_ok h with h | h
  · obtain ⟨e, -, h2⟩ := lit_val (by decide) h hv
    exact ⟨_, e, h2⟩
  · obtain ⟨h1, h2⟩ := and_ok h
    obtain ⟨h3, h4⟩ := and_ok h1
    obtain ⟨-, h5⟩ := and_ok h4
    have e := (hv.asSc (by rw [beq_ok h3]; omega)).asVar (beq_ok h3) (beq_ok h5)
    obtain ⟨q1, q2⟩ := hL _ (memN_ok h2)
    rw [← hρ] at q1 q2
    refine ⟨(η.ρ v.s.a).toNat, ?_, by omega⟩
    rw [e]
    congr 1
    omega
noncomputable def i0V : V := vS ⟨19, 0, 0, 0, 0, [], []⟩
noncomputable def evenGo (e u : Nat) (J : List Nat) (S : St) (n len m : Nat) : Ans :=
  chk (Bool.and (Nat.blt n 32768) (Bool.and (Nat.ble len ((getB n).f S).size) (Nat.beq ((getB n).f S).elem u)))
    (force ((accC 0).f ((getB n).f S).cs).a (fun j => chk (Bool.and (memN j J) (allN len (fun i => isVar .u8 j ((accC i).f ((getB n).f S).cs))))
      (newB S m e (sets (fun _ => ⟨24, j, 19, 0, 0, [], []⟩) m 0 cells0) (fun b S => .ok (mkTup [mkSu b 0 m 0, i0V]) S))) .no)
noncomputable def evenC (e u W0 h0 b0 : Nat) (J L : List Nat) : FnC := ⟨fun _ vs S => chk (Nat.beq vs.length 7) (nthV vs 0 (fun p => nthV vs 1 (fun W => nthV vs 2 (fun h => nthV vs 3 (fun x => nthV vs 4 (fun y => nthV vs 5 (fun c => nthV vs 6 (fun d =>
  chk (Bool.and (Bool.and (Nat.beq p.s.tag 12) (Nat.beq p.s.b 0)) (Bool.and (Bool.and (litN W0 W0 W) (litN h0 h0 h)) (Bool.and (Bool.and (posN L x) (posN L y)) (Bool.and (Bool.and (litN b0 b0 c) (litN b0 b0 d)) (Bool.and (Nat.beq c.s.a d.s.a) (Nat.beq p.s.c (Nat.mul W.s.a h.s.a)))))))
    (force (Nat.mul c.s.a c.s.a) (fun m => evenGo e u J S p.s.a p.s.c m) .no)))))))))⟩
theorem even_one {g e u W0 h0 b0 : Nat} (hE : EvenLaw P g W0 h0 b0) (hg : fnOk P g = true) (hs : sizeT P e = 1) (hu : sizeT P u = 1) (hW0 : 1 ≤ W0 ∧ W0 ≤ 128) (hh0 : 1 ≤ h0 ∧ h0 ≤ 128) (hb0 : 1 ≤ b0 ∧ b0 ≤ 16) {J L : List Nat} (hJ : ∀ i ∈ J, 0 ≤ ρ i ∧ ρ i ≤ 255) (hL : ∀ i ∈ L, 0 ≤ ρ i ∧ ρ i ≤ 4096) : OneOk P ρ g (evenC e u W0 h0 b0 J L) := by
  intro call hcal vs S v S' η args w hρ hv hR h
  obtain ⟨hlen, h⟩ := chk_ok h
  match vs, hlen, h, hv with
  | [p, W, h', x, y, c, d], _, h, hv =>
    obtain _ | ⟨hp, _ | ⟨hW, _ | ⟨hh, _ | ⟨hx, _ | ⟨hy, _ | ⟨hc, _ | ⟨hd, _ | _⟩⟩⟩⟩⟩⟩⟩ := hv
    obtain ⟨h1, h2⟩ := chk_ok (show chk (Bool.and (Bool.and (Nat.beq p.s.tag 12) (Nat.beq p.s.b 0)) (Bool.and (Bool.and (litN W0 W0 W) (litN h0 h0 h')) (Bool.and (Bool.and (posN L x) (posN L y)) (Bool.and (Bool.and (litN b0 b0 c) (litN b0 b0 d)) (Bool.and (Nat.beq c.s.a d.s.a) (Nat.beq p.s.c (Nat.mul W.s.a h'.s.a))))))) _ = .ok v S' from h)
    rw [force_eq] at h2
    obtain ⟨k1, k2⟩ := and_ok h1
    obtain ⟨k3, k4⟩ := and_ok k1
    obtain ⟨k5, k6⟩ := and_ok k2
    obtain ⟨k7, k8⟩ := and_ok k5
    obtain ⟨k9, k10⟩ := and_ok k6
    obtain ⟨k11, k12⟩ := and_ok k9
    obtain ⟨k13, k14⟩ := and_ok k10
    obtain ⟨k15, k16⟩ := and_ok k13
    obtain ⟨k17, k18⟩ := and_ok k14
    obtain ⟨b, hb, rfl, hcap⟩ := (hp.asSc (by rw [beq_ok k3]; omega)).asSu (beq_ok k3)
    obtain ⟨rfl, w1, w2⟩ := lit_val (by omega) k7 hW
    obtain ⟨rfl, g1, g2⟩ := lit_val (by omega) k8 hh
    obtain ⟨X, rfl, x1⟩ := pos_val hρ hL k11 hx
    obtain ⟨Y, rfl, y1⟩ := pos_val hρ hL k12 hy
    obtain ⟨rfl, c1, c2⟩ := lit_val (by omega) k15 hc
    obtain ⟨rfl, -, -⟩ := lit_val (by omega) k16 hd
    have ecd := beq_ok k17
    have eW : W.s.a = W0 := by omega
    have eh : h'.s.a = h0 := by omega
    have ec : c.s.a = b0 := by omega
    subst eW eh ec
    have elen : p.s.c = W.s.a * h'.s.a := beq_ok k18
    rw [beq_ok k4]
    unfold evenGo at h2
    obtain ⟨q1, q2⟩ := chk_ok h2
    rw [force_eq] at q2
    obtain ⟨q3, q4⟩ := and_ok q1
    obtain ⟨q5, q6⟩ := and_ok q4
    obtain ⟨q7, q8⟩ := chk_ok q2
    obtain ⟨q9, q10⟩ := and_ok q7
    obtain ⟨n1, n2, n3, -⟩ := newB_ok q8
    cases n3
    obtain ⟨j, hj⟩ : ∃ j, j = ((accC 0).f ((getB p.s.a).f S).cs).a := ⟨_, rfl⟩
    rw [← hj] at q9 q10 ⊢
    obtain ⟨v0, v1⟩ := hJ j (memN_ok q9)
    have hl0 : 0 < (blkAt S p.s.a).size := by
      have : 1 ≤ W.s.a * h'.s.a := Nat.mul_le_mul hW0.1 hh0.1
      have : p.s.c ≤ (blkAt S p.s.a).size := ble_ok q5
      omega
    obtain ⟨b', hl⟩ := hR.live p.s.a (blt_ok q3) hl0
    obtain rfl : b = b' := by have := hl.σ; rw [hb] at this; injection this
    have hcell : ∀ i, i < W.s.a * h'.s.a → w.cell? ⟨b, i, none⟩ = some (.int .u8 (ρ j)) := fun i hi => by
      obtain ⟨u, hu, hr⟩ := hl.cell i (by have : p.s.c ≤ (blkAt S p.s.a).size := ble_ok q5; omega)
      obtain ⟨r1, r2⟩ := and_ok (allN_ok q10 i (by omega))
      obtain ⟨r3, r4⟩ := and_ok r2
      have e1 : u = .int .u8 (η.ρ ((accC i).f (blkAt S p.s.a).cs).a) := hr.asVar (beq_ok r1) (beq_ok r4)
      have e2 : ((accC i).f (blkAt S p.s.a).cs).a = j := beq_ok r3
      rw [hu, e1, e2, hρ]
    have hel : (blkAt S p.s.a).elem = u := beq_ok q6
    have hall := hl.all
    rw [hel, hu, Nat.mul_one] at hall
    have hcl := hE w b (η.κ p.s.a - p.s.d) X Y (ρ j) (by omega) x1 y1 v0 v1 hcell (fun i hi => hall i (by omega)) (hR.low _ b hb)
    rw [← elen, show ((c.s.a : Nat) : Int) = ((d.s.a : Nat) : Int) from by rw [ecd]] at hcl
    rw [← ecd] at hcl ⊢
    refine ⟨rfl, .inl ⟨fnOk_enter hg _ w, hcl.mono ?_⟩⟩
    rintro r w' ⟨nb, ncap, rfl, f1, f2, f3, f4, f5, f6, f7, f8, f9, f10⟩
    have hat : (η.set S.next nb ncap).σ S.next = some nb := by simp [Nv.set]
    have hatk : (η.set S.next nb ncap).κ S.next = ncap := by simp [Nv.set]
    have hρ' : (η.set S.next nb ncap).ρ = ρ := hρ
    have hl2 : Live P (η.set S.next nb ncap) ⟨c.s.a * c.s.a, e, sets (fun _ => ⟨24, j, 19, 0, 0, [], []⟩) (c.s.a * c.s.a) 0 cells0⟩ S.next nb w' := by
      refine ⟨hat, n1, by rw [hatk, hs, Nat.mul_one]; exact f3, fun i hi => ⟨_, f4 i hi, ?_⟩, by rw [hatk, hs, Nat.mul_one]; exact f5⟩
      have := accC_sets_in (fun _ => (⟨24, j, 19, 0, 0, [], []⟩ : Sc)) 0 (c.s.a * c.s.a) 0 cells0 (by have : c.s.a * c.s.a ≤ 32768 := n1; omega) i (by have : c.s.a * c.s.a ≤ 32768 := n1; have : i < c.s.a * c.s.a := hi; omega)
      rw [if_pos (by have : i < c.s.a * c.s.a := hi; omega)] at this
      show SR _ ((accC i).f (sets _ _ 0 cells0)) _
      unfold sets
      rw [this, ← hρ']
      exact .var (s := ⟨24, j, 19, 0, 0, [], []⟩) .i64 rfl rfl
    refine ⟨_, rfl, _, move_adopt hR f6 f7 f8 f9 f10 n2 f1 f2 hl2, .tup [_, _] rfl (.cons (.sc ?_) (.cons (.sc ?_) .nil))⟩
    · have := SR.su (η := η.set S.next nb ncap) (s := ⟨12, S.next, 0, c.s.a * c.s.a, 0, [], []⟩) nb rfl hat (by rw [hatk]; simpa using f3)
      simp only [hatk, Nat.sub_zero] at this
      exact this
    · exact .int (s := ⟨19, 0, 0, 0, 0, [], []⟩) .i64 rfl (by decide)
end Go.Exec

namespace Go.Exec
open Go
variable {P : Program} {N : Nat} {ρ : Nat → Int} {H : Hy}
/-- An even plane's samples (variable 2), lent as block 256. -/
noncomputable def evenBlk (u n : Nat) : Blk := ⟨n, u, sets (fun _ => ⟨24, 2, 20, 0, 0, [], []⟩) n 0 cells0⟩
noncomputable def evenSt (u n : Nat) : St := (putB 256).f (evenBlk u n) (st0 272)
noncomputable def evenAns (e m : Nat) (v : V) (T : St) : Bool := Bool.and (Nat.beq v.s.tag 99) (match v.vs with
  | [p, q] => Bool.and (Bool.and (Nat.beq p.s.tag 6) (Bool.and (Nat.beq p.s.b 0) (Bool.and (Nat.beq p.s.c m) (Nat.ble p.s.d ((getB p.s.a).f T).size))))
    (Bool.and (Bool.and (Bool.and (Nat.ble 272 p.s.a) (Nat.blt p.s.a 32768)) (Bool.and (Nat.ble m ((getB p.s.a).f T).size) (Nat.beq ((getB p.s.a).f T).elem e)))
      (Bool.and (allN m (fun i => isVar .i64 2 ((accC i).f ((getB p.s.a).f T).cs))) (Bool.and (Nat.beq q.s.tag 19) (Nat.beq q.s.a 0))))
  | _ => false)
noncomputable def evenOk (e m : Nat) (r : Ans) : Bool := match r with | .ok v T => evenAns e m v T | .no => false
noncomputable def litV (n : Nat) : V := vS ⟨19, n, 0, 0, 0, [], []⟩
noncomputable def evenArgs (W h bw : Nat) : List V := [mkSu 256 0 (Nat.mul W h) 0, litV W, litV h, mkVar 0, mkVar 1, litV bw, litV bw]
theorem VR.litV {η : Nv} {n : Nat} (hn : n ≤ 1048576) : VR η (litV n) (.int .i64 (n : Int)) := by
  have h : SR η (Exec.litV n).s (.int .i64 (IntKind.i64.wrap ((n : Nat) : Int))) := .int (s := ⟨19, n, 0, 0, 0, [], []⟩) .i64 rfl (Nat.lt_of_le_of_lt hn (by decide))
  rw [wrap_nat .i64 (Nat.lt_of_le_of_lt hn (by decide)), if_pos (.inr (Nat.lt_of_le_of_lt hn (by decide)))] at h
  exact .sc h
theorem evenSt_at (u n : Nat) : blkAt (evenSt u n) 256 = evenBlk u n := blkAt_put_same _ 256 _
theorem evenSt_ne (u n : Nat) {m : Nat} (hm : m < 32768) (h : m ≠ 256) : blkAt (evenSt u n) m = blk0 := (blkAt_put_ne _ _ (by decide) hm (Ne.symm h)).trans (st0_dead 272 m)
theorem evenSt_live (u n : Nat) {m : Nat} (hm : m < 32768) (h : 0 < (blkAt (evenSt u n) m).size) : m = 256 := by
  apply Classical.byContradiction
  intro e
  rw [evenSt_ne u n hm e] at h
  exact absurd h (Nat.lt_irrefl 0)
def evenNv (ρ : Nat → Int) (b cap : Nat) : Nv := Nv.mk0 (fun n => if n = 256 then some b else none) (fun _ => cap) ρ
theorem evenSt_rep {u n b cap : Nat} {w : World} (hu : sizeT P u = 1) (hn : n ≤ 32768) (hc : n ≤ cap) (hcell : ∀ i, i < n → w.cell? ⟨b, i, none⟩ = some (.int .u8 (ρ 2))) (hall : ∀ i, i < cap → (w.cell? ⟨b, i, none⟩).isSome = true ∧ w.frozen? ⟨b, i, none⟩ = false) (hb : b < w.heap.size) :
    Rep P (evenNv ρ b cap) (evenSt u n) w := by
  have hσ : ∀ m c, (evenNv ρ b cap).σ m = some c → m = 256 ∧ c = b := fun m c h => by
    have h' : (if m = 256 then some b else none) = some c := h
    by_cases e : m = 256
    · rw [if_pos e] at h'; injection h' with h'; exact ⟨e, h'.symm⟩
    · rw [if_neg e] at h'; cases h'
  have hat : (evenNv ρ b cap).σ 256 = some b := by show (if 256 = 256 then some b else none) = some b; rw [if_pos rfl]
  refine ⟨fun m hm hl => ?_, fun m k c hm hk hl1 hl2 _ _ => (evenSt_live u n hm hl1).trans (evenSt_live u n hk hl2).symm, fun m hm => ?_, fun m c h => by rw [(hσ m c h).2]; exact hb, fun m c h1 h2 => by have := (hσ m c h2).1; omega, ?_, trivial, fun _ h => h.elim⟩
  · have := evenSt_live u n hm hl
    subst this
    rw [evenSt_at]
    refine ⟨b, hat, hn, ?_, fun i hi => ⟨_, hcell i hi, ?_⟩, ?_⟩
    · show n ≤ cap * sizeT P u
      rw [hu]; omega
    · have hi' : i < n := hi
      have := accC_sets_in (fun _ => (⟨24, 2, 20, 0, 0, [], []⟩ : Sc)) 0 n 0 cells0 (by omega) i (by omega)
      rw [if_pos (by omega)] at this
      show SR _ ((accC i).f (sets _ n 0 cells0)) _
      unfold sets
      rw [this]
      exact .var (η := evenNv ρ b cap) (s := ⟨24, 2, 20, 0, 0, [], []⟩) .u8 rfl rfl
    · show ∀ i, i < cap * sizeT P u → _
      rw [hu, Nat.mul_one]
      exact hall
  · have hm' : 272 ≤ m := hm
    show (if m = 256 then some b else none) = none
    rw [if_neg (by omega)]
  · show 256 ≤ 272
    omega
theorem even_of_run {g e u W h bw : Nat} (hg : fnOk P g = true) (he : sizeT P e = 1) (hu : sizeT P u = 1) (hW : W ≤ 128) (hh : h ≤ 128) (hb0 : 1 ≤ bw) (hbw : bw ≤ 16)
    (run : ∀ (x y : Nat) (v : Int), x ≤ 4096 → y ≤ 4096 → 0 ≤ v → v ≤ 255 → ∃ (ρ : Nat → Int) (call : Caller), Cal P ρ call ∧ ρ 0 = x ∧ ρ 1 = y ∧ ρ 2 = v ∧ evenOk e (bw * bw) (call g (evenArgs W h bw) (evenSt u (W * h))) = true) : EvenLaw P g W h bw := by
  intro w b cap x y v hcap hx hy v0 v1 hcell hall hblt
  obtain ⟨ρ, call, hcal, r0, r1, r2, hok⟩ := run x y v hx hy v0 v1
  have hn : W * h ≤ 128 * 128 := Nat.mul_le_mul hW hh
  rw [← r2] at hcell ⊢
  have hR : Rep P (evenNv ρ b cap) (evenSt u (W * h)) w := evenSt_rep hu (by omega) hcap hcell hall hblt
  have hat : (evenNv ρ b cap).σ 256 = some b := by show (if 256 = 256 then some b else none) = some b; rw [if_pos rfl]
  have hv : VRL (evenNv ρ b cap) (evenArgs W h bw) [.slice (some ⟨b, 0, none⟩) (W * h) cap, .int .i64 W, .int .i64 h, .int .i64 x, .int .i64 y, .int .i64 bw, .int .i64 bw] := by
    rw [← r0, ← r1]
    have h1 := SR.su (η := evenNv ρ b cap) (s := ⟨12, 256, 0, W * h, 0, [], []⟩) b rfl hat (by show 0 + W * h ≤ cap; omega)
    exact .cons (.sc h1) (.cons (.litV (by omega)) (.cons (.litV (by omega)) (.cons (.mkVar 0) (.cons (.mkVar 1) (.cons (.litV (by omega)) (.cons (.litV (by omega)) .nil))))))
  cases hr : call g (evenArgs W h bw) (evenSt u (W * h)) with
  | no => rw [hr] at hok; cases hok
  | ok V T =>
    rw [hr] at hok
    obtain ⟨k1, k2⟩ := and_ok (show Bool.and _ _ = true from hok)
    obtain ⟨-, hc⟩ := hcal.ok g _ _ V T _ _ w rfl hv hR hr
    rcases hc with ⟨-, hc⟩ | ⟨z, w', hc, -⟩
    · refine hc.mono ?_
      rintro r w' ⟨z, rfl, ζ, hm, hz⟩
      obtain ⟨xs, rfl, hxs⟩ := hz.asTup (beq_ok k1)
      obtain ⟨vs, hvs⟩ : ∃ vs, vs = V.vs := ⟨_, rfl⟩
      rw [← hvs] at k2 hxs
      match vs, k2, hxs with
      | [p, q], k2, hxs =>
        obtain _ | ⟨hp, _ | ⟨hq, _ | _⟩⟩ := hxs
        obtain ⟨k3, k4⟩ := and_ok k2
        obtain ⟨k5, k6⟩ := and_ok k3
        obtain ⟨k7, k8⟩ := and_ok k6
        obtain ⟨k9, k10⟩ := and_ok k8
        obtain ⟨j1, j2⟩ := and_ok k4
        obtain ⟨j3, j4⟩ := and_ok j1
        obtain ⟨j5, j6⟩ := and_ok j3
        obtain ⟨j7, j8⟩ := and_ok j4
        obtain ⟨i1, i2⟩ := and_ok j2
        obtain ⟨i3, i4⟩ := and_ok i2
        obtain ⟨b', hb', rfl, hle⟩ := (hp.asSc (by rw [beq_ok k5]; omega)).asSl (beq_ok k5)
        obtain ⟨rfl, -⟩ := (hq.asSc (by rw [beq_ok i3]; omega)).asInt (k := .i64) (beq_ok i3)
        have hsz : bw * bw ≤ (blkAt T p.s.a).size := ble_ok j7
        have hds : p.s.d ≤ (blkAt T p.s.a).size := ble_ok k10
        rw [beq_ok k7, beq_ok k9, beq_ok i4]
        rw [beq_ok k9] at hle
        have hlow := hm.rep.low _ b' hb'
        have hm1 : 1 ≤ bw * bw := Nat.mul_le_mul hb0 hb0
        have hka : p.s.a < 32768 := blt_ok j6
        have hl0 : 0 < (blkAt T p.s.a).size := by omega
        obtain ⟨b2, hl⟩ := hm.rep.live p.s.a hka hl0
        obtain rfl : b' = b2 := by have := hl.σ; rw [hb'] at this; injection this
        have hnew : w.heap.size ≤ b' := by
          rcases hm.ext.live p.s.a b' hka hl0 hl.σ with h1 | ⟨n, h1, h2, h3, -⟩
          · exact h1
          · have := evenSt_live u (W * h) h2 h3
            have := h1 (ble_ok j5)
            omega
        have hel : (blkAt T p.s.a).elem = e := beq_ok j8
        have hal := hl.all
        have hcp := hl.cap
        rw [hel, he, Nat.mul_one] at hal hcp
        have hρ : ζ.ρ = ρ := hm.ext.le.ρ
        refine ⟨b', p.s.d, ?_, hnew, hlow, hle, fun i hi => ?_, fun i hi => hal i (by omega), hm.fr.os, hm.fr.tape, hm.fr.output, hm.fr.size, fun k hk => hm.fr.block k hk fun n n0 n1 n2 => ?_⟩
        · rfl
        · obtain ⟨y, q1, q2⟩ := hl.cell i (by omega)
          obtain ⟨a1, a2⟩ := and_ok (allN_ok i1 i hi)
          obtain ⟨a3, a4⟩ := and_ok a2
          have e1 := q2.asVar (beq_ok a1) (beq_ok a4)
          have e2 : ((accC i).f (blkAt T p.s.a).cs).a = 2 := beq_ok a3
          rw [q1, e1, e2, hρ]
        · have := evenSt_live u (W * h) n1 n2
          omega
    · rw [fnOk_enter hg] at hc; cases hc
end Go.Exec

namespace Go.Exec
open Go
variable {P : Program} {N : Nat} {ρ : Nat → Int} {H : Hy}
/-- A plane in memory: its struct (three cells: samples, width, height), its samples, all of them v. -/
structure EvenAt (w : World) (p b cap W h : Nat) (v : Int) : Prop where
  s0 : w.cell? ⟨p, 0, none⟩ = some (.slice (some ⟨b, 0, none⟩) (W * h) cap)
  s1 : w.cell? ⟨p, 1, none⟩ = some (.int .i64 W)
  s2 : w.cell? ⟨p, 2, none⟩ = some (.int .i64 h)
  fr : ∀ i, i < 3 → w.frozen? ⟨p, i, none⟩ = false
  sm : ∀ i, i < W * h → w.cell? ⟨b, i, none⟩ = some (.int .u8 v)
  all : ∀ i, i < cap → (w.cell? ⟨b, i, none⟩).isSome = true ∧ w.frozen? ⟨b, i, none⟩ = false
  cap : W * h ≤ cap
  v0 : 0 ≤ v
  v1 : v ≤ 255
  ne : p ≠ b
/-- A function of an even plane and k numbers gives the plane's one sample. -/
def PlLaw (P : Program) (g W h k : Nat) : Prop := ∀ (w : World) (p b cap : Nat) (v : Int) (xs : List Int), xs.length = k → EvenAt w p b cap W h v →
  Calls P g (.pointer (some ⟨p, 0, none⟩) :: xs.map (Value.int .i64)).toArray w fun r w' => r = .returned (.int .i64 v) ∧ w'.os = w.os ∧ w'.tape = w.tape ∧ w'.output = w.output ∧ w.heap.size ≤ w'.heap.size ∧ ∀ k, k < w.heap.size → w'.heap[k]? = w.heap[k]?
noncomputable def allIk (vs : List V) : Bool := List.rec (motive := fun _ => Bool) true (fun v _ ih => Bool.and (Bool.and (Nat.ble v.s.tag 97) (isIk .i64 v.s)) ih) vs
theorem allIk_ok {η : Nv} : ∀ {vs : List V} {xs : List Value}, allIk vs = true → VRL η vs xs → ∃ ns : List Int, ns.length = vs.length ∧ xs = ns.map (Value.int .i64)
  | [], _, _, .nil => ⟨[], rfl, rfl⟩
  | v :: vs, _, h, .cons hv hvs => by
    obtain ⟨h1, h2⟩ := and_ok (show Bool.and (Bool.and (Nat.ble v.s.tag 97) (isIk .i64 v.s)) (allIk vs) = true from h)
    obtain ⟨h3, h4⟩ := and_ok h1
    obtain ⟨ns, e1, rfl⟩ := allIk_ok h2 hvs
    obtain ⟨n, rfl⟩ := (hv.asSc (ble_ok h3)).asIk h4
    exact ⟨n :: ns, by simp [e1], rfl⟩
noncomputable def cellS (S : St) (n i : Nat) : Sc := (accC i).f ((getB n).f S).cs
noncomputable def plGo (u W h : Nat) (J : List Nat) (S : St) (m : Nat) : Ans :=
  chk (Bool.and (Nat.blt m 32768) (Bool.and (Nat.ble (Nat.mul W h) ((getB m).f S).size) (Nat.beq ((getB m).f S).elem u)))
    (force (cellS S m 0).a (fun j => chk (Bool.and (memN j J) (allN (Nat.mul W h) (fun i => isVar .u8 j (cellS S m i)))) (.ok (mkVar j) S)) .no)
noncomputable def plC (tp u W h k : Nat) (J : List Nat) : FnC := ⟨fun _ vs S => nthV vs 0 (fun p =>
  chk (Bool.and (Bool.and (Bool.and (Nat.beq vs.length (Nat.add k 1)) (allIk vs.tail)) (Bool.and (Nat.beq p.s.tag 4) (Nat.beq p.s.b 0))) (Bool.and (Bool.and (Nat.blt p.s.a 32768) (Nat.ble 256 p.s.a)) (Bool.and (Nat.ble 3 ((getB p.s.a).f S).size) (Nat.beq ((getB p.s.a).f S).elem tp))))
    (force (cellS S p.s.a 0).a (fun m => chk (Bool.and (Bool.and (Bool.and (Nat.beq (cellS S p.s.a 0).tag 12) (Bool.and (Nat.beq (cellS S p.s.a 0).b 0) (Nat.beq (cellS S p.s.a 0).c (Nat.mul W h)))) (Bool.rec (motive := fun _ => Bool) true false (Nat.beq p.s.a m)))
        (Bool.and (Bool.and (Nat.beq (cellS S p.s.a 1).tag 19) (Nat.beq (cellS S p.s.a 1).a W)) (Bool.and (Nat.beq (cellS S p.s.a 2).tag 19) (Nat.beq (cellS S p.s.a 2).a h))))
      (plGo u W h J S m)) .no))⟩
theorem sc_lit {η : Nv} {s : Sc} {x : Value} {n : Nat} (h : Bool.and (Nat.beq s.tag 19) (Nat.beq s.a n) = true) (hn : n ≤ 1048576) (hs : SR η s x) : x = .int .i64 (n : Int) := by
  obtain ⟨h1, h2⟩ := and_ok h
  obtain ⟨e, hl⟩ := hs.asInt (k := .i64) (beq_ok h1)
  rw [e, beq_ok h2, wrap_nat .i64 (Nat.lt_of_le_of_lt hn (by decide)), if_pos (.inr (Nat.lt_of_le_of_lt hn (by decide)))]
theorem pl_one {g tp u W h k : Nat} (hE : PlLaw P g W h k) (hg : fnOk P g = true) (ht : sizeT P tp = 3) (hu : sizeT P u = 1) (hW : 1 ≤ W ∧ W ≤ 128) (hh : 1 ≤ h ∧ h ≤ 128) {J : List Nat} (hJ : ∀ i ∈ J, 0 ≤ ρ i ∧ ρ i ≤ 255) : OneOk P ρ g (plC tp u W h k J) := by
  intro call hcal vs S v S' η args w hρ hv hR hrun
  match vs, hv, hrun with
  | [], _, hrun => cases hrun
  | p :: vs, hv, hrun =>
    obtain _ | ⟨hp, hvs⟩ := hv
    obtain ⟨h1, h2⟩ := chk_ok (show chk (Bool.and (Bool.and (Bool.and (Nat.beq (p :: vs).length (Nat.add k 1)) (allIk vs)) (Bool.and (Nat.beq p.s.tag 4) (Nat.beq p.s.b 0))) (Bool.and (Bool.and (Nat.blt p.s.a 32768) (Nat.ble 256 p.s.a)) (Bool.and (Nat.ble 3 ((getB p.s.a).f S).size) (Nat.beq ((getB p.s.a).f S).elem tp)))) _ = .ok v S' from hrun)
    rw [force_eq] at h2
    obtain ⟨a1, a2⟩ := and_ok h1
    obtain ⟨a3, a4⟩ := and_ok a1
    obtain ⟨a5, a6⟩ := and_ok a3
    obtain ⟨a7, a8⟩ := and_ok a4
    obtain ⟨a9, a10⟩ := and_ok a2
    obtain ⟨a11, a12⟩ := and_ok a9
    obtain ⟨a13, a14⟩ := and_ok a10
    obtain ⟨b1, b2⟩ := chk_ok h2
    obtain ⟨b3, b4⟩ := and_ok b1
    obtain ⟨b5, b6⟩ := and_ok b3
    obtain ⟨b7, b8⟩ := and_ok b5
    obtain ⟨b9, b10⟩ := and_ok b8
    obtain ⟨b11, b12⟩ := and_ok b4
    unfold plGo at b2
    obtain ⟨c1, c2⟩ := chk_ok b2
    rw [force_eq] at c2
    obtain ⟨c3, c4⟩ := and_ok c1
    obtain ⟨c5, c6⟩ := and_ok c4
    obtain ⟨d1, d2⟩ := chk_ok c2
    cases d2
    obtain ⟨d3, d4⟩ := and_ok d1
    obtain ⟨m, hm⟩ : ∃ m, m = (cellS S p.s.a 0).a := ⟨_, rfl⟩
    rw [← hm] at b6 c3 c5 c6 d3 d4 ⊢
    obtain ⟨j, hj⟩ : ∃ j, j = (cellS S m 0).a := ⟨_, rfl⟩
    rw [← hj] at d3 d4 ⊢
    obtain ⟨q0, q1⟩ := hJ j (memN_ok d3)
    obtain ⟨ns, e1, rfl⟩ := allIk_ok a6 hvs
    have hwh : 1 ≤ W * h := Nat.mul_le_mul hW.1 hh.1
    have hs3 : 3 ≤ (blkAt S p.s.a).size := ble_ok a13
    obtain ⟨pb, hpt, rfl⟩ := (hp.asSc (by rw [beq_ok a7]; omega)).asPtr (beq_ok a7)
    have hpσ := hpt.live hR (blt_ok a11) (by omega)
    obtain ⟨pb', hl⟩ := hR.live p.s.a (blt_ok a11) (by omega)
    obtain rfl : pb = pb' := by have := hl.σ; rw [hpσ] at this; injection this
    have hms : W * h ≤ (blkAt S m).size := ble_ok c5
    obtain ⟨b, hlb⟩ := hR.live m (blt_ok c3) (by omega)
    rw [beq_ok a8]
    obtain ⟨y0, z0, r0⟩ := hl.cell 0 (by omega)
    obtain ⟨y1, z1, r1⟩ := hl.cell 1 (by omega)
    obtain ⟨y2, z2, r2⟩ := hl.cell 2 (by omega)
    obtain ⟨b', hb', rfl, hcap⟩ := r0.asSu (beq_ok b7)
    have hm' : ((accC 0).f (blkAt S p.s.a).cs).a = m := hm.symm
    rw [hm'] at hb' hcap z0
    obtain rfl : b = b' := by have := hlb.σ; rw [hb'] at this; injection this with this; exact this.symm
    have e5 : ((accC 0).f (blkAt S p.s.a).cs).b = 0 := beq_ok b9
    have e6 : ((accC 0).f (blkAt S p.s.a).cs).c = W * h := beq_ok b10
    rw [e6] at hcap
    rw [e5, e6] at z0
    rw [sc_lit b11 (by omega) r1] at z1
    rw [sc_lit b12 (by omega) r2] at z2
    have hne : pb ≠ b := fun e => by
      subst e
      have := hR.inj p.s.a m pb (blt_ok a11) (blt_ok c3) (by omega) (by omega) hpσ hlb.σ
      rw [this] at b6
      have : Nat.beq m m = true := Nat.beq_refl m
      rw [this] at b6
      cases b6
    have hall := hlb.all
    rw [show (blkAt S m).elem = u from beq_ok c6, hu, Nat.mul_one] at hall
    have hallp := hl.all
    have hcp := hl.cap
    rw [show (blkAt S p.s.a).elem = tp from beq_ok a14, ht] at hallp hcp
    have hcell : ∀ i, i < W * h → w.cell? ⟨b, i, none⟩ = some (.int .u8 (ρ j)) := fun i hi => by
      obtain ⟨y, hy, hr⟩ := hlb.cell i (by omega)
      obtain ⟨t1, t2⟩ := and_ok (allN_ok d4 i hi)
      obtain ⟨t3, t4⟩ := and_ok t2
      have e1 : y = .int .u8 (η.ρ ((accC i).f (blkAt S m).cs).a) := hr.asVar (beq_ok t1) (beq_ok t4)
      have e2 : ((accC i).f (blkAt S m).cs).a = j := beq_ok t3
      rw [hy, e1, e2, hρ]
    have hcl := hE w pb b _ (ρ j) ns (by have := beq_ok a5; simp only [List.length_cons] at this; rw [e1]; exact Nat.add_right_cancel this) ⟨z0, z1, z2, fun i hi => (hallp i (by omega)).2, hcell, fun i hi => hall i (by omega), by omega, q0, q1, hne⟩
    refine ⟨rfl, .inl ⟨fnOk_enter hg _ w, hcl.mono ?_⟩⟩
    rintro r w' ⟨rfl, f6, f7, f8, f9, f10⟩
    refine ⟨_, rfl, η, move_same hR f6 f7 f8 f9 f10, ?_⟩
    rw [← hρ]
    exact .mkVar j
end Go.Exec

namespace Go.Exec
open Go
variable {P : Program} {N : Nat} {ρ : Nat → Int} {H : Hy}
/-- An even plane lent: block 256 its struct, block 257 its samples (variable 2). -/
noncomputable def planeBlk (tp W h : Nat) : Blk := ⟨3, tp, (updC 0).f ⟨12, 257, 0, Nat.mul W h, 0, [], []⟩ ((updC 1).f ⟨19, W, 0, 0, 0, [], []⟩ ((updC 2).f ⟨19, h, 0, 0, 0, [], []⟩ cells0))⟩
noncomputable def planeSt (tp u W h : Nat) : St := (putB 256).f (planeBlk tp W h) ((putB 257).f (evenBlk u (Nat.mul W h)) (st0 272))
noncomputable def isV2 (r : Ans) : Bool := match r with | .ok v _ => isVar .i64 2 v.s | .no => false
theorem planeSt_p (tp u W h : Nat) : blkAt (planeSt tp u W h) 256 = planeBlk tp W h := blkAt_put_same _ 256 _
theorem planeSt_b (tp u W h : Nat) : blkAt (planeSt tp u W h) 257 = evenBlk u (Nat.mul W h) := (blkAt_put_ne _ _ (by decide) (by decide) (by decide)).trans (blkAt_put_same _ 257 _)
theorem planeSt_live (tp u W h : Nat) {m : Nat} (hm : m < 32768) (hl : 0 < (blkAt (planeSt tp u W h) m).size) : m = 256 ∨ m = 257 := by
  apply Classical.byContradiction
  intro e
  have e1 : blkAt (planeSt tp u W h) m = blk0 := (blkAt_put_ne _ _ (by decide) hm (by omega)).trans ((blkAt_put_ne _ _ (by decide) hm (by omega)).trans (st0_dead 272 m))
  rw [e1] at hl
  exact absurd hl (Nat.lt_irrefl 0)
def planeNv (ρ : Nat → Int) (p b cap : Nat) : Nv := Nv.mk0 (fun n => if n = 256 then some p else if n = 257 then some b else none) (fun n => if n = 256 then 1 else cap) ρ
theorem lt_of_cell {w : World} {b i : Nat} {v : Value} (h : w.cell? ⟨b, i, none⟩ = some v) : b < w.heap.size := by
  apply Classical.byContradiction
  intro e
  have : w.heap[b]? = none := Array.getElem?_eq_none (by omega)
  unfold World.cell? at h
  rw [this] at h
  cases h
theorem planeSt_rep {tp u W h p b cap : Nat} {w : World} (ht : sizeT P tp = 3) (hu : sizeT P u = 1) (hW : 1 ≤ W ∧ W ≤ 128) (hh : 1 ≤ h ∧ h ≤ 128) (hE : EvenAt w p b cap W h (ρ 2)) :
    Rep P (planeNv ρ p b cap) (planeSt tp u W h) w := by
  have s1 : (planeNv ρ p b cap).σ 256 = some p := by show (if 256 = 256 then some p else if 256 = 257 then some b else none) = some p; rw [if_pos rfl]
  have s2 : (planeNv ρ p b cap).σ 257 = some b := by show (if 257 = 256 then some p else if 257 = 257 then some b else none) = some b; rw [if_neg (by decide), if_pos rfl]
  have hσ : ∀ m c, (planeNv ρ p b cap).σ m = some c → (m = 256 ∧ c = p) ∨ (m = 257 ∧ c = b) := fun m c h => by
    have h' : (if m = 256 then some p else if m = 257 then some b else none) = some c := h
    by_cases e : m = 256
    · rw [if_pos e] at h'; injection h' with h'; exact .inl ⟨e, h'.symm⟩
    · rw [if_neg e] at h'
      by_cases e2 : m = 257
      · rw [if_pos e2] at h'; injection h' with h'; exact .inr ⟨e2, h'.symm⟩
      · rw [if_neg e2] at h'; cases h'
  have k1 : (planeNv ρ p b cap).κ 256 = 1 := by show (if 256 = 256 then 1 else cap) = 1; rw [if_pos rfl]
  have k2 : (planeNv ρ p b cap).κ 257 = cap := by show (if 257 = 256 then 1 else cap) = cap; rw [if_neg (by decide)]
  have hwh : W * h ≤ 128 * 128 := Nat.mul_le_mul hW.2 hh.2
  have hwh1 : 1 ≤ W * h := Nat.mul_le_mul hW.1 hh.1
  have lp := lt_of_cell hE.s0
  have lb := lt_of_cell (hE.sm 0 (by omega))
  have lit : ∀ n : Nat, n ≤ 128 → SR (planeNv ρ p b cap) ⟨19, n, 0, 0, 0, [], []⟩ (.int .i64 (n : Int)) := fun n hn => (VR.litV (η := planeNv ρ p b cap) (n := n) (by omega)).asSc (by show 19 ≤ 97; decide)
  refine ⟨fun m hm hl => ?_, fun m k c hm hk hl1 hl2 e1 e2 => ?_, fun m hm => ?_, fun m c h => ?_, fun m c h1 h2 => ?_, ?_, trivial, fun _ h => h.elim⟩
  · rcases planeSt_live tp u W h hm hl with rfl | rfl
    · rw [planeSt_p]
      refine ⟨p, s1, (by show 3 ≤ 32768; omega), (by rw [k1]; show 3 ≤ 1 * sizeT P tp; rw [ht]; decide), fun i hi => ?_, fun i hi => ?_⟩
      · have hi' : i < 3 := hi
        show ∃ v, w.cell? ⟨p, i, none⟩ = some v ∧ SR (planeNv ρ p b cap) ((accC i).f ((updC 0).f ⟨12, 257, 0, Nat.mul W h, 0, [], []⟩ ((updC 1).f ⟨19, W, 0, 0, 0, [], []⟩ ((updC 2).f ⟨19, h, 0, 0, 0, [], []⟩ cells0)))) v
        obtain rfl | rfl | rfl : i = 0 ∨ i = 1 ∨ i = 2 := by omega
        · rw [accC_updC_same]
          refine ⟨_, hE.s0, ?_⟩
          have := SR.su (η := planeNv ρ p b cap) (s := ⟨12, 257, 0, W * h, 0, [], []⟩) b rfl s2 (by show 0 + W * h ≤ (planeNv ρ p b cap).κ 257; rw [k2]; have := hE.cap; omega)
          simp only [k2, Nat.sub_zero] at this
          exact this
        · rw [accC_updC_ne _ _ (by decide) (by decide) (by decide), accC_updC_same]
          exact ⟨_, hE.s1, lit W hW.2⟩
        · rw [accC_updC_ne _ _ (by decide) (by decide) (by decide), accC_updC_ne _ _ (by decide) (by decide) (by decide), accC_updC_same]
          exact ⟨_, hE.s2, lit h hh.2⟩
      · have hi' : i < (planeNv ρ p b cap).κ 256 * sizeT P tp := hi
        rw [k1, ht] at hi'
        refine ⟨?_, hE.fr i (by omega)⟩
        obtain rfl | rfl | rfl : i = 0 ∨ i = 1 ∨ i = 2 := by omega
        · rw [hE.s0]; rfl
        · rw [hE.s1]; rfl
        · rw [hE.s2]; rfl
    · rw [planeSt_b]
      refine ⟨b, s2, (by show W * h ≤ 32768; omega), (by rw [k2]; show W * h ≤ cap * sizeT P u; rw [hu]; have := hE.cap; omega), fun i hi => ⟨_, hE.sm i hi, ?_⟩, fun i hi => ?_⟩
      · have hi' : i < W * h := hi
        have := accC_sets_in (fun _ => (⟨24, 2, 20, 0, 0, [], []⟩ : Sc)) 0 (W * h) 0 cells0 (by omega) i (by omega)
        rw [if_pos (by omega)] at this
        show SR _ ((accC i).f (sets _ (W * h) 0 cells0)) _
        unfold sets
        rw [this]
        exact .var (η := planeNv ρ p b cap) (s := ⟨24, 2, 20, 0, 0, [], []⟩) .u8 rfl rfl
      · have hi' : i < (planeNv ρ p b cap).κ 257 * sizeT P u := hi
        rw [k2, hu] at hi'
        exact hE.all i (by omega)
  · rcases hσ m c e1 with ⟨rfl, q⟩ | ⟨rfl, q⟩ <;> rcases hσ k c e2 with ⟨rfl, r⟩ | ⟨rfl, r⟩
    · rfl
    · exact absurd (q.symm.trans r) hE.ne
    · exact absurd (r.symm.trans q) hE.ne
    · rfl
  · have hm' : 272 ≤ m := hm
    show (if m = 256 then some p else if m = 257 then some b else none) = none
    rw [if_neg (by omega), if_neg (by omega)]
  · rcases hσ m c h with ⟨-, rfl⟩ | ⟨-, rfl⟩
    · exact lp
    · exact lb
  · rcases hσ m c h2 with ⟨rfl, -⟩ | ⟨rfl, -⟩ <;> omega
  · show 256 ≤ 272
    omega
theorem pl_of_run {g tp u W h k : Nat} (hg : fnOk P g = true) (ht : sizeT P tp = 3) (hu : sizeT P u = 1) (hW : 1 ≤ W ∧ W ≤ 128) (hh : 1 ≤ h ∧ h ≤ 128)
    (run : ∀ (xs : List Int) (v : Int), xs.length = k → 0 ≤ v → v ≤ 255 → ∃ (ρ : Nat → Int) (call : Caller) (vs : List V), Cal P ρ call ∧ ρ 2 = v ∧ (∀ η : Nv, η.ρ = ρ → VRL η vs (xs.map (Value.int .i64))) ∧ isV2 (call g (vS ⟨4, 256, 0, 0, 0, [], []⟩ :: vs) (planeSt tp u W h)) = true) : PlLaw P g W h k := by
  intro w p b cap v xs hk hE
  obtain ⟨ρ, call, vs, hcal, r2, hvs, hok⟩ := run xs v hk hE.v0 hE.v1
  rw [← r2] at hE ⊢
  have hR : Rep P (planeNv ρ p b cap) (planeSt tp u W h) w := planeSt_rep ht hu hW hh hE
  have s1 : (planeNv ρ p b cap).σ 256 = some p := by show (if 256 = 256 then some p else if 256 = 257 then some b else none) = some p; rw [if_pos rfl]
  have hv : VRL (planeNv ρ p b cap) (vS ⟨4, 256, 0, 0, 0, [], []⟩ :: vs) (.pointer (some ⟨p, 0, none⟩) :: xs.map (Value.int .i64)) := .cons (.sc (.ptr (s := ⟨4, 256, 0, 0, 0, [], []⟩) p rfl (.inl s1))) (hvs _ rfl)
  cases hr : call g (vS ⟨4, 256, 0, 0, 0, [], []⟩ :: vs) (planeSt tp u W h) with
  | no => rw [hr] at hok; cases hok
  | ok V T =>
    rw [hr] at hok
    have hok' : isVar .i64 2 V.s = true := hok
    obtain ⟨a1, a2⟩ := and_ok hok'
    obtain ⟨a3, a4⟩ := and_ok a2
    obtain ⟨-, hc⟩ := hcal.ok g _ _ V T _ _ w rfl hv hR hr
    rcases hc with ⟨-, hc⟩ | ⟨z, w', hc, -⟩
    · refine hc.mono ?_
      rintro r w' ⟨z, rfl, ζ, hm, hz⟩
      have e := (hz.asSc (by rw [beq_ok a1]; omega)).asVar (beq_ok a1) (beq_ok a4)
      rw [beq_ok a3, hm.ext.le.ρ] at e
      refine ⟨by rw [e]; rfl, hm.fr.os, hm.fr.tape, hm.fr.output, hm.fr.size, fun k hk => hm.fr.block k hk fun n n0 n1 n2 => ?_⟩
      rcases planeSt_live tp u W h n1 n2 with e | e <;> omega
    · rw [fnOk_enter hg] at hc; cases hc
end Go.Exec

namespace Go.Exec
open Go
variable {P : Program} {N : Nat} {ρ : Nat → Int} {H : Hy}
/-- What a sampler's own question is asked to say: the block may be asked for. -/
def AskLaw (P : Program) (g W h bw : Nat) : Prop := ∀ (w : World) (a : Option Addr) (cap x y : Nat), x ≤ 4096 → y ≤ 4096 →
  Calls P g #[.slice a (W * h) cap, .int .i64 W, .int .i64 h, .int .i64 x, .int .i64 y, .int .i64 bw, .int .i64 bw] w fun r w' => r = .returned (.int .i64 0) ∧ w = w'
noncomputable def askC (W0 h0 b0 : Nat) (L : List Nat) : FnC := ⟨fun _ vs S => chk (Nat.beq vs.length 7) (nthV vs 0 (fun p => nthV vs 1 (fun W => nthV vs 2 (fun h => nthV vs 3 (fun x => nthV vs 4 (fun y => nthV vs 5 (fun c => nthV vs 6 (fun d =>
  chk (Bool.and (isSl p) (Bool.and (Bool.and (litN W0 W0 W) (litN h0 h0 h)) (Bool.and (Bool.and (posN L x) (posN L y)) (Bool.and (Bool.and (litN b0 b0 c) (litN b0 b0 d)) (Nat.beq p.s.c (Nat.mul W0 h0)))))) (.ok i0V S)))))))))⟩
theorem ask_one {g W0 h0 b0 : Nat} (hE : AskLaw P g W0 h0 b0) (hg : fnOk P g = true) (hW0 : W0 ≤ 128) (hh0 : h0 ≤ 128) (hb0 : b0 ≤ 16) {L : List Nat} (hL : ∀ i ∈ L, 0 ≤ ρ i ∧ ρ i ≤ 4096) : OneOk P ρ g (askC W0 h0 b0 L) := by
  intro call hcal vs S v S' η args w hρ hv hR h
  obtain ⟨hlen, h⟩ := chk_ok h
  match vs, hlen, h, hv with
  | [p, W, h', x, y, c, d], _, h, hv =>
    obtain _ | ⟨hp, _ | ⟨hW, _ | ⟨hh, _ | ⟨hx, _ | ⟨hy, _ | ⟨hc, _ | ⟨hd, _ | _⟩⟩⟩⟩⟩⟩⟩ := hv
    obtain ⟨h1, h2⟩ := chk_ok (show chk (Bool.and (isSl p) (Bool.and (Bool.and (litN W0 W0 W) (litN h0 h0 h')) (Bool.and (Bool.and (posN L x) (posN L y)) (Bool.and (Bool.and (litN b0 b0 c) (litN b0 b0 d)) (Nat.beq p.s.c (Nat.mul W0 h0)))))) _ = .ok v S' from h)
    cases h2
    obtain ⟨k1, k2⟩ := and_ok h1
    obtain ⟨k3, k4⟩ := and_ok k2
    obtain ⟨k5, k6⟩ := and_ok k3
    obtain ⟨k7, k8⟩ := and_ok k4
    obtain ⟨k9, k10⟩ := and_ok k7
    obtain ⟨k11, k12⟩ := and_ok k8
    obtain ⟨k13, k14⟩ := and_ok k11
    obtain ⟨b, cap, -, rfl, -, -, -⟩ := isSl_ok k1 hp
    obtain ⟨rfl, w1, w2⟩ := lit_val (by omega) k5 hW
    obtain ⟨rfl, g1, g2⟩ := lit_val (by omega) k6 hh
    obtain ⟨X, rfl, x1⟩ := pos_val hρ hL k9 hx
    obtain ⟨Y, rfl, y1⟩ := pos_val hρ hL k10 hy
    obtain ⟨rfl, c1, c2⟩ := lit_val (by omega) k13 hc
    obtain ⟨rfl, d1, d2⟩ := lit_val (by omega) k14 hd
    have eW : W.s.a = W0 := by omega
    have eh : h'.s.a = h0 := by omega
    have ec : c.s.a = b0 := by omega
    have ed : d.s.a = b0 := by omega
    have el : p.s.c = W0 * h0 := beq_ok k12
    rw [eW, eh, ec, ed, el]
    refine ⟨rfl, .inl ⟨fnOk_enter hg _ w, (hE w _ cap X Y x1 y1).mono ?_⟩⟩
    rintro r w' ⟨rfl, rfl⟩
    exact ⟨_, rfl, η, Move.refl hR, .sc (.int (s := ⟨19, 0, 0, 0, 0, [], []⟩) .i64 rfl (by decide))⟩
end Go.Exec

namespace Go.Exec
open Go
variable {P : Program} {N : Nat} {ρ : Nat → Int} {H : Hy}
/-- A byte: a plain one, or a variable from lo on. -/
noncomputable def u8ok (lo n : Nat) (s : Sc) : Bool := Bool.or (Bool.and (Nat.beq s.tag 20) (Nat.blt s.a 256)) (Bool.and (Bool.and (Nat.beq s.tag 24) (Nat.beq s.b 20)) (Bool.and (Nat.ble lo s.a) (Nat.blt s.a (Nat.add lo n))))
/-- The same as an int. -/
noncomputable def toW (s : Sc) : Sc := Bool.rec (motive := fun _ => Sc) ⟨19, s.a, 0, 0, 0, [], []⟩ ⟨24, s.a, 19, 0, 0, [], []⟩ (Nat.beq s.tag 24)
theorem u8_val {η : Nv} {lo n : Nat} {s : Sc} {v : Value} (hJ : ∀ i, lo ≤ i → i < lo + n → 0 ≤ ρ i ∧ ρ i ≤ 255) (hρ : η.ρ = ρ) (h : u8ok lo n s = true) (hs : SR η s v) : ∃ m : Int, v = .int .u8 m ∧ 0 ≤ m ∧ m ≤ 255 ∧ ∀ ζ : Nv, ζ.ρ = ρ → SR ζ (toW s) (.int .i64 m) := by
  rcases or_ok h with h | h
  · obtain ⟨h1, h2⟩ := and_ok h
    obtain ⟨e, hl⟩ := hs.asInt (k := .u8) (beq_ok h1)
    have ha : s.a < 256 := blt_ok h2
    have ew : IntKind.u8.wrap (s.a : Int) = (s.a : Int) := by rw [IntKind.wrap_u8]; omega
    rw [ew] at e
    refine ⟨s.a, e, by omega, by omega, fun ζ _ => ?_⟩
    have h9 : Nat.beq s.tag 24 = false := by rw [beq_ok h1]; rfl
    unfold toW
    rw [h9]
    have q : SR ζ ⟨19, s.a, 0, 0, 0, [], []⟩ (.int .i64 (IntKind.i64.wrap ((s.a : Nat) : Int))) := .int (s := ⟨19, s.a, 0, 0, 0, [], []⟩) .i64 rfl (Nat.lt_trans ha (by decide))
    rw [wrap_nat .i64 (Nat.lt_trans ha (by decide)), if_pos (.inr (Nat.lt_trans ha (by decide)))] at q
    exact q
  · obtain ⟨h1, h2⟩ := and_ok h
    obtain ⟨h3, h4⟩ := and_ok h1
    obtain ⟨h5, h6⟩ := and_ok h2
    have e := hs.asVar (k := .u8) (beq_ok h3) (beq_ok h4)
    rw [hρ] at e
    obtain ⟨q0, q1⟩ := hJ s.a (ble_ok h5) (blt_ok h6)
    refine ⟨ρ s.a, e, q0, q1, fun ζ hz => ?_⟩
    unfold toW
    rw [h3, ← hz]
    exact .var (s := ⟨24, s.a, 19, 0, 0, [], []⟩) .i64 rfl rfl
/-- A sample by its place: beyond the plane the nearest. -/
def AtLaw (P : Program) (g W h : Nat) : Prop := ∀ (w : World) (p b cap x y : Nat) (v : Int), x ≤ 4096 → y ≤ 4096 → w.cell? ⟨p, 0, none⟩ = some (.slice (some ⟨b, 0, none⟩) (W * h) cap) → w.cell? ⟨p, 1, none⟩ = some (.int .i64 W) → w.cell? ⟨p, 2, none⟩ = some (.int .i64 h) →
  w.cell? ⟨b, min y (h - 1) * W + min x (W - 1), none⟩ = some (.int .u8 v) → 0 ≤ v → v ≤ 255 →
  Calls P g #[.pointer (some ⟨p, 0, none⟩), .int .i64 x, .int .i64 y] w fun r w' => r = .returned (.int .i64 v) ∧ w'.os = w.os ∧ w'.tape = w.tape ∧ w'.output = w.output ∧ w.heap.size ≤ w'.heap.size ∧ ∀ k, k < w.heap.size → w'.heap[k]? = w.heap[k]?
noncomputable def mn (a b : Nat) : Nat := Bool.rec (motive := fun _ => Nat) b a (Nat.ble a b)
theorem mn_eq (a b : Nat) : mn a b = min a b := by
  unfold mn
  cases h : Nat.ble a b with
  | true => have := ble_ok h; show a = _; omega
  | false => have : ¬ a ≤ b := fun h2 => by rw [show Nat.ble a b = true by rw [Nat.ble_eq]; exact h2] at h; cases h
             show b = _; omega
noncomputable def atGo (lo n : Nat) (S : St) (m d : Nat) : Ans := chk (Bool.and (Nat.blt m 32768) (Bool.and (Nat.blt d ((getB m).f S).size) (u8ok lo n (cellS S m d)))) (.ok (vS (toW (cellS S m d))) S)
noncomputable def atC (tp W h lo n : Nat) : FnC := ⟨fun _ vs S => nthV vs 0 (fun p => nthV vs 1 (fun x => nthV vs 2 (fun y =>
  chk (Bool.and (Bool.and (Bool.and (Nat.beq vs.length 3) (Bool.and (litN 0 4096 x) (litN 0 4096 y))) (Bool.and (Nat.beq p.s.tag 4) (Nat.beq p.s.b 0))) (Bool.and (Bool.and (Nat.blt p.s.a 32768) (Nat.ble 256 p.s.a)) (Bool.and (Nat.ble 3 ((getB p.s.a).f S).size) (Nat.beq ((getB p.s.a).f S).elem tp))))
    (force (cellS S p.s.a 0).a (fun m => chk (Bool.and (Bool.and (Nat.beq (cellS S p.s.a 0).tag 12) (Bool.and (Nat.beq (cellS S p.s.a 0).b 0) (Nat.beq (cellS S p.s.a 0).c (Nat.mul W h))))
        (Bool.and (Bool.and (Nat.beq (cellS S p.s.a 1).tag 19) (Nat.beq (cellS S p.s.a 1).a W)) (Bool.and (Nat.beq (cellS S p.s.a 2).tag 19) (Nat.beq (cellS S p.s.a 2).a h))))
      (force (Nat.add (Nat.mul (mn y.s.a (Nat.sub h 1)) W) (mn x.s.a (Nat.sub W 1))) (fun d => atGo lo n S m d) .no)) .no))))⟩
theorem at_one {g tp W h lo n : Nat} (hE : AtLaw P g W h) (hg : fnOk P g = true) (hW : 1 ≤ W ∧ W ≤ 128) (hh : 1 ≤ h ∧ h ≤ 128) (hJ : ∀ i, lo ≤ i → i < lo + n → 0 ≤ ρ i ∧ ρ i ≤ 255) : OneOk P ρ g (atC tp W h lo n) := by
  intro call hcal vs S v S' η args w hρ hv hR hrun
  match vs, hv, hrun with
  | [], _, hrun => cases hrun
  | [_], _, hrun => cases hrun
  | [_, _], _, hrun => cases hrun
  | p :: x :: y :: vs, hv, hrun =>
    obtain _ | ⟨hp, _ | ⟨hx, _ | ⟨hy, hvs⟩⟩⟩ := hv
    obtain ⟨h1, h2⟩ := chk_ok (show chk (Bool.and (Bool.and (Bool.and (Nat.beq (p :: x :: y :: vs).length 3) (Bool.and (litN 0 4096 x) (litN 0 4096 y))) (Bool.and (Nat.beq p.s.tag 4) (Nat.beq p.s.b 0))) (Bool.and (Bool.and (Nat.blt p.s.a 32768) (Nat.ble 256 p.s.a)) (Bool.and (Nat.ble 3 ((getB p.s.a).f S).size) (Nat.beq ((getB p.s.a).f S).elem tp)))) _ = .ok v S' from hrun)
    rw [force_eq] at h2
    obtain ⟨a1, a2⟩ := and_ok h1
    obtain ⟨a3, a4⟩ := and_ok a1
    obtain ⟨a5, a6⟩ := and_ok a3
    obtain ⟨a7, a8⟩ := and_ok a4
    obtain ⟨a9, a10⟩ := and_ok a2
    obtain ⟨a11, a12⟩ := and_ok a9
    obtain ⟨a13, a14⟩ := and_ok a10
    obtain ⟨a15, a16⟩ := and_ok a6
    obtain ⟨b1, b2⟩ := chk_ok h2
    obtain ⟨b3, b4⟩ := and_ok b1
    obtain ⟨b7, b8⟩ := and_ok b3
    obtain ⟨b9, b10⟩ := and_ok b8
    obtain ⟨b11, b12⟩ := and_ok b4
    rw [force_eq] at b2
    unfold atGo at b2
    obtain ⟨c1, c2⟩ := chk_ok b2
    obtain ⟨c3, c4⟩ := and_ok c1
    obtain ⟨c5, c6⟩ := and_ok c4
    cases c2
    have hlen : vs = [] := by have := beq_ok a5; simp only [List.length_cons] at this; exact List.eq_nil_of_length_eq_zero (by omega)
    subst hlen
    obtain _ | _ := hvs
    obtain ⟨rfl, x0, x1⟩ := lit_val (by omega) a15 hx
    obtain ⟨rfl, y0, y1⟩ := lit_val (by omega) a16 hy
    obtain ⟨m, hm⟩ : ∃ m, m = (cellS S p.s.a 0).a := ⟨_, rfl⟩
    rw [← hm] at c3 c5 c6 ⊢
    obtain ⟨d, hd⟩ : ∃ d, d = Nat.add (Nat.mul (mn y.s.a (Nat.sub h 1)) W) (mn x.s.a (Nat.sub W 1)) := ⟨_, rfl⟩
    rw [← hd] at c5 c6 ⊢
    have hd' : d = min y.s.a (h - 1) * W + min x.s.a (W - 1) := by rw [hd, mn_eq, mn_eq]; rfl
    have hs3 : 3 ≤ (blkAt S p.s.a).size := ble_ok a13
    obtain ⟨pb, hpt, rfl⟩ := (hp.asSc (by rw [beq_ok a7]; omega)).asPtr (beq_ok a7)
    have hpσ := hpt.live hR (blt_ok a11) (by omega)
    obtain ⟨pb', hl⟩ := hR.live p.s.a (blt_ok a11) (by omega)
    obtain rfl : pb = pb' := by have := hl.σ; rw [hpσ] at this; injection this
    have hds : d < (blkAt S m).size := blt_ok c5
    obtain ⟨b, hlb⟩ := hR.live m (blt_ok c3) (by omega)
    rw [beq_ok a8]
    obtain ⟨u0, z0, r0⟩ := hl.cell 0 (by omega)
    obtain ⟨u1, z1, r1⟩ := hl.cell 1 (by omega)
    obtain ⟨u2, z2, r2⟩ := hl.cell 2 (by omega)
    obtain ⟨b', hb', rfl, hcap⟩ := r0.asSu (beq_ok b7)
    have hm' : ((accC 0).f (blkAt S p.s.a).cs).a = m := hm.symm
    rw [hm'] at hb' hcap z0
    obtain rfl : b = b' := by have := hlb.σ; rw [hb'] at this; injection this with this; exact this.symm
    have e5 : ((accC 0).f (blkAt S p.s.a).cs).b = 0 := beq_ok b9
    have e6 : ((accC 0).f (blkAt S p.s.a).cs).c = W * h := beq_ok b10
    rw [e6] at hcap
    rw [e5, e6] at z0
    rw [sc_lit b11 (by omega) r1] at z1
    rw [sc_lit b12 (by omega) r2] at z2
    obtain ⟨u, hu, hr⟩ := hlb.cell d hds
    obtain ⟨q, rfl, q0, q1, q2⟩ := u8_val hJ hρ c6 hr
    rw [hd'] at hu
    refine ⟨rfl, .inl ⟨fnOk_enter hg _ w, (hE w pb b _ x.s.a y.s.a q x1 y1 z0 z1 z2 hu q0 q1).mono ?_⟩⟩
    rintro r w' ⟨rfl, f6, f7, f8, f9, f10⟩
    exact ⟨_, rfl, η, move_same hR f6 f7 f8 f9 f10, .sc (q2 η hρ)⟩

/-- A sampler at a place between no samples: which sample each of the block is. -/
def CopyLaw (P : Program) (g W h bw x y : Nat) (src : Nat → Nat) : Prop := ∀ (w : World) (b cap : Nat) (f : Nat → Int), W * h ≤ cap → (∀ i, i < W * h → 0 ≤ f i ∧ f i ≤ 255) → (∀ i, i < W * h → w.cell? ⟨b, i, none⟩ = some (.int .u8 (f i))) → (∀ i, i < cap → (w.cell? ⟨b, i, none⟩).isSome = true ∧ w.frozen? ⟨b, i, none⟩ = false) → b < w.heap.size →
  Calls P g #[.slice (some ⟨b, 0, none⟩) (W * h) cap, .int .i64 W, .int .i64 h, .int .i64 x, .int .i64 y, .int .i64 bw, .int .i64 bw] w fun r w' => ∃ b' cap', r = .returned (.tuple #[.slice (some ⟨b', 0, none⟩) (bw * bw) cap', .int .i64 0]) ∧
    w.heap.size ≤ b' ∧ b' < w'.heap.size ∧ bw * bw ≤ cap' ∧ (∀ i, i < bw * bw → w'.cell? ⟨b', i, none⟩ = some (.int .i64 (f (src i)))) ∧ (∀ i, i < cap' → (w'.cell? ⟨b', i, none⟩).isSome = true ∧ w'.frozen? ⟨b', i, none⟩ = false) ∧
    w'.os = w.os ∧ w'.tape = w.tape ∧ w'.output = w.output ∧ w.heap.size ≤ w'.heap.size ∧ ∀ k, k < w.heap.size → w'.heap[k]? = w.heap[k]?
/-- a plane's samples: variables from 1000 on, lent as block 256 -/
noncomputable def varsBlk (u k n : Nat) : Blk := ⟨n, u, sets (fun i => ⟨24, Nat.add 1000 i, k, 0, 0, [], []⟩) n 0 cells0⟩
noncomputable def varsSt (u n : Nat) : St := (putB 256).f (varsBlk u 20 n) (st0 272)
noncomputable def copyAns (e m : Nat) (src : Nat → Nat) (v : V) (T : St) : Bool := Bool.and (Nat.beq v.s.tag 99) (match v.vs with
  | [p, q] => Bool.and (Bool.and (Nat.beq p.s.tag 6) (Bool.and (Nat.beq p.s.b 0) (Bool.and (Nat.beq p.s.c m) (Nat.ble p.s.d ((getB p.s.a).f T).size))))
    (Bool.and (Bool.and (Bool.and (Nat.ble 272 p.s.a) (Nat.blt p.s.a 32768)) (Bool.and (Nat.ble m ((getB p.s.a).f T).size) (Nat.beq ((getB p.s.a).f T).elem e)))
      (Bool.and (allN m (fun i => isVar .i64 (Nat.add 1000 (src i)) ((accC i).f ((getB p.s.a).f T).cs))) (Bool.and (Nat.beq q.s.tag 19) (Nat.beq q.s.a 0))))
  | _ => false)
noncomputable def copyOk (e m : Nat) (src : Nat → Nat) (r : Ans) : Bool := match r with | .ok v T => copyAns e m src v T | .no => false
noncomputable def copyArgs (W h bw x y : Nat) : List V := [mkSu 256 0 (Nat.mul W h) 0, litV W, litV h, litV x, litV y, litV bw, litV bw]
theorem varsSt_at (u n : Nat) : blkAt (varsSt u n) 256 = varsBlk u 20 n := blkAt_put_same _ 256 _
theorem varsSt_ne (u n : Nat) {m : Nat} (hm : m < 32768) (h : m ≠ 256) : blkAt (varsSt u n) m = blk0 := (blkAt_put_ne _ _ (by decide) hm (Ne.symm h)).trans (st0_dead 272 m)
theorem varsSt_live (u n : Nat) {m : Nat} (hm : m < 32768) (h : 0 < (blkAt (varsSt u n) m).size) : m = 256 := by
  apply Classical.byContradiction
  intro e
  rw [varsSt_ne u n hm e] at h
  exact absurd h (Nat.lt_irrefl 0)
theorem varsSt_rep {u n b cap : Nat} {w : World} (hu : sizeT P u = 1) (hn : n ≤ 32768) (hc : n ≤ cap) (hcell : ∀ i, i < n → w.cell? ⟨b, i, none⟩ = some (.int .u8 (ρ (1000 + i)))) (hall : ∀ i, i < cap → (w.cell? ⟨b, i, none⟩).isSome = true ∧ w.frozen? ⟨b, i, none⟩ = false) (hb : b < w.heap.size) :
    Rep P (evenNv ρ b cap) (varsSt u n) w := by
  have hσ : ∀ m c, (evenNv ρ b cap).σ m = some c → m = 256 ∧ c = b := fun m c h => by
    have h' : (if m = 256 then some b else none) = some c := h
    by_cases e : m = 256
    · rw [if_pos e] at h'; injection h' with h'; exact ⟨e, h'.symm⟩
    · rw [if_neg e] at h'; cases h'
  have hat : (evenNv ρ b cap).σ 256 = some b := by show (if 256 = 256 then some b else none) = some b; rw [if_pos rfl]
  refine ⟨fun m hm hl => ?_, fun m k c hm hk hl1 hl2 _ _ => (varsSt_live u n hm hl1).trans (varsSt_live u n hk hl2).symm, fun m hm => ?_, fun m c h => by rw [(hσ m c h).2]; exact hb, fun m c h1 h2 => by have := (hσ m c h2).1; omega, ?_, trivial, fun _ h => h.elim⟩
  · have := varsSt_live u n hm hl
    subst this
    rw [varsSt_at]
    refine ⟨b, hat, hn, ?_, fun i hi => ⟨_, hcell i hi, ?_⟩, ?_⟩
    · show n ≤ cap * sizeT P u
      rw [hu]; omega
    · have hi' : i < n := hi
      have := accC_sets_in (fun i => (⟨24, Nat.add 1000 i, 20, 0, 0, [], []⟩ : Sc)) 0 n 0 cells0 (by omega) i (by omega)
      rw [if_pos (by omega)] at this
      show SR _ ((accC i).f (sets _ n 0 cells0)) _
      unfold sets
      rw [this]
      exact .var (η := evenNv ρ b cap) (s := ⟨24, Nat.add 1000 i, 20, 0, 0, [], []⟩) .u8 rfl rfl
    · show ∀ i, i < cap * sizeT P u → _
      rw [hu, Nat.mul_one]
      exact hall
  · have hm' : 272 ≤ m := hm
    show (if m = 256 then some b else none) = none
    rw [if_neg (by omega)]
  · show 256 ≤ 272
    omega
theorem copy_of_run {g e u W h bw x y : Nat} {src : Nat → Nat} (hg : fnOk P g = true) (he : sizeT P e = 1) (hu : sizeT P u = 1) (hW : W ≤ 128) (hh : h ≤ 128) (hb0 : 1 ≤ bw) (hbw : bw ≤ 16) (hx : x ≤ 4096) (hy : y ≤ 4096) (hsrc : ∀ i, i < bw * bw → src i < W * h)
    (run : ∀ (f : Nat → Int), (∀ i, i < W * h → 0 ≤ f i ∧ f i ≤ 255) → ∃ (ρ : Nat → Int) (call : Caller), Cal P ρ call ∧ (∀ i, i < W * h → ρ (1000 + i) = f i) ∧ copyOk e (bw * bw) src (call g (copyArgs W h bw x y) (varsSt u (W * h))) = true) : CopyLaw P g W h bw x y src := by
  intro w b cap f hcap hf hcell hall hblt
  obtain ⟨ρ, call, hcal, hρf, hok⟩ := run f hf
  have hn : W * h ≤ 128 * 128 := Nat.mul_le_mul hW hh
  have hR : Rep P (evenNv ρ b cap) (varsSt u (W * h)) w := varsSt_rep hu (by omega) hcap (fun i hi => by rw [hρf i hi]; exact hcell i hi) hall hblt
  have hat : (evenNv ρ b cap).σ 256 = some b := by show (if 256 = 256 then some b else none) = some b; rw [if_pos rfl]
  have hv : VRL (evenNv ρ b cap) (copyArgs W h bw x y) [.slice (some ⟨b, 0, none⟩) (W * h) cap, .int .i64 W, .int .i64 h, .int .i64 x, .int .i64 y, .int .i64 bw, .int .i64 bw] := by
    have h1 := SR.su (η := evenNv ρ b cap) (s := ⟨12, 256, 0, W * h, 0, [], []⟩) b rfl hat (by show 0 + W * h ≤ cap; omega)
    exact .cons (.sc h1) (.cons (.litV (by omega)) (.cons (.litV (by omega)) (.cons (.litV (by omega)) (.cons (.litV (by omega)) (.cons (.litV (by omega)) (.cons (.litV (by omega)) .nil))))))
  cases hr : call g (copyArgs W h bw x y) (varsSt u (W * h)) with
  | no => rw [hr] at hok; cases hok
  | ok V T =>
    rw [hr] at hok
    obtain ⟨k1, k2⟩ := and_ok (show Bool.and _ _ = true from hok)
    obtain ⟨-, hc⟩ := hcal.ok g _ _ V T _ _ w rfl hv hR hr
    rcases hc with ⟨-, hc⟩ | ⟨z, w', hc, -⟩
    · refine hc.mono ?_
      rintro r w' ⟨z, rfl, ζ, hm, hz⟩
      obtain ⟨xs, rfl, hxs⟩ := hz.asTup (beq_ok k1)
      obtain ⟨vs, hvs⟩ : ∃ vs, vs = V.vs := ⟨_, rfl⟩
      rw [← hvs] at k2 hxs
      match vs, k2, hxs with
      | [p, q], k2, hxs =>
        obtain _ | ⟨hp, _ | ⟨hq, _ | _⟩⟩ := hxs
        obtain ⟨k3, k4⟩ := and_ok k2
        obtain ⟨k5, k6⟩ := and_ok k3
        obtain ⟨k7, k8⟩ := and_ok k6
        obtain ⟨k9, k10⟩ := and_ok k8
        obtain ⟨j1, j2⟩ := and_ok k4
        obtain ⟨j3, j4⟩ := and_ok j1
        obtain ⟨j5, j6⟩ := and_ok j3
        obtain ⟨j7, j8⟩ := and_ok j4
        obtain ⟨i1, i2⟩ := and_ok j2
        obtain ⟨i3, i4⟩ := and_ok i2
        obtain ⟨b', hb', rfl, hle⟩ := (hp.asSc (by rw [beq_ok k5]; omega)).asSl (beq_ok k5)
        obtain ⟨rfl, -⟩ := (hq.asSc (by rw [beq_ok i3]; omega)).asInt (k := .i64) (beq_ok i3)
        have hsz : bw * bw ≤ (blkAt T p.s.a).size := ble_ok j7
        have hds : p.s.d ≤ (blkAt T p.s.a).size := ble_ok k10
        rw [beq_ok k7, beq_ok k9, beq_ok i4]
        rw [beq_ok k9] at hle
        have hlow := hm.rep.low _ b' hb'
        have hm1 : 1 ≤ bw * bw := Nat.mul_le_mul hb0 hb0
        have hka : p.s.a < 32768 := blt_ok j6
        have hl0 : 0 < (blkAt T p.s.a).size := by omega
        obtain ⟨b2, hl⟩ := hm.rep.live p.s.a hka hl0
        obtain rfl : b' = b2 := by have := hl.σ; rw [hb'] at this; injection this
        have hnew : w.heap.size ≤ b' := by
          rcases hm.ext.live p.s.a b' hka hl0 hl.σ with h1 | ⟨n, h1, h2, h3, -⟩
          · exact h1
          · have := varsSt_live u (W * h) h2 h3
            have := h1 (ble_ok j5)
            omega
        have hel : (blkAt T p.s.a).elem = e := beq_ok j8
        have hal := hl.all
        have hcp := hl.cap
        rw [hel, he, Nat.mul_one] at hal hcp
        have hρ : ζ.ρ = ρ := hm.ext.le.ρ
        refine ⟨b', p.s.d, ?_, hnew, hlow, hle, fun i hi => ?_, fun i hi => hal i (by omega), hm.fr.os, hm.fr.tape, hm.fr.output, hm.fr.size, fun k hk => hm.fr.block k hk fun n n0 n1 n2 => ?_⟩
        · rfl
        · obtain ⟨y, q1, q2⟩ := hl.cell i (by omega)
          obtain ⟨a1, a2⟩ := and_ok (allN_ok i1 i hi)
          obtain ⟨a3, a4⟩ := and_ok a2
          have e1 := q2.asVar (beq_ok a1) (beq_ok a4)
          have e2 : ((accC i).f (blkAt T p.s.a).cs).a = 1000 + src i := beq_ok a3
          rw [q1, e1, e2, hρ, hρf _ (hsrc i hi)]
        · have := varsSt_live u (W * h) n1 n2
          omega
    · rw [fnOk_enter hg] at hc; cases hc
noncomputable def copyGo (e u lo n : Nat) (src : Nat → Nat) (S : St) (k len m : Nat) : Ans :=
  chk (Bool.and (Bool.and (Nat.blt k 32768) (Bool.and (Nat.ble len ((getB k).f S).size) (Nat.beq ((getB k).f S).elem u))) (allN len (fun i => u8ok lo n ((accC i).f ((getB k).f S).cs))))
    (newB S m e (sets (fun i => toW ((accC (src i)).f ((getB k).f S).cs)) m 0 cells0) (fun b S => .ok (mkTup [mkSu b 0 m 0, i0V]) S))
noncomputable def srcN (W bw q x y i : Nat) : Nat := Nat.add (Nat.mul (Nat.add (Nat.div y q) (Nat.div i bw)) W) (Nat.add (Nat.div x q) (Nat.mod i bw))
noncomputable def blockC (e u W0 h0 b0 q lo n : Nat) (L : List Nat) : FnC := ⟨fun _ vs S => chk (Nat.beq vs.length 7) (nthV vs 0 (fun p => nthV vs 1 (fun W => nthV vs 2 (fun h => nthV vs 3 (fun x => nthV vs 4 (fun y => nthV vs 5 (fun c => nthV vs 6 (fun d =>
  chk (Bool.and (Bool.and (Nat.beq p.s.tag 12) (Nat.beq p.s.b 0)) (Bool.and (Bool.and (litN W0 W0 W) (litN h0 h0 h)) (Bool.and (Bool.and (Bool.and (litN 0 1023 x) (litN 0 1023 y)) (memN (Nat.add x.s.a (Nat.mul 1024 y.s.a)) L)) (Bool.and (Bool.and (litN b0 b0 c) (litN b0 b0 d)) (Nat.beq p.s.c (Nat.mul W0 h0))))))
    (force x.s.a (fun X => force y.s.a (fun Y => copyGo e u lo n (srcN W0 b0 q X Y) S p.s.a (Nat.mul W0 h0) (Nat.mul b0 b0)) .no) .no)))))))))⟩
theorem copy_one {g e u W0 h0 b0 q lo n : Nat} {L : List Nat} (hE : ∀ c ∈ L, CopyLaw P g W0 h0 b0 (c % 1024) (c / 1024) (srcN W0 b0 q (c % 1024) (c / 1024)) ∧ ∀ i, i < b0 * b0 → srcN W0 b0 q (c % 1024) (c / 1024) i < W0 * h0) (hg : fnOk P g = true) (hs : sizeT P e = 1) (hu : sizeT P u = 1) (hW0 : 1 ≤ W0 ∧ W0 ≤ 128) (hh0 : 1 ≤ h0 ∧ h0 ≤ 128) (hb0 : 1 ≤ b0 ∧ b0 ≤ 16) (hJ : ∀ i, lo ≤ i → i < lo + n → 0 ≤ ρ i ∧ ρ i ≤ 255) : OneOk P ρ g (blockC e u W0 h0 b0 q lo n L) := by
  intro call hcal vs S v S' η args w hρ hv hR h
  obtain ⟨hlen, h⟩ := chk_ok h
  match vs, hlen, h, hv with
  | [p, W, h', x, y, c, d], _, h, hv =>
    obtain _ | ⟨hp, _ | ⟨hW, _ | ⟨hh, _ | ⟨hx, _ | ⟨hy, _ | ⟨hc, _ | ⟨hd, _ | _⟩⟩⟩⟩⟩⟩⟩ := hv
    obtain ⟨h1, h2⟩ := chk_ok (show chk (Bool.and (Bool.and (Nat.beq p.s.tag 12) (Nat.beq p.s.b 0)) (Bool.and (Bool.and (litN W0 W0 W) (litN h0 h0 h')) (Bool.and (Bool.and (Bool.and (litN 0 1023 x) (litN 0 1023 y)) (memN (Nat.add x.s.a (Nat.mul 1024 y.s.a)) L)) (Bool.and (Bool.and (litN b0 b0 c) (litN b0 b0 d)) (Nat.beq p.s.c (Nat.mul W0 h0)))))) _ = .ok v S' from h)
    rw [force_eq, force_eq] at h2
    obtain ⟨k1, k2⟩ := and_ok h1
    obtain ⟨k3, k4⟩ := and_ok k1
    obtain ⟨k5, k6⟩ := and_ok k2
    obtain ⟨k7, k8⟩ := and_ok k5
    obtain ⟨k9, k10⟩ := and_ok k6
    obtain ⟨k11, k12⟩ := and_ok k9
    obtain ⟨k13, k14⟩ := and_ok k10
    obtain ⟨k15, k16⟩ := and_ok k13
    obtain ⟨k17, k18⟩ := and_ok k11
    obtain ⟨b, hb, rfl, hcap⟩ := (hp.asSc (by rw [beq_ok k3]; omega)).asSu (beq_ok k3)
    obtain ⟨rfl, w1, w2⟩ := lit_val (by omega) k7 hW
    obtain ⟨rfl, g1, g2⟩ := lit_val (by omega) k8 hh
    obtain ⟨rfl, x0, x1⟩ := lit_val (by omega) k17 hx
    obtain ⟨rfl, y0, y1⟩ := lit_val (by omega) k18 hy
    obtain ⟨rfl, c1, c2⟩ := lit_val (by omega) k15 hc
    obtain ⟨rfl, d1, d2⟩ := lit_val (by omega) k16 hd
    have eW : W.s.a = W0 := by omega
    have eh : h'.s.a = h0 := by omega
    have ec : c.s.a = b0 := by omega
    have ed : d.s.a = b0 := by omega
    have elen : p.s.c = W0 * h0 := beq_ok k14
    rw [eW, eh, ec, ed, beq_ok k4, elen]
    rw [elen] at hcap
    obtain ⟨hE1, hE2⟩ := hE _ (memN_ok k12)
    have hxy : Nat.add x.s.a (Nat.mul 1024 y.s.a) = x.s.a + 1024 * y.s.a := rfl
    rw [hxy, show (x.s.a + 1024 * y.s.a) % 1024 = x.s.a by omega, show (x.s.a + 1024 * y.s.a) / 1024 = y.s.a by omega] at hE1 hE2
    obtain ⟨src, hsrc⟩ : ∃ src, src = srcN W0 b0 q x.s.a y.s.a := ⟨_, rfl⟩
    rw [← hsrc] at hE1 hE2 h2
    unfold copyGo at h2
    obtain ⟨q1, q2⟩ := chk_ok h2
    obtain ⟨q3, q4⟩ := and_ok q1
    obtain ⟨q5, q6⟩ := and_ok q3
    obtain ⟨q7, q8⟩ := and_ok q6
    obtain ⟨n1, n2, n3, -⟩ := newB_ok q2
    cases n3
    have hb1 : 1 ≤ b0 * b0 := Nat.mul_le_mul hb0.1 hb0.1
    have hwh : 1 ≤ W0 * h0 := Nat.mul_le_mul hW0.1 hh0.1
    have hls : W0 * h0 ≤ (blkAt S p.s.a).size := ble_ok q7
    obtain ⟨b', hl⟩ := hR.live p.s.a (blt_ok q5) (by omega)
    obtain rfl : b = b' := by have := hl.σ; rw [hb] at this; injection this
    obtain ⟨f, hf⟩ : ∃ f : Nat → Int, ∀ i, i < W0 * h0 → w.cell? ⟨b, i, none⟩ = some (.int .u8 (f i)) ∧ 0 ≤ f i ∧ f i ≤ 255 ∧ ∀ ζ : Nv, ζ.ρ = ρ → SR ζ (toW ((accC i).f (blkAt S p.s.a).cs)) (.int .i64 (f i)) := by
      have key : ∀ i, ∃ m : Int, i < W0 * h0 → w.cell? ⟨b, i, none⟩ = some (.int .u8 m) ∧ 0 ≤ m ∧ m ≤ 255 ∧ ∀ ζ : Nv, ζ.ρ = ρ → SR ζ (toW ((accC i).f (blkAt S p.s.a).cs)) (.int .i64 m) := fun i => by
        by_cases hi : i < W0 * h0
        · obtain ⟨u, hu, hr⟩ := hl.cell i (by omega)
          obtain ⟨m, rfl, m0, m1, m2⟩ := u8_val hJ hρ (allN_ok q4 i hi) hr
          exact ⟨m, fun _ => ⟨hu, m0, m1, m2⟩⟩
        · exact ⟨0, fun h => absurd h hi⟩
      exact ⟨fun i => (key i).choose, fun i hi => (key i).choose_spec hi⟩
    have hel : (blkAt S p.s.a).elem = u := beq_ok q8
    have hall := hl.all
    rw [hel, hu, Nat.mul_one] at hall
    refine ⟨rfl, .inl ⟨fnOk_enter hg _ w, (hE1 w b (η.κ p.s.a - p.s.d) f (by omega) (fun i hi => ⟨(hf i hi).2.1, (hf i hi).2.2.1⟩) (fun i hi => (hf i hi).1) (fun i hi => hall i (by omega)) (hR.low _ b hb)).mono ?_⟩⟩
    rintro r w' ⟨nb, ncap, rfl, f1, f2, f3, f4, f5, f6, f7, f8, f9, f10⟩
    have hat : (η.set S.next nb ncap).σ S.next = some nb := by simp [Nv.set]
    have hatk : (η.set S.next nb ncap).κ S.next = ncap := by simp [Nv.set]
    have hρ' : (η.set S.next nb ncap).ρ = ρ := hρ
    have hl2 : Live P (η.set S.next nb ncap) ⟨b0 * b0, e, sets (fun i => toW ((accC (src i)).f (blkAt S p.s.a).cs)) (b0 * b0) 0 cells0⟩ S.next nb w' := by
      refine ⟨hat, n1, by rw [hatk, hs, Nat.mul_one]; exact f3, fun i hi => ⟨_, f4 i hi, ?_⟩, by rw [hatk, hs, Nat.mul_one]; exact f5⟩
      have := accC_sets_in (fun i => toW ((accC (src i)).f (blkAt S p.s.a).cs)) 0 (b0 * b0) 0 cells0 (by have : b0 * b0 ≤ 32768 := n1; omega) i (by have : b0 * b0 ≤ 32768 := n1; have : i < b0 * b0 := hi; omega)
      rw [if_pos (by have : i < b0 * b0 := hi; omega)] at this
      show SR _ ((accC i).f (sets _ _ 0 cells0)) _
      unfold sets
      rw [this]
      exact (hf _ (hE2 i hi)).2.2.2 _ hρ'
    refine ⟨_, rfl, _, move_adopt hR f6 f7 f8 f9 f10 n2 f1 f2 hl2, .tup [_, _] rfl (.cons (.sc ?_) (.cons (.sc ?_) .nil))⟩
    · have := SR.su (η := η.set S.next nb ncap) (s := ⟨12, S.next, 0, b0 * b0, 0, [], []⟩) nb rfl hat (by rw [hatk]; simpa using f3)
      simp only [hatk, Nat.sub_zero] at this
      exact this
    · exact .int (s := ⟨19, 0, 0, 0, 0, [], []⟩) .i64 rfl (by decide)
end Go.Exec

namespace Go.Exec
open Go
variable {P : Program} {N : Nat} {ρ : Nat → Int} {H : Hy}
/-- What the mean of two equal rows is asked to be: the row. -/
def MeanLaw (P : Program) (g n : Nat) : Prop := ∀ (w : World) (b1 b2 c1 c2 : Nat) (f : Nat → Int), n ≤ c1 → n ≤ c2 → (∀ i, i < n → 0 ≤ f i ∧ f i ≤ 255) → (∀ i, i < n → w.cell? ⟨b1, i, none⟩ = some (.int .i64 (f i))) → (∀ i, i < n → w.cell? ⟨b2, i, none⟩ = some (.int .i64 (f i))) →
  (∀ i, i < c1 → (w.cell? ⟨b1, i, none⟩).isSome = true ∧ w.frozen? ⟨b1, i, none⟩ = false) → (∀ i, i < c2 → (w.cell? ⟨b2, i, none⟩).isSome = true ∧ w.frozen? ⟨b2, i, none⟩ = false) → b1 ≠ b2 → b1 < w.heap.size → b2 < w.heap.size →
  Calls P g #[.slice (some ⟨b1, 0, none⟩) n c1, .slice (some ⟨b2, 0, none⟩) n c2] w fun r w' => ∃ b' cap', r = .returned (.tuple #[.slice (some ⟨b', 0, none⟩) n cap', .int .i64 0]) ∧
    w.heap.size ≤ b' ∧ b' < w'.heap.size ∧ n ≤ cap' ∧ (∀ i, i < n → w'.cell? ⟨b', i, none⟩ = some (.int .i64 (f i))) ∧ (∀ i, i < cap' → (w'.cell? ⟨b', i, none⟩).isSome = true ∧ w'.frozen? ⟨b', i, none⟩ = false) ∧
    w'.os = w.os ∧ w'.tape = w.tape ∧ w'.output = w.output ∧ w.heap.size ≤ w'.heap.size ∧ ∀ k, k < w.heap.size → w'.heap[k]? = w.heap[k]?
noncomputable def twoSt (e n : Nat) : St := (putB 256).f (varsBlk e 19 n) ((putB 257).f (varsBlk e 19 n) (st0 272))
noncomputable def twoArgs (n : Nat) : List V := [mkSu 256 0 n 0, mkSu 257 0 n 0]
noncomputable def meanAns (e n : Nat) (v : V) (T : St) : Bool := Bool.and (Nat.beq v.s.tag 99) (match v.vs with
  | [p, q] => Bool.and (Bool.and (Nat.beq p.s.tag 12) (Bool.and (Nat.beq p.s.b 0) (Nat.beq p.s.c n)))
    (Bool.and (Bool.and (Bool.and (Nat.ble 272 p.s.a) (Nat.blt p.s.a 32768)) (Bool.and (Nat.ble n ((getB p.s.a).f T).size) (Nat.beq ((getB p.s.a).f T).elem e)))
      (Bool.and (Bool.and (Nat.beq p.s.d 0) (allN n (fun i => isVar .i64 (Nat.add 1000 i) ((accC i).f ((getB p.s.a).f T).cs)))) (Bool.and (Nat.beq q.s.tag 19) (Nat.beq q.s.a 0))))
  | _ => false)
noncomputable def meanOk (e n : Nat) (r : Ans) : Bool := match r with | .ok v T => meanAns e n v T | .no => false
theorem twoSt_p (e n : Nat) : blkAt (twoSt e n) 256 = varsBlk e 19 n := blkAt_put_same _ 256 _
theorem twoSt_b (e n : Nat) : blkAt (twoSt e n) 257 = varsBlk e 19 n := (blkAt_put_ne _ _ (by decide) (by decide) (by decide)).trans (blkAt_put_same _ 257 _)
theorem twoSt_live (e n : Nat) {m : Nat} (hm : m < 32768) (hl : 0 < (blkAt (twoSt e n) m).size) : m = 256 ∨ m = 257 := by
  apply Classical.byContradiction
  intro h
  have e1 : blkAt (twoSt e n) m = blk0 := (blkAt_put_ne _ _ (by decide) hm (by omega)).trans ((blkAt_put_ne _ _ (by decide) hm (by omega)).trans (st0_dead 272 m))
  rw [e1] at hl
  exact absurd hl (Nat.lt_irrefl 0)
def twoNv (ρ : Nat → Int) (b1 b2 c1 c2 : Nat) : Nv := Nv.mk0 (fun n => if n = 256 then some b1 else if n = 257 then some b2 else none) (fun n => if n = 256 then c1 else c2) ρ
theorem twoSt_rep {e n b1 b2 c1 c2 : Nat} {w : World} (he : sizeT P e = 1) (hn : n ≤ 32768) (h1 : n ≤ c1) (h2 : n ≤ c2) (k1 : ∀ i, i < n → w.cell? ⟨b1, i, none⟩ = some (.int .i64 (ρ (1000 + i)))) (k2 : ∀ i, i < n → w.cell? ⟨b2, i, none⟩ = some (.int .i64 (ρ (1000 + i))))
    (a1 : ∀ i, i < c1 → (w.cell? ⟨b1, i, none⟩).isSome = true ∧ w.frozen? ⟨b1, i, none⟩ = false) (a2 : ∀ i, i < c2 → (w.cell? ⟨b2, i, none⟩).isSome = true ∧ w.frozen? ⟨b2, i, none⟩ = false) (hne : b1 ≠ b2) (l1 : b1 < w.heap.size) (l2 : b2 < w.heap.size) :
    Rep P (twoNv ρ b1 b2 c1 c2) (twoSt e n) w := by
  have s1 : (twoNv ρ b1 b2 c1 c2).σ 256 = some b1 := by show (if 256 = 256 then some b1 else if 256 = 257 then some b2 else none) = some b1; rw [if_pos rfl]
  have s2 : (twoNv ρ b1 b2 c1 c2).σ 257 = some b2 := by show (if 257 = 256 then some b1 else if 257 = 257 then some b2 else none) = some b2; rw [if_neg (by decide), if_pos rfl]
  have hσ : ∀ m c, (twoNv ρ b1 b2 c1 c2).σ m = some c → (m = 256 ∧ c = b1) ∨ (m = 257 ∧ c = b2) := fun m c h => by
    have h' : (if m = 256 then some b1 else if m = 257 then some b2 else none) = some c := h
    by_cases e : m = 256
    · rw [if_pos e] at h'; injection h' with h'; exact .inl ⟨e, h'.symm⟩
    · rw [if_neg e] at h'
      by_cases e2 : m = 257
      · rw [if_pos e2] at h'; injection h' with h'; exact .inr ⟨e2, h'.symm⟩
      · rw [if_neg e2] at h'; cases h'
  have q1 : (twoNv ρ b1 b2 c1 c2).κ 256 = c1 := by show (if 256 = 256 then c1 else c2) = c1; rw [if_pos rfl]
  have q2 : (twoNv ρ b1 b2 c1 c2).κ 257 = c2 := by show (if 257 = 256 then c1 else c2) = c2; rw [if_neg (by decide)]
  have cells : ∀ i, i < n → SR (twoNv ρ b1 b2 c1 c2) ((accC i).f (varsBlk e 19 n).cs) (.int .i64 (ρ (1000 + i))) := fun i hi => by
    have := accC_sets_in (fun i => (⟨24, Nat.add 1000 i, 19, 0, 0, [], []⟩ : Sc)) 0 n 0 cells0 (by omega) i (by omega)
    rw [if_pos (by omega)] at this
    show SR _ ((accC i).f (sets _ n 0 cells0)) _
    unfold sets
    rw [this]
    exact .var (η := twoNv ρ b1 b2 c1 c2) (s := ⟨24, Nat.add 1000 i, 19, 0, 0, [], []⟩) .i64 rfl rfl
  refine ⟨fun m hm hl => ?_, fun m k c hm hk hl1 hl2 e1 e2 => ?_, fun m hm => ?_, fun m c h => ?_, fun m c h1 h2 => ?_, ?_, trivial, fun _ h => h.elim⟩
  · rcases twoSt_live e n hm hl with rfl | rfl
    · rw [twoSt_p]
      refine ⟨b1, s1, hn, (by rw [q1]; show n ≤ c1 * sizeT P e; rw [he]; omega), fun i hi => ⟨_, k1 i hi, cells i hi⟩, ?_⟩
      rw [q1]
      show ∀ i, i < c1 * sizeT P e → _
      rw [he, Nat.mul_one]
      exact a1
    · rw [twoSt_b]
      refine ⟨b2, s2, hn, (by rw [q2]; show n ≤ c2 * sizeT P e; rw [he]; omega), fun i hi => ⟨_, k2 i hi, cells i hi⟩, ?_⟩
      rw [q2]
      show ∀ i, i < c2 * sizeT P e → _
      rw [he, Nat.mul_one]
      exact a2
  · rcases hσ m c e1 with ⟨rfl, q⟩ | ⟨rfl, q⟩ <;> rcases hσ k c e2 with ⟨rfl, r⟩ | ⟨rfl, r⟩
    · rfl
    · exact absurd (q.symm.trans r) hne
    · exact absurd (r.symm.trans q) hne
    · rfl
  · have hm' : 272 ≤ m := hm
    show (if m = 256 then some b1 else if m = 257 then some b2 else none) = none
    rw [if_neg (by omega), if_neg (by omega)]
  · rcases hσ m c h with ⟨-, rfl⟩ | ⟨-, rfl⟩
    · exact l1
    · exact l2
  · rcases hσ m c h2 with ⟨rfl, -⟩ | ⟨rfl, -⟩ <;> omega
  · show 256 ≤ 272
    omega
theorem mean_of_run {g e n : Nat} (hg : fnOk P g = true) (he : sizeT P e = 1) (hn0 : 1 ≤ n) (hn : n ≤ 256)
    (run : ∀ (f : Nat → Int), (∀ i, i < n → 0 ≤ f i ∧ f i ≤ 255) → ∃ (ρ : Nat → Int) (call : Caller), Cal P ρ call ∧ (∀ i, i < n → ρ (1000 + i) = f i) ∧ meanOk e n (call g (twoArgs n) (twoSt e n)) = true) : MeanLaw P g n := by
  intro w b1 b2 c1 c2 f h1 h2 hf k1 k2 a1 a2 hne l1 l2
  obtain ⟨ρ, call, hcal, hρf, hok⟩ := run f hf
  have hR : Rep P (twoNv ρ b1 b2 c1 c2) (twoSt e n) w := twoSt_rep he (by omega) h1 h2 (fun i hi => by rw [hρf i hi]; exact k1 i hi) (fun i hi => by rw [hρf i hi]; exact k2 i hi) a1 a2 hne l1 l2
  have s1 : (twoNv ρ b1 b2 c1 c2).σ 256 = some b1 := by show (if 256 = 256 then some b1 else if 256 = 257 then some b2 else none) = some b1; rw [if_pos rfl]
  have s2 : (twoNv ρ b1 b2 c1 c2).σ 257 = some b2 := by show (if 257 = 256 then some b1 else if 257 = 257 then some b2 else none) = some b2; rw [if_neg (by decide), if_pos rfl]
  have q1 : (twoNv ρ b1 b2 c1 c2).κ 256 = c1 := by show (if 256 = 256 then c1 else c2) = c1; rw [if_pos rfl]
  have q2 : (twoNv ρ b1 b2 c1 c2).κ 257 = c2 := by show (if 257 = 256 then c1 else c2) = c2; rw [if_neg (by decide)]
  have hv : VRL (twoNv ρ b1 b2 c1 c2) (twoArgs n) [.slice (some ⟨b1, 0, none⟩) n c1, .slice (some ⟨b2, 0, none⟩) n c2] := by
    have v1 := SR.su (η := twoNv ρ b1 b2 c1 c2) (s := ⟨12, 256, 0, n, 0, [], []⟩) b1 rfl s1 (by show 0 + n ≤ (twoNv ρ b1 b2 c1 c2).κ 256; rw [q1]; omega)
    have v2 := SR.su (η := twoNv ρ b1 b2 c1 c2) (s := ⟨12, 257, 0, n, 0, [], []⟩) b2 rfl s2 (by show 0 + n ≤ (twoNv ρ b1 b2 c1 c2).κ 257; rw [q2]; omega)
    simp only [q1, Nat.sub_zero] at v1
    simp only [q2, Nat.sub_zero] at v2
    exact .cons (.sc v1) (.cons (.sc v2) .nil)
  cases hr : call g (twoArgs n) (twoSt e n) with
  | no => rw [hr] at hok; cases hok
  | ok V T =>
    rw [hr] at hok
    obtain ⟨k1, k2⟩ := and_ok (show Bool.and _ _ = true from hok)
    obtain ⟨-, hc⟩ := hcal.ok g _ _ V T _ _ w rfl hv hR hr
    rcases hc with ⟨-, hc⟩ | ⟨z, w', hc, -⟩
    · refine hc.mono ?_
      rintro r w' ⟨z, rfl, ζ, hm, hz⟩
      obtain ⟨xs, rfl, hxs⟩ := hz.asTup (beq_ok k1)
      obtain ⟨vs, hvs⟩ : ∃ vs, vs = V.vs := ⟨_, rfl⟩
      rw [← hvs] at k2 hxs
      match vs, k2, hxs with
      | [p, q], k2, hxs =>
        obtain _ | ⟨hp, _ | ⟨hq, _ | _⟩⟩ := hxs
        obtain ⟨k3, k4⟩ := and_ok k2
        obtain ⟨k5, k6⟩ := and_ok k3
        obtain ⟨k7, k8⟩ := and_ok k6
        obtain ⟨j1, j2⟩ := and_ok k4
        obtain ⟨j3, j4⟩ := and_ok j1
        obtain ⟨j5, j6⟩ := and_ok j3
        obtain ⟨j7, j8⟩ := and_ok j4
        obtain ⟨i1, i2⟩ := and_ok j2
        obtain ⟨i5, i6⟩ := and_ok i1
        obtain ⟨i3, i4⟩ := and_ok i2
        obtain ⟨b', hb', rfl, hle⟩ := (hp.asSc (by rw [beq_ok k5]; omega)).asSu (beq_ok k5)
        obtain ⟨rfl, -⟩ := (hq.asSc (by rw [beq_ok i3]; omega)).asInt (k := .i64) (beq_ok i3)
        have hsz : n ≤ (blkAt T p.s.a).size := ble_ok j7
        rw [beq_ok k7, beq_ok k8, beq_ok i4, beq_ok i5]
        rw [beq_ok k8, beq_ok i5] at hle
        have hlow := hm.rep.low _ b' hb'
        have hka : p.s.a < 32768 := blt_ok j6
        have hl0 : 0 < (blkAt T p.s.a).size := by omega
        obtain ⟨b3, hl⟩ := hm.rep.live p.s.a hka hl0
        obtain rfl : b' = b3 := by have := hl.σ; rw [hb'] at this; injection this
        have hnew : w.heap.size ≤ b' := by
          rcases hm.ext.live p.s.a b' hka hl0 hl.σ with h1 | ⟨m, h1, h2, h3, -⟩
          · exact h1
          · have h6 := h1 (ble_ok j5)
            rcases twoSt_live e n h2 h3 with h5 | h5 <;> omega
        have hel : (blkAt T p.s.a).elem = e := beq_ok j8
        have hal := hl.all
        rw [hel, he, Nat.mul_one] at hal
        have hρ : ζ.ρ = ρ := hm.ext.le.ρ
        refine ⟨b', ζ.κ p.s.a, ?_, hnew, hlow, by omega, fun i hi => ?_, hal, hm.fr.os, hm.fr.tape, hm.fr.output, hm.fr.size, fun k hk => hm.fr.block k hk fun n' n0 n1 n2 => ?_⟩
        · rfl
        · obtain ⟨y, q1, q2⟩ := hl.cell i (by omega)
          obtain ⟨a1, a2⟩ := and_ok (allN_ok i6 i hi)
          obtain ⟨a3, a4⟩ := and_ok a2
          have e1 := q2.asVar (beq_ok a1) (beq_ok a4)
          have e2 : ((accC i).f (blkAt T p.s.a).cs).a = 1000 + i := beq_ok a3
          rw [q1, e1, e2, hρ, hρf i hi]
        · rcases twoSt_live e n n1 n2 with h | h <;> omega
    · rw [fnOk_enter hg] at hc; cases hc
/-- A sample as an int: a plain one, or a variable from lo on. -/
noncomputable def i64ok (lo n : Nat) (s : Sc) : Bool := Bool.or (Bool.and (Nat.beq s.tag 19) (Nat.blt s.a 256)) (Bool.and (Bool.and (Nat.beq s.tag 24) (Nat.beq s.b 19)) (Bool.and (Nat.ble lo s.a) (Nat.blt s.a (Nat.add lo n))))
noncomputable def reI (s : Sc) : Sc := Bool.rec (motive := fun _ => Sc) ⟨19, s.a, 0, 0, 0, [], []⟩ ⟨24, s.a, 19, 0, 0, [], []⟩ (Nat.beq s.tag 24)
theorem i64_val {η : Nv} {lo n : Nat} {s : Sc} {v : Value} (hJ : ∀ i, lo ≤ i → i < lo + n → 0 ≤ ρ i ∧ ρ i ≤ 255) (hρ : η.ρ = ρ) (h : i64ok lo n s = true) (hs : SR η s v) : ∃ m : Int, v = .int .i64 m ∧ 0 ≤ m ∧ m ≤ 255 ∧ (m = if s.tag = 24 then ρ s.a else (s.a : Int)) ∧ ∀ ζ : Nv, ζ.ρ = ρ → SR ζ (reI s) (.int .i64 m) := by
  rcases or_ok h with h | h
  · obtain ⟨h1, h2⟩ := and_ok h
    obtain ⟨e, hl⟩ := hs.asInt (k := .i64) (beq_ok h1)
    have ha : s.a < 256 := blt_ok h2
    have h9 : Nat.beq s.tag 24 = false := by rw [beq_ok h1]; rfl
    have q : ∀ ζ : Nv, SR ζ ⟨19, s.a, 0, 0, 0, [], []⟩ (.int .i64 (IntKind.i64.wrap ((s.a : Nat) : Int))) := fun ζ => .int (s := ⟨19, s.a, 0, 0, 0, [], []⟩) .i64 rfl (Nat.lt_trans ha (by decide))
    rw [wrap_nat .i64 (Nat.lt_trans ha (by decide)), if_pos (.inr (Nat.lt_trans ha (by decide)))] at e
    refine ⟨s.a, e, by omega, by omega, by rw [if_neg (by rw [beq_ok h1]; decide)], fun ζ _ => ?_⟩
    unfold reI
    rw [h9]
    have q := q ζ
    rw [wrap_nat .i64 (Nat.lt_trans ha (by decide)), if_pos (.inr (Nat.lt_trans ha (by decide)))] at q
    exact q
  · obtain ⟨h1, h2⟩ := and_ok h
    obtain ⟨h3, h4⟩ := and_ok h1
    obtain ⟨h5, h6⟩ := and_ok h2
    have e := hs.asVar (k := .i64) (beq_ok h3) (beq_ok h4)
    rw [hρ] at e
    obtain ⟨q0, q1⟩ := hJ s.a (ble_ok h5) (blt_ok h6)
    refine ⟨ρ s.a, e, q0, q1, by rw [if_pos (beq_ok h3)], fun ζ hz => ?_⟩
    unfold reI
    rw [h3, ← hz]
    exact .var (s := ⟨24, s.a, 19, 0, 0, [], []⟩) .i64 rfl rfl
noncomputable def sameSc (s t : Sc) : Bool := Bool.and (Nat.beq s.tag t.tag) (Nat.beq s.a t.a)
noncomputable def meanGo (e lo cnt n : Nat) (S : St) (a b : Nat) : Ans :=
  chk (Bool.and (Bool.and (Bool.and (Nat.blt a 32768) (Nat.blt b 32768)) (Bool.rec (motive := fun _ => Bool) true false (Nat.beq a b))) (Bool.and (Bool.and (Bool.and (Nat.ble n ((getB a).f S).size) (Nat.beq ((getB a).f S).elem e)) (Bool.and (Nat.ble n ((getB b).f S).size) (Nat.beq ((getB b).f S).elem e)))
      (allN n (fun i => Bool.and (Bool.and (i64ok lo cnt (cellS S a i)) (i64ok lo cnt (cellS S b i))) (sameSc (cellS S a i) (cellS S b i))))))
    (newB S n e (sets (fun i => reI (cellS S a i)) n 0 cells0) (fun c S => .ok (mkTup [mkSu c 0 n 0, i0V]) S))
noncomputable def meanC (e lo cnt : Nat) (L : List Nat) : FnC := ⟨fun _ vs S => chk (Nat.beq vs.length 2) (nthV vs 0 (fun p => nthV vs 1 (fun q =>
  chk (Bool.and (Bool.and (Bool.and (Nat.beq p.s.tag 12) (Nat.beq q.s.tag 12)) (Bool.and (Nat.beq p.s.b 0) (Nat.beq q.s.b 0))) (Bool.and (Bool.and (Nat.beq p.s.d 0) (Nat.beq q.s.d 0)) (Bool.and (Nat.beq p.s.c q.s.c) (memN p.s.c L))))
    (force p.s.c (fun n => meanGo e lo cnt n S p.s.a q.s.a) .no))))⟩
theorem mean_one {g e lo cnt : Nat} {L : List Nat} (hE : ∀ n ∈ L, 1 ≤ n ∧ MeanLaw P g n) (hg : fnOk P g = true) (hs : sizeT P e = 1) (hJ : ∀ i, lo ≤ i → i < lo + cnt → 0 ≤ ρ i ∧ ρ i ≤ 255) : OneOk P ρ g (meanC e lo cnt L) := by
  intro call hcal vs S v S' η args w hρ hv hR h
  obtain ⟨hlen, h⟩ := chk_ok h
  match vs, hlen, h, hv with
  | [p, q], _, h, hv =>
    obtain _ | ⟨hp, _ | ⟨hq, _ | _⟩⟩ := hv
    obtain ⟨h1, h2⟩ := chk_ok (show chk (Bool.and (Bool.and (Bool.and (Nat.beq p.s.tag 12) (Nat.beq q.s.tag 12)) (Bool.and (Nat.beq p.s.b 0) (Nat.beq q.s.b 0))) (Bool.and (Bool.and (Nat.beq p.s.d 0) (Nat.beq q.s.d 0)) (Bool.and (Nat.beq p.s.c q.s.c) (memN p.s.c L)))) _ = .ok v S' from h)
    rw [force_eq] at h2
    obtain ⟨a1, a2⟩ := and_ok h1
    obtain ⟨a3, a4⟩ := and_ok a1
    obtain ⟨a5, a6⟩ := and_ok a3
    obtain ⟨a7, a8⟩ := and_ok a4
    obtain ⟨a9, a10⟩ := and_ok a2
    obtain ⟨a11, a12⟩ := and_ok a9
    obtain ⟨a13, a14⟩ := and_ok a10
    obtain ⟨hn0, hE⟩ := hE _ (memN_ok a14)
    unfold meanGo at h2
    obtain ⟨b1, b2⟩ := chk_ok h2
    obtain ⟨b3, b4⟩ := and_ok b1
    obtain ⟨b5, b6⟩ := and_ok b3
    obtain ⟨b7, b8⟩ := and_ok b5
    obtain ⟨b9, b10⟩ := and_ok b4
    obtain ⟨b11, b12⟩ := and_ok b9
    obtain ⟨b13, b14⟩ := and_ok b11
    obtain ⟨b15, b16⟩ := and_ok b12
    obtain ⟨n1, n2, n3, -⟩ := newB_ok b2
    cases n3
    obtain ⟨x1, y1, rfl, z1⟩ := (hp.asSc (by rw [beq_ok a5]; omega)).asSu (beq_ok a5)
    obtain ⟨x2, y2, rfl, z2⟩ := (hq.asSc (by rw [beq_ok a6]; omega)).asSu (beq_ok a6)
    rw [beq_ok a7, beq_ok a8, ← beq_ok a13, beq_ok a11, beq_ok a12]
    rw [beq_ok a11] at z1
    rw [beq_ok a12, ← beq_ok a13] at z2
    obtain ⟨n, hn⟩ : ∃ n, n = p.s.c := ⟨_, rfl⟩
    rw [← hn] at hE hn0 z1 z2 n1 b10 b13 b15 ⊢
    have sz1 : n ≤ (blkAt S p.s.a).size := ble_ok b13
    have sz2 : n ≤ (blkAt S q.s.a).size := ble_ok b15
    obtain ⟨x1', hl1⟩ := hR.live p.s.a (blt_ok b7) (by omega)
    obtain rfl : x1 = x1' := by have := hl1.σ; rw [y1] at this; injection this
    obtain ⟨x2', hl2⟩ := hR.live q.s.a (blt_ok b8) (by omega)
    obtain rfl : x2 = x2' := by have := hl2.σ; rw [y2] at this; injection this
    have hne : x1 ≠ x2 := fun e => by
      subst e
      have := hR.inj p.s.a q.s.a x1 (blt_ok b7) (blt_ok b8) (by omega) (by omega) hl1.σ hl2.σ
      rw [this, Nat.beq_refl] at b6
      cases b6
    obtain ⟨f, hf⟩ : ∃ f : Nat → Int, ∀ i, i < n → w.cell? ⟨x1, i, none⟩ = some (.int .i64 (f i)) ∧ w.cell? ⟨x2, i, none⟩ = some (.int .i64 (f i)) ∧ 0 ≤ f i ∧ f i ≤ 255 ∧ ∀ ζ : Nv, ζ.ρ = ρ → SR ζ (reI (cellS S p.s.a i)) (.int .i64 (f i)) := by
      have key : ∀ i, ∃ m : Int, i < n → w.cell? ⟨x1, i, none⟩ = some (.int .i64 m) ∧ w.cell? ⟨x2, i, none⟩ = some (.int .i64 m) ∧ 0 ≤ m ∧ m ≤ 255 ∧ ∀ ζ : Nv, ζ.ρ = ρ → SR ζ (reI (cellS S p.s.a i)) (.int .i64 m) := fun i => by
        by_cases hi : i < n
        · obtain ⟨u1, e1, r1⟩ := hl1.cell i (by omega)
          obtain ⟨u2, e2, r2⟩ := hl2.cell i (by omega)
          obtain ⟨t1, t2⟩ := and_ok (allN_ok b10 i hi)
          obtain ⟨t3, t4⟩ := and_ok t1
          obtain ⟨t5, t6⟩ := and_ok t2
          obtain ⟨m1, rfl, m2, m3, m4, m5⟩ := i64_val hJ hρ t3 r1
          obtain ⟨o1, rfl, -, -, o4, -⟩ := i64_val hJ hρ t4 r2
          have em : o1 = m1 := by
            rw [m4, o4]
            have e5 : (cellS S p.s.a i).tag = (cellS S q.s.a i).tag := beq_ok t5
            have e6 : (cellS S p.s.a i).a = (cellS S q.s.a i).a := beq_ok t6
            rw [e5, e6]
          subst em
          exact ⟨_, fun _ => ⟨e1, e2, m2, m3, m5⟩⟩
        · exact ⟨0, fun h => absurd h hi⟩
      exact ⟨fun i => (key i).choose, fun i hi => (key i).choose_spec hi⟩
    have al1 := hl1.all
    have al2 := hl2.all
    rw [show (blkAt S p.s.a).elem = e from beq_ok b14, hs, Nat.mul_one] at al1
    rw [show (blkAt S q.s.a).elem = e from beq_ok b16, hs, Nat.mul_one] at al2
    refine ⟨rfl, .inl ⟨fnOk_enter hg _ w, (hE w x1 x2 (η.κ p.s.a) (η.κ q.s.a) f (by omega) (by omega) (fun i hi => ⟨(hf i hi).2.2.1, (hf i hi).2.2.2.1⟩) (fun i hi => (hf i hi).1) (fun i hi => (hf i hi).2.1) al1 al2 hne (hR.low _ x1 y1) (hR.low _ x2 y2)).mono ?_⟩⟩
    rintro r w' ⟨nb, ncap, rfl, f1, f2, f3, f4, f5, f6, f7, f8, f9, f10⟩
    have hat : (η.set S.next nb ncap).σ S.next = some nb := by simp [Nv.set]
    have hatk : (η.set S.next nb ncap).κ S.next = ncap := by simp [Nv.set]
    have hρ' : (η.set S.next nb ncap).ρ = ρ := hρ
    have hl3 : Live P (η.set S.next nb ncap) ⟨n, e, sets (fun i => reI (cellS S p.s.a i)) n 0 cells0⟩ S.next nb w' := by
      refine ⟨hat, n1, by rw [hatk, hs, Nat.mul_one]; exact f3, fun i hi => ⟨_, f4 i hi, ?_⟩, by rw [hatk, hs, Nat.mul_one]; exact f5⟩
      have := accC_sets_in (fun i => reI (cellS S p.s.a i)) 0 n 0 cells0 (by omega) i (by have : i < n := hi; omega)
      rw [if_pos (by have : i < n := hi; omega)] at this
      show SR _ ((accC i).f (sets _ _ 0 cells0)) _
      unfold sets
      rw [this]
      exact (hf i hi).2.2.2.2 _ hρ'
    refine ⟨_, rfl, _, move_adopt hR f6 f7 f8 f9 f10 n2 f1 f2 hl3, .tup [_, _] rfl (.cons (.sc ?_) (.cons (.sc ?_) .nil))⟩
    · have := SR.su (η := η.set S.next nb ncap) (s := ⟨12, S.next, 0, n, 0, [], []⟩) nb rfl hat (by rw [hatk]; simpa using f3)
      simp only [hatk, Nat.sub_zero] at this
      exact this
    · exact .int (s := ⟨19, 0, 0, 0, 0, [], []⟩) .i64 rfl (by decide)
end Go.Exec

namespace Go.Exec
open Go
variable {P : Program} {N : Nat} {ρ : Nat → Int} {H : Hy}
/-- What a shift of a variable gives, as a function. -/
def ShAt (P : Program) (ρ : Nat → Int) (d : BinOp → IntKind → Sc → Nat → Option Sc) : Prop :=
  ∀ op k j s1 c s (η : Nv) w n, η.ρ = ρ → d op k s1 c = some s → c ≤ 127 → SR η s1 (.int k n) → (op = .shl ∨ op = .shr) → ∃ y, (Op.shift op k n j (c : Int)).run P w = .ok y w ∧ SR η s y
noncomputable def hyF (f : BinOp → IntKind → Sc → Sc → Option Sc) (c : IntKind → IntKind → Sc → Option Sc) (d : BinOp → IntKind → Sc → Nat → Option Sc) : Hy where
  bin := (hyU f c).bin
  sh := fun op k s n => Option.rec (motive := fun _ => Option Sc) ((hyU f c).sh op k s n) some (d op k s n)
  conv := (hyU f c).conv
  neg := (hyU f c).neg
theorem hyF_ok {f : BinOp → IntKind → Sc → Sc → Option Sc} {c : IntKind → IntKind → Sc → Option Sc} {d : BinOp → IntKind → Sc → Nat → Option Sc} (hf : BinAt P ρ f) (hc : ConvAt ρ c) (hd : ShAt P ρ d) : HyAt P ρ (hyF f c d) where
  bin := (hyU_ok hf hc).bin
  sh := by
    intro op k j s1 c0 s η w n hρ h hc1 h1 hop
    cases hs : d op k s1 c0 with
    | none =>
      have e : (hyU f c).sh op k s1 c0 = some s := by rw [← h]; simp only [hyF, hs]
      exact (hyU_ok hf hc).sh op k j s1 c0 s η w n hρ e hc1 h1 hop
    | some r =>
      have e : some r = some s := by rw [← h]; simp only [hyF, hs]
      injection e with e
      subst e
      exact hd op k j s1 c0 _ η w n hρ hs hc1 h1 hop
  conv := (hyU_ok (P := P) hf hc).conv
  neg := (hyU_ok (P := P) hf hc).neg
/-- A variable of 64 bits with a sign, from lo on, cnt of them. -/
noncomputable def vRg (lo cnt : Nat) (s : Sc) : Bool := Bool.and (Bool.and (Nat.beq s.tag 24) (Nat.beq s.b 19)) (Bool.and (Nat.ble lo s.a) (Nat.blt s.a (Nat.add lo cnt)))
noncomputable def lit1 (c : Nat) (s : Sc) : Bool := Bool.and (Nat.beq s.tag 19) (Nat.beq s.a c)
theorem vRg_ok {lo cnt : Nat} {s : Sc} {η : Nv} {n : Int} (h : vRg lo cnt s = true) (hs : SR η s (.int .i64 n)) : n = η.ρ s.a ∧ lo ≤ s.a ∧ s.a < lo + cnt := by
  obtain ⟨h1, h2⟩ := and_ok h
  obtain ⟨h3, h4⟩ := and_ok h1
  obtain ⟨h5, h6⟩ := and_ok h2
  have e := hs.asVar (k := .i64) (beq_ok h3) (beq_ok h4)
  injection e with _ e
  exact ⟨e, ble_ok h5, blt_ok h6⟩
theorem lit1_ok {c : Nat} {s : Sc} {η : Nv} {n : Int} (h : lit1 c s = true) (hs : SR η s (.int .i64 n)) : n = IntKind.i64.wrap c := by
  obtain ⟨h1, h2⟩ := and_ok h
  obtain ⟨e, -⟩ := hs.asInt (k := .i64) (beq_ok h1)
  injection e with _ e
  rw [e, beq_ok h2]
noncomputable def opIs (op0 op : BinOp) (k : IntKind) : Bool := Bool.and (Bool.and (Nat.beq (opN op0) (opN op)) (Nat.blt (opN op) 99)) (isI64 k)
theorem opIs_ok {op0 op : BinOp} {k : IntKind} (h : opIs op0 op k = true) : op0 = op ∧ k = .i64 := by
  obtain ⟨h1, h2⟩ := and_ok h
  obtain ⟨h3, h4⟩ := and_ok h1
  exact ⟨opN_inj (beq_ok h3) (blt_ok h4), by cases k <;> first | rfl | cases h2⟩
/-- A plain number and a variable of a range. -/
noncomputable def litF (op0 : BinOp) (c lo cnt : Nat) (res : Nat → Sc) : BinOp → IntKind → Sc → Sc → Option Sc := fun op k s t => Bool.rec (motive := fun _ => Option Sc) none (some (res t.a)) (Bool.and (opIs op0 op k) (Bool.and (lit1 c s) (vRg lo cnt t)))
theorem litF_ok {op0 : BinOp} {c lo cnt : Nat} {res : Nat → Sc} (h : ∀ j, lo ≤ j → j < lo + cnt → ∃ v, opV op0 (IntKind.i64.wrap c) (ρ j) = some v ∧ ∀ η : Nv, η.ρ = ρ → SR η (res j) v) : BinAt P ρ (litF op0 c lo cnt res) := by
  intro op k s1 s2 s η t w n m hρ hs h1 h2 _ _
  cases hb : Bool.and (opIs op0 op k) (Bool.and (lit1 c s1) (vRg lo cnt s2)) with
  | false => simp only [litF, hb] at hs; cases hs
  | true =>
    simp only [litF, hb] at hs
    injection hs with hs
    subst hs
    obtain ⟨h3, h4⟩ := and_ok hb
    obtain ⟨h5, h6⟩ := and_ok h4
    obtain ⟨rfl, rfl⟩ := opIs_ok h3
    obtain ⟨e2, r1, r2⟩ := vRg_ok h6 h2
    obtain ⟨v, hv, hsr⟩ := h _ r1 r2
    rw [lit1_ok h5 h1, e2, hρ]
    exact ⟨v, opV_run hv t w, hsr η hρ⟩
/-- A variable of a range and a plain number. -/
noncomputable def rtF (op0 : BinOp) (c lo cnt : Nat) (res : Nat → Sc) : BinOp → IntKind → Sc → Sc → Option Sc := fun op k s t => Bool.rec (motive := fun _ => Option Sc) none (some (res s.a)) (Bool.and (opIs op0 op k) (Bool.and (lit1 c t) (vRg lo cnt s)))
theorem rtF_ok {op0 : BinOp} {c lo cnt : Nat} {res : Nat → Sc} (h : ∀ j, lo ≤ j → j < lo + cnt → ∃ v, opV op0 (ρ j) (IntKind.i64.wrap c) = some v ∧ ∀ η : Nv, η.ρ = ρ → SR η (res j) v) : BinAt P ρ (rtF op0 c lo cnt res) := by
  intro op k s1 s2 s η t w n m hρ hs h1 h2 _ _
  cases hb : Bool.and (opIs op0 op k) (Bool.and (lit1 c s2) (vRg lo cnt s1)) with
  | false => simp only [rtF, hb] at hs; cases hs
  | true =>
    simp only [rtF, hb] at hs
    injection hs with hs
    subst hs
    obtain ⟨h3, h4⟩ := and_ok hb
    obtain ⟨h5, h6⟩ := and_ok h4
    obtain ⟨rfl, rfl⟩ := opIs_ok h3
    obtain ⟨e2, r1, r2⟩ := vRg_ok h6 h1
    obtain ⟨v, hv, hsr⟩ := h _ r1 r2
    rw [lit1_ok h5 h2, e2, hρ]
    exact ⟨v, opV_run hv t w, hsr η hρ⟩
/-- A variable of a range with itself. -/
noncomputable def selfF (op0 : BinOp) (lo cnt : Nat) (res : Nat → Sc) : BinOp → IntKind → Sc → Sc → Option Sc := fun op k s t => Bool.rec (motive := fun _ => Option Sc) none (some (res s.a)) (Bool.and (opIs op0 op k) (Bool.and (vRg lo cnt s) (Bool.and (vRg lo cnt t) (Nat.beq s.a t.a))))
theorem selfF_ok {op0 : BinOp} {lo cnt : Nat} {res : Nat → Sc} (h : ∀ j, lo ≤ j → j < lo + cnt → ∃ v, opV op0 (ρ j) (ρ j) = some v ∧ ∀ η : Nv, η.ρ = ρ → SR η (res j) v) : BinAt P ρ (selfF op0 lo cnt res) := by
  intro op k s1 s2 s η t w n m hρ hs h1 h2 _ _
  cases hb : Bool.and (opIs op0 op k) (Bool.and (vRg lo cnt s1) (Bool.and (vRg lo cnt s2) (Nat.beq s1.a s2.a))) with
  | false => simp only [selfF, hb] at hs; cases hs
  | true =>
    simp only [selfF, hb] at hs
    injection hs with hs
    subst hs
    obtain ⟨h3, h4⟩ := and_ok hb
    obtain ⟨h5, h6⟩ := and_ok h4
    obtain ⟨h7, h8⟩ := and_ok h6
    obtain ⟨rfl, rfl⟩ := opIs_ok h3
    obtain ⟨e1, r1, r2⟩ := vRg_ok h5 h1
    obtain ⟨e2, -, -⟩ := vRg_ok h7 h2
    obtain ⟨v, hv, hsr⟩ := h _ r1 r2
    rw [e2, ← beq_ok h8, e1, hρ]
    exact ⟨v, opV_run hv t w, hsr η hρ⟩
/-- A plain number below cnt and one variable. -/
noncomputable def numF (op0 : BinOp) (cnt q : Nat) (res : Nat → Sc) : BinOp → IntKind → Sc → Sc → Option Sc := fun op k s t => Bool.rec (motive := fun _ => Option Sc) none (some (res s.a)) (Bool.and (opIs op0 op k) (Bool.and (Bool.and (Nat.beq s.tag 19) (Nat.blt s.a cnt)) (vRg q 1 t)))
theorem numF_ok {op0 : BinOp} {cnt q : Nat} {res : Nat → Sc} (hq : cnt ≤ 1048576) (h : ∀ j : Nat, j < cnt → ∃ v, opV op0 (j : Int) (ρ q) = some v ∧ ∀ η : Nv, η.ρ = ρ → SR η (res j) v) : BinAt P ρ (numF op0 cnt q res) := by
  intro op k s1 s2 s η t w n m hρ hs h1 h2 _ _
  cases hb : Bool.and (opIs op0 op k) (Bool.and (Bool.and (Nat.beq s1.tag 19) (Nat.blt s1.a cnt)) (vRg q 1 s2)) with
  | false => simp only [numF, hb] at hs; cases hs
  | true =>
    simp only [numF, hb] at hs
    injection hs with hs
    subst hs
    obtain ⟨h3, h4⟩ := and_ok hb
    obtain ⟨h5, h6⟩ := and_ok h4
    obtain ⟨h7, h8⟩ := and_ok h5
    obtain ⟨rfl, rfl⟩ := opIs_ok h3
    obtain ⟨e2, r1, r2⟩ := vRg_ok h6 h2
    have hlt : s1.a < cnt := blt_ok h8
    obtain ⟨e1, -⟩ := h1.asInt (k := .i64) (beq_ok h7)
    injection e1 with _ e1
    rw [wrap_nat .i64 (Nat.lt_of_lt_of_le hlt (Nat.le_trans hq (by decide))), if_pos (.inr (Nat.lt_of_lt_of_le hlt (Nat.le_trans hq (by decide))))] at e1
    obtain ⟨v, hv, hsr⟩ := h _ hlt
    rw [e1, e2, hρ, show s2.a = q by omega]
    exact ⟨v, opV_run hv t w, hsr η hρ⟩
/-- Conversions of a range of variables that keep the number. -/
noncomputable def cvG (k1 k2 : IntKind) (lo cnt : Nat) : IntKind → IntKind → Sc → Option Sc := fun k k' s => Bool.rec (motive := fun _ => Option Sc) none (some ⟨24, s.a, kcode k2, 0, 0, [], []⟩)
  (Bool.and (Bool.and (Nat.beq (kcode k1) (kcode k)) (Nat.beq (kcode k2) (kcode k'))) (Bool.and (Bool.and (Nat.beq s.tag 24) (Nat.beq s.b (kcode k1))) (Bool.and (Nat.ble lo s.a) (Nat.blt s.a (Nat.add lo cnt)))))
theorem cvG_ok {k1 k2 : IntKind} {lo cnt : Nat} (h : ∀ j, lo ≤ j → j < lo + cnt → k2.wrap (ρ j) = ρ j) : ConvAt ρ (cvG k1 k2 lo cnt) := by
  intro k k' s1 s η n hρ hs h1
  cases hb : Bool.and (Bool.and (Nat.beq (kcode k1) (kcode k)) (Nat.beq (kcode k2) (kcode k'))) (Bool.and (Bool.and (Nat.beq s1.tag 24) (Nat.beq s1.b (kcode k1))) (Bool.and (Nat.ble lo s1.a) (Nat.blt s1.a (Nat.add lo cnt)))) with
  | false => simp only [cvG, hb] at hs; cases hs
  | true =>
    simp only [cvG, hb] at hs
    injection hs with hs
    subst hs
    obtain ⟨a1, a2⟩ := and_ok hb
    obtain ⟨a3, a4⟩ := and_ok a1
    obtain ⟨a5, a6⟩ := and_ok a2
    obtain ⟨a7, a8⟩ := and_ok a5
    obtain ⟨a9, a10⟩ := and_ok a6
    obtain rfl := kcode_inj (beq_ok a3)
    obtain rfl := kcode_inj (beq_ok a4)
    have e := h1.asVar (k := k1) (beq_ok a7) (beq_ok a8)
    injection e with _ e
    rw [e, hρ, h _ (ble_ok a9) (blt_ok a10), ← hρ]
    exact .var (s := ⟨24, s1.a, kcode k2, 0, 0, [], []⟩) k2 rfl rfl
noncomputable def orC (f g : IntKind → IntKind → Sc → Option Sc) : IntKind → IntKind → Sc → Option Sc := fun k k' s => Option.rec (motive := fun _ => Option Sc) (g k k' s) some (f k k' s)
theorem orC_ok {f g : IntKind → IntKind → Sc → Option Sc} (hf : ConvAt ρ f) (hg : ConvAt ρ g) : ConvAt ρ (orC f g) := by
  intro k k' s1 s η n hρ hs h1
  cases h : f k k' s1 with
  | some r => simp only [orC, h] at hs; injection hs with hs; subst hs; exact hf k k' s1 _ η n hρ h h1
  | none => simp only [orC, h] at hs; exact hg k k' s1 _ η n hρ hs h1
theorem noC_ok : ConvAt ρ (fun _ _ _ => none) := by intro k k' s1 s η n _ hs; cases hs
theorem noB_ok : BinAt P ρ (fun _ _ _ _ => none) := by intro op k s1 s2 s η t w n m _ hs; cases hs
theorem noS_ok : ShAt P ρ (fun _ _ _ _ => none) := by intro op k j s1 c s η w n _ hs; cases hs
/-- A shift to the right of a range of variables. -/
noncomputable def shG (c lo cnt : Nat) (res : Nat → Sc) : BinOp → IntKind → Sc → Nat → Option Sc := fun op k s n => Bool.rec (motive := fun _ => Option Sc) none (some (res s.a)) (Bool.and (Bool.and (shlB op false) (isI64 k)) (Bool.and (vRg lo cnt s) (Nat.beq c n)))
theorem shG_ok {c lo cnt : Nat} {res : Nat → Sc} (h : ∀ j, lo ≤ j → j < lo + cnt → ∀ η : Nv, η.ρ = ρ → SR η (res j) (.int .i64 ((ρ j).fdiv (2 ^ min c 64)))) : ShAt P ρ (shG c lo cnt res) := by
  intro op k j s1 c0 s η w n hρ hs hc1 h1 hop
  cases hb : Bool.and (Bool.and (shlB op false) (isI64 k)) (Bool.and (vRg lo cnt s1) (Nat.beq c c0)) with
  | false => simp only [shG, hb] at hs; cases hs
  | true =>
    simp only [shG, hb] at hs
    injection hs with hs
    subst hs
    obtain ⟨a1, a2⟩ := and_ok hb
    obtain ⟨a3, a4⟩ := and_ok a1
    obtain ⟨a5, a6⟩ := and_ok a2
    have hk : k = .i64 := by cases k <;> first | rfl | cases a4
    subst hk
    obtain ⟨e, r1, r2⟩ := vRg_ok a5 h1
    have hr := h _ r1 r2 η hρ
    rw [e, hρ, ← beq_ok a6]
    rcases hop with rfl | rfl
    · cases a3
    · exact ⟨_, by unfold Op.shift; rw [if_neg (by omega)]; rfl, by rw [Int.toNat_natCast]; exact hr⟩
end Go.Exec
