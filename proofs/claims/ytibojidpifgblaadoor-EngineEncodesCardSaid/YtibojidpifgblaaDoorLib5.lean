/-
  More of my own small library: a long slice literal of ints in one step.
-/
import Derived.Test.YtibojidpifgblaaDoorLib4
import Derived.Laws.Build
namespace Go.Proofs.YtibojidpifgblaaDoor
open Go.RowKit

theorem wpList_literal {P : Program} {w : World} {ops : Array Oper} {rest : List Oper} {o : Oper} {a : Act} {Q : Exit → Act → World → Prop} (hgd : o.guard = none) (t : TypeId) (len : Nat) (parts : Array (Nat × Operand))
    (ho : o.op = .buildSlice t len parts) {e : TypeId} {z : Value} {bytes : Nat} (E : Elt P t e z 1 bytes) (hz1 : z.cells = #[z]) (cells : Array Value) (h0 : 0 < len) (hlen : len ≤ 16777216)
    (hfill : Instr.fill (fun i => some (i * 1, 1)) ((Array.range (len * 1)).map (#[z][· % 1]!)) (parts.map fun (i, x) => (i, a.eval x)).toList = some cells)
    (h : wpList P ops Q rest (a.put o.dst (.slice (some ⟨w.heap.size, 0, none⟩) len len)) (w.alloc (.cells cells e))) :
    wpList P ops Q (o :: rest) a w := by
  obtain ⟨i, hi, hz, hs, hbt⟩ := info_parts E.hi
  refine wpList_plain hgd fun K hK => ?_
  unfold Oper.wp execOp
  have hsz : z.cells.size = 1 := E.zs
  have hrun : (Instr.buildSlice t len (parts.map fun (i, x) => (i, a.eval x))).run P w = .ok (.slice (some ⟨w.heap.size, 0, none⟩) len len) (w.alloc (.cells cells e)) := by
    have h1 : ¬ (len > 16777216) := by omega
    have h2 : ¬ (len = 0) := by omega
    have hfill' : Instr.fill (fun i => some (i, 1)) ((Array.range len).map (#[z][· % 1]!)) (parts.map fun (i, x) => (i, a.eval x)).toList = some cells := by simpa using hfill
    simp [Instr.buildSlice, run_underlying E.ht, sizeOf, typeInfo, hi, hs, h1, h2, zeroValue, hz, hz1] at hfill' ⊢
    simp [hfill', newRow]
  simp only [ho, Sem.run_bind, hrun, Result.andThen_ok]
  exact hK _ _ h
end Go.Proofs.YtibojidpifgblaaDoor
