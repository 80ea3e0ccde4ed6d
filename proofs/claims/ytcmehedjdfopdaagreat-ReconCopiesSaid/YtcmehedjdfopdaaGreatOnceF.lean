/-
  sync.Once whose work is done: Do comes back at once.
-/
import Derived.Test.YtcmehedjdfopdaaGreatOnce
import Derived.Test.YtcmehedjdfopdaaGreatExF
namespace Go.Proofs.YtcmehedjdfopdaaGreat
open Go.RowKit

set_option maxRecDepth 100000 in
theorem once_fast (b off F : Nat) (caps : Array Value) (w : World) (h0 : w.cell? ⟨b, off, none⟩ = some (.int .u32 1)) :
    Calls Tryz.prog 90 #[.pointer (some ⟨b, off, none⟩), .func (.func F) #[] caps] w fun e w' => e = .returned (.tuple #[]) ∧ w' = w := by
  have hl := run_call_load (P := Tryz.prog) Tryz.func169 (by kernel_rfl) (by kernel_rfl) (by kernel_rfl) .u32 (by kernel_rfl) h0
  have hnot : ∀ (x : Bool) (w : World), (Op.unary .not (.bool x)).run Tryz.prog w = .ok (.bool (!x)) w := fun _ _ => rfl
  go_enter Tryz.func90, Tryz.ntmps90
  go_wp2_with (go_at_call 128; go_in)
  all_goals (go_end0; exact ⟨rfl, rfl⟩)

theorem onceLaws : Exec.OnceLaws Tryz.prog 90 := ⟨once_do, once_fast⟩
end Go.Proofs.YtcmehedjdfopdaaGreat
