/-
  No cell of these rows narrows 'for every input' (looked for: loops, veiled, ifaces, maps, wideKeys, modest, calm, conditions, laid).
  DERIVED. THE GIVEN ROWS OF THIS SEAT. 7 by the template 'for every input the law returns true; each argument reads behind the call as it read before'; 0 by the template 'total and deterministic' (their statements: YtcmehedjdfopdaaGreatTotals.lean).
  GIVEN WITH THE SEED: the statements are not yours to turn. If you find one false, say at which input.
  Laid BY PROGRAM, IN A SANDBOX (cutbox-rows.mjs): the forced cells as the released guide's own fill.sh prints them over the translation 994abec23456dbb3… (all of the seat's roots in one cut). By AI agents, Wed Nov 11 2026. No macro, syntax, notation, axiom, sorry.
-/
import Derived.Test.YtcmehedjdfopdaaGreatChecked
import GoSem.Claim
import GoSem.ClaimJoined
import GoSem.ClaimMapViews
import Derived.JoinedTies
import Derived.KernelRfl
namespace Go.Proofs.YtcmehedjdfopdaaGreat
/- THE CELL 'sum', in the pinned program and in every row, IS THE sha256 OF THE DUMP (.gsa) THAT YtcmehedjdfopdaaGreatProg.lean LOADS. Nothing in Lean hashes anything: it is a label: what it is worth is what the hold of that sum in a sandbox is worth. -/
noncomputable def Tryz.pinned : Pinned := { name := "ytcmehedjdfopdaagreat", sum := "994abec23456dbb3e57737f8d9e790269592c2215dc16b04cdcfccffe9f32113", checked := Tryz.checked }
namespace Rows
def none {H : Type} : Left H := { results := [], args := [] }

/-- 'zoetropelaw22.ReconFirst': WHATEVER THE INPUT: true; the input reads as it did. -/
def reconFirstSpec : ChangeSpec := { name := "reconFirst", fn := fun _ => fun
  | [d1, d2, d3] => { results := [.lit (.bool true)], args := [d1, d2, d3] }
  | _ => none }
def reconFirstRow : OpenClaim := { program := "ytcmehedjdfopdaagreat", sum := "994abec23456dbb3e57737f8d9e790269592c2215dc16b04cdcfccffe9f32113", func := "zoetrope/zoetropelaw22.ReconFirst", spec := "reconFirst", inPlace := ["internal/bytealg.MakeNoZero", "sync/atomic.LoadUint32", "(*internal/sync.Mutex).Lock", "internal/race.Disable", "sync/atomic.CompareAndSwapInt32", "internal/race.Enable", "internal/race.Acquire", "(*internal/sync.Mutex).lockSlow", "internal/sync.runtime_canSpin", "internal/sync.runtime_doSpin", "internal/sync.throw", "internal/sync.runtime_nanotime", "internal/sync.runtime_SemacquireMutex", "sync/atomic.AddInt32", "(*internal/sync.Mutex).Unlock", "internal/race.ReleaseMerge", "(*internal/sync.Mutex).unlockSlow", "internal/sync.fatal", "internal/sync.runtime_Semrelease", "sync/atomic.StoreUint32"], unfollowed := true, recurses := true, apart := false }
def ReconFirstSaid : Prop := reconFirstRow.holds Tryz.pinned (OpenSpec.ofChange reconFirstSpec)

/-- ITS FALSE NEIGHBOUR: 'it returns false'. Refute it at one input. -/
def reconFirstWrong : ChangeSpec := { name := "reconFirst", fn := fun _ => fun
  | [d1, d2, d3] => { results := [.lit (.bool false)], args := [d1, d2, d3] }
  | _ => none }
def ReconFirstWrongFalsely : Prop := reconFirstRow.holds Tryz.pinned (OpenSpec.ofChange reconFirstWrong)

/-- 'zoetropelaw22.ReconMixes': WHATEVER THE INPUT: true; the input reads as it did. -/
def reconMixesSpec : ChangeSpec := { name := "reconMixes", fn := fun _ => fun
  | [d1, d2, d3, d4] => { results := [.lit (.bool true)], args := [d1, d2, d3, d4] }
  | _ => none }
def reconMixesRow : OpenClaim := { program := "ytcmehedjdfopdaagreat", sum := "994abec23456dbb3e57737f8d9e790269592c2215dc16b04cdcfccffe9f32113", func := "zoetrope/zoetropelaw22.ReconMixes", spec := "reconMixes", inPlace := ["internal/bytealg.MakeNoZero", "sync/atomic.LoadUint32", "(*internal/sync.Mutex).Lock", "internal/race.Disable", "sync/atomic.CompareAndSwapInt32", "internal/race.Enable", "internal/race.Acquire", "(*internal/sync.Mutex).lockSlow", "internal/sync.runtime_canSpin", "internal/sync.runtime_doSpin", "internal/sync.throw", "internal/sync.runtime_nanotime", "internal/sync.runtime_SemacquireMutex", "sync/atomic.AddInt32", "(*internal/sync.Mutex).Unlock", "internal/race.ReleaseMerge", "(*internal/sync.Mutex).unlockSlow", "internal/sync.fatal", "internal/sync.runtime_Semrelease", "sync/atomic.StoreUint32"], unfollowed := true, recurses := true, apart := false }
def ReconMixesSaid : Prop := reconMixesRow.holds Tryz.pinned (OpenSpec.ofChange reconMixesSpec)

/-- ITS FALSE NEIGHBOUR: 'it returns false'. Refute it at one input. -/
def reconMixesWrong : ChangeSpec := { name := "reconMixes", fn := fun _ => fun
  | [d1, d2, d3, d4] => { results := [.lit (.bool false)], args := [d1, d2, d3, d4] }
  | _ => none }
def ReconMixesWrongFalsely : Prop := reconMixesRow.holds Tryz.pinned (OpenSpec.ofChange reconMixesWrong)

/-- 'zoetropelaw22.ReconOnes': WHATEVER THE INPUT: true; the input reads as it did. -/
def reconOnesSpec : ChangeSpec := { name := "reconOnes", fn := fun _ => fun
  | [d1, d2, d3, d4] => { results := [.lit (.bool true)], args := [d1, d2, d3, d4] }
  | _ => none }
def reconOnesRow : OpenClaim := { program := "ytcmehedjdfopdaagreat", sum := "994abec23456dbb3e57737f8d9e790269592c2215dc16b04cdcfccffe9f32113", func := "zoetrope/zoetropelaw22.ReconOnes", spec := "reconOnes", inPlace := ["internal/bytealg.MakeNoZero", "sync/atomic.LoadUint32", "(*internal/sync.Mutex).Lock", "internal/race.Disable", "sync/atomic.CompareAndSwapInt32", "internal/race.Enable", "internal/race.Acquire", "(*internal/sync.Mutex).lockSlow", "internal/sync.runtime_canSpin", "internal/sync.runtime_doSpin", "internal/sync.throw", "internal/sync.runtime_nanotime", "internal/sync.runtime_SemacquireMutex", "sync/atomic.AddInt32", "(*internal/sync.Mutex).Unlock", "internal/race.ReleaseMerge", "(*internal/sync.Mutex).unlockSlow", "internal/sync.fatal", "internal/sync.runtime_Semrelease", "sync/atomic.StoreUint32"], unfollowed := true, recurses := true, apart := false }
def ReconOnesSaid : Prop := reconOnesRow.holds Tryz.pinned (OpenSpec.ofChange reconOnesSpec)

/-- ITS FALSE NEIGHBOUR: 'it returns false'. Refute it at one input. -/
def reconOnesWrong : ChangeSpec := { name := "reconOnes", fn := fun _ => fun
  | [d1, d2, d3, d4] => { results := [.lit (.bool false)], args := [d1, d2, d3, d4] }
  | _ => none }
def ReconOnesWrongFalsely : Prop := reconOnesRow.holds Tryz.pinned (OpenSpec.ofChange reconOnesWrong)

/-- 'zoetropelaw22.ReconLifts': WHATEVER THE INPUT: true; the input reads as it did. -/
def reconLiftsSpec : ChangeSpec := { name := "reconLifts", fn := fun _ => fun
  | [d1, d2] => { results := [.lit (.bool true)], args := [d1, d2] }
  | _ => none }
def reconLiftsRow : OpenClaim := { program := "ytcmehedjdfopdaagreat", sum := "994abec23456dbb3e57737f8d9e790269592c2215dc16b04cdcfccffe9f32113", func := "zoetrope/zoetropelaw22.ReconLifts", spec := "reconLifts", inPlace := ["internal/bytealg.MakeNoZero", "sync/atomic.LoadUint32", "(*internal/sync.Mutex).Lock", "internal/race.Disable", "sync/atomic.CompareAndSwapInt32", "internal/race.Enable", "internal/race.Acquire", "(*internal/sync.Mutex).lockSlow", "internal/sync.runtime_canSpin", "internal/sync.runtime_doSpin", "internal/sync.throw", "internal/sync.runtime_nanotime", "internal/sync.runtime_SemacquireMutex", "sync/atomic.AddInt32", "(*internal/sync.Mutex).Unlock", "internal/race.ReleaseMerge", "(*internal/sync.Mutex).unlockSlow", "internal/sync.fatal", "internal/sync.runtime_Semrelease", "sync/atomic.StoreUint32"], unfollowed := true, recurses := true, apart := false }
def ReconLiftsSaid : Prop := reconLiftsRow.holds Tryz.pinned (OpenSpec.ofChange reconLiftsSpec)

/-- ITS FALSE NEIGHBOUR: 'it returns false'. Refute it at one input. -/
def reconLiftsWrong : ChangeSpec := { name := "reconLifts", fn := fun _ => fun
  | [d1, d2] => { results := [.lit (.bool false)], args := [d1, d2] }
  | _ => none }
def ReconLiftsWrongFalsely : Prop := reconLiftsRow.holds Tryz.pinned (OpenSpec.ofChange reconLiftsWrong)

/-- 'zoetropelaw22.ReconApart': WHATEVER THE INPUT: true; the input reads as it did. -/
def reconApartSpec : ChangeSpec := { name := "reconApart", fn := fun _ => fun
  | [d1, d2] => { results := [.lit (.bool true)], args := [d1, d2] }
  | _ => none }
def reconApartRow : OpenClaim := { program := "ytcmehedjdfopdaagreat", sum := "994abec23456dbb3e57737f8d9e790269592c2215dc16b04cdcfccffe9f32113", func := "zoetrope/zoetropelaw22.ReconApart", spec := "reconApart", inPlace := ["internal/bytealg.MakeNoZero", "sync/atomic.LoadUint32", "(*internal/sync.Mutex).Lock", "internal/race.Disable", "sync/atomic.CompareAndSwapInt32", "internal/race.Enable", "internal/race.Acquire", "(*internal/sync.Mutex).lockSlow", "internal/sync.runtime_canSpin", "internal/sync.runtime_doSpin", "internal/sync.throw", "internal/sync.runtime_nanotime", "internal/sync.runtime_SemacquireMutex", "sync/atomic.AddInt32", "(*internal/sync.Mutex).Unlock", "internal/race.ReleaseMerge", "(*internal/sync.Mutex).unlockSlow", "internal/sync.fatal", "internal/sync.runtime_Semrelease", "sync/atomic.StoreUint32"], unfollowed := true, recurses := true, apart := false }
def ReconApartSaid : Prop := reconApartRow.holds Tryz.pinned (OpenSpec.ofChange reconApartSpec)

/-- ITS FALSE NEIGHBOUR: 'it returns false'. Refute it at one input. -/
def reconApartWrong : ChangeSpec := { name := "reconApart", fn := fun _ => fun
  | [d1, d2] => { results := [.lit (.bool false)], args := [d1, d2] }
  | _ => none }
def ReconApartWrongFalsely : Prop := reconApartRow.holds Tryz.pinned (OpenSpec.ofChange reconApartWrong)

/-- 'zoetropelaw22.ReconPcm': WHATEVER THE INPUT: true; the input reads as it did. -/
def reconPcmSpec : ChangeSpec := { name := "reconPcm", fn := fun _ => fun
  | [d1, d2, d3, d4] => { results := [.lit (.bool true)], args := [d1, d2, d3, d4] }
  | _ => none }
def reconPcmRow : OpenClaim := { program := "ytcmehedjdfopdaagreat", sum := "994abec23456dbb3e57737f8d9e790269592c2215dc16b04cdcfccffe9f32113", func := "zoetrope/zoetropelaw22.ReconPcm", spec := "reconPcm", inPlace := ["internal/bytealg.MakeNoZero", "sync/atomic.LoadUint32", "(*internal/sync.Mutex).Lock", "internal/race.Disable", "sync/atomic.CompareAndSwapInt32", "internal/race.Enable", "internal/race.Acquire", "(*internal/sync.Mutex).lockSlow", "internal/sync.runtime_canSpin", "internal/sync.runtime_doSpin", "internal/sync.throw", "internal/sync.runtime_nanotime", "internal/sync.runtime_SemacquireMutex", "sync/atomic.AddInt32", "(*internal/sync.Mutex).Unlock", "internal/race.ReleaseMerge", "(*internal/sync.Mutex).unlockSlow", "internal/sync.fatal", "internal/sync.runtime_Semrelease", "sync/atomic.StoreUint32"], unfollowed := true, recurses := true, apart := false }
def ReconPcmSaid : Prop := reconPcmRow.holds Tryz.pinned (OpenSpec.ofChange reconPcmSpec)

/-- ITS FALSE NEIGHBOUR: 'it returns false'. Refute it at one input. -/
def reconPcmWrong : ChangeSpec := { name := "reconPcm", fn := fun _ => fun
  | [d1, d2, d3, d4] => { results := [.lit (.bool false)], args := [d1, d2, d3, d4] }
  | _ => none }
def ReconPcmWrongFalsely : Prop := reconPcmRow.holds Tryz.pinned (OpenSpec.ofChange reconPcmWrong)

/-- 'zoetropelaw22.ReconCopies': WHATEVER THE INPUT: true; the input reads as it did. -/
def reconCopiesSpec : ChangeSpec := { name := "reconCopies", fn := fun _ => fun
  | [d1, d2] => { results := [.lit (.bool true)], args := [d1, d2] }
  | _ => none }
def reconCopiesRow : OpenClaim := { program := "ytcmehedjdfopdaagreat", sum := "994abec23456dbb3e57737f8d9e790269592c2215dc16b04cdcfccffe9f32113", func := "zoetrope/zoetropelaw22.ReconCopies", spec := "reconCopies", inPlace := ["internal/bytealg.MakeNoZero", "sync/atomic.LoadUint32", "(*internal/sync.Mutex).Lock", "internal/race.Disable", "sync/atomic.CompareAndSwapInt32", "internal/race.Enable", "internal/race.Acquire", "(*internal/sync.Mutex).lockSlow", "internal/sync.runtime_canSpin", "internal/sync.runtime_doSpin", "internal/sync.throw", "internal/sync.runtime_nanotime", "internal/sync.runtime_SemacquireMutex", "sync/atomic.AddInt32", "(*internal/sync.Mutex).Unlock", "internal/race.ReleaseMerge", "(*internal/sync.Mutex).unlockSlow", "internal/sync.fatal", "internal/sync.runtime_Semrelease", "sync/atomic.StoreUint32"], unfollowed := true, recurses := true, apart := false }
def ReconCopiesSaid : Prop := reconCopiesRow.holds Tryz.pinned (OpenSpec.ofChange reconCopiesSpec)

/-- ITS FALSE NEIGHBOUR: 'it returns false'. Refute it at one input. -/
def reconCopiesWrong : ChangeSpec := { name := "reconCopies", fn := fun _ => fun
  | [d1, d2] => { results := [.lit (.bool false)], args := [d1, d2] }
  | _ => none }
def ReconCopiesWrongFalsely : Prop := reconCopiesRow.holds Tryz.pinned (OpenSpec.ofChange reconCopiesWrong)

/- THE SECOND FORM. 'bulk': how many values and letters a reading holds, each counted each time it is reached (what is shared counts as often as it is met; a slice's spare places count too). A statement '..UptoSaid' is the law's where the arguments, and the package variables that the reading takes, are together of bulk at most 1048576: NARROWER than '..Said'. Prove '..Said' where nothing that the law and all that it calls make is longer than what came in: it says more and counts as full. Else prove '..UptoSaid'. A law counts once. -/
mutual
def uptoBulk {H : Type} : DataW H → Nat
  | .lit (.string bytes) => bytes.length + 1
  | .lit _ => 1
  | .nil => 1
  | .ptr d => uptoBulk d + 1
  | .slice elems spare => uptoBulkAll elems + uptoBulkAll spare + 1
  | .agg parts => uptoBulkAll parts + 1
  | .iface _ d => uptoBulk d + 1
  | .map entries => uptoBulkEntries entries + 1
  | .held _ => 1
def uptoBulkAll {H : Type} : List (DataW H) → Nat
  | [] => 0
  | d :: r => uptoBulk d + uptoBulkAll r
def uptoBulkEntries {H : Type} : List (Lit × DataW H) → Nat
  | [] => 0
  | x :: r => uptoBulkEntry x + uptoBulkEntries r
def uptoBulkEntry {H : Type} : Lit × DataW H → Nat
  | (.string bytes, d) => bytes.length + uptoBulk d + 1
  | (_, d) => uptoBulk d + 1
 end
def uptoSmall : (H : Type) → List (DataW H) → Bool := fun _ ds => decide (uptoBulkAll ds ≤ 1048576)
def OpenSpec.upto (s : _root_.Go.ChangeSpec) : _root_.Go.OpenSpec := { _root_.Go.OpenSpec.ofChange s with cond := some uptoSmall }

/-- 'zoetropelaw22.ReconFirst', WHERE WHAT IT READS IS OF BULK AT MOST 1048576: true; the input reads as it did. -/
def reconFirstUptoRow : OpenClaim := { program := "ytcmehedjdfopdaagreat", sum := "994abec23456dbb3e57737f8d9e790269592c2215dc16b04cdcfccffe9f32113", func := "zoetrope/zoetropelaw22.ReconFirst", spec := "reconFirst", inPlace := ["internal/bytealg.MakeNoZero", "sync/atomic.LoadUint32", "(*internal/sync.Mutex).Lock", "internal/race.Disable", "sync/atomic.CompareAndSwapInt32", "internal/race.Enable", "internal/race.Acquire", "(*internal/sync.Mutex).lockSlow", "internal/sync.runtime_canSpin", "internal/sync.runtime_doSpin", "internal/sync.throw", "internal/sync.runtime_nanotime", "internal/sync.runtime_SemacquireMutex", "sync/atomic.AddInt32", "(*internal/sync.Mutex).Unlock", "internal/race.ReleaseMerge", "(*internal/sync.Mutex).unlockSlow", "internal/sync.fatal", "internal/sync.runtime_Semrelease", "sync/atomic.StoreUint32"], unfollowed := true, recurses := true, apart := false, narrowed := true }
def ReconFirstUptoSaid : Prop := reconFirstUptoRow.holds Tryz.pinned (OpenSpec.upto reconFirstSpec)

/-- 'zoetropelaw22.ReconMixes', WHERE WHAT IT READS IS OF BULK AT MOST 1048576: true; the input reads as it did. -/
def reconMixesUptoRow : OpenClaim := { program := "ytcmehedjdfopdaagreat", sum := "994abec23456dbb3e57737f8d9e790269592c2215dc16b04cdcfccffe9f32113", func := "zoetrope/zoetropelaw22.ReconMixes", spec := "reconMixes", inPlace := ["internal/bytealg.MakeNoZero", "sync/atomic.LoadUint32", "(*internal/sync.Mutex).Lock", "internal/race.Disable", "sync/atomic.CompareAndSwapInt32", "internal/race.Enable", "internal/race.Acquire", "(*internal/sync.Mutex).lockSlow", "internal/sync.runtime_canSpin", "internal/sync.runtime_doSpin", "internal/sync.throw", "internal/sync.runtime_nanotime", "internal/sync.runtime_SemacquireMutex", "sync/atomic.AddInt32", "(*internal/sync.Mutex).Unlock", "internal/race.ReleaseMerge", "(*internal/sync.Mutex).unlockSlow", "internal/sync.fatal", "internal/sync.runtime_Semrelease", "sync/atomic.StoreUint32"], unfollowed := true, recurses := true, apart := false, narrowed := true }
def ReconMixesUptoSaid : Prop := reconMixesUptoRow.holds Tryz.pinned (OpenSpec.upto reconMixesSpec)

/-- 'zoetropelaw22.ReconOnes', WHERE WHAT IT READS IS OF BULK AT MOST 1048576: true; the input reads as it did. -/
def reconOnesUptoRow : OpenClaim := { program := "ytcmehedjdfopdaagreat", sum := "994abec23456dbb3e57737f8d9e790269592c2215dc16b04cdcfccffe9f32113", func := "zoetrope/zoetropelaw22.ReconOnes", spec := "reconOnes", inPlace := ["internal/bytealg.MakeNoZero", "sync/atomic.LoadUint32", "(*internal/sync.Mutex).Lock", "internal/race.Disable", "sync/atomic.CompareAndSwapInt32", "internal/race.Enable", "internal/race.Acquire", "(*internal/sync.Mutex).lockSlow", "internal/sync.runtime_canSpin", "internal/sync.runtime_doSpin", "internal/sync.throw", "internal/sync.runtime_nanotime", "internal/sync.runtime_SemacquireMutex", "sync/atomic.AddInt32", "(*internal/sync.Mutex).Unlock", "internal/race.ReleaseMerge", "(*internal/sync.Mutex).unlockSlow", "internal/sync.fatal", "internal/sync.runtime_Semrelease", "sync/atomic.StoreUint32"], unfollowed := true, recurses := true, apart := false, narrowed := true }
def ReconOnesUptoSaid : Prop := reconOnesUptoRow.holds Tryz.pinned (OpenSpec.upto reconOnesSpec)

/-- 'zoetropelaw22.ReconLifts', WHERE WHAT IT READS IS OF BULK AT MOST 1048576: true; the input reads as it did. -/
def reconLiftsUptoRow : OpenClaim := { program := "ytcmehedjdfopdaagreat", sum := "994abec23456dbb3e57737f8d9e790269592c2215dc16b04cdcfccffe9f32113", func := "zoetrope/zoetropelaw22.ReconLifts", spec := "reconLifts", inPlace := ["internal/bytealg.MakeNoZero", "sync/atomic.LoadUint32", "(*internal/sync.Mutex).Lock", "internal/race.Disable", "sync/atomic.CompareAndSwapInt32", "internal/race.Enable", "internal/race.Acquire", "(*internal/sync.Mutex).lockSlow", "internal/sync.runtime_canSpin", "internal/sync.runtime_doSpin", "internal/sync.throw", "internal/sync.runtime_nanotime", "internal/sync.runtime_SemacquireMutex", "sync/atomic.AddInt32", "(*internal/sync.Mutex).Unlock", "internal/race.ReleaseMerge", "(*internal/sync.Mutex).unlockSlow", "internal/sync.fatal", "internal/sync.runtime_Semrelease", "sync/atomic.StoreUint32"], unfollowed := true, recurses := true, apart := false, narrowed := true }
def ReconLiftsUptoSaid : Prop := reconLiftsUptoRow.holds Tryz.pinned (OpenSpec.upto reconLiftsSpec)

/-- 'zoetropelaw22.ReconApart', WHERE WHAT IT READS IS OF BULK AT MOST 1048576: true; the input reads as it did. -/
def reconApartUptoRow : OpenClaim := { program := "ytcmehedjdfopdaagreat", sum := "994abec23456dbb3e57737f8d9e790269592c2215dc16b04cdcfccffe9f32113", func := "zoetrope/zoetropelaw22.ReconApart", spec := "reconApart", inPlace := ["internal/bytealg.MakeNoZero", "sync/atomic.LoadUint32", "(*internal/sync.Mutex).Lock", "internal/race.Disable", "sync/atomic.CompareAndSwapInt32", "internal/race.Enable", "internal/race.Acquire", "(*internal/sync.Mutex).lockSlow", "internal/sync.runtime_canSpin", "internal/sync.runtime_doSpin", "internal/sync.throw", "internal/sync.runtime_nanotime", "internal/sync.runtime_SemacquireMutex", "sync/atomic.AddInt32", "(*internal/sync.Mutex).Unlock", "internal/race.ReleaseMerge", "(*internal/sync.Mutex).unlockSlow", "internal/sync.fatal", "internal/sync.runtime_Semrelease", "sync/atomic.StoreUint32"], unfollowed := true, recurses := true, apart := false, narrowed := true }
def ReconApartUptoSaid : Prop := reconApartUptoRow.holds Tryz.pinned (OpenSpec.upto reconApartSpec)

/-- 'zoetropelaw22.ReconPcm', WHERE WHAT IT READS IS OF BULK AT MOST 1048576: true; the input reads as it did. -/
def reconPcmUptoRow : OpenClaim := { program := "ytcmehedjdfopdaagreat", sum := "994abec23456dbb3e57737f8d9e790269592c2215dc16b04cdcfccffe9f32113", func := "zoetrope/zoetropelaw22.ReconPcm", spec := "reconPcm", inPlace := ["internal/bytealg.MakeNoZero", "sync/atomic.LoadUint32", "(*internal/sync.Mutex).Lock", "internal/race.Disable", "sync/atomic.CompareAndSwapInt32", "internal/race.Enable", "internal/race.Acquire", "(*internal/sync.Mutex).lockSlow", "internal/sync.runtime_canSpin", "internal/sync.runtime_doSpin", "internal/sync.throw", "internal/sync.runtime_nanotime", "internal/sync.runtime_SemacquireMutex", "sync/atomic.AddInt32", "(*internal/sync.Mutex).Unlock", "internal/race.ReleaseMerge", "(*internal/sync.Mutex).unlockSlow", "internal/sync.fatal", "internal/sync.runtime_Semrelease", "sync/atomic.StoreUint32"], unfollowed := true, recurses := true, apart := false, narrowed := true }
def ReconPcmUptoSaid : Prop := reconPcmUptoRow.holds Tryz.pinned (OpenSpec.upto reconPcmSpec)

/-- 'zoetropelaw22.ReconCopies', WHERE WHAT IT READS IS OF BULK AT MOST 1048576: true; the input reads as it did. -/
def reconCopiesUptoRow : OpenClaim := { program := "ytcmehedjdfopdaagreat", sum := "994abec23456dbb3e57737f8d9e790269592c2215dc16b04cdcfccffe9f32113", func := "zoetrope/zoetropelaw22.ReconCopies", spec := "reconCopies", inPlace := ["internal/bytealg.MakeNoZero", "sync/atomic.LoadUint32", "(*internal/sync.Mutex).Lock", "internal/race.Disable", "sync/atomic.CompareAndSwapInt32", "internal/race.Enable", "internal/race.Acquire", "(*internal/sync.Mutex).lockSlow", "internal/sync.runtime_canSpin", "internal/sync.runtime_doSpin", "internal/sync.throw", "internal/sync.runtime_nanotime", "internal/sync.runtime_SemacquireMutex", "sync/atomic.AddInt32", "(*internal/sync.Mutex).Unlock", "internal/race.ReleaseMerge", "(*internal/sync.Mutex).unlockSlow", "internal/sync.fatal", "internal/sync.runtime_Semrelease", "sync/atomic.StoreUint32"], unfollowed := true, recurses := true, apart := false, narrowed := true }
def ReconCopiesUptoSaid : Prop := reconCopiesUptoRow.holds Tryz.pinned (OpenSpec.upto reconCopiesSpec)

end Rows
end Go.Proofs.YtcmehedjdfopdaaGreat
