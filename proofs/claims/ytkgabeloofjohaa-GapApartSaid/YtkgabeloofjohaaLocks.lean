/- sync.Mutex in this dump: the numbers of its functions and types. Printed by wip/tools/lockgen.py; the kernel checks every number. -/
import Derived.Test.YtkgabeloofjohaaProg
import Derived.Conc.RwLib
import Derived.Conc.MuData
import Derived.KernelRfl
namespace Go.Proofs.Ytkgabeloofjohaa.Kit
abbrev muLink : Go.Conc.Locks.MuLink := { lock := 20, unlock := 21, ilock := 35, iunlock := 36, lockSlow := 46, unlockSlow := 49, disable := 42, enable := 44, acquire := 45, relMerge := 47, cas32 := 43, add32 := 48, tMutex := 62, tIMutex := 60, tPMutex := 87, tPIMutex := 94, tPI32 := 96, tUP := 98, tNoCopy := 57, tU32 := 58 }
theorem muLib : Go.Conc.Locks.MuLib Try.prog muLink :=
  ⟨Try.func20, Try.func21, Try.func35, Try.func36, Try.func42, Try.func44, Try.func45, Try.func47, Try.func43, Try.func48, Try.underlying60, Try.runUnderlying60, Try.sizeOf60, Try.isAgg60, Try.zeroValue60, Try.underlying62, Try.runUnderlying62, Try.sizeOf62, Try.isAgg62, Try.zeroValue62, Try.underlying87, Try.runUnderlying87, Try.sizeOf87, Try.isAgg87, Try.zeroValue87, Try.underlying94, Try.runUnderlying94, Try.sizeOf94, Try.isAgg94, Try.zeroValue94, Try.underlying96, Try.runUnderlying96, Try.sizeOf96, Try.isAgg96, Try.zeroValue96, Try.underlying98, Try.runUnderlying98, Try.sizeOf98, Try.isAgg98, Try.zeroValue98, Try.underlying57, Try.runUnderlying57, Try.sizeOf57, Try.isAgg57, Try.zeroValue57, Try.underlying21, Try.runUnderlying21, Try.sizeOf21, Try.isAgg21, Try.zeroValue21, (by kernel_rfl)⟩
theorem muData : Go.Conc.Locks.MuData Try.prog muLink := ⟨Try.underlying58, by kernel_rfl, by kernel_rfl, by kernel_rfl, by kernel_rfl, by kernel_rfl⟩
end Go.Proofs.Ytkgabeloofjohaa.Kit
