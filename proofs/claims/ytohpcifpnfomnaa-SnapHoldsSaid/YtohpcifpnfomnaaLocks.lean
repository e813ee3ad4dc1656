/- sync.Mutex in this dump: the numbers of its functions and types. Printed by wip/tools/lockgen.py; the kernel checks every number. -/
import Derived.Test.YtohpcifpnfomnaaProg
import Derived.Conc.RwLib
import Derived.Conc.MuData
import Derived.KernelRfl
namespace Go.Proofs.Ytohpcifpnfomnaa.Kit
abbrev muLink : Go.Conc.Locks.MuLink := { lock := 19, unlock := 20, ilock := 32, iunlock := 33, lockSlow := 42, unlockSlow := 45, disable := 38, enable := 40, acquire := 41, relMerge := 43, cas32 := 39, add32 := 44, tMutex := 57, tIMutex := 55, tPMutex := 78, tPIMutex := 81, tPI32 := 83, tUP := 85, tNoCopy := 52, tU32 := 53 }
theorem muLib : Go.Conc.Locks.MuLib Try.prog muLink :=
  ⟨Try.func19, Try.func20, Try.func32, Try.func33, Try.func38, Try.func40, Try.func41, Try.func43, Try.func39, Try.func44, Try.underlying55, Try.runUnderlying55, Try.sizeOf55, Try.isAgg55, Try.zeroValue55, Try.underlying57, Try.runUnderlying57, Try.sizeOf57, Try.isAgg57, Try.zeroValue57, Try.underlying78, Try.runUnderlying78, Try.sizeOf78, Try.isAgg78, Try.zeroValue78, Try.underlying81, Try.runUnderlying81, Try.sizeOf81, Try.isAgg81, Try.zeroValue81, Try.underlying83, Try.runUnderlying83, Try.sizeOf83, Try.isAgg83, Try.zeroValue83, Try.underlying85, Try.runUnderlying85, Try.sizeOf85, Try.isAgg85, Try.zeroValue85, Try.underlying52, Try.runUnderlying52, Try.sizeOf52, Try.isAgg52, Try.zeroValue52, Try.underlying21, Try.runUnderlying21, Try.sizeOf21, Try.isAgg21, Try.zeroValue21, (by kernel_rfl)⟩
theorem muData : Go.Conc.Locks.MuData Try.prog muLink := ⟨Try.underlying53, by kernel_rfl, by kernel_rfl, by kernel_rfl, by kernel_rfl, by kernel_rfl⟩
end Go.Proofs.Ytohpcifpnfomnaa.Kit
