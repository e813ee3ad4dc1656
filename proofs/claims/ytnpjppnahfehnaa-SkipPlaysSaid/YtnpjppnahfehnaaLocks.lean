/- sync.Mutex in this dump: the numbers of its functions and types. Printed by wip/tools/lockgen.py; the kernel checks every number. -/
import Derived.Test.YtnpjppnahfehnaaProg
import Derived.Conc.RwLib
import Derived.Conc.MuData
import Derived.KernelRfl
namespace Go.Proofs.Ytnpjppnahfehnaa.Kit
abbrev muLink : Go.Conc.Locks.MuLink := { lock := 34, unlock := 35, ilock := 43, iunlock := 44, lockSlow := 53, unlockSlow := 56, disable := 49, enable := 51, acquire := 52, relMerge := 54, cas32 := 50, add32 := 55, tMutex := 59, tIMutex := 57, tPMutex := 107, tPIMutex := 111, tPI32 := 113, tUP := 75, tNoCopy := 54, tU32 := 55 }
theorem muLib : Go.Conc.Locks.MuLib Try.prog muLink :=
  ⟨Try.func34, Try.func35, Try.func43, Try.func44, Try.func49, Try.func51, Try.func52, Try.func54, Try.func50, Try.func55, Try.underlying57, Try.runUnderlying57, Try.sizeOf57, Try.isAgg57, Try.zeroValue57, Try.underlying59, Try.runUnderlying59, Try.sizeOf59, Try.isAgg59, Try.zeroValue59, Try.underlying107, Try.runUnderlying107, Try.sizeOf107, Try.isAgg107, Try.zeroValue107, Try.underlying111, Try.runUnderlying111, Try.sizeOf111, Try.isAgg111, Try.zeroValue111, Try.underlying113, Try.runUnderlying113, Try.sizeOf113, Try.isAgg113, Try.zeroValue113, Try.underlying75, Try.runUnderlying75, Try.sizeOf75, Try.isAgg75, Try.zeroValue75, Try.underlying54, Try.runUnderlying54, Try.sizeOf54, Try.isAgg54, Try.zeroValue54, Try.underlying21, Try.runUnderlying21, Try.sizeOf21, Try.isAgg21, Try.zeroValue21, (by kernel_rfl)⟩
theorem muData : Go.Conc.Locks.MuData Try.prog muLink := ⟨Try.underlying55, by kernel_rfl, by kernel_rfl, by kernel_rfl, by kernel_rfl, by kernel_rfl⟩
end Go.Proofs.Ytnpjppnahfehnaa.Kit
