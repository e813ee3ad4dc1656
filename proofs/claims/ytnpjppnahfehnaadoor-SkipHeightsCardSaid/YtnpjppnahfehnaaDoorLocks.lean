/- sync.Mutex in this dump: the numbers of its functions and types. Printed by wip/tools/lockgen.py; the kernel checks every number. -/
import Derived.Test.YtnpjppnahfehnaaDoorProg
import Derived.Conc.RwLib
import Derived.Conc.MuData
import Derived.KernelRfl
namespace Go.Proofs.YtnpjppnahfehnaaDoor.Kit
abbrev muLink : Go.Conc.Locks.MuLink := { lock := 13, unlock := 14, ilock := 20, iunlock := 21, lockSlow := 33, unlockSlow := 36, disable := 29, enable := 31, acquire := 32, relMerge := 34, cas32 := 30, add32 := 35, tMutex := 53, tIMutex := 51, tPMutex := 67, tPIMutex := 78, tPI32 := 80, tUP := 61, tNoCopy := 48, tU32 := 49 }
theorem muLib : Go.Conc.Locks.MuLib Tryd.prog muLink :=
  ⟨Tryd.func13, Tryd.func14, Tryd.func20, Tryd.func21, Tryd.func29, Tryd.func31, Tryd.func32, Tryd.func34, Tryd.func30, Tryd.func35, Tryd.underlying51, Tryd.runUnderlying51, Tryd.sizeOf51, Tryd.isAgg51, Tryd.zeroValue51, Tryd.underlying53, Tryd.runUnderlying53, Tryd.sizeOf53, Tryd.isAgg53, Tryd.zeroValue53, Tryd.underlying67, Tryd.runUnderlying67, Tryd.sizeOf67, Tryd.isAgg67, Tryd.zeroValue67, Tryd.underlying78, Tryd.runUnderlying78, Tryd.sizeOf78, Tryd.isAgg78, Tryd.zeroValue78, Tryd.underlying80, Tryd.runUnderlying80, Tryd.sizeOf80, Tryd.isAgg80, Tryd.zeroValue80, Tryd.underlying61, Tryd.runUnderlying61, Tryd.sizeOf61, Tryd.isAgg61, Tryd.zeroValue61, Tryd.underlying48, Tryd.runUnderlying48, Tryd.sizeOf48, Tryd.isAgg48, Tryd.zeroValue48, Tryd.underlying21, Tryd.runUnderlying21, Tryd.sizeOf21, Tryd.isAgg21, Tryd.zeroValue21, (by kernel_rfl)⟩
theorem muData : Go.Conc.Locks.MuData Tryd.prog muLink := ⟨Tryd.underlying49, by kernel_rfl, by kernel_rfl, by kernel_rfl, by kernel_rfl, by kernel_rfl⟩
end Go.Proofs.YtnpjppnahfehnaaDoor.Kit
