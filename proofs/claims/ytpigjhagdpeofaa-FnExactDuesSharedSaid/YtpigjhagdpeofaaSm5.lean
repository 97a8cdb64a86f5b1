/-
  The second program: impl.shared in sequence, with a draw at its head; all else as it stands. And the facts of its tables. No condition.
-/
import Derived.Test.YtpigjhagdpeofaaSm4
import Derived.Test.YtpigjhagdpeofaaRows
import Derived.KernelRfl

namespace Go.Proofs.Ytpigjhagdpeofaa
set_option linter.unusedVariables false
set_option maxRecDepth 100000

def Sq.ob (d : Option Tmp) (o : Op) (t : TypeId) (after : Array Edge := #[]) : Oper := { dst := d, op := o, type := t, pos := "", after := after, guard := none }
def Sq.dat (n : Nat) : Edge := { on := n, ground := .data }
/-- In place of impl.shared. The second region's load and store of one cell stand in no order: loaded 1: the call lays what it was handed into the letter box (block 2), and panics; loaded 0: it copies the oracle (block 3) into a new row. -/
def Sq.body33 : Code :=
  ((Code.region 0 #[Sq.ob (some 3) (.alloc 2) 0] false).seq
  ((Code.region 1 #[Sq.ob (some 4) (.load 2 (.tmp 3)) 2, Sq.ob none (.store 2 (.tmp 3) (.const (.int .i64 1))) 0] true).seq
  ((Code.region 2 #[Sq.ob (some 5) (.binOp .eql 2 (.tmp 4) (.const (.int .i64 0)) 2) 4] false).seq
  ((Code.cond (.tmp 5) .skip (Code.region 3 #[Sq.ob (some 10) (.makeFunc (.func 33) #[] #[.tmp 0, .tmp 1, .tmp 2]) 58, Sq.ob none (.store 58 (.const (.pointer (some ⟨2, 1, none⟩))) (.tmp 10)) 0,
      Sq.ob none (.store 2 (.const (.pointer (some ⟨2, 0, none⟩))) (.const (.int .i64 1))) 0, Sq.ob none (.defer { callee := .value (.func 101), args := #[], argTypes := #[] }) 0, Sq.ob none (.panic (.const (.iface 3 (.int .i64 0)))) 0] false)).seq
  ((Code.region 4 #[Sq.ob (some 7) (.call { callee := .builtin .len, args := #[.tmp 0], argTypes := #[23] }) 3, Sq.ob (some 8) (.makeSlice 23 (.tmp 7) (.tmp 7)) 23,
      Sq.ob (some 9) (.call { callee := .builtin .copy, args := #[.tmp 8, .const (.slice (some ⟨3, 0, none⟩) 1000000000 1000000000)], argTypes := #[23, 23] }) 3, Sq.ob (some 6) (.assign (.tmp 8)) 23] false).seq .ret)))))
noncomputable def Sq.f33 : Func := { Try.f33 with ntmps := 27, results := #[.tmp 6], body := some Sq.body33 }
/-- What is deferred: it panics. -/
noncomputable def Sq.fP : Func := { Try.f33 with name := "Sq.fP", params := #[], resultTypes := #[], nfree := 0, ntmps := 0, results := #[], body := some (.region 0 #[Sq.ob none (.panic (.const (.iface 3 (.int .i64 0)))) 0] false) }
noncomputable def Sq.funcs : Array Func := ([Try.f0, Try.f1, Try.f2, Try.f3, Try.f4, Try.f5, Try.f6, Try.f7, Try.f8, Try.f9, Try.f10, Try.f11, Try.f12, Try.f13, Try.f14, Try.f15, Try.f16, Try.f17, Try.f18, Try.f19, Try.f20, Try.f21, Try.f22, Try.f23, Try.f24, Try.f25, Try.f26, Try.f27, Try.f28, Try.f29, Try.f30, Try.f31, Try.f32, Sq.f33, Try.f34, Try.f35, Try.f36, Try.f37, Try.f38, Try.f39, Try.f40, Try.f41, Try.f42, Try.f43, Try.f44, Try.f45, Try.f46, Try.f47, Try.f48, Try.f49].append [Try.f50, Try.f51, Try.f52, Try.f53, Try.f54, Try.f55, Try.f56, Try.f57, Try.f58, Try.f59, Try.f60, Try.f61, Try.f62, Try.f63, Try.f64, Try.f65, Try.f66, Try.f67, Try.f68, Try.f69, Try.f70, Try.f71, Try.f72, Try.f73, Try.f74, Try.f75, Try.f76, Try.f77, Try.f78, Try.f79, Try.f80, Try.f81, Try.f82, Try.f83, Try.f84, Try.f85, Try.f86, Try.f87, Try.f88, Try.f89, Try.f90, Try.f91, Try.f92, Try.f93, Try.f94, Try.f95, Try.f96, Try.f97, Try.f98, Try.f99, Try.f100, Sq.fP]).toArray
noncomputable def Sq.prog : Program := { toTables := Try.progTables, funcs := Sq.funcs }
@[simp] theorem Sq.func101 : Sq.prog.funcs[101]? = Option.some Sq.fP := (rfl)
@[simp] theorem Sq.params33 : Sq.f33.params = #[23, 2, 58] := (rfl)
@[simp] theorem Sq.results33 : Sq.f33.results = #[.tmp 6] := (rfl)
@[simp] theorem Sq.nfree33 : Sq.f33.nfree = 0 := (rfl)
@[simp] theorem Sq.ntmps33 : Sq.f33.ntmps = 27 := (rfl)

@[simp] theorem Sq.call73 : ∀ (args : Array Go.Value) (w : Go.World), Go.Sem.run Sq.prog (Go.callFunc 73 args) w = Go.Result.ok (Go.Next.enter 73 args) w := fun _ _ => (rfl)
@[simp] theorem Sq.stoodInHeld36 : Sq.prog.stoodInHeld 36 = Bool.false := by kernel_rfl
@[simp] theorem Sq.eqGuardType100 : Sq.prog.eqGuardType Sq.prog.depth 100 = Bool.false := by kernel_rfl
theorem Sq.ntmps73 : Try.f73.ntmps = 10 := rfl
theorem Sq.ntmps30 : Try.f30.ntmps = 60 := rfl
@[simp] theorem Sq.typeInfo17 : ∀ (w : Go.World), Go.Sem.run Sq.prog (Go.typeInfo 17) w = Go.Result.ok Try.t17 w := fun _ => (rfl)
@[simp] theorem Sq.zeroValue101 : ∀ (w : Go.World), Go.Sem.run Sq.prog (Go.zeroValue 101) w = Go.Result.ok Go.Value.nilFunc w := fun _ => (rfl)
theorem Sq.params37 : Try.f37.params = #[23, 3] := rfl
@[simp] theorem Sq.isAgg74 : ∀ (w : Go.World), Go.Sem.run Sq.prog (Go.isAgg 74) w = Go.Result.ok Bool.false w := fun _ => (rfl)
@[simp] theorem Sq.isAgg60 : ∀ (w : Go.World), Go.Sem.run Sq.prog (Go.isAgg 60) w = Go.Result.ok Bool.false w := fun _ => (rfl)
theorem Sq.params74 : Try.f74.params = #[23] := rfl
theorem Sq.results99 : Try.f99.results = #[] := rfl
@[simp] theorem Sq.typeInfo16 : ∀ (w : Go.World), Go.Sem.run Sq.prog (Go.typeInfo 16) w = Go.Result.ok Try.t16 w := fun _ => (rfl)
@[simp] theorem Sq.underlying104 : Sq.prog.underlying 104 = Option.some (Go.TypeDesc.int Go.IntKind.u8) := (rfl)
@[simp] theorem Sq.sizeOf95 : ∀ (w : Go.World), Go.Sem.run Sq.prog (Go.sizeOf 95) w = Go.Result.ok 1 w := fun _ => (rfl)
@[simp] theorem Sq.globals_size : Sq.prog.globals.size = 2 := (rfl)
@[simp] theorem Sq.isAgg13 : ∀ (w : Go.World), Go.Sem.run Sq.prog (Go.isAgg 13) w = Go.Result.ok Bool.true w := fun _ => (rfl)
@[simp] theorem Sq.typeInfo35 : ∀ (w : Go.World), Go.Sem.run Sq.prog (Go.typeInfo 35) w = Go.Result.ok Try.t35 w := fun _ => (rfl)
theorem Sq.params53 : Try.f53.params = #[23, 2, 2] := rfl
theorem Sq.ntmps32 : Try.f32.ntmps = 5 := rfl
theorem Sq.nfree65 : Try.f65.nfree = 0 := rfl
theorem Sq.params43 : Try.f43.params = #[39, 2, 2] := rfl
theorem Sq.ntmps23 : Try.f23.ntmps = 25 := rfl
theorem Sq.results25 : Try.f25.results = #[Go.ResultVar.tmp 6] := rfl
@[simp] theorem Sq.underlying77 : Sq.prog.underlying 77 = Option.some (Go.TypeDesc.int Go.IntKind.u64) := (rfl)
@[simp] theorem Sq.sizeOf111 : ∀ (w : Go.World), Go.Sem.run Sq.prog (Go.sizeOf 111) w = Go.Result.ok 1 w := fun _ => (rfl)
@[simp] theorem Sq.zeroValue106 : ∀ (w : Go.World), Go.Sem.run Sq.prog (Go.zeroValue 106) w = Go.Result.ok (Go.Value.pointer Option.none) w := fun _ => (rfl)
theorem Sq.ntmps53 : Try.f53.ntmps = 11 := rfl
@[simp] theorem Sq.zeroValue8 : ∀ (w : Go.World), Go.Sem.run Sq.prog (Go.zeroValue 8) w = Go.Result.ok (Go.Value.agg #[Go.Value.int Go.IntKind.i64 0, Go.Value.int Go.IntKind.i64 0, Go.Value.bool Bool.false, Go.Value.int Go.IntKind.u8 0]) w := fun _ => (rfl)
@[simp] theorem Sq.func49 : Sq.prog.funcs[49]? = Option.some Try.f49 := (rfl)
@[simp] theorem Sq.isAgg40 : ∀ (w : Go.World), Go.Sem.run Sq.prog (Go.isAgg 40) w = Go.Result.ok Bool.false w := fun _ => (rfl)
@[simp] theorem Sq.sizeOf27 : ∀ (w : Go.World), Go.Sem.run Sq.prog (Go.sizeOf 27) w = Go.Result.ok 1 w := fun _ => (rfl)
@[simp] theorem Sq.isAgg41 : ∀ (w : Go.World), Go.Sem.run Sq.prog (Go.isAgg 41) w = Go.Result.ok Bool.false w := fun _ => (rfl)
@[simp] theorem Sq.func57 : Sq.prog.funcs[57]? = Option.some Try.f57 := (rfl)
@[simp] theorem Sq.underlying71 : Sq.prog.underlying 71 = Option.some (Go.TypeDesc.chan Go.ChanDir.both 4) := (rfl)
theorem Sq.params99 : Try.f99.params = #[94] := rfl
@[simp] theorem Sq.underlying98 : Sq.prog.underlying 98 = Option.some (Go.TypeDesc.array 0 16) := (rfl)
theorem Sq.nfree51 : Try.f51.nfree = 0 := rfl
@[simp] theorem Sq.call54 : ∀ (args : Array Go.Value) (w : Go.World), Go.Sem.run Sq.prog (Go.callFunc 54 args) w = Go.Result.ok (Go.Next.enter 54 args) w := fun _ _ => (rfl)
@[simp] theorem Sq.type73 : Sq.prog.types[73]? = Option.some Try.t73 := (rfl)
@[simp] theorem Sq.sizeOf31 : ∀ (w : Go.World), Go.Sem.run Sq.prog (Go.sizeOf 31) w = Go.Result.ok 1 w := fun _ => (rfl)
@[simp] theorem Sq.zeroValue95 : ∀ (w : Go.World), Go.Sem.run Sq.prog (Go.zeroValue 95) w = Go.Result.ok Go.Value.nilFunc w := fun _ => (rfl)
@[simp] theorem Sq.type83 : Sq.prog.types[83]? = Option.some Try.t83 := (rfl)
@[simp] theorem Sq.sizeOf0 : ∀ (w : Go.World), Go.Sem.run Sq.prog (Go.sizeOf 0) w = Go.Result.ok 1 w := fun _ => (rfl)
theorem Sq.params81 : Try.f81.params = #[78, 3, 3, 3, 84] := rfl
@[simp] theorem Sq.sizeOf114 : ∀ (w : Go.World), Go.Sem.run Sq.prog (Go.sizeOf 114) w = Go.Result.ok 1 w := fun _ => (rfl)
@[simp] theorem Sq.typeInfo88 : ∀ (w : Go.World), Go.Sem.run Sq.prog (Go.typeInfo 88) w = Go.Result.ok Try.t88 w := fun _ => (rfl)
@[simp] theorem Sq.isAgg35 : ∀ (w : Go.World), Go.Sem.run Sq.prog (Go.isAgg 35) w = Go.Result.ok Bool.true w := fun _ => (rfl)
@[simp] theorem Sq.runUnderlying101 : ∀ (w : Go.World), Go.Sem.run Sq.prog (Go.underlying 101) w = Go.Result.ok (Go.TypeDesc.func #[] #[3] Bool.false) w := fun _ => (rfl)
@[simp] theorem Sq.type45 : Sq.prog.types[45]? = Option.some Try.t45 := (rfl)
theorem Sq.ntmps10 : Try.f10.ntmps = 25 := rfl
@[simp] theorem Sq.zeroValue88 : ∀ (w : Go.World), Go.Sem.run Sq.prog (Go.zeroValue 88) w = Go.Result.ok Go.Value.nilIface w := fun _ => (rfl)
theorem Sq.ntmps74 : Try.f74.ntmps = 20 := rfl
theorem Sq.params23 : Try.f23.params = #[23, 23, 2] := rfl
@[simp] theorem Sq.call26 : ∀ (args : Array Go.Value) (w : Go.World), Go.Sem.run Sq.prog (Go.callFunc 26 args) w = Go.Result.ok (Go.Next.enter 26 args) w := fun _ _ => (rfl)
@[simp] theorem Sq.isAgg55 : ∀ (w : Go.World), Go.Sem.run Sq.prog (Go.isAgg 55) w = Go.Result.ok Bool.false w := fun _ => (rfl)
theorem Sq.ntmps37 : Try.f37.ntmps = 12 := rfl
@[simp] theorem Sq.func36 : Sq.prog.funcs[36]? = Option.some Try.f36 := (rfl)
@[simp] theorem Sq.stoodInHeld51 : Sq.prog.stoodInHeld 51 = Bool.false := by kernel_rfl
@[simp] theorem Sq.runUnderlying31 : ∀ (w : Go.World), Go.Sem.run Sq.prog (Go.underlying 31) w = Go.Result.ok (Go.TypeDesc.func #[27, 27] #[4] Bool.false) w := fun _ => (rfl)
theorem Sq.results79 : Try.f79.results = #[] := rfl
theorem Sq.nfree55 : Try.f55.nfree = 0 := rfl
@[simp] theorem Sq.isAgg12 : ∀ (w : Go.World), Go.Sem.run Sq.prog (Go.isAgg 12) w = Go.Result.ok Bool.false w := fun _ => (rfl)
@[simp] theorem Sq.underlying107 : Sq.prog.underlying 107 = Option.some (Go.TypeDesc.int Go.IntKind.i32) := (rfl)
theorem Sq.params57 : Try.f57.params = #[2] := rfl
@[simp] theorem Sq.type102 : Sq.prog.types[102]? = Option.some Try.t102 := (rfl)
@[simp] theorem Sq.isAgg47 : ∀ (w : Go.World), Go.Sem.run Sq.prog (Go.isAgg 47) w = Go.Result.ok Bool.false w := fun _ => (rfl)
@[simp] theorem Sq.zeroValue70 : ∀ (w : Go.World), Go.Sem.run Sq.prog (Go.zeroValue 70) w = Go.Result.ok Go.Value.nilFunc w := fun _ => (rfl)
theorem Sq.nfree63 : Try.f63.nfree = 0 := rfl
theorem Sq.ntmps81 : Try.f81.ntmps = 58 := rfl
@[simp] theorem Sq.call78 : ∀ (args : Array Go.Value) (w : Go.World), Go.Sem.run Sq.prog (Go.callFunc 78 args) w = Go.Result.ok (Go.Next.enter 78 args) w := fun _ _ => (rfl)
theorem Sq.results95 : Try.f95.results = #[] := rfl
@[simp] theorem Sq.type48 : Sq.prog.types[48]? = Option.some Try.t48 := (rfl)
@[simp] theorem Sq.zeroValue39 : ∀ (w : Go.World), Go.Sem.run Sq.prog (Go.zeroValue 39) w = Go.Result.ok (Go.Value.agg #[Go.Value.slice Option.none 0 0, Go.Value.slice Option.none 0 0]) w := fun _ => (rfl)
theorem Sq.params40 : Try.f40.params = #[61, 2, 2] := rfl
@[simp] theorem Sq.underlying59 : Sq.prog.underlying 59 = Option.some (Go.TypeDesc.func #[52, 52] #[4] Bool.false) := (rfl)
@[simp] theorem Sq.sizeOf86 : ∀ (w : Go.World), Go.Sem.run Sq.prog (Go.sizeOf 86) w = Go.Result.ok 1 w := fun _ => (rfl)
@[simp] theorem Sq.runUnderlying32 : ∀ (w : Go.World), Go.Sem.run Sq.prog (Go.underlying 32) w = Go.Result.ok (Go.TypeDesc.func #[27, 3] #[3] Bool.false) w := fun _ => (rfl)
theorem Sq.nfree94 : Try.f94.nfree = 0 := rfl
@[simp] theorem Sq.typeInfo34 : ∀ (w : Go.World), Go.Sem.run Sq.prog (Go.typeInfo 34) w = Go.Result.ok Try.t34 w := fun _ => (rfl)
@[simp] theorem Sq.type105 : Sq.prog.types[105]? = Option.some Try.t105 := (rfl)
@[simp] theorem Sq.func94 : Sq.prog.funcs[94]? = Option.some Try.f94 := (rfl)
theorem Sq.results44 : Try.f44.results = #[Go.ResultVar.tmp 2, Go.ResultVar.tmp 3] := rfl
@[simp] theorem Sq.zeroValue82 : ∀ (w : Go.World), Go.Sem.run Sq.prog (Go.zeroValue 82) w = Go.Result.ok Go.Value.nilFunc w := fun _ => (rfl)
theorem Sq.results22 : Try.f22.results = #[Go.ResultVar.tmp 6, Go.ResultVar.tmp 7] := rfl
theorem Sq.nfree0 : Try.f0.nfree = 0 := rfl
theorem Sq.params30 : Try.f30.params = #[27] := rfl
@[simp] theorem Sq.typeInfo64 : ∀ (w : Go.World), Go.Sem.run Sq.prog (Go.typeInfo 64) w = Go.Result.ok Try.t64 w := fun _ => (rfl)
theorem Sq.nfree39 : Try.f39.nfree = 0 := rfl
theorem Sq.results42 : Try.f42.results = #[Go.ResultVar.tmp 4] := rfl
@[simp] theorem Sq.type10 : Sq.prog.types[10]? = Option.some Try.t10 := (rfl)
@[simp] theorem Sq.call4 : ∀ (args : Array Go.Value) (w : Go.World), Go.Sem.run Sq.prog (Go.callFunc 4 args) w = Go.Result.ok (Go.Next.enter 4 args) w := fun _ _ => (rfl)
@[simp] theorem Sq.func33 : Sq.prog.funcs[33]? = Option.some Sq.f33 := (rfl)
@[simp] theorem Sq.func51 : Sq.prog.funcs[51]? = Option.some Try.f51 := (rfl)
theorem Sq.ntmps2 : Try.f2.ntmps = 1 := rfl
theorem Sq.params1 : Try.f1.params = #[] := rfl
@[simp] theorem Sq.typeInfo89 : ∀ (w : Go.World), Go.Sem.run Sq.prog (Go.typeInfo 89) w = Go.Result.ok Try.t89 w := fun _ => (rfl)
@[simp] theorem Sq.underlying73 : Sq.prog.underlying 73 = Option.some (Go.TypeDesc.func #[2, 2, 2] #[2] Bool.false) := (rfl)
@[simp] theorem Sq.underlying63 : Sq.prog.underlying 63 = Option.some (Go.TypeDesc.func #[39, 2, 2] #[4] Bool.false) := (rfl)
theorem Sq.params70 : Try.f70.params = #[23, 48] := rfl
@[simp] theorem Sq.typeInfo18 : ∀ (w : Go.World), Go.Sem.run Sq.prog (Go.typeInfo 18) w = Go.Result.ok Try.t18 w := fun _ => (rfl)
theorem Sq.results8 : Try.f8.results = #[Go.ResultVar.tmp 2] := rfl
theorem Sq.params83 : Try.f83.params = #[8] := rfl
@[simp] theorem Sq.runUnderlying86 : ∀ (w : Go.World), Go.Sem.run Sq.prog (Go.underlying 86) w = Go.Result.ok (Go.TypeDesc.int Go.IntKind.u64) w := fun _ => (rfl)
@[simp] theorem Sq.zeroValue92 : ∀ (w : Go.World), Go.Sem.run Sq.prog (Go.zeroValue 92) w = Go.Result.ok Go.Value.nilFunc w := fun _ => (rfl)
@[simp] theorem Sq.typeInfo85 : ∀ (w : Go.World), Go.Sem.run Sq.prog (Go.typeInfo 85) w = Go.Result.ok Try.t85 w := fun _ => (rfl)
@[simp] theorem Sq.isAgg52 : ∀ (w : Go.World), Go.Sem.run Sq.prog (Go.isAgg 52) w = Go.Result.ok Bool.true w := fun _ => (rfl)
@[simp] theorem Sq.func64 : Sq.prog.funcs[64]? = Option.some Try.f64 := (rfl)
@[simp] theorem Sq.typeInfo73 : ∀ (w : Go.World), Go.Sem.run Sq.prog (Go.typeInfo 73) w = Go.Result.ok Try.t73 w := fun _ => (rfl)
@[simp] theorem Sq.zeroValue17 : ∀ (w : Go.World), Go.Sem.run Sq.prog (Go.zeroValue 17) w = Go.Result.ok (Go.Value.pointer Option.none) w := fun _ => (rfl)
theorem Sq.nfree24 : Try.f24.nfree = 0 := rfl
theorem Sq.results29 : Try.f29.results = #[Go.ResultVar.cell 2 52] := rfl
@[simp] theorem Sq.typeInfo82 : ∀ (w : Go.World), Go.Sem.run Sq.prog (Go.typeInfo 82) w = Go.Result.ok Try.t82 w := fun _ => (rfl)
@[simp] theorem Sq.isAgg51 : ∀ (w : Go.World), Go.Sem.run Sq.prog (Go.isAgg 51) w = Go.Result.ok Bool.true w := fun _ => (rfl)
@[simp] theorem Sq.typeInfo69 : ∀ (w : Go.World), Go.Sem.run Sq.prog (Go.typeInfo 69) w = Go.Result.ok Try.t69 w := fun _ => (rfl)
theorem Sq.nfree12 : Try.f12.nfree = 0 := rfl
theorem Sq.params16 : Try.f16.params = #[36, 3] := rfl
@[simp] theorem Sq.sizeOf99 : ∀ (w : Go.World), Go.Sem.run Sq.prog (Go.sizeOf 99) w = Go.Result.ok 0 w := fun _ => (rfl)
@[simp] theorem Sq.isAgg63 : ∀ (w : Go.World), Go.Sem.run Sq.prog (Go.isAgg 63) w = Go.Result.ok Bool.false w := fun _ => (rfl)
@[simp] theorem Sq.type104 : Sq.prog.types[104]? = Option.some Try.t104 := (rfl)
@[simp] theorem Sq.type109 : Sq.prog.types[109]? = Option.some Try.t109 := (rfl)
theorem Sq.results37 : Try.f37.results = #[Go.ResultVar.tmp 4] := rfl
@[simp] theorem Sq.zeroValue42 : ∀ (w : Go.World), Go.Sem.run Sq.prog (Go.zeroValue 42) w = Go.Result.ok Go.Value.nilFunc w := fun _ => (rfl)
@[simp] theorem Sq.type67 : Sq.prog.types[67]? = Option.some Try.t67 := (rfl)
@[simp] theorem Sq.type43 : Sq.prog.types[43]? = Option.some Try.t43 := (rfl)
theorem Sq.params26 : Try.f26.params = #[2] := rfl
@[simp] theorem Sq.func6 : Sq.prog.funcs[6]? = Option.some Try.f6 := (rfl)
@[simp] theorem Sq.sizeOf60 : ∀ (w : Go.World), Go.Sem.run Sq.prog (Go.sizeOf 60) w = Go.Result.ok 1 w := fun _ => (rfl)
theorem Sq.nfree97 : Try.f97.nfree = 0 := rfl
@[simp] theorem Sq.typeInfo76 : ∀ (w : Go.World), Go.Sem.run Sq.prog (Go.typeInfo 76) w = Go.Result.ok Try.t76 w := fun _ => (rfl)
@[simp] theorem Sq.eqGuardType51 : Sq.prog.eqGuardType Sq.prog.depth 51 = Bool.false := by kernel_rfl
theorem Sq.nfree95 : Try.f95.nfree = 0 := rfl
@[simp] theorem Sq.underlying30 : Sq.prog.underlying 30 = Option.some (Go.TypeDesc.func #[23, 23] #[4] Bool.false) := (rfl)
@[simp] theorem Sq.call64 : ∀ (args : Array Go.Value) (w : Go.World), Go.Sem.run Sq.prog (Go.callFunc 64 args) w = Go.Result.ok (Go.Next.enter 64 args) w := fun _ _ => (rfl)
@[simp] theorem Sq.zeroValue102 : ∀ (w : Go.World), Go.Sem.run Sq.prog (Go.zeroValue 102) w = Go.Result.ok (Go.Value.int Go.IntKind.u32 0) w := fun _ => (rfl)
theorem Sq.params58 : Try.f58.params = #[2, 2, 2] := rfl
@[simp] theorem Sq.runUnderlying2 : ∀ (w : Go.World), Go.Sem.run Sq.prog (Go.underlying 2) w = Go.Result.ok (Go.TypeDesc.int Go.IntKind.i64) w := fun _ => (rfl)
@[simp] theorem Sq.runUnderlying23 : ∀ (w : Go.World), Go.Sem.run Sq.prog (Go.underlying 23) w = Go.Result.ok (Go.TypeDesc.slice 2) w := fun _ => (rfl)
@[simp] theorem Sq.underlying66 : Sq.prog.underlying 66 = Option.some (Go.TypeDesc.func #[2, 23, 2] #[23] Bool.false) := (rfl)
theorem Sq.ntmps84 : Try.f84.ntmps = 1 := rfl
@[simp] theorem Sq.underlying102 : Sq.prog.underlying 102 = Option.some (Go.TypeDesc.int Go.IntKind.u32) := (rfl)
@[simp] theorem Sq.zeroValue58 : ∀ (w : Go.World), Go.Sem.run Sq.prog (Go.zeroValue 58) w = Go.Result.ok Go.Value.nilFunc w := fun _ => (rfl)
@[simp] theorem Sq.func45 : Sq.prog.funcs[45]? = Option.some Try.f45 := (rfl)
@[simp] theorem Sq.zeroValue81 : ∀ (w : Go.World), Go.Sem.run Sq.prog (Go.zeroValue 81) w = Go.Result.ok Go.Value.nilFunc w := fun _ => (rfl)
theorem Sq.params75 : Try.f75.params = #[77] := rfl
@[simp] theorem Sq.underlying20 : Sq.prog.underlying 20 = Option.some (Go.TypeDesc.interface #[]) := (rfl)
@[simp] theorem Sq.zeroValue7 : ∀ (w : Go.World), Go.Sem.run Sq.prog (Go.zeroValue 7) w = Go.Result.ok (Go.Value.agg #[Go.Value.int Go.IntKind.i64 0, Go.Value.int Go.IntKind.i64 0, Go.Value.bool Bool.false, Go.Value.int Go.IntKind.u8 0]) w := fun _ => (rfl)
theorem Sq.nfree81 : Try.f81.nfree = 0 := rfl
@[simp] theorem Sq.zeroValue4 : ∀ (w : Go.World), Go.Sem.run Sq.prog (Go.zeroValue 4) w = Go.Result.ok (Go.Value.bool Bool.false) w := fun _ => (rfl)
@[simp] theorem Sq.call34 : ∀ (args : Array Go.Value) (w : Go.World), Go.Sem.run Sq.prog (Go.callFunc 34 args) w = Go.Result.ok (Go.Next.enter 34 args) w := fun _ _ => (rfl)
@[simp] theorem Sq.call37 : ∀ (args : Array Go.Value) (w : Go.World), Go.Sem.run Sq.prog (Go.callFunc 37 args) w = Go.Result.ok (Go.Next.enter 37 args) w := fun _ _ => (rfl)
@[simp] theorem Sq.typeInfo27 : ∀ (w : Go.World), Go.Sem.run Sq.prog (Go.typeInfo 27) w = Go.Result.ok Try.t27 w := fun _ => (rfl)
@[simp] theorem Sq.runUnderlying82 : ∀ (w : Go.World), Go.Sem.run Sq.prog (Go.underlying 82) w = Go.Result.ok (Go.TypeDesc.func #[77, 77, 77] #[77, 77] Bool.false) w := fun _ => (rfl)
@[simp] theorem Sq.call74 : ∀ (args : Array Go.Value) (w : Go.World), Go.Sem.run Sq.prog (Go.callFunc 74 args) w = Go.Result.ok (Go.Next.enter 74 args) w := fun _ _ => (rfl)
theorem Sq.results15 : Try.f15.results = #[Go.ResultVar.tmp 4] := rfl
theorem Sq.results61 : Try.f61.results = #[Go.ResultVar.tmp 2] := rfl
theorem Sq.ntmps29 : Try.f29.ntmps = 17 := rfl
@[simp] theorem Sq.runUnderlying10 : ∀ (w : Go.World), Go.Sem.run Sq.prog (Go.underlying 10) w = Go.Result.ok Go.TypeDesc.string w := fun _ => (rfl)
@[simp] theorem Sq.runUnderlying37 : ∀ (w : Go.World), Go.Sem.run Sq.prog (Go.underlying 37) w = Go.Result.ok (Go.TypeDesc.func #[36, 3] #[3] Bool.false) w := fun _ => (rfl)
@[simp] theorem Sq.zeroValue78 : ∀ (w : Go.World), Go.Sem.run Sq.prog (Go.zeroValue 78) w = Go.Result.ok (Go.Value.slice Option.none 0 0) w := fun _ => (rfl)
@[simp] theorem Sq.runUnderlying8 : ∀ (w : Go.World), Go.Sem.run Sq.prog (Go.underlying 8) w = Go.Result.ok (Go.TypeDesc.struct #[{ name := "x", type := 2, offset := 0, embedded := Bool.false, tag := "", pkgPath := "runtime", byteOffset := 0 }, { name := "y", type := 3, offset := 1, embedded := Bool.false, tag := "", pkgPath := "runtime", byteOffset := 8 }, { name := "signed", type := 4, offset := 2, embedded := Bool.false, tag := "", pkgPath := "runtime", byteOffset := 16 }, { name := "code", type := 6, offset := 3, embedded := Bool.false, tag := "", pkgPath := "runtime", byteOffset := 17 }]) w := fun _ => (rfl)
theorem Sq.results78 : Try.f78.results = #[Go.ResultVar.tmp 2] := rfl
@[simp] theorem Sq.type95 : Sq.prog.types[95]? = Option.some Try.t95 := (rfl)
@[simp] theorem Sq.zeroValue107 : ∀ (w : Go.World), Go.Sem.run Sq.prog (Go.zeroValue 107) w = Go.Result.ok (Go.Value.int Go.IntKind.i32 0) w := fun _ => (rfl)
@[simp] theorem Sq.typeInfo37 : ∀ (w : Go.World), Go.Sem.run Sq.prog (Go.typeInfo 37) w = Go.Result.ok Try.t37 w := fun _ => (rfl)
@[simp] theorem Sq.underlying109 : Sq.prog.underlying 109 = Option.some (Go.TypeDesc.struct #[{ name := "Size_", type := 12, offset := 0, embedded := Bool.false, tag := "", pkgPath := "", byteOffset := 0 }, { name := "PtrBytes", type := 12, offset := 1, embedded := Bool.false, tag := "", pkgPath := "", byteOffset := 8 }, { name := "Hash", type := 102, offset := 2, embedded := Bool.false, tag := "", pkgPath := "", byteOffset := 16 }, { name := "TFlag", type := 103, offset := 3, embedded := Bool.false, tag := "", pkgPath := "", byteOffset := 20 }, { name := "Align_", type := 5, offset := 4, embedded := Bool.false, tag := "", pkgPath := "", byteOffset := 21 }, { name := "FieldAlign_", type := 5, offset := 5, embedded := Bool.false, tag := "", pkgPath := "", byteOffset := 22 }, { name := "Kind_", type := 104, offset := 6, embedded := Bool.false, tag := "", pkgPath := "", byteOffset := 23 }, { name := "Equal", type := 105, offset := 7, embedded := Bool.false, tag := "", pkgPath := "", byteOffset := 24 }, { name := "GCData", type := 106, offset := 8, embedded := Bool.false, tag := "", pkgPath := "", byteOffset := 32 }, { name := "Str", type := 107, offset := 9, embedded := Bool.false, tag := "", pkgPath := "", byteOffset := 40 }, { name := "PtrToThis", type := 108, offset := 10, embedded := Bool.false, tag := "", pkgPath := "", byteOffset := 44 }]) := (rfl)
@[simp] theorem Sq.sizeOf80 : ∀ (w : Go.World), Go.Sem.run Sq.prog (Go.sizeOf 80) w = Go.Result.ok 1 w := fun _ => (rfl)
theorem Sq.params66 : Try.f66.params = #[77, 77] := rfl
@[simp] theorem Sq.type40 : Sq.prog.types[40]? = Option.some Try.t40 := (rfl)
@[simp] theorem Sq.runUnderlying88 : ∀ (w : Go.World), Go.Sem.run Sq.prog (Go.underlying 88) w = Go.Result.ok (Go.TypeDesc.interface #[("Error", 95)]) w := fun _ => (rfl)
theorem Sq.nfree87 : Try.f87.nfree = 0 := rfl
@[simp] theorem Sq.type9 : Sq.prog.types[9]? = Option.some Try.t9 := (rfl)
@[simp] theorem Sq.runUnderlying20 : ∀ (w : Go.World), Go.Sem.run Sq.prog (Go.underlying 20) w = Go.Result.ok (Go.TypeDesc.interface #[]) w := fun _ => (rfl)
@[simp] theorem Sq.sizeOf113 : ∀ (w : Go.World), Go.Sem.run Sq.prog (Go.sizeOf 113) w = Go.Result.ok 1 w := fun _ => (rfl)
@[simp] theorem Sq.zeroValue114 : ∀ (w : Go.World), Go.Sem.run Sq.prog (Go.zeroValue 114) w = Go.Result.ok (Go.Value.pointer Option.none) w := fun _ => (rfl)
@[simp] theorem Sq.sizeOf81 : ∀ (w : Go.World), Go.Sem.run Sq.prog (Go.sizeOf 81) w = Go.Result.ok 1 w := fun _ => (rfl)
@[simp] theorem Sq.isAgg42 : ∀ (w : Go.World), Go.Sem.run Sq.prog (Go.isAgg 42) w = Go.Result.ok Bool.false w := fun _ => (rfl)
@[simp] theorem Sq.underlying91 : Sq.prog.underlying 91 = Option.some (Go.TypeDesc.func #[23, 48] #[3] Bool.false) := (rfl)
@[simp] theorem Sq.sizeOf45 : ∀ (w : Go.World), Go.Sem.run Sq.prog (Go.sizeOf 45) w = Go.Result.ok 1 w := fun _ => (rfl)
@[simp] theorem Sq.underlying97 : Sq.prog.underlying 97 = Option.some (Go.TypeDesc.struct #[{ name := "_interface", type := 17, offset := 0, embedded := Bool.false, tag := "", pkgPath := "runtime", byteOffset := 0 }, { name := "concrete", type := 17, offset := 1, embedded := Bool.false, tag := "", pkgPath := "runtime", byteOffset := 8 }, { name := "asserted", type := 17, offset := 2, embedded := Bool.false, tag := "", pkgPath := "runtime", byteOffset := 16 }, { name := "missingMethod", type := 9, offset := 3, embedded := Bool.false, tag := "", pkgPath := "runtime", byteOffset := 24 }]) := (rfl)
@[simp] theorem Sq.type86 : Sq.prog.types[86]? = Option.some Try.t86 := (rfl)
@[simp] theorem Sq.runUnderlying113 : ∀ (w : Go.World), Go.Sem.run Sq.prog (Go.underlying 113) w = Go.Result.ok (Go.TypeDesc.struct #[{ name := "s", type := 9, offset := 0, embedded := Bool.false, tag := "", pkgPath := "errors", byteOffset := 0 }]) w := fun _ => (rfl)
@[simp] theorem Sq.isAgg19 : ∀ (w : Go.World), Go.Sem.run Sq.prog (Go.isAgg 19) w = Go.Result.ok Bool.true w := fun _ => (rfl)
@[simp] theorem Sq.runUnderlying62 : ∀ (w : Go.World), Go.Sem.run Sq.prog (Go.underlying 62) w = Go.Result.ok (Go.TypeDesc.func #[61, 2, 2] #[2] Bool.false) w := fun _ => (rfl)
@[simp] theorem Sq.isAgg23 : ∀ (w : Go.World), Go.Sem.run Sq.prog (Go.isAgg 23) w = Go.Result.ok Bool.false w := fun _ => (rfl)
@[simp] theorem Sq.stoodInHeld8 : Sq.prog.stoodInHeld 8 = Bool.false := by kernel_rfl
@[simp] theorem Sq.zeroValue110 : ∀ (w : Go.World), Go.Sem.run Sq.prog (Go.zeroValue 110) w = Go.Result.ok (Go.Value.agg #[Go.Value.int Go.IntKind.u64 0, Go.Value.int Go.IntKind.u64 0, Go.Value.int Go.IntKind.u32 0, Go.Value.int Go.IntKind.u8 0, Go.Value.int Go.IntKind.u8 0, Go.Value.int Go.IntKind.u8 0, Go.Value.int Go.IntKind.u8 0, Go.Value.nilFunc, Go.Value.pointer Option.none, Go.Value.int Go.IntKind.i32 0, Go.Value.int Go.IntKind.i32 0]) w := fun _ => (rfl)
@[simp] theorem Sq.underlying108 : Sq.prog.underlying 108 = Option.some (Go.TypeDesc.int Go.IntKind.i32) := (rfl)
@[simp] theorem Sq.type96 : Sq.prog.types[96]? = Option.some Try.t96 := (rfl)
@[simp] theorem Sq.func15 : Sq.prog.funcs[15]? = Option.some Try.f15 := (rfl)
@[simp] theorem Sq.func79 : Sq.prog.funcs[79]? = Option.some Try.f79 := (rfl)
theorem Sq.nfree36 : Try.f36.nfree = 0 := rfl
@[simp] theorem Sq.isAgg67 : ∀ (w : Go.World), Go.Sem.run Sq.prog (Go.isAgg 67) w = Go.Result.ok Bool.false w := fun _ => (rfl)
@[simp] theorem Sq.sizeOf91 : ∀ (w : Go.World), Go.Sem.run Sq.prog (Go.sizeOf 91) w = Go.Result.ok 1 w := fun _ => (rfl)
@[simp] theorem Sq.stoodInHeld18 : Sq.prog.stoodInHeld 18 = Bool.true := by kernel_rfl
theorem Sq.ntmps18 : Try.f18.ntmps = 13 := rfl
@[simp] theorem Sq.call24 : ∀ (args : Array Go.Value) (w : Go.World), Go.Sem.run Sq.prog (Go.callFunc 24 args) w = Go.Result.ok (Go.Next.enter 24 args) w := fun _ _ => (rfl)
@[simp] theorem Sq.isAgg58 : ∀ (w : Go.World), Go.Sem.run Sq.prog (Go.isAgg 58) w = Go.Result.ok Bool.false w := fun _ => (rfl)
theorem Sq.ntmps75 : Try.f75.ntmps = 6 := rfl
@[simp] theorem Sq.typeInfo90 : ∀ (w : Go.World), Go.Sem.run Sq.prog (Go.typeInfo 90) w = Go.Result.ok Try.t90 w := fun _ => (rfl)
@[simp] theorem Sq.type38 : Sq.prog.types[38]? = Option.some Try.t38 := (rfl)
theorem Sq.params67 : Try.f67.params = #[77, 77, 77] := rfl
@[simp] theorem Sq.call36 : ∀ (args : Array Go.Value) (w : Go.World), Go.Sem.run Sq.prog (Go.callFunc 36 args) w = Go.Result.ok (Go.Next.enter 36 args) w := fun _ _ => (rfl)
theorem Sq.nfree80 : Try.f80.nfree = 0 := rfl
@[simp] theorem Sq.typeInfo8 : ∀ (w : Go.World), Go.Sem.run Sq.prog (Go.typeInfo 8) w = Go.Result.ok Try.t8 w := fun _ => (rfl)
@[simp] theorem Sq.zeroValue109 : ∀ (w : Go.World), Go.Sem.run Sq.prog (Go.zeroValue 109) w = Go.Result.ok (Go.Value.agg #[Go.Value.int Go.IntKind.u64 0, Go.Value.int Go.IntKind.u64 0, Go.Value.int Go.IntKind.u32 0, Go.Value.int Go.IntKind.u8 0, Go.Value.int Go.IntKind.u8 0, Go.Value.int Go.IntKind.u8 0, Go.Value.int Go.IntKind.u8 0, Go.Value.nilFunc, Go.Value.pointer Option.none, Go.Value.int Go.IntKind.i32 0, Go.Value.int Go.IntKind.i32 0]) w := fun _ => (rfl)
@[simp] theorem Sq.typeInfo39 : ∀ (w : Go.World), Go.Sem.run Sq.prog (Go.typeInfo 39) w = Go.Result.ok Try.t39 w := fun _ => (rfl)
@[simp] theorem Sq.zeroValue49 : ∀ (w : Go.World), Go.Sem.run Sq.prog (Go.zeroValue 49) w = Go.Result.ok Go.Value.nilFunc w := fun _ => (rfl)
theorem Sq.nfree38 : Try.f38.nfree = 0 := rfl
@[simp] theorem Sq.isAgg39 : ∀ (w : Go.World), Go.Sem.run Sq.prog (Go.isAgg 39) w = Go.Result.ok Bool.true w := fun _ => (rfl)
@[simp] theorem Sq.runUnderlying79 : ∀ (w : Go.World), Go.Sem.run Sq.prog (Go.underlying 79) w = Go.Result.ok (Go.TypeDesc.slice 77) w := fun _ => (rfl)
theorem Sq.nfree41 : Try.f41.nfree = 0 := rfl
@[simp] theorem Sq.sizeOf1 : ∀ (w : Go.World), Go.Sem.run Sq.prog (Go.sizeOf 1) w = Go.Result.ok 1 w := fun _ => (rfl)
@[simp] theorem Sq.eqGuardType39 : Sq.prog.eqGuardType Sq.prog.depth 39 = Bool.false := by kernel_rfl
@[simp] theorem Sq.runUnderlying100 : ∀ (w : Go.World), Go.Sem.run Sq.prog (Go.underlying 100) w = Go.Result.ok (Go.TypeDesc.struct #[{ name := "_", type := 98, offset := 0, embedded := Bool.false, tag := "", pkgPath := "runtime", byteOffset := 0 }]) w := fun _ => (rfl)
@[simp] theorem Sq.sizeOf29 : ∀ (w : Go.World), Go.Sem.run Sq.prog (Go.sizeOf 29) w = Go.Result.ok 1 w := fun _ => (rfl)
@[simp] theorem Sq.isAgg30 : ∀ (w : Go.World), Go.Sem.run Sq.prog (Go.isAgg 30) w = Go.Result.ok Bool.false w := fun _ => (rfl)
@[simp] theorem Sq.underlying92 : Sq.prog.underlying 92 = Option.some (Go.TypeDesc.func #[78, 3, 3, 84] #[] Bool.false) := (rfl)
@[simp] theorem Sq.func32 : Sq.prog.funcs[32]? = Option.some Try.f32 := (rfl)
theorem Sq.ntmps7 : Try.f7.ntmps = 63 := rfl
@[simp] theorem Sq.isAgg10 : ∀ (w : Go.World), Go.Sem.run Sq.prog (Go.isAgg 10) w = Go.Result.ok Bool.false w := fun _ => (rfl)
@[simp] theorem Sq.sizeOf68 : ∀ (w : Go.World), Go.Sem.run Sq.prog (Go.sizeOf 68) w = Go.Result.ok 1 w := fun _ => (rfl)
@[simp] theorem Sq.runUnderlying54 : ∀ (w : Go.World), Go.Sem.run Sq.prog (Go.underlying 54) w = Go.Result.ok (Go.TypeDesc.struct #[{ name := "Day", type := 2, offset := 0, embedded := Bool.false, tag := "", pkgPath := "", byteOffset := 0 }, { name := "Debit", type := 2, offset := 1, embedded := Bool.false, tag := "", pkgPath := "", byteOffset := 8 }, { name := "Credit", type := 2, offset := 2, embedded := Bool.false, tag := "", pkgPath := "", byteOffset := 16 }, { name := "Cents", type := 2, offset := 3, embedded := Bool.false, tag := "", pkgPath := "", byteOffset := 24 }]) w := fun _ => (rfl)
@[simp] theorem Sq.typeInfo94 : ∀ (w : Go.World), Go.Sem.run Sq.prog (Go.typeInfo 94) w = Go.Result.ok Try.t94 w := fun _ => (rfl)
@[simp] theorem Sq.underlying112 : Sq.prog.underlying 112 = Option.some (Go.TypeDesc.struct #[{ name := "s", type := 9, offset := 0, embedded := Bool.false, tag := "", pkgPath := "errors", byteOffset := 0 }]) := (rfl)
theorem Sq.ntmps66 : Try.f66.ntmps = 51 := rfl
@[simp] theorem Sq.eqGuardType113 : Sq.prog.eqGuardType Sq.prog.depth 113 = Bool.false := by kernel_rfl
theorem Sq.nfree57 : Try.f57.nfree = 0 := rfl
theorem Sq.params90 : Try.f90.params = #[14] := rfl
@[simp] theorem Sq.sizeOf98 : ∀ (w : Go.World), Go.Sem.run Sq.prog (Go.sizeOf 98) w = Go.Result.ok 0 w := fun _ => (rfl)
@[simp] theorem Sq.zeroValue104 : ∀ (w : Go.World), Go.Sem.run Sq.prog (Go.zeroValue 104) w = Go.Result.ok (Go.Value.int Go.IntKind.u8 0) w := fun _ => (rfl)
@[simp] theorem Sq.runUnderlying74 : ∀ (w : Go.World), Go.Sem.run Sq.prog (Go.underlying 74) w = Go.Result.ok (Go.TypeDesc.func #[61, 2] #[2] Bool.false) w := fun _ => (rfl)
theorem Sq.ntmps9 : Try.f9.ntmps = 22 := rfl
theorem Sq.ntmps31 : Try.f31.ntmps = 27 := rfl
theorem Sq.params54 : Try.f54.params = #[] := rfl
@[simp] theorem Sq.sizeOf77 : ∀ (w : Go.World), Go.Sem.run Sq.prog (Go.sizeOf 77) w = Go.Result.ok 1 w := fun _ => (rfl)
@[simp] theorem Sq.underlying88 : Sq.prog.underlying 88 = Option.some (Go.TypeDesc.interface #[("Error", 95)]) := (rfl)
@[simp] theorem Sq.call45 : ∀ (args : Array Go.Value) (w : Go.World), Go.Sem.run Sq.prog (Go.callFunc 45 args) w = Go.Result.ok (Go.Next.enter 45 args) w := fun _ _ => (rfl)
theorem Sq.nfree90 : Try.f90.nfree = 0 := rfl
@[simp] theorem Sq.call53 : ∀ (args : Array Go.Value) (w : Go.World), Go.Sem.run Sq.prog (Go.callFunc 53 args) w = Go.Result.ok (Go.Next.enter 53 args) w := fun _ _ => (rfl)
@[simp] theorem Sq.type89 : Sq.prog.types[89]? = Option.some Try.t89 := (rfl)
theorem Sq.results34 : Try.f34.results = #[Go.ResultVar.tmp 3] := rfl
@[simp] theorem Sq.isAgg5 : ∀ (w : Go.World), Go.Sem.run Sq.prog (Go.isAgg 5) w = Go.Result.ok Bool.false w := fun _ => (rfl)
theorem Sq.params63 : Try.f63.params = #[2, 2, 2] := rfl
@[simp] theorem Sq.zeroValue40 : ∀ (w : Go.World), Go.Sem.run Sq.prog (Go.zeroValue 40) w = Go.Result.ok Go.Value.nilFunc w := fun _ => (rfl)
@[simp] theorem Sq.func78 : Sq.prog.funcs[78]? = Option.some Try.f78 := (rfl)
@[simp] theorem Sq.type49 : Sq.prog.types[49]? = Option.some Try.t49 := (rfl)
@[simp] theorem Sq.func44 : Sq.prog.funcs[44]? = Option.some Try.f44 := (rfl)
@[simp] theorem Sq.typeInfo111 : ∀ (w : Go.World), Go.Sem.run Sq.prog (Go.typeInfo 111) w = Go.Result.ok Try.t111 w := fun _ => (rfl)
theorem Sq.nfree71 : Try.f71.nfree = 2 := rfl
@[simp] theorem Sq.type71 : Sq.prog.types[71]? = Option.some Try.t71 := (rfl)
@[simp] theorem Sq.runUnderlying63 : ∀ (w : Go.World), Go.Sem.run Sq.prog (Go.underlying 63) w = Go.Result.ok (Go.TypeDesc.func #[39, 2, 2] #[4] Bool.false) w := fun _ => (rfl)
@[simp] theorem Sq.isAgg104 : ∀ (w : Go.World), Go.Sem.run Sq.prog (Go.isAgg 104) w = Go.Result.ok Bool.false w := fun _ => (rfl)
@[simp] theorem Sq.underlying81 : Sq.prog.underlying 81 = Option.some (Go.TypeDesc.func #[77, 77] #[77, 77] Bool.false) := (rfl)
@[simp] theorem Sq.underlying22 : Sq.prog.underlying 22 = Option.some (Go.TypeDesc.slice 54) := (rfl)
theorem Sq.nfree32 : Try.f32.nfree = 0 := rfl
@[simp] theorem Sq.func55 : Sq.prog.funcs[55]? = Option.some Try.f55 := (rfl)
@[simp] theorem Sq.underlying61 : Sq.prog.underlying 61 = Option.some (Go.TypeDesc.pointer 39) := (rfl)
@[simp] theorem Sq.call25 : ∀ (args : Array Go.Value) (w : Go.World), Go.Sem.run Sq.prog (Go.callFunc 25 args) w = Go.Result.ok (Go.Next.enter 25 args) w := fun _ _ => (rfl)
theorem Sq.results91 : Try.f91.results = #[] := rfl
@[simp] theorem Sq.runUnderlying46 : ∀ (w : Go.World), Go.Sem.run Sq.prog (Go.underlying 46) w = Go.Result.ok (Go.TypeDesc.func #[27] #[4] Bool.false) w := fun _ => (rfl)
theorem Sq.results68 : Try.f68.results = #[] := rfl
@[simp] theorem Sq.sizeOf76 : ∀ (w : Go.World), Go.Sem.run Sq.prog (Go.sizeOf 76) w = Go.Result.ok 1 w := fun _ => (rfl)
@[simp] theorem Sq.type44 : Sq.prog.types[44]? = Option.some Try.t44 := (rfl)
@[simp] theorem Sq.typeInfo108 : ∀ (w : Go.World), Go.Sem.run Sq.prog (Go.typeInfo 108) w = Go.Result.ok Try.t108 w := fun _ => (rfl)
@[simp] theorem Sq.func88 : Sq.prog.funcs[88]? = Option.some Try.f88 := (rfl)
theorem Sq.ntmps100 : Try.f100.ntmps = 1 := rfl
theorem Sq.params21 : Try.f21.params = #[39, 3] := rfl
theorem Sq.results21 : Try.f21.results = #[Go.ResultVar.tmp 4] := rfl
theorem Sq.nfree26 : Try.f26.nfree = 0 := rfl
theorem Sq.params18 : Try.f18.params = #[36] := rfl
@[simp] theorem Sq.runUnderlying12 : ∀ (w : Go.World), Go.Sem.run Sq.prog (Go.underlying 12) w = Go.Result.ok (Go.TypeDesc.int Go.IntKind.u64) w := fun _ => (rfl)
@[simp] theorem Sq.isAgg95 : ∀ (w : Go.World), Go.Sem.run Sq.prog (Go.isAgg 95) w = Go.Result.ok Bool.false w := fun _ => (rfl)
@[simp] theorem Sq.underlying41 : Sq.prog.underlying 41 = Option.some (Go.TypeDesc.func #[39, 39] #[4] Bool.false) := (rfl)
@[simp] theorem Sq.func59 : Sq.prog.funcs[59]? = Option.some Try.f59 := (rfl)
@[simp] theorem Sq.sizeOf33 : ∀ (w : Go.World), Go.Sem.run Sq.prog (Go.sizeOf 33) w = Go.Result.ok 1 w := fun _ => (rfl)
@[simp] theorem Sq.isAgg24 : ∀ (w : Go.World), Go.Sem.run Sq.prog (Go.isAgg 24) w = Go.Result.ok Bool.false w := fun _ => (rfl)
@[simp] theorem Sq.isAgg113 : ∀ (w : Go.World), Go.Sem.run Sq.prog (Go.isAgg 113) w = Go.Result.ok Bool.true w := fun _ => (rfl)
@[simp] theorem Sq.underlying70 : Sq.prog.underlying 70 = Option.some (Go.TypeDesc.func #[23, 2, 2] #[4] Bool.false) := (rfl)
theorem Sq.ntmps80 : Try.f80.ntmps = 220 := rfl
@[simp] theorem Sq.isAgg7 : ∀ (w : Go.World), Go.Sem.run Sq.prog (Go.isAgg 7) w = Go.Result.ok Bool.true w := fun _ => (rfl)
@[simp] theorem Sq.runUnderlying66 : ∀ (w : Go.World), Go.Sem.run Sq.prog (Go.underlying 66) w = Go.Result.ok (Go.TypeDesc.func #[2, 23, 2] #[23] Bool.false) w := fun _ => (rfl)
theorem Sq.results88 : Try.f88.results = #[] := rfl
@[simp] theorem Sq.typeInfo77 : ∀ (w : Go.World), Go.Sem.run Sq.prog (Go.typeInfo 77) w = Go.Result.ok Try.t77 w := fun _ => (rfl)
theorem Sq.params0 : Try.f0.params = #[] := rfl
@[simp] theorem Sq.type85 : Sq.prog.types[85]? = Option.some Try.t85 := (rfl)
@[simp] theorem Sq.runUnderlying49 : ∀ (w : Go.World), Go.Sem.run Sq.prog (Go.underlying 49) w = Go.Result.ok (Go.TypeDesc.func #[27, 2] #[23] Bool.false) w := fun _ => (rfl)
@[simp] theorem Sq.call50 : ∀ (args : Array Go.Value) (w : Go.World), Go.Sem.run Sq.prog (Go.callFunc 50 args) w = Go.Result.ok (Go.Next.enter 50 args) w := fun _ _ => (rfl)
theorem Sq.nfree9 : Try.f9.nfree = 0 := rfl
@[simp] theorem Sq.type1 : Sq.prog.types[1]? = Option.some Try.t1 := (rfl)
@[simp] theorem Sq.type5 : Sq.prog.types[5]? = Option.some Try.t5 := (rfl)
@[simp] theorem Sq.isAgg106 : ∀ (w : Go.World), Go.Sem.run Sq.prog (Go.isAgg 106) w = Go.Result.ok Bool.false w := fun _ => (rfl)
@[simp] theorem Sq.typeInfo28 : ∀ (w : Go.World), Go.Sem.run Sq.prog (Go.typeInfo 28) w = Go.Result.ok Try.t28 w := fun _ => (rfl)
@[simp] theorem Sq.typeInfo49 : ∀ (w : Go.World), Go.Sem.run Sq.prog (Go.typeInfo 49) w = Go.Result.ok Try.t49 w := fun _ => (rfl)
@[simp] theorem Sq.typeInfo5 : ∀ (w : Go.World), Go.Sem.run Sq.prog (Go.typeInfo 5) w = Go.Result.ok Try.t5 w := fun _ => (rfl)
@[simp] theorem Sq.zeroValue52 : ∀ (w : Go.World), Go.Sem.run Sq.prog (Go.zeroValue 52) w = Go.Result.ok (Go.Value.agg #[Go.Value.int Go.IntKind.i64 0, Go.Value.int Go.IntKind.i64 0, Go.Value.int Go.IntKind.i64 0, Go.Value.int Go.IntKind.i64 0]) w := fun _ => (rfl)
@[simp] theorem Sq.underlying84 : Sq.prog.underlying 84 = Option.some (Go.TypeDesc.func #[3, 3] #[3] Bool.false) := (rfl)
theorem Sq.results14 : Try.f14.results = #[Go.ResultVar.tmp 4] := rfl
theorem Sq.params100 : Try.f100.params = #[104] := rfl
theorem Sq.nfree1 : Try.f1.nfree = 0 := rfl
theorem Sq.nfree14 : Try.f14.nfree = 0 := rfl
@[simp] theorem Sq.func56 : Sq.prog.funcs[56]? = Option.some Try.f56 := (rfl)
theorem Sq.results18 : Try.f18.results = #[Go.ResultVar.cell 2 39] := rfl
theorem Sq.ntmps63 : Try.f63.ntmps = 51 := rfl
theorem Sq.ntmps76 : Try.f76.ntmps = 63 := rfl
@[simp] theorem Sq.sizeOf92 : ∀ (w : Go.World), Go.Sem.run Sq.prog (Go.sizeOf 92) w = Go.Result.ok 1 w := fun _ => (rfl)
@[simp] theorem Sq.func82 : Sq.prog.funcs[82]? = Option.some Try.f82 := (rfl)
theorem Sq.results67 : Try.f67.results = #[Go.ResultVar.tmp 6, Go.ResultVar.tmp 7] := rfl
theorem Sq.results26 : Try.f26.results = #[Go.ResultVar.tmp 2] := rfl
@[simp] theorem Sq.func48 : Sq.prog.funcs[48]? = Option.some Try.f48 := (rfl)
@[simp] theorem Sq.func25 : Sq.prog.funcs[25]? = Option.some Try.f25 := (rfl)
@[simp] theorem Sq.type97 : Sq.prog.types[97]? = Option.some Try.t97 := (rfl)
theorem Sq.results100 : Try.f100.results = #[] := rfl
@[simp] theorem Sq.typeInfo7 : ∀ (w : Go.World), Go.Sem.run Sq.prog (Go.typeInfo 7) w = Go.Result.ok Try.t7 w := fun _ => (rfl)
@[simp] theorem Sq.stoodInHeld35 : Sq.prog.stoodInHeld 35 = Bool.false := by kernel_rfl
@[simp] theorem Sq.typeInfo19 : ∀ (w : Go.World), Go.Sem.run Sq.prog (Go.typeInfo 19) w = Go.Result.ok Try.t19 w := fun _ => (rfl)
theorem Sq.ntmps51 : Try.f51.ntmps = 5 := rfl
theorem Sq.nfree15 : Try.f15.nfree = 0 := rfl
@[simp] theorem Sq.zeroValue105 : ∀ (w : Go.World), Go.Sem.run Sq.prog (Go.zeroValue 105) w = Go.Result.ok Go.Value.nilFunc w := fun _ => (rfl)
@[simp] theorem Sq.runUnderlying35 : ∀ (w : Go.World), Go.Sem.run Sq.prog (Go.underlying 35) w = Go.Result.ok (Go.TypeDesc.struct #[{ name := "Breaks", type := 23, offset := 0, embedded := Bool.false, tag := "", pkgPath := "", byteOffset := 0 }, { name := "Rates", type := 23, offset := 1, embedded := Bool.false, tag := "", pkgPath := "", byteOffset := 24 }]) w := fun _ => (rfl)
@[simp] theorem Sq.call67 : ∀ (args : Array Go.Value) (w : Go.World), Go.Sem.run Sq.prog (Go.callFunc 67 args) w = Go.Result.ok (Go.Next.enter 67 args) w := fun _ _ => (rfl)
theorem Sq.ntmps4 : Try.f4.ntmps = 127 := rfl
@[simp] theorem Sq.zeroValue99 : ∀ (w : Go.World), Go.Sem.run Sq.prog (Go.zeroValue 99) w = Go.Result.ok (Go.Value.agg #[]) w := fun _ => (rfl)
@[simp] theorem Sq.runUnderlying105 : ∀ (w : Go.World), Go.Sem.run Sq.prog (Go.underlying 105) w = Go.Result.ok (Go.TypeDesc.func #[114, 114] #[4] Bool.false) w := fun _ => (rfl)
@[simp] theorem Sq.zeroValue41 : ∀ (w : Go.World), Go.Sem.run Sq.prog (Go.zeroValue 41) w = Go.Result.ok Go.Value.nilFunc w := fun _ => (rfl)
@[simp] theorem Sq.func53 : Sq.prog.funcs[53]? = Option.some Try.f53 := (rfl)
@[simp] theorem Sq.isAgg61 : ∀ (w : Go.World), Go.Sem.run Sq.prog (Go.isAgg 61) w = Go.Result.ok Bool.false w := fun _ => (rfl)
@[simp] theorem Sq.typeInfo78 : ∀ (w : Go.World), Go.Sem.run Sq.prog (Go.typeInfo 78) w = Go.Result.ok Try.t78 w := fun _ => (rfl)
theorem Sq.ntmps99 : Try.f99.ntmps = 1 := rfl
@[simp] theorem Sq.type72 : Sq.prog.types[72]? = Option.some Try.t72 := (rfl)
theorem Sq.nfree20 : Try.f20.nfree = 0 := rfl
@[simp] theorem Sq.sizeOf94 : ∀ (w : Go.World), Go.Sem.run Sq.prog (Go.sizeOf 94) w = Go.Result.ok 1 w := fun _ => (rfl)
theorem Sq.nfree58 : Try.f58.nfree = 0 := rfl
theorem Sq.results17 : Try.f17.results = #[Go.ResultVar.tmp 8, Go.ResultVar.tmp 9] := rfl
@[simp] theorem Sq.typeInfo46 : ∀ (w : Go.World), Go.Sem.run Sq.prog (Go.typeInfo 46) w = Go.Result.ok Try.t46 w := fun _ => (rfl)
theorem Sq.ntmps90 : Try.f90.ntmps = 1 := rfl
@[simp] theorem Sq.sizeOf85 : ∀ (w : Go.World), Go.Sem.run Sq.prog (Go.sizeOf 85) w = Go.Result.ok 1 w := fun _ => (rfl)
@[simp] theorem Sq.runUnderlying43 : ∀ (w : Go.World), Go.Sem.run Sq.prog (Go.underlying 43) w = Go.Result.ok (Go.TypeDesc.func #[36, 23, 2, 2] #[4] Bool.false) w := fun _ => (rfl)
@[simp] theorem Sq.func68 : Sq.prog.funcs[68]? = Option.some Try.f68 := (rfl)
@[simp] theorem Sq.isAgg43 : ∀ (w : Go.World), Go.Sem.run Sq.prog (Go.isAgg 43) w = Go.Result.ok Bool.false w := fun _ => (rfl)
@[simp] theorem Sq.runUnderlying73 : ∀ (w : Go.World), Go.Sem.run Sq.prog (Go.underlying 73) w = Go.Result.ok (Go.TypeDesc.func #[2, 2, 2] #[2] Bool.false) w := fun _ => (rfl)
@[simp] theorem Sq.typeInfo11 : ∀ (w : Go.World), Go.Sem.run Sq.prog (Go.typeInfo 11) w = Go.Result.ok Try.t11 w := fun _ => (rfl)
theorem Sq.params42 : Try.f42.params = #[2] := rfl
theorem Sq.nfree53 : Try.f53.nfree = 0 := rfl
@[simp] theorem Sq.sizeOf103 : ∀ (w : Go.World), Go.Sem.run Sq.prog (Go.sizeOf 103) w = Go.Result.ok 1 w := fun _ => (rfl)
@[simp] theorem Sq.runUnderlying103 : ∀ (w : Go.World), Go.Sem.run Sq.prog (Go.underlying 103) w = Go.Result.ok (Go.TypeDesc.int Go.IntKind.u8) w := fun _ => (rfl)
@[simp] theorem Sq.zeroValue86 : ∀ (w : Go.World), Go.Sem.run Sq.prog (Go.zeroValue 86) w = Go.Result.ok (Go.Value.int Go.IntKind.u64 0) w := fun _ => (rfl)
theorem Sq.results60 : Try.f60.results = #[Go.ResultVar.tmp 2] := rfl
@[simp] theorem Sq.isAgg112 : ∀ (w : Go.World), Go.Sem.run Sq.prog (Go.isAgg 112) w = Go.Result.ok Bool.true w := fun _ => (rfl)
theorem Sq.results83 : Try.f83.results = #[] := rfl
@[simp] theorem Sq.sizeOf52 : ∀ (w : Go.World), Go.Sem.run Sq.prog (Go.sizeOf 52) w = Go.Result.ok 4 w := fun _ => (rfl)
theorem Sq.results74 : Try.f74.results = #[Go.ResultVar.tmp 2] := rfl
theorem Sq.results0 : Try.f0.results = #[] := rfl
@[simp] theorem Sq.call44 : ∀ (args : Array Go.Value) (w : Go.World), Go.Sem.run Sq.prog (Go.callFunc 44 args) w = Go.Result.ok (Go.Next.enter 44 args) w := fun _ _ => (rfl)
@[simp] theorem Sq.underlying51 : Sq.prog.underlying 51 = Option.some (Go.TypeDesc.struct #[{ name := "Day", type := 2, offset := 0, embedded := Bool.false, tag := "", pkgPath := "", byteOffset := 0 }, { name := "Debit", type := 2, offset := 1, embedded := Bool.false, tag := "", pkgPath := "", byteOffset := 8 }, { name := "Credit", type := 2, offset := 2, embedded := Bool.false, tag := "", pkgPath := "", byteOffset := 16 }, { name := "Cents", type := 2, offset := 3, embedded := Bool.false, tag := "", pkgPath := "", byteOffset := 24 }]) := (rfl)
@[simp] theorem Sq.runUnderlying92 : ∀ (w : Go.World), Go.Sem.run Sq.prog (Go.underlying 92) w = Go.Result.ok (Go.TypeDesc.func #[78, 3, 3, 84] #[] Bool.false) w := fun _ => (rfl)
theorem Sq.ntmps79 : Try.f79.ntmps = 53 := rfl
@[simp] theorem Sq.sizeOf20 : ∀ (w : Go.World), Go.Sem.run Sq.prog (Go.sizeOf 20) w = Go.Result.ok 1 w := fun _ => (rfl)
theorem Sq.results49 : Try.f49.results = #[Go.ResultVar.tmp 2] := rfl
theorem Sq.params28 : Try.f28.params = #[2, 2] := rfl
theorem Sq.nfree76 : Try.f76.nfree = 0 := rfl
@[simp] theorem Sq.underlying45 : Sq.prog.underlying 45 = Option.some (Go.TypeDesc.func #[23, 23, 2] #[4] Bool.false) := (rfl)
@[simp] theorem Sq.zeroValue34 : ∀ (w : Go.World), Go.Sem.run Sq.prog (Go.zeroValue 34) w = Go.Result.ok Go.Value.nilFunc w := fun _ => (rfl)
@[simp] theorem Sq.sizeOf107 : ∀ (w : Go.World), Go.Sem.run Sq.prog (Go.sizeOf 107) w = Go.Result.ok 1 w := fun _ => (rfl)
@[simp] theorem Sq.zeroValue108 : ∀ (w : Go.World), Go.Sem.run Sq.prog (Go.zeroValue 108) w = Go.Result.ok (Go.Value.int Go.IntKind.i32 0) w := fun _ => (rfl)
@[simp] theorem Sq.type4 : Sq.prog.types[4]? = Option.some Try.t4 := (rfl)
theorem Sq.params8 : Try.f8.params = #[22] := rfl
@[simp] theorem Sq.zeroValue46 : ∀ (w : Go.World), Go.Sem.run Sq.prog (Go.zeroValue 46) w = Go.Result.ok Go.Value.nilFunc w := fun _ => (rfl)
@[simp] theorem Sq.type50 : Sq.prog.types[50]? = Option.some Try.t50 := (rfl)
@[simp] theorem Sq.call2 : ∀ (args : Array Go.Value) (w : Go.World), Go.Sem.run Sq.prog (Go.callFunc 2 args) w = Go.Result.ok (Go.Next.enter 2 args) w := fun _ _ => (rfl)
@[simp] theorem Sq.func61 : Sq.prog.funcs[61]? = Option.some Try.f61 := (rfl)
@[simp] theorem Sq.runUnderlying60 : ∀ (w : Go.World), Go.Sem.run Sq.prog (Go.underlying 60) w = Go.Result.ok (Go.TypeDesc.func #[61, 2, 2] #[4] Bool.false) w := fun _ => (rfl)
@[simp] theorem Sq.type22 : Sq.prog.types[22]? = Option.some Try.t22 := (rfl)
theorem Sq.params13 : Try.f13.params = #[27, 3] := rfl
theorem Sq.params61 : Try.f61.params = #[2] := rfl
theorem Sq.nfree62 : Try.f62.nfree = 0 := rfl
@[simp] theorem Sq.runUnderlying110 : ∀ (w : Go.World), Go.Sem.run Sq.prog (Go.underlying 110) w = Go.Result.ok (Go.TypeDesc.struct #[{ name := "Size_", type := 12, offset := 0, embedded := Bool.false, tag := "", pkgPath := "", byteOffset := 0 }, { name := "PtrBytes", type := 12, offset := 1, embedded := Bool.false, tag := "", pkgPath := "", byteOffset := 8 }, { name := "Hash", type := 102, offset := 2, embedded := Bool.false, tag := "", pkgPath := "", byteOffset := 16 }, { name := "TFlag", type := 103, offset := 3, embedded := Bool.false, tag := "", pkgPath := "", byteOffset := 20 }, { name := "Align_", type := 5, offset := 4, embedded := Bool.false, tag := "", pkgPath := "", byteOffset := 21 }, { name := "FieldAlign_", type := 5, offset := 5, embedded := Bool.false, tag := "", pkgPath := "", byteOffset := 22 }, { name := "Kind_", type := 104, offset := 6, embedded := Bool.false, tag := "", pkgPath := "", byteOffset := 23 }, { name := "Equal", type := 105, offset := 7, embedded := Bool.false, tag := "", pkgPath := "", byteOffset := 24 }, { name := "GCData", type := 106, offset := 8, embedded := Bool.false, tag := "", pkgPath := "", byteOffset := 32 }, { name := "Str", type := 107, offset := 9, embedded := Bool.false, tag := "", pkgPath := "", byteOffset := 40 }, { name := "PtrToThis", type := 108, offset := 10, embedded := Bool.false, tag := "", pkgPath := "", byteOffset := 44 }]) w := fun _ => (rfl)
@[simp] theorem Sq.runUnderlying17 : ∀ (w : Go.World), Go.Sem.run Sq.prog (Go.underlying 17) w = Go.Result.ok (Go.TypeDesc.pointer 110) w := fun _ => (rfl)
@[simp] theorem Sq.runUnderlying7 : ∀ (w : Go.World), Go.Sem.run Sq.prog (Go.underlying 7) w = Go.Result.ok (Go.TypeDesc.struct #[{ name := "x", type := 2, offset := 0, embedded := Bool.false, tag := "", pkgPath := "runtime", byteOffset := 0 }, { name := "y", type := 3, offset := 1, embedded := Bool.false, tag := "", pkgPath := "runtime", byteOffset := 8 }, { name := "signed", type := 4, offset := 2, embedded := Bool.false, tag := "", pkgPath := "runtime", byteOffset := 16 }, { name := "code", type := 6, offset := 3, embedded := Bool.false, tag := "", pkgPath := "runtime", byteOffset := 17 }]) w := fun _ => (rfl)
@[simp] theorem Sq.type33 : Sq.prog.types[33]? = Option.some Try.t33 := (rfl)
@[simp] theorem Sq.type13 : Sq.prog.types[13]? = Option.some Try.t13 := (rfl)
@[simp] theorem Sq.runUnderlying67 : ∀ (w : Go.World), Go.Sem.run Sq.prog (Go.underlying 67) w = Go.Result.ok (Go.TypeDesc.func #[23] #[4] Bool.false) w := fun _ => (rfl)
@[simp] theorem Sq.stoodInHeld113 : Sq.prog.stoodInHeld 113 = Bool.false := by kernel_rfl
theorem Sq.nfree77 : Try.f77.nfree = 0 := rfl
theorem Sq.results55 : Try.f55.results = #[Go.ResultVar.tmp 4] := rfl
@[simp] theorem Sq.type81 : Sq.prog.types[81]? = Option.some Try.t81 := (rfl)
@[simp] theorem Sq.type92 : Sq.prog.types[92]? = Option.some Try.t92 := (rfl)
@[simp] theorem Sq.func34 : Sq.prog.funcs[34]? = Option.some Try.f34 := (rfl)
@[simp] theorem Sq.typeInfo96 : ∀ (w : Go.World), Go.Sem.run Sq.prog (Go.typeInfo 96) w = Go.Result.ok Try.t96 w := fun _ => (rfl)
@[simp] theorem Sq.sizeOf78 : ∀ (w : Go.World), Go.Sem.run Sq.prog (Go.sizeOf 78) w = Go.Result.ok 1 w := fun _ => (rfl)
theorem Sq.ntmps69 : Try.f69.ntmps = 26 := rfl
theorem Sq.ntmps50 : Try.f50.ntmps = 5 := rfl
@[simp] theorem Sq.underlying74 : Sq.prog.underlying 74 = Option.some (Go.TypeDesc.func #[61, 2] #[2] Bool.false) := (rfl)
@[simp] theorem Sq.isAgg81 : ∀ (w : Go.World), Go.Sem.run Sq.prog (Go.isAgg 81) w = Go.Result.ok Bool.false w := fun _ => (rfl)
theorem Sq.ntmps36 : Try.f36.ntmps = 25 := rfl
@[simp] theorem Sq.func62 : Sq.prog.funcs[62]? = Option.some Try.f62 := (rfl)
theorem Sq.results41 : Try.f41.results = #[Go.ResultVar.tmp 6] := rfl
theorem Sq.params73 : Try.f73.params = #[2, 2] := rfl
@[simp] theorem Sq.zeroValue59 : ∀ (w : Go.World), Go.Sem.run Sq.prog (Go.zeroValue 59) w = Go.Result.ok Go.Value.nilFunc w := fun _ => (rfl)
@[simp] theorem Sq.isAgg14 : ∀ (w : Go.World), Go.Sem.run Sq.prog (Go.isAgg 14) w = Go.Result.ok Bool.true w := fun _ => (rfl)
@[simp] theorem Sq.sizeOf88 : ∀ (w : Go.World), Go.Sem.run Sq.prog (Go.sizeOf 88) w = Go.Result.ok 1 w := fun _ => (rfl)
@[simp] theorem Sq.func12 : Sq.prog.funcs[12]? = Option.some Try.f12 := (rfl)
@[simp] theorem Sq.func9 : Sq.prog.funcs[9]? = Option.some Try.f9 := (rfl)
@[simp] theorem Sq.stoodInHeld109 : Sq.prog.stoodInHeld 109 = Bool.true := by kernel_rfl
@[simp] theorem Sq.typeInfo40 : ∀ (w : Go.World), Go.Sem.run Sq.prog (Go.typeInfo 40) w = Go.Result.ok Try.t40 w := fun _ => (rfl)
@[simp] theorem Sq.typeInfo112 : ∀ (w : Go.World), Go.Sem.run Sq.prog (Go.typeInfo 112) w = Go.Result.ok Try.t112 w := fun _ => (rfl)
@[simp] theorem Sq.zeroValue85 : ∀ (w : Go.World), Go.Sem.run Sq.prog (Go.zeroValue 85) w = Go.Result.ok Go.Value.nilFunc w := fun _ => (rfl)
theorem Sq.nfree79 : Try.f79.nfree = 0 := rfl
@[simp] theorem Sq.runUnderlying58 : ∀ (w : Go.World), Go.Sem.run Sq.prog (Go.underlying 58) w = Go.Result.ok (Go.TypeDesc.func #[2] #[2] Bool.false) w := fun _ => (rfl)
theorem Sq.results62 : Try.f62.results = #[Go.ResultVar.tmp 2] := rfl
theorem Sq.nfree64 : Try.f64.nfree = 0 := rfl
theorem Sq.ntmps43 : Try.f43.ntmps = 12 := rfl
@[simp] theorem Sq.runUnderlying90 : ∀ (w : Go.World), Go.Sem.run Sq.prog (Go.underlying 90) w = Go.Result.ok (Go.TypeDesc.func #[78, 3, 84] #[] Bool.false) w := fun _ => (rfl)
@[simp] theorem Sq.call61 : ∀ (args : Array Go.Value) (w : Go.World), Go.Sem.run Sq.prog (Go.callFunc 61 args) w = Go.Result.ok (Go.Next.enter 61 args) w := fun _ _ => (rfl)
theorem Sq.params46 : Try.f46.params = #[23] := rfl
theorem Sq.ntmps12 : Try.f12.ntmps = 27 := rfl
@[simp] theorem Sq.runUnderlying48 : ∀ (w : Go.World), Go.Sem.run Sq.prog (Go.underlying 48) w = Go.Result.ok (Go.TypeDesc.func #[2] #[4] Bool.false) w := fun _ => (rfl)
@[simp] theorem Sq.underlying9 : Sq.prog.underlying 9 = Option.some Go.TypeDesc.string := (rfl)
@[simp] theorem Sq.type14 : Sq.prog.types[14]? = Option.some Try.t14 := (rfl)
theorem Sq.results96 : Try.f96.results = #[] := rfl
@[simp] theorem Sq.typeInfo98 : ∀ (w : Go.World), Go.Sem.run Sq.prog (Go.typeInfo 98) w = Go.Result.ok Try.t98 w := fun _ => (rfl)
@[simp] theorem Sq.typeInfo91 : ∀ (w : Go.World), Go.Sem.run Sq.prog (Go.typeInfo 91) w = Go.Result.ok Try.t91 w := fun _ => (rfl)
@[simp] theorem Sq.func87 : Sq.prog.funcs[87]? = Option.some Try.f87 := (rfl)
@[simp] theorem Sq.underlying79 : Sq.prog.underlying 79 = Option.some (Go.TypeDesc.slice 77) := (rfl)
@[simp] theorem Sq.underlying53 : Sq.prog.underlying 53 = Option.some (Go.TypeDesc.func #[54] #[52] Bool.false) := (rfl)
theorem Sq.params49 : Try.f49.params = #[2] := rfl
theorem Sq.ntmps13 : Try.f13.ntmps = 41 := rfl
@[simp] theorem Sq.underlying36 : Sq.prog.underlying 36 = Option.some (Go.TypeDesc.struct #[{ name := "Breaks", type := 23, offset := 0, embedded := Bool.false, tag := "", pkgPath := "", byteOffset := 0 }, { name := "Rates", type := 23, offset := 1, embedded := Bool.false, tag := "", pkgPath := "", byteOffset := 24 }]) := (rfl)
@[simp] theorem Sq.call29 : ∀ (args : Array Go.Value) (w : Go.World), Go.Sem.run Sq.prog (Go.callFunc 29 args) w = Go.Result.ok (Go.Next.enter 29 args) w := fun _ _ => (rfl)
@[simp] theorem Sq.isAgg102 : ∀ (w : Go.World), Go.Sem.run Sq.prog (Go.isAgg 102) w = Go.Result.ok Bool.false w := fun _ => (rfl)
theorem Sq.params78 : Try.f78.params = #[77] := rfl
@[simp] theorem Sq.call22 : ∀ (args : Array Go.Value) (w : Go.World), Go.Sem.run Sq.prog (Go.callFunc 22 args) w = Go.Result.ok (Go.Next.enter 22 args) w := fun _ _ => (rfl)
@[simp] theorem Sq.underlying38 : Sq.prog.underlying 38 = Option.some (Go.TypeDesc.func #[39, 23, 2, 2] #[23, 4] Bool.false) := (rfl)
theorem Sq.results1 : Try.f1.results = #[] := rfl
@[simp] theorem Sq.zeroValue9 : ∀ (w : Go.World), Go.Sem.run Sq.prog (Go.zeroValue 9) w = Go.Result.ok (Go.Value.string { data := #[] }) w := fun _ => (rfl)
@[simp] theorem Sq.type32 : Sq.prog.types[32]? = Option.some Try.t32 := (rfl)
@[simp] theorem Sq.zeroValue62 : ∀ (w : Go.World), Go.Sem.run Sq.prog (Go.zeroValue 62) w = Go.Result.ok Go.Value.nilFunc w := fun _ => (rfl)
@[simp] theorem Sq.stoodInHeld13 : Sq.prog.stoodInHeld 13 = Bool.true := by kernel_rfl
@[simp] theorem Sq.zeroValue63 : ∀ (w : Go.World), Go.Sem.run Sq.prog (Go.zeroValue 63) w = Go.Result.ok Go.Value.nilFunc w := fun _ => (rfl)
theorem Sq.results45 : Try.f45.results = #[Go.ResultVar.tmp 6] := rfl
@[simp] theorem Sq.isAgg110 : ∀ (w : Go.World), Go.Sem.run Sq.prog (Go.isAgg 110) w = Go.Result.ok Bool.true w := fun _ => (rfl)
theorem Sq.params9 : Try.f9.params = #[23] := rfl
@[simp] theorem Sq.call23 : ∀ (args : Array Go.Value) (w : Go.World), Go.Sem.run Sq.prog (Go.callFunc 23 args) w = Go.Result.ok (Go.Next.enter 23 args) w := fun _ _ => (rfl)
@[simp] theorem Sq.sizeOf26 : ∀ (w : Go.World), Go.Sem.run Sq.prog (Go.sizeOf 26) w = Go.Result.ok 1 w := fun _ => (rfl)
@[simp] theorem Sq.sizeOf18 : ∀ (w : Go.World), Go.Sem.run Sq.prog (Go.sizeOf 18) w = Go.Result.ok 1 w := fun _ => (rfl)
@[simp] theorem Sq.underlying7 : Sq.prog.underlying 7 = Option.some (Go.TypeDesc.struct #[{ name := "x", type := 2, offset := 0, embedded := Bool.false, tag := "", pkgPath := "runtime", byteOffset := 0 }, { name := "y", type := 3, offset := 1, embedded := Bool.false, tag := "", pkgPath := "runtime", byteOffset := 8 }, { name := "signed", type := 4, offset := 2, embedded := Bool.false, tag := "", pkgPath := "runtime", byteOffset := 16 }, { name := "code", type := 6, offset := 3, embedded := Bool.false, tag := "", pkgPath := "runtime", byteOffset := 17 }]) := (rfl)
@[simp] theorem Sq.type47 : Sq.prog.types[47]? = Option.some Try.t47 := (rfl)
@[simp] theorem Sq.typeInfo80 : ∀ (w : Go.World), Go.Sem.run Sq.prog (Go.typeInfo 80) w = Go.Result.ok Try.t80 w := fun _ => (rfl)
@[simp] theorem Sq.isAgg29 : ∀ (w : Go.World), Go.Sem.run Sq.prog (Go.isAgg 29) w = Go.Result.ok Bool.false w := fun _ => (rfl)
theorem Sq.ntmps40 : Try.f40.ntmps = 12 := rfl
theorem Sq.results98 : Try.f98.results = #[] := rfl
@[simp] theorem Sq.eqGuardType7 : Sq.prog.eqGuardType Sq.prog.depth 7 = Bool.false := by kernel_rfl
@[simp] theorem Sq.func97 : Sq.prog.funcs[97]? = Option.some Try.f97 := (rfl)
@[simp] theorem Sq.call58 : ∀ (args : Array Go.Value) (w : Go.World), Go.Sem.run Sq.prog (Go.callFunc 58 args) w = Go.Result.ok (Go.Next.enter 58 args) w := fun _ _ => (rfl)
@[simp] theorem Sq.type28 : Sq.prog.types[28]? = Option.some Try.t28 := (rfl)
theorem Sq.params41 : Try.f41.params = #[39, 2, 2] := rfl
@[simp] theorem Sq.isAgg53 : ∀ (w : Go.World), Go.Sem.run Sq.prog (Go.isAgg 53) w = Go.Result.ok Bool.false w := fun _ => (rfl)
theorem Sq.params52 : Try.f52.params = #[2, 2, 2] := rfl
@[simp] theorem Sq.func86 : Sq.prog.funcs[86]? = Option.some Try.f86 := (rfl)
@[simp] theorem Sq.runUnderlying61 : ∀ (w : Go.World), Go.Sem.run Sq.prog (Go.underlying 61) w = Go.Result.ok (Go.TypeDesc.pointer 39) w := fun _ => (rfl)
@[simp] theorem Sq.isAgg77 : ∀ (w : Go.World), Go.Sem.run Sq.prog (Go.isAgg 77) w = Go.Result.ok Bool.false w := fun _ => (rfl)
@[simp] theorem Sq.isAgg3 : ∀ (w : Go.World), Go.Sem.run Sq.prog (Go.isAgg 3) w = Go.Result.ok Bool.false w := fun _ => (rfl)
@[simp] theorem Sq.zeroValue47 : ∀ (w : Go.World), Go.Sem.run Sq.prog (Go.zeroValue 47) w = Go.Result.ok Go.Value.nilFunc w := fun _ => (rfl)
@[simp] theorem Sq.type34 : Sq.prog.types[34]? = Option.some Try.t34 := (rfl)
@[simp] theorem Sq.sizeOf79 : ∀ (w : Go.World), Go.Sem.run Sq.prog (Go.sizeOf 79) w = Go.Result.ok 1 w := fun _ => (rfl)
theorem Sq.results69 : Try.f69.results = #[Go.ResultVar.tmp 5] := rfl
theorem Sq.nfree50 : Try.f50.nfree = 0 := rfl
theorem Sq.ntmps39 : Try.f39.ntmps = 5 := rfl
@[simp] theorem Sq.call80 : ∀ (args : Array Go.Value) (w : Go.World), Go.Sem.run Sq.prog (Go.callFunc 80 args) w = Go.Result.ok (Go.Next.enter 80 args) w := fun _ _ => (rfl)
@[simp] theorem Sq.func74 : Sq.prog.funcs[74]? = Option.some Try.f74 := (rfl)
@[simp] theorem Sq.type62 : Sq.prog.types[62]? = Option.some Try.t62 := (rfl)
theorem Sq.results93 : Try.f93.results = #[] := rfl
theorem Sq.results52 : Try.f52.results = #[Go.ResultVar.tmp 6] := rfl
theorem Sq.results56 : Try.f56.results = #[Go.ResultVar.tmp 2] := rfl
theorem Sq.params92 : Try.f92.params = #[15] := rfl
theorem Sq.results32 : Try.f32.results = #[Go.ResultVar.tmp 2] := rfl
@[simp] theorem Sq.underlying6 : Sq.prog.underlying 6 = Option.some (Go.TypeDesc.int Go.IntKind.u8) := (rfl)
theorem Sq.nfree25 : Try.f25.nfree = 0 := rfl
theorem Sq.params22 : Try.f22.params = #[23, 23, 2] := rfl
theorem Sq.ntmps71 : Try.f71.ntmps = 10 := rfl
@[simp] theorem Sq.sizeOf34 : ∀ (w : Go.World), Go.Sem.run Sq.prog (Go.sizeOf 34) w = Go.Result.ok 1 w := fun _ => (rfl)
@[simp] theorem Sq.underlying65 : Sq.prog.underlying 65 = Option.some (Go.TypeDesc.func #[23] #[2, 4] Bool.false) := (rfl)
@[simp] theorem Sq.func5 : Sq.prog.funcs[5]? = Option.some Try.f5 := (rfl)
@[simp] theorem Sq.sizeOf87 : ∀ (w : Go.World), Go.Sem.run Sq.prog (Go.sizeOf 87) w = Go.Result.ok 1 w := fun _ => (rfl)
@[simp] theorem Sq.zeroValue64 : ∀ (w : Go.World), Go.Sem.run Sq.prog (Go.zeroValue 64) w = Go.Result.ok (Go.Value.tuple #[Go.Value.int Go.IntKind.i64 0, Go.Value.bool Bool.false]) w := fun _ => (rfl)
theorem Sq.nfree72 : Try.f72.nfree = 0 := rfl
@[simp] theorem Sq.underlying23 : Sq.prog.underlying 23 = Option.some (Go.TypeDesc.slice 2) := (rfl)
theorem Sq.params87 : Try.f87.params = #[11] := rfl
@[simp] theorem Sq.underlying62 : Sq.prog.underlying 62 = Option.some (Go.TypeDesc.func #[61, 2, 2] #[2] Bool.false) := (rfl)
@[simp] theorem Sq.typeInfo109 : ∀ (w : Go.World), Go.Sem.run Sq.prog (Go.typeInfo 109) w = Go.Result.ok Try.t109 w := fun _ => (rfl)
@[simp] theorem Sq.type18 : Sq.prog.types[18]? = Option.some Try.t18 := (rfl)
theorem Sq.results85 : Try.f85.results = #[] := rfl
@[simp] theorem Sq.runUnderlying89 : ∀ (w : Go.World), Go.Sem.run Sq.prog (Go.underlying 89) w = Go.Result.ok (Go.TypeDesc.func #[77] #[3] Bool.false) w := fun _ => (rfl)
@[simp] theorem Sq.typeInfo84 : ∀ (w : Go.World), Go.Sem.run Sq.prog (Go.typeInfo 84) w = Go.Result.ok Try.t84 w := fun _ => (rfl)
@[simp] theorem Sq.func66 : Sq.prog.funcs[66]? = Option.some Try.f66 := (rfl)
@[simp] theorem Sq.zeroValue97 : ∀ (w : Go.World), Go.Sem.run Sq.prog (Go.zeroValue 97) w = Go.Result.ok (Go.Value.agg #[Go.Value.pointer Option.none, Go.Value.pointer Option.none, Go.Value.pointer Option.none, Go.Value.string { data := #[] }]) w := fun _ => (rfl)
theorem Sq.nfree43 : Try.f43.nfree = 0 := rfl
@[simp] theorem Sq.call31 : ∀ (args : Array Go.Value) (w : Go.World), Go.Sem.run Sq.prog (Go.callFunc 31 args) w = Go.Result.ok (Go.Next.enter 31 args) w := fun _ _ => (rfl)
theorem Sq.params29 : Try.f29.params = #[54] := rfl
@[simp] theorem Sq.call32 : ∀ (args : Array Go.Value) (w : Go.World), Go.Sem.run Sq.prog (Go.callFunc 32 args) w = Go.Result.ok (Go.Next.enter 32 args) w := fun _ _ => (rfl)
@[simp] theorem Sq.type79 : Sq.prog.types[79]? = Option.some Try.t79 := (rfl)
@[simp] theorem Sq.typeInfo75 : ∀ (w : Go.World), Go.Sem.run Sq.prog (Go.typeInfo 75) w = Go.Result.ok Try.t75 w := fun _ => (rfl)
@[simp] theorem Sq.sizeOf38 : ∀ (w : Go.World), Go.Sem.run Sq.prog (Go.sizeOf 38) w = Go.Result.ok 1 w := fun _ => (rfl)
@[simp] theorem Sq.isAgg44 : ∀ (w : Go.World), Go.Sem.run Sq.prog (Go.isAgg 44) w = Go.Result.ok Bool.false w := fun _ => (rfl)
@[simp] theorem Sq.zeroValue30 : ∀ (w : Go.World), Go.Sem.run Sq.prog (Go.zeroValue 30) w = Go.Result.ok Go.Value.nilFunc w := fun _ => (rfl)
@[simp] theorem Sq.isAgg78 : ∀ (w : Go.World), Go.Sem.run Sq.prog (Go.isAgg 78) w = Go.Result.ok Bool.false w := fun _ => (rfl)
theorem Sq.nfree54 : Try.f54.nfree = 6 := rfl
@[simp] theorem Sq.call3 : ∀ (args : Array Go.Value) (w : Go.World), Go.Sem.run Sq.prog (Go.callFunc 3 args) w = Go.Result.ok (Go.Next.enter 3 args) w := fun _ _ => (rfl)
@[simp] theorem Sq.isAgg21 : ∀ (w : Go.World), Go.Sem.run Sq.prog (Go.isAgg 21) w = Go.Result.ok Bool.false w := fun _ => (rfl)
@[simp] theorem Sq.underlying37 : Sq.prog.underlying 37 = Option.some (Go.TypeDesc.func #[36, 3] #[3] Bool.false) := (rfl)
theorem Sq.ntmps5 : Try.f5.ntmps = 119 := rfl
theorem Sq.ntmps77 : Try.f77.ntmps = 19 := rfl
theorem Sq.ntmps96 : Try.f96.ntmps = 1 := rfl
@[simp] theorem Sq.sizeOf48 : ∀ (w : Go.World), Go.Sem.run Sq.prog (Go.sizeOf 48) w = Go.Result.ok 1 w := fun _ => (rfl)
@[simp] theorem Sq.eqGuardType36 : Sq.prog.eqGuardType Sq.prog.depth 36 = Bool.false := by kernel_rfl
@[simp] theorem Sq.runUnderlying9 : ∀ (w : Go.World), Go.Sem.run Sq.prog (Go.underlying 9) w = Go.Result.ok Go.TypeDesc.string w := fun _ => (rfl)
@[simp] theorem Sq.underlying105 : Sq.prog.underlying 105 = Option.some (Go.TypeDesc.func #[114, 114] #[4] Bool.false) := (rfl)
theorem Sq.nfree7 : Try.f7.nfree = 0 := rfl
@[simp] theorem Sq.isAgg33 : ∀ (w : Go.World), Go.Sem.run Sq.prog (Go.isAgg 33) w = Go.Result.ok Bool.false w := fun _ => (rfl)
@[simp] theorem Sq.isAgg83 : ∀ (w : Go.World), Go.Sem.run Sq.prog (Go.isAgg 83) w = Go.Result.ok Bool.false w := fun _ => (rfl)
@[simp] theorem Sq.type114 : Sq.prog.types[114]? = Option.some Try.t114 := (rfl)
@[simp] theorem Sq.isAgg37 : ∀ (w : Go.World), Go.Sem.run Sq.prog (Go.isAgg 37) w = Go.Result.ok Bool.false w := fun _ => (rfl)
@[simp] theorem Sq.typeInfo33 : ∀ (w : Go.World), Go.Sem.run Sq.prog (Go.typeInfo 33) w = Go.Result.ok Try.t33 w := fun _ => (rfl)
@[simp] theorem Sq.sizeOf69 : ∀ (w : Go.World), Go.Sem.run Sq.prog (Go.sizeOf 69) w = Go.Result.ok 1 w := fun _ => (rfl)
theorem Sq.params94 : Try.f94.params = #[16] := rfl
@[simp] theorem Sq.typeInfo56 : ∀ (w : Go.World), Go.Sem.run Sq.prog (Go.typeInfo 56) w = Go.Result.ok Try.t56 w := fun _ => (rfl)
@[simp] theorem Sq.func0 : Sq.prog.funcs[0]? = Option.some Try.f0 := (rfl)
@[simp] theorem Sq.zeroValue37 : ∀ (w : Go.World), Go.Sem.run Sq.prog (Go.zeroValue 37) w = Go.Result.ok Go.Value.nilFunc w := fun _ => (rfl)
@[simp] theorem Sq.runUnderlying56 : ∀ (w : Go.World), Go.Sem.run Sq.prog (Go.underlying 56) w = Go.Result.ok (Go.TypeDesc.func #[23, 2, 58] #[23] Bool.false) w := fun _ => (rfl)
theorem Sq.nfree18 : Try.f18.nfree = 0 := rfl
@[simp] theorem Sq.zeroValue51 : ∀ (w : Go.World), Go.Sem.run Sq.prog (Go.zeroValue 51) w = Go.Result.ok (Go.Value.agg #[Go.Value.int Go.IntKind.i64 0, Go.Value.int Go.IntKind.i64 0, Go.Value.int Go.IntKind.i64 0, Go.Value.int Go.IntKind.i64 0]) w := fun _ => (rfl)
@[simp] theorem Sq.func80 : Sq.prog.funcs[80]? = Option.some Try.f80 := (rfl)
@[simp] theorem Sq.zeroValue83 : ∀ (w : Go.World), Go.Sem.run Sq.prog (Go.zeroValue 83) w = Go.Result.ok Go.Value.nilFunc w := fun _ => (rfl)
theorem Sq.params11 : Try.f11.params = #[23, 23] := rfl
@[simp] theorem Sq.typeInfo100 : ∀ (w : Go.World), Go.Sem.run Sq.prog (Go.typeInfo 100) w = Go.Result.ok Try.t100 w := fun _ => (rfl)
@[simp] theorem Sq.isAgg6 : ∀ (w : Go.World), Go.Sem.run Sq.prog (Go.isAgg 6) w = Go.Result.ok Bool.false w := fun _ => (rfl)
@[simp] theorem Sq.type76 : Sq.prog.types[76]? = Option.some Try.t76 := (rfl)
theorem Sq.nfree11 : Try.f11.nfree = 0 := rfl
@[simp] theorem Sq.runUnderlying83 : ∀ (w : Go.World), Go.Sem.run Sq.prog (Go.underlying 83) w = Go.Result.ok (Go.TypeDesc.func #[78, 84] #[] Bool.false) w := fun _ => (rfl)
@[simp] theorem Sq.underlying80 : Sq.prog.underlying 80 = Option.some (Go.TypeDesc.tuple #[77, 77]) := (rfl)
@[simp] theorem Sq.sizeOf89 : ∀ (w : Go.World), Go.Sem.run Sq.prog (Go.sizeOf 89) w = Go.Result.ok 1 w := fun _ => (rfl)
@[simp] theorem Sq.typeInfo52 : ∀ (w : Go.World), Go.Sem.run Sq.prog (Go.typeInfo 52) w = Go.Result.ok Try.t52 w := fun _ => (rfl)
@[simp] theorem Sq.zeroValue98 : ∀ (w : Go.World), Go.Sem.run Sq.prog (Go.zeroValue 98) w = Go.Result.ok (Go.Value.agg #[]) w := fun _ => (rfl)
@[simp] theorem Sq.isAgg1 : ∀ (w : Go.World), Go.Sem.run Sq.prog (Go.isAgg 1) w = Go.Result.ok Bool.false w := fun _ => (rfl)
@[simp] theorem Sq.sizeOf51 : ∀ (w : Go.World), Go.Sem.run Sq.prog (Go.sizeOf 51) w = Go.Result.ok 4 w := fun _ => (rfl)
@[simp] theorem Sq.underlying67 : Sq.prog.underlying 67 = Option.some (Go.TypeDesc.func #[23] #[4] Bool.false) := (rfl)
@[simp] theorem Sq.type78 : Sq.prog.types[78]? = Option.some Try.t78 := (rfl)
@[simp] theorem Sq.type16 : Sq.prog.types[16]? = Option.some Try.t16 := (rfl)
@[simp] theorem Sq.typeInfo68 : ∀ (w : Go.World), Go.Sem.run Sq.prog (Go.typeInfo 68) w = Go.Result.ok Try.t68 w := fun _ => (rfl)
@[simp] theorem Sq.func20 : Sq.prog.funcs[20]? = Option.some Try.f20 := (rfl)
theorem Sq.results43 : Try.f43.results = #[Go.ResultVar.tmp 6] := rfl
@[simp] theorem Sq.runUnderlying51 : ∀ (w : Go.World), Go.Sem.run Sq.prog (Go.underlying 51) w = Go.Result.ok (Go.TypeDesc.struct #[{ name := "Day", type := 2, offset := 0, embedded := Bool.false, tag := "", pkgPath := "", byteOffset := 0 }, { name := "Debit", type := 2, offset := 1, embedded := Bool.false, tag := "", pkgPath := "", byteOffset := 8 }, { name := "Credit", type := 2, offset := 2, embedded := Bool.false, tag := "", pkgPath := "", byteOffset := 16 }, { name := "Cents", type := 2, offset := 3, embedded := Bool.false, tag := "", pkgPath := "", byteOffset := 24 }]) w := fun _ => (rfl)
@[simp] theorem Sq.sizeOf93 : ∀ (w : Go.World), Go.Sem.run Sq.prog (Go.sizeOf 93) w = Go.Result.ok 1 w := fun _ => (rfl)
theorem Sq.params2 : Try.f2.params = #[] := rfl
theorem Sq.nfree27 : Try.f27.nfree = 0 := rfl
@[simp] theorem Sq.call51 : ∀ (args : Array Go.Value) (w : Go.World), Go.Sem.run Sq.prog (Go.callFunc 51 args) w = Go.Result.ok (Go.Next.enter 51 args) w := fun _ _ => (rfl)
theorem Sq.nfree98 : Try.f98.nfree = 0 := rfl
@[simp] theorem Sq.zeroValue96 : ∀ (w : Go.World), Go.Sem.run Sq.prog (Go.zeroValue 96) w = Go.Result.ok (Go.Value.agg #[Go.Value.pointer Option.none, Go.Value.pointer Option.none, Go.Value.pointer Option.none, Go.Value.string { data := #[] }]) w := fun _ => (rfl)
@[simp] theorem Sq.stoodInHeld39 : Sq.prog.stoodInHeld 39 = Bool.false := by kernel_rfl
@[simp] theorem Sq.isAgg56 : ∀ (w : Go.World), Go.Sem.run Sq.prog (Go.isAgg 56) w = Go.Result.ok Bool.false w := fun _ => (rfl)
@[simp] theorem Sq.isAgg9 : ∀ (w : Go.World), Go.Sem.run Sq.prog (Go.isAgg 9) w = Go.Result.ok Bool.false w := fun _ => (rfl)
@[simp] theorem Sq.zeroValue21 : ∀ (w : Go.World), Go.Sem.run Sq.prog (Go.zeroValue 21) w = Go.Result.ok (Go.Value.int Go.IntKind.i32 0) w := fun _ => (rfl)
@[simp] theorem Sq.call79 : ∀ (args : Array Go.Value) (w : Go.World), Go.Sem.run Sq.prog (Go.callFunc 79 args) w = Go.Result.ok (Go.Next.enter 79 args) w := fun _ _ => (rfl)
theorem Sq.params31 : Try.f31.params = #[23, 3, 3, 2, 2] := rfl
theorem Sq.ntmps22 : Try.f22.ntmps = 62 := rfl
@[simp] theorem Sq.func29 : Sq.prog.funcs[29]? = Option.some Try.f29 := (rfl)
@[simp] theorem Sq.type77 : Sq.prog.types[77]? = Option.some Try.t77 := (rfl)
@[simp] theorem Sq.runUnderlying34 : ∀ (w : Go.World), Go.Sem.run Sq.prog (Go.underlying 34) w = Go.Result.ok (Go.TypeDesc.func #[22, 23, 2] #[4] Bool.false) w := fun _ => (rfl)
@[simp] theorem Sq.stoodInHeld99 : Sq.prog.stoodInHeld 99 = Bool.true := by kernel_rfl
@[simp] theorem Sq.sizeOf83 : ∀ (w : Go.World), Go.Sem.run Sq.prog (Go.sizeOf 83) w = Go.Result.ok 1 w := fun _ => (rfl)
@[simp] theorem Sq.sizeOf64 : ∀ (w : Go.World), Go.Sem.run Sq.prog (Go.sizeOf 64) w = Go.Result.ok 1 w := fun _ => (rfl)
@[simp] theorem Sq.runUnderlying81 : ∀ (w : Go.World), Go.Sem.run Sq.prog (Go.underlying 81) w = Go.Result.ok (Go.TypeDesc.func #[77, 77] #[77, 77] Bool.false) w := fun _ => (rfl)
@[simp] theorem Sq.call43 : ∀ (args : Array Go.Value) (w : Go.World), Go.Sem.run Sq.prog (Go.callFunc 43 args) w = Go.Result.ok (Go.Next.enter 43 args) w := fun _ _ => (rfl)
@[simp] theorem Sq.sizeOf12 : ∀ (w : Go.World), Go.Sem.run Sq.prog (Go.sizeOf 12) w = Go.Result.ok 1 w := fun _ => (rfl)
@[simp] theorem Sq.func3 : Sq.prog.funcs[3]? = Option.some Try.f3 := (rfl)
@[simp] theorem Sq.underlying17 : Sq.prog.underlying 17 = Option.some (Go.TypeDesc.pointer 110) := (rfl)
theorem Sq.params97 : Try.f97.params = #[19] := rfl
theorem Sq.nfree92 : Try.f92.nfree = 0 := rfl
@[simp] theorem Sq.zeroValue74 : ∀ (w : Go.World), Go.Sem.run Sq.prog (Go.zeroValue 74) w = Go.Result.ok Go.Value.nilFunc w := fun _ => (rfl)
@[simp] theorem Sq.type82 : Sq.prog.types[82]? = Option.some Try.t82 := (rfl)
theorem Sq.results40 : Try.f40.results = #[Go.ResultVar.tmp 6] := rfl
theorem Sq.ntmps59 : Try.f59.ntmps = 67 := rfl
@[simp] theorem Sq.func2 : Sq.prog.funcs[2]? = Option.some Try.f2 := (rfl)
@[simp] theorem Sq.runUnderlying38 : ∀ (w : Go.World), Go.Sem.run Sq.prog (Go.underlying 38) w = Go.Result.ok (Go.TypeDesc.func #[39, 23, 2, 2] #[23, 4] Bool.false) w := fun _ => (rfl)
theorem Sq.params5 : Try.f5.params = #[23, 23, 2] := rfl
@[simp] theorem Sq.isAgg62 : ∀ (w : Go.World), Go.Sem.run Sq.prog (Go.isAgg 62) w = Go.Result.ok Bool.false w := fun _ => (rfl)
@[simp] theorem Sq.isAgg96 : ∀ (w : Go.World), Go.Sem.run Sq.prog (Go.isAgg 96) w = Go.Result.ok Bool.true w := fun _ => (rfl)
@[simp] theorem Sq.sizeOf90 : ∀ (w : Go.World), Go.Sem.run Sq.prog (Go.sizeOf 90) w = Go.Result.ok 1 w := fun _ => (rfl)
@[simp] theorem Sq.sizeOf7 : ∀ (w : Go.World), Go.Sem.run Sq.prog (Go.sizeOf 7) w = Go.Result.ok 4 w := fun _ => (rfl)
@[simp] theorem Sq.eqGuardType18 : Sq.prog.eqGuardType Sq.prog.depth 18 = Bool.false := by kernel_rfl
@[simp] theorem Sq.isAgg70 : ∀ (w : Go.World), Go.Sem.run Sq.prog (Go.isAgg 70) w = Go.Result.ok Bool.false w := fun _ => (rfl)
@[simp] theorem Sq.runUnderlying91 : ∀ (w : Go.World), Go.Sem.run Sq.prog (Go.underlying 91) w = Go.Result.ok (Go.TypeDesc.func #[23, 48] #[3] Bool.false) w := fun _ => (rfl)
@[simp] theorem Sq.call56 : ∀ (args : Array Go.Value) (w : Go.World), Go.Sem.run Sq.prog (Go.callFunc 56 args) w = Go.Result.ok (Go.Next.enter 56 args) w := fun _ _ => (rfl)
@[simp] theorem Sq.runUnderlying102 : ∀ (w : Go.World), Go.Sem.run Sq.prog (Go.underlying 102) w = Go.Result.ok (Go.TypeDesc.int Go.IntKind.u32) w := fun _ => (rfl)
@[simp] theorem Sq.type74 : Sq.prog.types[74]? = Option.some Try.t74 := (rfl)
@[simp] theorem Sq.isAgg86 : ∀ (w : Go.World), Go.Sem.run Sq.prog (Go.isAgg 86) w = Go.Result.ok Bool.false w := fun _ => (rfl)
@[simp] theorem Sq.sizeOf16 : ∀ (w : Go.World), Go.Sem.run Sq.prog (Go.sizeOf 16) w = Go.Result.ok 1 w := fun _ => (rfl)
theorem Sq.nfree89 : Try.f89.nfree = 0 := rfl
@[simp] theorem Sq.isAgg18 : ∀ (w : Go.World), Go.Sem.run Sq.prog (Go.isAgg 18) w = Go.Result.ok Bool.true w := fun _ => (rfl)
@[simp] theorem Sq.runUnderlying1 : ∀ (w : Go.World), Go.Sem.run Sq.prog (Go.underlying 1) w = Go.Result.ok (Go.TypeDesc.func #[] #[] Bool.false) w := fun _ => (rfl)
@[simp] theorem Sq.sizeOf101 : ∀ (w : Go.World), Go.Sem.run Sq.prog (Go.sizeOf 101) w = Go.Result.ok 1 w := fun _ => (rfl)
theorem Sq.nfree49 : Try.f49.nfree = 0 := rfl
@[simp] theorem Sq.func93 : Sq.prog.funcs[93]? = Option.some Try.f93 := (rfl)
theorem Sq.results19 : Try.f19.results = #[Go.ResultVar.tmp 8, Go.ResultVar.tmp 9] := rfl
@[simp] theorem Sq.underlying32 : Sq.prog.underlying 32 = Option.some (Go.TypeDesc.func #[27, 3] #[3] Bool.false) := (rfl)
@[simp] theorem Sq.sizeOf108 : ∀ (w : Go.World), Go.Sem.run Sq.prog (Go.sizeOf 108) w = Go.Result.ok 1 w := fun _ => (rfl)
theorem Sq.ntmps95 : Try.f95.ntmps = 1 := rfl
@[simp] theorem Sq.func100 : Sq.prog.funcs[100]? = Option.some Try.f100 := (rfl)
@[simp] theorem Sq.typeInfo38 : ∀ (w : Go.World), Go.Sem.run Sq.prog (Go.typeInfo 38) w = Go.Result.ok Try.t38 w := fun _ => (rfl)
theorem Sq.params45 : Try.f45.params = #[2, 23, 2] := rfl
@[simp] theorem Sq.isAgg68 : ∀ (w : Go.World), Go.Sem.run Sq.prog (Go.isAgg 68) w = Go.Result.ok Bool.false w := fun _ => (rfl)
@[simp] theorem Sq.runUnderlying25 : ∀ (w : Go.World), Go.Sem.run Sq.prog (Go.underlying 25) w = Go.Result.ok (Go.TypeDesc.tuple #[23, 4]) w := fun _ => (rfl)
@[simp] theorem Sq.runUnderlying36 : ∀ (w : Go.World), Go.Sem.run Sq.prog (Go.underlying 36) w = Go.Result.ok (Go.TypeDesc.struct #[{ name := "Breaks", type := 23, offset := 0, embedded := Bool.false, tag := "", pkgPath := "", byteOffset := 0 }, { name := "Rates", type := 23, offset := 1, embedded := Bool.false, tag := "", pkgPath := "", byteOffset := 24 }]) w := fun _ => (rfl)
@[simp] theorem Sq.underlying68 : Sq.prog.underlying 68 = Option.some (Go.TypeDesc.func #[2, 23] #[23] Bool.false) := (rfl)
theorem Sq.ntmps49 : Try.f49.ntmps = 5 := rfl
@[simp] theorem Sq.type68 : Sq.prog.types[68]? = Option.some Try.t68 := (rfl)
@[simp] theorem Sq.sizeOf74 : ∀ (w : Go.World), Go.Sem.run Sq.prog (Go.sizeOf 74) w = Go.Result.ok 1 w := fun _ => (rfl)
@[simp] theorem Sq.runUnderlying47 : ∀ (w : Go.World), Go.Sem.run Sq.prog (Go.underlying 47) w = Go.Result.ok (Go.TypeDesc.func #[2, 2, 2] #[4] Bool.false) w := fun _ => (rfl)
@[simp] theorem Sq.isAgg28 : ∀ (w : Go.World), Go.Sem.run Sq.prog (Go.isAgg 28) w = Go.Result.ok Bool.false w := fun _ => (rfl)
theorem Sq.params82 : Try.f82.params = #[78, 3, 3, 3, 84] := rfl
@[simp] theorem Sq.zeroValue0 : ∀ (w : Go.World), Go.Sem.run Sq.prog (Go.zeroValue 0) w = Go.Result.ok (Go.Value.tuple #[]) w := fun _ => (rfl)
@[simp] theorem Sq.isAgg16 : ∀ (w : Go.World), Go.Sem.run Sq.prog (Go.isAgg 16) w = Go.Result.ok Bool.false w := fun _ => (rfl)
theorem Sq.ntmps58 : Try.f58.ntmps = 61 := rfl
@[simp] theorem Sq.isAgg48 : ∀ (w : Go.World), Go.Sem.run Sq.prog (Go.isAgg 48) w = Go.Result.ok Bool.false w := fun _ => (rfl)
theorem Sq.ntmps70 : Try.f70.ntmps = 9 := rfl
@[simp] theorem Sq.type63 : Sq.prog.types[63]? = Option.some Try.t63 := (rfl)
theorem Sq.params44 : Try.f44.params = #[23] := rfl
theorem Sq.ntmps3 : Try.f3.ntmps = 122 := rfl
@[simp] theorem Sq.type55 : Sq.prog.types[55]? = Option.some Try.t55 := (rfl)
@[simp] theorem Sq.zeroValue35 : ∀ (w : Go.World), Go.Sem.run Sq.prog (Go.zeroValue 35) w = Go.Result.ok (Go.Value.agg #[Go.Value.slice Option.none 0 0, Go.Value.slice Option.none 0 0]) w := fun _ => (rfl)
@[simp] theorem Sq.zeroValue19 : ∀ (w : Go.World), Go.Sem.run Sq.prog (Go.zeroValue 19) w = Go.Result.ok (Go.Value.agg #[Go.Value.pointer Option.none]) w := fun _ => (rfl)
@[simp] theorem Sq.type35 : Sq.prog.types[35]? = Option.some Try.t35 := (rfl)
theorem Sq.nfree84 : Try.f84.nfree = 0 := rfl
theorem Sq.results31 : Try.f31.results = #[Go.ResultVar.tmp 10] := rfl
@[simp] theorem Sq.sizeOf50 : ∀ (w : Go.World), Go.Sem.run Sq.prog (Go.sizeOf 50) w = Go.Result.ok 1 w := fun _ => (rfl)
@[simp] theorem Sq.typeInfo95 : ∀ (w : Go.World), Go.Sem.run Sq.prog (Go.typeInfo 95) w = Go.Result.ok Try.t95 w := fun _ => (rfl)
theorem Sq.params76 : Try.f76.params = #[78, 3, 84] := rfl
theorem Sq.params12 : Try.f12.params = #[27, 27] := rfl
@[simp] theorem Sq.sizeOf42 : ∀ (w : Go.World), Go.Sem.run Sq.prog (Go.sizeOf 42) w = Go.Result.ok 1 w := fun _ => (rfl)
@[simp] theorem Sq.stoodInHeld100 : Sq.prog.stoodInHeld 100 = Bool.true := by kernel_rfl
theorem Sq.results89 : Try.f89.results = #[] := rfl
@[simp] theorem Sq.eqGuardType97 : Sq.prog.eqGuardType Sq.prog.depth 97 = Bool.false := by kernel_rfl
@[simp] theorem Sq.runUnderlying55 : ∀ (w : Go.World), Go.Sem.run Sq.prog (Go.underlying 55) w = Go.Result.ok (Go.TypeDesc.func #[23, 3, 3, 2, 2] #[4] Bool.false) w := fun _ => (rfl)
@[simp] theorem Sq.typeInfo104 : ∀ (w : Go.World), Go.Sem.run Sq.prog (Go.typeInfo 104) w = Go.Result.ok Try.t104 w := fun _ => (rfl)
@[simp] theorem Sq.sizeOf59 : ∀ (w : Go.World), Go.Sem.run Sq.prog (Go.sizeOf 59) w = Go.Result.ok 1 w := fun _ => (rfl)
@[simp] theorem Sq.zeroValue48 : ∀ (w : Go.World), Go.Sem.run Sq.prog (Go.zeroValue 48) w = Go.Result.ok Go.Value.nilFunc w := fun _ => (rfl)
@[simp] theorem Sq.call41 : ∀ (args : Array Go.Value) (w : Go.World), Go.Sem.run Sq.prog (Go.callFunc 41 args) w = Go.Result.ok (Go.Next.enter 41 args) w := fun _ _ => (rfl)
@[simp] theorem Sq.func10 : Sq.prog.funcs[10]? = Option.some Try.f10 := (rfl)
@[simp] theorem Sq.zeroValue68 : ∀ (w : Go.World), Go.Sem.run Sq.prog (Go.zeroValue 68) w = Go.Result.ok Go.Value.nilFunc w := fun _ => (rfl)
@[simp] theorem Sq.runUnderlying64 : ∀ (w : Go.World), Go.Sem.run Sq.prog (Go.underlying 64) w = Go.Result.ok (Go.TypeDesc.tuple #[2, 4]) w := fun _ => (rfl)
@[simp] theorem Sq.type29 : Sq.prog.types[29]? = Option.some Try.t29 := (rfl)
@[simp] theorem Sq.type101 : Sq.prog.types[101]? = Option.some Try.t101 := (rfl)
theorem Sq.ntmps19 : Try.f19.ntmps = 28 := rfl
@[simp] theorem Sq.type12 : Sq.prog.types[12]? = Option.some Try.t12 := (rfl)
theorem Sq.nfree75 : Try.f75.nfree = 0 := rfl
@[simp] theorem Sq.typeInfo60 : ∀ (w : Go.World), Go.Sem.run Sq.prog (Go.typeInfo 60) w = Go.Result.ok Try.t60 w := fun _ => (rfl)
@[simp] theorem Sq.runUnderlying107 : ∀ (w : Go.World), Go.Sem.run Sq.prog (Go.underlying 107) w = Go.Result.ok (Go.TypeDesc.int Go.IntKind.i32) w := fun _ => (rfl)
@[simp] theorem Sq.isAgg93 : ∀ (w : Go.World), Go.Sem.run Sq.prog (Go.isAgg 93) w = Go.Result.ok Bool.false w := fun _ => (rfl)
@[simp] theorem Sq.func22 : Sq.prog.funcs[22]? = Option.some Try.f22 := (rfl)
@[simp] theorem Sq.type15 : Sq.prog.types[15]? = Option.some Try.t15 := (rfl)
theorem Sq.nfree69 : Try.f69.nfree = 1 := rfl
@[simp] theorem Sq.call5 : ∀ (args : Array Go.Value) (w : Go.World), Go.Sem.run Sq.prog (Go.callFunc 5 args) w = Go.Result.ok (Go.Next.enter 5 args) w := fun _ _ => (rfl)
theorem Sq.params69 : Try.f69.params = #[3, 3] := rfl
@[simp] theorem Sq.type84 : Sq.prog.types[84]? = Option.some Try.t84 := (rfl)
@[simp] theorem Sq.runUnderlying114 : ∀ (w : Go.World), Go.Sem.run Sq.prog (Go.underlying 114) w = Go.Result.ok Go.TypeDesc.unsafePointer w := fun _ => (rfl)
@[simp] theorem Sq.underlying44 : Sq.prog.underlying 44 = Option.some (Go.TypeDesc.func #[23, 23, 2] #[23, 4] Bool.false) := (rfl)
theorem Sq.ntmps41 : Try.f41.ntmps = 17 := rfl
@[simp] theorem Sq.func67 : Sq.prog.funcs[67]? = Option.some Try.f67 := (rfl)
theorem Sq.params84 : Try.f84.params = #[8] := rfl
theorem Sq.nfree60 : Try.f60.nfree = 0 := rfl
@[simp] theorem Sq.func28 : Sq.prog.funcs[28]? = Option.some Try.f28 := (rfl)
@[simp] theorem Sq.type46 : Sq.prog.types[46]? = Option.some Try.t46 := (rfl)
@[simp] theorem Sq.zeroValue50 : ∀ (w : Go.World), Go.Sem.run Sq.prog (Go.zeroValue 50) w = Go.Result.ok Go.Value.nilFunc w := fun _ => (rfl)
@[simp] theorem Sq.zeroValue111 : ∀ (w : Go.World), Go.Sem.run Sq.prog (Go.zeroValue 111) w = Go.Result.ok Go.Value.nilFunc w := fun _ => (rfl)
@[simp] theorem Sq.zeroValue89 : ∀ (w : Go.World), Go.Sem.run Sq.prog (Go.zeroValue 89) w = Go.Result.ok Go.Value.nilFunc w := fun _ => (rfl)
theorem Sq.results50 : Try.f50.results = #[Go.ResultVar.tmp 2] := rfl
@[simp] theorem Sq.underlying72 : Sq.prog.underlying 72 = Option.some (Go.TypeDesc.func #[61] #[4] Bool.false) := (rfl)
@[simp] theorem Sq.zeroValue25 : ∀ (w : Go.World), Go.Sem.run Sq.prog (Go.zeroValue 25) w = Go.Result.ok (Go.Value.tuple #[Go.Value.slice Option.none 0 0, Go.Value.bool Bool.false]) w := fun _ => (rfl)
@[simp] theorem Sq.stoodInHeld112 : Sq.prog.stoodInHeld 112 = Bool.false := by kernel_rfl
@[simp] theorem Sq.zeroValue53 : ∀ (w : Go.World), Go.Sem.run Sq.prog (Go.zeroValue 53) w = Go.Result.ok Go.Value.nilFunc w := fun _ => (rfl)
@[simp] theorem Sq.eqGuardType52 : Sq.prog.eqGuardType Sq.prog.depth 52 = Bool.false := by kernel_rfl
@[simp] theorem Sq.call11 : ∀ (args : Array Go.Value) (w : Go.World), Go.Sem.run Sq.prog (Go.callFunc 11 args) w = Go.Result.ok (Go.Next.enter 11 args) w := fun _ _ => (rfl)
@[simp] theorem Sq.underlying99 : Sq.prog.underlying 99 = Option.some (Go.TypeDesc.struct #[{ name := "_", type := 98, offset := 0, embedded := Bool.false, tag := "", pkgPath := "runtime", byteOffset := 0 }]) := (rfl)
theorem Sq.nfree91 : Try.f91.nfree = 0 := rfl
@[simp] theorem Sq.zeroValue16 : ∀ (w : Go.World), Go.Sem.run Sq.prog (Go.zeroValue 16) w = Go.Result.ok (Go.Value.pointer Option.none) w := fun _ => (rfl)
@[simp] theorem Sq.type75 : Sq.prog.types[75]? = Option.some Try.t75 := (rfl)
theorem Sq.results57 : Try.f57.results = #[Go.ResultVar.tmp 2] := rfl
@[simp] theorem Sq.func16 : Sq.prog.funcs[16]? = Option.some Try.f16 := (rfl)
theorem Sq.results35 : Try.f35.results = #[Go.ResultVar.tmp 4] := rfl
@[simp] theorem Sq.sizeOf41 : ∀ (w : Go.World), Go.Sem.run Sq.prog (Go.sizeOf 41) w = Go.Result.ok 1 w := fun _ => (rfl)
@[simp] theorem Sq.typeInfo44 : ∀ (w : Go.World), Go.Sem.run Sq.prog (Go.typeInfo 44) w = Go.Result.ok Try.t44 w := fun _ => (rfl)
@[simp] theorem Sq.call7 : ∀ (args : Array Go.Value) (w : Go.World), Go.Sem.run Sq.prog (Go.callFunc 7 args) w = Go.Result.ok (Go.Next.enter 7 args) w := fun _ _ => (rfl)
@[simp] theorem Sq.typeInfo114 : ∀ (w : Go.World), Go.Sem.run Sq.prog (Go.typeInfo 114) w = Go.Result.ok Try.t114 w := fun _ => (rfl)
@[simp] theorem Sq.sizeOf61 : ∀ (w : Go.World), Go.Sem.run Sq.prog (Go.sizeOf 61) w = Go.Result.ok 1 w := fun _ => (rfl)
@[simp] theorem Sq.underlying1 : Sq.prog.underlying 1 = Option.some (Go.TypeDesc.func #[] #[] Bool.false) := (rfl)
theorem Sq.params79 : Try.f79.params = #[78, 3, 3, 84] := rfl
@[simp] theorem Sq.type60 : Sq.prog.types[60]? = Option.some Try.t60 := (rfl)
@[simp] theorem Sq.underlying100 : Sq.prog.underlying 100 = Option.some (Go.TypeDesc.struct #[{ name := "_", type := 98, offset := 0, embedded := Bool.false, tag := "", pkgPath := "runtime", byteOffset := 0 }]) := (rfl)
@[simp] theorem Sq.isAgg76 : ∀ (w : Go.World), Go.Sem.run Sq.prog (Go.isAgg 76) w = Go.Result.ok Bool.false w := fun _ => (rfl)
@[simp] theorem Sq.call47 : ∀ (args : Array Go.Value) (w : Go.World), Go.Sem.run Sq.prog (Go.callFunc 47 args) w = Go.Result.ok (Go.Next.enter 47 args) w := fun _ _ => (rfl)
@[simp] theorem Sq.func98 : Sq.prog.funcs[98]? = Option.some Try.f98 := (rfl)
@[simp] theorem Sq.underlying96 : Sq.prog.underlying 96 = Option.some (Go.TypeDesc.struct #[{ name := "_interface", type := 17, offset := 0, embedded := Bool.false, tag := "", pkgPath := "runtime", byteOffset := 0 }, { name := "concrete", type := 17, offset := 1, embedded := Bool.false, tag := "", pkgPath := "runtime", byteOffset := 8 }, { name := "asserted", type := 17, offset := 2, embedded := Bool.false, tag := "", pkgPath := "runtime", byteOffset := 16 }, { name := "missingMethod", type := 9, offset := 3, embedded := Bool.false, tag := "", pkgPath := "runtime", byteOffset := 24 }]) := (rfl)
@[simp] theorem Sq.call69 : ∀ (args : Array Go.Value) (w : Go.World), Go.Sem.run Sq.prog (Go.callFunc 69 args) w = Go.Result.ok (Go.Next.enter 69 args) w := fun _ _ => (rfl)
@[simp] theorem Sq.func60 : Sq.prog.funcs[60]? = Option.some Try.f60 := (rfl)
@[simp] theorem Sq.underlying14 : Sq.prog.underlying 14 = Option.some (Go.TypeDesc.struct #[{ name := "msg", type := 9, offset := 0, embedded := Bool.false, tag := "", pkgPath := "runtime", byteOffset := 0 }, { name := "addr", type := 12, offset := 1, embedded := Bool.false, tag := "", pkgPath := "runtime", byteOffset := 16 }]) := (rfl)
@[simp] theorem Sq.typeInfo36 : ∀ (w : Go.World), Go.Sem.run Sq.prog (Go.typeInfo 36) w = Go.Result.ok Try.t36 w := fun _ => (rfl)
@[simp] theorem Sq.type3 : Sq.prog.types[3]? = Option.some Try.t3 := (rfl)
theorem Sq.params59 : Try.f59.params = #[61, 2] := rfl
@[simp] theorem Sq.runUnderlying33 : ∀ (w : Go.World), Go.Sem.run Sq.prog (Go.underlying 33) w = Go.Result.ok (Go.TypeDesc.func #[23, 3] #[3] Bool.false) w := fun _ => (rfl)
@[simp] theorem Sq.call8 : ∀ (args : Array Go.Value) (w : Go.World), Go.Sem.run Sq.prog (Go.callFunc 8 args) w = Go.Result.ok (Go.Next.enter 8 args) w := fun _ _ => (rfl)
theorem Sq.ntmps26 : Try.f26.ntmps = 5 := rfl
@[simp] theorem Sq.underlying60 : Sq.prog.underlying 60 = Option.some (Go.TypeDesc.func #[61, 2, 2] #[4] Bool.false) := (rfl)
theorem Sq.nfree17 : Try.f17.nfree = 0 := rfl
@[simp] theorem Sq.sizeOf14 : ∀ (w : Go.World), Go.Sem.run Sq.prog (Go.sizeOf 14) w = Go.Result.ok 2 w := fun _ => (rfl)
@[simp] theorem Sq.func99 : Sq.prog.funcs[99]? = Option.some Try.f99 := (rfl)
@[simp] theorem Sq.isAgg15 : ∀ (w : Go.World), Go.Sem.run Sq.prog (Go.isAgg 15) w = Go.Result.ok Bool.false w := fun _ => (rfl)
theorem Sq.params48 : Try.f48.params = #[2, 23] := rfl
@[simp] theorem Sq.func4 : Sq.prog.funcs[4]? = Option.some Try.f4 := (rfl)
@[simp] theorem Sq.call70 : ∀ (args : Array Go.Value) (w : Go.World), Go.Sem.run Sq.prog (Go.callFunc 70 args) w = Go.Result.ok (Go.Next.enter 70 args) w := fun _ _ => (rfl)
@[simp] theorem Sq.zeroValue75 : ∀ (w : Go.World), Go.Sem.run Sq.prog (Go.zeroValue 75) w = Go.Result.ok Go.Value.nilFunc w := fun _ => (rfl)
@[simp] theorem Sq.underlying16 : Sq.prog.underlying 16 = Option.some (Go.TypeDesc.pointer 100) := (rfl)
@[simp] theorem Sq.type8 : Sq.prog.types[8]? = Option.some Try.t8 := (rfl)
@[simp] theorem Sq.call10 : ∀ (args : Array Go.Value) (w : Go.World), Go.Sem.run Sq.prog (Go.callFunc 10 args) w = Go.Result.ok (Go.Next.enter 10 args) w := fun _ _ => (rfl)
theorem Sq.ntmps83 : Try.f83.ntmps = 1 := rfl
@[simp] theorem Sq.type64 : Sq.prog.types[64]? = Option.some Try.t64 := (rfl)
@[simp] theorem Sq.zeroValue84 : ∀ (w : Go.World), Go.Sem.run Sq.prog (Go.zeroValue 84) w = Go.Result.ok Go.Value.nilFunc w := fun _ => (rfl)
theorem Sq.params77 : Try.f77.params = #[23, 48] := rfl
@[simp] theorem Sq.zeroValue27 : ∀ (w : Go.World), Go.Sem.run Sq.prog (Go.zeroValue 27) w = Go.Result.ok (Go.Value.slice Option.none 0 0) w := fun _ => (rfl)
@[simp] theorem Sq.stoodInHeld96 : Sq.prog.stoodInHeld 96 = Bool.true := by kernel_rfl
@[simp] theorem Sq.runUnderlying45 : ∀ (w : Go.World), Go.Sem.run Sq.prog (Go.underlying 45) w = Go.Result.ok (Go.TypeDesc.func #[23, 23, 2] #[4] Bool.false) w := fun _ => (rfl)
@[simp] theorem Sq.type27 : Sq.prog.types[27]? = Option.some Try.t27 := (rfl)
theorem Sq.ntmps54 : Try.f54.ntmps = 25 := rfl
theorem Sq.results75 : Try.f75.results = #[Go.ResultVar.tmp 2] := rfl
theorem Sq.nfree99 : Try.f99.nfree = 0 := rfl
theorem Sq.ntmps1 : Try.f1.ntmps = 0 := rfl
@[simp] theorem Sq.type6 : Sq.prog.types[6]? = Option.some Try.t6 := (rfl)
@[simp] theorem Sq.call62 : ∀ (args : Array Go.Value) (w : Go.World), Go.Sem.run Sq.prog (Go.callFunc 62 args) w = Go.Result.ok (Go.Next.enter 62 args) w := fun _ _ => (rfl)
theorem Sq.results77 : Try.f77.results = #[Go.ResultVar.tmp 4] := rfl
theorem Sq.params65 : Try.f65.params = #[23] := rfl
theorem Sq.ntmps91 : Try.f91.ntmps = 1 := rfl
@[simp] theorem Sq.isAgg59 : ∀ (w : Go.World), Go.Sem.run Sq.prog (Go.isAgg 59) w = Go.Result.ok Bool.false w := fun _ => (rfl)
@[simp] theorem Sq.isAgg45 : ∀ (w : Go.World), Go.Sem.run Sq.prog (Go.isAgg 45) w = Go.Result.ok Bool.false w := fun _ => (rfl)
theorem Sq.params86 : Try.f86.params = #[10] := rfl
@[simp] theorem Sq.sizeOf6 : ∀ (w : Go.World), Go.Sem.run Sq.prog (Go.sizeOf 6) w = Go.Result.ok 1 w := fun _ => (rfl)
@[simp] theorem Sq.call63 : ∀ (args : Array Go.Value) (w : Go.World), Go.Sem.run Sq.prog (Go.callFunc 63 args) w = Go.Result.ok (Go.Next.enter 63 args) w := fun _ _ => (rfl)
@[simp] theorem Sq.zeroValue26 : ∀ (w : Go.World), Go.Sem.run Sq.prog (Go.zeroValue 26) w = Go.Result.ok Go.Value.nilFunc w := fun _ => (rfl)
theorem Sq.nfree68 : Try.f68.nfree = 0 := rfl
@[simp] theorem Sq.main_eq : Sq.prog.main = 0 := (rfl)
theorem Sq.ntmps44 : Try.f44.ntmps = 37 := rfl
@[simp] theorem Sq.sizeOf30 : ∀ (w : Go.World), Go.Sem.run Sq.prog (Go.sizeOf 30) w = Go.Result.ok 1 w := fun _ => (rfl)
@[simp] theorem Sq.type94 : Sq.prog.types[94]? = Option.some Try.t94 := (rfl)
theorem Sq.results5 : Try.f5.results = #[Go.ResultVar.tmp 6] := rfl
@[simp] theorem Sq.type106 : Sq.prog.types[106]? = Option.some Try.t106 := (rfl)
theorem Sq.nfree56 : Try.f56.nfree = 0 := rfl
@[simp] theorem Sq.call72 : ∀ (args : Array Go.Value) (w : Go.World), Go.Sem.run Sq.prog (Go.callFunc 72 args) w = Go.Result.ok (Go.Next.enter 72 args) w := fun _ _ => (rfl)
theorem Sq.nfree8 : Try.f8.nfree = 0 := rfl
@[simp] theorem Sq.typeInfo21 : ∀ (w : Go.World), Go.Sem.run Sq.prog (Go.typeInfo 21) w = Go.Result.ok Try.t21 w := fun _ => (rfl)
@[simp] theorem Sq.sizeOf8 : ∀ (w : Go.World), Go.Sem.run Sq.prog (Go.sizeOf 8) w = Go.Result.ok 4 w := fun _ => (rfl)
@[simp] theorem Sq.call12 : ∀ (args : Array Go.Value) (w : Go.World), Go.Sem.run Sq.prog (Go.callFunc 12 args) w = Go.Result.ok (Go.Next.enter 12 args) w := fun _ _ => (rfl)
@[simp] theorem Sq.underlying2 : Sq.prog.underlying 2 = Option.some (Go.TypeDesc.int Go.IntKind.i64) := (rfl)
theorem Sq.results13 : Try.f13.results = #[Go.ResultVar.tmp 4] := rfl
@[simp] theorem Sq.type70 : Sq.prog.types[70]? = Option.some Try.t70 := (rfl)
@[simp] theorem Sq.isAgg26 : ∀ (w : Go.World), Go.Sem.run Sq.prog (Go.isAgg 26) w = Go.Result.ok Bool.false w := fun _ => (rfl)
@[simp] theorem Sq.func43 : Sq.prog.funcs[43]? = Option.some Try.f43 := (rfl)
theorem Sq.ntmps14 : Try.f14.ntmps = 19 := rfl
@[simp] theorem Sq.runUnderlying0 : ∀ (w : Go.World), Go.Sem.run Sq.prog (Go.underlying 0) w = Go.Result.ok (Go.TypeDesc.tuple #[]) w := fun _ => (rfl)
@[simp] theorem Sq.typeInfo101 : ∀ (w : Go.World), Go.Sem.run Sq.prog (Go.typeInfo 101) w = Go.Result.ok Try.t101 w := fun _ => (rfl)
@[simp] theorem Sq.type20 : Sq.prog.types[20]? = Option.some Try.t20 := (rfl)
theorem Sq.nfree61 : Try.f61.nfree = 0 := rfl
@[simp] theorem Sq.zeroValue5 : ∀ (w : Go.World), Go.Sem.run Sq.prog (Go.zeroValue 5) w = Go.Result.ok (Go.Value.int Go.IntKind.u8 0) w := fun _ => (rfl)
theorem Sq.nfree30 : Try.f30.nfree = 0 := rfl
@[simp] theorem Sq.runUnderlying112 : ∀ (w : Go.World), Go.Sem.run Sq.prog (Go.underlying 112) w = Go.Result.ok (Go.TypeDesc.struct #[{ name := "s", type := 9, offset := 0, embedded := Bool.false, tag := "", pkgPath := "errors", byteOffset := 0 }]) w := fun _ => (rfl)
@[simp] theorem Sq.sizeOf65 : ∀ (w : Go.World), Go.Sem.run Sq.prog (Go.sizeOf 65) w = Go.Result.ok 1 w := fun _ => (rfl)
@[simp] theorem Sq.isAgg2 : ∀ (w : Go.World), Go.Sem.run Sq.prog (Go.isAgg 2) w = Go.Result.ok Bool.false w := fun _ => (rfl)
@[simp] theorem Sq.type56 : Sq.prog.types[56]? = Option.some Try.t56 := (rfl)
@[simp] theorem Sq.zeroValue80 : ∀ (w : Go.World), Go.Sem.run Sq.prog (Go.zeroValue 80) w = Go.Result.ok (Go.Value.tuple #[Go.Value.int Go.IntKind.u64 0, Go.Value.int Go.IntKind.u64 0]) w := fun _ => (rfl)
theorem Sq.results11 : Try.f11.results = #[Go.ResultVar.tmp 4] := rfl
@[simp] theorem Sq.typeInfo63 : ∀ (w : Go.World), Go.Sem.run Sq.prog (Go.typeInfo 63) w = Go.Result.ok Try.t63 w := fun _ => (rfl)
theorem Sq.nfree19 : Try.f19.nfree = 0 := rfl
@[simp] theorem Sq.call59 : ∀ (args : Array Go.Value) (w : Go.World), Go.Sem.run Sq.prog (Go.callFunc 59 args) w = Go.Result.ok (Go.Next.enter 59 args) w := fun _ _ => (rfl)
@[simp] theorem Sq.typeInfo14 : ∀ (w : Go.World), Go.Sem.run Sq.prog (Go.typeInfo 14) w = Go.Result.ok Try.t14 w := fun _ => (rfl)
@[simp] theorem Sq.underlying43 : Sq.prog.underlying 43 = Option.some (Go.TypeDesc.func #[36, 23, 2, 2] #[4] Bool.false) := (rfl)
@[simp] theorem Sq.typeInfo53 : ∀ (w : Go.World), Go.Sem.run Sq.prog (Go.typeInfo 53) w = Go.Result.ok Try.t53 w := fun _ => (rfl)
@[simp] theorem Sq.underlying39 : Sq.prog.underlying 39 = Option.some (Go.TypeDesc.struct #[{ name := "Breaks", type := 23, offset := 0, embedded := Bool.false, tag := "", pkgPath := "", byteOffset := 0 }, { name := "Rates", type := 23, offset := 1, embedded := Bool.false, tag := "", pkgPath := "", byteOffset := 24 }]) := (rfl)
theorem Sq.nfree70 : Try.f70.nfree = 0 := rfl
@[simp] theorem Sq.call19 : ∀ (args : Array Go.Value) (w : Go.World), Go.Sem.run Sq.prog (Go.callFunc 19 args) w = Go.Result.ok (Go.Next.enter 19 args) w := fun _ _ => (rfl)
theorem Sq.results92 : Try.f92.results = #[] := rfl
@[simp] theorem Sq.func90 : Sq.prog.funcs[90]? = Option.some Try.f90 := (rfl)
@[simp] theorem Sq.typeInfo29 : ∀ (w : Go.World), Go.Sem.run Sq.prog (Go.typeInfo 29) w = Go.Result.ok Try.t29 w := fun _ => (rfl)
@[simp] theorem Sq.isAgg107 : ∀ (w : Go.World), Go.Sem.run Sq.prog (Go.isAgg 107) w = Go.Result.ok Bool.false w := fun _ => (rfl)
@[simp] theorem Sq.underlying48 : Sq.prog.underlying 48 = Option.some (Go.TypeDesc.func #[2] #[4] Bool.false) := (rfl)
@[simp] theorem Sq.call21 : ∀ (args : Array Go.Value) (w : Go.World), Go.Sem.run Sq.prog (Go.callFunc 21 args) w = Go.Result.ok (Go.Next.enter 21 args) w := fun _ _ => (rfl)
theorem Sq.ntmps0 : Try.f0.ntmps = 0 := rfl
theorem Sq.nfree93 : Try.f93.nfree = 0 := rfl
theorem Sq.nfree73 : Try.f73.nfree = 0 := rfl
@[simp] theorem Sq.typeInfo3 : ∀ (w : Go.World), Go.Sem.run Sq.prog (Go.typeInfo 3) w = Go.Result.ok Try.t3 w := fun _ => (rfl)
theorem Sq.params72 : Try.f72.params = #[2] := rfl
@[simp] theorem Sq.runUnderlying27 : ∀ (w : Go.World), Go.Sem.run Sq.prog (Go.underlying 27) w = Go.Result.ok (Go.TypeDesc.slice 52) w := fun _ => (rfl)
theorem Sq.results63 : Try.f63.results = #[Go.ResultVar.tmp 6] := rfl
@[simp] theorem Sq.runUnderlying50 : ∀ (w : Go.World), Go.Sem.run Sq.prog (Go.underlying 50) w = Go.Result.ok (Go.TypeDesc.func #[2, 2] #[2] Bool.false) w := fun _ => (rfl)
theorem Sq.nfree10 : Try.f10.nfree = 0 := rfl
@[simp] theorem Sq.runUnderlying76 : ∀ (w : Go.World), Go.Sem.run Sq.prog (Go.underlying 76) w = Go.Result.ok (Go.TypeDesc.func #[23] #[2] Bool.false) w := fun _ => (rfl)
@[simp] theorem Sq.isAgg66 : ∀ (w : Go.World), Go.Sem.run Sq.prog (Go.isAgg 66) w = Go.Result.ok Bool.false w := fun _ => (rfl)
theorem Sq.nfree44 : Try.f44.nfree = 0 := rfl
@[simp] theorem Sq.typeInfo71 : ∀ (w : Go.World), Go.Sem.run Sq.prog (Go.typeInfo 71) w = Go.Result.ok Try.t71 w := fun _ => (rfl)
@[simp] theorem Sq.sizeOf84 : ∀ (w : Go.World), Go.Sem.run Sq.prog (Go.sizeOf 84) w = Go.Result.ok 1 w := fun _ => (rfl)
@[simp] theorem Sq.func69 : Sq.prog.funcs[69]? = Option.some Try.f69 := (rfl)
@[simp] theorem Sq.sizeOf46 : ∀ (w : Go.World), Go.Sem.run Sq.prog (Go.sizeOf 46) w = Go.Result.ok 1 w := fun _ => (rfl)
theorem Sq.ntmps48 : Try.f48.ntmps = 84 := rfl
@[simp] theorem Sq.type53 : Sq.prog.types[53]? = Option.some Try.t53 := (rfl)
@[simp] theorem Sq.typeInfo51 : ∀ (w : Go.World), Go.Sem.run Sq.prog (Go.typeInfo 51) w = Go.Result.ok Try.t51 w := fun _ => (rfl)
@[simp] theorem Sq.sizeOf24 : ∀ (w : Go.World), Go.Sem.run Sq.prog (Go.sizeOf 24) w = Go.Result.ok 1 w := fun _ => (rfl)
theorem Sq.results90 : Try.f90.results = #[] := rfl
theorem Sq.ntmps60 : Try.f60.ntmps = 32 := rfl
@[simp] theorem Sq.sizeOf106 : ∀ (w : Go.World), Go.Sem.run Sq.prog (Go.sizeOf 106) w = Go.Result.ok 1 w := fun _ => (rfl)
theorem Sq.nfree47 : Try.f47.nfree = 1 := rfl
theorem Sq.ntmps11 : Try.f11.ntmps = 26 := rfl
@[simp] theorem Sq.isAgg69 : ∀ (w : Go.World), Go.Sem.run Sq.prog (Go.isAgg 69) w = Go.Result.ok Bool.false w := fun _ => (rfl)
@[simp] theorem Sq.typeInfo57 : ∀ (w : Go.World), Go.Sem.run Sq.prog (Go.typeInfo 57) w = Go.Result.ok Try.t57 w := fun _ => (rfl)
@[simp] theorem Sq.underlying52 : Sq.prog.underlying 52 = Option.some (Go.TypeDesc.struct #[{ name := "Day", type := 2, offset := 0, embedded := Bool.false, tag := "", pkgPath := "", byteOffset := 0 }, { name := "Debit", type := 2, offset := 1, embedded := Bool.false, tag := "", pkgPath := "", byteOffset := 8 }, { name := "Credit", type := 2, offset := 2, embedded := Bool.false, tag := "", pkgPath := "", byteOffset := 16 }, { name := "Cents", type := 2, offset := 3, embedded := Bool.false, tag := "", pkgPath := "", byteOffset := 24 }]) := (rfl)
@[simp] theorem Sq.runUnderlying106 : ∀ (w : Go.World), Go.Sem.run Sq.prog (Go.underlying 106) w = Go.Result.ok (Go.TypeDesc.pointer 5) w := fun _ => (rfl)
@[simp] theorem Sq.type69 : Sq.prog.types[69]? = Option.some Try.t69 := (rfl)
@[simp] theorem Sq.runUnderlying28 : ∀ (w : Go.World), Go.Sem.run Sq.prog (Go.underlying 28) w = Go.Result.ok (Go.TypeDesc.func #[22] #[27] Bool.false) w := fun _ => (rfl)
theorem Sq.results46 : Try.f46.results = #[Go.ResultVar.tmp 2] := rfl
@[simp] theorem Sq.sizeOf102 : ∀ (w : Go.World), Go.Sem.run Sq.prog (Go.sizeOf 102) w = Go.Result.ok 1 w := fun _ => (rfl)
theorem Sq.results48 : Try.f48.results = #[Go.ResultVar.tmp 4] := rfl
@[simp] theorem Sq.isAgg80 : ∀ (w : Go.World), Go.Sem.run Sq.prog (Go.isAgg 80) w = Go.Result.ok Bool.false w := fun _ => (rfl)
@[simp] theorem Sq.call39 : ∀ (args : Array Go.Value) (w : Go.World), Go.Sem.run Sq.prog (Go.callFunc 39 args) w = Go.Result.ok (Go.Next.enter 39 args) w := fun _ _ => (rfl)
@[simp] theorem Sq.underlying114 : Sq.prog.underlying 114 = Option.some Go.TypeDesc.unsafePointer := (rfl)
@[simp] theorem Sq.runUnderlying99 : ∀ (w : Go.World), Go.Sem.run Sq.prog (Go.underlying 99) w = Go.Result.ok (Go.TypeDesc.struct #[{ name := "_", type := 98, offset := 0, embedded := Bool.false, tag := "", pkgPath := "runtime", byteOffset := 0 }]) w := fun _ => (rfl)
@[simp] theorem Sq.sizeOf25 : ∀ (w : Go.World), Go.Sem.run Sq.prog (Go.sizeOf 25) w = Go.Result.ok 1 w := fun _ => (rfl)
@[simp] theorem Sq.underlying13 : Sq.prog.underlying 13 = Option.some (Go.TypeDesc.struct #[{ name := "msg", type := 9, offset := 0, embedded := Bool.false, tag := "", pkgPath := "runtime", byteOffset := 0 }, { name := "addr", type := 12, offset := 1, embedded := Bool.false, tag := "", pkgPath := "runtime", byteOffset := 16 }]) := (rfl)
@[simp] theorem Sq.underlying89 : Sq.prog.underlying 89 = Option.some (Go.TypeDesc.func #[77] #[3] Bool.false) := (rfl)
theorem Sq.results70 : Try.f70.results = #[Go.ResultVar.tmp 4] := rfl
@[simp] theorem Sq.call48 : ∀ (args : Array Go.Value) (w : Go.World), Go.Sem.run Sq.prog (Go.callFunc 48 args) w = Go.Result.ok (Go.Next.enter 48 args) w := fun _ _ => (rfl)
theorem Sq.results39 : Try.f39.results = #[Go.ResultVar.tmp 2] := rfl
@[simp] theorem Sq.func71 : Sq.prog.funcs[71]? = Option.some Try.f71 := (rfl)
@[simp] theorem Sq.type80 : Sq.prog.types[80]? = Option.some Try.t80 := (rfl)
@[simp] theorem Sq.typeInfo45 : ∀ (w : Go.World), Go.Sem.run Sq.prog (Go.typeInfo 45) w = Go.Result.ok Try.t45 w := fun _ => (rfl)
@[simp] theorem Sq.type30 : Sq.prog.types[30]? = Option.some Try.t30 := (rfl)
theorem Sq.results4 : Try.f4.results = #[Go.ResultVar.tmp 8] := rfl
@[simp] theorem Sq.func18 : Sq.prog.funcs[18]? = Option.some Try.f18 := (rfl)
@[simp] theorem Sq.runUnderlying5 : ∀ (w : Go.World), Go.Sem.run Sq.prog (Go.underlying 5) w = Go.Result.ok (Go.TypeDesc.int Go.IntKind.u8) w := fun _ => (rfl)
@[simp] theorem Sq.isAgg54 : ∀ (w : Go.World), Go.Sem.run Sq.prog (Go.isAgg 54) w = Go.Result.ok Bool.true w := fun _ => (rfl)
theorem Sq.params55 : Try.f55.params = #[27, 2] := rfl
@[simp] theorem Sq.type0 : Sq.prog.types[0]? = Option.some Try.t0 := (rfl)
@[simp] theorem Sq.zeroValue23 : ∀ (w : Go.World), Go.Sem.run Sq.prog (Go.zeroValue 23) w = Go.Result.ok (Go.Value.slice Option.none 0 0) w := fun _ => (rfl)
theorem Sq.ntmps35 : Try.f35.ntmps = 22 := rfl
theorem Sq.ntmps6 : Try.f6.ntmps = 12 := rfl
theorem Sq.ntmps24 : Try.f24.ntmps = 75 := rfl
@[simp] theorem Sq.isAgg85 : ∀ (w : Go.World), Go.Sem.run Sq.prog (Go.isAgg 85) w = Go.Result.ok Bool.false w := fun _ => (rfl)
@[simp] theorem Sq.underlying5 : Sq.prog.underlying 5 = Option.some (Go.TypeDesc.int Go.IntKind.u8) := (rfl)
@[simp] theorem Sq.isAgg90 : ∀ (w : Go.World), Go.Sem.run Sq.prog (Go.isAgg 90) w = Go.Result.ok Bool.false w := fun _ => (rfl)
@[simp] theorem Sq.zeroValue32 : ∀ (w : Go.World), Go.Sem.run Sq.prog (Go.zeroValue 32) w = Go.Result.ok Go.Value.nilFunc w := fun _ => (rfl)
theorem Sq.ntmps57 : Try.f57.ntmps = 5 := rfl
@[simp] theorem Sq.eqGuardType8 : Sq.prog.eqGuardType Sq.prog.depth 8 = Bool.false := by kernel_rfl
@[simp] theorem Sq.underlying40 : Sq.prog.underlying 40 = Option.some (Go.TypeDesc.func #[36] #[39] Bool.false) := (rfl)
@[simp] theorem Sq.typeInfo54 : ∀ (w : Go.World), Go.Sem.run Sq.prog (Go.typeInfo 54) w = Go.Result.ok Try.t54 w := fun _ => (rfl)
@[simp] theorem Sq.func89 : Sq.prog.funcs[89]? = Option.some Try.f89 := (rfl)
theorem Sq.results30 : Try.f30.results = #[Go.ResultVar.tmp 2] := rfl
theorem Sq.params80 : Try.f80.params = #[78, 3, 3, 3, 84] := rfl
@[simp] theorem Sq.isAgg20 : ∀ (w : Go.World), Go.Sem.run Sq.prog (Go.isAgg 20) w = Go.Result.ok Bool.false w := fun _ => (rfl)
@[simp] theorem Sq.isAgg94 : ∀ (w : Go.World), Go.Sem.run Sq.prog (Go.isAgg 94) w = Go.Result.ok Bool.false w := fun _ => (rfl)
@[simp] theorem Sq.func95 : Sq.prog.funcs[95]? = Option.some Try.f95 := (rfl)
@[simp] theorem Sq.typeInfo12 : ∀ (w : Go.World), Go.Sem.run Sq.prog (Go.typeInfo 12) w = Go.Result.ok Try.t12 w := fun _ => (rfl)
@[simp] theorem Sq.call68 : ∀ (args : Array Go.Value) (w : Go.World), Go.Sem.run Sq.prog (Go.callFunc 68 args) w = Go.Result.ok (Go.Next.enter 68 args) w := fun _ _ => (rfl)
@[simp] theorem Sq.call15 : ∀ (args : Array Go.Value) (w : Go.World), Go.Sem.run Sq.prog (Go.callFunc 15 args) w = Go.Result.ok (Go.Next.enter 15 args) w := fun _ _ => (rfl)
@[simp] theorem Sq.type58 : Sq.prog.types[58]? = Option.some Try.t58 := (rfl)
theorem Sq.ntmps55 : Try.f55.ntmps = 39 := rfl
@[simp] theorem Sq.isAgg49 : ∀ (w : Go.World), Go.Sem.run Sq.prog (Go.isAgg 49) w = Go.Result.ok Bool.false w := fun _ => (rfl)
@[simp] theorem Sq.underlying3 : Sq.prog.underlying 3 = Option.some (Go.TypeDesc.int Go.IntKind.i64) := (rfl)
theorem Sq.nfree13 : Try.f13.nfree = 0 := rfl
@[simp] theorem Sq.type113 : Sq.prog.types[113]? = Option.some Try.t113 := (rfl)
@[simp] theorem Sq.isAgg65 : ∀ (w : Go.World), Go.Sem.run Sq.prog (Go.isAgg 65) w = Go.Result.ok Bool.false w := fun _ => (rfl)
@[simp] theorem Sq.type57 : Sq.prog.types[57]? = Option.some Try.t57 := (rfl)
@[simp] theorem Sq.isAgg71 : ∀ (w : Go.World), Go.Sem.run Sq.prog (Go.isAgg 71) w = Go.Result.ok Bool.false w := fun _ => (rfl)
@[simp] theorem Sq.typeInfo107 : ∀ (w : Go.World), Go.Sem.run Sq.prog (Go.typeInfo 107) w = Go.Result.ok Try.t107 w := fun _ => (rfl)
@[simp] theorem Sq.call28 : ∀ (args : Array Go.Value) (w : Go.World), Go.Sem.run Sq.prog (Go.callFunc 28 args) w = Go.Result.ok (Go.Next.enter 28 args) w := fun _ _ => (rfl)
@[simp] theorem Sq.func27 : Sq.prog.funcs[27]? = Option.some Try.f27 := (rfl)
theorem Sq.results16 : Try.f16.results = #[Go.ResultVar.tmp 4] := rfl
@[simp] theorem Sq.func81 : Sq.prog.funcs[81]? = Option.some Try.f81 := (rfl)
theorem Sq.params3 : Try.f3.params = #[22, 23, 2] := rfl
theorem Sq.ntmps61 : Try.f61.ntmps = 5 := rfl
theorem Sq.nfree82 : Try.f82.nfree = 0 := rfl
@[simp] theorem Sq.runUnderlying57 : ∀ (w : Go.World), Go.Sem.run Sq.prog (Go.underlying 57) w = Go.Result.ok (Go.TypeDesc.func #[27, 2] #[2] Bool.false) w := fun _ => (rfl)
@[simp] theorem Sq.call9 : ∀ (args : Array Go.Value) (w : Go.World), Go.Sem.run Sq.prog (Go.callFunc 9 args) w = Go.Result.ok (Go.Next.enter 9 args) w := fun _ _ => (rfl)
@[simp] theorem Sq.sizeOf35 : ∀ (w : Go.World), Go.Sem.run Sq.prog (Go.sizeOf 35) w = Go.Result.ok 2 w := fun _ => (rfl)
theorem Sq.ntmps78 : Try.f78.ntmps = 25 := rfl
@[simp] theorem Sq.isAgg108 : ∀ (w : Go.World), Go.Sem.run Sq.prog (Go.isAgg 108) w = Go.Result.ok Bool.false w := fun _ => (rfl)
@[simp] theorem Sq.typeInfo10 : ∀ (w : Go.World), Go.Sem.run Sq.prog (Go.typeInfo 10) w = Go.Result.ok Try.t10 w := fun _ => (rfl)
theorem Sq.results84 : Try.f84.results = #[] := rfl
@[simp] theorem Sq.zeroValue55 : ∀ (w : Go.World), Go.Sem.run Sq.prog (Go.zeroValue 55) w = Go.Result.ok Go.Value.nilFunc w := fun _ => (rfl)
@[simp] theorem Sq.underlying54 : Sq.prog.underlying 54 = Option.some (Go.TypeDesc.struct #[{ name := "Day", type := 2, offset := 0, embedded := Bool.false, tag := "", pkgPath := "", byteOffset := 0 }, { name := "Debit", type := 2, offset := 1, embedded := Bool.false, tag := "", pkgPath := "", byteOffset := 8 }, { name := "Credit", type := 2, offset := 2, embedded := Bool.false, tag := "", pkgPath := "", byteOffset := 16 }, { name := "Cents", type := 2, offset := 3, embedded := Bool.false, tag := "", pkgPath := "", byteOffset := 24 }]) := (rfl)
theorem Sq.nfree67 : Try.f67.nfree = 0 := rfl
theorem Sq.ntmps97 : Try.f97.ntmps = 1 := rfl
theorem Sq.nfree88 : Try.f88.nfree = 0 := rfl
@[simp] theorem Sq.zeroValue71 : ∀ (w : Go.World), Go.Sem.run Sq.prog (Go.zeroValue 71) w = Go.Result.ok (Go.Value.chan Option.none) w := fun _ => (rfl)
@[simp] theorem Sq.zeroValue87 : ∀ (w : Go.World), Go.Sem.run Sq.prog (Go.zeroValue 87) w = Go.Result.ok Go.Value.nilIface w := fun _ => (rfl)
@[simp] theorem Sq.sizeOf11 : ∀ (w : Go.World), Go.Sem.run Sq.prog (Go.sizeOf 11) w = Go.Result.ok 1 w := fun _ => (rfl)
@[simp] theorem Sq.isAgg75 : ∀ (w : Go.World), Go.Sem.run Sq.prog (Go.isAgg 75) w = Go.Result.ok Bool.false w := fun _ => (rfl)
@[simp] theorem Sq.underlying12 : Sq.prog.underlying 12 = Option.some (Go.TypeDesc.int Go.IntKind.u64) := (rfl)
theorem Sq.results97 : Try.f97.results = #[] := rfl
@[simp] theorem Sq.call30 : ∀ (args : Array Go.Value) (w : Go.World), Go.Sem.run Sq.prog (Go.callFunc 30 args) w = Go.Result.ok (Go.Next.enter 30 args) w := fun _ _ => (rfl)
@[simp] theorem Sq.typeInfo2 : ∀ (w : Go.World), Go.Sem.run Sq.prog (Go.typeInfo 2) w = Go.Result.ok Try.t2 w := fun _ => (rfl)
@[simp] theorem Sq.type7 : Sq.prog.types[7]? = Option.some Try.t7 := (rfl)
theorem Sq.params96 : Try.f96.params = #[19] := rfl
@[simp] theorem Sq.rt_eq : Sq.prog.rt = { boundsError := 8, errorString := 10, plainError := 11, errorAddressString := 14, typeAssertionError := 15, panicNilError := 16, unhashableTypeError := 19, string := 9, any := 20, int := 3, bool := 4, rune := 21, byte := 5 } := (rfl)
@[simp] theorem Sq.runUnderlying65 : ∀ (w : Go.World), Go.Sem.run Sq.prog (Go.underlying 65) w = Go.Result.ok (Go.TypeDesc.func #[23] #[2, 4] Bool.false) w := fun _ => (rfl)
theorem Sq.nfree16 : Try.f16.nfree = 0 := rfl
@[simp] theorem Sq.isAgg91 : ∀ (w : Go.World), Go.Sem.run Sq.prog (Go.isAgg 91) w = Go.Result.ok Bool.false w := fun _ => (rfl)
theorem Sq.results51 : Try.f51.results = #[Go.ResultVar.tmp 2] := rfl
@[simp] theorem Sq.runUnderlying53 : ∀ (w : Go.World), Go.Sem.run Sq.prog (Go.underlying 53) w = Go.Result.ok (Go.TypeDesc.func #[54] #[52] Bool.false) w := fun _ => (rfl)
@[simp] theorem Sq.call40 : ∀ (args : Array Go.Value) (w : Go.World), Go.Sem.run Sq.prog (Go.callFunc 40 args) w = Go.Result.ok (Go.Next.enter 40 args) w := fun _ _ => (rfl)
@[simp] theorem Sq.typeInfo93 : ∀ (w : Go.World), Go.Sem.run Sq.prog (Go.typeInfo 93) w = Go.Result.ok Try.t93 w := fun _ => (rfl)
theorem Sq.params17 : Try.f17.params = #[39, 23, 2, 2] := rfl
@[simp] theorem Sq.func21 : Sq.prog.funcs[21]? = Option.some Try.f21 := (rfl)
@[simp] theorem Sq.typeInfo43 : ∀ (w : Go.World), Go.Sem.run Sq.prog (Go.typeInfo 43) w = Go.Result.ok Try.t43 w := fun _ => (rfl)
theorem Sq.results81 : Try.f81.results = #[] := rfl
@[simp] theorem Sq.runUnderlying80 : ∀ (w : Go.World), Go.Sem.run Sq.prog (Go.underlying 80) w = Go.Result.ok (Go.TypeDesc.tuple #[77, 77]) w := fun _ => (rfl)
@[simp] theorem Sq.isAgg111 : ∀ (w : Go.World), Go.Sem.run Sq.prog (Go.isAgg 111) w = Go.Result.ok Bool.false w := fun _ => (rfl)
theorem Sq.ntmps46 : Try.f46.ntmps = 10 := rfl
theorem Sq.nfree31 : Try.f31.nfree = 0 := rfl
@[simp] theorem Sq.isAgg105 : ∀ (w : Go.World), Go.Sem.run Sq.prog (Go.isAgg 105) w = Go.Result.ok Bool.false w := fun _ => (rfl)
@[simp] theorem Sq.underlying0 : Sq.prog.underlying 0 = Option.some (Go.TypeDesc.tuple #[]) := (rfl)
theorem Sq.params4 : Try.f4.params = #[36, 23, 2, 2] := rfl
@[simp] theorem Sq.type93 : Sq.prog.types[93]? = Option.some Try.t93 := (rfl)
@[simp] theorem Sq.eqGuardType14 : Sq.prog.eqGuardType Sq.prog.depth 14 = Bool.false := by kernel_rfl
theorem Sq.params68 : Try.f68.params = #[78, 84] := rfl
@[simp] theorem Sq.type41 : Sq.prog.types[41]? = Option.some Try.t41 := (rfl)
@[simp] theorem Sq.func65 : Sq.prog.funcs[65]? = Option.some Try.f65 := (rfl)
@[simp] theorem Sq.call14 : ∀ (args : Array Go.Value) (w : Go.World), Go.Sem.run Sq.prog (Go.callFunc 14 args) w = Go.Result.ok (Go.Next.enter 14 args) w := fun _ _ => (rfl)
theorem Sq.nfree46 : Try.f46.nfree = 0 := rfl
theorem Sq.nfree21 : Try.f21.nfree = 0 := rfl
@[simp] theorem Sq.sizeOf17 : ∀ (w : Go.World), Go.Sem.run Sq.prog (Go.sizeOf 17) w = Go.Result.ok 1 w := fun _ => (rfl)
@[simp] theorem Sq.func31 : Sq.prog.funcs[31]? = Option.some Try.f31 := (rfl)
@[simp] theorem Sq.zeroValue36 : ∀ (w : Go.World), Go.Sem.run Sq.prog (Go.zeroValue 36) w = Go.Result.ok (Go.Value.agg #[Go.Value.slice Option.none 0 0, Go.Value.slice Option.none 0 0]) w := fun _ => (rfl)
@[simp] theorem Sq.runUnderlying4 : ∀ (w : Go.World), Go.Sem.run Sq.prog (Go.underlying 4) w = Go.Result.ok Go.TypeDesc.bool w := fun _ => (rfl)
@[simp] theorem Sq.underlying56 : Sq.prog.underlying 56 = Option.some (Go.TypeDesc.func #[23, 2, 58] #[23] Bool.false) := (rfl)
@[simp] theorem Sq.zeroValue60 : ∀ (w : Go.World), Go.Sem.run Sq.prog (Go.zeroValue 60) w = Go.Result.ok Go.Value.nilFunc w := fun _ => (rfl)
@[simp] theorem Sq.func58 : Sq.prog.funcs[58]? = Option.some Try.f58 := (rfl)
theorem Sq.params25 : Try.f25.params = #[2, 2, 2] := rfl
@[simp] theorem Sq.typeInfo55 : ∀ (w : Go.World), Go.Sem.run Sq.prog (Go.typeInfo 55) w = Go.Result.ok Try.t55 w := fun _ => (rfl)
@[simp] theorem Sq.call38 : ∀ (args : Array Go.Value) (w : Go.World), Go.Sem.run Sq.prog (Go.callFunc 38 args) w = Go.Result.ok (Go.Next.enter 38 args) w := fun _ _ => (rfl)
@[simp] theorem Sq.runUnderlying30 : ∀ (w : Go.World), Go.Sem.run Sq.prog (Go.underlying 30) w = Go.Result.ok (Go.TypeDesc.func #[23, 23] #[4] Bool.false) w := fun _ => (rfl)
theorem Sq.nfree34 : Try.f34.nfree = 1 := rfl
@[simp] theorem Sq.type25 : Sq.prog.types[25]? = Option.some Try.t25 := (rfl)
theorem Sq.nfree52 : Try.f52.nfree = 0 := rfl
@[simp] theorem Sq.eqGuardType109 : Sq.prog.eqGuardType Sq.prog.depth 109 = Bool.false := by kernel_rfl
@[simp] theorem Sq.func40 : Sq.prog.funcs[40]? = Option.some Try.f40 := (rfl)
theorem Sq.results66 : Try.f66.results = #[Go.ResultVar.tmp 4, Go.ResultVar.tmp 5] := rfl
@[simp] theorem Sq.runUnderlying109 : ∀ (w : Go.World), Go.Sem.run Sq.prog (Go.underlying 109) w = Go.Result.ok (Go.TypeDesc.struct #[{ name := "Size_", type := 12, offset := 0, embedded := Bool.false, tag := "", pkgPath := "", byteOffset := 0 }, { name := "PtrBytes", type := 12, offset := 1, embedded := Bool.false, tag := "", pkgPath := "", byteOffset := 8 }, { name := "Hash", type := 102, offset := 2, embedded := Bool.false, tag := "", pkgPath := "", byteOffset := 16 }, { name := "TFlag", type := 103, offset := 3, embedded := Bool.false, tag := "", pkgPath := "", byteOffset := 20 }, { name := "Align_", type := 5, offset := 4, embedded := Bool.false, tag := "", pkgPath := "", byteOffset := 21 }, { name := "FieldAlign_", type := 5, offset := 5, embedded := Bool.false, tag := "", pkgPath := "", byteOffset := 22 }, { name := "Kind_", type := 104, offset := 6, embedded := Bool.false, tag := "", pkgPath := "", byteOffset := 23 }, { name := "Equal", type := 105, offset := 7, embedded := Bool.false, tag := "", pkgPath := "", byteOffset := 24 }, { name := "GCData", type := 106, offset := 8, embedded := Bool.false, tag := "", pkgPath := "", byteOffset := 32 }, { name := "Str", type := 107, offset := 9, embedded := Bool.false, tag := "", pkgPath := "", byteOffset := 40 }, { name := "PtrToThis", type := 108, offset := 10, embedded := Bool.false, tag := "", pkgPath := "", byteOffset := 44 }]) w := fun _ => (rfl)
theorem Sq.ntmps27 : Try.f27.ntmps = 52 := rfl
@[simp] theorem Sq.stoodInHeld14 : Sq.prog.stoodInHeld 14 = Bool.true := by kernel_rfl
@[simp] theorem Sq.sizeOf21 : ∀ (w : Go.World), Go.Sem.run Sq.prog (Go.sizeOf 21) w = Go.Result.ok 1 w := fun _ => (rfl)
theorem Sq.results65 : Try.f65.results = #[Go.ResultVar.tmp 2] := rfl
@[simp] theorem Sq.zeroValue44 : ∀ (w : Go.World), Go.Sem.run Sq.prog (Go.zeroValue 44) w = Go.Result.ok Go.Value.nilFunc w := fun _ => (rfl)
@[simp] theorem Sq.runUnderlying14 : ∀ (w : Go.World), Go.Sem.run Sq.prog (Go.underlying 14) w = Go.Result.ok (Go.TypeDesc.struct #[{ name := "msg", type := 9, offset := 0, embedded := Bool.false, tag := "", pkgPath := "runtime", byteOffset := 0 }, { name := "addr", type := 12, offset := 1, embedded := Bool.false, tag := "", pkgPath := "runtime", byteOffset := 16 }]) w := fun _ => (rfl)
@[simp] theorem Sq.typeInfo103 : ∀ (w : Go.World), Go.Sem.run Sq.prog (Go.typeInfo 103) w = Go.Result.ok Try.t103 w := fun _ => (rfl)
@[simp] theorem Sq.underlying113 : Sq.prog.underlying 113 = Option.some (Go.TypeDesc.struct #[{ name := "s", type := 9, offset := 0, embedded := Bool.false, tag := "", pkgPath := "errors", byteOffset := 0 }]) := (rfl)
@[simp] theorem Sq.typeInfo25 : ∀ (w : Go.World), Go.Sem.run Sq.prog (Go.typeInfo 25) w = Go.Result.ok Try.t25 w := fun _ => (rfl)
@[simp] theorem Sq.runUnderlying52 : ∀ (w : Go.World), Go.Sem.run Sq.prog (Go.underlying 52) w = Go.Result.ok (Go.TypeDesc.struct #[{ name := "Day", type := 2, offset := 0, embedded := Bool.false, tag := "", pkgPath := "", byteOffset := 0 }, { name := "Debit", type := 2, offset := 1, embedded := Bool.false, tag := "", pkgPath := "", byteOffset := 8 }, { name := "Credit", type := 2, offset := 2, embedded := Bool.false, tag := "", pkgPath := "", byteOffset := 16 }, { name := "Cents", type := 2, offset := 3, embedded := Bool.false, tag := "", pkgPath := "", byteOffset := 24 }]) w := fun _ => (rfl)
@[simp] theorem Sq.func54 : Sq.prog.funcs[54]? = Option.some Try.f54 := (rfl)
@[simp] theorem Sq.zeroValue15 : ∀ (w : Go.World), Go.Sem.run Sq.prog (Go.zeroValue 15) w = Go.Result.ok (Go.Value.pointer Option.none) w := fun _ => (rfl)
@[simp] theorem Sq.underlying35 : Sq.prog.underlying 35 = Option.some (Go.TypeDesc.struct #[{ name := "Breaks", type := 23, offset := 0, embedded := Bool.false, tag := "", pkgPath := "", byteOffset := 0 }, { name := "Rates", type := 23, offset := 1, embedded := Bool.false, tag := "", pkgPath := "", byteOffset := 24 }]) := (rfl)
@[simp] theorem Sq.runUnderlying16 : ∀ (w : Go.World), Go.Sem.run Sq.prog (Go.underlying 16) w = Go.Result.ok (Go.TypeDesc.pointer 100) w := fun _ => (rfl)
@[simp] theorem Sq.zeroValue11 : ∀ (w : Go.World), Go.Sem.run Sq.prog (Go.zeroValue 11) w = Go.Result.ok (Go.Value.string { data := #[] }) w := fun _ => (rfl)
@[simp] theorem Sq.underlying111 : Sq.prog.underlying 111 = Option.some (Go.TypeDesc.func #[] #[4] Bool.false) := (rfl)
theorem Sq.results54 : Try.f54.results = #[] := rfl
theorem Sq.ntmps45 : Try.f45.ntmps = 90 := rfl
theorem Sq.params27 : Try.f27.params = #[27, 2] := rfl
theorem Sq.results23 : Try.f23.results = #[Go.ResultVar.tmp 6, Go.ResultVar.tmp 7] := rfl
@[simp] theorem Sq.sizeOf75 : ∀ (w : Go.World), Go.Sem.run Sq.prog (Go.sizeOf 75) w = Go.Result.ok 1 w := fun _ => (rfl)
theorem Sq.results71 : Try.f71.results = #[Go.ResultVar.tmp 4] := rfl
theorem Sq.ntmps67 : Try.f67.ntmps = 135 := rfl
@[simp] theorem Sq.zeroValue90 : ∀ (w : Go.World), Go.Sem.run Sq.prog (Go.zeroValue 90) w = Go.Result.ok Go.Value.nilFunc w := fun _ => (rfl)
@[simp] theorem Sq.sizeOf105 : ∀ (w : Go.World), Go.Sem.run Sq.prog (Go.sizeOf 105) w = Go.Result.ok 1 w := fun _ => (rfl)
@[simp] theorem Sq.underlying11 : Sq.prog.underlying 11 = Option.some Go.TypeDesc.string := (rfl)
@[simp] theorem Sq.isAgg87 : ∀ (w : Go.World), Go.Sem.run Sq.prog (Go.isAgg 87) w = Go.Result.ok Bool.false w := fun _ => (rfl)
@[simp] theorem Sq.isAgg98 : ∀ (w : Go.World), Go.Sem.run Sq.prog (Go.isAgg 98) w = Go.Result.ok Bool.true w := fun _ => (rfl)
@[simp] theorem Sq.sizeOf44 : ∀ (w : Go.World), Go.Sem.run Sq.prog (Go.sizeOf 44) w = Go.Result.ok 1 w := fun _ => (rfl)
theorem Sq.ntmps64 : Try.f64.ntmps = 48 := rfl
@[simp] theorem Sq.func17 : Sq.prog.funcs[17]? = Option.some Try.f17 := (rfl)
@[simp] theorem Sq.sizeOf57 : ∀ (w : Go.World), Go.Sem.run Sq.prog (Go.sizeOf 57) w = Go.Result.ok 1 w := fun _ => (rfl)
theorem Sq.results3 : Try.f3.results = #[Go.ResultVar.tmp 6] := rfl
@[simp] theorem Sq.type103 : Sq.prog.types[103]? = Option.some Try.t103 := (rfl)
@[simp] theorem Sq.zeroValue65 : ∀ (w : Go.World), Go.Sem.run Sq.prog (Go.zeroValue 65) w = Go.Result.ok Go.Value.nilFunc w := fun _ => (rfl)
@[simp] theorem Sq.call16 : ∀ (args : Array Go.Value) (w : Go.World), Go.Sem.run Sq.prog (Go.callFunc 16 args) w = Go.Result.ok (Go.Next.enter 16 args) w := fun _ _ => (rfl)
@[simp] theorem Sq.typeInfo1 : ∀ (w : Go.World), Go.Sem.run Sq.prog (Go.typeInfo 1) w = Go.Result.ok Try.t1 w := fun _ => (rfl)
@[simp] theorem Sq.stoodInHeld52 : Sq.prog.stoodInHeld 52 = Bool.false := by kernel_rfl
@[simp] theorem Sq.func30 : Sq.prog.funcs[30]? = Option.some Try.f30 := (rfl)
@[simp] theorem Sq.underlying31 : Sq.prog.underlying 31 = Option.some (Go.TypeDesc.func #[27, 27] #[4] Bool.false) := (rfl)
@[simp] theorem Sq.sizeOf73 : ∀ (w : Go.World), Go.Sem.run Sq.prog (Go.sizeOf 73) w = Go.Result.ok 1 w := fun _ => (rfl)
@[simp] theorem Sq.typeInfo32 : ∀ (w : Go.World), Go.Sem.run Sq.prog (Go.typeInfo 32) w = Go.Result.ok Try.t32 w := fun _ => (rfl)
theorem Sq.results36 : Try.f36.results = #[Go.ResultVar.tmp 4] := rfl
@[simp] theorem Sq.func23 : Sq.prog.funcs[23]? = Option.some Try.f23 := (rfl)
@[simp] theorem Sq.stoodInHeld97 : Sq.prog.stoodInHeld 97 = Bool.true := by kernel_rfl
@[simp] theorem Sq.isAgg27 : ∀ (w : Go.World), Go.Sem.run Sq.prog (Go.isAgg 27) w = Go.Result.ok Bool.false w := fun _ => (rfl)
theorem Sq.params14 : Try.f14.params = #[23, 3] := rfl
@[simp] theorem Sq.runUnderlying71 : ∀ (w : Go.World), Go.Sem.run Sq.prog (Go.underlying 71) w = Go.Result.ok (Go.TypeDesc.chan Go.ChanDir.both 4) w := fun _ => (rfl)
@[simp] theorem Sq.eqGuardType19 : Sq.prog.eqGuardType Sq.prog.depth 19 = Bool.false := by kernel_rfl
@[simp] theorem Sq.underlying90 : Sq.prog.underlying 90 = Option.some (Go.TypeDesc.func #[78, 3, 84] #[] Bool.false) := (rfl)
@[simp] theorem Sq.sizeOf23 : ∀ (w : Go.World), Go.Sem.run Sq.prog (Go.sizeOf 23) w = Go.Result.ok 1 w := fun _ => (rfl)
theorem Sq.params19 : Try.f19.params = #[39, 23, 2, 2] := rfl
@[simp] theorem Sq.runUnderlying95 : ∀ (w : Go.World), Go.Sem.run Sq.prog (Go.underlying 95) w = Go.Result.ok (Go.TypeDesc.func #[] #[9] Bool.false) w := fun _ => (rfl)
@[simp] theorem Sq.eqGuardType110 : Sq.prog.eqGuardType Sq.prog.depth 110 = Bool.false := by kernel_rfl
theorem Sq.nfree78 : Try.f78.nfree = 0 := rfl
@[simp] theorem Sq.type37 : Sq.prog.types[37]? = Option.some Try.t37 := (rfl)
theorem Sq.nfree29 : Try.f29.nfree = 0 := rfl
@[simp] theorem Sq.type108 : Sq.prog.types[108]? = Option.some Try.t108 := (rfl)
@[simp] theorem Sq.zeroValue29 : ∀ (w : Go.World), Go.Sem.run Sq.prog (Go.zeroValue 29) w = Go.Result.ok Go.Value.nilFunc w := fun _ => (rfl)
theorem Sq.params88 : Try.f88.params = #[11] := rfl
@[simp] theorem Sq.runUnderlying22 : ∀ (w : Go.World), Go.Sem.run Sq.prog (Go.underlying 22) w = Go.Result.ok (Go.TypeDesc.slice 54) w := fun _ => (rfl)
@[simp] theorem Sq.underlying4 : Sq.prog.underlying 4 = Option.some Go.TypeDesc.bool := (rfl)
@[simp] theorem Sq.zeroValue73 : ∀ (w : Go.World), Go.Sem.run Sq.prog (Go.zeroValue 73) w = Go.Result.ok Go.Value.nilFunc w := fun _ => (rfl)
theorem Sq.ntmps8 : Try.f8.ntmps = 23 := rfl
theorem Sq.results64 : Try.f64.results = #[Go.ResultVar.tmp 4] := rfl
@[simp] theorem Sq.type51 : Sq.prog.types[51]? = Option.some Try.t51 := (rfl)
@[simp] theorem Sq.zeroValue112 : ∀ (w : Go.World), Go.Sem.run Sq.prog (Go.zeroValue 112) w = Go.Result.ok (Go.Value.agg #[Go.Value.string { data := #[] }]) w := fun _ => (rfl)
@[simp] theorem Sq.func84 : Sq.prog.funcs[84]? = Option.some Try.f84 := (rfl)
@[simp] theorem Sq.typeInfo26 : ∀ (w : Go.World), Go.Sem.run Sq.prog (Go.typeInfo 26) w = Go.Result.ok Try.t26 w := fun _ => (rfl)
@[simp] theorem Sq.runUnderlying78 : ∀ (w : Go.World), Go.Sem.run Sq.prog (Go.underlying 78) w = Go.Result.ok (Go.TypeDesc.slice 3) w := fun _ => (rfl)
@[simp] theorem Sq.sizeOf104 : ∀ (w : Go.World), Go.Sem.run Sq.prog (Go.sizeOf 104) w = Go.Result.ok 1 w := fun _ => (rfl)
@[simp] theorem Sq.typeInfo4 : ∀ (w : Go.World), Go.Sem.run Sq.prog (Go.typeInfo 4) w = Go.Result.ok Try.t4 w := fun _ => (rfl)
@[simp] theorem Sq.isAgg64 : ∀ (w : Go.World), Go.Sem.run Sq.prog (Go.isAgg 64) w = Go.Result.ok Bool.false w := fun _ => (rfl)
@[simp] theorem Sq.call6 : ∀ (args : Array Go.Value) (w : Go.World), Go.Sem.run Sq.prog (Go.callFunc 6 args) w = Go.Result.ok (Go.Next.enter 6 args) w := fun _ _ => (rfl)
@[simp] theorem Sq.eqGuardType35 : Sq.prog.eqGuardType Sq.prog.depth 35 = Bool.false := by kernel_rfl
@[simp] theorem Sq.call60 : ∀ (args : Array Go.Value) (w : Go.World), Go.Sem.run Sq.prog (Go.callFunc 60 args) w = Go.Result.ok (Go.Next.enter 60 args) w := fun _ _ => (rfl)
@[simp] theorem Sq.func63 : Sq.prog.funcs[63]? = Option.some Try.f63 := (rfl)
theorem Sq.results72 : Try.f72.results = #[Go.ResultVar.tmp 2] := rfl
@[simp] theorem Sq.isAgg109 : ∀ (w : Go.World), Go.Sem.run Sq.prog (Go.isAgg 109) w = Go.Result.ok Bool.true w := fun _ => (rfl)
theorem Sq.ntmps86 : Try.f86.ntmps = 1 := rfl
@[simp] theorem Sq.typeInfo97 : ∀ (w : Go.World), Go.Sem.run Sq.prog (Go.typeInfo 97) w = Go.Result.ok Try.t97 w := fun _ => (rfl)
@[simp] theorem Sq.func92 : Sq.prog.funcs[92]? = Option.some Try.f92 := (rfl)
@[simp] theorem Sq.type111 : Sq.prog.types[111]? = Option.some Try.t111 := (rfl)
@[simp] theorem Sq.isAgg57 : ∀ (w : Go.World), Go.Sem.run Sq.prog (Go.isAgg 57) w = Go.Result.ok Bool.false w := fun _ => (rfl)
theorem Sq.ntmps65 : Try.f65.ntmps = 17 := rfl
@[simp] theorem Sq.isAgg46 : ∀ (w : Go.World), Go.Sem.run Sq.prog (Go.isAgg 46) w = Go.Result.ok Bool.false w := fun _ => (rfl)
theorem Sq.params38 : Try.f38.params = #[61, 2, 2] := rfl
@[simp] theorem Sq.func50 : Sq.prog.funcs[50]? = Option.some Try.f50 := (rfl)
@[simp] theorem Sq.func19 : Sq.prog.funcs[19]? = Option.some Try.f19 := (rfl)
@[simp] theorem Sq.func83 : Sq.prog.funcs[83]? = Option.some Try.f83 := (rfl)
theorem Sq.params6 : Try.f6.params = #[22, 3] := rfl
@[simp] theorem Sq.sizeOf63 : ∀ (w : Go.World), Go.Sem.run Sq.prog (Go.sizeOf 63) w = Go.Result.ok 1 w := fun _ => (rfl)
theorem Sq.params98 : Try.f98.params = #[39] := rfl
@[simp] theorem Sq.sizeOf62 : ∀ (w : Go.World), Go.Sem.run Sq.prog (Go.sizeOf 62) w = Go.Result.ok 1 w := fun _ => (rfl)
@[simp] theorem Sq.sizeOf10 : ∀ (w : Go.World), Go.Sem.run Sq.prog (Go.sizeOf 10) w = Go.Result.ok 1 w := fun _ => (rfl)
@[simp] theorem Sq.typeInfo74 : ∀ (w : Go.World), Go.Sem.run Sq.prog (Go.typeInfo 74) w = Go.Result.ok Try.t74 w := fun _ => (rfl)
theorem Sq.nfree35 : Try.f35.nfree = 0 := rfl
@[simp] theorem Sq.zeroValue103 : ∀ (w : Go.World), Go.Sem.run Sq.prog (Go.zeroValue 103) w = Go.Result.ok (Go.Value.int Go.IntKind.u8 0) w := fun _ => (rfl)
@[simp] theorem Sq.type65 : Sq.prog.types[65]? = Option.some Try.t65 := (rfl)
@[simp] theorem Sq.inits_eq : Sq.prog.inits = #[2] := (rfl)
@[simp] theorem Sq.isAgg89 : ∀ (w : Go.World), Go.Sem.run Sq.prog (Go.isAgg 89) w = Go.Result.ok Bool.false w := fun _ => (rfl)
@[simp] theorem Sq.sizeOf67 : ∀ (w : Go.World), Go.Sem.run Sq.prog (Go.sizeOf 67) w = Go.Result.ok 1 w := fun _ => (rfl)
@[simp] theorem Sq.typeInfo113 : ∀ (w : Go.World), Go.Sem.run Sq.prog (Go.typeInfo 113) w = Go.Result.ok Try.t113 w := fun _ => (rfl)
@[simp] theorem Sq.runUnderlying72 : ∀ (w : Go.World), Go.Sem.run Sq.prog (Go.underlying 72) w = Go.Result.ok (Go.TypeDesc.func #[61] #[4] Bool.false) w := fun _ => (rfl)
theorem Sq.params60 : Try.f60.params = #[39] := rfl
theorem Sq.ntmps20 : Try.f20.ntmps = 17 := rfl
@[simp] theorem Sq.underlying82 : Sq.prog.underlying 82 = Option.some (Go.TypeDesc.func #[77, 77, 77] #[77, 77] Bool.false) := (rfl)
theorem Sq.params7 : Try.f7.params = #[27, 23, 2] := rfl
theorem Sq.nfree28 : Try.f28.nfree = 0 := rfl
@[simp] theorem Sq.zeroValue13 : ∀ (w : Go.World), Go.Sem.run Sq.prog (Go.zeroValue 13) w = Go.Result.ok (Go.Value.agg #[Go.Value.string { data := #[] }, Go.Value.int Go.IntKind.u64 0]) w := fun _ => (rfl)
theorem Sq.nfree37 : Try.f37.nfree = 0 := rfl
@[simp] theorem Sq.zeroValue22 : ∀ (w : Go.World), Go.Sem.run Sq.prog (Go.zeroValue 22) w = Go.Result.ok (Go.Value.slice Option.none 0 0) w := fun _ => (rfl)
@[simp] theorem Sq.type42 : Sq.prog.types[42]? = Option.some Try.t42 := (rfl)
@[simp] theorem Sq.func85 : Sq.prog.funcs[85]? = Option.some Try.f85 := (rfl)
@[simp] theorem Sq.sizeOf39 : ∀ (w : Go.World), Go.Sem.run Sq.prog (Go.sizeOf 39) w = Go.Result.ok 2 w := fun _ => (rfl)
@[simp] theorem Sq.zeroValue45 : ∀ (w : Go.World), Go.Sem.run Sq.prog (Go.zeroValue 45) w = Go.Result.ok Go.Value.nilFunc w := fun _ => (rfl)
@[simp] theorem Sq.eqGuardType96 : Sq.prog.eqGuardType Sq.prog.depth 96 = Bool.false := by kernel_rfl
theorem Sq.ntmps82 : Try.f82.ntmps = 38 := rfl
@[simp] theorem Sq.typeInfo41 : ∀ (w : Go.World), Go.Sem.run Sq.prog (Go.typeInfo 41) w = Go.Result.ok Try.t41 w := fun _ => (rfl)
@[simp] theorem Sq.func35 : Sq.prog.funcs[35]? = Option.some Try.f35 := (rfl)
@[simp] theorem Sq.underlying106 : Sq.prog.underlying 106 = Option.some (Go.TypeDesc.pointer 5) := (rfl)
theorem Sq.nfree6 : Try.f6.nfree = 0 := rfl
@[simp] theorem Sq.type52 : Sq.prog.types[52]? = Option.some Try.t52 := (rfl)
theorem Sq.ntmps15 : Try.f15.ntmps = 21 := rfl
theorem Sq.params85 : Try.f85.params = #[10] := rfl
theorem Sq.results86 : Try.f86.results = #[] := rfl
@[simp] theorem Sq.func72 : Sq.prog.funcs[72]? = Option.some Try.f72 := (rfl)
@[simp] theorem Sq.func46 : Sq.prog.funcs[46]? = Option.some Try.f46 := (rfl)
@[simp] theorem Sq.zeroValue76 : ∀ (w : Go.World), Go.Sem.run Sq.prog (Go.zeroValue 76) w = Go.Result.ok Go.Value.nilFunc w := fun _ => (rfl)
@[simp] theorem Sq.func75 : Sq.prog.funcs[75]? = Option.some Try.f75 := (rfl)
@[simp] theorem Sq.isAgg22 : ∀ (w : Go.World), Go.Sem.run Sq.prog (Go.isAgg 22) w = Go.Result.ok Bool.false w := fun _ => (rfl)
theorem Sq.nfree23 : Try.f23.nfree = 0 := rfl
@[simp] theorem Sq.underlying95 : Sq.prog.underlying 95 = Option.some (Go.TypeDesc.func #[] #[9] Bool.false) := (rfl)
@[simp] theorem Sq.type110 : Sq.prog.types[110]? = Option.some Try.t110 := (rfl)
@[simp] theorem Sq.eqGuardType13 : Sq.prog.eqGuardType Sq.prog.depth 13 = Bool.false := by kernel_rfl
@[simp] theorem Sq.type90 : Sq.prog.types[90]? = Option.some Try.t90 := (rfl)
@[simp] theorem Sq.typeInfo62 : ∀ (w : Go.World), Go.Sem.run Sq.prog (Go.typeInfo 62) w = Go.Result.ok Try.t62 w := fun _ => (rfl)
@[simp] theorem Sq.underlying55 : Sq.prog.underlying 55 = Option.some (Go.TypeDesc.func #[23, 3, 3, 2, 2] #[4] Bool.false) := (rfl)
@[simp] theorem Sq.call55 : ∀ (args : Array Go.Value) (w : Go.World), Go.Sem.run Sq.prog (Go.callFunc 55 args) w = Go.Result.ok (Go.Next.enter 55 args) w := fun _ _ => (rfl)
@[simp] theorem Sq.sizeOf55 : ∀ (w : Go.World), Go.Sem.run Sq.prog (Go.sizeOf 55) w = Go.Result.ok 1 w := fun _ => (rfl)
@[simp] theorem Sq.runUnderlying40 : ∀ (w : Go.World), Go.Sem.run Sq.prog (Go.underlying 40) w = Go.Result.ok (Go.TypeDesc.func #[36] #[39] Bool.false) w := fun _ => (rfl)
@[simp] theorem Sq.isAgg32 : ∀ (w : Go.World), Go.Sem.run Sq.prog (Go.isAgg 32) w = Go.Result.ok Bool.false w := fun _ => (rfl)
@[simp] theorem Sq.underlying33 : Sq.prog.underlying 33 = Option.some (Go.TypeDesc.func #[23, 3] #[3] Bool.false) := (rfl)
@[simp] theorem Sq.isAgg97 : ∀ (w : Go.World), Go.Sem.run Sq.prog (Go.isAgg 97) w = Go.Result.ok Bool.true w := fun _ => (rfl)
@[simp] theorem Sq.runUnderlying41 : ∀ (w : Go.World), Go.Sem.run Sq.prog (Go.underlying 41) w = Go.Result.ok (Go.TypeDesc.func #[39, 39] #[4] Bool.false) w := fun _ => (rfl)
@[simp] theorem Sq.sizeOf112 : ∀ (w : Go.World), Go.Sem.run Sq.prog (Go.sizeOf 112) w = Go.Result.ok 1 w := fun _ => (rfl)
@[simp] theorem Sq.sizeOf82 : ∀ (w : Go.World), Go.Sem.run Sq.prog (Go.sizeOf 82) w = Go.Result.ok 1 w := fun _ => (rfl)
theorem Sq.nfree83 : Try.f83.nfree = 0 := rfl
@[simp] theorem Sq.sizeOf28 : ∀ (w : Go.World), Go.Sem.run Sq.prog (Go.sizeOf 28) w = Go.Result.ok 1 w := fun _ => (rfl)
theorem Sq.nfree40 : Try.f40.nfree = 0 := rfl
@[simp] theorem Sq.zeroValue61 : ∀ (w : Go.World), Go.Sem.run Sq.prog (Go.zeroValue 61) w = Go.Result.ok (Go.Value.pointer Option.none) w := fun _ => (rfl)
theorem Sq.params34 : Try.f34.params = #[2] := rfl
theorem Sq.ntmps93 : Try.f93.ntmps = 1 := rfl
@[simp] theorem Sq.type107 : Sq.prog.types[107]? = Option.some Try.t107 := (rfl)
theorem Sq.nfree66 : Try.f66.nfree = 0 := rfl
@[simp] theorem Sq.call18 : ∀ (args : Array Go.Value) (w : Go.World), Go.Sem.run Sq.prog (Go.callFunc 18 args) w = Go.Result.ok (Go.Next.enter 18 args) w := fun _ _ => (rfl)
@[simp] theorem Sq.zeroValue3 : ∀ (w : Go.World), Go.Sem.run Sq.prog (Go.zeroValue 3) w = Go.Result.ok (Go.Value.int Go.IntKind.i64 0) w := fun _ => (rfl)
@[simp] theorem Sq.typeInfo61 : ∀ (w : Go.World), Go.Sem.run Sq.prog (Go.typeInfo 61) w = Go.Result.ok Try.t61 w := fun _ => (rfl)
theorem Sq.nfree48 : Try.f48.nfree = 0 := rfl
@[simp] theorem Sq.call82 : ∀ (args : Array Go.Value) (w : Go.World), Go.Sem.run Sq.prog (Go.callFunc 82 args) w = Go.Result.ok (Go.Next.enter 82 args) w := fun _ _ => (rfl)
@[simp] theorem Sq.underlying58 : Sq.prog.underlying 58 = Option.some (Go.TypeDesc.func #[2] #[2] Bool.false) := (rfl)
@[simp] theorem Sq.func70 : Sq.prog.funcs[70]? = Option.some Try.f70 := (rfl)
theorem Sq.ntmps89 : Try.f89.ntmps = 1 := rfl
@[simp] theorem Sq.sizeOf66 : ∀ (w : Go.World), Go.Sem.run Sq.prog (Go.sizeOf 66) w = Go.Result.ok 1 w := fun _ => (rfl)
@[simp] theorem Sq.zeroValue28 : ∀ (w : Go.World), Go.Sem.run Sq.prog (Go.zeroValue 28) w = Go.Result.ok Go.Value.nilFunc w := fun _ => (rfl)
@[simp] theorem Sq.isAgg38 : ∀ (w : Go.World), Go.Sem.run Sq.prog (Go.isAgg 38) w = Go.Result.ok Bool.false w := fun _ => (rfl)
@[simp] theorem Sq.runUnderlying96 : ∀ (w : Go.World), Go.Sem.run Sq.prog (Go.underlying 96) w = Go.Result.ok (Go.TypeDesc.struct #[{ name := "_interface", type := 17, offset := 0, embedded := Bool.false, tag := "", pkgPath := "runtime", byteOffset := 0 }, { name := "concrete", type := 17, offset := 1, embedded := Bool.false, tag := "", pkgPath := "runtime", byteOffset := 8 }, { name := "asserted", type := 17, offset := 2, embedded := Bool.false, tag := "", pkgPath := "runtime", byteOffset := 16 }, { name := "missingMethod", type := 9, offset := 3, embedded := Bool.false, tag := "", pkgPath := "runtime", byteOffset := 24 }]) w := fun _ => (rfl)
@[simp] theorem Sq.underlying24 : Sq.prog.underlying 24 = Option.some (Go.TypeDesc.func #[22, 3] #[3] Bool.false) := (rfl)
@[simp] theorem Sq.zeroValue56 : ∀ (w : Go.World), Go.Sem.run Sq.prog (Go.zeroValue 56) w = Go.Result.ok Go.Value.nilFunc w := fun _ => (rfl)
@[simp] theorem Sq.call35 : ∀ (args : Array Go.Value) (w : Go.World), Go.Sem.run Sq.prog (Go.callFunc 35 args) w = Go.Result.ok (Go.Next.enter 35 args) w := fun _ _ => (rfl)
theorem Sq.ntmps56 : Try.f56.ntmps = 81 := rfl
theorem Sq.results12 : Try.f12.results = #[Go.ResultVar.tmp 4] := rfl
@[simp] theorem Sq.func13 : Sq.prog.funcs[13]? = Option.some Try.f13 := (rfl)
@[simp] theorem Sq.type54 : Sq.prog.types[54]? = Option.some Try.t54 := (rfl)
@[simp] theorem Sq.runUnderlying93 : ∀ (w : Go.World), Go.Sem.run Sq.prog (Go.underlying 93) w = Go.Result.ok (Go.TypeDesc.func #[78, 3, 3, 3, 84] #[] Bool.false) w := fun _ => (rfl)
@[simp] theorem Sq.typeInfo81 : ∀ (w : Go.World), Go.Sem.run Sq.prog (Go.typeInfo 81) w = Go.Result.ok Try.t81 w := fun _ => (rfl)
@[simp] theorem Sq.sizeOf72 : ∀ (w : Go.World), Go.Sem.run Sq.prog (Go.sizeOf 72) w = Go.Result.ok 1 w := fun _ => (rfl)
@[simp] theorem Sq.isAgg114 : ∀ (w : Go.World), Go.Sem.run Sq.prog (Go.isAgg 114) w = Go.Result.ok Bool.false w := fun _ => (rfl)
@[simp] theorem Sq.sizeOf15 : ∀ (w : Go.World), Go.Sem.run Sq.prog (Go.sizeOf 15) w = Go.Result.ok 1 w := fun _ => (rfl)
@[simp] theorem Sq.underlying27 : Sq.prog.underlying 27 = Option.some (Go.TypeDesc.slice 52) := (rfl)
theorem Sq.ntmps42 : Try.f42.ntmps = 9 := rfl
@[simp] theorem Sq.zeroValue72 : ∀ (w : Go.World), Go.Sem.run Sq.prog (Go.zeroValue 72) w = Go.Result.ok Go.Value.nilFunc w := fun _ => (rfl)
@[simp] theorem Sq.func76 : Sq.prog.funcs[76]? = Option.some Try.f76 := (rfl)
@[simp] theorem Sq.isAgg50 : ∀ (w : Go.World), Go.Sem.run Sq.prog (Go.isAgg 50) w = Go.Result.ok Bool.false w := fun _ => (rfl)
@[simp] theorem Sq.type31 : Sq.prog.types[31]? = Option.some Try.t31 := (rfl)
@[simp] theorem Sq.type98 : Sq.prog.types[98]? = Option.some Try.t98 := (rfl)
theorem Sq.ntmps21 : Try.f21.ntmps = 14 := rfl
@[simp] theorem Sq.underlying103 : Sq.prog.underlying 103 = Option.some (Go.TypeDesc.int Go.IntKind.u8) := (rfl)
@[simp] theorem Sq.isAgg73 : ∀ (w : Go.World), Go.Sem.run Sq.prog (Go.isAgg 73) w = Go.Result.ok Bool.false w := fun _ => (rfl)
@[simp] theorem Sq.runUnderlying29 : ∀ (w : Go.World), Go.Sem.run Sq.prog (Go.underlying 29) w = Go.Result.ok (Go.TypeDesc.func #[23] #[23] Bool.false) w := fun _ => (rfl)
theorem Sq.nfree42 : Try.f42.nfree = 2 := rfl
@[simp] theorem Sq.eqGuardType98 : Sq.prog.eqGuardType Sq.prog.depth 98 = Bool.false := by kernel_rfl
@[simp] theorem Sq.func37 : Sq.prog.funcs[37]? = Option.some Try.f37 := (rfl)
@[simp] theorem Sq.isAgg79 : ∀ (w : Go.World), Go.Sem.run Sq.prog (Go.isAgg 79) w = Go.Result.ok Bool.false w := fun _ => (rfl)
@[simp] theorem Sq.underlying69 : Sq.prog.underlying 69 = Option.some (Go.TypeDesc.pointer 52) := (rfl)
@[simp] theorem Sq.underlying76 : Sq.prog.underlying 76 = Option.some (Go.TypeDesc.func #[23] #[2] Bool.false) := (rfl)
@[simp] theorem Sq.runUnderlying75 : ∀ (w : Go.World), Go.Sem.run Sq.prog (Go.underlying 75) w = Go.Result.ok (Go.TypeDesc.func #[39] #[4] Bool.false) w := fun _ => (rfl)
@[simp] theorem Sq.isAgg0 : ∀ (w : Go.World), Go.Sem.run Sq.prog (Go.isAgg 0) w = Go.Result.ok Bool.false w := fun _ => (rfl)
@[simp] theorem Sq.runUnderlying42 : ∀ (w : Go.World), Go.Sem.run Sq.prog (Go.underlying 42) w = Go.Result.ok (Go.TypeDesc.func #[39, 3] #[3] Bool.false) w := fun _ => (rfl)
@[simp] theorem Sq.underlying46 : Sq.prog.underlying 46 = Option.some (Go.TypeDesc.func #[27] #[4] Bool.false) := (rfl)
theorem Sq.results10 : Try.f10.results = #[Go.ResultVar.tmp 6, Go.ResultVar.tmp 7] := rfl
@[simp] theorem Sq.typeInfo86 : ∀ (w : Go.World), Go.Sem.run Sq.prog (Go.typeInfo 86) w = Go.Result.ok Try.t86 w := fun _ => (rfl)
@[simp] theorem Sq.zeroValue66 : ∀ (w : Go.World), Go.Sem.run Sq.prog (Go.zeroValue 66) w = Go.Result.ok Go.Value.nilFunc w := fun _ => (rfl)
theorem Sq.params95 : Try.f95.params = #[17] := rfl
@[simp] theorem Sq.sizeOf9 : ∀ (w : Go.World), Go.Sem.run Sq.prog (Go.sizeOf 9) w = Go.Result.ok 1 w := fun _ => (rfl)
@[simp] theorem Sq.sizeOf56 : ∀ (w : Go.World), Go.Sem.run Sq.prog (Go.sizeOf 56) w = Go.Result.ok 1 w := fun _ => (rfl)
theorem Sq.results94 : Try.f94.results = #[] := rfl
theorem Sq.ntmps92 : Try.f92.ntmps = 1 := rfl
theorem Sq.params15 : Try.f15.params = #[23, 3] := rfl
@[simp] theorem Sq.isAgg99 : ∀ (w : Go.World), Go.Sem.run Sq.prog (Go.isAgg 99) w = Go.Result.ok Bool.true w := fun _ => (rfl)
@[simp] theorem Sq.sizeOf32 : ∀ (w : Go.World), Go.Sem.run Sq.prog (Go.sizeOf 32) w = Go.Result.ok 1 w := fun _ => (rfl)
theorem Sq.params93 : Try.f93.params = #[16] := rfl
@[simp] theorem Sq.runUnderlying24 : ∀ (w : Go.World), Go.Sem.run Sq.prog (Go.underlying 24) w = Go.Result.ok (Go.TypeDesc.func #[22, 3] #[3] Bool.false) w := fun _ => (rfl)
@[simp] theorem Sq.func39 : Sq.prog.funcs[39]? = Option.some Try.f39 := (rfl)
theorem Sq.ntmps68 : Try.f68.ntmps = 9 := rfl
@[simp] theorem Sq.func77 : Sq.prog.funcs[77]? = Option.some Try.f77 := (rfl)
@[simp] theorem Sq.zeroValue1 : ∀ (w : Go.World), Go.Sem.run Sq.prog (Go.zeroValue 1) w = Go.Result.ok Go.Value.nilFunc w := fun _ => (rfl)
@[simp] theorem Sq.call49 : ∀ (args : Array Go.Value) (w : Go.World), Go.Sem.run Sq.prog (Go.callFunc 49 args) w = Go.Result.ok (Go.Next.enter 49 args) w := fun _ _ => (rfl)
@[simp] theorem Sq.func14 : Sq.prog.funcs[14]? = Option.some Try.f14 := (rfl)
@[simp] theorem Sq.runUnderlying97 : ∀ (w : Go.World), Go.Sem.run Sq.prog (Go.underlying 97) w = Go.Result.ok (Go.TypeDesc.struct #[{ name := "_interface", type := 17, offset := 0, embedded := Bool.false, tag := "", pkgPath := "runtime", byteOffset := 0 }, { name := "concrete", type := 17, offset := 1, embedded := Bool.false, tag := "", pkgPath := "runtime", byteOffset := 8 }, { name := "asserted", type := 17, offset := 2, embedded := Bool.false, tag := "", pkgPath := "runtime", byteOffset := 16 }, { name := "missingMethod", type := 9, offset := 3, embedded := Bool.false, tag := "", pkgPath := "runtime", byteOffset := 24 }]) w := fun _ => (rfl)
@[simp] theorem Sq.type2 : Sq.prog.types[2]? = Option.some Try.t2 := (rfl)
theorem Sq.results20 : Try.f20.results = #[Go.ResultVar.tmp 4] := rfl
@[simp] theorem Sq.underlying8 : Sq.prog.underlying 8 = Option.some (Go.TypeDesc.struct #[{ name := "x", type := 2, offset := 0, embedded := Bool.false, tag := "", pkgPath := "runtime", byteOffset := 0 }, { name := "y", type := 3, offset := 1, embedded := Bool.false, tag := "", pkgPath := "runtime", byteOffset := 8 }, { name := "signed", type := 4, offset := 2, embedded := Bool.false, tag := "", pkgPath := "runtime", byteOffset := 16 }, { name := "code", type := 6, offset := 3, embedded := Bool.false, tag := "", pkgPath := "runtime", byteOffset := 17 }]) := (rfl)
@[simp] theorem Sq.stoodInHeld54 : Sq.prog.stoodInHeld 54 = Bool.false := by kernel_rfl
@[simp] theorem Sq.typeInfo9 : ∀ (w : Go.World), Go.Sem.run Sq.prog (Go.typeInfo 9) w = Go.Result.ok Try.t9 w := fun _ => (rfl)
@[simp] theorem Sq.func91 : Sq.prog.funcs[91]? = Option.some Try.f91 := (rfl)
@[simp] theorem Sq.sizeOf13 : ∀ (w : Go.World), Go.Sem.run Sq.prog (Go.sizeOf 13) w = Go.Result.ok 2 w := fun _ => (rfl)
@[simp] theorem Sq.underlying10 : Sq.prog.underlying 10 = Option.some Go.TypeDesc.string := (rfl)
@[simp] theorem Sq.zeroValue91 : ∀ (w : Go.World), Go.Sem.run Sq.prog (Go.zeroValue 91) w = Go.Result.ok Go.Value.nilFunc w := fun _ => (rfl)
theorem Sq.params89 : Try.f89.params = #[14] := rfl
theorem Sq.results27 : Try.f27.results = #[Go.ResultVar.tmp 4] := rfl
@[simp] theorem Sq.runUnderlying85 : ∀ (w : Go.World), Go.Sem.run Sq.prog (Go.underlying 85) w = Go.Result.ok (Go.TypeDesc.func #[23, 48] #[4] Bool.false) w := fun _ => (rfl)
@[simp] theorem Sq.zeroValue38 : ∀ (w : Go.World), Go.Sem.run Sq.prog (Go.zeroValue 38) w = Go.Result.ok Go.Value.nilFunc w := fun _ => (rfl)
@[simp] theorem Sq.isAgg34 : ∀ (w : Go.World), Go.Sem.run Sq.prog (Go.isAgg 34) w = Go.Result.ok Bool.false w := fun _ => (rfl)
theorem Sq.params62 : Try.f62.params = #[2] := rfl
@[simp] theorem Sq.func7 : Sq.prog.funcs[7]? = Option.some Try.f7 := (rfl)
@[simp] theorem Sq.type88 : Sq.prog.types[88]? = Option.some Try.t88 := (rfl)
@[simp] theorem Sq.runUnderlying3 : ∀ (w : Go.World), Go.Sem.run Sq.prog (Go.underlying 3) w = Go.Result.ok (Go.TypeDesc.int Go.IntKind.i64) w := fun _ => (rfl)
@[simp] theorem Sq.typeInfo0 : ∀ (w : Go.World), Go.Sem.run Sq.prog (Go.typeInfo 0) w = Go.Result.ok Try.t0 w := fun _ => (rfl)
@[simp] theorem Sq.call20 : ∀ (args : Array Go.Value) (w : Go.World), Go.Sem.run Sq.prog (Go.callFunc 20 args) w = Go.Result.ok (Go.Next.enter 20 args) w := fun _ _ => (rfl)
@[simp] theorem Sq.typeInfo99 : ∀ (w : Go.World), Go.Sem.run Sq.prog (Go.typeInfo 99) w = Go.Result.ok Try.t99 w := fun _ => (rfl)
@[simp] theorem Sq.isAgg88 : ∀ (w : Go.World), Go.Sem.run Sq.prog (Go.isAgg 88) w = Go.Result.ok Bool.false w := fun _ => (rfl)
@[simp] theorem Sq.underlying21 : Sq.prog.underlying 21 = Option.some (Go.TypeDesc.int Go.IntKind.i32) := (rfl)
@[simp] theorem Sq.sizeOf4 : ∀ (w : Go.World), Go.Sem.run Sq.prog (Go.sizeOf 4) w = Go.Result.ok 1 w := fun _ => (rfl)
@[simp] theorem Sq.stoodInHeld19 : Sq.prog.stoodInHeld 19 = Bool.true := by kernel_rfl
@[simp] theorem Sq.sizeOf22 : ∀ (w : Go.World), Go.Sem.run Sq.prog (Go.sizeOf 22) w = Go.Result.ok 1 w := fun _ => (rfl)
@[simp] theorem Sq.underlying47 : Sq.prog.underlying 47 = Option.some (Go.TypeDesc.func #[2, 2, 2] #[4] Bool.false) := (rfl)
@[simp] theorem Sq.runUnderlying13 : ∀ (w : Go.World), Go.Sem.run Sq.prog (Go.underlying 13) w = Go.Result.ok (Go.TypeDesc.struct #[{ name := "msg", type := 9, offset := 0, embedded := Bool.false, tag := "", pkgPath := "runtime", byteOffset := 0 }, { name := "addr", type := 12, offset := 1, embedded := Bool.false, tag := "", pkgPath := "runtime", byteOffset := 16 }]) w := fun _ => (rfl)
@[simp] theorem Sq.stoodInHeld7 : Sq.prog.stoodInHeld 7 = Bool.false := by kernel_rfl
theorem Sq.params32 : Try.f32.params = #[2] := rfl
@[simp] theorem Sq.type26 : Sq.prog.types[26]? = Option.some Try.t26 := (rfl)
@[simp] theorem Sq.type36 : Sq.prog.types[36]? = Option.some Try.t36 := (rfl)
@[simp] theorem Sq.runUnderlying21 : ∀ (w : Go.World), Go.Sem.run Sq.prog (Go.underlying 21) w = Go.Result.ok (Go.TypeDesc.int Go.IntKind.i32) w := fun _ => (rfl)
@[simp] theorem Sq.type66 : Sq.prog.types[66]? = Option.some Try.t66 := (rfl)
@[simp] theorem Sq.zeroValue24 : ∀ (w : Go.World), Go.Sem.run Sq.prog (Go.zeroValue 24) w = Go.Result.ok Go.Value.nilFunc w := fun _ => (rfl)
theorem Sq.ntmps16 : Try.f16.ntmps = 18 := rfl
@[simp] theorem Sq.types_size : Sq.prog.types.size = 115 := (rfl)
@[simp] theorem Sq.zeroValue33 : ∀ (w : Go.World), Go.Sem.run Sq.prog (Go.zeroValue 33) w = Go.Result.ok Go.Value.nilFunc w := fun _ => (rfl)
@[simp] theorem Sq.func26 : Sq.prog.funcs[26]? = Option.some Try.f26 := (rfl)
@[simp] theorem Sq.underlying86 : Sq.prog.underlying 86 = Option.some (Go.TypeDesc.int Go.IntKind.u64) := (rfl)
@[simp] theorem Sq.underlying85 : Sq.prog.underlying 85 = Option.some (Go.TypeDesc.func #[23, 48] #[4] Bool.false) := (rfl)
@[simp] theorem Sq.runUnderlying87 : ∀ (w : Go.World), Go.Sem.run Sq.prog (Go.underlying 87) w = Go.Result.ok (Go.TypeDesc.interface #[("Error", 95)]) w := fun _ => (rfl)
@[simp] theorem Sq.zeroValue57 : ∀ (w : Go.World), Go.Sem.run Sq.prog (Go.zeroValue 57) w = Go.Result.ok Go.Value.nilFunc w := fun _ => (rfl)
theorem Sq.params50 : Try.f50.params = #[2] := rfl
@[simp] theorem Sq.runUnderlying94 : ∀ (w : Go.World), Go.Sem.run Sq.prog (Go.underlying 94) w = Go.Result.ok (Go.TypeDesc.pointer 113) w := fun _ => (rfl)
@[simp] theorem Sq.typeInfo58 : ∀ (w : Go.World), Go.Sem.run Sq.prog (Go.typeInfo 58) w = Go.Result.ok Try.t58 w := fun _ => (rfl)
theorem Sq.params51 : Try.f51.params = #[2] := rfl
@[simp] theorem Sq.typeInfo59 : ∀ (w : Go.World), Go.Sem.run Sq.prog (Go.typeInfo 59) w = Go.Result.ok Try.t59 w := fun _ => (rfl)
@[simp] theorem Sq.call66 : ∀ (args : Array Go.Value) (w : Go.World), Go.Sem.run Sq.prog (Go.callFunc 66 args) w = Go.Result.ok (Go.Next.enter 66 args) w := fun _ _ => (rfl)
theorem Sq.results73 : Try.f73.results = #[Go.ResultVar.tmp 4] := rfl
@[simp] theorem Sq.stoodInHeld110 : Sq.prog.stoodInHeld 110 = Bool.true := by kernel_rfl
@[simp] theorem Sq.zeroValue79 : ∀ (w : Go.World), Go.Sem.run Sq.prog (Go.zeroValue 79) w = Go.Result.ok (Go.Value.slice Option.none 0 0) w := fun _ => (rfl)
@[simp] theorem Sq.underlying75 : Sq.prog.underlying 75 = Option.some (Go.TypeDesc.func #[39] #[4] Bool.false) := (rfl)
@[simp] theorem Sq.sizeOf19 : ∀ (w : Go.World), Go.Sem.run Sq.prog (Go.sizeOf 19) w = Go.Result.ok 1 w := fun _ => (rfl)
theorem Sq.results58 : Try.f58.results = #[Go.ResultVar.tmp 6] := rfl
@[simp] theorem Sq.underlying29 : Sq.prog.underlying 29 = Option.some (Go.TypeDesc.func #[23] #[23] Bool.false) := (rfl)
@[simp] theorem Sq.typeInfo105 : ∀ (w : Go.World), Go.Sem.run Sq.prog (Go.typeInfo 105) w = Go.Result.ok Try.t105 w := fun _ => (rfl)
theorem Sq.ntmps72 : Try.f72.ntmps = 5 := rfl
theorem Sq.ntmps47 : Try.f47.ntmps = 9 := rfl
@[simp] theorem Sq.underlying28 : Sq.prog.underlying 28 = Option.some (Go.TypeDesc.func #[22] #[27] Bool.false) := (rfl)
@[simp] theorem Sq.call17 : ∀ (args : Array Go.Value) (w : Go.World), Go.Sem.run Sq.prog (Go.callFunc 17 args) w = Go.Result.ok (Go.Next.enter 17 args) w := fun _ _ => (rfl)
@[simp] theorem Sq.typeInfo87 : ∀ (w : Go.World), Go.Sem.run Sq.prog (Go.typeInfo 87) w = Go.Result.ok Try.t87 w := fun _ => (rfl)
@[simp] theorem Sq.typeInfo72 : ∀ (w : Go.World), Go.Sem.run Sq.prog (Go.typeInfo 72) w = Go.Result.ok Try.t72 w := fun _ => (rfl)
theorem Sq.ntmps38 : Try.f38.ntmps = 17 := rfl
@[simp] theorem Sq.sizeOf47 : ∀ (w : Go.World), Go.Sem.run Sq.prog (Go.sizeOf 47) w = Go.Result.ok 1 w := fun _ => (rfl)
theorem Sq.ntmps34 : Try.f34.ntmps = 7 := rfl
@[simp] theorem Sq.runUnderlying39 : ∀ (w : Go.World), Go.Sem.run Sq.prog (Go.underlying 39) w = Go.Result.ok (Go.TypeDesc.struct #[{ name := "Breaks", type := 23, offset := 0, embedded := Bool.false, tag := "", pkgPath := "", byteOffset := 0 }, { name := "Rates", type := 23, offset := 1, embedded := Bool.false, tag := "", pkgPath := "", byteOffset := 24 }]) w := fun _ => (rfl)
@[simp] theorem Sq.sizeOf110 : ∀ (w : Go.World), Go.Sem.run Sq.prog (Go.sizeOf 110) w = Go.Result.ok 11 w := fun _ => (rfl)
theorem Sq.results24 : Try.f24.results = #[Go.ResultVar.tmp 2] := rfl
@[simp] theorem Sq.underlying42 : Sq.prog.underlying 42 = Option.some (Go.TypeDesc.func #[39, 3] #[3] Bool.false) := (rfl)
@[simp] theorem Sq.call81 : ∀ (args : Array Go.Value) (w : Go.World), Go.Sem.run Sq.prog (Go.callFunc 81 args) w = Go.Result.ok (Go.Next.enter 81 args) w := fun _ _ => (rfl)
theorem Sq.results6 : Try.f6.results = #[Go.ResultVar.tmp 4] := rfl
@[simp] theorem Sq.type24 : Sq.prog.types[24]? = Option.some Try.t24 := (rfl)
@[simp] theorem Sq.func96 : Sq.prog.funcs[96]? = Option.some Try.f96 := (rfl)
@[simp] theorem Sq.eqGuardType99 : Sq.prog.eqGuardType Sq.prog.depth 99 = Bool.false := by kernel_rfl
@[simp] theorem Sq.isAgg100 : ∀ (w : Go.World), Go.Sem.run Sq.prog (Go.isAgg 100) w = Go.Result.ok Bool.true w := fun _ => (rfl)
@[simp] theorem Sq.type87 : Sq.prog.types[87]? = Option.some Try.t87 := (rfl)
theorem Sq.nfree45 : Try.f45.nfree = 0 := rfl
@[simp] theorem Sq.typeInfo30 : ∀ (w : Go.World), Go.Sem.run Sq.prog (Go.typeInfo 30) w = Go.Result.ok Try.t30 w := fun _ => (rfl)
@[simp] theorem Sq.call33 : ∀ (args : Array Go.Value) (w : Go.World), Go.Sem.run Sq.prog (Go.callFunc 33 args) w = Go.Result.ok (Go.Next.enter 33 args) w := fun _ _ => (rfl)
@[simp] theorem Sq.typeInfo15 : ∀ (w : Go.World), Go.Sem.run Sq.prog (Go.typeInfo 15) w = Go.Result.ok Try.t15 w := fun _ => (rfl)
@[simp] theorem Sq.runUnderlying68 : ∀ (w : Go.World), Go.Sem.run Sq.prog (Go.underlying 68) w = Go.Result.ok (Go.TypeDesc.func #[2, 23] #[23] Bool.false) w := fun _ => (rfl)
theorem Sq.nfree96 : Try.f96.nfree = 0 := rfl
theorem Sq.results87 : Try.f87.results = #[] := rfl
@[simp] theorem Sq.sizeOf58 : ∀ (w : Go.World), Go.Sem.run Sq.prog (Go.sizeOf 58) w = Go.Result.ok 1 w := fun _ => (rfl)
@[simp] theorem Sq.call52 : ∀ (args : Array Go.Value) (w : Go.World), Go.Sem.run Sq.prog (Go.callFunc 52 args) w = Go.Result.ok (Go.Next.enter 52 args) w := fun _ _ => (rfl)
@[simp] theorem Sq.func41 : Sq.prog.funcs[41]? = Option.some Try.f41 := (rfl)
@[simp] theorem Sq.typeInfo110 : ∀ (w : Go.World), Go.Sem.run Sq.prog (Go.typeInfo 110) w = Go.Result.ok Try.t110 w := fun _ => (rfl)
@[simp] theorem Sq.typeInfo92 : ∀ (w : Go.World), Go.Sem.run Sq.prog (Go.typeInfo 92) w = Go.Result.ok Try.t92 w := fun _ => (rfl)
@[simp] theorem Sq.sizeOf40 : ∀ (w : Go.World), Go.Sem.run Sq.prog (Go.sizeOf 40) w = Go.Result.ok 1 w := fun _ => (rfl)
@[simp] theorem Sq.runUnderlying84 : ∀ (w : Go.World), Go.Sem.run Sq.prog (Go.underlying 84) w = Go.Result.ok (Go.TypeDesc.func #[3, 3] #[3] Bool.false) w := fun _ => (rfl)
@[simp] theorem Sq.isAgg25 : ∀ (w : Go.World), Go.Sem.run Sq.prog (Go.isAgg 25) w = Go.Result.ok Bool.false w := fun _ => (rfl)
theorem Sq.nfree74 : Try.f74.nfree = 0 := rfl
@[simp] theorem Sq.typeInfo102 : ∀ (w : Go.World), Go.Sem.run Sq.prog (Go.typeInfo 102) w = Go.Result.ok Try.t102 w := fun _ => (rfl)
@[simp] theorem Sq.underlying15 : Sq.prog.underlying 15 = Option.some (Go.TypeDesc.pointer 97) := (rfl)
@[simp] theorem Sq.sizeOf96 : ∀ (w : Go.World), Go.Sem.run Sq.prog (Go.sizeOf 96) w = Go.Result.ok 4 w := fun _ => (rfl)
@[simp] theorem Sq.sizeOf70 : ∀ (w : Go.World), Go.Sem.run Sq.prog (Go.sizeOf 70) w = Go.Result.ok 1 w := fun _ => (rfl)
@[simp] theorem Sq.runUnderlying77 : ∀ (w : Go.World), Go.Sem.run Sq.prog (Go.underlying 77) w = Go.Result.ok (Go.TypeDesc.int Go.IntKind.u64) w := fun _ => (rfl)
@[simp] theorem Sq.runUnderlying11 : ∀ (w : Go.World), Go.Sem.run Sq.prog (Go.underlying 11) w = Go.Result.ok Go.TypeDesc.string w := fun _ => (rfl)
@[simp] theorem Sq.type39 : Sq.prog.types[39]? = Option.some Try.t39 := (rfl)
@[simp] theorem Sq.isAgg4 : ∀ (w : Go.World), Go.Sem.run Sq.prog (Go.isAgg 4) w = Go.Result.ok Bool.false w := fun _ => (rfl)
theorem Sq.params56 : Try.f56.params = #[61] := rfl
@[simp] theorem Sq.typeInfo65 : ∀ (w : Go.World), Go.Sem.run Sq.prog (Go.typeInfo 65) w = Go.Result.ok Try.t65 w := fun _ => (rfl)
@[simp] theorem Sq.type23 : Sq.prog.types[23]? = Option.some Try.t23 := (rfl)
theorem Sq.ntmps85 : Try.f85.ntmps = 1 := rfl
@[simp] theorem Sq.runUnderlying70 : ∀ (w : Go.World), Go.Sem.run Sq.prog (Go.underlying 70) w = Go.Result.ok (Go.TypeDesc.func #[23, 2, 2] #[4] Bool.false) w := fun _ => (rfl)
@[simp] theorem Sq.typeInfo24 : ∀ (w : Go.World), Go.Sem.run Sq.prog (Go.typeInfo 24) w = Go.Result.ok Try.t24 w := fun _ => (rfl)
@[simp] theorem Sq.runUnderlying44 : ∀ (w : Go.World), Go.Sem.run Sq.prog (Go.underlying 44) w = Go.Result.ok (Go.TypeDesc.func #[23, 23, 2] #[23, 4] Bool.false) w := fun _ => (rfl)
@[simp] theorem Sq.call77 : ∀ (args : Array Go.Value) (w : Go.World), Go.Sem.run Sq.prog (Go.callFunc 77 args) w = Go.Result.ok (Go.Next.enter 77 args) w := fun _ _ => (rfl)
theorem Sq.nfree5 : Try.f5.nfree = 0 := rfl
@[simp] theorem Sq.call27 : ∀ (args : Array Go.Value) (w : Go.World), Go.Sem.run Sq.prog (Go.callFunc 27 args) w = Go.Result.ok (Go.Next.enter 27 args) w := fun _ _ => (rfl)
@[simp] theorem Sq.func11 : Sq.prog.funcs[11]? = Option.some Try.f11 := (rfl)
@[simp] theorem Sq.typeInfo20 : ∀ (w : Go.World), Go.Sem.run Sq.prog (Go.typeInfo 20) w = Go.Result.ok Try.t20 w := fun _ => (rfl)
theorem Sq.results82 : Try.f82.results = #[] := rfl
@[simp] theorem Sq.call42 : ∀ (args : Array Go.Value) (w : Go.World), Go.Sem.run Sq.prog (Go.callFunc 42 args) w = Go.Result.ok (Go.Next.enter 42 args) w := fun _ _ => (rfl)
@[simp] theorem Sq.typeInfo48 : ∀ (w : Go.World), Go.Sem.run Sq.prog (Go.typeInfo 48) w = Go.Result.ok Try.t48 w := fun _ => (rfl)
@[simp] theorem Sq.underlying50 : Sq.prog.underlying 50 = Option.some (Go.TypeDesc.func #[2, 2] #[2] Bool.false) := (rfl)
@[simp] theorem Sq.typeInfo6 : ∀ (w : Go.World), Go.Sem.run Sq.prog (Go.typeInfo 6) w = Go.Result.ok Try.t6 w := fun _ => (rfl)
@[simp] theorem Sq.underlying25 : Sq.prog.underlying 25 = Option.some (Go.TypeDesc.tuple #[23, 4]) := (rfl)
theorem Sq.results9 : Try.f9.results = #[Go.ResultVar.tmp 2] := rfl
theorem Sq.params91 : Try.f91.params = #[15] := rfl
@[simp] theorem Sq.typeInfo47 : ∀ (w : Go.World), Go.Sem.run Sq.prog (Go.typeInfo 47) w = Go.Result.ok Try.t47 w := fun _ => (rfl)
@[simp] theorem Sq.sizeOf97 : ∀ (w : Go.World), Go.Sem.run Sq.prog (Go.sizeOf 97) w = Go.Result.ok 4 w := fun _ => (rfl)
@[simp] theorem Sq.typeInfo31 : ∀ (w : Go.World), Go.Sem.run Sq.prog (Go.typeInfo 31) w = Go.Result.ok Try.t31 w := fun _ => (rfl)
@[simp] theorem Sq.runUnderlying111 : ∀ (w : Go.World), Go.Sem.run Sq.prog (Go.underlying 111) w = Go.Result.ok (Go.TypeDesc.func #[] #[4] Bool.false) w := fun _ => (rfl)
@[simp] theorem Sq.isAgg11 : ∀ (w : Go.World), Go.Sem.run Sq.prog (Go.isAgg 11) w = Go.Result.ok Bool.false w := fun _ => (rfl)
@[simp] theorem Sq.call65 : ∀ (args : Array Go.Value) (w : Go.World), Go.Sem.run Sq.prog (Go.callFunc 65 args) w = Go.Result.ok (Go.Next.enter 65 args) w := fun _ _ => (rfl)
@[simp] theorem Sq.underlying110 : Sq.prog.underlying 110 = Option.some (Go.TypeDesc.struct #[{ name := "Size_", type := 12, offset := 0, embedded := Bool.false, tag := "", pkgPath := "", byteOffset := 0 }, { name := "PtrBytes", type := 12, offset := 1, embedded := Bool.false, tag := "", pkgPath := "", byteOffset := 8 }, { name := "Hash", type := 102, offset := 2, embedded := Bool.false, tag := "", pkgPath := "", byteOffset := 16 }, { name := "TFlag", type := 103, offset := 3, embedded := Bool.false, tag := "", pkgPath := "", byteOffset := 20 }, { name := "Align_", type := 5, offset := 4, embedded := Bool.false, tag := "", pkgPath := "", byteOffset := 21 }, { name := "FieldAlign_", type := 5, offset := 5, embedded := Bool.false, tag := "", pkgPath := "", byteOffset := 22 }, { name := "Kind_", type := 104, offset := 6, embedded := Bool.false, tag := "", pkgPath := "", byteOffset := 23 }, { name := "Equal", type := 105, offset := 7, embedded := Bool.false, tag := "", pkgPath := "", byteOffset := 24 }, { name := "GCData", type := 106, offset := 8, embedded := Bool.false, tag := "", pkgPath := "", byteOffset := 32 }, { name := "Str", type := 107, offset := 9, embedded := Bool.false, tag := "", pkgPath := "", byteOffset := 40 }, { name := "PtrToThis", type := 108, offset := 10, embedded := Bool.false, tag := "", pkgPath := "", byteOffset := 44 }]) := (rfl)
@[simp] theorem Sq.underlying26 : Sq.prog.underlying 26 = Option.some (Go.TypeDesc.func #[27, 23, 2] #[23, 4] Bool.false) := (rfl)
@[simp] theorem Sq.call57 : ∀ (args : Array Go.Value) (w : Go.World), Go.Sem.run Sq.prog (Go.callFunc 57 args) w = Go.Result.ok (Go.Next.enter 57 args) w := fun _ _ => (rfl)
@[simp] theorem Sq.runUnderlying26 : ∀ (w : Go.World), Go.Sem.run Sq.prog (Go.underlying 26) w = Go.Result.ok (Go.TypeDesc.func #[27, 23, 2] #[23, 4] Bool.false) w := fun _ => (rfl)
@[simp] theorem Sq.underlying49 : Sq.prog.underlying 49 = Option.some (Go.TypeDesc.func #[27, 2] #[23] Bool.false) := (rfl)
@[simp] theorem Sq.type59 : Sq.prog.types[59]? = Option.some Try.t59 := (rfl)
@[simp] theorem Sq.zeroValue20 : ∀ (w : Go.World), Go.Sem.run Sq.prog (Go.zeroValue 20) w = Go.Result.ok Go.Value.nilIface w := fun _ => (rfl)
@[simp] theorem Sq.type99 : Sq.prog.types[99]? = Option.some Try.t99 := (rfl)
@[simp] theorem Sq.underlying34 : Sq.prog.underlying 34 = Option.some (Go.TypeDesc.func #[22, 23, 2] #[4] Bool.false) := (rfl)
@[simp] theorem Sq.typeInfo22 : ∀ (w : Go.World), Go.Sem.run Sq.prog (Go.typeInfo 22) w = Go.Result.ok Try.t22 w := fun _ => (rfl)
@[simp] theorem Sq.typeInfo106 : ∀ (w : Go.World), Go.Sem.run Sq.prog (Go.typeInfo 106) w = Go.Result.ok Try.t106 w := fun _ => (rfl)
@[simp] theorem Sq.zeroValue6 : ∀ (w : Go.World), Go.Sem.run Sq.prog (Go.zeroValue 6) w = Go.Result.ok (Go.Value.int Go.IntKind.u8 0) w := fun _ => (rfl)
@[simp] theorem Sq.typeInfo79 : ∀ (w : Go.World), Go.Sem.run Sq.prog (Go.typeInfo 79) w = Go.Result.ok Try.t79 w := fun _ => (rfl)
@[simp] theorem Sq.isAgg17 : ∀ (w : Go.World), Go.Sem.run Sq.prog (Go.isAgg 17) w = Go.Result.ok Bool.false w := fun _ => (rfl)
@[simp] theorem Sq.zeroValue31 : ∀ (w : Go.World), Go.Sem.run Sq.prog (Go.zeroValue 31) w = Go.Result.ok Go.Value.nilFunc w := fun _ => (rfl)
@[simp] theorem Sq.zeroValue93 : ∀ (w : Go.World), Go.Sem.run Sq.prog (Go.zeroValue 93) w = Go.Result.ok Go.Value.nilFunc w := fun _ => (rfl)
theorem Sq.ntmps88 : Try.f88.ntmps = 1 := rfl
theorem Sq.results53 : Try.f53.results = #[Go.ResultVar.tmp 6] := rfl
theorem Sq.ntmps52 : Try.f52.ntmps = 15 := rfl
theorem Sq.results2 : Try.f2.results = #[] := rfl
theorem Sq.params10 : Try.f10.params = #[27, 23, 2] := rfl
@[simp] theorem Sq.runUnderlying98 : ∀ (w : Go.World), Go.Sem.run Sq.prog (Go.underlying 98) w = Go.Result.ok (Go.TypeDesc.array 0 16) w := fun _ => (rfl)
@[simp] theorem Sq.func8 : Sq.prog.funcs[8]? = Option.some Try.f8 := (rfl)
@[simp] theorem Sq.sizeOf2 : ∀ (w : Go.World), Go.Sem.run Sq.prog (Go.sizeOf 2) w = Go.Result.ok 1 w := fun _ => (rfl)
@[simp] theorem Sq.func42 : Sq.prog.funcs[42]? = Option.some Try.f42 := (rfl)
@[simp] theorem Sq.runUnderlying108 : ∀ (w : Go.World), Go.Sem.run Sq.prog (Go.underlying 108) w = Go.Result.ok (Go.TypeDesc.int Go.IntKind.i32) w := fun _ => (rfl)
@[simp] theorem Sq.underlying83 : Sq.prog.underlying 83 = Option.some (Go.TypeDesc.func #[78, 84] #[] Bool.false) := (rfl)
@[simp] theorem Sq.sizeOf71 : ∀ (w : Go.World), Go.Sem.run Sq.prog (Go.sizeOf 71) w = Go.Result.ok 1 w := fun _ => (rfl)
@[simp] theorem Sq.underlying101 : Sq.prog.underlying 101 = Option.some (Go.TypeDesc.func #[] #[3] Bool.false) := (rfl)
theorem Sq.params24 : Try.f24.params = #[27] := rfl
theorem Sq.nfree22 : Try.f22.nfree = 0 := rfl
@[simp] theorem Sq.sizeOf109 : ∀ (w : Go.World), Go.Sem.run Sq.prog (Go.sizeOf 109) w = Go.Result.ok 11 w := fun _ => (rfl)
@[simp] theorem Sq.sizeOf36 : ∀ (w : Go.World), Go.Sem.run Sq.prog (Go.sizeOf 36) w = Go.Result.ok 2 w := fun _ => (rfl)
@[simp] theorem Sq.zeroValue67 : ∀ (w : Go.World), Go.Sem.run Sq.prog (Go.zeroValue 67) w = Go.Result.ok Go.Value.nilFunc w := fun _ => (rfl)
@[simp] theorem Sq.isAgg82 : ∀ (w : Go.World), Go.Sem.run Sq.prog (Go.isAgg 82) w = Go.Result.ok Bool.false w := fun _ => (rfl)
@[simp] theorem Sq.underlying93 : Sq.prog.underlying 93 = Option.some (Go.TypeDesc.func #[78, 3, 3, 3, 84] #[] Bool.false) := (rfl)
@[simp] theorem Sq.zeroValue12 : ∀ (w : Go.World), Go.Sem.run Sq.prog (Go.zeroValue 12) w = Go.Result.ok (Go.Value.int Go.IntKind.u64 0) w := fun _ => (rfl)
@[simp] theorem Sq.zeroValue113 : ∀ (w : Go.World), Go.Sem.run Sq.prog (Go.zeroValue 113) w = Go.Result.ok (Go.Value.agg #[Go.Value.string { data := #[] }]) w := fun _ => (rfl)
@[simp] theorem Sq.call13 : ∀ (args : Array Go.Value) (w : Go.World), Go.Sem.run Sq.prog (Go.callFunc 13 args) w = Go.Result.ok (Go.Next.enter 13 args) w := fun _ _ => (rfl)
theorem Sq.ntmps17 : Try.f17.ntmps = 53 := rfl
@[simp] theorem Sq.type100 : Sq.prog.types[100]? = Option.some Try.t100 := (rfl)
@[simp] theorem Sq.type112 : Sq.prog.types[112]? = Option.some Try.t112 := (rfl)
@[simp] theorem Sq.isAgg101 : ∀ (w : Go.World), Go.Sem.run Sq.prog (Go.isAgg 101) w = Go.Result.ok Bool.false w := fun _ => (rfl)
@[simp] theorem Sq.isAgg92 : ∀ (w : Go.World), Go.Sem.run Sq.prog (Go.isAgg 92) w = Go.Result.ok Bool.false w := fun _ => (rfl)
@[simp] theorem Sq.call46 : ∀ (args : Array Go.Value) (w : Go.World), Go.Sem.run Sq.prog (Go.callFunc 46 args) w = Go.Result.ok (Go.Next.enter 46 args) w := fun _ _ => (rfl)
@[simp] theorem Sq.zeroValue77 : ∀ (w : Go.World), Go.Sem.run Sq.prog (Go.zeroValue 77) w = Go.Result.ok (Go.Value.int Go.IntKind.u64 0) w := fun _ => (rfl)
@[simp] theorem Sq.isAgg103 : ∀ (w : Go.World), Go.Sem.run Sq.prog (Go.isAgg 103) w = Go.Result.ok Bool.false w := fun _ => (rfl)
@[simp] theorem Sq.call71 : ∀ (args : Array Go.Value) (w : Go.World), Go.Sem.run Sq.prog (Go.callFunc 71 args) w = Go.Result.ok (Go.Next.enter 71 args) w := fun _ _ => (rfl)
@[simp] theorem Sq.runUnderlying69 : ∀ (w : Go.World), Go.Sem.run Sq.prog (Go.underlying 69) w = Go.Result.ok (Go.TypeDesc.pointer 52) w := fun _ => (rfl)
@[simp] theorem Sq.sizeOf43 : ∀ (w : Go.World), Go.Sem.run Sq.prog (Go.sizeOf 43) w = Go.Result.ok 1 w := fun _ => (rfl)
@[simp] theorem Sq.typeInfo13 : ∀ (w : Go.World), Go.Sem.run Sq.prog (Go.typeInfo 13) w = Go.Result.ok Try.t13 w := fun _ => (rfl)
@[simp] theorem Sq.sizeOf53 : ∀ (w : Go.World), Go.Sem.run Sq.prog (Go.sizeOf 53) w = Go.Result.ok 1 w := fun _ => (rfl)
@[simp] theorem Sq.isAgg8 : ∀ (w : Go.World), Go.Sem.run Sq.prog (Go.isAgg 8) w = Go.Result.ok Bool.true w := fun _ => (rfl)
@[simp] theorem Sq.sizeOf54 : ∀ (w : Go.World), Go.Sem.run Sq.prog (Go.sizeOf 54) w = Go.Result.ok 4 w := fun _ => (rfl)
@[simp] theorem Sq.type19 : Sq.prog.types[19]? = Option.some Try.t19 := (rfl)
theorem Sq.results47 : Try.f47.results = #[Go.ResultVar.tmp 3] := rfl
theorem Sq.nfree4 : Try.f4.nfree = 0 := rfl
theorem Sq.results76 : Try.f76.results = #[] := rfl
@[simp] theorem Sq.sizeOf3 : ∀ (w : Go.World), Go.Sem.run Sq.prog (Go.sizeOf 3) w = Go.Result.ok 1 w := fun _ => (rfl)
@[simp] theorem Sq.typeInfo67 : ∀ (w : Go.World), Go.Sem.run Sq.prog (Go.typeInfo 67) w = Go.Result.ok Try.t67 w := fun _ => (rfl)
@[simp] theorem Sq.sizeOf49 : ∀ (w : Go.World), Go.Sem.run Sq.prog (Go.sizeOf 49) w = Go.Result.ok 1 w := fun _ => (rfl)
@[simp] theorem Sq.zeroValue14 : ∀ (w : Go.World), Go.Sem.run Sq.prog (Go.zeroValue 14) w = Go.Result.ok (Go.Value.agg #[Go.Value.string { data := #[] }, Go.Value.int Go.IntKind.u64 0]) w := fun _ => (rfl)
@[simp] theorem Sq.isAgg84 : ∀ (w : Go.World), Go.Sem.run Sq.prog (Go.isAgg 84) w = Go.Result.ok Bool.false w := fun _ => (rfl)
theorem Sq.nfree85 : Try.f85.nfree = 0 := rfl
@[simp] theorem Sq.sizeOf5 : ∀ (w : Go.World), Go.Sem.run Sq.prog (Go.sizeOf 5) w = Go.Result.ok 1 w := fun _ => (rfl)
@[simp] theorem Sq.zeroValue10 : ∀ (w : Go.World), Go.Sem.run Sq.prog (Go.zeroValue 10) w = Go.Result.ok (Go.Value.string { data := #[] }) w := fun _ => (rfl)
@[simp] theorem Sq.sizeOf37 : ∀ (w : Go.World), Go.Sem.run Sq.prog (Go.sizeOf 37) w = Go.Result.ok 1 w := fun _ => (rfl)
theorem Sq.params39 : Try.f39.params = #[2] := rfl
theorem Sq.params64 : Try.f64.params = #[39, 2] := rfl
@[simp] theorem Sq.func73 : Sq.prog.funcs[73]? = Option.some Try.f73 := (rfl)
theorem Sq.ntmps87 : Try.f87.ntmps = 1 := rfl
theorem Sq.ntmps28 : Try.f28.ntmps = 10 := rfl
@[simp] theorem Sq.isAgg72 : ∀ (w : Go.World), Go.Sem.run Sq.prog (Go.isAgg 72) w = Go.Result.ok Bool.false w := fun _ => (rfl)
theorem Sq.params20 : Try.f20.params = #[39, 39] := rfl
@[simp] theorem Sq.type17 : Sq.prog.types[17]? = Option.some Try.t17 := (rfl)
@[simp] theorem Sq.zeroValue18 : ∀ (w : Go.World), Go.Sem.run Sq.prog (Go.zeroValue 18) w = Go.Result.ok (Go.Value.agg #[Go.Value.pointer Option.none]) w := fun _ => (rfl)
@[simp] theorem Sq.typeInfo50 : ∀ (w : Go.World), Go.Sem.run Sq.prog (Go.typeInfo 50) w = Go.Result.ok Try.t50 w := fun _ => (rfl)
theorem Sq.params71 : Try.f71.params = #[2] := rfl
@[simp] theorem Sq.eqGuardType54 : Sq.prog.eqGuardType Sq.prog.depth 54 = Bool.false := by kernel_rfl
@[simp] theorem Sq.underlying64 : Sq.prog.underlying 64 = Option.some (Go.TypeDesc.tuple #[2, 4]) := (rfl)
@[simp] theorem Sq.type11 : Sq.prog.types[11]? = Option.some Try.t11 := (rfl)
@[simp] theorem Sq.runUnderlying15 : ∀ (w : Go.World), Go.Sem.run Sq.prog (Go.underlying 15) w = Go.Result.ok (Go.TypeDesc.pointer 97) w := fun _ => (rfl)
@[simp] theorem Sq.typeInfo23 : ∀ (w : Go.World), Go.Sem.run Sq.prog (Go.typeInfo 23) w = Go.Result.ok Try.t23 w := fun _ => (rfl)
@[simp] theorem Sq.type21 : Sq.prog.types[21]? = Option.some Try.t21 := (rfl)
theorem Sq.params36 : Try.f36.params = #[52, 52] := rfl
theorem Sq.results28 : Try.f28.results = #[Go.ResultVar.tmp 4] := rfl
theorem Sq.ntmps62 : Try.f62.ntmps = 5 := rfl
@[simp] theorem Sq.func24 : Sq.prog.funcs[24]? = Option.some Try.f24 := (rfl)
@[simp] theorem Sq.runUnderlying104 : ∀ (w : Go.World), Go.Sem.run Sq.prog (Go.underlying 104) w = Go.Result.ok (Go.TypeDesc.int Go.IntKind.u8) w := fun _ => (rfl)
@[simp] theorem Sq.underlying87 : Sq.prog.underlying 87 = Option.some (Go.TypeDesc.interface #[("Error", 95)]) := (rfl)
theorem Sq.results7 : Try.f7.results = #[Go.ResultVar.tmp 6, Go.ResultVar.tmp 7] := rfl
theorem Sq.nfree86 : Try.f86.nfree = 0 := rfl
theorem Sq.ntmps25 : Try.f25.ntmps = 15 := rfl
@[simp] theorem Sq.isAgg36 : ∀ (w : Go.World), Go.Sem.run Sq.prog (Go.isAgg 36) w = Go.Result.ok Bool.true w := fun _ => (rfl)
@[simp] theorem Sq.type91 : Sq.prog.types[91]? = Option.some Try.t91 := (rfl)
@[simp] theorem Sq.zeroValue94 : ∀ (w : Go.World), Go.Sem.run Sq.prog (Go.zeroValue 94) w = Go.Result.ok (Go.Value.pointer Option.none) w := fun _ => (rfl)
@[simp] theorem Sq.call76 : ∀ (args : Array Go.Value) (w : Go.World), Go.Sem.run Sq.prog (Go.callFunc 76 args) w = Go.Result.ok (Go.Next.enter 76 args) w := fun _ _ => (rfl)
@[simp] theorem Sq.sizeOf100 : ∀ (w : Go.World), Go.Sem.run Sq.prog (Go.sizeOf 100) w = Go.Result.ok 0 w := fun _ => (rfl)
@[simp] theorem Sq.zeroValue69 : ∀ (w : Go.World), Go.Sem.run Sq.prog (Go.zeroValue 69) w = Go.Result.ok (Go.Value.pointer Option.none) w := fun _ => (rfl)
@[simp] theorem Sq.runUnderlying6 : ∀ (w : Go.World), Go.Sem.run Sq.prog (Go.underlying 6) w = Go.Result.ok (Go.TypeDesc.int Go.IntKind.u8) w := fun _ => (rfl)
@[simp] theorem Sq.call75 : ∀ (args : Array Go.Value) (w : Go.World), Go.Sem.run Sq.prog (Go.callFunc 75 args) w = Go.Result.ok (Go.Next.enter 75 args) w := fun _ _ => (rfl)
@[simp] theorem Sq.func47 : Sq.prog.funcs[47]? = Option.some Try.f47 := (rfl)
theorem Sq.params35 : Try.f35.params = #[27, 2] := rfl
@[simp] theorem Sq.typeInfo66 : ∀ (w : Go.World), Go.Sem.run Sq.prog (Go.typeInfo 66) w = Go.Result.ok Try.t66 w := fun _ => (rfl)
@[simp] theorem Sq.zeroValue100 : ∀ (w : Go.World), Go.Sem.run Sq.prog (Go.zeroValue 100) w = Go.Result.ok (Go.Value.agg #[]) w := fun _ => (rfl)
@[simp] theorem Sq.typeInfo42 : ∀ (w : Go.World), Go.Sem.run Sq.prog (Go.typeInfo 42) w = Go.Result.ok Try.t42 w := fun _ => (rfl)
@[simp] theorem Sq.func1 : Sq.prog.funcs[1]? = Option.some Try.f1 := (rfl)
@[simp] theorem Sq.zeroValue54 : ∀ (w : Go.World), Go.Sem.run Sq.prog (Go.zeroValue 54) w = Go.Result.ok (Go.Value.agg #[Go.Value.int Go.IntKind.i64 0, Go.Value.int Go.IntKind.i64 0, Go.Value.int Go.IntKind.i64 0, Go.Value.int Go.IntKind.i64 0]) w := fun _ => (rfl)
theorem Sq.nfree100 : Try.f100.nfree = 0 := rfl
@[simp] theorem Sq.underlying57 : Sq.prog.underlying 57 = Option.some (Go.TypeDesc.func #[27, 2] #[2] Bool.false) := (rfl)
theorem Sq.results80 : Try.f80.results = #[] := rfl
@[simp] theorem Sq.zeroValue43 : ∀ (w : Go.World), Go.Sem.run Sq.prog (Go.zeroValue 43) w = Go.Result.ok Go.Value.nilFunc w := fun _ => (rfl)
@[simp] theorem Sq.type61 : Sq.prog.types[61]? = Option.some Try.t61 := (rfl)
@[simp] theorem Sq.isAgg31 : ∀ (w : Go.World), Go.Sem.run Sq.prog (Go.isAgg 31) w = Go.Result.ok Bool.false w := fun _ => (rfl)
theorem Sq.nfree2 : Try.f2.nfree = 0 := rfl
theorem Sq.params47 : Try.f47.params = #[2] := rfl
theorem Sq.nfree3 : Try.f3.nfree = 0 := rfl
theorem Sq.ntmps98 : Try.f98.ntmps = 1 := rfl
@[simp] theorem Sq.typeInfo83 : ∀ (w : Go.World), Go.Sem.run Sq.prog (Go.typeInfo 83) w = Go.Result.ok Try.t83 w := fun _ => (rfl)
theorem Sq.results59 : Try.f59.results = #[Go.ResultVar.tmp 4] := rfl
theorem Sq.nfree59 : Try.f59.nfree = 0 := rfl
@[simp] theorem Sq.eqGuardType112 : Sq.prog.eqGuardType Sq.prog.depth 112 = Bool.false := by kernel_rfl
@[simp] theorem Sq.func38 : Sq.prog.funcs[38]? = Option.some Try.f38 := (rfl)
theorem Sq.results38 : Try.f38.results = #[Go.ResultVar.tmp 6] := rfl
@[simp] theorem Sq.underlying94 : Sq.prog.underlying 94 = Option.some (Go.TypeDesc.pointer 113) := (rfl)
theorem Sq.ntmps94 : Try.f94.ntmps = 1 := rfl
@[simp] theorem Sq.zeroValue2 : ∀ (w : Go.World), Go.Sem.run Sq.prog (Go.zeroValue 2) w = Go.Result.ok (Go.Value.int Go.IntKind.i64 0) w := fun _ => (rfl)
@[simp] theorem Sq.typeInfo70 : ∀ (w : Go.World), Go.Sem.run Sq.prog (Go.typeInfo 70) w = Go.Result.ok Try.t70 w := fun _ => (rfl)
@[simp] theorem Sq.func52 : Sq.prog.funcs[52]? = Option.some Try.f52 := (rfl)
@[simp] theorem Sq.underlying78 : Sq.prog.underlying 78 = Option.some (Go.TypeDesc.slice 3) := (rfl)
@[simp] theorem Sq.runUnderlying59 : ∀ (w : Go.World), Go.Sem.run Sq.prog (Go.underlying 59) w = Go.Result.ok (Go.TypeDesc.func #[52, 52] #[4] Bool.false) w := fun _ => (rfl)
end Go.Proofs.Ytpigjhagdpeofaa
