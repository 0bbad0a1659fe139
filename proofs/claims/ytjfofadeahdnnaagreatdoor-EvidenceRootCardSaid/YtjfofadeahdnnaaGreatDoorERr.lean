import Derived.Test.YtjfofadeahdnnaaGreatDoorERq
import Derived.Test.YtjfofadeahdnnaaGreatDoorProg
import Derived.KernelRfl
set_option linter.unusedVariables false
set_option linter.unusedSimpArgs false
namespace Go.CE
open _root_.Bool renaming true→iL
set_option maxRecDepth 100000
open Go.RowKit
noncomputable def me4:Me:=⟨47,[(V.c (C.f (F.sl iL 1082 13 0 1))),(V.a [(C.f (F.s [104,111,116])),(zi 1),(zi 1),(zi 0),(zi 0),(zi 0),(zi 0),(zi 0),(zi 0),(C.f (F.s [99,112,117])),zs,zs,zs,(C.f (F.b iL)),(zi 9),(zi 1),(zi 2),(zi 1),(zi 0)]),(V.c (zi 3))],gw,[(1082,(O.blk Bool.false 49 [(C.f (F.s [99,112,117])),zs,(zi 0),(zi 0),(zi 0),(zi 0),(zi 20),(C.f (F.i Go.IntKind.i64 (Int.negSucc 0))),(zi 2),(zi 0),(zi 4),(zi 0),zs]))],1083,(V.t [(W.c (C.f (F.sl iL 1195 2 0 1))),(W.c (zi 0))]),[(1195,(O.blk Bool.false 146 [zs,(zi 1)]))],1197⟩
theorem aNX:PJ Go.Proofs.Tryz.prog me4:=SE (GH _ 4000 57) fun o=>by kernel_rfl
set_option maxRecDepth 100000
noncomputable def aMX:List Me:=[me0,me1,me2,me3,me4]
theorem aIB:∀e∈aMX,PJ Go.Proofs.Tryz.prog e:=by
 intro e he;simp only[aMX,List.mem_cons,List.not_mem_nil,or_false]at he
 rcases he with rfl|rfl|rfl|rfl|rfl
 ·exact aO1
 ·exact aO0
 ·exact aNZ
 ·exact aNY
 ·exact aNX
theorem SJ(o:Obj):aKM (goT aMX Go.Proofs.Tryz.prog 4000 60 (.fn 13) [] (hG o gw) 1)=true:=by kernel_rfl
theorem lives35_calls{o:Obj}(ho:GlbOK o gw){w:World}(hw:w.heap[0]?=some o):Calls Go.Proofs.Tryz.prog 13 #[] w fun e w'=>e=.returned (.bool true)∧Below w.heap.size w w':=
 IU (YA aIB 4000 60) (SJ o) ho hw
end Go.CE
