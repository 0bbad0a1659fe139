import Derived.Test.YtjfofadeahdnnaaGreatDoorERk
import Derived.Test.YtjfofadeahdnnaaGreatDoorERh
import Derived.Test.YtjfofadeahdnnaaGreatDoorProg
import Derived.KernelRfl
set_option linter.unusedVariables false
set_option linter.unusedSimpArgs false
namespace Go.CE
open _root_.Bool renaming true→iL
set_option maxRecDepth 100000
open Go.RowKit
def zi(n:Nat):C:=.f (.i .i64 (.ofNat n))
def zu(n:Nat):C:=.f (.i .u64 (.ofNat n))
def zs:C:=.f (.z (.slice none 0 0))
noncomputable def me0:Me:=⟨47,[(V.c (C.f (F.sl iL 34 13 0 1))),(V.a [(C.f (F.s [104,111,116])),(zi 1),(zi 1),(zi 0),(zi 0),(zi 0),(zi 0),(zi 0),(zi 0),(C.f (F.s [99,112,117])),zs,zs,zs,(C.f (F.b iL)),(zi 9),(zi 1),(zi 2),(zi 1),(zi 0)]),(V.c (zi 3))],gw,[(33,(O.blk iL 51 [(zi 2),(zi 2),(zi 10),(zi 10)])),(34,(O.blk iL 49 [(C.f (F.s [99,112,117])),zs,(zi 0),(zi 0),(zi 0),(zi 0),(zi 20),(C.f (F.i Go.IntKind.i64 (Int.negSucc 0))),(zi 2),(zi 0),(zi 4),(zi 0),(C.f (F.sl iL 33 4 0 1))]))],42,(V.t [(W.c (C.f (F.sl iL 165 2 0 1))),(W.c (zi 0))]),[(165,(O.blk Bool.false 146 [zs,(zi 2)]))],167⟩
theorem aO1:PJ Go.Proofs.Tryz.prog me0:=SE (GH _ 4000 58) fun o=>by kernel_rfl
noncomputable def me1:Me:=⟨47,[(V.c (C.f (F.sl iL 295 13 0 1))),(V.a [(C.f (F.s [104,111,116])),(zi 1),(zi 1),(zi 0),(zi 0),(zi 0),(zi 0),(zi 0),(zi 0),(C.f (F.s [99,112,117])),zs,zs,zs,(C.f (F.b iL)),(zi 9),(zi 1),(zi 2),(zi 1),(zi 0)]),(V.c (zi 3))],gw,[(298,(O.blk Bool.false 51 [(zi 2),(zi 2),(zi 10),(zi 10)])),(295,(O.blk Bool.false 49 [(C.f (F.s [99,112,117])),zs,(zi 0),(zi 0),(zi 0),(zi 0),(zi 20),(C.f (F.i Go.IntKind.i64 (Int.negSucc 0))),(zi 2),(zi 0),(zi 4),(zi 0),(C.f (F.sl iL 298 4 0 1))]))],299,(V.t [(W.c (C.f (F.sl iL 422 2 0 1))),(W.c (zi 0))]),[(422,(O.blk Bool.false 146 [zs,(zi 2)]))],424⟩
theorem aO0:PJ Go.Proofs.Tryz.prog me1:=SE (GH _ 4000 55) fun o=>by kernel_rfl
end Go.CE
