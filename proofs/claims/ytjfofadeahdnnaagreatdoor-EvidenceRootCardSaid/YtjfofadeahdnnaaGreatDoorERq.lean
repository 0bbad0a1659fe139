import Derived.Test.YtjfofadeahdnnaaGreatDoorERp
import Derived.Test.YtjfofadeahdnnaaGreatDoorProg
import Derived.KernelRfl
set_option linter.unusedVariables false
set_option linter.unusedSimpArgs false
namespace Go.CE
open _root_.Bool renaming true→iL
set_option maxRecDepth 100000
open Go.RowKit
noncomputable def me2:Me:=⟨47,[(V.c (C.f (F.sl iL 435 13 0 1))),(V.a [(C.f (F.s [104,111,116])),(zi 1),(zi 1),(zi 0),(zi 0),(zi 0),(zi 0),(zi 0),(zi 0),(C.f (F.s [99,112,117])),zs,zs,zs,(C.f (F.b iL)),(zi 9),(zi 1),(zi 2),(zi 1),(zi 0)]),(V.c (zi 3))],gw,[(435,(O.blk Bool.false 49 [(C.f (F.s [99,112,117])),zs,(zi 0),(zi 0),(zi 0),(zi 0),(zi 20),(C.f (F.i Go.IntKind.i64 (Int.negSucc 0))),(zi 2),(zi 0),(zi 4),(zi 0),zs]))],436,(V.t [(W.c (C.f (F.sl iL 548 2 0 1))),(W.c (zi 0))]),[(548,(O.blk Bool.false 146 [zs,(zi 1)]))],550⟩
theorem aNZ:PJ Go.Proofs.Tryz.prog me2:=SE (GH _ 4000 56) fun o=>by kernel_rfl
noncomputable def me3:Me:=⟨47,[(V.c (C.f (F.sl iL 824 13 0 1))),(V.a [(C.f (F.s [104,111,116])),(zi 1),(zi 1),(zi 0),(zi 0),(zi 0),(zi 0),(zi 0),(zi 0),(C.f (F.s [99,112,117])),zs,zs,zs,(C.f (F.b iL)),(zi 9),(zi 1),(zi 2),(zi 1),(zi 0)]),(V.c (zi 3))],gw,[(827,(O.blk Bool.false 51 [(zi 2),(zi 2),(zi 10),(zi 10)])),(824,(O.blk Bool.false 49 [(C.f (F.s [99,112,117])),zs,(zi 0),(zi 0),(zi 0),(zi 0),(zi 20),(C.f (F.i Go.IntKind.i64 (Int.negSucc 0))),(zi 2),(zi 0),(zi 4),(zi 0),(C.f (F.sl iL 827 4 0 1))]))],828,(V.t [(W.c (C.f (F.sl iL 951 2 0 1))),(W.c (zi 0))]),[(951,(O.blk Bool.false 146 [zs,(zi 2)]))],953⟩
theorem aNY:PJ Go.Proofs.Tryz.prog me3:=SE (GH _ 4000 57) fun o=>by kernel_rfl
end Go.CE
