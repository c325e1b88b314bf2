/- BootSpans. Laid together by pack.py out of the texts in wip. -/
import Derived.Test.YtmoeokkelkgnhaaGreatPBootSpans1
set_option linter.unusedVariables false
set_option linter.unusedSimpArgs false
set_option linter.unusedSectionVars false
set_option maxHeartbeats 64000000
namespace Go.Proofs.YtmoeokkelkgnhaaGreat
open Go.SL
open Go.Proofs.Tryz
section
instance:Mixed prog:=⟨by kernel_rfl⟩
instance:TyD prog 3 (.int .i64):=⟨underlying3⟩
instance:TyS prog 3 1:=⟨by kernel_rfl⟩
instance:TyB prog 3 8:=⟨by kernel_rfl⟩
instance tyZ3:TyZ prog 3 (.int .i64 0):=⟨by kernel_rfl⟩
instance:TyD prog 4 (.bool):=⟨underlying4⟩
instance:TyS prog 4 1:=⟨by kernel_rfl⟩
instance tyZ4:TyZ prog 4 (.bool false):=⟨by kernel_rfl⟩
instance:TyD prog 5 (.int .u8):=⟨underlying5⟩
instance:TyS prog 5 1:=⟨by kernel_rfl⟩
instance:TyB prog 5 1:=⟨by kernel_rfl⟩
instance tyZ5:TyZ prog 5 (.int .u8 0):=⟨by kernel_rfl⟩
instance:TyD prog 9 (.string):=⟨underlying9⟩
instance:TyS prog 9 1:=⟨by kernel_rfl⟩
instance:TyD prog 20 (.interface #[]):=⟨underlying20⟩
instance:TyD prog 22 (.slice 78):=⟨underlying22⟩
instance:TyS prog 22 1:=⟨by kernel_rfl⟩
instance:TyD prog 23 (.slice 91):=⟨underlying23⟩
instance:TyS prog 23 1:=⟨by kernel_rfl⟩
instance:TyD prog 24 (.slice 79):=⟨underlying24⟩
instance:TyS prog 24 1:=⟨by kernel_rfl⟩
instance:TyD prog 25 (.slice 118):=⟨underlying25⟩
instance:TyS prog 25 1:=⟨by kernel_rfl⟩
instance:TyD prog 26 (.slice 86):=⟨underlying26⟩
instance:TyS prog 26 1:=⟨by kernel_rfl⟩
instance:TyD prog 27 (.slice 121):=⟨underlying27⟩
instance:TyS prog 27 1:=⟨by kernel_rfl⟩
instance:TyD prog 28 (.slice 124):=⟨underlying28⟩
instance:TyS prog 28 1:=⟨by kernel_rfl⟩
instance : TyD Tryz.prog 30 (.struct #[⟨ "Objects", 22, 0, false, "", "", 0⟩, ⟨ "Puts", 23, 1, false, "", "", 24⟩, ⟨ "Maps", 24, 2, false, "", "", 48⟩, ⟨ "Fills", 25, 3, false, "", "", 72⟩, ⟨ "Threads", 26, 4, false, "", "", 96⟩, ⟨ "Wires", 27, 5, false, "", "", 120⟩, ⟨ "Times", 28, 6, false, "", "", 144⟩]) := ⟨Tryz.underlying30⟩
instance:TyS prog 30 7:=⟨by kernel_rfl⟩
instance tyZ30:TyZ prog 30 (.agg #[.slice none 0 0,.slice none 0 0,.slice none 0 0,.slice none 0 0,.slice none 0 0,.slice none 0 0,.slice none 0 0]):=⟨by kernel_rfl⟩
instance:TyFld prog 30 0 0 22:=⟨_,_,underlying30,rfl,rfl,rfl⟩
instance:TyFld prog 30 1 1 23:=⟨_,_,underlying30,rfl,rfl,rfl⟩
instance:TyFld prog 30 2 2 24:=⟨_,_,underlying30,rfl,rfl,rfl⟩
instance:TyFld prog 30 3 3 25:=⟨_,_,underlying30,rfl,rfl,rfl⟩
instance:TyFld prog 30 4 4 26:=⟨_,_,underlying30,rfl,rfl,rfl⟩
instance:TyFld prog 30 5 5 27:=⟨_,_,underlying30,rfl,rfl,rfl⟩
instance:TyFld prog 30 6 6 28:=⟨_,_,underlying30,rfl,rfl,rfl⟩
instance:TyPl prog 30 [(0,1),(1,1),(2,1),(3,1),(4,1),(5,1),(6,1)]:=⟨_,underlying30,fun w=>by simp[TyS.run]⟩
instance:TyD prog 33 (.int .i64):=⟨underlying33⟩
instance:TyS prog 33 1:=⟨by kernel_rfl⟩
instance:TyD prog 36 (.slice 116):=⟨underlying36⟩
instance:TyS prog 36 1:=⟨by kernel_rfl⟩
instance:TyD prog 37 (.slice 65):=⟨underlying37⟩
instance:TyS prog 37 1:=⟨by kernel_rfl⟩
instance:TyD prog 38 (.slice 69):=⟨underlying38⟩
instance:TyS prog 38 1:=⟨by kernel_rfl⟩
instance:TyD prog 39 (.slice 119):=⟨underlying39⟩
instance:TyS prog 39 1:=⟨by kernel_rfl⟩
instance:TyD prog 40 (.slice 67):=⟨underlying40⟩
instance:TyS prog 40 1:=⟨by kernel_rfl⟩
instance:TyD prog 41 (.slice 122):=⟨underlying41⟩
instance:TyS prog 41 1:=⟨by kernel_rfl⟩
instance:TyD prog 42 (.slice 125):=⟨underlying42⟩
instance:TyS prog 42 1:=⟨by kernel_rfl⟩
instance : TyD Tryz.prog 44 (.struct #[⟨ "Objects", 36, 0, false, "", "", 0⟩, ⟨ "Puts", 37, 1, false, "", "", 24⟩, ⟨ "Maps", 38, 2, false, "", "", 48⟩, ⟨ "Fills", 39, 3, false, "", "", 72⟩, ⟨ "Threads", 40, 4, false, "", "", 96⟩, ⟨ "Wires", 41, 5, false, "", "", 120⟩, ⟨ "Times", 42, 6, false, "", "", 144⟩]) := ⟨Tryz.underlying44⟩
instance:TyS prog 44 7:=⟨by kernel_rfl⟩
instance tyZ44:TyZ prog 44 (.agg #[.slice none 0 0,.slice none 0 0,.slice none 0 0,.slice none 0 0,.slice none 0 0,.slice none 0 0,.slice none 0 0]):=⟨by kernel_rfl⟩
instance:TyFld prog 44 0 0 36:=⟨_,_,underlying44,rfl,rfl,rfl⟩
instance:TyFld prog 44 1 1 37:=⟨_,_,underlying44,rfl,rfl,rfl⟩
instance:TyFld prog 44 2 2 38:=⟨_,_,underlying44,rfl,rfl,rfl⟩
instance:TyFld prog 44 3 3 39:=⟨_,_,underlying44,rfl,rfl,rfl⟩
instance:TyFld prog 44 4 4 40:=⟨_,_,underlying44,rfl,rfl,rfl⟩
instance:TyFld prog 44 5 5 41:=⟨_,_,underlying44,rfl,rfl,rfl⟩
instance:TyFld prog 44 6 6 42:=⟨_,_,underlying44,rfl,rfl,rfl⟩
instance:TyPl prog 44 [(0,1),(1,1),(2,1),(3,1),(4,1),(5,1),(6,1)]:=⟨_,underlying44,fun w=>by simp[TyS.run]⟩
instance:TyD prog 50 (.int .u64):=⟨underlying50⟩
instance:TyS prog 50 1:=⟨by kernel_rfl⟩
instance:TyB prog 50 8:=⟨by kernel_rfl⟩
instance tyZ50:TyZ prog 50 (.int .u64 0):=⟨by kernel_rfl⟩
instance:TyD prog 51 (.slice 55):=⟨underlying51⟩
instance:TyS prog 51 1:=⟨by kernel_rfl⟩
instance tyZ51:TyZ prog 51 (.slice none 0 0):=⟨by kernel_rfl⟩
instance : TyD Tryz.prog 55 (.struct #[⟨ "At", 3, 0, false, "", "", 0⟩, ⟨ "Bits", 3, 1, false, "", "", 8⟩]) := ⟨Tryz.underlying55⟩
instance:TyS prog 55 2:=⟨by kernel_rfl⟩
instance:TyB prog 55 16:=⟨by kernel_rfl⟩
instance tyZ55:TyZ prog 55 (.agg #[.int .i64 0,.int .i64 0]):=⟨by kernel_rfl⟩
instance:TyFld prog 55 0 0 3:=⟨_,_,underlying55,rfl,rfl,rfl⟩
instance:TyFld prog 55 1 1 3:=⟨_,_,underlying55,rfl,rfl,rfl⟩
instance:TyPl prog 55 [(0,1),(1,1)]:=⟨_,underlying55,fun w=>by simp[TyS.run]⟩
instance:NumTy prog 55 [.i64,.i64]:=NumTy.mk' underlying55 (by kernel_rfl) (by kernel_rfl) rfl (fun
    | 0,f,k,hf,hk=>by obtain rfl:=Option.some.inj hf;obtain rfl:=Option.some.inj hk;exact ⟨by decide,rfl,underlying3⟩
    | 1,f,k,hf,hk=>by obtain rfl:=Option.some.inj hf;obtain rfl:=Option.some.inj hk;exact ⟨by decide,rfl,underlying3⟩
    | i+2,f,k,hf,hk=>by simp at hf)
instance:TyD prog 56 (.pointer 160):=⟨underlying56⟩
instance:TyS prog 56 1:=⟨by kernel_rfl⟩
instance tyZ56:TyZ prog 56 (.pointer none):=⟨by kernel_rfl⟩
instance : TyD Tryz.prog 61 (.struct #[⟨ "Node", 3, 0, false, "", "", 0⟩, ⟨ "At", 3, 1, false, "", "", 8⟩]) := ⟨Tryz.underlying61⟩
instance:TyS prog 61 2:=⟨by kernel_rfl⟩
instance tyZ61:TyZ prog 61 (.agg #[.int .i64 0,.int .i64 0]):=⟨by kernel_rfl⟩
instance:TyFld prog 61 0 0 3:=⟨_,_,underlying61,rfl,rfl,rfl⟩
instance:TyFld prog 61 1 1 3:=⟨_,_,underlying61,rfl,rfl,rfl⟩
instance:TyPl prog 61 [(0,1),(1,1)]:=⟨_,underlying61,fun w=>by simp[TyS.run]⟩
instance:NumTy prog 61 [.i64,.i64]:=NumTy.mk' underlying61 (by kernel_rfl) (by kernel_rfl) rfl (fun
    | 0,f,k,hf,hk=>by obtain rfl:=Option.some.inj hf;obtain rfl:=Option.some.inj hk;exact ⟨by decide,rfl,underlying3⟩
    | 1,f,k,hf,hk=>by obtain rfl:=Option.some.inj hf;obtain rfl:=Option.some.inj hk;exact ⟨by decide,rfl,underlying3⟩
    | i+2,f,k,hf,hk=>by simp at hf)
instance:SlotTy prog 61 where
  num:=inferInstance
  check b s d w:=by
    simp[Instr.checkKey,TyD.run,encS,List.forIn_cons,List.forIn_nil,TyD.agg,aggD,part]
instance : TyD Tryz.prog 63 (.struct #[⟨ "Kind", 3, 0, false, "", "", 0⟩, ⟨ "Object", 3, 1, false, "", "", 8⟩, ⟨ "Rights", 3, 2, false, "", "", 16⟩, ⟨ "Badge", 50, 3, false, "", "", 24⟩, ⟨ "Guard", 50, 4, false, "", "", 32⟩, ⟨ "Bits", 3, 5, false, "", "", 40⟩]) := ⟨Tryz.underlying63⟩
instance:TyS prog 63 6:=⟨by kernel_rfl⟩
instance tyZ63:TyZ prog 63 (.agg #[.int .i64 0,.int .i64 0,.int .i64 0,.int .u64 0,.int .u64 0,.int .i64 0]):=⟨by kernel_rfl⟩
instance:TyFld prog 63 0 0 3:=⟨_,_,underlying63,rfl,rfl,rfl⟩
instance:TyFld prog 63 1 1 3:=⟨_,_,underlying63,rfl,rfl,rfl⟩
instance:TyFld prog 63 2 2 3:=⟨_,_,underlying63,rfl,rfl,rfl⟩
instance:TyFld prog 63 3 3 50:=⟨_,_,underlying63,rfl,rfl,rfl⟩
instance:TyFld prog 63 4 4 50:=⟨_,_,underlying63,rfl,rfl,rfl⟩
instance:TyFld prog 63 5 5 3:=⟨_,_,underlying63,rfl,rfl,rfl⟩
instance:TyPl prog 63 [(0,1),(1,1),(2,1),(3,1),(4,1),(5,1)]:=⟨_,underlying63,fun w=>by simp[TyS.run]⟩
instance:NumTy prog 63 [.i64,.i64,.i64,.u64,.u64,.i64]:=NumTy.mk' underlying63 (by kernel_rfl) (by kernel_rfl) rfl (fun
    | 0,f,k,hf,hk=>by obtain rfl:=Option.some.inj hf;obtain rfl:=Option.some.inj hk;exact ⟨by decide,rfl,underlying3⟩
    | 1,f,k,hf,hk=>by obtain rfl:=Option.some.inj hf;obtain rfl:=Option.some.inj hk;exact ⟨by decide,rfl,underlying3⟩
    | 2,f,k,hf,hk=>by obtain rfl:=Option.some.inj hf;obtain rfl:=Option.some.inj hk;exact ⟨by decide,rfl,underlying3⟩
    | 3,f,k,hf,hk=>by obtain rfl:=Option.some.inj hf;obtain rfl:=Option.some.inj hk;exact ⟨by decide,rfl,underlying50⟩
    | 4,f,k,hf,hk=>by obtain rfl:=Option.some.inj hf;obtain rfl:=Option.some.inj hk;exact ⟨by decide,rfl,underlying50⟩
    | 5,f,k,hf,hk=>by obtain rfl:=Option.some.inj hf;obtain rfl:=Option.some.inj hk;exact ⟨by decide,rfl,underlying3⟩
    | i+6,f,k,hf,hk=>by simp at hf)
instance : TyD Tryz.prog 65 (.struct #[⟨ "At", 61, 0, false, "", "", 0⟩, ⟨ "Cap", 63, 2, false, "", "", 16⟩]) := ⟨Tryz.underlying65⟩
instance:TyS prog 65 8:=⟨by kernel_rfl⟩
instance:TyB prog 65 64:=⟨by kernel_rfl⟩
instance tyZ65:TyZ prog 65 (.agg #[.int .i64 0,.int .i64 0,.int .i64 0,.int .i64 0,.int .i64 0,.int .u64 0,.int .u64 0,.int .i64 0]):=⟨by kernel_rfl⟩
instance:TyFld prog 65 0 0 61:=⟨_,_,underlying65,rfl,rfl,rfl⟩
instance:TyFld prog 65 1 2 63:=⟨_,_,underlying65,rfl,rfl,rfl⟩
instance:TyPl prog 65 [(0,2),(2,6)]:=⟨_,underlying65,fun w=>by simp[TyS.run]⟩
instance : TyD Tryz.prog 67 (.struct #[⟨ "Object", 3, 0, false, "", "", 0⟩, ⟨ "Level", 3, 1, false, "", "", 8⟩, ⟨ "Domain", 3, 2, false, "", "", 16⟩, ⟨ "Pc", 3, 3, false, "", "", 24⟩, ⟨ "Root", 3, 4, false, "", "", 32⟩, ⟨ "Guard", 50, 5, false, "", "", 40⟩, ⟨ "Bits", 3, 6, false, "", "", 48⟩, ⟨ "Space", 3, 7, false, "", "", 56⟩]) := ⟨Tryz.underlying67⟩
instance:TyS prog 67 8:=⟨by kernel_rfl⟩
instance:TyB prog 67 64:=⟨by kernel_rfl⟩
instance tyZ67:TyZ prog 67 (.agg #[.int .i64 0,.int .i64 0,.int .i64 0,.int .i64 0,.int .i64 0,.int .u64 0,.int .i64 0,.int .i64 0]):=⟨by kernel_rfl⟩
instance:TyFld prog 67 0 0 3:=⟨_,_,underlying67,rfl,rfl,rfl⟩
instance:TyFld prog 67 1 1 3:=⟨_,_,underlying67,rfl,rfl,rfl⟩
instance:TyFld prog 67 2 2 3:=⟨_,_,underlying67,rfl,rfl,rfl⟩
instance:TyFld prog 67 3 3 3:=⟨_,_,underlying67,rfl,rfl,rfl⟩
instance:TyFld prog 67 4 4 3:=⟨_,_,underlying67,rfl,rfl,rfl⟩
instance:TyFld prog 67 5 5 50:=⟨_,_,underlying67,rfl,rfl,rfl⟩
instance:TyFld prog 67 6 6 3:=⟨_,_,underlying67,rfl,rfl,rfl⟩
instance:TyFld prog 67 7 7 3:=⟨_,_,underlying67,rfl,rfl,rfl⟩
instance:TyPl prog 67 [(0,1),(1,1),(2,1),(3,1),(4,1),(5,1),(6,1),(7,1)]:=⟨_,underlying67,fun w=>by simp[TyS.run]⟩
instance:NumTy prog 67 [.i64,.i64,.i64,.i64,.i64,.u64,.i64,.i64]:=NumTy.mk' underlying67 (by kernel_rfl) (by kernel_rfl) rfl (fun
    | 0,f,k,hf,hk=>by obtain rfl:=Option.some.inj hf;obtain rfl:=Option.some.inj hk;exact ⟨by decide,rfl,underlying3⟩
    | 1,f,k,hf,hk=>by obtain rfl:=Option.some.inj hf;obtain rfl:=Option.some.inj hk;exact ⟨by decide,rfl,underlying3⟩
    | 2,f,k,hf,hk=>by obtain rfl:=Option.some.inj hf;obtain rfl:=Option.some.inj hk;exact ⟨by decide,rfl,underlying3⟩
    | 3,f,k,hf,hk=>by obtain rfl:=Option.some.inj hf;obtain rfl:=Option.some.inj hk;exact ⟨by decide,rfl,underlying3⟩
    | 4,f,k,hf,hk=>by obtain rfl:=Option.some.inj hf;obtain rfl:=Option.some.inj hk;exact ⟨by decide,rfl,underlying3⟩
    | 5,f,k,hf,hk=>by obtain rfl:=Option.some.inj hf;obtain rfl:=Option.some.inj hk;exact ⟨by decide,rfl,underlying50⟩
    | 6,f,k,hf,hk=>by obtain rfl:=Option.some.inj hf;obtain rfl:=Option.some.inj hk;exact ⟨by decide,rfl,underlying3⟩
    | 7,f,k,hf,hk=>by obtain rfl:=Option.some.inj hf;obtain rfl:=Option.some.inj hk;exact ⟨by decide,rfl,underlying3⟩
    | i+8,f,k,hf,hk=>by simp at hf)
instance : TyD Tryz.prog 69 (.struct #[⟨ "Object", 3, 0, false, "", "", 0⟩, ⟨ "Space", 3, 1, false, "", "", 8⟩, ⟨ "At", 3, 2, false, "", "", 16⟩, ⟨ "Write", 4, 3, false, "", "", 24⟩]) := ⟨Tryz.underlying69⟩
instance:TyS prog 69 4:=⟨by kernel_rfl⟩
instance:TyB prog 69 32:=⟨by kernel_rfl⟩
instance tyZ69:TyZ prog 69 (.agg #[.int .i64 0,.int .i64 0,.int .i64 0,.bool false]):=⟨by kernel_rfl⟩
instance:TyFld prog 69 0 0 3:=⟨_,_,underlying69,rfl,rfl,rfl⟩
instance:TyFld prog 69 1 1 3:=⟨_,_,underlying69,rfl,rfl,rfl⟩
instance:TyFld prog 69 2 2 3:=⟨_,_,underlying69,rfl,rfl,rfl⟩
instance:TyFld prog 69 3 3 4:=⟨_,_,underlying69,rfl,rfl,rfl⟩
instance:TyPl prog 69 [(0,1),(1,1),(2,1),(3,1)]:=⟨_,underlying69,fun w=>by simp[TyS.run]⟩
instance : TyD Tryz.prog 78 (.struct #[⟨ "Kind", 3, 0, false, "", "", 0⟩, ⟨ "Size", 3, 1, false, "", "", 8⟩, ⟨ "Label", 3, 2, false, "", "", 16⟩]) := ⟨Tryz.underlying78⟩
instance:TyS prog 78 3:=⟨by kernel_rfl⟩
instance tyZ78:TyZ prog 78 (.agg #[.int .i64 0,.int .i64 0,.int .i64 0]):=⟨by kernel_rfl⟩
instance:TyFld prog 78 0 0 3:=⟨_,_,underlying78,rfl,rfl,rfl⟩
instance:TyFld prog 78 1 1 3:=⟨_,_,underlying78,rfl,rfl,rfl⟩
instance:TyFld prog 78 2 2 3:=⟨_,_,underlying78,rfl,rfl,rfl⟩
instance:TyPl prog 78 [(0,1),(1,1),(2,1)]:=⟨_,underlying78,fun w=>by simp[TyS.run]⟩
instance : TyD Tryz.prog 79 (.struct #[⟨ "Object", 3, 0, false, "", "", 0⟩, ⟨ "Space", 3, 1, false, "", "", 8⟩, ⟨ "At", 3, 2, false, "", "", 16⟩, ⟨ "Write", 4, 3, false, "", "", 24⟩]) := ⟨Tryz.underlying79⟩
instance:TyS prog 79 4:=⟨by kernel_rfl⟩
instance tyZ79:TyZ prog 79 (.agg #[.int .i64 0,.int .i64 0,.int .i64 0,.bool false]):=⟨by kernel_rfl⟩
instance:TyFld prog 79 0 0 3:=⟨_,_,underlying79,rfl,rfl,rfl⟩
instance:TyFld prog 79 1 1 3:=⟨_,_,underlying79,rfl,rfl,rfl⟩
instance:TyFld prog 79 2 2 3:=⟨_,_,underlying79,rfl,rfl,rfl⟩
instance:TyFld prog 79 3 3 4:=⟨_,_,underlying79,rfl,rfl,rfl⟩
instance:TyPl prog 79 [(0,1),(1,1),(2,1),(3,1)]:=⟨_,underlying79,fun w=>by simp[TyS.run]⟩
instance:TyD prog 81 (.array 8 50):=⟨underlying81⟩
instance:TyS prog 81 8:=⟨by kernel_rfl⟩
instance tyZ81:TyZ prog 81 (.agg #[.int .u64 0,.int .u64 0,.int .u64 0,.int .u64 0,.int .u64 0,.int .u64 0,.int .u64 0,.int .u64 0]):=⟨by kernel_rfl⟩
instance : TyD Tryz.prog 83 (.struct #[⟨ "State", 3, 0, false, "", "", 0⟩, ⟨ "On", 3, 1, false, "", "", 8⟩, ⟨ "Badge", 50, 2, false, "", "", 16⟩, ⟨ "Calls", 4, 3, false, "", "", 24⟩, ⟨ "Caller", 3, 4, false, "", "", 32⟩, ⟨ "Level", 3, 5, false, "", "", 40⟩, ⟨ "Domain", 3, 6, false, "", "", 48⟩, ⟨ "Pc", 3, 7, false, "", "", 56⟩, ⟨ "Regs", 81, 8, false, "", "", 64⟩]) := ⟨Tryz.underlying83⟩
instance:TyS prog 83 16:=⟨by kernel_rfl⟩
instance tyZ83:TyZ prog 83 (.agg #[.int .i64 0,.int .i64 0,.int .u64 0,.bool false,.int .i64 0,.int .i64 0,.int .i64 0,.int .i64 0,.int .u64 0,.int .u64 0,.int .u64 0,.int .u64 0,.int .u64 0,.int .u64 0,.int .u64 0,.int .u64 0]):=⟨by kernel_rfl⟩
instance:TyFld prog 83 0 0 3:=⟨_,_,underlying83,rfl,rfl,rfl⟩
instance:TyFld prog 83 1 1 3:=⟨_,_,underlying83,rfl,rfl,rfl⟩
instance:TyFld prog 83 2 2 50:=⟨_,_,underlying83,rfl,rfl,rfl⟩
instance:TyFld prog 83 3 3 4:=⟨_,_,underlying83,rfl,rfl,rfl⟩
instance:TyFld prog 83 4 4 3:=⟨_,_,underlying83,rfl,rfl,rfl⟩
instance:TyFld prog 83 5 5 3:=⟨_,_,underlying83,rfl,rfl,rfl⟩
instance:TyFld prog 83 6 6 3:=⟨_,_,underlying83,rfl,rfl,rfl⟩
instance:TyFld prog 83 7 7 3:=⟨_,_,underlying83,rfl,rfl,rfl⟩
instance:TyFld prog 83 8 8 81:=⟨_,_,underlying83,rfl,rfl,rfl⟩
instance:TyPl prog 83 [(0,1),(1,1),(2,1),(3,1),(4,1),(5,1),(6,1),(7,1),(8,8)]:=⟨_,underlying83,fun w=>by simp[TyS.run]⟩
instance : TyD Tryz.prog 86 (.struct #[⟨ "Object", 3, 0, false, "", "", 0⟩, ⟨ "Level", 3, 1, false, "", "", 8⟩, ⟨ "Domain", 3, 2, false, "", "", 16⟩, ⟨ "Pc", 3, 3, false, "", "", 24⟩, ⟨ "Root", 3, 4, false, "", "", 32⟩, ⟨ "Guard", 50, 5, false, "", "", 40⟩, ⟨ "Bits", 3, 6, false, "", "", 48⟩, ⟨ "Space", 3, 7, false, "", "", 56⟩]) := ⟨Tryz.underlying86⟩
instance:TyS prog 86 8:=⟨by kernel_rfl⟩
instance tyZ86:TyZ prog 86 (.agg #[.int .i64 0,.int .i64 0,.int .i64 0,.int .i64 0,.int .i64 0,.int .u64 0,.int .i64 0,.int .i64 0]):=⟨by kernel_rfl⟩
instance:TyFld prog 86 0 0 3:=⟨_,_,underlying86,rfl,rfl,rfl⟩
instance:TyFld prog 86 1 1 3:=⟨_,_,underlying86,rfl,rfl,rfl⟩
instance:TyFld prog 86 2 2 3:=⟨_,_,underlying86,rfl,rfl,rfl⟩
instance:TyFld prog 86 3 3 3:=⟨_,_,underlying86,rfl,rfl,rfl⟩
instance:TyFld prog 86 4 4 3:=⟨_,_,underlying86,rfl,rfl,rfl⟩
instance:TyFld prog 86 5 5 50:=⟨_,_,underlying86,rfl,rfl,rfl⟩
instance:TyFld prog 86 6 6 3:=⟨_,_,underlying86,rfl,rfl,rfl⟩
instance:TyFld prog 86 7 7 3:=⟨_,_,underlying86,rfl,rfl,rfl⟩
instance:TyPl prog 86 [(0,1),(1,1),(2,1),(3,1),(4,1),(5,1),(6,1),(7,1)]:=⟨_,underlying86,fun w=>by simp[TyS.run]⟩
instance:TyS prog 91 8:=⟨by kernel_rfl⟩
instance tyZ91:TyZ prog 91 (.agg #[.int .i64 0,.int .i64 0,.int .i64 0,.int .i64 0,.int .i64 0,.int .u64 0,.int .u64 0,.int .i64 0]):=⟨by kernel_rfl⟩
instance:TyFld prog 91 0 0 61:=⟨_,_,underlying91,rfl,rfl,rfl⟩
instance:TyFld prog 91 1 2 63:=⟨_,_,underlying91,rfl,rfl,rfl⟩
instance:TyPl prog 91 [(0,2),(2,6)]:=⟨_,underlying91,fun w=>by simp[TyS.run]⟩
instance:TyD prog 92 (.slice 50):=⟨underlying92⟩
instance:TyS prog 92 1:=⟨by kernel_rfl⟩
instance:TyD prog 98 (.array 8 3):=⟨underlying98⟩
instance:TyS prog 98 8:=⟨by kernel_rfl⟩
instance:TyD prog 99 (.array 8 98):=⟨underlying99⟩
instance:TyS prog 99 64:=⟨by kernel_rfl⟩
instance:TyD prog 101 (.pointer 107):=⟨underlying101⟩
instance:TyD prog 102 (.pointer 105):=⟨underlying102⟩
instance:TyS prog 102 1:=⟨by kernel_rfl⟩
instance:TyD prog 103 (.slice 5):=⟨underlying103⟩
instance:TyS prog 103 1:=⟨by kernel_rfl⟩
instance:TyS prog 105 2:=⟨by kernel_rfl⟩
instance:TyFld prog 105 0 0 102:=⟨_,_,underlying105,rfl,rfl,rfl⟩
instance:TyFld prog 105 1 1 103:=⟨_,_,underlying105,rfl,rfl,rfl⟩
instance tyZ107:TyZ prog 107 (.agg #[.bool false,.pointer none,.slice none 0 0,.string ByteArray.empty]):=⟨by kernel_rfl⟩
instance:TyFld prog 107 0 0 4:=⟨_,_,underlying107,rfl,rfl,rfl⟩
instance:TyFld prog 107 1 1 105:=⟨_,_,underlying107,rfl,rfl,rfl⟩
instance:TyFld prog 107 2 3 9:=⟨_,_,underlying107,rfl,rfl,rfl⟩
instance:TyPl prog 107 [(0,1),(1,2),(3,1)]:=⟨_,underlying107,fun w=>by simp[TyS.run]⟩
instance : TyD Tryz.prog 116 (.struct #[⟨ "Kind", 3, 0, false, "", "", 0⟩, ⟨ "Size", 3, 1, false, "", "", 8⟩, ⟨ "Label", 3, 2, false, "", "", 16⟩]) := ⟨Tryz.underlying116⟩
instance:TyS prog 116 3:=⟨by kernel_rfl⟩
instance:TyB prog 116 24:=⟨by kernel_rfl⟩
instance tyZ116:TyZ prog 116 (.agg #[.int .i64 0,.int .i64 0,.int .i64 0]):=⟨by kernel_rfl⟩
instance:TyFld prog 116 0 0 3:=⟨_,_,underlying116,rfl,rfl,rfl⟩
instance:TyFld prog 116 1 1 3:=⟨_,_,underlying116,rfl,rfl,rfl⟩
instance:TyFld prog 116 2 2 3:=⟨_,_,underlying116,rfl,rfl,rfl⟩
instance:TyPl prog 116 [(0,1),(1,1),(2,1)]:=⟨_,underlying116,fun w=>by simp[TyS.run]⟩
instance:NumTy prog 116 [.i64,.i64,.i64]:=NumTy.mk' underlying116 (by kernel_rfl) (by kernel_rfl) rfl (fun
    | 0,f,k,hf,hk=>by obtain rfl:=Option.some.inj hf;obtain rfl:=Option.some.inj hk;exact ⟨by decide,rfl,underlying3⟩
    | 1,f,k,hf,hk=>by obtain rfl:=Option.some.inj hf;obtain rfl:=Option.some.inj hk;exact ⟨by decide,rfl,underlying3⟩
    | 2,f,k,hf,hk=>by obtain rfl:=Option.some.inj hf;obtain rfl:=Option.some.inj hk;exact ⟨by decide,rfl,underlying3⟩
    | i+3,f,k,hf,hk=>by simp at hf)
instance : TyD Tryz.prog 118 (.struct #[⟨ "Object", 3, 0, false, "", "", 0⟩, ⟨ "At", 3, 1, false, "", "", 8⟩, ⟨ "Word", 50, 2, false, "", "", 16⟩]) := ⟨Tryz.underlying118⟩
instance:TyS prog 118 3:=⟨by kernel_rfl⟩
instance tyZ118:TyZ prog 118 (.agg #[.int .i64 0,.int .i64 0,.int .u64 0]):=⟨by kernel_rfl⟩
instance:TyFld prog 118 0 0 3:=⟨_,_,underlying118,rfl,rfl,rfl⟩
instance:TyFld prog 118 1 1 3:=⟨_,_,underlying118,rfl,rfl,rfl⟩
instance:TyFld prog 118 2 2 50:=⟨_,_,underlying118,rfl,rfl,rfl⟩
instance:TyPl prog 118 [(0,1),(1,1),(2,1)]:=⟨_,underlying118,fun w=>by simp[TyS.run]⟩
instance : TyD Tryz.prog 119 (.struct #[⟨ "Object", 3, 0, false, "", "", 0⟩, ⟨ "At", 3, 1, false, "", "", 8⟩, ⟨ "Word", 50, 2, false, "", "", 16⟩]) := ⟨Tryz.underlying119⟩
instance:TyS prog 119 3:=⟨by kernel_rfl⟩
instance:TyB prog 119 24:=⟨by kernel_rfl⟩
instance tyZ119:TyZ prog 119 (.agg #[.int .i64 0,.int .i64 0,.int .u64 0]):=⟨by kernel_rfl⟩
instance:TyFld prog 119 0 0 3:=⟨_,_,underlying119,rfl,rfl,rfl⟩
instance:TyFld prog 119 1 1 3:=⟨_,_,underlying119,rfl,rfl,rfl⟩
instance:TyFld prog 119 2 2 50:=⟨_,_,underlying119,rfl,rfl,rfl⟩
instance:TyPl prog 119 [(0,1),(1,1),(2,1)]:=⟨_,underlying119,fun w=>by simp[TyS.run]⟩
instance:NumTy prog 119 [.i64,.i64,.u64]:=NumTy.mk' underlying119 (by kernel_rfl) (by kernel_rfl) rfl (fun
    | 0,f,k,hf,hk=>by obtain rfl:=Option.some.inj hf;obtain rfl:=Option.some.inj hk;exact ⟨by decide,rfl,underlying3⟩
    | 1,f,k,hf,hk=>by obtain rfl:=Option.some.inj hf;obtain rfl:=Option.some.inj hk;exact ⟨by decide,rfl,underlying3⟩
    | 2,f,k,hf,hk=>by obtain rfl:=Option.some.inj hf;obtain rfl:=Option.some.inj hk;exact ⟨by decide,rfl,underlying50⟩
    | i+3,f,k,hf,hk=>by simp at hf)
instance : TyD Tryz.prog 121 (.struct #[⟨ "Line", 3, 0, false, "", "", 0⟩, ⟨ "Domain", 3, 1, false, "", "", 8⟩, ⟨ "Notice", 3, 2, false, "", "", 16⟩, ⟨ "Badge", 50, 3, false, "", "", 24⟩]) := ⟨Tryz.underlying121⟩
instance:TyS prog 121 4:=⟨by kernel_rfl⟩
instance tyZ121:TyZ prog 121 (.agg #[.int .i64 0,.int .i64 0,.int .i64 0,.int .u64 0]):=⟨by kernel_rfl⟩
instance:TyFld prog 121 0 0 3:=⟨_,_,underlying121,rfl,rfl,rfl⟩
instance:TyFld prog 121 1 1 3:=⟨_,_,underlying121,rfl,rfl,rfl⟩
instance:TyFld prog 121 2 2 3:=⟨_,_,underlying121,rfl,rfl,rfl⟩
instance:TyFld prog 121 3 3 50:=⟨_,_,underlying121,rfl,rfl,rfl⟩
instance : TyD Tryz.prog 122 (.struct #[⟨ "Line", 3, 0, false, "", "", 0⟩, ⟨ "Domain", 3, 1, false, "", "", 8⟩, ⟨ "Notice", 3, 2, false, "", "", 16⟩, ⟨ "Badge", 50, 3, false, "", "", 24⟩]) := ⟨Tryz.underlying122⟩
instance:TyS prog 122 4:=⟨by kernel_rfl⟩
instance:TyB prog 122 32:=⟨by kernel_rfl⟩
instance tyZ122:TyZ prog 122 (.agg #[.int .i64 0,.int .i64 0,.int .i64 0,.int .u64 0]):=⟨by kernel_rfl⟩
instance:TyFld prog 122 0 0 3:=⟨_,_,underlying122,rfl,rfl,rfl⟩
instance:TyFld prog 122 1 1 3:=⟨_,_,underlying122,rfl,rfl,rfl⟩
instance:TyFld prog 122 2 2 3:=⟨_,_,underlying122,rfl,rfl,rfl⟩
instance:TyFld prog 122 3 3 50:=⟨_,_,underlying122,rfl,rfl,rfl⟩
instance:TyPl prog 122 [(0,1),(1,1),(2,1),(3,1)]:=⟨_,underlying122,fun w=>by simp[TyS.run]⟩
instance:NumTy prog 122 [.i64,.i64,.i64,.u64]:=NumTy.mk' underlying122 (by kernel_rfl) (by kernel_rfl) rfl (fun
    | 0,f,k,hf,hk=>by obtain rfl:=Option.some.inj hf;obtain rfl:=Option.some.inj hk;exact ⟨by decide,rfl,underlying3⟩
    | 1,f,k,hf,hk=>by obtain rfl:=Option.some.inj hf;obtain rfl:=Option.some.inj hk;exact ⟨by decide,rfl,underlying3⟩
    | 2,f,k,hf,hk=>by obtain rfl:=Option.some.inj hf;obtain rfl:=Option.some.inj hk;exact ⟨by decide,rfl,underlying3⟩
    | 3,f,k,hf,hk=>by obtain rfl:=Option.some.inj hf;obtain rfl:=Option.some.inj hk;exact ⟨by decide,rfl,underlying50⟩
    | i+4,f,k,hf,hk=>by simp at hf)
instance:TyS prog 124 2:=⟨by kernel_rfl⟩
instance tyZ124:TyZ prog 124 (.agg #[.int .i64 0,.int .i64 0]):=⟨by kernel_rfl⟩
instance:TyFld prog 124 0 0 3:=⟨_,_,underlying124,rfl,rfl,rfl⟩
instance:TyFld prog 124 1 1 3:=⟨_,_,underlying124,rfl,rfl,rfl⟩
instance:TyPl prog 124 [(0,1),(1,1)]:=⟨_,underlying124,fun w=>by simp[TyS.run]⟩
instance : TyD Tryz.prog 125 (.struct #[⟨ "Domain", 3, 0, false, "", "", 0⟩, ⟨ "Ticks", 3, 1, false, "", "", 8⟩]) := ⟨Tryz.underlying125⟩
instance:TyS prog 125 2:=⟨by kernel_rfl⟩
instance:TyB prog 125 16:=⟨by kernel_rfl⟩
instance tyZ125:TyZ prog 125 (.agg #[.int .i64 0,.int .i64 0]):=⟨by kernel_rfl⟩
instance:TyFld prog 125 0 0 3:=⟨_,_,underlying125,rfl,rfl,rfl⟩
instance:TyFld prog 125 1 1 3:=⟨_,_,underlying125,rfl,rfl,rfl⟩
instance:TyPl prog 125 [(0,1),(1,1)]:=⟨_,underlying125,fun w=>by simp[TyS.run]⟩
instance:NumTy prog 125 [.i64,.i64]:=NumTy.mk' underlying125 (by kernel_rfl) (by kernel_rfl) rfl (fun
    | 0,f,k,hf,hk=>by obtain rfl:=Option.some.inj hf;obtain rfl:=Option.some.inj hk;exact ⟨by decide,rfl,underlying3⟩
    | 1,f,k,hf,hk=>by obtain rfl:=Option.some.inj hf;obtain rfl:=Option.some.inj hk;exact ⟨by decide,rfl,underlying3⟩
    | i+2,f,k,hf,hk=>by simp at hf)
instance:TyD prog 128 (.slice 3):=⟨underlying128⟩
instance:TyS prog 128 1:=⟨by kernel_rfl⟩
instance tyZ128:TyZ prog 128 (.slice none 0 0):=⟨by kernel_rfl⟩
instance:TyD prog 133 (.slice 134):=⟨underlying133⟩
instance:TyS prog 133 1:=⟨by kernel_rfl⟩
instance : TyD Tryz.prog 134 (.struct #[⟨ "Domain", 3, 0, false, "", "", 0⟩, ⟨ "Ticks", 3, 1, false, "", "", 8⟩]) := ⟨Tryz.underlying134⟩
instance:TyS prog 134 2:=⟨by kernel_rfl⟩
instance:TyB prog 134 16:=⟨by kernel_rfl⟩
instance tyZ134:TyZ prog 134 (.agg #[.int .i64 0,.int .i64 0]):=⟨by kernel_rfl⟩
instance:TyFld prog 134 0 0 3:=⟨_,_,underlying134,rfl,rfl,rfl⟩
instance:TyFld prog 134 1 1 3:=⟨_,_,underlying134,rfl,rfl,rfl⟩
instance:TyPl prog 134 [(0,1),(1,1)]:=⟨_,underlying134,fun w=>by simp[TyS.run]⟩
instance:TyD prog 136 (.pointer 138):=⟨underlying136⟩
instance tyZ138:TyZ prog 138 (.agg #[.pointer none,.slice none 0 0,.slice none 0 0,.slice none 0 0,.slice none 0 0,.slice none 0 0,.slice none 0 0,.slice none 0 0,.slice none 0 0,.int .i64 0]):=⟨by kernel_rfl⟩
instance:TyFld prog 138 0 0 56:=⟨_,_,underlying138,rfl,rfl,rfl⟩
instance:TyFld prog 138 1 1 44:=⟨_,_,underlying138,rfl,rfl,rfl⟩
instance:TyFld prog 138 2 8 51:=⟨_,_,underlying138,rfl,rfl,rfl⟩
instance:TyFld prog 138 3 9 33:=⟨_,_,underlying138,rfl,rfl,rfl⟩
instance:TyPl prog 138 [(0,1),(1,7),(8,1),(9,1)]:=⟨_,underlying138,fun w=>by simp[TyS.run]⟩
instance:TyD prog 149 (.pointer 165):=⟨underlying149⟩
instance tyZ149:TyZ prog 149 (.pointer none):=⟨by kernel_rfl⟩
instance:TyD prog 150 (.pointer 312):=⟨underlying150⟩
instance:TyS prog 150 1:=⟨by kernel_rfl⟩
instance:TyD prog 151 (.pointer 182):=⟨underlying151⟩
instance:TyS prog 151 1:=⟨by kernel_rfl⟩
instance:TyD prog 152 (.map 3 149):=⟨underlying152⟩
instance:TyS prog 152 1:=⟨by kernel_rfl⟩
instance:TyD prog 153 (.pointer 322):=⟨underlying153⟩
instance:TyS prog 153 1:=⟨by kernel_rfl⟩
instance:TyS prog 155 3:=⟨by kernel_rfl⟩
instance tyZ155:TyZ prog 155 (.agg #[.bool false,.int .i64 0,.int .u64 0]):=⟨by kernel_rfl⟩
instance:TyPl prog 155 [(0,1),(1,1),(2,1)]:=⟨_,underlying155,fun w=>by simp[TyS.run]⟩
instance:TyD prog 156 (.array 8 155):=⟨underlying156⟩
instance:TyS prog 156 24:=⟨by kernel_rfl⟩
instance:TyD prog 157 (.pointer 240):=⟨underlying157⟩
instance:TyS prog 157 1:=⟨by kernel_rfl⟩
instance:TyD prog 158 (.pointer 325):=⟨underlying158⟩
instance:TyS prog 158 1:=⟨by kernel_rfl⟩
instance:TyFld prog 160 0 0 150:=⟨_,_,underlying160,rfl,rfl,rfl⟩
instance:TyFld prog 160 1 1 151:=⟨_,_,underlying160,rfl,rfl,rfl⟩
instance:TyFld prog 160 2 2 152:=⟨_,_,underlying160,rfl,rfl,rfl⟩
instance:TyFld prog 160 3 3 153:=⟨_,_,underlying160,rfl,rfl,rfl⟩
instance:TyFld prog 160 4 4 156:=⟨_,_,underlying160,rfl,rfl,rfl⟩
instance:TyFld prog 160 5 28 157:=⟨_,_,underlying160,rfl,rfl,rfl⟩
instance:TyFld prog 160 6 29 158:=⟨_,_,underlying160,rfl,rfl,rfl⟩
instance:TyPl prog 160 [(0,1),(1,1),(2,1),(3,1),(4,24),(28,1),(29,1)]:=⟨_,underlying160,fun w=>by simp[TyS.run]⟩
instance : TyD Tryz.prog 163 (.interface #[("donjon/kernel.kind", 161)]) := ⟨Tryz.underlying163⟩
instance:TyS prog 163 1:=⟨by kernel_rfl⟩
instance tyZ165:TyZ prog 165 (.agg #[.nilIface,.int .i64 0,.int .i64 0]):=⟨by kernel_rfl⟩
instance:TyFld prog 165 0 0 163:=⟨_,_,underlying165,rfl,rfl,rfl⟩
instance:TyFld prog 165 1 1 55:=⟨_,_,underlying165,rfl,rfl,rfl⟩
instance:TyPl prog 165 [(0,1),(1,2)]:=⟨_,underlying165,fun w=>by simp[TyS.run]⟩
instance:TyD prog 166 (.pointer 168):=⟨underlying166⟩
instance tyZ168:TyZ prog 168 (.agg #[.int .i64 0]):=⟨by kernel_rfl⟩
instance:TyPl prog 168 [(0,1)]:=⟨_,underlying168,fun w=>by simp[TyS.run]⟩
instance:TyD prog 169 (.pointer 171):=⟨underlying169⟩
instance tyZ169:TyZ prog 169 (.pointer none):=⟨by kernel_rfl⟩
instance tyZ171:TyZ prog 171 (.agg #[.int .i64 0,.bool false,.int .i64 0,.int .i64 0]):=⟨by kernel_rfl⟩
instance:TyFld prog 171 0 0 3:=⟨_,_,underlying171,rfl,rfl,rfl⟩
instance:TyFld prog 171 1 1 4:=⟨_,_,underlying171,rfl,rfl,rfl⟩
instance:TyFld prog 171 2 2 3:=⟨_,_,underlying171,rfl,rfl,rfl⟩
instance:TyFld prog 171 3 3 3:=⟨_,_,underlying171,rfl,rfl,rfl⟩
instance:TyPl prog 171 [(0,1),(1,1),(2,1),(3,1)]:=⟨_,underlying171,fun w=>by simp[TyS.run]⟩
instance:TyD prog 172 (.pointer 176):=⟨underlying172⟩
instance:TyS prog 172 1:=⟨by kernel_rfl⟩
instance tyZ172:TyZ prog 172 (.pointer none):=⟨by kernel_rfl⟩
instance tyZ176:TyZ prog 176 (.agg #[.int .i64 0,.int .i64 0,.int .u64 0,.bool false,.int .i64 0,.int .i64 0,.int .i64 0,.int .i64 0,.int .u64 0,.int .u64 0,.int .u64 0,.int .u64 0,.int .u64 0,.int .u64 0,.int .u64 0,.int .u64 0,.int .i64 0,.int .i64 0,.int .i64 0,.int .u64 0,.int .u64 0,.int .i64 0,.int .i64 0,.int .i64 0]):=⟨by kernel_rfl⟩
instance:TyFld prog 176 0 0 83:=⟨_,_,underlying176,rfl,rfl,rfl⟩
instance:TyFld prog 176 1 16 63:=⟨_,_,underlying176,rfl,rfl,rfl⟩
instance:TyFld prog 176 2 22 3:=⟨_,_,underlying176,rfl,rfl,rfl⟩
instance:TyPl prog 176 [(0,16),(16,6),(22,1),(23,1)]:=⟨_,underlying176,fun w=>by simp[TyS.run]⟩
instance:TyD prog 177 (.pointer 229):=⟨underlying177⟩
instance:TyS prog 177 1:=⟨by kernel_rfl⟩
instance : TyD Tryz.prog 179 (.struct #[⟨ "Store", 177, 0, true, "", "", 0⟩]) := ⟨Tryz.underlying179⟩
instance:TyS prog 179 1:=⟨by kernel_rfl⟩
instance tyZ179:TyZ prog 179 (.agg #[.pointer none]):=⟨by kernel_rfl⟩
instance:TyFld prog 179 0 0 177:=⟨_,_,underlying179,rfl,rfl,rfl⟩
instance:TyPl prog 179 [(0,1)]:=⟨_,underlying179,fun w=>by simp[TyS.run]⟩
instance:TyD prog 180 (.pointer 377):=⟨underlying180⟩
instance:TyS prog 180 1:=⟨by kernel_rfl⟩
instance tyZ182:TyZ prog 182 (.agg #[.pointer none,.pointer none]):=⟨by kernel_rfl⟩
instance:TyFld prog 182 0 0 179:=⟨_,_,underlying182,rfl,rfl,rfl⟩
instance:TyFld prog 182 1 1 180:=⟨_,_,underlying182,rfl,rfl,rfl⟩
instance:TyPl prog 182 [(0,1),(1,1)]:=⟨_,underlying182,fun w=>by simp[TyS.run]⟩
instance:TyD prog 189 (.map 3 3):=⟨underlying189⟩
instance:TyB prog 199 0:=⟨by kernel_rfl⟩
instance:TyD prog 200 (.struct #[]):=⟨underlying200⟩
instance:TyS prog 200 0:=⟨by kernel_rfl⟩
instance tyZ200:TyZ prog 200 (.agg #[]):=⟨by kernel_rfl⟩
instance:TyPl prog 200 []:=⟨_,underlying200,fun w=>by simp[TyS.run]⟩
instance:TyD prog 202 (.pointer 5):=⟨underlying202⟩
instance:TyD prog 222 (.int .u64):=⟨underlying222⟩
instance:TyD prog 226 (.pointer 232):=⟨underlying226⟩
instance tyZ226:TyZ prog 226 (.pointer none):=⟨by kernel_rfl⟩
instance:TyD prog 227 (.map 3 226):=⟨underlying227⟩
instance:TyS prog 227 1:=⟨by kernel_rfl⟩
instance tyZ229:TyZ prog 229 (.agg #[.map none]):=⟨by kernel_rfl⟩
instance:TyFld prog 229 0 0 227:=⟨_,_,underlying229,rfl,rfl,rfl⟩
instance:TyPl prog 229 [(0,1)]:=⟨_,underlying229,fun w=>by simp[TyS.run]⟩
instance:TyD prog 230 (.array 16 63):=⟨underlying230⟩
instance:TyS prog 230 96:=⟨by kernel_rfl⟩
instance:TyFld prog 232 0 0 3:=⟨_,_,underlying232,rfl,rfl,rfl⟩
instance:TyFld prog 232 1 1 230:=⟨_,_,underlying232,rfl,rfl,rfl⟩
instance:TyPl prog 232 [(0,1),(1,96)]:=⟨_,underlying232,fun w=>by simp[TyS.run]⟩
instance:TyD prog 233 (.pointer 63):=⟨underlying233⟩
instance:TyD prog 237 (.pointer 350):=⟨underlying237⟩
instance:TyS prog 237 1:=⟨by kernel_rfl⟩
instance:TyD prog 238 (.array 4 237):=⟨underlying238⟩
instance:TyS prog 238 4:=⟨by kernel_rfl⟩
instance tyZ240:TyZ prog 240 (.agg #[.slice none 0 0,.int .i64 0,.int .i64 0,.pointer none,.pointer none,.pointer none,.pointer none]):=⟨by kernel_rfl⟩
instance:TyFld prog 240 0 0 133:=⟨_,_,underlying240,rfl,rfl,rfl⟩
instance:TyFld prog 240 1 1 3:=⟨_,_,underlying240,rfl,rfl,rfl⟩
instance:TyFld prog 240 3 3 238:=⟨_,_,underlying240,rfl,rfl,rfl⟩
instance:TyPl prog 240 [(0,1),(1,1),(2,1),(3,4)]:=⟨_,underlying240,fun w=>by simp[TyS.run]⟩
instance : TyD Tryz.prog 244 (.struct #[⟨ "Op", 3, 0, false, "", "", 0⟩, ⟨ "A", 3, 1, false, "", "", 8⟩, ⟨ "B", 3, 2, false, "", "", 16⟩, ⟨ "Imm", 3, 3, false, "", "", 24⟩]) := ⟨Tryz.underlying244⟩
instance:TyS prog 244 4:=⟨by kernel_rfl⟩
instance tyZ244:TyZ prog 244 (.agg #[.int .i64 0,.int .i64 0,.int .i64 0,.int .i64 0]):=⟨by kernel_rfl⟩
instance:TyFld prog 244 0 0 3:=⟨_,_,underlying244,rfl,rfl,rfl⟩
instance:TyFld prog 244 1 1 3:=⟨_,_,underlying244,rfl,rfl,rfl⟩
instance:TyFld prog 244 2 2 3:=⟨_,_,underlying244,rfl,rfl,rfl⟩
instance:TyFld prog 244 3 3 3:=⟨_,_,underlying244,rfl,rfl,rfl⟩
instance:TyPl prog 244 [(0,1),(1,1),(2,1),(3,1)]:=⟨_,underlying244,fun w=>by simp[TyS.run]⟩
instance : TyD Tryz.prog 248 (.struct #[⟨ "Regs", 81, 0, false, "", "", 0⟩, ⟨ "Pc", 3, 8, false, "", "", 64⟩, ⟨ "Asks", 3, 9, false, "", "", 72⟩, ⟨ "At", 50, 10, false, "", "", 80⟩, ⟨ "Reg", 3, 11, false, "", "", 88⟩, ⟨ "Value", 50, 12, false, "", "", 96⟩]) := ⟨Tryz.underlying248⟩
instance:TyS prog 248 13:=⟨by kernel_rfl⟩
instance tyZ248:TyZ prog 248 (.agg #[.int .u64 0,.int .u64 0,.int .u64 0,.int .u64 0,.int .u64 0,.int .u64 0,.int .u64 0,.int .u64 0,.int .i64 0,.int .i64 0,.int .u64 0,.int .i64 0,.int .u64 0]):=⟨by kernel_rfl⟩
instance:TyFld prog 248 0 0 81:=⟨_,_,underlying248,rfl,rfl,rfl⟩
instance:TyFld prog 248 1 8 3:=⟨_,_,underlying248,rfl,rfl,rfl⟩
instance:TyFld prog 248 2 9 3:=⟨_,_,underlying248,rfl,rfl,rfl⟩
instance:TyFld prog 248 3 10 50:=⟨_,_,underlying248,rfl,rfl,rfl⟩
instance:TyFld prog 248 4 11 3:=⟨_,_,underlying248,rfl,rfl,rfl⟩
instance:TyFld prog 248 5 12 50:=⟨_,_,underlying248,rfl,rfl,rfl⟩
instance:TyPl prog 248 [(0,8),(8,1),(9,1),(10,1),(11,1),(12,1)]:=⟨_,underlying248,fun w=>by simp[TyS.run]⟩
instance : TyD Tryz.prog 253 (.struct #[⟨ "k", 56, 0, false, "", "donjon/kernel", 0⟩, ⟨ "n", 3, 1, false, "", "donjon/kernel", 8⟩, ⟨ "t", 172, 2, false, "", "donjon/kernel", 16⟩]) := ⟨Tryz.underlying253⟩
instance:TyS prog 253 3:=⟨by kernel_rfl⟩
instance tyZ253:TyZ prog 253 (.agg #[.pointer none,.int .i64 0,.pointer none]):=⟨by kernel_rfl⟩
instance:TyFld prog 253 0 0 56:=⟨_,_,underlying253,rfl,rfl,rfl⟩
instance:TyFld prog 253 1 1 3:=⟨_,_,underlying253,rfl,rfl,rfl⟩
instance:TyFld prog 253 2 2 172:=⟨_,_,underlying253,rfl,rfl,rfl⟩
instance:TyPl prog 253 [(0,1),(1,1),(2,1)]:=⟨_,underlying253,fun w=>by simp[TyS.run]⟩
instance:TyD prog 255 (.pointer 260):=⟨underlying255⟩
instance:TyS prog 258 1:=⟨by kernel_rfl⟩
instance tyZ260:TyZ prog 260 (.agg #[.pointer none]):=⟨by kernel_rfl⟩
instance:TyPl prog 260 [(0,1)]:=⟨_,underlying260,fun w=>by simp[TyS.run]⟩
instance:TyD prog 261 (.pointer 266):=⟨underlying261⟩
instance:TyS prog 264 1:=⟨by kernel_rfl⟩
instance tyZ266:TyZ prog 266 (.agg #[.pointer none]):=⟨by kernel_rfl⟩
instance:TyPl prog 266 [(0,1)]:=⟨_,underlying266,fun w=>by simp[TyS.run]⟩
instance:TyD prog 271 (.map 3 4):=⟨underlying271⟩
instance:TyD prog 278 (.pointer 3):=⟨underlying278⟩
instance:TyS prog 278 1:=⟨by kernel_rfl⟩
instance tyZ278:TyZ prog 278 (.pointer none):=⟨by kernel_rfl⟩
instance tyZ312:TyZ prog 312 (.agg #[.slice none 0 0]):=⟨by kernel_rfl⟩
instance:TyFld prog 312 0 0 92:=⟨_,_,underlying312,rfl,rfl,rfl⟩
instance:TyPl prog 312 [(0,1)]:=⟨_,underlying312,fun w=>by simp[TyS.run]⟩
instance:TyS prog 319 3:=⟨by kernel_rfl⟩
instance:TyFld prog 319 1 1 3:=⟨_,_,underlying319,rfl,rfl,rfl⟩
instance:TyFld prog 319 2 2 4:=⟨_,_,underlying319,rfl,rfl,rfl⟩
instance:TyPl prog 319 [(0,1),(1,1),(2,1)]:=⟨_,underlying319,fun w=>by simp[TyS.run]⟩
instance:TyD prog 320 (.array 8 319):=⟨underlying320⟩
instance:TyS prog 320 24:=⟨by kernel_rfl⟩
instance:TyFld prog 322 0 0 320:=⟨_,_,underlying322,rfl,rfl,rfl⟩
instance:TyPl prog 322 [(0,24)]:=⟨_,underlying322,fun w=>by simp[TyS.run]⟩
instance:TyD prog 323 (.slice 439):=⟨underlying323⟩
instance:TyS prog 323 1:=⟨by kernel_rfl⟩
instance tyZ325:TyZ prog 325 (.agg #[.slice none 0 0]):=⟨by kernel_rfl⟩
instance:TyFld prog 325 0 0 323:=⟨_,_,underlying325,rfl,rfl,rfl⟩
instance:TyPl prog 325 [(0,1)]:=⟨_,underlying325,fun w=>by simp[TyS.run]⟩
instance:TyD prog 326 (.pointer 327):=⟨underlying326⟩
instance tyZ327:TyZ prog 327 (.agg #[]):=⟨by kernel_rfl⟩
instance:TyPl prog 327 []:=⟨_,underlying327,fun w=>by simp[TyS.run]⟩
instance:TyD prog 331 (.pointer 332):=⟨underlying331⟩
instance tyZ332:TyZ prog 332 (.agg #[]):=⟨by kernel_rfl⟩
instance:TyPl prog 332 []:=⟨_,underlying332,fun w=>by simp[TyS.run]⟩
instance:TyD prog 340 (.pointer 319):=⟨underlying340⟩
instance:TyS prog 347 1:=⟨by kernel_rfl⟩
instance tyZ347:TyZ prog 347 (.agg #[.slice none 0 0]):=⟨by kernel_rfl⟩
instance:TyFld prog 347 0 0 128:=⟨_,_,underlying347,rfl,rfl,rfl⟩
instance:TyPl prog 347 [(0,1)]:=⟨_,underlying347,fun w=>by simp[TyS.run]⟩
instance:TyD prog 348 (.array 8 347):=⟨underlying348⟩
instance:TyS prog 348 8:=⟨by kernel_rfl⟩
instance tyZ350:TyZ prog 350 (.agg #[.slice none 0 0,.slice none 0 0,.slice none 0 0,.slice none 0 0,.slice none 0 0,.slice none 0 0,.slice none 0 0,.slice none 0 0,.int .u64 0]):=⟨by kernel_rfl⟩
instance:TyFld prog 350 0 0 348:=⟨_,_,underlying350,rfl,rfl,rfl⟩
instance:TyFld prog 350 1 8 50:=⟨_,_,underlying350,rfl,rfl,rfl⟩
instance:TyPl prog 350 [(0,8),(8,1)]:=⟨_,underlying350,fun w=>by simp[TyS.run]⟩
instance:TyD prog 352 (.array 4 278):=⟨underlying352⟩
instance tyZ352:TyZ prog 352 (.agg #[.pointer none,.pointer none,.pointer none,.pointer none]):=⟨by kernel_rfl⟩
instance : TyD Tryz.prog 354 (.struct #[⟨ "at", 3, 0, false, "", "donjon/code", 0⟩, ⟨ "n", 3, 1, false, "", "donjon/code", 8⟩]) := ⟨Tryz.underlying354⟩
instance:TyS prog 354 2:=⟨by kernel_rfl⟩
instance tyZ354:TyZ prog 354 (.agg #[.int .i64 0,.int .i64 0]):=⟨by kernel_rfl⟩
instance:TyFld prog 354 0 0 3:=⟨_,_,underlying354,rfl,rfl,rfl⟩
instance:TyFld prog 354 1 1 3:=⟨_,_,underlying354,rfl,rfl,rfl⟩
instance:TyPl prog 354 [(0,1),(1,1)]:=⟨_,underlying354,fun w=>by simp[TyS.run]⟩
instance:TyD prog 355 (.array 4 354):=⟨underlying355⟩
instance:TyS prog 355 8:=⟨by kernel_rfl⟩
instance tyZ355:TyZ prog 355 (.agg #[.int .i64 0,.int .i64 0,.int .i64 0,.int .i64 0,.int .i64 0,.int .i64 0,.int .i64 0,.int .i64 0]):=⟨by kernel_rfl⟩
instance:TyS prog 367 1:=⟨by kernel_rfl⟩
instance tyZ369:TyZ prog 369 (.agg #[.int .i64 0,.pointer none]):=⟨by kernel_rfl⟩
instance:TyPl prog 369 [(0,1),(1,1)]:=⟨_,underlying369,fun w=>by simp[TyS.run]⟩
instance tyZ371:TyZ prog 371 (.agg #[.int .u64 0,.pointer none,.pointer none]):=⟨by kernel_rfl⟩
instance:TyPl prog 371 [(0,1),(1,1),(2,1)]:=⟨_,underlying371,fun w=>by simp[TyS.run]⟩
instance:TyD prog 373 (.slice 278):=⟨underlying373⟩
instance:TyD prog 375 (.map 61 427):=⟨underlying375⟩
instance:TyS prog 375 1:=⟨by kernel_rfl⟩
instance tyZ377:TyZ prog 377 (.agg #[.map none]):=⟨by kernel_rfl⟩
instance:TyFld prog 377 0 0 375:=⟨_,_,underlying377,rfl,rfl,rfl⟩
instance:TyPl prog 377 [(0,1)]:=⟨_,underlying377,fun w=>by simp[TyS.run]⟩
instance:TyD prog 389 (.array 4 3):=⟨underlying389⟩
instance tyZ389:TyZ prog 389 (.agg #[.int .i64 0,.int .i64 0,.int .i64 0,.int .i64 0]):=⟨by kernel_rfl⟩
instance : TyD Tryz.prog 392 (.struct #[⟨ "space", 3, 0, false, "", "donjon/tlb", 0⟩, ⟨ "page", 3, 1, false, "", "donjon/tlb", 8⟩]) := ⟨Tryz.underlying392⟩
instance:TyS prog 392 2:=⟨by kernel_rfl⟩
instance tyZ392:TyZ prog 392 (.agg #[.int .i64 0,.int .i64 0]):=⟨by kernel_rfl⟩
instance:TyFld prog 392 0 0 3:=⟨_,_,underlying392,rfl,rfl,rfl⟩
instance:TyFld prog 392 1 1 3:=⟨_,_,underlying392,rfl,rfl,rfl⟩
instance:TyPl prog 392 [(0,1),(1,1)]:=⟨_,underlying392,fun w=>by simp[TyS.run]⟩
instance : TyD Tryz.prog 396 (.struct #[⟨ "Valid", 4, 0, false, "", "", 0⟩, ⟨ "Write", 4, 1, false, "", "", 1⟩, ⟨ "At", 3, 2, false, "", "", 8⟩]) := ⟨Tryz.underlying396⟩
instance:TyS prog 396 3:=⟨by kernel_rfl⟩
instance tyZ396:TyZ prog 396 (.agg #[.bool false,.bool false,.int .i64 0]):=⟨by kernel_rfl⟩
instance:TyFld prog 396 0 0 4:=⟨_,_,underlying396,rfl,rfl,rfl⟩
instance:TyFld prog 396 1 1 4:=⟨_,_,underlying396,rfl,rfl,rfl⟩
instance:TyFld prog 396 2 2 3:=⟨_,_,underlying396,rfl,rfl,rfl⟩
instance:TyPl prog 396 [(0,1),(1,1),(2,1)]:=⟨_,underlying396,fun w=>by simp[TyS.run]⟩
instance:TyD prog 427 (.pointer 431):=⟨underlying427⟩
instance:TyS prog 427 1:=⟨by kernel_rfl⟩
instance tyZ427:TyZ prog 427 (.pointer none):=⟨by kernel_rfl⟩
instance:TyS prog 429 1:=⟨by kernel_rfl⟩
instance tyZ431:TyZ prog 431 (.agg #[.int .i64 0,.int .i64 0,.pointer none,.slice none 0 0]):=⟨by kernel_rfl⟩
instance:TyPl prog 431 [(0,2),(2,1),(3,1)]:=⟨_,underlying431,fun w=>by simp[TyS.run]⟩
instance : TyD Tryz.prog 439 (.struct #[⟨ "key", 392, 0, true, "", "donjon/tlb", 0⟩, ⟨ "entry", 396, 2, false, "", "donjon/tlb", 16⟩]) := ⟨Tryz.underlying439⟩
instance:TyS prog 439 5:=⟨by kernel_rfl⟩
instance:TyB prog 439 32:=⟨by kernel_rfl⟩
instance tyZ439:TyZ prog 439 (.agg #[.int .i64 0,.int .i64 0,.bool false,.bool false,.int .i64 0]):=⟨by kernel_rfl⟩
instance:TyFld prog 439 0 0 392:=⟨_,_,underlying439,rfl,rfl,rfl⟩
instance:TyFld prog 439 1 2 396:=⟨_,_,underlying439,rfl,rfl,rfl⟩
instance:TyPl prog 439 [(0,2),(2,3)]:=⟨_,underlying439,fun w=>by simp[TyS.run]⟩
instance:TyD prog 441 (.array 2 3):=⟨underlying441⟩
instance:TyS prog 441 2:=⟨by kernel_rfl⟩
instance tyZ441:TyZ prog 441 (.agg #[.int .i64 0,.int .i64 0]):=⟨by kernel_rfl⟩
instance:TyD prog 477 (.slice 128):=⟨underlying477⟩
instance:GoFn prog 8:=Yf func8
instance:GoFn prog 9:=Yf func9
instance:GoFn prog 10:=Yf func10
instance:GoFn prog 11:=Yf func11
instance:GoFn prog 12:=Yf func12
instance:GoFn prog 13:=Yf func13
instance:GoFn prog 14:=Yf func14
instance:GoFn prog 15:=Yf func15
instance:GoFn prog 16:=Yf func16
instance:GoFn prog 17:=Yf func17
instance:GoFn prog 19:=Yf func19
instance:GoFn prog 24:=Yf func24
instance:GoFn prog 25:=Yf func25
instance:GoFn prog 26:=Yf func26
instance:GoFn prog 27:=Yf func27
instance:GoFn prog 28:=Yf func28
instance:GoFn prog 29:=Yf func29
instance:GoFn prog 30:=Yf func30
instance:GoFn prog 31:=Yf func31
instance:GoFn prog 32:=Yf func32
instance:GoFn prog 33:=Yf func33
instance:GoFn prog 34:=Yf func34
instance:GoFn prog 35:=Yf func35
instance:GoFn prog 36:=Yf func36
instance:GoFn prog 37:=Yf func37
instance:GoFn prog 38:=Yf func38
instance:GoFn prog 39:=Yf func39
instance:GoFn prog 40:=Yf func40
instance:GoFn prog 41:=Yf func41
instance:GoFn prog 42:=Yf func42
instance:GoFn prog 43:=Yf func43
instance:GoFn prog 44:=Yf func44
instance:GoFn prog 45:=Yf func45
instance:GoFn prog 46:=Yf func46
instance:GoFn prog 47:=Yf func47
instance:GoFn prog 48:=Yf func48
instance:GoFn prog 49:=Yf func49
instance:GoFn prog 50:=Yf func50
instance:GoFn prog 51:=Yf func51
instance:GoFn prog 52:=Yf func52
instance:GoFn prog 53:=Yf func53
instance:GoFn prog 54:=Yf func54
instance:GoFn prog 58:=Yf func58
instance:GoFn prog 59:=Yf func59
instance:GoFn prog 60:=Yf func60
instance:GoFn prog 62:=Yf func62
instance:GoFn prog 63:=Yf func63
instance:GoFn prog 64:=Yf func64
instance:GoFn prog 65:=Yf func65
instance:GoFn prog 66:=Yf func66
instance:GoFn prog 67:=Yf func67
instance:GoFn prog 68:=Yf func68
instance:GoFn prog 69:=Yf func69
instance:GoFn prog 70:=Yf func70
instance:GoFn prog 71:=Yf func71
instance:GoFn prog 72:=Yf func72
instance:GoFn prog 73:=Yf func73
instance:GoFn prog 74:=Yf func74
instance:GoFn prog 75:=Yf func75
instance:GoFn prog 76:=Yf func76
instance:GoFn prog 77:=Yf func77
instance:GoFn prog 78:=Yf func78
instance:GoFn prog 79:=Yf func79
instance:GoFn prog 80:=Yf func80
instance:GoFn prog 81:=Yf func81
instance:GoFn prog 82:=Yf func82
instance:GoFn prog 83:=Yf func83
instance:GoFn prog 84:=Yf func84
instance:GoFn prog 85:=Yf func85
instance:GoFn prog 86:=Yf func86
instance:GoFn prog 87:=Yf func87
instance:GoFn prog 88:=Yf func88
instance:GoFn prog 89:=Yf func89
instance:GoFn prog 90:=Yf func90
instance:GoFn prog 91:=Yf func91
instance:GoFn prog 92:=Yf func92
instance:GoFn prog 93:=Yf func93
instance:GoFn prog 94:=Yf func94
instance:GoFn prog 95:=Yf func95
instance:GoFn prog 96:=Yf func96
instance:GoFn prog 97:=Yf func97
instance:GoFn prog 98:=Yf func98
instance:GoFn prog 99:=Yf func99
instance:GoFn prog 100:=Yf func100
instance:GoFn prog 101:=Yf func101
instance:GoFn prog 102:=Yf func102
instance:GoFn prog 103:=Yf func103
instance:GoFn prog 104:=Yf func104
instance:GoFn prog 105:=Yf func105
instance:GoFn prog 106:=Yf func106
instance:GoFn prog 107:=Yf func107
instance:GoFn prog 108:=Yf func108
instance:GoFn prog 109:=Yf func109
instance:GoFn prog 110:=Yf func110
instance:GoFn prog 111:=Yf func111
instance:GoFn prog 112:=Yf func112
instance:GoFn prog 113:=Yf func113
instance:GoFn prog 122:=Yf func122
instance:GoFn prog 124:=Yf func124
instance:GoFn prog 125:=Yf func125
instance:GoFn prog 126:=Yf func126
instance:GoFn prog 127:=Yf func127
instance:GoFn prog 128:=Yf func128
instance:GoFn prog 129:=Yf func129
instance:GoFn prog 130:=Yf func130
instance:GoFn prog 131:=Yf func131
instance:GoFn prog 132:=Yf func132
instance:GoFn prog 133:=Yf func133
instance:GoFn prog 134:=Yf func134
instance:GoFn prog 135:=Yf func135
instance:GoFn prog 136:=Yf func136
instance:GoFn prog 137:=Yf func137
instance:GoFn prog 138:=Yf func138
instance:GoFn prog 139:=Yf func139
instance:GoFn prog 140:=Yf func140
instance:GoFn prog 141:=Yf func141
instance:GoFn prog 142:=Yf func142
instance:GoFn prog 143:=Yf func143
instance:GoFn prog 144:=Yf func144
instance:GoFn prog 145:=Yf func145
instance:GoFn prog 146:=Yf func146
instance:GoFn prog 147:=Yf func147
instance:GoFn prog 148:=Yf func148
instance:GoFn prog 149:=Yf func149
instance:GoFn prog 150:=Yf func150
instance:GoFn prog 151:=Yf func151
instance:GoFn prog 152:=Yf func152
instance:GoFn prog 153:=Yf func153
instance:GoFn prog 154:=Yf func154
instance:GoFn prog 155:=Yf func155
instance:GoFn prog 156:=Yf func156
instance:GoFn prog 157:=Yf func157
instance:GoFn prog 158:=Yf func158
instance:GoFn prog 159:=Yf func159
instance:GoFn prog 160:=Yf func160
instance:GoFn prog 161:=Yf func161
instance:GoFn prog 162:=Yf func162
instance:GoFn prog 163:=Yf func163
instance:GoFn prog 164:=Yf func164
instance:GoFn prog 165:=Yf func165
instance:GoFn prog 166:=Yf func166
instance:GoFn prog 167:=Yf func167
instance:GoFn prog 168:=Yf func168
instance:GoFn prog 169:=Yf func169
instance:GoFn prog 170:=Yf func170
instance:GoFn prog 171:=Yf func171
instance:GoFn prog 172:=Yf func172
instance:GoFn prog 173:=Yf func173
instance:GoFn prog 174:=Yf func174
instance:GoFn prog 178:=Yf func178
instance:GoFn prog 179:=Yf func179
instance:GoFn prog 184:=Yf func184
instance:GoFn prog 186:=Yf func186
instance:GoFn prog 187:=Yf func187
instance:GoFn prog 188:=Yf func188
instance:GoFn prog 189:=Yf func189
instance:GoFn prog 190:=Yf func190
instance:GoFn prog 191:=Yf func191
instance:GoFn prog 192:=Yf func192
instance:GoFn prog 193:=Yf func193
instance:GoFn prog 194:=Yf func194
instance:GoFn prog 195:=Yf func195
instance:GoFn prog 196:=Yf func196
instance:GoFn prog 197:=Yf func197
instance:GoFn prog 198:=Yf func198
instance:GoFn prog 199:=Yf func199
instance:GoFn prog 200:=Yf func200
instance:GoFn prog 201:=Yf func201
instance:GoFn prog 202:=Yf func202
instance:GoFn prog 203:=Yf func203
instance:GoFn prog 204:=Yf func204
instance:GoFn prog 205:=Yf func205
instance:GoFn prog 206:=Yf func206
instance:GoFn prog 207:=Yf func207
instance:GoFn prog 219:=Yf func219
instance:GoFn prog 230:=Yf func230
instance:GoFn prog 231:=Yf func231
instance:GoFn prog 232:=Yf func232
instance:GoFn prog 233:=Yf func233
instance:GoFn prog 234:=Yf func234
instance:GoFn prog 235:=Yf func235
instance:GoFn prog 236:=Yf func236
instance:GoFn prog 237:=Yf func237
instance:GoFn prog 238:=Yf func238
instance:GoFn prog 239:=Yf func239
instance:GoFn prog 240:=Yf func240
instance:GoFn prog 241:=Yf func241
instance:GoFn prog 242:=Yf func242
instance:GoFn prog 243:=Yf func243
instance:GoFn prog 244:=Yf func244
instance:GoFn prog 245:=Yf func245
instance:GoFn prog 246:=Yf func246
instance:GoFn prog 247:=Yf func247
instance:GoFn prog 255:=Yf func255
instance:GoFn prog 257:=Yf func257
instance:GoFn prog 279:=Yf func279
instance:GoFn prog 280:=Yf func280
instance:GoFn prog 281:=Yf func281
instance:GoFn prog 284:=Yf func284
instance:GoFn prog 352:=Yf func352
instance:GoFn prog 353:=Yf func353
instance:GoFn prog 354:=Yf func354
instance:GoFn prog 357:=Yf func357
instance:GoFn prog 358:=Yf func358
instance:GoFn prog 359:=Yf func359
instance:GoFn prog 360:=Yf func360
end
section
def intsC (l:List Int):List Value:=l.map (.int .i64 ·)
theorem intsC_len(l:List Int):(intsC l).length=l.length:=by simp[intsC]
theorem intsC_app(l m:List Int):intsC (l++m)=intsC l++intsC m:=by simp[intsC]
theorem intsC_one(l:List Int):(intsC l).all Value.oneCell' = true:=by simp[intsC,Value.oneCell']
theorem intsC_slice(l:List Int)(i j:Nat):((intsC l).drop (i*1)).take (j*1)=intsC ((l.drop i).take j):=by simp[intsC,List.map_take,List.map_drop]
theorem ints_nth{cc:List Value}{o i:Nat}{l:List Int}{x:Int}(hr:Reads cc o (intsC l))(h:l[i]?=some x):nth cc (o+i*1)=some (.int .i64 x):=by
 rw[nth_eq,Nat.mul_one];exact hr.at_ i _ (by simp[intsC,h])
def idxM:List Int→Int→Int
  | [],_ => -1
  | a::l,x=>if a=x then 0 else if idxM l x<0 then -1 else idxM l x+1
theorem idx_hit:∀{l:List Int} {i:Nat} {x:Int},l[i]?=some x→(∀j,j<i→l[j]?≠some x)→idxM l x=i
  | [],i,x,h,_=>by simp at h
  | a::l,0,x,h,_=>by simp at h;simp[idxM,h]
  | a::l,i+1,x,h,hn=>by
    have h0:a≠x:=fun e=>hn 0 (by omega) (by simp[e])
    have ih:=idx_hit (l:=l) (i:=i) (x:=x) (by simpa using h) (fun j hj=>by have:=hn (j+1) (by omega);simpa using this)
    simp only[idxM,if_neg h0,ih];rw[if_neg (by omega)];push_cast;rfl
theorem idx_miss:∀{l:List Int} {x:Int},(∀j,j<l.length→l[j]?≠some x)→idxM l x = -1
  | [],_,_=>rfl
  | a::l,x,hn=>by
    have h0:a≠x:=fun e=>hn 0 (by simp) (by simp[e])
    have ih:=idx_miss (l:=l) (x:=x) (fun j hj=>by have:=hn (j+1) (by simpa using hj);simpa using this)
    simp only[idxM,if_neg h0,ih];rfl
theorem idx_lt:∀(l:List Int) (x:Int),idxM l x<l.length ∧ -1≤idxM l x
  | [],_=>by simp[idxM]
  | a::l,x=>by
    have:=idx_lt l x
    simp only[idxM,Y4]
    split
    · omega
    · split <;> omega
theorem idx_mem:∀(l:List Int) (x:Int),0≤idxM l x↔x∈l
  | [],_=>by simp[idxM]
  | a::l,x=>by
    have ih:=idx_mem l x
    simp only[idxM,List.mem_cons]
    split
    · rename_i h;simp[h]
    · rename_i h
      split
      · rename_i h2
        have:¬x∈l:=fun e=>by have:=ih.2 e;omega
        simp[this,Ne.symm h]
      · rename_i h2
        have:x∈l:=ih.1 (by omega)
        simp[this];omega
structure SV where
  a:Option Addr
  c:Nat
  l:List Int
abbrev SV.v (s:SV):Value:=.slice s.a s.l.length s.c
def catM (ss:List SV):List Int:=ss.flatMap SV.l
def catUpto (ss:List SV) (i:Nat):List Int:=catM (ss.take i)
theorem catUpto_succ{ss:List SV}{i:Nat}{s:SV}(h:ss[i]?=some s):catUpto ss (i+1)=catUpto ss i++s.l:=by
 unfold catUpto catM;rw[List.take_add_one,h,List.flatMap_append];simp
theorem catUpto_all(ss:List SV):catUpto ss ss.length=catM ss:=by unfold catUpto;rw[List.take_length]
theorem catUpto_len(ss:List SV):∀i,(catUpto ss i).length≤(catM ss).length:=fun i=>by
 unfold catUpto catM;have:ss.flatMap SV.l=(ss.take i).flatMap SV.l++(ss.drop i).flatMap SV.l:=by rw[←List.flatMap_append,List.take_append_drop]
 rw[this,Y3];omega
theorem sv_nth{ss:List SV}{i:Nat}{s:SV}(h:ss[i]?=some s):nth (ss.map SV.v) (0+i*1)=some s.v:=by
 rw[nth_eq,Nat.zero_add,Nat.mul_one,List.getElem?_map,h];rfl
theorem view_nil{G:Hp}{n c:Nat}{cs:List Value}(h:View G 1 (.slice none n c) n cs):n=0∧cs=[]:=by
 obtain ⟨hl,a,c', e,_,h4⟩:=h;cases e
 rcases h4 with rfl | ⟨b,o,cc,T,f,e,_⟩
 ·
  exact ⟨rfl,List.eq_nil_of_length_eq_zero (by omega)⟩
 ·
  cases e
theorem slc_empty(T b:Nat):Slc T 1 (.slice (some ⟨b,0,none⟩) 0 0) 0 [] [(b,.cells ([]:List Value).toArray T)]:=⟨rfl,.inr ⟨b,[],[],0,rfl,Nat.le_refl _,Nat.zero_le _,rfl⟩⟩
theorem view_part{G:Hp}{a:Option Addr}{c:Nat}{l:List Int}(hv:View G 1 (.slice a l.length c) l.length (intsC l)){i j:Nat}(h1:i≤j)(h2:j≤l.length) :
    View G 1 (.slice (if c=i then a else a.map (·.add (i*1))) ((l.drop i).take (j-i)).length (c-i)) ((l.drop i).take (j-i)).length (intsC ((l.drop i).take (j-i))):=by
  have h:=hv.slice h1 h2
  rw[intsC_slice]at h;have e:((l.drop i).take (j-i)).length=j-i:=by rw[List.length_take,Y6];omega
  rw[e];exact h
theorem part_len{l:List Int}{i j:Nat}(h1:i≤j)(h2:j≤l.length):((l.drop i).take (j-i)).length=j-i:=by rw[List.length_take,Y6];omega
theorem forall_two{p:SV→Prop}{s1 s2:SV}(h1:p s1)(h2:p s2):∀s,s∈[s1,s2]→p s:=by
 intro s hs
 rcases List.mem_cons.1 hs with rfl | hs
 ·
  exact h1
 ·
  rw[List.mem_singleton.1 hs];exact h2
end
section
theorem _root_.Go.SL.ef_makeSliceZ{P:Program}{W:World}{n:Nat}{D:List Deferred}{E:Env}{L:Hp}{ty:TypeId}{pos:String}{aft:Array Edge}{g:Option (Nat×Bool)}{T:TypeId}{x y:Operand}{d:Nat}{e k bytes r:Nat}{zv:Value}(zs:List Value)[ht:TyD P T (.slice e)][hk:TyS P e k][hby:TyB P e bytes][hz:TyZ P e zv](hx:SL.ev E x=some (.int .i64 (r:Int)))(hy:SL.ev E y=some (.int .i64 (r:Int)))
    (hzs:zv.cells=zs.toArray) (hzl:zs.length=k) (hk1:1≤k) (hr:r≤1048576) (hbd:bytes≤1024) (hd:Nat.blt d n=true) :
    Ef P W n D ⟨some d,.makeSlice T x y,ty,pos,aft,g⟩ E L (fun E' L' => ∃b,E' = (d,.slice (some ⟨b,0,none⟩) r r)::E∧L' = (b,.cells ((List.replicate r zs).flatten).toArray e)::L):=by
  by_cases hr1:1≤r
  · exact ef_makeSlice zs hx hy hzs hzl hk1 hr1 hr hbd hd
  · obtain rfl:r=0:=by omega
    unfold Ef;intro Q a w next hs ho hn;obtain ⟨i,hi,hzi⟩:=Option.bind_eq_some_iff.1 hz.eq;have hisz:i.size=k:=by have:=hk.eq;rw[hi]at this;simpa using this
    have hiby:i.bytes=bytes:=by have:=hby.eq;rw[hi]at this;simpa using this
    unfold Oper.wp;have wr:IntKind.i64.wrap 0=0:=w64 (by omega) (by omega)
    have hx' : SL.ev E x=some (.int .i64 0):=hx
    have hy' : SL.ev E y=some (.int .i64 0):=hy
    have:(execOp a.eval ⟨some d,.makeSlice T x y,ty,pos,aft,g⟩).run P w=.ok (.value (.slice (some ⟨w.heap.size,0,none⟩) 0 0)) (w.alloc (.cells ((List.replicate 0 zs).flatten).toArray e)):=by
      simp[execOp,Instr.makeSlice,hs.ev hx', hs.ev hy', run_underlying ht.eq,asInt,asIntOf,typeInfo,hi,sizeOf,zeroValue,hzi,wr,hisz,hiby,newRow,askRoom,roomBytes];have e0:∀f:Nat→Value,(Array.range 0).map f=#[]:=fun f=>by apply Array.ext';simp
      rw[e0]
    rw[this];exact hn _ _ _ _ ⟨_,rfl,rfl⟩ (hs.put hd) (ho.alloc _)
def bef (key:Int→Int) (x y:Int):Bool:=decide (key y<key x∨(key x=key y∧x<y))
def insS (key:Int→Int) (x:Int):List Int→List Int
  | []=>[x]
  | y::l=>if bef key y x=true then y::insS key x l else x::y::l
def srt (key:Int→Int) (l:List Int):List Int:=l.foldr (insS key) []
def Sd (key:Int→Int) (l:List Int):Prop:=l.Pairwise (fun x y=>bef key x y=true)
section
variable {key : Int → Int}
theorem bef_iff{x y:Int}:bef key x y=true↔(key y<key x∨(key x=key y∧x<y)):=by simp[bef]
theorem bef_tr{x y z:Int}(h:bef key x y=true)(g:bef key y z=true):bef key x z=true:=by rw[bef_iff]at *;omega
theorem bef_no{x y:Int}(h:bef key x y=true):x≠y:=by rintro rfl;rw[bef_iff]at h;omega
theorem bef_tot{x y:Int}(h:x≠y)(g:¬bef key x y=true):bef key y x=true:=by rw[bef_iff]at *;omega
theorem bef_asym{x y:Int}(h:bef key x y=true)(g:bef key y x=true):False:=by rw[bef_iff]at *;omega
theorem insS_perm(x:Int):∀l,(insS key x l).Perm (x::l)
  | []=>List.Perm.refl _
  | y::l=>by
    unfold insS;split
    · exact ((insS_perm x l).cons y).trans (List.Perm.swap ..)
    · exact List.Perm.refl _
theorem srt_perm:∀l,(srt key l).Perm l
  | []=>List.Perm.refl _
  | x::l=>(insS_perm x _).trans ((srt_perm l).cons x)
theorem insS_sd{x:Int}:∀{l:List Int},Sd key l→x ∉ l→Sd key (insS key x l)
  | [],_,_=>List.pairwise_singleton ..
  | y::l,h,hn=>by
    obtain ⟨h1,h2⟩:=List.pairwise_cons.1 h;unfold insS;split
    · rename_i hb
      refine List.pairwise_cons.2 ⟨fun z hz=>?_,insS_sd h2 (fun e=>hn (List.mem_cons_of_mem _ e))⟩
      rcases List.mem_cons.1 ((insS_perm x l).subset hz) with rfl | hz
      · exact hb
      · exact h1 z hz
    · rename_i hb
      have hxy:bef key x y=true:=bef_tot (fun e=>hn (by rw[e];exact List.mem_cons_self ..)) hb
      refine List.pairwise_cons.2 ⟨fun z hz=>?_,h⟩
      rcases List.mem_cons.1 hz with rfl | hz
      · exact hxy
      · exact bef_tr hxy (h1 z hz)
theorem srt_sd:∀{l:List Int},l.Nodup→Sd key (srt key l)
  | [],_=>List.Pairwise.nil
  | x::l,h=>by
    obtain ⟨h1,h2⟩:=List.nodup_cons.1 h;exact insS_sd (srt_sd h2) (fun e=>h1 ((srt_perm l).subset e))
theorem Sd.uniq:∀{a b:List Int},Sd key a→Sd key b→a.Perm b→a=b
  | [],b,_,_,h=>(List.nil_perm.1 h).symm
  | x::a,[],_,_,h=>absurd (List.perm_nil.1 h) (by simp)
  | x::a,y::b,ha,hb,h=>by
    obtain ⟨a1,a2⟩:=List.pairwise_cons.1 ha;obtain ⟨b1,b2⟩:=List.pairwise_cons.1 hb;have e:x=y:=by
      rcases List.mem_cons.1 (h.subset (List.mem_cons_self ..)) with e | hx
      · exact e
      · rcases List.mem_cons.1 (h.symm.subset (List.mem_cons_self ..)) with e | hy
        · exact e.symm
        · exact (bef_asym (b1 x hx) (a1 y hy)).elim
    subst e;rw[Sd.uniq a2 b2 (List.Perm.cons_inv h)]
theorem srt_eq{M L:List Int}(hn:L.Nodup)(h:Sd key M)(hp:M.Perm L):M=srt key L:=h.uniq (srt_sd hn) (hp.trans (srt_perm L).symm)
theorem srt_len(l:List Int):(srt key l).length=l.length:=(srt_perm l).length_eq
theorem srt_nodup{l:List Int}(h:l.Nodup):(srt key l).Nodup:=(srt_perm l).nodup_iff.2 h
theorem srt_congr{A B:List Int}(hn:B.Nodup)(h:A.Perm B):srt key A=srt key B:=srt_eq hn (srt_sd (h.nodup_iff.2 hn)) ((srt_perm A).trans h)
theorem srt_split{A B:List Int}(hn:(A++B).Nodup)(h:∀a,a∈A→∀b,b∈B→bef key a b=true):srt key A++srt key B=srt key (A++B):=by
 obtain ⟨n1,n2,_⟩:=List.nodup_append.1 hn;refine srt_eq hn (List.pairwise_append.2 ⟨srt_sd n1,srt_sd n2,fun a ha b hb=>h a ((srt_perm A).subset ha) b ((srt_perm B).subset hb)⟩) ((srt_perm A).append (srt_perm B))
section
variable{l:List Int}(h:Sd key l)
include l h
theorem Sd.nodup:l.Nodup:=List.Pairwise.imp (fun h=>bef_no h) h
theorem Sd.srt:srt key l=l:=(srt_eq h.nodup h (List.Perm.refl _)).symm
theorem Sd.at_{i j:Nat}{x y:Int}(hi:l[i]?=some x)(hj:l[j]?=some y)(hij:i<j):bef key x y=true:=by
 obtain ⟨i1,rfl⟩:=List.getElem?_eq_some_iff.1 hi;obtain ⟨j1,rfl⟩:=List.getElem?_eq_some_iff.1 hj;exact List.pairwise_iff_getElem.1 h i j i1 j1 hij
end
section
variable{X Y:List Int}(hX:Sd key X)(hY:Sd key Y)(hXY:∀x,x∈X→∀y,y∈Y→x<y)
include X Y hX hY hXY
theorem cut_all{s t:Nat}(hs0:s≤X.length)(ht0:t≤Y.length)
    (c1:∀x y,0<s→X[s-1]?=some x→Y[t]?=some y→¬key x<key y) (c2:∀x y,X[s]?=some x→0<t→Y[t-1]?=some y→key x<key y) :
    ∀a,a∈X.take s++Y.take t→∀b,b∈X.drop s++Y.drop t→bef key a b=true:=by
  intro a ha b hb;have hA:a∈X.take s∨a∈Y.take t:=List.mem_append.1 ha
  have hB:b∈X.drop s∨b∈Y.drop t:=List.mem_append.1 hb
  have tk:∀(l:List Int) (n:Nat) (z:Int),z∈l.take n→∃i,i<n∧l[i]?=some z:=fun l n z hz=>by
    obtain ⟨i,hi⟩:=List.mem_iff_getElem?.1 hz;rw[List.getElem?_take]at hi
    split at hi
    · exact ⟨i,by assumption,hi⟩
    · cases hi
  have dr:∀(l:List Int) (n:Nat) (z:Int),z∈l.drop n→∃i,n≤i∧l[i]?=some z:=fun l n z hz=>by
    obtain ⟨i,hi⟩:=List.mem_iff_getElem?.1 hz;rw[List.getElem?_drop]at hi;exact ⟨n+i,by omega,hi⟩
  have le:∀{l:List Int},Sd key l→∀{i j:Nat} {x y:Int},l[i]?=some x→l[j]?=some y→i≤j→x=y∨bef key x y=true:=fun {l} h {i j x y} hi hj hij=>by
    by_cases e:i=j
    · subst e;rw[hi]at hj;cases hj;exact .inl rfl
    · exact .inr (h.at_ hi hj (by omega))
  have lt1:∀{l:List Int} {i j:Nat} {x:Int},l[i]?=some x→j≤i→∃y,l[j]?=some y:=fun {l i j x} hi hj=>by
    obtain ⟨i1,_⟩:=List.getElem?_eq_some_iff.1 hi;exact ⟨l[j],Y8 (by omega)⟩
  rcases hA with hA | hA
  · obtain ⟨i,hi,ei⟩:=tk _ _ _ hA
    rcases hB with hB | hB
    · obtain ⟨j,hj,ej⟩:=dr _ _ _ hB
      exact hX.at_ ei ej (by omega)
    · obtain ⟨j,hj,ej⟩:=dr _ _ _ hB
      obtain ⟨y,hy⟩:=lt1 ej hj
      by_cases hs:s-1<X.length
      · have hx:X[s-1]?=some X[s-1]:=Y8 hs
        have g1:=c1 _ _ (by omega) hx hy
        have g2:=le hX ei hx (by omega)
        have g3:=le hY hy ej hj
        have g4:bef key X[s-1] y=true:=bef_iff.2 (by have:=hXY X[s-1] (List.getElem_mem ..) y (List.mem_of_getElem? hy);omega)
        rcases g2 with rfl | g2 <;> rcases g3 with rfl | g3
        · exact g4
        · exact bef_tr g4 g3
        · exact bef_tr g2 g4
        · exact bef_tr (bef_tr g2 g4) g3
      · have hl:=(List.getElem?_eq_some_iff.1 ei).1
        omega
  · obtain ⟨j,hj,ej⟩:=tk _ _ _ hA
    rcases hB with hB | hB
    · obtain ⟨i,hi,ei⟩:=dr _ _ _ hB
      obtain ⟨x,hx⟩:=lt1 ei hi;have hyl:t-1<Y.length:=by omega
      have hy:Y[t-1]?=some Y[t-1]:=Y8 hyl
      have g1:=c2 _ _ hx (by omega) hy
      have g2:=le hY ej hy (by omega)
      have g3:=le hX hx ei hi
      have g4:bef key Y[t-1] x=true:=bef_iff.2 (by omega)
      rcases g2 with rfl | g2 <;> rcases g3 with rfl | g3
      · exact g4
      · exact bef_tr g4 g3
      · exact bef_tr g2 g4
      · exact bef_tr (bef_tr g2 g4) g3
    · obtain ⟨i,hi,ei⟩:=dr _ _ _ hB
      exact hY.at_ ej ei (by omega)
theorem nodup_xy:(X++Y).Nodup :=
  List.nodup_append.2 ⟨hX.nodup,hY.nodup,fun a ha b hb e=>by have:=hXY a ha b hb;omega⟩
end
theorem perm_xy(X Y:List Int)(s t:Nat):((X.take s++Y.take t)++(X.drop s++Y.drop t)).Perm (X++Y):=by
 have h:=(List.perm_append_comm_assoc (Y.take t) (X.drop s) (Y.drop t)).append_left (X.take s)
 rw[←Y7]at h;refine h.trans ?_;rw[List.take_append_drop,←Y7,List.take_append_drop]
theorem sym_step{X Y:List Int}(hX:Sd key X)(hY:Sd key Y)(hXY:∀x,x∈X→∀y,y∈Y→x<y){s t:Nat}(hs0:s≤X.length)(ht0:t≤Y.length)
    (c1:∀x y,0<s→X[s-1]?=some x→Y[t]?=some y→¬key x<key y) (c2:∀x y,X[s]?=some x→0<t→Y[t-1]?=some y→key x<key y) :
    srt key (X.take s++Y.take t)++srt key (X.drop s++Y.drop t)=srt key (X++Y):=by
  have hn:=(perm_xy X Y s t).nodup_iff.2 (nodup_xy hX hY hXY)
  rw[srt_split hn (cut_all hX hY hXY hs0 ht0 c1 c2)];exact srt_congr (nodup_xy hX hY hXY) (perm_xy X Y s t)
theorem sym_x{x:Int}{Y:List Int}(hY:Sd key Y)(hXY:∀y,y∈Y→x<y){t:Nat}(ht0:t≤Y.length)
    (c1:∀y,Y[t]?=some y→¬key x<key y) (c2:∀y,0<t→Y[t-1]?=some y→key x<key y):Y.take t++x::Y.drop t=srt key ([x]++Y):=by
  have hX:Sd key [x]:=List.pairwise_singleton ..
  have h:=sym_step (s:=0) hX hY (by simpa using hXY) (by simp) ht0 (by intro _ _ h;omega) (by intro a b ha hb hc;simp at ha;subst ha;exact c2 b hb hc)
  rw[←h];simp only[List.take_zero,Y2,List.drop_zero];have e1:srt key (Y.take t)=Y.take t:=Sd.srt (hY.sublist (List.take_sublist ..))
  rw[e1]
  congr 1
  have h2:=sym_step (s:=1) (t:=0) hX (hY.sublist (List.drop_sublist t Y)) (by intro a ha b hb;simp at ha;subst ha;exact hXY b (List.mem_of_mem_drop hb)) (by simp) (Nat.zero_le _)
    (by intro a b _ ha hb;simp at ha;subst ha;rw[List.getElem?_drop]at hb;exact c1 b (by simpa using hb)) (by intro a b _ h;omega)
  rw[←h2];have e2:srt key (Y.drop t)=Y.drop t:=Sd.srt (hY.sublist (List.drop_sublist ..))
  show x::Y.drop t=srt key [x]++srt key (Y.drop t)
  rw[e2];rfl
theorem sym_y{y:Int}{X:List Int}(hX:Sd key X)(hXY:∀x,x∈X→x<y){s:Nat}(hs0:s≤X.length)
    (c1:∀x,0<s→X[s-1]?=some x→¬key x<key y) (c2:∀x,X[s]?=some x→key x<key y):X.take s++y::X.drop s=srt key (X++[y]):=by
  have hY:Sd key [y]:=List.pairwise_singleton ..
  have h:=sym_step (t:=0) hX hY (by intro a ha b hb;simp at hb;subst hb;exact hXY a ha) hs0 (by simp) (by intro a b h1 h2 h3;simp at h3;subst h3;exact c1 a h1 h2) (by intro a b _ h;omega)
  rw[←h];simp only[List.take_zero,List.append_nil,List.drop_zero];have e1:srt key (X.take s)=X.take s:=Sd.srt (hX.sublist (List.take_sublist ..))
  rw[e1]
  congr 1
  have h2:=sym_step (s:=0) (t:=1) (hX.sublist (List.drop_sublist s X)) hY (by intro a ha b hb;simp at hb;subst hb;exact hXY a (List.mem_of_mem_drop ha)) (by simp) (by simp)
    (by intro a b h;omega) (by intro a b ha _ hb;simp at hb;subst hb;rw[List.getElem?_drop]at ha;exact c2 a (by simpa using ha))
  rw[←h2];have e2:srt key (X.drop s)=X.drop s:=Sd.srt (hX.sublist (List.drop_sublist ..))
  show y::X.drop s=srt key [y]++srt key (X.drop s++[])
  rw[List.append_nil,e2];rfl
def chF (key:Int→Int) (k:Nat):Nat→List Int→List Int
  | 0,_=>[]
  | f+1,l=>srt key (l.take k)++chF key k f (l.drop k)
def CH (key:Int→Int) (k:Nat) (l:List Int):List Int:=chF key k l.length l
theorem chF_nil(k:Nat):∀f,chF key k f []=[]
  | 0=>rfl
  | f+1=>by simp only[chF,List.take_nil,List.drop_nil,chF_nil k f];rfl
theorem chF_more{k:Nat}(hk:0<k):∀(f g:Nat) (l:List Int),l.length≤f→l.length≤g→chF key k f l=chF key k g l
  | 0,g,l,h,_=>by
    rw[List.length_eq_zero_iff.1 (by omega:l.length=0),chF_nil,chF_nil]
  | f+1,0,l,_,h=>by
    rw[List.length_eq_zero_iff.1 (by omega:l.length=0),chF_nil,chF_nil]
  | f+1,g+1,l,h1,h2=>by
    unfold chF;rw[chF_more hk f g (l.drop k) (by rw[Y6];omega) (by rw[Y6];omega)]
theorem CH_eq{k:Nat}(hk:0<k)(l:List Int):CH key k l=srt key (l.take k)++CH key k (l.drop k):=by
 unfold CH;rw[chF_more hk l.length (l.length+1) l (Nat.le_refl _) (by omega),chF,chF_more hk l.length (l.drop k).length (l.drop k) (by rw[Y6];omega) (Nat.le_refl _)]
theorem CH_nil(k:Nat):CH key k []=[]:=rfl
theorem CH_all{k:Nat}(hk:0<k){l:List Int}(h:l.length≤k):CH key k l=srt key l:=by
 rw[CH_eq hk,List.take_of_length_le h,List.drop_of_length_le h,CH_nil,List.append_nil]
theorem CH_len{k:Nat}(hk:0<k):∀(n:Nat) (l:List Int),l.length≤n→(CH key k l).length=l.length
  | 0,l,h=>by rw[List.length_eq_zero_iff.1 (by omega:l.length=0)];rfl
  | n+1,l,h=>by
    by_cases e:l.length=0
    · rw[List.length_eq_zero_iff.1 e];rfl
    · rw[CH_eq hk,Y3,srt_len,CH_len hk n (l.drop k) (by rw[Y6];omega),List.length_take,Y6];omega
theorem CH_two{k:Nat}(hk:0<k)(l:List Int):CH key k l=srt key (l.take k)++(srt key ((l.drop k).take k)++CH key k (l.drop (2*k))):=by
 rw[CH_eq hk l,CH_eq hk (l.drop k),List.drop_drop,Nat.two_mul]
theorem take_two(l:List Int)(k:Nat):l.take k++(l.drop k).take k=l.take (2*k):=by rw[Nat.two_mul,List.take_add]
end
section
variable {α : Type}
theorem mid_get{P X R:List α}{c:Nat}(h:c<X.length):(P++(X++R))[P.length+c]?=X[c]?:=by
 rw[List.getElem?_append_right (by omega),List.getElem?_append_left (by omega)];congr 1;omega
theorem swp_mid(P M S:List α)(x y:α):((P++x::(M++y::S)).set P.length y).set (P.length+1+M.length) x=P++y::(M++x::S):=by
 rw[List.set_append_right _ _ (Nat.le_refl _),Nat.sub_self,List.set_cons_zero,List.set_append_right _ _ (by omega),show P.length+1+M.length-P.length=M.length+1 by omega,List.set_cons_succ,List.set_append_right _ _ (Nat.le_refl _),Nat.sub_self,List.set_cons_zero]
theorem swp_mid2(P M S:List α)(x y:α):((P++x::(M++y::S)).set (P.length+1+M.length) x).set P.length y=P++y::(M++x::S):=by
 rw[←List.set_comm _ _ (by omega:P.length≠P.length+1+M.length)];exact swp_mid ..
theorem drop_at{l:List α}{i:Nat}{x:α}(h:l[i]?=some x):l.drop i=x::l.drop (i+1):=by
 obtain ⟨hl,rfl⟩:=List.getElem?_eq_some_iff.1 h;exact List.drop_eq_getElem_cons hl
theorem take_at{l:List α}{i:Nat}{x:α}(h:l[i]?=some x):l.take (i+1)=l.take i++[x]:=by
 rw[List.take_add_one,h];rfl
def SW (P A M B S:List α) (i:Nat):List α:=P++((B.take i++A.drop i)++(M++((A.take i++B.drop i)++S)))
section
variable {P A M B S : List α} {i n : Nat} {x y : α} (hA : A.length = n) (hB : B.length = n) (hx : A[i]? = some x) (hy : B[i]? = some y)
include hA hB hx hy
theorem SW_form:SW P A M B S i=(P++B.take i)++x::((A.drop (i+1)++M++A.take i)++y::(B.drop (i+1)++S)):=by
 unfold SW;rw[drop_at hx,drop_at hy];simp only[Y7,Y1,Y2]
theorem SW_next:((SW P A M B S i).set (P.length+i) y).set (P.length+n+M.length+i) x=SW P A M B S (i+1):=by
 have hl:i<A.length:=(List.getElem?_eq_some_iff.1 hx).1
 have h:=swp_mid (P++B.take i) (A.drop (i+1)++M++A.take i) (B.drop (i+1)++S) x y
 rw[←SW_form hA hB hx hy]at h;simp only[Y3,List.length_take,Y6]at h;rw[show P.length+min i B.length=P.length+i by omega,show P.length+i+1+(A.length-(i+1)+M.length+min i A.length)=P.length+n+M.length+i by omega]at h;rw[h];unfold SW;rw[take_at hx,take_at hy];simp only[Y7,Y1,Y2]
theorem SW_x:(SW P A M B S i)[P.length+i]?=some x:=by
 have hl:i<A.length:=(List.getElem?_eq_some_iff.1 hx).1
 rw[SW_form hA hB hx hy,List.getElem?_append_right (by simp;omega),show P.length+i-(P++B.take i).length=0 by simp;omega];rfl
theorem SW_y:(SW P A M B S i)[P.length+n+M.length+i]?=some y:=by
 have hl:i<A.length:=(List.getElem?_eq_some_iff.1 hx).1
 rw[SW_form hA hB hx hy,List.getElem?_append_right (by simp;omega),show P.length+n+M.length+i-(P++B.take i).length=(A.drop (i+1)++M++A.take i).length+1 by simp;omega,List.getElem?_cons_succ,List.getElem?_append_right (Nat.le_refl _),Nat.sub_self];rfl
end
theorem SW_0(P A M B S:List α):SW P A M B S 0=P++(A++(M++(B++S))):=by simp[SW]
theorem SW_n{A B:List α}{n:Nat}(hA:A.length=n)(hB:B.length=n)(P M S:List α):SW P A M B S n=P++(B++(M++(A++S))):=by
 simp[SW,List.take_of_length_le (Nat.le_of_eq hA),List.take_of_length_le (Nat.le_of_eq hB),List.drop_of_length_le (Nat.le_of_eq hA),List.drop_of_length_le (Nat.le_of_eq hB)]
theorem SW_len(P A M B S:List α)(i:Nat):A.length=B.length→(SW P A M B S i).length=(P++(A++(M++(B++S)))).length:=by
 intro h;simp[SW];omega
def MV (Q U:List α) (x:α) (j:Nat) (R:List α):List α:=Q++((U.take j++x::U.drop j)++R)
section
variable {Q U R : List α} {x z : α} {j : Nat}
theorem MV_len:(MV Q U x j R).length=Q.length+U.length+1+R.length:=by simp[MV];omega
section
variable(h:U[j]?=some z)
include h
theorem MV_form:MV Q U x j R=(Q++U.take j)++x::([]++z::(U.drop (j+1)++R)):=by
 unfold MV;rw[drop_at h];simp only[Y7,Y1,Y2]
theorem MV_form2:MV Q U x (j+1) R=(Q++U.take j)++z::([]++x::(U.drop (j+1)++R)):=by
 unfold MV;rw[take_at h];simp only[Y7,Y1,Y2]
theorem MV_up:((MV Q U x j R).set (Q.length+j) z).set (Q.length+j+1) x=MV Q U x (j+1) R:=by
 have hl:j<U.length:=(List.getElem?_eq_some_iff.1 h).1
 have g:=swp_mid (Q++U.take j) [] (U.drop (j+1)++R) x z
 rw[←MV_form h,←MV_form2 h]at g;simp only[Y3,List.length_take,Y5,Nat.add_zero]at g
 rwa [show min j U.length=j by omega]at g
theorem MV_down:((MV Q U x (j+1) R).set (Q.length+j+1) z).set (Q.length+j) x=MV Q U x j R:=by
 have hl:j<U.length:=(List.getElem?_eq_some_iff.1 h).1
 have g:=swp_mid2 (Q++U.take j) [] (U.drop (j+1)++R) z x
 rw[←MV_form h,←MV_form2 h]at g;simp only[Y3,List.length_take,Y5,Nat.add_zero]at g
 rwa [show min j U.length=j by omega]at g
end
theorem MV_x(h:j≤U.length):(MV Q U x j R)[Q.length+j]?=some x:=by
 unfold MV;rw[List.getElem?_append_right (by omega),Y7,List.getElem?_append_right (by simp;omega),show Q.length+j-Q.length-(U.take j).length=0 by simp;omega];rfl
theorem MV_prev(h:U[j]?=some z):(MV Q U x (j+1) R)[Q.length+j]?=some z:=by
 have hl:j<U.length:=(List.getElem?_eq_some_iff.1 h).1
 rw[MV_form2 h,List.getElem?_append_right (by simp;omega),show Q.length+j-(Q++U.take j).length=0 by simp;omega];rfl
theorem MV_next(h:U[j]?=some z):(MV Q U x j R)[Q.length+j+1]?=some z:=by
 have hl:j<U.length:=(List.getElem?_eq_some_iff.1 h).1
 rw[MV_form h,List.getElem?_append_right (by simp;omega),show Q.length+j+1-(Q++U.take j).length=1 by simp;omega];rfl
end
end
theorem ints_get{pre sp:List Value}{l:List Int}{k:Nat}{x:Int}(h:l[k]?=some x):nth (pre++intsC l++sp) (pre.length+k*1)=some (.int .i64 x):=ints_nth reads_split h
theorem ints_set{pre sp:List Value}{l:List Int}{k:Nat}(x:Int)(h:k<l.length):SetL (pre++intsC l++sp) (pre.length+k*1) [.int .i64 x] (pre++intsC (l.set k x)++sp):=by
 have h1:=SetL.set1 (l:=pre++intsC l++sp) (i:=pre.length+k) (v:=.int .i64 x) (by simp[intsC_len];omega)
 have h2:(pre++intsC l++sp).set (pre.length+k) (.int .i64 x)=pre++intsC (l.set k x)++sp:=by
  rw[Y7,List.set_append_right _ _ (by omega),show pre.length+k-pre.length=k by omega,List.set_append_left _ _ (by rw[intsC_len];exact h),Y7];unfold intsC;rw[List.map_set]
 rw[h2]at h1;rw[Nat.mul_one];exact h1
def cmpK (key:Int→Int) (x y:Int):Int:=if key y<key x then -1 else if key y>key x then 1 else 0
theorem cmpK_lt{key:Int→Int}{x y:Int}:cmpK key x y<0↔key y<key x:=by
 unfold cmpK;split
 ·
  simp;omega
 ·
  split <;> simp <;> omega
end
section
section
variable(b cp:Nat)(pre sp:List Value)(l l' : List Int)(N:Nat)(hN2:N≤2^30)
include b cp pre sp l l' N hN2
theorem tr_sSwap(P A M B S:List Int)(n:Nat)(hA:A.length=n)(hB:B.length=n)(hl:l=P++(A++(M++(B++S))))(hl' : l' = P++(B++(M++(A++S))))(hN:l.length=N)(a c d:Int)(ha:a=(P.length:Nat))(hc:c=(P.length+n+M.length:Nat))(hd:d=(n:Nat))(fv:Value):Tr prog 232 [.slice (some ⟨b,pre.length,none⟩) N cp,.int .i64 a,.int .i64 c,.int .i64 d,fv] ([(b,.cells (pre++intsC (l)++sp).toArray 3)]) (fun u L' => u=.tuple #[]∧L' = [(b,.cells (pre++intsC (l')++sp).toArray 3)]):=by
 subst ha hc hd hl';rw[←SW_0]at hl;subst hl;have hN3:=hN
 rw[SW_len _ _ _ _ _ _ (by omega)]at hN3;simp only[Y3]at hN3;refine YR func232 ntmps232 fun W F=>?_
 refine zq [3,4,1,2,5,20] ?_;refine YM (σ:=Nat) [(0,_),(1,_),(2,_),(3,_)] (fun s=>[(10,.int .i64 s)]) (fun s=>(b,.cells (pre++intsC (SW P A M B S s)++sp).toArray 3)::F) (fun s=>s≤n) (fun s=>n-s) 0 (Nat.zero_le _) ?_;rintro i KK hi hK;dsimp only[Y1,Y2]at hK ⊢;refine zq [3,3,4,0,0,42,2,5] ?_;refine Yd rfl (fun h1=>?_) (fun h1=>?_)
 ·
  have hin:i<n:=by omega
  obtain ⟨x,hx⟩:∃x,A[i]?=some x:=Y9;obtain ⟨y,hy⟩:∃y,B[i]?=some y:=Y9;have hnx:=ints_get (pre:=pre) (sp:=sp) (SW_x (P:=P) (M:=M) (S:=S) hA hB hx hy)
  have hny:=ints_get (pre:=pre) (sp:=sp) (SW_y (P:=P) (M:=M) (S:=S) hA hB hx hy)
  have hlen:(SW P A M B S i).length=N:=by rw[SW_len _ _ _ _ _ _ (by omega)];simp only[Y3];omega
  haveI hs1:SetL (pre++intsC (SW P A M B S i)++sp) (pre.length+(P.length+i)*1) [.int .i64 y] (pre++intsC ((SW P A M B S i).set (P.length+i) y)++sp):=ints_set y (by omega)
  haveI hs2:SetL (pre++intsC ((SW P A M B S i).set (P.length+i) y)++sp) (pre.length+(P.length+n+M.length+i)*1) [.int .i64 x] (pre++intsC (SW P A M B S (i+1))++sp):=by rw[←SW_next hA hB hx hy];exact ints_set x (by rw[List.length_set];omega)
  refine zq [11,5,3,20] ?_;refine AnyH.start ([]:Hp) 24 rfl ?_;refine zd [0,1,1,1,2,1] ?_;refine Yh 3 rfl (pv_add rfl rfl (w64n (k:=P.length+i) (by omega) (by omega))) ?_;refine zd [4,1,5,1,6,1] ?_;refine Yh 7 rfl (pv_add rfl rfl (w64n (k:=P.length+n+M.length+i) (by omega) (by omega))) ?_;refine zd [8,1,9,1,10,1] ?_;refine Yh 11 rfl (pv_add rfl rfl (w64n (k:=P.length+n+M.length+i) (by omega) (by omega))) ?_;refine Yh 12 rfl (pv_indexAddr (i:=P.length+n+M.length+i) rfl rfl rfl (by omega)) ?_;refine zd [14,1,15,1,16,1] ?_;refine Yh 17 rfl (pv_add rfl rfl (w64n (k:=P.length+i) (by omega) (by omega))) ?_;refine Yh 18 rfl (pv_indexAddr (i:=P.length+i) rfl rfl rfl (by omega)) ?_;refine YB 13 19 ?_ ?_
  ·
   refine Yv rfl rfl (pv_load rfl rfl hny) ?_;refine YA 19 ?_;refine Yv rfl rfl (pv_load rfl rfl hnx) ?_;refine Yh 20 rfl (pv_indexAddr (i:=P.length+i) rfl rfl rfl (by omega)) ?_;refine z1 21 ?_;refine Yh 22 rfl (pv_indexAddr (i:=P.length+n+M.length+i) rfl rfl rfl (by omega)) ?_;refine z1 23 ?_;refine YD ?_;refine zq [19,5,4,0] ?_;refine Ya rfl rfl (i+1) ?_;refine zq [1,2,49] ?_;refine Yy (hK (i+1) (by omega) (by omega))
  refine Yv rfl rfl (pv_load rfl rfl hnx) ?_;refine YA 13 ?_;refine Yv rfl rfl (pv_load rfl rfl hny) ?_;refine Yh 20 rfl (pv_indexAddr (i:=P.length+i) rfl rfl rfl (by omega)) ?_;refine z1 21 ?_;refine Yh 22 rfl (pv_indexAddr (i:=P.length+n+M.length+i) rfl rfl rfl (by omega)) ?_;refine z1 23 ?_;refine YD ?_;refine zq [19,5,4,0] ?_;refine Ya rfl rfl (i+1) ?_;refine zq [1,2,49] ?_;refine Yy (hK (i+1) (by omega) (by omega))
 obtain rfl:i=n:=by omega
 rw[SW_n hA hB];refine zq [41,16,16,40] ?_;exact zf (L' := [(b,.cells (pre++intsC (P++(B++(M++(A++S))))++sp).toArray 3)]) ⟨rfl,rfl⟩
theorem tr_sRot(P A B S:List Int)(hA:0<A.length)(hB:0<B.length)(hl:l=P++(A++(B++S)))(hl' : l' = P++(B++(A++S)))(hN:l.length=N)(a c d:Int)(ha:a=(P.length:Nat))(hc:c=(P.length+A.length:Nat))(hd:d=(P.length+A.length+B.length:Nat))(fv:Value):Tr prog 187 [.slice (some ⟨b,pre.length,none⟩) N cp,.int .i64 a,.int .i64 c,.int .i64 d,fv] ([(b,.cells (pre++intsC (l)++sp).toArray 3)]) (fun u L' => u=.tuple #[]∧L' = [(b,.cells (pre++intsC (l')++sp).toArray 3)]):=by
 subst ha hc hd;have hN3:P.length+A.length+B.length+S.length=N:=by rw[←hN,hl];simp only[Y3];omega
 refine YR func187 ntmps187 fun W F=>?_
 refine zq [3,4,0,0] ?_;refine Yb rfl rfl (A.length) ?_;refine zq [1,2,5,3,4,0,0] ?_;refine Yb rfl rfl (B.length) ?_;refine zq [1,2,5,3,20] ?_;refine YM (σ:=List Int×List Int×List Int×List Int×List Int) [(0,_),(2,_),(4,_)] (fun s=>[(10,.int .i64 s.2.2.1.length),(11,.int .i64 s.2.2.2.1.length)]) (fun s=>(b,.cells (pre++intsC (s.1)++sp).toArray 3)::F) (fun s=>s.1=P++(s.2.1++(s.2.2.1++(s.2.2.2.1++(s.2.2.2.2++S))))∧s.2.1.length+s.2.2.1.length=A.length∧s.2.1++(s.2.2.2.1++(s.2.2.1++s.2.2.2.2))=B++A∧0<s.2.2.1.length∧0<s.2.2.2.1.length∧s.1.length=N∧s.2.2.2.1.length≤B.length) (fun s=>s.2.2.1.length+s.2.2.2.1.length) (l,[],A,B,[]) ⟨by rw[hl];rfl,Nat.zero_add _,by simp,hA,hB,hN,Nat.le_refl _⟩ ?_;rintro ⟨cur,D1,X,Y,D2⟩ KK ⟨hc1,hc2,hc3,hX0,hY0,hcl,hYB⟩ hK;dsimp only[Y1,Y2]at hK ⊢;dsimp only at hc1 hc2 hc3 hX0 hY0 hcl hYB ⊢;refine zq [3,3,4,0,0,27,2,5] ?_;refine Yd rfl (fun h1=>?_) (fun h1=>?_)
 ·
  have hne:X.length≠Y.length:=by omega
  refine zq [11,5,20,3,4,0,0,44,2,5] ?_;refine Yd rfl (fun h2=>?_) (fun h2=>?_)
  ·
   have hgt:Y.length<X.length:=by omega
   refine zq [3,4,0,0,0] ?_;refine Yb rfl rfl (P.length+D1.length) ?_;refine zq [0,0,0] ?_;refine Ops.ef rfl (ef_call (tr_sSwap b cp pre sp cur (P++((D1++Y)++(X.drop Y.length++(X.take Y.length++(D2++S))))) N hN2 (P++D1) (X.take Y.length) (X.drop Y.length) Y (D2++S) Y.length (by rw[List.length_take];omega) rfl (by rw[hc1];(conv=>lhs;rw[←List.take_append_drop Y.length X]);simp only[Y7]) (by simp only[Y7]) hcl _ _ _ (by rw[Y3]) (by rw[Y3,Y6];omega) rfl _) rfl rfl) ?_;rintro _ _ ⟨_,_,⟨rfl,rfl⟩,rfl,rfl⟩;refine Ops.app ?_;refine zq [2,5,4,0,0] ?_;refine Yb rfl rfl (X.length-Y.length) ?_;refine zq [1,2,19,49] ?_;rw[show ((X.length-Y.length:Nat):Int)=((X.drop Y.length).length:Nat) by rw[Y6],show ((Y.length:Nat):Int)=((X.take Y.length).length:Nat) by rw[List.length_take,Nat.min_eq_left (by omega)]];refine Yy (hK (P++((D1++Y)++(X.drop Y.length++(X.take Y.length++(D2++S)))),D1++Y,X.drop Y.length,X.take Y.length,D2) ⟨rfl,by dsimp only;rw[Y3,Y6];omega,by dsimp only;rw[←hc3,Y7,←Y7 (X.take Y.length),List.take_append_drop],by dsimp only;rw[Y6];omega,by dsimp only;rw[List.length_take];omega,by dsimp only;rw[←hcl,hc1];simp only[Y3,List.length_take,Y6];omega,by dsimp only;rw[List.length_take];omega⟩ (by dsimp only;rw[List.length_take,Y6];omega))
  have hlt:X.length<Y.length:=by omega
  refine zq [3,4,0,0,0] ?_;refine Yb rfl rfl (P.length+D1.length) ?_;refine zq [0,0] ?_;refine Ya rfl rfl (P.length+A.length+Y.length) ?_;refine zq [0] ?_;refine Yb rfl rfl (P.length+A.length+Y.length-X.length) ?_;refine zq [0,0] ?_;refine Ops.ef rfl (ef_call (tr_sSwap b cp pre sp cur (P++(D1++(Y.drop (Y.length-X.length)++(Y.take (Y.length-X.length)++((X++D2)++S))))) N hN2 (P++D1) X (Y.take (Y.length-X.length)) (Y.drop (Y.length-X.length)) (D2++S) X.length rfl (by rw[Y6];omega) (by rw[hc1];(conv=>lhs;rw[←List.take_append_drop (Y.length-X.length) Y]);simp only[Y7]) (by simp only[Y7]) hcl _ _ _ (by rw[Y3]) (by rw[Y3,List.length_take];omega) rfl _) rfl rfl) ?_;rintro _ _ ⟨_,_,⟨rfl,rfl⟩,rfl,rfl⟩;refine Ops.app ?_;refine zq [2,5,4,0,0] ?_;refine Yb rfl rfl (Y.length-X.length) ?_;refine zq [1,2,19,49] ?_;rw[show ((X.length:Nat):Int)=((Y.drop (Y.length-X.length)).length:Nat) by rw[Y6,Nat.sub_sub_self (by omega)],show ((Y.length-X.length:Nat):Int)=((Y.take (Y.length-X.length)).length:Nat) by rw[List.length_take,Nat.min_eq_left (by omega)]];refine Yy (hK (P++(D1++(Y.drop (Y.length-X.length)++(Y.take (Y.length-X.length)++((X++D2)++S)))),D1,Y.drop (Y.length-X.length),Y.take (Y.length-X.length),X++D2) ⟨rfl,by dsimp only;rw[Y6];omega,by dsimp only;rw[←hc3,←Y7 (Y.take (Y.length-X.length)),List.take_append_drop],by dsimp only;rw[Y6];omega,by dsimp only;rw[List.length_take];omega,by dsimp only;rw[←hcl,hc1];simp only[Y3,List.length_take,Y6];omega,by dsimp only;rw[List.length_take];omega⟩ (by dsimp only;rw[List.length_take,Y6];omega))
 have heq:X.length=Y.length:=by omega
 refine zq [41,16,16,40,5,4,0,0,0] ?_;refine Yb rfl rfl (P.length+D1.length) ?_;refine zq [0,0,0] ?_;refine Ops.ef rfl (ef_call (tr_sSwap b cp pre sp cur l' N hN2 (P++D1) X [] Y (D2++S) X.length rfl (by omega) (by rw[hc1];simp only[Y7,Y2]) (by rw[hl'];have e:=congrArg (fun z=>P++(z++S)) hc3;simp only[Y7,Y2]at e ⊢;exact e.symm) hcl _ _ _ (by rw[Y3]) (by rw[Y3];simp only[Y5];omega) rfl _) rfl rfl) ?_;rintro _ _ ⟨_,_,⟨rfl,rfl⟩,rfl,rfl⟩;refine Ops.app ?_;refine Ops.nil ?_;exact zf (L' := [(b,.cells (pre++intsC (l')++sp).toArray 3)]) ⟨rfl,rfl⟩
end
theorem tr_sIns(fc:Nat)[hG:GoFn prog fc](cap:List Value)(Hc:Hp)(key:Int→Int)(Dm:Int→Prop)(hcmp:∀x y,Dm x→Dm y→TrR prog fc (.int .i64 x::.int .i64 y::cap) Hc (.int .i64 (cmpK key x y)))(b cp:Nat)(pre sp:List Value)(l l' : List Int)(N:Nat)(hN2:N≤2^30)(P X S:List Int)(hX:X.Pairwise (·<·))(hD:∀x,x∈X→Dm x)(hl:l=P++(X++S))(hl' : l' = P++(srt key X++S))(hN:l.length=N)(a c:Int)(ha:a=(P.length:Nat))(hc:c=(P.length+X.length:Nat)):Tr prog 142 [.slice (some ⟨b,pre.length,none⟩) N cp,.int .i64 a,.int .i64 c,.func (.func fc) #[] cap.toArray] ((b,.cells (pre++intsC (l)++sp).toArray 3)::Hc) (fun u L' => u=.tuple #[]∧L' = (b,.cells (pre++intsC (l')++sp).toArray 3)::Hc):=by
 subst ha hc;have hN3:P.length+X.length+S.length=N:=by rw[←hN,hl];simp only[Y3];omega
 have hst:l=P++(srt key (X.take 1)++(X.drop 1++S)):=by rw[hl,←Y7 (srt key _)]; congr 1; cases X <;> rfl
 subst hst;refine YR func142 ntmps142 fun W F=>?_
 refine zq [3,4,0] ?_;refine Ya rfl rfl (P.length+1) ?_;refine zq [1,2,5,20] ?_;refine YM (σ:=Nat) [(0,_),(1,_),(2,_),(3,_)] (fun s=>[(8,.int .i64 (P.length+s:Nat))]) (fun s=>(b,.cells (pre++intsC (P++(srt key (X.take s)++(X.drop s++S)))++sp).toArray 3)::(Hc++F)) (fun s=>0<s∧s≤X.length+1) (fun s=>X.length+1-s) 1 ⟨by omega,by omega⟩ ?_;rintro i KK ⟨hi0,hi⟩ hK;dsimp only[Y1,Y2]at hK ⊢;refine zq [3,3,4,0,0,42,2,5] ?_;refine Yd rfl (fun h1=>?_) (fun h1=>?_)
 ·
  have hil:i<X.length:=by omega
  obtain ⟨x,hx⟩:∃x,X[i]?=some x:=⟨_,Y8 hil⟩;have hUl:(srt key (X.take i)).length=i:=by rw[srt_len,List.length_take];omega
  have hDx:Dm x:=hD x (List.mem_of_getElem? hx)
  have hDU:∀z,z∈srt key (X.take i)→Dm z:=fun z hz=>hD z (List.mem_of_mem_take ((srt_perm _).subset hz))
  have hbeg:P++(srt key (X.take i)++(X.drop i++S))=MV P (srt key (X.take i)) x i (X.drop (i+1)++S):=by unfold MV;rw[drop_at hx,List.take_of_length_le (l:=srt key (X.take i)) (by omega),List.drop_of_length_le (l:=srt key (X.take i)) (by omega)];simp only[Y7,Y1,Y2]
  have hxn:X.Nodup:=hX.imp (fun h=>by omega)
  have hdo:∀j,j≤i→(∀z,0<j→(srt key (X.take i))[j-1]?=some z→¬key z<key x)→(∀z,(srt key (X.take i))[j]?=some z→key z<key x)→MV P (srt key (X.take i)) x j (X.drop (i+1)++S)=P++(srt key (X.take (i+1))++(X.drop (i+1)++S)):=fun j hj h1 h2=>by
   have hsd:Sd key (srt key (X.take i)):=srt_sd (hxn.sublist (List.take_sublist ..))
   have hlt:∀u,u∈srt key (X.take i)→u<x:=fun u hu=>by
    obtain ⟨q,hq⟩:=List.mem_iff_getElem?.1 ((srt_perm _).subset hu);rw[List.getElem?_take]at hq;split at hq
    ·
     obtain ⟨q1,rfl⟩:=List.getElem?_eq_some_iff.1 hq;obtain ⟨x1,rfl⟩:=List.getElem?_eq_some_iff.1 hx;exact List.pairwise_iff_getElem.1 hX q i q1 x1 (by omega)
    ·
     cases hq
   have h:=sym_y hsd hlt (s:=j) (by omega) h1 h2
   unfold MV;rw[h,take_at hx,srt_congr (B:=X.take i++[x]) (by rw[←take_at hx];exact hxn.sublist (List.take_sublist ..)) ((srt_perm _).append_right _)]
  refine zq [11,5,3,20,3,4,0,1,2,5,20] ?_;refine Wp.loopK (σ:=Nat) [(0,_),(1,_),(2,_),(3,_),(8,_)] (fun s=>[(9,.int .i64 (P.length+s:Nat))]) (fun s=>(b,.cells (pre++intsC (MV P (srt key (X.take i)) x s (X.drop (i+1)++S))++sp).toArray 3)::(Hc++F)) (fun s=>s≤i∧∀z,(srt key (X.take i))[s]?=some z→key z<key x) (fun s=>s) i ⟨Nat.le_refl _,fun z hz=>by rw[List.getElem?_eq_none (by omega)]at hz;cases hz⟩ ⟨rfl,rfl,rfl,rfl,rfl,trivial⟩ ⟨rfl,trivial⟩ (by intro w ho;(rw[hbeg]at ho;exact Drop.own ho)) ?_;rintro j KK ⟨hj,hjz⟩ hK1;dsimp only[Y1,Y2]at hK1 ⊢;refine zq [3,3] ?_;refine AnyH.start [(b,.cells (pre++intsC (MV P (srt key (X.take i)) x j (X.drop (i+1)++S))++sp).toArray 3)] 17 rfl ?_;refine zd [0,1,1,1] ?_;refine Yh 2 rfl (pv_gtr rfl rfl) ?_;refine zd [3,1] ?_;refine AnyH.split (t:=21) rfl (fun h2=>?_) (fun h2=>?_)
  ·
   obtain ⟨j,rfl⟩:∃k,j=k+1:=⟨j-1,by omega⟩;obtain ⟨z,hz⟩:∃z,(srt key (X.take i))[j]?=some z:=Y9;have hDz:=hDU z (List.mem_of_getElem? hz)
   have hmvl:=MV_len (Q:=P) (U:=srt key (X.take i)) (x:=x) (j:=j+1) (R:=X.drop (i+1)++S)
   have hnx:=ints_get (pre:=pre) (sp:=sp) (MV_x (Q:=P) (U:=srt key (X.take i)) (x:=x) (j:=j+1) (R:=X.drop (i+1)++S) (by omega))
   have hnz:=ints_get (pre:=pre) (sp:=sp) (MV_prev (Q:=P) (x:=x) (R:=X.drop (i+1)++S) hz)
   rw[Y3,Y6]at hmvl;refine Yt 4 rfl (pv_move rfl) ?_;refine Yt 5 rfl (pv_move rfl) ?_;refine Yt 6 rfl (pv_move rfl) ?_;refine Yt 7 rfl (pv_indexAddr (i:=P.length+(j+1)) rfl rfl rfl (by omega)) ?_;refine Yt 8 rfl (pv_load rfl rfl hnx) ?_;refine Yt 9 rfl (pv_move rfl) ?_;refine Yt 10 rfl (pv_move rfl) ?_;refine Yt 11 rfl (pv_sub rfl rfl (w64n (k:=P.length+j) (by omega) (by omega))) ?_;refine Yt 12 rfl (pv_indexAddr (i:=P.length+j) rfl rfl rfl (by omega)) ?_;refine Yt 13 rfl (pv_load rfl rfl hnz) ?_;refine YA 14 ?_;refine Turn.ef rfl ⟨_,_,rfl,rfl,rfl⟩ (ef_callf rfl rfl (hcmp x z hDx hDz) rfl) ?_ ?_ <;> rintro _ _ ⟨_,_,⟨rfl,rfl⟩,rfl,rfl⟩
   ·infer_instance
   refine AnyH.app ?_;refine Yt 15 rfl (pv_lss rfl rfl) ?_;refine Yh 16 rfl (pv_pick_true rfl rfl) ?_;refine YD ?_;refine Ends.seq ?_;refine Yd rfl (fun h3=>?_) (fun h3=>?_)
   ·
    have hkz:key z<key x:=cmpK_lt.1 (by assumption)
    haveI hs1:SetL (pre++intsC (MV P (srt key (X.take i)) x (j+1) (X.drop (i+1)++S))++sp) (pre.length+(P.length+(j+1))*1) [.int .i64 z] (pre++intsC ((MV P (srt key (X.take i)) x (j+1) (X.drop (i+1)++S)).set (P.length+(j+1)) z)++sp):=ints_set z (by rw[hmvl];omega)
    haveI hs2:SetL (pre++intsC ((MV P (srt key (X.take i)) x (j+1) (X.drop (i+1)++S)).set (P.length+(j+1)) z)++sp) (pre.length+(P.length+j)*1) [.int .i64 x] (pre++intsC (MV P (srt key (X.take i)) x j (X.drop (i+1)++S))++sp):=by rw[←MV_down hz];exact ints_set x (by rw[List.length_set,hmvl];omega)
    refine zq [11,5,3,20] ?_;refine AnyH.start ([]:Hp) 18 rfl ?_;refine zd [0,1,1,1,2,1,3,1] ?_;refine Yh 4 rfl (pv_sub rfl rfl (w64n (k:=P.length+j) (by omega) (by omega))) ?_;refine zd [5,1,6,1] ?_;refine Yh 7 rfl (pv_sub rfl rfl (w64n (k:=P.length+j) (by omega) (by omega))) ?_;refine Yh 8 rfl (pv_indexAddr (i:=P.length+j) rfl rfl rfl (by omega)) ?_;refine zd [10,1,11,1] ?_;refine Yh 12 rfl (pv_indexAddr (i:=P.length+(j+1)) rfl rfl rfl (by omega)) ?_;refine YB 9 13 ?_ ?_
    ·
     refine Yv rfl rfl (pv_load rfl rfl hnz) ?_;refine YA 13 ?_;refine Yv rfl rfl (pv_load rfl rfl hnx) ?_;refine Yh 14 rfl (pv_indexAddr (i:=P.length+(j+1)) rfl rfl rfl (by omega)) ?_;refine z1 15 ?_;refine Yh 16 rfl (pv_indexAddr (i:=P.length+j) rfl rfl rfl (by omega)) ?_;refine z1 17 ?_;refine YD ?_;refine zq [19,5,4,0] ?_;refine Yb rfl rfl (P.length+j) ?_;refine zq [1,2,49] ?_;refine Yy (hK1 j ⟨by omega,fun y hy=>by rw[hz]at hy;cases hy;assumption⟩ (by omega))
    refine Yv rfl rfl (pv_load rfl rfl hnx) ?_;refine YA 9 ?_;refine Yv rfl rfl (pv_load rfl rfl hnz) ?_;refine Yh 14 rfl (pv_indexAddr (i:=P.length+(j+1)) rfl rfl rfl (by omega)) ?_;refine z1 15 ?_;refine Yh 16 rfl (pv_indexAddr (i:=P.length+j) rfl rfl rfl (by omega)) ?_;refine z1 17 ?_;refine YD ?_;refine zq [19,5,4,0] ?_;refine Yb rfl rfl (P.length+j) ?_;refine zq [1,2,49] ?_;refine Yy (hK1 j ⟨by omega,fun y hy=>by rw[hz]at hy;cases hy;assumption⟩ (by omega))
   have hc0:¬cmpK key x z<0:=by assumption
   have hdone:=hdo (j+1) hj (fun w _ hw=>by rw[Nat.add_sub_cancel,hz]at hw;cases hw;intro hk;exact hc0 (cmpK_lt.2 hk)) hjz
   refine zq [41,16,16,40,19,5,4,0] ?_;refine Ya rfl rfl (P.length+(i+1)) ?_;refine zq [1,2,49] ?_;rw[hdone];refine Yy (hK (i+1) ⟨by omega,by omega⟩ (by omega))
  obtain rfl:j=0:=by omega
  have hdone:=hdo 0 (by omega) (fun z h _=>by omega) hjz
  refine Yz 4 rfl ?_;refine Yz 5 rfl ?_;refine Yz 6 rfl ?_;refine Yz 7 rfl ?_;refine Yz 8 rfl ?_;refine Yz 9 rfl ?_;refine Yz 10 rfl ?_;refine Yz 11 rfl ?_;refine Yz 12 rfl ?_;refine Yz 13 rfl ?_;refine Yz 14 rfl ?_;refine Yz 15 rfl ?_;refine Yh 16 rfl (pv_pick_false rfl rfl) ?_;refine YD ?_;refine zq [5,17,41,16,16,40,19,5,4,0] ?_;refine Ya rfl rfl (P.length+(i+1)) ?_;refine zq [1,2,49] ?_;rw[hdone];refine Yy (hK (i+1) ⟨by omega,by omega⟩ (by omega))
 have hfin:P++(srt key (X.take i)++(X.drop i++S))=l' := by rw[hl', List.take_of_length_le (by omega),List.drop_of_length_le (by omega)];rfl
 rw[hfin];refine zq [41,16,16,40] ?_;exact zf (L' := (b,.cells (pre++intsC (l')++sp).toArray 3)::Hc) ⟨rfl,rfl⟩
def SymC (b cp:Nat) (pre sp:List Value) (N fc:Nat) (cap:List Value) (Hc:Hp) (key:Int→Int) (Dm:Int→Prop) (m:Nat):Prop :=
  ∀(l l' P X Y S:List Int),X.length+Y.length≤m→0<X.length→0<Y.length→l=P++(X++(Y++S))→l' = P++(srt key (X++Y)++S)→l.length=N→Sd key X→Sd key Y→(∀x,x∈X→∀y,y∈Y→x<y)→(∀x,x∈X++Y→Dm x) →
  ∀a c d:Int,a=(P.length:Nat)→c=(P.length+X.length:Nat)→d=(P.length+X.length+Y.length:Nat) →
  Tr prog 143 [.slice (some ⟨b,pre.length,none⟩) N cp,.int .i64 a,.int .i64 c,.int .i64 d,.func (.func fc) #[] cap.toArray] ((b,.cells (pre++intsC (l)++sp).toArray 3)::Hc) (fun u L' => u=.tuple #[]∧L' = (b,.cells (pre++intsC (l')++sp).toArray 3)::Hc)
theorem MV_last(P X:List Int)(y:Int)(S:List Int):P++(X++([y]++S))=MV P X y X.length S:=by unfold MV;rw[List.take_length,List.drop_length];simp only[Y7,Y1,Y2]
section
variable(fc:Nat)[hG:GoFn prog fc](cap:List Value)(Hc:Hp)(key:Int→Int)(Dm:Int→Prop)(hcmp:∀x y,Dm x→Dm y→TrR prog fc (.int .i64 x::.int .i64 y::cap) Hc (.int .i64 (cmpK key x y)))(b cp:Nat)(pre sp:List Value)(l l' : List Int)(N:Nat)(hN2:N≤2^30)(P X Y S:List Int)
include fc hG cap Hc key Dm hcmp b cp pre sp l l' N hN2 P X Y S
theorem tr_sSymX(x:Int)(hx1:X=[x])(hY0:0<Y.length)(hl:l=P++(X++(Y++S)))(hl' : l' = P++(srt key (X++Y)++S))(hN:l.length=N)(hX:Sd key X)(hY:Sd key Y)(hXY:∀x,x∈X→∀y,y∈Y→x<y)(hD:∀x,x∈X++Y→Dm x)(a c d:Int)(ha:a=(P.length:Nat))(hc:c=(P.length+X.length:Nat))(hd:d=(P.length+X.length+Y.length:Nat)):Tr prog 143 [.slice (some ⟨b,pre.length,none⟩) N cp,.int .i64 a,.int .i64 c,.int .i64 d,.func (.func fc) #[] cap.toArray] ((b,.cells (pre++intsC (l)++sp).toArray 3)::Hc) (fun u L' => u=.tuple #[]∧L' = (b,.cells (pre++intsC (l')++sp).toArray 3)::Hc):=by
 subst ha hc hd hx1;have hN3:P.length+1+Y.length+S.length=N:=by rw[←hN,hl];simp only[Y3,List.length_singleton];omega
 have hst:l=MV P Y x 0 S:=hl
 subst hst;have hDx:Dm x:=hD x (by simp)
 have hxY:∀y,y∈Y→x<y:=fun y hy=>hXY x (by simp) y hy
 rw[show ([x]:List Int).length=1 from rfl];refine YR func143 ntmps143 fun W F=>?_
 refine zq [3,3,4,0,0] ?_;refine Yb rfl rfl (1) ?_;refine zq [66,2,5,18,3,4,0,1,2,5,3,4,0,1,2,5,3,20] ?_;refine YL (σ:=Nat×Nat) [(0,_),(1,_),(4,_)] (fun s=>[(10,.int .i64 (P.length+1+s.1:Nat)),(11,.int .i64 (P.length+1+s.2:Nat))]) (fun s=>(s.1≤s.2∧s.2≤Y.length)∧(∀y,0<s.1→Y[s.1-1]?=some y→key x<key y)∧(∀y,Y[s.2]?=some y→¬key x<key y)) (fun s=>s.2-s.1) (0,Y.length) ⟨⟨Nat.zero_le _,Nat.le_refl _⟩,fun y h=>absurd h (by dsimp only;omega),fun y h=>by dsimp only at h;rw[List.getElem?_eq_none (Nat.le_refl _)]at h;cases h⟩ ?_;rintro ⟨s,t⟩ KK ⟨hst1,hs2,ht2⟩ hK;dsimp only[Y1,Y2]at hK ⊢;dsimp only at hst1 hs2 ht2 ⊢;refine zq [3,3,4,0,0,42,2,5] ?_;refine Yd rfl (fun h1=>?_) (fun h1=>?_)
 ·
  have hst2:s<t:=by omega
  obtain ⟨y,hy⟩:∃y,Y[(s+t)/2]?=some y:=Y9;have hDy:Dm y:=hD y (List.mem_append_right _ (List.mem_of_getElem? hy))
  have hmvl:=MV_len (Q:=P) (U:=Y) (x:=x) (j:=0) (R:=S)
  have hnx:=ints_get (pre:=pre) (sp:=sp) (MV_x (Q:=P) (U:=Y) (x:=x) (j:=0) (R:=S) (Nat.zero_le _))
  rw[Nat.add_zero]at hnx;have hny:nth (pre++intsC (MV P Y x 0 S)++sp) (pre.length+(P.length+1+(s+t)/2)*1)=some (.int .i64 y):=ints_get (by show (P++((x::Y)++S))[P.length+1+(s+t)/2]?=some y;rw[show P.length+1+(s+t)/2=P.length+((s+t)/2+1) by omega,mid_get (by simp;omega),List.getElem?_cons_succ];exact hy)
  refine zq [11,5,20,3,4,0,0] ?_;refine Ya rfl rfl (P.length+1+s+(P.length+1+t)) ?_;refine Yp (pv_conv rfl (u64n (k:=P.length+1+s+(P.length+1+t)) rfl (by omega))) ?_;refine Yp (pv_shr rfl rfl (by omega) (shrn (k:=1) (by decide))) ?_;refine Yp (pv_conv rfl (w64n (k:=P.length+1+(s+t)/2) (by omega) (by omega))) ?_;refine zq [1,2,5,3] ?_;refine AnyH.start [(b,.cells (pre++intsC (MV P Y x 0 S)++sp).toArray 3)] 11 rfl ?_;refine zd [0,1,1,1,2,1] ?_;refine Yh 3 rfl (pv_indexAddr (i:=P.length+1+(s+t)/2) rfl rfl rfl (by omega)) ?_;refine Yh 4 rfl (pv_load rfl rfl hny) ?_;refine zd [5,1,6,1] ?_;refine Yh 7 rfl (pv_indexAddr (i:=P.length) rfl rfl rfl (by omega)) ?_;refine Yh 8 rfl (pv_load rfl rfl hnx) ?_;refine YA 9 ?_;refine Turn.ef rfl rfl (ef_callf rfl rfl (hcmp y x hDy hDx) rfl) ?_ ?_ <;> rintro _ _ ⟨_,_,⟨rfl,rfl⟩,rfl,rfl⟩
  ·infer_instance
  refine AnyH.app ?_;refine Yh 10 rfl (pv_lss rfl rfl) ?_;refine YD ?_;refine Ends.seq ?_;refine Yd rfl (fun h2=>?_) (fun h2=>?_)
  ·
   have hky:key x<key y:=cmpK_lt.1 (by assumption)
   refine zq [4,0] ?_;refine Ya rfl rfl (P.length+1+((s+t)/2+1)) ?_;refine zq [1,2,19,49] ?_;refine Yy (hK ((s+t)/2+1,t) ⟨⟨by dsimp only;omega,by dsimp only;omega⟩,fun w _ hw=>by dsimp only at hw;rw[Nat.add_sub_cancel,hy]at hw;cases hw;exact hky,ht2⟩ (by dsimp only;omega))
  have hky:¬key x<key y:=fun hk=>absurd (cmpK_lt.2 hk) (by assumption)
  refine zq [4,0,1,2,19,49] ?_;refine Yy (hK (s,(s+t)/2) ⟨⟨by dsimp only;omega,by dsimp only;omega⟩,hs2,fun w hw=>by dsimp only at hw;rw[hy]at hw;cases hw;exact hky⟩ (by dsimp only;omega))
 obtain rfl:t=s:=by omega
 refine zq [41,16,16,40,5,3,3,4,0,1,2,5,20] ?_;refine YM (σ:=Nat) [(0,_),(10,_)] (fun s=>[(13,.int .i64 (P.length+s:Nat))]) (fun s=>(b,.cells (pre++intsC (MV P Y x s S)++sp).toArray 3)::(Hc++F)) (fun s=>s≤t) (fun s=>t-s) 0 (Nat.zero_le _) ?_;rintro u KK hu hK;dsimp only[Y1,Y2]at hK ⊢;refine zq [3,3,4,0,0] ?_;refine Yb rfl rfl (P.length+t) ?_;refine zq [42,2,5] ?_;refine Yd rfl (fun h3=>?_) (fun h3=>?_)
 ·
  have hus:u<t:=by omega
  obtain ⟨z,hz⟩:∃z,Y[u]?=some z:=Y9;have hmvl:=MV_len (Q:=P) (U:=Y) (x:=x) (j:=u) (R:=S)
  have hnx:=ints_get (pre:=pre) (sp:=sp) (MV_x (Q:=P) (U:=Y) (x:=x) (j:=u) (R:=S) (by omega))
  have hnz:=ints_get (pre:=pre) (sp:=sp) (MV_next (Q:=P) (x:=x) (R:=S) hz)
  haveI hs1:SetL (pre++intsC (MV P Y x u S)++sp) (pre.length+(P.length+u)*1) [.int .i64 z] (pre++intsC ((MV P Y x u S).set (P.length+u) z)++sp):=ints_set z (by rw[hmvl];omega)
  haveI hs2:SetL (pre++intsC ((MV P Y x u S).set (P.length+u) z)++sp) (pre.length+(P.length+(u+1))*1) [.int .i64 x] (pre++intsC (MV P Y x (u+1) S)++sp):=by rw[←MV_up hz];exact ints_set x (by rw[List.length_set,hmvl];omega)
  refine zq [11,5,3,20] ?_;refine AnyH.start ([]:Hp) 18 rfl ?_;refine zd [0,1,1,1,2,1,3,1] ?_;refine Yh 4 rfl (pv_add rfl rfl (w64n (k:=P.length+(u+1)) (by omega) (by omega))) ?_;refine zd [5,1,6,1] ?_;refine Yh 7 rfl (pv_add rfl rfl (w64n (k:=P.length+(u+1)) (by omega) (by omega))) ?_;refine Yh 8 rfl (pv_indexAddr (i:=P.length+(u+1)) rfl rfl rfl (by omega)) ?_;refine zd [10,1,11,1] ?_;refine Yh 12 rfl (pv_indexAddr (i:=P.length+u) rfl rfl rfl (by omega)) ?_;refine YB 9 13 ?_ ?_
  ·
   refine Yv rfl rfl (pv_load rfl rfl hnz) ?_;refine YA 13 ?_;refine Yv rfl rfl (pv_load rfl rfl hnx) ?_;refine Yh 14 rfl (pv_indexAddr (i:=P.length+u) rfl rfl rfl (by omega)) ?_;refine z1 15 ?_;refine Yh 16 rfl (pv_indexAddr (i:=P.length+(u+1)) rfl rfl rfl (by omega)) ?_;refine z1 17 ?_;refine YD ?_;refine zq [19,5,4,0] ?_;refine Ya rfl rfl (P.length+(u+1)) ?_;refine zq [1,2,49] ?_;refine Yy (hK (u+1) (by omega) (by omega))
  refine Yv rfl rfl (pv_load rfl rfl hnx) ?_;refine YA 9 ?_;refine Yv rfl rfl (pv_load rfl rfl hnz) ?_;refine Yh 14 rfl (pv_indexAddr (i:=P.length+u) rfl rfl rfl (by omega)) ?_;refine z1 15 ?_;refine Yh 16 rfl (pv_indexAddr (i:=P.length+(u+1)) rfl rfl rfl (by omega)) ?_;refine z1 17 ?_;refine YD ?_;refine zq [19,5,4,0] ?_;refine Ya rfl rfl (P.length+(u+1)) ?_;refine zq [1,2,49] ?_;refine Yy (hK (u+1) (by omega) (by omega))
 obtain rfl:u=t:=by omega
 have hfin:MV P Y x u S=l' := by rw[hl', ←sym_x hY hxY (t:=u) (by omega) ht2 hs2];rfl
 rw[hfin];refine zq [41,16,16,40,5,10,12] ?_;exact zr (L' := (b,.cells (pre++intsC (l')++sp).toArray 3)::Hc) ⟨rfl,rfl⟩
theorem tr_sSymY(y:Int)(hy1:Y=[y])(hX0:1<X.length)(hl:l=P++(X++(Y++S)))(hl' : l' = P++(srt key (X++Y)++S))(hN:l.length=N)(hX:Sd key X)(hY:Sd key Y)(hXY:∀x,x∈X→∀y,y∈Y→x<y)(hD:∀x,x∈X++Y→Dm x)(a c d:Int)(ha:a=(P.length:Nat))(hc:c=(P.length+X.length:Nat))(hd:d=(P.length+X.length+Y.length:Nat)):Tr prog 143 [.slice (some ⟨b,pre.length,none⟩) N cp,.int .i64 a,.int .i64 c,.int .i64 d,.func (.func fc) #[] cap.toArray] ((b,.cells (pre++intsC (l)++sp).toArray 3)::Hc) (fun u L' => u=.tuple #[]∧L' = (b,.cells (pre++intsC (l')++sp).toArray 3)::Hc):=by
 subst ha hc hd hy1;have hN3:P.length+X.length+1+S.length=N:=by rw[←hN,hl];simp only[Y3,List.length_singleton];omega
 have hst:l=MV P X y X.length S:=hl.trans (MV_last P X y S)
 subst hst;have hDy:Dm y:=hD y (by simp)
 have hXy:∀x,x∈X→x<y:=fun x hx=>hXY x hx y (by simp)
 rw[show ([y]:List Int).length=1 from rfl];refine YR func143 ntmps143 fun W F=>?_
 refine zq [3,3,4,0,0] ?_;refine Yb rfl rfl (X.length) ?_;refine zq [65,2,5,17,11,5,3,3,4,0,0] ?_;refine Yb rfl rfl (1) ?_;refine zq [66,2,5,18,3,4,0,1,2,5,3,4,0,1,2,5,3,20] ?_;refine YL (σ:=Nat×Nat) [(0,_),(2,_),(4,_)] (fun s=>[(14,.int .i64 (P.length+s.1:Nat)),(15,.int .i64 (P.length+s.2:Nat))]) (fun s=>(s.1≤s.2∧s.2≤X.length)∧(∀x,0<s.1→X[s.1-1]?=some x→¬key x<key y)∧(∀x,X[s.2]?=some x→key x<key y)) (fun s=>s.2-s.1) (0,X.length) ⟨⟨Nat.zero_le _,Nat.le_refl _⟩,fun y h=>absurd h (by dsimp only;omega),fun y h=>by dsimp only at h;rw[List.getElem?_eq_none (Nat.le_refl _)]at h;cases h⟩ ?_;rintro ⟨s,t⟩ KK ⟨hst1,hs2,ht2⟩ hK;dsimp only[Y1,Y2]at hK ⊢;dsimp only at hst1 hs2 ht2 ⊢;refine zq [3,3,4,0,0,42,2,5] ?_;refine Yd rfl (fun h1=>?_) (fun h1=>?_)
 ·
  have hst2:s<t:=by omega
  obtain ⟨x,hx⟩:∃x,X[(s+t)/2]?=some x:=Y9;have hDx:Dm x:=hD x (List.mem_append_left _ (List.mem_of_getElem? hx))
  have hmvl:=MV_len (Q:=P) (U:=X) (x:=y) (j:=X.length) (R:=S)
  have hny:=ints_get (pre:=pre) (sp:=sp) (MV_x (Q:=P) (U:=X) (x:=y) (j:=X.length) (R:=S) (Nat.le_refl _))
  have hnx:nth (pre++intsC (MV P X y X.length S)++sp) (pre.length+(P.length+(s+t)/2)*1)=some (.int .i64 x):=ints_get (by rw[←MV_last,mid_get (by omega)];exact hx)
  refine zq [11,5,20,3,4,0,0] ?_;refine Ya rfl rfl (P.length+s+(P.length+t)) ?_;refine Yp (pv_conv rfl (u64n (k:=P.length+s+(P.length+t)) rfl (by omega))) ?_;refine Yp (pv_shr rfl rfl (by omega) (shrn (k:=1) (by decide))) ?_;refine Yp (pv_conv rfl (w64n (k:=P.length+(s+t)/2) (by omega) (by omega))) ?_;refine zq [1,2,5,3] ?_;refine AnyH.start [(b,.cells (pre++intsC (MV P X y X.length S)++sp).toArray 3)] 12 rfl ?_;refine zd [0,1,1,1,2,1] ?_;refine Yh 3 rfl (pv_indexAddr (i:=P.length+X.length) rfl rfl rfl (by omega)) ?_;refine Yh 4 rfl (pv_load rfl rfl hny) ?_;refine zd [5,1,6,1] ?_;refine Yh 7 rfl (pv_indexAddr (i:=P.length+(s+t)/2) rfl rfl rfl (by omega)) ?_;refine Yh 8 rfl (pv_load rfl rfl hnx) ?_;refine YA 9 ?_;refine Turn.ef rfl rfl (ef_callf rfl rfl (hcmp y x hDy hDx) rfl) ?_ ?_ <;> rintro _ _ ⟨_,_,⟨rfl,rfl⟩,rfl,rfl⟩
  ·infer_instance
  refine AnyH.app ?_;refine Yh 10 rfl (pv_lss rfl rfl) ?_;refine Yh 11 rfl (pv_not_dec rfl) ?_;refine YD ?_;refine Ends.seq ?_;refine Yd rfl (fun h2=>?_) (fun h2=>?_)
  ·
   have hkx:¬key x<key y:=fun hk=>absurd (cmpK_lt.2 hk) (by first | assumption | simp_all)
   refine zq [4,0] ?_;refine Ya rfl rfl (P.length+((s+t)/2+1)) ?_;refine zq [1,2,19,49] ?_;refine Yy (hK ((s+t)/2+1,t) ⟨⟨by dsimp only;omega,by dsimp only;omega⟩,fun w _ hw=>by dsimp only at hw;rw[Nat.add_sub_cancel,hx]at hw;cases hw;exact hkx,ht2⟩ (by dsimp only;omega))
  have hkx:key x<key y:=cmpK_lt.1 (by first | assumption | (apply Classical.byContradiction;assumption) | simp_all)
  refine zq [4,0,1,2,19,49] ?_;refine Yy (hK (s,(s+t)/2) ⟨⟨by dsimp only;omega,by dsimp only;omega⟩,hs2,fun w hw=>by dsimp only at hw;rw[hx]at hw;cases hw;exact hkx⟩ (by dsimp only;omega))
 obtain rfl:t=s:=by omega
 refine zq [41,16,16,40,5,3,3,4,0,1,2,5,20] ?_;refine YM (σ:=Nat) [(0,_),(14,_)] (fun s=>[(17,.int .i64 (P.length+s:Nat))]) (fun s=>(b,.cells (pre++intsC (MV P X y s S)++sp).toArray 3)::(Hc++F)) (fun s=>t≤s∧s≤X.length) (fun s=>s) X.length ⟨by omega,Nat.le_refl _⟩ ?_;rintro u KK hu hK;dsimp only[Y1,Y2]at hK ⊢;refine zq [3,3,4,0,0,44,2,5] ?_;refine Yd rfl (fun h3=>?_) (fun h3=>?_)
 ·
  obtain ⟨u,rfl⟩:∃k,u=k+1:=⟨u-1,by omega⟩;obtain ⟨z,hz⟩:∃z,X[u]?=some z:=Y9;have hmvl:=MV_len (Q:=P) (U:=X) (x:=y) (j:=u+1) (R:=S)
  have hny:=ints_get (pre:=pre) (sp:=sp) (MV_x (Q:=P) (U:=X) (x:=y) (j:=u+1) (R:=S) (by omega))
  have hnz:=ints_get (pre:=pre) (sp:=sp) (MV_prev (Q:=P) (x:=y) (R:=S) hz)
  haveI hs1:SetL (pre++intsC (MV P X y (u+1) S)++sp) (pre.length+(P.length+(u+1))*1) [.int .i64 z] (pre++intsC ((MV P X y (u+1) S).set (P.length+(u+1)) z)++sp):=ints_set z (by rw[hmvl];omega)
  haveI hs2:SetL (pre++intsC ((MV P X y (u+1) S).set (P.length+(u+1)) z)++sp) (pre.length+(P.length+u)*1) [.int .i64 y] (pre++intsC (MV P X y u S)++sp):=by rw[←MV_down hz];exact ints_set y (by rw[List.length_set,hmvl];omega)
  refine zq [11,5,3,20] ?_;refine AnyH.start ([]:Hp) 18 rfl ?_;refine zd [0,1,1,1,2,1,3,1] ?_;refine Yh 4 rfl (pv_sub rfl rfl (w64n (k:=P.length+u) (by omega) (by omega))) ?_;refine zd [5,1,6,1] ?_;refine Yh 7 rfl (pv_sub rfl rfl (w64n (k:=P.length+u) (by omega) (by omega))) ?_;refine Yh 8 rfl (pv_indexAddr (i:=P.length+u) rfl rfl rfl (by omega)) ?_;refine zd [10,1,11,1] ?_;refine Yh 12 rfl (pv_indexAddr (i:=P.length+(u+1)) rfl rfl rfl (by omega)) ?_;refine YB 9 13 ?_ ?_
  ·
   refine Yv rfl rfl (pv_load rfl rfl hnz) ?_;refine YA 13 ?_;refine Yv rfl rfl (pv_load rfl rfl hny) ?_;refine Yh 14 rfl (pv_indexAddr (i:=P.length+(u+1)) rfl rfl rfl (by omega)) ?_;refine z1 15 ?_;refine Yh 16 rfl (pv_indexAddr (i:=P.length+u) rfl rfl rfl (by omega)) ?_;refine z1 17 ?_;refine YD ?_;refine zq [19,5,4,0] ?_;refine Yb rfl rfl (P.length+u) ?_;refine zq [1,2,49] ?_;refine Yy (hK u (by omega) (by omega))
  refine Yv rfl rfl (pv_load rfl rfl hny) ?_;refine YA 9 ?_;refine Yv rfl rfl (pv_load rfl rfl hnz) ?_;refine Yh 14 rfl (pv_indexAddr (i:=P.length+(u+1)) rfl rfl rfl (by omega)) ?_;refine z1 15 ?_;refine Yh 16 rfl (pv_indexAddr (i:=P.length+u) rfl rfl rfl (by omega)) ?_;refine z1 17 ?_;refine YD ?_;refine zq [19,5,4,0] ?_;refine Yb rfl rfl (P.length+u) ?_;refine zq [1,2,49] ?_;refine Yy (hK u (by omega) (by omega))
 obtain rfl:u=t:=by omega
 have hfin:MV P X y u S=l' := by rw[hl', ←sym_y hX hXy (s:=u) (by omega) hs2 ht2];rfl
 rw[hfin];refine zq [41,16,16,40,5,10,12] ?_;exact zr (L' := (b,.cells (pre++intsC (l')++sp).toArray 3)::Hc) ⟨rfl,rfl⟩
theorem tr_sSymZ(hX0:1<X.length)(hY0:1<Y.length)(ih:SymC b cp pre sp N fc cap Hc key Dm (X.length+Y.length-1))(hl:l=P++(X++(Y++S)))(hl' : l' = P++(srt key (X++Y)++S))(hN:l.length=N)(hX:Sd key X)(hY:Sd key Y)(hXY:∀x,x∈X→∀y,y∈Y→x<y)(hD:∀x,x∈X++Y→Dm x)(a c d:Int)(ha:a=(P.length:Nat))(hc:c=(P.length+X.length:Nat))(hd:d=(P.length+X.length+Y.length:Nat)):Tr prog 143 [.slice (some ⟨b,pre.length,none⟩) N cp,.int .i64 a,.int .i64 c,.int .i64 d,.func (.func fc) #[] cap.toArray] ((b,.cells (pre++intsC (l)++sp).toArray 3)::Hc) (fun u L' => u=.tuple #[]∧L' = (b,.cells (pre++intsC (l')++sp).toArray 3)::Hc):=by
 subst ha hc hd;have hN3:P.length+X.length+Y.length+S.length=N:=by rw[←hN,hl];simp only[Y3];omega
 subst hl;refine YR func143 ntmps143 fun W F=>?_
 refine zq [3,3,4,0,0] ?_;refine Yb rfl rfl (X.length) ?_;refine zq [65,2,5,17,11,5,3,3,4,0,0] ?_;refine Yb rfl rfl (Y.length) ?_;refine zq [65,2,5,17,11,5,3,4,0,0] ?_;refine Ya rfl rfl (P.length+(P.length+X.length+Y.length)) ?_;refine Yp (pv_conv rfl (u64n (k:=P.length+(P.length+X.length+Y.length)) rfl (by omega))) ?_;refine Yp (pv_shr rfl rfl (by omega) (shrn (k:=1) (by decide))) ?_;refine Yp (pv_conv rfl (w64n (k:=P.length+(X.length+Y.length)/2) (by omega) (by omega))) ?_;refine zq [1,2,5,3,4,0,0] ?_;refine Ya rfl rfl (P.length+(X.length+Y.length)/2+(P.length+X.length)) ?_;refine zq [1,2,5,3,4,1,1,2,5] ?_;refine Wp.cutK (σ:=Unit) [(0,_),(1,_),(2,_),(3,_),(4,_),(18,_),(19,_)] (fun s=>[(20,.int .i64 (P.length+(((X.length+Y.length)/2)-Y.length):Nat)),(21,.int .i64 (P.length+min X.length ((X.length+Y.length)/2):Nat))]) (fun s=>(b,.cells (pre++intsC (P++(X++(Y++S)))++sp).toArray 3)::(Hc++F)) (fun s=>True) ⟨rfl,rfl,rfl,rfl,rfl,rfl,rfl,trivial⟩ (fun _ KK hC0=>?_) ?_
 ·
  dsimp only[Y1,Y2]at hC0;refine zq [3,4,0,0,44,2,5] ?_;refine Yd rfl (fun h1=>?_) (fun h1=>?_)
  ·
   refine zq [3,4,0,0] ?_;refine Yb rfl rfl (P.length+(((X.length+Y.length)/2)-Y.length)) ?_;refine zq [1,2,5,4,0,1,2,49] ?_;rw[show min X.length ((X.length+Y.length)/2)=((X.length+Y.length)/2) by omega]at hC0;refine Yy (hC0 () trivial)
  refine zq [3,4,0,1,2,5,4,0,1,2,49] ?_;rw[show ((X.length+Y.length)/2)-Y.length=0 by omega,show min X.length ((X.length+Y.length)/2)=X.length by omega,Nat.add_zero]at hC0;refine Yy (hC0 () trivial)
 rintro ⟨⟩ _;dsimp only[Y1,Y2]at ⊢;refine zq [3,4,0] ?_;refine Yb rfl rfl (P.length+(X.length+Y.length)/2+(P.length+X.length)-1) ?_;refine zq [1,2,5,3,20] ?_;refine YL (σ:=Nat×Nat) [(0,_),(1,_),(2,_),(3,_),(4,_),(18,_),(19,_),(22,_)] (fun s=>[(20,.int .i64 (P.length+s.1:Nat)),(21,.int .i64 (P.length+s.2:Nat))]) (fun s=>(((X.length+Y.length)/2)-Y.length≤s.1∧s.1≤s.2∧s.2≤X.length∧s.2≤((X.length+Y.length)/2))∧(∀x y,0<s.1→X[s.1-1]?=some x→Y[((X.length+Y.length)/2)-s.1]?=some y→¬key x<key y)∧(∀x y,X[s.2]?=some x→0<((X.length+Y.length)/2)-s.2→Y[((X.length+Y.length)/2)-s.2-1]?=some y→key x<key y)) (fun s=>s.2-s.1) (((X.length+Y.length)/2)-Y.length,min X.length ((X.length+Y.length)/2)) ⟨⟨Nat.le_refl _,by dsimp only;omega,by dsimp only;omega,by dsimp only;omega⟩,fun x y h1 _ h3=>(by dsimp only at h1 h3;rw[List.getElem?_eq_none (by omega)]at h3;cases h3),fun x y h1 h2 _=>by dsimp only at h1 h2;rw[List.getElem?_eq_none (by omega)]at h1;cases h1⟩ ?_;rintro ⟨s,t⟩ KK ⟨hst1,hs2,ht2⟩ hK;dsimp only[Y1,Y2]at hK ⊢;dsimp only at hst1 hs2 ht2 ⊢;refine zq [3,3,4,0,0,42,2,5] ?_;refine Yd rfl (fun h2=>?_) (fun h2=>?_)
 ·
  have hst2:s<t:=by omega
  obtain ⟨x,hx⟩:∃x,X[(s+t)/2]?=some x:=Y9;obtain ⟨y,hy⟩:∃y,Y[((X.length+Y.length)/2)-1-(s+t)/2]?=some y:=Y9;have hDx:Dm x:=hD x (List.mem_append_left _ (List.mem_of_getElem? hx))
  have hDy:Dm y:=hD y (List.mem_append_right _ (List.mem_of_getElem? hy))
  have hnx:nth (pre++intsC (P++(X++(Y++S)))++sp) (pre.length+(P.length+(s+t)/2)*1)=some (.int .i64 x):=ints_get (by rw[mid_get (by omega)];exact hx)
  have hny:nth (pre++intsC (P++(X++(Y++S)))++sp) (pre.length+(P.length+X.length+(((X.length+Y.length)/2)-1-(s+t)/2))*1)=some (.int .i64 y):=ints_get (by rw[←Y7 P,show P.length+X.length+(((X.length+Y.length)/2)-1-(s+t)/2)=(P++X).length+(((X.length+Y.length)/2)-1-(s+t)/2) by rw[Y3],mid_get (by omega)];exact hy)
  refine zq [11,5,20,3,4,0,0] ?_;refine Ya rfl rfl (P.length+s+(P.length+t)) ?_;refine Yp (pv_conv rfl (u64n (k:=P.length+s+(P.length+t)) rfl (by omega))) ?_;refine Yp (pv_shr rfl rfl (by omega) (shrn (k:=1) (by decide))) ?_;refine Yp (pv_conv rfl (w64n (k:=P.length+(s+t)/2) (by omega) (by omega))) ?_;refine zq [1,2,5,3] ?_;refine AnyH.start [(b,.cells (pre++intsC (P++(X++(Y++S)))++sp).toArray 3)] 14 rfl ?_;refine zd [0,1,1,1,2,1,3,1] ?_;refine Yh 4 rfl (pv_sub rfl rfl (w64n (k:=P.length+X.length+(((X.length+Y.length)/2)-1-(s+t)/2)) (by omega) (by omega))) ?_;refine Yh 5 rfl (pv_indexAddr (i:=P.length+X.length+(((X.length+Y.length)/2)-1-(s+t)/2)) rfl rfl rfl (by omega)) ?_;refine Yh 6 rfl (pv_load rfl rfl hny) ?_;refine zd [7,1,8,1] ?_;refine Yh 9 rfl (pv_indexAddr (i:=P.length+(s+t)/2) rfl rfl rfl (by omega)) ?_;refine Yh 10 rfl (pv_load rfl rfl hnx) ?_;refine YA 11 ?_;refine Turn.ef rfl rfl (ef_callf rfl rfl (hcmp y x hDy hDx) rfl) ?_ ?_ <;> rintro _ _ ⟨_,_,⟨rfl,rfl⟩,rfl,rfl⟩
  ·infer_instance
  refine AnyH.app ?_;refine Yh 12 rfl (pv_lss rfl rfl) ?_;refine Yh 13 rfl (pv_not_dec rfl) ?_;refine YD ?_;refine Ends.seq ?_;refine Yd rfl (fun h3=>?_) (fun h3=>?_)
  ·
   have hkx:¬key x<key y:=fun hk=>absurd (cmpK_lt.2 hk) (by first | assumption | simp_all)
   refine zq [4,0] ?_;refine Ya rfl rfl (P.length+((s+t)/2+1)) ?_;refine zq [1,2,19,49] ?_;refine Yy (hK ((s+t)/2+1,t) ⟨⟨by dsimp only;omega,by dsimp only;omega,by dsimp only;omega,by dsimp only;omega⟩,fun w v _ hw hv=>by dsimp only at hw hv;rw[Nat.add_sub_cancel,hx]at hw;rw[show ((X.length+Y.length)/2)-((s+t)/2+1)=((X.length+Y.length)/2)-1-(s+t)/2 by omega,hy]at hv;cases hw;cases hv;exact hkx,ht2⟩ (by dsimp only;omega))
  have hkx:key x<key y:=cmpK_lt.1 (by first | assumption | (apply Classical.byContradiction;assumption) | simp_all)
  refine zq [4,0,1,2,19,49] ?_;refine Yy (hK (s,(s+t)/2) ⟨⟨by dsimp only;omega,by dsimp only;omega,by dsimp only;omega,by dsimp only;omega⟩,hs2,fun w v hw _ hv=>by dsimp only at hw hv;rw[hx]at hw;rw[show ((X.length+Y.length)/2)-(s+t)/2-1=((X.length+Y.length)/2)-1-(s+t)/2 by omega,hy]at hv;cases hw;cases hv;exact hkx⟩ (by dsimp only;omega))
 obtain rfl:t=s:=by omega
 have hstep:=sym_step hX hY hXY (s:=t) (t:=((X.length+Y.length)/2)-t) (by omega) (by omega) hs2 ht2
 refine zq [41,16,16,40,5,3,4,0,0] ?_;refine Yb rfl rfl (P.length+(((X.length+Y.length)/2)+X.length-t)) ?_;refine zq [1,2,5] ?_;refine Wp.cutK (σ:=Unit) [(0,_),(1,_),(3,_),(4,_),(18,_),(20,_),(24,_)] (fun s=>[]) (fun s=>(b,.cells (pre++intsC (P++((X.take t++Y.take (((X.length+Y.length)/2)-t))++((X.drop t++Y.drop (((X.length+Y.length)/2)-t))++S)))++sp).toArray 3)::(Hc++F)) (fun s=>True) ⟨rfl,rfl,rfl,rfl,rfl,rfl,rfl,trivial⟩ (fun _ KK hC0=>?_) ?_
 ·
  dsimp only[Y1,Y2]at hC0;refine zq [3,4,0,0,42,0] ?_;refine Yc rfl rfl (fun hg=>pv_move rfl) ?_;refine Yc rfl rfl (fun hg=>Ys 182 rfl hg (pv_move rfl)) ?_;refine Yc rfl rfl (fun hg=>Ys 182 rfl hg (Ys 183 rfl hg (pv_lss rfl rfl))) ?_;refine zq [46,2,5] ?_;refine Yd rfl (fun h4=>?_) (fun h4=>?_)
  ·
   refine zq [4,0,0,0,0,0] ?_;refine Ops.ef rfl (ef_call (tr_sRot b cp pre sp (P++(X++(Y++S))) (P++((X.take t++Y.take (((X.length+Y.length)/2)-t))++((X.drop t++Y.drop (((X.length+Y.length)/2)-t))++S))) N hN2 (P++X.take t) (X.drop t) (Y.take (((X.length+Y.length)/2)-t)) (Y.drop (((X.length+Y.length)/2)-t)++S) (by rw[Y6];omega) (by rw[List.length_take];omega) (by (conv=>lhs;rw[←List.take_append_drop t X,←List.take_append_drop (((X.length+Y.length)/2)-t) Y]);simp only[Y7]) (by simp only[Y7]) (by simp only[Y3];omega) _ _ _ (by rw[Y3,List.length_take];omega) (by rw[Y3,List.length_take,Y6];omega) (by rw[Y3,List.length_take,Y6,List.length_take];omega) _) rfl rfl) ?_;rintro _ _ ⟨_,_,⟨rfl,rfl⟩,rfl,rfl⟩;refine Ops.app ?_;refine zq [2,49] ?_;refine Yy (hC0 () trivial)
  refine zq [11,49] ?_;have e39:P++(X++(Y++S))=P++((X.take t++Y.take (((X.length+Y.length)/2)-t))++((X.drop t++Y.drop (((X.length+Y.length)/2)-t))++S)):=by
   conv=>lhs;rw[←List.take_append_drop t X,←List.take_append_drop (((X.length+Y.length)/2)-t) Y]
   by_cases e:t<X.length
   ·
    rw[show ((X.length+Y.length)/2)-t=0 by omega];simp only[List.take_zero,List.drop_zero,Y7,Y2]
   ·
    rw[List.drop_of_length_le (by omega)];simp only[Y7,Y2]
  rw[e39];refine Yy (hC0 () trivial)
 rintro ⟨⟩ _;dsimp only[Y1,Y2]at ⊢;refine Wp.cutK (σ:=Unit) [(0,_),(3,_),(4,_),(18,_),(24,_)] (fun s=>[]) (fun s=>(b,.cells (pre++intsC (P++(srt key (X.take t++Y.take (((X.length+Y.length)/2)-t))++((X.drop t++Y.drop (((X.length+Y.length)/2)-t))++S)))++sp).toArray 3)::(Hc++F)) (fun s=>True) ⟨rfl,rfl,rfl,rfl,rfl,trivial⟩ (fun _ KK hC0=>?_) ?_
 ·
  dsimp only[Y1,Y2]at hC0;refine zq [3,4,0,0,42,0] ?_;refine Yc rfl rfl (fun hg=>pv_move rfl) ?_;refine Yc rfl rfl (fun hg=>Ys 196 rfl hg (pv_move rfl)) ?_;refine Yc rfl rfl (fun hg=>Ys 196 rfl hg (Ys 197 rfl hg (pv_lss rfl rfl))) ?_;refine zq [46,2,5] ?_;refine Yd rfl (fun h5=>?_) (fun h5=>?_)
  ·
   refine zq [4,0,0,0,0,0] ?_;refine Ops.ef rfl (ef_call (ih (P++((X.take t++Y.take (((X.length+Y.length)/2)-t))++((X.drop t++Y.drop (((X.length+Y.length)/2)-t))++S))) (P++(srt key (X.take t++Y.take (((X.length+Y.length)/2)-t))++((X.drop t++Y.drop (((X.length+Y.length)/2)-t))++S))) P (X.take t) (Y.take (((X.length+Y.length)/2)-t)) ((X.drop t++Y.drop (((X.length+Y.length)/2)-t))++S) (by rw[List.length_take,List.length_take];omega) (by rw[List.length_take];omega) (by rw[List.length_take];omega) (by simp only[Y7]) rfl (by simp only[Y3,List.length_take,Y6];omega) (hX.sublist (List.take_sublist ..)) (hY.sublist (List.take_sublist ..)) (fun x hx y hy=>hXY x (List.mem_of_mem_take hx) y (List.mem_of_mem_take hy)) (fun x hx=>hD x ((List.mem_append.1 hx).elim (fun h=>List.mem_append_left _ (List.mem_of_mem_take h)) (fun h=>List.mem_append_right _ (List.mem_of_mem_take h)))) _ _ _ rfl (by rw[List.length_take];omega) (by rw[List.length_take,List.length_take];omega)) rfl rfl) ?_;rintro _ _ ⟨_,_,⟨rfl,rfl⟩,rfl,rfl⟩;refine Ops.app ?_;refine zq [2,49] ?_;refine Yy (hC0 () trivial)
  refine zq [11,49] ?_;have e41:srt key (X.take t++Y.take (((X.length+Y.length)/2)-t))=X.take t++Y.take (((X.length+Y.length)/2)-t):=by
   by_cases e:0<t
   ·
    rw[show ((X.length+Y.length)/2)-t=0 by omega,List.take_zero,List.append_nil];exact Sd.srt (hX.sublist (List.take_sublist ..))
   ·
    rw[show t=0 by omega,List.take_zero,Y2];exact Sd.srt (hY.sublist (List.take_sublist ..))
  rw[e41]at hC0;refine Yy (hC0 () trivial)
 rintro ⟨⟩ _;dsimp only[Y1,Y2]at ⊢;refine zq [3,4,0,0,42,0] ?_;refine Yc rfl rfl (fun hg=>pv_move rfl) ?_;refine Yc rfl rfl (fun hg=>Ys 210 rfl hg (pv_move rfl)) ?_;refine Yc rfl rfl (fun hg=>Ys 210 rfl hg (Ys 211 rfl hg (pv_lss rfl rfl))) ?_;refine zq [46,2,5] ?_;refine Yd rfl (fun h6=>?_) (fun h6=>?_)
 ·
  refine zq [4,0,0,0,0,0] ?_;refine Ops.ef rfl (ef_call (ih (P++(srt key (X.take t++Y.take (((X.length+Y.length)/2)-t))++((X.drop t++Y.drop (((X.length+Y.length)/2)-t))++S))) l' (P++srt key (X.take t++Y.take (((X.length+Y.length)/2)-t))) (X.drop t) (Y.drop (((X.length+Y.length)/2)-t)) S (by rw[Y6,Y6];omega) (by rw[Y6];omega) (by rw[Y6];omega) (by simp only[Y7]) (by rw[hl', ←hstep];simp only[Y7]) (by simp only[Y3,srt_len,List.length_take,Y6];omega) (hX.sublist (List.drop_sublist ..)) (hY.sublist (List.drop_sublist ..)) (fun x hx y hy=>hXY x (List.mem_of_mem_drop hx) y (List.mem_of_mem_drop hy)) (fun x hx=>hD x ((List.mem_append.1 hx).elim (fun h=>List.mem_append_left _ (List.mem_of_mem_drop h)) (fun h=>List.mem_append_right _ (List.mem_of_mem_drop h)))) _ _ _ (by rw[Y3,srt_len,Y3,List.length_take,List.length_take];omega) (by rw[Y3,srt_len,Y3,List.length_take,List.length_take,Y6];omega) (by rw[Y3,srt_len,Y3,List.length_take,List.length_take,Y6,Y6];omega)) rfl rfl) ?_;rintro _ _ ⟨_,_,⟨rfl,rfl⟩,rfl,rfl⟩;refine Ops.app ?_;refine Ops.nil ?_;exact zf (L' := (b,.cells (pre++intsC (l')++sp).toArray 3)::Hc) ⟨rfl,rfl⟩
 refine Wp.skip ?_;have e43:P++(srt key (X.take t++Y.take (((X.length+Y.length)/2)-t))++((X.drop t++Y.drop (((X.length+Y.length)/2)-t))++S))=l' := by
  rw[hl', ←hstep];have e44:srt key (X.drop t++Y.drop (((X.length+Y.length)/2)-t))=X.drop t++Y.drop (((X.length+Y.length)/2)-t):=by
   by_cases e:t<X.length
   ·
    rw[List.drop_of_length_le (show Y.length≤((X.length+Y.length)/2)-t by omega),List.append_nil];exact Sd.srt (hX.sublist (List.drop_sublist ..))
   ·
    rw[List.drop_of_length_le (show X.length≤t by omega),Y2];exact Sd.srt (hY.sublist (List.drop_sublist ..))
  rw[e44];simp only[Y7]
 rw[e43];exact zf (L' := (b,.cells (pre++intsC (l')++sp).toArray 3)::Hc) ⟨rfl,rfl⟩
end
end
end Go.Proofs.YtmoeokkelkgnhaaGreat
section
namespace Go.Proofs.YtmoeokkelkgnhaaGreat
open Go.SL
structure CapM where
  kind:Int
  object:Int
  rights:Int
  badge:Int
  guard:Int
  bits:Int
deriving DecidableEq
abbrev CapM.zero:CapM:=⟨0,0,0,0,0,0⟩
def CapM.nums (c:CapM):List Int:=[c.kind,c.object,c.rights,c.badge,c.guard,c.bits]
def capK:List IntKind:=[.i64,.i64,.i64,.u64,.u64,.i64]
abbrev CapM.cells (c:CapM):List Value:=[.int .i64 c.kind,.int .i64 c.object,.int .i64 c.rights,.int .u64 c.badge,.int .u64 c.guard,.int .i64 c.bits]
abbrev CapM.v (c:CapM):Value:=.agg #[.int .i64 c.kind,.int .i64 c.object,.int .i64 c.rights,.int .u64 c.badge,.int .u64 c.guard,.int .i64 c.bits]
theorem CapM.ext_nums{a b:CapM}(h:a.nums=b.nums):a=b:=by
 cases a;cases b;simp[CapM.nums]at h;simp[h]
abbrev SlotM:=Int×Int
abbrev slotV (s:SlotM):Value:=.agg #[.int .i64 s.1,.int .i64 s.2]
structure NodeM where
  blk:Nat
  radix:Nat
  caps:List CapM
def capsCells (l:List CapM):List Value:=l.flatMap CapM.cells
def NodeM.o (n:NodeM):Obj:=.cells (.int .i64 n.radix::capsCells n.caps).toArray 232
structure StoreM where
  mb:Nat
  clk:Nat
  nodes:List (Int×NodeM×Nat)
def storeO (S:StoreM):Obj:=.cells [.map (some S.mb)].toArray 229
def nodeKV (l:List (Int×NodeM×Nat)):List (Int×Value×Nat):=l.map fun e=>(e.1,.pointer (some ⟨e.2.1.blk,0,none⟩),e.2.2)
def StoreM.mapo (S:StoreM):Obj:=mapO encI (nodeKV S.nodes) S.clk
def nodesHp (l:List (Int×NodeM×Nat)):Hp:=l.map fun e=>(e.2.1.blk,e.2.1.o)
def storeHp (sb:Nat) (S:StoreM):Hp:=(sb,storeO S)::(S.mb,S.mapo)::nodesHp S.nodes
def nget (id:Int):List (Int×NodeM×Nat)→Option NodeM
  | []=>none
  | e::l=>if id=e.1 then some e.2.1 else nget id l
theorem mget_nodeKV(id:Int):∀l,mget id (nodeKV l)=(nget id l).map fun n=>.pointer (some ⟨n.blk,0,none⟩)
  | []=>rfl
  | e::l=>by
    simp only[nodeKV,List.map_cons,mget,nget]
    split
    · rfl
    · exact mget_nodeKV id l
theorem nget_split{id:Int}{n:NodeM}:∀{l},nget id l=some n→∃A t B,l=A++(id,n,t)::B∧nget id A=none
  | [],h=>by cases h
  | e::l,h=>by
    simp only[nget]at h
    split at h
    · rename_i hid
      cases h;obtain ⟨i,m,t⟩:=e;simp only at hid;subst hid;exact ⟨[],t,l,rfl,rfl⟩
    · rename_i hid
      obtain ⟨A,t,B,rfl,hA⟩:=nget_split h;exact ⟨e::A,t,B,rfl,by simp[nget,hid,hA]⟩
theorem reads_app{c:List Value}{off:Nat}{vs:List Value}(A B:List Value)(h:c=A++vs++B)(ho:A.length=off):Reads c off vs:=by
 subst h;subst ho
 induction vs generalizing A with
 | nil=>trivial
 | cons v vs ih =>
  refine ⟨by rw[nth_eq];simp,?_⟩;have:=ih (A++[v])
  simpa using this
theorem capsCells_split{l:List CapM}{i:Nat}{c:CapM}(h:l[i]?=some c):capsCells l=capsCells (l.take i)++c.cells++capsCells (l.drop (i+1)):=by
 have hlt:i<l.length:=by
  rcases Nat.lt_or_ge i l.length with h' | h'
  ·
   exact h'
  ·
   rw[List.getElem?_eq_none h']at h;cases h
 have he:l[i]=c:=by rw[Y8 hlt]at h;exact Option.some.inj h
 conv=>lhs;rw[←List.take_append_drop i l,List.drop_eq_getElem_cons hlt,he]
 simp[capsCells,List.flatMap_append]
theorem capsCells_len:∀l:List CapM,(capsCells l).length=6*l.length
  | []=>rfl
  | c::l=>by
    have ih:=capsCells_len l
    have e:capsCells (c::l)=c.cells++capsCells l:=rfl
    rw[e,Y3,ih];simp[CapM.cells];omega
theorem NodeM.reads{n:NodeM}{i:Nat}{c:CapM}(h:n.caps[i]?=some c):Reads (.int .i64 n.radix::capsCells n.caps) (1+i*6) c.cells:=by
 have hlt:i<n.caps.length:=by
  rcases Nat.lt_or_ge i n.caps.length with h' | h'
  ·
   exact h'
  ·
   rw[List.getElem?_eq_none h']at h;cases h
 refine reads_app (.int .i64 n.radix::capsCells (n.caps.take i)) (capsCells (n.caps.drop (i+1))) ?_ ?_
 ·
  rw[capsCells_split h];simp
 ·
  simp[capsCells_len,Nat.min_eq_left (Nat.le_of_lt hlt)];omega
theorem sh_one{r:Nat}(h:r≤4):Value.int .i64 (IntKind.i64.wrap (1*2^(min (r:Int).toNat IntKind.i64.bits)))=.int .i64 ((2^r:Nat):Int):=by
 match r,h with
 | 0,_=>rfl
 | 1,_=>rfl
 | 2,_=>rfl
 | 3,_=>rfl
 | 4,_=>rfl
def rightsOk (r:Int):Bool:=decide (bitsI .andNot .i64 r 7=0)
def fitsM (g n:Int):Bool:=decide (0≤n) && (decide (n≤16) && decide (g.fdiv (2^(min n.toNat 64))=0))
def plainM (c:CapM):CapM :=
  if c.kind=0∨c.kind=10 then ⟨c.kind,0,0,0,0,0⟩
  else if c.kind=4∨c.kind=5 then ⟨c.kind,c.object,c.rights,c.badge,0,0⟩
  else if c.kind=6 then ⟨c.kind,c.object,c.rights,0,0,0⟩
  else if c.kind=2 then ⟨c.kind,c.object,0,0,c.guard,c.bits⟩
  else ⟨c.kind,c.object,0,0,0,0⟩
def checkM (c:CapM):Int :=
  if c.kind<0∨11<c.kind then 2
  else if plainM c≠c∨c.object<0∨c.object.fdiv (2^6)≠0∨rightsOk c.rights=false∨c.badge.fdiv (2^28)≠0∨fitsM c.guard c.bits=false then 10 else 0
section capops
variable {P : Program} {n : Nat} {D : List Deferred} {E : Env} {L : Hp} {d : Option Tmp} {ty : TypeId} {pos : String} {aft : Array Edge} {g : Option (Nat × Bool)} {T : TypeId} {x y : Operand} {yt : TypeId}
theorem nums_iff{a b:CapM}:a.nums=b.nums↔a=b:=⟨CapM.ext_nums,fun h=>by rw[h]⟩
theorem pv_neq_cap{a b:CapM}[hT:NumTy P T capK](hx:ev E x=some a.v)(hy:ev E y=some b.v):Pv P n D E L ⟨d,.binOp .neq T x y yt,ty,pos,aft,g⟩ (.bool (decide (a≠b))):=by
 have:=pv_neq_nums (P:=P) (n:=n) (D:=D) (L:=L) (d:=d) (ty:=ty) (pos:=pos) (aft:=aft) (g:=g) (T:=T) (yt:=yt) a.nums b.nums hx hy rfl rfl
 rwa [decide_eq_decide.2 (not_congr (nums_iff (a:=a) (b:=b)))]at this
theorem slot_iff{a b:SlotM}:[a.1,a.2]=[b.1,b.2]↔a=b:=by
 obtain ⟨a1,a2⟩:=a;obtain ⟨b1,b2⟩:=b;simp
theorem pv_eql_slot{a b:SlotM}[hT:NumTy P T [.i64,.i64]](hx:ev E x=some (slotV a))(hy:ev E y=some (slotV b)):Pv P n D E L ⟨d,.binOp .eql T x y yt,ty,pos,aft,g⟩ (.bool (decide (a=b))):=by
 have:=pv_eql_nums (P:=P) (n:=n) (D:=D) (L:=L) (d:=d) (ty:=ty) (pos:=pos) (aft:=aft) (g:=g) (T:=T) (yt:=yt) [a.1,a.2] [b.1,b.2] hx hy rfl rfl
 rwa [decide_eq_decide.2 (slot_iff (a:=a) (b:=b))]at this
end capops
def zeroCaps:List CapM:=List.replicate 16 CapM.zero
structure NodeM.Wf (n:NodeM):Prop where
  len:n.caps.length=16
  lo:1≤n.radix
  hi:n.radix≤4
def StoreM.Wf (S:StoreM):Prop:=∀id n,nget id S.nodes=some n→n.Wf∧0≤id∧id<64
def NodeM.has (n:NodeM) (i:Int):Prop:=0≤i∧i<(2^n.radix:Nat)
instance (n:NodeM) (i:Int):Decidable (n.has i):=inferInstanceAs (Decidable (_∧_))
def StoreM.cap? (S:StoreM) (s:SlotM):Option CapM :=
  match nget s.1 S.nodes with
  | none=>none
  | some n=>if n.has s.2 then n.caps[s.2.toNat]? else none
def StoreM.addr (S:StoreM) (s:SlotM):Option Addr :=
  match nget s.1 S.nodes with
  | none=>none
  | some n=>if n.has s.2 then some ⟨n.blk,1+s.2.toNat*6,none⟩ else none
theorem NodeM.Wf.lt{n:NodeM}(h:n.Wf){i:Int}(hi:n.has i):i.toNat<16:=by
 have h1:(2:Nat)^n.radix≤2^4:=Nat.pow_le_pow_right (by omega) h.hi
 unfold NodeM.has at hi;omega
instance {sb:Nat} {S:StoreM}:Blk (storeHp sb S) sb (.cells [.map (some S.mb)].toArray 229 (0,0)):=⟨List.mem_cons_self ..⟩
instance {sb:Nat} {S:StoreM}:Blk (storeHp sb S) S.mb (mapO encI (nodeKV S.nodes) S.clk):=⟨List.mem_cons_of_mem _ (List.mem_cons_self ..)⟩
theorem nodesHp_mem{id:Int}{n:NodeM}{l:List (Int×NodeM×Nat)}(h:nget id l=some n):(n.blk,n.o)∈nodesHp l:=by
 obtain ⟨A,t,B,rfl,_⟩:=nget_split h;simp[nodesHp]
theorem StoreM.blk{sb:Nat}{S:StoreM}{id:Int}{n:NodeM}(h:nget id S.nodes=some n):Blk (storeHp sb S) n.blk (.cells (.int .i64 n.radix::capsCells n.caps).toArray 232 (0,0)) :=
  ⟨List.mem_cons_of_mem _ (List.mem_cons_of_mem _ (nodesHp_mem h))⟩
def nset (id:Int) (n' : NodeM):List (Int×NodeM×Nat)→List (Int×NodeM×Nat)
  | []=>[]
  | e::l=>if id=e.1 then (e.1,n', e.2.2)::l else e::nset id n' l
theorem nset_split{id:Int}{n n' : NodeM}:∀{A:List (Int×NodeM×Nat)} {t:Nat} {B},nget id A=none→nset id n' (A++(id,n,t)::B)=A++(id,n', t)::B
  | [],t,B,_=>by simp[nset]
  | e::A,t,B,h=>by
    simp only[nget]at h
    split at h
    · cases h
    · rename_i hid
      simp only[Y1,nset,hid,if_false];rw[nset_split h]
theorem nodeKV_nset{id:Int}{n n' : NodeM}(hb:n'.blk=n.blk):∀{l},nget id l=some n→nodeKV (nset id n' l)=nodeKV l
  | [],h=>by cases h
  | e::l,h=>by
    simp only[nget]at h;simp only[nset]
    split at h
    · rename_i hid;cases h;simp[hid,nodeKV,hb]
    · rename_i hid
      have:=nodeKV_nset hb h
      simp only[hid,if_false,nodeKV,List.map_cons]at this ⊢;rw[this]
def StoreM.setNode (S:StoreM) (id:Int) (n' : NodeM):StoreM:={ S with nodes:=nset id n' S.nodes }
theorem StoreM.upd{sb:Nat}{S:StoreM}{id:Int}{n n' : NodeM}(h:nget id S.nodes=some n)(hb:n'.blk=n.blk){o' : Obj}(ho:o' = n'.o):Upd (storeHp sb S) n.blk o' (storeHp sb (S.setNode id n')):=by
 subst ho;have hk:=nodeKV_nset hb h
 obtain ⟨A,t,B,hl,hA⟩:=nget_split h;refine ⟨(sb,storeO S)::(S.mb,S.mapo)::nodesHp A,nodesHp B,n.o,?_,?_⟩
 ·
  simp[storeHp,hl,nodesHp]
 ·
  have e1:(S.setNode id n').nodes=A++(id,n', t)::B:=by simp only[StoreM.setNode];rw[hl,nset_split hA]
  have e2:(S.setNode id n').mapo=S.mapo:=by simp only[StoreM.mapo];rw[show (S.setNode id n').nodes=nset id n' S.nodes from rfl,hk];rfl
  have e3:storeO (S.setNode id n')=storeO S:=rfl
  have e4:(S.setNode id n').mb=S.mb:=rfl
  simp only[storeHp,e1,e2,e3,e4,nodesHp,List.map_append,List.map_cons,hb]
  rfl
theorem setL_of{l l' vs:List Value}{i:Nat}(A B:List Value)(vs0:List Value)(h:l=A++vs0++B)(h' : l' = A++vs++B)(hi:A.length=i)(hv:vs0.length=vs.length):SetL l i vs l' := by
 subst h;subst h';subst hi
 refine ⟨by simp[hv],by simp[hv],fun j=>?_⟩
 by_cases h1:j<A.length
 ·
  rw[if_neg (by omega),Y7,Y7,List.getElem?_append_left h1,List.getElem?_append_left h1]
 ·
  by_cases h2:j<A.length+vs.length
  ·
   rw[if_pos (by omega),Y7,List.getElem?_append_right (by omega),List.getElem?_append_left (by omega)]
  ·
   rw[if_neg (by omega),List.getElem?_append_right (by simp;omega),List.getElem?_append_right (by simp;omega)];simp[hv]
theorem capsCells_set{l:List CapM}{i:Nat}{c c' : CapM}(h:l[i]?=some c):capsCells (l.set i c')=capsCells (l.take i)++c'.cells++capsCells (l.drop (i+1)):=by
 have hlt:i<l.length:=by
  rcases Nat.lt_or_ge i l.length with h' | h'
  ·
   exact h'
  ·
   rw[List.getElem?_eq_none h']at h;cases h
 rw[List.set_eq_take_append_cons_drop,if_pos hlt];simp[capsCells,List.flatMap_append]
theorem NodeM.setL{n:NodeM}{i:Nat}{c c' : CapM}(h:n.caps[i]?=some c):SetL (.int .i64 n.radix::capsCells n.caps) (1+i*6) c'.cells (.int .i64 n.radix::capsCells (n.caps.set i c')):=by
 have hlt:i<n.caps.length:=by
  rcases Nat.lt_or_ge i n.caps.length with h' | h'
  ·
   exact h'
  ·
   rw[List.getElem?_eq_none h']at h;cases h
 refine setL_of (.int .i64 n.radix::capsCells (n.caps.take i)) (capsCells (n.caps.drop (i+1))) c.cells ?_ ?_ ?_ rfl
 ·
  rw[capsCells_split h];simp
 ·
  rw[capsCells_set h];simp
 ·
  simp[capsCells_len,Nat.min_eq_left (Nat.le_of_lt hlt)];omega
def NodeM.set (n:NodeM) (i:Nat) (c:CapM):NodeM:={ n with caps:=n.caps.set i c }
def StoreM.setCap (S:StoreM) (s:SlotM) (c:CapM):StoreM :=
  match nget s.1 S.nodes with
  | none=>S
  | some n=>S.setNode s.1 (n.set s.2.toNat c)
section
variable{S:StoreM}{s:SlotM}
include S s
theorem StoreM.cap_some{c:CapM}(h:S.cap? s=some c):∃n,nget s.1 S.nodes=some n∧n.has s.2∧n.caps[s.2.toNat]?=some c∧S.addr s=some ⟨n.blk,1+s.2.toNat*6,none⟩:=by
 unfold StoreM.cap? at h;unfold StoreM.addr;cases hn:nget s.1 S.nodes with
 | none=>rw[hn]at h;cases h
 | some n =>
  rw[hn]at h;simp only at h ⊢
  split at h
  ·
   rename_i hh;exact ⟨n,rfl,hh,h,if_pos hh⟩
  ·
   cases h
theorem StoreM.cap_none(hw:S.Wf)(h:S.cap? s=none):S.addr s=none:=by
 unfold StoreM.cap? at h;unfold StoreM.addr;cases hn:nget s.1 S.nodes with
 | none=>rfl
 | some n =>
  rw[hn]at h;simp only at h ⊢
  split at h
  ·
   rename_i hh
   have h1:=(hw _ _ hn).1
   have h2:=h1.lt hh
   rw[List.getElem?_eq_none_iff]at h;rw[h1.len]at h;omega
  ·
   rename_i hh;exact if_neg hh
theorem StoreM.setCap_eq{n:NodeM}(h:nget s.1 S.nodes=some n)(c:CapM):S.setNode s.1 (n.set s.2.toNat c)=S.setCap s c:=by
 unfold StoreM.setCap;rw[h]
end
def StoreM.put (S:StoreM) (s:SlotM) (c:CapM):Int×StoreM :=
  match S.cap? s with
  | none=>(6,S)
  | some x=>if checkM c≠0 then (checkM c,S) else if c.kind=0 then (3,S) else if x.kind≠0 then (4,S) else (0,S.setCap s c)
def StoreM.take (S:StoreM) (s:SlotM):CapM×Int×StoreM :=
  match S.cap? s with
  | none=>(CapM.zero,6,S)
  | some x=>if x.kind=0 then (CapM.zero,3,S) else (x,0,S.setCap s CapM.zero)
def StoreM.get (S:StoreM) (s:SlotM):CapM×Int :=
  match S.cap? s with
  | none=>(CapM.zero,6)
  | some x=>(x,0)
def StoreM.radix (S:StoreM) (id:Int):Int :=
  match nget id S.nodes with
  | none=>0
  | some n=>n.radix
theorem mput_new{id:Int}{v:Value}{t:Nat}:∀{l:List (Int×NodeM×Nat)},nget id l=none→mput id v t (nodeKV l)=nodeKV l++[(id,v,t)]
  | [],_=>rfl
  | e::l,h=>by
    simp only[nget]at h
    split at h
    · cases h
    · rename_i hid
      have:=mput_new (v:=v) (t:=t) h
      simp only[nodeKV,List.map_cons,mput,hid,if_false,Y1]at this ⊢;rw[this]
theorem mclk_new{id:Int}{cl:Nat}{l:List (Int×NodeM×Nat)}(h:nget id l=none):mclk id (nodeKV l) cl=cl+1:=by
 simp[mclk,mget_nodeKV,h]
def StoreM.addNode (S:StoreM) (id:Int) (b r:Nat):StoreM:={ S with nodes:=S.nodes++[(id,⟨b,r,zeroCaps⟩,S.clk)],clk:=S.clk+1 }
def storeMapU (sb:Nat) (S:StoreM) (o:Obj):Hp:=(sb,storeO S)::(S.mb,o)::nodesHp S.nodes
theorem StoreM.updMap{sb:Nat}{S:StoreM}{o:Obj}:Upd (storeHp sb S) S.mb o (storeMapU sb S o):=⟨[(sb,storeO S)],nodesHp S.nodes,S.mapo,rfl,rfl⟩
theorem StoreM.add_perm{sb b r:Nat}{S:StoreM}{id:Int}{F:Hp}(h:nget id S.nodes=none) :
    ((b,.cells (.int .i64 (r:Int)::capsCells zeroCaps).toArray 232)::(storeMapU sb S (mapO encI (mput id (.pointer (some ⟨b,0,none⟩)) S.clk (nodeKV S.nodes)) (mclk id (nodeKV S.nodes) S.clk))++F)).Perm (storeHp sb (S.addNode id b r)++F):=by
  rw[mput_new h,mclk_new h];have e:storeHp sb (S.addNode id b r)=storeMapU sb S (mapO encI (nodeKV S.nodes++[(id,.pointer (some ⟨b,0,none⟩),S.clk)]) (S.clk+1))++[(b,.cells (.int .i64 (r:Int)::capsCells zeroCaps).toArray 232)]:=by
    simp[storeHp,storeMapU,StoreM.addNode,StoreM.mapo,nodeKV,nodesHp,storeO,NodeM.o]
  rw[e,←Y1];exact (List.perm_append_singleton _ _).symm.append_right F
instance tyZNode:TyZ Tryz.prog 232 (.agg (.int .i64 0::capsCells zeroCaps).toArray):=⟨by kernel_rfl⟩
theorem nget_app_none{id:Int}{l m:List (Int×NodeM×Nat)}(h:nget id l=none):nget id (l++m)=nget id m:=by
 induction l with
 | nil=>rfl
 | cons e l ih =>
  simp only[nget]at h
  split at h
  ·
   cases h
  ·
   rename_i hid;simp[nget,hid,ih h]
theorem nget_app_some{id:Int}{n:NodeM}{l m:List (Int×NodeM×Nat)}(h:nget id l=some n):nget id (l++m)=some n:=by
 induction l with
 | nil=>cases h
 | cons e l ih =>
  simp only[nget]at h;simp only[Y1,nget]
  split at h
  ·
   rename_i hid;rw[if_pos hid];exact h
  ·
   rename_i hid;rw[if_neg hid];exact ih h
end Go.Proofs.YtmoeokkelkgnhaaGreat
end
namespace Go.Proofs.YtmoeokkelkgnhaaGreat
open Go.SL
open Go.Proofs.Tryz
section
theorem tr_rightsOk(r:Int):TrR prog 160 [.int .i64 r] ([]) (.bool (rightsOk r)):=by
 refine YR func160 ntmps160 fun W F=>?_
 refine zq [3,4,1,2,5,3,4,0] ?_;refine Yp (pv_andNot rfl rfl rfl) ?_;refine zq [22,1,2,5,10] ?_;exact zr ⟨rfl,rfl⟩
theorem tr_fits(gd n:Int):TrR prog 161 [.int .u64 gd,.int .i64 n] ([]) (.bool (fitsM gd n)):=by
 refine YR func161 ntmps161 fun W F=>?_
 refine zq [3,4,1,2,5,3,4,0,43,0] ?_;refine Ops.split (t:=7) rfl (fun h1=>?_) (fun h1=>?_)
 ·
  refine zq [21] ?_;refine Yg (pv_leq rfl rfl) ?_;refine zq [24,0] ?_;refine Ops.split (t:=11) rfl (fun h2=>?_) (fun h2=>?_)
  ·
   refine zq [21,21] ?_;refine Yg (pv_shr rfl rfl (by omega) rfl) ?_;refine Yg (pv_eql rfl rfl) ?_;refine zq [24,1,2,5,10] ?_;exact zs (h:=⟨by simp[fitsM,IntKind.bits, *] <;> rfl,rfl⟩)
  refine zq [13,13,13,13,26,1,2,5,10] ?_;exact zs (h:=⟨by simp[fitsM,IntKind.bits, *] <;> rfl,rfl⟩)
 refine zq [13,13,26,0,13,13,13,13,26,1,2,5,10] ?_;exact zs (h:=⟨by simp[fitsM,IntKind.bits, *] <;> rfl,rfl⟩)
theorem tr_plain(c:CapM):TrR prog 159 [c.v] ([]) ((plainM c).v):=by
 refine YR func159 ntmps159 fun W F=>?_
 refine Wr ?_;refine zB fun b1=>?_
 refine zA fun b2=>?_
 refine zq [2,5,3,4,6,8,23] ?_;refine zA fun b3=>?_
 refine zq [14,2,5,3,3,4,6,8,2,5,20,3,3,4,22,1,2,5] ?_;refine Yd rfl (fun h1=>?_) (fun h1=>?_)
 ·
  refine zq [11,5,18,11,19,5,3,4,32,14,2,5,10] ?_;exact Ends.ret (res_one rfl (rv_cellK [_,_,_,_,_,_] rfl rfl rfl ⟨rfl,rfl,rfl,rfl,rfl,rfl,trivial⟩)) ⟨by simp[plainM, *],rfl⟩
 refine zq [4,22,1,2,5] ?_;refine Yd rfl (fun h2=>?_) (fun h2=>?_)
 ·
  refine zq [11,19,5,3,4,32,14,2,5,10] ?_;exact Ends.ret (res_one rfl (rv_cellK [_,_,_,_,_,_] rfl rfl rfl ⟨rfl,rfl,rfl,rfl,rfl,rfl,trivial⟩)) ⟨by simp[plainM, *],rfl⟩
 refine zq [3,3,4,22,1,2,5] ?_;refine Yd rfl (fun h3=>?_) (fun h3=>?_)
 ·
  refine zq [11,5,18] ?_;refine AnyH.start [(b1,.cells c.cells.toArray 63)] 12 rfl ?_;refine zd [0,0,1,2,2,0,3,2,4,0,5,2,6,0] ?_;refine z1 7 ?_;refine zd [8,0] ?_;refine z1 9 ?_;refine zd [10,0] ?_;refine z1 11 ?_;refine YD ?_;refine zq [19,5,3,4,32,14,2,5,10] ?_;exact Ends.ret (res_one rfl (rv_cellK [_,_,_,_,_,_] rfl rfl rfl ⟨rfl,rfl,rfl,rfl,rfl,rfl,trivial⟩)) ⟨by simp[plainM, *],rfl⟩
 refine zq [4,22,1,2,5] ?_;refine Yd rfl (fun h4=>?_) (fun h4=>?_)
 ·
  refine AnyH.start [(b1,.cells c.cells.toArray 63)] 12 rfl ?_;refine zd [0,0,1,2,2,0,3,2,4,0,5,2,6,0] ?_;refine z1 7 ?_;refine zd [8,0] ?_;refine z1 9 ?_;refine zd [10,0] ?_;refine z1 11 ?_;refine YD ?_;refine zq [19,5,3,4,32,14,2,5,10] ?_;exact Ends.ret (res_one rfl (rv_cellK [_,_,_,_,_,_] rfl rfl rfl ⟨rfl,rfl,rfl,rfl,rfl,rfl,trivial⟩)) ⟨by simp[plainM, *],rfl⟩
 refine zq [3,4,22,1,2,5] ?_;refine Yd rfl (fun h5=>?_) (fun h5=>?_)
 ·
  refine AnyH.start [(b1,.cells c.cells.toArray 63)] 8 rfl ?_;refine zd [0,0,1,2,2,0,3,2,4,0] ?_;refine z1 5 ?_;refine zd [6,0] ?_;refine z1 7 ?_;refine YD ?_;refine zq [19,5,3,4,32,14,2,5,10] ?_;exact Ends.ret (res_one rfl (rv_cellK [_,_,_,_,_,_] rfl rfl rfl ⟨rfl,rfl,rfl,rfl,rfl,rfl,trivial⟩)) ⟨by simp[plainM, *],rfl⟩
 refine zq [3,4,22,1,2,5] ?_;refine Yd rfl (fun h6=>?_) (fun h6=>?_)
 ·
  refine AnyH.start [(b1,.cells c.cells.toArray 63)] 12 rfl ?_;refine zd [0,0,1,2,2,0,3,2,4,0,5,2,6,0] ?_;refine z1 7 ?_;refine zd [8,0] ?_;refine z1 9 ?_;refine zd [10,0] ?_;refine z1 11 ?_;refine YD ?_;refine zq [19,5,3,4,32,14,2,5,10] ?_;exact Ends.ret (res_one rfl (rv_cellK [_,_,_,_,_,_] rfl rfl rfl ⟨rfl,rfl,rfl,rfl,rfl,rfl,trivial⟩)) ⟨by simp[plainM, *],rfl⟩
 refine zq [4,6,8,6,25,2,19,5,3,4,32,14,2,5,10] ?_;exact Ends.ret (res_one rfl (rv_cellK [_,_,_,_,_,_] rfl rfl rfl ⟨rfl,rfl,rfl,rfl,rfl,rfl,trivial⟩)) ⟨by simp[plainM, *],rfl⟩
theorem tr_check(c:CapM):TrR prog 97 [c.v] ([]) (.int .i64 (checkM c)):=by
 refine YR func97 ntmps97 fun W F=>?_
 refine Wr ?_;refine zB fun b1=>?_
 refine zq [1,2,5,3,20,3,4,6,8,42,0] ?_;refine Ops.split (t:=7) rfl (fun h1=>?_) (fun h1=>?_)
 ·
  refine zq [13,13,13,24,1,2,5,18,3,4,1,2,5,10,15,12] ?_;exact zs (h:=⟨by (first | (simp_all [checkM,rightsOk,IntKind.bits];done) | (simp_all [checkM,rightsOk,IntKind.bits];omega) | (simp_all [checkM,rightsOk,IntKind.bits];intros;omega)),rfl⟩)
 refine zq [50,51] ?_;refine Yg (pv_gtr rfl rfl) ?_;refine zq [26,1,2,5] ?_;refine Yd rfl (fun h2=>?_) (fun h2=>?_)
 ·
  refine zq [3,4,1,2,5,10,15,12] ?_;exact zs (h:=⟨by (first | (simp_all [checkM,rightsOk,IntKind.bits];done) | (simp_all [checkM,rightsOk,IntKind.bits];omega) | (simp_all [checkM,rightsOk,IntKind.bits];intros;omega)),rfl⟩)
 refine zq [3,3] ?_;refine AnyH.startL 5 rfl ?_;refine zd [0,11,2,11] ?_;refine YA 1 ?_;refine Yu rfl rfl (ef_callr (tr_plain c) rfl rfl) ?_;refine Yh 3 rfl (pv_neq_cap rfl rfl) ?_;refine zd [4,5] ?_;refine YD ?_;refine Ends.seq ?_;refine Wp.cond_t rfl (fun h3=>?_) (fun h3=>?_)
 ·
  refine zq [11,5,18,3,4,1,2,5,10,15,12] ?_;exact zs (h:=⟨by (first | (simp_all [checkM,rightsOk,IntKind.bits];done) | (simp_all [checkM,rightsOk,IntKind.bits];omega) | (simp_all [checkM,rightsOk,IntKind.bits];intros;omega)),rfl⟩)
 refine zq [3,4,6,8,42,0] ?_;refine Ops.split (t:=20) rfl (fun h4=>?_) (fun h4=>?_)
 ·
  refine zq [13,13,13,13,24,1,2,5,18,11,5,18,3,4,1,2,5,10,15,12] ?_;exact zs (h:=⟨by (first | (simp_all [checkM,rightsOk,IntKind.bits];done) | (simp_all [checkM,rightsOk,IntKind.bits];omega) | (simp_all [checkM,rightsOk,IntKind.bits];intros;omega)),rfl⟩)
 refine zq [50,51] ?_;refine Yg (pv_shr rfl rfl (by omega) rfl) ?_;refine Yg (pv_neq rfl rfl) ?_;refine zq [26,1,2,5] ?_;refine Wp.cond_t rfl (fun h5=>?_) (fun h5=>?_)
 ·
  refine zq [11,5,18,3,4,1,2,5,10,15,12] ?_;exact zs (h:=⟨by (first | (simp_all [checkM,rightsOk,IntKind.bits];done) | (simp_all [checkM,rightsOk,IntKind.bits];omega) | (simp_all [checkM,rightsOk,IntKind.bits];intros;omega)),rfl⟩)
 refine zq [3,4,6,8] ?_;refine zC (tr_rightsOk _) ?_;refine zq [55,1,2,5] ?_;refine Wp.cond_t rfl (fun h6=>?_) (fun h6=>?_)
 ·
  refine zq [11,5,18,3,4,1,2,5,10,15,12] ?_;exact zs (h:=⟨by (first | (simp_all [checkM,rightsOk,IntKind.bits];done) | (simp_all [checkM,rightsOk,IntKind.bits];omega) | (simp_all [checkM,rightsOk,IntKind.bits];intros;omega)),rfl⟩)
 refine zq [3,4,6,8] ?_;refine Yp (pv_shr rfl rfl (by omega) rfl) ?_;refine zq [27,1,2,5] ?_;refine Wp.cond_t rfl (fun h7=>?_) (fun h7=>?_)
 ·
  refine zq [11,5,18,3,4,1,2,5,10,15,12] ?_;exact zs (h:=⟨by (first | (simp_all [checkM,rightsOk,IntKind.bits];done) | (simp_all [checkM,rightsOk,IntKind.bits];omega) | (simp_all [checkM,rightsOk,IntKind.bits];intros;omega)),rfl⟩)
 refine zq [4,6,8,6,8] ?_;refine zC (tr_fits _ _) ?_;refine zq [39,1,2,5] ?_;refine Wp.cond_t rfl (fun h8=>?_) (fun h8=>?_)
 ·
  refine zq [3,4,1,2,5,10,15,12] ?_;exact zs (h:=⟨by (first | (simp_all [checkM,rightsOk,IntKind.bits];done) | (simp_all [checkM,rightsOk,IntKind.bits];omega) | (simp_all [checkM,rightsOk,IntKind.bits];intros;omega)),rfl⟩)
 refine zq [11,19,5,3,4,1,2,5,10] ?_;exact zs (h:=⟨by (first | (simp_all [checkM,rightsOk,IntKind.bits];done) | (simp_all [checkM,rightsOk,IntKind.bits];omega) | (simp_all [checkM,rightsOk,IntKind.bits];intros;omega)),rfl⟩)
theorem tr_size(b:Nat)(n:NodeM)(h:n.radix≤4):TrR prog 167 [.pointer (some ⟨b,0,none⟩)] ([(b,.cells (.int .i64 n.radix::capsCells n.caps).toArray 232)]) (.int .i64 (2^n.radix:Nat)):=by
 refine YR func167 ntmps167 fun W F=>?_
 refine zq [3,4,1,2,5,3,4,0,9,6,8] ?_;refine Yp (pv_shl rfl rfl (by omega) rfl) ?_;refine zq [1,2,5,10] ?_;exact zs (h:=⟨sh_one h,rfl⟩)
section
variable(sb:Nat)(S:StoreM)
include sb S
theorem tr_slot_none(s:SlotM)(h:nget s.1 S.nodes=none):TrR prog 104 [.pointer (some ⟨sb,0,none⟩),slotV s] (storeHp sb S) (.pointer none):=by
 have hm:(mget s.1 (nodeKV S.nodes)).getD (.pointer none)=.pointer none:=by rw[mget_nodeKV,h];rfl
 refine YR func104 ntmps104 fun W F=>?_
 refine Wr ?_;refine zB fun b1=>?_
 refine zq [1,2,5,3] ?_;refine AnyH.startL 8 rfl ?_;refine zd [0,1,1,3,2,0,3,2,4,0,5,2] ?_;refine Yh 6 rfl (pv_lookup_i s.1 rfl rfl hm) ?_;refine zd [7,5] ?_;refine YD ?_;refine zq [5,3,3] ?_;refine AnyH.startL 14 rfl ?_;refine zd [0,1] ?_;refine Yh 1 rfl (pv_eql_nil rfl rfl) ?_;refine zd [2,1] ?_;refine Yz 3 rfl ?_;refine Yz 4 rfl ?_;refine Yz 5 rfl ?_;refine Yh 6 rfl (pv_pick_true rfl rfl) ?_;refine zd [7,1] ?_;refine Yz 8 rfl ?_;refine Yz 9 rfl ?_;refine Yz 10 rfl ?_;refine Yz 11 rfl ?_;refine Yz 12 rfl ?_;refine Yh 13 rfl (pv_pick_true rfl rfl) ?_;refine YD ?_;refine zq [5,18,3,4,1,2,5,10,12] ?_;exact zr ⟨rfl,rfl⟩
theorem tr_slot_node(s:SlotM)(n:NodeM)(h:nget s.1 S.nodes=some n)(hw:n.Wf):TrR prog 104 [.pointer (some ⟨sb,0,none⟩),slotV s] (storeHp sb S) (.pointer (if n.has s.2 then some ⟨n.blk,1+s.2.toNat*6,none⟩ else none)):=by
 have hm:(mget s.1 (nodeKV S.nodes)).getD (.pointer none)=.pointer (some ⟨n.blk,0,none⟩):=by rw[mget_nodeKV,h];rfl
 have hblk:=S.blk (sb:=sb) h
 have hlt:=@NodeM.Wf.lt n hw s.2
 refine YR func104 ntmps104 fun W F=>?_
 refine Wr ?_;refine zB fun b1=>?_
 refine zq [1,2,5,3] ?_;refine AnyH.startL 8 rfl ?_;refine zd [0,1,1,3,2,0,3,2,4,0,5,2] ?_;refine Yh 6 rfl (pv_lookup_i s.1 rfl rfl hm) ?_;refine zd [7,5] ?_;refine YD ?_;refine zq [5,3,3] ?_;refine AnyH.startL 14 rfl ?_;refine zd [0,1] ?_;refine Yh 1 rfl (pv_eql_nil rfl rfl) ?_;refine zd [2,1] ?_;refine Yt 3 rfl (pv_fieldAddr0 rfl rfl) ?_;refine Yt 4 rfl (pv_load rfl rfl rfl) ?_;refine Yt 5 rfl (pv_lss rfl rfl) ?_;refine Yh 6 rfl (pv_pick_false rfl rfl) ?_;refine zd [7,1] ?_;refine AnyH.split (t:=20) rfl (fun h1=>?_) (fun h1=>?_)
 ·
  refine Yz 8 rfl ?_;refine Yz 9 rfl ?_;refine Yz 10 rfl ?_;refine Yz 11 rfl ?_;refine Yz 12 rfl ?_;refine Yh 13 rfl (pv_pick_true rfl rfl) ?_;refine YD ?_;refine zq [5,18,3,4,1,2,5,10,12] ?_;exact zs (h:=⟨by rw[if_neg (by unfold NodeM.has;omega)],rfl⟩)
 refine Yt 8 rfl (pv_fieldAddr0 rfl rfl) ?_;refine Yt 9 rfl (pv_load rfl rfl rfl) ?_;refine Yt 10 rfl (pv_move rfl) ?_;refine YA 11 ?_;refine Turn.ef rfl ⟨_,_,rfl,rfl,rfl⟩ (ef_callr (tr_size n.blk n hw.hi) rfl rfl) ?_ ?_ <;> rintro _ _ ⟨rfl,rfl⟩
 ·infer_instance
 refine Yt 12 rfl (pv_geq rfl rfl) ?_;refine Yh 13 rfl (pv_pick_false rfl rfl) ?_;refine YD ?_;refine Ends.seq ?_;refine Yd rfl (fun h2=>?_) (fun h2=>?_)
 ·
  refine zq [3,4,1,2,5,10,12] ?_;exact zs (h:=⟨by rw[if_neg (by unfold NodeM.has;omega)],rfl⟩)
 refine zq [11,5,3] ?_;refine AnyH.startL 7 rfl ?_;refine zd [0,1,1,0,2,2,3,3,4,0] ?_;refine Yh 5 rfl (pv_indexAddrA (i:=s.2.toNat) rfl rfl (by unfold NodeM.has at *;omega) (hlt (by unfold NodeM.has at *;omega))) ?_;refine zd [6,5] ?_;refine YD ?_;refine zq [5,10] ?_;exact zs (h:=⟨by rw[if_pos (by unfold NodeM.has;omega)],rfl⟩)
theorem tr_slot(s:SlotM)(hw:S.Wf):TrR prog 104 [.pointer (some ⟨sb,0,none⟩),slotV s] (storeHp sb S) (.pointer (S.addr s)):=by
 cases hn:nget s.1 S.nodes with
 | none=>exact (tr_slot_none sb S s hn).eq (by simp[StoreM.addr,hn])
 | some n=>exact (tr_slot_node sb S s n hn (hw _ _ hn).1).eq (by simp[StoreM.addr,hn])
theorem tr_put_none(s:SlotM)(c:CapM)(hw:S.Wf)(h:S.cap? s=none):Tr prog 154 [.pointer (some ⟨sb,0,none⟩),slotV s,c.v] (storeHp sb S) (fun v L' => v=.int .i64 (S.put s c).1∧L' = storeHp sb (S.put s c).2):=by
 refine YR func154 ntmps154 fun W F=>?_
 refine Wr ?_;refine zB fun b1=>?_
 refine zB fun b2=>?_
 refine zq [1,2,5,3,4,0,30] ?_;refine zC (TrR.eq (r' := .pointer none) (tr_slot sb S s hw) (by rw[S.cap_none hw h])) ?_;refine zq [1,2,5,3,3,4,0,59,2,5,18,3,4,1,2,5,10,12] ?_;exact zs (L' := storeHp sb S) (h:=⟨by simp[StoreM.put, *],by simp[StoreM.put, *]⟩)
theorem tr_put_some(s:SlotM)(c x:CapM)(hw:S.Wf)(h:S.cap? s=some x):Tr prog 154 [.pointer (some ⟨sb,0,none⟩),slotV s,c.v] (storeHp sb S) (fun v L' => v=.int .i64 (S.put s c).1∧L' = storeHp sb (S.put s c).2):=by
 obtain ⟨n,hn,hh,hc,ha⟩:=S.cap_some h;have hblk:=S.blk (sb:=sb) hn
 have hset:=NodeM.setL (c' := c) hc
 have hupd:Upd (storeHp sb S) n.blk (.cells (.int .i64 n.radix::capsCells (n.caps.set s.2.toNat c)).toArray 232 (0,0)) (storeHp sb (S.setNode s.1 (n.set s.2.toNat c))):=S.upd (n' := n.set s.2.toNat c) hn rfl rfl
 refine YR func154 ntmps154 fun W F=>?_
 refine Wr ?_;refine zB fun b1=>?_
 refine zB fun b2=>?_
 refine zq [1,2,5,3,4,0,30] ?_;refine zC (TrR.eq (r' := .pointer (some ⟨n.blk,1+s.2.toNat*6,none⟩)) (tr_slot sb S s hw) (by rw[ha])) ?_;refine zq [1,2,5,3,3,4,0,59,2,5,17,11,5,3,3,4,32] ?_;refine zC (tr_check c) ?_;refine zq [1,2,5,20,3,4,0,27,1,2,5] ?_;refine Yd rfl (fun h1=>?_) (fun h1=>?_)
 ·
  refine zq [3,4,0,1,2,5,10,15,12] ?_;exact zs (L' := storeHp sb S) (h:=⟨by simp[StoreM.put, *],by simp[StoreM.put, *]⟩)
 refine zq [3,4,6,8,22,1,2,5] ?_;refine Yd rfl (fun h2=>?_) (fun h2=>?_)
 ·
  refine zq [3,4,1,2,5,10,15,12] ?_;exact zs (L' := storeHp sb S) (h:=⟨by simp[StoreM.put, *],by simp[StoreM.put, *]⟩)
 refine zq [3,4,0,9,61] ?_;refine Yp (pv_load rfl rfl (NodeM.reads hc).1) ?_;refine zq [27,1,2,5] ?_;refine Yd rfl (fun h3=>?_) (fun h3=>?_)
 ·
  refine zq [3,4,1,2,5,10,15,12] ?_;exact zs (L' := storeHp sb S) (h:=⟨by simp[StoreM.put, *],by simp[StoreM.put, *]⟩)
 refine zq [11,19,5,3,4,0,32,9,14,2,5,3,4,1,2,5,10] ?_;exact zs (L' := storeHp sb (S.setNode s.1 (n.set s.2.toNat c))) (h:=⟨by simp[StoreM.put, *],by rw[S.setCap_eq hn];simp[StoreM.put, *]⟩)
theorem tr_put(s:SlotM)(c:CapM)(hw:S.Wf):Tr prog 154 [.pointer (some ⟨sb,0,none⟩),slotV s,c.v] (storeHp sb S) (fun v L' => v=.int .i64 (S.put s c).1∧L' = storeHp sb (S.put s c).2):=by
 cases h:S.cap? s with
 | none=>exact tr_put_none sb S s c hw h
 | some x=>exact tr_put_some sb S s c x hw h
theorem tr_radix_none(id:Int)(h:nget id S.nodes=none):TrR prog 149 [.pointer (some ⟨sb,0,none⟩),.int .i64 id] (storeHp sb S) (.int .i64 0):=by
 have hm:(mget id (nodeKV S.nodes)).getD (.pointer none)=.pointer none:=by rw[mget_nodeKV,h];rfl
 refine YR func149 ntmps149 fun W F=>?_
 refine zq [3,4,1,2,5,3,3,4,0,9,6,8,0] ?_;refine Yp (pv_lookup_i id rfl rfl hm) ?_;refine zq [1,2,5,3,4,0,60,2,5,17,11,5,3,4,1,2,5,10] ?_;exact zr ⟨rfl,rfl⟩
theorem tr_radix_some(id:Int)(n:NodeM)(h:nget id S.nodes=some n):TrR prog 149 [.pointer (some ⟨sb,0,none⟩),.int .i64 id] (storeHp sb S) (.int .i64 n.radix):=by
 have hm:(mget id (nodeKV S.nodes)).getD (.pointer none)=.pointer (some ⟨n.blk,0,none⟩):=by rw[mget_nodeKV,h];rfl
 have hblk:=S.blk (sb:=sb) h
 refine YR func149 ntmps149 fun W F=>?_
 refine zq [3,4,1,2,5,3,3,4,0,9,6,8,0] ?_;refine Yp (pv_lookup_i id rfl rfl hm) ?_;refine zq [1,2,5,3,4,0,60,2,5,18,3,4,0,9,6,8,1,2,5,10,12] ?_;exact zr ⟨rfl,rfl⟩
theorem tr_radix(id:Int):TrR prog 149 [.pointer (some ⟨sb,0,none⟩),.int .i64 id] (storeHp sb S) (.int .i64 (S.radix id)):=by
 cases h:nget id S.nodes with
 | none=>exact (tr_radix_none sb S id h).eq (by simp[StoreM.radix,h])
 | some n=>exact (tr_radix_some sb S id n h).eq (by simp[StoreM.radix,h])
end
theorem tr_slotsNew  : Tr prog 147 [] ([]) (fun v L' => ∃sb S,v=.pointer (some ⟨sb,0,none⟩)∧L' = storeHp sb S∧S.nodes=[]):=by
 refine YR func147 ntmps147 fun W F=>?_
 refine zq [3,4,1,2,5,3,4] ?_;refine Yq (ef_makeMap rfl rfl) fun b1=>?_
 refine zq [23] ?_;refine zB fun b2=>?_
 refine zq [1,2,5,10] ?_;exact zs (L' := [(b2,.cells [.map (some b1)].toArray 229 (0,0)),(b1,.map #[] 0)]) (h:=⟨b2,⟨b1,0,[]⟩,rfl,rfl,rfl⟩)
def addErr (S:StoreM) (id r:Int):Int:=if id<0∨64≤id∨r<1∨4<r then 1 else if (nget id S.nodes).isSome then 4 else 0
section
variable(sb:Nat)(S:StoreM)(id r:Int)
include sb S id r
theorem tr_add_some(n:NodeM)(h:nget id S.nodes=some n):Tr prog 188 [.pointer (some ⟨sb,0,none⟩),.int .i64 id,.int .i64 r] (storeHp sb S) (fun v L' => v=.int .i64 (addErr S id r)∧((addErr S id r≠0∧L' = storeHp sb S)∨(addErr S id r=0∧∃b,L' = storeHp sb (S.addNode id b r.toNat)))):=by
 have hm:(mget id (nodeKV S.nodes)).getD (.pointer none)=.pointer (some ⟨n.blk,0,none⟩):=by rw[mget_nodeKV,h];rfl
 refine YR func188 ntmps188 fun W F=>?_
 refine zq [3,4,1,2,5,3,20,3,4,0,42,0] ?_;refine Ops.split (t:=10) rfl (fun h1=>?_) (fun h1=>?_)
 ·
  refine zq [13,13,24,0,13,13,24,0,13,13,24,1,2,5,18,3,4,1,2,5,10,15,12] ?_;exact zs (L' := storeHp sb S) (h:=⟨by simp[addErr, *] <;> omega,.inl ⟨by simp[addErr, *] <;> omega,rfl⟩⟩)
 refine zq [21] ?_;refine Yg (pv_geq rfl rfl) ?_;refine zq [26,0] ?_;refine Ops.split (t:=14) rfl (fun h2=>?_) (fun h2=>?_)
 ·
  refine zq [13,13,24,0,13,13,24,1,2,5,18,3,4,1,2,5,10,15,12] ?_;exact zs (L' := storeHp sb S) (h:=⟨by simp[addErr, *] <;> omega,.inl ⟨by simp[addErr, *] <;> omega,rfl⟩⟩)
 refine zq [21] ?_;refine Yg (pv_lss rfl rfl) ?_;refine zq [26,0] ?_;refine Ops.split (t:=18) rfl (fun h3=>?_) (fun h3=>?_)
 ·
  refine zq [13,13,24,1,2,5,18,3,4,1,2,5,10,15,12] ?_;exact zs (L' := storeHp sb S) (h:=⟨by simp[addErr, *] <;> omega,.inl ⟨by simp[addErr, *] <;> omega,rfl⟩⟩)
 refine zq [21] ?_;refine Yg (pv_gtr rfl rfl) ?_;refine zq [26,1,2,5] ?_;refine Yd rfl (fun h4=>?_) (fun h4=>?_)
 ·
  refine zq [3,4,1,2,5,10,15,12] ?_;exact zs (L' := storeHp sb S) (h:=⟨by simp[addErr, *] <;> omega,.inl ⟨by simp[addErr, *] <;> omega,rfl⟩⟩)
 refine zq [3,4,0,9,6,8,0] ?_;refine Yp (pv_lookup_i id rfl rfl hm) ?_;refine zq [60,1,2,5,18,3,4,1,2,5,10,15,12] ?_;exact zs (L' := storeHp sb S) (h:=⟨by simp[addErr, *] <;> omega,.inl ⟨by simp[addErr, *] <;> omega,rfl⟩⟩)
theorem tr_add_none(h:nget id S.nodes=none):Tr prog 188 [.pointer (some ⟨sb,0,none⟩),.int .i64 id,.int .i64 r] (storeHp sb S) (fun v L' => v=.int .i64 (addErr S id r)∧((addErr S id r≠0∧L' = storeHp sb S)∨(addErr S id r=0∧∃b,L' = storeHp sb (S.addNode id b r.toNat)))):=by
 have hm:(mget id (nodeKV S.nodes)).getD (.pointer none)=.pointer none:=by rw[mget_nodeKV,h];rfl
 have hupd:=fun o=>S.updMap (sb:=sb) (o:=o)
 refine YR func188 ntmps188 fun W F=>?_
 refine zq [3,4,1,2,5,3,20,3,4,0,42,0] ?_;refine Ops.split (t:=10) rfl (fun h1=>?_) (fun h1=>?_)
 ·
  refine zq [13,13,24,0,13,13,24,0,13,13,24,1,2,5,18,3,4,1,2,5,10,15,12] ?_;exact zs (L' := storeHp sb S) (h:=⟨by simp[addErr, *] <;> omega,.inl ⟨by simp[addErr, *] <;> omega,rfl⟩⟩)
 refine zq [21] ?_;refine Yg (pv_geq rfl rfl) ?_;refine zq [26,0] ?_;refine Ops.split (t:=14) rfl (fun h2=>?_) (fun h2=>?_)
 ·
  refine zq [13,13,24,0,13,13,24,1,2,5,18,3,4,1,2,5,10,15,12] ?_;exact zs (L' := storeHp sb S) (h:=⟨by simp[addErr, *] <;> omega,.inl ⟨by simp[addErr, *] <;> omega,rfl⟩⟩)
 refine zq [21] ?_;refine Yg (pv_lss rfl rfl) ?_;refine zq [26,0] ?_;refine Ops.split (t:=18) rfl (fun h3=>?_) (fun h3=>?_)
 ·
  refine zq [13,13,24,1,2,5,18,3,4,1,2,5,10,15,12] ?_;exact zs (L' := storeHp sb S) (h:=⟨by simp[addErr, *] <;> omega,.inl ⟨by simp[addErr, *] <;> omega,rfl⟩⟩)
 refine zq [21] ?_;refine Yg (pv_gtr rfl rfl) ?_;refine zq [26,1,2,5] ?_;refine Yd rfl (fun h4=>?_) (fun h4=>?_)
 ·
  refine zq [3,4,1,2,5,10,15,12] ?_;exact zs (L' := storeHp sb S) (h:=⟨by simp[addErr, *] <;> omega,.inl ⟨by simp[addErr, *] <;> omega,rfl⟩⟩)
 refine zq [3,4,0,9,6,8,0] ?_;refine Yp (pv_lookup_i id rfl rfl hm) ?_;refine zq [60,1,2,5,17,11,19,5,3,4,0,9,6,8,0,0,23] ?_;refine zB fun b1=>?_
 refine Yo (ef_mapUpdate_i _ rfl rfl rfl) ?_;refine zq [2,5,3,4,1,2,5,10] ?_;obtain ⟨k,rfl⟩:∃k:Nat,r=k:=⟨r.toNat,by omega⟩;refine Ends.heap (fun w ho=>ho.perm (StoreM.add_perm h)) ?_;exact zs (L' := storeHp sb (S.addNode id b1 k)) (h:=⟨by simp[addErr, *] <;> omega,.inr ⟨by simp[addErr, *] <;> omega,b1,by simp⟩⟩)
theorem tr_add:Tr prog 188 [.pointer (some ⟨sb,0,none⟩),.int .i64 id,.int .i64 r] (storeHp sb S) (fun v L' => v=.int .i64 (addErr S id r)∧((addErr S id r≠0∧L' = storeHp sb S)∨(addErr S id r=0∧∃b,L' = storeHp sb (S.addNode id b r.toNat)))):=by
 cases h:nget id S.nodes with
 | none=>exact tr_add_none sb S id r h
 | some n=>exact tr_add_some sb S id r n h
end
end
section
theorem nget_nset{id:Int}{n n' : NodeM}:∀{l:List (Int×NodeM×Nat)},nget id l=some n→∀o,nget o (nset id n' l)=if o=id then some n' else nget o l
  | [],h,o=>by cases h
  | e::l,h,o=>by
    simp only[nget]at h
    by_cases he:id=e.1
    · rw[if_pos he]at h
      subst he;simp only[nset,nget,if_true]
      split <;> rfl
    · rw[if_neg he]at h
      have ih:=nget_nset (n' := n') h o
      by_cases ho:o=e.1
      · have:o≠id:=fun h' => he (h' ▸ ho)
        simp[nset,nget,he,ho,Ne.symm he]
      · simp[nset,nget,he,ho,ih]
section
variable {S : StoreM} {s : SlotM} {x : CapM} (h : S.cap? s = some x) (c : CapM)
include h
theorem setCap_nget(o:Int):∃n,nget s.1 S.nodes=some n∧n.has s.2∧n.caps[s.2.toNat]?=some x∧nget o (S.setCap s c).nodes=if o=s.1 then some (n.set s.2.toNat c) else nget o S.nodes:=by
 obtain ⟨n,hn,hh,hc,_⟩:=S.cap_some h;refine ⟨n,hn,hh,hc,?_⟩;rw[←S.setCap_eq hn];exact nget_nset hn o
theorem setCap_cap(t:SlotM):(S.setCap s c).cap? t=if t=s then some c else S.cap? t:=by
 obtain ⟨n,hn,hh,hc,e⟩:=setCap_nget h c t.1;have hlt:s.2.toNat<n.caps.length:=by
  rcases Nat.lt_or_ge s.2.toNat n.caps.length with h' | h'
  ·
   exact h'
  ·
   rw[List.getElem?_eq_none h']at hc;cases hc
 unfold StoreM.cap?;rw[e]
 by_cases h1:t.1=s.1
 ·
  rw[if_pos h1,h1,hn];dsimp only;have e0:∀i,(n.set s.2.toNat c).has i↔n.has i:=fun i=>Iff.rfl
  by_cases h2:t.2=s.2
  ·
   have hh' : (n.set s.2.toNat c).has s.2:=hh
   rw[if_pos (Prod.ext h1 h2),h2,if_pos hh'];simp[NodeM.set,hlt]
  ·
   rw[if_neg (fun e=>h2 (congrArg Prod.snd e))]
   by_cases h3:n.has t.2
   ·
    have h4:(n.set s.2.toNat c).has t.2:=h3
    rw[if_pos h3,if_pos h4];have:s.2.toNat≠t.2.toNat:=by have a:=hh.1;have b:=h3.1;omega
    simp[NodeM.set,List.getElem?_set_ne this]
   ·
    have h4:¬(n.set s.2.toNat c).has t.2:=h3
    rw[if_neg h3,if_neg h4]
 ·
  rw[if_neg h1,if_neg (fun e=>h1 (congrArg Prod.fst e))]
theorem setCap_wf(hw:S.Wf):(S.setCap s c).Wf:=by
 intro o m hm;obtain ⟨n,hn,hh,hc,e⟩:=setCap_nget h c o;rw[e]at hm
 by_cases h1:o=s.1
 ·
  rw[if_pos h1]at hm;cases hm
  have:=hw _ _ hn
  exact ⟨⟨by simpa [NodeM.set] using this.1.len,this.1.lo,this.1.hi⟩,by rw[h1];exact this.2⟩
 ·
  rw[if_neg h1]at hm;exact hw _ _ hm
end
section
variable {S : StoreM} {id : Int} (h : nget id S.nodes = none) (b r : Nat)
include h
theorem addNode_nget(o:Int):nget o (S.addNode id b r).nodes=if o=id then some ⟨b,r,zeroCaps⟩ else nget o S.nodes:=by
 unfold StoreM.addNode;dsimp only
 by_cases ho:o=id
 ·
  subst ho;rw[if_pos rfl,nget_app_none h];simp[nget]
 ·
  rw[if_neg ho];cases hn:nget o S.nodes with
  | none=>rw[nget_app_none hn];simp[nget,ho]
  | some n=>exact nget_app_some hn
theorem addNode_cap(t:SlotM):(S.addNode id b r).cap? t=if t.1=id then (if 0≤t.2∧t.2<(2^r:Nat)∧t.2<16 then some CapM.zero else none) else S.cap? t:=by
 unfold StoreM.cap?;rw[addNode_nget h]
 by_cases ht:t.1=id
 ·
  rw[if_pos ht,if_pos ht];dsimp only
  by_cases h1:0≤t.2∧t.2<(2^r:Nat)
  ·
   have h1' : NodeM.has ⟨b,r,zeroCaps⟩ t.2:=h1
   rw[if_pos h1']
   by_cases h2:t.2<16
   ·
    rw[if_pos ⟨h1.1,h1.2,h2⟩];unfold zeroCaps;rw[List.getElem?_replicate,if_pos (by omega)]
   ·
    rw[if_neg (by omega)];unfold zeroCaps;rw[List.getElem?_replicate,if_neg (by omega)]
  ·
   have h1' : ¬NodeM.has ⟨b,r,zeroCaps⟩ t.2:=h1
   rw[if_neg h1', if_neg (by omega)]
 ·
  rw[if_neg ht,if_neg ht]
theorem addNode_wf(hw:S.Wf)(h0:0≤id)(h1:id<64)(h2:1≤r)(hr:r≤4):(S.addNode id b r).Wf:=by
 intro o n hn;rw[addNode_nget h]at hn
 split at hn
 ·
  next h=>cases hn;subst h;exact ⟨⟨by simp[zeroCaps],h2,hr⟩,h0,h1⟩
 ·
  exact hw _ _ hn
end
theorem wf_new{S:StoreM}(hS:S.nodes=[]):S.Wf:=by intro o n h;rw[hS]at h;cases h
end
section
def nodeFull (id:Nat) (caps:List CapM):Nat→List SlotM
  | 0=>[]
  | j+1=>nodeFull id caps j++(if (caps[j]?.getD CapM.zero).kind≠0 then [((id:Int),(j:Int))] else [])
def full1 (S:StoreM) (id:Nat):List SlotM :=
  match nget (id:Int) S.nodes with
  | none=>[]
  | some n=>nodeFull id n.caps 16
def fullUpto (S:StoreM):Nat→List SlotM
  | 0=>[]
  | k+1=>fullUpto S k++full1 S k
def fullM (S:StoreM):List SlotM:=fullUpto S 64
def ndel (id:Int):List (Int×NodeM×Nat)→List (Int×NodeM×Nat)
  | []=>[]
  | e::l=>if id=e.1 then l else e::ndel id l
def StoreM.delNode (S:StoreM) (id:Int):StoreM:={ S with nodes:=ndel id S.nodes }
def StoreM.drop (S:StoreM) (id:Int):Int×StoreM :=
  match nget id S.nodes with
  | none=>(3,S)
  | some n=>if n.caps≠zeroCaps then (8,S) else (0,S.delNode id)
def StoreM.Uniq (S:StoreM):Prop:=(S.nodes.map Prod.fst).Nodup
theorem nget_none_notin{id:Int}:∀{l:List (Int×NodeM×Nat)},nget id l=none→id ∉ l.map Prod.fst
  | [],_=>by simp
  | e::l,h=>by
    simp only[nget]at h
    split at h
    · cases h
    · rename_i he
      simp only[List.map_cons,List.mem_cons,not_or];exact ⟨he,nget_none_notin h⟩
theorem addNode_uniq{S:StoreM}{id:Int}{b r:Nat}(h:S.Uniq)(hn:nget id S.nodes=none):(S.addNode id b r).Uniq:=by
 unfold StoreM.Uniq StoreM.addNode;rw[List.map_append];exact List.nodup_append.2 ⟨h,by simp,by simp;intro a t x hx e;exact nget_none_notin hn (List.mem_map.2 ⟨_,hx,e⟩)⟩
theorem nset_keys{id:Int}{n' : NodeM}:∀l:List (Int×NodeM×Nat),(nset id n' l).map Prod.fst=l.map Prod.fst
  | []=>rfl
  | e::l=>by
    simp only[nset]
    split
    · rfl
    · simp[nset_keys l]
theorem setCap_uniq{S:StoreM}{s:SlotM}{c:CapM}(h:S.Uniq):(S.setCap s c).Uniq:=by
 unfold StoreM.setCap
 split
 ·
  exact h
 ·
  unfold StoreM.Uniq StoreM.setNode;rw[nset_keys];exact h
end
section
def StoreM.Tidy (S:StoreM):Prop:=∀id n i c,nget id S.nodes=some n→n.caps[i]?=some c→c.kind≠0→i<2^n.radix∧checkM c=0
theorem tidy_new{S:StoreM}(h:S.nodes=[]):S.Tidy:=by intro id n i c hn;rw[h]at hn;cases hn
theorem tidy_add{S:StoreM}(hw:S.Tidy){id:Int}(h:nget id S.nodes=none)(b r:Nat):(S.addNode id b r).Tidy:=by
 intro o n i c hn hc hk;rw[addNode_nget h]at hn
 split at hn
 ·
  cases hn;rw[List.eq_of_mem_replicate (List.mem_of_getElem? hc)]at hk;exact absurd rfl hk
 ·
  exact hw o n i c hn hc hk
def isKO (S:StoreM) (k o:Int) (s:SlotM):Bool:=decide ((S.get s).1.kind=k) && decide ((S.get s).1.object=o)
def cntUpto (S:StoreM) (k o:Int) (i:Nat):Nat:=((fullM S).take i).countP (isKO S k o)
def countM (S:StoreM) (k o:Int):Nat:=(fullM S).countP (isKO S k o)
attribute [irreducible] countM cntUpto
structure OpM where
  kind:Int
  slot:SlotM
  n:Int
  c:CapM
abbrev OpM.cells (o:OpM):List Value:=[.int .i64 o.kind,.int .i64 o.slot.1,.int .i64 o.slot.2,.int .i64 o.n,.int .i64 o.c.kind,.int .i64 o.c.object,.int .i64 o.c.rights,.int .u64 o.c.badge,.int .u64 o.c.guard,.int .i64 o.c.bits]
end
end Go.Proofs.YtmoeokkelkgnhaaGreat
section
namespace Go.Proofs.YtmoeokkelkgnhaaGreat
open Go.SL
section maps
variable {κ : Type} [DecidableEq κ]
theorem mget_mput(k:κ)(v:Value)(t:Nat):∀(l:List (κ×Value×Nat)) (o:κ),mget o (mput k v t l)=if o=k then some v else mget o l
  | [],o=>by simp[mput,mget]
  | e::l,o=>by
    simp only[mput]
    by_cases hk:k=e.1
    · subst hk
      simp only[if_true,mget]
      by_cases ho:o=e.1
      · simp[ho]
      · simp[ho]
    · simp only[if_neg hk,mget]
      by_cases ho:o=e.1
      · have:o≠k:=fun h=>hk (h ▸ ho)
        simp[ho,Ne.symm hk]
      · simp only[if_neg ho,mget_mput k v t l o]
end maps
structure Four (S:StoreM):Prop where
  wf:S.Wf
  tidy:S.Tidy
  rad:∀id:Int,S.radix id=if 0≤id∧id<4 then id+1 else 0
end Go.Proofs.YtmoeokkelkgnhaaGreat
end
section
namespace Go.Proofs.YtmoeokkelkgnhaaGreat
open Go.SL
structure InMap (S:StoreM) (M:List (SlotM×Value×Nat)):Prop where
  nd:(M.map Prod.fst).Nodup
  zero:∀s,(S.get s).1.kind=0→(S.get s).1=CapM.zero
  get:∀s,mget s M=if (S.get s).1.kind≠0 then some (S.get s).1.v else none
theorem get_set{S:StoreM}{s:SlotM}{x:CapM}(h:S.cap? s=some x)(c:CapM)(t:SlotM):(S.setCap s c).get t=if t=s then (c,0) else S.get t:=by
 unfold StoreM.get;rw[setCap_cap h]
 by_cases ht:t=s
 ·
  rw[if_pos ht,if_pos ht]
 ·
  rw[if_neg ht,if_neg ht]
section take
variable {S : StoreM} {M : List (SlotM × Value × Nat)} (h : InMap S M) (hf : Four S) (s : SlotM)
include h hf
end take
section put
variable {S : StoreM} {M : List (SlotM × Value × Nat)} (h : InMap S M) (hf : Four S) (s : SlotM) (c : CapM)
include h hf
end put
end Go.Proofs.YtmoeokkelkgnhaaGreat
end
namespace Go.Proofs.YtmoeokkelkgnhaaGreat
open Go.SL
open Go.Proofs.Tryz
section
structure DN where
  id:Nat
  rad:Nat
  caps:List CapM
  cb:Nat
def dIds (l:List DN):List Int:=l.map fun d=>(d.id:Int)
theorem dIds_len(l:List DN):(dIds l).length=l.length:=by simp[dIds]
abbrev DN.o (d:DN):Obj:=.cells (capsCells d.caps).toArray 63
def dfind (l:List DN) (id:Int):Option DN:=l.find? fun d=>decide ((d.id:Int)=id)
theorem dfind_cons(a:DN)(l:List DN)(id:Int):dfind (a::l) id=if (a.id:Int)=id then some a else dfind l id:=by
 unfold dfind;rw[List.find?_cons]
 by_cases h:(a.id:Int)=id
 ·
  simp[h]
 ·
  simp[h]
theorem dfind_app(l m:List DN)(id:Int):dfind (l++m) id=(dfind l id).or (dfind m id):=by unfold dfind;rw[List.find?_append]
theorem dfind_some{id:Int}{d:DN}:∀{l:List DN},dfind l id=some d→∃i:Nat,idxM (dIds l) id=i∧l[i]?=some d∧(d.id:Int)=id
  | [],h=>by cases h
  | a::l,h=>by
    rw[dfind_cons]at h
    split at h
    · rename_i e;cases h;exact ⟨0,by simp[dIds,idxM,e],rfl,e⟩
    · rename_i e
      obtain ⟨i,h1,h2,h3⟩:=dfind_some h;refine ⟨i+1,?_,by simpa using h2,h3⟩
      show (if (a.id:Int)=id then 0 else if idxM (dIds l) id<0 then -1 else idxM (dIds l) id+1)=_
      rw[if_neg e,h1,if_neg (by omega)];push_cast;rfl
def dcap? (l:List DN) (s:SlotM):Option CapM :=
  match dfind l s.1 with
  | none=>none
  | some d=>if 0≤s.2∧s.2<d.caps.length then d.caps[s.2.toNat]? else none
def dget (l:List DN) (s:SlotM):CapM×Int:=match dcap? l s with | none=>(CapM.zero,6) | some x=>(x,0)
def dradix (l:List DN) (id:Int):Int:=match dfind l id with | none=>0 | some d=>(d.rad:Int)
def dsetC (l:List DN) (s:SlotM) (c:CapM):List DN:=match dfind l s.1 with | none=>l | some d=>l.set (idxM (dIds l) s.1).toNat { d with caps:=d.caps.set s.2.toNat c }
def dput (l:List DN) (s:SlotM) (c:CapM):Int×List DN :=
  match dcap? l s with
  | none=>(6,l)
  | some x=>if checkM c≠0 then (checkM c,l) else if c.kind=0 then (3,l) else if x.kind≠0 then (4,l) else (0,dsetC l s c)
def daddErr (l:List DN) (id r:Int):Int:=if id<0∨64≤id∨r<1∨4<r then 1 else if (dfind l id).isSome then 4 else 0
theorem dcap_some{l:List DN}{s:SlotM}{c:CapM}(h:dcap? l s=some c):∃d,dfind l s.1=some d∧(0≤s.2∧s.2<d.caps.length)∧d.caps[s.2.toNat]?=some c:=by
 unfold dcap? at h
 split at h
 ·
  cases h
 ·
  rename_i d hd
  split at h
  ·
   rename_i hs;exact ⟨d,hd,hs,h⟩
  ·
   cases h
def i64R (x:Int):Prop := -9223372036854775808≤x∧x<9223372036854775808
def u64R (x:Int):Prop:=0≤x∧x<18446744073709551616
structure CapM.Rg (c:CapM):Prop where
  rights:i64R c.rights
  badge:u64R c.badge
  guard:u64R c.guard
theorem d_lt{l:List DN}{i:Nat}{d:DN}(h:l[i]?=some d):i<l.length:=(List.getElem?_eq_some_iff.1 h).1
theorem dsetC_eq{l:List DN}{s:SlotM}{d:DN}{i:Nat}(h:dfind l s.1=some d)(hi:idxM (dIds l) s.1=i)(c:CapM):dsetC l s c=l.set i { d with caps:=d.caps.set s.2.toNat c }:=by
 unfold dsetC;rw[h,hi];rfl
def newN (m k cb:Nat):DN:=⟨m,k,List.replicate (2^k) CapM.zero,cb⟩
def dPlace (l:List DN) (id:Int) (n:Nat):Prop:=n≤l.length∧(∀j d,j<n→l[j]?=some d→(d.id:Int)<id)∧∀d,l[n]?=some d→¬(d.id:Int)<id
end
section
def StoreM.Zero (S:StoreM):Prop:=∀(id:Int) (n:NodeM) (i:Nat) (c:CapM),nget id S.nodes=some n→n.caps[i]?=some c→c.kind=0→c=CapM.zero
def RelN (S:StoreM) (l:List DN) (id:Int):Prop:=(nget id S.nodes=none∧dfind l id=none)∨∃n d,nget id S.nodes=some n∧dfind l id=some d∧d.rad=n.radix∧d.caps=n.caps.take (2^n.radix)
structure Rel (S:StoreM) (l:List DN):Prop where
  wf:S.Wf
  tidy:S.Tidy
  uniq:S.Uniq
  zero:S.Zero
  srt:(dIds l).Pairwise (·<·)
  lt:∀x,x∈dIds l→x<64
  rel:∀id,RelN S l id
theorem rel_new{S:StoreM}(h:S.nodes=[]):Rel S [] :=
  ⟨wf_new h,tidy_new h,by unfold StoreM.Uniq;rw[h];exact List.nodup_nil,(by intro id n i c hn;rw[h]at hn;cases hn),List.Pairwise.nil,by simp[dIds],fun id=>.inl ⟨by rw[h];rfl,rfl⟩⟩
theorem pow16{r:Nat}(h:r≤4):2^r≤16:=Nat.pow_le_pow_right (n:=2) (by omega) h
theorem dfind_self:∀{l:List DN},(dIds l).Pairwise (·<·)→∀{d:DN},d∈l→dfind l d.id=some d
  | [],_,d,h=>by cases h
  | a::l,hs,d,h=>by
    rw[dfind_cons];have hs' : (((a.id:Nat):Int)::dIds l).Pairwise (·<·):=hs
    rw[List.pairwise_cons]at hs'
    rcases List.mem_cons.1 h with rfl | h
    · rw[if_pos rfl]
    · have:=hs'.1 d.id (List.mem_map.2 ⟨d,h,rfl⟩)
      rw[if_neg (by omega)];exact dfind_self hs'.2 h
section
variable {S : StoreM} {l : List DN} (h : Rel S l)
include h
theorem rel_find{id:Int}{d:DN}(hd:dfind l id=some d):∃n,nget id S.nodes=some n∧d.rad=n.radix∧d.caps=n.caps.take (2^n.radix)∧d.caps.length=2^n.radix∧n.Wf:=by
 rcases h.rel id with ⟨_,e⟩ | ⟨n,d', hn,e,hr,hc⟩
 ·
  rw[e]at hd;cases hd
 ·
  rw[e]at hd;cases hd
  have hw:=(h.wf _ _ hn).1
  refine ⟨n,hn,hr,hc,?_,hw⟩;rw[hc,List.length_take,hw.len];have:=pow16 hw.hi
  omega
theorem rel_cap(s:SlotM):S.cap? s=dcap? l s:=by
 unfold StoreM.cap? dcap?
 rcases h.rel s.1 with ⟨e1,e2⟩ | ⟨n,d,hn,e,hr,hc⟩
 ·
  rw[e1,e2]
 ·
  obtain ⟨n', hn', _,_,hl,hw⟩:=rel_find h e;rw[hn]at hn';cases hn'
  rw[hn,e];dsimp only
  by_cases hh:n.has s.2
  ·
   have hh2:=hh
   unfold NodeM.has at hh2;rw[if_pos hh,if_pos (by rw[hl];exact hh2),hc,List.getElem?_take,if_pos (by omega)]
  ·
   have hh2:=hh
   unfold NodeM.has at hh2;rw[if_neg hh,if_neg (by rw[hl];exact hh2)]
theorem rel_get(s:SlotM):S.get s=dget l s:=by unfold StoreM.get dget; rw[rel_cap h]; try (cases dcap? l s <;> rfl)
theorem rel_radix(id:Int):S.radix id=dradix l id:=by
 unfold StoreM.radix dradix
 rcases h.rel id with ⟨e1,e2⟩ | ⟨n,d,hn,e,hr,hc⟩
 ·
  rw[e1,e2]
 ·
  rw[hn,e];dsimp only;rw[hr]
end
theorem dIds_set{l:List DN}{i:Nat}{d d' : DN}(hd:l[i]?=some d)(he:d'.id=d.id):dIds (l.set i d')=dIds l:=by
 apply List.ext_getElem?;intro j;unfold dIds;rw[List.getElem?_map,List.getElem?_map,List.getElem?_set]
 by_cases hij:i=j
 ·
  subst hij;rw[if_pos rfl,if_pos (d_lt hd),hd];simp[he]
 ·
  rw[if_neg hij]
theorem dfind_set{id:Int}{d d' : DN}(he:d'.id=d.id)(o:Int):∀{l:List DN},dfind l id=some d→dfind (l.set (idxM (dIds l) id).toNat d') o=if o=id then some d' else dfind l o
  | [],h=>by cases h
  | a::l,h=>by
    have hcons:idxM (dIds (a::l)) id=if (a.id:Int)=id then 0 else if idxM (dIds l) id<0 then -1 else idxM (dIds l) id+1:=rfl
    rw[dfind_cons]at h;rw[hcons]
    by_cases e:(a.id:Int)=id
    · rw[if_pos e]at h ⊢
      cases h
      show dfind (d' :: l) o=_
      rw[dfind_cons,he,e,dfind_cons,e]
      by_cases ho:o=id
      · rw[if_pos ho.symm,if_pos ho]
      · rw[if_neg (Ne.symm ho),if_neg ho,if_neg (Ne.symm ho)]
    · rw[if_neg e]at h ⊢
      obtain ⟨i,hi,_,_⟩:=dfind_some h;have ih:=dfind_set he o h
      rw[hi]at ih ⊢;rw[if_neg (by omega),show ((i:Int)+1).toNat=i+1 by omega,List.set_cons_succ,dfind_cons,dfind_cons,←show (i:Int).toNat=i by omega,ih]
      by_cases ho:o=id
      · subst ho;simp[e]
      · simp[ho]
theorem rel_set{S:StoreM}{l:List DN}(h:Rel S l){s:SlotM}{x:CapM}(hx:S.cap? s=some x){c:CapM}(hc:c.kind≠0→checkM c=0)(hz:c.kind=0→c=CapM.zero):Rel (S.setCap s c) (dsetC l s c):=by
 have hx2:=hx
 rw[rel_cap h]at hx2;obtain ⟨d,hd,hh,hxd⟩:=dcap_some hx2;obtain ⟨i,hi,hid,hdid⟩:=dfind_some hd;have hds:=dsetC_eq hd hi c
 have hdi:dIds (dsetC l s c)=dIds l:=by rw[hds];exact dIds_set hid rfl
 obtain ⟨n,hn,hr,hcd,hl,hw⟩:=rel_find h hd;have tz:∀o m i d,nget o (S.setCap s c).nodes=some m→m.caps[i]?=some d→(d.kind≠0→i<2^m.radix∧checkM d=0)∧(d.kind=0→d=CapM.zero):=by
  intro o m i d hm hmd;obtain ⟨m', hm', hh', hmc,e⟩:=setCap_nget hx c o;rw[e]at hm
  split at hm
  ·
   cases hm
   by_cases hi:i=s.2.toNat
   ·
    subst hi;have hl:=(List.getElem?_eq_some_iff.1 hmc).1
    simp only[NodeM.set,List.getElem?_set_self hl]at hmd;cases hmd;have:=hh'.1;have:=hh'.2
    exact ⟨fun hk=>⟨by simp only[NodeM.set];omega,hc hk⟩,hz⟩
   ·
    have:s.2.toNat≠i:=fun e=>hi e.symm
    simp only[NodeM.set,List.getElem?_set_ne this]at hmd;exact ⟨fun hk=>h.tidy _ m' i d hm' hmd hk,fun hk=>h.zero _ m' i d hm' hmd hk⟩
  ·
   exact ⟨fun hk=>h.tidy o m i d hm hmd hk,fun hk=>h.zero o m i d hm hmd hk⟩
 refine ⟨setCap_wf hx _ h.wf,fun o m i d hm hmd hk=>(tz o m i d hm hmd).1 hk,setCap_uniq h.uniq,fun o m i d hm hmd hk=>(tz o m i d hm hmd).2 hk,by rw[hdi];exact h.srt,by rw[hdi];exact h.lt,fun o=>?_⟩;obtain ⟨m,hm,_,_,e⟩:=setCap_nget hx c o;rw[hn]at hm;cases hm
 have e2:dfind (dsetC l s c) o=if o=s.1 then some { d with caps:=d.caps.set s.2.toNat c } else dfind l o:=by
  rw[hds,←show (i:Int).toNat=i by omega,←hi];exact dfind_set (d:=d) (d' := { d with caps:=d.caps.set s.2.toNat c }) rfl o hd
 unfold RelN;rw[e,e2]
 by_cases ho:o=s.1
 ·
  rw[if_pos ho,if_pos ho];refine .inr ⟨_,_,rfl,rfl,hr,?_⟩
  show d.caps.set s.2.toNat c=(n.caps.set s.2.toNat c).take (2^n.radix)
  rw[List.take_set,←hcd]
 ·
  rw[if_neg ho,if_neg ho];exact h.rel o
theorem rel_put{S:StoreM}{l:List DN}(h:Rel S l)(s:SlotM)(c:CapM):(S.put s c).1=(dput l s c).1∧Rel (S.put s c).2 (dput l s c).2:=by
 unfold StoreM.put dput;have e:=rel_cap h s
 cases hx:S.cap? s with
 | none=>rw[hx]at e;rw[←e];exact ⟨rfl,h⟩
 | some x =>
  rw[hx]at e;rw[←e]
  dsimp only
  split
  ·
   exact ⟨rfl,h⟩
  ·
   rename_i h1
   split
   ·
    exact ⟨rfl,h⟩
   ·
    rename_i h2
    split
    ·
     exact ⟨rfl,h⟩
    ·
     exact ⟨rfl,rel_set h hx (fun _=>by omega) (fun hk=>absurd hk h2)⟩
theorem addNode_zero{S:StoreM}(hz:S.Zero){id:Int}(h:nget id S.nodes=none)(b r:Nat):(S.addNode id b r).Zero:=by
 intro o n i c hn hc hk;rw[addNode_nget h]at hn
 split at hn
 ·
  cases hn;exact List.eq_of_mem_replicate (List.mem_of_getElem? hc)
 ·
  exact hz o n i c hn hc hk
theorem rel_addErr{S:StoreM}{l:List DN}(h:Rel S l)(id r:Int):addErr S id r=daddErr l id r:=by
 unfold addErr daddErr
 rcases h.rel id with ⟨e1,e2⟩ | ⟨n,d,hn,e,_,_⟩
 ·
  rw[e1,e2];rfl
 ·
  rw[hn,e];rfl
theorem rel_add{S:StoreM}{l:List DN}(h:Rel S l){id r:Int}(he:addErr S id r=0){n:Nat}(hp:dPlace l id n)(b cb:Nat):Rel (S.addNode id b r.toNat) (l.take n++newN id.toNat r.toNat cb::l.drop n):=by
 unfold addErr at he
 split at he
 ·
  cases he
 rename_i hr
 have hn:nget id S.nodes=none:=by
  cases e:nget id S.nodes with
  | none=>rfl
  | some m=>rw[e]at he;cases he
 have hd:dfind l id=none:=by
  rcases h.rel id with ⟨_,e2⟩ | ⟨m,d,hm,_⟩
  ·
   exact e2
  ·
   rw[hn]at hm;cases hm
 obtain ⟨m,rfl⟩:∃m:Nat,id=m:=⟨id.toNat,by omega⟩;obtain ⟨k,rfl⟩:∃k:Nat,r=k:=⟨r.toNat,by omega⟩;rw[Int.toNat_natCast,Int.toNat_natCast];have hids:dIds (l.take n++newN m k cb::l.drop n)=(dIds l).take n++(m:Int)::(dIds l).drop n:=by simp[dIds,newN,List.map_take,List.map_drop]
 have hne:∀d,d∈l→(d.id:Int)≠m:=fun d hdm e=>by
  have:=dfind_self h.srt hdm
  rw[e,hd]at this;cases this
 have hlo:∀x,x∈(dIds l).take n→x<(m:Int):=by
  intro x hx;obtain ⟨j,hj⟩:=List.getElem?_of_mem hx;have hjn:j<n:=by
   have:=(List.getElem?_eq_some_iff.1 hj).1
   rw[List.length_take]at this;omega
  rw[List.getElem?_take,if_pos hjn]at hj;unfold dIds at hj;rw[List.getElem?_map]at hj;obtain ⟨d,hdj,rfl⟩:=Option.map_eq_some_iff.1 hj;exact hp.2.1 j d hjn hdj
 have hhi:∀x,x∈(dIds l).drop n→(m:Int)<x:=by
  intro x hx
  rcases Nat.lt_or_ge n l.length with hlt | hge
  ·
   have hdn:l[n]?=some l[n]:=Y8 hlt
   have h1:=hp.2.2 _ hdn
   have h2:=hne _ (List.mem_of_getElem? hdn)
   have hs:=h.srt.sublist (List.drop_sublist n (dIds l))
   have hc:(dIds l).drop n=(l[n].id:Int)::(dIds l).drop (n+1):=by
    rw[List.drop_eq_getElem_cons (by rw[dIds_len];exact hlt)];simp[dIds]
   rw[hc]at hs hx;rw[List.pairwise_cons]at hs
   rcases List.mem_cons.1 hx with rfl | hx
   ·
    omega
   ·
    have:=hs.1 x hx;omega
  ·
   rw[List.drop_of_length_le (by rw[dIds_len];exact hge)]at hx;cases hx
 refine ⟨addNode_wf hn _ _ h.wf (by omega) (by omega) (by omega) (by omega),tidy_add h.tidy hn _ _,addNode_uniq h.uniq hn,addNode_zero h.zero hn _ _,?_,?_,fun o=>?_⟩
 ·
  rw[hids,List.pairwise_append,List.pairwise_cons];refine ⟨h.srt.sublist (List.take_sublist _ _),⟨hhi,h.srt.sublist (List.drop_sublist _ _)⟩,fun a ha b hb=>?_⟩
  rcases List.mem_cons.1 hb with rfl | hb
  ·
   exact hlo a ha
  ·
   have:=hlo a ha;have:=hhi b hb;omega
 ·
  rw[hids];intro x hx
  rcases List.mem_append.1 hx with hx | hx
  ·
   exact h.lt x (List.mem_of_mem_take hx)
  ·
   rcases List.mem_cons.1 hx with rfl | hx
   ·
    omega
   ·
    exact h.lt x (List.mem_of_mem_drop hx)
 ·
  have ed:dfind (l.take n++newN m k cb::l.drop n) o=if o=(m:Int) then some (newN m k cb) else dfind l o:=by
   have e0:dfind l o=(dfind (l.take n) o).or (dfind (l.drop n) o):=by rw[←dfind_app,List.take_append_drop]
   rw[dfind_app,dfind_cons]
   by_cases ho:o=(m:Int)
   ·
    subst ho;have e1:dfind (l.take n) (m:Int)=none:=by
     rw[hd]at e0;cases e:dfind (l.take n) (m:Int) with
     | none=>rfl
     | some z=>rw[e]at e0;cases e0
    rw[if_pos rfl,e1,if_pos (by simp[newN])];rfl
   ·
    rw[if_neg ho,if_neg (by simp[newN];omega),e0]
  unfold RelN;rw[ed,addNode_nget hn]
  by_cases ho:o=(m:Int)
  ·
   rw[if_pos ho,if_pos ho];refine .inr ⟨_,_,rfl,rfl,rfl,?_⟩
   show List.replicate (2^k) CapM.zero=zeroCaps.take (2^k)
   have:=pow16 (r:=k) (by omega)
   unfold zeroCaps;rw[List.take_replicate,Nat.min_eq_left this]
  ·
   rw[if_neg ho,if_neg ho];exact h.rel o
end
end Go.Proofs.YtmoeokkelkgnhaaGreat
section
namespace Go.SL
section ptrs
variable {P : Program} {n : Nat} {D : List Deferred} {E : Env} {L : Hp} {d : Option Tmp} {ty : TypeId} {pos : String} {aft : Array Edge} {g : Option (Nat × Bool)} {T : TypeId} {x y : Operand}
end ptrs
section nd
variable {P : Program} {W : World} {ops : Array Oper} {Q : Exit → Act → World → Prop} {n : Nat} {D : List Deferred} {E : Env} {L : Hp} {rest : List Oper}
end nd
def ptrE (b:Nat):List Value:=[.pointer (some ⟨b,0,none⟩)]
abbrev ptsC (l:List Nat):List Value:=cel ptrE l
structure SP where
  a:Option Addr
  c:Nat
  l:List Nat
abbrev SP.v (s:SP):Value:=.slice s.a s.l.length s.c
end Go.SL
end
section
namespace Go.Proofs.YtmoeokkelkgnhaaGreat
inductive Fo (α:Type) where
  | nil:Fo α
  | cons (i:α) (c r:Fo α):Fo α
namespace Fo
section
variable {α : Type}
def app:(Fo α)→(Fo α)→(Fo α)
  | .nil,g=>g
  | .cons i c r,g=>.cons i c (app r g)
def all:(Fo α)→List α
  | .nil=>[]
  | .cons i c r=>i::(all c++all r)
def roots:(Fo α)→List α
  | .nil=>[]
  | .cons i _ r=>i::roots r
def OkK (kids:α→List α):(Fo α)→Prop
  | .nil=>True
  | .cons i c r=>kids i=roots c∧OkK kids c∧OkK kids r
def OkP (par:α→Option α):(Fo α)→Option α→Prop
  | .nil,_=>True
  | .cons i c r,p=>par i=p∧OkP par c (some i)∧OkP par r p
def one (y:α):(Fo α):=.cons y .nil .nil
end
variable {α : Type} [DecidableEq α]
def sub (x:α):(Fo α)→(Fo α)
  | .nil=>.nil
  | .cons i c r=>if i=x then c else if x∈all c then sub x c else sub x r
def parO (x:α):(Fo α)→Option α→Option α
  | .nil,_=>none
  | .cons i c r,p=>if i=x then p else if x∈all c then parO x c (some i) else parO x r p
def drop (x:α):(Fo α)→(Fo α)
  | .nil=>.nil
  | .cons i c r=>if i=x then app c r else .cons i (drop x c) (drop x r)
theorem all_app:∀f g:(Fo α),all (app f g)=all f++all g
  | .nil,g=>rfl
  | .cons i c r,g=>by simp[app,all,all_app r g]
def Nd {α:Type} (f:(Fo α)):Prop:=(all f).Nodup
theorem OkK.congr{k k' : α→List α}:∀{f:(Fo α)},(∀z,z∈all f→k z=k' z)→OkK k f→OkK k' f
  | .nil,_,_=>trivial
  | .cons i c r,h,⟨h1,h2,h3⟩=>⟨by rw[←h i (by simp[all])];exact h1,OkK.congr (fun z hz=>h z (by simp[all,hz])) h2,OkK.congr (fun z hz=>h z (by simp[all,hz])) h3⟩
theorem OkP.congr{k k' : α→Option α}:∀{f:(Fo α)} {p:Option α},(∀z,z∈all f→k z=k' z)→OkP k f p→OkP k' f p
  | .nil,_,_,_=>trivial
  | .cons i c r,p,h,⟨h1,h2,h3⟩=>⟨by rw[←h i (by simp[all])];exact h1,OkP.congr (fun z hz=>h z (by simp[all,hz])) h2,OkP.congr (fun z hz=>h z (by simp[all,hz])) h3⟩
theorem OkK.app{k:α→List α}:∀{f g:(Fo α)},OkK k f→OkK k g→OkK k (Fo.app f g)
  | .nil,_,_,h=>h
  | .cons i c r,g,⟨h1,h2,h3⟩,h=>⟨h1,h2,OkK.app h3 h⟩
theorem OkP.app{k:α→Option α}:∀{f g:(Fo α)} {p:Option α},OkP k f p→OkP k g p→OkP k (Fo.app f g) p
  | .nil,_,_,_,h=>h
  | .cons i c r,g,p,⟨h1,h2,h3⟩,h=>⟨h1,h2,OkP.app h3 h⟩
theorem nd_app{f g:(Fo α)}(h1:Nd f)(h2:Nd g)(h:∀z,z∈all f→z ∉ all g):Nd (app f g):=by
 unfold Nd at *;rw[all_app,List.nodup_append];exact ⟨h1,h2,fun a ha b hb e=>h a ha (e ▸ hb)⟩
theorem nd_one(y:α):Nd (one y):=by unfold Nd one;simp[all]
end Fo
end Go.Proofs.YtmoeokkelkgnhaaGreat
end
section
namespace Go.Proofs.YtmoeokkelkgnhaaGreat
open Go.SL
structure TreeM where
  n:Nat
  sl:Nat→SlotM
  par:Nat→Option Nat
  kids:Nat→List Nat
  M:List (SlotM×Nat×Nat)
def tget (s:SlotM):List (SlotM×Nat×Nat)→Option Nat
  | []=>none
  | e::l=>if s=e.1 then some e.2.1 else tget s l
theorem tget_app{s:SlotM}:∀{l m:List (SlotM×Nat×Nat)},tget s (l++m)=(tget s l).or (tget s m)
  | [],m=>rfl
  | e::l,m=>by
    simp only[Y1,tget]
    split
    · rfl
    · exact tget_app
theorem tget_none{s:SlotM}:∀{l:List (SlotM×Nat×Nat)},tget s l=none→s ∉ l.map Prod.fst
  | [],_=>by simp
  | e::l,h=>by
    simp only[tget]at h
    split at h
    · cases h
    · rename_i he
      simp only[List.map_cons,List.mem_cons,not_or];exact ⟨he,tget_none h⟩
def ptrO (blk:Nat→Nat):Option Nat→Value
  | none=>.pointer none
  | some j=>.pointer (some ⟨blk j,0,none⟩)
abbrev knC (blk:Nat→Nat) (T:TreeM) (kv:Nat→Value) (i:Nat):List Value:=[.int .i64 (T.sl i).1,.int .i64 (T.sl i).2,ptrO blk (T.par i),kv i]
abbrev knO (blk:Nat→Nat) (T:TreeM) (kv:Nat→Value) (i:Nat):Obj:=.cells (knC blk T kv i).toArray 431
def knS (blk:Nat→Nat) (T:TreeM) (kv:Nat→Value) (kH:Nat→Hp) (i:Nat):Hp:=(blk i,knO blk T kv i)::kH i
def kvT (blk:Nat→Nat) (M:List (SlotM×Nat×Nat)):List (SlotM×Value×Nat):=M.map fun e=>(e.1,.pointer (some ⟨blk e.2.1,0,none⟩),e.2.2)
def kidsOk (blk:Nat→Nat) (T:TreeM) (kv:Nat→Value) (kH:Nat→Hp):Prop:=∀i,i<T.n→Slc 427 1 (kv i) (T.kids i).length (ptsC ((T.kids i).map blk)) (kH i)
abbrev trBlk (tb mb:Nat):Nat×Obj:=(tb,.cells [.map (some mb)].toArray 377)
abbrev mpBlk (mb:Nat) (blk:Nat→Nat) (M:List (SlotM×Nat×Nat)) (clk:Nat):Nat×Obj:=(mb,mapO encS (kvT blk M) clk)
def TrH (T:TreeM) (tb:Nat) (L:Hp):Prop:=∃mb clk blk kv kH,kidsOk blk T kv kH∧L=trBlk tb mb::mpBlk mb blk T.M clk::segs (knS blk T kv kH) T.n
def tptr (blk:Nat→Nat) (M:List (SlotM×Nat×Nat)) (s:SlotM):Option Addr:=(tget s M).map fun i=>⟨blk i,0,none⟩
theorem mget_kvT(blk:Nat→Nat)(s:SlotM):∀M,mget s (kvT blk M)=(tget s M).map fun i=>.pointer (some ⟨blk i,0,none⟩)
  | []=>rfl
  | e::l=>by
    simp only[kvT,List.map_cons,mget,tget]
    split
    · rfl
    · exact mget_kvT blk s l
theorem tptr_hm(blk:Nat→Nat)(M:List (SlotM×Nat×Nat))(s:SlotM):(mget s (kvT blk M)).getD (.pointer none)=.pointer (tptr blk M s):=by
 rw[mget_kvT]; unfold tptr; cases tget s M <;> rfl
theorem tptr_is{blk:Nat→Nat}{M:List (SlotM×Nat×Nat)}{s:SlotM}:(tptr blk M s).isSome=(tget s M).isSome:=by unfold tptr; cases tget s M <;> rfl
def TreeM.more (T:TreeM) (s:SlotM) (p:Option Nat) (t:Nat):TreeM :=
  { n:=T.n+1,sl:=fset T.sl T.n s,par:=fset T.par T.n p,
    kids:=match p with | none=>fset T.kids T.n [] | some j=>fset (fset T.kids T.n []) j (T.kids j++[T.n]),
    M:=T.M++[(s,T.n,t)] }
theorem tput_new{s:SlotM}{v:Value}{t:Nat}{blk:Nat→Nat}:∀{M:List (SlotM×Nat×Nat)},tget s M=none→mput s v t (kvT blk M)=kvT blk M++[(s,v,t)]
  | [],_=>rfl
  | e::l,h=>by
    simp only[tget]at h
    split at h
    · cases h
    · rename_i hid
      have:=tput_new (v:=v) (t:=t) (blk:=blk) h
      simp only[kvT,List.map_cons,mput,hid,if_false,Y1]at this ⊢;rw[this]
theorem tclk_new{s:SlotM}{cl:Nat}{blk:Nat→Nat}{M:List (SlotM×Nat×Nat)}(h:tget s M=none):mclk s (kvT blk M) cl=cl+1:=by
 simp[mclk,mget_kvT,h]
theorem kvT_congr{blk blk' : Nat→Nat}{M:List (SlotM×Nat×Nat)}(h:∀e,e∈M→blk' e.2.1=blk e.2.1):kvT blk' M=kvT blk M:=List.map_congr_left fun e he=>by rw[h e he]
structure TreeM.Ix (T:TreeM):Prop where
  par:∀i j,i<T.n→T.par i=some j→j<T.n
  kids:∀i j,i<T.n→j∈T.kids i→j<T.n
  map:∀e,e∈T.M→e.2.1<T.n
  small:∀i,i<T.n→(T.kids i).length≤T.n
structure TOk (T:TreeM) (F:(Fo Nat)):Prop where
  nd:Fo.Nd F
  lt:∀i,i∈F.all→i<T.n
  par:Fo.OkP T.par F none
  kids:Fo.OkK T.kids F
  map:∀s i,tget s T.M=some i↔i∈F.all∧T.sl i=s
  uniq:(T.M.map Prod.fst).Nodup
  len:T.M.length=F.all.length
  ix:T.Ix
theorem TOk.mem{T:TreeM}{F:(Fo Nat)}(h:TOk T F){s:SlotM}{i:Nat}(hi:tget s T.M=some i):i∈F.all:=((h.map s i).1 hi).1
theorem TOk.sl{T:TreeM}{F:(Fo Nat)}(h:TOk T F){s:SlotM}{i:Nat}(hi:tget s T.M=some i):T.sl i=s:=((h.map s i).1 hi).2
theorem TOk.get{T:TreeM}{F:(Fo Nat)}(h:TOk T F){i:Nat}(hi:i∈F.all):tget (T.sl i) T.M=some i:=(h.map _ i).2 ⟨hi,rfl⟩
theorem nodup_len:∀{n:Nat} {l:List Nat},l.Nodup→(∀x,x∈l→x<n)→l.length≤n
  | 0,l,_,hl=>by cases l with
    | nil=>exact Nat.le_refl _
    | cons a l=>exact absurd (hl a (List.mem_cons_self ..)) (Nat.not_lt_zero a)
  | n+1,l,hn,hl=>by
    have h1:=nodup_len (n:=n) (l:=l.erase n) (hn.erase n) (fun x hx=>by
      have h2:=(hn.mem_erase_iff.1 hx)
      have:=hl x h2.2
      have:=h2.1;omega)
    have h2:=List.length_erase (a:=n) (l:=l)
    split at h2 <;> omega
theorem ptrO_congr{blk blk' : Nat→Nat}{p:Option Nat}(h:∀j,p=some j→blk' j=blk j):ptrO blk' p=ptrO blk p:=by
 cases p with
 | none=>rfl
 | some j=>simp only[ptrO,h j rfl]
section more
variable {T : TreeM} (hx : T.Ix) {blk : Nat → Nat} {kv : Nat → Value} {kH : Nat → Hp} {s : SlotM} {b t clk : Nat}
include hx
theorem more_kvT:kvT (fset blk T.n b) (T.M++[(s,T.n,t)])=kvT blk T.M++[(s,.pointer (some ⟨b,0,none⟩),t)]:=by
 have e:kvT (fset blk T.n b) T.M=kvT blk T.M:=kvT_congr fun e he=>fset_ne (by have:=hx.map e he;omega)
 have e2:kvT (fset blk T.n b) (T.M++[(s,T.n,t)])=kvT (fset blk T.n b) T.M++[(s,.pointer (some ⟨fset blk T.n b T.n,0,none⟩),t)]:=by simp[kvT]
 rw[e2,e,fset_same]
theorem more_kids{i:Nat}(hi:i<T.n):(T.kids i).map (fset blk T.n b)=(T.kids i).map blk:=List.map_congr_left fun j hj=>fset_ne (by have:=hx.kids i j hi hj;omega)
theorem more_root:segs (knS (fset blk T.n b) (T.more s none t) (fset kv T.n (.slice none 0 0)) (fset kH T.n [])) (T.n+1)=segs (knS blk T kv kH) T.n++[(b,.cells [.int .i64 s.1,.int .i64 s.2,.pointer none,.slice none 0 0].toArray 431)]:=by
 rw[segs_succ]
 congr 1
 ·
  refine segs_congr fun i hi=>?_
  have h1:i≠T.n:=by omega
  have h2:ptrO (fset blk T.n b) (T.par i)=ptrO blk (T.par i):=ptrO_congr fun j hj=>fset_ne (by have:=hx.par i j hi hj;omega)
  simp only[knS,knO,knC,TreeM.more,fset_ne h1,h2]
 ·
  simp only[knS,knO,knC,TreeM.more,fset_same,ptrO]
theorem more_root_ok(hk:kidsOk blk T kv kH):kidsOk (fset blk T.n b) (T.more s none t) (fset kv T.n (.slice none 0 0)) (fset kH T.n []):=by
 intro i hi;simp only[TreeM.more]at hi ⊢
 by_cases e:i=T.n
 ·
  subst e;rw[fset_same,fset_same,fset_same];exact Slc.nil _ _
 ·
  rw[fset_ne e,fset_ne e,fset_ne e,more_kids hx (by omega)];exact hk i (by omega)
end more
def TAdd (T:TreeM) (s:SlotM) (p:Option Nat) (e:Int) (T' : TreeM):Prop:=(∃i,tget s T.M=some i∧e=4∧T' = T)∨(tget s T.M=none∧e=0∧∃t,T' = T.more s p t)
section drop
variable {T : TreeM} {blk : Nat → Nat} {kv : Nat → Value} {kH : Nat → Hp}
end drop
end Go.Proofs.YtmoeokkelkgnhaaGreat
end
namespace Go.Proofs.YtmoeokkelkgnhaaGreat
open Go.SL
open Go.Proofs.Tryz
section
theorem tok_new:TOk ⟨0,fun _=>(0,0),fun _=>none,fun _=>[],[]⟩ .nil where
  nd:=List.nodup_nil
  lt:=fun i h=>by cases h
  par:=trivial
  kids:=trivial
  map:=fun s i=>by simp[tget,Fo.all]
  uniq:=List.nodup_nil
  len:=rfl
  ix:=⟨fun i j h=>absurd h (Nat.not_lt_zero i),fun i j h=>absurd h (Nat.not_lt_zero i),(fun e h=>by cases h),fun i h=>absurd h (Nat.not_lt_zero i)⟩
section
variable {T : TreeM} {F : (Fo Nat)} (h : TOk T F)
include h
theorem TOk.fresh:T.n ∉ F.all:=fun e=>absurd (h.lt _ e) (Nat.lt_irrefl _)
section
variable{s:SlotM}{p:Option Nat}{t:Nat}
include s p t
theorem more_tget(hs:tget s T.M=none)(o:SlotM):tget o (T.more s p t).M=if o=s then some T.n else tget o T.M:=by
 show tget o (T.M++[(s,T.n,t)])=_
 rw[tget_app]
 by_cases e:o=s
 ·
  rw[if_pos e,e,hs];simp[tget]
 ·
  rw[if_neg e];have:tget o [(s,T.n,t)]=none:=by simp[tget,e]
  rw[this]; cases tget o T.M <;> rfl
theorem more_map{F' : (Fo Nat)}(hs:tget s T.M=none)(hF:∀z,z∈F'.all↔z∈F.all∨z=T.n)(o:SlotM)(i:Nat):tget o (T.more s p t).M=some i↔i∈F'.all∧(T.more s p t).sl i=o:=by
 rw[more_tget h hs,hF]
 show _↔_∧fset T.sl T.n s i=o
 by_cases hi:i=T.n
 ·
  subst hi;rw[fset_same]
  constructor
  ·
   intro e
   by_cases eo:o=s
   ·
    exact ⟨.inr rfl,eo.symm⟩
   ·
    rw[if_neg eo]at e;exact absurd (h.mem e) h.fresh
  ·
   rintro ⟨_,rfl⟩;rw[if_pos rfl]
 ·
  rw[fset_ne hi]
  constructor
  ·
   intro e
   by_cases eo:o=s
   ·
    rw[if_pos eo]at e;exact absurd (Option.some.inj e).symm hi
   ·
    rw[if_neg eo]at e;exact ⟨.inl (h.mem e),h.sl e⟩
  ·
   rintro ⟨hm,e⟩;have hm' := hm.resolve_right hi
   have h1:=h.get hm'
   rw[e]at h1;have:o≠s:=fun eo=>by rw[eo,hs]at h1;cases h1
   rw[if_neg this,h1]
theorem more_uniq(hs:tget s T.M=none):((T.more s p t).M.map Prod.fst).Nodup:=by
 show ((T.M++[(s,T.n,t)]).map Prod.fst).Nodup
 rw[List.map_append];exact List.nodup_append.2 ⟨h.uniq,by simp,fun a ha b hb e=>by simp at hb;subst hb;exact tget_none hs (e ▸ ha)⟩
end
theorem tok_root{s:SlotM}{t:Nat}(hs:tget s T.M=none):TOk (T.more s none t) (F.app (.one T.n)) where
  nd:=Fo.nd_app h.nd (Fo.nd_one _) fun z hz e=>by simp[Fo.one,Fo.all]at e;exact h.fresh (e ▸ hz)
  lt:=fun i hi=>by
    rw[Fo.all_app]at hi;simp[Fo.one,Fo.all]at hi
    show i<T.n+1
    rcases hi with hi | hi
    · have:=h.lt i hi;omega
    · omega
  par:=Fo.OkP.app (Fo.OkP.congr (fun z hz=>(fset_ne (f:=T.par) (i:=T.n) (j:=z) (a:=none) (fun e=>h.fresh (e ▸ hz))).symm) h.par) ⟨fset_same ..,trivial,trivial⟩
  kids:=Fo.OkK.app (Fo.OkK.congr (fun z hz=>(fset_ne (f:=T.kids) (i:=T.n) (j:=z) (a:=[]) (fun e=>h.fresh (e ▸ hz))).symm) h.kids) ⟨fset_same ..,trivial,trivial⟩
  map:=more_map h hs (fun z=>by rw[Fo.all_app];simp[Fo.one,Fo.all])
  uniq:=more_uniq h hs
  len:=by
    show (T.M++[(s,T.n,t)]).length=_
    rw[Fo.all_app,Y3,Y3,h.len];rfl
  ix:=by
    refine ⟨fun i j hi hj=>?_,fun i j hi hj=>?_,fun e he=>?_,fun i hi=>?_⟩
    · change i<T.n+1 at hi;change fset T.par T.n none i=some j at hj;show j<T.n+1
      by_cases e:i=T.n
      · subst e;rw[fset_same]at hj;cases hj
      · rw[fset_ne e]at hj;have:=h.ix.par i j (by omega) hj;omega
    · change i<T.n+1 at hi;change j∈fset T.kids T.n [] i at hj;show j<T.n+1
      by_cases e:i=T.n
      · subst e;rw[fset_same]at hj;cases hj
      · rw[fset_ne e]at hj;have:=h.ix.kids i j (by omega) hj;omega
    · show e.2.1<T.n+1
      rcases List.mem_append.1 he with he | he
      · have:=h.ix.map e he;omega
      · rw[List.mem_singleton]at he;subst he;exact Nat.lt_succ_self _
    · change i<T.n+1 at hi;show (fset T.kids T.n [] i).length≤T.n+1
      by_cases e:i=T.n
      · subst e;rw[fset_same];exact Nat.zero_le _
      · rw[fset_ne e];have:=h.ix.small i (by omega);omega
end
end
end Go.Proofs.YtmoeokkelkgnhaaGreat
section
namespace Go.Proofs.YtmoeokkelkgnhaaGreat
open Go.SL
namespace Fo
section
variable {α β : Type}
def map (g:α→β):Fo α→Fo β
  | .nil=>.nil
  | .cons i c r=>.cons (g i) (map g c) (map g r)
theorem all_map(g:α→β):∀f:Fo α,all (map g f)=(all f).map g
  | .nil=>rfl
  | .cons i c r=>by simp[map,all,all_map g c,all_map g r]
theorem map_app(g:α→β):∀a b:Fo α,map g (app a b)=app (map g a) (map g b)
  | .nil,_=>rfl
  | .cons i c r,b=>by simp[map,app,map_app g r b]
theorem map_congr{g h:α→β}:∀{f:Fo α},(∀z,z∈all f→g z=h z)→map g f=map h f
  | .nil,_=>rfl
  | .cons i c r,e=>by
    simp only[map];rw[e i (by simp[all]),map_congr (f:=c) (fun z hz=>e z (by simp[all,hz])),map_congr (f:=r) (fun z hz=>e z (by simp[all,hz]))]
end
section
variable {α β : Type} [DecidableEq α] [DecidableEq β]
end
end Fo
abbrev FoS:=Fo SlotM
def ftRoot (F:FoS) (s:SlotM):Int×FoS:=if s∈F.all then (4,F) else (0,F.app (.one s))
def ftKin (F:FoS) (s:SlotM):List SlotM:=(F.sub s).all
def TrF (n:Nat) (F:FoS) (tb:Nat) (L:Hp):Prop:=∃T G,TOk T G∧TrH T tb L∧T.n≤n∧F=G.map T.sl
section
variable {T : TreeM} {G : Fo Nat} (h : TOk T G)
include h
theorem TOk.in_all{s:SlotM}:s∈(G.map T.sl).all↔∃i,tget s T.M=some i:=by
 rw[Fo.all_map,List.mem_map]
 constructor
 ·
  rintro ⟨i,hi,rfl⟩;exact ⟨i,h.get hi⟩
 ·
  rintro ⟨i,hi⟩;exact ⟨i,h.mem hi,h.sl hi⟩
theorem TOk.out_all{s:SlotM}:tget s T.M=none↔s ∉ (G.map T.sl).all:=by
 rw[h.in_all]; cases tget s T.M <;> simp
theorem more_mapS{s:SlotM}{p:Option Nat}{t:Nat}:G.map (T.more s p t).sl=G.map T.sl:=Fo.map_congr fun z hz=>fset_ne fun e=>h.fresh (e ▸ hz)
theorem more_rootS{s:SlotM}{t:Nat}:(G.app (.one T.n)).map (T.more s none t).sl=(G.map T.sl).app (.one s):=by
 rw[Fo.map_app,more_mapS h];have:(T.more s none t).sl T.n=s:=fset_same ..
 simp[Fo.one,Fo.map,this]
end
theorem ftRoot_nd{F:FoS}{s:SlotM}(h:Fo.Nd F):Fo.Nd (ftRoot F s).2:=by
 unfold ftRoot;split
 ·
  exact h
 ·
  rename_i hs;exact Fo.nd_app h (Fo.nd_one _) fun z hz e=>by simp[Fo.one,Fo.all]at e;exact hs (e ▸ hz)
end Go.Proofs.YtmoeokkelkgnhaaGreat
end
namespace Go.Proofs.YtmoeokkelkgnhaaGreat
open Go.SL
open Go.Proofs.Tryz
section
def insAt (l:List DN) (id:Int):Nat:=(l.takeWhile fun d=>decide ((d.id:Int)<id)).length
def dadd (l:List DN) (id r:Int):Int×List DN:=(daddErr l id r,if daddErr l id r=0 then l.take (insAt l id)++newN id.toNat r.toNat 0::l.drop (insAt l id) else l)
theorem insAt_place{id:Int}:∀l:List DN,dPlace l id (insAt l id)
  | []=>⟨Nat.le_refl _,fun j d hj=>absurd hj (Nat.not_lt_zero j),fun d hd=>by cases hd⟩
  | a::l=>by
    obtain ⟨h1,h2,h3⟩:=insAt_place (id:=id) l
    by_cases e:(a.id:Int)<id
    · have he:insAt (a::l) id=insAt l id+1:=by unfold insAt;rw[List.takeWhile_cons_of_pos (by simpa using e),Y4]
      rw[he];refine ⟨by simpa using h1,fun j d hj hd=>?_,fun d hd=>h3 d (by simpa using hd)⟩;cases j with
      | zero=>simp at hd;subst hd;exact e
      | succ j=>exact h2 j d (by omega) (by simpa using hd)
    · have he:insAt (a::l) id=0:=by unfold insAt;rw[List.takeWhile_cons_of_neg (by simpa using e)];rfl
      rw[he];exact ⟨Nat.zero_le _,fun j d hj=>absurd hj (Nat.not_lt_zero j),fun d hd=>by simp at hd;subst hd;exact e⟩
def StF (l:List DN) (sb:Nat) (L:Hp):Prop:=∃S,Rel S l∧L=storeHp sb S
structure PS where
  l:List DN
  F:FoS
def mNode (p:PS) (id r:Int):Int×PS:=((dadd p.l id r).1,⟨(dadd p.l id r).2,p.F⟩)
def mPlant (p:PS) (s:SlotM) (c:CapM):Int×PS:=((dput p.l s c).1,⟨(dput p.l s c).2,if (dput p.l s c).1=0 then (ftRoot p.F s).2 else p.F⟩)
abbrev cBlk (cb sb tb:Nat):Nat×Obj:=(cb,.cells [.pointer (some ⟨sb,0,none⟩),.pointer (some ⟨tb,0,none⟩)].toArray 182)
def CapsH (n:Nat) (p:PS) (cb:Nat) (L:Hp):Prop:=∃sb tb Ls Lt,StF p.l sb Ls∧TrF n p.F tb Lt∧L=cBlk cb sb tb::(Ls++Lt)
def PS.new:PS:=⟨[],.nil⟩
end
end Go.Proofs.YtmoeokkelkgnhaaGreat
