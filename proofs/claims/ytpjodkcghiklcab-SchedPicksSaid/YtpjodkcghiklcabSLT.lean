/- What the walks of this seat use of types and functions, as instances. Written by a program of this session, out of the translation. No condition. -/
import Derived.Test.YtpjodkcghiklcabSL
import Derived.Test.YtpjodkcghiklcabRows
namespace Go.Proofs.Ytpjodkcghiklcab
open Go.SL

instance : Mixed Try.prog := ⟨by kernel_rfl⟩
instance : TyD Try.prog 3 (.int .i64) := ⟨Try.underlying3⟩
instance : TyS Try.prog 3 1 := ⟨by kernel_rfl⟩
instance : TyB Try.prog 3 8 := ⟨by kernel_rfl⟩
instance tyZ3 : TyZ Try.prog 3 (.int .i64 0) := ⟨by kernel_rfl⟩
instance : TyD Try.prog 4 (.bool) := ⟨Try.underlying4⟩
instance : TyS Try.prog 4 1 := ⟨by kernel_rfl⟩
instance : TyB Try.prog 4 1 := ⟨by kernel_rfl⟩
instance tyZ4 : TyZ Try.prog 4 (.bool false) := ⟨by kernel_rfl⟩
instance : TyD Try.prog 5 (.int .u8) := ⟨Try.underlying5⟩
instance : TyS Try.prog 5 1 := ⟨by kernel_rfl⟩
instance : TyB Try.prog 5 1 := ⟨by kernel_rfl⟩
instance tyZ5 : TyZ Try.prog 5 (.int .u8 0) := ⟨by kernel_rfl⟩
instance : TyD Try.prog 9 (.string) := ⟨Try.underlying9⟩
instance : TyS Try.prog 9 1 := ⟨by kernel_rfl⟩
instance : TyB Try.prog 9 16 := ⟨by kernel_rfl⟩
instance tyZ9 : TyZ Try.prog 9 (.string ByteArray.empty) := ⟨by kernel_rfl⟩
instance : TyD Try.prog 12 (.int .u64) := ⟨Try.underlying12⟩
instance : TyS Try.prog 12 1 := ⟨by kernel_rfl⟩
instance : TyB Try.prog 12 8 := ⟨by kernel_rfl⟩
instance tyZ12 : TyZ Try.prog 12 (.int .u64 0) := ⟨by kernel_rfl⟩
instance : TyD Try.prog 13 (.struct #[⟨ "msg", 9, 0, false, "", "runtime", 0⟩, ⟨ "addr", 12, 1, false, "", "runtime", 16⟩]) := ⟨Try.underlying13⟩
instance : TyS Try.prog 13 2 := ⟨by kernel_rfl⟩
instance : TyB Try.prog 13 24 := ⟨by kernel_rfl⟩
instance tyZ13 : TyZ Try.prog 13 (.agg #[.string ByteArray.empty, .int .u64 0]) := ⟨by kernel_rfl⟩
instance : TyFld Try.prog 13 0 0 9 := ⟨_, _, Try.underlying13, rfl, rfl, rfl⟩
instance : TyFld Try.prog 13 1 1 12 := ⟨_, _, Try.underlying13, rfl, rfl, rfl⟩
instance : TyPl Try.prog 13 [(0, 1), (1, 1)] := ⟨_, Try.underlying13, fun w => by simp [TyS.run]⟩
instance : TyD Try.prog 20 (.interface #[]) := ⟨Try.underlying20⟩
instance : TyS Try.prog 20 1 := ⟨by kernel_rfl⟩
instance : TyB Try.prog 20 16 := ⟨by kernel_rfl⟩
instance tyZ20 : TyZ Try.prog 20 (.nilIface) := ⟨by kernel_rfl⟩
instance : TyD Try.prog 21 (.int .i32) := ⟨Try.underlying21⟩
instance : TyS Try.prog 21 1 := ⟨by kernel_rfl⟩
instance : TyB Try.prog 21 4 := ⟨by kernel_rfl⟩
instance tyZ21 : TyZ Try.prog 21 (.int .i32 0) := ⟨by kernel_rfl⟩
instance : TyD Try.prog 22 (.slice 32) := ⟨Try.underlying22⟩
instance : TyS Try.prog 22 1 := ⟨by kernel_rfl⟩
instance : TyB Try.prog 22 24 := ⟨by kernel_rfl⟩
instance tyZ22 : TyZ Try.prog 22 (.slice none 0 0) := ⟨by kernel_rfl⟩
instance : TyD Try.prog 23 (.func #[] #[4] false) := ⟨Try.underlying23⟩
instance : TyS Try.prog 23 1 := ⟨by kernel_rfl⟩
instance tyZ23 : TyZ Try.prog 23 (.nilFunc) := ⟨by kernel_rfl⟩
instance : TyD Try.prog 24 (.pointer 57) := ⟨Try.underlying24⟩
instance : TyS Try.prog 24 1 := ⟨by kernel_rfl⟩
instance : TyB Try.prog 24 8 := ⟨by kernel_rfl⟩
instance tyZ24 : TyZ Try.prog 24 (.pointer none) := ⟨by kernel_rfl⟩
instance : TyD Try.prog 25 (.int .i64) := ⟨Try.underlying25⟩
instance : TyS Try.prog 25 1 := ⟨by kernel_rfl⟩
instance : TyB Try.prog 25 8 := ⟨by kernel_rfl⟩
instance tyZ25 : TyZ Try.prog 25 (.int .i64 0) := ⟨by kernel_rfl⟩
instance : TyD Try.prog 27 (.func #[28] #[24, 25] false) := ⟨Try.underlying27⟩
instance : TyS Try.prog 27 1 := ⟨by kernel_rfl⟩
instance tyZ27 : TyZ Try.prog 27 (.nilFunc) := ⟨by kernel_rfl⟩
instance : TyD Try.prog 28 (.slice 39) := ⟨Try.underlying28⟩
instance : TyS Try.prog 28 1 := ⟨by kernel_rfl⟩
instance : TyB Try.prog 28 24 := ⟨by kernel_rfl⟩
instance tyZ28 : TyZ Try.prog 28 (.slice none 0 0) := ⟨by kernel_rfl⟩
instance : TyD Try.prog 29 (.func #[22] #[28] false) := ⟨Try.underlying29⟩
instance : TyS Try.prog 29 1 := ⟨by kernel_rfl⟩
instance tyZ29 : TyZ Try.prog 29 (.nilFunc) := ⟨by kernel_rfl⟩
instance : TyD Try.prog 30 (.array 4 3) := ⟨Try.underlying30⟩
instance : TyS Try.prog 30 4 := ⟨by kernel_rfl⟩
instance : TyB Try.prog 30 32 := ⟨by kernel_rfl⟩
instance tyZ30 : TyZ Try.prog 30 (.agg #[.int .i64 0, .int .i64 0, .int .i64 0, .int .i64 0]) := ⟨by kernel_rfl⟩
instance : TyD Try.prog 31 (.struct #[⟨ "Domain", 3, 0, false, "", "", 0⟩, ⟨ "Ticks", 3, 1, false, "", "", 8⟩]) := ⟨Try.underlying31⟩
instance : TyS Try.prog 31 2 := ⟨by kernel_rfl⟩
instance : TyB Try.prog 31 16 := ⟨by kernel_rfl⟩
instance tyZ31 : TyZ Try.prog 31 (.agg #[.int .i64 0, .int .i64 0]) := ⟨by kernel_rfl⟩
instance : TyFld Try.prog 31 0 0 3 := ⟨_, _, Try.underlying31, rfl, rfl, rfl⟩
instance : TyFld Try.prog 31 1 1 3 := ⟨_, _, Try.underlying31, rfl, rfl, rfl⟩
instance : TyPl Try.prog 31 [(0, 1), (1, 1)] := ⟨_, Try.underlying31, fun w => by simp [TyS.run]⟩
instance : NumTy Try.prog 31 [.i64, .i64] := NumTy.mk' Try.underlying31 (by kernel_rfl) (by kernel_rfl) rfl (fun
    | 0, f, k, hf, hk => by obtain rfl := Option.some.inj hf; obtain rfl := Option.some.inj hk; exact ⟨by decide, rfl, Try.underlying3⟩
    | 1, f, k, hf, hk => by obtain rfl := Option.some.inj hf; obtain rfl := Option.some.inj hk; exact ⟨by decide, rfl, Try.underlying3⟩
    | i + 2, f, k, hf, hk => by simp at hf)
instance : SlotTy Try.prog 31 where
  num := inferInstance
  check b s d w := by
    simp [Instr.checkKey, TyD.run, encS, List.forIn_cons, List.forIn_nil, TyD.agg, aggD, part]
instance : TyD Try.prog 32 (.struct #[⟨ "Domain", 3, 0, false, "", "", 0⟩, ⟨ "Ticks", 3, 1, false, "", "", 8⟩]) := ⟨Try.underlying32⟩
instance : TyS Try.prog 32 2 := ⟨by kernel_rfl⟩
instance : TyB Try.prog 32 16 := ⟨by kernel_rfl⟩
instance tyZ32 : TyZ Try.prog 32 (.agg #[.int .i64 0, .int .i64 0]) := ⟨by kernel_rfl⟩
instance : TyFld Try.prog 32 0 0 3 := ⟨_, _, Try.underlying32, rfl, rfl, rfl⟩
instance : TyFld Try.prog 32 1 1 3 := ⟨_, _, Try.underlying32, rfl, rfl, rfl⟩
instance : TyPl Try.prog 32 [(0, 1), (1, 1)] := ⟨_, Try.underlying32, fun w => by simp [TyS.run]⟩
instance : NumTy Try.prog 32 [.i64, .i64] := NumTy.mk' Try.underlying32 (by kernel_rfl) (by kernel_rfl) rfl (fun
    | 0, f, k, hf, hk => by obtain rfl := Option.some.inj hf; obtain rfl := Option.some.inj hk; exact ⟨by decide, rfl, Try.underlying3⟩
    | 1, f, k, hf, hk => by obtain rfl := Option.some.inj hf; obtain rfl := Option.some.inj hk; exact ⟨by decide, rfl, Try.underlying3⟩
    | i + 2, f, k, hf, hk => by simp at hf)
instance : SlotTy Try.prog 32 where
  num := inferInstance
  check b s d w := by
    simp [Instr.checkKey, TyD.run, encS, List.forIn_cons, List.forIn_nil, TyD.agg, aggD, part]
instance : TyD Try.prog 33 (.int .u64) := ⟨Try.underlying33⟩
instance : TyS Try.prog 33 1 := ⟨by kernel_rfl⟩
instance : TyB Try.prog 33 8 := ⟨by kernel_rfl⟩
instance tyZ33 : TyZ Try.prog 33 (.int .u64 0) := ⟨by kernel_rfl⟩
instance : TyD Try.prog 34 (.func #[] #[3] false) := ⟨Try.underlying34⟩
instance : TyS Try.prog 34 1 := ⟨by kernel_rfl⟩
instance tyZ34 : TyZ Try.prog 34 (.nilFunc) := ⟨by kernel_rfl⟩
instance : TyD Try.prog 36 (.func #[] #[3, 3] false) := ⟨Try.underlying36⟩
instance : TyS Try.prog 36 1 := ⟨by kernel_rfl⟩
instance tyZ36 : TyZ Try.prog 36 (.nilFunc) := ⟨by kernel_rfl⟩
instance : TyD Try.prog 37 (.func #[22, 3] #[4] false) := ⟨Try.underlying37⟩
instance : TyS Try.prog 37 1 := ⟨by kernel_rfl⟩
instance tyZ37 : TyZ Try.prog 37 (.nilFunc) := ⟨by kernel_rfl⟩
instance : TyD Try.prog 38 (.slice 42) := ⟨Try.underlying38⟩
instance : TyS Try.prog 38 1 := ⟨by kernel_rfl⟩
instance : TyB Try.prog 38 24 := ⟨by kernel_rfl⟩
instance tyZ38 : TyZ Try.prog 38 (.slice none 0 0) := ⟨by kernel_rfl⟩
instance : TyD Try.prog 39 (.struct #[⟨ "Domain", 3, 0, false, "", "", 0⟩, ⟨ "Ticks", 3, 1, false, "", "", 8⟩]) := ⟨Try.underlying39⟩
instance : TyS Try.prog 39 2 := ⟨by kernel_rfl⟩
instance : TyB Try.prog 39 16 := ⟨by kernel_rfl⟩
instance tyZ39 : TyZ Try.prog 39 (.agg #[.int .i64 0, .int .i64 0]) := ⟨by kernel_rfl⟩
instance : TyFld Try.prog 39 0 0 3 := ⟨_, _, Try.underlying39, rfl, rfl, rfl⟩
instance : TyFld Try.prog 39 1 1 3 := ⟨_, _, Try.underlying39, rfl, rfl, rfl⟩
instance : TyPl Try.prog 39 [(0, 1), (1, 1)] := ⟨_, Try.underlying39, fun w => by simp [TyS.run]⟩
instance : NumTy Try.prog 39 [.i64, .i64] := NumTy.mk' Try.underlying39 (by kernel_rfl) (by kernel_rfl) rfl (fun
    | 0, f, k, hf, hk => by obtain rfl := Option.some.inj hf; obtain rfl := Option.some.inj hk; exact ⟨by decide, rfl, Try.underlying3⟩
    | 1, f, k, hf, hk => by obtain rfl := Option.some.inj hf; obtain rfl := Option.some.inj hk; exact ⟨by decide, rfl, Try.underlying3⟩
    | i + 2, f, k, hf, hk => by simp at hf)
instance : SlotTy Try.prog 39 where
  num := inferInstance
  check b s d w := by
    simp [Instr.checkKey, TyD.run, encS, List.forIn_cons, List.forIn_nil, TyD.agg, aggD, part]
instance : TyD Try.prog 40 (.slice 3) := ⟨Try.underlying40⟩
instance : TyS Try.prog 40 1 := ⟨by kernel_rfl⟩
instance : TyB Try.prog 40 24 := ⟨by kernel_rfl⟩
instance tyZ40 : TyZ Try.prog 40 (.slice none 0 0) := ⟨by kernel_rfl⟩
instance : TyD Try.prog 41 (.struct #[⟨ "Kind", 3, 0, false, "", "", 0⟩, ⟨ "Id", 3, 1, false, "", "", 8⟩, ⟨ "Domain", 3, 2, false, "", "", 16⟩, ⟨ "Level", 3, 3, false, "", "", 24⟩]) := ⟨Try.underlying41⟩
instance : TyS Try.prog 41 4 := ⟨by kernel_rfl⟩
instance : TyB Try.prog 41 32 := ⟨by kernel_rfl⟩
instance tyZ41 : TyZ Try.prog 41 (.agg #[.int .i64 0, .int .i64 0, .int .i64 0, .int .i64 0]) := ⟨by kernel_rfl⟩
instance : TyFld Try.prog 41 0 0 3 := ⟨_, _, Try.underlying41, rfl, rfl, rfl⟩
instance : TyFld Try.prog 41 1 1 3 := ⟨_, _, Try.underlying41, rfl, rfl, rfl⟩
instance : TyFld Try.prog 41 2 2 3 := ⟨_, _, Try.underlying41, rfl, rfl, rfl⟩
instance : TyFld Try.prog 41 3 3 3 := ⟨_, _, Try.underlying41, rfl, rfl, rfl⟩
instance : TyPl Try.prog 41 [(0, 1), (1, 1), (2, 1), (3, 1)] := ⟨_, Try.underlying41, fun w => by simp [TyS.run]⟩
instance : NumTy Try.prog 41 [.i64, .i64, .i64, .i64] := NumTy.mk' Try.underlying41 (by kernel_rfl) (by kernel_rfl) rfl (fun
    | 0, f, k, hf, hk => by obtain rfl := Option.some.inj hf; obtain rfl := Option.some.inj hk; exact ⟨by decide, rfl, Try.underlying3⟩
    | 1, f, k, hf, hk => by obtain rfl := Option.some.inj hf; obtain rfl := Option.some.inj hk; exact ⟨by decide, rfl, Try.underlying3⟩
    | 2, f, k, hf, hk => by obtain rfl := Option.some.inj hf; obtain rfl := Option.some.inj hk; exact ⟨by decide, rfl, Try.underlying3⟩
    | 3, f, k, hf, hk => by obtain rfl := Option.some.inj hf; obtain rfl := Option.some.inj hk; exact ⟨by decide, rfl, Try.underlying3⟩
    | i + 4, f, k, hf, hk => by simp at hf)
instance : TyD Try.prog 42 (.struct #[⟨ "Kind", 3, 0, false, "", "", 0⟩, ⟨ "Id", 3, 1, false, "", "", 8⟩, ⟨ "Domain", 3, 2, false, "", "", 16⟩, ⟨ "Level", 3, 3, false, "", "", 24⟩]) := ⟨Try.underlying42⟩
instance : TyS Try.prog 42 4 := ⟨by kernel_rfl⟩
instance : TyB Try.prog 42 32 := ⟨by kernel_rfl⟩
instance tyZ42 : TyZ Try.prog 42 (.agg #[.int .i64 0, .int .i64 0, .int .i64 0, .int .i64 0]) := ⟨by kernel_rfl⟩
instance : TyFld Try.prog 42 0 0 3 := ⟨_, _, Try.underlying42, rfl, rfl, rfl⟩
instance : TyFld Try.prog 42 1 1 3 := ⟨_, _, Try.underlying42, rfl, rfl, rfl⟩
instance : TyFld Try.prog 42 2 2 3 := ⟨_, _, Try.underlying42, rfl, rfl, rfl⟩
instance : TyFld Try.prog 42 3 3 3 := ⟨_, _, Try.underlying42, rfl, rfl, rfl⟩
instance : TyPl Try.prog 42 [(0, 1), (1, 1), (2, 1), (3, 1)] := ⟨_, Try.underlying42, fun w => by simp [TyS.run]⟩
instance : NumTy Try.prog 42 [.i64, .i64, .i64, .i64] := NumTy.mk' Try.underlying42 (by kernel_rfl) (by kernel_rfl) rfl (fun
    | 0, f, k, hf, hk => by obtain rfl := Option.some.inj hf; obtain rfl := Option.some.inj hk; exact ⟨by decide, rfl, Try.underlying3⟩
    | 1, f, k, hf, hk => by obtain rfl := Option.some.inj hf; obtain rfl := Option.some.inj hk; exact ⟨by decide, rfl, Try.underlying3⟩
    | 2, f, k, hf, hk => by obtain rfl := Option.some.inj hf; obtain rfl := Option.some.inj hk; exact ⟨by decide, rfl, Try.underlying3⟩
    | 3, f, k, hf, hk => by obtain rfl := Option.some.inj hf; obtain rfl := Option.some.inj hk; exact ⟨by decide, rfl, Try.underlying3⟩
    | i + 4, f, k, hf, hk => by simp at hf)
instance : TyD Try.prog 43 (.func #[3, 3, 3] #[25] false) := ⟨Try.underlying43⟩
instance : TyS Try.prog 43 1 := ⟨by kernel_rfl⟩
instance tyZ43 : TyZ Try.prog 43 (.nilFunc) := ⟨by kernel_rfl⟩
instance : TyD Try.prog 45 (.func #[] #[3, 4] false) := ⟨Try.underlying45⟩
instance : TyS Try.prog 45 1 := ⟨by kernel_rfl⟩
instance tyZ45 : TyZ Try.prog 45 (.nilFunc) := ⟨by kernel_rfl⟩
instance : TyD Try.prog 46 (.func #[3] #[4] false) := ⟨Try.underlying46⟩
instance : TyS Try.prog 46 1 := ⟨by kernel_rfl⟩
instance tyZ46 : TyZ Try.prog 46 (.nilFunc) := ⟨by kernel_rfl⟩
instance : TyD Try.prog 47 (.func #[38, 3] #[4] false) := ⟨Try.underlying47⟩
instance : TyS Try.prog 47 1 := ⟨by kernel_rfl⟩
instance tyZ47 : TyZ Try.prog 47 (.nilFunc) := ⟨by kernel_rfl⟩
instance : TyD Try.prog 48 (.func #[22, 38, 3] #[4] false) := ⟨Try.underlying48⟩
instance : TyS Try.prog 48 1 := ⟨by kernel_rfl⟩
instance tyZ48 : TyZ Try.prog 48 (.nilFunc) := ⟨by kernel_rfl⟩
instance : TyD Try.prog 49 (.pointer 64) := ⟨Try.underlying49⟩
instance : TyS Try.prog 49 1 := ⟨by kernel_rfl⟩
instance : TyB Try.prog 49 8 := ⟨by kernel_rfl⟩
instance tyZ49 : TyZ Try.prog 49 (.pointer none) := ⟨by kernel_rfl⟩
instance : TyD Try.prog 51 (.func #[22] #[49, 25] false) := ⟨Try.underlying51⟩
instance : TyS Try.prog 51 1 := ⟨by kernel_rfl⟩
instance tyZ51 : TyZ Try.prog 51 (.nilFunc) := ⟨by kernel_rfl⟩
instance : TyD Try.prog 52 (.func #[22, 38] #[4] false) := ⟨Try.underlying52⟩
instance : TyS Try.prog 52 1 := ⟨by kernel_rfl⟩
instance tyZ52 : TyZ Try.prog 52 (.nilFunc) := ⟨by kernel_rfl⟩
instance : TyD Try.prog 53 (.func #[28] #[28] false) := ⟨Try.underlying53⟩
instance : TyS Try.prog 53 1 := ⟨by kernel_rfl⟩
instance tyZ53 : TyZ Try.prog 53 (.nilFunc) := ⟨by kernel_rfl⟩
instance : TyD Try.prog 54 (.pointer 73) := ⟨Try.underlying54⟩
instance : TyS Try.prog 54 1 := ⟨by kernel_rfl⟩
instance : TyB Try.prog 54 8 := ⟨by kernel_rfl⟩
instance tyZ54 : TyZ Try.prog 54 (.pointer none) := ⟨by kernel_rfl⟩
instance : TyD Try.prog 55 (.array 4 54) := ⟨Try.underlying55⟩
instance : TyS Try.prog 55 4 := ⟨by kernel_rfl⟩
instance : TyB Try.prog 55 32 := ⟨by kernel_rfl⟩
instance tyZ55 : TyZ Try.prog 55 (.agg #[.pointer none, .pointer none, .pointer none, .pointer none]) := ⟨by kernel_rfl⟩
instance : TyD Try.prog 56 (.struct #[⟨ "times", 28, 0, false, "", "donjon/sched", 0⟩, ⟨ "entry", 3, 1, false, "", "donjon/sched", 24⟩, ⟨ "left", 3, 2, false, "", "donjon/sched", 32⟩, ⟨ "ready", 55, 3, false, "", "donjon/sched", 40⟩]) := ⟨Try.underlying56⟩
instance : TyS Try.prog 56 7 := ⟨by kernel_rfl⟩
instance : TyB Try.prog 56 72 := ⟨by kernel_rfl⟩
instance tyZ56 : TyZ Try.prog 56 (.agg #[.slice none 0 0, .int .i64 0, .int .i64 0, .pointer none, .pointer none, .pointer none, .pointer none]) := ⟨by kernel_rfl⟩
instance : TyFld Try.prog 56 0 0 28 := ⟨_, _, Try.underlying56, rfl, rfl, rfl⟩
instance : TyFld Try.prog 56 1 1 3 := ⟨_, _, Try.underlying56, rfl, rfl, rfl⟩
instance : TyFld Try.prog 56 2 2 3 := ⟨_, _, Try.underlying56, rfl, rfl, rfl⟩
instance : TyFld Try.prog 56 3 3 55 := ⟨_, _, Try.underlying56, rfl, rfl, rfl⟩
instance : TyPl Try.prog 56 [(0, 1), (1, 1), (2, 1), (3, 4)] := ⟨_, Try.underlying56, fun w => by simp [TyS.run]⟩
instance : TyD Try.prog 57 (.struct #[⟨ "times", 28, 0, false, "", "donjon/sched", 0⟩, ⟨ "entry", 3, 1, false, "", "donjon/sched", 24⟩, ⟨ "left", 3, 2, false, "", "donjon/sched", 32⟩, ⟨ "ready", 55, 3, false, "", "donjon/sched", 40⟩]) := ⟨Try.underlying57⟩
instance : TyS Try.prog 57 7 := ⟨by kernel_rfl⟩
instance : TyB Try.prog 57 72 := ⟨by kernel_rfl⟩
instance tyZ57 : TyZ Try.prog 57 (.agg #[.slice none 0 0, .int .i64 0, .int .i64 0, .pointer none, .pointer none, .pointer none, .pointer none]) := ⟨by kernel_rfl⟩
instance : TyFld Try.prog 57 0 0 28 := ⟨_, _, Try.underlying57, rfl, rfl, rfl⟩
instance : TyFld Try.prog 57 1 1 3 := ⟨_, _, Try.underlying57, rfl, rfl, rfl⟩
instance : TyFld Try.prog 57 2 2 3 := ⟨_, _, Try.underlying57, rfl, rfl, rfl⟩
instance : TyFld Try.prog 57 3 3 55 := ⟨_, _, Try.underlying57, rfl, rfl, rfl⟩
instance : TyPl Try.prog 57 [(0, 1), (1, 1), (2, 1), (3, 4)] := ⟨_, Try.underlying57, fun w => by simp [TyS.run]⟩
instance : TyD Try.prog 58 (.func #[] #[54] false) := ⟨Try.underlying58⟩
instance : TyS Try.prog 58 1 := ⟨by kernel_rfl⟩
instance tyZ58 : TyZ Try.prog 58 (.nilFunc) := ⟨by kernel_rfl⟩
instance : TyD Try.prog 60 (.func #[3] #[3, 3, 4] false) := ⟨Try.underlying60⟩
instance : TyS Try.prog 60 1 := ⟨by kernel_rfl⟩
instance tyZ60 : TyZ Try.prog 60 (.nilFunc) := ⟨by kernel_rfl⟩
instance : TyD Try.prog 61 (.func #[3, 3] #[25] false) := ⟨Try.underlying61⟩
instance : TyS Try.prog 61 1 := ⟨by kernel_rfl⟩
instance tyZ61 : TyZ Try.prog 61 (.nilFunc) := ⟨by kernel_rfl⟩
instance : TyD Try.prog 62 (.slice 65) := ⟨Try.underlying62⟩
instance : TyS Try.prog 62 1 := ⟨by kernel_rfl⟩
instance : TyB Try.prog 62 24 := ⟨by kernel_rfl⟩
instance tyZ62 : TyZ Try.prog 62 (.slice none 0 0) := ⟨by kernel_rfl⟩
instance : TyD Try.prog 63 (.struct #[⟨ "L", 22, 0, false, "", "", 0⟩, ⟨ "N", 3, 1, false, "", "", 24⟩, ⟨ "R", 62, 2, false, "", "", 32⟩]) := ⟨Try.underlying63⟩
instance : TyS Try.prog 63 3 := ⟨by kernel_rfl⟩
instance : TyB Try.prog 63 56 := ⟨by kernel_rfl⟩
instance tyZ63 : TyZ Try.prog 63 (.agg #[.slice none 0 0, .int .i64 0, .slice none 0 0]) := ⟨by kernel_rfl⟩
instance : TyFld Try.prog 63 0 0 22 := ⟨_, _, Try.underlying63, rfl, rfl, rfl⟩
instance : TyFld Try.prog 63 1 1 3 := ⟨_, _, Try.underlying63, rfl, rfl, rfl⟩
instance : TyFld Try.prog 63 2 2 62 := ⟨_, _, Try.underlying63, rfl, rfl, rfl⟩
instance : TyPl Try.prog 63 [(0, 1), (1, 1), (2, 1)] := ⟨_, Try.underlying63, fun w => by simp [TyS.run]⟩
instance : TyD Try.prog 64 (.struct #[⟨ "L", 22, 0, false, "", "", 0⟩, ⟨ "N", 3, 1, false, "", "", 24⟩, ⟨ "R", 62, 2, false, "", "", 32⟩]) := ⟨Try.underlying64⟩
instance : TyS Try.prog 64 3 := ⟨by kernel_rfl⟩
instance : TyB Try.prog 64 56 := ⟨by kernel_rfl⟩
instance tyZ64 : TyZ Try.prog 64 (.agg #[.slice none 0 0, .int .i64 0, .slice none 0 0]) := ⟨by kernel_rfl⟩
instance : TyFld Try.prog 64 0 0 22 := ⟨_, _, Try.underlying64, rfl, rfl, rfl⟩
instance : TyFld Try.prog 64 1 1 3 := ⟨_, _, Try.underlying64, rfl, rfl, rfl⟩
instance : TyFld Try.prog 64 2 2 62 := ⟨_, _, Try.underlying64, rfl, rfl, rfl⟩
instance : TyPl Try.prog 64 [(0, 1), (1, 1), (2, 1)] := ⟨_, Try.underlying64, fun w => by simp [TyS.run]⟩
instance : TyD Try.prog 65 (.pointer 68) := ⟨Try.underlying65⟩
instance : TyS Try.prog 65 1 := ⟨by kernel_rfl⟩
instance : TyB Try.prog 65 8 := ⟨by kernel_rfl⟩
instance tyZ65 : TyZ Try.prog 65 (.pointer none) := ⟨by kernel_rfl⟩
instance : TyD Try.prog 66 (.slice 80) := ⟨Try.underlying66⟩
instance : TyS Try.prog 66 1 := ⟨by kernel_rfl⟩
instance : TyB Try.prog 66 24 := ⟨by kernel_rfl⟩
instance tyZ66 : TyZ Try.prog 66 (.slice none 0 0) := ⟨by kernel_rfl⟩
instance : TyD Try.prog 67 (.struct #[⟨ "L", 66, 0, false, "", "", 0⟩]) := ⟨Try.underlying67⟩
instance : TyS Try.prog 67 1 := ⟨by kernel_rfl⟩
instance : TyB Try.prog 67 24 := ⟨by kernel_rfl⟩
instance tyZ67 : TyZ Try.prog 67 (.agg #[.slice none 0 0]) := ⟨by kernel_rfl⟩
instance : TyFld Try.prog 67 0 0 66 := ⟨_, _, Try.underlying67, rfl, rfl, rfl⟩
instance : TyPl Try.prog 67 [(0, 1)] := ⟨_, Try.underlying67, fun w => by simp [TyS.run]⟩
instance : TyD Try.prog 68 (.struct #[⟨ "L", 66, 0, false, "", "", 0⟩]) := ⟨Try.underlying68⟩
instance : TyS Try.prog 68 1 := ⟨by kernel_rfl⟩
instance : TyB Try.prog 68 24 := ⟨by kernel_rfl⟩
instance tyZ68 : TyZ Try.prog 68 (.agg #[.slice none 0 0]) := ⟨by kernel_rfl⟩
instance : TyFld Try.prog 68 0 0 66 := ⟨_, _, Try.underlying68, rfl, rfl, rfl⟩
instance : TyPl Try.prog 68 [(0, 1)] := ⟨_, Try.underlying68, fun w => by simp [TyS.run]⟩
instance : TyD Try.prog 69 (.struct #[⟨ "ids", 40, 0, false, "", "donjon/line", 0⟩]) := ⟨Try.underlying69⟩
instance : TyS Try.prog 69 1 := ⟨by kernel_rfl⟩
instance : TyB Try.prog 69 24 := ⟨by kernel_rfl⟩
instance tyZ69 : TyZ Try.prog 69 (.agg #[.slice none 0 0]) := ⟨by kernel_rfl⟩
instance : TyFld Try.prog 69 0 0 40 := ⟨_, _, Try.underlying69, rfl, rfl, rfl⟩
instance : TyPl Try.prog 69 [(0, 1)] := ⟨_, Try.underlying69, fun w => by simp [TyS.run]⟩
instance : TyD Try.prog 70 (.struct #[⟨ "ids", 40, 0, false, "", "donjon/line", 0⟩]) := ⟨Try.underlying70⟩
instance : TyS Try.prog 70 1 := ⟨by kernel_rfl⟩
instance : TyB Try.prog 70 24 := ⟨by kernel_rfl⟩
instance tyZ70 : TyZ Try.prog 70 (.agg #[.slice none 0 0]) := ⟨by kernel_rfl⟩
instance : TyFld Try.prog 70 0 0 40 := ⟨_, _, Try.underlying70, rfl, rfl, rfl⟩
instance : TyPl Try.prog 70 [(0, 1)] := ⟨_, Try.underlying70, fun w => by simp [TyS.run]⟩
instance : TyD Try.prog 71 (.array 8 70) := ⟨Try.underlying71⟩
instance : TyS Try.prog 71 8 := ⟨by kernel_rfl⟩
instance : TyB Try.prog 71 192 := ⟨by kernel_rfl⟩
instance tyZ71 : TyZ Try.prog 71 (.agg #[.slice none 0 0, .slice none 0 0, .slice none 0 0, .slice none 0 0, .slice none 0 0, .slice none 0 0, .slice none 0 0, .slice none 0 0]) := ⟨by kernel_rfl⟩
instance : TyD Try.prog 72 (.struct #[⟨ "lines", 71, 0, false, "", "donjon/line", 0⟩, ⟨ "levels", 33, 8, false, "", "donjon/line", 192⟩]) := ⟨Try.underlying72⟩
instance : TyS Try.prog 72 9 := ⟨by kernel_rfl⟩
instance : TyB Try.prog 72 200 := ⟨by kernel_rfl⟩
instance tyZ72 : TyZ Try.prog 72 (.agg #[.slice none 0 0, .slice none 0 0, .slice none 0 0, .slice none 0 0, .slice none 0 0, .slice none 0 0, .slice none 0 0, .slice none 0 0, .int .u64 0]) := ⟨by kernel_rfl⟩
instance : TyFld Try.prog 72 0 0 71 := ⟨_, _, Try.underlying72, rfl, rfl, rfl⟩
instance : TyFld Try.prog 72 1 8 33 := ⟨_, _, Try.underlying72, rfl, rfl, rfl⟩
instance : TyPl Try.prog 72 [(0, 8), (8, 1)] := ⟨_, Try.underlying72, fun w => by simp [TyS.run]⟩
instance : TyD Try.prog 73 (.struct #[⟨ "lines", 71, 0, false, "", "donjon/line", 0⟩, ⟨ "levels", 33, 8, false, "", "donjon/line", 192⟩]) := ⟨Try.underlying73⟩
instance : TyS Try.prog 73 9 := ⟨by kernel_rfl⟩
instance : TyB Try.prog 73 200 := ⟨by kernel_rfl⟩
instance tyZ73 : TyZ Try.prog 73 (.agg #[.slice none 0 0, .slice none 0 0, .slice none 0 0, .slice none 0 0, .slice none 0 0, .slice none 0 0, .slice none 0 0, .slice none 0 0, .int .u64 0]) := ⟨by kernel_rfl⟩
instance : TyFld Try.prog 73 0 0 71 := ⟨_, _, Try.underlying73, rfl, rfl, rfl⟩
instance : TyFld Try.prog 73 1 8 33 := ⟨_, _, Try.underlying73, rfl, rfl, rfl⟩
instance : TyPl Try.prog 73 [(0, 8), (8, 1)] := ⟨_, Try.underlying73, fun w => by simp [TyS.run]⟩
instance : TyD Try.prog 74 (.func #[40, 3] #[4] false) := ⟨Try.underlying74⟩
instance : TyS Try.prog 74 1 := ⟨by kernel_rfl⟩
instance tyZ74 : TyZ Try.prog 74 (.nilFunc) := ⟨by kernel_rfl⟩
instance : TyD Try.prog 75 (.func #[3] #[40] false) := ⟨Try.underlying75⟩
instance : TyS Try.prog 75 1 := ⟨by kernel_rfl⟩
instance tyZ75 : TyZ Try.prog 75 (.nilFunc) := ⟨by kernel_rfl⟩
instance : TyD Try.prog 76 (.func #[3] #[25] false) := ⟨Try.underlying76⟩
instance : TyS Try.prog 76 1 := ⟨by kernel_rfl⟩
instance tyZ76 : TyZ Try.prog 76 (.nilFunc) := ⟨by kernel_rfl⟩
instance : TyD Try.prog 77 (.func #[3] #[] false) := ⟨Try.underlying77⟩
instance : TyS Try.prog 77 1 := ⟨by kernel_rfl⟩
instance tyZ77 : TyZ Try.prog 77 (.nilFunc) := ⟨by kernel_rfl⟩
instance : TyD Try.prog 78 (.func #[33] #[3] false) := ⟨Try.underlying78⟩
instance : TyS Try.prog 78 1 := ⟨by kernel_rfl⟩
instance tyZ78 : TyZ Try.prog 78 (.nilFunc) := ⟨by kernel_rfl⟩
instance : TyD Try.prog 79 (.struct #[⟨ "Id", 3, 0, false, "", "", 0⟩, ⟨ "Level", 3, 1, false, "", "", 8⟩]) := ⟨Try.underlying79⟩
instance : TyS Try.prog 79 2 := ⟨by kernel_rfl⟩
instance : TyB Try.prog 79 16 := ⟨by kernel_rfl⟩
instance tyZ79 : TyZ Try.prog 79 (.agg #[.int .i64 0, .int .i64 0]) := ⟨by kernel_rfl⟩
instance : TyFld Try.prog 79 0 0 3 := ⟨_, _, Try.underlying79, rfl, rfl, rfl⟩
instance : TyFld Try.prog 79 1 1 3 := ⟨_, _, Try.underlying79, rfl, rfl, rfl⟩
instance : TyPl Try.prog 79 [(0, 1), (1, 1)] := ⟨_, Try.underlying79, fun w => by simp [TyS.run]⟩
instance : NumTy Try.prog 79 [.i64, .i64] := NumTy.mk' Try.underlying79 (by kernel_rfl) (by kernel_rfl) rfl (fun
    | 0, f, k, hf, hk => by obtain rfl := Option.some.inj hf; obtain rfl := Option.some.inj hk; exact ⟨by decide, rfl, Try.underlying3⟩
    | 1, f, k, hf, hk => by obtain rfl := Option.some.inj hf; obtain rfl := Option.some.inj hk; exact ⟨by decide, rfl, Try.underlying3⟩
    | i + 2, f, k, hf, hk => by simp at hf)
instance : SlotTy Try.prog 79 where
  num := inferInstance
  check b s d w := by
    simp [Instr.checkKey, TyD.run, encS, List.forIn_cons, List.forIn_nil, TyD.agg, aggD, part]
instance : TyD Try.prog 80 (.struct #[⟨ "Id", 3, 0, false, "", "", 0⟩, ⟨ "Level", 3, 1, false, "", "", 8⟩]) := ⟨Try.underlying80⟩
instance : TyS Try.prog 80 2 := ⟨by kernel_rfl⟩
instance : TyB Try.prog 80 16 := ⟨by kernel_rfl⟩
instance tyZ80 : TyZ Try.prog 80 (.agg #[.int .i64 0, .int .i64 0]) := ⟨by kernel_rfl⟩
instance : TyFld Try.prog 80 0 0 3 := ⟨_, _, Try.underlying80, rfl, rfl, rfl⟩
instance : TyFld Try.prog 80 1 1 3 := ⟨_, _, Try.underlying80, rfl, rfl, rfl⟩
instance : TyPl Try.prog 80 [(0, 1), (1, 1)] := ⟨_, Try.underlying80, fun w => by simp [TyS.run]⟩
instance : NumTy Try.prog 80 [.i64, .i64] := NumTy.mk' Try.underlying80 (by kernel_rfl) (by kernel_rfl) rfl (fun
    | 0, f, k, hf, hk => by obtain rfl := Option.some.inj hf; obtain rfl := Option.some.inj hk; exact ⟨by decide, rfl, Try.underlying3⟩
    | 1, f, k, hf, hk => by obtain rfl := Option.some.inj hf; obtain rfl := Option.some.inj hk; exact ⟨by decide, rfl, Try.underlying3⟩
    | i + 2, f, k, hf, hk => by simp at hf)
instance : SlotTy Try.prog 80 where
  num := inferInstance
  check b s d w := by
    simp [Instr.checkKey, TyD.run, encS, List.forIn_cons, List.forIn_nil, TyD.agg, aggD, part]
instance : TyD Try.prog 81 (.func #[40, 3] #[3] false) := ⟨Try.underlying81⟩
instance : TyS Try.prog 81 1 := ⟨by kernel_rfl⟩
instance tyZ81 : TyZ Try.prog 81 (.nilFunc) := ⟨by kernel_rfl⟩
instance : TyD Try.prog 82 (.func #[] #[40] false) := ⟨Try.underlying82⟩
instance : TyS Try.prog 82 1 := ⟨by kernel_rfl⟩
instance tyZ82 : TyZ Try.prog 82 (.nilFunc) := ⟨by kernel_rfl⟩
instance : TyD Try.prog 83 (.pointer 70) := ⟨Try.underlying83⟩
instance : TyS Try.prog 83 1 := ⟨by kernel_rfl⟩
instance : TyB Try.prog 83 8 := ⟨by kernel_rfl⟩
instance tyZ83 : TyZ Try.prog 83 (.pointer none) := ⟨by kernel_rfl⟩
instance : TyD Try.prog 84 (.func #[86] #[40] true) := ⟨Try.underlying84⟩
instance : TyS Try.prog 84 1 := ⟨by kernel_rfl⟩
instance tyZ84 : TyZ Try.prog 84 (.nilFunc) := ⟨by kernel_rfl⟩
instance : TyD Try.prog 85 (.func #[40] #[40] false) := ⟨Try.underlying85⟩
instance : TyS Try.prog 85 1 := ⟨by kernel_rfl⟩
instance tyZ85 : TyZ Try.prog 85 (.nilFunc) := ⟨by kernel_rfl⟩
instance : TyD Try.prog 86 (.slice 40) := ⟨Try.underlying86⟩
instance : TyS Try.prog 86 1 := ⟨by kernel_rfl⟩
instance : TyB Try.prog 86 24 := ⟨by kernel_rfl⟩
instance tyZ86 : TyZ Try.prog 86 (.slice none 0 0) := ⟨by kernel_rfl⟩
instance : TyD Try.prog 87 (.func #[40, 3] #[40] false) := ⟨Try.underlying87⟩
instance : TyS Try.prog 87 1 := ⟨by kernel_rfl⟩
instance tyZ87 : TyZ Try.prog 87 (.nilFunc) := ⟨by kernel_rfl⟩
instance : TyD Try.prog 88 (.func #[] #[9] false) := ⟨Try.underlying88⟩
instance : TyS Try.prog 88 1 := ⟨by kernel_rfl⟩
instance tyZ88 : TyZ Try.prog 88 (.nilFunc) := ⟨by kernel_rfl⟩
instance : TyD Try.prog 94 (.int .u32) := ⟨Try.underlying94⟩
instance : TyS Try.prog 94 1 := ⟨by kernel_rfl⟩
instance : TyB Try.prog 94 4 := ⟨by kernel_rfl⟩
instance tyZ94 : TyZ Try.prog 94 (.int .u32 0) := ⟨by kernel_rfl⟩
instance : TyD Try.prog 98 (.pointer 5) := ⟨Try.underlying98⟩
instance : TyS Try.prog 98 1 := ⟨by kernel_rfl⟩
instance : TyB Try.prog 98 8 := ⟨by kernel_rfl⟩
instance tyZ98 : TyZ Try.prog 98 (.pointer none) := ⟨by kernel_rfl⟩
instance : TyD Try.prog 103 (.func #[] #[33] false) := ⟨Try.underlying103⟩
instance : TyS Try.prog 103 1 := ⟨by kernel_rfl⟩
instance tyZ103 : TyZ Try.prog 103 (.nilFunc) := ⟨by kernel_rfl⟩
instance : GoFn Try.prog 3 := ⟨_, Try.func3, by kernel_rfl, by kernel_rfl⟩
instance : GoFn Try.prog 4 := ⟨_, Try.func4, by kernel_rfl, by kernel_rfl⟩
instance : GoFn Try.prog 5 := ⟨_, Try.func5, by kernel_rfl, by kernel_rfl⟩
instance : GoFn Try.prog 6 := ⟨_, Try.func6, by kernel_rfl, by kernel_rfl⟩
instance : GoFn Try.prog 7 := ⟨_, Try.func7, by kernel_rfl, by kernel_rfl⟩
instance : GoFn Try.prog 8 := ⟨_, Try.func8, by kernel_rfl, by kernel_rfl⟩
instance : GoFn Try.prog 9 := ⟨_, Try.func9, by kernel_rfl, by kernel_rfl⟩
instance : GoFn Try.prog 10 := ⟨_, Try.func10, by kernel_rfl, by kernel_rfl⟩
instance : GoFn Try.prog 11 := ⟨_, Try.func11, by kernel_rfl, by kernel_rfl⟩
instance : GoFn Try.prog 12 := ⟨_, Try.func12, by kernel_rfl, by kernel_rfl⟩
instance : GoFn Try.prog 13 := ⟨_, Try.func13, by kernel_rfl, by kernel_rfl⟩
instance : GoFn Try.prog 14 := ⟨_, Try.func14, by kernel_rfl, by kernel_rfl⟩
instance : GoFn Try.prog 15 := ⟨_, Try.func15, by kernel_rfl, by kernel_rfl⟩
instance : GoFn Try.prog 16 := ⟨_, Try.func16, by kernel_rfl, by kernel_rfl⟩
instance : GoFn Try.prog 17 := ⟨_, Try.func17, by kernel_rfl, by kernel_rfl⟩
instance : GoFn Try.prog 18 := ⟨_, Try.func18, by kernel_rfl, by kernel_rfl⟩
instance : GoFn Try.prog 19 := ⟨_, Try.func19, by kernel_rfl, by kernel_rfl⟩
instance : GoFn Try.prog 20 := ⟨_, Try.func20, by kernel_rfl, by kernel_rfl⟩
instance : GoFn Try.prog 21 := ⟨_, Try.func21, by kernel_rfl, by kernel_rfl⟩
instance : GoFn Try.prog 22 := ⟨_, Try.func22, by kernel_rfl, by kernel_rfl⟩
instance : GoFn Try.prog 23 := ⟨_, Try.func23, by kernel_rfl, by kernel_rfl⟩
instance : GoFn Try.prog 24 := ⟨_, Try.func24, by kernel_rfl, by kernel_rfl⟩
instance : GoFn Try.prog 25 := ⟨_, Try.func25, by kernel_rfl, by kernel_rfl⟩
instance : GoFn Try.prog 26 := ⟨_, Try.func26, by kernel_rfl, by kernel_rfl⟩
instance : GoFn Try.prog 27 := ⟨_, Try.func27, by kernel_rfl, by kernel_rfl⟩
instance : GoFn Try.prog 28 := ⟨_, Try.func28, by kernel_rfl, by kernel_rfl⟩
instance : GoFn Try.prog 29 := ⟨_, Try.func29, by kernel_rfl, by kernel_rfl⟩
instance : GoFn Try.prog 30 := ⟨_, Try.func30, by kernel_rfl, by kernel_rfl⟩
instance : GoFn Try.prog 31 := ⟨_, Try.func31, by kernel_rfl, by kernel_rfl⟩
instance : GoFn Try.prog 32 := ⟨_, Try.func32, by kernel_rfl, by kernel_rfl⟩
instance : GoFn Try.prog 33 := ⟨_, Try.func33, by kernel_rfl, by kernel_rfl⟩
instance : GoFn Try.prog 34 := ⟨_, Try.func34, by kernel_rfl, by kernel_rfl⟩
instance : GoFn Try.prog 35 := ⟨_, Try.func35, by kernel_rfl, by kernel_rfl⟩
instance : GoFn Try.prog 36 := ⟨_, Try.func36, by kernel_rfl, by kernel_rfl⟩
instance : GoFn Try.prog 37 := ⟨_, Try.func37, by kernel_rfl, by kernel_rfl⟩
instance : GoFn Try.prog 38 := ⟨_, Try.func38, by kernel_rfl, by kernel_rfl⟩
instance : GoFn Try.prog 39 := ⟨_, Try.func39, by kernel_rfl, by kernel_rfl⟩
instance : GoFn Try.prog 40 := ⟨_, Try.func40, by kernel_rfl, by kernel_rfl⟩
instance : GoFn Try.prog 41 := ⟨_, Try.func41, by kernel_rfl, by kernel_rfl⟩
instance : GoFn Try.prog 42 := ⟨_, Try.func42, by kernel_rfl, by kernel_rfl⟩
instance : GoFn Try.prog 43 := ⟨_, Try.func43, by kernel_rfl, by kernel_rfl⟩
instance : GoFn Try.prog 44 := ⟨_, Try.func44, by kernel_rfl, by kernel_rfl⟩
instance : GoFn Try.prog 45 := ⟨_, Try.func45, by kernel_rfl, by kernel_rfl⟩
instance : GoFn Try.prog 46 := ⟨_, Try.func46, by kernel_rfl, by kernel_rfl⟩
instance : GoFn Try.prog 47 := ⟨_, Try.func47, by kernel_rfl, by kernel_rfl⟩
instance : GoFn Try.prog 48 := ⟨_, Try.func48, by kernel_rfl, by kernel_rfl⟩
instance : GoFn Try.prog 49 := ⟨_, Try.func49, by kernel_rfl, by kernel_rfl⟩

end Go.Proofs.Ytpjodkcghiklcab
