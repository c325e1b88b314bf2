/- RevokeTells. Laid together by pack.py out of the texts in wip. -/
import Derived.Test.YtdodfnjmkpgdbaaPRevokeTells2
set_option linter.unusedVariables false
set_option linter.unusedSimpArgs false
set_option linter.unusedSectionVars false
section
set_option linter.unusedVariables false
set_option linter.unusedSimpArgs false
set_option linter.unusedSectionVars false
namespace Go.SL
attribute [local semireducible] Ops Wp Ends Goes Ef AnyH Turn Tr Pv Res RVal
def TrPostE (R : Value → Hp → Prop) (X : List PanicEntry → Hp → Prop) (W : World) (F : Hp) : Ending → World → Prop := fun e w' =>
  (∃ v L', e = .returned v ∧ R v L' ∧ Own W w' (L' ++ F)) ∨ ∃ c L', e = .panicked c ∧ X c L' ∧ Own W w' (L' ++ F)
def TrE (P : Program) (f : FuncId) (args : List Value) (L : Hp) (R : Value → Hp → Prop) (X : List PanicEntry → Hp → Prop) : Prop :=
  ∀ W w F, Own W w (L ++ F) → Calls P f args.toArray w (TrPostE R X W F)
theorem TrE.enter {P : Program} {f : FuncId} {fn : Func} {c : Code} {n : Nat} {args : List Value} {L : Hp} {R : Value → Hp → Prop} {X : List PanicEntry → Hp → Prop}
    (hf : P.funcs[f]? = some fn) (hb : fn.body = some c) (hn : fn.ntmps = n) (hle : Nat.ble args.length n = true)
    (h : ∀ W F, Wp P W (bodyPost P fn (TrPostE R X W F)) n [] c (argsEnv 0 args) (L ++ F)) : TrE P f args L R X := fun W w F ho =>
  calls_of_wp hf hb (by
    subst hn
    exact h W F _ w (sees_start hle) ho)
theorem TrE.mono {P : Program} {f : FuncId} {args : List Value} {L : Hp} {R R' : Value → Hp → Prop} {X X' : List PanicEntry → Hp → Prop} (h : TrE P f args L R X) (hr : ∀ v L', R v L' → R' v L') (hx : ∀ c L', X c L' → X' c L') : TrE P f args L R' X' :=
  fun W w F ho => (h W w F ho).mono fun _ _ h => by
    rcases h with ⟨v, L', he, hR, ho'⟩ | ⟨c, L', he, hX, ho'⟩
    · exact .inl ⟨v, L', he, hr _ _ hR, ho'⟩
    · exact .inr ⟨c, L', he, hx _ _ hX, ho'⟩
theorem Ends.retE {P : Program} {W : World} {fn : Func} {R : Value → Hp → Prop} {X : List PanicEntry → Hp → Prop} {F : Hp} {n : Nat} {E : Env} {L L' : Hp} {v : Value} {M : Hp}
    (hres : Res P fn n [] E L v) (hR : R v L') [ha : App L' F M] [hd : Drop L M] : Ends W (bodyPost P fn (TrPostE R X W F)) n [] .ret E L :=
  fun a w hs ho => ⟨hs.dfs, v, hres a w hs ho.held, .inl ⟨v, L', rfl, hR, by rw [ha.eq]; exact hd.own ho⟩⟩
theorem Ends.finE {P : Program} {W : World} {fn : Func} {R : Value → Hp → Prop} {X : List PanicEntry → Hp → Prop} {F : Hp} {n : Nat} {E : Env} {L L' : Hp} {v : Value} {M : Hp}
    (hres : Res P fn n [] E L v) (hR : R v L') [ha : App L' F M] [hd : Drop L M] : Ends W (bodyPost P fn (TrPostE R X W F)) n [] .normal E L :=
  fun a w hs ho => ⟨hs.dfs, v, hres a w hs ho.held, .inl ⟨v, L', rfl, hR, by rw [ha.eq]; exact hd.own ho⟩⟩
instance (priority := 1260) Part.consApp2 {x : Nat × Obj} {L A T R : Hp} [h : Part L (x :: (A ++ T)) R] : Part L ((x :: A) ++ T) R := ⟨h.perm⟩
class PT (W : World) (D : List Deferred) (Q : Exit → Act → World → Prop) (X : outParam (List PanicEntry → Hp → Prop)) (F : outParam Hp) : Prop where
  pt : ∀ c a w L', a.defers = D → X c L' → Own W w (L' ++ F) → Q (.panic c) a w
instance PT.body {P : Program} {W : World} {fn : Func} {R : Value → Hp → Prop} {X : List PanicEntry → Hp → Prop} {F : Hp} : PT W [] (bodyPost P fn (TrPostE R X W F)) X F :=
  ⟨fun c a w L' hd hx ho => ⟨hd, .inr ⟨c, L', rfl, hx, ho⟩⟩⟩
instance PT.then_ {W : World} {D : List Deferred} {Q : Exit → Act → World → Prop} {K : Act → World → Prop} {X : List PanicEntry → Hp → Prop} {F : Hp} [h : PT W D Q X F] : PT W D (Exit.then K Q) X F := ⟨h.pt⟩
instance PT.block_ {W : World} {D : List Deferred} {Q : Exit → Act → World → Prop} {id : Nat} {X : List PanicEntry → Hp → Prop} {F : Hp} [h : PT W D Q X F] : PT W D (Exit.inBlock id Q) X F := ⟨h.pt⟩
section
variable {P : Program} {W : World} {ops : Array Oper} {Q : Exit → Act → World → Prop} {n : Nat} {D : List Deferred} {E : Env} {L : Hp} {rest : List Oper} {ty : TypeId} {pos : String} {aft : Array Edge} {g : Option (Nat × Bool)} {K : Env → Hp → Prop} {X Y : List PanicEntry → Hp → Prop} {G : Hp}
def EfX (P : Program) (W : World) (n : Nat) (D : List Deferred) (o : Oper) (E : Env) (L : Hp) (K : Env → Hp → Prop) (X : List PanicEntry → Hp → Prop) : Prop :=
  ∀ (Q : Exit → Act → World → Prop) a w (next : Act → World → Prop), Sees n D E a → Own W w L →
    (∀ E' L' a' w', K E' L' → Sees n D E' a' → Own W w' L' → next a' w') → (∀ c L' w', X c L' → Own W w' L' → Q (.panic c) a w') → o.wp P a w next Q
theorem Ops.efx {o : Oper} (hg : o.guard = none) (h : EfX P W n D o E L K X) [hq : PT W D Q Y G] (hx : ∀ c L', X c L' → ∃ L2, Y c L2 ∧ Drop L' (L2 ++ G)) (hn : ∀ E' L', K E' L' → Ops P W ops Q n D rest E' L') : Ops P W ops Q n D (o :: rest) E L := fun a w hs ho =>
  wpList_plain hg fun K' hK' => h Q a w K' hs ho (fun E' L' a' w' k hs' ho' => hK' _ _ (hn E' L' k a' w' hs' ho')) (fun c L' w' hX ho' => by
    obtain ⟨L2, hY, hd⟩ := hx c L' hX
    exact hq.pt c a w' L2 hs.dfs hY (hd.own ho'))
theorem Turn.efx {S : Hp} {fuel : Nat} {listed : Array Bool} {i : Nat} {o : Oper} (hi : ops[i]? = some o) (hg : Wanted ops E o.guard true) (h : EfX P W n D o E L K X) [hq : PT W D Q Y G] (hx : ∀ c L', X c L' → ∃ L2, Y c L2 ∧ Drop L' (L2 ++ G)) (hS : ∀ E' L', K E' L' → HeldSub L' S)
    (hn : ∀ E' L', K E' L' → AnyH P W ops Q n D S fuel (listed.setIfInBounds i true) E' L') : Turn P W ops Q n D S fuel listed i E L := fun a w hs ho => by
  unfold wpOp
  simp only [hi]
  rw [if_pos (wanted_of hg hs)]
  exact .inl (h Q a w _ hs ho (fun E' L' a' w' k hs' ho' => ⟨ho'.heldSub (hS _ _ k), hn E' L' k a' w' hs' ho'⟩) (fun c L' w' hX ho' => by
    obtain ⟨L2, hY, hd⟩ := hx c L' hX
    exact hq.pt c a w' L2 hs.dfs hY (hd.own ho')))
theorem efx_call {d : Nat} {f : FuncId} {xs : List Operand} {ats : Array TypeId} {args : List Value} {Lp F : Hp} {R : Value → Hp → Prop} (ht : TrE P f args Lp R X) [hf : GoFn P f] (hx : evs E xs = some args) (hd : Nat.blt d n = true) [hp : Part L Lp F] :
    EfX P W n D ⟨some d, .call { callee := .value (.func f), args := xs.toArray, argTypes := ats }, ty, pos, aft, g⟩ E L (fun E' L' => ∃ v L1, R v L1 ∧ E' = (d, v) :: E ∧ L' = L1 ++ F) (fun c L' => ∃ L1, X c L1 ∧ L' = L1 ++ F) := fun Q a w next hs ho hn hpn => by
  unfold Oper.wp
  rw [execOp_call_go]
  have e : (#[] ++ xs.toArray.map a.eval ++ #[] : Array Value) = args.toArray := by simp [hs.evs hx]
  rw [e, run_callFunc]
  refine (ht W w F (ho.part hp)).mono ?_
  rintro e' w' (⟨v, L1, rfl, hR, ho'⟩ | ⟨c, L1, rfl, hX, ho'⟩)
  · exact hn _ _ _ _ ⟨v, L1, hR, rfl, rfl⟩ (hs.put hd) ho'
  · exact hpn _ _ _ ⟨L1, hX, rfl⟩ ho'
theorem efx_callf {x : Operand} {d : Nat} {f : FuncId} {xs : List Operand} {ats : Array TypeId} {args cap : List Value} {Lp F : Hp} {R : Value → Hp → Prop} (hv : ev E x = some (.func (.func f) #[] cap.toArray)) (hx : evs E xs = some args) (ht : TrE P f (args ++ cap) Lp R X) [hf : GoFn P f] (hd : Nat.blt d n = true) [hp : Part L Lp F] :
    EfX P W n D ⟨some d, .call { callee := .value x, args := xs.toArray, argTypes := ats }, ty, pos, aft, g⟩ E L (fun E' L' => ∃ v L1, R v L1 ∧ E' = (d, v) :: E ∧ L' = L1 ++ F) (fun c L' => ∃ L1, X c L1 ∧ L' = L1 ++ F) := fun Q a w next hs ho hn hpn => by
  unfold Oper.wp
  have e : (execOp a.eval ⟨some d, .call { callee := .value x, args := xs.toArray, argTypes := ats }, ty, pos, aft, g⟩).run P w = .ok (.enter f (args ++ cap).toArray) w := by
    simp only [execOp, resolve, hs.ev hv, Deferred.ofValue, List.map_toArray, hs.evs hx, Sem.run_bind, Sem.run_pure, Result.andThen_ok, invoke]
    rw [show ((#[] : Array Value) ++ args.toArray ++ cap.toArray) = (args ++ cap).toArray by simp, run_callFunc]
  rw [e]
  refine (ht W w F (ho.part hp)).mono ?_
  rintro e' w' (⟨v, L1, rfl, hR, ho'⟩ | ⟨c, L1, rfl, hX, ho'⟩)
  · exact hn _ _ _ _ ⟨v, L1, hR, rfl, rfl⟩ (hs.put hd) ho'
  · exact hpn _ _ _ ⟨L1, hX, rfl⟩ ho'
theorem pv_iface {d : Option Tmp} {T : TypeId} {x : Operand} {v : Value} {S : Hp} {dsc : TypeDesc} [ht : TyD P T dsc] (hd : (match dsc with | .interface _ => false | _ => true) = true) (hx : ev E x = some v) : Pv P n D E S ⟨d, .makeInterface T x, ty, pos, aft, g⟩ (.iface T v) := fun a w hs _ => by
 simp only [execOp, hs.ev hx, Instr.makeInterface, Sem.run_bind, TyD.run, Result.andThen_ok, Sem.run_pure]
 cases dsc <;> simp_all
theorem Ops.panic {x : Operand} {T : TypeId} {v : Value} {d : Option Tmp} (hx : ev E x = some (.iface T v)) [hq : PT W D Q Y G] (hy : ∃ L2, Y [{ v := .iface T v, recovered := false }] L2 ∧ Drop L (L2 ++ G)) : Ops P W ops Q n D (⟨d, .panic x, ty, pos, aft, none⟩ :: rest) E L := fun a w hs ho =>
  wpList_plain rfl fun K' hK' => by
    obtain ⟨L2, hY, hd⟩ := hy
    have hp := hq.pt [{ v := .iface T v, recovered := false }] a w L2 hs.dfs hY (hd.own ho)
    unfold Oper.wp
    have e : (execOp a.eval ⟨d, .panic x, ty, pos, aft, none⟩).run P w = .halt (.panic (.iface T v)) w := by
      simp [execOp, hs.ev hx, Instr.panic, goPanic]
    rw [e]
    exact hp
end
section
variable {P : Program} {W : World} {ops : Array Oper} {Q : Exit → Act → World → Prop} {n : Nat} {D : List Deferred} {E : Env} {L : Hp} {rest : List Oper} {ty : TypeId} {pos : String} {aft : Array Edge} {g : Option (Nat × Bool)} {K : Env → Hp → Prop} {X Y : List PanicEntry → Hp → Prop} {G : Hp}
theorem Tr.enterD {f : FuncId} {fn : Func} {c : Code} {args : List Value} {R : Value → Hp → Prop}
    (hf : P.funcs[f]? = some fn) (hb : fn.body = some c) (hn : fn.ntmps = n) (hle : Nat.ble args.length n = true)
    (h : ∀ W F, Wp P W (bodyPostD P fn (TrPost R W F)) n [] c (argsEnv 0 args) (L ++ F)) : Tr P f args L R := fun W w F ho =>
  calls_of_wp_defers hf hb (by
    subst hn
    exact h W F _ w (sees_start hle) ho)
theorem Ops.defer {x : Operand} {fn : Fn} {cap : Array Value} {ats : Array TypeId} (hv : ev E x = some (.func fn #[] cap)) (hn : Ops P W ops Q n ({ target := .fn fn cap, args := #[] } :: D) rest E L) :
    Ops P W ops Q n D (⟨none, .defer { callee := .value x, args := #[], argTypes := ats }, ty, pos, aft, none⟩ :: rest) E L := fun a w hs ho =>
  wpList_plain rfl fun K' hK' => by
    unfold Oper.wp
    have e : (execOp a.eval ⟨none, .defer { callee := .value x, args := #[], argTypes := ats }, ty, pos, aft, none⟩).run P w = .ok (.defer { target := .fn fn cap, args := #[] }) w := by
      simp [execOp, resolve, hs.ev hv, Deferred.ofValue]
    rw [e]
    exact hK' _ _ (hn _ _ ⟨hs.size, by rw [← hs.dfs]; rfl, hs.get⟩ ho)
theorem Ops.efxq {o : Oper} (hg : o.guard = none) (h : EfX P W n D o E L K X) (hq : ∀ c a w L', Sees n D E a → X c L' → Own W w L' → Q (.panic c) a w) (hn : ∀ E' L', K E' L' → Ops P W ops Q n D rest E' L') : Ops P W ops Q n D (o :: rest) E L := fun a w hs ho =>
  wpList_plain hg fun K' hK' => h Q a w K' hs ho (fun E' L' a' w' k hs' ho' => hK' _ _ (hn E' L' k a' w' hs' ho')) (fun c L' w' hX ho' => hq c a w' L' hs hX ho')
theorem leaves_one {fn : Func} {R : Value → Hp → Prop} {F L1 L' M : Hp} {v : Value} {gf : FuncId} {cap : List Value} {u : FrameMode} {a : Act} {w : World} (hs : Sees n [{ target := .fn (.func gf) cap.toArray, args := #[] }] E a) (hu : u ≠ .run) [hf : GoFn P gf]
    (hc : CallsD P gf cap.toArray u w (fun e u' w' => e = .returned (.tuple #[]) ∧ settle u' = .returning ∧ Own W w' L1)) (hres : Res P fn n [{ target := .fn (.func gf) cap.toArray, args := #[] }] E L1 v) (hR : R v L') [ha : App L' F M] [hd : Drop L1 M] :
    Leaves P fn a.tmps (TrPost R W F) a.defers u w := by
  rw [hs.dfs]
  refine leaves_cons (f := gf) (args := cap.toArray) hu ?_ (hc.mono ?_)
  · simp only [invoke]
    rw [show ((#[] : Array Value) ++ cap.toArray) = cap.toArray by simp, run_callFunc]
  · rintro e u' w' ⟨rfl, hs', ho'⟩
    show Leaves P fn a.tmps _ [] (settle u') w'
    rw [hs']
    exact ⟨v, hres a w' hs ho'.held, v, L', rfl, hR, by rw [ha.eq]; exact hd.own ho'⟩
theorem Ends.retD {fn : Func} {R : Ending → World → Prop} (h : ∀ a w, Sees n D E a → Own W w L → Leaves P fn a.tmps R a.defers .returning w) : Ends W (bodyPostD P fn R) n D .ret E L := h
theorem Ends.finS {fn : Func} {c0 : Frame} {cs : List Frame} {R : Ending → FrameMode → World → Prop} {u : FrameMode} (hres : fn.results = #[]) (hR : ∀ w, Own W w L → R (.returned (.tuple #[])) u w) :
    Ends W (fun e a w => bodyPostS P fn c0 cs R e a ({ c0 with mode := u } :: cs) w) n [] .normal E L := fun a w hs ho =>
  ⟨hs.dfs, u, rfl, _, results_none hres _ P w, hR w ho⟩
theorem wpS_recover {id d : Nat} {c2 : Code} {Q : Exit → Act → List Frame → World → Prop} {a : Act} {c0 : Frame} {cs : List Frame} {w : World} {v : Value} {older : List PanicEntry} (hu : c0.mode = .panicking ({ v := v, recovered := false } :: older))
    (h : c2.wpS P Q (a.put (some d) v) ({ c0 with mode := .panicking ({ v := v, recovered := true } :: older) } :: cs) w) :
    ((Code.region id #[⟨some d, .call { callee := .builtin .recover, args := #[], argTypes := #[] }, ty, pos, aft, none⟩] false).seq c2).wpS P Q a (c0 :: cs) w := by
  apply wpS_seq
  apply wpS_region
  have he : (execOp a.eval ⟨some d, .call { callee := .builtin .recover, args := #[], argTypes := #[] }, ty, pos, aft, none⟩).run P w = .ok .recover w := by simp [go_sem]
  have hw : Region.wanted (⟨some d, .call { callee := .builtin .recover, args := #[], argTypes := #[] }, ty, pos, aft, none⟩ : Oper) (yielded #[⟨some d, .call { callee := .builtin .recover, args := #[], argTypes := #[] }, ty, pos, aft, none⟩] a.tmps) = true := by simp [Region.wanted]
  have hrd : recoverD (c0 :: cs) = some (v, { c0 with mode := .panicking ({ v := v, recovered := true } :: older) } :: cs) := by simp [recoverD, hu]
  show wpOpsS P _ _ [0] a (c0 :: cs) w
  simp only [wpOpsS, List.getElem?_toArray, List.getElem?_cons_zero, hw, if_true, he, hrd]
  exact h
theorem wpS_recover0 {id d : Nat} {c2 : Code} {Q : Exit → Act → List Frame → World → Prop} {a : Act} {c0 : Frame} {cs : List Frame} {w : World} (hu : c0.mode = .returning)
    (h : c2.wpS P Q (a.put (some d) .nilIface) (c0 :: cs) w) :
    ((Code.region id #[⟨some d, .call { callee := .builtin .recover, args := #[], argTypes := #[] }, ty, pos, aft, none⟩] false).seq c2).wpS P Q a (c0 :: cs) w := by
  apply wpS_seq
  apply wpS_region
  have he : (execOp a.eval ⟨some d, .call { callee := .builtin .recover, args := #[], argTypes := #[] }, ty, pos, aft, none⟩).run P w = .ok .recover w := by simp [go_sem]
  have hw : Region.wanted (⟨some d, .call { callee := .builtin .recover, args := #[], argTypes := #[] }, ty, pos, aft, none⟩ : Oper) (yielded #[⟨some d, .call { callee := .builtin .recover, args := #[], argTypes := #[] }, ty, pos, aft, none⟩] a.tmps) = true := by simp [Region.wanted]
  have hrd : recoverD (c0 :: cs) = none := by simp [recoverD, hu]
  show wpOpsS P _ _ [0] a (c0 :: cs) w
  simp only [wpOpsS, List.getElem?_toArray, List.getElem?_cons_zero, hw, if_true, he, hrd]
  exact h
theorem pv_eql_iface {d : Option Tmp} {T T2 U : TypeId} {x : Operand} {u : Value} {S : Hp} {dsc : TypeDesc} [ht : TyD P T dsc] (hd : (match dsc with | .interface _ => true | _ => false) = true) (hx : ev E x = some (.iface U u)) : Pv P n D E S ⟨d, .binOp .eql T x (.const .nilIface) T2, ty, pos, aft, g⟩ (.bool false) := fun a w hs _ => by
 have hc : a.eval (.const .nilIface) = .nilIface := rfl
 cases dsc <;> simp at hd
 have hu := TyD.run (P := P) (T := T) (w := w)
 have he : (Op.equal T (.iface U u) .nilIface).run P w = .ok false w := by
  unfold Op.equal
  rw [show Op.maxDepth = 9999 + 1 from rfl, Op.equalIn]
  simp [hu]
 simp [execOp, hs.ev hx, hc, binOp, eqGuard, he]
theorem pv_eql_nilif {d : Option Tmp} {T T2 : TypeId} {x : Operand} {S : Hp} {dsc : TypeDesc} [ht : TyD P T dsc] (hd : (match dsc with | .interface _ => true | _ => false) = true) (hx : ev E x = some .nilIface) : Pv P n D E S ⟨d, .binOp .eql T x (.const .nilIface) T2, ty, pos, aft, g⟩ (.bool true) := fun a w hs _ => by
 have hc : a.eval (.const .nilIface) = .nilIface := rfl
 cases dsc <;> simp at hd
 have hu := TyD.run (P := P) (T := T) (w := w)
 have he : (Op.equal T .nilIface .nilIface).run P w = .ok true w := by
  unfold Op.equal
  rw [show Op.maxDepth = 9999 + 1 from rfl, Op.equalIn]
  simp [hu]
 have hg : eqGuard .eql T x (.const .nilIface) .nilIface .nilIface = pure () := by cases x <;> rfl
 simp [execOp, hs.ev hx, hc, binOp, hg, he]
theorem pv_tassert {d : Option Tmp} {T U : TypeId} {x : Operand} {u : Value} {S : Hp} {dsc : TypeDesc} [ht : TyD P U dsc] (hd : (match dsc with | .interface _ => false | _ => true) = true) (hx : ev E x = some (.iface U u)) : Pv P n D E S ⟨d, .typeAssert x T U true, ty, pos, aft, g⟩ (.tuple #[u, .bool true]) := fun a w hs _ => by
 simp only [execOp, hs.ev hx, Instr.typeAssert, Sem.run_bind, TyD.run, Result.andThen_ok]
 cases dsc <;> simp_all
end
attribute [irreducible] TrE EfX
end Go.SL
end
section
set_option linter.unusedVariables false
set_option linter.unusedSimpArgs false
namespace Go.Proofs.Ytdodfnjmkpgdbaa
open Go.SL
theorem tr_drop_none (sb : Nat) (S : StoreM) (id : Int) (h : nget id S.nodes = none) : Tr Try.prog 62 [.pointer (some ⟨sb, 0, none⟩), .int .i64 id] (storeHp sb S) (fun v L' => v = .int .i64 (S.drop id).1 ∧ L' = storeHp sb (S.drop id).2) := by
 have hm : (mget id (nodeKV S.nodes)).getD (.pointer none) = .pointer none := by rw [mget_nodeKV, h]; rfl
 refine Tr.enter Try.func62 rfl Try.ntmps62 rfl (fun W F => ?_)
 refine Wp.app ?_
 refine Wp.seq ?_
 refine Wp.region ?_
 refine Ops.pv (pv_assign rfl) rfl ?_
 refine Ops.nil ?_
 refine Ends.seq ?_
 refine Wp.seq ?_
 refine Wp.region ?_
 refine Ops.pv (pv_move rfl) rfl ?_
 refine Ops.pv (pv_nilCheck rfl) rfl ?_
 refine Ops.pv (pv_fieldAddr0 rfl rfl) rfl ?_
 refine Ops.pv (pv_load rfl rfl rfl) rfl ?_
 refine Ops.pv (pv_move rfl) rfl ?_
 refine Ops.pv (pv_lookup_i id rfl rfl hm) rfl ?_
 refine Ops.pv (pv_assign rfl) rfl ?_
 refine Ops.nil ?_
 refine Ends.seq ?_
 refine Wp.seq ?_
 refine Wp.block ?_
 refine Wp.seq ?_
 refine Wp.region ?_
 refine Ops.pv (pv_move rfl) rfl ?_
 refine Ops.pv (pv_eql_nil rfl rfl) rfl ?_
 refine Ops.pv (pv_assign rfl) rfl ?_
 refine Ops.nil ?_
 refine Ends.seq ?_
 refine Wp.cond_true rfl ?_
 refine Wp.seq ?_
 refine Wp.region ?_
 refine Ops.pv (pv_assign rfl) rfl ?_
 refine Ops.nil ?_
 refine Ends.seq ?_
 refine Wp.ret ?_
 refine Ends.block_ret ?_
 refine Ends.then_ret ?_
 exact Ends.ret (L' := storeHp sb S) (res1 rfl rfl) ⟨by simp [StoreM.drop, *], by simp [StoreM.drop, *]⟩
theorem tr_drop_some (sb : Nat) (S : StoreM) (id : Int) (n : NodeM) (hw : S.Wf) (h : nget id S.nodes = some n) : Tr Try.prog 62 [.pointer (some ⟨sb, 0, none⟩), .int .i64 id] (storeHp sb S) (fun v L' => v = .int .i64 (S.drop id).1 ∧ L' = storeHp sb (S.drop id).2) := by
 have hm : (mget id (nodeKV S.nodes)).getD (.pointer none) = .pointer (some ⟨n.blk, 0, none⟩) := by rw [mget_nodeKV, h]; rfl
 have hblk := S.blk (sb := sb) h
 have hl := (hw _ _ h).1.len
 have hupd := fun o => S.updMap (sb := sb) (o := o)
 refine Tr.enter Try.func62 rfl Try.ntmps62 rfl (fun W F => ?_)
 refine Wp.app ?_
 refine Wp.seq ?_
 refine Wp.region ?_
 refine Ops.pv (pv_assign rfl) rfl ?_
 refine Ops.nil ?_
 refine Ends.seq ?_
 refine Wp.seq ?_
 refine Wp.region ?_
 refine Ops.pv (pv_move rfl) rfl ?_
 refine Ops.pv (pv_nilCheck rfl) rfl ?_
 refine Ops.pv (pv_fieldAddr0 rfl rfl) rfl ?_
 refine Ops.pv (pv_load rfl rfl rfl) rfl ?_
 refine Ops.pv (pv_move rfl) rfl ?_
 refine Ops.pv (pv_lookup_i id rfl rfl hm) rfl ?_
 refine Ops.pv (pv_assign rfl) rfl ?_
 refine Ops.nil ?_
 refine Ends.seq ?_
 refine Wp.seq ?_
 refine Wp.block ?_
 refine Wp.seq ?_
 refine Wp.region ?_
 refine Ops.pv (pv_move rfl) rfl ?_
 refine Ops.pv (pv_eql_nil rfl rfl) rfl ?_
 refine Ops.pv (pv_assign rfl) rfl ?_
 refine Ops.nil ?_
 refine Ends.seq ?_
 refine Wp.cond_false rfl ?_
 refine Wp.seq ?_
 refine Wp.region ?_
 refine Ops.pv (pv_move rfl) rfl ?_
 refine Ops.pv (pv_nilCheck rfl) rfl ?_
 refine Ops.pv (pv_fieldAddr0 rfl rfl) rfl ?_
 refine Ops.pv (pv_loadK (capsCells n.caps) rfl rfl (by rw [capsCells_len, hl]) n.readsAll) rfl ?_
 refine Ops.pv (pv_build_arr0 rfl) rfl ?_
 refine Ops.pv (pv_neq_arr (m := 16) (n.caps.map CapM.nums) (zeroCaps.map CapM.nums) (by exact ev_caps n.caps) (by exact ev_caps zeroCaps) rfl rfl (by simp [hl]) (by simp [zeroCaps]) (by intro q hq; obtain ⟨c, _, rfl⟩ := List.mem_map.1 hq; rfl) (by intro q hq; obtain ⟨c, _, rfl⟩ := List.mem_map.1 hq; rfl) (by kernel_rfl)) rfl ?_
 refine Ops.pv (pv_assign rfl) rfl ?_
 refine Ops.nil ?_
 refine Ends.seq ?_
 refine Wp.cond_dect rfl (fun h1 => ?_) (fun h1 => ?_)
 ·
  refine Wp.seq ?_
  refine Wp.region ?_
  refine Ops.pv (pv_assign rfl) rfl ?_
  refine Ops.nil ?_
  refine Ends.seq ?_
  refine Wp.ret ?_
  refine Ends.block_ret ?_
  refine Ends.then_ret ?_
  have h2' : n.caps ≠ zeroCaps := fun e => h1 (by rw [e])
  exact Ends.ret (L' := storeHp sb S) (res1 rfl rfl) ⟨by simp [StoreM.drop, *], by simp [StoreM.drop, *]⟩
 refine Wp.skip ?_
 refine Ends.block_normal ?_
 refine Ends.seq ?_
 refine Wp.seq ?_
 refine Wp.region ?_
 refine Ops.pv (pv_move rfl) rfl ?_
 refine Ops.pv (pv_nilCheck rfl) rfl ?_
 refine Ops.pv (pv_fieldAddr0 rfl rfl) rfl ?_
 refine Ops.pv (pv_load rfl rfl rfl) rfl ?_
 refine Ops.pv (pv_move rfl) rfl ?_
 refine Ops.ef rfl (ef_deleten_i (T := 86) _ rfl rfl rfl) ?_
 rintro _ _ ⟨rfl, rfl⟩
 refine Ops.nil ?_
 refine Ends.seq ?_
 refine Wp.seq ?_
 refine Wp.region ?_
 refine Ops.pv (pv_assign rfl) rfl ?_
 refine Ops.nil ?_
 refine Ends.seq ?_
 refine Wp.ret ?_
 have h2' : n.caps = zeroCaps := Decidable.byContradiction fun e => h1 (nums_caps.2 e)
 refine Ends.heap (L' := storeHp sb (S.delNode id) ++ F) (fun w ho => Drop.own (ho.perm (StoreM.del_perm h))) ?_
 exact Ends.ret (L' := storeHp sb (S.delNode id)) (res1 rfl rfl) ⟨by simp [StoreM.drop, *], by simp [StoreM.drop, *]⟩
theorem tr_sdrop (sb : Nat) (S : StoreM) (id : Int) (hw : S.Wf) : Tr Try.prog 62 [.pointer (some ⟨sb, 0, none⟩), .int .i64 id] (storeHp sb S) (fun v L' => v = .int .i64 (S.drop id).1 ∧ L' = storeHp sb (S.drop id).2) := by
 cases h : nget id S.nodes with
 | none => exact tr_drop_none sb S id h
 | some n => exact tr_drop_some sb S id n hw h
set_option maxHeartbeats 2000000 in
theorem tr_full (sb : Nat) (S : StoreM) (hw : S.Wf) : Tr Try.prog 23 [.pointer (some ⟨sb, 0, none⟩)] (storeHp sb S) (fun v L' => ∃ H, Slc 38 2 v (fullM S).length (slotsCells (fullM S)) H ∧ L' = H ++ storeHp sb S) := by
 refine Tr.enter Try.func23 rfl Try.ntmps23 rfl (fun W F => ?_)
 refine Wp.app ?_
 refine Wp.seq ?_
 refine Wp.region ?_
 refine Ops.pv (pv_assign rfl) rfl ?_
 refine Ops.nil ?_
 refine Ends.seq ?_
 refine Wp.seq ?_
 refine Wp.region ?_
 refine Ops.pv (pv_assign rfl) rfl ?_
 refine Ops.nil ?_
 refine Ends.seq ?_
 refine Wp.seq ?_
 refine Wp.seq ?_
 refine Wp.region ?_
 refine Ops.pv (pv_move rfl) rfl ?_
 refine Ops.nil ?_
 refine Ends.seq ?_
 refine Wp.block ?_
 refine Wp.loop (σ := Nat × Value × Hp) (fun x => [(0, .pointer (some ⟨sb, 0, none⟩)), (2, .slice none 0 0), (3, x.2.1), (8, .int .i64 x.1)]) (fun x => x.2.2 ++ (storeHp sb S ++ F)) (fun x => x.1 ≤ 64 ∧ Slc 38 2 x.2.1 (fullUpto S x.1).length (slotsCells (fullUpto S x.1)) x.2.2) (fun x => 64 - x.1) (0, .slice none 0 0, []) ⟨Nat.zero_le _, Slc.nil _ _⟩ (by exact ⟨rfl, rfl, rfl, rfl, trivial⟩) (by intro w ho; exact ho) ?_
 rintro ⟨i, v, H⟩ K ⟨hi, hs⟩ hK
 dsimp only at hi hs hK ⊢
 refine Wp.seq ?_
 refine Wp.region ?_
 refine Ops.pv (pv_lss rfl rfl) rfl ?_
 refine Ops.nil ?_
 refine Ends.seq ?_
 refine Wp.seq ?_
 refine Wp.cond_dect rfl (fun h1 => ?_) (fun h1 => ?_)
 ·
  refine Wp.skip ?_
  refine Ends.seq ?_
  refine Wp.seq ?_
  refine Wp.block ?_
  refine Wp.seq ?_
  refine Wp.region ?_
  refine Ops.pv (pv_move rfl) rfl ?_
  refine Ops.pv (pv_assign rfl) rfl ?_
  refine Ops.nil ?_
  refine Ends.seq ?_
  refine Wp.seq ?_
  refine Wp.region ?_
  refine Ops.pv (pv_move rfl) rfl ?_
  refine Ops.pv (pv_nilCheck rfl) rfl ?_
  refine Ops.pv (pv_fieldAddr0 rfl rfl) rfl ?_
  refine Ops.pv (pv_load rfl rfl rfl) rfl ?_
  refine Ops.pv (pv_move rfl) rfl ?_
  refine Ops.pv (pv_lookup_i (i : Int) rfl rfl (nptr_hm S i)) rfl ?_
  refine Ops.pv (pv_assign rfl) rfl ?_
  refine Ops.nil ?_
  refine Ends.seq ?_
  refine Wp.seq ?_
  refine Wp.region ?_
  refine Ops.pv (pv_move rfl) rfl ?_
  refine Ops.pv (pv_neq_nil rfl rfl) rfl ?_
  refine Ops.nil ?_
  refine Ends.seq ?_
  refine Wp.cond_t rfl (fun h2 => ?_) (fun h2 => ?_)
  ·
   obtain ⟨n, hn, hp⟩ := nptr_some h2
   rw [hp]
   have hblk := S.blk (sb := sb) hn
   have hl := (hw _ _ hn).1.len
   refine Wp.seq ?_
   refine Wp.region ?_
   refine Ops.pv (pv_move rfl) rfl ?_
   refine Ops.pv (pv_nilCheck rfl) rfl ?_
   refine Ops.pv (pv_fieldAddr0 rfl rfl) rfl ?_
   refine Ops.pv (pv_loadK (capsCells n.caps) rfl rfl (by rw [capsCells_len, hl]) n.readsAll) rfl ?_
   refine Ops.pv (pv_move rfl) rfl ?_
   refine Ops.nil ?_
   refine Ends.seq ?_
   refine Wp.block ?_
   refine Wp.loop (σ := Nat × Value × Hp) (fun x => [(0, .pointer (some ⟨sb, 0, none⟩)), (2, .slice none 0 0), (3, x.2.1), (4, .int .i64 i), (8, .int .i64 i), (22, .agg (capsCells n.caps).toArray), (23, .int .i64 x.1)]) (fun x => x.2.2 ++ (storeHp sb S ++ F)) (fun x => x.1 ≤ 16 ∧ Slc 38 2 x.2.1 (fullUpto S i ++ nodeFull i n.caps x.1).length (slotsCells (fullUpto S i ++ nodeFull i n.caps x.1)) x.2.2) (fun x => 16 - x.1) (0, v, H) ⟨Nat.zero_le _, by simpa [nodeFull] using hs⟩ (by exact ⟨rfl, rfl, rfl, rfl, rfl, rfl, rfl, trivial⟩) (by intro w ho; exact Drop.own ho) ?_
   rintro ⟨j, v, H⟩ K2 ⟨hj, hs⟩ hK2
   dsimp only at hj hs hK2 ⊢
   refine Wp.seq ?_
   refine Wp.region ?_
   refine Ops.pv (pv_lss rfl rfl) rfl ?_
   refine Ops.nil ?_
   refine Ends.seq ?_
   refine Wp.seq ?_
   refine Wp.cond_dect rfl (fun h3 => ?_) (fun h3 => ?_)
   ·
    obtain ⟨c, hc⟩ : ∃ c, n.caps[j]? = some c := ⟨_, List.getElem?_eq_getElem (by omega)⟩
    refine Wp.skip ?_
    refine Ends.seq ?_
    refine Wp.seq ?_
    refine Wp.block ?_
    refine Wp.seq ?_
    refine Wp.region ?_
    refine Ops.pv (pv_move rfl) rfl ?_
    refine Ops.pv (pv_indexK c.cells rfl rfl rfl rfl (by omega) rfl (caps_reads hc)) rfl ?_
    refine Ops.ef rfl (ef_allocK tyZ24 rfl) ?_
    rintro _ _ ⟨b1, rfl, rfl⟩
    refine Ops.pv (pv_assign rfl) rfl ?_
    refine Ops.ef rfl (ef_storeK rfl rfl rfl rfl) ?_
    rintro _ _ ⟨rfl, rfl⟩
    refine Ops.nil ?_
    refine Ends.seq ?_
    refine Wp.seq ?_
    refine Wp.region ?_
    refine Ops.pv (pv_fieldAddr0 rfl rfl) rfl ?_
    refine Ops.pv (pv_load rfl rfl rfl) rfl ?_
    refine Ops.pv (pv_neq rfl rfl) rfl ?_
    refine Ops.nil ?_
    refine Ends.seq ?_
    refine Wp.cond_dect rfl (fun h4 => ?_) (fun h4 => ?_)
    ·
     refine Wp.region ?_
     refine Ops.pv (pv_move rfl) rfl ?_
     refine Ops.pv (pv_move rfl) rfl ?_
     refine Ops.pv (pv_move rfl) rfl ?_
     refine Ops.pv (pv_build rfl) rfl ?_
     refine Ops.ef rfl (ef_buildSlice1 (k := 2) rfl rfl rfl rfl rfl) ?_
     rintro _ _ ⟨b2, rfl, rfl⟩
     refine Ops.ef rfl (ef_append (xs := slotCells (i, j)) rfl hs rfl ⟨rfl, rfl, trivial⟩ rfl rfl rfl (by have := fullUpto_len S i; have := nodeFull_len i n.caps j; rw [List.length_append]; omega) (by have := fullUpto_len S i; have := nodeFull_len i n.caps j; rw [List.length_append]; omega) rfl rfl) ?_
     rintro _ _ ⟨v1, H1, hs1, rfl, rfl⟩
     refine Ops.app ?_
     skip
     refine Ops.pv (pv_assign rfl) rfl ?_
     refine Ops.nil ?_
     refine Ends.block_normal ?_
     refine Ends.seq ?_
     refine Wp.region ?_
     refine Ops.pv (pv_add rfl rfl (w64 (by omega) (by omega))) rfl ?_
     refine Ops.pv (pv_move rfl) rfl ?_
     refine Ops.nil ?_
     refine Ends.goes ?_
     refine Goes.back (hK2 (j + 1, v1, H1) ⟨by dsimp only; omega, ?_⟩ (by dsimp only; omega)) ⟨rfl, rfl, rfl, rfl, rfl, rfl, rfl, trivial⟩
     have e1 : nodeFull i n.caps (j + 1) = nodeFull i n.caps j ++ [((i : Int), (j : Int))] := by simp only [nodeFull, hc, Option.getD_some]; rw [if_pos ‹c.kind ≠ 0›]
     dsimp only; rw [e1, ← List.append_assoc, List.length_append, slotsCells_app]; exact hs1
    refine Wp.skip ?_
    refine Ends.block_normal ?_
    refine Ends.seq ?_
    refine Wp.region ?_
    refine Ops.pv (pv_add rfl rfl (w64 (by omega) (by omega))) rfl ?_
    refine Ops.pv (pv_move rfl) rfl ?_
    refine Ops.nil ?_
    refine Ends.goes ?_
    refine Goes.back (hK2 (j + 1, v, H) ⟨by dsimp only; omega, ?_⟩ (by dsimp only; omega)) ⟨rfl, rfl, rfl, rfl, rfl, rfl, rfl, trivial⟩
    have e1 : nodeFull i n.caps (j + 1) = nodeFull i n.caps j := by simp only [nodeFull, hc, Option.getD_some]; rw [if_neg ‹¬ c.kind ≠ 0›, List.append_nil]
    dsimp only; rw [e1]; exact hs
   obtain rfl : j = 16 := by omega
   refine Wp.exit ?_
   refine Ends.then_exit ?_
   refine Ends.then_exit ?_
   refine Ends.block_hit ?_
   refine Ends.block_normal ?_
   refine Ends.seq ?_
   refine Wp.region ?_
   refine Ops.pv (pv_add rfl rfl (w64 (by omega) (by omega))) rfl ?_
   refine Ops.pv (pv_move rfl) rfl ?_
   refine Ops.nil ?_
   refine Ends.goes ?_
   refine Goes.back (hK (i + 1, v, H) ⟨by dsimp only; omega, ?_⟩ (by dsimp only; omega)) ⟨rfl, rfl, rfl, rfl, trivial⟩
   have e1 : fullUpto S (i + 1) = fullUpto S i ++ nodeFull i n.caps 16 := by simp only [fullUpto, full1, hn]
   dsimp only; rw [e1]; exact hs
  refine Wp.skip ?_
  refine Ends.block_normal ?_
  refine Ends.seq ?_
  refine Wp.region ?_
  refine Ops.pv (pv_add rfl rfl (w64 (by omega) (by omega))) rfl ?_
  refine Ops.pv (pv_move rfl) rfl ?_
  refine Ops.nil ?_
  refine Ends.goes ?_
  refine Goes.back (hK (i + 1, v, H) ⟨by dsimp only; omega, ?_⟩ (by dsimp only; omega)) ⟨rfl, rfl, rfl, rfl, trivial⟩
  have e1 : fullUpto S (i + 1) = fullUpto S i := by simp [fullUpto, full1, nptr_none (by simpa using h2)]
  dsimp only; rw [e1]; exact hs
 refine Wp.exit ?_
 refine Ends.then_exit ?_
 refine Ends.then_exit ?_
 refine Ends.block_hit ?_
 refine Ends.seq ?_
 refine Wp.seq ?_
 refine Wp.region ?_
 refine Ops.pv (pv_move rfl) rfl ?_
 refine Ops.pv (pv_assign rfl) rfl ?_
 refine Ops.nil ?_
 refine Ends.seq ?_
 refine Wp.ret ?_
 obtain rfl : i = 64 := by omega
 exact Ends.ret (L' := H ++ storeHp sb S) (res1 rfl rfl) ⟨H, hs, rfl⟩
end Go.Proofs.Ytdodfnjmkpgdbaa
end
section
set_option linter.unusedVariables false
set_option linter.unusedSimpArgs false
namespace Go.Proofs.Ytdodfnjmkpgdbaa
open Go.SL
attribute [local irreducible] fullM
set_option maxHeartbeats 2000000 in
theorem tr_count (sb : Nat) (S : StoreM) (k o : Int) (hwf : S.Wf) (ht : S.Tidy) : TrR Try.prog 41 [.pointer (some ⟨sb, 0, none⟩), .int .i64 k, .int .i64 o] (storeHp sb S) (.int .i64 (countM S k o)) := by
 refine Tr.enter Try.func41 rfl Try.ntmps41 rfl (fun W F => ?_)
 refine Wp.app ?_
 refine Wp.seq ?_
 refine Wp.region ?_
 refine Ops.pv (pv_assign rfl) rfl ?_
 refine Ops.nil ?_
 refine Ends.seq ?_
 refine Wp.seq ?_
 refine Wp.region ?_
 refine Ops.pv (pv_assign rfl) rfl ?_
 refine Ops.nil ?_
 refine Ends.seq ?_
 refine Wp.seq ?_
 refine Wp.seq ?_
 refine Wp.region ?_
 refine Ops.pv (pv_move rfl) rfl ?_
 refine Ops.ef rfl (ef_call (tr_full sb S hwf) rfl rfl) ?_
 rintro _ _ ⟨_, _, ⟨H1, hs1, rfl⟩, rfl, rfl⟩
 refine Ops.app ?_
 obtain ⟨p, q, rfl⟩ := hs1.form
 have hv := hs1.view
 refine Ops.pv (pv_len_slice (T := 41) rfl rfl) rfl ?_
 refine Ops.pv (pv_move rfl) rfl ?_
 refine Ops.nil ?_
 refine Ends.seq ?_
 refine Wp.block ?_
 refine Wp.loop (σ := Nat) (fun i => [(0, .pointer (some ⟨sb, 0, none⟩)), (1, .int .i64 k), (2, .int .i64 o), (6, .int .i64 0), (7, .int .i64 (cntUpto S k o i)), (12, .slice p (fullM S).length q), (13, .int .i64 (fullM S).length), (14, .int .i64 i)]) (fun i => H1 ++ (storeHp sb S ++ F)) (fun i => i ≤ (fullM S).length) (fun i => (fullM S).length - i) 0 (Nat.zero_le _) (by exact ⟨rfl, rfl, rfl, rfl, by rw [cntUpto_zero]; rfl, rfl, rfl, rfl, trivial⟩) (by intro w ho; exact Drop.own ho) ?_
 intro i K hi hK
 refine Wp.seq ?_
 refine Wp.region ?_
 refine Ops.pv (pv_lss rfl rfl) rfl ?_
 refine Ops.nil ?_
 refine Ends.seq ?_
 refine Wp.seq ?_
 refine Wp.cond_dect rfl (fun h1 => ?_) (fun h1 => ?_)
 ·
  obtain ⟨s, hsi⟩ : ∃ s, (fullM S)[i]? = some s := ⟨_, List.getElem?_eq_getElem (by omega)⟩
  obtain ⟨n, c, hn, hc, hk, hck, hadr, hg⟩ := full_cap ht (List.mem_of_getElem? hsi)
  have hblk := S.blk (sb := sb) hn
  obtain ⟨b, o1, cap, cc, T, f, hv1, hbv, hr⟩ := hv.elem (i := i) (by omega)
  cases hv1
  rw [slots_reads hsi] at hr
  have hfl : (fullM S).length ≤ 1024 := full_len S
  have hcle := cntUpto_le S k o (i + 1)
  have hsu := cntUpto_succ (k := k) (o := o) hsi
  refine Wp.skip ?_
  refine Ends.seq ?_
  refine Wp.seq ?_
  refine Wp.block ?_
  refine Wp.seq ?_
  refine Wp.region ?_
  refine Ops.pv (pv_indexAddr (i := i) rfl rfl rfl (by omega)) rfl ?_
  refine Ops.pv (pv_loadK [.int .i64 s.1, .int .i64 s.2] rfl rfl rfl hr) rfl ?_
  refine Ops.ef rfl (ef_allocK tyZ38 rfl) ?_
  rintro _ _ ⟨b1, rfl, rfl⟩
  refine Ops.ef rfl (ef_storeK rfl rfl rfl rfl) ?_
  rintro _ _ ⟨rfl, rfl⟩
  refine Ops.nil ?_
  refine Ends.seq ?_
  refine Wp.seq ?_
  refine Wp.region ?_
  refine Ops.pv (pv_move rfl) rfl ?_
  refine Ops.pv (pv_loadK [_, _] rfl rfl rfl ⟨rfl, rfl, trivial⟩) rfl ?_
  refine Ops.ef rfl (ef_callr (tr_slot sb S s hwf) rfl rfl) ?_
  rintro _ _ ⟨rfl, rfl⟩
  rw [hadr]
  refine Ops.pv (pv_assign rfl) rfl ?_
  refine Ops.nil ?_
  refine Ends.seq ?_
  refine Wp.seq ?_
  refine Wp.region ?_
  refine Ops.pv (pv_move rfl) rfl ?_
  refine Ops.pv (pv_nilCheck rfl) rfl ?_
  refine Ops.pv (pv_fieldAddr rfl rfl) rfl ?_
  refine Ops.pv (pv_load rfl rfl (NodeM.reads hc).1) rfl ?_
  refine Ops.pv (pv_move rfl) rfl ?_
  refine Ops.pv (pv_eql rfl rfl) rfl ?_
  refine Ops.pv (pv_move rfl) rfl ?_
  refine Ops.split (t := 27) rfl (fun h2 => ?_) (fun h2 => ?_)
  ·
   refine Ops.pvg ⟨_, _, rfl, rfl, rfl⟩ (pv_move rfl) rfl ?_
   refine Ops.pvg ⟨_, _, rfl, rfl, rfl⟩ (pv_nilCheck rfl) rfl ?_
   refine Ops.pvg ⟨_, _, rfl, rfl, rfl⟩ (pv_fieldAddr rfl rfl) rfl ?_
   refine Ops.pvg ⟨_, _, rfl, rfl, rfl⟩ (pv_load rfl rfl (NodeM.reads hc).2.1) rfl ?_
   refine Ops.pvg ⟨_, _, rfl, rfl, rfl⟩ (pv_move rfl) rfl ?_
   refine Ops.pvg ⟨_, _, rfl, rfl, rfl⟩ (pv_eql rfl rfl) rfl ?_
   refine Ops.pv (pv_pick_true rfl rfl) rfl ?_
   refine Ops.nil ?_
   refine Ends.seq ?_
   refine Wp.cond_dect rfl (fun h3 => ?_) (fun h3 => ?_)
   ·
    refine Wp.region ?_
    refine Ops.pv (pv_move rfl) rfl ?_
    refine Ops.pv (pv_add rfl rfl (w64n (k := cntUpto S k o (i + 1)) (by rw [hsu, if_pos (by simp [isKO, hg, ‹c.kind = k›, ‹c.object = o›])]; omega) (by omega))) rfl ?_
    refine Ops.pv (pv_assign rfl) rfl ?_
    refine Ops.nil ?_
    refine Ends.block_normal ?_
    refine Ends.seq ?_
    refine Wp.region ?_
    refine Ops.pv (pv_add rfl rfl (w64 (by omega) (by omega))) rfl ?_
    refine Ops.pv (pv_move rfl) rfl ?_
    refine Ops.nil ?_
    refine Ends.goes ?_
    refine Goes.back (hK (i + 1) (by omega) (by omega)) ⟨rfl, rfl, rfl, rfl, rfl, rfl, rfl, rfl, trivial⟩
   refine Wp.skip ?_
   refine Ends.block_normal ?_
   refine Ends.seq ?_
   refine Wp.region ?_
   refine Ops.pv (pv_add rfl rfl (w64 (by omega) (by omega))) rfl ?_
   refine Ops.pv (pv_move rfl) rfl ?_
   refine Ops.nil ?_
   refine Ends.goes ?_
   have e1 : cntUpto S k o (i + 1) = cntUpto S k o i := by rw [hsu, if_neg (by simp only [isKO, hg, Bool.and_eq_true, decide_eq_true_eq]; rintro ⟨x1, x2⟩; first | exact absurd x2 (by assumption) | exact absurd x1 (by assumption))]; rfl
   refine Goes.back (hK (i + 1) (by omega) (by omega)) ⟨rfl, rfl, rfl, rfl, by rw [e1]; rfl, rfl, rfl, rfl, trivial⟩
  refine Ops.skipg ⟨_, _, rfl, rfl, rfl⟩ rfl ?_
  refine Ops.skipg ⟨_, _, rfl, rfl, rfl⟩ rfl ?_
  refine Ops.skipg ⟨_, _, rfl, rfl, rfl⟩ rfl ?_
  refine Ops.skipg ⟨_, _, rfl, rfl, rfl⟩ rfl ?_
  refine Ops.skipg ⟨_, _, rfl, rfl, rfl⟩ rfl ?_
  refine Ops.skipg ⟨_, _, rfl, rfl, rfl⟩ rfl ?_
  refine Ops.pv (pv_pick_false rfl rfl) rfl ?_
  refine Ops.nil ?_
  refine Ends.seq ?_
  refine Wp.cond_false rfl ?_
  refine Wp.skip ?_
  refine Ends.block_normal ?_
  refine Ends.seq ?_
  refine Wp.region ?_
  refine Ops.pv (pv_add rfl rfl (w64 (by omega) (by omega))) rfl ?_
  refine Ops.pv (pv_move rfl) rfl ?_
  refine Ops.nil ?_
  refine Ends.goes ?_
  have e1 : cntUpto S k o (i + 1) = cntUpto S k o i := by rw [hsu, if_neg (by simp only [isKO, hg, Bool.and_eq_true, decide_eq_true_eq]; rintro ⟨x1, x2⟩; first | exact absurd x2 (by assumption) | exact absurd x1 (by assumption))]; rfl
  refine Goes.back (hK (i + 1) (by omega) (by omega)) ⟨rfl, rfl, rfl, rfl, by rw [e1]; rfl, rfl, rfl, rfl, trivial⟩
 obtain rfl : i = (fullM S).length := by omega
 refine Wp.exit ?_
 refine Ends.then_exit ?_
 refine Ends.then_exit ?_
 refine Ends.block_hit ?_
 refine Ends.seq ?_
 refine Wp.seq ?_
 refine Wp.region ?_
 refine Ops.pv (pv_move rfl) rfl ?_
 refine Ops.pv (pv_assign rfl) rfl ?_
 refine Ops.nil ?_
 refine Ends.seq ?_
 refine Wp.ret ?_
 exact Ends.ret (res1 rfl rfl) ⟨by rw [cntUpto_all], rfl⟩
end Go.Proofs.Ytdodfnjmkpgdbaa
end
section
set_option linter.unusedVariables false
set_option linter.unusedSimpArgs false
set_option linter.unusedSectionVars false
namespace Go.Proofs.Ytdodfnjmkpgdbaa
open Go.SL
abbrev stP (sb : Nat) : Value := .pointer (some ⟨sb, 0, none⟩)
theorem sf_new : Tr Try.prog 42 [] [] (fun v L' => ∃ sb, v = stP sb ∧ StF [] sb L') :=
  tr_slotsNew.mono fun v L' ⟨sb, S, hv, hl, hS⟩ => ⟨sb, hv, S, rel_new hS, hl⟩
section
variable {l : List DN} {sb : Nat} {L : Hp} (hH : StF l sb L)
include hH
theorem StF.len : l.length ≤ 64 := by obtain ⟨S, hR, _⟩ := hH; exact rel_len hR
theorem sf_get (s : SlotM) : TrR Try.prog 20 [stP sb, slotV s] L (.tuple #[(dget l s).1.v, .int .i64 (dget l s).2]) := by
 obtain ⟨S, hR, rfl⟩ := hH
 exact (tr_get sb S s hR.wf).eq (by rw [rel_get hR])
theorem sf_radix (x : Int) : TrR Try.prog 34 [stP sb, .int .i64 x] L (.int .i64 (dradix l x)) := by
 obtain ⟨S, hR, rfl⟩ := hH
 exact (tr_radix sb S x).eq (by rw [rel_radix hR])
theorem sf_count (k o : Int) : TrR Try.prog 41 [stP sb, .int .i64 k, .int .i64 o] L (.int .i64 (dcount l k o)) := by
 obtain ⟨S, hR, rfl⟩ := hH
 exact (tr_count sb S k o hR.wf hR.tidy).eq (by rw [rel_count hR])
theorem sf_full : Tr Try.prog 23 [stP sb] L (fun u L' => ∃ K, Slc 38 2 u (dfull l).length (slotsCells (dfull l)) K ∧ L' = K ++ L) := by
 obtain ⟨S, hR, rfl⟩ := hH
 rw [← rel_full hR]; exact tr_full sb S hR.wf
theorem sf_put (s : SlotM) (c : CapM) : Tr Try.prog 45 [stP sb, slotV s, c.v] L (fun u L' => u = .int .i64 (dput l s c).1 ∧ StF (dput l s c).2 sb L') := by
 obtain ⟨S, hR, rfl⟩ := hH
 obtain ⟨e, h2⟩ := rel_put hR s c
 exact (tr_put sb S s c hR.wf).mono fun v L' ⟨hv, hl⟩ => ⟨by rw [hv, e], _, h2, hl⟩
theorem sf_take (s : SlotM) : Tr Try.prog 53 [stP sb, slotV s] L (fun u L' => u = .tuple #[(dtake l s).1.v, .int .i64 (dtake l s).2.1] ∧ StF (dtake l s).2.2 sb L') := by
 obtain ⟨S, hR, rfl⟩ := hH
 obtain ⟨e, e2, h2⟩ := rel_take hR s
 exact (tr_take sb S s hR.wf).mono fun v L' ⟨hv, hl⟩ => ⟨by rw [hv, e, e2], _, h2, hl⟩
theorem sf_add (id r : Int) : Tr Try.prog 44 [stP sb, .int .i64 id, .int .i64 r] L (fun u L' => u = .int .i64 (dadd l id r).1 ∧ StF (dadd l id r).2 sb L') := by
 obtain ⟨S, hR, rfl⟩ := hH
 have e := rel_addErr hR id r
 refine (tr_add sb S id r).mono fun v L' ⟨hv, hl⟩ => ⟨by rw [hv, e]; rfl, ?_⟩
 rcases hl with ⟨h0, hl⟩ | ⟨h0, b, hl⟩
 ·
  exact ⟨S, by unfold dadd; rw [if_neg (by rw [← e]; exact h0)]; exact hR, hl⟩
 exact ⟨_, by unfold dadd; rw [if_pos (by rw [← e]; exact h0)]; exact rel_add hR h0 (insAt_place l) b 0, hl⟩
theorem sf_drop (id : Int) : Tr Try.prog 62 [stP sb, .int .i64 id] L (fun u L' => u = .int .i64 (ddrop l id).1 ∧ StF (ddrop l id).2 sb L') := by
 obtain ⟨S, hR, rfl⟩ := hH
 refine (tr_sdrop sb S id hR.wf).mono fun v L' ⟨hv, hl⟩ => ?_
 unfold ddrop
 cases h : dfind l id with
 | none =>
  rw [rel_drop_none hR h] at hv hl
  exact ⟨hv, S, hR, hl⟩
 | some d =>
  dsimp only
  by_cases hd : dempty d
  ·
   rw [rel_drop_empty hR h hd] at hv hl
   rw [if_pos (dempty_all.1 hd)]
   exact ⟨hv, _, rel_del hR h, hl⟩
  ·
   rw [rel_drop_full hR h hd] at hv hl
   rw [if_neg (fun e => hd (dempty_all.2 e))]
   exact ⟨hv, S, hR, hl⟩
end
end Go.Proofs.Ytdodfnjmkpgdbaa
end
section
set_option linter.unusedVariables false
set_option linter.unusedSimpArgs false
namespace Go.Proofs.Ytdodfnjmkpgdbaa
open Go.SL
theorem tr_index (G : Hp) (a : Option Addr) (c : Nat) (l : List Nat) (x : Nat) (hv : View G 1 (.slice a l.length c) l.length (ptsC l)) (hl : l.length ≤ 2 ^ 40) (hcl : ∀ b, b ∈ l → isC G b) (hcx : isC G x) : TrR Try.prog 78 [.slice a l.length c, .pointer (some ⟨x, 0, none⟩)] (G) (.int .i64 (idxN l x)) := by
 refine Tr.enter Try.func78 rfl Try.ntmps78 rfl (fun W F => ?_)
 refine Wp.app ?_
 refine Wp.seq ?_
 refine Wp.region ?_
 refine Ops.pv (pv_assign rfl) rfl ?_
 refine Ops.nil ?_
 refine Ends.seq ?_
 refine Wp.seq ?_
 refine Wp.seq ?_
 refine Wp.region ?_
 refine Ops.pv (pv_move rfl) rfl ?_
 refine Ops.pv (pv_len_slice (T := 110) rfl rfl) rfl ?_
 refine Ops.pv (pv_move rfl) rfl ?_
 refine Ops.nil ?_
 refine Ends.seq ?_
 refine Wp.block ?_
 refine Wp.loop (σ := Nat) (fun i => [(0, .slice a l.length c), (1, .pointer (some ⟨x, 0, none⟩)), (4, .int .i64 0), (7, .int .i64 l.length), (8, .int .i64 i)]) (fun _ => G ++ F) (fun i => i ≤ l.length ∧ ∀ j, j < i → l[j]? ≠ some x) (fun i => l.length - i) 0 ⟨Nat.zero_le _, fun j hj => absurd hj (Nat.not_lt_zero j)⟩ (by exact ⟨rfl, rfl, rfl, rfl, rfl, trivial⟩) (by intro w ho; exact ho) ?_
 rintro i K ⟨hi, hn⟩ hK
 refine Wp.seq ?_
 refine Wp.region ?_
 refine Ops.pv (pv_lss rfl rfl) rfl ?_
 refine Ops.nil ?_
 refine Ends.seq ?_
 refine Wp.seq ?_
 refine Wp.cond_dect rfl (fun h1 => ?_) (fun h1 => ?_)
 ·
  obtain ⟨b, o, cap, cc, T, f, hv1, hbv, hr⟩ := hv.open (by omega)
  cases hv1
  obtain ⟨y, hy⟩ : ∃ y, l[i]? = some y := ⟨_, List.getElem?_eq_getElem (by omega)⟩
  have hny := pts_nth hr hy
  have hcy := (hcl y (List.mem_of_getElem? hy)).mono (M := G ++ F) (fun p hp => List.mem_append_left _ hp)
  have hcx2 := hcx.mono (M := G ++ F) (fun p hp => List.mem_append_left _ hp)
  refine Wp.skip ?_
  refine Ends.seq ?_
  refine Wp.seq ?_
  refine Wp.block ?_
  refine Wp.seq ?_
  refine Wp.region ?_
  refine Ops.pv (pv_move rfl) rfl ?_
  refine Ops.pv (pv_assign rfl) rfl ?_
  refine Ops.nil ?_
  refine Ends.seq ?_
  refine Wp.seq ?_
  refine Wp.region ?_
  refine Ops.pv (pv_move rfl) rfl ?_
  refine Ops.pv (pv_move rfl) rfl ?_
  refine Ops.pv (pv_move rfl) rfl ?_
  refine Ops.pv (pv_indexAddr (i := i) rfl rfl rfl (by omega)) rfl ?_
  refine Ops.pv (pv_load rfl rfl hny) rfl ?_
  refine Ops.pv (pv_eql_ptr rfl rfl hcx2 hcy (by decide)) rfl ?_
  refine Ops.nil ?_
  refine Ends.seq ?_
  refine Wp.cond_dect rfl (fun h2 => ?_) (fun h2 => ?_)
  ·
   refine Wp.seq ?_
   refine Wp.region ?_
   refine Ops.pv (pv_move rfl) rfl ?_
   refine Ops.pv (pv_assign rfl) rfl ?_
   refine Ops.nil ?_
   refine Ends.seq ?_
   refine Wp.ret ?_
   refine Ends.block_ret ?_
   refine Ends.then_ret ?_
   refine Ends.then_ret ?_
   refine Ends.block_ret ?_
   refine Ends.then_ret ?_
   exact Ends.ret (res1 rfl rfl) ⟨by rw [idxN_hit (i := i) (by rw [hy]; congr 1; omega) hn], rfl⟩
  refine Wp.skip ?_
  refine Ends.block_normal ?_
  refine Ends.seq ?_
  refine Wp.region ?_
  refine Ops.pv (pv_add rfl rfl (w64 (by omega) (by omega))) rfl ?_
  refine Ops.pv (pv_move rfl) rfl ?_
  refine Ops.nil ?_
  refine Ends.goes ?_
  refine Goes.back (hK (i + 1) ⟨by omega, fun j hj => ?_⟩ (by omega)) ⟨rfl, rfl, rfl, rfl, rfl, trivial⟩
  rcases Nat.lt_succ_iff_lt_or_eq.1 hj with hj | rfl
  ·
   exact hn j hj
  rw [hy]; intro e; cases e; omega
 refine Wp.exit ?_
 refine Ends.then_exit ?_
 refine Ends.then_exit ?_
 refine Ends.block_hit ?_
 refine Ends.seq ?_
 refine Wp.seq ?_
 refine Wp.region ?_
 refine Ops.pv (pv_assign rfl) rfl ?_
 refine Ops.nil ?_
 refine Ends.seq ?_
 refine Wp.ret ?_
 exact Ends.ret (res1 rfl rfl) ⟨by rw [idxN_miss (fun j hj => hn j (by omega))], rfl⟩
theorem tr_clone (G : Hp) (a : Option Addr) (c : Nat) (l : List Nat) (hv : View G 1 (.slice a l.length c) l.length (ptsC l)) (hl : l.length ≤ 2 ^ 40) : Tr Try.prog 71 [.slice a l.length c] (G) (fun v L' => ∃ H, Slc 109 1 v l.length (ptsC l) H ∧ L' = H ++ G) := by
 refine Tr.enter Try.func71 rfl Try.ntmps71 rfl (fun W F => ?_)
 refine Wp.app ?_
 refine Wp.seq ?_
 refine Wp.region ?_
 refine Ops.pv (pv_assign rfl) rfl ?_
 refine Ops.nil ?_
 refine Ends.seq ?_
 refine Wp.seq ?_
 refine Wp.seq ?_
 refine Wp.region ?_
 refine Ops.pv (pv_move rfl) rfl ?_
 refine Ops.pv (pv_eql_slcnil rfl rfl) rfl ?_
 refine Ops.nil ?_
 refine Ends.seq ?_
 refine Wp.cond_t rfl (fun h1 => ?_) (fun h1 => ?_)
 ·
  obtain rfl := Option.isNone_iff_eq_none.1 h1
  obtain ⟨e0, e1⟩ := view_nil' hv
  refine Wp.seq ?_
  refine Wp.region ?_
  refine Ops.pv (pv_assign rfl) rfl ?_
  refine Ops.nil ?_
  refine Ends.seq ?_
  refine Wp.ret ?_
  refine Ends.then_ret ?_
  exact Ends.ret (L' := G) (res1 rfl rfl) ⟨[], by rw [e0, e1]; exact Slc.nil _ _, rfl⟩
 refine Wp.skip ?_
 refine Ends.seq ?_
 refine Wp.seq ?_
 refine Wp.region ?_
 refine Ops.ef rfl (ef_buildSlice0 rfl) ?_
 rintro _ _ ⟨b1, rfl, rfl⟩
 refine Ops.pv (pv_move rfl) rfl ?_
 refine Ops.ef rfl (ef_appendV (H := [(b1, .cells ([] : List Value).toArray 109)]) rfl (slc_empty' 109 1 b1) rfl (hv.mono (by intro p hp; simp [hp])) (ptsC_one l) (by omega) (by omega) rfl rfl) ?_
 rintro _ _ ⟨v1, H1, hs1, rfl, rfl⟩
 refine Ops.app ?_
 skip
 refine Ops.pv (pv_assign rfl) rfl ?_
 refine Ops.nil ?_
 refine Ends.seq ?_
 refine Wp.ret ?_
 rw [Nat.zero_add, List.nil_append] at hs1
 exact Ends.ret (L' := H1 ++ G) (res1 rfl rfl) ⟨H1, hs1, rfl⟩
theorem tr_grow (n : Nat) (hn : n ≤ 2 ^ 40) : Tr Try.prog 89 [.slice none 0 0, .int .i64 n] ([]) (fun v L' => Slc 109 1 v 0 [] L') := by
 refine Tr.enter Try.func89 rfl Try.ntmps89 rfl (fun W F => ?_)
 refine Wp.app ?_
 refine Wp.seq ?_
 refine Wp.region ?_
 refine Ops.pv (pv_assign rfl) rfl ?_
 refine Ops.nil ?_
 refine Ends.seq ?_
 refine Wp.seq ?_
 refine Wp.seq ?_
 refine Wp.region ?_
 refine Ops.pv (pv_move rfl) rfl ?_
 refine Ops.pv ((pv_lss rfl rfl).fls (by omega)) rfl ?_
 refine Ops.nil ?_
 refine Ends.seq ?_
 refine Wp.cond_false rfl ?_
 refine Wp.skip ?_
 refine Ends.seq ?_
 refine Wp.seq ?_
 refine Wp.seq ?_
 refine Wp.region ?_
 refine Ops.pv (pv_move rfl) rfl ?_
 refine Ops.pv (pv_move rfl) rfl ?_
 refine Ops.pv (pv_cap_slice (T := 110) rfl rfl) rfl ?_
 refine Ops.pv (pv_move rfl) rfl ?_
 refine Ops.pv (pv_len_slice (T := 110) rfl rfl) rfl ?_
 refine Ops.pv (pv_sub rfl rfl (w64 (i := (0 : Int) - 0) (by omega) (by omega))) rfl ?_
 refine Ops.pv (pv_sub rfl rfl (w64n (k := n) (by omega) (by omega))) rfl ?_
 refine Ops.pv (pv_assign rfl) rfl ?_
 refine Ops.nil ?_
 refine Ends.seq ?_
 refine Wp.seq ?_
 refine Wp.region ?_
 refine Ops.pv (pv_move rfl) rfl ?_
 refine Ops.pv (pv_gtr rfl rfl) rfl ?_
 refine Ops.nil ?_
 refine Ends.seq ?_
 refine Wp.cond_dect rfl (fun h1 => ?_) (fun h1 => ?_)
 ·
  refine Wp.region ?_
  refine Ops.pv (pv_move rfl) rfl ?_
  refine Ops.pv (pv_move rfl) rfl ?_
  refine Ops.pv (pv_cap_slice (T := 110) rfl rfl) rfl ?_
  refine Ops.pv (pv_sliceTo rfl ⟨_, rfl⟩ (Nat.le_refl 0)) rfl ?_
  refine Ops.pv (pv_move rfl) rfl ?_
  refine Ops.ef rfl (ef_appendZ (sz := 1) (k := n) rfl rfl (by omega) (by omega) (by omega) rfl rfl (by decide)) ?_
  rintro _ _ ⟨b1, c1, cs1, hc1, hk1, rfl, rfl⟩
  refine Ops.pv (pv_move rfl) rfl ?_
  refine Ops.pv (pv_len_slice (T := 110) rfl rfl) rfl ?_
  refine Ops.pv (pv_sliceTo (j := 0) rfl ⟨_, rfl⟩ (Nat.zero_le _)) rfl ?_
  refine Ops.pv (pv_assign rfl) rfl ?_
  refine Ops.nil ?_
  refine Ends.seq ?_
  refine Wp.seq ?_
  refine Wp.region ?_
  refine Ops.pv (pv_move rfl) rfl ?_
  refine Ops.pv (pv_assign rfl) rfl ?_
  refine Ops.nil ?_
  refine Ends.seq ?_
  refine Wp.ret ?_
  exact Ends.ret (L' := [(b1, .cells (cs1 : List Value).toArray 109)]) (res1 rfl rfl) ⟨rfl, .inr ⟨b1, [], cs1, c1, rfl, Nat.zero_le _, by omega, by simp⟩⟩
 refine Wp.skip ?_
 refine Ends.seq ?_
 refine Wp.seq ?_
 refine Wp.region ?_
 refine Ops.pv (pv_move rfl) rfl ?_
 refine Ops.pv (pv_assign rfl) rfl ?_
 refine Ops.nil ?_
 refine Ends.seq ?_
 refine Wp.ret ?_
 exact Ends.ret (L' := []) (res1 rfl rfl) (Slc.nil _ _)
theorem tr_concat (G : Hp) (bx cx : Nat) (ss : List SP) (hv : ∀ s, s ∈ ss → View G 1 s.v s.l.length (ptsC s.l)) (hl : (catP ss).length ≤ 2 ^ 40) (hs : ss.length ≤ 2 ^ 40) : Tr Try.prog 72 [.slice (some ⟨bx, 0, none⟩) ss.length cx] ((bx, .cells (ss.map SP.v).toArray 110) :: G) (fun v L' => ∃ H, Slc 109 1 v (catP ss).length (ptsC (catP ss)) H ∧ L' = H ++ ((bx, .cells (ss.map SP.v).toArray 110) :: G)) := by
 refine Tr.enter Try.func72 rfl Try.ntmps72 rfl (fun W F => ?_)
 refine Wp.app ?_
 refine Wp.seq ?_
 refine Wp.region ?_
 refine Ops.pv (pv_assign rfl) rfl ?_
 refine Ops.nil ?_
 refine Ends.seq ?_
 refine Wp.seq ?_
 refine Wp.region ?_
 refine Ops.pv (pv_assign rfl) rfl ?_
 refine Ops.nil ?_
 refine Ends.seq ?_
 refine Wp.seq ?_
 refine Wp.seq ?_
 refine Wp.region ?_
 refine Ops.pv (pv_move rfl) rfl ?_
 refine Ops.pv (pv_len_slice (T := 127) rfl rfl) rfl ?_
 refine Ops.pv (pv_move rfl) rfl ?_
 refine Ops.nil ?_
 refine Ends.seq ?_
 refine Wp.block ?_
 refine Wp.loop (σ := Nat) (fun i => [(0, .slice (some ⟨bx, 0, none⟩) ss.length cx), (2, .slice none 0 0), (3, .int .i64 (catPto ss i).length), (9, .slice (some ⟨bx, 0, none⟩) ss.length cx), (10, .int .i64 ss.length), (11, .int .i64 i)]) (fun _ => (bx, .cells (ss.map SP.v).toArray 110) :: (G ++ F)) (fun i => i ≤ ss.length) (fun i => ss.length - i) 0 (Nat.zero_le _) (by exact ⟨rfl, rfl, rfl, rfl, rfl, rfl, trivial⟩) (by intro w ho; exact ho) ?_
 intro i K hi hK
 refine Wp.seq ?_
 refine Wp.region ?_
 refine Ops.pv (pv_lss rfl rfl) rfl ?_
 refine Ops.nil ?_
 refine Ends.seq ?_
 refine Wp.seq ?_
 refine Wp.cond_dect rfl (fun h1 => ?_) (fun h1 => ?_)
 ·
  obtain ⟨s, hsi⟩ : ∃ s, ss[i]? = some s := ⟨_, List.getElem?_eq_getElem (by omega)⟩
  have hcs := catPto_succ hsi
  have hcl := catPto_len ss (i + 1)
  have hcl2 : (catPto ss (i + 1)).length = (catPto ss i).length + s.l.length := by rw [hcs, List.length_append]
  refine Wp.skip ?_
  refine Ends.seq ?_
  refine Wp.seq ?_
  refine Wp.block ?_
  refine Wp.seq ?_
  refine Wp.region ?_
  refine Ops.pv (pv_indexAddr (i := i) rfl rfl rfl (by omega)) rfl ?_
  refine Ops.pv (pv_load rfl rfl (sp_nth hsi)) rfl ?_
  refine Ops.pv (pv_assign rfl) rfl ?_
  refine Ops.nil ?_
  refine Ends.seq ?_
  refine Wp.seq ?_
  refine Wp.region ?_
  refine Ops.pv (pv_move rfl) rfl ?_
  refine Ops.pv (pv_move rfl) rfl ?_
  refine Ops.pv (pv_len_slice (T := 110) rfl rfl) rfl ?_
  refine Ops.pv (pv_add rfl rfl (w64n (k := (catPto ss (i + 1)).length) (by omega) (by omega))) rfl ?_
  refine Ops.pv (pv_assign rfl) rfl ?_
  refine Ops.nil ?_
  refine Ends.seq ?_
  refine Wp.seq ?_
  refine Wp.region ?_
  refine Ops.pv (pv_move rfl) rfl ?_
  refine Ops.pv ((pv_lss rfl rfl).fls (by omega)) rfl ?_
  refine Ops.nil ?_
  refine Ends.seq ?_
  refine Wp.cond_false rfl ?_
  refine Wp.skip ?_
  refine Ends.block_normal ?_
  refine Ends.seq ?_
  refine Wp.region ?_
  refine Ops.pv (pv_add rfl rfl (w64 (by omega) (by omega))) rfl ?_
  refine Ops.pv (pv_move rfl) rfl ?_
  refine Ops.nil ?_
  refine Ends.goes ?_
  refine Goes.back (hK (i + 1) (by omega) (by omega)) ⟨rfl, rfl, rfl, rfl, rfl, rfl, trivial⟩
 obtain rfl : i = ss.length := by omega
 have hcall := catPto_all ss
 refine Wp.exit ?_
 refine Ends.then_exit ?_
 refine Ends.then_exit ?_
 refine Ends.block_hit ?_
 refine Ends.seq ?_
 refine Wp.seq ?_
 refine Wp.region ?_
 refine Ops.pv (pv_move rfl) rfl ?_
 rw [hcall]
 refine Ops.ef rfl (ef_call (tr_grow (catP ss).length hl) rfl rfl) ?_
 rintro _ _ ⟨_, _, hg1, rfl, rfl⟩
 refine Ops.app ?_
 skip
 refine Ops.pv (pv_assign rfl) rfl ?_
 refine Ops.nil ?_
 refine Ends.seq ?_
 refine Wp.seq ?_
 refine Wp.seq ?_
 refine Wp.region ?_
 refine Ops.pv (pv_move rfl) rfl ?_
 refine Ops.pv (pv_len_slice (T := 127) rfl rfl) rfl ?_
 refine Ops.pv (pv_move rfl) rfl ?_
 refine Ops.nil ?_
 refine Ends.seq ?_
 refine Wp.block ?_
 refine Wp.loop (σ := Nat × Value × Hp) (fun x => [(2, .slice none 0 0), (6, x.2.1), (25, .slice (some ⟨bx, 0, none⟩) ss.length cx), (26, .int .i64 ss.length), (27, .int .i64 x.1)]) (fun x => x.2.2 ++ ((bx, .cells (ss.map SP.v).toArray 110) :: (G ++ F))) (fun x => x.1 ≤ ss.length ∧ Slc 109 1 x.2.1 (catPto ss x.1).length (ptsC (catPto ss x.1)) x.2.2) (fun x => ss.length - x.1) (0, _, _) ⟨Nat.zero_le _, hg1⟩ (by exact ⟨rfl, rfl, rfl, rfl, rfl, trivial⟩) (by intro w ho; exact ho) ?_
 rintro ⟨i, v, H⟩ K ⟨hi, hs2⟩ hK
 dsimp only at hi hs2 hK ⊢
 refine Wp.seq ?_
 refine Wp.region ?_
 refine Ops.pv (pv_lss rfl rfl) rfl ?_
 refine Ops.nil ?_
 refine Ends.seq ?_
 refine Wp.seq ?_
 refine Wp.cond_dect rfl (fun h2 => ?_) (fun h2 => ?_)
 ·
  obtain ⟨s, hsi⟩ : ∃ s, ss[i]? = some s := ⟨_, List.getElem?_eq_getElem (by omega)⟩
  have hcs := catPto_succ hsi
  have hcl := catPto_len ss (i + 1)
  have hcl2 : (catPto ss (i + 1)).length = (catPto ss i).length + s.l.length := by rw [hcs, List.length_append]
  have hvs := hv s (List.mem_of_getElem? hsi)
  refine Wp.skip ?_
  refine Ends.seq ?_
  refine Wp.seq ?_
  refine Wp.block ?_
  refine Wp.seq ?_
  refine Wp.region ?_
  refine Ops.pv (pv_indexAddr (i := i) rfl rfl rfl (by omega)) rfl ?_
  refine Ops.pv (pv_load rfl rfl (sp_nth hsi)) rfl ?_
  refine Ops.pv (pv_assign rfl) rfl ?_
  refine Ops.nil ?_
  refine Ends.seq ?_
  refine Wp.region ?_
  refine Ops.pv (pv_move rfl) rfl ?_
  refine Ops.pv (pv_move rfl) rfl ?_
  refine Ops.ef rfl (ef_appendV (H := H) rfl hs2 rfl (hvs.mono (by intro p hp; simp [hp])) (ptsC_one s.l) (by omega) (by omega) rfl rfl) ?_
  rintro _ _ ⟨v1, H1, hs1, rfl, rfl⟩
  refine Ops.app ?_
  skip
  refine Ops.pv (pv_assign rfl) rfl ?_
  refine Ops.nil ?_
  refine Ends.block_normal ?_
  refine Ends.seq ?_
  refine Wp.region ?_
  refine Ops.pv (pv_add rfl rfl (w64 (by omega) (by omega))) rfl ?_
  refine Ops.pv (pv_move rfl) rfl ?_
  refine Ops.nil ?_
  refine Ends.goes ?_
  refine Goes.back (hK (i + 1, v1, H1) ⟨by dsimp only; omega, ?_⟩ (by dsimp only; omega)) ⟨rfl, rfl, rfl, rfl, rfl, trivial⟩
  dsimp only; rw [hcs, List.length_append, ptsC_app]; exact hs1
 obtain rfl : i = ss.length := by omega
 refine Wp.exit ?_
 refine Ends.then_exit ?_
 refine Ends.then_exit ?_
 refine Ends.block_hit ?_
 refine Ends.seq ?_
 refine Wp.seq ?_
 refine Wp.region ?_
 refine Ops.pv (pv_move rfl) rfl ?_
 refine Ops.pv (pv_assign rfl) rfl ?_
 refine Ops.nil ?_
 refine Ends.seq ?_
 refine Wp.ret ?_
 rw [catPto_all] at hs2
 exact Ends.ret (L' := H ++ ((bx, .cells (ss.map SP.v).toArray 110) :: G)) (res1 rfl rfl) ⟨H, hs2, rfl⟩
theorem tr_concat2 (G : Hp) (bx cx : Nat) (a1 a2 : Option Addr) (c1 c2 : Nat) (l1 l2 : List Nat) (hv1 : View G 1 (.slice a1 l1.length c1) l1.length (ptsC l1)) (hv2 : View G 1 (.slice a2 l2.length c2) l2.length (ptsC l2)) (hl : (l1 ++ l2).length ≤ 2 ^ 40) :
    Tr Try.prog 72 [.slice (some ⟨bx, 0, none⟩) 2 cx] ((bx, .cells [.slice a1 l1.length c1, .slice a2 l2.length c2].toArray 110) :: G) (fun v L' => ∃ H, Slc 109 1 v (l1 ++ l2).length (ptsC (l1 ++ l2)) H ∧ L' = H ++ ((bx, .cells [.slice a1 l1.length c1, .slice a2 l2.length c2].toArray 110) :: G)) := by
  have e : catP [⟨a1, c1, l1⟩, ⟨a2, c2, l2⟩] = l1 ++ l2 := by simp [catP]
  have h := tr_concat G bx cx [⟨a1, c1, l1⟩, ⟨a2, c2, l2⟩] (by intro s hs; simp only [List.mem_cons, List.not_mem_nil, or_false] at hs; rcases hs with rfl | rfl <;> assumption) (by rw [e]; exact hl) (by simp)
  rw [e] at h
  exact h
theorem tr_concat3 (G : Hp) (bx cx : Nat) (a1 a2 a3 : Option Addr) (c1 c2 c3 : Nat) (l1 l2 l3 : List Nat) (hv1 : View G 1 (.slice a1 l1.length c1) l1.length (ptsC l1)) (hv2 : View G 1 (.slice a2 l2.length c2) l2.length (ptsC l2)) (hv3 : View G 1 (.slice a3 l3.length c3) l3.length (ptsC l3)) (hl : (l1 ++ l2 ++ l3).length ≤ 2 ^ 40) :
    Tr Try.prog 72 [.slice (some ⟨bx, 0, none⟩) 3 cx] ((bx, .cells [.slice a1 l1.length c1, .slice a2 l2.length c2, .slice a3 l3.length c3].toArray 110) :: G) (fun v L' => ∃ H, Slc 109 1 v (l1 ++ l2 ++ l3).length (ptsC (l1 ++ l2 ++ l3)) H ∧ L' = H ++ ((bx, .cells [.slice a1 l1.length c1, .slice a2 l2.length c2, .slice a3 l3.length c3].toArray 110) :: G)) := by
  have e : catP [⟨a1, c1, l1⟩, ⟨a2, c2, l2⟩, ⟨a3, c3, l3⟩] = l1 ++ l2 ++ l3 := by simp [catP]
  have h := tr_concat G bx cx [⟨a1, c1, l1⟩, ⟨a2, c2, l2⟩, ⟨a3, c3, l3⟩] (by intro s hs; simp only [List.mem_cons, List.not_mem_nil, or_false] at hs; rcases hs with rfl | rfl | rfl <;> assumption) (by rw [e]; exact hl) (by simp)
  rw [e] at h
  exact h
end Go.Proofs.Ytdodfnjmkpgdbaa
end
section
set_option linter.unusedVariables false
set_option linter.unusedSimpArgs false
namespace Go.Proofs.Ytdodfnjmkpgdbaa
open Go.SL
theorem tr_treeNew  : Tr Try.prog 43 [] ([]) (fun v L' => ∃ tb, v = .pointer (some ⟨tb, 0, none⟩) ∧ TrH ⟨0, fun _ => (0, 0), fun _ => none, fun _ => [], []⟩ tb L') := by
 refine Tr.enter Try.func43 rfl Try.ntmps43 rfl (fun W F => ?_)
 refine Wp.app ?_
 refine Wp.seq ?_
 refine Wp.region ?_
 refine Ops.pv (pv_assign rfl) rfl ?_
 refine Ops.nil ?_
 refine Ends.seq ?_
 refine Wp.seq ?_
 refine Wp.region ?_
 refine Ops.ef rfl (ef_makeMap rfl rfl) ?_
 rintro _ _ ⟨b1, rfl, rfl⟩
 refine Ops.pv (pv_build rfl) rfl ?_
 refine Ops.ef rfl (ef_boxK rfl rfl) ?_
 rintro _ _ ⟨b2, rfl, rfl⟩
 refine Ops.pv (pv_assign rfl) rfl ?_
 refine Ops.nil ?_
 refine Ends.seq ?_
 refine Wp.ret ?_
 exact Ends.ret (L' := [trBlk b2 b1, (b1, .map #[] 0)]) (res1 rfl rfl) ⟨b2, rfl, b1, 0, fun _ => 0, fun _ => .pointer none, fun _ => [], fun i hi => absurd hi (Nat.not_lt_zero i), rfl⟩
theorem tr_tHas (tb : Nat) (L : Hp) (T : TreeM) (hH : TrH T tb L) (s : SlotM) : TrR Try.prog 74 [.pointer (some ⟨tb, 0, none⟩), slotV s] (L) (.bool (tget s T.M).isSome) := by
 obtain ⟨mb, clk, blk, kv, kH, hk, rfl⟩ := hH
 have hm := tptr_hm blk T.M s
 refine Tr.enter Try.func74 rfl Try.ntmps74 rfl (fun W F => ?_)
 refine Wp.app ?_
 refine Wp.seq ?_
 refine Wp.region ?_
 refine Ops.ef rfl (ef_boxK rfl rfl) ?_
 rintro _ _ ⟨b1, rfl, rfl⟩
 refine Ops.pv (pv_assign rfl) rfl ?_
 refine Ops.nil ?_
 refine Ends.seq ?_
 refine Wp.seq ?_
 refine AnyH.start ((b1, .cells [.int .i64 s.1, .int .i64 s.2].toArray 38) :: trBlk tb mb :: mpBlk mb blk T.M clk :: segs (knS blk T kv kH) T.n) 8 rfl ?_
 refine Tk 0 rfl rfl (pv_move rfl) rfl ?_
 refine Tk 1 rfl rfl (pv_nilCheck rfl) rfl ?_
 refine Tk 2 rfl rfl (pv_fieldAddr0 rfl rfl) rfl ?_
 refine Tk 3 rfl rfl (pv_load rfl rfl rfl) rfl ?_
 refine Tk 4 rfl rfl (pv_loadK [_, _] rfl rfl rfl ⟨rfl, rfl, trivial⟩) rfl ?_
 refine Tk 5 rfl rfl (pv_lookup_s s rfl rfl hm) rfl ?_
 refine Tk 6 rfl rfl (pv_neq_nil rfl rfl) rfl ?_
 refine Tk 7 rfl rfl (pv_assign rfl) rfl ?_
 refine AnyH.done (by kernel_rfl) ?_
 refine Ends.seq ?_
 refine Wp.ret ?_
 exact Ends.ret (res1 rfl rfl) ⟨by rw [tptr_is], rfl⟩
theorem tr_tKin0 (tb : Nat) (L : Hp) (T : TreeM) (hH : TrH T tb L) (s : SlotM) (h : tget s T.M = none) : Tr Try.prog 47 [.pointer (some ⟨tb, 0, none⟩), slotV s] (L) (fun u L' => u = .slice none 0 0 ∧ L' = L) := by
 obtain ⟨mb, clk, blk, kv, kH, hk, rfl⟩ := hH
 have hm := tptr_hm blk T.M s
 rw [tptr_no h] at hm
 refine Tr.enter Try.func47 rfl Try.ntmps47 rfl (fun W F => ?_)
 refine Wp.app ?_
 refine Wp.seq ?_
 refine Wp.region ?_
 refine Ops.ef rfl (ef_boxK rfl rfl) ?_
 rintro _ _ ⟨b1, rfl, rfl⟩
 refine Ops.pv (pv_assign rfl) rfl ?_
 refine Ops.nil ?_
 refine Ends.seq ?_
 refine Wp.seq ?_
 refine Wp.region ?_
 refine Ops.pv (pv_assign rfl) rfl ?_
 refine Ops.nil ?_
 refine Ends.seq ?_
 refine Wp.seq ?_
 refine AnyH.start ((b1, .cells [.int .i64 s.1, .int .i64 s.2].toArray 38) :: trBlk tb mb :: mpBlk mb blk T.M clk :: segs (knS blk T kv kH) T.n) 7 rfl ?_
 refine Tk 0 rfl rfl (pv_move rfl) rfl ?_
 refine Tk 1 rfl rfl (pv_nilCheck rfl) rfl ?_
 refine Tk 2 rfl rfl (pv_fieldAddr0 rfl rfl) rfl ?_
 refine Tk 3 rfl rfl (pv_load rfl rfl rfl) rfl ?_
 refine Tk 4 rfl rfl (pv_loadK [_, _] rfl rfl rfl ⟨rfl, rfl, trivial⟩) rfl ?_
 refine Tk 5 rfl rfl (pv_lookup_s s rfl rfl hm) rfl ?_
 refine Tk 6 rfl rfl (pv_assign rfl) rfl ?_
 refine AnyH.done (by kernel_rfl) ?_
 refine Ends.seq ?_
 refine Wp.seq ?_
 refine Wp.seq ?_
 refine Wp.region ?_
 refine Ops.pv (pv_move rfl) rfl ?_
 refine Ops.pv (pv_eql_nil rfl rfl) rfl ?_
 refine Ops.nil ?_
 refine Ends.seq ?_
 refine Wp.cond_true rfl ?_
 refine Wp.seq ?_
 refine Wp.region ?_
 refine Ops.pv (pv_assign rfl) rfl ?_
 refine Ops.nil ?_
 refine Ends.seq ?_
 refine Wp.ret ?_
 refine Ends.then_ret ?_
 exact Ends.ret (L' := trBlk tb mb :: mpBlk mb blk T.M clk :: segs (knS blk T kv kH) T.n) (res1 rfl rfl) ⟨rfl, rfl⟩
set_option maxHeartbeats 1000000 in
theorem tr_tKin1 (tb : Nat) (L : Hp) (T : TreeM) (hH : TrH T tb L) (Fo0 : (Fo Nat)) (hT : TOk T Fo0) (hn : T.n ≤ 2 ^ 20) (s : SlotM) (i : Nat) (h : tget s T.M = some i) : Tr Try.prog 47 [.pointer (some ⟨tb, 0, none⟩), slotV s] (L) (fun u L' => ∃ K, Slc 38 2 u ((Fo.sub i Fo0).all.map T.sl).length (slotsCells ((Fo.sub i Fo0).all.map T.sl)) K ∧ L' = K ++ L) := by
 obtain ⟨mb, clk, blk, kv, kH, hk, rfl⟩ := hH
 have hm := tptr_hm blk T.M s
 have hx := hT.ix
 rw [tptr_some h] at hm
 have hi := hx.get h
 have hb_i := kn_blk (blk := blk) (T := T) (kv := kv) (kH := kH) (i := i) hi
 obtain ⟨ka, kc, hkv⟩ := kn_form hk hi
 have hv := kn_view2 hk hi
 rw [hkv] at hv hb_i
 have hks := hx.small i hi
 have him := hT.mem h
 obtain ⟨hsr, hsk⟩ := Fo.OkK.sub hT.kids him
 have hsl := sub_len Fo0 i
 have hal := hT.all_len
 have hlm : ((T.kids i).map blk).length = (T.kids i).length := List.length_map ..
 refine Tr.enter Try.func47 rfl Try.ntmps47 rfl (fun W F => ?_)
 refine Wp.app ?_
 refine Wp.seq ?_
 refine Wp.region ?_
 refine Ops.ef rfl (ef_boxK rfl rfl) ?_
 rintro _ _ ⟨b1, rfl, rfl⟩
 refine Ops.pv (pv_assign rfl) rfl ?_
 refine Ops.nil ?_
 refine Ends.seq ?_
 refine Wp.seq ?_
 refine Wp.region ?_
 refine Ops.pv (pv_assign rfl) rfl ?_
 refine Ops.nil ?_
 refine Ends.seq ?_
 refine Wp.seq ?_
 refine AnyH.start ((b1, .cells [.int .i64 s.1, .int .i64 s.2].toArray 38) :: trBlk tb mb :: mpBlk mb blk T.M clk :: segs (knS blk T kv kH) T.n) 7 rfl ?_
 refine Tk 0 rfl rfl (pv_move rfl) rfl ?_
 refine Tk 1 rfl rfl (pv_nilCheck rfl) rfl ?_
 refine Tk 2 rfl rfl (pv_fieldAddr0 rfl rfl) rfl ?_
 refine Tk 3 rfl rfl (pv_load rfl rfl rfl) rfl ?_
 refine Tk 4 rfl rfl (pv_loadK [_, _] rfl rfl rfl ⟨rfl, rfl, trivial⟩) rfl ?_
 refine Tk 5 rfl rfl (pv_lookup_s s rfl rfl hm) rfl ?_
 refine Tk 6 rfl rfl (pv_assign rfl) rfl ?_
 refine AnyH.done (by kernel_rfl) ?_
 refine Ends.seq ?_
 refine Wp.seq ?_
 refine Wp.seq ?_
 refine Wp.region ?_
 refine Ops.pv (pv_move rfl) rfl ?_
 refine Ops.pv (pv_eql_nil rfl rfl) rfl ?_
 refine Ops.nil ?_
 refine Ends.seq ?_
 refine Wp.cond_false rfl ?_
 refine Wp.skip ?_
 refine Ends.seq ?_
 refine Wp.seq ?_
 refine Wp.seq ?_
 refine Wp.region ?_
 refine Ops.pv (pv_move rfl) rfl ?_
 refine Ops.pv (pv_nilCheck rfl) rfl ?_
 refine Ops.pv (pv_fieldAddr0 rfl rfl) rfl ?_
 refine Ops.pv (pv_load rfl rfl rfl) rfl ?_
 refine Ops.ef rfl (ef_call (tr_clone (segs (knS blk T kv kH) T.n) ka kc ((T.kids i).map blk) hv (by omega)) rfl rfl) ?_
 rintro _ _ ⟨_, _, ⟨J1, hJ1, rfl⟩, rfl, rfl⟩
 refine Ops.app ?_
 refine Ops.pv (pv_assign rfl) rfl ?_
 refine Ops.nil ?_
 refine Ends.seq ?_
 refine Wp.block ?_
 refine Wp.loopK (σ := Value × Hp × Value × Hp × List SlotM × (Fo Nat)) [] (fun s => [(5, s.1), (7, s.2.2.1)]) (fun s => s.2.1 ++ (s.2.2.2.1 ++ (trBlk tb mb :: mpBlk mb blk T.M clk :: (segs (knS blk T kv kH) T.n ++ F)))) (fun s => Slc 38 2 s.1 s.2.2.2.2.1.length (slotsCells s.2.2.2.2.1) s.2.1 ∧ Slc 109 1 s.2.2.1 (s.2.2.2.2.2.roots.map blk).length (ptsC (s.2.2.2.2.2.roots.map blk)) s.2.2.2.1 ∧ Fo.OkK T.kids s.2.2.2.2.2 ∧ (∀ z, z ∈ s.2.2.2.2.2.all → z < T.n) ∧ s.2.2.2.2.1 ++ s.2.2.2.2.2.all.map T.sl = (Fo.sub i Fo0).all.map T.sl ∧ s.2.2.2.2.1.length + s.2.2.2.2.2.all.length ≤ T.n) (fun s => s.2.2.2.2.2.all.length) (.slice none 0 0, [], _, J1, [], Fo.sub i Fo0) ⟨Slc.nil _ _, by rw [← hsr]; exact hJ1, hsk, fun z hz => hT.lt z (Fo.sub_all _ _ z hz), rfl, by simp; omega⟩ trivial ⟨rfl, rfl, trivial⟩ (by intro w ho; (try dsimp only [List.nil_append, List.cons_append]); exact Drop.own ho) ?_
 rintro ⟨u, K, w, J, dn, g⟩ KK ⟨hu, hw, hok, hlt, htot, hgl⟩ hK
 dsimp only [List.cons_append, List.nil_append] at hK ⊢
 dsimp only at hu hw hok hlt htot hgl ⊢
 obtain ⟨wa, wc, rfl⟩ := hw.form
 refine Wp.seq ?_
 refine Wp.seq ?_
 refine Wp.region ?_
 refine Ops.pv (pv_move rfl) rfl ?_
 refine Ops.pv (pv_len_slice (T := 110) rfl rfl) rfl ?_
 refine Ops.pv (pv_gtr rfl rfl) rfl ?_
 refine Ops.nil ?_
 refine Ends.seq ?_
 refine Wp.cond_dect rfl (fun h1 => ?_) (fun h1 => ?_)
 ·
  obtain ⟨q, c, r, rfl⟩ := fo_cons (g := g) (blk := blk) (by assumption)
  simp only [Fo.roots, List.map_cons] at hw
  obtain ⟨ok1, ok2, ok3⟩ := hok
  simp only [Fo.all, List.length_cons, List.length_append] at hgl
  have hq := hlt q (by simp [Fo.all])
  have hb_q := kn_blk (blk := blk) (T := T) (kv := kv) (kH := kH) (i := q) hq
  obtain ⟨qa, qc, hqv⟩ := kn_form hk hq
  have hvq := kn_view2 hk hq
  rw [hqv] at hvq hb_q
  rw [ok1] at hvq hb_q
  have hlc := roots_len c
  have hlr := roots_len r
  have hvw := hw.view
  obtain ⟨b, o, cap, cc, T0, f, hv1, hbv, hr⟩ := hvw.open (by simp)
  cases hv1
  have hny := pts_nth (i := 0) hr rfl
  have hpt := hvw.part (i := 1) (j := ((Fo.roots r).map blk).length + 1) (by omega) (by simp)
  have et : (((blk q) :: (Fo.roots r).map blk).drop 1).take (((Fo.roots r).map blk).length + 1 - 1) = (Fo.roots r).map blk := List.take_of_length_le (by simp)
  rw [et] at hpt
  have hcap : ((Fo.roots r).map blk).length + 1 ≤ wc := by obtain ⟨_, _, _, e, h, _⟩ := hvw; cases e; simpa using h
  have hm1 : ((Fo.roots c).map blk).length = (Fo.roots c).length := List.length_map ..
  have hm2 : ((Fo.roots r).map blk).length = (Fo.roots r).length := List.length_map ..
  refine Wp.skip ?_
  refine Ends.seq ?_
  refine Wp.block ?_
  refine Wp.seq ?_
  refine Wp.region ?_
  refine Ops.pv (pv_move rfl) rfl ?_
  refine Ops.pv (pv_indexAddr (i := 0) rfl rfl rfl (by simp [Fo.roots])) rfl ?_
  refine Ops.pv (pv_load rfl rfl hny) rfl ?_
  refine Ops.pv (pv_assign rfl) rfl ?_
  refine Ops.nil ?_
  refine Ends.seq ?_
  refine Wp.seq ?_
  refine Wp.region ?_
  refine Ops.pv (pv_move rfl) rfl ?_
  refine Ops.pv (pv_move rfl) rfl ?_
  refine Ops.pv (pv_nilCheck rfl) rfl ?_
  refine Ops.pv (pv_fieldAddr0 rfl rfl) rfl ?_
  refine Ops.pv (pv_loadK [_, _] rfl rfl rfl ⟨rfl, rfl, trivial⟩) rfl ?_
  refine Ops.ef rfl (ef_buildSlice1 (k := 2) rfl rfl rfl rfl rfl) ?_
  rintro _ _ ⟨b2, rfl, rfl⟩
  refine Ops.ef rfl (ef_append (H := K) (xs := slotCells (T.sl q)) rfl hu rfl ⟨rfl, rfl, trivial⟩ rfl rfl rfl (by omega) (by omega) rfl rfl) ?_
  rintro _ _ ⟨u1, K1, hu1, rfl, rfl⟩
  refine Ops.app ?_
  refine Ops.pv (pv_assign rfl) rfl ?_
  refine Ops.nil ?_
  refine Ends.seq ?_
  refine AnyH.start (J ++ (segs (knS blk T kv kH) T.n)) 9 rfl ?_
  refine Tk 0 rfl rfl (pv_move rfl) rfl ?_
  refine Tk 1 rfl rfl (pv_nilCheck rfl) rfl ?_
  refine Tk 2 rfl rfl (pv_fieldAddr0 rfl rfl) rfl ?_
  refine Tk 3 rfl rfl (pv_load rfl rfl rfl) rfl ?_
  refine Tk 4 rfl rfl (pv_move rfl) rfl ?_
  refine Tk 5 rfl rfl (pv_sliceL (i := 1) (j := ((Fo.roots r).map blk).length + 1) (r := ((Fo.roots r).map blk).length) rfl ⟨_, rfl⟩ rfl (by omega) hcap (by omega)) rfl ?_
  refine AnyH.one 6 (by kernel_rfl) ?_
  refine Turn.ef rfl rfl (ef_buildSlice2 rfl rfl rfl rfl rfl rfl) ?_ ?_
  ·
   rintro _ _ ⟨b3, rfl, rfl⟩; infer_instance
  rintro _ _ ⟨b3, rfl, rfl⟩
  refine AnyH.one 7 (by kernel_rfl) ?_
  refine Turn.ef rfl rfl (ef_call (tr_concat2 (J ++ (segs (knS blk T kv kH) T.n)) b3 2 _ _ _ _ ((Fo.roots c).map blk) ((Fo.roots r).map blk) (hvq.mono (by intro p hp; exact List.mem_append_right _ hp)) (hpt.mono (by intro p hp; exact List.mem_append_left _ hp)) (by rw [List.length_append]; omega)) rfl rfl) ?_ ?_
  ·
   rintro _ _ ⟨_, _, ⟨J2, hJ2, rfl⟩, rfl, rfl⟩; infer_instance
  rintro _ _ ⟨_, _, ⟨J2, hJ2, rfl⟩, rfl, rfl⟩
  refine AnyH.app ?_
  obtain ⟨xa1, xc1, rfl⟩ := hJ2.form
  refine Tk 8 rfl rfl (pv_assign rfl) rfl ?_
  refine AnyH.done (by kernel_rfl) ?_
  refine Ends.block_normal ?_
  refine Ends.goes ?_
  refine Goes.back (hK (u1, K1, _, J2, dn ++ [T.sl q], Fo.app c r) ⟨?_, ?_, Fo.OkK.app ok2 ok3, ?_, ?_, ?_⟩ (by dsimp only; rw [Fo.all_app]; simp only [Fo.all, List.length_cons, List.length_append]; omega)) ⟨rfl, rfl, trivial⟩
  ·
   dsimp only; rw [List.length_append, slotsCells_app]; exact hu1
  ·
   dsimp only; rw [Fo.roots_app, List.map_append]; exact hJ2
  ·
   intro z hz; dsimp only at hz; rw [Fo.all_app] at hz; exact hlt z (by simp only [Fo.all, List.mem_cons]; exact .inr hz)
  ·
   dsimp only; rw [← htot, Fo.all_app]; simp [Fo.all]
  dsimp only; rw [Fo.all_app, List.length_append, List.length_append]; simp; omega
 refine Wp.exit ?_
 refine Ends.then_exit ?_
 refine Ends.then_exit ?_
 refine Ends.block_hit ?_
 refine Ends.seq ?_
 refine Wp.seq ?_
 refine Wp.region ?_
 refine Ops.pv (pv_move rfl) rfl ?_
 refine Ops.pv (pv_assign rfl) rfl ?_
 refine Ops.nil ?_
 refine Ends.seq ?_
 refine Wp.ret ?_
 obtain rfl := fo_nil (g := g) (blk := blk) (by assumption)
 simp only [Fo.all, List.map_nil, List.append_nil] at htot
 rw [← htot]
 exact Ends.ret (L' := K ++ (trBlk tb mb :: mpBlk mb blk T.M clk :: segs (knS blk T kv kH) T.n)) (res1 rfl rfl) ⟨K, hu, rfl⟩
theorem tr_tadd_has (tb : Nat) (L : Hp) (T : TreeM) (hH : TrH T tb L) (s : SlotM) (v0 : Value) (i : Nat) (h : tget s T.M = some i) : Tr Try.prog 70 [.pointer (some ⟨tb, 0, none⟩), slotV s, v0] (L) (fun u L' => u = .int .i64 4 ∧ TrH T tb L') := by
 obtain ⟨mb, clk, blk, kv, kH, hk, rfl⟩ := hH
 refine Tr.enter Try.func70 rfl Try.ntmps70 rfl (fun W F => ?_)
 refine Wp.app ?_
 refine Wp.seq ?_
 refine Wp.region ?_
 refine Ops.ef rfl (ef_boxK rfl rfl) ?_
 rintro _ _ ⟨b1, rfl, rfl⟩
 refine Ops.pv (pv_assign rfl) rfl ?_
 refine Ops.nil ?_
 refine Ends.seq ?_
 refine Wp.seq ?_
 refine Wp.seq ?_
 refine Wp.region ?_
 refine Ops.pv (pv_move rfl) rfl ?_
 refine Ops.pv (pv_loadK [_, _] rfl rfl rfl ⟨rfl, rfl, trivial⟩) rfl ?_
 refine Ops.ef rfl (ef_callr ((tr_tHas tb _ T ⟨mb, clk, blk, kv, kH, hk, rfl⟩ s).eq (r' := .bool true) (by simp [h])) rfl rfl) ?_
 rintro _ _ ⟨rfl, rfl⟩
 refine Ops.nil ?_
 refine Ends.seq ?_
 refine Wp.cond_true rfl ?_
 refine Wp.seq ?_
 refine Wp.region ?_
 refine Ops.pv (pv_assign rfl) rfl ?_
 refine Ops.nil ?_
 refine Ends.seq ?_
 refine Wp.ret ?_
 refine Ends.then_ret ?_
 exact Ends.ret (L' := trBlk tb mb :: mpBlk mb blk T.M clk :: segs (knS blk T kv kH) T.n) (res1 rfl rfl) ⟨rfl, mb, clk, blk, kv, kH, hk, rfl⟩
theorem tr_tadd_root (tb : Nat) (L : Hp) (T : TreeM) (hH : TrH T tb L) (hx : T.Ix) (s : SlotM) (h : tget s T.M = none) : Tr Try.prog 70 [.pointer (some ⟨tb, 0, none⟩), slotV s, .pointer none] (L) (fun u L' => u = .int .i64 0 ∧ ∃ t, TrH (T.more s none t) tb L') := by
 obtain ⟨mb, clk, blk, kv, kH, hk, rfl⟩ := hH
 refine Tr.enter Try.func70 rfl Try.ntmps70 rfl (fun W F => ?_)
 refine Wp.app ?_
 refine Wp.seq ?_
 refine Wp.region ?_
 refine Ops.ef rfl (ef_boxK rfl rfl) ?_
 rintro _ _ ⟨b1, rfl, rfl⟩
 refine Ops.pv (pv_assign rfl) rfl ?_
 refine Ops.nil ?_
 refine Ends.seq ?_
 refine Wp.seq ?_
 refine Wp.seq ?_
 refine Wp.region ?_
 refine Ops.pv (pv_move rfl) rfl ?_
 refine Ops.pv (pv_loadK [_, _] rfl rfl rfl ⟨rfl, rfl, trivial⟩) rfl ?_
 refine Ops.ef rfl (ef_callr ((tr_tHas tb _ T ⟨mb, clk, blk, kv, kH, hk, rfl⟩ s).eq (r' := .bool false) (by simp [h])) rfl rfl) ?_
 rintro _ _ ⟨rfl, rfl⟩
 refine Ops.nil ?_
 refine Ends.seq ?_
 refine Wp.cond_false rfl ?_
 refine Wp.skip ?_
 refine Ends.seq ?_
 refine Wp.seq ?_
 refine Wp.region ?_
 refine Ops.pv (pv_loadK [_, _] rfl rfl rfl ⟨rfl, rfl, trivial⟩) rfl ?_
 refine Ops.pv (pv_move rfl) rfl ?_
 refine Ops.pv (pv_build rfl) rfl ?_
 refine Ops.ef rfl (ef_boxK rfl rfl) ?_
 rintro _ _ ⟨b2, rfl, rfl⟩
 refine Ops.pv (pv_assign rfl) rfl ?_
 refine Ops.nil ?_
 refine Ends.seq ?_
 refine Wp.seq ?_
 refine AnyH.start ((b1, .cells [.int .i64 s.1, .int .i64 s.2].toArray 38) :: trBlk tb mb :: []) 7 rfl ?_
 refine Tk 0 rfl rfl (pv_move rfl) rfl ?_
 refine Tk 1 rfl rfl (pv_nilCheck rfl) rfl ?_
 refine Tk 2 rfl rfl (pv_fieldAddr0 rfl rfl) rfl ?_
 refine Tk 3 rfl rfl (pv_load rfl rfl rfl) rfl ?_
 refine Tk 4 rfl rfl (pv_loadK [_, _] rfl rfl rfl ⟨rfl, rfl, trivial⟩) rfl ?_
 refine Tk 5 rfl rfl (pv_move rfl) rfl ?_
 refine AnyH.one 6 (by kernel_rfl) ?_
 refine Turn.ef rfl rfl (ef_mapUpdate_s _ rfl rfl rfl) ?_ ?_
 ·
  rintro _ _ ⟨rfl, rfl⟩; infer_instance
 rintro _ _ ⟨rfl, rfl⟩
 refine AnyH.done (by kernel_rfl) ?_
 refine Ends.seq ?_
 refine Wp.seq ?_
 refine Wp.seq ?_
 refine Wp.region ?_
 refine Ops.pv (pv_move rfl) rfl ?_
 refine Ops.pv (pv_neq_nil rfl rfl) rfl ?_
 refine Ops.nil ?_
 refine Ends.seq ?_
 refine Wp.cond_false rfl ?_
 refine Wp.skip ?_
 refine Ends.seq ?_
 refine Wp.seq ?_
 refine Wp.region ?_
 refine Ops.pv (pv_assign rfl) rfl ?_
 refine Ops.nil ?_
 refine Ends.seq ?_
 refine Wp.ret ?_
 rw [tput_new h, tclk_new h]
 refine Ends.heap (L' := trBlk tb mb :: (mb, mapO encS (kvT blk T.M ++ [(s, .pointer (some ⟨b2, 0, none⟩), clk)]) (clk + 1)) :: ((segs (knS blk T kv kH) T.n ++ [(b2, .cells [.int .i64 s.1, .int .i64 s.2, .pointer none, .slice none 0 0].toArray 113)]) ++ F)) (fun w ho => ?_) ?_
 ·
  have h2 : Own W w (trBlk tb mb :: (mb, mapO encS (kvT blk T.M ++ [(s, .pointer (some ⟨b2, 0, none⟩), clk)]) (clk + 1)) :: (segs (knS blk T kv kH) T.n ++ ((b2, .cells [.int .i64 s.1, .int .i64 s.2, .pointer none, .slice none 0 0].toArray 113) :: F))) := Drop.own ho
  rw [List.append_assoc]; exact h2
 rw [← more_root hx (t := clk), ← more_kvT hx]
 exact Ends.ret (L' := trBlk tb mb :: (mb, mapO encS (kvT (fset blk T.n b2) (T.M ++ [(s, T.n, clk)])) (clk + 1)) :: segs (knS (fset blk T.n b2) (T.more s none clk) (fset kv T.n (.slice none 0 0)) (fset kH T.n [])) (T.n + 1)) (res1 rfl rfl) ⟨rfl, clk, mb, clk + 1, fset blk T.n b2, _, _, more_root_ok hx hk, rfl⟩
theorem tr_tadd_child (tb mb clk : Nat) (blk : Nat → Nat) (T : TreeM) (kv : Nat → Value) (kH : Nat → Hp) (hk : kidsOk blk T kv kH) (hx : T.Ix) (hn : T.n ≤ 2 ^ 20) (s : SlotM) (j : Nat) (hj : j < T.n) (h : tget s T.M = none) : Tr Try.prog 70 [.pointer (some ⟨tb, 0, none⟩), slotV s, .pointer (some ⟨blk j, 0, none⟩)] (trBlk tb mb :: mpBlk mb blk T.M clk :: segs (knS blk T kv kH) T.n) (fun u L' => u = .int .i64 0 ∧ ∃ t, TrH (T.more s (some j) t) tb L') := by
 have hkj := hk j hj
 have hsm := hx.small j hj
 refine Tr.enter Try.func70 rfl Try.ntmps70 rfl (fun W F => ?_)
 refine Wp.app ?_
 refine Wp.seq ?_
 refine Wp.region ?_
 refine Ops.ef rfl (ef_boxK rfl rfl) ?_
 rintro _ _ ⟨b1, rfl, rfl⟩
 refine Ops.pv (pv_assign rfl) rfl ?_
 refine Ops.nil ?_
 refine Ends.seq ?_
 refine Wp.seq ?_
 refine Wp.seq ?_
 refine Wp.region ?_
 refine Ops.pv (pv_move rfl) rfl ?_
 refine Ops.pv (pv_loadK [_, _] rfl rfl rfl ⟨rfl, rfl, trivial⟩) rfl ?_
 refine Ops.ef rfl (ef_callr ((tr_tHas tb _ T ⟨mb, clk, blk, kv, kH, hk, rfl⟩ s).eq (r' := .bool false) (by simp [h])) rfl rfl) ?_
 rintro _ _ ⟨rfl, rfl⟩
 refine Ops.nil ?_
 refine Ends.seq ?_
 refine Wp.cond_false rfl ?_
 refine Wp.skip ?_
 refine Ends.seq ?_
 refine Wp.seq ?_
 refine Wp.region ?_
 refine Ops.pv (pv_loadK [_, _] rfl rfl rfl ⟨rfl, rfl, trivial⟩) rfl ?_
 refine Ops.pv (pv_move rfl) rfl ?_
 refine Ops.pv (pv_build rfl) rfl ?_
 refine Ops.ef rfl (ef_boxK rfl rfl) ?_
 rintro _ _ ⟨b2, rfl, rfl⟩
 refine Ops.pv (pv_assign rfl) rfl ?_
 refine Ops.nil ?_
 refine Ends.seq ?_
 refine Wp.seq ?_
 refine AnyH.start ((b1, .cells [.int .i64 s.1, .int .i64 s.2].toArray 38) :: trBlk tb mb :: []) 7 rfl ?_
 refine Tk 0 rfl rfl (pv_move rfl) rfl ?_
 refine Tk 1 rfl rfl (pv_nilCheck rfl) rfl ?_
 refine Tk 2 rfl rfl (pv_fieldAddr0 rfl rfl) rfl ?_
 refine Tk 3 rfl rfl (pv_load rfl rfl rfl) rfl ?_
 refine Tk 4 rfl rfl (pv_loadK [_, _] rfl rfl rfl ⟨rfl, rfl, trivial⟩) rfl ?_
 refine Tk 5 rfl rfl (pv_move rfl) rfl ?_
 refine AnyH.one 6 (by kernel_rfl) ?_
 refine Turn.ef rfl rfl (ef_mapUpdate_s _ rfl rfl rfl) ?_ ?_
 ·
  rintro _ _ ⟨rfl, rfl⟩; infer_instance
 rintro _ _ ⟨rfl, rfl⟩
 refine AnyH.done (by kernel_rfl) ?_
 refine Ends.seq ?_
 refine Wp.seq ?_
 refine Wp.seq ?_
 refine Wp.region ?_
 refine Ops.pv (pv_move rfl) rfl ?_
 refine Ops.pv (pv_neq_nil rfl rfl) rfl ?_
 refine Ops.nil ?_
 refine Ends.seq ?_
 refine Wp.cond_true rfl ?_
 refine Wp.region ?_
 rw [tput_new h, tclk_new h]
 refine Ops.openS (knS blk T kv kH) T.n j hj ?_
 dsimp only [knS, List.cons_append]
 refine Ops.pv (pv_move rfl) rfl ?_
 refine Ops.pv (pv_move rfl) rfl ?_
 refine Ops.pv (pv_nilCheck rfl) rfl ?_
 refine Ops.pv (pv_fieldAddr0 rfl rfl) rfl ?_
 refine Ops.pv (pv_load rfl rfl rfl) rfl ?_
 refine Ops.pv (pv_move rfl) rfl ?_
 refine Ops.ef rfl (ef_buildSlice1 (k := 1) rfl rfl rfl rfl rfl) ?_
 rintro _ _ ⟨b3, rfl, rfl⟩
 refine Ops.ef rfl (ef_append (H := kH j) (xs := [.pointer (some ⟨b2, 0, none⟩)]) rfl hkj rfl ⟨rfl, trivial⟩ rfl rfl rfl (by omega) (by omega) rfl rfl) ?_
 rintro _ _ ⟨u1, H1, hu1, rfl, rfl⟩
 refine Ops.app ?_
 have ho1 := hu1.one
 have ho2 := hu1.cells1
 refine Ops.pv (pv_nilCheck rfl) rfl ?_
 refine Ops.pv (pv_fieldAddr0 rfl rfl) rfl ?_
 refine Ops.ef rfl (ef_store1 rfl rfl (by first | rfl | assumption) (by first | rfl | assumption)) ?_
 rintro _ _ ⟨rfl, rfl⟩
 refine Ops.nil ?_
 refine Ends.seq ?_
 refine Wp.seq ?_
 refine Wp.region ?_
 refine Ops.pv (pv_assign rfl) rfl ?_
 refine Ops.nil ?_
 refine Ends.seq ?_
 refine Wp.ret ?_
 refine Ends.closeS (knS blk T kv kH) T.n j ((blk j, .cells [.int .i64 (T.sl j).1, .int .i64 (T.sl j).2, ptrO blk (T.par j), u1].toArray 113) :: H1) hj ?_
 refine Ends.heap (L' := trBlk tb mb :: (mb, mapO encS (kvT blk T.M ++ [(s, .pointer (some ⟨b2, 0, none⟩), clk)]) (clk + 1)) :: ((segs (fset (knS blk T kv kH) j ((blk j, .cells [.int .i64 (T.sl j).1, .int .i64 (T.sl j).2, ptrO blk (T.par j), u1].toArray 113) :: H1)) T.n ++ [(b2, .cells [.int .i64 s.1, .int .i64 s.2, .pointer (some ⟨blk j, 0, none⟩), .slice none 0 0].toArray 113)]) ++ F)) (fun w ho => ?_) ?_
 ·
  have h2 : Own W w (trBlk tb mb :: (mb, mapO encS (kvT blk T.M ++ [(s, .pointer (some ⟨b2, 0, none⟩), clk)]) (clk + 1)) :: (segs (fset (knS blk T kv kH) j ((blk j, .cells [.int .i64 (T.sl j).1, .int .i64 (T.sl j).2, ptrO blk (T.par j), u1].toArray 113) :: H1)) T.n ++ ((b2, .cells [.int .i64 s.1, .int .i64 s.2, .pointer (some ⟨blk j, 0, none⟩), .slice none 0 0].toArray 113) :: F))) := Drop.own ho
  rw [List.append_assoc]; exact h2
 rw [← more_child hx (t := clk) hj, ← more_kvT hx]
 exact Ends.ret (L' := trBlk tb mb :: (mb, mapO encS (kvT (fset blk T.n b2) (T.M ++ [(s, T.n, clk)])) (clk + 1)) :: segs (knS (fset blk T.n b2) (T.more s (some j) clk) (fset (fset kv T.n (.slice none 0 0)) j u1) (fset (fset kH T.n []) j H1)) (T.n + 1)) (res1 rfl rfl) ⟨rfl, clk, mb, clk + 1, fset blk T.n b2, _, _, more_child_ok hx hk hj hu1, rfl⟩
theorem tr_taddR (tb : Nat) (L : Hp) (T : TreeM) (hH : TrH T tb L) (hx : T.Ix) (s : SlotM) : Tr Try.prog 70 [.pointer (some ⟨tb, 0, none⟩), slotV s, .pointer none] L (fun u L' => ∃ e T', u = .int .i64 e ∧ TAdd T s none e T' ∧ TrH T' tb L') := by
 cases h : tget s T.M with
 | none => exact (tr_tadd_root tb L T hH hx s h).mono fun u L' ⟨hu, t, hl⟩ => ⟨0, _, hu, .inr ⟨h, rfl, t, rfl⟩, hl⟩
 | some i => exact (tr_tadd_has tb L T hH s (.pointer none) i h).mono fun u L' ⟨hu, hl⟩ => ⟨4, T, hu, .inl ⟨i, h, rfl, rfl⟩, hl⟩
theorem tr_taddC (tb mb clk : Nat) (blk : Nat → Nat) (T : TreeM) (kv : Nat → Value) (kH : Nat → Hp) (hk : kidsOk blk T kv kH) (hx : T.Ix) (hn : T.n ≤ 2 ^ 20) (s : SlotM) (j : Nat) (hj : j < T.n) :
    Tr Try.prog 70 [.pointer (some ⟨tb, 0, none⟩), slotV s, .pointer (some ⟨blk j, 0, none⟩)] (trBlk tb mb :: mpBlk mb blk T.M clk :: segs (knS blk T kv kH) T.n) (fun u L' => ∃ e T', u = .int .i64 e ∧ TAdd T s (some j) e T' ∧ TrH T' tb L') := by
  cases h : tget s T.M with
  | none => exact (tr_tadd_child tb mb clk blk T kv kH hk hx hn s j hj h).mono fun u L' ⟨hu, t, hl⟩ => ⟨0, _, hu, .inr ⟨h, rfl, t, rfl⟩, hl⟩
  | some i => exact (tr_tadd_has tb _ T ⟨mb, clk, blk, kv, kH, hk, rfl⟩ s (.pointer (some ⟨blk j, 0, none⟩)) i h).mono fun u L' ⟨hu, hl⟩ => ⟨4, T, hu, .inl ⟨i, h, rfl, rfl⟩, hl⟩
theorem tr_tRoot (tb : Nat) (L : Hp) (T : TreeM) (hH : TrH T tb L) (hx : T.Ix) (s : SlotM) : Tr Try.prog 46 [.pointer (some ⟨tb, 0, none⟩), slotV s] (L) (fun u L' => ∃ e T', u = .int .i64 e ∧ TAdd T s none e T' ∧ TrH T' tb L') := by
 refine Tr.enter Try.func46 rfl Try.ntmps46 rfl (fun W F => ?_)
 refine Wp.app ?_
 refine Wp.seq ?_
 refine Wp.region ?_
 refine Ops.ef rfl (ef_boxK rfl rfl) ?_
 rintro _ _ ⟨b1, rfl, rfl⟩
 refine Ops.pv (pv_assign rfl) rfl ?_
 refine Ops.nil ?_
 refine Ends.seq ?_
 refine Wp.seq ?_
 refine Wp.region ?_
 refine Ops.pv (pv_move rfl) rfl ?_
 refine Ops.pv (pv_loadK [_, _] rfl rfl rfl ⟨rfl, rfl, trivial⟩) rfl ?_
 refine Ops.ef rfl (ef_call (tr_taddR tb L T hH hx s) rfl rfl) ?_
 rintro _ _ ⟨_, Q1, ⟨e1, T1, rfl, ha1, hH1⟩, rfl, rfl⟩
 refine Ops.app ?_
 skip
 refine Ops.pv (pv_assign rfl) rfl ?_
 refine Ops.nil ?_
 refine Ends.seq ?_
 refine Wp.ret ?_
 exact Ends.ret (L' := Q1) (res1 rfl rfl) ⟨e1, T1, rfl, ha1, hH1⟩
theorem tr_tChild0 (tb : Nat) (L : Hp) (T : TreeM) (hH : TrH T tb L) (o s : SlotM) (h : tget o T.M = none) : Tr Try.prog 55 [.pointer (some ⟨tb, 0, none⟩), slotV o, slotV s] (L) (fun u L' => u = .int .i64 3 ∧ TrH T tb L') := by
 obtain ⟨mb, clk, blk, kv, kH, hk, rfl⟩ := hH
 have hm := tptr_hm blk T.M o
 rw [tptr_no h] at hm
 refine Tr.enter Try.func55 rfl Try.ntmps55 rfl (fun W F => ?_)
 refine Wp.app ?_
 refine Wp.seq ?_
 refine Wp.region ?_
 refine Ops.ef rfl (ef_boxK rfl rfl) ?_
 rintro _ _ ⟨b1, rfl, rfl⟩
 refine Ops.ef rfl (ef_boxK rfl rfl) ?_
 rintro _ _ ⟨b2, rfl, rfl⟩
 refine Ops.pv (pv_assign rfl) rfl ?_
 refine Ops.nil ?_
 refine Ends.seq ?_
 refine Wp.seq ?_
 refine AnyH.start ((b1, .cells [.int .i64 o.1, .int .i64 o.2].toArray 38) :: trBlk tb mb :: mpBlk mb blk T.M clk :: segs (knS blk T kv kH) T.n) 7 rfl ?_
 refine Tk 0 rfl rfl (pv_move rfl) rfl ?_
 refine Tk 1 rfl rfl (pv_nilCheck rfl) rfl ?_
 refine Tk 2 rfl rfl (pv_fieldAddr0 rfl rfl) rfl ?_
 refine Tk 3 rfl rfl (pv_load rfl rfl rfl) rfl ?_
 refine Tk 4 rfl rfl (pv_loadK [_, _] rfl rfl rfl ⟨rfl, rfl, trivial⟩) rfl ?_
 refine Tk 5 rfl rfl (pv_lookup_s o rfl rfl hm) rfl ?_
 refine Tk 6 rfl rfl (pv_assign rfl) rfl ?_
 refine AnyH.done (by kernel_rfl) ?_
 refine Ends.seq ?_
 refine Wp.seq ?_
 refine Wp.seq ?_
 refine Wp.region ?_
 refine Ops.pv (pv_move rfl) rfl ?_
 refine Ops.pv (pv_eql_nil rfl rfl) rfl ?_
 refine Ops.nil ?_
 refine Ends.seq ?_
 refine Wp.cond_true rfl ?_
 refine Wp.seq ?_
 refine Wp.region ?_
 refine Ops.pv (pv_assign rfl) rfl ?_
 refine Ops.nil ?_
 refine Ends.seq ?_
 refine Wp.ret ?_
 refine Ends.then_ret ?_
 exact Ends.ret (L' := trBlk tb mb :: mpBlk mb blk T.M clk :: segs (knS blk T kv kH) T.n) (res1 rfl rfl) ⟨rfl, mb, clk, blk, kv, kH, hk, rfl⟩
theorem tr_tChild1 (tb : Nat) (L : Hp) (T : TreeM) (hH : TrH T tb L) (hx : T.Ix) (hn : T.n ≤ 2 ^ 20) (o s : SlotM) (j : Nat) (h : tget o T.M = some j) : Tr Try.prog 55 [.pointer (some ⟨tb, 0, none⟩), slotV o, slotV s] (L) (fun u L' => ∃ e T', u = .int .i64 e ∧ TAdd T s (some j) e T' ∧ TrH T' tb L') := by
 obtain ⟨mb, clk, blk, kv, kH, hk, rfl⟩ := hH
 have hm := tptr_hm blk T.M o
 rw [tptr_some h] at hm
 have hj := hx.get h
 refine Tr.enter Try.func55 rfl Try.ntmps55 rfl (fun W F => ?_)
 refine Wp.app ?_
 refine Wp.seq ?_
 refine Wp.region ?_
 refine Ops.ef rfl (ef_boxK rfl rfl) ?_
 rintro _ _ ⟨b1, rfl, rfl⟩
 refine Ops.ef rfl (ef_boxK rfl rfl) ?_
 rintro _ _ ⟨b2, rfl, rfl⟩
 refine Ops.pv (pv_assign rfl) rfl ?_
 refine Ops.nil ?_
 refine Ends.seq ?_
 refine Wp.seq ?_
 refine AnyH.start ((b1, .cells [.int .i64 o.1, .int .i64 o.2].toArray 38) :: trBlk tb mb :: mpBlk mb blk T.M clk :: segs (knS blk T kv kH) T.n) 7 rfl ?_
 refine Tk 0 rfl rfl (pv_move rfl) rfl ?_
 refine Tk 1 rfl rfl (pv_nilCheck rfl) rfl ?_
 refine Tk 2 rfl rfl (pv_fieldAddr0 rfl rfl) rfl ?_
 refine Tk 3 rfl rfl (pv_load rfl rfl rfl) rfl ?_
 refine Tk 4 rfl rfl (pv_loadK [_, _] rfl rfl rfl ⟨rfl, rfl, trivial⟩) rfl ?_
 refine Tk 5 rfl rfl (pv_lookup_s o rfl rfl hm) rfl ?_
 refine Tk 6 rfl rfl (pv_assign rfl) rfl ?_
 refine AnyH.done (by kernel_rfl) ?_
 refine Ends.seq ?_
 refine Wp.seq ?_
 refine Wp.seq ?_
 refine Wp.region ?_
 refine Ops.pv (pv_move rfl) rfl ?_
 refine Ops.pv (pv_eql_nil rfl rfl) rfl ?_
 refine Ops.nil ?_
 refine Ends.seq ?_
 refine Wp.cond_false rfl ?_
 refine Wp.skip ?_
 refine Ends.seq ?_
 refine Wp.seq ?_
 refine Wp.region ?_
 refine Ops.pv (pv_move rfl) rfl ?_
 refine Ops.pv (pv_loadK [_, _] rfl rfl rfl ⟨rfl, rfl, trivial⟩) rfl ?_
 refine Ops.pv (pv_move rfl) rfl ?_
 refine Ops.ef rfl (ef_call (tr_taddC tb mb clk blk T kv kH hk hx hn s j hj) rfl rfl) ?_
 rintro _ _ ⟨_, Q1, ⟨e1, T1, rfl, ha1, hH1⟩, rfl, rfl⟩
 refine Ops.app ?_
 skip
 refine Ops.pv (pv_assign rfl) rfl ?_
 refine Ops.nil ?_
 refine Ends.seq ?_
 refine Wp.ret ?_
 exact Ends.ret (L' := Q1) (res1 rfl rfl) ⟨e1, T1, rfl, ha1, hH1⟩
theorem tr_tChild (tb : Nat) (L : Hp) (T : TreeM) (hH : TrH T tb L) (hx : T.Ix) (hn : T.n ≤ 2 ^ 20) (o s : SlotM) : Tr Try.prog 55 [.pointer (some ⟨tb, 0, none⟩), slotV o, slotV s] L (fun u L' => ∃ e T', u = .int .i64 e ∧ TChild T o s e T' ∧ TrH T' tb L') := by
 cases h : tget o T.M with
 | none => exact (tr_tChild0 tb L T hH o s h).mono fun u L' ⟨hu, hl⟩ => ⟨3, T, hu, .inl ⟨h, rfl, rfl⟩, hl⟩
 | some j => exact (tr_tChild1 tb L T hH hx hn o s j h).mono fun u L' ⟨e, T', hu, ha, hl⟩ => ⟨e, T', hu, .inr ⟨j, h, ha⟩, hl⟩
theorem tr_tMove0 (tb : Nat) (L : Hp) (T : TreeM) (hH : TrH T tb L) (o s : SlotM) (h : tget o T.M = none) : Tr Try.prog 54 [.pointer (some ⟨tb, 0, none⟩), slotV o, slotV s] (L) (fun u L' => u = .int .i64 3 ∧ TrH T tb L') := by
 obtain ⟨mb, clk, blk, kv, kH, hk, rfl⟩ := hH
 have hm := tptr_hm blk T.M o
 rw [tptr_no h] at hm
 refine Tr.enter Try.func54 rfl Try.ntmps54 rfl (fun W F => ?_)
 refine Wp.app ?_
 refine Wp.seq ?_
 refine Wp.region ?_
 refine Ops.ef rfl (ef_boxK rfl rfl) ?_
 rintro _ _ ⟨b1, rfl, rfl⟩
 refine Ops.ef rfl (ef_boxK rfl rfl) ?_
 rintro _ _ ⟨b2, rfl, rfl⟩
 refine Ops.pv (pv_assign rfl) rfl ?_
 refine Ops.nil ?_
 refine Ends.seq ?_
 refine Wp.seq ?_
 refine AnyH.start ((b1, .cells [.int .i64 o.1, .int .i64 o.2].toArray 38) :: trBlk tb mb :: mpBlk mb blk T.M clk :: segs (knS blk T kv kH) T.n) 7 rfl ?_
 refine Tk 0 rfl rfl (pv_move rfl) rfl ?_
 refine Tk 1 rfl rfl (pv_nilCheck rfl) rfl ?_
 refine Tk 2 rfl rfl (pv_fieldAddr0 rfl rfl) rfl ?_
 refine Tk 3 rfl rfl (pv_load rfl rfl rfl) rfl ?_
 refine Tk 4 rfl rfl (pv_loadK [_, _] rfl rfl rfl ⟨rfl, rfl, trivial⟩) rfl ?_
 refine Tk 5 rfl rfl (pv_lookup_s o rfl rfl hm) rfl ?_
 refine Tk 6 rfl rfl (pv_assign rfl) rfl ?_
 refine AnyH.done (by kernel_rfl) ?_
 refine Ends.seq ?_
 refine Wp.seq ?_
 refine Wp.block ?_
 refine Wp.seq ?_
 refine Wp.region ?_
 refine Ops.pv (pv_move rfl) rfl ?_
 refine Ops.pv (pv_eql_nil rfl rfl) rfl ?_
 refine Ops.pv (pv_assign rfl) rfl ?_
 refine Ops.nil ?_
 refine Ends.seq ?_
 refine Wp.cond_true rfl ?_
 refine Wp.seq ?_
 refine Wp.region ?_
 refine Ops.pv (pv_assign rfl) rfl ?_
 refine Ops.nil ?_
 refine Ends.seq ?_
 refine Wp.ret ?_
 refine Ends.block_ret ?_
 refine Ends.then_ret ?_
 exact Ends.ret (L' := trBlk tb mb :: mpBlk mb blk T.M clk :: segs (knS blk T kv kH) T.n) (res1 rfl rfl) ⟨rfl, mb, clk, blk, kv, kH, hk, rfl⟩
theorem tr_tMove1 (tb : Nat) (L : Hp) (T : TreeM) (hH : TrH T tb L) (hx : T.Ix) (o s : SlotM) (i j : Nat) (h : tget o T.M = some i) (h2 : tget s T.M = some j) : Tr Try.prog 54 [.pointer (some ⟨tb, 0, none⟩), slotV o, slotV s] (L) (fun u L' => u = .int .i64 4 ∧ TrH T tb L') := by
 obtain ⟨mb, clk, blk, kv, kH, hk, rfl⟩ := hH
 have hm := tptr_hm blk T.M o
 rw [tptr_some h] at hm
 refine Tr.enter Try.func54 rfl Try.ntmps54 rfl (fun W F => ?_)
 refine Wp.app ?_
 refine Wp.seq ?_
 refine Wp.region ?_
 refine Ops.ef rfl (ef_boxK rfl rfl) ?_
 rintro _ _ ⟨b1, rfl, rfl⟩
 refine Ops.ef rfl (ef_boxK rfl rfl) ?_
 rintro _ _ ⟨b2, rfl, rfl⟩
 refine Ops.pv (pv_assign rfl) rfl ?_
 refine Ops.nil ?_
 refine Ends.seq ?_
 refine Wp.seq ?_
 refine AnyH.start ((b1, .cells [.int .i64 o.1, .int .i64 o.2].toArray 38) :: trBlk tb mb :: mpBlk mb blk T.M clk :: segs (knS blk T kv kH) T.n) 7 rfl ?_
 refine Tk 0 rfl rfl (pv_move rfl) rfl ?_
 refine Tk 1 rfl rfl (pv_nilCheck rfl) rfl ?_
 refine Tk 2 rfl rfl (pv_fieldAddr0 rfl rfl) rfl ?_
 refine Tk 3 rfl rfl (pv_load rfl rfl rfl) rfl ?_
 refine Tk 4 rfl rfl (pv_loadK [_, _] rfl rfl rfl ⟨rfl, rfl, trivial⟩) rfl ?_
 refine Tk 5 rfl rfl (pv_lookup_s o rfl rfl hm) rfl ?_
 refine Tk 6 rfl rfl (pv_assign rfl) rfl ?_
 refine AnyH.done (by kernel_rfl) ?_
 refine Ends.seq ?_
 refine Wp.seq ?_
 refine Wp.block ?_
 refine Wp.seq ?_
 refine Wp.region ?_
 refine Ops.pv (pv_move rfl) rfl ?_
 refine Ops.pv (pv_eql_nil rfl rfl) rfl ?_
 refine Ops.pv (pv_assign rfl) rfl ?_
 refine Ops.nil ?_
 refine Ends.seq ?_
 refine Wp.cond_false rfl ?_
 refine Wp.seq ?_
 refine Wp.region ?_
 refine Ops.pv (pv_move rfl) rfl ?_
 refine Ops.pv (pv_loadK [_, _] rfl rfl rfl ⟨rfl, rfl, trivial⟩) rfl ?_
 refine Ops.ef rfl (ef_callr ((tr_tHas tb _ T ⟨mb, clk, blk, kv, kH, hk, rfl⟩ s).eq (r' := .bool true) (by simp [h2])) rfl rfl) ?_
 rintro _ _ ⟨rfl, rfl⟩
 refine Ops.pv (pv_assign rfl) rfl ?_
 refine Ops.nil ?_
 refine Ends.seq ?_
 refine Wp.cond_true rfl ?_
 refine Wp.seq ?_
 refine Wp.region ?_
 refine Ops.pv (pv_assign rfl) rfl ?_
 refine Ops.nil ?_
 refine Ends.seq ?_
 refine Wp.ret ?_
 refine Ends.block_ret ?_
 refine Ends.then_ret ?_
 exact Ends.ret (L' := trBlk tb mb :: mpBlk mb blk T.M clk :: segs (knS blk T kv kH) T.n) (res1 rfl rfl) ⟨rfl, mb, clk, blk, kv, kH, hk, rfl⟩
theorem tr_tMove2 (tb : Nat) (L : Hp) (T : TreeM) (hH : TrH T tb L) (hx : T.Ix) (o s : SlotM) (i : Nat) (h : tget o T.M = some i) (h2 : tget s T.M = none) : Tr Try.prog 54 [.pointer (some ⟨tb, 0, none⟩), slotV o, slotV s] (L) (fun u L' => u = .int .i64 0 ∧ ∃ t, TrH (T.moved o s i t) tb L') := by
 obtain ⟨mb, clk, blk, kv, kH, hk, rfl⟩ := hH
 have hm := tptr_hm blk T.M o
 rw [tptr_some h] at hm
 have hi := hx.get h
 have hb_i := kn_blk (blk := blk) (T := T) (kv := kv) (kH := kH) (i := i) hi
 have hupd := fun o1 => segs_upd (h := knS blk T kv kH) (o' := o1) hi rfl
 refine Tr.enter Try.func54 rfl Try.ntmps54 rfl (fun W F => ?_)
 refine Wp.app ?_
 refine Wp.seq ?_
 refine Wp.region ?_
 refine Ops.ef rfl (ef_boxK rfl rfl) ?_
 rintro _ _ ⟨b1, rfl, rfl⟩
 refine Ops.ef rfl (ef_boxK rfl rfl) ?_
 rintro _ _ ⟨b2, rfl, rfl⟩
 refine Ops.pv (pv_assign rfl) rfl ?_
 refine Ops.nil ?_
 refine Ends.seq ?_
 refine Wp.seq ?_
 refine AnyH.start ((b1, .cells [.int .i64 o.1, .int .i64 o.2].toArray 38) :: trBlk tb mb :: mpBlk mb blk T.M clk :: segs (knS blk T kv kH) T.n) 7 rfl ?_
 refine Tk 0 rfl rfl (pv_move rfl) rfl ?_
 refine Tk 1 rfl rfl (pv_nilCheck rfl) rfl ?_
 refine Tk 2 rfl rfl (pv_fieldAddr0 rfl rfl) rfl ?_
 refine Tk 3 rfl rfl (pv_load rfl rfl rfl) rfl ?_
 refine Tk 4 rfl rfl (pv_loadK [_, _] rfl rfl rfl ⟨rfl, rfl, trivial⟩) rfl ?_
 refine Tk 5 rfl rfl (pv_lookup_s o rfl rfl hm) rfl ?_
 refine Tk 6 rfl rfl (pv_assign rfl) rfl ?_
 refine AnyH.done (by kernel_rfl) ?_
 refine Ends.seq ?_
 refine Wp.seq ?_
 refine Wp.block ?_
 refine Wp.seq ?_
 refine Wp.region ?_
 refine Ops.pv (pv_move rfl) rfl ?_
 refine Ops.pv (pv_eql_nil rfl rfl) rfl ?_
 refine Ops.pv (pv_assign rfl) rfl ?_
 refine Ops.nil ?_
 refine Ends.seq ?_
 refine Wp.cond_false rfl ?_
 refine Wp.seq ?_
 refine Wp.region ?_
 refine Ops.pv (pv_move rfl) rfl ?_
 refine Ops.pv (pv_loadK [_, _] rfl rfl rfl ⟨rfl, rfl, trivial⟩) rfl ?_
 refine Ops.ef rfl (ef_callr ((tr_tHas tb _ T ⟨mb, clk, blk, kv, kH, hk, rfl⟩ s).eq (r' := .bool false) (by simp [h2])) rfl rfl) ?_
 rintro _ _ ⟨rfl, rfl⟩
 refine Ops.pv (pv_assign rfl) rfl ?_
 refine Ops.nil ?_
 refine Ends.seq ?_
 refine Wp.cond_false rfl ?_
 refine Wp.skip ?_
 refine Ends.block_normal ?_
 refine Ends.seq ?_
 refine Wp.seq ?_
 refine AnyH.start ((b1, .cells [.int .i64 o.1, .int .i64 o.2].toArray 38) :: trBlk tb mb :: []) 6 rfl ?_
 refine Tk 0 rfl rfl (pv_move rfl) rfl ?_
 refine Tk 1 rfl rfl (pv_nilCheck rfl) rfl ?_
 refine Tk 2 rfl rfl (pv_fieldAddr0 rfl rfl) rfl ?_
 refine Tk 3 rfl rfl (pv_load rfl rfl rfl) rfl ?_
 refine Tk 4 rfl rfl (pv_loadK [_, _] rfl rfl rfl ⟨rfl, rfl, trivial⟩) rfl ?_
 refine AnyH.one 5 (by kernel_rfl) ?_
 refine Turn.ef rfl rfl (ef_deleten_s (T := 105) _ rfl rfl rfl) ?_ ?_
 ·
  rintro _ _ ⟨rfl, rfl⟩; infer_instance
 rintro _ _ ⟨rfl, rfl⟩
 refine AnyH.done (by kernel_rfl) ?_
 refine Ends.seq ?_
 refine Wp.seq ?_
 refine Wp.region ?_
 refine Ops.pv (pv_move rfl) rfl ?_
 refine Ops.pv (pv_loadK [_, _] rfl rfl rfl ⟨rfl, rfl, trivial⟩) rfl ?_
 refine Ops.pv (pv_nilCheck rfl) rfl ?_
 refine Ops.pv (pv_fieldAddr0 rfl rfl) rfl ?_
 refine Ops.ef rfl (ef_storeK rfl rfl rfl rfl) ?_
 rintro _ _ ⟨rfl, rfl⟩
 rw [moved_segs (f := o) (t := clk)]
 rw [tdel_kvT]
 refine Ops.nil ?_
 refine Ends.seq ?_
 refine Wp.seq ?_
 refine AnyH.start ((b2, .cells [.int .i64 s.1, .int .i64 s.2].toArray 38) :: trBlk tb mb :: []) 7 rfl ?_
 refine Tk 0 rfl rfl (pv_move rfl) rfl ?_
 refine Tk 1 rfl rfl (pv_nilCheck rfl) rfl ?_
 refine Tk 2 rfl rfl (pv_fieldAddr0 rfl rfl) rfl ?_
 refine Tk 3 rfl rfl (pv_load rfl rfl rfl) rfl ?_
 refine Tk 4 rfl rfl (pv_loadK [_, _] rfl rfl rfl ⟨rfl, rfl, trivial⟩) rfl ?_
 refine Tk 5 rfl rfl (pv_move rfl) rfl ?_
 refine AnyH.one 6 (by kernel_rfl) ?_
 refine Turn.ef rfl rfl (ef_mapUpdate_s _ rfl rfl rfl) ?_ ?_
 ·
  rintro _ _ ⟨rfl, rfl⟩; infer_instance
 rintro _ _ ⟨rfl, rfl⟩
 refine AnyH.done (by kernel_rfl) ?_
 refine Ends.seq ?_
 refine Wp.seq ?_
 refine Wp.region ?_
 refine Ops.pv (pv_assign rfl) rfl ?_
 refine Ops.nil ?_
 refine Ends.seq ?_
 refine Wp.ret ?_
 rw [tput_new (tdel_none h2), tclk_new (tdel_none h2)]
 have em : kvT blk (tdel o T.M) ++ [(s, .pointer (some ⟨blk i, 0, none⟩), clk)] = kvT blk (T.moved o s i clk).M := by simp [kvT, TreeM.moved]
 rw [em]
 exact Ends.ret (L' := trBlk tb mb :: mpBlk mb blk (T.moved o s i clk).M (clk + 1) :: segs (knS blk (T.moved o s i clk) kv kH) T.n) (res1 rfl rfl) ⟨rfl, clk, mb, clk + 1, blk, kv, kH, hk, rfl⟩
theorem tr_tMove (tb : Nat) (L : Hp) (T : TreeM) (hH : TrH T tb L) (hx : T.Ix) (o s : SlotM) : Tr Try.prog 54 [.pointer (some ⟨tb, 0, none⟩), slotV o, slotV s] L (fun u L' => ∃ e T', u = .int .i64 e ∧ TMove T o s e T' ∧ TrH T' tb L') := by
 cases h : tget o T.M with
 | none => exact (tr_tMove0 tb L T hH o s h).mono fun u L' ⟨hu, hl⟩ => ⟨3, T, hu, .inl ⟨h, rfl, rfl⟩, hl⟩
 | some i =>
  cases h2 : tget s T.M with
  | some j => exact (tr_tMove1 tb L T hH hx o s i j h h2).mono fun u L' ⟨hu, hl⟩ => ⟨4, T, hu, .inr ⟨i, h, .inl ⟨j, h2, rfl, rfl⟩⟩, hl⟩
  | none => exact (tr_tMove2 tb L T hH hx o s i h h2).mono fun u L' ⟨hu, t, hl⟩ => ⟨0, _, hu, .inr ⟨i, h, .inr ⟨h2, rfl, t, rfl⟩⟩, hl⟩
end Go.Proofs.Ytdodfnjmkpgdbaa
end
section
set_option linter.unusedVariables false
set_option linter.unusedSimpArgs false
namespace Go.Proofs.Ytdodfnjmkpgdbaa
open Go.SL
theorem tr_tDrop0 (tb : Nat) (L : Hp) (T : TreeM) (hH : TrH T tb L) (s : SlotM) (h : tget s T.M = none) : Tr Try.prog 57 [.pointer (some ⟨tb, 0, none⟩), slotV s] (L) (fun u L' => u = .int .i64 3 ∧ TrH T tb L') := by
 obtain ⟨mb, clk, blk, kv, kH, hk, rfl⟩ := hH
 have hm := tptr_hm blk T.M s
 rw [tptr_no h] at hm
 refine Tr.enter Try.func57 rfl Try.ntmps57 rfl (fun W F => ?_)
 refine Wp.app ?_
 refine Wp.seq ?_
 refine Wp.region ?_
 refine Ops.ef rfl (ef_boxK rfl rfl) ?_
 rintro _ _ ⟨b1, rfl, rfl⟩
 refine Ops.pv (pv_assign rfl) rfl ?_
 refine Ops.nil ?_
 refine Ends.seq ?_
 refine Wp.seq ?_
 refine AnyH.start ((b1, .cells [.int .i64 s.1, .int .i64 s.2].toArray 38) :: trBlk tb mb :: mpBlk mb blk T.M clk :: segs (knS blk T kv kH) T.n) 7 rfl ?_
 refine Tk 0 rfl rfl (pv_move rfl) rfl ?_
 refine Tk 1 rfl rfl (pv_nilCheck rfl) rfl ?_
 refine Tk 2 rfl rfl (pv_fieldAddr0 rfl rfl) rfl ?_
 refine Tk 3 rfl rfl (pv_load rfl rfl rfl) rfl ?_
 refine Tk 4 rfl rfl (pv_loadK [_, _] rfl rfl rfl ⟨rfl, rfl, trivial⟩) rfl ?_
 refine Tk 5 rfl rfl (pv_lookup_s s rfl rfl hm) rfl ?_
 refine Tk 6 rfl rfl (pv_assign rfl) rfl ?_
 refine AnyH.done (by kernel_rfl) ?_
 refine Ends.seq ?_
 refine Wp.seq ?_
 refine Wp.seq ?_
 refine Wp.region ?_
 refine Ops.pv (pv_move rfl) rfl ?_
 refine Ops.pv (pv_eql_nil rfl rfl) rfl ?_
 refine Ops.nil ?_
 refine Ends.seq ?_
 refine Wp.cond_true rfl ?_
 refine Wp.seq ?_
 refine Wp.region ?_
 refine Ops.pv (pv_assign rfl) rfl ?_
 refine Ops.nil ?_
 refine Ends.seq ?_
 refine Wp.ret ?_
 refine Ends.then_ret ?_
 exact Ends.ret (L' := trBlk tb mb :: mpBlk mb blk T.M clk :: segs (knS blk T kv kH) T.n) (res1 rfl rfl) ⟨rfl, mb, clk, blk, kv, kH, hk, rfl⟩
set_option maxHeartbeats 1000000 in
theorem tr_tDrop1 (tb : Nat) (L : Hp) (T : TreeM) (hH : TrH T tb L) (hx : T.Ix) (hn : T.n ≤ 2 ^ 20) (so : SlotM) (x : Nat) (h : tget so T.M = some x) (hxk : x ∉ T.kids x) (hp : T.par x = none) : Tr Try.prog 57 [.pointer (some ⟨tb, 0, none⟩), slotV so] (L) (fun u L' => u = .int .i64 0 ∧ TrH (T.gone so x) tb L') := by
 obtain ⟨mb, clk, blk, kv, kH, hk, rfl⟩ := hH
 have hm := tptr_hm blk T.M so
 rw [tptr_some h] at hm
 have hi := hx.get h
 obtain ⟨ka, kc, hkv⟩ := kn_form hk hi
 have hb_x := kn_blk (blk := blk) (T := T) (kv := kv) (kH := kH) (i := x) hi
 rw [hkv, hp] at hb_x
 have hlm : ((T.kids x).map blk).length = (T.kids x).length := List.length_map ..
 have hsx := hx.small x hi
 refine Tr.enter Try.func57 rfl Try.ntmps57 rfl (fun W F => ?_)
 refine Wp.app ?_
 refine Wp.seq ?_
 refine Wp.region ?_
 refine Ops.ef rfl (ef_boxK rfl rfl) ?_
 rintro _ _ ⟨b1, rfl, rfl⟩
 refine Ops.pv (pv_assign rfl) rfl ?_
 refine Ops.nil ?_
 refine Ends.seq ?_
 refine Wp.seq ?_
 refine AnyH.start ((b1, .cells [.int .i64 so.1, .int .i64 so.2].toArray 38) :: trBlk tb mb :: mpBlk mb blk T.M clk :: segs (knS blk T kv kH) T.n) 7 rfl ?_
 refine Tk 0 rfl rfl (pv_move rfl) rfl ?_
 refine Tk 1 rfl rfl (pv_nilCheck rfl) rfl ?_
 refine Tk 2 rfl rfl (pv_fieldAddr0 rfl rfl) rfl ?_
 refine Tk 3 rfl rfl (pv_load rfl rfl rfl) rfl ?_
 refine Tk 4 rfl rfl (pv_loadK [_, _] rfl rfl rfl ⟨rfl, rfl, trivial⟩) rfl ?_
 refine Tk 5 rfl rfl (pv_lookup_s so rfl rfl hm) rfl ?_
 refine Tk 6 rfl rfl (pv_assign rfl) rfl ?_
 refine AnyH.done (by kernel_rfl) ?_
 refine Ends.seq ?_
 refine Wp.seq ?_
 refine Wp.seq ?_
 refine Wp.region ?_
 refine Ops.pv (pv_move rfl) rfl ?_
 refine Ops.pv (pv_eql_nil rfl rfl) rfl ?_
 refine Ops.nil ?_
 refine Ends.seq ?_
 refine Wp.cond_false rfl ?_
 refine Wp.skip ?_
 refine Ends.seq ?_
 refine Wp.seq ?_
 refine Wp.seq ?_
 refine Wp.region ?_
 refine Ops.pv (pv_move rfl) rfl ?_
 refine Ops.pv (pv_nilCheck rfl) rfl ?_
 refine Ops.pv (pv_fieldAddr0 rfl rfl) rfl ?_
 refine Ops.pv (pv_load rfl rfl rfl) rfl ?_
 refine Ops.pv (pv_len_slice (T := 110) rfl rfl) rfl ?_
 refine Ops.pv (pv_move rfl) rfl ?_
 refine Ops.nil ?_
 refine Ends.seq ?_
 refine Wp.block ?_
 refine Wp.loopK (σ := Nat) [(0, _), (3, _), (5, _), (21, _), (22, _)] (fun s => [(23, .int .i64 s)]) (fun s => (b1, .cells [.int .i64 so.1, .int .i64 so.2].toArray 38) :: trBlk tb mb :: mpBlk mb blk T.M clk :: (segs (knS blk (T.dropK x s) kv kH) T.n ++ F)) (fun s => s ≤ (T.kids x).length) (fun s => (T.kids x).length - s) 0 (Nat.zero_le _) ⟨rfl, rfl, rfl, rfl, rfl, trivial⟩ ⟨rfl, trivial⟩ (by intro w ho; rw [dropK_zero]; exact Drop.own ho) ?_
 rintro k KK hkl hK
 dsimp only [List.cons_append, List.nil_append] at hK ⊢
 refine Wp.seq ?_
 refine Wp.region ?_
 refine Ops.pv (pv_lss rfl rfl) rfl ?_
 refine Ops.nil ?_
 refine Ends.seq ?_
 refine Wp.seq ?_
 refine Wp.cond_dect rfl (fun h1 => ?_) (fun h1 => ?_)
 ·
  clear hb_x
  have hv2 : View (segs (knS blk (T.dropK x k) kv kH) T.n) 1 (kv x) ((T.kids x).map blk).length (ptsC ((T.kids x).map blk)) := kn_view2 (T := T.dropK x k) (kv := kv) (kH := kH) (i := x) hk hi
  rw [hkv] at hv2
  obtain ⟨b, o, cap, cc, T0, f, hv1, hbv, hr⟩ := hv2.open (by show 0 < ((T.kids x).map blk).length; omega)
  cases hv1
  obtain ⟨q, hq⟩ : ∃ q, (T.kids x)[k]? = some q := ⟨_, List.getElem?_eq_getElem (by omega)⟩
  have hbq : ((T.kids x).map blk)[k]? = some (blk q) := by rw [List.getElem?_map, hq]; rfl
  have hqn := hx.kids x q hi (List.mem_of_getElem? hq)
  have hb_x : Blk (segs (knS blk (T.dropK x k) kv kH) T.n) (blk x) (.cells [.int .i64 (T.sl x).1, .int .i64 (T.sl x).2, ptrO blk ((T.dropK x k).par x), kv x].toArray 113 (0, 0)) := kn_blk (blk := blk) (T := T.dropK x k) (kv := kv) (kH := kH) (i := x) hi
  rw [dropK_par hxk, hp] at hb_x
  have hb_q : Blk (segs (knS blk (T.dropK x k) kv kH) T.n) (blk q) (.cells [.int .i64 (T.sl q).1, .int .i64 (T.sl q).2, ptrO blk ((T.dropK x k).par q), kv q].toArray 113 (0, 0)) := kn_blk (blk := blk) (T := T.dropK x k) (kv := kv) (kH := kH) (i := q) hqn
  have hupd := fun o1 => segs_upd (h := knS blk (T.dropK x k) kv kH) (o' := o1) hqn rfl
  have hds := dropK_succ (blk := blk) (kv := kv) (kH := kH) hq
  rw [hp] at hds
  refine Wp.skip ?_
  refine Ends.seq ?_
  refine Wp.seq ?_
  refine Wp.block ?_
  refine Wp.seq ?_
  refine Wp.region ?_
  refine Ops.pv (pv_indexAddr (i := k) rfl rfl rfl (by omega)) rfl ?_
  refine Ops.pv (pv_load rfl rfl (pts_nth hr hbq)) rfl ?_
  refine Ops.pv (pv_assign rfl) rfl ?_
  refine Ops.nil ?_
  refine Ends.seq ?_
  refine Wp.region ?_
  refine Ops.pv (pv_move rfl) rfl ?_
  refine Ops.pv (pv_move rfl) rfl ?_
  refine Ops.pv (pv_nilCheck rfl) rfl ?_
  refine Ops.pv (pv_fieldAddr0 rfl rfl) rfl ?_
  refine Ops.pv (pv_load rfl rfl rfl) rfl ?_
  refine Ops.pv (pv_nilCheck rfl) rfl ?_
  refine Ops.pv (pv_fieldAddr0 rfl rfl) rfl ?_
  refine Ops.ef rfl (ef_store1 rfl rfl (by first | rfl | assumption) (by first | rfl | assumption)) ?_
  rintro _ _ ⟨rfl, rfl⟩
  refine Ops.nil ?_
  refine Ends.block_normal ?_
  refine Ends.seq ?_
  refine Wp.region ?_
  refine Ops.pv (pv_add rfl rfl (w64 (by omega) (by omega))) rfl ?_
  refine Ops.pv (pv_move rfl) rfl ?_
  refine Ops.nil ?_
  refine Ends.goes ?_
  rw [hds]
  refine Goes.back (hK (k + 1) (by omega) (by omega)) ⟨rfl, rfl, rfl, rfl, rfl, rfl, trivial⟩
 clear hb_x
 obtain rfl : k = (T.kids x).length := by omega
 have hb_x : Blk (segs (knS blk (T.dropK x (T.kids x).length) kv kH) T.n) (blk x) (.cells [.int .i64 (T.sl x).1, .int .i64 (T.sl x).2, ptrO blk ((T.dropK x (T.kids x).length).par x), kv x].toArray 113 (0, 0)) := kn_blk (blk := blk) (T := T.dropK x (T.kids x).length) (kv := kv) (kH := kH) (i := x) hi
 rw [dropK_par hxk, hp, hkv] at hb_x
 refine Wp.exit ?_
 refine Ends.then_exit ?_
 refine Ends.then_exit ?_
 refine Ends.block_hit ?_
 refine Ends.seq ?_
 refine Wp.seq ?_
 refine Wp.seq ?_
 refine Wp.region ?_
 refine Ops.pv (pv_move rfl) rfl ?_
 refine Ops.pv (pv_nilCheck rfl) rfl ?_
 refine Ops.pv (pv_fieldAddr0 rfl rfl) rfl ?_
 refine Ops.pv (pv_load rfl rfl rfl) rfl ?_
 refine Ops.pv (pv_assign rfl) rfl ?_
 refine Ops.nil ?_
 refine Ends.seq ?_
 refine Wp.seq ?_
 refine Wp.region ?_
 refine Ops.pv (pv_move rfl) rfl ?_
 refine Ops.pv (pv_neq_nil rfl rfl) rfl ?_
 refine Ops.nil ?_
 refine Ends.seq ?_
 refine Wp.cond_false rfl ?_
 refine Wp.skip ?_
 refine Ends.seq ?_
 refine Wp.seq ?_
 refine AnyH.start ((b1, .cells [.int .i64 so.1, .int .i64 so.2].toArray 38) :: trBlk tb mb :: []) 6 rfl ?_
 refine Tk 0 rfl rfl (pv_move rfl) rfl ?_
 refine Tk 1 rfl rfl (pv_nilCheck rfl) rfl ?_
 refine Tk 2 rfl rfl (pv_fieldAddr0 rfl rfl) rfl ?_
 refine Tk 3 rfl rfl (pv_load rfl rfl rfl) rfl ?_
 refine Tk 4 rfl rfl (pv_loadK [_, _] rfl rfl rfl ⟨rfl, rfl, trivial⟩) rfl ?_
 refine AnyH.one 5 (by kernel_rfl) ?_
 refine Turn.ef rfl rfl (ef_deleten_s (T := 105) _ rfl rfl rfl) ?_ ?_
 ·
  rintro _ _ ⟨rfl, rfl⟩; infer_instance
 rintro _ _ ⟨rfl, rfl⟩
 refine AnyH.done (by kernel_rfl) ?_
 refine Ends.seq ?_
 refine Wp.seq ?_
 refine Wp.region ?_
 refine Ops.pv (pv_assign rfl) rfl ?_
 refine Ops.nil ?_
 refine Ends.seq ?_
 refine Wp.ret ?_
 rw [gone_none (s := so) hp, tdel_kvT]
 exact Ends.ret (L' := trBlk tb mb :: mpBlk mb blk (tdel so T.M) clk :: segs (knS blk (T.gone so x) kv kH) T.n) (res1 rfl rfl) ⟨rfl, mb, clk, blk, kv, kH, gone_none_ok hp hk, rfl⟩
set_option maxHeartbeats 1000000 in
theorem tr_tDrop2 (tb : Nat) (L : Hp) (T : TreeM) (hH : TrH T tb L) (hx : T.Ix) (hn : T.n ≤ 2 ^ 20) (so : SlotM) (x : Nat) (h : tget so T.M = some x) (hxk : x ∉ T.kids x) (j : Nat) (hp : T.par x = some j) (hxj : x ∈ T.kids j) : Tr Try.prog 57 [.pointer (some ⟨tb, 0, none⟩), slotV so] (L) (fun u L' => u = .int .i64 0 ∧ TrH (T.gone so x) tb L') := by
 obtain ⟨mb, clk, blk, kv, kH, hk, rfl⟩ := hH
 have hm := tptr_hm blk T.M so
 rw [tptr_some h] at hm
 have hi := hx.get h
 obtain ⟨ka, kc, hkv⟩ := kn_form hk hi
 have hb_x := kn_blk (blk := blk) (T := T) (kv := kv) (kH := kH) (i := x) hi
 rw [hkv, hp] at hb_x
 have hlm : ((T.kids x).map blk).length = (T.kids x).length := List.length_map ..
 have hsx := hx.small x hi
 have hj := hx.par x j hi hp
 obtain ⟨ja, jc, hjv⟩ := kn_form hk hj
 obtain ⟨p, hp1, hp2, hp3⟩ := repl_at (l := T.kids x) hxj
 have hpl := (List.getElem?_eq_some_iff.1 hp2).1
 have hsj := hx.small j hj
 have hlj : ((T.kids j).map blk).length = (T.kids j).length := List.length_map ..
 refine Tr.enter Try.func57 rfl Try.ntmps57 rfl (fun W F => ?_)
 refine Wp.app ?_
 refine Wp.seq ?_
 refine Wp.region ?_
 refine Ops.ef rfl (ef_boxK rfl rfl) ?_
 rintro _ _ ⟨b1, rfl, rfl⟩
 refine Ops.pv (pv_assign rfl) rfl ?_
 refine Ops.nil ?_
 refine Ends.seq ?_
 refine Wp.seq ?_
 refine AnyH.start ((b1, .cells [.int .i64 so.1, .int .i64 so.2].toArray 38) :: trBlk tb mb :: mpBlk mb blk T.M clk :: segs (knS blk T kv kH) T.n) 7 rfl ?_
 refine Tk 0 rfl rfl (pv_move rfl) rfl ?_
 refine Tk 1 rfl rfl (pv_nilCheck rfl) rfl ?_
 refine Tk 2 rfl rfl (pv_fieldAddr0 rfl rfl) rfl ?_
 refine Tk 3 rfl rfl (pv_load rfl rfl rfl) rfl ?_
 refine Tk 4 rfl rfl (pv_loadK [_, _] rfl rfl rfl ⟨rfl, rfl, trivial⟩) rfl ?_
 refine Tk 5 rfl rfl (pv_lookup_s so rfl rfl hm) rfl ?_
 refine Tk 6 rfl rfl (pv_assign rfl) rfl ?_
 refine AnyH.done (by kernel_rfl) ?_
 refine Ends.seq ?_
 refine Wp.seq ?_
 refine Wp.seq ?_
 refine Wp.region ?_
 refine Ops.pv (pv_move rfl) rfl ?_
 refine Ops.pv (pv_eql_nil rfl rfl) rfl ?_
 refine Ops.nil ?_
 refine Ends.seq ?_
 refine Wp.cond_false rfl ?_
 refine Wp.skip ?_
 refine Ends.seq ?_
 refine Wp.seq ?_
 refine Wp.seq ?_
 refine Wp.region ?_
 refine Ops.pv (pv_move rfl) rfl ?_
 refine Ops.pv (pv_nilCheck rfl) rfl ?_
 refine Ops.pv (pv_fieldAddr0 rfl rfl) rfl ?_
 refine Ops.pv (pv_load rfl rfl rfl) rfl ?_
 refine Ops.pv (pv_len_slice (T := 110) rfl rfl) rfl ?_
 refine Ops.pv (pv_move rfl) rfl ?_
 refine Ops.nil ?_
 refine Ends.seq ?_
 refine Wp.block ?_
 refine Wp.loopK (σ := Nat) [(0, _), (3, _), (5, _), (21, _), (22, _)] (fun s => [(23, .int .i64 s)]) (fun s => (b1, .cells [.int .i64 so.1, .int .i64 so.2].toArray 38) :: trBlk tb mb :: mpBlk mb blk T.M clk :: (segs (knS blk (T.dropK x s) kv kH) T.n ++ F)) (fun s => s ≤ (T.kids x).length) (fun s => (T.kids x).length - s) 0 (Nat.zero_le _) ⟨rfl, rfl, rfl, rfl, rfl, trivial⟩ ⟨rfl, trivial⟩ (by intro w ho; rw [dropK_zero]; exact Drop.own ho) ?_
 rintro k KK hkl hK
 dsimp only [List.cons_append, List.nil_append] at hK ⊢
 refine Wp.seq ?_
 refine Wp.region ?_
 refine Ops.pv (pv_lss rfl rfl) rfl ?_
 refine Ops.nil ?_
 refine Ends.seq ?_
 refine Wp.seq ?_
 refine Wp.cond_dect rfl (fun h1 => ?_) (fun h1 => ?_)
 ·
  clear hb_x
  have hv2 : View (segs (knS blk (T.dropK x k) kv kH) T.n) 1 (kv x) ((T.kids x).map blk).length (ptsC ((T.kids x).map blk)) := kn_view2 (T := T.dropK x k) (kv := kv) (kH := kH) (i := x) hk hi
  rw [hkv] at hv2
  obtain ⟨b, o, cap, cc, T0, f, hv1, hbv, hr⟩ := hv2.open (by show 0 < ((T.kids x).map blk).length; omega)
  cases hv1
  obtain ⟨q, hq⟩ : ∃ q, (T.kids x)[k]? = some q := ⟨_, List.getElem?_eq_getElem (by omega)⟩
  have hbq : ((T.kids x).map blk)[k]? = some (blk q) := by rw [List.getElem?_map, hq]; rfl
  have hqn := hx.kids x q hi (List.mem_of_getElem? hq)
  have hb_x : Blk (segs (knS blk (T.dropK x k) kv kH) T.n) (blk x) (.cells [.int .i64 (T.sl x).1, .int .i64 (T.sl x).2, ptrO blk ((T.dropK x k).par x), kv x].toArray 113 (0, 0)) := kn_blk (blk := blk) (T := T.dropK x k) (kv := kv) (kH := kH) (i := x) hi
  rw [dropK_par hxk, hp] at hb_x
  have hb_q : Blk (segs (knS blk (T.dropK x k) kv kH) T.n) (blk q) (.cells [.int .i64 (T.sl q).1, .int .i64 (T.sl q).2, ptrO blk ((T.dropK x k).par q), kv q].toArray 113 (0, 0)) := kn_blk (blk := blk) (T := T.dropK x k) (kv := kv) (kH := kH) (i := q) hqn
  have hupd := fun o1 => segs_upd (h := knS blk (T.dropK x k) kv kH) (o' := o1) hqn rfl
  have hds := dropK_succ (blk := blk) (kv := kv) (kH := kH) hq
  rw [hp] at hds
  refine Wp.skip ?_
  refine Ends.seq ?_
  refine Wp.seq ?_
  refine Wp.block ?_
  refine Wp.seq ?_
  refine Wp.region ?_
  refine Ops.pv (pv_indexAddr (i := k) rfl rfl rfl (by omega)) rfl ?_
  refine Ops.pv (pv_load rfl rfl (pts_nth hr hbq)) rfl ?_
  refine Ops.pv (pv_assign rfl) rfl ?_
  refine Ops.nil ?_
  refine Ends.seq ?_
  refine Wp.region ?_
  refine Ops.pv (pv_move rfl) rfl ?_
  refine Ops.pv (pv_move rfl) rfl ?_
  refine Ops.pv (pv_nilCheck rfl) rfl ?_
  refine Ops.pv (pv_fieldAddr0 rfl rfl) rfl ?_
  refine Ops.pv (pv_load rfl rfl rfl) rfl ?_
  refine Ops.pv (pv_nilCheck rfl) rfl ?_
  refine Ops.pv (pv_fieldAddr0 rfl rfl) rfl ?_
  refine Ops.ef rfl (ef_store1 rfl rfl (by first | rfl | assumption) (by first | rfl | assumption)) ?_
  rintro _ _ ⟨rfl, rfl⟩
  refine Ops.nil ?_
  refine Ends.block_normal ?_
  refine Ends.seq ?_
  refine Wp.region ?_
  refine Ops.pv (pv_add rfl rfl (w64 (by omega) (by omega))) rfl ?_
  refine Ops.pv (pv_move rfl) rfl ?_
  refine Ops.nil ?_
  refine Ends.goes ?_
  rw [hds]
  refine Goes.back (hK (k + 1) (by omega) (by omega)) ⟨rfl, rfl, rfl, rfl, rfl, rfl, trivial⟩
 clear hb_x
 obtain rfl : k = (T.kids x).length := by omega
 have hb_x : Blk (segs (knS blk (T.dropK x (T.kids x).length) kv kH) T.n) (blk x) (.cells [.int .i64 (T.sl x).1, .int .i64 (T.sl x).2, ptrO blk ((T.dropK x (T.kids x).length).par x), kv x].toArray 113 (0, 0)) := kn_blk (blk := blk) (T := T.dropK x (T.kids x).length) (kv := kv) (kH := kH) (i := x) hi
 rw [dropK_par hxk, hp, hkv] at hb_x
 have hb_j : Blk (segs (knS blk (T.dropK x (T.kids x).length) kv kH) T.n) (blk j) (.cells [.int .i64 (T.sl j).1, .int .i64 (T.sl j).2, ptrO blk ((T.dropK x (T.kids x).length).par j), kv j].toArray 113 (0, 0)) := kn_blk (blk := blk) (T := T.dropK x (T.kids x).length) (kv := kv) (kH := kH) (i := j) hj
 rw [hjv] at hb_j
 have hvj : View (segs (knS blk (T.dropK x (T.kids x).length) kv kH) T.n) 1 (kv j) ((T.kids j).map blk).length (ptsC ((T.kids j).map blk)) := kn_view2 (T := T.dropK x (T.kids x).length) (kv := kv) (kH := kH) (i := j) hk hj
 rw [hjv] at hvj
 have hvx : View (segs (knS blk (T.dropK x (T.kids x).length) kv kH) T.n) 1 (kv x) ((T.kids x).map blk).length (ptsC ((T.kids x).map blk)) := kn_view2 (T := T.dropK x (T.kids x).length) (kv := kv) (kH := kH) (i := x) hk hi
 rw [hkv] at hvx
 have hA := View.part (f := ptrE) (l := (T.kids j).map blk) hvj (i := 0) (j := p) (Nat.zero_le _) (by omega)
 have hB := View.part (f := ptrE) (l := (T.kids j).map blk) hvj (i := p + 1) (j := ((T.kids j).map blk).length) (by omega) (Nat.le_refl _)
 have eA : (((T.kids j).map blk).drop 0).take (p - 0) = ((T.kids j).map blk).take p := by simp
 have eB : (((T.kids j).map blk).drop (p + 1)).take (((T.kids j).map blk).length - (p + 1)) = ((T.kids j).map blk).drop (p + 1) := List.take_of_length_le (by simp)
 rw [eA] at hA
 rw [eB] at hB
 have lA : (((T.kids j).map blk).take p).length = p := by rw [List.length_take]; omega
 have lB : (((T.kids j).map blk).drop (p + 1)).length = ((T.kids j).map blk).length - (p + 1) := List.length_drop ..
 have hjc : ((T.kids j).map blk).length ≤ jc := by obtain ⟨_, _, _, e, h, _⟩ := hvj; cases e; exact h
 refine Wp.exit ?_
 refine Ends.then_exit ?_
 refine Ends.then_exit ?_
 refine Ends.block_hit ?_
 refine Ends.seq ?_
 refine Wp.seq ?_
 refine Wp.seq ?_
 refine Wp.region ?_
 refine Ops.pv (pv_move rfl) rfl ?_
 refine Ops.pv (pv_nilCheck rfl) rfl ?_
 refine Ops.pv (pv_fieldAddr0 rfl rfl) rfl ?_
 refine Ops.pv (pv_load rfl rfl rfl) rfl ?_
 refine Ops.pv (pv_assign rfl) rfl ?_
 refine Ops.nil ?_
 refine Ends.seq ?_
 refine Wp.seq ?_
 refine Wp.region ?_
 refine Ops.pv (pv_move rfl) rfl ?_
 refine Ops.pv (pv_neq_nil rfl rfl) rfl ?_
 refine Ops.nil ?_
 refine Ends.seq ?_
 refine Wp.cond_true rfl ?_
 refine Wp.seq ?_
 refine Wp.region ?_
 refine Ops.ndD (segs (knS blk (T.dropK x (T.kids x).length) kv kH) T.n) fun hnd => ?_
 have hinj := segs_inj (fun i => rfl) hnd
 clear hnd
 have hupd2 := fun o1 => segs_upd (h := knS blk (T.dropK x (T.kids x).length) kv kH) (o' := o1) hj rfl
 refine Ops.pv (pv_move rfl) rfl ?_
 refine Ops.pv (pv_nilCheck rfl) rfl ?_
 refine Ops.pv (pv_fieldAddr0 rfl rfl) rfl ?_
 refine Ops.pv (pv_load rfl rfl rfl) rfl ?_
 refine Ops.pv (pv_move rfl) rfl ?_
 refine Ops.ef rfl (ef_callr ((tr_index (segs (knS blk (T.dropK x (T.kids x).length) kv kH) T.n) ja jc ((T.kids j).map blk) (blk x) hvj (by omega) (fun b hb => by obtain ⟨a, ha, rfl⟩ := List.mem_map.1 hb; exact kn_isC (hx.kids j a hj ha)) (kn_isC hi)).eq (r' := .int .i64 p) (by rw [idxN_map blk (fun a ha e => hinj a x (hx.kids j a hj ha) hi e), hp1])) rfl rfl) ?_
 rintro _ _ ⟨rfl, rfl⟩
 refine Ops.pv (pv_assign rfl) rfl ?_
 refine Ops.nil ?_
 refine Ends.seq ?_
 refine AnyH.start ([] : Hp) 23 rfl ?_
 refine Tk 0 rfl rfl (pv_move rfl) rfl ?_
 refine Tk 1 rfl rfl (pv_move rfl) rfl ?_
 refine Tk 2 rfl rfl (pv_nilCheck rfl) rfl ?_
 refine Tk 3 rfl rfl (pv_fieldAddr0 rfl rfl) rfl ?_
 refine Tk 5 rfl rfl (pv_move rfl) rfl ?_
 refine Tk 7 rfl rfl (pv_move rfl) rfl ?_
 refine Tk 8 rfl rfl (pv_nilCheck rfl) rfl ?_
 refine Tk 9 rfl rfl (pv_fieldAddr0 rfl rfl) rfl ?_
 refine Tk 11 rfl rfl (pv_move rfl) rfl ?_
 refine Tk 12 rfl rfl (pv_nilCheck rfl) rfl ?_
 refine Tk 13 rfl rfl (pv_fieldAddr0 rfl rfl) rfl ?_
 refine Tk 15 rfl rfl (pv_move rfl) rfl ?_
 refine Tk 16 rfl rfl (pv_add rfl rfl (w64n (k := p + 1) (by omega) (by omega))) rfl ?_
 refine AnyH.three 4 10 14 (by kernel_rfl) ?_ ?_ ?_
 ·
  refine Turn.ef rfl rfl (ef_pv (pv_load rfl rfl rfl) rfl) ?_ ?_
  ·
   rintro _ _ ⟨rfl, rfl⟩; infer_instance
  rintro _ _ ⟨rfl, rfl⟩
  refine Tk 6 rfl rfl (pv_sliceL (i := 0) (j := p) (r := (((T.kids j).map blk).take p).length) rfl rfl ⟨_, rfl⟩ (Nat.zero_le _) (by omega) lA.symm) rfl ?_
  refine AnyH.two 10 14 (by kernel_rfl) ?_ ?_
  ·
   refine Turn.ef rfl rfl (ef_pv (pv_load rfl rfl rfl) rfl) ?_ ?_
   ·
    rintro _ _ ⟨rfl, rfl⟩; infer_instance
   rintro _ _ ⟨rfl, rfl⟩
   refine AnyH.one 14 (by kernel_rfl) ?_
   refine Turn.ef rfl rfl (ef_pv (pv_load rfl rfl rfl) rfl) ?_ ?_
   ·
    rintro _ _ ⟨rfl, rfl⟩; infer_instance
   rintro _ _ ⟨rfl, rfl⟩
   refine Tk 17 rfl rfl (pv_sliceL (i := p + 1) (j := ((T.kids j).map blk).length) (r := (((T.kids j).map blk).drop (p + 1)).length) rfl ⟨_, rfl⟩ rfl (by omega) hjc lB.symm) rfl ?_
   refine AnyH.one 18 (by kernel_rfl) ?_
   refine Turn.ef rfl rfl (ef_buildSliceN [.slice none 0 0, .slice none 0 0, .slice none 0 0] [(0, 1), (1, 1), (2, 1)] rfl (by kernel_rfl) (by first | decide | rfl) rfl rfl rfl) ?_ ?_
   ·
    rintro _ _ ⟨b2, rfl, rfl⟩; infer_instance
   rintro _ _ ⟨b2, rfl, rfl⟩
   refine AnyH.one 19 (by kernel_rfl) ?_
   refine Turn.ef rfl rfl (ef_call (tr_concat3 (segs (knS blk (T.dropK x (T.kids x).length) kv kH) T.n) b2 3 _ _ _ _ _ _ (((T.kids j).map blk).take p) ((T.kids x).map blk) (((T.kids j).map blk).drop (p + 1)) hA hvx hB (by simp only [List.length_append]; omega)) rfl rfl) ?_ ?_
   ·
    rintro _ _ ⟨_, _, ⟨K1, hu1, rfl⟩, rfl, rfl⟩; infer_instance
   rintro _ _ ⟨_, _, ⟨K1, hu1, rfl⟩, rfl, rfl⟩
   refine AnyH.app ?_
   rename_i u1
   have ho1 := hu1.one
   have ho2 := hu1.cells1
   refine Tk 20 rfl rfl (pv_nilCheck rfl) rfl ?_
   refine Tk 21 rfl rfl (pv_fieldAddr0 rfl rfl) rfl ?_
   refine AnyH.one 22 (by kernel_rfl) ?_
   refine Turn.ef rfl rfl (ef_store1 rfl rfl (by first | rfl | assumption) (by first | rfl | assumption)) ?_ ?_
   ·
    rintro _ _ ⟨rfl, rfl⟩; infer_instance
   rintro _ _ ⟨rfl, rfl⟩
   refine AnyH.done (by kernel_rfl) ?_
   refine Ends.seq ?_
   refine Wp.seq ?_
   refine AnyH.start ((b1, .cells [.int .i64 so.1, .int .i64 so.2].toArray 38) :: trBlk tb mb :: []) 6 rfl ?_
   refine Tk 0 rfl rfl (pv_move rfl) rfl ?_
   refine Tk 1 rfl rfl (pv_nilCheck rfl) rfl ?_
   refine Tk 2 rfl rfl (pv_fieldAddr0 rfl rfl) rfl ?_
   refine Tk 3 rfl rfl (pv_load rfl rfl rfl) rfl ?_
   refine Tk 4 rfl rfl (pv_loadK [_, _] rfl rfl rfl ⟨rfl, rfl, trivial⟩) rfl ?_
   refine AnyH.one 5 (by kernel_rfl) ?_
   refine Turn.ef rfl rfl (ef_deleten_s (T := 105) _ rfl rfl rfl) ?_ ?_
   ·
    rintro _ _ ⟨rfl, rfl⟩; infer_instance
   rintro _ _ ⟨rfl, rfl⟩
   refine AnyH.done (by kernel_rfl) ?_
   refine Ends.seq ?_
   refine Wp.seq ?_
   refine Wp.region ?_
   refine Ops.pv (pv_assign rfl) rfl ?_
   refine Ops.nil ?_
   refine Ends.seq ?_
   refine Wp.ret ?_
   rw [tdel_kvT]
   refine Ends.heap (L' := trBlk tb mb :: mpBlk mb blk (tdel so T.M) clk :: (segs (fset (knS blk (T.dropK x (T.kids x).length) kv kH) j ((blk j, .cells [.int .i64 (T.sl j).1, .int .i64 (T.sl j).2, ptrO blk ((T.dropK x (T.kids x).length).par j), u1].toArray 113) :: K1)) T.n ++ F)) (fun w ho => ?_) ?_
   ·
    have h2 : Own W w (K1 ++ (segs (fset (knS blk (T.dropK x (T.kids x).length) kv kH) j ((blk j, .cells [.int .i64 (T.sl j).1, .int .i64 (T.sl j).2, ptrO blk ((T.dropK x (T.kids x).length).par j), u1].toArray 113) :: kH j)) T.n ++ (trBlk tb mb :: mpBlk mb blk (tdel so T.M) clk :: F))) := Drop.own ho
    have h3 := Own.swapSeg hj h2
    exact (Drop.own h3 : Own W w (trBlk tb mb :: mpBlk mb blk (tdel so T.M) clk :: (segs (fset (knS blk (T.dropK x (T.kids x).length) kv kH) j ((blk j, .cells [.int .i64 (T.sl j).1, .int .i64 (T.sl j).2, ptrO blk ((T.dropK x (T.kids x).length).par j), u1].toArray 113) :: K1)) T.n ++ F)))
   rw [gone_some (s := so) hp]
   exact Ends.ret (L' := trBlk tb mb :: mpBlk mb blk (tdel so T.M) clk :: segs (knS blk (T.gone so x) (fset kv j u1) (fset kH j K1)) T.n) (res1 rfl rfl) ⟨rfl, mb, clk, blk, _, _, gone_some_ok hp hk (by rw [hp3, ← List.length_map (f := blk), List.map_append, List.map_append, List.map_take, List.map_drop]; exact hu1), rfl⟩
  refine Turn.ef rfl rfl (ef_pv (pv_load rfl rfl rfl) rfl) ?_ ?_
  ·
   rintro _ _ ⟨rfl, rfl⟩; infer_instance
  rintro _ _ ⟨rfl, rfl⟩
  refine Tk 17 rfl rfl (pv_sliceL (i := p + 1) (j := ((T.kids j).map blk).length) (r := (((T.kids j).map blk).drop (p + 1)).length) rfl ⟨_, rfl⟩ rfl (by omega) hjc lB.symm) rfl ?_
  refine AnyH.one 10 (by kernel_rfl) ?_
  refine Turn.ef rfl rfl (ef_pv (pv_load rfl rfl rfl) rfl) ?_ ?_
  ·
   rintro _ _ ⟨rfl, rfl⟩; infer_instance
  rintro _ _ ⟨rfl, rfl⟩
  refine AnyH.one 18 (by kernel_rfl) ?_
  refine Turn.ef rfl rfl (ef_buildSliceN [.slice none 0 0, .slice none 0 0, .slice none 0 0] [(0, 1), (1, 1), (2, 1)] rfl (by kernel_rfl) (by first | decide | rfl) rfl rfl rfl) ?_ ?_
  ·
   rintro _ _ ⟨b3, rfl, rfl⟩; infer_instance
  rintro _ _ ⟨b3, rfl, rfl⟩
  refine AnyH.one 19 (by kernel_rfl) ?_
  refine Turn.ef rfl rfl (ef_call (tr_concat3 (segs (knS blk (T.dropK x (T.kids x).length) kv kH) T.n) b3 3 _ _ _ _ _ _ (((T.kids j).map blk).take p) ((T.kids x).map blk) (((T.kids j).map blk).drop (p + 1)) hA hvx hB (by simp only [List.length_append]; omega)) rfl rfl) ?_ ?_
  ·
   rintro _ _ ⟨_, _, ⟨K2, hu2, rfl⟩, rfl, rfl⟩; infer_instance
  rintro _ _ ⟨_, _, ⟨K2, hu2, rfl⟩, rfl, rfl⟩
  refine AnyH.app ?_
  rename_i u2
  have ho1 := hu2.one
  have ho2 := hu2.cells1
  refine Tk 20 rfl rfl (pv_nilCheck rfl) rfl ?_
  refine Tk 21 rfl rfl (pv_fieldAddr0 rfl rfl) rfl ?_
  refine AnyH.one 22 (by kernel_rfl) ?_
  refine Turn.ef rfl rfl (ef_store1 rfl rfl (by first | rfl | assumption) (by first | rfl | assumption)) ?_ ?_
  ·
   rintro _ _ ⟨rfl, rfl⟩; infer_instance
  rintro _ _ ⟨rfl, rfl⟩
  refine AnyH.done (by kernel_rfl) ?_
  refine Ends.seq ?_
  refine Wp.seq ?_
  refine AnyH.start ((b1, .cells [.int .i64 so.1, .int .i64 so.2].toArray 38) :: trBlk tb mb :: []) 6 rfl ?_
  refine Tk 0 rfl rfl (pv_move rfl) rfl ?_
  refine Tk 1 rfl rfl (pv_nilCheck rfl) rfl ?_
  refine Tk 2 rfl rfl (pv_fieldAddr0 rfl rfl) rfl ?_
  refine Tk 3 rfl rfl (pv_load rfl rfl rfl) rfl ?_
  refine Tk 4 rfl rfl (pv_loadK [_, _] rfl rfl rfl ⟨rfl, rfl, trivial⟩) rfl ?_
  refine AnyH.one 5 (by kernel_rfl) ?_
  refine Turn.ef rfl rfl (ef_deleten_s (T := 105) _ rfl rfl rfl) ?_ ?_
  ·
   rintro _ _ ⟨rfl, rfl⟩; infer_instance
  rintro _ _ ⟨rfl, rfl⟩
  refine AnyH.done (by kernel_rfl) ?_
  refine Ends.seq ?_
  refine Wp.seq ?_
  refine Wp.region ?_
  refine Ops.pv (pv_assign rfl) rfl ?_
  refine Ops.nil ?_
  refine Ends.seq ?_
  refine Wp.ret ?_
  rw [tdel_kvT]
  refine Ends.heap (L' := trBlk tb mb :: mpBlk mb blk (tdel so T.M) clk :: (segs (fset (knS blk (T.dropK x (T.kids x).length) kv kH) j ((blk j, .cells [.int .i64 (T.sl j).1, .int .i64 (T.sl j).2, ptrO blk ((T.dropK x (T.kids x).length).par j), u2].toArray 113) :: K2)) T.n ++ F)) (fun w ho => ?_) ?_
  ·
   have h2 : Own W w (K2 ++ (segs (fset (knS blk (T.dropK x (T.kids x).length) kv kH) j ((blk j, .cells [.int .i64 (T.sl j).1, .int .i64 (T.sl j).2, ptrO blk ((T.dropK x (T.kids x).length).par j), u2].toArray 113) :: kH j)) T.n ++ (trBlk tb mb :: mpBlk mb blk (tdel so T.M) clk :: F))) := Drop.own ho
   have h3 := Own.swapSeg hj h2
   exact (Drop.own h3 : Own W w (trBlk tb mb :: mpBlk mb blk (tdel so T.M) clk :: (segs (fset (knS blk (T.dropK x (T.kids x).length) kv kH) j ((blk j, .cells [.int .i64 (T.sl j).1, .int .i64 (T.sl j).2, ptrO blk ((T.dropK x (T.kids x).length).par j), u2].toArray 113) :: K2)) T.n ++ F)))
  rw [gone_some (s := so) hp]
  exact Ends.ret (L' := trBlk tb mb :: mpBlk mb blk (tdel so T.M) clk :: segs (knS blk (T.gone so x) (fset kv j u2) (fset kH j K2)) T.n) (res1 rfl rfl) ⟨rfl, mb, clk, blk, _, _, gone_some_ok hp hk (by rw [hp3, ← List.length_map (f := blk), List.map_append, List.map_append, List.map_take, List.map_drop]; exact hu2), rfl⟩
 ·
  refine Turn.ef rfl rfl (ef_pv (pv_load rfl rfl rfl) rfl) ?_ ?_
  ·
   rintro _ _ ⟨rfl, rfl⟩; infer_instance
  rintro _ _ ⟨rfl, rfl⟩
  refine AnyH.two 4 14 (by kernel_rfl) ?_ ?_
  ·
   refine Turn.ef rfl rfl (ef_pv (pv_load rfl rfl rfl) rfl) ?_ ?_
   ·
    rintro _ _ ⟨rfl, rfl⟩; infer_instance
   rintro _ _ ⟨rfl, rfl⟩
   refine Tk 6 rfl rfl (pv_sliceL (i := 0) (j := p) (r := (((T.kids j).map blk).take p).length) rfl rfl ⟨_, rfl⟩ (Nat.zero_le _) (by omega) lA.symm) rfl ?_
   refine AnyH.one 14 (by kernel_rfl) ?_
   refine Turn.ef rfl rfl (ef_pv (pv_load rfl rfl rfl) rfl) ?_ ?_
   ·
    rintro _ _ ⟨rfl, rfl⟩; infer_instance
   rintro _ _ ⟨rfl, rfl⟩
   refine Tk 17 rfl rfl (pv_sliceL (i := p + 1) (j := ((T.kids j).map blk).length) (r := (((T.kids j).map blk).drop (p + 1)).length) rfl ⟨_, rfl⟩ rfl (by omega) hjc lB.symm) rfl ?_
   refine AnyH.one 18 (by kernel_rfl) ?_
   refine Turn.ef rfl rfl (ef_buildSliceN [.slice none 0 0, .slice none 0 0, .slice none 0 0] [(0, 1), (1, 1), (2, 1)] rfl (by kernel_rfl) (by first | decide | rfl) rfl rfl rfl) ?_ ?_
   ·
    rintro _ _ ⟨b4, rfl, rfl⟩; infer_instance
   rintro _ _ ⟨b4, rfl, rfl⟩
   refine AnyH.one 19 (by kernel_rfl) ?_
   refine Turn.ef rfl rfl (ef_call (tr_concat3 (segs (knS blk (T.dropK x (T.kids x).length) kv kH) T.n) b4 3 _ _ _ _ _ _ (((T.kids j).map blk).take p) ((T.kids x).map blk) (((T.kids j).map blk).drop (p + 1)) hA hvx hB (by simp only [List.length_append]; omega)) rfl rfl) ?_ ?_
   ·
    rintro _ _ ⟨_, _, ⟨K3, hu3, rfl⟩, rfl, rfl⟩; infer_instance
   rintro _ _ ⟨_, _, ⟨K3, hu3, rfl⟩, rfl, rfl⟩
   refine AnyH.app ?_
   rename_i u3
   have ho1 := hu3.one
   have ho2 := hu3.cells1
   refine Tk 20 rfl rfl (pv_nilCheck rfl) rfl ?_
   refine Tk 21 rfl rfl (pv_fieldAddr0 rfl rfl) rfl ?_
   refine AnyH.one 22 (by kernel_rfl) ?_
   refine Turn.ef rfl rfl (ef_store1 rfl rfl (by first | rfl | assumption) (by first | rfl | assumption)) ?_ ?_
   ·
    rintro _ _ ⟨rfl, rfl⟩; infer_instance
   rintro _ _ ⟨rfl, rfl⟩
   refine AnyH.done (by kernel_rfl) ?_
   refine Ends.seq ?_
   refine Wp.seq ?_
   refine AnyH.start ((b1, .cells [.int .i64 so.1, .int .i64 so.2].toArray 38) :: trBlk tb mb :: []) 6 rfl ?_
   refine Tk 0 rfl rfl (pv_move rfl) rfl ?_
   refine Tk 1 rfl rfl (pv_nilCheck rfl) rfl ?_
   refine Tk 2 rfl rfl (pv_fieldAddr0 rfl rfl) rfl ?_
   refine Tk 3 rfl rfl (pv_load rfl rfl rfl) rfl ?_
   refine Tk 4 rfl rfl (pv_loadK [_, _] rfl rfl rfl ⟨rfl, rfl, trivial⟩) rfl ?_
   refine AnyH.one 5 (by kernel_rfl) ?_
   refine Turn.ef rfl rfl (ef_deleten_s (T := 105) _ rfl rfl rfl) ?_ ?_
   ·
    rintro _ _ ⟨rfl, rfl⟩; infer_instance
   rintro _ _ ⟨rfl, rfl⟩
   refine AnyH.done (by kernel_rfl) ?_
   refine Ends.seq ?_
   refine Wp.seq ?_
   refine Wp.region ?_
   refine Ops.pv (pv_assign rfl) rfl ?_
   refine Ops.nil ?_
   refine Ends.seq ?_
   refine Wp.ret ?_
   rw [tdel_kvT]
   refine Ends.heap (L' := trBlk tb mb :: mpBlk mb blk (tdel so T.M) clk :: (segs (fset (knS blk (T.dropK x (T.kids x).length) kv kH) j ((blk j, .cells [.int .i64 (T.sl j).1, .int .i64 (T.sl j).2, ptrO blk ((T.dropK x (T.kids x).length).par j), u3].toArray 113) :: K3)) T.n ++ F)) (fun w ho => ?_) ?_
   ·
    have h2 : Own W w (K3 ++ (segs (fset (knS blk (T.dropK x (T.kids x).length) kv kH) j ((blk j, .cells [.int .i64 (T.sl j).1, .int .i64 (T.sl j).2, ptrO blk ((T.dropK x (T.kids x).length).par j), u3].toArray 113) :: kH j)) T.n ++ (trBlk tb mb :: mpBlk mb blk (tdel so T.M) clk :: F))) := Drop.own ho
    have h3 := Own.swapSeg hj h2
    exact (Drop.own h3 : Own W w (trBlk tb mb :: mpBlk mb blk (tdel so T.M) clk :: (segs (fset (knS blk (T.dropK x (T.kids x).length) kv kH) j ((blk j, .cells [.int .i64 (T.sl j).1, .int .i64 (T.sl j).2, ptrO blk ((T.dropK x (T.kids x).length).par j), u3].toArray 113) :: K3)) T.n ++ F)))
   rw [gone_some (s := so) hp]
   exact Ends.ret (L' := trBlk tb mb :: mpBlk mb blk (tdel so T.M) clk :: segs (knS blk (T.gone so x) (fset kv j u3) (fset kH j K3)) T.n) (res1 rfl rfl) ⟨rfl, mb, clk, blk, _, _, gone_some_ok hp hk (by rw [hp3, ← List.length_map (f := blk), List.map_append, List.map_append, List.map_take, List.map_drop]; exact hu3), rfl⟩
  refine Turn.ef rfl rfl (ef_pv (pv_load rfl rfl rfl) rfl) ?_ ?_
  ·
   rintro _ _ ⟨rfl, rfl⟩; infer_instance
  rintro _ _ ⟨rfl, rfl⟩
  refine Tk 17 rfl rfl (pv_sliceL (i := p + 1) (j := ((T.kids j).map blk).length) (r := (((T.kids j).map blk).drop (p + 1)).length) rfl ⟨_, rfl⟩ rfl (by omega) hjc lB.symm) rfl ?_
  refine AnyH.one 4 (by kernel_rfl) ?_
  refine Turn.ef rfl rfl (ef_pv (pv_load rfl rfl rfl) rfl) ?_ ?_
  ·
   rintro _ _ ⟨rfl, rfl⟩; infer_instance
  rintro _ _ ⟨rfl, rfl⟩
  refine Tk 6 rfl rfl (pv_sliceL (i := 0) (j := p) (r := (((T.kids j).map blk).take p).length) rfl rfl ⟨_, rfl⟩ (Nat.zero_le _) (by omega) lA.symm) rfl ?_
  refine AnyH.one 18 (by kernel_rfl) ?_
  refine Turn.ef rfl rfl (ef_buildSliceN [.slice none 0 0, .slice none 0 0, .slice none 0 0] [(0, 1), (1, 1), (2, 1)] rfl (by kernel_rfl) (by first | decide | rfl) rfl rfl rfl) ?_ ?_
  ·
   rintro _ _ ⟨b5, rfl, rfl⟩; infer_instance
  rintro _ _ ⟨b5, rfl, rfl⟩
  refine AnyH.one 19 (by kernel_rfl) ?_
  refine Turn.ef rfl rfl (ef_call (tr_concat3 (segs (knS blk (T.dropK x (T.kids x).length) kv kH) T.n) b5 3 _ _ _ _ _ _ (((T.kids j).map blk).take p) ((T.kids x).map blk) (((T.kids j).map blk).drop (p + 1)) hA hvx hB (by simp only [List.length_append]; omega)) rfl rfl) ?_ ?_
  ·
   rintro _ _ ⟨_, _, ⟨K4, hu4, rfl⟩, rfl, rfl⟩; infer_instance
  rintro _ _ ⟨_, _, ⟨K4, hu4, rfl⟩, rfl, rfl⟩
  refine AnyH.app ?_
  rename_i u4
  have ho1 := hu4.one
  have ho2 := hu4.cells1
  refine Tk 20 rfl rfl (pv_nilCheck rfl) rfl ?_
  refine Tk 21 rfl rfl (pv_fieldAddr0 rfl rfl) rfl ?_
  refine AnyH.one 22 (by kernel_rfl) ?_
  refine Turn.ef rfl rfl (ef_store1 rfl rfl (by first | rfl | assumption) (by first | rfl | assumption)) ?_ ?_
  ·
   rintro _ _ ⟨rfl, rfl⟩; infer_instance
  rintro _ _ ⟨rfl, rfl⟩
  refine AnyH.done (by kernel_rfl) ?_
  refine Ends.seq ?_
  refine Wp.seq ?_
  refine AnyH.start ((b1, .cells [.int .i64 so.1, .int .i64 so.2].toArray 38) :: trBlk tb mb :: []) 6 rfl ?_
  refine Tk 0 rfl rfl (pv_move rfl) rfl ?_
  refine Tk 1 rfl rfl (pv_nilCheck rfl) rfl ?_
  refine Tk 2 rfl rfl (pv_fieldAddr0 rfl rfl) rfl ?_
  refine Tk 3 rfl rfl (pv_load rfl rfl rfl) rfl ?_
  refine Tk 4 rfl rfl (pv_loadK [_, _] rfl rfl rfl ⟨rfl, rfl, trivial⟩) rfl ?_
  refine AnyH.one 5 (by kernel_rfl) ?_
  refine Turn.ef rfl rfl (ef_deleten_s (T := 105) _ rfl rfl rfl) ?_ ?_
  ·
   rintro _ _ ⟨rfl, rfl⟩; infer_instance
  rintro _ _ ⟨rfl, rfl⟩
  refine AnyH.done (by kernel_rfl) ?_
  refine Ends.seq ?_
  refine Wp.seq ?_
  refine Wp.region ?_
  refine Ops.pv (pv_assign rfl) rfl ?_
  refine Ops.nil ?_
  refine Ends.seq ?_
  refine Wp.ret ?_
  rw [tdel_kvT]
  refine Ends.heap (L' := trBlk tb mb :: mpBlk mb blk (tdel so T.M) clk :: (segs (fset (knS blk (T.dropK x (T.kids x).length) kv kH) j ((blk j, .cells [.int .i64 (T.sl j).1, .int .i64 (T.sl j).2, ptrO blk ((T.dropK x (T.kids x).length).par j), u4].toArray 113) :: K4)) T.n ++ F)) (fun w ho => ?_) ?_
  ·
   have h2 : Own W w (K4 ++ (segs (fset (knS blk (T.dropK x (T.kids x).length) kv kH) j ((blk j, .cells [.int .i64 (T.sl j).1, .int .i64 (T.sl j).2, ptrO blk ((T.dropK x (T.kids x).length).par j), u4].toArray 113) :: kH j)) T.n ++ (trBlk tb mb :: mpBlk mb blk (tdel so T.M) clk :: F))) := Drop.own ho
   have h3 := Own.swapSeg hj h2
   exact (Drop.own h3 : Own W w (trBlk tb mb :: mpBlk mb blk (tdel so T.M) clk :: (segs (fset (knS blk (T.dropK x (T.kids x).length) kv kH) j ((blk j, .cells [.int .i64 (T.sl j).1, .int .i64 (T.sl j).2, ptrO blk ((T.dropK x (T.kids x).length).par j), u4].toArray 113) :: K4)) T.n ++ F)))
  rw [gone_some (s := so) hp]
  exact Ends.ret (L' := trBlk tb mb :: mpBlk mb blk (tdel so T.M) clk :: segs (knS blk (T.gone so x) (fset kv j u4) (fset kH j K4)) T.n) (res1 rfl rfl) ⟨rfl, mb, clk, blk, _, _, gone_some_ok hp hk (by rw [hp3, ← List.length_map (f := blk), List.map_append, List.map_append, List.map_take, List.map_drop]; exact hu4), rfl⟩
 refine Turn.ef rfl rfl (ef_pv (pv_load rfl rfl rfl) rfl) ?_ ?_
 ·
  rintro _ _ ⟨rfl, rfl⟩; infer_instance
 rintro _ _ ⟨rfl, rfl⟩
 refine Tk 17 rfl rfl (pv_sliceL (i := p + 1) (j := ((T.kids j).map blk).length) (r := (((T.kids j).map blk).drop (p + 1)).length) rfl ⟨_, rfl⟩ rfl (by omega) hjc lB.symm) rfl ?_
 refine AnyH.two 4 10 (by kernel_rfl) ?_ ?_
 ·
  refine Turn.ef rfl rfl (ef_pv (pv_load rfl rfl rfl) rfl) ?_ ?_
  ·
   rintro _ _ ⟨rfl, rfl⟩; infer_instance
  rintro _ _ ⟨rfl, rfl⟩
  refine Tk 6 rfl rfl (pv_sliceL (i := 0) (j := p) (r := (((T.kids j).map blk).take p).length) rfl rfl ⟨_, rfl⟩ (Nat.zero_le _) (by omega) lA.symm) rfl ?_
  refine AnyH.one 10 (by kernel_rfl) ?_
  refine Turn.ef rfl rfl (ef_pv (pv_load rfl rfl rfl) rfl) ?_ ?_
  ·
   rintro _ _ ⟨rfl, rfl⟩; infer_instance
  rintro _ _ ⟨rfl, rfl⟩
  refine AnyH.one 18 (by kernel_rfl) ?_
  refine Turn.ef rfl rfl (ef_buildSliceN [.slice none 0 0, .slice none 0 0, .slice none 0 0] [(0, 1), (1, 1), (2, 1)] rfl (by kernel_rfl) (by first | decide | rfl) rfl rfl rfl) ?_ ?_
  ·
   rintro _ _ ⟨b6, rfl, rfl⟩; infer_instance
  rintro _ _ ⟨b6, rfl, rfl⟩
  refine AnyH.one 19 (by kernel_rfl) ?_
  refine Turn.ef rfl rfl (ef_call (tr_concat3 (segs (knS blk (T.dropK x (T.kids x).length) kv kH) T.n) b6 3 _ _ _ _ _ _ (((T.kids j).map blk).take p) ((T.kids x).map blk) (((T.kids j).map blk).drop (p + 1)) hA hvx hB (by simp only [List.length_append]; omega)) rfl rfl) ?_ ?_
  ·
   rintro _ _ ⟨_, _, ⟨K5, hu5, rfl⟩, rfl, rfl⟩; infer_instance
  rintro _ _ ⟨_, _, ⟨K5, hu5, rfl⟩, rfl, rfl⟩
  refine AnyH.app ?_
  rename_i u5
  have ho1 := hu5.one
  have ho2 := hu5.cells1
  refine Tk 20 rfl rfl (pv_nilCheck rfl) rfl ?_
  refine Tk 21 rfl rfl (pv_fieldAddr0 rfl rfl) rfl ?_
  refine AnyH.one 22 (by kernel_rfl) ?_
  refine Turn.ef rfl rfl (ef_store1 rfl rfl (by first | rfl | assumption) (by first | rfl | assumption)) ?_ ?_
  ·
   rintro _ _ ⟨rfl, rfl⟩; infer_instance
  rintro _ _ ⟨rfl, rfl⟩
  refine AnyH.done (by kernel_rfl) ?_
  refine Ends.seq ?_
  refine Wp.seq ?_
  refine AnyH.start ((b1, .cells [.int .i64 so.1, .int .i64 so.2].toArray 38) :: trBlk tb mb :: []) 6 rfl ?_
  refine Tk 0 rfl rfl (pv_move rfl) rfl ?_
  refine Tk 1 rfl rfl (pv_nilCheck rfl) rfl ?_
  refine Tk 2 rfl rfl (pv_fieldAddr0 rfl rfl) rfl ?_
  refine Tk 3 rfl rfl (pv_load rfl rfl rfl) rfl ?_
  refine Tk 4 rfl rfl (pv_loadK [_, _] rfl rfl rfl ⟨rfl, rfl, trivial⟩) rfl ?_
  refine AnyH.one 5 (by kernel_rfl) ?_
  refine Turn.ef rfl rfl (ef_deleten_s (T := 105) _ rfl rfl rfl) ?_ ?_
  ·
   rintro _ _ ⟨rfl, rfl⟩; infer_instance
  rintro _ _ ⟨rfl, rfl⟩
  refine AnyH.done (by kernel_rfl) ?_
  refine Ends.seq ?_
  refine Wp.seq ?_
  refine Wp.region ?_
  refine Ops.pv (pv_assign rfl) rfl ?_
  refine Ops.nil ?_
  refine Ends.seq ?_
  refine Wp.ret ?_
  rw [tdel_kvT]
  refine Ends.heap (L' := trBlk tb mb :: mpBlk mb blk (tdel so T.M) clk :: (segs (fset (knS blk (T.dropK x (T.kids x).length) kv kH) j ((blk j, .cells [.int .i64 (T.sl j).1, .int .i64 (T.sl j).2, ptrO blk ((T.dropK x (T.kids x).length).par j), u5].toArray 113) :: K5)) T.n ++ F)) (fun w ho => ?_) ?_
  ·
   have h2 : Own W w (K5 ++ (segs (fset (knS blk (T.dropK x (T.kids x).length) kv kH) j ((blk j, .cells [.int .i64 (T.sl j).1, .int .i64 (T.sl j).2, ptrO blk ((T.dropK x (T.kids x).length).par j), u5].toArray 113) :: kH j)) T.n ++ (trBlk tb mb :: mpBlk mb blk (tdel so T.M) clk :: F))) := Drop.own ho
   have h3 := Own.swapSeg hj h2
   exact (Drop.own h3 : Own W w (trBlk tb mb :: mpBlk mb blk (tdel so T.M) clk :: (segs (fset (knS blk (T.dropK x (T.kids x).length) kv kH) j ((blk j, .cells [.int .i64 (T.sl j).1, .int .i64 (T.sl j).2, ptrO blk ((T.dropK x (T.kids x).length).par j), u5].toArray 113) :: K5)) T.n ++ F)))
  rw [gone_some (s := so) hp]
  exact Ends.ret (L' := trBlk tb mb :: mpBlk mb blk (tdel so T.M) clk :: segs (knS blk (T.gone so x) (fset kv j u5) (fset kH j K5)) T.n) (res1 rfl rfl) ⟨rfl, mb, clk, blk, _, _, gone_some_ok hp hk (by rw [hp3, ← List.length_map (f := blk), List.map_append, List.map_append, List.map_take, List.map_drop]; exact hu5), rfl⟩
 refine Turn.ef rfl rfl (ef_pv (pv_load rfl rfl rfl) rfl) ?_ ?_
 ·
  rintro _ _ ⟨rfl, rfl⟩; infer_instance
 rintro _ _ ⟨rfl, rfl⟩
 refine AnyH.one 4 (by kernel_rfl) ?_
 refine Turn.ef rfl rfl (ef_pv (pv_load rfl rfl rfl) rfl) ?_ ?_
 ·
  rintro _ _ ⟨rfl, rfl⟩; infer_instance
 rintro _ _ ⟨rfl, rfl⟩
 refine Tk 6 rfl rfl (pv_sliceL (i := 0) (j := p) (r := (((T.kids j).map blk).take p).length) rfl rfl ⟨_, rfl⟩ (Nat.zero_le _) (by omega) lA.symm) rfl ?_
 refine AnyH.one 18 (by kernel_rfl) ?_
 refine Turn.ef rfl rfl (ef_buildSliceN [.slice none 0 0, .slice none 0 0, .slice none 0 0] [(0, 1), (1, 1), (2, 1)] rfl (by kernel_rfl) (by first | decide | rfl) rfl rfl rfl) ?_ ?_
 ·
  rintro _ _ ⟨b7, rfl, rfl⟩; infer_instance
 rintro _ _ ⟨b7, rfl, rfl⟩
 refine AnyH.one 19 (by kernel_rfl) ?_
 refine Turn.ef rfl rfl (ef_call (tr_concat3 (segs (knS blk (T.dropK x (T.kids x).length) kv kH) T.n) b7 3 _ _ _ _ _ _ (((T.kids j).map blk).take p) ((T.kids x).map blk) (((T.kids j).map blk).drop (p + 1)) hA hvx hB (by simp only [List.length_append]; omega)) rfl rfl) ?_ ?_
 ·
  rintro _ _ ⟨_, _, ⟨K6, hu6, rfl⟩, rfl, rfl⟩; infer_instance
 rintro _ _ ⟨_, _, ⟨K6, hu6, rfl⟩, rfl, rfl⟩
 refine AnyH.app ?_
 rename_i u6
 have ho1 := hu6.one
 have ho2 := hu6.cells1
 refine Tk 20 rfl rfl (pv_nilCheck rfl) rfl ?_
 refine Tk 21 rfl rfl (pv_fieldAddr0 rfl rfl) rfl ?_
 refine AnyH.one 22 (by kernel_rfl) ?_
 refine Turn.ef rfl rfl (ef_store1 rfl rfl (by first | rfl | assumption) (by first | rfl | assumption)) ?_ ?_
 ·
  rintro _ _ ⟨rfl, rfl⟩; infer_instance
 rintro _ _ ⟨rfl, rfl⟩
 refine AnyH.done (by kernel_rfl) ?_
 refine Ends.seq ?_
 refine Wp.seq ?_
 refine AnyH.start ((b1, .cells [.int .i64 so.1, .int .i64 so.2].toArray 38) :: trBlk tb mb :: []) 6 rfl ?_
 refine Tk 0 rfl rfl (pv_move rfl) rfl ?_
 refine Tk 1 rfl rfl (pv_nilCheck rfl) rfl ?_
 refine Tk 2 rfl rfl (pv_fieldAddr0 rfl rfl) rfl ?_
 refine Tk 3 rfl rfl (pv_load rfl rfl rfl) rfl ?_
 refine Tk 4 rfl rfl (pv_loadK [_, _] rfl rfl rfl ⟨rfl, rfl, trivial⟩) rfl ?_
 refine AnyH.one 5 (by kernel_rfl) ?_
 refine Turn.ef rfl rfl (ef_deleten_s (T := 105) _ rfl rfl rfl) ?_ ?_
 ·
  rintro _ _ ⟨rfl, rfl⟩; infer_instance
 rintro _ _ ⟨rfl, rfl⟩
 refine AnyH.done (by kernel_rfl) ?_
 refine Ends.seq ?_
 refine Wp.seq ?_
 refine Wp.region ?_
 refine Ops.pv (pv_assign rfl) rfl ?_
 refine Ops.nil ?_
 refine Ends.seq ?_
 refine Wp.ret ?_
 rw [tdel_kvT]
 refine Ends.heap (L' := trBlk tb mb :: mpBlk mb blk (tdel so T.M) clk :: (segs (fset (knS blk (T.dropK x (T.kids x).length) kv kH) j ((blk j, .cells [.int .i64 (T.sl j).1, .int .i64 (T.sl j).2, ptrO blk ((T.dropK x (T.kids x).length).par j), u6].toArray 113) :: K6)) T.n ++ F)) (fun w ho => ?_) ?_
 ·
  have h2 : Own W w (K6 ++ (segs (fset (knS blk (T.dropK x (T.kids x).length) kv kH) j ((blk j, .cells [.int .i64 (T.sl j).1, .int .i64 (T.sl j).2, ptrO blk ((T.dropK x (T.kids x).length).par j), u6].toArray 113) :: kH j)) T.n ++ (trBlk tb mb :: mpBlk mb blk (tdel so T.M) clk :: F))) := Drop.own ho
  have h3 := Own.swapSeg hj h2
  exact (Drop.own h3 : Own W w (trBlk tb mb :: mpBlk mb blk (tdel so T.M) clk :: (segs (fset (knS blk (T.dropK x (T.kids x).length) kv kH) j ((blk j, .cells [.int .i64 (T.sl j).1, .int .i64 (T.sl j).2, ptrO blk ((T.dropK x (T.kids x).length).par j), u6].toArray 113) :: K6)) T.n ++ F)))
 rw [gone_some (s := so) hp]
 exact Ends.ret (L' := trBlk tb mb :: mpBlk mb blk (tdel so T.M) clk :: segs (knS blk (T.gone so x) (fset kv j u6) (fset kH j K6)) T.n) (res1 rfl rfl) ⟨rfl, mb, clk, blk, _, _, gone_some_ok hp hk (by rw [hp3, ← List.length_map (f := blk), List.map_append, List.map_append, List.map_take, List.map_drop]; exact hu6), rfl⟩
theorem tr_tDrop (tb : Nat) (L : Hp) (T : TreeM) (hH : TrH T tb L) (hx : T.Ix) (hn : T.n ≤ 2 ^ 20) (s : SlotM) (hxk : ∀ x, tget s T.M = some x → x ∉ T.kids x) (hxj : ∀ x j, tget s T.M = some x → T.par x = some j → x ∈ T.kids j) : Tr Try.prog 57 [.pointer (some ⟨tb, 0, none⟩), slotV s] L (fun u L' => ∃ e T', u = .int .i64 e ∧ TDrop T s e T' ∧ TrH T' tb L') := by
 cases h : tget s T.M with
 | none => exact (tr_tDrop0 tb L T hH s h).mono fun u L' ⟨hu, hl⟩ => ⟨3, T, hu, .inl ⟨h, rfl, rfl⟩, hl⟩
 | some x =>
  cases hp : T.par x with
  | none => exact (tr_tDrop1 tb L T hH hx hn s x h (hxk x h) hp).mono fun u L' ⟨hu, hl⟩ => ⟨0, _, hu, .inr ⟨x, h, rfl, rfl⟩, hl⟩
  | some j => exact (tr_tDrop2 tb L T hH hx hn s x h (hxk x h) j hp (hxj x j h hp)).mono fun u L' ⟨hu, hl⟩ => ⟨0, _, hu, .inr ⟨x, h, rfl, rfl⟩, hl⟩
end Go.Proofs.Ytdodfnjmkpgdbaa
end
section
set_option linter.unusedVariables false
set_option linter.unusedSimpArgs false
set_option linter.unusedSectionVars false
namespace Go.Proofs.Ytdodfnjmkpgdbaa
open Go.SL
abbrev trP (tb : Nat) : Value := .pointer (some ⟨tb, 0, none⟩)
theorem tr_fNew : Tr Try.prog 43 [] [] (fun v L' => ∃ tb, v = trP tb ∧ TrF 0 .nil tb L') :=
  tr_treeNew.mono fun v L' ⟨tb, hv, h⟩ => ⟨tb, hv, _, .nil, tok_new, h, Nat.le_refl _, rfl⟩
theorem TAdd.root {n tb : Nat} {L : Hp} {T T' : TreeM} {G : Fo Nat} (hT : TOk T G) {s : SlotM} {e : Int} (h : TAdd T s none e T') (hL : TrH T' tb L) (hn : T.n ≤ n) : e = (ftRoot (G.map T.sl) s).1 ∧ TrF (n + 1) (ftRoot (G.map T.sl) s).2 tb L := by
 rcases h with ⟨i, h1, rfl, rfl⟩ | ⟨h1, rfl, t, rfl⟩
 ·
  have := hT.in_all.2 ⟨i, h1⟩
  unfold ftRoot; rw [if_pos this]
  exact ⟨rfl, T', G, hT, hL, by omega, rfl⟩
 have := hT.out_all.1 h1
 unfold ftRoot; rw [if_neg this]
 exact ⟨rfl, _, _, tok_root hT h1, hL, by show T.n + 1 ≤ _; omega, (more_rootS hT).symm⟩
section
variable {n : Nat} {F : FoS} {tb : Nat} {L : Hp} (hH : TrF n F tb L)
include hH
theorem TrF.nd : Fo.Nd F := by obtain ⟨T, G, hT, _, _, rfl⟩ := hH; exact hT.ndS
theorem TrF.len : F.all.length ≤ n := by
 obtain ⟨T, G, hT, _, hn, rfl⟩ := hH
 have := hT.all_len
 rw [Fo.all_map, List.length_map]; omega
theorem TrF.more {m : Nat} (h : n ≤ m) : TrF m F tb L := by
 obtain ⟨T, G, hT, hL, hn, e⟩ := hH
 exact ⟨T, G, hT, hL, Nat.le_trans hn h, e⟩
theorem tr_fKin (h : n ≤ 2 ^ 20) (s : SlotM) : Tr Try.prog 47 [trP tb, slotV s] L (fun u L' => ∃ K, Slc 38 2 u (ftKin F s).length (slotsCells (ftKin F s)) K ∧ L' = K ++ L) := by
 obtain ⟨T, G, hT, hL, hn, rfl⟩ := hH
 rw [← hT.kinS]
 unfold tkin
 cases e : tget s T.M with
 | none => exact (tr_tKin0 tb L T hL s e).mono fun u L' ⟨hu, hl⟩ => ⟨[], by rw [hu]; exact Slc.nil _ _, hl⟩
 | some i => exact tr_tKin1 tb L T hL G hT (by omega) s i e
theorem tr_fRoot (s : SlotM) : Tr Try.prog 46 [trP tb, slotV s] L (fun u L' => u = .int .i64 (ftRoot F s).1 ∧ TrF (n + 1) (ftRoot F s).2 tb L') := by
 obtain ⟨T, G, hT, hL, hn, rfl⟩ := hH
 refine (tr_tRoot tb L T hL hT.ix s).mono ?_
 rintro u L' ⟨e, T', rfl, ha, hl⟩
 obtain ⟨h1, h2⟩ := TAdd.root hT ha hl hn
 exact ⟨by rw [h1], h2⟩
theorem tr_fChild (h : n ≤ 2 ^ 20) (o s : SlotM) : Tr Try.prog 55 [trP tb, slotV o, slotV s] L (fun u L' => u = .int .i64 (ftChild F o s).1 ∧ TrF (n + 1) (ftChild F o s).2 tb L') := by
 obtain ⟨T, G, hT, hL, hn, rfl⟩ := hH
 refine (tr_tChild tb L T hL hT.ix (by omega) o s).mono ?_
 rintro u L' ⟨e, T', rfl, ha, hl⟩
 rcases ha with ⟨h1, rfl, rfl⟩ | ⟨j, h1, ⟨i, h2, rfl, rfl⟩ | ⟨h2, rfl, t, rfl⟩⟩
 ·
  unfold ftChild; rw [if_neg (hT.out_all.1 h1)]
  exact ⟨rfl, _, G, hT, hl, by omega, rfl⟩
 ·
  unfold ftChild; rw [if_pos (hT.in_all.2 ⟨j, h1⟩), if_pos (hT.in_all.2 ⟨i, h2⟩)]
  exact ⟨rfl, _, G, hT, hl, by omega, rfl⟩
 unfold ftChild; rw [if_pos (hT.in_all.2 ⟨j, h1⟩), if_neg (hT.out_all.1 h2)]
 exact ⟨rfl, _, _, tok_child hT h2 (hT.mem h1), hl, by show T.n + 1 ≤ _; omega, (more_childS hT h1).symm⟩
theorem tr_fDrop (h : n ≤ 2 ^ 20) (s : SlotM) : Tr Try.prog 57 [trP tb, slotV s] L (fun u L' => u = .int .i64 (ftDrop F s).1 ∧ TrF n (ftDrop F s).2 tb L') := by
 obtain ⟨T, G, hT, hL, hn, rfl⟩ := hH
 refine (tr_tDrop tb L T hL hT.ix (by omega) s (fun x hx => hT.xk hx) (fun x j hx hp => (hT.xj hx hp).1)).mono ?_
 rintro u L' ⟨e, T', rfl, ha, hl⟩
 rcases ha with ⟨h1, rfl, rfl⟩ | ⟨i, h1, rfl, rfl⟩
 ·
  unfold ftDrop; rw [if_neg (hT.out_all.1 h1)]
  exact ⟨rfl, _, G, hT, hl, by omega, rfl⟩
 unfold ftDrop; rw [if_pos (hT.in_all.2 ⟨i, h1⟩)]
 exact ⟨rfl, _, _, tok_drop hT h1, hl, by show T.n ≤ _; omega, (gone_S hT h1).symm⟩
theorem tr_fMove (o s : SlotM) : Tr Try.prog 54 [trP tb, slotV o, slotV s] L (fun u L' => u = .int .i64 (ftMove F o s).1 ∧ TrF n (ftMove F o s).2 tb L') := by
 obtain ⟨T, G, hT, hL, hn, rfl⟩ := hH
 refine (tr_tMove tb L T hL hT.ix o s).mono ?_
 rintro u L' ⟨e, T', rfl, ha, hl⟩
 rcases ha with ⟨h1, rfl, rfl⟩ | ⟨i, h1, ⟨j, h2, rfl, rfl⟩ | ⟨h2, rfl, t, rfl⟩⟩
 ·
  unfold ftMove; rw [if_neg (hT.out_all.1 h1)]
  exact ⟨rfl, _, G, hT, hl, by omega, rfl⟩
 ·
  unfold ftMove; rw [if_pos (hT.in_all.2 ⟨i, h1⟩), if_pos (hT.in_all.2 ⟨j, h2⟩)]
  exact ⟨rfl, _, G, hT, hl, by omega, rfl⟩
 unfold ftMove; rw [if_pos (hT.in_all.2 ⟨i, h1⟩), if_neg (hT.out_all.1 h2)]
 exact ⟨rfl, _, _, tok_move hT h1 h2, hl, by show T.n ≤ _; omega, (moved_S hT h1).symm⟩
end
end Go.Proofs.Ytdodfnjmkpgdbaa
end
section
set_option linter.unusedVariables false
set_option linter.unusedSimpArgs false
namespace Go.Proofs.Ytdodfnjmkpgdbaa
open Go.SL
abbrev cpP (cb : Nat) : Value := .pointer (some ⟨cb, 0, none⟩)
theorem tr_mask (a b : Int) : TrR Try.prog 76 [.int .i64 a, .int .i64 b] ([]) (.int .i64 (maskM a b)) := by
 refine Tr.enter Try.func76 rfl Try.ntmps76 rfl (fun W F => ?_)
 refine Wp.app ?_
 refine Wp.seq ?_
 refine Wp.region ?_
 refine Ops.pv (pv_assign rfl) rfl ?_
 refine Ops.nil ?_
 refine Ends.seq ?_
 refine Wp.seq ?_
 refine Wp.seq ?_
 refine Wp.region ?_
 refine Ops.pv (pv_move rfl) rfl ?_
 refine Ops.ef rfl (ef_callr (tr_rightsOk a) rfl rfl) ?_
 rintro _ _ ⟨rfl, rfl⟩
 refine Ops.pv (pv_not_dec rfl) rfl ?_
 refine Ops.pv (pv_move rfl) rfl ?_
 refine Ops.split (t := 8) rfl (fun h1 => ?_) (fun h1 => ?_)
 ·
  refine Ops.skipg ⟨_, _, rfl, rfl, rfl⟩ rfl ?_
  refine Ops.skipg ⟨_, _, rfl, rfl, rfl⟩ rfl ?_
  refine Ops.skipg ⟨_, _, rfl, rfl, rfl⟩ rfl ?_
  refine Ops.pv (pv_pick_true rfl rfl) rfl ?_
  refine Ops.nil ?_
  refine Ends.seq ?_
  refine Wp.cond_true rfl ?_
  refine Wp.seq ?_
  refine Wp.region ?_
  refine Ops.pv (pv_assign rfl) rfl ?_
  refine Ops.nil ?_
  refine Ends.seq ?_
  refine Wp.ret ?_
  refine Ends.then_ret ?_
  exact Ends.ret (res1 rfl rfl) ⟨by simp_all [maskM, rightsOk], rfl⟩
 refine Ops.pvg ⟨_, _, rfl, rfl, rfl⟩ (pv_move rfl) rfl ?_
 refine Ops.efg ⟨_, _, rfl, rfl, rfl⟩ (ef_callr (tr_rightsOk b) rfl rfl) ?_
 rintro _ _ ⟨rfl, rfl⟩
 refine Ops.pvg ⟨_, _, rfl, rfl, rfl⟩ (pv_not_dec rfl) rfl ?_
 refine Ops.pv (pv_pick_false rfl rfl) rfl ?_
 refine Ops.nil ?_
 refine Ends.seq ?_
 refine Wp.cond_dect rfl (fun h2 => ?_) (fun h2 => ?_)
 ·
  refine Wp.seq ?_
  refine Wp.region ?_
  refine Ops.pv (pv_assign rfl) rfl ?_
  refine Ops.nil ?_
  refine Ends.seq ?_
  refine Wp.ret ?_
  refine Ends.then_ret ?_
  exact Ends.ret (res1 rfl rfl) ⟨by simp_all [maskM, rightsOk], rfl⟩
 refine Wp.skip ?_
 refine Ends.seq ?_
 refine Wp.seq ?_
 refine Wp.region ?_
 refine Ops.pv (pv_move rfl) rfl ?_
 refine Ops.pv (pv_move rfl) rfl ?_
 refine Ops.pv (pv_and rfl rfl rfl) rfl ?_
 refine Ops.pv (pv_assign rfl) rfl ?_
 refine Ops.nil ?_
 refine Ends.seq ?_
 refine Wp.ret ?_
 exact Ends.ret (res1 rfl rfl) ⟨by simp_all [maskM, rightsOk], rfl⟩
set_option maxHeartbeats 4000000 in
theorem tr_derive (c : CapM) (r bd g n : Int) : TrR Try.prog 56 [c.v, .int .i64 r, .int .u64 bd, .int .u64 g, .int .i64 n] ([]) (.tuple #[(derive c r bd g n).1.v, .int .i64 (derive c r bd g n).2]) := by
 refine Tr.enter Try.func56 rfl Try.ntmps56 rfl (fun W F => ?_)
 refine Wp.app ?_
 refine Wp.seq ?_
 refine Wp.region ?_
 refine Ops.ef rfl (ef_boxK rfl rfl) ?_
 rintro _ _ ⟨b1, rfl, rfl⟩
 refine Ops.ef rfl (ef_allocK tyZ24 rfl) ?_
 rintro _ _ ⟨b2, rfl, rfl⟩
 refine Ops.pv (pv_assign rfl) rfl ?_
 refine Ops.nil ?_
 refine Ends.seq ?_
 refine Wp.seq ?_
 refine Wp.seq ?_
 refine Wp.region ?_
 refine Ops.pv (pv_loadK [_, _, _, _, _, _] rfl rfl rfl ⟨rfl, rfl, rfl, rfl, rfl, rfl, trivial⟩) rfl ?_
 refine Ops.ef rfl (ef_callr (tr_check c) rfl rfl) ?_
 rintro _ _ ⟨rfl, rfl⟩
 refine Ops.pv (pv_assign rfl) rfl ?_
 refine Ops.nil ?_
 refine Ends.seq ?_
 refine Wp.seq ?_
 refine Wp.region ?_
 refine Ops.pv (pv_move rfl) rfl ?_
 refine Ops.pv (pv_neq rfl rfl) rfl ?_
 refine Ops.nil ?_
 refine Ends.seq ?_
 refine Wp.cond_dect rfl (fun h1 => ?_) (fun h1 => ?_)
 ·
  refine Wp.seq ?_
  refine Wp.region ?_
  refine Ops.pv (pv_build rfl) rfl ?_
  refine Ops.pv (pv_move rfl) rfl ?_
  refine Ops.ef rfl (ef_storeK rfl rfl rfl rfl) ?_
  rintro _ _ ⟨rfl, rfl⟩
  refine Ops.pv (pv_assign rfl) rfl ?_
  refine Ops.nil ?_
  refine Ends.seq ?_
  refine Wp.ret ?_
  refine Ends.then_ret ?_
  exact Ends.ret (res_list (rs := [.cell 10 24, .tmp 11]) rfl ⟨_, _, rfl, rv_cellK [_, _, _, _, _, _] rfl rfl rfl ⟨rfl, rfl, rfl, rfl, rfl, rfl, trivial⟩, ⟨_, _, rfl, rv_tmp rfl, rfl⟩⟩ rfl) ⟨by simp_all [derive, rightsOk, IntKind.bits], rfl⟩
 refine Wp.skip ?_
 refine Ends.seq ?_
 refine Wp.seq ?_
 refine Wp.seq ?_
 refine Wp.region ?_
 refine Ops.pv (pv_fieldAddr0 rfl rfl) rfl ?_
 refine Ops.pv (pv_load rfl rfl rfl) rfl ?_
 refine Ops.nil ?_
 refine Ends.seq ?_
 refine Wp.block ?_
 refine Wp.seq ?_
 refine Wp.region ?_
 refine Ops.pv (pv_eql rfl rfl) rfl ?_
 refine Ops.pv (pv_assign rfl) rfl ?_
 refine Ops.nil ?_
 refine Ends.seq ?_
 refine Wp.cond_dect rfl (fun h2 => ?_) (fun h2 => ?_)
 ·
  refine Wp.seq ?_
  refine Wp.region ?_
  refine Ops.pv (pv_build rfl) rfl ?_
  refine Ops.ef rfl (ef_storeK rfl rfl rfl rfl) ?_
  rintro _ _ ⟨rfl, rfl⟩
  refine Ops.pv (pv_assign rfl) rfl ?_
  refine Ops.nil ?_
  refine Ends.seq ?_
  refine Wp.ret ?_
  refine Ends.block_ret ?_
  refine Ends.then_ret ?_
  exact Ends.ret (res_list (rs := [.cell 10 24, .tmp 11]) rfl ⟨_, _, rfl, rv_cellK [_, _, _, _, _, _] rfl rfl rfl ⟨rfl, rfl, rfl, rfl, rfl, rfl, trivial⟩, ⟨_, _, rfl, rv_tmp rfl, rfl⟩⟩ rfl) ⟨by simp_all [derive, rightsOk, IntKind.bits], rfl⟩
 refine Wp.seq ?_
 refine Wp.seq ?_
 refine Wp.region ?_
 refine Ops.pv (pv_eql rfl rfl) rfl ?_
 refine Ops.pv (pv_assign rfl) rfl ?_
 refine Ops.nil ?_
 refine Ends.seq ?_
 refine Wp.cond_dect rfl (fun h3 => ?_) (fun h3 => ?_)
 ·
  refine Wp.skip ?_
  refine Ends.seq ?_
  refine Wp.cond_true rfl ?_
  refine Wp.seq ?_
  refine Wp.region ?_
  refine Ops.pv (pv_build rfl) rfl ?_
  refine Ops.ef rfl (ef_storeK rfl rfl rfl rfl) ?_
  rintro _ _ ⟨rfl, rfl⟩
  refine Ops.pv (pv_assign rfl) rfl ?_
  refine Ops.nil ?_
  refine Ends.seq ?_
  refine Wp.ret ?_
  refine Ends.block_ret ?_
  refine Ends.then_ret ?_
  exact Ends.ret (res_list (rs := [.cell 10 24, .tmp 11]) rfl ⟨_, _, rfl, rv_cellK [_, _, _, _, _, _] rfl rfl rfl ⟨rfl, rfl, rfl, rfl, rfl, rfl, trivial⟩, ⟨_, _, rfl, rv_tmp rfl, rfl⟩⟩ rfl) ⟨by simp_all [derive, rightsOk, IntKind.bits], rfl⟩
 refine Wp.seq ?_
 refine Wp.region ?_
 refine Ops.pv (pv_eql rfl rfl) rfl ?_
 refine Ops.pv (pv_assign rfl) rfl ?_
 refine Ops.nil ?_
 refine Ends.seq ?_
 refine Wp.cond_dect rfl (fun h4 => ?_) (fun h4 => ?_)
 ·
  refine Wp.skip ?_
  refine Ends.seq ?_
  refine Wp.cond_true rfl ?_
  refine Wp.seq ?_
  refine Wp.region ?_
  refine Ops.pv (pv_build rfl) rfl ?_
  refine Ops.ef rfl (ef_storeK rfl rfl rfl rfl) ?_
  rintro _ _ ⟨rfl, rfl⟩
  refine Ops.pv (pv_assign rfl) rfl ?_
  refine Ops.nil ?_
  refine Ends.seq ?_
  refine Wp.ret ?_
  refine Ends.block_ret ?_
  refine Ends.then_ret ?_
  exact Ends.ret (res_list (rs := [.cell 10 24, .tmp 11]) rfl ⟨_, _, rfl, rv_cellK [_, _, _, _, _, _] rfl rfl rfl ⟨rfl, rfl, rfl, rfl, rfl, rfl, trivial⟩, ⟨_, _, rfl, rv_tmp rfl, rfl⟩⟩ rfl) ⟨by simp_all [derive, rightsOk, IntKind.bits], rfl⟩
 refine Wp.region ?_
 refine Ops.pv (pv_eql rfl rfl) rfl ?_
 refine Ops.pv (pv_assign rfl) rfl ?_
 refine Ops.nil ?_
 refine Ends.seq ?_
 refine Wp.cond_dect rfl (fun h5 => ?_) (fun h5 => ?_)
 ·
  refine Wp.seq ?_
  refine Wp.region ?_
  refine Ops.pv (pv_build rfl) rfl ?_
  refine Ops.ef rfl (ef_storeK rfl rfl rfl rfl) ?_
  rintro _ _ ⟨rfl, rfl⟩
  refine Ops.pv (pv_assign rfl) rfl ?_
  refine Ops.nil ?_
  refine Ends.seq ?_
  refine Wp.ret ?_
  refine Ends.block_ret ?_
  refine Ends.then_ret ?_
  exact Ends.ret (res_list (rs := [.cell 10 24, .tmp 11]) rfl ⟨_, _, rfl, rv_cellK [_, _, _, _, _, _] rfl rfl rfl ⟨rfl, rfl, rfl, rfl, rfl, rfl, trivial⟩, ⟨_, _, rfl, rv_tmp rfl, rfl⟩⟩ rfl) ⟨by simp_all [derive, rightsOk, IntKind.bits], rfl⟩
 refine Wp.skip ?_
 refine Ends.block_normal ?_
 refine Ends.seq ?_
 refine Wp.seq ?_
 refine Wp.seq ?_
 refine Wp.region ?_
 refine Ops.pv (pv_move rfl) rfl ?_
 refine Ops.ef rfl (ef_callr (tr_rightsOk r) rfl rfl) ?_
 rintro _ _ ⟨rfl, rfl⟩
 refine Ops.pv (pv_not_dec rfl) rfl ?_
 refine Ops.nil ?_
 refine Ends.seq ?_
 refine Wp.cond_dect rfl (fun h6 => ?_) (fun h6 => ?_)
 ·
  refine Wp.seq ?_
  refine Wp.region ?_
  refine Ops.pv (pv_build rfl) rfl ?_
  refine Ops.ef rfl (ef_storeK rfl rfl rfl rfl) ?_
  rintro _ _ ⟨rfl, rfl⟩
  refine Ops.pv (pv_assign rfl) rfl ?_
  refine Ops.nil ?_
  refine Ends.seq ?_
  refine Wp.ret ?_
  refine Ends.then_ret ?_
  exact Ends.ret (res_list (rs := [.cell 10 24, .tmp 11]) rfl ⟨_, _, rfl, rv_cellK [_, _, _, _, _, _] rfl rfl rfl ⟨rfl, rfl, rfl, rfl, rfl, rfl, trivial⟩, ⟨_, _, rfl, rv_tmp rfl, rfl⟩⟩ rfl) ⟨by simp_all [derive, rightsOk, IntKind.bits], rfl⟩
 refine Wp.skip ?_
 refine Ends.seq ?_
 refine Wp.seq ?_
 refine Wp.seq ?_
 refine Wp.region ?_
 refine Ops.pv (pv_fieldAddr0 rfl rfl) rfl ?_
 refine Ops.pv (pv_load rfl rfl rfl) rfl ?_
 refine Ops.nil ?_
 refine Ends.seq ?_
 refine Wp.block ?_
 refine Wp.seq ?_
 refine Wp.region ?_
 refine Ops.pv (pv_eql rfl rfl) rfl ?_
 refine Ops.pv (pv_assign rfl) rfl ?_
 refine Ops.nil ?_
 refine Ends.seq ?_
 refine Wp.cond_dect rfl (fun h7 => ?_) (fun h7 => ?_)
 ·
  refine Wp.region ?_
  refine Ops.pv (pv_fieldAddr0 rfl rfl) rfl ?_
  refine Ops.pv (pv_load rfl rfl rfl) rfl ?_
  refine Ops.pv (pv_move rfl) rfl ?_
  refine Ops.ef rfl (ef_callr (tr_mask c.rights r) rfl rfl) ?_
  rintro _ _ ⟨rfl, rfl⟩
  refine Ops.pv (pv_fieldAddr0 rfl rfl) rfl ?_
  refine Ops.ef rfl (ef_store1 rfl rfl (by first | rfl | assumption) (by first | rfl | assumption)) ?_
  rintro _ _ ⟨rfl, rfl⟩
  refine Ops.nil ?_
  refine Ends.block_normal ?_
  refine Ends.seq ?_
  refine Wp.seq ?_
  refine Wp.region ?_
  refine Ops.pv (pv_loadK [_, _, _, _, _, _] rfl rfl rfl ⟨rfl, rfl, rfl, rfl, rfl, rfl, trivial⟩) rfl ?_
  refine Ops.ef rfl (ef_storeK rfl rfl rfl rfl) ?_
  rintro _ _ ⟨rfl, rfl⟩
  refine Ops.pv (pv_assign rfl) rfl ?_
  refine Ops.nil ?_
  refine Ends.seq ?_
  refine Wp.ret ?_
  exact Ends.ret (res_list (rs := [.cell 10 24, .tmp 11]) rfl ⟨_, _, rfl, rv_cellK [_, _, _, _, _, _] rfl rfl rfl ⟨rfl, rfl, rfl, rfl, rfl, rfl, trivial⟩, ⟨_, _, rfl, rv_tmp rfl, rfl⟩⟩ rfl) ⟨by simp_all [derive, rightsOk, IntKind.bits], rfl⟩
 refine Wp.seq ?_
 refine Wp.region ?_
 refine Ops.pv (pv_eql rfl rfl) rfl ?_
 refine Ops.pv (pv_assign rfl) rfl ?_
 refine Ops.nil ?_
 refine Ends.seq ?_
 refine Wp.cond_dect rfl (fun h8 => ?_) (fun h8 => ?_)
 ·
  refine Wp.seq ?_
  refine Wp.seq ?_
  refine Wp.region ?_
  refine Ops.pv (pv_move rfl) rfl ?_
  refine Ops.pv (pv_move rfl) rfl ?_
  refine Ops.ef rfl (ef_callr (tr_fits g n) rfl rfl) ?_
  rintro _ _ ⟨rfl, rfl⟩
  refine Ops.pv (pv_not rfl) rfl ?_
  refine Ops.nil ?_
  refine Ends.seq ?_
  refine Wp.cond_t rfl (fun h9 => ?_) (fun h9 => ?_)
  ·
   refine Wp.seq ?_
   refine Wp.region ?_
   refine Ops.pv (pv_build rfl) rfl ?_
   refine Ops.ef rfl (ef_storeK rfl rfl rfl rfl) ?_
   rintro _ _ ⟨rfl, rfl⟩
   refine Ops.pv (pv_assign rfl) rfl ?_
   refine Ops.nil ?_
   refine Ends.seq ?_
   refine Wp.ret ?_
   refine Ends.then_ret ?_
   refine Ends.block_ret ?_
   refine Ends.then_ret ?_
   exact Ends.ret (res_list (rs := [.cell 10 24, .tmp 11]) rfl ⟨_, _, rfl, rv_cellK [_, _, _, _, _, _] rfl rfl rfl ⟨rfl, rfl, rfl, rfl, rfl, rfl, trivial⟩, ⟨_, _, rfl, rv_tmp rfl, rfl⟩⟩ rfl) ⟨by simp_all [derive, rightsOk, IntKind.bits], rfl⟩
  refine Wp.skip ?_
  refine Ends.seq ?_
  refine Wp.region ?_
  refine Ops.pv (pv_move rfl) rfl ?_
  refine Ops.pv (pv_move rfl) rfl ?_
  refine Ops.pv (pv_fieldAddr0 rfl rfl) rfl ?_
  refine Ops.ef rfl (ef_store1 rfl rfl (by first | rfl | assumption) (by first | rfl | assumption)) ?_
  rintro _ _ ⟨rfl, rfl⟩
  refine Ops.pv (pv_fieldAddr0 rfl rfl) rfl ?_
  refine Ops.ef rfl (ef_store1 rfl rfl (by first | rfl | assumption) (by first | rfl | assumption)) ?_
  rintro _ _ ⟨rfl, rfl⟩
  refine Ops.nil ?_
  refine Ends.block_normal ?_
  refine Ends.seq ?_
  refine Wp.seq ?_
  refine Wp.region ?_
  refine Ops.pv (pv_loadK [_, _, _, _, _, _] rfl rfl rfl ⟨rfl, rfl, rfl, rfl, rfl, rfl, trivial⟩) rfl ?_
  refine Ops.ef rfl (ef_storeK rfl rfl rfl rfl) ?_
  rintro _ _ ⟨rfl, rfl⟩
  refine Ops.pv (pv_assign rfl) rfl ?_
  refine Ops.nil ?_
  refine Ends.seq ?_
  refine Wp.ret ?_
  exact Ends.ret (res_list (rs := [.cell 10 24, .tmp 11]) rfl ⟨_, _, rfl, rv_cellK [_, _, _, _, _, _] rfl rfl rfl ⟨rfl, rfl, rfl, rfl, rfl, rfl, trivial⟩, ⟨_, _, rfl, rv_tmp rfl, rfl⟩⟩ rfl) ⟨by simp_all [derive, rightsOk, IntKind.bits], rfl⟩
 refine Wp.seq ?_
 refine Wp.seq ?_
 refine Wp.region ?_
 refine Ops.pv (pv_eql rfl rfl) rfl ?_
 refine Ops.pv (pv_assign rfl) rfl ?_
 refine Ops.nil ?_
 refine Ends.seq ?_
 refine Wp.cond_dect rfl (fun h10 => ?_) (fun h10 => ?_)
 ·
  refine Wp.skip ?_
  refine Ends.seq ?_
  refine Wp.cond_true rfl ?_
  refine Wp.seq ?_
  refine Wp.region ?_
  refine Ops.pv (pv_fieldAddr0 rfl rfl) rfl ?_
  refine Ops.pv (pv_load rfl rfl rfl) rfl ?_
  refine Ops.pv (pv_move rfl) rfl ?_
  refine Ops.ef rfl (ef_callr (tr_mask c.rights r) rfl rfl) ?_
  rintro _ _ ⟨rfl, rfl⟩
  refine Ops.pv (pv_fieldAddr0 rfl rfl) rfl ?_
  refine Ops.ef rfl (ef_store1 rfl rfl (by first | rfl | assumption) (by first | rfl | assumption)) ?_
  rintro _ _ ⟨rfl, rfl⟩
  refine Ops.nil ?_
  refine Ends.seq ?_
  refine Wp.seq ?_
  refine Wp.seq ?_
  refine Wp.region ?_
  refine Ops.pv (pv_move rfl) rfl ?_
  refine Ops.pv (pv_neq rfl rfl) rfl ?_
  refine Ops.nil ?_
  refine Ends.seq ?_
  refine Wp.cond_dect rfl (fun h11 => ?_) (fun h11 => ?_)
  ·
   refine Wp.seq ?_
   refine Wp.seq ?_
   refine Wp.region ?_
   refine Ops.pv (pv_fieldAddr0 rfl rfl) rfl ?_
   refine Ops.pv (pv_load rfl rfl rfl) rfl ?_
   refine Ops.pv (pv_neq rfl rfl) rfl ?_
   refine Ops.nil ?_
   refine Ends.seq ?_
   refine Wp.cond_dect rfl (fun h12 => ?_) (fun h12 => ?_)
   ·
    refine Wp.seq ?_
    refine Wp.region ?_
    refine Ops.pv (pv_build rfl) rfl ?_
    refine Ops.ef rfl (ef_storeK rfl rfl rfl rfl) ?_
    rintro _ _ ⟨rfl, rfl⟩
    refine Ops.pv (pv_assign rfl) rfl ?_
    refine Ops.nil ?_
    refine Ends.seq ?_
    refine Wp.ret ?_
    refine Ends.then_ret ?_
    refine Ends.then_ret ?_
    refine Ends.block_ret ?_
    refine Ends.then_ret ?_
    exact Ends.ret (res_list (rs := [.cell 10 24, .tmp 11]) rfl ⟨_, _, rfl, rv_cellK [_, _, _, _, _, _] rfl rfl rfl ⟨rfl, rfl, rfl, rfl, rfl, rfl, trivial⟩, ⟨_, _, rfl, rv_tmp rfl, rfl⟩⟩ rfl) ⟨by simp_all [derive, rightsOk, IntKind.bits], rfl⟩
   refine Wp.skip ?_
   refine Ends.seq ?_
   refine Wp.region ?_
   refine Ops.pv (pv_move rfl) rfl ?_
   refine Ops.pv (pv_fieldAddr0 rfl rfl) rfl ?_
   refine Ops.ef rfl (ef_store1 rfl rfl (by first | rfl | assumption) (by first | rfl | assumption)) ?_
   rintro _ _ ⟨rfl, rfl⟩
   refine Ops.nil ?_
   refine Ends.seq ?_
   refine Wp.seq ?_
   refine Wp.region ?_
   refine Ops.pv (pv_fieldAddr0 rfl rfl) rfl ?_
   refine Ops.pv (pv_load rfl rfl rfl) rfl ?_
   refine Ops.pv (pv_shr rfl rfl (by omega) rfl) rfl ?_
   refine Ops.pv (pv_neq rfl rfl) rfl ?_
   refine Ops.nil ?_
   refine Ends.seq ?_
   refine Wp.cond_dect rfl (fun h13 => ?_) (fun h13 => ?_)
   ·
    refine Wp.seq ?_
    refine Wp.region ?_
    refine Ops.pv (pv_build rfl) rfl ?_
    refine Ops.ef rfl (ef_storeK rfl rfl rfl rfl) ?_
    rintro _ _ ⟨rfl, rfl⟩
    refine Ops.pv (pv_assign rfl) rfl ?_
    refine Ops.nil ?_
    refine Ends.seq ?_
    refine Wp.ret ?_
    refine Ends.block_ret ?_
    refine Ends.then_ret ?_
    exact Ends.ret (res_list (rs := [.cell 10 24, .tmp 11]) rfl ⟨_, _, rfl, rv_cellK [_, _, _, _, _, _] rfl rfl rfl ⟨rfl, rfl, rfl, rfl, rfl, rfl, trivial⟩, ⟨_, _, rfl, rv_tmp rfl, rfl⟩⟩ rfl) ⟨by simp_all [derive, rightsOk, IntKind.bits], rfl⟩
   refine Wp.skip ?_
   refine Ends.block_normal ?_
   refine Ends.seq ?_
   refine Wp.seq ?_
   refine Wp.region ?_
   refine Ops.pv (pv_loadK [_, _, _, _, _, _] rfl rfl rfl ⟨rfl, rfl, rfl, rfl, rfl, rfl, trivial⟩) rfl ?_
   refine Ops.ef rfl (ef_storeK rfl rfl rfl rfl) ?_
   rintro _ _ ⟨rfl, rfl⟩
   refine Ops.pv (pv_assign rfl) rfl ?_
   refine Ops.nil ?_
   refine Ends.seq ?_
   refine Wp.ret ?_
   exact Ends.ret (res_list (rs := [.cell 10 24, .tmp 11]) rfl ⟨_, _, rfl, rv_cellK [_, _, _, _, _, _] rfl rfl rfl ⟨rfl, rfl, rfl, rfl, rfl, rfl, trivial⟩, ⟨_, _, rfl, rv_tmp rfl, rfl⟩⟩ rfl) ⟨by simp_all [derive, rightsOk, IntKind.bits], rfl⟩
  refine Wp.skip ?_
  refine Ends.seq ?_
  refine Wp.seq ?_
  refine Wp.region ?_
  refine Ops.pv (pv_fieldAddr0 rfl rfl) rfl ?_
  refine Ops.pv (pv_load rfl rfl rfl) rfl ?_
  refine Ops.pv (pv_shr rfl rfl (by omega) rfl) rfl ?_
  refine Ops.pv (pv_neq rfl rfl) rfl ?_
  refine Ops.nil ?_
  refine Ends.seq ?_
  refine Wp.cond_dect rfl (fun h14 => ?_) (fun h14 => ?_)
  ·
   refine Wp.seq ?_
   refine Wp.region ?_
   refine Ops.pv (pv_build rfl) rfl ?_
   refine Ops.ef rfl (ef_storeK rfl rfl rfl rfl) ?_
   rintro _ _ ⟨rfl, rfl⟩
   refine Ops.pv (pv_assign rfl) rfl ?_
   refine Ops.nil ?_
   refine Ends.seq ?_
   refine Wp.ret ?_
   refine Ends.block_ret ?_
   refine Ends.then_ret ?_
   exact Ends.ret (res_list (rs := [.cell 10 24, .tmp 11]) rfl ⟨_, _, rfl, rv_cellK [_, _, _, _, _, _] rfl rfl rfl ⟨rfl, rfl, rfl, rfl, rfl, rfl, trivial⟩, ⟨_, _, rfl, rv_tmp rfl, rfl⟩⟩ rfl) ⟨by simp_all [derive, rightsOk, IntKind.bits], rfl⟩
  refine Wp.skip ?_
  refine Ends.block_normal ?_
  refine Ends.seq ?_
  refine Wp.seq ?_
  refine Wp.region ?_
  refine Ops.pv (pv_loadK [_, _, _, _, _, _] rfl rfl rfl ⟨rfl, rfl, rfl, rfl, rfl, rfl, trivial⟩) rfl ?_
  refine Ops.ef rfl (ef_storeK rfl rfl rfl rfl) ?_
  rintro _ _ ⟨rfl, rfl⟩
  refine Ops.pv (pv_assign rfl) rfl ?_
  refine Ops.nil ?_
  refine Ends.seq ?_
  refine Wp.ret ?_
  exact Ends.ret (res_list (rs := [.cell 10 24, .tmp 11]) rfl ⟨_, _, rfl, rv_cellK [_, _, _, _, _, _] rfl rfl rfl ⟨rfl, rfl, rfl, rfl, rfl, rfl, trivial⟩, ⟨_, _, rfl, rv_tmp rfl, rfl⟩⟩ rfl) ⟨by simp_all [derive, rightsOk, IntKind.bits], rfl⟩
 refine Wp.region ?_
 refine Ops.pv (pv_eql rfl rfl) rfl ?_
 refine Ops.pv (pv_assign rfl) rfl ?_
 refine Ops.nil ?_
 refine Ends.seq ?_
 refine Wp.cond_dect rfl (fun h15 => ?_) (fun h15 => ?_)
 ·
  refine Wp.seq ?_
  refine Wp.region ?_
  refine Ops.pv (pv_fieldAddr0 rfl rfl) rfl ?_
  refine Ops.pv (pv_load rfl rfl rfl) rfl ?_
  refine Ops.pv (pv_move rfl) rfl ?_
  refine Ops.ef rfl (ef_callr (tr_mask c.rights r) rfl rfl) ?_
  rintro _ _ ⟨rfl, rfl⟩
  refine Ops.pv (pv_fieldAddr0 rfl rfl) rfl ?_
  refine Ops.ef rfl (ef_store1 rfl rfl (by first | rfl | assumption) (by first | rfl | assumption)) ?_
  rintro _ _ ⟨rfl, rfl⟩
  refine Ops.nil ?_
  refine Ends.seq ?_
  refine Wp.seq ?_
  refine Wp.seq ?_
  refine Wp.region ?_
  refine Ops.pv (pv_move rfl) rfl ?_
  refine Ops.pv (pv_neq rfl rfl) rfl ?_
  refine Ops.nil ?_
  refine Ends.seq ?_
  refine Wp.cond_dect rfl (fun h16 => ?_) (fun h16 => ?_)
  ·
   refine Wp.seq ?_
   refine Wp.seq ?_
   refine Wp.region ?_
   refine Ops.pv (pv_fieldAddr0 rfl rfl) rfl ?_
   refine Ops.pv (pv_load rfl rfl rfl) rfl ?_
   refine Ops.pv (pv_neq rfl rfl) rfl ?_
   refine Ops.nil ?_
   refine Ends.seq ?_
   refine Wp.cond_dect rfl (fun h17 => ?_) (fun h17 => ?_)
   ·
    refine Wp.seq ?_
    refine Wp.region ?_
    refine Ops.pv (pv_build rfl) rfl ?_
    refine Ops.ef rfl (ef_storeK rfl rfl rfl rfl) ?_
    rintro _ _ ⟨rfl, rfl⟩
    refine Ops.pv (pv_assign rfl) rfl ?_
    refine Ops.nil ?_
    refine Ends.seq ?_
    refine Wp.ret ?_
    refine Ends.then_ret ?_
    refine Ends.then_ret ?_
    refine Ends.block_ret ?_
    refine Ends.then_ret ?_
    exact Ends.ret (res_list (rs := [.cell 10 24, .tmp 11]) rfl ⟨_, _, rfl, rv_cellK [_, _, _, _, _, _] rfl rfl rfl ⟨rfl, rfl, rfl, rfl, rfl, rfl, trivial⟩, ⟨_, _, rfl, rv_tmp rfl, rfl⟩⟩ rfl) ⟨by simp_all [derive, rightsOk, IntKind.bits], rfl⟩
   refine Wp.skip ?_
   refine Ends.seq ?_
   refine Wp.region ?_
   refine Ops.pv (pv_move rfl) rfl ?_
   refine Ops.pv (pv_fieldAddr0 rfl rfl) rfl ?_
   refine Ops.ef rfl (ef_store1 rfl rfl (by first | rfl | assumption) (by first | rfl | assumption)) ?_
   rintro _ _ ⟨rfl, rfl⟩
   refine Ops.nil ?_
   refine Ends.seq ?_
   refine Wp.seq ?_
   refine Wp.region ?_
   refine Ops.pv (pv_fieldAddr0 rfl rfl) rfl ?_
   refine Ops.pv (pv_load rfl rfl rfl) rfl ?_
   refine Ops.pv (pv_shr rfl rfl (by omega) rfl) rfl ?_
   refine Ops.pv (pv_neq rfl rfl) rfl ?_
   refine Ops.nil ?_
   refine Ends.seq ?_
   refine Wp.cond_dect rfl (fun h18 => ?_) (fun h18 => ?_)
   ·
    refine Wp.seq ?_
    refine Wp.region ?_
    refine Ops.pv (pv_build rfl) rfl ?_
    refine Ops.ef rfl (ef_storeK rfl rfl rfl rfl) ?_
    rintro _ _ ⟨rfl, rfl⟩
    refine Ops.pv (pv_assign rfl) rfl ?_
    refine Ops.nil ?_
    refine Ends.seq ?_
    refine Wp.ret ?_
    refine Ends.block_ret ?_
    refine Ends.then_ret ?_
    exact Ends.ret (res_list (rs := [.cell 10 24, .tmp 11]) rfl ⟨_, _, rfl, rv_cellK [_, _, _, _, _, _] rfl rfl rfl ⟨rfl, rfl, rfl, rfl, rfl, rfl, trivial⟩, ⟨_, _, rfl, rv_tmp rfl, rfl⟩⟩ rfl) ⟨by simp_all [derive, rightsOk, IntKind.bits], rfl⟩
   refine Wp.skip ?_
   refine Ends.block_normal ?_
   refine Ends.seq ?_
   refine Wp.seq ?_
   refine Wp.region ?_
   refine Ops.pv (pv_loadK [_, _, _, _, _, _] rfl rfl rfl ⟨rfl, rfl, rfl, rfl, rfl, rfl, trivial⟩) rfl ?_
   refine Ops.ef rfl (ef_storeK rfl rfl rfl rfl) ?_
   rintro _ _ ⟨rfl, rfl⟩
   refine Ops.pv (pv_assign rfl) rfl ?_
   refine Ops.nil ?_
   refine Ends.seq ?_
   refine Wp.ret ?_
   exact Ends.ret (res_list (rs := [.cell 10 24, .tmp 11]) rfl ⟨_, _, rfl, rv_cellK [_, _, _, _, _, _] rfl rfl rfl ⟨rfl, rfl, rfl, rfl, rfl, rfl, trivial⟩, ⟨_, _, rfl, rv_tmp rfl, rfl⟩⟩ rfl) ⟨by simp_all [derive, rightsOk, IntKind.bits], rfl⟩
  refine Wp.skip ?_
  refine Ends.seq ?_
  refine Wp.seq ?_
  refine Wp.region ?_
  refine Ops.pv (pv_fieldAddr0 rfl rfl) rfl ?_
  refine Ops.pv (pv_load rfl rfl rfl) rfl ?_
  refine Ops.pv (pv_shr rfl rfl (by omega) rfl) rfl ?_
  refine Ops.pv (pv_neq rfl rfl) rfl ?_
  refine Ops.nil ?_
  refine Ends.seq ?_
  refine Wp.cond_dect rfl (fun h19 => ?_) (fun h19 => ?_)
  ·
   refine Wp.seq ?_
   refine Wp.region ?_
   refine Ops.pv (pv_build rfl) rfl ?_
   refine Ops.ef rfl (ef_storeK rfl rfl rfl rfl) ?_
   rintro _ _ ⟨rfl, rfl⟩
   refine Ops.pv (pv_assign rfl) rfl ?_
   refine Ops.nil ?_
   refine Ends.seq ?_
   refine Wp.ret ?_
   refine Ends.block_ret ?_
   refine Ends.then_ret ?_
   exact Ends.ret (res_list (rs := [.cell 10 24, .tmp 11]) rfl ⟨_, _, rfl, rv_cellK [_, _, _, _, _, _] rfl rfl rfl ⟨rfl, rfl, rfl, rfl, rfl, rfl, trivial⟩, ⟨_, _, rfl, rv_tmp rfl, rfl⟩⟩ rfl) ⟨by simp_all [derive, rightsOk, IntKind.bits], rfl⟩
  refine Wp.skip ?_
  refine Ends.block_normal ?_
  refine Ends.seq ?_
  refine Wp.seq ?_
  refine Wp.region ?_
  refine Ops.pv (pv_loadK [_, _, _, _, _, _] rfl rfl rfl ⟨rfl, rfl, rfl, rfl, rfl, rfl, trivial⟩) rfl ?_
  refine Ops.ef rfl (ef_storeK rfl rfl rfl rfl) ?_
  rintro _ _ ⟨rfl, rfl⟩
  refine Ops.pv (pv_assign rfl) rfl ?_
  refine Ops.nil ?_
  refine Ends.seq ?_
  refine Wp.ret ?_
  exact Ends.ret (res_list (rs := [.cell 10 24, .tmp 11]) rfl ⟨_, _, rfl, rv_cellK [_, _, _, _, _, _] rfl rfl rfl ⟨rfl, rfl, rfl, rfl, rfl, rfl, trivial⟩, ⟨_, _, rfl, rv_tmp rfl, rfl⟩⟩ rfl) ⟨by simp_all [derive, rightsOk, IntKind.bits], rfl⟩
 refine Wp.skip ?_
 refine Ends.block_normal ?_
 refine Ends.seq ?_
 refine Wp.seq ?_
 refine Wp.region ?_
 refine Ops.pv (pv_loadK [_, _, _, _, _, _] rfl rfl rfl ⟨rfl, rfl, rfl, rfl, rfl, rfl, trivial⟩) rfl ?_
 refine Ops.ef rfl (ef_storeK rfl rfl rfl rfl) ?_
 rintro _ _ ⟨rfl, rfl⟩
 refine Ops.pv (pv_assign rfl) rfl ?_
 refine Ops.nil ?_
 refine Ends.seq ?_
 refine Wp.ret ?_
 exact Ends.ret (res_list (rs := [.cell 10 24, .tmp 11]) rfl ⟨_, _, rfl, rv_cellK [_, _, _, _, _, _] rfl rfl rfl ⟨rfl, rfl, rfl, rfl, rfl, rfl, trivial⟩, ⟨_, _, rfl, rv_tmp rfl, rfl⟩⟩ rfl) ⟨by simp_all [derive, rightsOk, IntKind.bits], rfl⟩
theorem tr_mNew  : Tr Try.prog 13 [] ([]) (fun v L' => ∃ cb, v = cpP cb ∧ CapsH 0 PS.new cb L') := by
 refine Tr.enter Try.func13 rfl Try.ntmps13 rfl (fun W F => ?_)
 refine Wp.app ?_
 refine Wp.seq ?_
 refine Wp.region ?_
 refine Ops.pv (pv_assign rfl) rfl ?_
 refine Ops.nil ?_
 refine Ends.seq ?_
 refine Wp.seq ?_
 refine Wp.region ?_
 refine Ops.ef rfl (ef_call sf_new rfl rfl) ?_
 rintro _ _ ⟨_, Q1, ⟨sb1, rfl, hS1⟩, rfl, rfl⟩
 refine Ops.app ?_
 skip
 refine Ops.pv (pv_build rfl) rfl ?_
 refine Ops.ef rfl (ef_call tr_fNew rfl rfl) ?_
 rintro _ _ ⟨_, R1, ⟨tb1, rfl, hT1⟩, rfl, rfl⟩
 refine Ops.app ?_
 skip
 refine Ops.pv (pv_build rfl) rfl ?_
 refine Ops.ef rfl (ef_boxK rfl rfl) ?_
 rintro _ _ ⟨b1, rfl, rfl⟩
 refine Ops.pv (pv_assign rfl) rfl ?_
 refine Ops.nil ?_
 refine Ends.seq ?_
 refine Wp.ret ?_
 exact Ends.ret (L' := cBlk b1 sb1 tb1 :: (Q1 ++ R1)) (res1 rfl rfl) ⟨b1, rfl, sb1, tb1, Q1, R1, hS1, hT1, rfl⟩
theorem tr_smNode (l : List DN) (sb : Nat) (Ls : Hp) (hS : StF l sb Ls) (x r : Int) : Tr Try.prog 14 [.agg #[stP sb], .int .i64 x, .int .i64 r] (Ls) (fun u L' => u = .int .i64 (dadd l x r).1 ∧ StF (dadd l x r).2 sb L') := by
 refine Tr.enter Try.func14 rfl Try.ntmps14 rfl (fun W F => ?_)
 refine Wp.app ?_
 refine Wp.seq ?_
 refine Wp.region ?_
 refine Ops.ef rfl (ef_boxK rfl rfl) ?_
 rintro _ _ ⟨b1, rfl, rfl⟩
 refine Ops.pv (pv_assign rfl) rfl ?_
 refine Ops.nil ?_
 refine Ends.seq ?_
 refine Wp.seq ?_
 refine Wp.region ?_
 refine Ops.pv (pv_fieldAddr0 rfl rfl) rfl ?_
 refine Ops.pv (pv_load rfl rfl rfl) rfl ?_
 refine Ops.pv (pv_move rfl) rfl ?_
 refine Ops.pv (pv_move rfl) rfl ?_
 refine Ops.ef rfl (ef_call (sf_add hS x r) rfl rfl) ?_
 rintro _ _ ⟨_, Q1, ⟨rfl, hS1⟩, rfl, rfl⟩
 refine Ops.app ?_
 skip
 refine Ops.pv (pv_assign rfl) rfl ?_
 refine Ops.nil ?_
 refine Ends.seq ?_
 refine Wp.ret ?_
 exact Ends.ret (L' := Q1) (res1 rfl rfl) ⟨rfl, hS1⟩
theorem tr_smClear (l : List DN) (sb : Nat) (Ls : Hp) (hS : StF l sb Ls) (x : Int) : Tr Try.prog 31 [.agg #[stP sb], .int .i64 x] (Ls) (fun u L' => u = .int .i64 (ddrop l x).1 ∧ StF (ddrop l x).2 sb L') := by
 refine Tr.enter Try.func31 rfl Try.ntmps31 rfl (fun W F => ?_)
 refine Wp.app ?_
 refine Wp.seq ?_
 refine Wp.region ?_
 refine Ops.ef rfl (ef_boxK rfl rfl) ?_
 rintro _ _ ⟨b1, rfl, rfl⟩
 refine Ops.pv (pv_assign rfl) rfl ?_
 refine Ops.nil ?_
 refine Ends.seq ?_
 refine Wp.seq ?_
 refine Wp.region ?_
 refine Ops.pv (pv_fieldAddr0 rfl rfl) rfl ?_
 refine Ops.pv (pv_load rfl rfl rfl) rfl ?_
 refine Ops.pv (pv_move rfl) rfl ?_
 refine Ops.ef rfl (ef_call (sf_drop hS x) rfl rfl) ?_
 rintro _ _ ⟨_, Q1, ⟨rfl, hS1⟩, rfl, rfl⟩
 refine Ops.app ?_
 skip
 refine Ops.pv (pv_assign rfl) rfl ?_
 refine Ops.nil ?_
 refine Ends.seq ?_
 refine Wp.ret ?_
 exact Ends.ret (L' := Q1) (res1 rfl rfl) ⟨rfl, hS1⟩
theorem tr_mSource (n cb : Nat) (L : Hp) (p : PS) (hH : CapsH n p cb L) (so : SlotM) : TrR Try.prog 51 [cpP cb, slotV so] (L) (.tuple #[(mSource p so).1.v, .int .i64 (mSource p so).2]) := by
 obtain ⟨sb, tb, Ls, Lt, hS, hT, rfl⟩ := hH
 refine Tr.enter Try.func51 rfl Try.ntmps51 rfl (fun W F => ?_)
 refine Wp.app ?_
 refine Wp.seq ?_
 refine Wp.region ?_
 refine Ops.ef rfl (ef_boxK rfl rfl) ?_
 rintro _ _ ⟨b1, rfl, rfl⟩
 refine Ops.ef rfl (ef_allocK tyZ24 rfl) ?_
 rintro _ _ ⟨b2, rfl, rfl⟩
 refine Ops.pv (pv_assign rfl) rfl ?_
 refine Ops.nil ?_
 refine Ends.seq ?_
 refine Wp.seq ?_
 refine AnyH.start ((b1, .cells [.int .i64 so.1, .int .i64 so.2].toArray 38) :: cBlk cb sb tb :: []) 13 rfl ?_
 refine Tk 0 rfl rfl (pv_move rfl) rfl ?_
 refine Tk 1 rfl rfl (pv_nilCheck rfl) rfl ?_
 refine Tk 2 rfl rfl (pv_fieldAddr0 rfl rfl) rfl ?_
 refine Tk 3 rfl rfl (pv_fieldAddr0 rfl rfl) rfl ?_
 refine Tk 4 rfl rfl (pv_load rfl rfl rfl) rfl ?_
 refine Tk 5 rfl rfl (pv_loadK [_, _] rfl rfl rfl ⟨rfl, rfl, trivial⟩) rfl ?_
 refine AnyH.two 6 10 (by kernel_rfl) ?_ ?_
 ·
  refine Turn.ef rfl rfl (ef_callr (sf_get hS so) rfl rfl) ?_ ?_
  ·
   rintro _ _ ⟨rfl, rfl⟩; infer_instance
  rintro _ _ ⟨rfl, rfl⟩
  refine Tk 7 rfl rfl (pv_move rfl) rfl ?_
  refine Tk 8 rfl rfl (pv_extract rfl rfl) rfl ?_
  refine Tk 9 rfl rfl (pv_extract rfl rfl) rfl ?_
  refine AnyH.one 10 (by kernel_rfl) ?_
  refine Turn.ef rfl rfl (ef_allocK tyZ24 rfl) ?_ ?_
  ·
   rintro _ _ ⟨b3, rfl, rfl⟩; infer_instance
  rintro _ _ ⟨b3, rfl, rfl⟩
  refine AnyH.one 11 (by kernel_rfl) ?_
  refine Turn.ef rfl rfl (ef_storeK rfl rfl rfl rfl) ?_ ?_
  ·
   rintro _ _ ⟨rfl, rfl⟩; infer_instance
  rintro _ _ ⟨rfl, rfl⟩
  refine Tk 12 rfl rfl (pv_assign rfl) rfl ?_
  refine AnyH.done (by kernel_rfl) ?_
  refine Ends.seq ?_
  refine Wp.seq ?_
  refine Wp.seq ?_
  refine Wp.region ?_
  refine Ops.pv (pv_move rfl) rfl ?_
  refine Ops.pv (pv_eql rfl rfl) rfl ?_
  refine Ops.pv (pv_move rfl) rfl ?_
  refine Ops.pvc rfl rfl (fun hg => pv_fieldAddr0 rfl rfl) rfl ?_
  refine Ops.pvc rfl rfl (fun hg => Pv.setE (t := 21) rfl (cv_pos hg) (pv_load rfl rfl rfl)) rfl ?_
  refine Ops.pvc rfl rfl (fun hg => Pv.setE (t := 21) rfl (cv_pos hg) (Pv.setE (t := 22) rfl (cv_pos hg) (pv_eql rfl rfl))) rfl ?_
  refine Ops.pv (pv_pick_and rfl rfl) rfl ?_
  refine Ops.nil ?_
  refine Ends.seq ?_
  refine Wp.cond_dect rfl (fun h1 => ?_) (fun h1 => ?_)
  ·
   refine Wp.region ?_
   refine Ops.pv (pv_assign rfl) rfl ?_
   refine Ops.nil ?_
   refine Ends.seq ?_
   refine Wp.seq ?_
   refine Wp.region ?_
   refine Ops.pv (pv_loadK [_, _, _, _, _, _] rfl rfl rfl ⟨rfl, rfl, rfl, rfl, rfl, rfl, trivial⟩) rfl ?_
   refine Ops.pv (pv_move rfl) rfl ?_
   refine Ops.ef rfl (ef_storeK rfl rfl rfl rfl) ?_
   rintro _ _ ⟨rfl, rfl⟩
   refine Ops.pv (pv_assign rfl) rfl ?_
   refine Ops.nil ?_
   refine Ends.seq ?_
   refine Wp.ret ?_
   have he : mSource p so = ((dget p.l so).1, 3) := if_pos (by assumption)
   exact Ends.ret (res_list (rs := [.cell 4 24, .tmp 5]) rfl ⟨_, _, rfl, rv_cellK [_, _, _, _, _, _] rfl rfl rfl ⟨rfl, rfl, rfl, rfl, rfl, rfl, trivial⟩, ⟨_, _, rfl, rv_tmp rfl, rfl⟩⟩ rfl) ⟨by rw [he], rfl⟩
  refine Wp.skip ?_
  refine Ends.seq ?_
  refine Wp.seq ?_
  refine Wp.region ?_
  refine Ops.pv (pv_loadK [_, _, _, _, _, _] rfl rfl rfl ⟨rfl, rfl, rfl, rfl, rfl, rfl, trivial⟩) rfl ?_
  refine Ops.pv (pv_move rfl) rfl ?_
  refine Ops.ef rfl (ef_storeK rfl rfl rfl rfl) ?_
  rintro _ _ ⟨rfl, rfl⟩
  refine Ops.pv (pv_assign rfl) rfl ?_
  refine Ops.nil ?_
  refine Ends.seq ?_
  refine Wp.ret ?_
  have he : mSource p so = dget p.l so := if_neg (by assumption)
  exact Ends.ret (res_list (rs := [.cell 4 24, .tmp 5]) rfl ⟨_, _, rfl, rv_cellK [_, _, _, _, _, _] rfl rfl rfl ⟨rfl, rfl, rfl, rfl, rfl, rfl, trivial⟩, ⟨_, _, rfl, rv_tmp rfl, rfl⟩⟩ rfl) ⟨by rw [he], rfl⟩
 refine Turn.ef rfl rfl (ef_allocK tyZ24 rfl) ?_ ?_
 ·
  rintro _ _ ⟨b4, rfl, rfl⟩; infer_instance
 rintro _ _ ⟨b4, rfl, rfl⟩
 refine AnyH.one 6 (by kernel_rfl) ?_
 refine Turn.ef rfl rfl (ef_callr (sf_get hS so) rfl rfl) ?_ ?_
 ·
  rintro _ _ ⟨rfl, rfl⟩; infer_instance
 rintro _ _ ⟨rfl, rfl⟩
 refine Tk 7 rfl rfl (pv_move rfl) rfl ?_
 refine Tk 8 rfl rfl (pv_extract rfl rfl) rfl ?_
 refine Tk 9 rfl rfl (pv_extract rfl rfl) rfl ?_
 refine AnyH.one 11 (by kernel_rfl) ?_
 refine Turn.ef rfl rfl (ef_storeK rfl rfl rfl rfl) ?_ ?_
 ·
  rintro _ _ ⟨rfl, rfl⟩; infer_instance
 rintro _ _ ⟨rfl, rfl⟩
 refine Tk 12 rfl rfl (pv_assign rfl) rfl ?_
 refine AnyH.done (by kernel_rfl) ?_
 refine Ends.seq ?_
 refine Wp.seq ?_
 refine Wp.seq ?_
 refine Wp.region ?_
 refine Ops.pv (pv_move rfl) rfl ?_
 refine Ops.pv (pv_eql rfl rfl) rfl ?_
 refine Ops.pv (pv_move rfl) rfl ?_
 refine Ops.pvc rfl rfl (fun hg => pv_fieldAddr0 rfl rfl) rfl ?_
 refine Ops.pvc rfl rfl (fun hg => Pv.setE (t := 21) rfl (cv_pos hg) (pv_load rfl rfl rfl)) rfl ?_
 refine Ops.pvc rfl rfl (fun hg => Pv.setE (t := 21) rfl (cv_pos hg) (Pv.setE (t := 22) rfl (cv_pos hg) (pv_eql rfl rfl))) rfl ?_
 refine Ops.pv (pv_pick_and rfl rfl) rfl ?_
 refine Ops.nil ?_
 refine Ends.seq ?_
 refine Wp.cond_dect rfl (fun h2 => ?_) (fun h2 => ?_)
 ·
  refine Wp.region ?_
  refine Ops.pv (pv_assign rfl) rfl ?_
  refine Ops.nil ?_
  refine Ends.seq ?_
  refine Wp.seq ?_
  refine Wp.region ?_
  refine Ops.pv (pv_loadK [_, _, _, _, _, _] rfl rfl rfl ⟨rfl, rfl, rfl, rfl, rfl, rfl, trivial⟩) rfl ?_
  refine Ops.pv (pv_move rfl) rfl ?_
  refine Ops.ef rfl (ef_storeK rfl rfl rfl rfl) ?_
  rintro _ _ ⟨rfl, rfl⟩
  refine Ops.pv (pv_assign rfl) rfl ?_
  refine Ops.nil ?_
  refine Ends.seq ?_
  refine Wp.ret ?_
  have he : mSource p so = ((dget p.l so).1, 3) := if_pos (by assumption)
  exact Ends.ret (res_list (rs := [.cell 4 24, .tmp 5]) rfl ⟨_, _, rfl, rv_cellK [_, _, _, _, _, _] rfl rfl rfl ⟨rfl, rfl, rfl, rfl, rfl, rfl, trivial⟩, ⟨_, _, rfl, rv_tmp rfl, rfl⟩⟩ rfl) ⟨by rw [he], rfl⟩
 refine Wp.skip ?_
 refine Ends.seq ?_
 refine Wp.seq ?_
 refine Wp.region ?_
 refine Ops.pv (pv_loadK [_, _, _, _, _, _] rfl rfl rfl ⟨rfl, rfl, rfl, rfl, rfl, rfl, trivial⟩) rfl ?_
 refine Ops.pv (pv_move rfl) rfl ?_
 refine Ops.ef rfl (ef_storeK rfl rfl rfl rfl) ?_
 rintro _ _ ⟨rfl, rfl⟩
 refine Ops.pv (pv_assign rfl) rfl ?_
 refine Ops.nil ?_
 refine Ends.seq ?_
 refine Wp.ret ?_
 have he : mSource p so = dget p.l so := if_neg (by assumption)
 exact Ends.ret (res_list (rs := [.cell 4 24, .tmp 5]) rfl ⟨_, _, rfl, rv_cellK [_, _, _, _, _, _] rfl rfl rfl ⟨rfl, rfl, rfl, rfl, rfl, rfl, trivial⟩, ⟨_, _, rfl, rv_tmp rfl, rfl⟩⟩ rfl) ⟨by rw [he], rfl⟩
theorem tr_mPlace (n cb : Nat) (L : Hp) (p : PS) (hH : CapsH n p cb L) (so : SlotM) : TrR Try.prog 52 [cpP cb, slotV so] (L) (.int .i64 (mPlace p so)) := by
 obtain ⟨sb, tb, Ls, Lt, hS, hT, rfl⟩ := hH
 refine Tr.enter Try.func52 rfl Try.ntmps52 rfl (fun W F => ?_)
 refine Wp.app ?_
 refine Wp.seq ?_
 refine Wp.region ?_
 refine Ops.ef rfl (ef_boxK rfl rfl) ?_
 rintro _ _ ⟨b1, rfl, rfl⟩
 refine Ops.pv (pv_assign rfl) rfl ?_
 refine Ops.nil ?_
 refine Ends.seq ?_
 refine Wp.seq ?_
 refine AnyH.start ((b1, .cells [.int .i64 so.1, .int .i64 so.2].toArray 38) :: cBlk cb sb tb :: []) 13 rfl ?_
 refine Tk 0 rfl rfl (pv_move rfl) rfl ?_
 refine Tk 1 rfl rfl (pv_nilCheck rfl) rfl ?_
 refine Tk 2 rfl rfl (pv_fieldAddr0 rfl rfl) rfl ?_
 refine Tk 3 rfl rfl (pv_fieldAddr0 rfl rfl) rfl ?_
 refine Tk 4 rfl rfl (pv_load rfl rfl rfl) rfl ?_
 refine Tk 5 rfl rfl (pv_loadK [_, _] rfl rfl rfl ⟨rfl, rfl, trivial⟩) rfl ?_
 refine AnyH.two 6 10 (by kernel_rfl) ?_ ?_
 ·
  refine Turn.ef rfl rfl (ef_callr (sf_get hS so) rfl rfl) ?_ ?_
  ·
   rintro _ _ ⟨rfl, rfl⟩; infer_instance
  rintro _ _ ⟨rfl, rfl⟩
  refine Tk 7 rfl rfl (pv_move rfl) rfl ?_
  refine Tk 8 rfl rfl (pv_extract rfl rfl) rfl ?_
  refine Tk 9 rfl rfl (pv_extract rfl rfl) rfl ?_
  refine AnyH.one 10 (by kernel_rfl) ?_
  refine Turn.ef rfl rfl (ef_allocK tyZ24 rfl) ?_ ?_
  ·
   rintro _ _ ⟨b2, rfl, rfl⟩; infer_instance
  rintro _ _ ⟨b2, rfl, rfl⟩
  refine AnyH.one 11 (by kernel_rfl) ?_
  refine Turn.ef rfl rfl (ef_storeK rfl rfl rfl rfl) ?_ ?_
  ·
   rintro _ _ ⟨rfl, rfl⟩; infer_instance
  rintro _ _ ⟨rfl, rfl⟩
  refine Tk 12 rfl rfl (pv_assign rfl) rfl ?_
  refine AnyH.done (by kernel_rfl) ?_
  refine Ends.seq ?_
  refine Wp.seq ?_
  refine Wp.seq ?_
  refine Wp.region ?_
  refine Ops.pv (pv_move rfl) rfl ?_
  refine Ops.pv (pv_eql rfl rfl) rfl ?_
  refine Ops.pv (pv_move rfl) rfl ?_
  refine Ops.pvc rfl rfl (fun hg => pv_fieldAddr0 rfl rfl) rfl ?_
  refine Ops.pvc rfl rfl (fun hg => Pv.setE (t := 20) rfl (cv_pos hg) (pv_load rfl rfl rfl)) rfl ?_
  refine Ops.pvc rfl rfl (fun hg => Pv.setE (t := 20) rfl (cv_pos hg) (Pv.setE (t := 21) rfl (cv_pos hg) (pv_neq rfl rfl))) rfl ?_
  refine Ops.pv (pv_pick_and rfl rfl) rfl ?_
  refine Ops.nil ?_
  refine Ends.seq ?_
  refine Wp.cond_dect rfl (fun h1 => ?_) (fun h1 => ?_)
  ·
   refine Wp.region ?_
   refine Ops.pv (pv_assign rfl) rfl ?_
   refine Ops.nil ?_
   refine Ends.seq ?_
   refine Wp.seq ?_
   refine Wp.region ?_
   refine Ops.pv (pv_move rfl) rfl ?_
   refine Ops.pv (pv_assign rfl) rfl ?_
   refine Ops.nil ?_
   refine Ends.seq ?_
   refine Wp.ret ?_
   have he : mPlace p so = 4 := if_pos (by assumption)
   exact Ends.ret (res1 rfl rfl) ⟨by rw [he], rfl⟩
  refine Wp.skip ?_
  refine Ends.seq ?_
  refine Wp.seq ?_
  refine Wp.region ?_
  refine Ops.pv (pv_move rfl) rfl ?_
  refine Ops.pv (pv_assign rfl) rfl ?_
  refine Ops.nil ?_
  refine Ends.seq ?_
  refine Wp.ret ?_
  have he : mPlace p so = (dget p.l so).2 := if_neg (by assumption)
  exact Ends.ret (res1 rfl rfl) ⟨by rw [he], rfl⟩
 refine Turn.ef rfl rfl (ef_allocK tyZ24 rfl) ?_ ?_
 ·
  rintro _ _ ⟨b3, rfl, rfl⟩; infer_instance
 rintro _ _ ⟨b3, rfl, rfl⟩
 refine AnyH.one 6 (by kernel_rfl) ?_
 refine Turn.ef rfl rfl (ef_callr (sf_get hS so) rfl rfl) ?_ ?_
 ·
  rintro _ _ ⟨rfl, rfl⟩; infer_instance
 rintro _ _ ⟨rfl, rfl⟩
 refine Tk 7 rfl rfl (pv_move rfl) rfl ?_
 refine Tk 8 rfl rfl (pv_extract rfl rfl) rfl ?_
 refine Tk 9 rfl rfl (pv_extract rfl rfl) rfl ?_
 refine AnyH.one 11 (by kernel_rfl) ?_
 refine Turn.ef rfl rfl (ef_storeK rfl rfl rfl rfl) ?_ ?_
 ·
  rintro _ _ ⟨rfl, rfl⟩; infer_instance
 rintro _ _ ⟨rfl, rfl⟩
 refine Tk 12 rfl rfl (pv_assign rfl) rfl ?_
 refine AnyH.done (by kernel_rfl) ?_
 refine Ends.seq ?_
 refine Wp.seq ?_
 refine Wp.seq ?_
 refine Wp.region ?_
 refine Ops.pv (pv_move rfl) rfl ?_
 refine Ops.pv (pv_eql rfl rfl) rfl ?_
 refine Ops.pv (pv_move rfl) rfl ?_
 refine Ops.pvc rfl rfl (fun hg => pv_fieldAddr0 rfl rfl) rfl ?_
 refine Ops.pvc rfl rfl (fun hg => Pv.setE (t := 20) rfl (cv_pos hg) (pv_load rfl rfl rfl)) rfl ?_
 refine Ops.pvc rfl rfl (fun hg => Pv.setE (t := 20) rfl (cv_pos hg) (Pv.setE (t := 21) rfl (cv_pos hg) (pv_neq rfl rfl))) rfl ?_
 refine Ops.pv (pv_pick_and rfl rfl) rfl ?_
 refine Ops.nil ?_
 refine Ends.seq ?_
 refine Wp.cond_dect rfl (fun h2 => ?_) (fun h2 => ?_)
 ·
  refine Wp.region ?_
  refine Ops.pv (pv_assign rfl) rfl ?_
  refine Ops.nil ?_
  refine Ends.seq ?_
  refine Wp.seq ?_
  refine Wp.region ?_
  refine Ops.pv (pv_move rfl) rfl ?_
  refine Ops.pv (pv_assign rfl) rfl ?_
  refine Ops.nil ?_
  refine Ends.seq ?_
  refine Wp.ret ?_
  have he : mPlace p so = 4 := if_pos (by assumption)
  exact Ends.ret (res1 rfl rfl) ⟨by rw [he], rfl⟩
 refine Wp.skip ?_
 refine Ends.seq ?_
 refine Wp.seq ?_
 refine Wp.region ?_
 refine Ops.pv (pv_move rfl) rfl ?_
 refine Ops.pv (pv_assign rfl) rfl ?_
 refine Ops.nil ?_
 refine Ends.seq ?_
 refine Wp.ret ?_
 have he : mPlace p so = (dget p.l so).2 := if_neg (by assumption)
 exact Ends.ret (res1 rfl rfl) ⟨by rw [he], rfl⟩
theorem tr_mBoth (n cb : Nat) (L : Hp) (p : PS) (hH : CapsH n p cb L) (so de : SlotM) : TrR Try.prog 48 [cpP cb, slotV so, slotV de] (L) (.tuple #[(mBoth p so de).1.v, .int .i64 (mBoth p so de).2]) := by
 refine Tr.enter Try.func48 rfl Try.ntmps48 rfl (fun W F => ?_)
 refine Wp.app ?_
 refine Wp.seq ?_
 refine Wp.region ?_
 refine Ops.ef rfl (ef_boxK rfl rfl) ?_
 rintro _ _ ⟨b1, rfl, rfl⟩
 refine Ops.ef rfl (ef_boxK rfl rfl) ?_
 rintro _ _ ⟨b2, rfl, rfl⟩
 refine Ops.ef rfl (ef_allocK tyZ24 rfl) ?_
 rintro _ _ ⟨b3, rfl, rfl⟩
 refine Ops.pv (pv_assign rfl) rfl ?_
 refine Ops.nil ?_
 refine Ends.seq ?_
 refine Wp.seq ?_
 refine Wp.region ?_
 refine Ops.pv (pv_move rfl) rfl ?_
 refine Ops.pv (pv_loadK [_, _] rfl rfl rfl ⟨rfl, rfl, trivial⟩) rfl ?_
 refine Ops.ef rfl (ef_callr (tr_mSource n cb L p hH so) rfl rfl) ?_
 rintro _ _ ⟨rfl, rfl⟩
 refine Ops.pv (pv_move rfl) rfl ?_
 refine Ops.pv (pv_extract rfl rfl) rfl ?_
 refine Ops.pv (pv_extract rfl rfl) rfl ?_
 refine Ops.ef rfl (ef_allocK tyZ24 rfl) ?_
 rintro _ _ ⟨b4, rfl, rfl⟩
 refine Ops.ef rfl (ef_storeK rfl rfl rfl rfl) ?_
 rintro _ _ ⟨rfl, rfl⟩
 refine Ops.pv (pv_assign rfl) rfl ?_
 refine Ops.nil ?_
 refine Ends.seq ?_
 refine Wp.seq ?_
 refine Wp.seq ?_
 refine Wp.region ?_
 refine Ops.pv (pv_move rfl) rfl ?_
 refine Ops.pv (pv_eql rfl rfl) rfl ?_
 refine Ops.nil ?_
 refine Ends.seq ?_
 refine Wp.cond_dect rfl (fun h1 => ?_) (fun h1 => ?_)
 ·
  refine Wp.region ?_
  refine Ops.pv (pv_move rfl) rfl ?_
  refine Ops.pv (pv_loadK [_, _] rfl rfl rfl ⟨rfl, rfl, trivial⟩) rfl ?_
  refine Ops.ef rfl (ef_callr (tr_mPlace n cb L p hH de) rfl rfl) ?_
  rintro _ _ ⟨rfl, rfl⟩
  refine Ops.pv (pv_assign rfl) rfl ?_
  refine Ops.nil ?_
  refine Ends.seq ?_
  refine Wp.seq ?_
  refine Wp.region ?_
  refine Ops.pv (pv_loadK [_, _, _, _, _, _] rfl rfl rfl ⟨rfl, rfl, rfl, rfl, rfl, rfl, trivial⟩) rfl ?_
  refine Ops.pv (pv_move rfl) rfl ?_
  refine Ops.ef rfl (ef_storeK rfl rfl rfl rfl) ?_
  rintro _ _ ⟨rfl, rfl⟩
  refine Ops.pv (pv_assign rfl) rfl ?_
  refine Ops.nil ?_
  refine Ends.seq ?_
  refine Wp.ret ?_
  have he : mBoth p so de = ((mSource p so).1, mPlace p de) := by unfold mBoth; rw [if_pos (by assumption)]
  exact Ends.ret (res_list (rs := [.cell 6 24, .tmp 7]) rfl ⟨_, _, rfl, rv_cellK [_, _, _, _, _, _] rfl rfl rfl ⟨rfl, rfl, rfl, rfl, rfl, rfl, trivial⟩, ⟨_, _, rfl, rv_tmp rfl, rfl⟩⟩ rfl) ⟨by rw [he], rfl⟩
 refine Wp.skip ?_
 refine Ends.seq ?_
 refine Wp.seq ?_
 refine Wp.region ?_
 refine Ops.pv (pv_loadK [_, _, _, _, _, _] rfl rfl rfl ⟨rfl, rfl, rfl, rfl, rfl, rfl, trivial⟩) rfl ?_
 refine Ops.pv (pv_move rfl) rfl ?_
 refine Ops.ef rfl (ef_storeK rfl rfl rfl rfl) ?_
 rintro _ _ ⟨rfl, rfl⟩
 refine Ops.pv (pv_assign rfl) rfl ?_
 refine Ops.nil ?_
 refine Ends.seq ?_
 refine Wp.ret ?_
 have he : mBoth p so de = ((mSource p so).1, (mSource p so).2) := by unfold mBoth; rw [if_neg (by assumption)]
 exact Ends.ret (res_list (rs := [.cell 6 24, .tmp 7]) rfl ⟨_, _, rfl, rv_cellK [_, _, _, _, _, _] rfl rfl rfl ⟨rfl, rfl, rfl, rfl, rfl, rfl, trivial⟩, ⟨_, _, rfl, rv_tmp rfl, rfl⟩⟩ rfl) ⟨by rw [he], rfl⟩
theorem tr_mKin (n cb : Nat) (L : Hp) (p : PS) (hH : CapsH n p cb L) (hn : n ≤ 2 ^ 19) (so : SlotM) : Tr Try.prog 18 [cpP cb, slotV so] (L) (fun u L' => ∃ K, Slc 38 2 u (ftKin p.F so).length (slotsCells (ftKin p.F so)) K ∧ L' = K ++ L) := by
 obtain ⟨sb, tb, Ls, Lt, hS, hT, rfl⟩ := hH
 refine Tr.enter Try.func18 rfl Try.ntmps18 rfl (fun W F => ?_)
 refine Wp.app ?_
 refine Wp.seq ?_
 refine Wp.region ?_
 refine Ops.ef rfl (ef_boxK rfl rfl) ?_
 rintro _ _ ⟨b1, rfl, rfl⟩
 refine Ops.pv (pv_assign rfl) rfl ?_
 refine Ops.nil ?_
 refine Ends.seq ?_
 refine Wp.seq ?_
 refine AnyH.start ((b1, .cells [.int .i64 so.1, .int .i64 so.2].toArray 38) :: cBlk cb sb tb :: []) 7 rfl ?_
 refine Tk 0 rfl rfl (pv_move rfl) rfl ?_
 refine Tk 1 rfl rfl (pv_nilCheck rfl) rfl ?_
 refine Tk 2 rfl rfl (pv_fieldAddr0 rfl rfl) rfl ?_
 refine Tk 3 rfl rfl (pv_load rfl rfl rfl) rfl ?_
 refine Tk 4 rfl rfl (pv_loadK [_, _] rfl rfl rfl ⟨rfl, rfl, trivial⟩) rfl ?_
 refine AnyH.one 5 (by kernel_rfl) ?_
 refine Turn.ef rfl rfl (ef_call (tr_fKin hT (by omega) so) rfl rfl) ?_ ?_
 ·
  rintro _ _ ⟨_, _, ⟨C1, hc1, rfl⟩, rfl, rfl⟩; infer_instance
 rintro _ _ ⟨_, _, ⟨C1, hc1, rfl⟩, rfl, rfl⟩
 refine AnyH.app ?_
 obtain ⟨pp1, qq1, rfl⟩ := hc1.form
 refine Tk 6 rfl rfl (pv_assign rfl) rfl ?_
 refine AnyH.done (by kernel_rfl) ?_
 refine Ends.seq ?_
 refine Wp.ret ?_
 exact Ends.ret (L' := C1 ++ (cBlk cb sb tb :: (Ls ++ Lt))) (res1 rfl rfl) ⟨C1, hc1, rfl⟩
theorem tr_mPlant (n cb : Nat) (L : Hp) (p : PS) (hH : CapsH n p cb L) (so : SlotM) (c : CapM) : Tr Try.prog 15 [cpP cb, slotV so, c.v] (L) (fun u L' => u = .int .i64 (mPlant p so c).1 ∧ CapsH (n + 1) (mPlant p so c).2 cb L') := by
 obtain ⟨sb, tb, Ls, Lt, hS, hT, rfl⟩ := hH
 refine Tr.enter Try.func15 rfl Try.ntmps15 rfl (fun W F => ?_)
 refine Wp.app ?_
 refine Wp.seq ?_
 refine Wp.region ?_
 refine Ops.ef rfl (ef_boxK rfl rfl) ?_
 rintro _ _ ⟨b1, rfl, rfl⟩
 refine Ops.ef rfl (ef_boxK rfl rfl) ?_
 rintro _ _ ⟨b2, rfl, rfl⟩
 refine Ops.pv (pv_assign rfl) rfl ?_
 refine Ops.nil ?_
 refine Ends.seq ?_
 refine Wp.seq ?_
 refine AnyH.start ((b2, .cells c.cells.toArray 24) :: (b1, .cells [.int .i64 so.1, .int .i64 so.2].toArray 38) :: cBlk cb sb tb :: []) 9 rfl ?_
 refine Tk 0 rfl rfl (pv_move rfl) rfl ?_
 refine Tk 1 rfl rfl (pv_nilCheck rfl) rfl ?_
 refine Tk 2 rfl rfl (pv_fieldAddr0 rfl rfl) rfl ?_
 refine Tk 3 rfl rfl (pv_fieldAddr0 rfl rfl) rfl ?_
 refine Tk 4 rfl rfl (pv_load rfl rfl rfl) rfl ?_
 refine Tk 5 rfl rfl (pv_loadK [_, _] rfl rfl rfl ⟨rfl, rfl, trivial⟩) rfl ?_
 refine Tk 6 rfl rfl (pv_loadK [_, _, _, _, _, _] rfl rfl rfl ⟨rfl, rfl, rfl, rfl, rfl, rfl, trivial⟩) rfl ?_
 refine AnyH.one 7 (by kernel_rfl) ?_
 refine Turn.ef rfl rfl (ef_call (sf_put hS so c) rfl rfl) ?_ ?_
 ·
  rintro _ _ ⟨_, Q1, ⟨rfl, hS2⟩, rfl, rfl⟩; infer_instance
 rintro _ _ ⟨_, Q1, ⟨rfl, hS2⟩, rfl, rfl⟩
 refine AnyH.app ?_
 skip
 refine Tk 8 rfl rfl (pv_assign rfl) rfl ?_
 refine AnyH.done (by kernel_rfl) ?_
 refine Ends.seq ?_
 refine Wp.seq ?_
 refine Wp.seq ?_
 refine Wp.region ?_
 refine Ops.pv (pv_move rfl) rfl ?_
 refine Ops.pv (pv_eql rfl rfl) rfl ?_
 refine Ops.nil ?_
 refine Ends.seq ?_
 refine Wp.cond_dect rfl (fun h1 => ?_) (fun h1 => ?_)
 ·
  refine AnyH.start ((b1, .cells [.int .i64 so.1, .int .i64 so.2].toArray 38) :: cBlk cb sb tb :: []) 6 rfl ?_
  refine Tk 0 rfl rfl (pv_move rfl) rfl ?_
  refine Tk 1 rfl rfl (pv_nilCheck rfl) rfl ?_
  refine Tk 2 rfl rfl (pv_fieldAddr0 rfl rfl) rfl ?_
  refine Tk 3 rfl rfl (pv_load rfl rfl rfl) rfl ?_
  refine Tk 4 rfl rfl (pv_loadK [_, _] rfl rfl rfl ⟨rfl, rfl, trivial⟩) rfl ?_
  refine AnyH.one 5 (by kernel_rfl) ?_
  refine Turn.ef rfl rfl (ef_call (tr_fRoot hT so) rfl rfl) ?_ ?_
  ·
   rintro _ _ ⟨_, R1, ⟨rfl, hT2⟩, rfl, rfl⟩; infer_instance
  rintro _ _ ⟨_, R1, ⟨rfl, hT2⟩, rfl, rfl⟩
  refine AnyH.app ?_
  skip
  refine AnyH.done (by kernel_rfl) ?_
  refine Ends.seq ?_
  refine Wp.seq ?_
  refine Wp.region ?_
  refine Ops.pv (pv_move rfl) rfl ?_
  refine Ops.pv (pv_assign rfl) rfl ?_
  refine Ops.nil ?_
  refine Ends.seq ?_
  refine Wp.ret ?_
  have he : mPlant p so c = ((dput p.l so c).1, ⟨(dput p.l so c).2, (ftRoot p.F so).2⟩) := by unfold mPlant; rw [if_pos (by assumption)]
  rw [he]
  exact Ends.ret (L' := cBlk cb sb tb :: (Q1 ++ R1)) (res1 rfl rfl) ⟨rfl, sb, tb, Q1, R1, hS2, hT2, rfl⟩
 refine Wp.skip ?_
 refine Ends.seq ?_
 refine Wp.seq ?_
 refine Wp.region ?_
 refine Ops.pv (pv_move rfl) rfl ?_
 refine Ops.pv (pv_assign rfl) rfl ?_
 refine Ops.nil ?_
 refine Ends.seq ?_
 refine Wp.ret ?_
 have he : mPlant p so c = ((dput p.l so c).1, ⟨(dput p.l so c).2, p.F⟩) := by unfold mPlant; rw [if_neg (by assumption)]
 rw [he]
 exact Ends.ret (L' := cBlk cb sb tb :: (Q1 ++ Lt)) (res1 rfl rfl) ⟨rfl, sb, tb, Q1, Lt, hS2, hT.more (by omega), rfl⟩
theorem tr_mChild (n cb : Nat) (L : Hp) (p : PS) (hH : CapsH n p cb L) (hn : n ≤ 2 ^ 19) (so de : SlotM) (c : CapM) : Tr Try.prog 24 [cpP cb, slotV so, slotV de, c.v] (L) (fun u L' => u = .int .i64 (mChild p so de c).1 ∧ CapsH (n + 1) (mChild p so de c).2 cb L') := by
 have hH0 := hH
 obtain ⟨sb, tb, Ls, Lt, hS, hT, rfl⟩ := hH
 refine Tr.enter Try.func24 rfl Try.ntmps24 rfl (fun W F => ?_)
 refine Wp.app ?_
 refine Wp.seq ?_
 refine Wp.region ?_
 refine Ops.ef rfl (ef_boxK rfl rfl) ?_
 rintro _ _ ⟨b1, rfl, rfl⟩
 refine Ops.ef rfl (ef_boxK rfl rfl) ?_
 rintro _ _ ⟨b2, rfl, rfl⟩
 refine Ops.ef rfl (ef_boxK rfl rfl) ?_
 rintro _ _ ⟨b3, rfl, rfl⟩
 refine Ops.pv (pv_assign rfl) rfl ?_
 refine Ops.nil ?_
 refine Ends.seq ?_
 refine Wp.seq ?_
 refine Wp.seq ?_
 refine Wp.region ?_
 refine Ops.pv (pv_move rfl) rfl ?_
 refine Ops.pv (pv_loadK [_, _] rfl rfl rfl ⟨rfl, rfl, trivial⟩) rfl ?_
 refine Ops.pv (pv_loadK [_, _] rfl rfl rfl ⟨rfl, rfl, trivial⟩) rfl ?_
 refine Ops.ef rfl (ef_callr (tr_mBoth n cb (cBlk cb sb tb :: (Ls ++ Lt)) p hH0 so de) rfl rfl) ?_
 rintro _ _ ⟨rfl, rfl⟩
 refine Ops.pv (pv_move rfl) rfl ?_
 refine Ops.pv (pv_extract rfl rfl) rfl ?_
 refine Ops.pv (pv_extract rfl rfl) rfl ?_
 refine Ops.ef rfl (ef_allocK tyZ24 rfl) ?_
 rintro _ _ ⟨b4, rfl, rfl⟩
 refine Ops.ef rfl (ef_storeK rfl rfl rfl rfl) ?_
 rintro _ _ ⟨rfl, rfl⟩
 refine Ops.pv (pv_assign rfl) rfl ?_
 refine Ops.nil ?_
 refine Ends.seq ?_
 refine Wp.seq ?_
 refine Wp.region ?_
 refine Ops.pv (pv_move rfl) rfl ?_
 refine Ops.pv (pv_neq rfl rfl) rfl ?_
 refine Ops.nil ?_
 refine Ends.seq ?_
 refine Wp.cond_dect rfl (fun h1 => ?_) (fun h1 => ?_)
 ·
  refine Wp.seq ?_
  refine Wp.region ?_
  refine Ops.pv (pv_move rfl) rfl ?_
  refine Ops.pv (pv_assign rfl) rfl ?_
  refine Ops.nil ?_
  refine Ends.seq ?_
  refine Wp.ret ?_
  refine Ends.then_ret ?_
  have he : mChild p so de c = ((mBoth p so de).2, p) := by unfold mChild; rw [if_pos (by assumption)]
  rw [he]
  exact Ends.ret (L' := (cBlk cb sb tb :: (Ls ++ Lt))) (res1 rfl rfl) ⟨rfl, sb, tb, Ls, Lt, hS, hT.more (by omega), rfl⟩
 refine Wp.skip ?_
 refine Ends.seq ?_
 refine Wp.seq ?_
 refine AnyH.start ((b3, .cells c.cells.toArray 24) :: (b2, .cells [.int .i64 de.1, .int .i64 de.2].toArray 38) :: cBlk cb sb tb :: []) 9 rfl ?_
 refine Tk 0 rfl rfl (pv_move rfl) rfl ?_
 refine Tk 1 rfl rfl (pv_nilCheck rfl) rfl ?_
 refine Tk 2 rfl rfl (pv_fieldAddr0 rfl rfl) rfl ?_
 refine Tk 3 rfl rfl (pv_fieldAddr0 rfl rfl) rfl ?_
 refine Tk 4 rfl rfl (pv_load rfl rfl rfl) rfl ?_
 refine Tk 5 rfl rfl (pv_loadK [_, _] rfl rfl rfl ⟨rfl, rfl, trivial⟩) rfl ?_
 refine Tk 6 rfl rfl (pv_loadK [_, _, _, _, _, _] rfl rfl rfl ⟨rfl, rfl, rfl, rfl, rfl, rfl, trivial⟩) rfl ?_
 refine AnyH.one 7 (by kernel_rfl) ?_
 refine Turn.ef rfl rfl (ef_call (sf_put hS de c) rfl rfl) ?_ ?_
 ·
  rintro _ _ ⟨_, Q1, ⟨rfl, hS2⟩, rfl, rfl⟩; infer_instance
 rintro _ _ ⟨_, Q1, ⟨rfl, hS2⟩, rfl, rfl⟩
 refine AnyH.app ?_
 skip
 refine Tk 8 rfl rfl (pv_assign rfl) rfl ?_
 refine AnyH.done (by kernel_rfl) ?_
 refine Ends.seq ?_
 refine Wp.seq ?_
 refine Wp.seq ?_
 refine Wp.region ?_
 refine Ops.pv (pv_move rfl) rfl ?_
 refine Ops.pv (pv_eql rfl rfl) rfl ?_
 refine Ops.nil ?_
 refine Ends.seq ?_
 refine Wp.cond_dect rfl (fun h2 => ?_) (fun h2 => ?_)
 ·
  refine AnyH.start ((b2, .cells [.int .i64 de.1, .int .i64 de.2].toArray 38) :: (b1, .cells [.int .i64 so.1, .int .i64 so.2].toArray 38) :: cBlk cb sb tb :: []) 7 rfl ?_
  refine Tk 0 rfl rfl (pv_move rfl) rfl ?_
  refine Tk 1 rfl rfl (pv_nilCheck rfl) rfl ?_
  refine Tk 2 rfl rfl (pv_fieldAddr0 rfl rfl) rfl ?_
  refine Tk 3 rfl rfl (pv_load rfl rfl rfl) rfl ?_
  refine Tk 4 rfl rfl (pv_loadK [_, _] rfl rfl rfl ⟨rfl, rfl, trivial⟩) rfl ?_
  refine Tk 5 rfl rfl (pv_loadK [_, _] rfl rfl rfl ⟨rfl, rfl, trivial⟩) rfl ?_
  refine AnyH.one 6 (by kernel_rfl) ?_
  refine Turn.ef rfl rfl (ef_call (tr_fChild hT (by omega) so de) rfl rfl) ?_ ?_
  ·
   rintro _ _ ⟨_, R1, ⟨rfl, hT2⟩, rfl, rfl⟩; infer_instance
  rintro _ _ ⟨_, R1, ⟨rfl, hT2⟩, rfl, rfl⟩
  refine AnyH.app ?_
  skip
  refine AnyH.done (by kernel_rfl) ?_
  refine Ends.seq ?_
  refine Wp.seq ?_
  refine Wp.region ?_
  refine Ops.pv (pv_move rfl) rfl ?_
  refine Ops.pv (pv_assign rfl) rfl ?_
  refine Ops.nil ?_
  refine Ends.seq ?_
  refine Wp.ret ?_
  have he : mChild p so de c = ((dput p.l de c).1, ⟨(dput p.l de c).2, (ftChild p.F so de).2⟩) := by unfold mChild; rw [if_neg (by assumption), if_pos (by assumption)]
  rw [he]
  exact Ends.ret (L' := cBlk cb sb tb :: (Q1 ++ R1)) (res1 rfl rfl) ⟨rfl, sb, tb, Q1, R1, hS2, hT2, rfl⟩
 refine Wp.skip ?_
 refine Ends.seq ?_
 refine Wp.seq ?_
 refine Wp.region ?_
 refine Ops.pv (pv_move rfl) rfl ?_
 refine Ops.pv (pv_assign rfl) rfl ?_
 refine Ops.nil ?_
 refine Ends.seq ?_
 refine Wp.ret ?_
 have he : mChild p so de c = ((dput p.l de c).1, ⟨(dput p.l de c).2, p.F⟩) := by unfold mChild; rw [if_neg (by assumption), if_neg (by assumption)]
 rw [he]
 exact Ends.ret (L' := cBlk cb sb tb :: (Q1 ++ Lt)) (res1 rfl rfl) ⟨rfl, sb, tb, Q1, Lt, hS2, hT.more (by omega), rfl⟩
theorem CapsH.more {n m cb : Nat} {L : Hp} {p : PS} (h : CapsH n p cb L) (hm : n ≤ m) : CapsH m p cb L := by
 obtain ⟨sb, tb, Ls, Lt, hS, hT, rfl⟩ := h
 exact ⟨sb, tb, Ls, Lt, hS, hT.more hm, rfl⟩
theorem tr_mMint (n cb : Nat) (L : Hp) (p : PS) (hH : CapsH n p cb L) (hn : n ≤ 2 ^ 19) (so de : SlotM) (r bd g k : Int) : Tr Try.prog 25 [cpP cb, slotV so, slotV de, .int .i64 r, .int .u64 bd, .int .u64 g, .int .i64 k] (L) (fun u L' => u = .int .i64 (mMint p so de r bd g k).1 ∧ CapsH (n + 1) (mMint p so de r bd g k).2 cb L') := by
 refine Tr.enter Try.func25 rfl Try.ntmps25 rfl (fun W F => ?_)
 refine Wp.app ?_
 refine Wp.seq ?_
 refine Wp.region ?_
 refine Ops.ef rfl (ef_boxK rfl rfl) ?_
 rintro _ _ ⟨b1, rfl, rfl⟩
 refine Ops.ef rfl (ef_boxK rfl rfl) ?_
 rintro _ _ ⟨b2, rfl, rfl⟩
 refine Ops.pv (pv_assign rfl) rfl ?_
 refine Ops.nil ?_
 refine Ends.seq ?_
 refine Wp.seq ?_
 refine Wp.region ?_
 refine Ops.pv (pv_move rfl) rfl ?_
 refine Ops.pv (pv_loadK [_, _] rfl rfl rfl ⟨rfl, rfl, trivial⟩) rfl ?_
 refine Ops.pv (pv_loadK [_, _] rfl rfl rfl ⟨rfl, rfl, trivial⟩) rfl ?_
 refine Ops.ef rfl (ef_callr (tr_mBoth n cb L p hH so de) rfl rfl) ?_
 rintro _ _ ⟨rfl, rfl⟩
 refine Ops.pv (pv_move rfl) rfl ?_
 refine Ops.pv (pv_extract rfl rfl) rfl ?_
 refine Ops.pv (pv_extract rfl rfl) rfl ?_
 refine Ops.ef rfl (ef_allocK tyZ24 rfl) ?_
 rintro _ _ ⟨b3, rfl, rfl⟩
 refine Ops.ef rfl (ef_storeK rfl rfl rfl rfl) ?_
 rintro _ _ ⟨rfl, rfl⟩
 refine Ops.pv (pv_assign rfl) rfl ?_
 refine Ops.nil ?_
 refine Ends.seq ?_
 refine Wp.seq ?_
 refine Wp.seq ?_
 refine Wp.region ?_
 refine Ops.pv (pv_move rfl) rfl ?_
 refine Ops.pv (pv_neq rfl rfl) rfl ?_
 refine Ops.nil ?_
 refine Ends.seq ?_
 refine Wp.cond_dect rfl (fun h1 => ?_) (fun h1 => ?_)
 ·
  refine Wp.seq ?_
  refine Wp.region ?_
  refine Ops.pv (pv_move rfl) rfl ?_
  refine Ops.pv (pv_assign rfl) rfl ?_
  refine Ops.nil ?_
  refine Ends.seq ?_
  refine Wp.ret ?_
  refine Ends.then_ret ?_
  have he : mMint p so de r bd g k = ((mBoth p so de).2, p) := by unfold mMint; rw [if_pos (by assumption)]
  rw [he]
  exact Ends.ret (L' := L) (res1 rfl rfl) ⟨rfl, hH.more (by omega)⟩
 refine Wp.skip ?_
 refine Ends.seq ?_
 refine Wp.seq ?_
 refine Wp.region ?_
 refine Ops.pv (pv_loadK [_, _, _, _, _, _] rfl rfl rfl ⟨rfl, rfl, rfl, rfl, rfl, rfl, trivial⟩) rfl ?_
 refine Ops.pv (pv_move rfl) rfl ?_
 refine Ops.pv (pv_move rfl) rfl ?_
 refine Ops.pv (pv_move rfl) rfl ?_
 refine Ops.pv (pv_move rfl) rfl ?_
 refine Ops.ef rfl (ef_callr (tr_derive (mBoth p so de).1 r bd g k) rfl rfl) ?_
 rintro _ _ ⟨rfl, rfl⟩
 refine Ops.pv (pv_move rfl) rfl ?_
 refine Ops.pv (pv_extract rfl rfl) rfl ?_
 refine Ops.pv (pv_extract rfl rfl) rfl ?_
 refine Ops.ef rfl (ef_allocK tyZ24 rfl) ?_
 rintro _ _ ⟨b4, rfl, rfl⟩
 refine Ops.ef rfl (ef_storeK rfl rfl rfl rfl) ?_
 rintro _ _ ⟨rfl, rfl⟩
 refine Ops.pv (pv_assign rfl) rfl ?_
 refine Ops.nil ?_
 refine Ends.seq ?_
 refine Wp.seq ?_
 refine Wp.seq ?_
 refine Wp.region ?_
 refine Ops.pv (pv_move rfl) rfl ?_
 refine Ops.pv (pv_neq rfl rfl) rfl ?_
 refine Ops.nil ?_
 refine Ends.seq ?_
 refine Wp.cond_dect rfl (fun h2 => ?_) (fun h2 => ?_)
 ·
  refine Wp.seq ?_
  refine Wp.region ?_
  refine Ops.pv (pv_move rfl) rfl ?_
  refine Ops.pv (pv_assign rfl) rfl ?_
  refine Ops.nil ?_
  refine Ends.seq ?_
  refine Wp.ret ?_
  refine Ends.then_ret ?_
  have he : mMint p so de r bd g k = ((derive (mBoth p so de).1 r bd g k).2, p) := by unfold mMint; rw [if_neg (by assumption), if_pos (by assumption)]
  rw [he]
  exact Ends.ret (L' := L) (res1 rfl rfl) ⟨rfl, hH.more (by omega)⟩
 refine Wp.skip ?_
 refine Ends.seq ?_
 refine Wp.seq ?_
 refine Wp.region ?_
 refine Ops.pv (pv_move rfl) rfl ?_
 refine Ops.pv (pv_loadK [_, _] rfl rfl rfl ⟨rfl, rfl, trivial⟩) rfl ?_
 refine Ops.pv (pv_loadK [_, _] rfl rfl rfl ⟨rfl, rfl, trivial⟩) rfl ?_
 refine Ops.pv (pv_loadK [_, _, _, _, _, _] rfl rfl rfl ⟨rfl, rfl, rfl, rfl, rfl, rfl, trivial⟩) rfl ?_
 refine Ops.ef rfl (ef_call (tr_mChild n cb L p hH hn so de (derive (mBoth p so de).1 r bd g k).1) rfl rfl) ?_
 rintro _ _ ⟨_, Q1, ⟨rfl, hH2⟩, rfl, rfl⟩
 refine Ops.app ?_
 skip
 refine Ops.pv (pv_assign rfl) rfl ?_
 refine Ops.nil ?_
 refine Ends.seq ?_
 refine Wp.ret ?_
 have he : mMint p so de r bd g k = mChild p so de (derive (mBoth p so de).1 r bd g k).1 := by unfold mMint; rw [if_neg (by assumption), if_neg (by assumption)]
 rw [he]
 exact Ends.ret (L' := Q1) (res1 rfl rfl) ⟨rfl, hH2⟩
theorem tr_mCopy (n cb : Nat) (L : Hp) (p : PS) (hH : CapsH n p cb L) (hn : n ≤ 2 ^ 19) (so de : SlotM) (r : Int) : Tr Try.prog 17 [cpP cb, slotV so, slotV de, .int .i64 r] (L) (fun u L' => u = .int .i64 (mCopy p so de r).1 ∧ CapsH (n + 1) (mCopy p so de r).2 cb L') := by
 have hH0 := hH
 obtain ⟨sb, tb, Ls, Lt, hS, hT, rfl⟩ := hH
 refine Tr.enter Try.func17 rfl Try.ntmps17 rfl (fun W F => ?_)
 refine Wp.app ?_
 refine Wp.seq ?_
 refine Wp.region ?_
 refine Ops.ef rfl (ef_boxK rfl rfl) ?_
 rintro _ _ ⟨b1, rfl, rfl⟩
 refine Ops.ef rfl (ef_boxK rfl rfl) ?_
 rintro _ _ ⟨b2, rfl, rfl⟩
 refine Ops.pv (pv_assign rfl) rfl ?_
 refine Ops.nil ?_
 refine Ends.seq ?_
 refine Wp.seq ?_
 refine AnyH.start ((b1, .cells [.int .i64 so.1, .int .i64 so.2].toArray 38) :: cBlk cb sb tb :: []) 13 rfl ?_
 refine Tk 0 rfl rfl (pv_move rfl) rfl ?_
 refine Tk 1 rfl rfl (pv_nilCheck rfl) rfl ?_
 refine Tk 2 rfl rfl (pv_fieldAddr0 rfl rfl) rfl ?_
 refine Tk 3 rfl rfl (pv_fieldAddr0 rfl rfl) rfl ?_
 refine Tk 4 rfl rfl (pv_load rfl rfl rfl) rfl ?_
 refine Tk 5 rfl rfl (pv_loadK [_, _] rfl rfl rfl ⟨rfl, rfl, trivial⟩) rfl ?_
 refine AnyH.two 6 10 (by kernel_rfl) ?_ ?_
 ·
  refine Turn.ef rfl rfl (ef_callr (sf_get hS so) rfl rfl) ?_ ?_
  ·
   rintro _ _ ⟨rfl, rfl⟩; infer_instance
  rintro _ _ ⟨rfl, rfl⟩
  refine Tk 7 rfl rfl (pv_move rfl) rfl ?_
  refine Tk 8 rfl rfl (pv_extract rfl rfl) rfl ?_
  refine Tk 9 rfl rfl (pv_extract rfl rfl) rfl ?_
  refine AnyH.one 10 (by kernel_rfl) ?_
  refine Turn.ef rfl rfl (ef_allocK tyZ24 rfl) ?_ ?_
  ·
   rintro _ _ ⟨b3, rfl, rfl⟩; infer_instance
  rintro _ _ ⟨b3, rfl, rfl⟩
  refine AnyH.one 11 (by kernel_rfl) ?_
  refine Turn.ef rfl rfl (ef_storeK rfl rfl rfl rfl) ?_ ?_
  ·
   rintro _ _ ⟨rfl, rfl⟩; infer_instance
  rintro _ _ ⟨rfl, rfl⟩
  refine Tk 12 rfl rfl (pv_assign rfl) rfl ?_
  refine AnyH.done (by kernel_rfl) ?_
  refine Ends.seq ?_
  refine Wp.seq ?_
  refine Wp.region ?_
  refine Ops.pv (pv_move rfl) rfl ?_
  refine Ops.pv (pv_loadK [_, _] rfl rfl rfl ⟨rfl, rfl, trivial⟩) rfl ?_
  refine Ops.pv (pv_loadK [_, _] rfl rfl rfl ⟨rfl, rfl, trivial⟩) rfl ?_
  refine Ops.pv (pv_move rfl) rfl ?_
  refine Ops.pv (pv_fieldAddr0 rfl rfl) rfl ?_
  refine Ops.pv (pv_load rfl rfl rfl) rfl ?_
  refine Ops.pv (pv_fieldAddr0 rfl rfl) rfl ?_
  refine Ops.pv (pv_load rfl rfl rfl) rfl ?_
  refine Ops.ef rfl (ef_call (tr_mMint n cb (cBlk cb sb tb :: (Ls ++ Lt)) p hH0 hn so de r 0 (dget p.l so).1.guard (dget p.l so).1.bits) rfl rfl) ?_
  rintro _ _ ⟨_, Q1, ⟨rfl, hH2⟩, rfl, rfl⟩
  refine Ops.app ?_
  skip
  refine Ops.pv (pv_assign rfl) rfl ?_
  refine Ops.nil ?_
  refine Ends.seq ?_
  refine Wp.ret ?_
  exact Ends.ret (L' := Q1) (res1 rfl rfl) ⟨rfl, hH2⟩
 refine Turn.ef rfl rfl (ef_allocK tyZ24 rfl) ?_ ?_
 ·
  rintro _ _ ⟨b4, rfl, rfl⟩; infer_instance
 rintro _ _ ⟨b4, rfl, rfl⟩
 refine AnyH.one 6 (by kernel_rfl) ?_
 refine Turn.ef rfl rfl (ef_callr (sf_get hS so) rfl rfl) ?_ ?_
 ·
  rintro _ _ ⟨rfl, rfl⟩; infer_instance
 rintro _ _ ⟨rfl, rfl⟩
 refine Tk 7 rfl rfl (pv_move rfl) rfl ?_
 refine Tk 8 rfl rfl (pv_extract rfl rfl) rfl ?_
 refine Tk 9 rfl rfl (pv_extract rfl rfl) rfl ?_
 refine AnyH.one 11 (by kernel_rfl) ?_
 refine Turn.ef rfl rfl (ef_storeK rfl rfl rfl rfl) ?_ ?_
 ·
  rintro _ _ ⟨rfl, rfl⟩; infer_instance
 rintro _ _ ⟨rfl, rfl⟩
 refine Tk 12 rfl rfl (pv_assign rfl) rfl ?_
 refine AnyH.done (by kernel_rfl) ?_
 refine Ends.seq ?_
 refine Wp.seq ?_
 refine Wp.region ?_
 refine Ops.pv (pv_move rfl) rfl ?_
 refine Ops.pv (pv_loadK [_, _] rfl rfl rfl ⟨rfl, rfl, trivial⟩) rfl ?_
 refine Ops.pv (pv_loadK [_, _] rfl rfl rfl ⟨rfl, rfl, trivial⟩) rfl ?_
 refine Ops.pv (pv_move rfl) rfl ?_
 refine Ops.pv (pv_fieldAddr0 rfl rfl) rfl ?_
 refine Ops.pv (pv_load rfl rfl rfl) rfl ?_
 refine Ops.pv (pv_fieldAddr0 rfl rfl) rfl ?_
 refine Ops.pv (pv_load rfl rfl rfl) rfl ?_
 refine Ops.ef rfl (ef_call (tr_mMint n cb (cBlk cb sb tb :: (Ls ++ Lt)) p hH0 hn so de r 0 (dget p.l so).1.guard (dget p.l so).1.bits) rfl rfl) ?_
 rintro _ _ ⟨_, Q2, ⟨rfl, hH2⟩, rfl, rfl⟩
 refine Ops.app ?_
 skip
 refine Ops.pv (pv_assign rfl) rfl ?_
 refine Ops.nil ?_
 refine Ends.seq ?_
 refine Wp.ret ?_
 exact Ends.ret (L' := Q2) (res1 rfl rfl) ⟨rfl, hH2⟩
theorem tr_mCarry (n cb : Nat) (L : Hp) (p : PS) (hH : CapsH n p cb L) (so de : SlotM) (c : CapM) : Tr Try.prog 49 [cpP cb, slotV so, slotV de, c.v] (L) (fun u L' => u = .tuple #[] ∧ CapsH n (mCarry p so de c) cb L') := by
 obtain ⟨sb, tb, Ls, Lt, hS, hT, rfl⟩ := hH
 refine Tr.enter Try.func49 rfl Try.ntmps49 rfl (fun W F => ?_)
 refine Wp.app ?_
 refine Wp.seq ?_
 refine Wp.region ?_
 refine Ops.ef rfl (ef_boxK rfl rfl) ?_
 rintro _ _ ⟨b1, rfl, rfl⟩
 refine Ops.ef rfl (ef_boxK rfl rfl) ?_
 rintro _ _ ⟨b2, rfl, rfl⟩
 refine Ops.ef rfl (ef_boxK rfl rfl) ?_
 rintro _ _ ⟨b3, rfl, rfl⟩
 refine Ops.nil ?_
 refine Ends.seq ?_
 refine Wp.seq ?_
 refine AnyH.start ((b1, .cells [.int .i64 so.1, .int .i64 so.2].toArray 38) :: cBlk cb sb tb :: []) 7 rfl ?_
 refine Tk 0 rfl rfl (pv_move rfl) rfl ?_
 refine Tk 1 rfl rfl (pv_nilCheck rfl) rfl ?_
 refine Tk 2 rfl rfl (pv_fieldAddr0 rfl rfl) rfl ?_
 refine Tk 3 rfl rfl (pv_fieldAddr0 rfl rfl) rfl ?_
 refine Tk 4 rfl rfl (pv_load rfl rfl rfl) rfl ?_
 refine Tk 5 rfl rfl (pv_loadK [_, _] rfl rfl rfl ⟨rfl, rfl, trivial⟩) rfl ?_
 refine AnyH.one 6 (by kernel_rfl) ?_
 refine Turn.ef rfl rfl (ef_call (sf_take hS so) rfl rfl) ?_ ?_
 ·
  rintro _ _ ⟨_, Q1, ⟨rfl, hS2⟩, rfl, rfl⟩; infer_instance
 rintro _ _ ⟨_, Q1, ⟨rfl, hS2⟩, rfl, rfl⟩
 refine AnyH.app ?_
 skip
 refine AnyH.done (by kernel_rfl) ?_
 refine Ends.seq ?_
 refine Wp.seq ?_
 refine AnyH.start ((b3, .cells c.cells.toArray 24) :: (b2, .cells [.int .i64 de.1, .int .i64 de.2].toArray 38) :: cBlk cb sb tb :: []) 8 rfl ?_
 refine Tk 0 rfl rfl (pv_move rfl) rfl ?_
 refine Tk 1 rfl rfl (pv_nilCheck rfl) rfl ?_
 refine Tk 2 rfl rfl (pv_fieldAddr0 rfl rfl) rfl ?_
 refine Tk 3 rfl rfl (pv_fieldAddr0 rfl rfl) rfl ?_
 refine Tk 4 rfl rfl (pv_load rfl rfl rfl) rfl ?_
 refine Tk 5 rfl rfl (pv_loadK [_, _] rfl rfl rfl ⟨rfl, rfl, trivial⟩) rfl ?_
 refine Tk 6 rfl rfl (pv_loadK [_, _, _, _, _, _] rfl rfl rfl ⟨rfl, rfl, rfl, rfl, rfl, rfl, trivial⟩) rfl ?_
 refine AnyH.one 7 (by kernel_rfl) ?_
 refine Turn.ef rfl rfl (ef_call (sf_put hS2 de c) rfl rfl) ?_ ?_
 ·
  rintro _ _ ⟨_, Q2, ⟨rfl, hS3⟩, rfl, rfl⟩; infer_instance
 rintro _ _ ⟨_, Q2, ⟨rfl, hS3⟩, rfl, rfl⟩
 refine AnyH.app ?_
 skip
 refine AnyH.done (by kernel_rfl) ?_
 refine Ends.seq ?_
 refine AnyH.start ((b2, .cells [.int .i64 de.1, .int .i64 de.2].toArray 38) :: (b1, .cells [.int .i64 so.1, .int .i64 so.2].toArray 38) :: cBlk cb sb tb :: []) 7 rfl ?_
 refine Tk 0 rfl rfl (pv_move rfl) rfl ?_
 refine Tk 1 rfl rfl (pv_nilCheck rfl) rfl ?_
 refine Tk 2 rfl rfl (pv_fieldAddr0 rfl rfl) rfl ?_
 refine Tk 3 rfl rfl (pv_load rfl rfl rfl) rfl ?_
 refine Tk 4 rfl rfl (pv_loadK [_, _] rfl rfl rfl ⟨rfl, rfl, trivial⟩) rfl ?_
 refine Tk 5 rfl rfl (pv_loadK [_, _] rfl rfl rfl ⟨rfl, rfl, trivial⟩) rfl ?_
 refine AnyH.one 6 (by kernel_rfl) ?_
 refine Turn.ef rfl rfl (ef_call (tr_fMove hT so de) rfl rfl) ?_ ?_
 ·
  rintro _ _ ⟨_, R1, ⟨rfl, hT2⟩, rfl, rfl⟩; infer_instance
 rintro _ _ ⟨_, R1, ⟨rfl, hT2⟩, rfl, rfl⟩
 refine AnyH.app ?_
 skip
 refine AnyH.done (by kernel_rfl) ?_
 exact Ends.fin (L' := cBlk cb sb tb :: (Q2 ++ R1)) (res0 rfl) ⟨rfl, sb, tb, Q2, R1, hS3, hT2, rfl⟩
theorem tr_mMove (n cb : Nat) (L : Hp) (p : PS) (hH : CapsH n p cb L) (so de : SlotM) : Tr Try.prog 19 [cpP cb, slotV so, slotV de] (L) (fun u L' => u = .int .i64 (mMove p so de).1 ∧ CapsH (n + 0) (mMove p so de).2 cb L') := by
 refine Tr.enter Try.func19 rfl Try.ntmps19 rfl (fun W F => ?_)
 refine Wp.app ?_
 refine Wp.seq ?_
 refine Wp.region ?_
 refine Ops.ef rfl (ef_boxK rfl rfl) ?_
 rintro _ _ ⟨b1, rfl, rfl⟩
 refine Ops.ef rfl (ef_boxK rfl rfl) ?_
 rintro _ _ ⟨b2, rfl, rfl⟩
 refine Ops.pv (pv_assign rfl) rfl ?_
 refine Ops.nil ?_
 refine Ends.seq ?_
 refine Wp.seq ?_
 refine Wp.region ?_
 refine Ops.pv (pv_move rfl) rfl ?_
 refine Ops.pv (pv_loadK [_, _] rfl rfl rfl ⟨rfl, rfl, trivial⟩) rfl ?_
 refine Ops.pv (pv_loadK [_, _] rfl rfl rfl ⟨rfl, rfl, trivial⟩) rfl ?_
 refine Ops.ef rfl (ef_callr (tr_mBoth n cb L p hH so de) rfl rfl) ?_
 rintro _ _ ⟨rfl, rfl⟩
 refine Ops.pv (pv_move rfl) rfl ?_
 refine Ops.pv (pv_extract rfl rfl) rfl ?_
 refine Ops.pv (pv_extract rfl rfl) rfl ?_
 refine Ops.ef rfl (ef_allocK tyZ24 rfl) ?_
 rintro _ _ ⟨b3, rfl, rfl⟩
 refine Ops.ef rfl (ef_storeK rfl rfl rfl rfl) ?_
 rintro _ _ ⟨rfl, rfl⟩
 refine Ops.pv (pv_assign rfl) rfl ?_
 refine Ops.nil ?_
 refine Ends.seq ?_
 refine Wp.seq ?_
 refine Wp.seq ?_
 refine Wp.region ?_
 refine Ops.pv (pv_move rfl) rfl ?_
 refine Ops.pv (pv_eql rfl rfl) rfl ?_
 refine Ops.nil ?_
 refine Ends.seq ?_
 refine Wp.cond_dect rfl (fun h1 => ?_) (fun h1 => ?_)
 ·
  refine Wp.region ?_
  refine Ops.pv (pv_move rfl) rfl ?_
  refine Ops.pv (pv_loadK [_, _] rfl rfl rfl ⟨rfl, rfl, trivial⟩) rfl ?_
  refine Ops.pv (pv_loadK [_, _] rfl rfl rfl ⟨rfl, rfl, trivial⟩) rfl ?_
  refine Ops.pv (pv_loadK [_, _, _, _, _, _] rfl rfl rfl ⟨rfl, rfl, rfl, rfl, rfl, rfl, trivial⟩) rfl ?_
  refine Ops.ef rfl (ef_call (tr_mCarry n cb L p hH so de (mBoth p so de).1) rfl rfl) ?_
  rintro _ _ ⟨_, Q1, ⟨rfl, hH2⟩, rfl, rfl⟩
  refine Ops.app ?_
  skip
  refine Ops.nil ?_
  refine Ends.seq ?_
  refine Wp.seq ?_
  refine Wp.region ?_
  refine Ops.pv (pv_move rfl) rfl ?_
  refine Ops.pv (pv_assign rfl) rfl ?_
  refine Ops.nil ?_
  refine Ends.seq ?_
  refine Wp.ret ?_
  have he : mMove p so de = ((mBoth p so de).2, mCarry p so de (mBoth p so de).1) := by unfold mMove; rw [if_pos (by assumption)]
  rw [he]
  exact Ends.ret (L' := Q1) (res1 rfl rfl) ⟨rfl, hH2⟩
 refine Wp.skip ?_
 refine Ends.seq ?_
 refine Wp.seq ?_
 refine Wp.region ?_
 refine Ops.pv (pv_move rfl) rfl ?_
 refine Ops.pv (pv_assign rfl) rfl ?_
 refine Ops.nil ?_
 refine Ends.seq ?_
 refine Wp.ret ?_
 have he : mMove p so de = ((mBoth p so de).2, p) := by unfold mMove; rw [if_neg (by assumption)]
 rw [he]
 exact Ends.ret (L' := L) (res1 rfl rfl) ⟨rfl, hH⟩
theorem tr_mTake (n cb : Nat) (L : Hp) (p : PS) (hH : CapsH n p cb L) (hn : n ≤ 2 ^ 19) (so : SlotM) : Tr Try.prog 27 [cpP cb, slotV so] (L) (fun u L' => u = .tuple #[(mTake p so).1.v, .int .i64 (mTake p so).2.1] ∧ CapsH n (mTake p so).2.2 cb L') := by
 obtain ⟨sb, tb, Ls, Lt, hS, hT, rfl⟩ := hH
 refine Tr.enter Try.func27 rfl Try.ntmps27 rfl (fun W F => ?_)
 refine Wp.app ?_
 refine Wp.seq ?_
 refine Wp.region ?_
 refine Ops.ef rfl (ef_boxK rfl rfl) ?_
 rintro _ _ ⟨b1, rfl, rfl⟩
 refine Ops.ef rfl (ef_allocK tyZ24 rfl) ?_
 rintro _ _ ⟨b2, rfl, rfl⟩
 refine Ops.pv (pv_assign rfl) rfl ?_
 refine Ops.nil ?_
 refine Ends.seq ?_
 refine Wp.seq ?_
 refine AnyH.start ((b1, .cells [.int .i64 so.1, .int .i64 so.2].toArray 38) :: cBlk cb sb tb :: []) 13 rfl ?_
 refine Tk 0 rfl rfl (pv_move rfl) rfl ?_
 refine Tk 1 rfl rfl (pv_nilCheck rfl) rfl ?_
 refine Tk 2 rfl rfl (pv_fieldAddr0 rfl rfl) rfl ?_
 refine Tk 3 rfl rfl (pv_fieldAddr0 rfl rfl) rfl ?_
 refine Tk 4 rfl rfl (pv_load rfl rfl rfl) rfl ?_
 refine Tk 5 rfl rfl (pv_loadK [_, _] rfl rfl rfl ⟨rfl, rfl, trivial⟩) rfl ?_
 refine AnyH.two 6 10 (by kernel_rfl) ?_ ?_
 ·
  refine Turn.ef rfl rfl (ef_call (sf_take hS so) rfl rfl) ?_ ?_
  ·
   rintro _ _ ⟨_, Q1, ⟨rfl, hS2⟩, rfl, rfl⟩; infer_instance
  rintro _ _ ⟨_, Q1, ⟨rfl, hS2⟩, rfl, rfl⟩
  refine AnyH.app ?_
  skip
  refine Tk 7 rfl rfl (pv_move rfl) rfl ?_
  refine Tk 8 rfl rfl (pv_extract rfl rfl) rfl ?_
  refine Tk 9 rfl rfl (pv_extract rfl rfl) rfl ?_
  refine AnyH.one 10 (by kernel_rfl) ?_
  refine Turn.ef rfl rfl (ef_allocK tyZ24 rfl) ?_ ?_
  ·
   rintro _ _ ⟨b3, rfl, rfl⟩; infer_instance
  rintro _ _ ⟨b3, rfl, rfl⟩
  refine AnyH.one 11 (by kernel_rfl) ?_
  refine Turn.ef rfl rfl (ef_storeK rfl rfl rfl rfl) ?_ ?_
  ·
   rintro _ _ ⟨rfl, rfl⟩; infer_instance
  rintro _ _ ⟨rfl, rfl⟩
  refine Tk 12 rfl rfl (pv_assign rfl) rfl ?_
  refine AnyH.done (by kernel_rfl) ?_
  refine Ends.seq ?_
  refine Wp.seq ?_
  refine Wp.seq ?_
  refine Wp.region ?_
  refine Ops.pv (pv_move rfl) rfl ?_
  refine Ops.pv (pv_eql rfl rfl) rfl ?_
  refine Ops.nil ?_
  refine Ends.seq ?_
  refine Wp.cond_dect rfl (fun h1 => ?_) (fun h1 => ?_)
  ·
   refine AnyH.start ((b1, .cells [.int .i64 so.1, .int .i64 so.2].toArray 38) :: cBlk cb sb tb :: []) 6 rfl ?_
   refine Tk 0 rfl rfl (pv_move rfl) rfl ?_
   refine Tk 1 rfl rfl (pv_nilCheck rfl) rfl ?_
   refine Tk 2 rfl rfl (pv_fieldAddr0 rfl rfl) rfl ?_
   refine Tk 3 rfl rfl (pv_load rfl rfl rfl) rfl ?_
   refine Tk 4 rfl rfl (pv_loadK [_, _] rfl rfl rfl ⟨rfl, rfl, trivial⟩) rfl ?_
   refine AnyH.one 5 (by kernel_rfl) ?_
   refine Turn.ef rfl rfl (ef_call (tr_fDrop hT (by omega) so) rfl rfl) ?_ ?_
   ·
    rintro _ _ ⟨_, R1, ⟨rfl, hT2⟩, rfl, rfl⟩; infer_instance
   rintro _ _ ⟨_, R1, ⟨rfl, hT2⟩, rfl, rfl⟩
   refine AnyH.app ?_
   skip
   refine AnyH.done (by kernel_rfl) ?_
   refine Ends.seq ?_
   refine Wp.seq ?_
   refine Wp.region ?_
   refine Ops.pv (pv_loadK [_, _, _, _, _, _] rfl rfl rfl ⟨rfl, rfl, rfl, rfl, rfl, rfl, trivial⟩) rfl ?_
   refine Ops.pv (pv_move rfl) rfl ?_
   refine Ops.ef rfl (ef_storeK rfl rfl rfl rfl) ?_
   rintro _ _ ⟨rfl, rfl⟩
   refine Ops.pv (pv_assign rfl) rfl ?_
   refine Ops.nil ?_
   refine Ends.seq ?_
   refine Wp.ret ?_
   have he : mTake p so = ((dtake p.l so).1, (dtake p.l so).2.1, ⟨(dtake p.l so).2.2, (ftDrop p.F so).2⟩) := by unfold mTake; rw [if_pos (by assumption)]
   rw [he]
   exact Ends.ret (L' := cBlk cb sb tb :: (Q1 ++ R1)) (res_list (rs := [.cell 4 24, .tmp 5]) rfl ⟨_, _, rfl, rv_cellK [_, _, _, _, _, _] rfl rfl rfl ⟨rfl, rfl, rfl, rfl, rfl, rfl, trivial⟩, ⟨_, _, rfl, rv_tmp rfl, rfl⟩⟩ rfl) ⟨rfl, sb, tb, Q1, R1, hS2, hT2, rfl⟩
  refine Wp.skip ?_
  refine Ends.seq ?_
  refine Wp.seq ?_
  refine Wp.region ?_
  refine Ops.pv (pv_loadK [_, _, _, _, _, _] rfl rfl rfl ⟨rfl, rfl, rfl, rfl, rfl, rfl, trivial⟩) rfl ?_
  refine Ops.pv (pv_move rfl) rfl ?_
  refine Ops.ef rfl (ef_storeK rfl rfl rfl rfl) ?_
  rintro _ _ ⟨rfl, rfl⟩
  refine Ops.pv (pv_assign rfl) rfl ?_
  refine Ops.nil ?_
  refine Ends.seq ?_
  refine Wp.ret ?_
  have he : mTake p so = ((dtake p.l so).1, (dtake p.l so).2.1, ⟨(dtake p.l so).2.2, p.F⟩) := by unfold mTake; rw [if_neg (by assumption)]
  rw [he]
  exact Ends.ret (L' := cBlk cb sb tb :: (Q1 ++ Lt)) (res_list (rs := [.cell 4 24, .tmp 5]) rfl ⟨_, _, rfl, rv_cellK [_, _, _, _, _, _] rfl rfl rfl ⟨rfl, rfl, rfl, rfl, rfl, rfl, trivial⟩, ⟨_, _, rfl, rv_tmp rfl, rfl⟩⟩ rfl) ⟨rfl, sb, tb, Q1, Lt, hS2, hT, rfl⟩
 refine Turn.ef rfl rfl (ef_allocK tyZ24 rfl) ?_ ?_
 ·
  rintro _ _ ⟨b4, rfl, rfl⟩; infer_instance
 rintro _ _ ⟨b4, rfl, rfl⟩
 refine AnyH.one 6 (by kernel_rfl) ?_
 refine Turn.ef rfl rfl (ef_call (sf_take hS so) rfl rfl) ?_ ?_
 ·
  rintro _ _ ⟨_, Q2, ⟨rfl, hS2⟩, rfl, rfl⟩; infer_instance
 rintro _ _ ⟨_, Q2, ⟨rfl, hS2⟩, rfl, rfl⟩
 refine AnyH.app ?_
 skip
 refine Tk 7 rfl rfl (pv_move rfl) rfl ?_
 refine Tk 8 rfl rfl (pv_extract rfl rfl) rfl ?_
 refine Tk 9 rfl rfl (pv_extract rfl rfl) rfl ?_
 refine AnyH.one 11 (by kernel_rfl) ?_
 refine Turn.ef rfl rfl (ef_storeK rfl rfl rfl rfl) ?_ ?_
 ·
  rintro _ _ ⟨rfl, rfl⟩; infer_instance
 rintro _ _ ⟨rfl, rfl⟩
 refine Tk 12 rfl rfl (pv_assign rfl) rfl ?_
 refine AnyH.done (by kernel_rfl) ?_
 refine Ends.seq ?_
 refine Wp.seq ?_
 refine Wp.seq ?_
 refine Wp.region ?_
 refine Ops.pv (pv_move rfl) rfl ?_
 refine Ops.pv (pv_eql rfl rfl) rfl ?_
 refine Ops.nil ?_
 refine Ends.seq ?_
 refine Wp.cond_dect rfl (fun h2 => ?_) (fun h2 => ?_)
 ·
  refine AnyH.start ((b1, .cells [.int .i64 so.1, .int .i64 so.2].toArray 38) :: cBlk cb sb tb :: []) 6 rfl ?_
  refine Tk 0 rfl rfl (pv_move rfl) rfl ?_
  refine Tk 1 rfl rfl (pv_nilCheck rfl) rfl ?_
  refine Tk 2 rfl rfl (pv_fieldAddr0 rfl rfl) rfl ?_
  refine Tk 3 rfl rfl (pv_load rfl rfl rfl) rfl ?_
  refine Tk 4 rfl rfl (pv_loadK [_, _] rfl rfl rfl ⟨rfl, rfl, trivial⟩) rfl ?_
  refine AnyH.one 5 (by kernel_rfl) ?_
  refine Turn.ef rfl rfl (ef_call (tr_fDrop hT (by omega) so) rfl rfl) ?_ ?_
  ·
   rintro _ _ ⟨_, R2, ⟨rfl, hT2⟩, rfl, rfl⟩; infer_instance
  rintro _ _ ⟨_, R2, ⟨rfl, hT2⟩, rfl, rfl⟩
  refine AnyH.app ?_
  skip
  refine AnyH.done (by kernel_rfl) ?_
  refine Ends.seq ?_
  refine Wp.seq ?_
  refine Wp.region ?_
  refine Ops.pv (pv_loadK [_, _, _, _, _, _] rfl rfl rfl ⟨rfl, rfl, rfl, rfl, rfl, rfl, trivial⟩) rfl ?_
  refine Ops.pv (pv_move rfl) rfl ?_
  refine Ops.ef rfl (ef_storeK rfl rfl rfl rfl) ?_
  rintro _ _ ⟨rfl, rfl⟩
  refine Ops.pv (pv_assign rfl) rfl ?_
  refine Ops.nil ?_
  refine Ends.seq ?_
  refine Wp.ret ?_
  have he : mTake p so = ((dtake p.l so).1, (dtake p.l so).2.1, ⟨(dtake p.l so).2.2, (ftDrop p.F so).2⟩) := by unfold mTake; rw [if_pos (by assumption)]
  rw [he]
  exact Ends.ret (L' := cBlk cb sb tb :: (Q2 ++ R2)) (res_list (rs := [.cell 4 24, .tmp 5]) rfl ⟨_, _, rfl, rv_cellK [_, _, _, _, _, _] rfl rfl rfl ⟨rfl, rfl, rfl, rfl, rfl, rfl, trivial⟩, ⟨_, _, rfl, rv_tmp rfl, rfl⟩⟩ rfl) ⟨rfl, sb, tb, Q2, R2, hS2, hT2, rfl⟩
 refine Wp.skip ?_
 refine Ends.seq ?_
 refine Wp.seq ?_
 refine Wp.region ?_
 refine Ops.pv (pv_loadK [_, _, _, _, _, _] rfl rfl rfl ⟨rfl, rfl, rfl, rfl, rfl, rfl, trivial⟩) rfl ?_
 refine Ops.pv (pv_move rfl) rfl ?_
 refine Ops.ef rfl (ef_storeK rfl rfl rfl rfl) ?_
 rintro _ _ ⟨rfl, rfl⟩
 refine Ops.pv (pv_assign rfl) rfl ?_
 refine Ops.nil ?_
 refine Ends.seq ?_
 refine Wp.ret ?_
 have he : mTake p so = ((dtake p.l so).1, (dtake p.l so).2.1, ⟨(dtake p.l so).2.2, p.F⟩) := by unfold mTake; rw [if_neg (by assumption)]
 rw [he]
 exact Ends.ret (L' := cBlk cb sb tb :: (Q2 ++ Lt)) (res_list (rs := [.cell 4 24, .tmp 5]) rfl ⟨_, _, rfl, rv_cellK [_, _, _, _, _, _] rfl rfl rfl ⟨rfl, rfl, rfl, rfl, rfl, rfl, trivial⟩, ⟨_, _, rfl, rv_tmp rfl, rfl⟩⟩ rfl) ⟨rfl, sb, tb, Q2, Lt, hS2, hT, rfl⟩
end Go.Proofs.Ytdodfnjmkpgdbaa
end
section
set_option linter.unusedVariables false
set_option linter.unusedSimpArgs false
namespace Go.Proofs.Ytdodfnjmkpgdbaa
open Go.SL
abbrev tkBlk (tk cb : Nat) (n : Nat) (v : Value) : Nat × Obj := (tk, .cells [cpP cb, .int .i64 n, v].toArray 98)
abbrev tkP (tk : Nat) : Value := .pointer (some ⟨tk, 0, none⟩)
def spentC : List PanicEntry := [{ v := .iface 122 (.agg #[]), recovered := false }]
theorem slots_one (l : List SlotM) : (slotsCells l).all Value.oneCell' = true := by
 rw [List.all_eq_true]
 intro v hv
 obtain ⟨s, _, hs⟩ := List.mem_flatMap.1 hv
 rcases List.mem_cons.1 hs with rfl | hs
 ·
  rfl
 obtain rfl := List.mem_singleton.1 hs; rfl
def idxS (l : List SlotM) (s : SlotM) : Int := match l.idxOf? s with | some i => (i : Int) | none => -1
theorem idxS_hit {l : List SlotM} {s : SlotM} {i : Nat} (h : l[i]? = some s) (hn : ∀ j, j < i → l[j]? ≠ some s) : idxS l s = i := by
 have : l.idxOf? s = some i := by
  rw [List.idxOf?, List.findIdx?_eq_some_iff_getElem]
  obtain ⟨hi, rfl⟩ := List.getElem?_eq_some_iff.1 h
  refine ⟨hi, by simp, fun j hj => ?_⟩
  have := hn j hj
  rw [List.getElem?_eq_getElem (by omega)] at this
  simpa using this
 unfold idxS; rw [this]
theorem idxS_miss {l : List SlotM} {s : SlotM} (hn : ∀ j, j < l.length → l[j]? ≠ some s) : idxS l s = -1 := by
 have : l.idxOf? s = none := by
  rw [List.idxOf?, List.findIdx?_eq_none_iff]
  intro x hx
  obtain ⟨j, hj, rfl⟩ := List.getElem_of_mem hx
  have := hn j hj
  rw [List.getElem?_eq_getElem hj] at this
  simpa using this
 unfold idxS; rw [this]
theorem idxS_mem (l : List SlotM) (s : SlotM) : 0 ≤ idxS l s ↔ s ∈ l := by
 unfold idxS
 cases h : l.idxOf? s with
 | none =>
  rw [List.idxOf?, List.findIdx?_eq_none_iff] at h
  constructor
  ·
   intro h; simp at h
  ·
   intro hs; have := h s hs; simp at this
 | some i =>
  rw [List.idxOf?, List.findIdx?_eq_some_iff_getElem] at h
  obtain ⟨hi, he, _⟩ := h
  have : l[i] = s := by simpa using he
  exact ⟨fun _ => this ▸ List.getElem_mem hi, fun _ => by dsimp only; omega⟩
theorem shl_r {r : Int} (h : 0 ≤ r ∧ r ≤ 4) : IntKind.i64.wrap (1 * 2 ^ (min r.toNat 64)) = ((2 ^ r.toNat : Nat) : Int) := by
 obtain ⟨k, rfl⟩ : ∃ k : Nat, r = k := ⟨r.toNat, by omega⟩
 have hk : k ≤ 4 := by omega
 have h2 : (2 : Nat) ^ k ≤ 2 ^ 4 := Nat.pow_le_pow_right (by omega) hk
 rw [Int.toNat_natCast, show min k 64 = k by omega, Int.one_mul]
 exact w64n (by norm_cast) (by omega)
theorem fin_1 {l : List DN} {s : SlotM} (h : (dget l s).2 = 0 ∧ (dget l s).1.kind ≠ 0) : decide (fin l s) = decide ((dcount l (dget l s).1.kind (dget l s).1.object : Int) = 1) := by
 rw [decide_eq_decide]; unfold fin
 exact ⟨fun k => by rw [k.2]; rfl, fun k => ⟨h.2, by omega⟩⟩
theorem fin_0 {l : List DN} {s : SlotM} (h : ¬ ((dget l s).2 = 0 ∧ (dget l s).1.kind ≠ 0)) : decide (fin l s) = false :=
  decide_eq_false fun k => h ⟨dget_le k.1, k.1⟩
theorem firstIn_0 {l : List DN} {way : List SlotM} {node : Int} (h : dradix l node = 0) : firstIn l way node = none := by unfold firstIn; rw [if_pos h]
def rvErr (l : List DN) (s : SlotM) (n : Int) : Int := if n < 1 ∨ 1000 < n then 1 else if (dget l s).2 = 0 ∧ (dget l s).1.kind = 0 then 3 else (dget l s).2
theorem rvErr_1 {l : List DN} {s : SlotM} {n : Int} (h : n < 1 ∨ n > 1000) : rvErr l s n = 1 := if_pos h
theorem rvErr_2 {l : List DN} {s : SlotM} {n : Int} (h : ¬ (n < 1 ∨ n > 1000)) (h2 : (dget l s).2 = 0 ∧ (dget l s).1.kind = 0) : rvErr l s n = 3 := by unfold rvErr; rw [if_neg h, if_pos h2]
theorem rvErr_3 {l : List DN} {s : SlotM} {n : Int} (h : ¬ (n < 1 ∨ n > 1000)) (h2 : ¬ ((dget l s).2 = 0 ∧ (dget l s).1.kind = 0)) : rvErr l s n = (dget l s).2 := by unfold rvErr; rw [if_neg h, if_neg h2]
theorem tr_slIndex (G : Hp) (a : Option Addr) (c : Nat) (l : List SlotM) (x : SlotM) (hv : View G 2 (.slice a l.length c) l.length (slotsCells l)) (hl : l.length ≤ 2 ^ 40) : TrR Try.prog 92 [.slice a l.length c, slotV x] (G) (.int .i64 (idxS l x)) := by
 refine Tr.enter Try.func92 rfl Try.ntmps92 rfl (fun W F => ?_)
 refine Wp.app ?_
 refine Wp.seq ?_
 refine Wp.region ?_
 refine Ops.ef rfl (ef_boxK rfl rfl) ?_
 rintro _ _ ⟨b1, rfl, rfl⟩
 refine Ops.pv (pv_assign rfl) rfl ?_
 refine Ops.nil ?_
 refine Ends.seq ?_
 refine Wp.seq ?_
 refine Wp.seq ?_
 refine Wp.region ?_
 refine Ops.pv (pv_move rfl) rfl ?_
 refine Ops.pv (pv_len_slice (T := 41) rfl rfl) rfl ?_
 refine Ops.pv (pv_move rfl) rfl ?_
 refine Ops.nil ?_
 refine Ends.seq ?_
 refine Wp.block ?_
 refine Wp.loopK (σ := Nat) [(0, _), (3, _), (7, _)] (fun s => [(8, .int .i64 s)]) (fun s => (b1, .cells [.int .i64 x.1, .int .i64 x.2].toArray 38) :: (G ++ F)) (fun s => s ≤ l.length ∧ ∀ j, j < s → l[j]? ≠ some x) (fun s => l.length - s) 0 ⟨Nat.zero_le _, fun j hj => absurd hj (Nat.not_lt_zero j)⟩ ⟨rfl, rfl, rfl, trivial⟩ ⟨rfl, trivial⟩ (by intro w ho; (try dsimp only [List.nil_append, List.cons_append]); exact Drop.own ho) ?_
 rintro i KK ⟨hi, hn⟩ hK
 dsimp only [List.cons_append, List.nil_append] at hK ⊢
 refine Wp.seq ?_
 refine Wp.region ?_
 refine Ops.pv (pv_lss rfl rfl) rfl ?_
 refine Ops.nil ?_
 refine Ends.seq ?_
 refine Wp.seq ?_
 refine Wp.cond_dect rfl (fun h1 => ?_) (fun h1 => ?_)
 ·
  obtain ⟨b5, o5, cap5, cc5, T5, f5, hw5, hbv5, hr5⟩ := hv.open (by omega)
  cases hw5
  obtain ⟨s1, hs1⟩ : ∃ s, l[i]? = some s := ⟨_, List.getElem?_eq_getElem (by omega)⟩
  have hre1 := hr5.sub (i := i * 2) (l := 2)
  rw [slots_reads hs1] at hre1
  refine Wp.skip ?_
  refine Ends.seq ?_
  refine Wp.seq ?_
  refine Wp.block ?_
  refine Wp.seq ?_
  refine Wp.region ?_
  refine Ops.pv (pv_move rfl) rfl ?_
  refine Ops.pv (pv_assign rfl) rfl ?_
  refine Ops.nil ?_
  refine Ends.seq ?_
  refine Wp.seq ?_
  refine AnyH.start ((b1, .cells [.int .i64 x.1, .int .i64 x.2].toArray 38) :: G) 6 rfl ?_
  refine Tk 0 rfl rfl (pv_loadK [_, _] rfl rfl rfl ⟨rfl, rfl, trivial⟩) rfl ?_
  refine Tk 1 rfl rfl (pv_move rfl) rfl ?_
  refine Tk 2 rfl rfl (pv_move rfl) rfl ?_
  refine Tk 3 rfl rfl (pv_indexAddr (i := i) rfl rfl rfl (by omega)) rfl ?_
  refine Tk 4 rfl rfl (pv_loadK [.int .i64 s1.1, .int .i64 s1.2] rfl rfl rfl hre1) rfl ?_
  refine Tk 5 rfl rfl (pv_eql_slot (a := x) (b := s1) rfl rfl) rfl ?_
  refine AnyH.done (by kernel_rfl) ?_
  refine Ends.seq ?_
  refine Wp.cond_dect rfl (fun h2 => ?_) (fun h2 => ?_)
  ·
   refine Wp.seq ?_
   refine Wp.region ?_
   refine Ops.pv (pv_move rfl) rfl ?_
   refine Ops.pv (pv_assign rfl) rfl ?_
   refine Ops.nil ?_
   refine Ends.seq ?_
   refine Wp.ret ?_
   refine Ends.block_ret ?_
   refine Ends.then_ret ?_
   refine Ends.then_ret ?_
   refine Ends.block_ret ?_
   refine Ends.then_ret ?_
   exact Ends.ret (res1 rfl rfl) ⟨by rw [idxS_hit (i := i) (by rw [hs1]; simp_all) hn], rfl⟩
  refine Wp.skip ?_
  refine Ends.block_normal ?_
  refine Ends.seq ?_
  refine Wp.region ?_
  refine Ops.pv (pv_add rfl rfl (w64 (by omega) (by omega))) rfl ?_
  refine Ops.pv (pv_move rfl) rfl ?_
  refine Ops.nil ?_
  refine Ends.goes ?_
  refine Goes.back (hK (i + 1) ⟨by omega, fun j hj => ?_⟩ (by omega)) ⟨rfl, rfl, rfl, rfl, trivial⟩
  rcases Nat.lt_succ_iff_lt_or_eq.1 hj with hj | rfl
  ·
   exact hn j hj
  rw [hs1]; intro e; cases e; simp_all
 refine Wp.exit ?_
 refine Ends.then_exit ?_
 refine Ends.then_exit ?_
 refine Ends.block_hit ?_
 refine Ends.seq ?_
 refine Wp.seq ?_
 refine Wp.region ?_
 refine Ops.pv (pv_assign rfl) rfl ?_
 refine Ops.nil ?_
 refine Ends.seq ?_
 refine Wp.ret ?_
 exact Ends.ret (res1 rfl rfl) ⟨by rw [idxS_miss (fun j hj => hn j (by omega))], rfl⟩
theorem tr_slContains (G : Hp) (a : Option Addr) (c : Nat) (l : List SlotM) (x : SlotM) (hv : View G 2 (.slice a l.length c) l.length (slotsCells l)) (hl : l.length ≤ 2 ^ 40) : TrR Try.prog 91 [.slice a l.length c, slotV x] (G) (.bool (decide (x ∈ l))) := by
 refine Tr.enter Try.func91 rfl Try.ntmps91 rfl (fun W F => ?_)
 refine Wp.app ?_
 refine Wp.seq ?_
 refine Wp.region ?_
 refine Ops.ef rfl (ef_boxK rfl rfl) ?_
 rintro _ _ ⟨b1, rfl, rfl⟩
 refine Ops.pv (pv_assign rfl) rfl ?_
 refine Ops.nil ?_
 refine Ends.seq ?_
 refine Wp.seq ?_
 refine Wp.region ?_
 refine Ops.pv (pv_move rfl) rfl ?_
 refine Ops.pv (pv_loadK [_, _] rfl rfl rfl ⟨rfl, rfl, trivial⟩) rfl ?_
 refine Ops.ef rfl (ef_callr (tr_slIndex G a c l x hv hl) rfl rfl) ?_
 rintro _ _ ⟨rfl, rfl⟩
 refine Ops.pv (pv_geq rfl rfl) rfl ?_
 refine Ops.pv (pv_assign rfl) rfl ?_
 refine Ops.nil ?_
 refine Ends.seq ?_
 refine Wp.ret ?_
 exact Ends.ret (res1 rfl rfl) ⟨by rw [decide_eq_decide.2 (idxS_mem l x)], rfl⟩
theorem tr_slClone (G : Hp) (a : Option Addr) (c : Nat) (l : List SlotM) (hv : View G 2 (.slice a l.length c) l.length (slotsCells l)) (hl : l.length ≤ 2 ^ 40) : Tr Try.prog 85 [.slice a l.length c] (G) (fun v L' => ∃ H, Slc 38 2 v l.length (slotsCells l) H ∧ L' = H ++ G) := by
 refine Tr.enter Try.func85 rfl Try.ntmps85 rfl (fun W F => ?_)
 refine Wp.app ?_
 refine Wp.seq ?_
 refine Wp.region ?_
 refine Ops.pv (pv_assign rfl) rfl ?_
 refine Ops.nil ?_
 refine Ends.seq ?_
 refine Wp.seq ?_
 refine Wp.seq ?_
 refine Wp.region ?_
 refine Ops.pv (pv_move rfl) rfl ?_
 refine Ops.pv (pv_eql_slcnil rfl rfl) rfl ?_
 refine Ops.nil ?_
 refine Ends.seq ?_
 refine Wp.cond_t rfl (fun h1 => ?_) (fun h1 => ?_)
 ·
  obtain rfl := Option.isNone_iff_eq_none.1 h1
  obtain ⟨e0, e1⟩ := view_nil' hv
  refine Wp.seq ?_
  refine Wp.region ?_
  refine Ops.pv (pv_assign rfl) rfl ?_
  refine Ops.nil ?_
  refine Ends.seq ?_
  refine Wp.ret ?_
  refine Ends.then_ret ?_
  exact Ends.ret (L' := G) (res1 rfl rfl) ⟨[], by rw [e0, e1]; exact Slc.nil _ _, rfl⟩
 refine Wp.skip ?_
 refine Ends.seq ?_
 refine Wp.seq ?_
 refine Wp.region ?_
 refine Ops.ef rfl (ef_buildSlice0 rfl) ?_
 rintro _ _ ⟨b1, rfl, rfl⟩
 refine Ops.pv (pv_move rfl) rfl ?_
 refine Ops.ef rfl (ef_appendV (H := [(b1, .cells ([] : List Value).toArray 38)]) rfl (slc_empty' 38 2 b1) rfl (hv.mono (by intro p hp; simp [hp])) (slots_one l) (by omega) (by omega) rfl rfl) ?_
 rintro _ _ ⟨v1, H1, hs1, rfl, rfl⟩
 refine Ops.app ?_
 skip
 refine Ops.pv (pv_assign rfl) rfl ?_
 refine Ops.nil ?_
 refine Ends.seq ?_
 refine Wp.ret ?_
 rw [Nat.zero_add, List.nil_append] at hs1
 exact Ends.ret (L' := H1 ++ G) (res1 rfl rfl) ⟨H1, hs1, rfl⟩
theorem tr_rFinal (n cb : Nat) (L : Hp) (p : PS) (hH : CapsH n p cb L) (s : SlotM) : TrR Try.prog 36 [cpP cb, slotV s] (L) (.bool (decide (fin p.l s))) := by
 obtain ⟨sb, tb, Ls, Lt, hS, hT, rfl⟩ := hH
 refine Tr.enter Try.func36 rfl Try.ntmps36 rfl (fun W F => ?_)
 refine Wp.app ?_
 refine Wp.seq ?_
 refine Wp.region ?_
 refine Ops.ef rfl (ef_boxK rfl rfl) ?_
 rintro _ _ ⟨b1, rfl, rfl⟩
 refine Ops.pv (pv_assign rfl) rfl ?_
 refine Ops.nil ?_
 refine Ends.seq ?_
 refine Wp.seq ?_
 refine AnyH.start ((b1, .cells [.int .i64 s.1, .int .i64 s.2].toArray 38) :: cBlk cb sb tb :: []) 13 rfl ?_
 refine Tk 0 rfl rfl (pv_move rfl) rfl ?_
 refine Tk 1 rfl rfl (pv_nilCheck rfl) rfl ?_
 refine Tk 2 rfl rfl (pv_fieldAddr0 rfl rfl) rfl ?_
 refine Tk 3 rfl rfl (pv_fieldAddr0 rfl rfl) rfl ?_
 refine Tk 4 rfl rfl (pv_load rfl rfl rfl) rfl ?_
 refine Tk 5 rfl rfl (pv_loadK [_, _] rfl rfl rfl ⟨rfl, rfl, trivial⟩) rfl ?_
 refine AnyH.two 6 10 (by kernel_rfl) ?_ ?_
 ·
  refine Turn.ef rfl rfl (ef_callr (sf_get hS s) rfl rfl) ?_ ?_
  ·
   rintro _ _ ⟨rfl, rfl⟩; infer_instance
  rintro _ _ ⟨rfl, rfl⟩
  refine Tk 7 rfl rfl (pv_move rfl) rfl ?_
  refine Tk 8 rfl rfl (pv_extract rfl rfl) rfl ?_
  refine Tk 9 rfl rfl (pv_extract rfl rfl) rfl ?_
  refine AnyH.one 10 (by kernel_rfl) ?_
  refine Turn.ef rfl rfl (ef_allocK tyZ24 rfl) ?_ ?_
  ·
   rintro _ _ ⟨b2, rfl, rfl⟩; infer_instance
  rintro _ _ ⟨b2, rfl, rfl⟩
  refine AnyH.one 11 (by kernel_rfl) ?_
  refine Turn.ef rfl rfl (ef_storeK rfl rfl rfl rfl) ?_ ?_
  ·
   rintro _ _ ⟨rfl, rfl⟩; infer_instance
  rintro _ _ ⟨rfl, rfl⟩
  refine Tk 12 rfl rfl (pv_assign rfl) rfl ?_
  refine AnyH.done (by kernel_rfl) ?_
  refine Ends.seq ?_
  refine Wp.seq ?_
  refine AnyH.start ((b2, .cells (dget p.l s).1.cells.toArray 24) :: cBlk cb sb tb :: []) 21 rfl ?_
  refine Tk 0 rfl rfl (pv_move rfl) rfl ?_
  refine Tk 1 rfl rfl (pv_eql rfl rfl) rfl ?_
  refine Tk 2 rfl rfl (pv_move rfl) rfl ?_
  refine AnyH.takec 3 rfl (by kernel_rfl) (by kernel_rfl) (by kernel_rfl) PF.pf rfl rfl (fun hg => pv_fieldAddr0 rfl rfl) rfl ?_
  refine AnyH.takec 4 rfl (by kernel_rfl) (by kernel_rfl) (by kernel_rfl) PF.pf rfl rfl (fun hg => Pv.setE (t := 20) rfl (cv_pos hg) (pv_load rfl rfl rfl)) rfl ?_
  refine AnyH.takec 5 rfl (by kernel_rfl) (by kernel_rfl) (by kernel_rfl) PF.pf rfl rfl (fun hg => Pv.setE (t := 20) rfl (cv_pos hg) (Pv.setE (t := 21) rfl (cv_pos hg) (pv_neq rfl rfl))) rfl ?_
  refine Tk 6 rfl rfl (pv_pick_and rfl rfl) rfl ?_
  refine Tk 7 rfl rfl (pv_move rfl) rfl ?_
  refine AnyH.split (t := 24) rfl (fun h1 => ?_) (fun h1 => ?_)
  ·
   refine Tk 8 rfl ⟨_, _, rfl, rfl, rfl⟩ (pv_move rfl) rfl ?_
   refine Tk 9 rfl ⟨_, _, rfl, rfl, rfl⟩ (pv_nilCheck rfl) rfl ?_
   refine Tk 10 rfl ⟨_, _, rfl, rfl, rfl⟩ (pv_fieldAddr0 rfl rfl) rfl ?_
   refine Tk 11 rfl ⟨_, _, rfl, rfl, rfl⟩ (pv_fieldAddr0 rfl rfl) rfl ?_
   refine Tk 12 rfl ⟨_, _, rfl, rfl, rfl⟩ (pv_load rfl rfl rfl) rfl ?_
   refine Tk 13 rfl ⟨_, _, rfl, rfl, rfl⟩ (pv_fieldAddr0 rfl rfl) rfl ?_
   refine Tk 14 rfl ⟨_, _, rfl, rfl, rfl⟩ (pv_load rfl rfl rfl) rfl ?_
   refine Tk 15 rfl ⟨_, _, rfl, rfl, rfl⟩ (pv_fieldAddr0 rfl rfl) rfl ?_
   refine Tk 16 rfl ⟨_, _, rfl, rfl, rfl⟩ (pv_load rfl rfl rfl) rfl ?_
   refine AnyH.one 17 (by kernel_rfl) ?_
   refine Turn.ef rfl ⟨_, _, rfl, rfl, rfl⟩ (ef_callr (sf_count hS (dget p.l s).1.kind (dget p.l s).1.object) rfl rfl) ?_ ?_
   ·
    rintro _ _ ⟨rfl, rfl⟩; infer_instance
   rintro _ _ ⟨rfl, rfl⟩
   refine Tk 18 rfl ⟨_, _, rfl, rfl, rfl⟩ (pv_eql rfl rfl) rfl ?_
   refine Tk 19 rfl rfl (pv_pick_true rfl rfl) rfl ?_
   refine Tk 20 rfl rfl (pv_assign rfl) rfl ?_
   refine AnyH.done (by kernel_rfl) ?_
   refine Ends.seq ?_
   refine Wp.ret ?_
   exact Ends.ret (res1 rfl rfl) ⟨by first | rw [fin_1 (by assumption)] | rw [fin_0 (by assumption)], rfl⟩
  refine Ts 8 rfl ⟨_, _, rfl, rfl, rfl⟩ rfl ?_
  refine Ts 9 rfl ⟨_, _, rfl, rfl, rfl⟩ rfl ?_
  refine Ts 10 rfl ⟨_, _, rfl, rfl, rfl⟩ rfl ?_
  refine Ts 11 rfl ⟨_, _, rfl, rfl, rfl⟩ rfl ?_
  refine Ts 12 rfl ⟨_, _, rfl, rfl, rfl⟩ rfl ?_
  refine Ts 13 rfl ⟨_, _, rfl, rfl, rfl⟩ rfl ?_
  refine Ts 14 rfl ⟨_, _, rfl, rfl, rfl⟩ rfl ?_
  refine Ts 15 rfl ⟨_, _, rfl, rfl, rfl⟩ rfl ?_
  refine Ts 16 rfl ⟨_, _, rfl, rfl, rfl⟩ rfl ?_
  refine Ts 17 rfl ⟨_, _, rfl, rfl, rfl⟩ rfl ?_
  refine Ts 18 rfl ⟨_, _, rfl, rfl, rfl⟩ rfl ?_
  refine Tk 19 rfl rfl (pv_pick_false rfl rfl) rfl ?_
  refine Tk 20 rfl rfl (pv_assign rfl) rfl ?_
  refine AnyH.done (by kernel_rfl) ?_
  refine Ends.seq ?_
  refine Wp.ret ?_
  exact Ends.ret (res1 rfl rfl) ⟨by first | rw [fin_1 (by assumption)] | rw [fin_0 (by assumption)], rfl⟩
 refine Turn.ef rfl rfl (ef_allocK tyZ24 rfl) ?_ ?_
 ·
  rintro _ _ ⟨b3, rfl, rfl⟩; infer_instance
 rintro _ _ ⟨b3, rfl, rfl⟩
 refine AnyH.one 6 (by kernel_rfl) ?_
 refine Turn.ef rfl rfl (ef_callr (sf_get hS s) rfl rfl) ?_ ?_
 ·
  rintro _ _ ⟨rfl, rfl⟩; infer_instance
 rintro _ _ ⟨rfl, rfl⟩
 refine Tk 7 rfl rfl (pv_move rfl) rfl ?_
 refine Tk 8 rfl rfl (pv_extract rfl rfl) rfl ?_
 refine Tk 9 rfl rfl (pv_extract rfl rfl) rfl ?_
 refine AnyH.one 11 (by kernel_rfl) ?_
 refine Turn.ef rfl rfl (ef_storeK rfl rfl rfl rfl) ?_ ?_
 ·
  rintro _ _ ⟨rfl, rfl⟩; infer_instance
 rintro _ _ ⟨rfl, rfl⟩
 refine Tk 12 rfl rfl (pv_assign rfl) rfl ?_
 refine AnyH.done (by kernel_rfl) ?_
 refine Ends.seq ?_
 refine Wp.seq ?_
 refine AnyH.start ((b3, .cells (dget p.l s).1.cells.toArray 24) :: cBlk cb sb tb :: []) 21 rfl ?_
 refine Tk 0 rfl rfl (pv_move rfl) rfl ?_
 refine Tk 1 rfl rfl (pv_eql rfl rfl) rfl ?_
 refine Tk 2 rfl rfl (pv_move rfl) rfl ?_
 refine AnyH.takec 3 rfl (by kernel_rfl) (by kernel_rfl) (by kernel_rfl) PF.pf rfl rfl (fun hg => pv_fieldAddr0 rfl rfl) rfl ?_
 refine AnyH.takec 4 rfl (by kernel_rfl) (by kernel_rfl) (by kernel_rfl) PF.pf rfl rfl (fun hg => Pv.setE (t := 20) rfl (cv_pos hg) (pv_load rfl rfl rfl)) rfl ?_
 refine AnyH.takec 5 rfl (by kernel_rfl) (by kernel_rfl) (by kernel_rfl) PF.pf rfl rfl (fun hg => Pv.setE (t := 20) rfl (cv_pos hg) (Pv.setE (t := 21) rfl (cv_pos hg) (pv_neq rfl rfl))) rfl ?_
 refine Tk 6 rfl rfl (pv_pick_and rfl rfl) rfl ?_
 refine Tk 7 rfl rfl (pv_move rfl) rfl ?_
 refine AnyH.split (t := 24) rfl (fun h2 => ?_) (fun h2 => ?_)
 ·
  refine Tk 8 rfl ⟨_, _, rfl, rfl, rfl⟩ (pv_move rfl) rfl ?_
  refine Tk 9 rfl ⟨_, _, rfl, rfl, rfl⟩ (pv_nilCheck rfl) rfl ?_
  refine Tk 10 rfl ⟨_, _, rfl, rfl, rfl⟩ (pv_fieldAddr0 rfl rfl) rfl ?_
  refine Tk 11 rfl ⟨_, _, rfl, rfl, rfl⟩ (pv_fieldAddr0 rfl rfl) rfl ?_
  refine Tk 12 rfl ⟨_, _, rfl, rfl, rfl⟩ (pv_load rfl rfl rfl) rfl ?_
  refine Tk 13 rfl ⟨_, _, rfl, rfl, rfl⟩ (pv_fieldAddr0 rfl rfl) rfl ?_
  refine Tk 14 rfl ⟨_, _, rfl, rfl, rfl⟩ (pv_load rfl rfl rfl) rfl ?_
  refine Tk 15 rfl ⟨_, _, rfl, rfl, rfl⟩ (pv_fieldAddr0 rfl rfl) rfl ?_
  refine Tk 16 rfl ⟨_, _, rfl, rfl, rfl⟩ (pv_load rfl rfl rfl) rfl ?_
  refine AnyH.one 17 (by kernel_rfl) ?_
  refine Turn.ef rfl ⟨_, _, rfl, rfl, rfl⟩ (ef_callr (sf_count hS (dget p.l s).1.kind (dget p.l s).1.object) rfl rfl) ?_ ?_
  ·
   rintro _ _ ⟨rfl, rfl⟩; infer_instance
  rintro _ _ ⟨rfl, rfl⟩
  refine Tk 18 rfl ⟨_, _, rfl, rfl, rfl⟩ (pv_eql rfl rfl) rfl ?_
  refine Tk 19 rfl rfl (pv_pick_true rfl rfl) rfl ?_
  refine Tk 20 rfl rfl (pv_assign rfl) rfl ?_
  refine AnyH.done (by kernel_rfl) ?_
  refine Ends.seq ?_
  refine Wp.ret ?_
  exact Ends.ret (res1 rfl rfl) ⟨by first | rw [fin_1 (by assumption)] | rw [fin_0 (by assumption)], rfl⟩
 refine Ts 8 rfl ⟨_, _, rfl, rfl, rfl⟩ rfl ?_
 refine Ts 9 rfl ⟨_, _, rfl, rfl, rfl⟩ rfl ?_
 refine Ts 10 rfl ⟨_, _, rfl, rfl, rfl⟩ rfl ?_
 refine Ts 11 rfl ⟨_, _, rfl, rfl, rfl⟩ rfl ?_
 refine Ts 12 rfl ⟨_, _, rfl, rfl, rfl⟩ rfl ?_
 refine Ts 13 rfl ⟨_, _, rfl, rfl, rfl⟩ rfl ?_
 refine Ts 14 rfl ⟨_, _, rfl, rfl, rfl⟩ rfl ?_
 refine Ts 15 rfl ⟨_, _, rfl, rfl, rfl⟩ rfl ?_
 refine Ts 16 rfl ⟨_, _, rfl, rfl, rfl⟩ rfl ?_
 refine Ts 17 rfl ⟨_, _, rfl, rfl, rfl⟩ rfl ?_
 refine Ts 18 rfl ⟨_, _, rfl, rfl, rfl⟩ rfl ?_
 refine Tk 19 rfl rfl (pv_pick_false rfl rfl) rfl ?_
 refine Tk 20 rfl rfl (pv_assign rfl) rfl ?_
 refine AnyH.done (by kernel_rfl) ?_
 refine Ends.seq ?_
 refine Wp.ret ?_
 exact Ends.ret (res1 rfl rfl) ⟨by first | rw [fin_1 (by assumption)] | rw [fin_0 (by assumption)], rfl⟩
theorem tr_rCheck (n cb : Nat) (L : Hp) (p : PS) (hH : CapsH n p cb L) (s : SlotM) (k : Int) : TrR Try.prog 63 [cpP cb, slotV s, .int .i64 k] (L) (.int .i64 (rvErr p.l s k)) := by
 obtain ⟨sb, tb, Ls, Lt, hS, hT, rfl⟩ := hH
 refine Tr.enter Try.func63 rfl Try.ntmps63 rfl (fun W F => ?_)
 refine Wp.app ?_
 refine Wp.seq ?_
 refine Wp.region ?_
 refine Ops.ef rfl (ef_boxK rfl rfl) ?_
 rintro _ _ ⟨b1, rfl, rfl⟩
 refine Ops.pv (pv_assign rfl) rfl ?_
 refine Ops.nil ?_
 refine Ends.seq ?_
 refine Wp.seq ?_
 refine Wp.seq ?_
 refine Wp.region ?_
 refine Ops.pv (pv_move rfl) rfl ?_
 refine Ops.pv (pv_lss rfl rfl) rfl ?_
 refine Ops.pv (pv_move rfl) rfl ?_
 refine Ops.pvcn rfl rfl (fun hg => pv_move rfl) rfl ?_
 refine Ops.pvcn rfl rfl (fun hg => Pv.setE (t := 12) rfl (cv_pos hg) (pv_gtr rfl rfl)) rfl ?_
 refine Ops.pv (pv_pick_or rfl rfl) rfl ?_
 refine Ops.nil ?_
 refine Ends.seq ?_
 refine Wp.cond_dect rfl (fun h1 => ?_) (fun h1 => ?_)
 ·
  refine Wp.seq ?_
  refine Wp.region ?_
  refine Ops.pv (pv_assign rfl) rfl ?_
  refine Ops.nil ?_
  refine Ends.seq ?_
  refine Wp.ret ?_
  refine Ends.then_ret ?_
  exact Ends.ret (res1 rfl rfl) ⟨by rw [rvErr_1 (by assumption)], rfl⟩
 refine Wp.skip ?_
 refine Ends.seq ?_
 refine Wp.seq ?_
 refine AnyH.start ((b1, .cells [.int .i64 s.1, .int .i64 s.2].toArray 38) :: cBlk cb sb tb :: []) 13 rfl ?_
 refine Tk 0 rfl rfl (pv_move rfl) rfl ?_
 refine Tk 1 rfl rfl (pv_nilCheck rfl) rfl ?_
 refine Tk 2 rfl rfl (pv_fieldAddr0 rfl rfl) rfl ?_
 refine Tk 3 rfl rfl (pv_fieldAddr0 rfl rfl) rfl ?_
 refine Tk 4 rfl rfl (pv_load rfl rfl rfl) rfl ?_
 refine Tk 5 rfl rfl (pv_loadK [_, _] rfl rfl rfl ⟨rfl, rfl, trivial⟩) rfl ?_
 refine AnyH.two 6 10 (by kernel_rfl) ?_ ?_
 ·
  refine Turn.ef rfl rfl (ef_callr (sf_get hS s) rfl rfl) ?_ ?_
  ·
   rintro _ _ ⟨rfl, rfl⟩; infer_instance
  rintro _ _ ⟨rfl, rfl⟩
  refine Tk 7 rfl rfl (pv_move rfl) rfl ?_
  refine Tk 8 rfl rfl (pv_extract rfl rfl) rfl ?_
  refine Tk 9 rfl rfl (pv_extract rfl rfl) rfl ?_
  refine AnyH.one 10 (by kernel_rfl) ?_
  refine Turn.ef rfl rfl (ef_allocK tyZ24 rfl) ?_ ?_
  ·
   rintro _ _ ⟨b2, rfl, rfl⟩; infer_instance
  rintro _ _ ⟨b2, rfl, rfl⟩
  refine AnyH.one 11 (by kernel_rfl) ?_
  refine Turn.ef rfl rfl (ef_storeK rfl rfl rfl rfl) ?_ ?_
  ·
   rintro _ _ ⟨rfl, rfl⟩; infer_instance
  rintro _ _ ⟨rfl, rfl⟩
  refine Tk 12 rfl rfl (pv_assign rfl) rfl ?_
  refine AnyH.done (by kernel_rfl) ?_
  refine Ends.seq ?_
  refine Wp.seq ?_
  refine Wp.seq ?_
  refine Wp.region ?_
  refine Ops.pv (pv_move rfl) rfl ?_
  refine Ops.pv (pv_eql rfl rfl) rfl ?_
  refine Ops.pv (pv_move rfl) rfl ?_
  refine Ops.pvc rfl rfl (fun hg => pv_fieldAddr0 rfl rfl) rfl ?_
  refine Ops.pvc rfl rfl (fun hg => Pv.setE (t := 28) rfl (cv_pos hg) (pv_load rfl rfl rfl)) rfl ?_
  refine Ops.pvc rfl rfl (fun hg => Pv.setE (t := 28) rfl (cv_pos hg) (Pv.setE (t := 29) rfl (cv_pos hg) (pv_eql rfl rfl))) rfl ?_
  refine Ops.pv (pv_pick_and rfl rfl) rfl ?_
  refine Ops.nil ?_
  refine Ends.seq ?_
  refine Wp.cond_dect rfl (fun h2 => ?_) (fun h2 => ?_)
  ·
   refine Wp.region ?_
   refine Ops.pv (pv_assign rfl) rfl ?_
   refine Ops.nil ?_
   refine Ends.seq ?_
   refine Wp.seq ?_
   refine Wp.region ?_
   refine Ops.pv (pv_move rfl) rfl ?_
   refine Ops.pv (pv_assign rfl) rfl ?_
   refine Ops.nil ?_
   refine Ends.seq ?_
   refine Wp.ret ?_
   exact Ends.ret (res1 rfl rfl) ⟨by rw [rvErr_2 (by assumption) (by assumption)], rfl⟩
  refine Wp.skip ?_
  refine Ends.seq ?_
  refine Wp.seq ?_
  refine Wp.region ?_
  refine Ops.pv (pv_move rfl) rfl ?_
  refine Ops.pv (pv_assign rfl) rfl ?_
  refine Ops.nil ?_
  refine Ends.seq ?_
  refine Wp.ret ?_
  exact Ends.ret (res1 rfl rfl) ⟨by rw [rvErr_3 (by assumption) (by assumption)], rfl⟩
 refine Turn.ef rfl rfl (ef_allocK tyZ24 rfl) ?_ ?_
 ·
  rintro _ _ ⟨b3, rfl, rfl⟩; infer_instance
 rintro _ _ ⟨b3, rfl, rfl⟩
 refine AnyH.one 6 (by kernel_rfl) ?_
 refine Turn.ef rfl rfl (ef_callr (sf_get hS s) rfl rfl) ?_ ?_
 ·
  rintro _ _ ⟨rfl, rfl⟩; infer_instance
 rintro _ _ ⟨rfl, rfl⟩
 refine Tk 7 rfl rfl (pv_move rfl) rfl ?_
 refine Tk 8 rfl rfl (pv_extract rfl rfl) rfl ?_
 refine Tk 9 rfl rfl (pv_extract rfl rfl) rfl ?_
 refine AnyH.one 11 (by kernel_rfl) ?_
 refine Turn.ef rfl rfl (ef_storeK rfl rfl rfl rfl) ?_ ?_
 ·
  rintro _ _ ⟨rfl, rfl⟩; infer_instance
 rintro _ _ ⟨rfl, rfl⟩
 refine Tk 12 rfl rfl (pv_assign rfl) rfl ?_
 refine AnyH.done (by kernel_rfl) ?_
 refine Ends.seq ?_
 refine Wp.seq ?_
 refine Wp.seq ?_
 refine Wp.region ?_
 refine Ops.pv (pv_move rfl) rfl ?_
 refine Ops.pv (pv_eql rfl rfl) rfl ?_
 refine Ops.pv (pv_move rfl) rfl ?_
 refine Ops.pvc rfl rfl (fun hg => pv_fieldAddr0 rfl rfl) rfl ?_
 refine Ops.pvc rfl rfl (fun hg => Pv.setE (t := 28) rfl (cv_pos hg) (pv_load rfl rfl rfl)) rfl ?_
 refine Ops.pvc rfl rfl (fun hg => Pv.setE (t := 28) rfl (cv_pos hg) (Pv.setE (t := 29) rfl (cv_pos hg) (pv_eql rfl rfl))) rfl ?_
 refine Ops.pv (pv_pick_and rfl rfl) rfl ?_
 refine Ops.nil ?_
 refine Ends.seq ?_
 refine Wp.cond_dect rfl (fun h3 => ?_) (fun h3 => ?_)
 ·
  refine Wp.region ?_
  refine Ops.pv (pv_assign rfl) rfl ?_
  refine Ops.nil ?_
  refine Ends.seq ?_
  refine Wp.seq ?_
  refine Wp.region ?_
  refine Ops.pv (pv_move rfl) rfl ?_
  refine Ops.pv (pv_assign rfl) rfl ?_
  refine Ops.nil ?_
  refine Ends.seq ?_
  refine Wp.ret ?_
  exact Ends.ret (res1 rfl rfl) ⟨by rw [rvErr_2 (by assumption) (by assumption)], rfl⟩
 refine Wp.skip ?_
 refine Ends.seq ?_
 refine Wp.seq ?_
 refine Wp.region ?_
 refine Ops.pv (pv_move rfl) rfl ?_
 refine Ops.pv (pv_assign rfl) rfl ?_
 refine Ops.nil ?_
 refine Ends.seq ?_
 refine Wp.ret ?_
 exact Ends.ret (res1 rfl rfl) ⟨by rw [rvErr_3 (by assumption) (by assumption)], rfl⟩
theorem tr_tkGet (n cb tk m : Nat) (v : Value) (L : Hp) (p : PS) (hH : CapsH n p cb L) (s : SlotM) : TrR Try.prog 68 [tkP tk, slotV s] (tkBlk tk cb m v :: L) ((dget p.l s).1.v) := by
 obtain ⟨sb, tb, Ls, Lt, hS, hT, rfl⟩ := hH
 refine Tr.enter Try.func68 rfl Try.ntmps68 rfl (fun W F => ?_)
 refine Wp.app ?_
 refine Wp.seq ?_
 refine Wp.region ?_
 refine Ops.ef rfl (ef_boxK rfl rfl) ?_
 rintro _ _ ⟨b1, rfl, rfl⟩
 refine Ops.ef rfl (ef_allocK tyZ24 rfl) ?_
 rintro _ _ ⟨b2, rfl, rfl⟩
 refine Ops.nil ?_
 refine Ends.seq ?_
 refine Wp.seq ?_
 refine AnyH.start ((b1, .cells [.int .i64 s.1, .int .i64 s.2].toArray 38) :: tkBlk tk cb m v :: cBlk cb sb tb :: []) 16 rfl ?_
 refine Tk 0 rfl rfl (pv_move rfl) rfl ?_
 refine Tk 1 rfl rfl (pv_nilCheck rfl) rfl ?_
 refine Tk 2 rfl rfl (pv_fieldAddr0 rfl rfl) rfl ?_
 refine Tk 3 rfl rfl (pv_load rfl rfl rfl) rfl ?_
 refine Tk 4 rfl rfl (pv_nilCheck rfl) rfl ?_
 refine Tk 5 rfl rfl (pv_fieldAddr0 rfl rfl) rfl ?_
 refine Tk 6 rfl rfl (pv_fieldAddr0 rfl rfl) rfl ?_
 refine Tk 7 rfl rfl (pv_load rfl rfl rfl) rfl ?_
 refine Tk 8 rfl rfl (pv_loadK [_, _] rfl rfl rfl ⟨rfl, rfl, trivial⟩) rfl ?_
 refine AnyH.two 9 13 (by kernel_rfl) ?_ ?_
 ·
  refine Turn.ef rfl rfl (ef_callr (sf_get hS s) rfl rfl) ?_ ?_
  ·
   rintro _ _ ⟨rfl, rfl⟩; infer_instance
  rintro _ _ ⟨rfl, rfl⟩
  refine Tk 10 rfl rfl (pv_move rfl) rfl ?_
  refine Tk 11 rfl rfl (pv_extract rfl rfl) rfl ?_
  refine Tk 12 rfl rfl (pv_extract rfl rfl) rfl ?_
  refine AnyH.one 13 (by kernel_rfl) ?_
  refine Turn.ef rfl rfl (ef_allocK tyZ24 rfl) ?_ ?_
  ·
   rintro _ _ ⟨b3, rfl, rfl⟩; infer_instance
  rintro _ _ ⟨b3, rfl, rfl⟩
  refine AnyH.one 14 (by kernel_rfl) ?_
  refine Turn.ef rfl rfl (ef_storeK rfl rfl rfl rfl) ?_ ?_
  ·
   rintro _ _ ⟨rfl, rfl⟩; infer_instance
  rintro _ _ ⟨rfl, rfl⟩
  refine Tk 15 rfl rfl (pv_assign rfl) rfl ?_
  refine AnyH.done (by kernel_rfl) ?_
  refine Ends.seq ?_
  refine Wp.seq ?_
  refine Wp.region ?_
  refine Ops.pv (pv_loadK [_, _, _, _, _, _] rfl rfl rfl ⟨rfl, rfl, rfl, rfl, rfl, rfl, trivial⟩) rfl ?_
  refine Ops.ef rfl (ef_storeK rfl rfl rfl rfl) ?_
  rintro _ _ ⟨rfl, rfl⟩
  refine Ops.nil ?_
  refine Ends.seq ?_
  refine Wp.ret ?_
  exact Ends.ret (res_one rfl (rv_cellK [_, _, _, _, _, _] rfl rfl rfl ⟨rfl, rfl, rfl, rfl, rfl, rfl, trivial⟩)) ⟨rfl, rfl⟩
 refine Turn.ef rfl rfl (ef_allocK tyZ24 rfl) ?_ ?_
 ·
  rintro _ _ ⟨b4, rfl, rfl⟩; infer_instance
 rintro _ _ ⟨b4, rfl, rfl⟩
 refine AnyH.one 9 (by kernel_rfl) ?_
 refine Turn.ef rfl rfl (ef_callr (sf_get hS s) rfl rfl) ?_ ?_
 ·
  rintro _ _ ⟨rfl, rfl⟩; infer_instance
 rintro _ _ ⟨rfl, rfl⟩
 refine Tk 10 rfl rfl (pv_move rfl) rfl ?_
 refine Tk 11 rfl rfl (pv_extract rfl rfl) rfl ?_
 refine Tk 12 rfl rfl (pv_extract rfl rfl) rfl ?_
 refine AnyH.one 14 (by kernel_rfl) ?_
 refine Turn.ef rfl rfl (ef_storeK rfl rfl rfl rfl) ?_ ?_
 ·
  rintro _ _ ⟨rfl, rfl⟩; infer_instance
 rintro _ _ ⟨rfl, rfl⟩
 refine Tk 15 rfl rfl (pv_assign rfl) rfl ?_
 refine AnyH.done (by kernel_rfl) ?_
 refine Ends.seq ?_
 refine Wp.seq ?_
 refine Wp.region ?_
 refine Ops.pv (pv_loadK [_, _, _, _, _, _] rfl rfl rfl ⟨rfl, rfl, rfl, rfl, rfl, rfl, trivial⟩) rfl ?_
 refine Ops.ef rfl (ef_storeK rfl rfl rfl rfl) ?_
 rintro _ _ ⟨rfl, rfl⟩
 refine Ops.nil ?_
 refine Ends.seq ?_
 refine Wp.ret ?_
 exact Ends.ret (res_one rfl (rv_cellK [_, _, _, _, _, _] rfl rfl rfl ⟨rfl, rfl, rfl, rfl, rfl, rfl, trivial⟩)) ⟨rfl, rfl⟩
set_option maxHeartbeats 2000000 in
theorem tr_tkInner (G : Hp) (n cb tk m : Nat) (v : Value) (L : Hp) (p : PS) (hH : CapsH n p cb L) (hok : POk p) (node : Int) (a : Option Addr) (c : Nat) (l : List SlotM) (hv : View G 2 (.slice a l.length c) l.length (slotsCells l)) (hl : l.length ≤ 2 ^ 40) : TrR Try.prog 86 [tkP tk, .int .i64 node, .slice a l.length c] (G ++ (tkBlk tk cb m v :: L)) (.tuple #[slotV ((firstIn p.l l node).getD (0, 0)), .bool (firstIn p.l l node).isSome]) := by
 have hH0 := hH
 have hrd := dradix_le hok.rel node
 have hpw : 2 ^ (dradix p.l node).toNat ≤ 2 ^ 4 := Nat.pow_le_pow_right (by omega) (by omega)
 obtain ⟨sb, tb, Ls, Lt, hS, hT, rfl⟩ := hH
 refine Tr.enter Try.func86 rfl Try.ntmps86 rfl (fun W F => ?_)
 refine Wp.app ?_
 refine Wp.seq ?_
 refine Wp.region ?_
 refine Ops.ef rfl (ef_allocK tyZ38 rfl) ?_
 rintro _ _ ⟨b1, rfl, rfl⟩
 refine Ops.pv (pv_assign rfl) rfl ?_
 refine Ops.nil ?_
 refine Ends.seq ?_
 refine Wp.seq ?_
 refine Wp.region ?_
 refine Ops.pv (pv_move rfl) rfl ?_
 refine Ops.pv (pv_nilCheck rfl) rfl ?_
 refine Ops.pv (pv_fieldAddr0 rfl rfl) rfl ?_
 refine Ops.pv (pv_load rfl rfl rfl) rfl ?_
 refine Ops.pv (pv_nilCheck rfl) rfl ?_
 refine Ops.pv (pv_fieldAddr0 rfl rfl) rfl ?_
 refine Ops.pv (pv_fieldAddr0 rfl rfl) rfl ?_
 refine Ops.pv (pv_load rfl rfl rfl) rfl ?_
 refine Ops.pv (pv_move rfl) rfl ?_
 refine Ops.ef rfl (ef_callr (sf_radix hS node) rfl rfl) ?_
 rintro _ _ ⟨rfl, rfl⟩
 refine Ops.pv (pv_assign rfl) rfl ?_
 refine Ops.nil ?_
 refine Ends.seq ?_
 refine Wp.seq ?_
 refine Wp.seq ?_
 refine Wp.region ?_
 refine Ops.pv (pv_move rfl) rfl ?_
 refine Ops.pv (pv_eql rfl rfl) rfl ?_
 refine Ops.nil ?_
 refine Ends.seq ?_
 refine Wp.cond_dect rfl (fun h1 => ?_) (fun h1 => ?_)
 ·
  refine Wp.seq ?_
  refine Wp.region ?_
  refine Ops.pv (pv_build rfl) rfl ?_
  refine Ops.ef rfl (ef_storeK rfl rfl rfl rfl) ?_
  rintro _ _ ⟨rfl, rfl⟩
  refine Ops.pv (pv_assign rfl) rfl ?_
  refine Ops.nil ?_
  refine Ends.seq ?_
  refine Wp.ret ?_
  refine Ends.then_ret ?_
  exact Ends.ret (res_list (rs := [.cell 6 38, .tmp 7]) rfl ⟨_, _, rfl, rv_cellK [_, _] rfl rfl rfl ⟨rfl, rfl, trivial⟩, ⟨_, _, rfl, rv_tmp rfl, rfl⟩⟩ rfl) ⟨by rw [firstIn_0 (by assumption)]; rfl, rfl⟩
 refine Wp.skip ?_
 refine Ends.seq ?_
 refine Wp.seq ?_
 refine Wp.seq ?_
 refine Wp.region ?_
 refine Ops.pv (pv_move rfl) rfl ?_
 refine Ops.pv (pv_shl rfl rfl (by omega) (shl_r hrd)) rfl ?_
 refine Ops.pv (pv_move rfl) rfl ?_
 refine Ops.nil ?_
 refine Ends.seq ?_
 refine Wp.block ?_
 refine Wp.loopK (σ := Nat) [(0, _), (1, _), (2, _), (6, _), (25, _)] (fun s => [(26, .int .i64 s)]) (fun s => (b1, .cells [.int .i64 0, .int .i64 0].toArray 38) :: (G ++ (tkBlk tk cb m v :: (cBlk cb sb tb :: (Ls ++ (Lt ++ F)))))) (fun s => s ≤ 2 ^ (dradix p.l node).toNat ∧ ∀ j : Nat, j < s → ((node, (j : Int)) ∈ l ∨ (dget p.l (node, (j : Int))).1.kind = 0)) (fun s => 2 ^ (dradix p.l node).toNat - s) 0 ⟨Nat.zero_le _, fun j hj => absurd hj (Nat.not_lt_zero j)⟩ ⟨rfl, rfl, rfl, rfl, rfl, trivial⟩ ⟨rfl, trivial⟩ (by intro w ho; (try dsimp only [List.nil_append, List.cons_append]); exact Drop.own ho) ?_
 rintro i KK ⟨hi, hn⟩ hK
 dsimp only [List.cons_append, List.nil_append] at hK ⊢
 refine Wp.seq ?_
 refine Wp.region ?_
 refine Ops.pv (pv_lss rfl rfl) rfl ?_
 refine Ops.nil ?_
 refine Ends.seq ?_
 refine Wp.seq ?_
 refine Wp.cond_dect rfl (fun h2 => ?_) (fun h2 => ?_)
 ·
  refine Wp.skip ?_
  refine Ends.seq ?_
  refine Wp.seq ?_
  refine Wp.block ?_
  refine Wp.seq ?_
  refine Wp.region ?_
  refine Ops.pv (pv_move rfl) rfl ?_
  refine Ops.pv (pv_assign rfl) rfl ?_
  refine Ops.nil ?_
  refine Ends.seq ?_
  refine Wp.seq ?_
  refine Wp.region ?_
  refine Ops.pv (pv_move rfl) rfl ?_
  refine Ops.pv (pv_move rfl) rfl ?_
  refine Ops.pv (pv_build rfl) rfl ?_
  refine Ops.ef rfl (ef_allocK tyZ38 rfl) ?_
  rintro _ _ ⟨b2, rfl, rfl⟩
  refine Ops.ef rfl (ef_storeK rfl rfl rfl rfl) ?_
  rintro _ _ ⟨rfl, rfl⟩
  refine Ops.nil ?_
  refine Ends.seq ?_
  refine Wp.seq ?_
  refine Wp.region ?_
  refine Ops.pv (pv_move rfl) rfl ?_
  refine Ops.pv (pv_loadK [_, _] rfl rfl rfl ⟨rfl, rfl, trivial⟩) rfl ?_
  refine Ops.ef rfl (ef_callr (tr_slContains G a c l (node, (i : Int)) hv hl) rfl rfl) ?_
  rintro _ _ ⟨rfl, rfl⟩
  refine Ops.pv (pv_not_dec rfl) rfl ?_
  refine Ops.pv (pv_move rfl) rfl ?_
  refine Ops.split (t := 36) rfl (fun h3 => ?_) (fun h3 => ?_)
  ·
   refine Ops.pvg ⟨_, _, rfl, rfl, rfl⟩ (pv_move rfl) rfl ?_
   refine Ops.pvg ⟨_, _, rfl, rfl, rfl⟩ (pv_loadK [_, _] rfl rfl rfl ⟨rfl, rfl, trivial⟩) rfl ?_
   refine Ops.efg ⟨_, _, rfl, rfl, rfl⟩ (ef_callr (tr_tkGet n cb tk m v (cBlk cb sb tb :: (Ls ++ Lt)) p hH0 (node, (i : Int))) rfl rfl) ?_
   rintro _ _ ⟨rfl, rfl⟩
   refine Ops.pvg ⟨_, _, rfl, rfl, rfl⟩ (pv_field rfl rfl rfl) rfl ?_
   refine Ops.pvg ⟨_, _, rfl, rfl, rfl⟩ (pv_neq rfl rfl) rfl ?_
   refine Ops.pv (pv_pick_true rfl rfl) rfl ?_
   refine Ops.nil ?_
   refine Ends.seq ?_
   refine Wp.cond_dect rfl (fun h4 => ?_) (fun h4 => ?_)
   ·
    refine Wp.seq ?_
    refine Wp.region ?_
    refine Ops.pv (pv_loadK [_, _] rfl rfl rfl ⟨rfl, rfl, trivial⟩) rfl ?_
    refine Ops.ef rfl (ef_storeK rfl rfl rfl rfl) ?_
    rintro _ _ ⟨rfl, rfl⟩
    refine Ops.pv (pv_assign rfl) rfl ?_
    refine Ops.nil ?_
    refine Ends.seq ?_
    refine Wp.ret ?_
    refine Ends.block_ret ?_
    refine Ends.then_ret ?_
    refine Ends.then_ret ?_
    refine Ends.block_ret ?_
    refine Ends.then_ret ?_
    have hc : (node, (i : Int)) ∉ l ∧ (dget p.l (node, (i : Int))).1.kind ≠ 0 := by first | assumption | exact ⟨by assumption, by assumption⟩
    exact Ends.ret (res_list (rs := [.cell 6 38, .tmp 7]) rfl ⟨_, _, rfl, rv_cellK [_, _] rfl rfl rfl ⟨rfl, rfl, trivial⟩, ⟨_, _, rfl, rv_tmp rfl, rfl⟩⟩ rfl) ⟨by rw [firstIn_hit (i := i) (by assumption) (by omega) hn hc.1 hc.2]; rfl, rfl⟩
   refine Wp.skip ?_
   refine Ends.block_normal ?_
   refine Ends.seq ?_
   refine Wp.region ?_
   refine Ops.pv (pv_add rfl rfl (w64n (k := i + 1) (by omega) (by omega))) rfl ?_
   refine Ops.pv (pv_move rfl) rfl ?_
   refine Ops.nil ?_
   refine Ends.goes ?_
   refine Goes.back (hK (i + 1) ⟨by omega, fun j hj => ?_⟩ (by omega)) ⟨rfl, rfl, rfl, rfl, rfl, rfl, trivial⟩
   rcases Nat.lt_succ_iff_lt_or_eq.1 hj with hj | rfl
   ·
    exact hn j hj
   simp_all
  refine Ops.skipg ⟨_, _, rfl, rfl, rfl⟩ rfl ?_
  refine Ops.skipg ⟨_, _, rfl, rfl, rfl⟩ rfl ?_
  refine Ops.skipg ⟨_, _, rfl, rfl, rfl⟩ rfl ?_
  refine Ops.skipg ⟨_, _, rfl, rfl, rfl⟩ rfl ?_
  refine Ops.skipg ⟨_, _, rfl, rfl, rfl⟩ rfl ?_
  refine Ops.pv (pv_pick_false rfl rfl) rfl ?_
  refine Ops.nil ?_
  refine Ends.seq ?_
  refine Wp.cond_false rfl ?_
  refine Wp.skip ?_
  refine Ends.block_normal ?_
  refine Ends.seq ?_
  refine Wp.region ?_
  refine Ops.pv (pv_add rfl rfl (w64n (k := i + 1) (by omega) (by omega))) rfl ?_
  refine Ops.pv (pv_move rfl) rfl ?_
  refine Ops.nil ?_
  refine Ends.goes ?_
  refine Goes.back (hK (i + 1) ⟨by omega, fun j hj => ?_⟩ (by omega)) ⟨rfl, rfl, rfl, rfl, rfl, rfl, trivial⟩
  rcases Nat.lt_succ_iff_lt_or_eq.1 hj with hj | rfl
  ·
   exact hn j hj
  simp_all
 refine Wp.exit ?_
 refine Ends.then_exit ?_
 refine Ends.then_exit ?_
 refine Ends.block_hit ?_
 refine Ends.seq ?_
 refine Wp.seq ?_
 refine Wp.region ?_
 refine Ops.pv (pv_build rfl) rfl ?_
 refine Ops.ef rfl (ef_storeK rfl rfl rfl rfl) ?_
 rintro _ _ ⟨rfl, rfl⟩
 refine Ops.pv (pv_assign rfl) rfl ?_
 refine Ops.nil ?_
 refine Ends.seq ?_
 refine Wp.ret ?_
 exact Ends.ret (res_list (rs := [.cell 6 38, .tmp 7]) rfl ⟨_, _, rfl, rv_cellK [_, _] rfl rfl rfl ⟨rfl, rfl, trivial⟩, ⟨_, _, rfl, rv_tmp rfl, rfl⟩⟩ rfl) ⟨by rw [firstIn_miss (fun j hj => hn j (by omega))]; rfl, rfl⟩
end Go.Proofs.Ytdodfnjmkpgdbaa
end
