/- RevokeDoes. Laid together by pack.py out of the texts in wip. -/
import Derived.Test.YtdodfnjmkpgdbaaGreatPRevokeDoes5
set_option linter.unusedVariables false
set_option linter.unusedSimpArgs false
set_option linter.unusedSectionVars false
section
set_option linter.unusedVariables false
set_option linter.unusedSimpArgs false
set_option linter.unusedSectionVars false
namespace Go.Proofs.YtdodfnjmkpgdbaaGreat
open Go.SL
structure TS where
  p : PS
  told : List CapM
  n : Nat
def fin (l : List DN) (s : SlotM) : Prop := (dget l s).1.kind ≠ 0 ∧ dcount l (dget l s).1.kind (dget l s).1.object = 1
instance {l : List DN} {s : SlotM} : Decidable (fin l s) := by unfold fin; infer_instance
def firstIn (l : List DN) (way : List SlotM) (node : Int) : Option SlotM :=
  if dradix l node = 0 then none else ((List.range (2 ^ (dradix l node).toNat)).map fun (i : Nat) => ((node, (i : Int)) : SlotM)).find? fun s => decide (s ∉ way ∧ (dget l s).1.kind ≠ 0)
def innerM (l : List DN) (way : List SlotM) (s : SlotM) : Option SlotM :=
  if (dget l s).1.kind = 2 ∧ fin l s then firstIn l way (dget l s).1.object else none
def stepT (t : TS) (s : SlotM) : TS :=
  ⟨if fin t.p.l s ∧ (dget t.p.l s).1.kind = 2 then (mClear (mTake t.p s).2.2 (dget t.p.l s).1.object).2 else (mTake t.p s).2.2,
   if fin t.p.l s then t.told ++ [(dget t.p.l s).1] else t.told, t.n - 1⟩
inductive Away : TS → List SlotM → SlotM → Bool → TS → Prop
  | spent {t : TS} {way : List SlotM} {s : SlotM} : innerM t.p.l way s = none → t.n = 0 → Away t way s false t
  | step {t : TS} {way : List SlotM} {s : SlotM} : innerM t.p.l way s = none → t.n ≠ 0 → Away t way s true (stepT t s)
  | fall {t t' : TS} {way : List SlotM} {s x : SlotM} : innerM t.p.l way s = some x → Away t (way ++ [x]) x false t' → Away t way s false t'
  | next {t t1 t' : TS} {way : List SlotM} {s x : SlotM} {b : Bool} : innerM t.p.l way s = some x → Away t (way ++ [x]) x true t1 → Away t1 way s b t' → Away t way s b t'
theorem Away.le {t t' : TS} {way : List SlotM} {s : SlotM} {b : Bool} (h : Away t way s b t') : t'.n ≤ t.n ∧ (b = true → t'.n < t.n) := by
 induction h with
 | spent _ _ => exact ⟨Nat.le_refl _, fun e => by cases e⟩
 | step _ h => refine ⟨?_, fun _ => ?_⟩ <;> (unfold stepT; dsimp only; omega)
 | fall _ _ ih => exact ⟨ih.1, fun e => by cases e⟩
 | next _ _ _ ih1 ih2 => have := ih1.2 rfl; exact ⟨by omega, fun e => by have := ih2.2 e; omega⟩
theorem stepT_ok {t : TS} (h : POk t.p) (s : SlotM) : POk (stepT t s).p := by
 unfold stepT; dsimp only
 split
 ·
  exact (h.take s).clear _
 ·
  exact h.take s
theorem Away.ok {t t' : TS} {way : List SlotM} {s : SlotM} {b : Bool} (h : Away t way s b t') : POk t.p → POk t'.p := by
 induction h with
 | spent _ _ => exact id
 | step _ _ => exact fun h => stepT_ok h _
 | fall _ _ ih => exact ih
 | next _ _ _ ih1 ih2 => exact fun h => ih2 (ih1 h)
theorem firstIn_some {l : List DN} {way : List SlotM} {node : Int} {x : SlotM} (h : firstIn l way node = some x) : x ∉ way ∧ (dget l x).1.kind ≠ 0 ∧ x.1 = node := by
 unfold firstIn at h
 split at h
 ·
  cases h
 ·
  have h1 := List.find?_some h
  have h2 := List.mem_of_find?_eq_some h
  obtain ⟨i, _, rfl⟩ := List.mem_map.1 h2
  have h3 := of_decide_eq_true h1
  exact ⟨h3.1, h3.2, rfl⟩
theorem innerM_some {l : List DN} {way : List SlotM} {s x : SlotM} (h : innerM l way s = some x) : ((dget l s).1.kind = 2 ∧ fin l s) ∧ x ∉ way ∧ (dget l x).1.kind ≠ 0 ∧ x.1 = (dget l s).1.object := by
 unfold innerM at h
 split at h
 ·
  exact ⟨by assumption, firstIn_some h⟩
 ·
  cases h
def freeW (l : List DN) (way : List SlotM) : Nat := ((dfull l).filter fun s => decide (s ∉ way)).length
theorem freeW_lt {l : List DN} (hl : HasS l) {way : List SlotM} {x : SlotM} (hx : x ∉ way) (hk : (dget l x).1.kind ≠ 0) : freeW l (way ++ [x]) < freeW l way := by
 unfold freeW
 have h1 : ((dfull l).filter fun s => decide (s ∉ way ++ [x])) = (((dfull l).filter fun s => decide (s ∉ way)).filter fun s => decide (s ≠ x)) := by
  rw [List.filter_filter]
  refine List.filter_congr fun s _ => ?_
  simp only [List.mem_append, List.mem_singleton, not_or, Bool.decide_and, decide_not]
  rw [Bool.and_comm]
 rw [h1]
 have h2 := filter_ne_len (s := x) ((dfull_nodup hl).filter fun s => decide (s ∉ way)) (List.mem_filter.2 ⟨(mem_dfull hl).2 hk, decide_eq_true hx⟩)
 omega
theorem freeW_le (l : List DN) (way : List SlotM) : freeW l way ≤ (dfull l).length := List.length_filter_le _ _
theorem dradix_le {l : List DN} (h : HasS l) (id : Int) : 0 ≤ dradix l id ∧ dradix l id ≤ 4 := by
 obtain ⟨S, hR⟩ := h
 unfold dradix
 cases e : dfind l id with
 | none => exact ⟨by decide, by decide⟩
 | some d =>
  obtain ⟨n, _, hr, _, _, hw⟩ := rel_find hR e
  have := hw.hi
  dsimp only; omega
theorem firstIn_hit {l : List DN} {way : List SlotM} {node : Int} {i : Nat} (h0 : dradix l node ≠ 0) (hi : i < 2 ^ (dradix l node).toNat) (hb : ∀ j, j < i → ((node, (j : Int)) ∈ way ∨ (dget l (node, (j : Int))).1.kind = 0)) (h : (node, (i : Int)) ∉ way) (hk : (dget l (node, (i : Int))).1.kind ≠ 0) : firstIn l way node = some (node, (i : Int)) := by
 unfold firstIn
 rw [if_neg h0, List.find?_map, List.find?_eq_some_iff_append.2, Option.map_some]
 refine ⟨decide_eq_true ⟨h, hk⟩, List.range i, (List.range' (i + 1) (2 ^ (dradix l node).toNat - i - 1)), ?_, ?_⟩
 ·
  rw [List.range_eq_range', List.range_eq_range', show 2 ^ (dradix l node).toNat = i + (1 + (2 ^ (dradix l node).toNat - i - 1)) by omega, ← List.range'_append_1, ← List.range'_append_1]
  simp only [Nat.zero_add, List.range'_one, List.singleton_append]
  congr 2
  congr 1
  omega
 ·
  intro j hj
  have hj' := List.mem_range.1 hj
  simp only [Function.comp, Bool.not_eq_true', decide_eq_false_iff_not]
  rintro ⟨h1, h2⟩
  rcases hb j hj' with h3 | h3
  ·
   exact h1 h3
  ·
   exact h2 h3
theorem firstIn_miss {l : List DN} {way : List SlotM} {node : Int} (hb : ∀ j : Nat, j < 2 ^ (dradix l node).toNat → ((node, (j : Int)) ∈ way ∨ (dget l (node, (j : Int))).1.kind = 0)) : firstIn l way node = none := by
 unfold firstIn
 split
 ·
  rfl
 ·
  rw [List.find?_eq_none]
  intro x hx
  obtain ⟨j, hj, rfl⟩ := List.mem_map.1 hx
  simp only [decide_eq_true_eq]
  rintro ⟨h1, h2⟩
  rcases hb j (List.mem_range.1 hj) with h3 | h3
  ·
   exact h1 h3
  ·
   exact h2 h3
theorem stepT_get {t : TS} (h : POk t.p) (s x : SlotM) : (dget (stepT t s).p.l x).1 = if x = s then CapM.zero else (dget t.p.l x).1 := by
 have h1 : (dget (mTake t.p s).2.2.l x).1 = if x = s then CapM.zero else (dget t.p.l x).1 := by
  by_cases hk : (dget t.p.l s).1.kind = 0
  ·
   rw [take_noF h hk]
   split
   ·
    rename_i e; subst e; rw [h.rel.zero hk]
   ·
    rfl
  ·
   rw [take_F h hk, take_get h.rel hk]
   split <;> rfl
 unfold stepT; dsimp only
 split
 ·
  show (dget (ddrop (mTake t.p s).2.2.l _).2 x).1 = _
  rw [drop_get (h.take s).rel, h1]
 ·
  exact h1
theorem dfull_step {t : TS} (h : POk t.p) (s : SlotM) : dfull (stepT t s).p.l = (dfull t.p.l).filter fun z => decide (z ≠ s) := by
 refine sorted_ext (dfull_sorted (stepT_ok h s).rel) ((dfull_sorted h.rel).filter _) fun x => ?_
 rw [mem_dfull (stepT_ok h s).rel, stepT_get h, List.mem_filter, mem_dfull h.rel]
 by_cases e : x = s
 ·
  subst e; rw [if_pos rfl]; simp [CapM.zero]
 ·
  rw [if_neg e]; simp [e]
theorem filter_comm2 {α : Type} (p q : α → Bool) (l : List α) : (l.filter p).filter q = (l.filter q).filter p := by
 rw [List.filter_filter, List.filter_filter]
 exact List.filter_congr fun x _ => Bool.and_comm _ _
theorem Away.free {t t' : TS} {way : List SlotM} {s : SlotM} {b : Bool} (h : Away t way s b t') : POk t.p → ∀ w, freeW t'.p.l w ≤ freeW t.p.l w := by
 induction h with
 | spent _ _ => exact fun _ _ => Nat.le_refl _
 | step _ _ =>
  intro h w
  unfold freeW
  rw [dfull_step h, filter_comm2]
  exact List.length_filter_le _ _
 | fall _ _ ih => exact ih
 | next _ ha _ ih1 ih2 => exact fun h w => Nat.le_trans (ih2 (ha.ok h) w) (ih1 h w)
end Go.Proofs.YtdodfnjmkpgdbaaGreat
end
section
set_option linter.unusedVariables false
set_option linter.unusedSimpArgs false
set_option linter.unusedSectionVars false
namespace Go.SL
attribute [local semireducible] Ops Wp Ends Goes Ef AnyH Turn Tr Pv Res RVal
def TrPostE (R : Value → Hp → Prop) (X : List PanicEntry → Hp → Prop) (W : World) (F : Hp) : Ending → World → Prop := fun e w' =>
  (∃ v L', e = .returned v ∧ R v L' ∧ Own W w' (L' ++ F)) ∨ ∃ c L', e = .panicked c ∧ X c L' ∧ Own W w' (L' ++ F)
def TrE (P : Program) (f : FuncId) (args : List Value) (L : Hp) (R : Value → Hp → Prop) (X : List PanicEntry → Hp → Prop) : Prop :=
  ∀ W w F, Own W w (L ++ F) → Calls P f args.toArray w (TrPostE R X W F)
theorem TrE.enter {P : Program} {f : FuncId} {fn : Func} {c : Code} {n : Nat} {args : List Value} {L : Hp} {R : Value → Hp → Prop} {X : List PanicEntry → Hp → Prop}
    (hf : P.funcs[f]? = some fn) (hb : fn.body = some c) (hn : fn.ntmps = n) (hle : Nat.ble args.length n = true)
    (h : ∀ W F, Wp P W (bodyPost P fn (TrPostE R X W F)) n [] c (argsEnv 0 args) (L ++ F)) : TrE P f args L R X := fun W w F ho =>
  calls_of_wp hf hb (by
    subst hn
    exact h W F _ w (sees_start hle) ho)
theorem TrE.mono {P : Program} {f : FuncId} {args : List Value} {L : Hp} {R R' : Value → Hp → Prop} {X X' : List PanicEntry → Hp → Prop} (h : TrE P f args L R X) (hr : ∀ v L', R v L' → R' v L') (hx : ∀ c L', X c L' → X' c L') : TrE P f args L R' X' :=
  fun W w F ho => (h W w F ho).mono fun _ _ h => by
    rcases h with ⟨v, L', he, hR, ho'⟩ | ⟨c, L', he, hX, ho'⟩
    · exact .inl ⟨v, L', he, hr _ _ hR, ho'⟩
    · exact .inr ⟨c, L', he, hx _ _ hX, ho'⟩
theorem Ends.retE {P : Program} {W : World} {fn : Func} {R : Value → Hp → Prop} {X : List PanicEntry → Hp → Prop} {F : Hp} {n : Nat} {E : Env} {L L' : Hp} {v : Value} {M : Hp}
    (hres : Res P fn n [] E L v) (hR : R v L') [ha : App L' F M] [hd : Drop L M] : Ends W (bodyPost P fn (TrPostE R X W F)) n [] .ret E L :=
  fun a w hs ho => ⟨hs.dfs, v, hres a w hs ho.held, .inl ⟨v, L', rfl, hR, by rw [ha.eq]; exact hd.own ho⟩⟩
theorem Ends.finE {P : Program} {W : World} {fn : Func} {R : Value → Hp → Prop} {X : List PanicEntry → Hp → Prop} {F : Hp} {n : Nat} {E : Env} {L L' : Hp} {v : Value} {M : Hp}
    (hres : Res P fn n [] E L v) (hR : R v L') [ha : App L' F M] [hd : Drop L M] : Ends W (bodyPost P fn (TrPostE R X W F)) n [] .normal E L :=
  fun a w hs ho => ⟨hs.dfs, v, hres a w hs ho.held, .inl ⟨v, L', rfl, hR, by rw [ha.eq]; exact hd.own ho⟩⟩
instance (priority := 1260) Part.consApp2 {x : Nat × Obj} {L A T R : Hp} [h : Part L (x :: (A ++ T)) R] : Part L ((x :: A) ++ T) R := ⟨h.perm⟩
class PT (W : World) (D : List Deferred) (Q : Exit → Act → World → Prop) (X : outParam (List PanicEntry → Hp → Prop)) (F : outParam Hp) : Prop where
  pt : ∀ c a w L', a.defers = D → X c L' → Own W w (L' ++ F) → Q (.panic c) a w
instance PT.body {P : Program} {W : World} {fn : Func} {R : Value → Hp → Prop} {X : List PanicEntry → Hp → Prop} {F : Hp} : PT W [] (bodyPost P fn (TrPostE R X W F)) X F :=
  ⟨fun c a w L' hd hx ho => ⟨hd, .inr ⟨c, L', rfl, hx, ho⟩⟩⟩
instance PT.then_ {W : World} {D : List Deferred} {Q : Exit → Act → World → Prop} {K : Act → World → Prop} {X : List PanicEntry → Hp → Prop} {F : Hp} [h : PT W D Q X F] : PT W D (Exit.then K Q) X F := ⟨h.pt⟩
instance PT.block_ {W : World} {D : List Deferred} {Q : Exit → Act → World → Prop} {id : Nat} {X : List PanicEntry → Hp → Prop} {F : Hp} [h : PT W D Q X F] : PT W D (Exit.inBlock id Q) X F := ⟨h.pt⟩
section
variable {P : Program} {W : World} {ops : Array Oper} {Q : Exit → Act → World → Prop} {n : Nat} {D : List Deferred} {E : Env} {L : Hp} {rest : List Oper} {ty : TypeId} {pos : String} {aft : Array Edge} {g : Option (Nat × Bool)} {K : Env → Hp → Prop} {X Y : List PanicEntry → Hp → Prop} {G : Hp}
def EfX (P : Program) (W : World) (n : Nat) (D : List Deferred) (o : Oper) (E : Env) (L : Hp) (K : Env → Hp → Prop) (X : List PanicEntry → Hp → Prop) : Prop :=
  ∀ (Q : Exit → Act → World → Prop) a w (next : Act → World → Prop), Sees n D E a → Own W w L →
    (∀ E' L' a' w', K E' L' → Sees n D E' a' → Own W w' L' → next a' w') → (∀ c L' w', X c L' → Own W w' L' → Q (.panic c) a w') → o.wp P a w next Q
theorem Ops.efx {o : Oper} (hg : o.guard = none) (h : EfX P W n D o E L K X) [hq : PT W D Q Y G] (hx : ∀ c L', X c L' → ∃ L2, Y c L2 ∧ Drop L' (L2 ++ G)) (hn : ∀ E' L', K E' L' → Ops P W ops Q n D rest E' L') : Ops P W ops Q n D (o :: rest) E L := fun a w hs ho =>
  wpList_plain hg fun K' hK' => h Q a w K' hs ho (fun E' L' a' w' k hs' ho' => hK' _ _ (hn E' L' k a' w' hs' ho')) (fun c L' w' hX ho' => by
    obtain ⟨L2, hY, hd⟩ := hx c L' hX
    exact hq.pt c a w' L2 hs.dfs hY (hd.own ho'))
theorem Turn.efx {S : Hp} {fuel : Nat} {listed : Array Bool} {i : Nat} {o : Oper} (hi : ops[i]? = some o) (hg : Wanted ops E o.guard true) (h : EfX P W n D o E L K X) [hq : PT W D Q Y G] (hx : ∀ c L', X c L' → ∃ L2, Y c L2 ∧ Drop L' (L2 ++ G)) (hS : ∀ E' L', K E' L' → HeldSub L' S)
    (hn : ∀ E' L', K E' L' → AnyH P W ops Q n D S fuel (listed.setIfInBounds i true) E' L') : Turn P W ops Q n D S fuel listed i E L := fun a w hs ho => by
  unfold wpOp
  simp only [hi]
  rw [if_pos (wanted_of hg hs)]
  exact .inl (h Q a w _ hs ho (fun E' L' a' w' k hs' ho' => ⟨ho'.heldSub (hS _ _ k), hn E' L' k a' w' hs' ho'⟩) (fun c L' w' hX ho' => by
    obtain ⟨L2, hY, hd⟩ := hx c L' hX
    exact hq.pt c a w' L2 hs.dfs hY (hd.own ho')))
theorem efx_call {d : Nat} {f : FuncId} {xs : List Operand} {ats : Array TypeId} {args : List Value} {Lp F : Hp} {R : Value → Hp → Prop} (ht : TrE P f args Lp R X) [hf : GoFn P f] (hx : evs E xs = some args) (hd : Nat.blt d n = true) [hp : Part L Lp F] :
    EfX P W n D ⟨some d, .call { callee := .value (.func f), args := xs.toArray, argTypes := ats }, ty, pos, aft, g⟩ E L (fun E' L' => ∃ v L1, R v L1 ∧ E' = (d, v) :: E ∧ L' = L1 ++ F) (fun c L' => ∃ L1, X c L1 ∧ L' = L1 ++ F) := fun Q a w next hs ho hn hpn => by
  unfold Oper.wp
  rw [execOp_call_go]
  have e : (#[] ++ xs.toArray.map a.eval ++ #[] : Array Value) = args.toArray := by simp [hs.evs hx]
  rw [e, run_callFunc]
  refine (ht W w F (ho.part hp)).mono ?_
  rintro e' w' (⟨v, L1, rfl, hR, ho'⟩ | ⟨c, L1, rfl, hX, ho'⟩)
  · exact hn _ _ _ _ ⟨v, L1, hR, rfl, rfl⟩ (hs.put hd) ho'
  · exact hpn _ _ _ ⟨L1, hX, rfl⟩ ho'
theorem efx_callf {x : Operand} {d : Nat} {f : FuncId} {xs : List Operand} {ats : Array TypeId} {args cap : List Value} {Lp F : Hp} {R : Value → Hp → Prop} (hv : ev E x = some (.func (.func f) #[] cap.toArray)) (hx : evs E xs = some args) (ht : TrE P f (args ++ cap) Lp R X) [hf : GoFn P f] (hd : Nat.blt d n = true) [hp : Part L Lp F] :
    EfX P W n D ⟨some d, .call { callee := .value x, args := xs.toArray, argTypes := ats }, ty, pos, aft, g⟩ E L (fun E' L' => ∃ v L1, R v L1 ∧ E' = (d, v) :: E ∧ L' = L1 ++ F) (fun c L' => ∃ L1, X c L1 ∧ L' = L1 ++ F) := fun Q a w next hs ho hn hpn => by
  unfold Oper.wp
  have e : (execOp a.eval ⟨some d, .call { callee := .value x, args := xs.toArray, argTypes := ats }, ty, pos, aft, g⟩).run P w = .ok (.enter f (args ++ cap).toArray) w := by
    simp only [execOp, resolve, hs.ev hv, Deferred.ofValue, List.map_toArray, hs.evs hx, Sem.run_bind, Sem.run_pure, Result.andThen_ok, invoke]
    rw [show ((#[] : Array Value) ++ args.toArray ++ cap.toArray) = (args ++ cap).toArray by simp, run_callFunc]
  rw [e]
  refine (ht W w F (ho.part hp)).mono ?_
  rintro e' w' (⟨v, L1, rfl, hR, ho'⟩ | ⟨c, L1, rfl, hX, ho'⟩)
  · exact hn _ _ _ _ ⟨v, L1, hR, rfl, rfl⟩ (hs.put hd) ho'
  · exact hpn _ _ _ ⟨L1, hX, rfl⟩ ho'
theorem pv_iface {d : Option Tmp} {T : TypeId} {x : Operand} {v : Value} {S : Hp} {dsc : TypeDesc} [ht : TyD P T dsc] (hd : (match dsc with | .interface _ => false | _ => true) = true) (hx : ev E x = some v) : Pv P n D E S ⟨d, .makeInterface T x, ty, pos, aft, g⟩ (.iface T v) := fun a w hs _ => by
 simp only [execOp, hs.ev hx, Instr.makeInterface, Sem.run_bind, TyD.run, Result.andThen_ok, Sem.run_pure]
 cases dsc <;> simp_all
theorem Ops.panic {x : Operand} {T : TypeId} {v : Value} {d : Option Tmp} (hx : ev E x = some (.iface T v)) [hq : PT W D Q Y G] (hy : ∃ L2, Y [{ v := .iface T v, recovered := false }] L2 ∧ Drop L (L2 ++ G)) : Ops P W ops Q n D (⟨d, .panic x, ty, pos, aft, none⟩ :: rest) E L := fun a w hs ho =>
  wpList_plain rfl fun K' hK' => by
    obtain ⟨L2, hY, hd⟩ := hy
    have hp := hq.pt [{ v := .iface T v, recovered := false }] a w L2 hs.dfs hY (hd.own ho)
    unfold Oper.wp
    have e : (execOp a.eval ⟨d, .panic x, ty, pos, aft, none⟩).run P w = .halt (.panic (.iface T v)) w := by
      simp [execOp, hs.ev hx, Instr.panic, goPanic]
    rw [e]
    exact hp
end
section
variable {P : Program} {W : World} {ops : Array Oper} {Q : Exit → Act → World → Prop} {n : Nat} {D : List Deferred} {E : Env} {L : Hp} {rest : List Oper} {ty : TypeId} {pos : String} {aft : Array Edge} {g : Option (Nat × Bool)} {K : Env → Hp → Prop} {X Y : List PanicEntry → Hp → Prop} {G : Hp}
theorem Tr.enterD {f : FuncId} {fn : Func} {c : Code} {args : List Value} {R : Value → Hp → Prop}
    (hf : P.funcs[f]? = some fn) (hb : fn.body = some c) (hn : fn.ntmps = n) (hle : Nat.ble args.length n = true)
    (h : ∀ W F, Wp P W (bodyPostD P fn (TrPost R W F)) n [] c (argsEnv 0 args) (L ++ F)) : Tr P f args L R := fun W w F ho =>
  calls_of_wp_defers hf hb (by
    subst hn
    exact h W F _ w (sees_start hle) ho)
theorem Ops.defer {x : Operand} {fn : Fn} {cap : Array Value} {ats : Array TypeId} (hv : ev E x = some (.func fn #[] cap)) (hn : Ops P W ops Q n ({ target := .fn fn cap, args := #[] } :: D) rest E L) :
    Ops P W ops Q n D (⟨none, .defer { callee := .value x, args := #[], argTypes := ats }, ty, pos, aft, none⟩ :: rest) E L := fun a w hs ho =>
  wpList_plain rfl fun K' hK' => by
    unfold Oper.wp
    have e : (execOp a.eval ⟨none, .defer { callee := .value x, args := #[], argTypes := ats }, ty, pos, aft, none⟩).run P w = .ok (.defer { target := .fn fn cap, args := #[] }) w := by
      simp [execOp, resolve, hs.ev hv, Deferred.ofValue]
    rw [e]
    exact hK' _ _ (hn _ _ ⟨hs.size, by rw [← hs.dfs]; rfl, hs.get⟩ ho)
theorem Ops.efxq {o : Oper} (hg : o.guard = none) (h : EfX P W n D o E L K X) (hq : ∀ c a w L', Sees n D E a → X c L' → Own W w L' → Q (.panic c) a w) (hn : ∀ E' L', K E' L' → Ops P W ops Q n D rest E' L') : Ops P W ops Q n D (o :: rest) E L := fun a w hs ho =>
  wpList_plain hg fun K' hK' => h Q a w K' hs ho (fun E' L' a' w' k hs' ho' => hK' _ _ (hn E' L' k a' w' hs' ho')) (fun c L' w' hX ho' => hq c a w' L' hs hX ho')
theorem leaves_one {fn : Func} {R : Value → Hp → Prop} {F L1 L' M : Hp} {v : Value} {gf : FuncId} {cap : List Value} {u : FrameMode} {a : Act} {w : World} (hs : Sees n [{ target := .fn (.func gf) cap.toArray, args := #[] }] E a) (hu : u ≠ .run) [hf : GoFn P gf]
    (hc : CallsD P gf cap.toArray u w (fun e u' w' => e = .returned (.tuple #[]) ∧ settle u' = .returning ∧ Own W w' L1)) (hres : Res P fn n [{ target := .fn (.func gf) cap.toArray, args := #[] }] E L1 v) (hR : R v L') [ha : App L' F M] [hd : Drop L1 M] :
    Leaves P fn a.tmps (TrPost R W F) a.defers u w := by
  rw [hs.dfs]
  refine leaves_cons (f := gf) (args := cap.toArray) hu ?_ (hc.mono ?_)
  · simp only [invoke]
    rw [show ((#[] : Array Value) ++ cap.toArray) = cap.toArray by simp, run_callFunc]
  · rintro e u' w' ⟨rfl, hs', ho'⟩
    show Leaves P fn a.tmps _ [] (settle u') w'
    rw [hs']
    exact ⟨v, hres a w' hs ho'.held, v, L', rfl, hR, by rw [ha.eq]; exact hd.own ho'⟩
theorem Ends.retD {fn : Func} {R : Ending → World → Prop} (h : ∀ a w, Sees n D E a → Own W w L → Leaves P fn a.tmps R a.defers .returning w) : Ends W (bodyPostD P fn R) n D .ret E L := h
theorem Ends.finS {fn : Func} {c0 : Frame} {cs : List Frame} {R : Ending → FrameMode → World → Prop} {u : FrameMode} (hres : fn.results = #[]) (hR : ∀ w, Own W w L → R (.returned (.tuple #[])) u w) :
    Ends W (fun e a w => bodyPostS P fn c0 cs R e a ({ c0 with mode := u } :: cs) w) n [] .normal E L := fun a w hs ho =>
  ⟨hs.dfs, u, rfl, _, results_none hres _ P w, hR w ho⟩
theorem wpS_recover {id d : Nat} {c2 : Code} {Q : Exit → Act → List Frame → World → Prop} {a : Act} {c0 : Frame} {cs : List Frame} {w : World} {v : Value} {older : List PanicEntry} (hu : c0.mode = .panicking ({ v := v, recovered := false } :: older))
    (h : c2.wpS P Q (a.put (some d) v) ({ c0 with mode := .panicking ({ v := v, recovered := true } :: older) } :: cs) w) :
    ((Code.region id #[⟨some d, .call { callee := .builtin .recover, args := #[], argTypes := #[] }, ty, pos, aft, none⟩] false).seq c2).wpS P Q a (c0 :: cs) w := by
  apply wpS_seq
  apply wpS_region
  have he : (execOp a.eval ⟨some d, .call { callee := .builtin .recover, args := #[], argTypes := #[] }, ty, pos, aft, none⟩).run P w = .ok .recover w := by simp [go_sem]
  have hw : Region.wanted (⟨some d, .call { callee := .builtin .recover, args := #[], argTypes := #[] }, ty, pos, aft, none⟩ : Oper) (yielded #[⟨some d, .call { callee := .builtin .recover, args := #[], argTypes := #[] }, ty, pos, aft, none⟩] a.tmps) = true := by simp [Region.wanted]
  have hrd : recoverD (c0 :: cs) = some (v, { c0 with mode := .panicking ({ v := v, recovered := true } :: older) } :: cs) := by simp [recoverD, hu]
  show wpOpsS P _ _ [0] a (c0 :: cs) w
  simp only [wpOpsS, List.getElem?_toArray, List.getElem?_cons_zero, hw, if_true, he, hrd]
  exact h
theorem wpS_recover0 {id d : Nat} {c2 : Code} {Q : Exit → Act → List Frame → World → Prop} {a : Act} {c0 : Frame} {cs : List Frame} {w : World} (hu : c0.mode = .returning)
    (h : c2.wpS P Q (a.put (some d) .nilIface) (c0 :: cs) w) :
    ((Code.region id #[⟨some d, .call { callee := .builtin .recover, args := #[], argTypes := #[] }, ty, pos, aft, none⟩] false).seq c2).wpS P Q a (c0 :: cs) w := by
  apply wpS_seq
  apply wpS_region
  have he : (execOp a.eval ⟨some d, .call { callee := .builtin .recover, args := #[], argTypes := #[] }, ty, pos, aft, none⟩).run P w = .ok .recover w := by simp [go_sem]
  have hw : Region.wanted (⟨some d, .call { callee := .builtin .recover, args := #[], argTypes := #[] }, ty, pos, aft, none⟩ : Oper) (yielded #[⟨some d, .call { callee := .builtin .recover, args := #[], argTypes := #[] }, ty, pos, aft, none⟩] a.tmps) = true := by simp [Region.wanted]
  have hrd : recoverD (c0 :: cs) = none := by simp [recoverD, hu]
  show wpOpsS P _ _ [0] a (c0 :: cs) w
  simp only [wpOpsS, List.getElem?_toArray, List.getElem?_cons_zero, hw, if_true, he, hrd]
  exact h
theorem pv_eql_iface {d : Option Tmp} {T T2 U : TypeId} {x : Operand} {u : Value} {S : Hp} {dsc : TypeDesc} [ht : TyD P T dsc] (hd : (match dsc with | .interface _ => true | _ => false) = true) (hx : ev E x = some (.iface U u)) : Pv P n D E S ⟨d, .binOp .eql T x (.const .nilIface) T2, ty, pos, aft, g⟩ (.bool false) := fun a w hs _ => by
 have hc : a.eval (.const .nilIface) = .nilIface := rfl
 cases dsc <;> simp at hd
 have hu := TyD.run (P := P) (T := T) (w := w)
 have he : (Op.equal T (.iface U u) .nilIface).run P w = .ok false w := by
  unfold Op.equal
  rw [show Op.maxDepth = 9999 + 1 from rfl, Op.equalIn]
  simp [hu]
 simp [execOp, hs.ev hx, hc, binOp, eqGuard, he]
theorem pv_eql_nilif {d : Option Tmp} {T T2 : TypeId} {x : Operand} {S : Hp} {dsc : TypeDesc} [ht : TyD P T dsc] (hd : (match dsc with | .interface _ => true | _ => false) = true) (hx : ev E x = some .nilIface) : Pv P n D E S ⟨d, .binOp .eql T x (.const .nilIface) T2, ty, pos, aft, g⟩ (.bool true) := fun a w hs _ => by
 have hc : a.eval (.const .nilIface) = .nilIface := rfl
 cases dsc <;> simp at hd
 have hu := TyD.run (P := P) (T := T) (w := w)
 have he : (Op.equal T .nilIface .nilIface).run P w = .ok true w := by
  unfold Op.equal
  rw [show Op.maxDepth = 9999 + 1 from rfl, Op.equalIn]
  simp [hu]
 have hg : eqGuard .eql T x (.const .nilIface) .nilIface .nilIface = pure () := by cases x <;> rfl
 simp [execOp, hs.ev hx, hc, binOp, hg, he]
theorem pv_tassert {d : Option Tmp} {T U : TypeId} {x : Operand} {u : Value} {S : Hp} {dsc : TypeDesc} [ht : TyD P U dsc] (hd : (match dsc with | .interface _ => false | _ => true) = true) (hx : ev E x = some (.iface U u)) : Pv P n D E S ⟨d, .typeAssert x T U true, ty, pos, aft, g⟩ (.tuple #[u, .bool true]) := fun a w hs _ => by
 simp only [execOp, hs.ev hx, Instr.typeAssert, Sem.run_bind, TyD.run, Result.andThen_ok]
 cases dsc <;> simp_all
end
attribute [irreducible] TrE EfX
end Go.SL
end
section
set_option linter.unusedVariables false
set_option linter.unusedSimpArgs false
namespace Go.Proofs.YtdodfnjmkpgdbaaGreat
open Go.SL
abbrev tkBlk (tk cb : Nat) (n : Nat) (v : Value) : Nat × Obj := (tk, .cells [cpP cb, .int .i64 n, v].toArray 113)
abbrev tkP (tk : Nat) : Value := .pointer (some ⟨tk, 0, none⟩)
def spentC : List PanicEntry := [{ v := .iface 139 (.agg #[]), recovered := false }]
theorem slots_one (l : List SlotM) : (slotsCells l).all Value.oneCell' = true := by
 rw [List.all_eq_true]
 intro v hv
 obtain ⟨s, _, hs⟩ := List.mem_flatMap.1 hv
 rcases List.mem_cons.1 hs with rfl | hs
 ·
  rfl
 obtain rfl := List.mem_singleton.1 hs; rfl
def idxS (l : List SlotM) (s : SlotM) : Int := match l.idxOf? s with | some i => (i : Int) | none => -1
theorem idxS_hit {l : List SlotM} {s : SlotM} {i : Nat} (h : l[i]? = some s) (hn : ∀ j, j < i → l[j]? ≠ some s) : idxS l s = i := by
 have : l.idxOf? s = some i := by
  rw [List.idxOf?, List.findIdx?_eq_some_iff_getElem]
  obtain ⟨hi, rfl⟩ := List.getElem?_eq_some_iff.1 h
  refine ⟨hi, by simp, fun j hj => ?_⟩
  have := hn j hj
  rw [List.getElem?_eq_getElem (by omega)] at this
  simpa using this
 unfold idxS; rw [this]
theorem idxS_miss {l : List SlotM} {s : SlotM} (hn : ∀ j, j < l.length → l[j]? ≠ some s) : idxS l s = -1 := by
 have : l.idxOf? s = none := by
  rw [List.idxOf?, List.findIdx?_eq_none_iff]
  intro x hx
  obtain ⟨j, hj, rfl⟩ := List.getElem_of_mem hx
  have := hn j hj
  rw [List.getElem?_eq_getElem hj] at this
  simpa using this
 unfold idxS; rw [this]
theorem idxS_mem (l : List SlotM) (s : SlotM) : 0 ≤ idxS l s ↔ s ∈ l := by
 unfold idxS
 cases h : l.idxOf? s with
 | none =>
  rw [List.idxOf?, List.findIdx?_eq_none_iff] at h
  constructor
  ·
   intro h; simp at h
  ·
   intro hs; have := h s hs; simp at this
 | some i =>
  rw [List.idxOf?, List.findIdx?_eq_some_iff_getElem] at h
  obtain ⟨hi, he, _⟩ := h
  have : l[i] = s := by simpa using he
  exact ⟨fun _ => this ▸ List.getElem_mem hi, fun _ => by dsimp only; omega⟩
theorem shl_r {r : Int} (h : 0 ≤ r ∧ r ≤ 4) : IntKind.i64.wrap (1 * 2 ^ (min r.toNat 64)) = ((2 ^ r.toNat : Nat) : Int) := by
 obtain ⟨k, rfl⟩ : ∃ k : Nat, r = k := ⟨r.toNat, by omega⟩
 have hk : k ≤ 4 := by omega
 have h2 : (2 : Nat) ^ k ≤ 2 ^ 4 := Nat.pow_le_pow_right (by omega) hk
 rw [Int.toNat_natCast, show min k 64 = k by omega, Int.one_mul]
 exact w64n (by norm_cast) (by omega)
theorem fin_1 {l : List DN} {s : SlotM} (h : (dget l s).2 = 0 ∧ (dget l s).1.kind ≠ 0) : decide (fin l s) = decide ((dcount l (dget l s).1.kind (dget l s).1.object : Int) = 1) := by
 rw [decide_eq_decide]; unfold fin
 exact ⟨fun k => by rw [k.2]; rfl, fun k => ⟨h.2, by omega⟩⟩
theorem fin_0 {l : List DN} {s : SlotM} (h : ¬ ((dget l s).2 = 0 ∧ (dget l s).1.kind ≠ 0)) : decide (fin l s) = false :=
  decide_eq_false fun k => h ⟨dget_le k.1, k.1⟩
theorem firstIn_0 {l : List DN} {way : List SlotM} {node : Int} (h : dradix l node = 0) : firstIn l way node = none := by unfold firstIn; rw [if_pos h]
def rvErr (l : List DN) (s : SlotM) (n : Int) : Int := if n < 1 ∨ 1000 < n then 1 else if (dget l s).2 = 0 ∧ (dget l s).1.kind = 0 then 3 else (dget l s).2
theorem rvErr_1 {l : List DN} {s : SlotM} {n : Int} (h : n < 1 ∨ n > 1000) : rvErr l s n = 1 := if_pos h
theorem rvErr_2 {l : List DN} {s : SlotM} {n : Int} (h : ¬ (n < 1 ∨ n > 1000)) (h2 : (dget l s).2 = 0 ∧ (dget l s).1.kind = 0) : rvErr l s n = 3 := by unfold rvErr; rw [if_neg h, if_pos h2]
theorem rvErr_3 {l : List DN} {s : SlotM} {n : Int} (h : ¬ (n < 1 ∨ n > 1000)) (h2 : ¬ ((dget l s).2 = 0 ∧ (dget l s).1.kind = 0)) : rvErr l s n = (dget l s).2 := by unfold rvErr; rw [if_neg h, if_neg h2]
theorem tr_slIndex (G : Hp) (a : Option Addr) (c : Nat) (l : List SlotM) (x : SlotM) (hv : View G 2 (.slice a l.length c) l.length (slotsCells l)) (hl : l.length ≤ 2 ^ 40) : TrR Tryz.prog 130 [.slice a l.length c, slotV x] (G) (.int .i64 (idxS l x)) := by
 refine Tr.enter Tryz.func130 rfl Tryz.ntmps130 rfl (fun W F => ?_)
 refine Wp.app ?_
 refine Wr ?_
 refine Ops.ef rfl (ef_boxK rfl rfl) ?_
 rintro _ _ ⟨b1, rfl, rfl⟩
 refine Oa1 rfl rfl ?_
 refine On ?_
 refine Wp.seq ?_
 refine Wr ?_
 refine Om1 rfl rfl ?_
 refine Ops.pv (pv_len_slice (T := 53) rfl rfl) rfl ?_
 refine Om1 rfl rfl ?_
 refine On ?_
 refine Wp.block ?_
 refine Wp.loopK (σ := Nat) [(0, _), (3, _), (7, _)] (fun s => [(8, .int .i64 s)]) (fun s => (b1, .cells [.int .i64 x.1, .int .i64 x.2].toArray 31) :: (G ++ F)) (fun s => s ≤ l.length ∧ ∀ j, j < s → l[j]? ≠ some x) (fun s => l.length - s) 0 ⟨Nat.zero_le _, fun j hj => absurd hj (Nat.not_lt_zero j)⟩ ⟨rfl, rfl, rfl, trivial⟩ ⟨rfl, trivial⟩ (by intro w ho; (try dsimp only [List.nil_append, List.cons_append]); exact Drop.own ho) ?_
 rintro i KK ⟨hi, hn⟩ hK
 dsimp only [List.cons_append, List.nil_append] at hK ⊢
 refine Wr ?_
 refine Ops.pv (pv_lss rfl rfl) rfl ?_
 refine On ?_
 refine Wp.seq ?_
 refine Wp.cond_dect rfl (fun h1 => ?_) (fun h1 => ?_)
 ·
  obtain ⟨b5, o5, cap5, cc5, T5, f5, hw5, hbv5, hr5⟩ := hv.open (by omega)
  cases hw5
  obtain ⟨s1, hs1⟩ : ∃ s, l[i]? = some s := ⟨_, List.getElem?_eq_getElem (by omega)⟩
  have hre1 := hr5.sub (i := i * 2) (l := 2)
  rw [slots_reads hs1] at hre1
  refine Wp.skip ?_
  refine Ends.seq ?_
  refine Wp.seq ?_
  refine Wp.block ?_
  refine Wr ?_
  refine Om1 rfl rfl ?_
  refine Oa1 rfl rfl ?_
  refine On ?_
  refine Wp.seq ?_
  refine AnyH.start ((b1, .cells [.int .i64 x.1, .int .i64 x.2].toArray 31) :: G) 6 rfl ?_
  refine Tk 0 rfl rfl (pv_loadK [_, _] rfl rfl rfl ⟨rfl, rfl, trivial⟩) rfl ?_
  refine Tk 1 rfl rfl (pv_move rfl) rfl ?_
  refine Tk 2 rfl rfl (pv_move rfl) rfl ?_
  refine Tk 3 rfl rfl (pv_indexAddr (i := i) rfl rfl rfl (by omega)) rfl ?_
  refine Tk 4 rfl rfl (pv_loadK [.int .i64 s1.1, .int .i64 s1.2] rfl rfl rfl hre1) rfl ?_
  refine Tk 5 rfl rfl (pv_eql_slot (a := x) (b := s1) rfl rfl) rfl ?_
  refine AnyH.done (by kernel_rfl) ?_
  refine Ends.seq ?_
  refine Wp.cond_dect rfl (fun h2 => ?_) (fun h2 => ?_)
  ·
   refine Wr ?_
   refine Om1 rfl rfl ?_
   refine Oa1 rfl rfl ?_
   refine On ?_
   refine Wp.ret ?_
   refine Ends.block_ret ?_
   refine Ends.then_ret ?_
   refine Ends.then_ret ?_
   refine Ends.block_ret ?_
   refine Ends.then_ret ?_
   exact Ends.ret (res1 rfl rfl) ⟨by rw [idxS_hit (i := i) (by rw [hs1]; simp_all) hn], rfl⟩
  refine Wp.skip ?_
  refine Ends.block_normal ?_
  refine Ends.seq ?_
  refine Wp.region ?_
  refine Ops.pv (pv_add rfl rfl (w64 (by omega) (by omega))) rfl ?_
  refine Om1 rfl rfl ?_
  refine Ops.nil ?_
  refine Ends.goes ?_
  refine Goes.back (hK (i + 1) ⟨by omega, fun j hj => ?_⟩ (by omega)) ⟨rfl, rfl, rfl, rfl, trivial⟩
  rcases Nat.lt_succ_iff_lt_or_eq.1 hj with hj | rfl
  ·
   exact hn j hj
  rw [hs1]; intro e; cases e; simp_all
 refine Wp.exit ?_
 refine Ends.then_exit ?_
 refine Ends.then_exit ?_
 refine Ends.block_hit ?_
 refine Ends.seq ?_
 refine Wr ?_
 refine Oa1 rfl rfl ?_
 refine On ?_
 refine Wp.ret ?_
 exact Ends.ret (res1 rfl rfl) ⟨by rw [idxS_miss (fun j hj => hn j (by omega))], rfl⟩
theorem tr_slContains (G : Hp) (a : Option Addr) (c : Nat) (l : List SlotM) (x : SlotM) (hv : View G 2 (.slice a l.length c) l.length (slotsCells l)) (hl : l.length ≤ 2 ^ 40) : TrR Tryz.prog 127 [.slice a l.length c, slotV x] (G) (.bool (decide (x ∈ l))) := by
 refine Tr.enter Tryz.func127 rfl Tryz.ntmps127 rfl (fun W F => ?_)
 refine Wp.app ?_
 refine Wr ?_
 refine Ops.ef rfl (ef_boxK rfl rfl) ?_
 rintro _ _ ⟨b1, rfl, rfl⟩
 refine Oa1 rfl rfl ?_
 refine On ?_
 refine Wr ?_
 refine Om1 rfl rfl ?_
 refine Ops.pv (pv_loadK [_, _] rfl rfl rfl ⟨rfl, rfl, trivial⟩) rfl ?_
 refine Ops.ef rfl (ef_callr (tr_slIndex G a c l x hv hl) rfl rfl) ?_
 rintro _ _ ⟨rfl, rfl⟩
 refine Ops.pv (pv_geq rfl rfl) rfl ?_
 refine Oa1 rfl rfl ?_
 refine On ?_
 refine Wp.ret ?_
 exact Ends.ret (res1 rfl rfl) ⟨by rw [decide_eq_decide.2 (idxS_mem l x)], rfl⟩
theorem tr_slClone (G : Hp) (a : Option Addr) (c : Nat) (l : List SlotM) (hv : View G 2 (.slice a l.length c) l.length (slotsCells l)) (hl : l.length ≤ 2 ^ 40) : Tr Tryz.prog 107 [.slice a l.length c] (G) (fun v L' => ∃ H, Slc 31 2 v l.length (slotsCells l) H ∧ L' = H ++ G) := by
 refine Tr.enter Tryz.func107 rfl Tryz.ntmps107 rfl (fun W F => ?_)
 refine Wp.app ?_
 refine Wr ?_
 refine Oa1 rfl rfl ?_
 refine On ?_
 refine Wp.seq ?_
 refine Wr ?_
 refine Om1 rfl rfl ?_
 refine Ops.pv (pv_eql_slcnil rfl rfl) rfl ?_
 refine On ?_
 refine Wp.cond_t rfl (fun h1 => ?_) (fun h1 => ?_)
 ·
  obtain rfl := Option.isNone_iff_eq_none.1 h1
  obtain ⟨e0, e1⟩ := view_nil' hv
  refine Wr ?_
  refine Oa1 rfl rfl ?_
  refine On ?_
  refine Wp.ret ?_
  refine Ends.then_ret ?_
  exact Ends.ret (L' := G) (res1 rfl rfl) ⟨[], by rw [e0, e1]; exact Slc.nil _ _, rfl⟩
 refine Wp.skip ?_
 refine Ends.seq ?_
 refine Wr ?_
 refine Ops.ef rfl (ef_buildSlice0 rfl) ?_
 rintro _ _ ⟨b1, rfl, rfl⟩
 refine Om1 rfl rfl ?_
 refine Ops.ef rfl (ef_appendV (H := [(b1, .cells ([] : List Value).toArray 31)]) rfl (slc_empty' 31 2 b1) rfl (hv.mono (by intro p hp; simp [hp])) (slots_one l) (by omega) (by omega) rfl rfl) ?_
 rintro _ _ ⟨v1, H1, hs1, rfl, rfl⟩
 refine Ops.app ?_
 skip
 refine Oa1 rfl rfl ?_
 refine On ?_
 refine Wp.ret ?_
 rw [Nat.zero_add, List.nil_append] at hs1
 exact Ends.ret (L' := H1 ++ G) (res1 rfl rfl) ⟨H1, hs1, rfl⟩
theorem tr_rFinal (n cb : Nat) (L : Hp) (p : PS) (hH : CapsH n p cb L) (s : SlotM) : TrR Tryz.prog 25 [cpP cb, slotV s] (L) (.bool (decide (fin p.l s))) := by
 obtain ⟨sb, tb, Ls, Lt, hS, hT, rfl⟩ := hH
 refine Tr.enter Tryz.func25 rfl Tryz.ntmps25 rfl (fun W F => ?_)
 refine Wp.app ?_
 refine Wr ?_
 refine Ops.ef rfl (ef_boxK rfl rfl) ?_
 rintro _ _ ⟨b1, rfl, rfl⟩
 refine Oa1 rfl rfl ?_
 refine On ?_
 refine Wp.seq ?_
 refine AnyH.start ((b1, .cells [.int .i64 s.1, .int .i64 s.2].toArray 31) :: cBlk cb sb tb :: []) 13 rfl ?_
 refine Tk 0 rfl rfl (pv_move rfl) rfl ?_
 refine Tk 1 rfl rfl (pv_nilCheck rfl) rfl ?_
 refine Tk 2 rfl rfl (pv_fieldAddr0 rfl rfl) rfl ?_
 refine Tk 3 rfl rfl (pv_fieldAddr0 rfl rfl) rfl ?_
 refine Tk 4 rfl rfl (pv_load rfl rfl rfl) rfl ?_
 refine Tk 5 rfl rfl (pv_loadK [_, _] rfl rfl rfl ⟨rfl, rfl, trivial⟩) rfl ?_
 refine AnyH.two 6 10 (by kernel_rfl) ?_ ?_
 ·
  refine Turn.ef rfl rfl (ef_callr (sf_get hS s) rfl rfl) ?_ ?_
  ·
   rintro _ _ ⟨rfl, rfl⟩; infer_instance
  rintro _ _ ⟨rfl, rfl⟩
  refine Tk 7 rfl rfl (pv_move rfl) rfl ?_
  refine Tk 8 rfl rfl (pv_extract rfl rfl) rfl ?_
  refine Tk 9 rfl rfl (pv_extract rfl rfl) rfl ?_
  refine AnyH.one 10 (by kernel_rfl) ?_
  refine Turn.ef rfl rfl (ef_allocK tyZ25 rfl) ?_ ?_
  ·
   rintro _ _ ⟨b2, rfl, rfl⟩; infer_instance
  rintro _ _ ⟨b2, rfl, rfl⟩
  refine AnyH.one 11 (by kernel_rfl) ?_
  refine Turn.ef rfl rfl (ef_storeK rfl rfl rfl rfl) ?_ ?_
  ·
   rintro _ _ ⟨rfl, rfl⟩; infer_instance
  rintro _ _ ⟨rfl, rfl⟩
  refine Tk 12 rfl rfl (pv_assign rfl) rfl ?_
  refine AnyH.done (by kernel_rfl) ?_
  refine Ends.seq ?_
  refine Wp.seq ?_
  refine AnyH.start ((b2, .cells (dget p.l s).1.cells.toArray 25) :: cBlk cb sb tb :: []) 21 rfl ?_
  refine Tk 0 rfl rfl (pv_move rfl) rfl ?_
  refine Tk 1 rfl rfl (pv_eql rfl rfl) rfl ?_
  refine Tk 2 rfl rfl (pv_move rfl) rfl ?_
  refine AnyH.takec 3 rfl (by kernel_rfl) (by kernel_rfl) (by kernel_rfl) PF.pf rfl rfl (fun hg => pv_fieldAddr0 rfl rfl) rfl ?_
  refine AnyH.takec 4 rfl (by kernel_rfl) (by kernel_rfl) (by kernel_rfl) PF.pf rfl rfl (fun hg => Pv.setE (t := 20) rfl (cv_pos hg) (pv_load rfl rfl rfl)) rfl ?_
  refine AnyH.takec 5 rfl (by kernel_rfl) (by kernel_rfl) (by kernel_rfl) PF.pf rfl rfl (fun hg => Pv.setE (t := 20) rfl (cv_pos hg) (Pv.setE (t := 21) rfl (cv_pos hg) (pv_neq rfl rfl))) rfl ?_
  refine Tk 6 rfl rfl (pv_pick_and rfl rfl) rfl ?_
  refine Tk 7 rfl rfl (pv_move rfl) rfl ?_
  refine AnyH.split (t := 24) rfl (fun h1 => ?_) (fun h1 => ?_)
  ·
   refine Tk 8 rfl ⟨_, _, rfl, rfl, rfl⟩ (pv_move rfl) rfl ?_
   refine Tk 9 rfl ⟨_, _, rfl, rfl, rfl⟩ (pv_nilCheck rfl) rfl ?_
   refine Tk 10 rfl ⟨_, _, rfl, rfl, rfl⟩ (pv_fieldAddr0 rfl rfl) rfl ?_
   refine Tk 11 rfl ⟨_, _, rfl, rfl, rfl⟩ (pv_fieldAddr0 rfl rfl) rfl ?_
   refine Tk 12 rfl ⟨_, _, rfl, rfl, rfl⟩ (pv_load rfl rfl rfl) rfl ?_
   refine Tk 13 rfl ⟨_, _, rfl, rfl, rfl⟩ (pv_fieldAddr0 rfl rfl) rfl ?_
   refine Tk 14 rfl ⟨_, _, rfl, rfl, rfl⟩ (pv_load rfl rfl rfl) rfl ?_
   refine Tk 15 rfl ⟨_, _, rfl, rfl, rfl⟩ (pv_fieldAddr0 rfl rfl) rfl ?_
   refine Tk 16 rfl ⟨_, _, rfl, rfl, rfl⟩ (pv_load rfl rfl rfl) rfl ?_
   refine AnyH.one 17 (by kernel_rfl) ?_
   refine Turn.ef rfl ⟨_, _, rfl, rfl, rfl⟩ (ef_callr (sf_count hS (dget p.l s).1.kind (dget p.l s).1.object) rfl rfl) ?_ ?_
   ·
    rintro _ _ ⟨rfl, rfl⟩; infer_instance
   rintro _ _ ⟨rfl, rfl⟩
   refine Tk 18 rfl ⟨_, _, rfl, rfl, rfl⟩ (pv_eql rfl rfl) rfl ?_
   refine Tk 19 rfl rfl (pv_pick_true rfl rfl) rfl ?_
   refine Tk 20 rfl rfl (pv_assign rfl) rfl ?_
   refine AnyH.done (by kernel_rfl) ?_
   refine Ends.seq ?_
   refine Wp.ret ?_
   exact Ends.ret (res1 rfl rfl) ⟨by first | rw [fin_1 (by assumption)] | rw [fin_0 (by assumption)], rfl⟩
  refine Ts 8 rfl ⟨_, _, rfl, rfl, rfl⟩ rfl ?_
  refine Ts 9 rfl ⟨_, _, rfl, rfl, rfl⟩ rfl ?_
  refine Ts 10 rfl ⟨_, _, rfl, rfl, rfl⟩ rfl ?_
  refine Ts 11 rfl ⟨_, _, rfl, rfl, rfl⟩ rfl ?_
  refine Ts 12 rfl ⟨_, _, rfl, rfl, rfl⟩ rfl ?_
  refine Ts 13 rfl ⟨_, _, rfl, rfl, rfl⟩ rfl ?_
  refine Ts 14 rfl ⟨_, _, rfl, rfl, rfl⟩ rfl ?_
  refine Ts 15 rfl ⟨_, _, rfl, rfl, rfl⟩ rfl ?_
  refine Ts 16 rfl ⟨_, _, rfl, rfl, rfl⟩ rfl ?_
  refine Ts 17 rfl ⟨_, _, rfl, rfl, rfl⟩ rfl ?_
  refine Ts 18 rfl ⟨_, _, rfl, rfl, rfl⟩ rfl ?_
  refine Tk 19 rfl rfl (pv_pick_false rfl rfl) rfl ?_
  refine Tk 20 rfl rfl (pv_assign rfl) rfl ?_
  refine AnyH.done (by kernel_rfl) ?_
  refine Ends.seq ?_
  refine Wp.ret ?_
  exact Ends.ret (res1 rfl rfl) ⟨by first | rw [fin_1 (by assumption)] | rw [fin_0 (by assumption)], rfl⟩
 refine Turn.ef rfl rfl (ef_allocK tyZ25 rfl) ?_ ?_
 ·
  rintro _ _ ⟨b3, rfl, rfl⟩; infer_instance
 rintro _ _ ⟨b3, rfl, rfl⟩
 refine AnyH.one 6 (by kernel_rfl) ?_
 refine Turn.ef rfl rfl (ef_callr (sf_get hS s) rfl rfl) ?_ ?_
 ·
  rintro _ _ ⟨rfl, rfl⟩; infer_instance
 rintro _ _ ⟨rfl, rfl⟩
 refine Tk 7 rfl rfl (pv_move rfl) rfl ?_
 refine Tk 8 rfl rfl (pv_extract rfl rfl) rfl ?_
 refine Tk 9 rfl rfl (pv_extract rfl rfl) rfl ?_
 refine AnyH.one 11 (by kernel_rfl) ?_
 refine Turn.ef rfl rfl (ef_storeK rfl rfl rfl rfl) ?_ ?_
 ·
  rintro _ _ ⟨rfl, rfl⟩; infer_instance
 rintro _ _ ⟨rfl, rfl⟩
 refine Tk 12 rfl rfl (pv_assign rfl) rfl ?_
 refine AnyH.done (by kernel_rfl) ?_
 refine Ends.seq ?_
 refine Wp.seq ?_
 refine AnyH.start ((b3, .cells (dget p.l s).1.cells.toArray 25) :: cBlk cb sb tb :: []) 21 rfl ?_
 refine Tk 0 rfl rfl (pv_move rfl) rfl ?_
 refine Tk 1 rfl rfl (pv_eql rfl rfl) rfl ?_
 refine Tk 2 rfl rfl (pv_move rfl) rfl ?_
 refine AnyH.takec 3 rfl (by kernel_rfl) (by kernel_rfl) (by kernel_rfl) PF.pf rfl rfl (fun hg => pv_fieldAddr0 rfl rfl) rfl ?_
 refine AnyH.takec 4 rfl (by kernel_rfl) (by kernel_rfl) (by kernel_rfl) PF.pf rfl rfl (fun hg => Pv.setE (t := 20) rfl (cv_pos hg) (pv_load rfl rfl rfl)) rfl ?_
 refine AnyH.takec 5 rfl (by kernel_rfl) (by kernel_rfl) (by kernel_rfl) PF.pf rfl rfl (fun hg => Pv.setE (t := 20) rfl (cv_pos hg) (Pv.setE (t := 21) rfl (cv_pos hg) (pv_neq rfl rfl))) rfl ?_
 refine Tk 6 rfl rfl (pv_pick_and rfl rfl) rfl ?_
 refine Tk 7 rfl rfl (pv_move rfl) rfl ?_
 refine AnyH.split (t := 24) rfl (fun h2 => ?_) (fun h2 => ?_)
 ·
  refine Tk 8 rfl ⟨_, _, rfl, rfl, rfl⟩ (pv_move rfl) rfl ?_
  refine Tk 9 rfl ⟨_, _, rfl, rfl, rfl⟩ (pv_nilCheck rfl) rfl ?_
  refine Tk 10 rfl ⟨_, _, rfl, rfl, rfl⟩ (pv_fieldAddr0 rfl rfl) rfl ?_
  refine Tk 11 rfl ⟨_, _, rfl, rfl, rfl⟩ (pv_fieldAddr0 rfl rfl) rfl ?_
  refine Tk 12 rfl ⟨_, _, rfl, rfl, rfl⟩ (pv_load rfl rfl rfl) rfl ?_
  refine Tk 13 rfl ⟨_, _, rfl, rfl, rfl⟩ (pv_fieldAddr0 rfl rfl) rfl ?_
  refine Tk 14 rfl ⟨_, _, rfl, rfl, rfl⟩ (pv_load rfl rfl rfl) rfl ?_
  refine Tk 15 rfl ⟨_, _, rfl, rfl, rfl⟩ (pv_fieldAddr0 rfl rfl) rfl ?_
  refine Tk 16 rfl ⟨_, _, rfl, rfl, rfl⟩ (pv_load rfl rfl rfl) rfl ?_
  refine AnyH.one 17 (by kernel_rfl) ?_
  refine Turn.ef rfl ⟨_, _, rfl, rfl, rfl⟩ (ef_callr (sf_count hS (dget p.l s).1.kind (dget p.l s).1.object) rfl rfl) ?_ ?_
  ·
   rintro _ _ ⟨rfl, rfl⟩; infer_instance
  rintro _ _ ⟨rfl, rfl⟩
  refine Tk 18 rfl ⟨_, _, rfl, rfl, rfl⟩ (pv_eql rfl rfl) rfl ?_
  refine Tk 19 rfl rfl (pv_pick_true rfl rfl) rfl ?_
  refine Tk 20 rfl rfl (pv_assign rfl) rfl ?_
  refine AnyH.done (by kernel_rfl) ?_
  refine Ends.seq ?_
  refine Wp.ret ?_
  exact Ends.ret (res1 rfl rfl) ⟨by first | rw [fin_1 (by assumption)] | rw [fin_0 (by assumption)], rfl⟩
 refine Ts 8 rfl ⟨_, _, rfl, rfl, rfl⟩ rfl ?_
 refine Ts 9 rfl ⟨_, _, rfl, rfl, rfl⟩ rfl ?_
 refine Ts 10 rfl ⟨_, _, rfl, rfl, rfl⟩ rfl ?_
 refine Ts 11 rfl ⟨_, _, rfl, rfl, rfl⟩ rfl ?_
 refine Ts 12 rfl ⟨_, _, rfl, rfl, rfl⟩ rfl ?_
 refine Ts 13 rfl ⟨_, _, rfl, rfl, rfl⟩ rfl ?_
 refine Ts 14 rfl ⟨_, _, rfl, rfl, rfl⟩ rfl ?_
 refine Ts 15 rfl ⟨_, _, rfl, rfl, rfl⟩ rfl ?_
 refine Ts 16 rfl ⟨_, _, rfl, rfl, rfl⟩ rfl ?_
 refine Ts 17 rfl ⟨_, _, rfl, rfl, rfl⟩ rfl ?_
 refine Ts 18 rfl ⟨_, _, rfl, rfl, rfl⟩ rfl ?_
 refine Tk 19 rfl rfl (pv_pick_false rfl rfl) rfl ?_
 refine Tk 20 rfl rfl (pv_assign rfl) rfl ?_
 refine AnyH.done (by kernel_rfl) ?_
 refine Ends.seq ?_
 refine Wp.ret ?_
 exact Ends.ret (res1 rfl rfl) ⟨by first | rw [fin_1 (by assumption)] | rw [fin_0 (by assumption)], rfl⟩
theorem tr_rCheck (n cb : Nat) (L : Hp) (p : PS) (hH : CapsH n p cb L) (s : SlotM) (k : Int) : TrR Tryz.prog 65 [cpP cb, slotV s, .int .i64 k] (L) (.int .i64 (rvErr p.l s k)) := by
 obtain ⟨sb, tb, Ls, Lt, hS, hT, rfl⟩ := hH
 refine Tr.enter Tryz.func65 rfl Tryz.ntmps65 rfl (fun W F => ?_)
 refine Wp.app ?_
 refine Wr ?_
 refine Ops.ef rfl (ef_boxK rfl rfl) ?_
 rintro _ _ ⟨b1, rfl, rfl⟩
 refine Oa1 rfl rfl ?_
 refine On ?_
 refine Wp.seq ?_
 refine Wr ?_
 refine Om1 rfl rfl ?_
 refine Ops.pv (pv_lss rfl rfl) rfl ?_
 refine Om1 rfl rfl ?_
 refine Ops.pvcn rfl rfl (fun hg => pv_move rfl) rfl ?_
 refine Ops.pvcn rfl rfl (fun hg => Pv.setE (t := 12) rfl (cv_pos hg) (pv_gtr rfl rfl)) rfl ?_
 refine Ops.pv (pv_pick_or rfl rfl) rfl ?_
 refine On ?_
 refine Wp.cond_dect rfl (fun h1 => ?_) (fun h1 => ?_)
 ·
  refine Wr ?_
  refine Oa1 rfl rfl ?_
  refine On ?_
  refine Wp.ret ?_
  refine Ends.then_ret ?_
  exact Ends.ret (res1 rfl rfl) ⟨by rw [rvErr_1 (by assumption)], rfl⟩
 refine Wp.skip ?_
 refine Ends.seq ?_
 refine Wp.seq ?_
 refine AnyH.start ((b1, .cells [.int .i64 s.1, .int .i64 s.2].toArray 31) :: cBlk cb sb tb :: []) 13 rfl ?_
 refine Tk 0 rfl rfl (pv_move rfl) rfl ?_
 refine Tk 1 rfl rfl (pv_nilCheck rfl) rfl ?_
 refine Tk 2 rfl rfl (pv_fieldAddr0 rfl rfl) rfl ?_
 refine Tk 3 rfl rfl (pv_fieldAddr0 rfl rfl) rfl ?_
 refine Tk 4 rfl rfl (pv_load rfl rfl rfl) rfl ?_
 refine Tk 5 rfl rfl (pv_loadK [_, _] rfl rfl rfl ⟨rfl, rfl, trivial⟩) rfl ?_
 refine AnyH.two 6 10 (by kernel_rfl) ?_ ?_
 ·
  refine Turn.ef rfl rfl (ef_callr (sf_get hS s) rfl rfl) ?_ ?_
  ·
   rintro _ _ ⟨rfl, rfl⟩; infer_instance
  rintro _ _ ⟨rfl, rfl⟩
  refine Tk 7 rfl rfl (pv_move rfl) rfl ?_
  refine Tk 8 rfl rfl (pv_extract rfl rfl) rfl ?_
  refine Tk 9 rfl rfl (pv_extract rfl rfl) rfl ?_
  refine AnyH.one 10 (by kernel_rfl) ?_
  refine Turn.ef rfl rfl (ef_allocK tyZ25 rfl) ?_ ?_
  ·
   rintro _ _ ⟨b2, rfl, rfl⟩; infer_instance
  rintro _ _ ⟨b2, rfl, rfl⟩
  refine AnyH.one 11 (by kernel_rfl) ?_
  refine Turn.ef rfl rfl (ef_storeK rfl rfl rfl rfl) ?_ ?_
  ·
   rintro _ _ ⟨rfl, rfl⟩; infer_instance
  rintro _ _ ⟨rfl, rfl⟩
  refine Tk 12 rfl rfl (pv_assign rfl) rfl ?_
  refine AnyH.done (by kernel_rfl) ?_
  refine Ends.seq ?_
  refine Wp.seq ?_
  refine Wr ?_
  refine Om1 rfl rfl ?_
  refine Ops.pv (pv_eql rfl rfl) rfl ?_
  refine Om1 rfl rfl ?_
  refine Ops.pvc rfl rfl (fun hg => pv_fieldAddr0 rfl rfl) rfl ?_
  refine Ops.pvc rfl rfl (fun hg => Pv.setE (t := 28) rfl (cv_pos hg) (pv_load rfl rfl rfl)) rfl ?_
  refine Ops.pvc rfl rfl (fun hg => Pv.setE (t := 28) rfl (cv_pos hg) (Pv.setE (t := 29) rfl (cv_pos hg) (pv_eql rfl rfl))) rfl ?_
  refine Ops.pv (pv_pick_and rfl rfl) rfl ?_
  refine On ?_
  refine Wp.cond_dect rfl (fun h2 => ?_) (fun h2 => ?_)
  ·
   refine Wp.region ?_
   refine Oa1 rfl rfl ?_
   refine On ?_
   refine Wr ?_
   refine Om1 rfl rfl ?_
   refine Oa1 rfl rfl ?_
   refine On ?_
   refine Wp.ret ?_
   exact Ends.ret (res1 rfl rfl) ⟨by rw [rvErr_2 (by assumption) (by assumption)], rfl⟩
  refine Wp.skip ?_
  refine Ends.seq ?_
  refine Wr ?_
  refine Om1 rfl rfl ?_
  refine Oa1 rfl rfl ?_
  refine On ?_
  refine Wp.ret ?_
  exact Ends.ret (res1 rfl rfl) ⟨by rw [rvErr_3 (by assumption) (by assumption)], rfl⟩
 refine Turn.ef rfl rfl (ef_allocK tyZ25 rfl) ?_ ?_
 ·
  rintro _ _ ⟨b3, rfl, rfl⟩; infer_instance
 rintro _ _ ⟨b3, rfl, rfl⟩
 refine AnyH.one 6 (by kernel_rfl) ?_
 refine Turn.ef rfl rfl (ef_callr (sf_get hS s) rfl rfl) ?_ ?_
 ·
  rintro _ _ ⟨rfl, rfl⟩; infer_instance
 rintro _ _ ⟨rfl, rfl⟩
 refine Tk 7 rfl rfl (pv_move rfl) rfl ?_
 refine Tk 8 rfl rfl (pv_extract rfl rfl) rfl ?_
 refine Tk 9 rfl rfl (pv_extract rfl rfl) rfl ?_
 refine AnyH.one 11 (by kernel_rfl) ?_
 refine Turn.ef rfl rfl (ef_storeK rfl rfl rfl rfl) ?_ ?_
 ·
  rintro _ _ ⟨rfl, rfl⟩; infer_instance
 rintro _ _ ⟨rfl, rfl⟩
 refine Tk 12 rfl rfl (pv_assign rfl) rfl ?_
 refine AnyH.done (by kernel_rfl) ?_
 refine Ends.seq ?_
 refine Wp.seq ?_
 refine Wr ?_
 refine Om1 rfl rfl ?_
 refine Ops.pv (pv_eql rfl rfl) rfl ?_
 refine Om1 rfl rfl ?_
 refine Ops.pvc rfl rfl (fun hg => pv_fieldAddr0 rfl rfl) rfl ?_
 refine Ops.pvc rfl rfl (fun hg => Pv.setE (t := 28) rfl (cv_pos hg) (pv_load rfl rfl rfl)) rfl ?_
 refine Ops.pvc rfl rfl (fun hg => Pv.setE (t := 28) rfl (cv_pos hg) (Pv.setE (t := 29) rfl (cv_pos hg) (pv_eql rfl rfl))) rfl ?_
 refine Ops.pv (pv_pick_and rfl rfl) rfl ?_
 refine On ?_
 refine Wp.cond_dect rfl (fun h3 => ?_) (fun h3 => ?_)
 ·
  refine Wp.region ?_
  refine Oa1 rfl rfl ?_
  refine On ?_
  refine Wr ?_
  refine Om1 rfl rfl ?_
  refine Oa1 rfl rfl ?_
  refine On ?_
  refine Wp.ret ?_
  exact Ends.ret (res1 rfl rfl) ⟨by rw [rvErr_2 (by assumption) (by assumption)], rfl⟩
 refine Wp.skip ?_
 refine Ends.seq ?_
 refine Wr ?_
 refine Om1 rfl rfl ?_
 refine Oa1 rfl rfl ?_
 refine On ?_
 refine Wp.ret ?_
 exact Ends.ret (res1 rfl rfl) ⟨by rw [rvErr_3 (by assumption) (by assumption)], rfl⟩
theorem tr_tkGet (n cb tk m : Nat) (v : Value) (L : Hp) (p : PS) (hH : CapsH n p cb L) (s : SlotM) : TrR Tryz.prog 73 [tkP tk, slotV s] (tkBlk tk cb m v :: L) ((dget p.l s).1.v) := by
 obtain ⟨sb, tb, Ls, Lt, hS, hT, rfl⟩ := hH
 refine Tr.enter Tryz.func73 rfl Tryz.ntmps73 rfl (fun W F => ?_)
 refine Wp.app ?_
 refine Wr ?_
 refine Ops.ef rfl (ef_boxK rfl rfl) ?_
 rintro _ _ ⟨b1, rfl, rfl⟩
 refine Ops.ef rfl (ef_allocK tyZ25 rfl) ?_
 rintro _ _ ⟨b2, rfl, rfl⟩
 refine On ?_
 refine Wp.seq ?_
 refine AnyH.start ((b1, .cells [.int .i64 s.1, .int .i64 s.2].toArray 31) :: tkBlk tk cb m v :: cBlk cb sb tb :: []) 16 rfl ?_
 refine Tk 0 rfl rfl (pv_move rfl) rfl ?_
 refine Tk 1 rfl rfl (pv_nilCheck rfl) rfl ?_
 refine Tk 2 rfl rfl (pv_fieldAddr0 rfl rfl) rfl ?_
 refine Tk 3 rfl rfl (pv_load rfl rfl rfl) rfl ?_
 refine Tk 4 rfl rfl (pv_nilCheck rfl) rfl ?_
 refine Tk 5 rfl rfl (pv_fieldAddr0 rfl rfl) rfl ?_
 refine Tk 6 rfl rfl (pv_fieldAddr0 rfl rfl) rfl ?_
 refine Tk 7 rfl rfl (pv_load rfl rfl rfl) rfl ?_
 refine Tk 8 rfl rfl (pv_loadK [_, _] rfl rfl rfl ⟨rfl, rfl, trivial⟩) rfl ?_
 refine AnyH.two 9 13 (by kernel_rfl) ?_ ?_
 ·
  refine Turn.ef rfl rfl (ef_callr (sf_get hS s) rfl rfl) ?_ ?_
  ·
   rintro _ _ ⟨rfl, rfl⟩; infer_instance
  rintro _ _ ⟨rfl, rfl⟩
  refine Tk 10 rfl rfl (pv_move rfl) rfl ?_
  refine Tk 11 rfl rfl (pv_extract rfl rfl) rfl ?_
  refine Tk 12 rfl rfl (pv_extract rfl rfl) rfl ?_
  refine AnyH.one 13 (by kernel_rfl) ?_
  refine Turn.ef rfl rfl (ef_allocK tyZ25 rfl) ?_ ?_
  ·
   rintro _ _ ⟨b3, rfl, rfl⟩; infer_instance
  rintro _ _ ⟨b3, rfl, rfl⟩
  refine AnyH.one 14 (by kernel_rfl) ?_
  refine Turn.ef rfl rfl (ef_storeK rfl rfl rfl rfl) ?_ ?_
  ·
   rintro _ _ ⟨rfl, rfl⟩; infer_instance
  rintro _ _ ⟨rfl, rfl⟩
  refine Tk 15 rfl rfl (pv_assign rfl) rfl ?_
  refine AnyH.done (by kernel_rfl) ?_
  refine Ends.seq ?_
  refine Wr ?_
  refine Ops.pv (pv_loadK [_, _, _, _, _, _] rfl rfl rfl ⟨rfl, rfl, rfl, rfl, rfl, rfl, trivial⟩) rfl ?_
  refine Ops.ef rfl (ef_storeK rfl rfl rfl rfl) ?_
  rintro _ _ ⟨rfl, rfl⟩
  refine On ?_
  refine Wp.ret ?_
  exact Ends.ret (res_one rfl (rv_cellK [_, _, _, _, _, _] rfl rfl rfl ⟨rfl, rfl, rfl, rfl, rfl, rfl, trivial⟩)) ⟨rfl, rfl⟩
 refine Turn.ef rfl rfl (ef_allocK tyZ25 rfl) ?_ ?_
 ·
  rintro _ _ ⟨b4, rfl, rfl⟩; infer_instance
 rintro _ _ ⟨b4, rfl, rfl⟩
 refine AnyH.one 9 (by kernel_rfl) ?_
 refine Turn.ef rfl rfl (ef_callr (sf_get hS s) rfl rfl) ?_ ?_
 ·
  rintro _ _ ⟨rfl, rfl⟩; infer_instance
 rintro _ _ ⟨rfl, rfl⟩
 refine Tk 10 rfl rfl (pv_move rfl) rfl ?_
 refine Tk 11 rfl rfl (pv_extract rfl rfl) rfl ?_
 refine Tk 12 rfl rfl (pv_extract rfl rfl) rfl ?_
 refine AnyH.one 14 (by kernel_rfl) ?_
 refine Turn.ef rfl rfl (ef_storeK rfl rfl rfl rfl) ?_ ?_
 ·
  rintro _ _ ⟨rfl, rfl⟩; infer_instance
 rintro _ _ ⟨rfl, rfl⟩
 refine Tk 15 rfl rfl (pv_assign rfl) rfl ?_
 refine AnyH.done (by kernel_rfl) ?_
 refine Ends.seq ?_
 refine Wr ?_
 refine Ops.pv (pv_loadK [_, _, _, _, _, _] rfl rfl rfl ⟨rfl, rfl, rfl, rfl, rfl, rfl, trivial⟩) rfl ?_
 refine Ops.ef rfl (ef_storeK rfl rfl rfl rfl) ?_
 rintro _ _ ⟨rfl, rfl⟩
 refine On ?_
 refine Wp.ret ?_
 exact Ends.ret (res_one rfl (rv_cellK [_, _, _, _, _, _] rfl rfl rfl ⟨rfl, rfl, rfl, rfl, rfl, rfl, trivial⟩)) ⟨rfl, rfl⟩
set_option maxHeartbeats 2000000 in
theorem tr_tkInner (G : Hp) (n cb tk m : Nat) (v : Value) (L : Hp) (p : PS) (hH : CapsH n p cb L) (hok : POk p) (node : Int) (a : Option Addr) (c : Nat) (l : List SlotM) (hv : View G 2 (.slice a l.length c) l.length (slotsCells l)) (hl : l.length ≤ 2 ^ 40) : TrR Tryz.prog 108 [tkP tk, .int .i64 node, .slice a l.length c] (G ++ (tkBlk tk cb m v :: L)) (.tuple #[slotV ((firstIn p.l l node).getD (0, 0)), .bool (firstIn p.l l node).isSome]) := by
 have hH0 := hH
 have hrd := dradix_le hok.rel node
 have hpw : 2 ^ (dradix p.l node).toNat ≤ 2 ^ 4 := Nat.pow_le_pow_right (by omega) (by omega)
 obtain ⟨sb, tb, Ls, Lt, hS, hT, rfl⟩ := hH
 refine Tr.enter Tryz.func108 rfl Tryz.ntmps108 rfl (fun W F => ?_)
 refine Wp.app ?_
 refine Wr ?_
 refine Ops.ef rfl (ef_allocK tyZ31 rfl) ?_
 rintro _ _ ⟨b1, rfl, rfl⟩
 refine Oa1 rfl rfl ?_
 refine On ?_
 refine Wr ?_
 refine Om1 rfl rfl ?_
 refine Ops.pv (pv_nilCheck rfl) rfl ?_
 refine Of1 rfl rfl rfl ?_
 refine Ol1 rfl rfl rfl rfl ?_
 refine Ops.pv (pv_nilCheck rfl) rfl ?_
 refine Of1 rfl rfl rfl ?_
 refine Of1 rfl rfl rfl ?_
 refine Ol1 rfl rfl rfl rfl ?_
 refine Om1 rfl rfl ?_
 refine Ops.ef rfl (ef_callr (sf_radix hS node) rfl rfl) ?_
 rintro _ _ ⟨rfl, rfl⟩
 refine Oa1 rfl rfl ?_
 refine On ?_
 refine Wp.seq ?_
 refine Wr ?_
 refine Om1 rfl rfl ?_
 refine Ops.pv (pv_eql rfl rfl) rfl ?_
 refine On ?_
 refine Wp.cond_dect rfl (fun h1 => ?_) (fun h1 => ?_)
 ·
  refine Wr ?_
  refine Ops.pv (pv_build rfl) rfl ?_
  refine Ops.ef rfl (ef_storeK rfl rfl rfl rfl) ?_
  rintro _ _ ⟨rfl, rfl⟩
  refine Oa1 rfl rfl ?_
  refine On ?_
  refine Wp.ret ?_
  refine Ends.then_ret ?_
  exact Ends.ret (res_list (rs := [.cell 6 31, .tmp 7]) rfl ⟨_, _, rfl, rv_cellK [_, _] rfl rfl rfl ⟨rfl, rfl, trivial⟩, ⟨_, _, rfl, rv_tmp rfl, rfl⟩⟩ rfl) ⟨by rw [firstIn_0 (by assumption)]; rfl, rfl⟩
 refine Wp.skip ?_
 refine Ends.seq ?_
 refine Wp.seq ?_
 refine Wr ?_
 refine Om1 rfl rfl ?_
 refine Ops.pv (pv_shl rfl rfl (by omega) (shl_r hrd)) rfl ?_
 refine Om1 rfl rfl ?_
 refine On ?_
 refine Wp.block ?_
 refine Wp.loopK (σ := Nat) [(0, _), (1, _), (2, _), (6, _), (25, _)] (fun s => [(26, .int .i64 s)]) (fun s => (b1, .cells [.int .i64 0, .int .i64 0].toArray 31) :: (G ++ (tkBlk tk cb m v :: (cBlk cb sb tb :: (Ls ++ (Lt ++ F)))))) (fun s => s ≤ 2 ^ (dradix p.l node).toNat ∧ ∀ j : Nat, j < s → ((node, (j : Int)) ∈ l ∨ (dget p.l (node, (j : Int))).1.kind = 0)) (fun s => 2 ^ (dradix p.l node).toNat - s) 0 ⟨Nat.zero_le _, fun j hj => absurd hj (Nat.not_lt_zero j)⟩ ⟨rfl, rfl, rfl, rfl, rfl, trivial⟩ ⟨rfl, trivial⟩ (by intro w ho; (try dsimp only [List.nil_append, List.cons_append]); exact Drop.own ho) ?_
 rintro i KK ⟨hi, hn⟩ hK
 dsimp only [List.cons_append, List.nil_append] at hK ⊢
 refine Wr ?_
 refine Ops.pv (pv_lss rfl rfl) rfl ?_
 refine On ?_
 refine Wp.seq ?_
 refine Wp.cond_dect rfl (fun h2 => ?_) (fun h2 => ?_)
 ·
  refine Wp.skip ?_
  refine Ends.seq ?_
  refine Wp.seq ?_
  refine Wp.block ?_
  refine Wr ?_
  refine Om1 rfl rfl ?_
  refine Oa1 rfl rfl ?_
  refine On ?_
  refine Wr ?_
  refine Om1 rfl rfl ?_
  refine Om1 rfl rfl ?_
  refine Ops.pv (pv_build rfl) rfl ?_
  refine Ops.ef rfl (ef_allocK tyZ31 rfl) ?_
  rintro _ _ ⟨b2, rfl, rfl⟩
  refine Ops.ef rfl (ef_storeK rfl rfl rfl rfl) ?_
  rintro _ _ ⟨rfl, rfl⟩
  refine On ?_
  refine Wr ?_
  refine Om1 rfl rfl ?_
  refine Ops.pv (pv_loadK [_, _] rfl rfl rfl ⟨rfl, rfl, trivial⟩) rfl ?_
  refine Ops.ef rfl (ef_callr (tr_slContains G a c l (node, (i : Int)) hv hl) rfl rfl) ?_
  rintro _ _ ⟨rfl, rfl⟩
  refine Ops.pv (pv_not_dec rfl) rfl ?_
  refine Om1 rfl rfl ?_
  refine Ops.split (t := 36) rfl (fun h3 => ?_) (fun h3 => ?_)
  ·
   refine Ops.pvg ⟨_, _, rfl, rfl, rfl⟩ (pv_move rfl) rfl ?_
   refine Ops.pvg ⟨_, _, rfl, rfl, rfl⟩ (pv_loadK [_, _] rfl rfl rfl ⟨rfl, rfl, trivial⟩) rfl ?_
   refine Ops.efg ⟨_, _, rfl, rfl, rfl⟩ (ef_callr (tr_tkGet n cb tk m v (cBlk cb sb tb :: (Ls ++ Lt)) p hH0 (node, (i : Int))) rfl rfl) ?_
   rintro _ _ ⟨rfl, rfl⟩
   refine Ops.pvg ⟨_, _, rfl, rfl, rfl⟩ (pv_field rfl rfl rfl) rfl ?_
   refine Ops.pvg ⟨_, _, rfl, rfl, rfl⟩ (pv_neq rfl rfl) rfl ?_
   refine Ops.pv (pv_pick_true rfl rfl) rfl ?_
   refine On ?_
   refine Wp.cond_dect rfl (fun h4 => ?_) (fun h4 => ?_)
   ·
    refine Wr ?_
    refine Ops.pv (pv_loadK [_, _] rfl rfl rfl ⟨rfl, rfl, trivial⟩) rfl ?_
    refine Ops.ef rfl (ef_storeK rfl rfl rfl rfl) ?_
    rintro _ _ ⟨rfl, rfl⟩
    refine Oa1 rfl rfl ?_
    refine On ?_
    refine Wp.ret ?_
    refine Ends.block_ret ?_
    refine Ends.then_ret ?_
    refine Ends.then_ret ?_
    refine Ends.block_ret ?_
    refine Ends.then_ret ?_
    have hc : (node, (i : Int)) ∉ l ∧ (dget p.l (node, (i : Int))).1.kind ≠ 0 := by first | assumption | exact ⟨by assumption, by assumption⟩
    exact Ends.ret (res_list (rs := [.cell 6 31, .tmp 7]) rfl ⟨_, _, rfl, rv_cellK [_, _] rfl rfl rfl ⟨rfl, rfl, trivial⟩, ⟨_, _, rfl, rv_tmp rfl, rfl⟩⟩ rfl) ⟨by rw [firstIn_hit (i := i) (by assumption) (by omega) hn hc.1 hc.2]; rfl, rfl⟩
   refine Wp.skip ?_
   refine Ends.block_normal ?_
   refine Ends.seq ?_
   refine Wp.region ?_
   refine Ops.pv (pv_add rfl rfl (w64n (k := i + 1) (by omega) (by omega))) rfl ?_
   refine Om1 rfl rfl ?_
   refine Ops.nil ?_
   refine Ends.goes ?_
   refine Goes.back (hK (i + 1) ⟨by omega, fun j hj => ?_⟩ (by omega)) ⟨rfl, rfl, rfl, rfl, rfl, rfl, trivial⟩
   rcases Nat.lt_succ_iff_lt_or_eq.1 hj with hj | rfl
   ·
    exact hn j hj
   simp_all
  refine Os1 rfl rfl rfl rfl ?_
  refine Os1 rfl rfl rfl rfl ?_
  refine Os1 rfl rfl rfl rfl ?_
  refine Os1 rfl rfl rfl rfl ?_
  refine Os1 rfl rfl rfl rfl ?_
  refine Ops.pv (pv_pick_false rfl rfl) rfl ?_
  refine On ?_
  refine Wp.cond_false rfl ?_
  refine Wp.skip ?_
  refine Ends.block_normal ?_
  refine Ends.seq ?_
  refine Wp.region ?_
  refine Ops.pv (pv_add rfl rfl (w64n (k := i + 1) (by omega) (by omega))) rfl ?_
  refine Om1 rfl rfl ?_
  refine Ops.nil ?_
  refine Ends.goes ?_
  refine Goes.back (hK (i + 1) ⟨by omega, fun j hj => ?_⟩ (by omega)) ⟨rfl, rfl, rfl, rfl, rfl, rfl, trivial⟩
  rcases Nat.lt_succ_iff_lt_or_eq.1 hj with hj | rfl
  ·
   exact hn j hj
  simp_all
 refine Wp.exit ?_
 refine Ends.then_exit ?_
 refine Ends.then_exit ?_
 refine Ends.block_hit ?_
 refine Ends.seq ?_
 refine Wr ?_
 refine Ops.pv (pv_build rfl) rfl ?_
 refine Ops.ef rfl (ef_storeK rfl rfl rfl rfl) ?_
 rintro _ _ ⟨rfl, rfl⟩
 refine Oa1 rfl rfl ?_
 refine On ?_
 refine Wp.ret ?_
 exact Ends.ret (res_list (rs := [.cell 6 31, .tmp 7]) rfl ⟨_, _, rfl, rv_cellK [_, _] rfl rfl rfl ⟨rfl, rfl, trivial⟩, ⟨_, _, rfl, rv_tmp rfl, rfl⟩⟩ rfl) ⟨by rw [firstIn_miss (fun j hj => hn j (by omega))]; rfl, rfl⟩
end Go.Proofs.YtdodfnjmkpgdbaaGreat
end
section
set_option linter.unusedVariables false
set_option linter.unusedSimpArgs false
namespace Go.Proofs.YtdodfnjmkpgdbaaGreat
open Go.SL
theorem stepT_n {t : TS} {s : SlotM} (h : ¬ fin t.p.l s) : stepT t s = ⟨(mTake t.p s).2.2, t.told, t.n - 1⟩ := by unfold stepT; rw [if_neg (fun k => h k.1), if_neg h]
theorem stepT_f {t : TS} {s : SlotM} (h : fin t.p.l s) (h2 : ¬ (dget t.p.l s).1.kind = 2) : stepT t s = ⟨(mTake t.p s).2.2, t.told ++ [(dget t.p.l s).1], t.n - 1⟩ := by unfold stepT; rw [if_neg (fun k => h2 k.2), if_pos h]
theorem stepT_c {t : TS} {s : SlotM} (h : fin t.p.l s) (h2 : (dget t.p.l s).1.kind = 2) : stepT t s = ⟨(mClear (mTake t.p s).2.2 (dget t.p.l s).1.object).2, t.told ++ [(dget t.p.l s).1], t.n - 1⟩ := by unfold stepT; rw [if_pos ⟨h, h2⟩, if_pos h]
def TkI (n : Nat) (t : TS) (cb : Nat) (v : Value) (T H : Hp) : Prop := CapsH n t.p cb H ∧ Slc 25 6 v t.told.length (cel CapM.cells t.told) T ∧ POk t.p ∧ t.told.length + t.n ≤ 1000
set_option maxHeartbeats 4000000 in
theorem tr_tkStep (n cb tk : Nat) (t : TS) (v : Value) (T H : Hp) (hI : TkI n t cb v T H) (hn : n ≤ 2 ^ 19) (s : SlotM) : TrE Tryz.prog 109 [tkP tk, slotV s] (tkBlk tk cb t.n v :: (T ++ H)) (fun u L' => u = .tuple #[] ∧ t.n ≠ 0 ∧ ∃ v' T' H', TkI n (stepT t s) cb v' T' H' ∧ L' = tkBlk tk cb (stepT t s).n v' :: (T' ++ H')) (fun c L' => c = spentC ∧ t.n = 0 ∧ L' = tkBlk tk cb t.n v :: (T ++ H)) := by
 obtain ⟨hC, hsl, hok, hb⟩ := hI
 have htf : (mTake t.p s).1 = (dget t.p.l s).1 := take_fst hok.rel
 refine TrE.enter Tryz.func109 rfl Tryz.ntmps109 rfl (fun W F => ?_)
 refine Wp.app ?_
 refine Wr ?_
 refine Ops.ef rfl (ef_boxK rfl rfl) ?_
 rintro _ _ ⟨b1, rfl, rfl⟩
 refine On ?_
 refine Wp.seq ?_
 refine Wr ?_
 refine Om1 rfl rfl ?_
 refine Ops.pv (pv_nilCheck rfl) rfl ?_
 refine Of1 rfl rfl rfl ?_
 refine Ol1 rfl rfl rfl rfl ?_
 refine Ops.pv (pv_eql rfl rfl) rfl ?_
 refine On ?_
 refine Wp.cond_dect rfl (fun h1 => ?_) (fun h1 => ?_)
 ·
  refine Wp.region ?_
  refine Ops.pv (pv_build rfl) rfl ?_
  refine Ops.pv (pv_iface rfl rfl) rfl ?_
  exact Ops.panic rfl ⟨tkBlk tk cb t.n v :: (T ++ H), ⟨rfl, by omega, rfl⟩, inferInstance⟩
 refine Wp.skip ?_
 refine Ends.seq ?_
 refine Wr ?_
 refine Om1 rfl rfl ?_
 refine Ops.pv (pv_nilCheck rfl) rfl ?_
 refine Of1 rfl rfl rfl ?_
 refine Ol1 rfl rfl rfl rfl ?_
 refine Ops.pv (pv_sub rfl rfl (w64n (k := t.n - 1) (by omega) (by omega))) rfl ?_
 refine Ops.pv (pv_nilCheck rfl) rfl ?_
 refine Of1 rfl rfl rfl ?_
 refine Ops.ef rfl (ef_store1 rfl rfl (by first | rfl | assumption) (by first | rfl | assumption)) ?_
 rintro _ _ ⟨rfl, rfl⟩
 refine On ?_
 refine Wp.seq ?_
 refine AnyH.start ((b1, .cells [.int .i64 s.1, .int .i64 s.2].toArray 31) :: tkBlk tk cb (t.n - 1) v :: []) 7 rfl ?_
 refine Tk 0 rfl rfl (pv_move rfl) rfl ?_
 refine Tk 1 rfl rfl (pv_nilCheck rfl) rfl ?_
 refine Tk 2 rfl rfl (pv_fieldAddr0 rfl rfl) rfl ?_
 refine Tk 3 rfl rfl (pv_load rfl rfl rfl) rfl ?_
 refine Tk 4 rfl rfl (pv_loadK [_, _] rfl rfl rfl ⟨rfl, rfl, trivial⟩) rfl ?_
 refine AnyH.one 5 (by kernel_rfl) ?_
 refine Turn.ef rfl rfl (ef_callr (tr_rFinal n cb H t.p hC s) rfl rfl) ?_ ?_
 ·
  rintro _ _ ⟨rfl, rfl⟩; infer_instance
 rintro _ _ ⟨rfl, rfl⟩
 refine Tk 6 rfl rfl (pv_assign rfl) rfl ?_
 refine AnyH.done (by kernel_rfl) ?_
 refine Ends.seq ?_
 refine Wp.seq ?_
 refine AnyH.start ((b1, .cells [.int .i64 s.1, .int .i64 s.2].toArray 31) :: tkBlk tk cb (t.n - 1) v :: []) 12 rfl ?_
 refine Tk 0 rfl rfl (pv_move rfl) rfl ?_
 refine Tk 1 rfl rfl (pv_nilCheck rfl) rfl ?_
 refine Tk 2 rfl rfl (pv_fieldAddr0 rfl rfl) rfl ?_
 refine Tk 3 rfl rfl (pv_load rfl rfl rfl) rfl ?_
 refine Tk 4 rfl rfl (pv_loadK [_, _] rfl rfl rfl ⟨rfl, rfl, trivial⟩) rfl ?_
 refine AnyH.two 5 9 (by kernel_rfl) ?_ ?_
 ·
  refine Turn.ef rfl rfl (ef_call (tr_mTake n cb H t.p hC hn s) rfl rfl) ?_ ?_
  ·
   rintro _ _ ⟨_, Q1, ⟨rfl, hC2⟩, rfl, rfl⟩; infer_instance
  rintro _ _ ⟨_, Q1, ⟨rfl, hC2⟩, rfl, rfl⟩
  refine AnyH.app ?_
  rw [htf]
  refine Tk 6 rfl rfl (pv_move rfl) rfl ?_
  refine Tk 7 rfl rfl (pv_extract rfl rfl) rfl ?_
  refine Tk 8 rfl rfl (pv_extract rfl rfl) rfl ?_
  refine AnyH.one 9 (by kernel_rfl) ?_
  refine Turn.ef rfl rfl (ef_allocK tyZ25 rfl) ?_ ?_
  ·
   rintro _ _ ⟨b2, rfl, rfl⟩; infer_instance
  rintro _ _ ⟨b2, rfl, rfl⟩
  refine AnyH.one 10 (by kernel_rfl) ?_
  refine Turn.ef rfl rfl (ef_storeK rfl rfl rfl rfl) ?_ ?_
  ·
   rintro _ _ ⟨rfl, rfl⟩; infer_instance
  rintro _ _ ⟨rfl, rfl⟩
  refine Tk 11 rfl rfl (pv_assign rfl) rfl ?_
  refine AnyH.done (by kernel_rfl) ?_
  refine Ends.seq ?_
  refine Wp.seq ?_
  refine Wr ?_
  refine Om1 rfl rfl ?_
  refine Ops.pv (pv_not_dec rfl) rfl ?_
  refine On ?_
  refine Wp.cond_dect rfl (fun h2 => ?_) (fun h2 => ?_)
  ·
   refine Wp.ret ?_
   refine Ends.then_ret ?_
   have hsok := stepT_ok hok s
   have he := stepT_n (t := t) (s := s) (by assumption)
   rw [he] at hsok ⊢
   exact Ends.retE (L' := tkBlk tk cb (t.n - 1) v :: (T ++ Q1)) (res0 rfl) ⟨rfl, by omega, v, T, Q1, ⟨hC2, hsl, hsok, by simp only [List.length_append, List.length_singleton]; omega⟩, rfl⟩
  refine Wp.skip ?_
  refine Ends.seq ?_
  refine Wp.seq ?_
  refine AnyH.start ((b2, .cells (dget t.p.l s).1.cells.toArray 25) :: []) 11 rfl ?_
  refine Tk 0 rfl rfl (pv_move rfl) rfl ?_
  refine Tk 1 rfl rfl (pv_move rfl) rfl ?_
  refine Tk 2 rfl rfl (pv_nilCheck rfl) rfl ?_
  refine Tk 3 rfl rfl (pv_fieldAddr0 rfl rfl) rfl ?_
  refine Tk 5 rfl rfl (pv_loadK [_, _, _, _, _, _] rfl rfl rfl ⟨rfl, rfl, rfl, rfl, rfl, rfl, trivial⟩) rfl ?_
  refine AnyH.two 4 6 (by kernel_rfl) ?_ ?_
  ·
   refine Turn.ef rfl rfl (ef_pv (pv_load rfl rfl rfl) rfl) ?_ ?_
   ·
    rintro _ _ ⟨rfl, rfl⟩; infer_instance
   rintro _ _ ⟨rfl, rfl⟩
   refine AnyH.one 6 (by kernel_rfl) ?_
   refine Turn.ef rfl rfl (ef_buildSlice1 (k := 6) rfl rfl rfl rfl rfl) ?_ ?_
   ·
    rintro _ _ ⟨b3, rfl, rfl⟩; infer_instance
   rintro _ _ ⟨b3, rfl, rfl⟩
   refine AnyH.one 7 (by kernel_rfl) ?_
   refine Turn.ef rfl rfl (ef_append (H := T) (xs := (dget t.p.l s).1.cells) rfl hsl rfl ⟨rfl, rfl, rfl, rfl, rfl, rfl, trivial⟩ rfl rfl rfl (by omega) (by omega) rfl rfl) ?_ ?_
   ·
    rintro _ _ ⟨u1, K1, hu1, rfl, rfl⟩; infer_instance
   rintro _ _ ⟨u1, K1, hu1, rfl, rfl⟩
   refine AnyH.app ?_
   have ho1 := hu1.one
   have ho2 := hu1.cells1
   refine Tk 8 rfl rfl (pv_nilCheck rfl) rfl ?_
   refine Tk 9 rfl rfl (pv_fieldAddr0 rfl rfl) rfl ?_
   refine AnyH.one 10 (by kernel_rfl) ?_
   refine Turn.ef rfl rfl (ef_store1 rfl rfl (by first | rfl | assumption) (by first | rfl | assumption)) ?_ ?_
   ·
    rintro _ _ ⟨rfl, rfl⟩; infer_instance
   rintro _ _ ⟨rfl, rfl⟩
   refine AnyH.done (by kernel_rfl) ?_
   refine Ends.seq ?_
   refine Wr ?_
   refine Of1 rfl rfl rfl ?_
   refine Ol1 rfl rfl rfl rfl ?_
   refine Ops.pv (pv_eql rfl rfl) rfl ?_
   refine On ?_
   refine Wp.cond_dect rfl (fun h3 => ?_) (fun h3 => ?_)
   ·
    obtain ⟨sb, tb, Ls, Lt, hS, hT, rfl⟩ := hC2
    rw [List.cons_append, List.append_assoc]
    refine AnyH.start (tkBlk tk cb (t.n - 1) u1 :: (b2, .cells (dget t.p.l s).1.cells.toArray 25) :: cBlk cb sb tb :: []) 10 rfl ?_
    refine Tk 0 rfl rfl (pv_move rfl) rfl ?_
    refine Tk 1 rfl rfl (pv_nilCheck rfl) rfl ?_
    refine Tk 2 rfl rfl (pv_fieldAddr0 rfl rfl) rfl ?_
    refine Tk 3 rfl rfl (pv_load rfl rfl rfl) rfl ?_
    refine Tk 4 rfl rfl (pv_nilCheck rfl) rfl ?_
    refine Tk 5 rfl rfl (pv_fieldAddr0 rfl rfl) rfl ?_
    refine Tk 6 rfl rfl (pv_loadK [_] rfl rfl rfl ⟨rfl, trivial⟩) rfl ?_
    refine Tk 7 rfl rfl (pv_fieldAddr0 rfl rfl) rfl ?_
    refine Tk 8 rfl rfl (pv_load rfl rfl rfl) rfl ?_
    refine AnyH.one 9 (by kernel_rfl) ?_
    refine Turn.ef rfl rfl (ef_call (tr_smClear _ sb Ls hS (dget t.p.l s).1.object) rfl rfl) ?_ ?_
    ·
     rintro _ _ ⟨_, R1, ⟨rfl, hS2⟩, rfl, rfl⟩; infer_instance
    rintro _ _ ⟨_, R1, ⟨rfl, hS2⟩, rfl, rfl⟩
    refine AnyH.app ?_
    skip
    refine AnyH.done (by kernel_rfl) ?_
    have hsok := stepT_ok hok s
    have he := stepT_c (t := t) (s := s) (Decidable.not_not.1 (by assumption)) (by assumption)
    rw [he] at hsok ⊢
    exact Ends.finE (L' := tkBlk tk cb (t.n - 1) u1 :: (K1 ++ (cBlk cb sb tb :: (R1 ++ Lt)))) (res0 rfl) ⟨rfl, by omega, u1, K1, (cBlk cb sb tb :: (R1 ++ Lt)), ⟨⟨_, _, _, _, hS2, hT, rfl⟩, by rw [cel_app, cel_one1]; simpa using hu1, hsok, by simp only [List.length_append, List.length_singleton]; omega⟩, rfl⟩
   refine Wp.skip ?_
   have hsok := stepT_ok hok s
   have he := stepT_f (t := t) (s := s) (Decidable.not_not.1 (by assumption)) (by assumption)
   rw [he] at hsok ⊢
   exact Ends.finE (L' := tkBlk tk cb (t.n - 1) u1 :: (K1 ++ Q1)) (res0 rfl) ⟨rfl, by omega, u1, K1, Q1, ⟨hC2, by rw [cel_app, cel_one1]; simpa using hu1, hsok, by simp only [List.length_append, List.length_singleton]; omega⟩, rfl⟩
  refine Turn.ef rfl rfl (ef_buildSlice1 (k := 6) rfl rfl rfl rfl rfl) ?_ ?_
  ·
   rintro _ _ ⟨b4, rfl, rfl⟩; infer_instance
  rintro _ _ ⟨b4, rfl, rfl⟩
  refine AnyH.one 4 (by kernel_rfl) ?_
  refine Turn.ef rfl rfl (ef_pv (pv_load rfl rfl rfl) rfl) ?_ ?_
  ·
   rintro _ _ ⟨rfl, rfl⟩; infer_instance
  rintro _ _ ⟨rfl, rfl⟩
  refine AnyH.one 7 (by kernel_rfl) ?_
  refine Turn.ef rfl rfl (ef_append (H := T) (xs := (dget t.p.l s).1.cells) rfl hsl rfl ⟨rfl, rfl, rfl, rfl, rfl, rfl, trivial⟩ rfl rfl rfl (by omega) (by omega) rfl rfl) ?_ ?_
  ·
   rintro _ _ ⟨u2, K2, hu2, rfl, rfl⟩; infer_instance
  rintro _ _ ⟨u2, K2, hu2, rfl, rfl⟩
  refine AnyH.app ?_
  have ho1 := hu2.one
  have ho2 := hu2.cells1
  refine Tk 8 rfl rfl (pv_nilCheck rfl) rfl ?_
  refine Tk 9 rfl rfl (pv_fieldAddr0 rfl rfl) rfl ?_
  refine AnyH.one 10 (by kernel_rfl) ?_
  refine Turn.ef rfl rfl (ef_store1 rfl rfl (by first | rfl | assumption) (by first | rfl | assumption)) ?_ ?_
  ·
   rintro _ _ ⟨rfl, rfl⟩; infer_instance
  rintro _ _ ⟨rfl, rfl⟩
  refine AnyH.done (by kernel_rfl) ?_
  refine Ends.seq ?_
  refine Wr ?_
  refine Of1 rfl rfl rfl ?_
  refine Ol1 rfl rfl rfl rfl ?_
  refine Ops.pv (pv_eql rfl rfl) rfl ?_
  refine On ?_
  refine Wp.cond_dect rfl (fun h4 => ?_) (fun h4 => ?_)
  ·
   obtain ⟨sb, tb, Ls, Lt, hS, hT, rfl⟩ := hC2
   rw [List.cons_append, List.append_assoc]
   refine AnyH.start (tkBlk tk cb (t.n - 1) u2 :: (b2, .cells (dget t.p.l s).1.cells.toArray 25) :: cBlk cb sb tb :: []) 10 rfl ?_
   refine Tk 0 rfl rfl (pv_move rfl) rfl ?_
   refine Tk 1 rfl rfl (pv_nilCheck rfl) rfl ?_
   refine Tk 2 rfl rfl (pv_fieldAddr0 rfl rfl) rfl ?_
   refine Tk 3 rfl rfl (pv_load rfl rfl rfl) rfl ?_
   refine Tk 4 rfl rfl (pv_nilCheck rfl) rfl ?_
   refine Tk 5 rfl rfl (pv_fieldAddr0 rfl rfl) rfl ?_
   refine Tk 6 rfl rfl (pv_loadK [_] rfl rfl rfl ⟨rfl, trivial⟩) rfl ?_
   refine Tk 7 rfl rfl (pv_fieldAddr0 rfl rfl) rfl ?_
   refine Tk 8 rfl rfl (pv_load rfl rfl rfl) rfl ?_
   refine AnyH.one 9 (by kernel_rfl) ?_
   refine Turn.ef rfl rfl (ef_call (tr_smClear _ sb Ls hS (dget t.p.l s).1.object) rfl rfl) ?_ ?_
   ·
    rintro _ _ ⟨_, R2, ⟨rfl, hS2⟩, rfl, rfl⟩; infer_instance
   rintro _ _ ⟨_, R2, ⟨rfl, hS2⟩, rfl, rfl⟩
   refine AnyH.app ?_
   skip
   refine AnyH.done (by kernel_rfl) ?_
   have hsok := stepT_ok hok s
   have he := stepT_c (t := t) (s := s) (Decidable.not_not.1 (by assumption)) (by assumption)
   rw [he] at hsok ⊢
   exact Ends.finE (L' := tkBlk tk cb (t.n - 1) u2 :: (K2 ++ (cBlk cb sb tb :: (R2 ++ Lt)))) (res0 rfl) ⟨rfl, by omega, u2, K2, (cBlk cb sb tb :: (R2 ++ Lt)), ⟨⟨_, _, _, _, hS2, hT, rfl⟩, by rw [cel_app, cel_one1]; simpa using hu2, hsok, by simp only [List.length_append, List.length_singleton]; omega⟩, rfl⟩
  refine Wp.skip ?_
  have hsok := stepT_ok hok s
  have he := stepT_f (t := t) (s := s) (Decidable.not_not.1 (by assumption)) (by assumption)
  rw [he] at hsok ⊢
  exact Ends.finE (L' := tkBlk tk cb (t.n - 1) u2 :: (K2 ++ Q1)) (res0 rfl) ⟨rfl, by omega, u2, K2, Q1, ⟨hC2, by rw [cel_app, cel_one1]; simpa using hu2, hsok, by simp only [List.length_append, List.length_singleton]; omega⟩, rfl⟩
 refine Turn.ef rfl rfl (ef_allocK tyZ25 rfl) ?_ ?_
 ·
  rintro _ _ ⟨b5, rfl, rfl⟩; infer_instance
 rintro _ _ ⟨b5, rfl, rfl⟩
 refine AnyH.one 5 (by kernel_rfl) ?_
 refine Turn.ef rfl rfl (ef_call (tr_mTake n cb H t.p hC hn s) rfl rfl) ?_ ?_
 ·
  rintro _ _ ⟨_, Q2, ⟨rfl, hC2⟩, rfl, rfl⟩; infer_instance
 rintro _ _ ⟨_, Q2, ⟨rfl, hC2⟩, rfl, rfl⟩
 refine AnyH.app ?_
 rw [htf]
 refine Tk 6 rfl rfl (pv_move rfl) rfl ?_
 refine Tk 7 rfl rfl (pv_extract rfl rfl) rfl ?_
 refine Tk 8 rfl rfl (pv_extract rfl rfl) rfl ?_
 refine AnyH.one 10 (by kernel_rfl) ?_
 refine Turn.ef rfl rfl (ef_storeK rfl rfl rfl rfl) ?_ ?_
 ·
  rintro _ _ ⟨rfl, rfl⟩; infer_instance
 rintro _ _ ⟨rfl, rfl⟩
 refine Tk 11 rfl rfl (pv_assign rfl) rfl ?_
 refine AnyH.done (by kernel_rfl) ?_
 refine Ends.seq ?_
 refine Wp.seq ?_
 refine Wr ?_
 refine Om1 rfl rfl ?_
 refine Ops.pv (pv_not_dec rfl) rfl ?_
 refine On ?_
 refine Wp.cond_dect rfl (fun h5 => ?_) (fun h5 => ?_)
 ·
  refine Wp.ret ?_
  refine Ends.then_ret ?_
  have hsok := stepT_ok hok s
  have he := stepT_n (t := t) (s := s) (by assumption)
  rw [he] at hsok ⊢
  exact Ends.retE (L' := tkBlk tk cb (t.n - 1) v :: (T ++ Q2)) (res0 rfl) ⟨rfl, by omega, v, T, Q2, ⟨hC2, hsl, hsok, by simp only [List.length_append, List.length_singleton]; omega⟩, rfl⟩
 refine Wp.skip ?_
 refine Ends.seq ?_
 refine Wp.seq ?_
 refine AnyH.start ((b5, .cells (dget t.p.l s).1.cells.toArray 25) :: []) 11 rfl ?_
 refine Tk 0 rfl rfl (pv_move rfl) rfl ?_
 refine Tk 1 rfl rfl (pv_move rfl) rfl ?_
 refine Tk 2 rfl rfl (pv_nilCheck rfl) rfl ?_
 refine Tk 3 rfl rfl (pv_fieldAddr0 rfl rfl) rfl ?_
 refine Tk 5 rfl rfl (pv_loadK [_, _, _, _, _, _] rfl rfl rfl ⟨rfl, rfl, rfl, rfl, rfl, rfl, trivial⟩) rfl ?_
 refine AnyH.two 4 6 (by kernel_rfl) ?_ ?_
 ·
  refine Turn.ef rfl rfl (ef_pv (pv_load rfl rfl rfl) rfl) ?_ ?_
  ·
   rintro _ _ ⟨rfl, rfl⟩; infer_instance
  rintro _ _ ⟨rfl, rfl⟩
  refine AnyH.one 6 (by kernel_rfl) ?_
  refine Turn.ef rfl rfl (ef_buildSlice1 (k := 6) rfl rfl rfl rfl rfl) ?_ ?_
  ·
   rintro _ _ ⟨b6, rfl, rfl⟩; infer_instance
  rintro _ _ ⟨b6, rfl, rfl⟩
  refine AnyH.one 7 (by kernel_rfl) ?_
  refine Turn.ef rfl rfl (ef_append (H := T) (xs := (dget t.p.l s).1.cells) rfl hsl rfl ⟨rfl, rfl, rfl, rfl, rfl, rfl, trivial⟩ rfl rfl rfl (by omega) (by omega) rfl rfl) ?_ ?_
  ·
   rintro _ _ ⟨u3, K3, hu3, rfl, rfl⟩; infer_instance
  rintro _ _ ⟨u3, K3, hu3, rfl, rfl⟩
  refine AnyH.app ?_
  have ho1 := hu3.one
  have ho2 := hu3.cells1
  refine Tk 8 rfl rfl (pv_nilCheck rfl) rfl ?_
  refine Tk 9 rfl rfl (pv_fieldAddr0 rfl rfl) rfl ?_
  refine AnyH.one 10 (by kernel_rfl) ?_
  refine Turn.ef rfl rfl (ef_store1 rfl rfl (by first | rfl | assumption) (by first | rfl | assumption)) ?_ ?_
  ·
   rintro _ _ ⟨rfl, rfl⟩; infer_instance
  rintro _ _ ⟨rfl, rfl⟩
  refine AnyH.done (by kernel_rfl) ?_
  refine Ends.seq ?_
  refine Wr ?_
  refine Of1 rfl rfl rfl ?_
  refine Ol1 rfl rfl rfl rfl ?_
  refine Ops.pv (pv_eql rfl rfl) rfl ?_
  refine On ?_
  refine Wp.cond_dect rfl (fun h6 => ?_) (fun h6 => ?_)
  ·
   obtain ⟨sb, tb, Ls, Lt, hS, hT, rfl⟩ := hC2
   rw [List.cons_append, List.append_assoc]
   refine AnyH.start (tkBlk tk cb (t.n - 1) u3 :: (b5, .cells (dget t.p.l s).1.cells.toArray 25) :: cBlk cb sb tb :: []) 10 rfl ?_
   refine Tk 0 rfl rfl (pv_move rfl) rfl ?_
   refine Tk 1 rfl rfl (pv_nilCheck rfl) rfl ?_
   refine Tk 2 rfl rfl (pv_fieldAddr0 rfl rfl) rfl ?_
   refine Tk 3 rfl rfl (pv_load rfl rfl rfl) rfl ?_
   refine Tk 4 rfl rfl (pv_nilCheck rfl) rfl ?_
   refine Tk 5 rfl rfl (pv_fieldAddr0 rfl rfl) rfl ?_
   refine Tk 6 rfl rfl (pv_loadK [_] rfl rfl rfl ⟨rfl, trivial⟩) rfl ?_
   refine Tk 7 rfl rfl (pv_fieldAddr0 rfl rfl) rfl ?_
   refine Tk 8 rfl rfl (pv_load rfl rfl rfl) rfl ?_
   refine AnyH.one 9 (by kernel_rfl) ?_
   refine Turn.ef rfl rfl (ef_call (tr_smClear _ sb Ls hS (dget t.p.l s).1.object) rfl rfl) ?_ ?_
   ·
    rintro _ _ ⟨_, R3, ⟨rfl, hS2⟩, rfl, rfl⟩; infer_instance
   rintro _ _ ⟨_, R3, ⟨rfl, hS2⟩, rfl, rfl⟩
   refine AnyH.app ?_
   skip
   refine AnyH.done (by kernel_rfl) ?_
   have hsok := stepT_ok hok s
   have he := stepT_c (t := t) (s := s) (Decidable.not_not.1 (by assumption)) (by assumption)
   rw [he] at hsok ⊢
   exact Ends.finE (L' := tkBlk tk cb (t.n - 1) u3 :: (K3 ++ (cBlk cb sb tb :: (R3 ++ Lt)))) (res0 rfl) ⟨rfl, by omega, u3, K3, (cBlk cb sb tb :: (R3 ++ Lt)), ⟨⟨_, _, _, _, hS2, hT, rfl⟩, by rw [cel_app, cel_one1]; simpa using hu3, hsok, by simp only [List.length_append, List.length_singleton]; omega⟩, rfl⟩
  refine Wp.skip ?_
  have hsok := stepT_ok hok s
  have he := stepT_f (t := t) (s := s) (Decidable.not_not.1 (by assumption)) (by assumption)
  rw [he] at hsok ⊢
  exact Ends.finE (L' := tkBlk tk cb (t.n - 1) u3 :: (K3 ++ Q2)) (res0 rfl) ⟨rfl, by omega, u3, K3, Q2, ⟨hC2, by rw [cel_app, cel_one1]; simpa using hu3, hsok, by simp only [List.length_append, List.length_singleton]; omega⟩, rfl⟩
 refine Turn.ef rfl rfl (ef_buildSlice1 (k := 6) rfl rfl rfl rfl rfl) ?_ ?_
 ·
  rintro _ _ ⟨b7, rfl, rfl⟩; infer_instance
 rintro _ _ ⟨b7, rfl, rfl⟩
 refine AnyH.one 4 (by kernel_rfl) ?_
 refine Turn.ef rfl rfl (ef_pv (pv_load rfl rfl rfl) rfl) ?_ ?_
 ·
  rintro _ _ ⟨rfl, rfl⟩; infer_instance
 rintro _ _ ⟨rfl, rfl⟩
 refine AnyH.one 7 (by kernel_rfl) ?_
 refine Turn.ef rfl rfl (ef_append (H := T) (xs := (dget t.p.l s).1.cells) rfl hsl rfl ⟨rfl, rfl, rfl, rfl, rfl, rfl, trivial⟩ rfl rfl rfl (by omega) (by omega) rfl rfl) ?_ ?_
 ·
  rintro _ _ ⟨u4, K4, hu4, rfl, rfl⟩; infer_instance
 rintro _ _ ⟨u4, K4, hu4, rfl, rfl⟩
 refine AnyH.app ?_
 have ho1 := hu4.one
 have ho2 := hu4.cells1
 refine Tk 8 rfl rfl (pv_nilCheck rfl) rfl ?_
 refine Tk 9 rfl rfl (pv_fieldAddr0 rfl rfl) rfl ?_
 refine AnyH.one 10 (by kernel_rfl) ?_
 refine Turn.ef rfl rfl (ef_store1 rfl rfl (by first | rfl | assumption) (by first | rfl | assumption)) ?_ ?_
 ·
  rintro _ _ ⟨rfl, rfl⟩; infer_instance
 rintro _ _ ⟨rfl, rfl⟩
 refine AnyH.done (by kernel_rfl) ?_
 refine Ends.seq ?_
 refine Wr ?_
 refine Of1 rfl rfl rfl ?_
 refine Ol1 rfl rfl rfl rfl ?_
 refine Ops.pv (pv_eql rfl rfl) rfl ?_
 refine On ?_
 refine Wp.cond_dect rfl (fun h7 => ?_) (fun h7 => ?_)
 ·
  obtain ⟨sb, tb, Ls, Lt, hS, hT, rfl⟩ := hC2
  rw [List.cons_append, List.append_assoc]
  refine AnyH.start (tkBlk tk cb (t.n - 1) u4 :: (b5, .cells (dget t.p.l s).1.cells.toArray 25) :: cBlk cb sb tb :: []) 10 rfl ?_
  refine Tk 0 rfl rfl (pv_move rfl) rfl ?_
  refine Tk 1 rfl rfl (pv_nilCheck rfl) rfl ?_
  refine Tk 2 rfl rfl (pv_fieldAddr0 rfl rfl) rfl ?_
  refine Tk 3 rfl rfl (pv_load rfl rfl rfl) rfl ?_
  refine Tk 4 rfl rfl (pv_nilCheck rfl) rfl ?_
  refine Tk 5 rfl rfl (pv_fieldAddr0 rfl rfl) rfl ?_
  refine Tk 6 rfl rfl (pv_loadK [_] rfl rfl rfl ⟨rfl, trivial⟩) rfl ?_
  refine Tk 7 rfl rfl (pv_fieldAddr0 rfl rfl) rfl ?_
  refine Tk 8 rfl rfl (pv_load rfl rfl rfl) rfl ?_
  refine AnyH.one 9 (by kernel_rfl) ?_
  refine Turn.ef rfl rfl (ef_call (tr_smClear _ sb Ls hS (dget t.p.l s).1.object) rfl rfl) ?_ ?_
  ·
   rintro _ _ ⟨_, R4, ⟨rfl, hS2⟩, rfl, rfl⟩; infer_instance
  rintro _ _ ⟨_, R4, ⟨rfl, hS2⟩, rfl, rfl⟩
  refine AnyH.app ?_
  skip
  refine AnyH.done (by kernel_rfl) ?_
  have hsok := stepT_ok hok s
  have he := stepT_c (t := t) (s := s) (Decidable.not_not.1 (by assumption)) (by assumption)
  rw [he] at hsok ⊢
  exact Ends.finE (L' := tkBlk tk cb (t.n - 1) u4 :: (K4 ++ (cBlk cb sb tb :: (R4 ++ Lt)))) (res0 rfl) ⟨rfl, by omega, u4, K4, (cBlk cb sb tb :: (R4 ++ Lt)), ⟨⟨_, _, _, _, hS2, hT, rfl⟩, by rw [cel_app, cel_one1]; simpa using hu4, hsok, by simp only [List.length_append, List.length_singleton]; omega⟩, rfl⟩
 refine Wp.skip ?_
 have hsok := stepT_ok hok s
 have he := stepT_f (t := t) (s := s) (Decidable.not_not.1 (by assumption)) (by assumption)
 rw [he] at hsok ⊢
 exact Ends.finE (L' := tkBlk tk cb (t.n - 1) u4 :: (K4 ++ Q2)) (res0 rfl) ⟨rfl, by omega, u4, K4, Q2, ⟨hC2, by rw [cel_app, cel_one1]; simpa using hu4, hsok, by simp only [List.length_append, List.length_singleton]; omega⟩, rfl⟩
def AwayP (n cb tk : Nat) (t : TS) (way : List SlotM) (s : SlotM) (G : Hp) (b : Bool) : Hp → Prop := fun L' => ∃ t' v' T' H', Away t way s b t' ∧ TkI n t' cb v' T' H' ∧ L' = tkBlk tk cb t'.n v' :: (T' ++ (H' ++ G))
def AwayC (mu : Nat) : Prop := ∀ (G : Hp) (n cb tk : Nat) (t : TS) (v : Value) (T H : Hp) (hI : TkI n t cb v T H) (hn : n ≤ 2 ^ 19) (a : Option Addr) (c : Nat) (l : List SlotM) (hv : View G 2 (.slice a l.length c) l.length (slotsCells l)) (s : SlotM) (hl : l.length + freeW t.p.l (l ++ [s]) ≤ 2 ^ 39), freeW t.p.l (l ++ [s]) < mu →
  TrE Tryz.prog 68 [tkP tk, slotV s, .slice a l.length c] (tkBlk tk cb t.n v :: (T ++ (H ++ G))) (fun u L' => u = .tuple #[] ∧ AwayP n cb tk t (l ++ [s]) s G true L') (fun c L' => c = spentC ∧ AwayP n cb tk t (l ++ [s]) s G false L')
set_option maxHeartbeats 8000000 in
theorem aw_step (mu : Nat) (ih : AwayC mu) (G : Hp) (n cb tk : Nat) (t : TS) (v : Value) (T H : Hp) (hI : TkI n t cb v T H) (hn : n ≤ 2 ^ 19) (a : Option Addr) (c : Nat) (l : List SlotM) (hv : View G 2 (.slice a l.length c) l.length (slotsCells l)) (sl : SlotM) (hl : l.length + freeW t.p.l (l ++ [sl]) ≤ 2 ^ 39) (hmu : freeW t.p.l (l ++ [sl]) ≤ mu) : TrE Tryz.prog 68 [tkP tk, slotV sl, .slice a l.length c] (tkBlk tk cb t.n v :: (T ++ (H ++ G))) (fun u L' => u = .tuple #[] ∧ AwayP n cb tk t (l ++ [sl]) sl G true L') (fun c L' => c = spentC ∧ AwayP n cb tk t (l ++ [sl]) sl G false L') := by
 refine TrE.enter Tryz.func68 rfl Tryz.ntmps68 rfl (fun W F => ?_)
 refine Wp.app ?_
 refine Wr ?_
 refine Ops.ef rfl (ef_boxK rfl rfl) ?_
 rintro _ _ ⟨b1, rfl, rfl⟩
 refine On ?_
 refine Wp.cutK (σ := Option Addr × Nat × Hp) [(0, _), (4, _)] (fun s => [(6, .slice s.1 (l ++ [sl]).length s.2.1)]) (fun s => (b1, .cells [.int .i64 sl.1, .int .i64 sl.2].toArray 31) :: tkBlk tk cb t.n v :: (T ++ (H ++ (s.2.2 ++ (G ++ F))))) (fun s => Slc 31 2 (.slice s.1 (l ++ [sl]).length s.2.1) (l ++ [sl]).length (slotsCells (l ++ [sl])) s.2.2) ⟨rfl, rfl, trivial⟩ (fun _ KK hC0 => ?_) ?_
 ·
  dsimp only [List.cons_append, List.nil_append] at hC0
  refine AnyH.start ((b1, .cells [.int .i64 sl.1, .int .i64 sl.2].toArray 31) :: []) 6 rfl ?_
  refine Tk 0 rfl rfl (pv_move rfl) rfl ?_
  refine Tk 2 rfl rfl (pv_loadK [_, _] rfl rfl rfl ⟨rfl, rfl, trivial⟩) rfl ?_
  refine AnyH.two 1 3 (by kernel_rfl) ?_ ?_
  ·
   refine Turn.ef rfl rfl (ef_call (tr_slClone G a c l hv (by omega)) rfl rfl) ?_ ?_
   ·
    rintro _ _ ⟨_, _, ⟨C1, hc1, rfl⟩, rfl, rfl⟩; infer_instance
   rintro _ _ ⟨_, _, ⟨C1, hc1, rfl⟩, rfl, rfl⟩
   refine AnyH.app ?_
   refine AnyH.one 3 (by kernel_rfl) ?_
   refine Turn.ef rfl rfl (ef_buildSlice1 (k := 2) rfl rfl rfl rfl rfl) ?_ ?_
   ·
    rintro _ _ ⟨b2, rfl, rfl⟩; infer_instance
   rintro _ _ ⟨b2, rfl, rfl⟩
   refine AnyH.one 4 (by kernel_rfl) ?_
   refine Turn.ef rfl rfl (ef_append (H := C1) (xs := slotCells sl) rfl hc1 rfl ⟨rfl, rfl, trivial⟩ rfl rfl rfl (by omega) (by omega) rfl rfl) ?_ ?_
   ·
    rintro _ _ ⟨u1, K1, hu1, rfl, rfl⟩; infer_instance
   rintro _ _ ⟨u1, K1, hu1, rfl, rfl⟩
   refine AnyH.app ?_
   have hW : Slc 31 2 u1 (l ++ [sl]).length (slotsCells (l ++ [sl])) K1 := by rw [slotsCells_app, List.length_append]; simpa [slotsCells] using hu1
   obtain ⟨pw, qw, rfl⟩ := hW.form
   refine Tk 5 rfl rfl (pv_assign rfl) rfl ?_
   refine AnyH.done (by kernel_rfl) ?_
   refine Ends.goes ?_
   refine Goes.back (hC0 (pw, qw, K1) hW) ⟨rfl, rfl, rfl, trivial⟩
  refine Turn.ef rfl rfl (ef_buildSlice1 (k := 2) rfl rfl rfl rfl rfl) ?_ ?_
  ·
   rintro _ _ ⟨b3, rfl, rfl⟩; infer_instance
  rintro _ _ ⟨b3, rfl, rfl⟩
  refine AnyH.one 1 (by kernel_rfl) ?_
  refine Turn.ef rfl rfl (ef_call (tr_slClone G a c l hv (by omega)) rfl rfl) ?_ ?_
  ·
   rintro _ _ ⟨_, _, ⟨C2, hc2, rfl⟩, rfl, rfl⟩; infer_instance
  rintro _ _ ⟨_, _, ⟨C2, hc2, rfl⟩, rfl, rfl⟩
  refine AnyH.app ?_
  refine AnyH.one 4 (by kernel_rfl) ?_
  refine Turn.ef rfl rfl (ef_append (H := C2) (xs := slotCells sl) rfl hc2 rfl ⟨rfl, rfl, trivial⟩ rfl rfl rfl (by omega) (by omega) rfl rfl) ?_ ?_
  ·
   rintro _ _ ⟨u2, K2, hu2, rfl, rfl⟩; infer_instance
  rintro _ _ ⟨u2, K2, hu2, rfl, rfl⟩
  refine AnyH.app ?_
  have hW : Slc 31 2 u2 (l ++ [sl]).length (slotsCells (l ++ [sl])) K2 := by rw [slotsCells_app, List.length_append]; simpa [slotsCells] using hu2
  obtain ⟨pw, qw, rfl⟩ := hW.form
  refine Tk 5 rfl rfl (pv_assign rfl) rfl ?_
  refine AnyH.done (by kernel_rfl) ?_
  refine Ends.goes ?_
  refine Goes.back (hC0 (pw, qw, K2) hW) ⟨rfl, rfl, rfl, trivial⟩
 rintro ⟨pw, qw, K1⟩ hW
 dsimp only [List.cons_append, List.nil_append] at ⊢
 dsimp only at hW ⊢
 have hvw := hW.view
 refine Wp.seq ?_
 refine Wp.block ?_
 refine Wp.loopK (σ := TS × Value × Hp × Hp) [(0, _), (4, _), (6, _)] (fun s => []) (fun s => (b1, .cells [.int .i64 sl.1, .int .i64 sl.2].toArray 31) :: tkBlk tk cb s.1.n s.2.1 :: (s.2.2.1 ++ (s.2.2.2 ++ (K1 ++ (G ++ F))))) (fun s => TkI n s.1 cb s.2.1 s.2.2.1 s.2.2.2 ∧ (∀ b t', Away s.1 (l ++ [sl]) sl b t' → Away t (l ++ [sl]) sl b t') ∧ freeW s.1.p.l (l ++ [sl]) ≤ freeW t.p.l (l ++ [sl])) (fun s => s.1.n) (t, v, T, H) ⟨hI, fun _ _ h => h, Nat.le_refl _⟩ ⟨rfl, rfl, rfl, trivial⟩ trivial (by intro w ho; (try dsimp only [List.nil_append, List.cons_append]); exact Drop.own ho) ?_
 rintro ⟨ti, vi, Ti, Hi⟩ KK ⟨hIi, hacc, hfr⟩ hK
 dsimp only [List.cons_append, List.nil_append] at hK ⊢
 dsimp only at hIi hacc hfr ⊢
 refine Wp.seq ?_
 refine Wp.seq ?_
 refine AnyH.start ((b1, .cells [.int .i64 sl.1, .int .i64 sl.2].toArray 31) :: tkBlk tk cb ti.n vi :: []) 13 rfl ?_
 refine Tk 0 rfl rfl (pv_move rfl) rfl ?_
 refine Tk 1 rfl rfl (pv_loadK [_, _] rfl rfl rfl ⟨rfl, rfl, trivial⟩) rfl ?_
 refine AnyH.one 2 (by kernel_rfl) ?_
 refine Turn.ef rfl rfl (ef_callr (tr_tkGet n cb tk ti.n vi Hi ti.p hIi.1 sl) rfl rfl) ?_ ?_
 ·
  rintro _ _ ⟨rfl, rfl⟩; infer_instance
 rintro _ _ ⟨rfl, rfl⟩
 refine Tk 3 rfl rfl (pv_field rfl rfl rfl) rfl ?_
 refine Tk 4 rfl rfl (pv_eql rfl rfl) rfl ?_
 refine Tk 5 rfl rfl (pv_move rfl) rfl ?_
 refine AnyH.split (t := 19) rfl (fun h1 => ?_) (fun h1 => ?_)
 ·
  refine Tk 6 rfl ⟨_, _, rfl, rfl, rfl⟩ (pv_move rfl) rfl ?_
  refine Tk 7 rfl ⟨_, _, rfl, rfl, rfl⟩ (pv_nilCheck rfl) rfl ?_
  refine Tk 8 rfl ⟨_, _, rfl, rfl, rfl⟩ (pv_fieldAddr0 rfl rfl) rfl ?_
  refine Tk 9 rfl ⟨_, _, rfl, rfl, rfl⟩ (pv_load rfl rfl rfl) rfl ?_
  refine Tk 10 rfl ⟨_, _, rfl, rfl, rfl⟩ (pv_loadK [_, _] rfl rfl rfl ⟨rfl, rfl, trivial⟩) rfl ?_
  refine AnyH.one 11 (by kernel_rfl) ?_
  refine Turn.ef rfl ⟨_, _, rfl, rfl, rfl⟩ (ef_callr (tr_rFinal n cb Hi ti.p hIi.1 sl) rfl rfl) ?_ ?_
  ·
   rintro _ _ ⟨rfl, rfl⟩; infer_instance
  rintro _ _ ⟨rfl, rfl⟩
  refine Tk 12 rfl rfl (pv_pick_true rfl rfl) rfl ?_
  refine AnyH.done (by kernel_rfl) ?_
  refine Ends.seq ?_
  refine Wp.cond_dect rfl (fun h2 => ?_) (fun h2 => ?_)
  ·
   have hkf : (dget ti.p.l sl).1.kind = 2 ∧ fin ti.p.l sl := by first | assumption | exact ⟨by assumption, by assumption⟩
   have hie : innerM ti.p.l (l ++ [sl]) sl = firstIn ti.p.l (l ++ [sl]) (dget ti.p.l sl).1.object := by unfold innerM; rw [if_pos hkf]
   refine Wp.skip ?_
   refine Ends.seq ?_
   refine Wp.block ?_
   refine Wr ?_
   refine Om1 rfl rfl ?_
   refine Om1 rfl rfl ?_
   refine Ops.pv (pv_loadK [_, _] rfl rfl rfl ⟨rfl, rfl, trivial⟩) rfl ?_
   refine Ops.ef rfl (ef_callr (tr_tkGet n cb tk ti.n vi Hi ti.p hIi.1 sl) rfl rfl) ?_
   rintro _ _ ⟨rfl, rfl⟩
   refine Ops.pv (pv_field rfl rfl rfl) rfl ?_
   refine Om1 rfl rfl ?_
   refine Ops.ef rfl (ef_callr (tr_tkInner K1 n cb tk ti.n vi Hi ti.p hIi.1 hIi.2.2.1 (dget ti.p.l sl).1.object pw qw (l ++ [sl]) hvw (by rw [List.length_append, List.length_singleton]; omega)) rfl rfl) ?_
   rintro _ _ ⟨rfl, rfl⟩
   refine Om1 rfl rfl ?_
   refine Ops.pv (pv_extract rfl rfl) rfl ?_
   refine Ops.pv (pv_extract rfl rfl) rfl ?_
   refine Ops.ef rfl (ef_allocK tyZ31 rfl) ?_
   rintro _ _ ⟨b4, rfl, rfl⟩
   refine Ops.ef rfl (ef_storeK rfl rfl rfl rfl) ?_
   rintro _ _ ⟨rfl, rfl⟩
   refine Oa1 rfl rfl ?_
   refine On ?_
   refine Wp.seq ?_
   refine Wr ?_
   refine Om1 rfl rfl ?_
   refine Ops.pv (pv_not rfl) rfl ?_
   refine On ?_
   refine Wp.cond_t rfl (fun h3 => ?_) (fun h3 => ?_)
   ·
    have hin : innerM ti.p.l (l ++ [sl]) sl = none := by rw [hie]; (rcases hq : firstIn ti.p.l (l ++ [sl]) (dget ti.p.l sl).1.object with _ | x <;> simp_all)
    refine Wp.exit ?_
    refine Ends.then_exit ?_
    refine Ends.block_miss rfl ?_
    refine Ends.then_exit ?_
    refine Ends.block_hit ?_
    refine Ends.seq ?_
    refine Wp.region ?_
    refine Om1 rfl rfl ?_
    refine Ops.pv (pv_loadK [_, _] rfl rfl rfl ⟨rfl, rfl, trivial⟩) rfl ?_
    refine Ops.efx rfl (efx_call (tr_tkStep n cb tk ti vi Ti Hi hIi hn sl) rfl rfl) ?_ ?_
    ·
     rintro _ _ ⟨_, ⟨rfl, hz, rfl⟩, rfl⟩
     exact ⟨tkBlk tk cb ti.n vi :: (Ti ++ (Hi ++ G)), ⟨rfl, ti, vi, Ti, Hi, hacc _ _ (Away.spent hin hz), hIi, rfl⟩, by (try simp only [List.cons_append, List.append_assoc]); infer_instance⟩
    rintro _ _ ⟨_, _, ⟨rfl, hn0, v2, T2, H2, hI2, rfl⟩, rfl, rfl⟩
    refine Ops.app ?_
    refine Ops.nil ?_
    exact Ends.finE (L' := tkBlk tk cb (stepT ti sl).n v2 :: (T2 ++ (H2 ++ G))) (res0 rfl) ⟨rfl, _, _, _, _, hacc _ _ (Away.step hin hn0), hI2, rfl⟩
   rcases hx : firstIn ti.p.l (l ++ [sl]) (dget ti.p.l sl).1.object with _ | x
   ·
    simp_all
   have hin := hie.trans hx
   have hlt := freeW_lt hIi.2.2.1.rel (innerM_some hin).2.1 (innerM_some hin).2.2.1
   try rw [hx]
   refine Wp.skip ?_
   refine Ends.seq ?_
   refine Wp.region ?_
   refine Om1 rfl rfl ?_
   refine Ops.pv (pv_loadK [_, _] rfl rfl rfl ⟨rfl, rfl, trivial⟩) rfl ?_
   refine Om1 rfl rfl ?_
   refine Ops.efx rfl (efx_call (ih K1 n cb tk ti vi Ti Hi hIi hn pw qw (l ++ [sl]) hvw x (by rw [List.length_append, List.length_singleton]; omega) (by omega)) rfl rfl) ?_ ?_
   ·
    rintro _ _ ⟨_, ⟨rfl, t2, v2, T2, H2, hA, hI2, rfl⟩, rfl⟩
    exact ⟨tkBlk tk cb t2.n v2 :: (T2 ++ (H2 ++ G)), ⟨rfl, t2, v2, T2, H2, hacc _ _ (Away.fall hin hA), hI2, rfl⟩, by (try simp only [List.cons_append, List.append_assoc]); infer_instance⟩
   rintro _ _ ⟨_, _, ⟨rfl, t2, v2, T2, H2, hA, hI2, rfl⟩, rfl, rfl⟩
   refine Ops.app ?_
   refine Ops.nil ?_
   refine Ends.block_normal ?_
   refine Ends.goes ?_
   refine Goes.back (hK (t2, v2, T2, H2) ⟨hI2, fun b t' h => hacc _ _ (Away.next hin hA h), Nat.le_trans (hA.free hIi.2.2.1 _) hfr⟩ (hA.le.2 rfl)) ⟨rfl, rfl, rfl, trivial⟩
  have hin : innerM ti.p.l (l ++ [sl]) sl = none := by unfold innerM; rw [if_neg (fun hh => by first | exact absurd hh (by assumption) | exact absurd hh.1 (by assumption) | exact absurd hh.2 (by assumption))]
  refine Wp.exit ?_
  refine Ends.then_exit ?_
  refine Ends.then_exit ?_
  refine Ends.block_hit ?_
  refine Ends.seq ?_
  refine Wp.region ?_
  refine Om1 rfl rfl ?_
  refine Ops.pv (pv_loadK [_, _] rfl rfl rfl ⟨rfl, rfl, trivial⟩) rfl ?_
  refine Ops.efx rfl (efx_call (tr_tkStep n cb tk ti vi Ti Hi hIi hn sl) rfl rfl) ?_ ?_
  ·
   rintro _ _ ⟨_, ⟨rfl, hz, rfl⟩, rfl⟩
   exact ⟨tkBlk tk cb ti.n vi :: (Ti ++ (Hi ++ G)), ⟨rfl, ti, vi, Ti, Hi, hacc _ _ (Away.spent hin hz), hIi, rfl⟩, by (try simp only [List.cons_append, List.append_assoc]); infer_instance⟩
  rintro _ _ ⟨_, _, ⟨rfl, hn0, v2, T2, H2, hI2, rfl⟩, rfl, rfl⟩
  refine Ops.app ?_
  refine Ops.nil ?_
  exact Ends.finE (L' := tkBlk tk cb (stepT ti sl).n v2 :: (T2 ++ (H2 ++ G))) (res0 rfl) ⟨rfl, _, _, _, _, hacc _ _ (Away.step hin hn0), hI2, rfl⟩
 have hin : innerM ti.p.l (l ++ [sl]) sl = none := by unfold innerM; rw [if_neg (fun hh => by first | exact absurd hh (by assumption) | exact absurd hh.1 (by assumption) | exact absurd hh.2 (by assumption))]
 refine Ts 6 rfl ⟨_, _, rfl, rfl, rfl⟩ rfl ?_
 refine Ts 7 rfl ⟨_, _, rfl, rfl, rfl⟩ rfl ?_
 refine Ts 8 rfl ⟨_, _, rfl, rfl, rfl⟩ rfl ?_
 refine Ts 9 rfl ⟨_, _, rfl, rfl, rfl⟩ rfl ?_
 refine Ts 10 rfl ⟨_, _, rfl, rfl, rfl⟩ rfl ?_
 refine Ts 11 rfl ⟨_, _, rfl, rfl, rfl⟩ rfl ?_
 refine Tk 12 rfl rfl (pv_pick_false rfl rfl) rfl ?_
 refine AnyH.done (by kernel_rfl) ?_
 refine Ends.seq ?_
 refine Wp.cond_false rfl ?_
 refine Wp.exit ?_
 refine Ends.then_exit ?_
 refine Ends.then_exit ?_
 refine Ends.block_hit ?_
 refine Ends.seq ?_
 refine Wp.region ?_
 refine Om1 rfl rfl ?_
 refine Ops.pv (pv_loadK [_, _] rfl rfl rfl ⟨rfl, rfl, trivial⟩) rfl ?_
 refine Ops.efx rfl (efx_call (tr_tkStep n cb tk ti vi Ti Hi hIi hn sl) rfl rfl) ?_ ?_
 ·
  rintro _ _ ⟨_, ⟨rfl, hz, rfl⟩, rfl⟩
  exact ⟨tkBlk tk cb ti.n vi :: (Ti ++ (Hi ++ G)), ⟨rfl, ti, vi, Ti, Hi, hacc _ _ (Away.spent hin hz), hIi, rfl⟩, by (try simp only [List.cons_append, List.append_assoc]); infer_instance⟩
 rintro _ _ ⟨_, _, ⟨rfl, hn0, v2, T2, H2, hI2, rfl⟩, rfl, rfl⟩
 refine Ops.app ?_
 refine Ops.nil ?_
 exact Ends.finE (L' := tkBlk tk cb (stepT ti sl).n v2 :: (T2 ++ (H2 ++ G))) (res0 rfl) ⟨rfl, _, _, _, _, hacc _ _ (Away.step hin hn0), hI2, rfl⟩
theorem tr_tkAway : ∀ mu, AwayC mu
  | 0 => fun G n cb tk t v T H hI hn a c l hv s hl hm => absurd hm (Nat.not_lt_zero _)
  | mu + 1 => fun G n cb tk t v T H hI hn a c l hv s hl hm => aw_step mu (tr_tkAway mu) G n cb tk t v T H hI hn a c l hv s hl (by omega)
end Go.Proofs.YtdodfnjmkpgdbaaGreat
end
section
set_option linter.unusedVariables false
set_option linter.unusedSimpArgs false
set_option linter.unusedSectionVars false
namespace Go.Proofs.YtdodfnjmkpgdbaaGreat
open Go.SL
abbrev spV : Value := .iface 139 (.agg #[])
abbrev blk2 (b c : Nat) (x y : Value) : Hp := [(b, .cells [x].toArray 4), (c, .cells [y].toArray 55)]
theorem catch_rest {W : World} {L : Hp} {b c : Nat} {x y : Value} {c0 : Frame} {cs : List Frame} {u : FrameMode} (R : Ending → FrameMode → World → Prop) (hR : ∀ w, Own W w (blk2 b c (.bool false) (.int .i64 11) ++ L) → R (.returned (.tuple #[])) u w) (c1 c2 : Code) (hb : Tryz.f106.body = some (c1.seq c2)) :
    Wp Tryz.prog W (fun e a w => bodyPostS Tryz.prog Tryz.f106 c0 cs R e a ({ c0 with mode := u } :: cs) w) 11 [] c2 ((5, spV) :: argsEnv 0 [.pointer (some ⟨b, 0, none⟩), .pointer (some ⟨c, 0, none⟩)]) (blk2 b c x y ++ L) := by
  cases hb
  refine Wp.block ?_
  refine Wr ?_
  refine Ops.pv (pv_eql_iface rfl rfl) rfl ?_
  refine On ?_
  refine Wp.cond_false rfl ?_
  refine Wr ?_
  refine Ops.pv (pv_tassert rfl rfl) rfl ?_
  refine Ops.pv (pv_extract rfl rfl) rfl ?_
  refine Ops.pv (pv_extract rfl rfl) rfl ?_
  refine On ?_
  refine Wp.cond_true rfl ?_
  refine Wr ?_
  refine Ops.ef rfl (ef_allocK tyZ139 rfl) ?_
  rintro _ _ ⟨b1, rfl, rfl⟩
  refine Ops.ef rfl (ef_storeK rfl rfl rfl rfl) ?_
  rintro _ _ ⟨rfl, rfl⟩
  refine On ?_
  refine Wp.region ?_
  refine Ops.ef rfl (ef_store1 rfl rfl rfl rfl) ?_
  rintro _ _ ⟨rfl, rfl⟩
  refine Ops.ef rfl (ef_store1 rfl rfl rfl rfl) ?_
  rintro _ _ ⟨rfl, rfl⟩
  refine Ops.nil ?_
  refine Ends.block_normal ?_
  exact Ends.finS rfl fun w ho => hR w (Drop.own ho)
theorem catch_idle {W : World} {L : Hp} {c0 : Frame} {cs : List Frame} {u : FrameMode} {p q : Value} (R : Ending → FrameMode → World → Prop) (hR : ∀ w, Own W w L → R (.returned (.tuple #[])) u w) (c1 c2 : Code) (hb : Tryz.f106.body = some (c1.seq c2)) :
    Wp Tryz.prog W (fun e a w => bodyPostS Tryz.prog Tryz.f106 c0 cs R e a ({ c0 with mode := u } :: cs) w) 11 [] c2 ((5, .nilIface) :: argsEnv 0 [p, q]) L := by
  cases hb
  refine Wp.block ?_
  refine Wr ?_
  refine Ops.pv (pv_eql_nilif rfl rfl) rfl ?_
  refine On ?_
  refine Wp.cond_true rfl ?_
  refine Wp.region ?_
  refine Oa1 rfl rfl ?_
  refine Ops.nil ?_
  refine Ends.block_normal ?_
  exact Ends.finS rfl fun w ho => hR w ho
theorem wp_of {P : Program} {W : World} {Q : Exit → Act → World → Prop} {n : Nat} {D : List Deferred} {c : Code} {E : Env} {L : Hp} {a : Act} {w : World} (h : Wp P W Q n D c E L) (hs : Sees n D E a) (ho : Own W w L) : c.wp P Q a w := by
 unfold Wp at h; exact h a w hs ho
theorem catch_p {W w : World} {L : Hp} {b c : Nat} {x y : Value} (ho : Own W w (blk2 b c x y ++ L)) : CallsD Tryz.prog 106 [Value.pointer (some ⟨b, 0, none⟩), .pointer (some ⟨c, 0, none⟩)].toArray (.panicking spentC) w (fun e u' w' => e = .returned (.tuple #[]) ∧ settle u' = .returning ∧ Own W w' (blk2 b c (.bool false) (.int .i64 11) ++ L)) := by
 refine callsD_of_wpS Tryz.func106 rfl fun c0 cs hu => ?_
 refine wpS_recover hu (wpS_of_wp ?_)
 exact wp_of (catch_rest _ (fun w hw => ⟨rfl, rfl, hw⟩) _ _ rfl) ((sees_start rfl).put rfl) ho
theorem catch_i {W w : World} {L : Hp} {p q : Value} (ho : Own W w L) : CallsD Tryz.prog 106 [p, q].toArray .returning w (fun e u' w' => e = .returned (.tuple #[]) ∧ settle u' = .returning ∧ Own W w' L) := by
 refine callsD_of_wpS Tryz.func106 rfl fun c0 cs hu => ?_
 refine wpS_recover0 hu (wpS_of_wp ?_)
 cases c0
 cases hu
 exact wp_of (catch_idle (u := .returning) (p := p) (q := q) _ (fun w hw => ⟨rfl, rfl, hw⟩) _ _ rfl) ((sees_start rfl).put rfl) ho
theorem tr_run (f : Nat) (cap : List Value) (tk : Value) (L : Hp) (R X : Hp → Prop) [GoFn Tryz.prog f] (ht : TrE Tryz.prog f cap L (fun u L' => u = .tuple #[] ∧ R L') (fun c L' => c = spentC ∧ X L')) :
    Tr Tryz.prog 66 [tk, .func (.func f) #[] cap.toArray] L (fun u L' => (u = .tuple #[.bool true, .int .i64 0] ∧ R L') ∨ (u = .tuple #[.bool false, .int .i64 11] ∧ X L')) := by
  refine Tr.enterD Tryz.func66 rfl Tryz.ntmps66 rfl (fun W F => ?_)
  refine Wp.app ?_
  refine Wr ?_
  refine Ops.ef rfl (ef_alloc1 tyZ4 rfl rfl) ?_
  rintro _ _ ⟨b1, rfl, rfl⟩
  refine Ops.ef rfl (ef_alloc1 tyZ55 rfl rfl) ?_
  rintro _ _ ⟨b2, rfl, rfl⟩
  refine On ?_
  refine Wr ?_
  refine Ops.pv (pv_makeFunc rfl rfl) rfl ?_
  refine Ops.defer rfl ?_
  refine On ?_
  refine Wr ?_
  refine Om1 rfl rfl ?_
  refine Ops.efxq rfl (efx_callf (args := []) rfl rfl ht rfl) ?_ ?_
  · rintro _ a w _ hs ⟨L1, ⟨rfl, hX⟩, rfl⟩ ho
    exact leaves_one (L' := L1) hs (by simp) (catch_p (b := b1) (c := b2) (L := L1 ++ F) (x := .bool false) (y := .int .i64 0) (Drop.own ho : Own W w ((b1, .cells [.bool false].toArray 4) :: (b2, .cells [.int .i64 0].toArray 55) :: (L1 ++ F)))) (res_list (rs := [.cell 4 4, .cell 5 55]) rfl ⟨_, _, rfl, rv_cell rfl rfl rfl, ⟨_, _, rfl, rv_cell rfl rfl rfl, rfl⟩⟩ rfl) (.inr ⟨rfl, hX⟩)
  rintro _ _ ⟨_, L1, ⟨rfl, hR⟩, rfl, rfl⟩
  refine On ?_
  refine Wr ?_
  refine Ops.ef rfl (ef_store1 rfl rfl rfl rfl) ?_
  rintro _ _ ⟨rfl, rfl⟩
  refine Ops.ef rfl (ef_store1 rfl rfl rfl rfl) ?_
  rintro _ _ ⟨rfl, rfl⟩
  refine On ?_
  refine Wp.ret ?_
  refine Ends.retD fun a w hs ho => ?_
  exact leaves_one (L' := L1) hs (by simp) (catch_i ho) (res_list (rs := [.cell 4 4, .cell 5 55]) rfl ⟨_, _, rfl, rv_cell rfl rfl rfl, ⟨_, _, rfl, rv_cell rfl rfl rfl, rfl⟩⟩ rfl) (.inl ⟨rfl, hR⟩)
end Go.Proofs.YtdodfnjmkpgdbaaGreat
end
section
set_option linter.unusedVariables false
set_option linter.unusedSimpArgs false
set_option linter.unusedSectionVars false
namespace Go.Proofs.YtdodfnjmkpgdbaaGreat
open Go.SL
theorem dfull_1024 {l : List DN} (h : HasS l) : (dfull l).length ≤ 1024 := by
 obtain ⟨S, hR⟩ := h
 rw [← rel_full hR]; exact full_len S
theorem rvErr_range {l : List DN} {s : SlotM} {k : Int} (h : rvErr l s k = 0) : 1 ≤ k ∧ k ≤ 1000 := by
 unfold rvErr at h
 split at h
 ·
  cases h
 omega
theorem kin_le {n : Nat} {p : PS} {cb : Nat} {H : Hp} (h : CapsH n p cb H) (hn : n ≤ 2 ^ 19) (s : SlotM) : (ftKin p.F s).length ≤ 2 ^ 40 := by
 obtain ⟨_, _, _, _, _, hT, _⟩ := h
 exact hT.kin_len s (by omega)
inductive RevW : TS → SlotM → Bool → TS → Prop
  | empty {t : TS} {s : SlotM} : (dget t.p.l s).1.kind = 0 → RevW t s true t
  | alone {t : TS} {s : SlotM} : (dget t.p.l s).1.kind ≠ 0 → ftKin t.p.F s = [] → RevW t s true t
  | fall {t t' : TS} {s x : SlotM} : (dget t.p.l s).1.kind ≠ 0 → (ftKin t.p.F s)[(ftKin t.p.F s).length - 1]? = some x → Away t [x] x false t' → RevW t s false t'
  | next {t t1 t' : TS} {s x : SlotM} {b : Bool} : (dget t.p.l s).1.kind ≠ 0 → (ftKin t.p.F s)[(ftKin t.p.F s).length - 1]? = some x → Away t [x] x true t1 → RevW t1 s b t' → RevW t s b t'
theorem tr_away1 (n cb tk : Nat) (t : TS) (v : Value) (T H : Hp) (hI : TkI n t cb v T H) (hn : n ≤ 2 ^ 19) (s : SlotM) :
    TrE Tryz.prog 68 [tkP tk, slotV s, .slice none 0 0] (tkBlk tk cb t.n v :: (T ++ H)) (fun u L' => u = .tuple #[] ∧ ∃ t' v' T' H', Away t [s] s true t' ∧ TkI n t' cb v' T' H' ∧ L' = tkBlk tk cb t'.n v' :: (T' ++ H')) (fun c L' => c = spentC ∧ ∃ t' v' T' H', Away t [s] s false t' ∧ TkI n t' cb v' T' H' ∧ L' = tkBlk tk cb t'.n v' :: (T' ++ H')) := by
  have h1 := freeW_le t.p.l [s]
  have h2 := dfull_1024 hI.2.2.1.rel
  have := tr_tkAway (freeW t.p.l [s] + 1) [] n cb tk t v T H hI hn none 0 [] (Slc.nil 31 2).view s (by simp only [List.length_nil, List.nil_append]; omega) (Nat.lt_succ_self _)
  simp only [AwayP, List.append_nil, List.nil_append] at this
  exact this
theorem tr_run2 (f : Nat) (cap : List Value) (tk : Value) (L : Hp) (RX : Bool → Hp → Prop) [GoFn Tryz.prog f] (ht : TrE Tryz.prog f cap L (fun u L' => u = .tuple #[] ∧ RX true L') (fun c L' => c = spentC ∧ RX false L')) :
    Tr Tryz.prog 66 [tk, .func (.func f) #[] cap.toArray] L (fun u L' => ∃ b : Bool, u = .tuple #[.bool b, .int .i64 (if b = true then 0 else 11)] ∧ RX b L') :=
  (tr_run f cap tk L (RX true) (RX false) ht).mono fun u L' h => by
    rcases h with ⟨rfl, h⟩ | ⟨rfl, h⟩
    · exact ⟨true, rfl, h⟩
    · exact ⟨false, rfl, h⟩
def DelX (n cb tk bt ba : Nat) (t : TS) (sl : SlotM) : Bool → Hp → Prop := fun b L' => ∃ t' v' T' H', Away t [sl] sl b t' ∧ TkI n t' cb v' T' H' ∧ L' = (bt, .cells [.pointer (some ⟨tk, 0, none⟩)].toArray 111) :: (ba, .cells [.int .i64 sl.1, .int .i64 sl.2].toArray 31) :: tkBlk tk cb t'.n v' :: (T' ++ H')
def RevX (n cb tk bt ba bc : Nat) (t : TS) (sl : SlotM) : Bool → Hp → Prop := fun b L' => ∃ t' v' T' H', RevW t sl b t' ∧ TkI n t' cb v' T' H' ∧ L' = (bt, .cells [.pointer (some ⟨tk, 0, none⟩)].toArray 111) :: (ba, .cells [.int .i64 sl.1, .int .i64 sl.2].toArray 31) :: (bc, .cells [.pointer (some ⟨cb, 0, none⟩)].toArray 26) :: tkBlk tk cb t'.n v' :: (T' ++ H')
theorem tr_del1 (n cb tk bt ba : Nat) (t : TS) (v : Value) (T H : Hp) (hI : TkI n t cb v T H) (hn : n ≤ 2 ^ 19) (sl : SlotM) : TrE Tryz.prog 67 [.pointer (some ⟨bt, 0, none⟩), .pointer (some ⟨ba, 0, none⟩)] ((bt, .cells [.pointer (some ⟨tk, 0, none⟩)].toArray 111) :: (ba, .cells [.int .i64 sl.1, .int .i64 sl.2].toArray 31) :: tkBlk tk cb t.n v :: (T ++ H)) (fun u L' => u = .tuple #[] ∧ DelX n cb tk bt ba t sl true L') (fun c L' => c = spentC ∧ DelX n cb tk bt ba t sl false L') := by
 refine TrE.enter Tryz.func67 rfl Tryz.ntmps67 rfl (fun W F => ?_)
 refine Wp.app ?_
 refine Wp.region ?_
 refine Ol1 rfl rfl rfl rfl ?_
 refine Ops.pv (pv_loadK [_, _] rfl rfl rfl ⟨rfl, rfl, trivial⟩) rfl ?_
 refine Ops.efx rfl (efx_call (tr_away1 n cb tk t v T H hI hn sl) rfl rfl) ?_ ?_
 ·
  rintro _ _ ⟨_, ⟨rfl, t2, v2, T2, H2, hA, hI2, rfl⟩, rfl⟩
  exact ⟨(bt, .cells [.pointer (some ⟨tk, 0, none⟩)].toArray 111) :: (ba, .cells [.int .i64 sl.1, .int .i64 sl.2].toArray 31) :: tkBlk tk cb t2.n v2 :: (T2 ++ H2), ⟨rfl, t2, v2, T2, H2, hA, hI2, rfl⟩, by (try simp only [List.cons_append, List.append_assoc]); infer_instance⟩
 rintro _ _ ⟨_, _, ⟨rfl, t2, v2, T2, H2, hA, hI2, rfl⟩, rfl, rfl⟩
 refine Ops.app ?_
 refine Ops.nil ?_
 exact Ends.finE (L' := (bt, .cells [.pointer (some ⟨tk, 0, none⟩)].toArray 111) :: (ba, .cells [.int .i64 sl.1, .int .i64 sl.2].toArray 31) :: tkBlk tk cb t2.n v2 :: (T2 ++ H2)) (res0 rfl) ⟨rfl, t2, v2, T2, H2, hA, hI2, rfl⟩
set_option maxHeartbeats 4000000 in
theorem tr_rev1 (n cb tk bt ba bc : Nat) (t : TS) (v : Value) (T H : Hp) (hI : TkI n t cb v T H) (hn : n ≤ 2 ^ 19) (sl : SlotM) : TrE Tryz.prog 72 [.pointer (some ⟨bt, 0, none⟩), .pointer (some ⟨ba, 0, none⟩), .pointer (some ⟨bc, 0, none⟩)] ((bt, .cells [.pointer (some ⟨tk, 0, none⟩)].toArray 111) :: (ba, .cells [.int .i64 sl.1, .int .i64 sl.2].toArray 31) :: (bc, .cells [.pointer (some ⟨cb, 0, none⟩)].toArray 26) :: tkBlk tk cb t.n v :: (T ++ H)) (fun u L' => u = .tuple #[] ∧ RevX n cb tk bt ba bc t sl true L') (fun c L' => c = spentC ∧ RevX n cb tk bt ba bc t sl false L') := by
 refine TrE.enter Tryz.func72 rfl Tryz.ntmps72 rfl (fun W F => ?_)
 refine Wp.app ?_
 refine Wp.block ?_
 refine Wp.loopK (σ := TS × Value × Hp × Hp) [(0, _), (1, _), (2, _)] (fun s => []) (fun s => (bt, .cells [.pointer (some ⟨tk, 0, none⟩)].toArray 111) :: (ba, .cells [.int .i64 sl.1, .int .i64 sl.2].toArray 31) :: (bc, .cells [.pointer (some ⟨cb, 0, none⟩)].toArray 26) :: tkBlk tk cb s.1.n s.2.1 :: (s.2.2.1 ++ (s.2.2.2 ++ F))) (fun s => TkI n s.1 cb s.2.1 s.2.2.1 s.2.2.2 ∧ (∀ b t', RevW s.1 sl b t' → RevW t sl b t')) (fun s => s.1.n) (t, v, T, H) ⟨hI, fun _ _ h => h⟩ ⟨rfl, rfl, rfl, trivial⟩ trivial (by intro w ho; (try dsimp only [List.nil_append, List.cons_append]); exact Drop.own ho) ?_
 rintro ⟨ti, vi, Ti, Hi⟩ KK ⟨hIi, hacc⟩ hK
 dsimp only [List.cons_append, List.nil_append] at hK ⊢
 dsimp only at hIi hacc ⊢
 refine Wp.seq ?_
 refine Wr ?_
 refine Ol1 rfl rfl rfl rfl ?_
 refine Ops.pv (pv_loadK [_, _] rfl rfl rfl ⟨rfl, rfl, trivial⟩) rfl ?_
 refine Ops.ef rfl (ef_callr (tr_tkGet n cb tk ti.n vi Hi ti.p hIi.1 sl) rfl rfl) ?_
 rintro _ _ ⟨rfl, rfl⟩
 refine Ops.pv (pv_field rfl rfl rfl) rfl ?_
 refine Ops.pv (pv_neq rfl rfl) rfl ?_
 refine On ?_
 refine Wp.cond_dect rfl (fun h1 => ?_) (fun h1 => ?_)
 ·
  have hk0 : (dget ti.p.l sl).1.kind ≠ 0 := by assumption
  refine Wp.skip ?_
  refine Ends.seq ?_
  refine Wp.block ?_
  refine Wr ?_
  refine Ol1 rfl rfl rfl rfl ?_
  refine Ops.pv (pv_loadK [_, _] rfl rfl rfl ⟨rfl, rfl, trivial⟩) rfl ?_
  refine Ops.ef rfl (ef_call (tr_mKin n cb Hi ti.p hIi.1 (by omega) sl) rfl rfl) ?_
  rintro _ _ ⟨_, _, ⟨C1, hc1, rfl⟩, rfl, rfl⟩
  refine Ops.app ?_
  obtain ⟨pp1, qq1, rfl⟩ := hc1.form
  refine Oa1 rfl rfl ?_
  refine On ?_
  refine Wp.seq ?_
  refine Wr ?_
  refine Om1 rfl rfl ?_
  refine Ops.pv (pv_len_slice (T := 53) rfl rfl) rfl ?_
  refine Ops.pv (pv_eql rfl rfl) rfl ?_
  refine On ?_
  refine Wp.cond_dect rfl (fun h2 => ?_) (fun h2 => ?_)
  ·
   refine Wp.ret ?_
   refine Ends.then_ret ?_
   refine Ends.block_ret ?_
   refine Ends.then_ret ?_
   refine Ends.block_ret ?_
   exact Ends.retE (L' := (bt, .cells [.pointer (some ⟨tk, 0, none⟩)].toArray 111) :: (ba, .cells [.int .i64 sl.1, .int .i64 sl.2].toArray 31) :: (bc, .cells [.pointer (some ⟨cb, 0, none⟩)].toArray 26) :: tkBlk tk cb ti.n vi :: (Ti ++ Hi)) (res0 rfl) ⟨rfl, ti, vi, Ti, Hi, hacc _ _ (RevW.alone hk0 (List.eq_nil_of_length_eq_zero (by omega))), hIi, rfl⟩
  have hl0 : (ftKin ti.p.F sl).length ≠ 0 := by omega
  have hkl := kin_le hIi.1 hn sl
  obtain ⟨x, hx⟩ : ∃ x, (ftKin ti.p.F sl)[(ftKin ti.p.F sl).length - 1]? = some x := ⟨_, List.getElem?_eq_getElem (by omega)⟩
  obtain ⟨bf, of, cap, cc, T0, f0, hv1, hbv, hr⟩ := hc1.view.open (by omega)
  cases hv1
  have hre := hr.sub (i := ((ftKin ti.p.F sl).length - 1) * 2) (l := 2)
  rw [slots_reads hx] at hre
  refine Wp.skip ?_
  refine Ends.seq ?_
  refine AnyH.start ((bt, .cells [.pointer (some ⟨tk, 0, none⟩)].toArray 111) :: C1) 8 rfl ?_
  refine Tk 0 rfl rfl (pv_load rfl rfl rfl) rfl ?_
  refine Tk 1 rfl rfl (pv_move rfl) rfl ?_
  refine Tk 2 rfl rfl (pv_move rfl) rfl ?_
  refine Tk 3 rfl rfl (pv_len_slice (T := 53) rfl rfl) rfl ?_
  refine Tk 4 rfl rfl (pv_sub rfl rfl (w64n (k := (ftKin ti.p.F sl).length - 1) (by omega) (by omega))) rfl ?_
  refine Tk 5 rfl rfl (pv_indexAddr (i := (ftKin ti.p.F sl).length - 1) rfl rfl rfl (by omega)) rfl ?_
  refine Tk 6 rfl rfl (pv_loadK [.int .i64 x.1, .int .i64 x.2] rfl rfl rfl hre) rfl ?_
  refine AnyH.one 7 (by kernel_rfl) ?_
  refine Turn.efx rfl rfl (efx_call (tr_away1 n cb tk ti vi Ti Hi hIi hn x) rfl rfl) ?_ ?_ ?_
  ·
   rintro _ _ ⟨_, ⟨rfl, t2, v2, T2, H2, hA, hI2, rfl⟩, rfl⟩
   exact ⟨(bt, .cells [.pointer (some ⟨tk, 0, none⟩)].toArray 111) :: (ba, .cells [.int .i64 sl.1, .int .i64 sl.2].toArray 31) :: (bc, .cells [.pointer (some ⟨cb, 0, none⟩)].toArray 26) :: tkBlk tk cb t2.n v2 :: (T2 ++ H2), ⟨rfl, t2, v2, T2, H2, hacc _ _ (RevW.fall hk0 hx hA), hI2, rfl⟩, by (try simp only [List.cons_append, List.append_assoc]); infer_instance⟩
  ·
   rintro _ _ ⟨_, _, ⟨rfl, t2, v2, T2, H2, hA, hI2, rfl⟩, rfl, rfl⟩; infer_instance
  rintro _ _ ⟨_, _, ⟨rfl, t2, v2, T2, H2, hA, hI2, rfl⟩, rfl, rfl⟩
  refine AnyH.app ?_
  refine AnyH.done (by kernel_rfl) ?_
  refine Ends.block_normal ?_
  refine Ends.goes ?_
  refine Goes.back (hK (t2, v2, T2, H2) ⟨hI2, fun b t' h => hacc _ _ (RevW.next hk0 hx hA h)⟩ (hA.le.2 rfl)) ⟨rfl, rfl, rfl, trivial⟩
 refine Wp.exit ?_
 refine Ends.then_exit ?_
 refine Ends.then_exit ?_
 refine Ends.block_hit ?_
 exact Ends.finE (L' := (bt, .cells [.pointer (some ⟨tk, 0, none⟩)].toArray 111) :: (ba, .cells [.int .i64 sl.1, .int .i64 sl.2].toArray 31) :: (bc, .cells [.pointer (some ⟨cb, 0, none⟩)].toArray 26) :: tkBlk tk cb ti.n vi :: (Ti ++ Hi)) (res0 rfl) ⟨rfl, ti, vi, Ti, Hi, hacc _ _ (RevW.empty (Decidable.not_not.1 (by assumption))), hIi, rfl⟩
set_option maxHeartbeats 4000000 in
theorem tr_rDelete (n cb : Nat) (H : Hp) (p : PS) (hC : CapsH n p cb H) (hok : POk p) (hn : n ≤ 2 ^ 19) (sl : SlotM) (k : Int) : Tr Tryz.prog 20 [cpP cb, slotV sl, .int .i64 k] (H) (fun u L' => (rvErr p.l sl k ≠ 0 ∧ u = .tuple #[.slice none 0 0, .bool false, .int .i64 (rvErr p.l sl k)] ∧ L' = H) ∨ (rvErr p.l sl k = 0 ∧ ∃ b t' v' T' H', Away ⟨p, [], k.toNat⟩ [sl] sl b t' ∧ TkI n t' cb v' T' H' ∧ u = .tuple #[v', .bool b, .int .i64 (if b = true then 0 else 11)] ∧ L' = T' ++ H')) := by
 refine Tr.enter Tryz.func20 rfl Tryz.ntmps20 rfl (fun W F => ?_)
 refine Wp.app ?_
 refine Wr ?_
 refine Ops.ef rfl (ef_boxK rfl rfl) ?_
 rintro _ _ ⟨b1, rfl, rfl⟩
 refine Oa1 rfl rfl ?_
 refine Oa1 rfl rfl ?_
 refine Oa1 rfl rfl ?_
 refine On ?_
 refine Wp.seq ?_
 refine Wr ?_
 refine Om1 rfl rfl ?_
 refine Ops.pv (pv_loadK [_, _] rfl rfl rfl ⟨rfl, rfl, trivial⟩) rfl ?_
 refine Om1 rfl rfl ?_
 refine Ops.ef rfl (ef_callr (tr_rCheck n cb H p hC sl k) rfl rfl) ?_
 rintro _ _ ⟨rfl, rfl⟩
 refine Oa1 rfl rfl ?_
 refine On ?_
 refine Wr ?_
 refine Om1 rfl rfl ?_
 refine Ops.pv (pv_neq rfl rfl) rfl ?_
 refine On ?_
 refine Wp.cond_dect rfl (fun h1 => ?_) (fun h1 => ?_)
 ·
  refine Wr ?_
  refine Om1 rfl rfl ?_
  refine Oa1 rfl rfl ?_
  refine Oa1 rfl rfl ?_
  refine Oa1 rfl rfl ?_
  refine On ?_
  refine Wp.ret ?_
  refine Ends.then_ret ?_
  exact Ends.ret (L' := H) (res3 rfl rfl rfl rfl) (.inl ⟨by assumption, rfl, rfl⟩)
 have hr0 : rvErr p.l sl k = 0 := Decidable.not_not.1 (by assumption)
 have hk := rvErr_range hr0
 obtain ⟨kn, rfl⟩ : ∃ j : Nat, k = j := ⟨k.toNat, by omega⟩
 have hI0 : TkI n (⟨p, [], kn⟩ : TS) cb (.slice none 0 0) [] H := ⟨hC, Slc.nil _ _, hok, by simp only [List.length_nil]; omega⟩
 refine Wp.skip ?_
 refine Ends.seq ?_
 refine Wr ?_
 refine Om1 rfl rfl ?_
 refine Om1 rfl rfl ?_
 refine Ops.pv (pv_build rfl) rfl ?_
 refine Ops.ef rfl (ef_boxK rfl rfl) ?_
 rintro _ _ ⟨b2, rfl, rfl⟩
 refine Ops.ef rfl (ef_alloc1 tyZ111 rfl rfl) ?_
 rintro _ _ ⟨b3, rfl, rfl⟩
 refine Ops.ef rfl (ef_store1 rfl rfl (by first | rfl | assumption) (by first | rfl | assumption)) ?_
 rintro _ _ ⟨rfl, rfl⟩
 refine On ?_
 refine Wr ?_
 refine Ol1 rfl rfl rfl rfl ?_
 refine Ops.pv (pv_makeFunc rfl rfl) rfl ?_
 refine Ops.ef rfl (ef_call (tr_run2 67 [.pointer (some ⟨b3, 0, none⟩), .pointer (some ⟨b1, 0, none⟩)] (tkP b2) _ (DelX n cb b2 b3 b1 ⟨p, [], kn⟩ sl) (tr_del1 n cb b2 b3 b1 ⟨p, [], kn⟩ (.slice none 0 0) [] H hI0 hn sl)) rfl rfl) ?_
 rintro _ _ ⟨_, _, ⟨b, rfl, t2, v2, T2, H2, hA, hI2, rfl⟩, rfl, rfl⟩
 refine Ops.app ?_
 refine Om1 rfl rfl ?_
 refine Ops.pv (pv_extract rfl rfl) rfl ?_
 refine Ops.pv (pv_extract rfl rfl) rfl ?_
 refine Oa1 rfl rfl ?_
 refine Oa1 rfl rfl ?_
 refine On ?_
 refine Wr ?_
 refine Ol1 rfl rfl rfl rfl ?_
 refine Ops.pv (pv_nilCheck rfl) rfl ?_
 refine Of1 rfl rfl rfl ?_
 refine Ol1 rfl rfl rfl rfl ?_
 refine Om1 rfl rfl ?_
 refine Om1 rfl rfl ?_
 refine Oa1 rfl rfl ?_
 refine Oa1 rfl rfl ?_
 refine Oa1 rfl rfl ?_
 refine On ?_
 refine Wp.ret ?_
 have ho1 := hI2.2.1.one
 have ho2 := hI2.2.1.cells1
 exact Ends.ret (L' := T2 ++ H2) (res3 rfl rfl rfl rfl) (.inr ⟨hr0, b, t2, v2, T2, H2, hA, hI2, rfl, rfl⟩)
set_option maxHeartbeats 4000000 in
theorem tr_rRevoke (n cb : Nat) (H : Hp) (p : PS) (hC : CapsH n p cb H) (hok : POk p) (hn : n ≤ 2 ^ 19) (sl : SlotM) (k : Int) : Tr Tryz.prog 23 [cpP cb, slotV sl, .int .i64 k] (H) (fun u L' => (rvErr p.l sl k ≠ 0 ∧ u = .tuple #[.slice none 0 0, .bool false, .int .i64 (rvErr p.l sl k)] ∧ L' = H) ∨ (rvErr p.l sl k = 0 ∧ ∃ b t' v' T' H', RevW ⟨p, [], k.toNat⟩ sl b t' ∧ TkI n t' cb v' T' H' ∧ u = .tuple #[v', .bool b, .int .i64 (if b = true then 0 else 11)] ∧ L' = T' ++ H')) := by
 refine Tr.enter Tryz.func23 rfl Tryz.ntmps23 rfl (fun W F => ?_)
 refine Wp.app ?_
 refine Wr ?_
 refine Ops.ef rfl (ef_box1 rfl rfl rfl) ?_
 rintro _ _ ⟨b1, rfl, rfl⟩
 refine Ops.ef rfl (ef_boxK rfl rfl) ?_
 rintro _ _ ⟨b2, rfl, rfl⟩
 refine Oa1 rfl rfl ?_
 refine Oa1 rfl rfl ?_
 refine Oa1 rfl rfl ?_
 refine On ?_
 refine Wp.seq ?_
 refine Wr ?_
 refine Ol1 rfl rfl rfl rfl ?_
 refine Ops.pv (pv_loadK [_, _] rfl rfl rfl ⟨rfl, rfl, trivial⟩) rfl ?_
 refine Om1 rfl rfl ?_
 refine Ops.ef rfl (ef_callr (tr_rCheck n cb H p hC sl k) rfl rfl) ?_
 rintro _ _ ⟨rfl, rfl⟩
 refine Oa1 rfl rfl ?_
 refine On ?_
 refine Wr ?_
 refine Om1 rfl rfl ?_
 refine Ops.pv (pv_neq rfl rfl) rfl ?_
 refine On ?_
 refine Wp.cond_dect rfl (fun h1 => ?_) (fun h1 => ?_)
 ·
  refine Wr ?_
  refine Om1 rfl rfl ?_
  refine Oa1 rfl rfl ?_
  refine Oa1 rfl rfl ?_
  refine Oa1 rfl rfl ?_
  refine On ?_
  refine Wp.ret ?_
  refine Ends.then_ret ?_
  exact Ends.ret (L' := H) (res3 rfl rfl rfl rfl) (.inl ⟨by assumption, rfl, rfl⟩)
 have hr0 : rvErr p.l sl k = 0 := Decidable.not_not.1 (by assumption)
 have hk := rvErr_range hr0
 obtain ⟨kn, rfl⟩ : ∃ j : Nat, k = j := ⟨k.toNat, by omega⟩
 have hI0 : TkI n (⟨p, [], kn⟩ : TS) cb (.slice none 0 0) [] H := ⟨hC, Slc.nil _ _, hok, by simp only [List.length_nil]; omega⟩
 refine Wp.skip ?_
 refine Ends.seq ?_
 refine Wr ?_
 refine Ol1 rfl rfl rfl rfl ?_
 refine Om1 rfl rfl ?_
 refine Ops.pv (pv_build rfl) rfl ?_
 refine Ops.ef rfl (ef_boxK rfl rfl) ?_
 rintro _ _ ⟨b3, rfl, rfl⟩
 refine Ops.ef rfl (ef_alloc1 tyZ111 rfl rfl) ?_
 rintro _ _ ⟨b4, rfl, rfl⟩
 refine Ops.ef rfl (ef_store1 rfl rfl (by first | rfl | assumption) (by first | rfl | assumption)) ?_
 rintro _ _ ⟨rfl, rfl⟩
 refine On ?_
 refine Wr ?_
 refine Ol1 rfl rfl rfl rfl ?_
 refine Ops.pv (pv_makeFunc rfl rfl) rfl ?_
 refine Ops.ef rfl (ef_call (tr_run2 72 [.pointer (some ⟨b4, 0, none⟩), .pointer (some ⟨b2, 0, none⟩), .pointer (some ⟨b1, 0, none⟩)] (tkP b3) _ (RevX n cb b3 b4 b2 b1 ⟨p, [], kn⟩ sl) (tr_rev1 n cb b3 b4 b2 b1 ⟨p, [], kn⟩ (.slice none 0 0) [] H hI0 hn sl)) rfl rfl) ?_
 rintro _ _ ⟨_, _, ⟨b, rfl, t2, v2, T2, H2, hA, hI2, rfl⟩, rfl, rfl⟩
 refine Ops.app ?_
 refine Om1 rfl rfl ?_
 refine Ops.pv (pv_extract rfl rfl) rfl ?_
 refine Ops.pv (pv_extract rfl rfl) rfl ?_
 refine Oa1 rfl rfl ?_
 refine Oa1 rfl rfl ?_
 refine On ?_
 refine Wr ?_
 refine Ol1 rfl rfl rfl rfl ?_
 refine Ops.pv (pv_nilCheck rfl) rfl ?_
 refine Of1 rfl rfl rfl ?_
 refine Ol1 rfl rfl rfl rfl ?_
 refine Om1 rfl rfl ?_
 refine Om1 rfl rfl ?_
 refine Oa1 rfl rfl ?_
 refine Oa1 rfl rfl ?_
 refine Oa1 rfl rfl ?_
 refine On ?_
 refine Wp.ret ?_
 have ho1 := hI2.2.1.one
 have ho2 := hI2.2.1.cells1
 exact Ends.ret (L' := T2 ++ H2) (res3 rfl rfl rfl rfl) (.inr ⟨hr0, b, t2, v2, T2, H2, hA, hI2, rfl, rfl⟩)
end Go.Proofs.YtdodfnjmkpgdbaaGreat
end
section
set_option linter.unusedVariables false
set_option linter.unusedSimpArgs false
set_option linter.unusedSectionVars false
namespace Go.Proofs.YtdodfnjmkpgdbaaGreat
open Go.SL
theorem count_two {α : Type} {l : List α} (hn : l.Nodup) {q : α → Bool} {a b : α} (ha : a ∈ l) (hb : b ∈ l) (hab : a ≠ b) (qa : q a = true) (qb : q b = true) : 2 ≤ l.countP q := by
 induction l with
 | nil => cases ha
 | cons c l ih =>
  rw [List.nodup_cons] at hn
  rw [List.countP_cons]
  rcases List.mem_cons.1 ha with rfl | ha1
  ·
   have hb' : b ∈ l := (List.mem_cons.1 hb).resolve_left (fun e => hab e.symm)
   have : 0 < l.countP q := List.countP_pos_iff.2 ⟨b, hb', qb⟩
   rw [if_pos qa]; omega
  ·
   rcases List.mem_cons.1 hb with rfl | hb1
   ·
    have : 0 < l.countP q := List.countP_pos_iff.2 ⟨a, ha1, qa⟩
    rw [if_pos qb]; omega
   ·
    have := ih hn.2 ha1 hb1; omega
theorem not_fin {p : PS} (h : POk p) {s x : SlotM} (hs : (dget p.l s).1.kind ≠ 0) (hsx : x ≠ s) (hk : (dget p.l x).1.kind = (dget p.l s).1.kind) (ho : (dget p.l x).1.object = (dget p.l s).1.object) : ¬ fin p.l x := fun hf => by
 have h2 := hf.2
 unfold dcount at h2
 have := count_two (dfull_nodup h.rel) (q := fun z => decide ((dget p.l z).1.kind = (dget p.l x).1.kind) && decide ((dget p.l z).1.object = (dget p.l x).1.object)) ((mem_dfull h.rel).2 (hk ▸ hs)) ((mem_dfull h.rel).2 hs) hsx (by simp) (by simp [hk, ho])
 omega
theorem kin_not {p : PS} (h : POk p) (s : SlotM) : s ∉ ftKin p.F s := Fo.sub_self h.nd
end Go.Proofs.YtdodfnjmkpgdbaaGreat
end
section
set_option linter.unusedVariables false
set_option linter.unusedSimpArgs false
set_option linter.unusedSectionVars false
namespace Go.Proofs.YtdodfnjmkpgdbaaGreat
open Go.SL
theorem Away.keep {t t' : TS} {way : List SlotM} {s : SlotM} {b : Bool} (h : Away t way s b t') : POk t.p → ∀ z, z ∈ way → z ≠ s → (dget t'.p.l z).1 = (dget t.p.l z).1 := by
 induction h with
 | spent _ _ => exact fun _ _ _ _ => rfl
 | step _ _ => intro h z _ hz; rw [stepT_get h, if_neg hz]
 | @fall t t' way s x hin _ ih =>
  intro h z hz _
  exact ih h z (List.mem_append_left _ hz) (fun e => (innerM_some hin).2.1 (e ▸ hz))
 | @next t t1 t' way s x b hin ha _ ih1 ih2 =>
  intro h z hz hzs
  rw [ih2 (ha.ok h) z hz hzs, ih1 h z (List.mem_append_left _ hz) (fun e => (innerM_some hin).2.1 (e ▸ hz))]
theorem full_step {t : TS} (h : POk t.p) {s : SlotM} (hk : (dget t.p.l s).1.kind ≠ 0) : (dfull (stepT t s).p.l).length + 1 = (dfull t.p.l).length := by
 rw [dfull_step h]
 exact filter_ne_len (dfull_nodup h.rel) ((mem_dfull h.rel).2 hk)
theorem Away.ends {t t' : TS} {way : List SlotM} {s : SlotM} {b : Bool} (h : Away t way s b t') : POk t.p → s ∈ way → (dget t.p.l s).1.kind ≠ 0 →
    (b = false → t'.n = 0 ∧ (dget t'.p.l s).1 = (dget t.p.l s).1) ∧ (b = true → (dget t'.p.l s).1 = CapM.zero) ∧ (dfull t'.p.l).length + t.n = (dfull t.p.l).length + t'.n := by
  induction h with
  | spent _ h0 => exact fun _ _ _ => ⟨fun _ => ⟨h0, rfl⟩, (fun e => by cases e), rfl⟩
  | @step t way s _ h0 =>
    intro h _ hk
    refine ⟨(fun e => by cases e), fun _ => by rw [stepT_get h, if_pos rfl], ?_⟩
    have := full_step h hk
    show _ + t.n = _ + (t.n - 1)
    omega
  | @fall t t' way s x hin ha ih =>
    intro h hs hk
    obtain ⟨_, hxw, hxk, _⟩ := innerM_some hin
    obtain ⟨i1, _, i3⟩ := ih h (List.mem_append_right _ (List.mem_singleton.2 rfl)) hxk
    exact ⟨fun _ => ⟨(i1 rfl).1, ha.keep h s (List.mem_append_left _ hs) (fun e => hxw (e ▸ hs))⟩, (fun e => by cases e), i3⟩
  | @next t t1 t' way s x b hin ha _ ih1 ih2 =>
    intro h hs hk
    obtain ⟨_, hxw, hxk, _⟩ := innerM_some hin
    obtain ⟨_, _, i3⟩ := ih1 h (List.mem_append_right _ (List.mem_singleton.2 rfl)) hxk
    have hg := ha.keep h s (List.mem_append_left _ hs) (fun e => hxw (e ▸ hs))
    obtain ⟨j1, j2, j3⟩ := ih2 (ha.ok h) hs (by rw [hg]; exact hk)
    exact ⟨fun e => ⟨(j1 e).1, by rw [(j1 e).2, hg]⟩, j2, by omega⟩
theorem stepT_wok {t : TS} (h : WOk t.p) (s : SlotM) : WOk (stepT t s).p := by
 unfold stepT; dsimp only
 split
 ·
  exact (h.take s).clear _
 ·
  exact h.take s
theorem Away.wok {t t' : TS} {way : List SlotM} {s : SlotM} {b : Bool} (h : Away t way s b t') : WOk t.p → WOk t'.p := by
 induction h with
 | spent _ _ => exact id
 | step _ _ => exact fun h => stepT_wok h _
 | fall _ _ ih => exact ih
 | next _ _ _ ih1 ih2 => exact fun h => ih2 (ih1 h)
theorem Away.det {t t1 : TS} {way : List SlotM} {s : SlotM} {b : Bool} (h : Away t way s b t1) : ∀ {c : Bool} {t2 : TS}, Away t way s c t2 → b = c ∧ t1 = t2 := by
 induction h with
 | spent hi h0 =>
  intro c t2 h2
  cases h2 with
  | spent _ _ => exact ⟨rfl, rfl⟩
  | step _ h1 => exact absurd h0 h1
  | fall h1 _ => rw [hi] at h1; cases h1
  | next h1 _ _ => rw [hi] at h1; cases h1
 | step hi h0 =>
  intro c t2 h2
  cases h2 with
  | spent _ h1 => exact absurd h1 h0
  | step _ _ => exact ⟨rfl, rfl⟩
  | fall h1 _ => rw [hi] at h1; cases h1
  | next h1 _ _ => rw [hi] at h1; cases h1
 | fall hi _ ih =>
  intro c t2 h2
  cases h2 with
  | spent h1 _ => rw [hi] at h1; cases h1
  | step h1 _ => rw [hi] at h1; cases h1
  | fall h1 ha => rw [hi] at h1; cases h1; exact ih ha
  | next h1 ha _ => rw [hi] at h1; cases h1; exact absurd (ih ha).1 (by decide)
 | next hi _ _ ih1 ih2 =>
  intro c t2 h2
  cases h2 with
  | spent h1 _ => rw [hi] at h1; cases h1
  | step h1 _ => rw [hi] at h1; cases h1
  | fall h1 ha => rw [hi] at h1; cases h1; exact absurd (ih1 ha).1 (by decide)
  | next h1 ha hb => rw [hi] at h1; cases h1; obtain ⟨_, rfl⟩ := ih1 ha; exact ih2 hb
end Go.Proofs.YtdodfnjmkpgdbaaGreat
end
section
set_option linter.unusedVariables false
set_option linter.unusedSimpArgs false
set_option linter.unusedSectionVars false
namespace Go.Proofs.YtdodfnjmkpgdbaaGreat
open Go.SL
theorem setC_radix {l : List DN} {s : SlotM} {c : CapM} (id : Int) : dradix (dsetC l s c) id = dradix l id := by
 unfold dsetC
 cases hd : dfind l s.1 with
 | none => rfl
 | some d =>
  dsimp only
  unfold dradix
  rw [dfind_set (d := d) (d' := { d with caps := d.caps.set s.2.toNat c }) rfl id hd]
  by_cases e : id = s.1
  ·
   rw [if_pos e, e, hd]
  ·
   rw [if_neg e]
theorem dtake_radix {l : List DN} {s : SlotM} (id : Int) : dradix (dtake l s).2.2 id = dradix l id := by
 unfold dtake
 cases dcap? l s with
 | none => rfl
 | some x =>
  dsimp only
  split
  ·
   rfl
  ·
   exact setC_radix id
theorem ddrop_radix {l : List DN} (h : HasS l) (id o : Int) : dradix (ddrop l id).2 o = if o = id ∧ (ddrop l id).1 = 0 then 0 else dradix l o := by
 obtain ⟨S, hR⟩ := h
 unfold ddrop
 cases e : dfind l id with
 | none => dsimp only; rw [if_neg (fun h => by have := h.2; simp at this)]
 | some d =>
  dsimp only
  split
  ·
   unfold dradix ddel
   dsimp only
   rw [dfind_del o hR.srt e]
   by_cases ho : o = id
   ·
    rw [if_pos ho, if_pos ⟨ho, rfl⟩]
   ·
    rw [if_neg ho, if_neg (fun h => ho h.1)]
  ·
   rw [if_neg (fun h => by have := h.2; simp at this)]
theorem mTake_radix {p : PS} {s : SlotM} (id : Int) : dradix (mTake p s).2.2.l id = dradix p.l id := dtake_radix id
theorem step_radix {t : TS} (h : POk t.p) {s : SlotM} {id : Int} (hn : ¬ (fin t.p.l s ∧ (dget t.p.l s).1.kind = 2 ∧ (dget t.p.l s).1.object = id)) : dradix (stepT t s).p.l id = dradix t.p.l id := by
 unfold stepT; dsimp only
 split
 ·
  rename_i hc
  show dradix (ddrop (mTake t.p s).2.2.l _).2 id = _
  rw [ddrop_radix (h.take s).rel, if_neg (fun e => hn ⟨hc.1, hc.2, e.1.symm⟩), mTake_radix]
 ·
  exact mTake_radix id
theorem dcount_step {t : TS} (h : POk t.p) {s : SlotM} (hk : (dget t.p.l s).1.kind ≠ 0) (k o : Int) : dcount t.p.l k o = dcount (stepT t s).p.l k o + if (dget t.p.l s).1.kind = k ∧ (dget t.p.l s).1.object = o then 1 else 0 := by
 have hm := (mem_dfull h.rel).2 hk
 have hnd := dfull_nodup h.rel
 have e1 : (dfull t.p.l).erase s = dfull (stepT t s).p.l := by
  rw [dfull_step h, hnd.erase_eq_filter]
  exact List.filter_congr fun x _ => by by_cases e : x = s <;> simp [e]
 unfold dcount
 rw [(List.perm_cons_erase hm).countP_eq, e1, List.countP_cons]
 congr 1
 ·
  refine List.countP_congr fun x hx => ?_
  rw [dfull_step h] at hx
  have hne := of_decide_eq_true (List.mem_filter.1 hx).2
  rw [stepT_get h, if_neg hne]
 ·
  by_cases e : (dget t.p.l s).1.kind = k ∧ (dget t.p.l s).1.object = o
  ·
   rw [if_pos e, if_pos (by simp [e.1, e.2])]
  ·
   rw [if_neg e, if_neg (fun hh => e (by simpa using hh))]
theorem fin_ne {p : PS} (h : POk p) {s y : SlotM} (hf : fin p.l s) (hy : (dget p.l y).1.kind ≠ 0) (hne : y ≠ s) : ¬ ((dget p.l y).1.kind = (dget p.l s).1.kind ∧ (dget p.l y).1.object = (dget p.l s).1.object) := fun e =>
  not_fin h (s := y) (x := s) hy (fun h => hne h.symm) e.1.symm e.2.symm hf
theorem find_less {α : Type} {l : List α} {p q : α → Bool} {x : α} (h : l.find? p = some x) (hq : ∀ z, q z = true → p z = true) (hx : q x = true) : l.find? q = some x := by
 rw [List.find?_eq_some_iff_append] at h ⊢
 obtain ⟨_, a, b, e, hb⟩ := h
 refine ⟨hx, a, b, e, fun z hz => ?_⟩
 have := hb z hz
 rw [Bool.not_eq_true'] at this ⊢
 cases hqz : q z with
 | false => rfl
 | true => rw [hq z hqz] at this; cases this
theorem persist {t : TS} {way : List SlotM} {s x y : SlotM} (h : POk t.p) (hin : innerM t.p.l way s = some x) (hs : y ≠ s) (hx : y ≠ x) (hy : (dget t.p.l y).1.kind ≠ 0) : innerM (stepT t y).p.l way s = some x := by
 obtain ⟨⟨hk, hf⟩, hxw, hxk, _⟩ := innerM_some hin
 have hne := fin_ne h hf hy hs
 have hg : (dget (stepT t y).p.l s).1 = (dget t.p.l s).1 := by rw [stepT_get h, if_neg (fun e => hs e.symm)]
 have hf' : fin (stepT t y).p.l s := by
  refine ⟨by rw [hg]; exact hf.1, ?_⟩
  have h1 := dcount_step h hy (dget t.p.l s).1.kind (dget t.p.l s).1.object
  rw [if_neg hne, hf.2] at h1
  rw [hg]; omega
 unfold innerM at hin ⊢
 rw [if_pos ⟨hk, hf⟩] at hin
 rw [hg, if_pos ⟨hk, hf'⟩]
 have hr : dradix (stepT t y).p.l (dget t.p.l s).1.object = dradix t.p.l (dget t.p.l s).1.object :=
  step_radix h (fun e => hne ⟨e.2.1.trans hk.symm, e.2.2⟩)
 unfold firstIn at hin ⊢
 rw [hr]
 split
 ·
  rename_i h0; rw [if_pos h0] at hin; cases hin
 ·
  rename_i h0
  rw [if_neg h0] at hin
  refine find_less hin (fun z hz => ?_) ?_
  ·
   have := of_decide_eq_true hz
   refine decide_eq_true ⟨this.1, fun e => this.2 ?_⟩
   rw [stepT_get h]; split
   ·
    rfl
   ·
    exact e
  ·
   refine decide_eq_true ⟨hxw, ?_⟩
   rw [stepT_get h, if_neg (fun e => hx e.symm)]; exact hxk
inductive Nxt (l : List DN) : List SlotM → SlotM → SlotM → Prop
  | here {way : List SlotM} {s : SlotM} : innerM l way s = none → Nxt l way s s
  | down {way : List SlotM} {s x y : SlotM} : innerM l way s = some x → Nxt l (way ++ [x]) x y → Nxt l way s y
theorem Nxt.fresh {l : List DN} {way : List SlotM} {s y : SlotM} (h : Nxt l way s y) : y = s ∨ y ∉ way := by
 induction h with
 | here _ => exact .inl rfl
 | @down way s x y hin _ ih =>
  rcases ih with rfl | h
  ·
   exact .inr (innerM_some hin).2.1
  ·
   exact .inr fun e => h (List.mem_append_left _ e)
theorem Nxt.fullN {l : List DN} {way : List SlotM} {s y : SlotM} (h : Nxt l way s y) : (dget l s).1.kind ≠ 0 → (dget l y).1.kind ≠ 0 := by
 induction h with
 | here _ => exact id
 | down hin _ ih => exact fun _ => ih (innerM_some hin).2.2.1
theorem Nxt.det {l : List DN} {way : List SlotM} {s y : SlotM} (h : Nxt l way s y) : ∀ {z : SlotM}, Nxt l way s z → y = z := by
 induction h with
 | here hi =>
  intro z h2
  cases h2 with
  | here _ => rfl
  | down h1 _ => rw [hi] at h1; cases h1
 | down hi _ ih =>
  intro z h2
  cases h2 with
  | here h1 => rw [hi] at h1; cases h1
  | down h1 h3 => rw [hi] at h1; cases h1; exact ih h3
inductive DRun (way : List SlotM) (s : SlotM) : TS → Bool → TS → Prop
  | spent {t : TS} : t.n = 0 → DRun way s t false t
  | last {t : TS} : t.n ≠ 0 → Nxt t.p.l way s s → DRun way s t true (stepT t s)
  | more {t t' : TS} {y : SlotM} {b : Bool} : t.n ≠ 0 → Nxt t.p.l way s y → y ≠ s → DRun way s (stepT t y) b t' → DRun way s t b t'
theorem DRun.lift {way : List SlotM} {s x : SlotM} {t t1 : TS} {b : Bool} (h : DRun (way ++ [x]) x t b t1) : POk t.p → s ∈ way → innerM t.p.l way s = some x →
    (b = false → DRun way s t false t1) ∧ (b = true → ∀ c t', DRun way s t1 c t' → DRun way s t c t') := by
  induction h with
  | spent h0 => exact fun _ _ _ => ⟨fun _ => .spent h0, fun e => by cases e⟩
  | last h0 hn =>
    intro h hs hin
    obtain ⟨_, hxw, hxk, _⟩ := innerM_some hin
    exact ⟨(fun e => by cases e), fun _ c t' hr => .more h0 (.down hin hn) (fun e => hxw (e ▸ hs)) hr⟩
  | @more t t' y b h0 hn hy _ ih =>
    intro h hs hin
    obtain ⟨_, hxw, hxk, _⟩ := innerM_some hin
    have hyw : y ∉ way ++ [x] := hn.fresh.resolve_left hy
    have hys : y ≠ s := fun e => hyw (List.mem_append_left _ (e ▸ hs))
    obtain ⟨i1, i2⟩ := ih (stepT_ok h y) hs (persist h hin hys hy (hn.fullN hxk))
    exact ⟨fun e => .more h0 (.down hin hn) hys (i1 e), fun e c t' hr => .more h0 (.down hin hn) hys (i2 e c t' hr)⟩
theorem Away.drun {t t' : TS} {way : List SlotM} {s : SlotM} {b : Bool} (h : Away t way s b t') : POk t.p → s ∈ way → DRun way s t b t' := by
 induction h with
 | spent _ h0 => exact fun _ _ => .spent h0
 | step hi h0 => exact fun _ _ => .last h0 (.here hi)
 | @fall t t' way s x hin ha ih =>
  exact fun h hs => ((ih h (List.mem_append_right _ (List.mem_singleton.2 rfl))).lift h hs hin).1 rfl
 | @next t t1 t' way s x b hin ha _ ih1 ih2 =>
  exact fun h hs => ((ih1 h (List.mem_append_right _ (List.mem_singleton.2 rfl))).lift h hs hin).2 rfl _ _ (ih2 (ha.ok h) hs)
theorem DRun.det {way : List SlotM} {s : SlotM} {t t1 : TS} {b : Bool} (h : DRun way s t b t1) : ∀ {c : Bool} {t2 : TS}, DRun way s t c t2 → b = c ∧ t1 = t2 := by
 induction h with
 | spent h0 =>
  intro c t2 h2
  cases h2 with
  | spent _ => exact ⟨rfl, rfl⟩
  | last h1 _ => exact absurd h0 h1
  | more h1 _ _ _ => exact absurd h0 h1
 | last h0 hn =>
  intro c t2 h2
  cases h2 with
  | spent h1 => exact absurd h1 h0
  | last _ _ => exact ⟨rfl, rfl⟩
  | more _ h1 h3 _ => exact absurd (h1.det hn) h3
 | more h0 hn hy _ ih =>
  intro c t2 h2
  cases h2 with
  | spent h1 => exact absurd h1 h0
  | last _ h1 => exact absurd (hn.det h1) hy
  | more _ h1 _ h3 => obtain rfl := hn.det h1; exact ih h3
theorem stepT_pre (p : PS) (pre told : List CapM) (n : Nat) (s : SlotM) : stepT ⟨p, pre ++ told, n⟩ s = ⟨(stepT ⟨p, told, n⟩ s).p, pre ++ (stepT ⟨p, told, n⟩ s).told, (stepT ⟨p, told, n⟩ s).n⟩ := by
 unfold stepT; dsimp only
 congr 1
 split
 ·
  rw [List.append_assoc]
 ·
  rfl
theorem DRun.told {way : List SlotM} {s : SlotM} {t t' : TS} {b : Bool} (h : DRun way s t b t') (pre : List CapM) : DRun way s ⟨t.p, pre ++ t.told, t.n⟩ b ⟨t'.p, pre ++ t'.told, t'.n⟩ := by
 induction h with
 | spent h0 => exact .spent h0
 | @last t h0 hn =>
  have := DRun.last (way := way) (s := s) (t := ⟨t.p, pre ++ t.told, t.n⟩) h0 hn
  rw [stepT_pre] at this; exact this
 | @more t t' y b h0 hn hy _ ih =>
  refine .more (y := y) h0 hn hy ?_
  rw [stepT_pre]; exact ih
theorem DRun.zero {way : List SlotM} {s : SlotM} {t t' : TS} {b : Bool} (h : DRun way s t b t') : b = false → t'.n = 0 := by
 induction h with
 | spent h0 => exact fun _ => h0
 | last _ _ => exact fun e => by cases e
 | more _ _ _ _ ih => exact ih
end Go.Proofs.YtdodfnjmkpgdbaaGreat
end
section
set_option linter.unusedVariables false
set_option linter.unusedSimpArgs false
set_option linter.unusedSectionVars false
namespace Go.Proofs.YtdodfnjmkpgdbaaGreat
open Go.SL
theorem ROk.stepT {t : TS} (h : ROk t.p) (s : SlotM) : ROk (stepT t s).p := by
 unfold Go.Proofs.YtdodfnjmkpgdbaaGreat.stepT; dsimp only
 split
 ·
  exact (h.take s).clear _
 ·
  exact h.take s
theorem Away.rok {t t' : TS} {way : List SlotM} {s : SlotM} {b : Bool} (h : Away t way s b t') : ROk t.p → ROk t'.p := by
 induction h with
 | spent _ _ => exact id
 | step _ _ => exact fun h => h.stepT _
 | fall _ _ ih => exact ih
 | next _ _ _ ih1 ih2 => exact fun h => ih2 (ih1 h)
theorem RevW.rok {t t' : TS} {s : SlotM} {b : Bool} (h : RevW t s b t') : ROk t.p → ROk t'.p := by
 induction h with
 | empty _ => exact id
 | alone _ _ => exact id
 | fall _ _ ha => exact ha.rok
 | next _ _ ha _ ih => exact fun h => ih (ha.rok h)
theorem full_allZ {p : PS} (h : POk p) : (dfull p.l).length = p.F.all.length := ((List.perm_ext_iff_of_nodup (dfull_nodup h.rel) h.nd).2 fun x => by rw [mem_dfull h.rel, h.on]).length_eq
theorem F_le {p : PS} (h : POk p) : p.F.all.length ≤ 2 ^ 20 := by
 have := dfull_1024 h.rel
 rw [← full_allZ h]; omega
def Rem (sl g : SlotM) (t : TS) (b : Bool) (t' : TS) : Prop := g ≠ sl ∧ (dget t.p.l g).1.kind ≠ 0 ∧ ∃ c t1, DRun [g] g t c t1 ∧ (c = false → b = false ∧ t' = t1) ∧ (c = true → RevW t1 sl b t')
theorem RevW.start {t t' : TS} {sl : SlotM} {b : Bool} (h : RevW t sl b t') (hp : POk t.p) :
    (((dget t.p.l sl).1.kind = 0 ∨ ftKin t.p.F sl = []) ∧ b = true ∧ t' = t) ∨ ((dget t.p.l sl).1.kind ≠ 0 ∧ ∃ x, (ftKin t.p.F sl)[(ftKin t.p.F sl).length - 1]? = some x ∧ Rem sl x t b t') := by
  cases h with
  | empty h0 => exact .inl ⟨.inl h0, rfl, rfl⟩
  | alone _ hn => exact .inl ⟨.inr hn, rfl, rfl⟩
  | fall h0 hx ha =>
    have hm := List.mem_of_getElem? hx
    exact .inr ⟨h0, _, hx, fun e => kin_not hp _ (e ▸ hm), (hp.on _).1 (kin_in hm).2, false, _, ha.drun hp (List.mem_singleton.2 rfl), fun _ => ⟨rfl, rfl⟩, fun e => by cases e⟩
  | next h0 hx ha hr =>
    have hm := List.mem_of_getElem? hx
    exact .inr ⟨h0, _, hx, fun e => kin_not hp _ (e ▸ hm), (hp.on _).1 (kin_in hm).2, true, _, ha.drun hp (List.mem_singleton.2 rfl), (fun e => by cases e), fun _ => hr⟩
theorem Rem.ends {sl g : SlotM} {t t' : TS} {b : Bool} (h : Rem sl g t b t') (hn : t.n = 0) : b = false ∧ t' = t := by
 obtain ⟨_, _, c, t1, hd, h1, _⟩ := h
 cases hd with
 | spent _ => exact h1 rfl
 | last h0 _ => exact absurd hn h0
 | more h0 _ _ _ => exact absurd hn h0
theorem Rem.step {sl g y : SlotM} {t t' : TS} {b : Bool} (h : Rem sl g t b t') (hp : POk t.p) (hn : t.n ≠ 0) (hy : Nxt t.p.l [g] g y) : Rem sl g (stepT t y) b t' ∨ ((dget (stepT t y).p.l g).1.kind = 0 ∧ RevW (stepT t y) sl b t') := by
 obtain ⟨hne, hk, c, t1, hd, h1, h2⟩ := h
 cases hd with
 | spent h0 => exact absurd h0 hn
 | last _ hx =>
  obtain rfl := hy.det hx
  exact .inr ⟨by rw [stepT_get hp, if_pos rfl], h2 rfl⟩
 | more _ hx hyg hr =>
  obtain rfl := hy.det hx
  exact .inl ⟨hne, by rw [stepT_get hp, if_neg (fun e => hyg e.symm)]; exact hk, c, t1, hr, h1, h2⟩
theorem rev_done {t t' : TS} {sl : SlotM} {b : Bool} (h : RevW t sl b t') (hp : POk t.p) (hc : ¬((dget t.p.l sl).2 = 0 ∧ (dget t.p.l sl).1.kind ≠ 0) ∨ ((ftKin t.p.F sl).length : Int) = 0) : b = true ∧ t' = t := by
 rcases h.start hp with h | ⟨hk, x, hx, _⟩
 ·
  exact h.2
 ·
  rcases hc with hc | hc
  ·
   exact absurd ⟨dget_le hk, hk⟩ hc
  ·
   have := (List.getElem?_eq_some_iff.1 hx).1; omega
theorem rev_more {t t' : TS} {sl : SlotM} {b : Bool} (h : RevW t sl b t') (hp : POk t.p) (hc : ¬(¬((dget t.p.l sl).2 = 0 ∧ (dget t.p.l sl).1.kind ≠ 0) ∨ ((ftKin t.p.F sl).length : Int) = 0)) : ∃ x, (ftKin t.p.F sl)[(ftKin t.p.F sl).length - 1]? = some x ∧ Rem sl x t b t' := by
 rcases h.start hp with ⟨h0 | h0, _⟩ | ⟨_, x, hx, hr⟩
 ·
  exact absurd (.inl fun e => e.2 h0) hc
 ·
  exact absurd (.inr (by rw [h0]; rfl)) hc
 ·
  exact ⟨x, hx, hr⟩
theorem rem_no {t t' : TS} {sl g : SlotM} {b : Bool} (h : (g = sl ∨ (dget t.p.l g).1.kind = 0) ∧ RevW t sl b t' ∨ Rem sl g t b t') (hc : ¬((dget t.p.l g).2 = 0 ∧ (dget t.p.l g).1.kind ≠ 0)) : RevW t sl b t' := by
 rcases h with h | h
 ·
  exact h.2
 ·
  exact absurd ⟨dget_le h.2.1, h.2.1⟩ hc
theorem rem_yes {t t' : TS} {sl g : SlotM} {b : Bool} (h : (g = sl ∨ (dget t.p.l g).1.kind = 0) ∧ RevW t sl b t' ∨ Rem sl g t b t') (hc : g = sl ∨ ((dget t.p.l g).2 = 0 ∧ (dget t.p.l g).1.kind ≠ 0)) : (g = sl ∧ RevW t sl b t') ∨ (g ≠ sl ∧ Rem sl g t b t') := by
 rcases h with ⟨h1, h2⟩ | h
 ·
  rcases hc with e | e
  ·
   exact .inl ⟨e, h2⟩
  ·
   rcases h1 with e1 | e1
   ·
    exact .inl ⟨e1, h2⟩
   ·
    exact absurd e1 e.2
 ·
  exact .inr ⟨h.1, h⟩
def Seen (l : List DN) (way : List SlotM) (node : Int) (r j m : Nat) (z : SlotM) : Prop :=
  (m = 0 ∧ ∀ q : Nat, j ≤ q → q < r → ((node, (q : Int)) ∈ way ∨ (dget l (node, (q : Int))).1.kind = 0)) ∨
  (m ≠ 0 ∧ ∃ q : Nat, j ≤ q ∧ q < r ∧ z = (node, (q : Int)) ∧ ((node, (q : Int)) ∉ way ∧ (dget l (node, (q : Int))).1.kind ≠ 0) ∧ ∀ q' : Nat, j ≤ q' → q' < q → ((node, (q' : Int)) ∈ way ∨ (dget l (node, (q' : Int))).1.kind = 0))
theorem Seen.hit {l : List DN} {way : List SlotM} {node : Int} {r j m : Nat} {z : SlotM} (h : Seen l way node r (j + 1) m z) (hj : j < r) (hc : (node, (j : Int)) ∉ way ∧ (dget l (node, (j : Int))).1.kind ≠ 0) : Seen l way node r j (m + 1) (node, (j : Int)) :=
  .inr ⟨Nat.succ_ne_zero _, j, Nat.le_refl _, hj, rfl, hc, fun q' h1 h2 => by omega⟩
theorem Seen.pass {l : List DN} {way : List SlotM} {node : Int} {r j m : Nat} {z : SlotM} (h : Seen l way node r (j + 1) m z) (hc : (node, (j : Int)) ∈ way ∨ (dget l (node, (j : Int))).1.kind = 0) : Seen l way node r j m z := by
 rcases h with ⟨h0, h1⟩ | ⟨h0, q, q1, q2, q3, q4, q5⟩
 ·
  refine .inl ⟨h0, fun q h2 h3 => ?_⟩
  by_cases e : q = j
  ·
   subst e; exact hc
  ·
   exact h1 q (by omega) h3
 ·
  refine .inr ⟨h0, q, by omega, q2, q3, q4, fun q' h2 h3 => ?_⟩
  by_cases e : q' = j
  ·
   subst e; exact hc
  ·
   exact q5 q' (by omega) h3
theorem Seen.first {l : List DN} {way : List SlotM} {node : Int} {m : Nat} {z : SlotM} (h : Seen l way node (2 ^ (dradix l node).toNat) 0 m z) (hr : dradix l node ≠ 0) : firstIn l way node = if m = 0 then none else some z := by
 rcases h with ⟨h0, h1⟩ | ⟨h0, q, q1, q2, rfl, q4, q5⟩
 ·
  rw [if_pos h0]
  exact firstIn_miss fun j hj => h1 j (Nat.zero_le _) hj
 ·
  rw [if_neg h0]
  exact firstIn_hit hr q2 (fun j hj => q5 j (Nat.zero_le _) hj) q4.1 q4.2
theorem take_slots {l : List SlotM} {i : Nat} {x s : SlotM} (hx : l[i]? = some x) : s ∈ l.take (i + 1) ↔ s ∈ l.take i ∨ x = s := by
 rw [List.take_add_one, hx, List.mem_append]
 simp only [Option.toList_some, List.mem_singleton]
 exact or_congr Iff.rfl eq_comm
structure OpR where
  o : OpC
  steps : Int
abbrev OpR.cells (x : OpR) : List Value := [.int .i64 x.o.kind, .int .i64 x.o.a.1, .int .i64 x.o.a.2, .int .i64 x.o.b.1, .int .i64 x.o.b.2, .int .i64 x.o.d.1, .int .i64 x.o.d.2, .int .i64 x.o.c.kind, .int .i64 x.o.c.object, .int .i64 x.o.c.rights, .int .u64 x.o.c.badge, .int .u64 x.o.c.guard, .int .i64 x.o.c.bits, .int .i64 x.o.n, .int .i64 x.o.rights, .int .u64 x.o.badge, .int .u64 x.o.guard, .int .i64 x.o.bits, .int .i64 x.steps]
theorem as_opR {x : List Value} (h : FlatV [some .i64, some .i64, some .i64, some .i64, some .i64, some .i64, some .i64, some .i64, some .i64, some .i64, some .u64, some .u64, some .i64, some .i64, some .i64, some .u64, some .u64, some .i64, some .i64] x) : ∃ o : OpR, x = o.cells ∧ OpC.Rg o.o ∧ i64R o.steps := by
 obtain ⟨a0, l, rfl, _, h⟩ := h.int
 obtain ⟨a1, l, rfl, _, h⟩ := h.int
 obtain ⟨a2, l, rfl, _, h⟩ := h.int
 obtain ⟨a3, l, rfl, _, h⟩ := h.int
 obtain ⟨a4, l, rfl, _, h⟩ := h.int
 obtain ⟨a5, l, rfl, _, h⟩ := h.int
 obtain ⟨a6, l, rfl, _, h⟩ := h.int
 obtain ⟨a7, l, rfl, _, h⟩ := h.int
 obtain ⟨a8, l, rfl, _, h⟩ := h.int
 obtain ⟨a9, l, rfl, w9, h⟩ := h.int
 obtain ⟨a10, l, rfl, w10, h⟩ := h.int
 obtain ⟨a11, l, rfl, w11, h⟩ := h.int
 obtain ⟨a12, l, rfl, _, h⟩ := h.int
 obtain ⟨a13, l, rfl, _, h⟩ := h.int
 obtain ⟨a14, l, rfl, w14, h⟩ := h.int
 obtain ⟨a15, l, rfl, w15, h⟩ := h.int
 obtain ⟨a16, l, rfl, w16, h⟩ := h.int
 obtain ⟨a17, l, rfl, _, h⟩ := h.int
 obtain ⟨a18, l, rfl, w18, h⟩ := h.int
 obtain rfl := h.nil
 exact ⟨⟨⟨a0, (a1, a2), (a3, a4), (a5, a6), ⟨a7, a8, a9, a10, a11, a12⟩, a13, a14, a15, a16, a17⟩, a18⟩, rfl, ⟨⟨wfI w9, wfU w10, wfU w11⟩, wfI w14, wfU w15, wfU w16⟩, wfI w18⟩
theorem as_opRs {els : List (List Value)} (h : ∀ x, x ∈ els → FlatV [some .i64, some .i64, some .i64, some .i64, some .i64, some .i64, some .i64, some .i64, some .i64, some .i64, some .u64, some .u64, some .i64, some .i64, some .i64, some .u64, some .u64, some .i64, some .i64] x) : ∃ l : List OpR, els = l.map OpR.cells ∧ ∀ o, o ∈ l → (fun o : OpR => OpC.Rg o.o ∧ i64R o.steps) o :=
  map_of fun x hx => as_opR (h x hx)
end Go.Proofs.YtdodfnjmkpgdbaaGreat
end
section
set_option linter.unusedVariables false
set_option linter.unusedSimpArgs false
set_option linter.unusedSectionVars false
namespace Go.SL
section ent
variable {κ : Type} [DecidableEq κ]
end ent
section
variable {P : Program} {W : World} {n : Nat} {D : List Deferred} {E : Env} {L : Hp} {ty : TypeId} {pos : String} {aft : Array Edge} {g : Option (Nat × Bool)} {T : TypeId} {x y z : Operand} {v : Value}
variable {κ : Type} [DecidableEq κ]
def AllI (i : Nat) (l : List (κ × Value × Nat)) : Prop := ∀ e, e ∈ l → ∃ j : Nat, j ≤ i ∧ e.2.1 = .int .i64 (j : Int)
theorem AllI.get {i : Nat} : ∀ {l : List (κ × Value × Nat)}, AllI i l → ∀ k, ∃ j : Nat, j ≤ i ∧ (mget k l).getD (.int .i64 0) = .int .i64 (j : Int)
  | [], h, k => ⟨0, Nat.zero_le _, rfl⟩
  | e :: l, h, k => by
    simp only [mget]
    split
    · obtain ⟨j, hj, he⟩ := h e (List.mem_cons_self ..)
      exact ⟨j, hj, he⟩
    · exact AllI.get (fun x hx => h x (List.mem_cons_of_mem _ hx)) k
end
theorem Pv.fls2 {P : Program} {n : Nat} {D : List Deferred} {E : Env} {L : Hp} {o : Oper} {b c : Bool} (h : Pv P n D E L o (.bool (!(b == c)))) (hb : (b == c) = true) : Pv P n D E L o (.bool false) := by
 rw [hb] at h; exact h
end Go.SL
end
section
set_option linter.unusedVariables false
set_option linter.unusedSimpArgs false
set_option linter.unusedSectionVars false
namespace Go.Proofs.YtdodfnjmkpgdbaaGreat
open Go.SL
instance encCap : Enc CapM.cells 6 := ⟨fun _ => rfl, fun _ => rfl⟩
theorem caps_neq {l1 l2 : List CapM} {i : Nat} {a b : CapM} (h1 : l1[i]? = some a) (h2 : l2[i]? = some b) (h : a ≠ b) : ¬ l1 = l2 := fun e => by
 subst e; rw [h1] at h2; cases h2; exact h rfl
theorem list_same {α : Type} {l1 l2 : List α} (hl : l1.length = l2.length) (h : ∀ j, j < l1.length → l1[j]? = l2[j]?) : l1 = l2 := by
 refine List.ext_getElem? fun j => ?_
 by_cases hj : j < l1.length
 ·
  exact h j hj
 rw [List.getElem?_eq_none (by omega), List.getElem?_eq_none (by omega)]
theorem DRun.hit {t t' : TS} {s y : SlotM} {b : Bool} (h : DRun [s] s t b t') (hn : t.n ≠ 0) (hy : Nxt t.p.l [s] s y) (e : y = s) : b = true ∧ t' = stepT t y := by
 subst e
 cases h with
 | spent h0 => exact absurd h0 hn
 | last _ _ => exact ⟨rfl, rfl⟩
 | more _ hx hne _ => exact absurd (hx.det hy) hne
theorem DRun.pass {t t' : TS} {s y : SlotM} {b : Bool} (h : DRun [s] s t b t') (hn : t.n ≠ 0) (hy : Nxt t.p.l [s] s y) (e : ¬ y = s) : DRun [s] s (stepT t y) b t' := by
 cases h with
 | spent h0 => exact absurd h0 hn
 | last _ hx => exact absurd (hy.det hx) e
 | more _ hx _ hr => obtain rfl := hx.det hy; exact hr
theorem DRun.nil {t t' : TS} {s : SlotM} {b : Bool} (h : DRun [s] s t b t') (hn : t.n = 0) : b = false ∧ t' = t := by
 cases h with
 | spent _ => exact ⟨rfl, rfl⟩
 | last h0 _ => exact absurd hn h0
 | more h0 _ _ _ => exact absurd hn h0
theorem stepT_len (t : TS) (y : SlotM) : (stepT t y).told.length ≤ t.told.length + 1 := by
 unfold stepT; dsimp only
 split
 ·
  rw [List.length_append]; exact Nat.le_refl _
 omega
set_option maxHeartbeats 2000000 in
theorem tr_sameCaps (G : Hp) (a1 a2 : Option Addr) (c1 c2 : Nat) (l1 l2 : List CapM) (hv1 : View G 6 (.slice a1 l1.length c1) l1.length (cel CapM.cells l1)) (hv2 : View G 6 (.slice a2 l2.length c2) l2.length (cel CapM.cells l2)) (hl : l1.length ≤ 2 ^ 40) : TrR Tryz.prog 22 [.slice a1 l1.length c1, .slice a2 l2.length c2] (G) (.bool (decide (l1 = l2))) := by
 refine Tr.enter Tryz.func22 rfl Tryz.ntmps22 rfl (fun W F => ?_)
 refine Wp.app ?_
 refine Wr ?_
 refine Oa1 rfl rfl ?_
 refine On ?_
 refine Wp.seq ?_
 refine Wr ?_
 refine Om1 rfl rfl ?_
 refine Ops.pv (pv_len_slice (T := 67) rfl rfl) rfl ?_
 refine Om1 rfl rfl ?_
 refine Ops.pv (pv_len_slice (T := 67) rfl rfl) rfl ?_
 refine Ops.pv (pv_neq rfl rfl) rfl ?_
 refine On ?_
 refine Wp.cond_dect rfl (fun h1 => ?_) (fun h1 => ?_)
 ·
  refine Wr ?_
  refine Oa1 rfl rfl ?_
  refine On ?_
  refine Wp.ret ?_
  refine Ends.then_ret ?_
  exact Ends.ret (res1 rfl rfl) ⟨by rw [decide_eq_false (fun e => by subst e; omega)], rfl⟩
 refine Wp.skip ?_
 refine Ends.seq ?_
 refine Wp.seq ?_
 refine Wr ?_
 refine Oa1 rfl rfl ?_
 refine On ?_
 refine Wp.block ?_
 refine Wp.loopK (σ := Nat) [(0, _), (1, _)] (fun s => [(5, .int .i64 s)]) (fun s => G ++ F) (fun s => s ≤ l1.length ∧ ∀ j, j < s → l1[j]? = l2[j]?) (fun s => l1.length - s) 0 ⟨Nat.zero_le _, fun j hj => absurd hj (Nat.not_lt_zero j)⟩ ⟨rfl, rfl, trivial⟩ ⟨rfl, trivial⟩ (by intro w ho; (try dsimp only [List.nil_append, List.cons_append]); exact Drop.own ho) ?_
 rintro i KK ⟨hi, hn⟩ hK
 dsimp only [List.cons_append, List.nil_append] at hK ⊢
 refine Wp.seq ?_
 refine Wr ?_
 refine Om1 rfl rfl ?_
 refine Om1 rfl rfl ?_
 refine Ops.pv (pv_len_slice (T := 67) rfl rfl) rfl ?_
 refine Ops.pv (pv_lss rfl rfl) rfl ?_
 refine On ?_
 refine Wp.cond_dect rfl (fun h2 => ?_) (fun h2 => ?_)
 ·
  obtain ⟨b6, o6, cap6, cc6, T6, f6, hw6, hbv6, hr6⟩ := hv1.open (by omega)
  cases hw6
  obtain ⟨s1, hs1⟩ : ∃ s, l1[i]? = some s := ⟨_, List.getElem?_eq_getElem (by omega)⟩
  have hre1 := cel_reads hr6 hs1
  obtain ⟨b7, o7, cap7, cc7, T7, f7, hw7, hbv7, hr7⟩ := hv2.open (by omega)
  cases hw7
  obtain ⟨s2, hs2⟩ : ∃ s, l2[i]? = some s := ⟨_, List.getElem?_eq_getElem (by omega)⟩
  have hre2 := cel_reads hr7 hs2
  refine Wp.skip ?_
  refine Ends.seq ?_
  refine Wp.seq ?_
  refine Wp.block ?_
  refine Wp.seq ?_
  refine AnyH.start G 9 rfl ?_
  refine Tk 0 rfl rfl (pv_move rfl) rfl ?_
  refine Tk 1 rfl rfl (pv_move rfl) rfl ?_
  refine Tk 2 rfl rfl (pv_indexAddr (i := i) rfl rfl rfl (by omega)) rfl ?_
  refine Tk 3 rfl rfl (pv_loadK [.int .i64 s1.kind, .int .i64 s1.object, .int .i64 s1.rights, .int .u64 s1.badge, .int .u64 s1.guard, .int .i64 s1.bits] rfl rfl rfl hre1) rfl ?_
  refine Tk 4 rfl rfl (pv_move rfl) rfl ?_
  refine Tk 5 rfl rfl (pv_move rfl) rfl ?_
  refine Tk 6 rfl rfl (pv_indexAddr (i := i) rfl rfl rfl (by omega)) rfl ?_
  refine Tk 7 rfl rfl (pv_loadK [.int .i64 s2.kind, .int .i64 s2.object, .int .i64 s2.rights, .int .u64 s2.badge, .int .u64 s2.guard, .int .i64 s2.bits] rfl rfl rfl hre2) rfl ?_
  refine Tk 8 rfl rfl (pv_neq_cap (a := s1) (b := s2) rfl rfl) rfl ?_
  refine AnyH.done (by kernel_rfl) ?_
  refine Ends.seq ?_
  refine Wp.cond_dect rfl (fun h3 => ?_) (fun h3 => ?_)
  ·
   refine Wr ?_
   refine Oa1 rfl rfl ?_
   refine On ?_
   refine Wp.ret ?_
   refine Ends.block_ret ?_
   refine Ends.then_ret ?_
   refine Ends.then_ret ?_
   refine Ends.block_ret ?_
   refine Ends.then_ret ?_
   exact Ends.ret (res1 rfl rfl) ⟨by rw [decide_eq_false (caps_neq hs1 hs2 (by assumption))], rfl⟩
  refine Wp.skip ?_
  refine Ends.block_normal ?_
  refine Ends.seq ?_
  refine Wp.region ?_
  refine Om1 rfl rfl ?_
  refine Ops.pv (pv_add rfl rfl (w64 (by omega) (by omega))) rfl ?_
  refine Oa1 rfl rfl ?_
  refine Ops.nil ?_
  refine Ends.goes ?_
  refine Goes.back (hK (i + 1) ⟨by omega, fun j hj => ?_⟩ (by omega)) ⟨rfl, rfl, rfl, trivial⟩
  rcases Nat.lt_succ_iff_lt_or_eq.1 hj with hj | rfl
  ·
   exact hn j hj
  rw [hs1, hs2, show s1 = s2 by simp_all]
 refine Wp.exit ?_
 refine Ends.then_exit ?_
 refine Ends.then_exit ?_
 refine Ends.block_hit ?_
 refine Ends.seq ?_
 refine Wr ?_
 refine Oa1 rfl rfl ?_
 refine On ?_
 refine Wp.ret ?_
 exact Ends.ret (res1 rfl rfl) ⟨by rw [decide_eq_true (list_same (by omega) (fun j hj => hn j (by omega)))], rfl⟩
theorem tr_dAmong (G : Hp) (a : Option Addr) (c : Nat) (l : List SlotM) (s : SlotM) (hv : View G 2 (.slice a l.length c) l.length (slotsCells l)) (hl : l.length ≤ 2 ^ 40) : TrR Tryz.prog 110 [.slice a l.length c, slotV s] (G) (.bool (decide (s ∈ l))) := by
 obtain ⟨z, hz⟩ : ∃ q, q = s := ⟨_, rfl⟩
 rw [← hz]
 refine Tr.enter Tryz.func110 rfl Tryz.ntmps110 rfl (fun W F => ?_)
 refine Wp.app ?_
 refine Wr ?_
 refine Ops.ef rfl (ef_boxK rfl rfl) ?_
 rintro _ _ ⟨b1, rfl, rfl⟩
 refine Oa1 rfl rfl ?_
 refine On ?_
 refine Wp.seq ?_
 refine Wr ?_
 refine Oa1 rfl rfl ?_
 refine On ?_
 refine Wp.block ?_
 refine Wp.loopK (σ := Nat) [(0, _), (3, _)] (fun s => [(5, .int .i64 s)]) (fun s => (b1, .cells [.int .i64 z.1, .int .i64 z.2].toArray 31) :: (G ++ F)) (fun s => s ≤ l.length ∧ z ∉ l.take s) (fun s => l.length - s) 0 ⟨Nat.zero_le _, by simp⟩ ⟨rfl, rfl, trivial⟩ ⟨rfl, trivial⟩ (by intro w ho; (try dsimp only [List.nil_append, List.cons_append]); exact Drop.own ho) ?_
 rintro i KK ⟨hi, hn⟩ hK
 dsimp only [List.cons_append, List.nil_append] at hK ⊢
 refine Wp.seq ?_
 refine Wr ?_
 refine Om1 rfl rfl ?_
 refine Om1 rfl rfl ?_
 refine Ops.pv (pv_len_slice (T := 53) rfl rfl) rfl ?_
 refine Ops.pv (pv_lss rfl rfl) rfl ?_
 refine On ?_
 refine Wp.cond_dect rfl (fun h1 => ?_) (fun h1 => ?_)
 ·
  obtain ⟨b5, o5, cap5, cc5, T5, f5, hv5, hbv5, hr5⟩ := hv.open (by omega)
  cases hv5
  obtain ⟨x, hx⟩ : ∃ s, l[i]? = some s := ⟨_, List.getElem?_eq_getElem (by omega)⟩
  have hrex := hr5.sub (i := i * 2) (l := 2)
  rw [slots_reads hx] at hrex
  refine Wp.skip ?_
  refine Ends.seq ?_
  refine Wp.seq ?_
  refine Wp.block ?_
  refine Wp.seq ?_
  refine AnyH.start ((b1, .cells [.int .i64 z.1, .int .i64 z.2].toArray 31) :: G) 6 rfl ?_
  refine Tk 0 rfl rfl (pv_move rfl) rfl ?_
  refine Tk 1 rfl rfl (pv_move rfl) rfl ?_
  refine Tk 2 rfl rfl (pv_indexAddr (i := i) rfl rfl rfl (by omega)) rfl ?_
  refine Tk 3 rfl rfl (pv_loadK [.int .i64 x.1, .int .i64 x.2] rfl rfl rfl hrex) rfl ?_
  refine Tk 4 rfl rfl (pv_loadK [_, _] rfl rfl rfl ⟨rfl, rfl, trivial⟩) rfl ?_
  refine Tk 5 rfl rfl (pv_eql_slot (a := x) (b := z) rfl rfl) rfl ?_
  refine AnyH.done (by kernel_rfl) ?_
  refine Ends.seq ?_
  refine Wp.cond_dect rfl (fun h2 => ?_) (fun h2 => ?_)
  ·
   refine Wr ?_
   refine Oa1 rfl rfl ?_
   refine On ?_
   refine Wp.ret ?_
   refine Ends.block_ret ?_
   refine Ends.then_ret ?_
   refine Ends.then_ret ?_
   refine Ends.block_ret ?_
   refine Ends.then_ret ?_
   exact Ends.ret (res1 rfl rfl) ⟨by rw [decide_eq_true (by rw [show z = x by simp_all]; exact List.mem_of_getElem? hx)], rfl⟩
  refine Wp.skip ?_
  refine Ends.block_normal ?_
  refine Ends.seq ?_
  refine Wp.region ?_
  refine Om1 rfl rfl ?_
  refine Ops.pv (pv_add rfl rfl (w64 (by omega) (by omega))) rfl ?_
  refine Oa1 rfl rfl ?_
  refine Ops.nil ?_
  refine Ends.goes ?_
  refine Goes.back (hK (i + 1) ⟨by omega, fun h => ?_⟩ (by omega)) ⟨rfl, rfl, rfl, trivial⟩
  rcases (take_slots hx).1 h with h | h
  ·
   exact hn h
  simp_all
 refine Wp.exit ?_
 refine Ends.then_exit ?_
 refine Ends.then_exit ?_
 refine Ends.block_hit ?_
 refine Ends.seq ?_
 refine Wr ?_
 refine Oa1 rfl rfl ?_
 refine On ?_
 refine Wp.ret ?_
 exact Ends.ret (res1 rfl rfl) ⟨by rw [decide_eq_false (fun h => hn (by rw [show i = l.length by omega, List.take_length]; exact h))], rfl⟩
theorem tr_dFinal (qb : Nat) (L : Hp) (p : PS) (hH : DcH p qb L) (s : SlotM) : TrR Tryz.prog 26 [.pointer (some ⟨qb, 0, none⟩), slotV s] (L) (.bool (decide (fin p.l s))) := by
 obtain ⟨S0, l0, v0, H0, w0, K0, hR0, hQ0, hs0, ht0, rfl⟩ := hH
 refine Tr.enter Tryz.func26 rfl Tryz.ntmps26 rfl (fun W F => ?_)
 refine Wp.app ?_
 refine Wr ?_
 refine Ops.ef rfl (ef_boxK rfl rfl) ?_
 rintro _ _ ⟨b1, rfl, rfl⟩
 refine Oa1 rfl rfl ?_
 refine On ?_
 refine Wp.seq ?_
 refine AnyH.start ((b1, .cells [.int .i64 s.1, .int .i64 s.2].toArray 31) :: []) 11 rfl ?_
 refine Tk 0 rfl rfl (pv_move rfl) rfl ?_
 refine Tk 1 rfl rfl (pv_nilCheck rfl) rfl ?_
 refine Tk 2 rfl rfl (pv_fieldAddr0 rfl rfl) rfl ?_
 refine Tk 3 rfl rfl (pv_loadK [_, _] rfl rfl rfl ⟨rfl, rfl, trivial⟩) rfl ?_
 refine AnyH.two 4 8 (by kernel_rfl) ?_ ?_
 ·
  refine Turn.ef rfl rfl (ef_callr (dsf_get (uT := w0) ⟨S0, l0, hR0, hQ0, v0, H0, hs0, rfl⟩ s) rfl rfl) ?_ ?_
  ·
   rintro _ _ ⟨rfl, rfl⟩; infer_instance
  rintro _ _ ⟨rfl, rfl⟩
  refine Tk 5 rfl rfl (pv_move rfl) rfl ?_
  refine Tk 6 rfl rfl (pv_extract rfl rfl) rfl ?_
  refine Tk 7 rfl rfl (pv_extract rfl rfl) rfl ?_
  refine AnyH.one 8 (by kernel_rfl) ?_
  refine Turn.ef rfl rfl (ef_allocK tyZ25 rfl) ?_ ?_
  ·
   rintro _ _ ⟨b2, rfl, rfl⟩; infer_instance
  rintro _ _ ⟨b2, rfl, rfl⟩
  refine AnyH.one 9 (by kernel_rfl) ?_
  refine Turn.ef rfl rfl (ef_storeK rfl rfl rfl rfl) ?_ ?_
  ·
   rintro _ _ ⟨rfl, rfl⟩; infer_instance
  rintro _ _ ⟨rfl, rfl⟩
  refine Tk 10 rfl rfl (pv_assign rfl) rfl ?_
  refine AnyH.done (by kernel_rfl) ?_
  refine Ends.seq ?_
  refine Wp.seq ?_
  refine AnyH.start ((b2, .cells (dget p.l s).1.cells.toArray 25) :: []) 19 rfl ?_
  refine Tk 0 rfl rfl (pv_move rfl) rfl ?_
  refine Tk 1 rfl rfl (pv_eql rfl rfl) rfl ?_
  refine Tk 2 rfl rfl (pv_move rfl) rfl ?_
  refine AnyH.takec 3 rfl (by kernel_rfl) (by kernel_rfl) (by kernel_rfl) PF.pf rfl rfl (fun hg => pv_fieldAddr0 rfl rfl) rfl ?_
  refine AnyH.takec 4 rfl (by kernel_rfl) (by kernel_rfl) (by kernel_rfl) PF.pf rfl rfl (fun hg => Pv.setE (t := 18) rfl (cv_pos hg) (pv_load rfl rfl rfl)) rfl ?_
  refine AnyH.takec 5 rfl (by kernel_rfl) (by kernel_rfl) (by kernel_rfl) PF.pf rfl rfl (fun hg => Pv.setE (t := 18) rfl (cv_pos hg) (Pv.setE (t := 19) rfl (cv_pos hg) (pv_neq rfl rfl))) rfl ?_
  refine Tk 6 rfl rfl (pv_pick_and rfl rfl) rfl ?_
  refine Tk 7 rfl rfl (pv_move rfl) rfl ?_
  refine AnyH.split (t := 22) rfl (fun h1 => ?_) (fun h1 => ?_)
  ·
   refine Tk 8 rfl ⟨_, _, rfl, rfl, rfl⟩ (pv_move rfl) rfl ?_
   refine Tk 9 rfl ⟨_, _, rfl, rfl, rfl⟩ (pv_nilCheck rfl) rfl ?_
   refine Tk 10 rfl ⟨_, _, rfl, rfl, rfl⟩ (pv_fieldAddr0 rfl rfl) rfl ?_
   refine Tk 11 rfl ⟨_, _, rfl, rfl, rfl⟩ (pv_fieldAddr0 rfl rfl) rfl ?_
   refine Tk 12 rfl ⟨_, _, rfl, rfl, rfl⟩ (pv_load rfl rfl rfl) rfl ?_
   refine Tk 13 rfl ⟨_, _, rfl, rfl, rfl⟩ (pv_fieldAddr0 rfl rfl) rfl ?_
   refine Tk 14 rfl ⟨_, _, rfl, rfl, rfl⟩ (pv_load rfl rfl rfl) rfl ?_
   refine AnyH.one 15 (by kernel_rfl) ?_
   refine Turn.ef rfl ⟨_, _, rfl, rfl, rfl⟩ (ef_callr (dsf_count (uT := w0) ⟨S0, l0, hR0, hQ0, v0, H0, hs0, rfl⟩ (dget p.l s).1.kind (dget p.l s).1.object) rfl rfl) ?_ ?_
   ·
    rintro _ _ ⟨rfl, rfl⟩; infer_instance
   rintro _ _ ⟨rfl, rfl⟩
   refine Tk 16 rfl ⟨_, _, rfl, rfl, rfl⟩ (pv_eql rfl rfl) rfl ?_
   refine Tk 17 rfl rfl (pv_pick_true rfl rfl) rfl ?_
   refine Tk 18 rfl rfl (pv_assign rfl) rfl ?_
   refine AnyH.done (by kernel_rfl) ?_
   refine Ends.seq ?_
   refine Wp.ret ?_
   exact Ends.ret (res1 rfl rfl) ⟨by first | rw [fin_1 (by assumption)] | rw [fin_0 (by assumption)], rfl⟩
  refine Ts 8 rfl ⟨_, _, rfl, rfl, rfl⟩ rfl ?_
  refine Ts 9 rfl ⟨_, _, rfl, rfl, rfl⟩ rfl ?_
  refine Ts 10 rfl ⟨_, _, rfl, rfl, rfl⟩ rfl ?_
  refine Ts 11 rfl ⟨_, _, rfl, rfl, rfl⟩ rfl ?_
  refine Ts 12 rfl ⟨_, _, rfl, rfl, rfl⟩ rfl ?_
  refine Ts 13 rfl ⟨_, _, rfl, rfl, rfl⟩ rfl ?_
  refine Ts 14 rfl ⟨_, _, rfl, rfl, rfl⟩ rfl ?_
  refine Ts 15 rfl ⟨_, _, rfl, rfl, rfl⟩ rfl ?_
  refine Ts 16 rfl ⟨_, _, rfl, rfl, rfl⟩ rfl ?_
  refine Tk 17 rfl rfl (pv_pick_false rfl rfl) rfl ?_
  refine Tk 18 rfl rfl (pv_assign rfl) rfl ?_
  refine AnyH.done (by kernel_rfl) ?_
  refine Ends.seq ?_
  refine Wp.ret ?_
  exact Ends.ret (res1 rfl rfl) ⟨by first | rw [fin_1 (by assumption)] | rw [fin_0 (by assumption)], rfl⟩
 refine Turn.ef rfl rfl (ef_allocK tyZ25 rfl) ?_ ?_
 ·
  rintro _ _ ⟨b3, rfl, rfl⟩; infer_instance
 rintro _ _ ⟨b3, rfl, rfl⟩
 refine AnyH.one 4 (by kernel_rfl) ?_
 refine Turn.ef rfl rfl (ef_callr (dsf_get (uT := w0) ⟨S0, l0, hR0, hQ0, v0, H0, hs0, rfl⟩ s) rfl rfl) ?_ ?_
 ·
  rintro _ _ ⟨rfl, rfl⟩; infer_instance
 rintro _ _ ⟨rfl, rfl⟩
 refine Tk 5 rfl rfl (pv_move rfl) rfl ?_
 refine Tk 6 rfl rfl (pv_extract rfl rfl) rfl ?_
 refine Tk 7 rfl rfl (pv_extract rfl rfl) rfl ?_
 refine AnyH.one 9 (by kernel_rfl) ?_
 refine Turn.ef rfl rfl (ef_storeK rfl rfl rfl rfl) ?_ ?_
 ·
  rintro _ _ ⟨rfl, rfl⟩; infer_instance
 rintro _ _ ⟨rfl, rfl⟩
 refine Tk 10 rfl rfl (pv_assign rfl) rfl ?_
 refine AnyH.done (by kernel_rfl) ?_
 refine Ends.seq ?_
 refine Wp.seq ?_
 refine AnyH.start ((b3, .cells (dget p.l s).1.cells.toArray 25) :: []) 19 rfl ?_
 refine Tk 0 rfl rfl (pv_move rfl) rfl ?_
 refine Tk 1 rfl rfl (pv_eql rfl rfl) rfl ?_
 refine Tk 2 rfl rfl (pv_move rfl) rfl ?_
 refine AnyH.takec 3 rfl (by kernel_rfl) (by kernel_rfl) (by kernel_rfl) PF.pf rfl rfl (fun hg => pv_fieldAddr0 rfl rfl) rfl ?_
 refine AnyH.takec 4 rfl (by kernel_rfl) (by kernel_rfl) (by kernel_rfl) PF.pf rfl rfl (fun hg => Pv.setE (t := 18) rfl (cv_pos hg) (pv_load rfl rfl rfl)) rfl ?_
 refine AnyH.takec 5 rfl (by kernel_rfl) (by kernel_rfl) (by kernel_rfl) PF.pf rfl rfl (fun hg => Pv.setE (t := 18) rfl (cv_pos hg) (Pv.setE (t := 19) rfl (cv_pos hg) (pv_neq rfl rfl))) rfl ?_
 refine Tk 6 rfl rfl (pv_pick_and rfl rfl) rfl ?_
 refine Tk 7 rfl rfl (pv_move rfl) rfl ?_
 refine AnyH.split (t := 22) rfl (fun h2 => ?_) (fun h2 => ?_)
 ·
  refine Tk 8 rfl ⟨_, _, rfl, rfl, rfl⟩ (pv_move rfl) rfl ?_
  refine Tk 9 rfl ⟨_, _, rfl, rfl, rfl⟩ (pv_nilCheck rfl) rfl ?_
  refine Tk 10 rfl ⟨_, _, rfl, rfl, rfl⟩ (pv_fieldAddr0 rfl rfl) rfl ?_
  refine Tk 11 rfl ⟨_, _, rfl, rfl, rfl⟩ (pv_fieldAddr0 rfl rfl) rfl ?_
  refine Tk 12 rfl ⟨_, _, rfl, rfl, rfl⟩ (pv_load rfl rfl rfl) rfl ?_
  refine Tk 13 rfl ⟨_, _, rfl, rfl, rfl⟩ (pv_fieldAddr0 rfl rfl) rfl ?_
  refine Tk 14 rfl ⟨_, _, rfl, rfl, rfl⟩ (pv_load rfl rfl rfl) rfl ?_
  refine AnyH.one 15 (by kernel_rfl) ?_
  refine Turn.ef rfl ⟨_, _, rfl, rfl, rfl⟩ (ef_callr (dsf_count (uT := w0) ⟨S0, l0, hR0, hQ0, v0, H0, hs0, rfl⟩ (dget p.l s).1.kind (dget p.l s).1.object) rfl rfl) ?_ ?_
  ·
   rintro _ _ ⟨rfl, rfl⟩; infer_instance
  rintro _ _ ⟨rfl, rfl⟩
  refine Tk 16 rfl ⟨_, _, rfl, rfl, rfl⟩ (pv_eql rfl rfl) rfl ?_
  refine Tk 17 rfl rfl (pv_pick_true rfl rfl) rfl ?_
  refine Tk 18 rfl rfl (pv_assign rfl) rfl ?_
  refine AnyH.done (by kernel_rfl) ?_
  refine Ends.seq ?_
  refine Wp.ret ?_
  exact Ends.ret (res1 rfl rfl) ⟨by first | rw [fin_1 (by assumption)] | rw [fin_0 (by assumption)], rfl⟩
 refine Ts 8 rfl ⟨_, _, rfl, rfl, rfl⟩ rfl ?_
 refine Ts 9 rfl ⟨_, _, rfl, rfl, rfl⟩ rfl ?_
 refine Ts 10 rfl ⟨_, _, rfl, rfl, rfl⟩ rfl ?_
 refine Ts 11 rfl ⟨_, _, rfl, rfl, rfl⟩ rfl ?_
 refine Ts 12 rfl ⟨_, _, rfl, rfl, rfl⟩ rfl ?_
 refine Ts 13 rfl ⟨_, _, rfl, rfl, rfl⟩ rfl ?_
 refine Ts 14 rfl ⟨_, _, rfl, rfl, rfl⟩ rfl ?_
 refine Ts 15 rfl ⟨_, _, rfl, rfl, rfl⟩ rfl ?_
 refine Ts 16 rfl ⟨_, _, rfl, rfl, rfl⟩ rfl ?_
 refine Tk 17 rfl rfl (pv_pick_false rfl rfl) rfl ?_
 refine Tk 18 rfl rfl (pv_assign rfl) rfl ?_
 refine AnyH.done (by kernel_rfl) ?_
 refine Ends.seq ?_
 refine Wp.ret ?_
 exact Ends.ret (res1 rfl rfl) ⟨by first | rw [fin_1 (by assumption)] | rw [fin_0 (by assumption)], rfl⟩
theorem tr_dFull (qb : Nat) (L : Hp) (p : PS) (hH : DcH p qb L) (s : SlotM) : TrR Tryz.prog 74 [.pointer (some ⟨qb, 0, none⟩), slotV s] (L) (.bool (decide ((dget p.l s).2 = 0 ∧ (dget p.l s).1.kind ≠ 0))) := by
 obtain ⟨S0, l0, v0, H0, w0, K0, hR0, hQ0, hs0, ht0, rfl⟩ := hH
 refine Tr.enter Tryz.func74 rfl Tryz.ntmps74 rfl (fun W F => ?_)
 refine Wp.app ?_
 refine Wr ?_
 refine Ops.ef rfl (ef_boxK rfl rfl) ?_
 rintro _ _ ⟨b1, rfl, rfl⟩
 refine Oa1 rfl rfl ?_
 refine On ?_
 refine Wp.seq ?_
 refine AnyH.start ((b1, .cells [.int .i64 s.1, .int .i64 s.2].toArray 31) :: []) 11 rfl ?_
 refine Tk 0 rfl rfl (pv_move rfl) rfl ?_
 refine Tk 1 rfl rfl (pv_nilCheck rfl) rfl ?_
 refine Tk 2 rfl rfl (pv_fieldAddr0 rfl rfl) rfl ?_
 refine Tk 3 rfl rfl (pv_loadK [_, _] rfl rfl rfl ⟨rfl, rfl, trivial⟩) rfl ?_
 refine AnyH.two 4 8 (by kernel_rfl) ?_ ?_
 ·
  refine Turn.ef rfl rfl (ef_callr (dsf_get (uT := w0) ⟨S0, l0, hR0, hQ0, v0, H0, hs0, rfl⟩ s) rfl rfl) ?_ ?_
  ·
   rintro _ _ ⟨rfl, rfl⟩; infer_instance
  rintro _ _ ⟨rfl, rfl⟩
  refine Tk 5 rfl rfl (pv_move rfl) rfl ?_
  refine Tk 6 rfl rfl (pv_extract rfl rfl) rfl ?_
  refine Tk 7 rfl rfl (pv_extract rfl rfl) rfl ?_
  refine AnyH.one 8 (by kernel_rfl) ?_
  refine Turn.ef rfl rfl (ef_allocK tyZ25 rfl) ?_ ?_
  ·
   rintro _ _ ⟨b2, rfl, rfl⟩; infer_instance
  rintro _ _ ⟨b2, rfl, rfl⟩
  refine AnyH.one 9 (by kernel_rfl) ?_
  refine Turn.ef rfl rfl (ef_storeK rfl rfl rfl rfl) ?_ ?_
  ·
   rintro _ _ ⟨rfl, rfl⟩; infer_instance
  rintro _ _ ⟨rfl, rfl⟩
  refine Tk 10 rfl rfl (pv_assign rfl) rfl ?_
  refine AnyH.done (by kernel_rfl) ?_
  refine Ends.seq ?_
  refine Wr ?_
  refine Om1 rfl rfl ?_
  refine Ops.pv (pv_eql rfl rfl) rfl ?_
  refine Om1 rfl rfl ?_
  refine Ops.pvc rfl rfl (fun hg => pv_fieldAddr0 rfl rfl) rfl ?_
  refine Ops.pvc rfl rfl (fun hg => Pv.setE (t := 18) rfl (cv_pos hg) (pv_load rfl rfl rfl)) rfl ?_
  refine Ops.pvc rfl rfl (fun hg => Pv.setE (t := 18) rfl (cv_pos hg) (Pv.setE (t := 19) rfl (cv_pos hg) (pv_neq rfl rfl))) rfl ?_
  refine Ops.pv (pv_pick_and rfl rfl) rfl ?_
  refine Oa1 rfl rfl ?_
  refine On ?_
  refine Wp.ret ?_
  exact Ends.ret (res1 rfl rfl) ⟨rfl, rfl⟩
 refine Turn.ef rfl rfl (ef_allocK tyZ25 rfl) ?_ ?_
 ·
  rintro _ _ ⟨b3, rfl, rfl⟩; infer_instance
 rintro _ _ ⟨b3, rfl, rfl⟩
 refine AnyH.one 4 (by kernel_rfl) ?_
 refine Turn.ef rfl rfl (ef_callr (dsf_get (uT := w0) ⟨S0, l0, hR0, hQ0, v0, H0, hs0, rfl⟩ s) rfl rfl) ?_ ?_
 ·
  rintro _ _ ⟨rfl, rfl⟩; infer_instance
 rintro _ _ ⟨rfl, rfl⟩
 refine Tk 5 rfl rfl (pv_move rfl) rfl ?_
 refine Tk 6 rfl rfl (pv_extract rfl rfl) rfl ?_
 refine Tk 7 rfl rfl (pv_extract rfl rfl) rfl ?_
 refine AnyH.one 9 (by kernel_rfl) ?_
 refine Turn.ef rfl rfl (ef_storeK rfl rfl rfl rfl) ?_ ?_
 ·
  rintro _ _ ⟨rfl, rfl⟩; infer_instance
 rintro _ _ ⟨rfl, rfl⟩
 refine Tk 10 rfl rfl (pv_assign rfl) rfl ?_
 refine AnyH.done (by kernel_rfl) ?_
 refine Ends.seq ?_
 refine Wr ?_
 refine Om1 rfl rfl ?_
 refine Ops.pv (pv_eql rfl rfl) rfl ?_
 refine Om1 rfl rfl ?_
 refine Ops.pvc rfl rfl (fun hg => pv_fieldAddr0 rfl rfl) rfl ?_
 refine Ops.pvc rfl rfl (fun hg => Pv.setE (t := 18) rfl (cv_pos hg) (pv_load rfl rfl rfl)) rfl ?_
 refine Ops.pvc rfl rfl (fun hg => Pv.setE (t := 18) rfl (cv_pos hg) (Pv.setE (t := 19) rfl (cv_pos hg) (pv_neq rfl rfl))) rfl ?_
 refine Ops.pv (pv_pick_and rfl rfl) rfl ?_
 refine Oa1 rfl rfl ?_
 refine On ?_
 refine Wp.ret ?_
 exact Ends.ret (res1 rfl rfl) ⟨rfl, rfl⟩
theorem tr_dCheck (qb : Nat) (L : Hp) (p : PS) (hH : DcH p qb L) (s : SlotM) (k : Int) : TrR Tryz.prog 69 [.pointer (some ⟨qb, 0, none⟩), slotV s, .int .i64 k] (L) (.int .i64 (rvErr p.l s k)) := by
 obtain ⟨S0, l0, v0, H0, w0, K0, hR0, hQ0, hs0, ht0, rfl⟩ := hH
 refine Tr.enter Tryz.func69 rfl Tryz.ntmps69 rfl (fun W F => ?_)
 refine Wp.app ?_
 refine Wr ?_
 refine Ops.ef rfl (ef_boxK rfl rfl) ?_
 rintro _ _ ⟨b1, rfl, rfl⟩
 refine Oa1 rfl rfl ?_
 refine On ?_
 refine Wp.seq ?_
 refine Wr ?_
 refine Om1 rfl rfl ?_
 refine Ops.pv (pv_lss rfl rfl) rfl ?_
 refine Om1 rfl rfl ?_
 refine Ops.pvcn rfl rfl (fun hg => pv_move rfl) rfl ?_
 refine Ops.pvcn rfl rfl (fun hg => Pv.setE (t := 12) rfl (cv_pos hg) (pv_gtr rfl rfl)) rfl ?_
 refine Ops.pv (pv_pick_or rfl rfl) rfl ?_
 refine On ?_
 refine Wp.cond_dect rfl (fun h1 => ?_) (fun h1 => ?_)
 ·
  refine Wr ?_
  refine Oa1 rfl rfl ?_
  refine On ?_
  refine Wp.ret ?_
  refine Ends.then_ret ?_
  exact Ends.ret (res1 rfl rfl) ⟨by rw [rvErr_1 (by assumption)], rfl⟩
 refine Wp.skip ?_
 refine Ends.seq ?_
 refine Wp.seq ?_
 refine AnyH.start ((b1, .cells [.int .i64 s.1, .int .i64 s.2].toArray 31) :: []) 11 rfl ?_
 refine Tk 0 rfl rfl (pv_move rfl) rfl ?_
 refine Tk 1 rfl rfl (pv_nilCheck rfl) rfl ?_
 refine Tk 2 rfl rfl (pv_fieldAddr0 rfl rfl) rfl ?_
 refine Tk 3 rfl rfl (pv_loadK [_, _] rfl rfl rfl ⟨rfl, rfl, trivial⟩) rfl ?_
 refine AnyH.two 4 8 (by kernel_rfl) ?_ ?_
 ·
  refine Turn.ef rfl rfl (ef_callr (dsf_get (uT := w0) ⟨S0, l0, hR0, hQ0, v0, H0, hs0, rfl⟩ s) rfl rfl) ?_ ?_
  ·
   rintro _ _ ⟨rfl, rfl⟩; infer_instance
  rintro _ _ ⟨rfl, rfl⟩
  refine Tk 5 rfl rfl (pv_move rfl) rfl ?_
  refine Tk 6 rfl rfl (pv_extract rfl rfl) rfl ?_
  refine Tk 7 rfl rfl (pv_extract rfl rfl) rfl ?_
  refine AnyH.one 8 (by kernel_rfl) ?_
  refine Turn.ef rfl rfl (ef_allocK tyZ25 rfl) ?_ ?_
  ·
   rintro _ _ ⟨b2, rfl, rfl⟩; infer_instance
  rintro _ _ ⟨b2, rfl, rfl⟩
  refine AnyH.one 9 (by kernel_rfl) ?_
  refine Turn.ef rfl rfl (ef_storeK rfl rfl rfl rfl) ?_ ?_
  ·
   rintro _ _ ⟨rfl, rfl⟩; infer_instance
  rintro _ _ ⟨rfl, rfl⟩
  refine Tk 10 rfl rfl (pv_assign rfl) rfl ?_
  refine AnyH.done (by kernel_rfl) ?_
  refine Ends.seq ?_
  refine Wp.seq ?_
  refine Wr ?_
  refine Om1 rfl rfl ?_
  refine Ops.pv (pv_eql rfl rfl) rfl ?_
  refine Om1 rfl rfl ?_
  refine Ops.pvc rfl rfl (fun hg => pv_fieldAddr0 rfl rfl) rfl ?_
  refine Ops.pvc rfl rfl (fun hg => Pv.setE (t := 26) rfl (cv_pos hg) (pv_load rfl rfl rfl)) rfl ?_
  refine Ops.pvc rfl rfl (fun hg => Pv.setE (t := 26) rfl (cv_pos hg) (Pv.setE (t := 27) rfl (cv_pos hg) (pv_eql rfl rfl))) rfl ?_
  refine Ops.pv (pv_pick_and rfl rfl) rfl ?_
  refine On ?_
  refine Wp.cond_dect rfl (fun h2 => ?_) (fun h2 => ?_)
  ·
   refine Wp.region ?_
   refine Oa1 rfl rfl ?_
   refine On ?_
   refine Wr ?_
   refine Om1 rfl rfl ?_
   refine Oa1 rfl rfl ?_
   refine On ?_
   refine Wp.ret ?_
   exact Ends.ret (res1 rfl rfl) ⟨by rw [rvErr_2 (by assumption) (by assumption)], rfl⟩
  refine Wp.skip ?_
  refine Ends.seq ?_
  refine Wr ?_
  refine Om1 rfl rfl ?_
  refine Oa1 rfl rfl ?_
  refine On ?_
  refine Wp.ret ?_
  exact Ends.ret (res1 rfl rfl) ⟨by rw [rvErr_3 (by assumption) (by assumption)], rfl⟩
 refine Turn.ef rfl rfl (ef_allocK tyZ25 rfl) ?_ ?_
 ·
  rintro _ _ ⟨b3, rfl, rfl⟩; infer_instance
 rintro _ _ ⟨b3, rfl, rfl⟩
 refine AnyH.one 4 (by kernel_rfl) ?_
 refine Turn.ef rfl rfl (ef_callr (dsf_get (uT := w0) ⟨S0, l0, hR0, hQ0, v0, H0, hs0, rfl⟩ s) rfl rfl) ?_ ?_
 ·
  rintro _ _ ⟨rfl, rfl⟩; infer_instance
 rintro _ _ ⟨rfl, rfl⟩
 refine Tk 5 rfl rfl (pv_move rfl) rfl ?_
 refine Tk 6 rfl rfl (pv_extract rfl rfl) rfl ?_
 refine Tk 7 rfl rfl (pv_extract rfl rfl) rfl ?_
 refine AnyH.one 9 (by kernel_rfl) ?_
 refine Turn.ef rfl rfl (ef_storeK rfl rfl rfl rfl) ?_ ?_
 ·
  rintro _ _ ⟨rfl, rfl⟩; infer_instance
 rintro _ _ ⟨rfl, rfl⟩
 refine Tk 10 rfl rfl (pv_assign rfl) rfl ?_
 refine AnyH.done (by kernel_rfl) ?_
 refine Ends.seq ?_
 refine Wp.seq ?_
 refine Wr ?_
 refine Om1 rfl rfl ?_
 refine Ops.pv (pv_eql rfl rfl) rfl ?_
 refine Om1 rfl rfl ?_
 refine Ops.pvc rfl rfl (fun hg => pv_fieldAddr0 rfl rfl) rfl ?_
 refine Ops.pvc rfl rfl (fun hg => Pv.setE (t := 26) rfl (cv_pos hg) (pv_load rfl rfl rfl)) rfl ?_
 refine Ops.pvc rfl rfl (fun hg => Pv.setE (t := 26) rfl (cv_pos hg) (Pv.setE (t := 27) rfl (cv_pos hg) (pv_eql rfl rfl))) rfl ?_
 refine Ops.pv (pv_pick_and rfl rfl) rfl ?_
 refine On ?_
 refine Wp.cond_dect rfl (fun h3 => ?_) (fun h3 => ?_)
 ·
  refine Wp.region ?_
  refine Oa1 rfl rfl ?_
  refine On ?_
  refine Wr ?_
  refine Om1 rfl rfl ?_
  refine Oa1 rfl rfl ?_
  refine On ?_
  refine Wp.ret ?_
  exact Ends.ret (res1 rfl rfl) ⟨by rw [rvErr_2 (by assumption) (by assumption)], rfl⟩
 refine Wp.skip ?_
 refine Ends.seq ?_
 refine Wr ?_
 refine Om1 rfl rfl ?_
 refine Oa1 rfl rfl ?_
 refine On ?_
 refine Wp.ret ?_
 exact Ends.ret (res1 rfl rfl) ⟨by rw [rvErr_3 (by assumption) (by assumption)], rfl⟩
set_option maxHeartbeats 8000000 in
theorem tr_dNext (qb : Nat) (L : Hp) (p : PS) (hH : DcH p qb L) (hok : POk p) (s0 : SlotM) : Tr Tryz.prog 70 [.pointer (some ⟨qb, 0, none⟩), slotV s0] (L) (fun u L' => ∃ y, u = slotV y ∧ Nxt p.l [s0] s0 y ∧ L' = L) := by
 have hH0 := hH
 obtain ⟨S0, l0, v0, H0, w0, K0, hR0, hQ0, hs0, ht0, rfl⟩ := hH
 have h1024 := dfull_1024 hok.rel
 refine Tr.enter Tryz.func70 rfl Tryz.ntmps70 rfl (fun W F => ?_)
 refine Wp.app ?_
 refine Wr ?_
 refine Ops.ef rfl (ef_boxK rfl rfl) ?_
 rintro _ _ ⟨b1, rfl, rfl⟩
 refine Ops.ef rfl (ef_allocK tyZ31 rfl) ?_
 rintro _ _ ⟨b2, rfl, rfl⟩
 refine On ?_
 refine Wr ?_
 refine Oa1 rfl rfl ?_
 refine On ?_
 refine Wp.seq ?_
 refine Wr ?_
 refine Oa1 rfl rfl ?_
 refine On ?_
 refine Wp.block ?_
 refine Wp.loopK (σ := Nat × SlotM × List SlotM × Option Addr × Nat × Hp) [(0, _), (3, _), (4, _)] (fun s => [(5, .slice s.2.2.2.1 s.2.2.1.length s.2.2.2.2.1), (6, .int .i64 s.1)]) (fun s => (b1, .cells [.int .i64 s.2.1.1, .int .i64 s.2.1.2].toArray 31) :: (b2, .cells [.int .i64 0, .int .i64 0].toArray 31) :: (s.2.2.2.2.2 ++ (dcBlk qb v0 w0 :: (H0 ++ (dCaps l0 ++ (K0 ++ F)))))) (fun s => Slc 31 2 (.slice s.2.2.2.1 s.2.2.1.length s.2.2.2.2.1) s.2.2.1.length (slotsCells s.2.2.1) s.2.2.2.2.2 ∧ freeW p.l (s.2.2.1 ++ [s.2.1]) + s.1 ≤ 1024 ∧ s.2.2.1.length = s.1 ∧ (∀ y, Nxt p.l (s.2.2.1 ++ [s.2.1]) s.2.1 y → Nxt p.l [s0] s0 y)) (fun s => 1100 - s.1) (0, s0, [], none, 0, []) ⟨Slc.nil _ _, by have := freeW_le p.l [s0]; dsimp only [List.nil_append]; omega, rfl, fun y h => h⟩ ⟨rfl, rfl, rfl, trivial⟩ ⟨rfl, rfl, trivial⟩ (by intro w ho; (try dsimp only [List.nil_append, List.cons_append]); exact Drop.own ho) ?_
 rintro ⟨i, x, w, pw, qw, Kw⟩ KK ⟨hsl, hfr, hwl, hacc⟩ hK
 dsimp only [List.cons_append, List.nil_append] at hK ⊢
 dsimp only at hsl hfr hwl hacc ⊢
 refine Wp.seq ?_
 refine Wr ?_
 refine Om1 rfl rfl ?_
 refine Ops.pv (pv_lss rfl rfl) rfl ?_
 refine On ?_
 refine Wp.cond_dect rfl (fun h1 => ?_) (fun h1 => (by exfalso; omega))
 refine Wp.skip ?_
 refine Ends.seq ?_
 refine Wp.seq ?_
 refine Wp.block ?_
 refine Wr ?_
 refine Om1 rfl rfl ?_
 refine Ops.pv (pv_loadK [_, _] rfl rfl rfl ⟨rfl, rfl, trivial⟩) rfl ?_
 refine Ops.ef rfl (ef_buildSlice1 (k := 2) rfl rfl rfl rfl rfl) ?_
 rintro _ _ ⟨b3, rfl, rfl⟩
 refine Ops.ef rfl (ef_append (H := Kw) (xs := slotCells x) rfl hsl rfl ⟨rfl, rfl, trivial⟩ rfl rfl rfl (by omega) (by omega) rfl rfl) ?_
 rintro _ _ ⟨u1, K1, hu1, rfl, rfl⟩
 refine Ops.app ?_
 have hW : Slc 31 2 u1 (w ++ [x]).length (slotsCells (w ++ [x])) K1 := by rw [slotsCells_app, List.length_append]; simpa [slotsCells] using hu1
 obtain ⟨pu, qu, rfl⟩ := hW.form
 have hvw := hW.view
 have hwx : (w ++ [x]).length = i + 1 := by rw [List.length_append, hwl]; rfl
 refine Oa1 rfl rfl ?_
 refine On ?_
 refine Wp.cutK (σ := Nat) [(0, _), (3, _), (4, _), (5, _), (6, _)] (fun s => [(7, .pointer (some ⟨s, 0, none⟩))]) (fun s => (s, .cells (dget p.l x).1.cells.toArray 25) :: (b1, .cells [.int .i64 x.1, .int .i64 x.2].toArray 31) :: (b2, .cells [.int .i64 0, .int .i64 0].toArray 31) :: (K1 ++ (dcBlk qb v0 w0 :: (H0 ++ (dCaps l0 ++ (K0 ++ F)))))) (fun s => True) ⟨rfl, rfl, rfl, rfl, rfl, trivial⟩ (fun _ KK hC0 => ?_) ?_
 ·
  dsimp only [List.cons_append, List.nil_append] at hC0
  refine AnyH.start ((b1, .cells [.int .i64 x.1, .int .i64 x.2].toArray 31) :: []) 11 rfl ?_
  refine Tk 0 rfl rfl (pv_move rfl) rfl ?_
  refine Tk 1 rfl rfl (pv_nilCheck rfl) rfl ?_
  refine Tk 2 rfl rfl (pv_fieldAddr0 rfl rfl) rfl ?_
  refine Tk 3 rfl rfl (pv_loadK [_, _] rfl rfl rfl ⟨rfl, rfl, trivial⟩) rfl ?_
  refine AnyH.two 4 8 (by kernel_rfl) ?_ ?_
  ·
   refine Turn.ef rfl rfl (ef_callr (dsf_get (uT := w0) ⟨S0, l0, hR0, hQ0, v0, H0, hs0, rfl⟩ x) rfl rfl) ?_ ?_
   ·
    rintro _ _ ⟨rfl, rfl⟩; infer_instance
   rintro _ _ ⟨rfl, rfl⟩
   refine Tk 5 rfl rfl (pv_move rfl) rfl ?_
   refine Tk 6 rfl rfl (pv_extract rfl rfl) rfl ?_
   refine Tk 7 rfl rfl (pv_extract rfl rfl) rfl ?_
   refine AnyH.one 8 (by kernel_rfl) ?_
   refine Turn.ef rfl rfl (ef_allocK tyZ25 rfl) ?_ ?_
   ·
    rintro _ _ ⟨b4, rfl, rfl⟩; infer_instance
   rintro _ _ ⟨b4, rfl, rfl⟩
   refine AnyH.one 9 (by kernel_rfl) ?_
   refine Turn.ef rfl rfl (ef_storeK rfl rfl rfl rfl) ?_ ?_
   ·
    rintro _ _ ⟨rfl, rfl⟩; infer_instance
   rintro _ _ ⟨rfl, rfl⟩
   refine Tk 10 rfl rfl (pv_assign rfl) rfl ?_
   refine AnyH.done (by kernel_rfl) ?_
   refine Ends.goes ?_
   refine Goes.back (hC0 b4 trivial) ⟨rfl, rfl, rfl, rfl, rfl, rfl, trivial⟩
  refine Turn.ef rfl rfl (ef_allocK tyZ25 rfl) ?_ ?_
  ·
   rintro _ _ ⟨b5, rfl, rfl⟩; infer_instance
  rintro _ _ ⟨b5, rfl, rfl⟩
  refine AnyH.one 4 (by kernel_rfl) ?_
  refine Turn.ef rfl rfl (ef_callr (dsf_get (uT := w0) ⟨S0, l0, hR0, hQ0, v0, H0, hs0, rfl⟩ x) rfl rfl) ?_ ?_
  ·
   rintro _ _ ⟨rfl, rfl⟩; infer_instance
  rintro _ _ ⟨rfl, rfl⟩
  refine Tk 5 rfl rfl (pv_move rfl) rfl ?_
  refine Tk 6 rfl rfl (pv_extract rfl rfl) rfl ?_
  refine Tk 7 rfl rfl (pv_extract rfl rfl) rfl ?_
  refine AnyH.one 9 (by kernel_rfl) ?_
  refine Turn.ef rfl rfl (ef_storeK rfl rfl rfl rfl) ?_ ?_
  ·
   rintro _ _ ⟨rfl, rfl⟩; infer_instance
  rintro _ _ ⟨rfl, rfl⟩
  refine Tk 10 rfl rfl (pv_assign rfl) rfl ?_
  refine AnyH.done (by kernel_rfl) ?_
  refine Ends.goes ?_
  refine Goes.back (hC0 b5 trivial) ⟨rfl, rfl, rfl, rfl, rfl, rfl, trivial⟩
 rintro bw _
 dsimp only [List.cons_append, List.nil_append] at ⊢
 refine Wp.seq ?_
 refine Wp.seq ?_
 refine AnyH.start ((bw, .cells (dget p.l x).1.cells.toArray 25) :: (b1, .cells [.int .i64 x.1, .int .i64 x.2].toArray 31) :: []) 18 rfl ?_
 refine Tk 0 rfl rfl (pv_fieldAddr0 rfl rfl) rfl ?_
 refine Tk 1 rfl rfl (pv_load rfl rfl rfl) rfl ?_
 refine Tk 2 rfl rfl (pv_neq rfl rfl) rfl ?_
 refine Tk 3 rfl rfl (pv_move rfl) rfl ?_
 refine AnyH.split (t := 34) rfl (fun h2 => ?_) (fun h2 => ?_)
 ·
  refine Ts 4 rfl ⟨_, _, rfl, rfl, rfl⟩ rfl ?_
  refine Ts 5 rfl ⟨_, _, rfl, rfl, rfl⟩ rfl ?_
  refine Ts 6 rfl ⟨_, _, rfl, rfl, rfl⟩ rfl ?_
  refine Ts 7 rfl ⟨_, _, rfl, rfl, rfl⟩ rfl ?_
  refine Tk 8 rfl rfl (pv_pick_true rfl rfl) rfl ?_
  refine Tk 9 rfl rfl (pv_move rfl) rfl ?_
  refine Ts 10 rfl ⟨_, _, rfl, rfl, rfl⟩ rfl ?_
  refine Ts 11 rfl ⟨_, _, rfl, rfl, rfl⟩ rfl ?_
  refine Ts 12 rfl ⟨_, _, rfl, rfl, rfl⟩ rfl ?_
  refine Ts 13 rfl ⟨_, _, rfl, rfl, rfl⟩ rfl ?_
  refine Ts 14 rfl ⟨_, _, rfl, rfl, rfl⟩ rfl ?_
  refine Ts 15 rfl ⟨_, _, rfl, rfl, rfl⟩ rfl ?_
  refine Ts 16 rfl ⟨_, _, rfl, rfl, rfl⟩ rfl ?_
  refine Tk 17 rfl rfl (pv_pick_true rfl rfl) rfl ?_
  refine AnyH.done (by kernel_rfl) ?_
  refine Ends.seq ?_
  refine Wp.cond_true rfl ?_
  refine Wr ?_
  refine Ops.pv (pv_loadK [_, _] rfl rfl rfl ⟨rfl, rfl, trivial⟩) rfl ?_
  refine Ops.ef rfl (ef_storeK rfl rfl rfl rfl) ?_
  rintro _ _ ⟨rfl, rfl⟩
  refine On ?_
  refine Wp.ret ?_
  refine Ends.then_ret ?_
  refine Ends.block_ret ?_
  refine Ends.then_ret ?_
  refine Ends.then_ret ?_
  refine Ends.block_ret ?_
  refine Ends.then_ret ?_
  have hin : innerM p.l (w ++ [x]) x = none := by unfold innerM; (first | rw [if_neg (fun hh => by first | exact absurd hh.1 (by assumption) | exact absurd hh.2 (by assumption))] | (rw [if_pos ⟨Decidable.not_not.1 (by assumption), by first | assumption | exact Decidable.not_not.1 (by assumption)⟩]; exact firstIn_0 (by assumption)))
  exact Ends.ret (L' := (dcBlk qb v0 w0 :: (H0 ++ (dCaps l0 ++ K0)))) (res_one rfl (rv_cellK [_, _] rfl rfl rfl ⟨rfl, rfl, trivial⟩)) ⟨x, rfl, hacc x (.here hin), rfl⟩
 refine Tk 4 rfl ⟨_, _, rfl, rfl, rfl⟩ (pv_move rfl) rfl ?_
 refine Tk 5 rfl ⟨_, _, rfl, rfl, rfl⟩ (pv_loadK [_, _] rfl rfl rfl ⟨rfl, rfl, trivial⟩) rfl ?_
 refine AnyH.one 6 (by kernel_rfl) ?_
 refine Turn.ef rfl ⟨_, _, rfl, rfl, rfl⟩ (ef_callr (tr_dFinal qb (dcBlk qb v0 w0 :: (H0 ++ (dCaps l0 ++ K0))) p hH0 x) rfl rfl) ?_ ?_
 ·
  rintro _ _ ⟨rfl, rfl⟩; infer_instance
 rintro _ _ ⟨rfl, rfl⟩
 refine Tk 7 rfl ⟨_, _, rfl, rfl, rfl⟩ (pv_not_dec rfl) rfl ?_
 refine Tk 8 rfl rfl (pv_pick_false rfl rfl) rfl ?_
 refine Tk 9 rfl rfl (pv_move rfl) rfl ?_
 refine AnyH.split (t := 40) rfl (fun h3 => ?_) (fun h3 => ?_)
 ·
  refine Ts 10 rfl ⟨_, _, rfl, rfl, rfl⟩ rfl ?_
  refine Ts 11 rfl ⟨_, _, rfl, rfl, rfl⟩ rfl ?_
  refine Ts 12 rfl ⟨_, _, rfl, rfl, rfl⟩ rfl ?_
  refine Ts 13 rfl ⟨_, _, rfl, rfl, rfl⟩ rfl ?_
  refine Ts 14 rfl ⟨_, _, rfl, rfl, rfl⟩ rfl ?_
  refine Ts 15 rfl ⟨_, _, rfl, rfl, rfl⟩ rfl ?_
  refine Ts 16 rfl ⟨_, _, rfl, rfl, rfl⟩ rfl ?_
  refine Tk 17 rfl rfl (pv_pick_true rfl rfl) rfl ?_
  refine AnyH.done (by kernel_rfl) ?_
  refine Ends.seq ?_
  refine Wp.cond_true rfl ?_
  refine Wr ?_
  refine Ops.pv (pv_loadK [_, _] rfl rfl rfl ⟨rfl, rfl, trivial⟩) rfl ?_
  refine Ops.ef rfl (ef_storeK rfl rfl rfl rfl) ?_
  rintro _ _ ⟨rfl, rfl⟩
  refine On ?_
  refine Wp.ret ?_
  refine Ends.then_ret ?_
  refine Ends.block_ret ?_
  refine Ends.then_ret ?_
  refine Ends.then_ret ?_
  refine Ends.block_ret ?_
  refine Ends.then_ret ?_
  have hin : innerM p.l (w ++ [x]) x = none := by unfold innerM; (first | rw [if_neg (fun hh => by first | exact absurd hh.1 (by assumption) | exact absurd hh.2 (by assumption))] | (rw [if_pos ⟨Decidable.not_not.1 (by assumption), by first | assumption | exact Decidable.not_not.1 (by assumption)⟩]; exact firstIn_0 (by assumption)))
  exact Ends.ret (L' := (dcBlk qb v0 w0 :: (H0 ++ (dCaps l0 ++ K0)))) (res_one rfl (rv_cellK [_, _] rfl rfl rfl ⟨rfl, rfl, trivial⟩)) ⟨x, rfl, hacc x (.here hin), rfl⟩
 refine Tk 10 rfl ⟨_, _, rfl, rfl, rfl⟩ (pv_move rfl) rfl ?_
 refine Tk 11 rfl ⟨_, _, rfl, rfl, rfl⟩ (pv_nilCheck rfl) rfl ?_
 refine Tk 12 rfl ⟨_, _, rfl, rfl, rfl⟩ (pv_fieldAddr0 rfl rfl) rfl ?_
 refine Tk 13 rfl ⟨_, _, rfl, rfl, rfl⟩ (pv_fieldAddr0 rfl rfl) rfl ?_
 refine Tk 14 rfl ⟨_, _, rfl, rfl, rfl⟩ (pv_load rfl rfl rfl) rfl ?_
 refine AnyH.one 15 (by kernel_rfl) ?_
 refine Turn.ef rfl ⟨_, _, rfl, rfl, rfl⟩ (ef_callr (dsf_radix (uT := w0) ⟨S0, l0, hR0, hQ0, v0, H0, hs0, rfl⟩ (dget p.l x).1.object) rfl rfl) ?_ ?_
 ·
  rintro _ _ ⟨rfl, rfl⟩; infer_instance
 rintro _ _ ⟨rfl, rfl⟩
 refine Tk 16 rfl ⟨_, _, rfl, rfl, rfl⟩ (pv_eql rfl rfl) rfl ?_
 refine Tk 17 rfl rfl (pv_pick_false rfl rfl) rfl ?_
 refine AnyH.done (by kernel_rfl) ?_
 refine Ends.seq ?_
 refine Wp.cond_dect rfl (fun h4 => ?_) (fun h4 => ?_)
 ·
  refine Wr ?_
  refine Ops.pv (pv_loadK [_, _] rfl rfl rfl ⟨rfl, rfl, trivial⟩) rfl ?_
  refine Ops.ef rfl (ef_storeK rfl rfl rfl rfl) ?_
  rintro _ _ ⟨rfl, rfl⟩
  refine On ?_
  refine Wp.ret ?_
  refine Ends.then_ret ?_
  refine Ends.block_ret ?_
  refine Ends.then_ret ?_
  refine Ends.then_ret ?_
  refine Ends.block_ret ?_
  refine Ends.then_ret ?_
  have hin : innerM p.l (w ++ [x]) x = none := by unfold innerM; (first | rw [if_neg (fun hh => by first | exact absurd hh.1 (by assumption) | exact absurd hh.2 (by assumption))] | (rw [if_pos ⟨Decidable.not_not.1 (by assumption), by first | assumption | exact Decidable.not_not.1 (by assumption)⟩]; exact firstIn_0 (by assumption)))
  exact Ends.ret (L' := (dcBlk qb v0 w0 :: (H0 ++ (dCaps l0 ++ K0)))) (res_one rfl (rv_cellK [_, _] rfl rfl rfl ⟨rfl, rfl, trivial⟩)) ⟨x, rfl, hacc x (.here hin), rfl⟩
 have hkf : (dget p.l x).1.kind = 2 ∧ fin p.l x := ⟨Decidable.not_not.1 (by assumption), by first | assumption | exact Decidable.not_not.1 (by assumption)⟩
 have hr0 : dradix p.l (dget p.l x).1.object ≠ 0 := by assumption
 have hie : innerM p.l (w ++ [x]) x = firstIn p.l (w ++ [x]) (dget p.l x).1.object := by unfold innerM; rw [if_pos hkf]
 have hrd := dradix_le hok.rel (dget p.l x).1.object
 have hpw : (2 ^ (dradix p.l (dget p.l x).1.object).toNat) ≤ 2 ^ 4 := Nat.pow_le_pow_right (by omega) (by omega)
 have hpi : (0 : Int) ≤ (((2 ^ (dradix p.l (dget p.l x).1.object).toNat) : Nat) : Int) := Int.natCast_nonneg _
 have hpj : (((2 ^ (dradix p.l (dget p.l x).1.object).toNat) : Nat) : Int) ≤ 16 := by exact_mod_cast hpw
 refine Wp.skip ?_
 refine Ends.seq ?_
 refine Wr ?_
 refine Oa1 rfl rfl ?_
 refine On ?_
 refine Wr ?_
 refine Ops.pv (pv_loadK [_, _] rfl rfl rfl ⟨rfl, rfl, trivial⟩) rfl ?_
 refine Ops.ef rfl (ef_allocK tyZ31 rfl) ?_
 rintro _ _ ⟨b6, rfl, rfl⟩
 refine Ops.ef rfl (ef_storeK rfl rfl rfl rfl) ?_
 rintro _ _ ⟨rfl, rfl⟩
 refine On ?_
 refine Wp.seq ?_
 refine Wp.seq ?_
 refine AnyH.start ((bw, .cells (dget p.l x).1.cells.toArray 25) :: []) 9 rfl ?_
 refine Tk 0 rfl rfl (pv_move rfl) rfl ?_
 refine Tk 1 rfl rfl (pv_nilCheck rfl) rfl ?_
 refine Tk 2 rfl rfl (pv_fieldAddr0 rfl rfl) rfl ?_
 refine Tk 3 rfl rfl (pv_fieldAddr0 rfl rfl) rfl ?_
 refine Tk 4 rfl rfl (pv_load rfl rfl rfl) rfl ?_
 refine AnyH.one 5 (by kernel_rfl) ?_
 refine Turn.ef rfl rfl (ef_callr (dsf_radix (uT := w0) ⟨S0, l0, hR0, hQ0, v0, H0, hs0, rfl⟩ (dget p.l x).1.object) rfl rfl) ?_ ?_
 ·
  rintro _ _ ⟨rfl, rfl⟩; infer_instance
 rintro _ _ ⟨rfl, rfl⟩
 refine Tk 6 rfl rfl (pv_shl rfl rfl (by omega) (shl_r hrd)) rfl ?_
 refine Tk 7 rfl rfl (pv_sub rfl rfl (w64 (by omega) (by omega))) rfl ?_
 refine Tk 8 rfl rfl (pv_assign rfl) rfl ?_
 refine AnyH.done (by kernel_rfl) ?_
 refine Ends.seq ?_
 refine Wp.block ?_
 refine Wp.loopK (σ := Nat × Nat × SlotM) [(0, _), (3, _), (4, _), (5, _), (6, _), (7, _), (10, _)] (fun s => [(9, .int .i64 s.2.1), (11, .int .i64 ((s.1 : Int) - 1))]) (fun s => (b6, .cells [.int .i64 s.2.2.1, .int .i64 s.2.2.2].toArray 31) :: (bw, .cells (dget p.l x).1.cells.toArray 25) :: (b1, .cells [.int .i64 x.1, .int .i64 x.2].toArray 31) :: (b2, .cells [.int .i64 0, .int .i64 0].toArray 31) :: (K1 ++ (dcBlk qb v0 w0 :: (H0 ++ (dCaps l0 ++ (K0 ++ F)))))) (fun s => s.1 ≤ (2 ^ (dradix p.l (dget p.l x).1.object).toNat) ∧ s.2.1 + s.1 ≤ (2 ^ (dradix p.l (dget p.l x).1.object).toNat) ∧ Seen p.l (w ++ [x]) (dget p.l x).1.object (2 ^ (dradix p.l (dget p.l x).1.object).toNat) s.1 s.2.1 s.2.2) (fun s => s.1) ((2 ^ (dradix p.l (dget p.l x).1.object).toNat), 0, x) ⟨Nat.le_refl _, by dsimp only; omega, .inl ⟨rfl, fun q h1 h2 => absurd h2 (by dsimp only at h1; omega)⟩⟩ ⟨rfl, rfl, rfl, rfl, rfl, rfl, rfl, trivial⟩ ⟨rfl, rfl, trivial⟩ (by intro w ho; (try dsimp only [List.nil_append, List.cons_append]); exact Drop.own ho) ?_
 rintro ⟨j9, m, z⟩ KK ⟨hj9, hmj, hsn⟩ hK1
 dsimp only [List.cons_append, List.nil_append] at hK1 ⊢
 dsimp only at hj9 hmj hsn ⊢
 refine Wp.seq ?_
 refine Wr ?_
 refine Om1 rfl rfl ?_
 refine Ops.pv (pv_geq rfl rfl) rfl ?_
 refine On ?_
 refine Wp.cond_dect rfl (fun h5 => ?_) (fun h5 => ?_)
 ·
  obtain ⟨j, rfl⟩ : ∃ q, j9 = q + 1 := ⟨j9 - 1, by omega⟩
  have hj1 : ((j + 1 : Nat) : Int) - 1 = (j : Int) := by omega
  rw [hj1]
  refine Wp.skip ?_
  refine Ends.seq ?_
  refine Wp.seq ?_
  refine Wp.block ?_
  refine Wr ?_
  refine Of1 rfl rfl rfl ?_
  refine Ol1 rfl rfl rfl rfl ?_
  refine Om1 rfl rfl ?_
  refine Ops.pv (pv_build rfl) rfl ?_
  refine Ops.ef rfl (ef_allocK tyZ31 rfl) ?_
  rintro _ _ ⟨b7, rfl, rfl⟩
  refine Ops.ef rfl (ef_storeK rfl rfl rfl rfl) ?_
  rintro _ _ ⟨rfl, rfl⟩
  refine On ?_
  refine Wp.cutK (σ := Nat) [(0, _), (3, _), (4, _), (5, _), (6, _), (7, _), (9, _), (10, _), (11, _), (12, _)] (fun s => [(13, .pointer (some ⟨s, 0, none⟩))]) (fun s => (s, .cells (dget p.l ((dget p.l x).1.object, (j : Int))).1.cells.toArray 25) :: (b7, .cells [.int .i64 (dget p.l x).1.object, .int .i64 (j : Int)].toArray 31) :: (b6, .cells [.int .i64 z.1, .int .i64 z.2].toArray 31) :: (bw, .cells (dget p.l x).1.cells.toArray 25) :: (b1, .cells [.int .i64 x.1, .int .i64 x.2].toArray 31) :: (b2, .cells [.int .i64 0, .int .i64 0].toArray 31) :: (K1 ++ (dcBlk qb v0 w0 :: (H0 ++ (dCaps l0 ++ (K0 ++ F)))))) (fun s => True) ⟨rfl, rfl, rfl, rfl, rfl, rfl, rfl, rfl, rfl, rfl, trivial⟩ (fun _ KK hC0 => ?_) ?_
  ·
   dsimp only [List.cons_append, List.nil_append] at hC0
   refine AnyH.start ((b7, .cells [.int .i64 (dget p.l x).1.object, .int .i64 (j : Int)].toArray 31) :: []) 11 rfl ?_
   refine Tk 0 rfl rfl (pv_move rfl) rfl ?_
   refine Tk 1 rfl rfl (pv_nilCheck rfl) rfl ?_
   refine Tk 2 rfl rfl (pv_fieldAddr0 rfl rfl) rfl ?_
   refine Tk 3 rfl rfl (pv_loadK [_, _] rfl rfl rfl ⟨rfl, rfl, trivial⟩) rfl ?_
   refine AnyH.two 4 8 (by kernel_rfl) ?_ ?_
   ·
    refine Turn.ef rfl rfl (ef_callr (dsf_get (uT := w0) ⟨S0, l0, hR0, hQ0, v0, H0, hs0, rfl⟩ ((dget p.l x).1.object, (j : Int))) rfl rfl) ?_ ?_
    ·
     rintro _ _ ⟨rfl, rfl⟩; infer_instance
    rintro _ _ ⟨rfl, rfl⟩
    refine Tk 5 rfl rfl (pv_move rfl) rfl ?_
    refine Tk 6 rfl rfl (pv_extract rfl rfl) rfl ?_
    refine Tk 7 rfl rfl (pv_extract rfl rfl) rfl ?_
    refine AnyH.one 8 (by kernel_rfl) ?_
    refine Turn.ef rfl rfl (ef_allocK tyZ25 rfl) ?_ ?_
    ·
     rintro _ _ ⟨b8, rfl, rfl⟩; infer_instance
    rintro _ _ ⟨b8, rfl, rfl⟩
    refine AnyH.one 9 (by kernel_rfl) ?_
    refine Turn.ef rfl rfl (ef_storeK rfl rfl rfl rfl) ?_ ?_
    ·
     rintro _ _ ⟨rfl, rfl⟩; infer_instance
    rintro _ _ ⟨rfl, rfl⟩
    refine Tk 10 rfl rfl (pv_assign rfl) rfl ?_
    refine AnyH.done (by kernel_rfl) ?_
    refine Ends.goes ?_
    refine Goes.back (hC0 b8 trivial) ⟨rfl, rfl, rfl, rfl, rfl, rfl, rfl, rfl, rfl, rfl, rfl, trivial⟩
   refine Turn.ef rfl rfl (ef_allocK tyZ25 rfl) ?_ ?_
   ·
    rintro _ _ ⟨b9, rfl, rfl⟩; infer_instance
   rintro _ _ ⟨b9, rfl, rfl⟩
   refine AnyH.one 4 (by kernel_rfl) ?_
   refine Turn.ef rfl rfl (ef_callr (dsf_get (uT := w0) ⟨S0, l0, hR0, hQ0, v0, H0, hs0, rfl⟩ ((dget p.l x).1.object, (j : Int))) rfl rfl) ?_ ?_
   ·
    rintro _ _ ⟨rfl, rfl⟩; infer_instance
   rintro _ _ ⟨rfl, rfl⟩
   refine Tk 5 rfl rfl (pv_move rfl) rfl ?_
   refine Tk 6 rfl rfl (pv_extract rfl rfl) rfl ?_
   refine Tk 7 rfl rfl (pv_extract rfl rfl) rfl ?_
   refine AnyH.one 9 (by kernel_rfl) ?_
   refine Turn.ef rfl rfl (ef_storeK rfl rfl rfl rfl) ?_ ?_
   ·
    rintro _ _ ⟨rfl, rfl⟩; infer_instance
   rintro _ _ ⟨rfl, rfl⟩
   refine Tk 10 rfl rfl (pv_assign rfl) rfl ?_
   refine AnyH.done (by kernel_rfl) ?_
   refine Ends.goes ?_
   refine Goes.back (hC0 b9 trivial) ⟨rfl, rfl, rfl, rfl, rfl, rfl, rfl, rfl, rfl, rfl, rfl, trivial⟩
  rintro bv _
  dsimp only [List.cons_append, List.nil_append] at ⊢
  refine Wr ?_
  refine Of1 rfl rfl rfl ?_
  refine Ol1 rfl rfl rfl rfl ?_
  refine Ops.pv (pv_neq rfl rfl) rfl ?_
  refine Om1 rfl rfl ?_
  refine Ops.split (t := 78) rfl (fun h6 => ?_) (fun h6 => ?_)
  ·
   refine Ops.pvg ⟨_, _, rfl, rfl, rfl⟩ (pv_move rfl) rfl ?_
   refine Ops.pvg ⟨_, _, rfl, rfl, rfl⟩ (pv_loadK [_, _] rfl rfl rfl ⟨rfl, rfl, trivial⟩) rfl ?_
   refine Ops.efg ⟨_, _, rfl, rfl, rfl⟩ (ef_callr (tr_dAmong K1 _ _ (w ++ [x]) ((dget p.l x).1.object, (j : Int)) hvw (by omega)) rfl rfl) ?_
   rintro _ _ ⟨rfl, rfl⟩
   refine Ops.pvg ⟨_, _, rfl, rfl, rfl⟩ (pv_not_dec rfl) rfl ?_
   refine Ops.pv (pv_pick_true rfl rfl) rfl ?_
   refine On ?_
   refine Wp.cond_dect rfl (fun h7 => ?_) (fun h7 => ?_)
   ·
    refine Wr ?_
    refine Ops.pv (pv_loadK [_, _] rfl rfl rfl ⟨rfl, rfl, trivial⟩) rfl ?_
    refine Ops.ef rfl (ef_storeK rfl rfl rfl rfl) ?_
    rintro _ _ ⟨rfl, rfl⟩
    refine On ?_
    refine Wp.region ?_
    refine Om1 rfl rfl ?_
    refine Ops.pv (pv_add rfl rfl (w64n (k := m + 1) (by omega) (by omega))) rfl ?_
    refine Oa1 rfl rfl ?_
    refine Ops.nil ?_
    refine Ends.block_normal ?_
    refine Ends.seq ?_
    refine Wp.region ?_
    refine Om1 rfl rfl ?_
    refine Ops.pv (pv_sub rfl rfl (w64 (by omega) (by omega))) rfl ?_
    refine Oa1 rfl rfl ?_
    refine Ops.nil ?_
    refine Ends.goes ?_
    refine Goes.back (hK1 (j, m + 1, ((dget p.l x).1.object, (j : Int))) ⟨by dsimp only; omega, by dsimp only; omega, hsn.hit (by omega) ⟨by assumption, by assumption⟩⟩ (by dsimp only; omega)) ⟨rfl, rfl, rfl, rfl, rfl, rfl, rfl, rfl, rfl, trivial⟩
   refine Wp.skip ?_
   refine Ends.block_normal ?_
   refine Ends.seq ?_
   refine Wp.region ?_
   refine Om1 rfl rfl ?_
   refine Ops.pv (pv_sub rfl rfl (w64 (by omega) (by omega))) rfl ?_
   refine Oa1 rfl rfl ?_
   refine Ops.nil ?_
   refine Ends.goes ?_
   refine Goes.back (hK1 (j, m, z) ⟨by dsimp only; omega, by dsimp only; omega, hsn.pass (by first | exact .inr (Decidable.not_not.1 (by assumption)) | exact .inl (Decidable.not_not.1 (by assumption)) | exact .inl (by assumption) | exact .inr (by assumption))⟩ (by dsimp only; omega)) ⟨rfl, rfl, rfl, rfl, rfl, rfl, rfl, rfl, rfl, trivial⟩
  refine Os1 rfl rfl rfl rfl ?_
  refine Os1 rfl rfl rfl rfl ?_
  refine Os1 rfl rfl rfl rfl ?_
  refine Os1 rfl rfl rfl rfl ?_
  refine Ops.pv (pv_pick_false rfl rfl) rfl ?_
  refine On ?_
  refine Wp.cond_false rfl ?_
  refine Wp.skip ?_
  refine Ends.block_normal ?_
  refine Ends.seq ?_
  refine Wp.region ?_
  refine Om1 rfl rfl ?_
  refine Ops.pv (pv_sub rfl rfl (w64 (by omega) (by omega))) rfl ?_
  refine Oa1 rfl rfl ?_
  refine Ops.nil ?_
  refine Ends.goes ?_
  refine Goes.back (hK1 (j, m, z) ⟨by dsimp only; omega, by dsimp only; omega, hsn.pass (by first | exact .inr (Decidable.not_not.1 (by assumption)) | exact .inl (Decidable.not_not.1 (by assumption)) | exact .inl (by assumption) | exact .inr (by assumption))⟩ (by dsimp only; omega)) ⟨rfl, rfl, rfl, rfl, rfl, rfl, rfl, rfl, rfl, trivial⟩
 obtain rfl : j9 = 0 := by omega
 refine Wp.exit ?_
 refine Ends.then_exit ?_
 refine Ends.then_exit ?_
 refine Ends.block_hit ?_
 refine Ends.seq ?_
 refine Wp.seq ?_
 refine Wr ?_
 refine Om1 rfl rfl ?_
 refine Ops.pv (pv_eql rfl rfl) rfl ?_
 refine On ?_
 refine Wp.cond_dect rfl (fun h8 => ?_) (fun h8 => ?_)
 ·
  have hin : innerM p.l (w ++ [x]) x = none := hie.trans ((hsn.first hr0).trans (if_pos (by omega)))
  refine Wr ?_
  refine Ops.pv (pv_loadK [_, _] rfl rfl rfl ⟨rfl, rfl, trivial⟩) rfl ?_
  refine Ops.ef rfl (ef_storeK rfl rfl rfl rfl) ?_
  rintro _ _ ⟨rfl, rfl⟩
  refine On ?_
  refine Wp.ret ?_
  refine Ends.then_ret ?_
  refine Ends.block_ret ?_
  refine Ends.then_ret ?_
  refine Ends.then_ret ?_
  refine Ends.block_ret ?_
  refine Ends.then_ret ?_
  exact Ends.ret (L' := (dcBlk qb v0 w0 :: (H0 ++ (dCaps l0 ++ K0)))) (res_one rfl (rv_cellK [_, _] rfl rfl rfl ⟨rfl, rfl, trivial⟩)) ⟨x, rfl, hacc x (.here hin), rfl⟩
 have hin : innerM p.l (w ++ [x]) x = some z := hie.trans ((hsn.first hr0).trans (if_neg (by omega)))
 have hlt := freeW_lt hok.rel (innerM_some hin).2.1 (innerM_some hin).2.2.1
 refine Wp.skip ?_
 refine Ends.seq ?_
 refine Wp.region ?_
 refine Ops.pv (pv_loadK [_, _] rfl rfl rfl ⟨rfl, rfl, trivial⟩) rfl ?_
 refine Ops.ef rfl (ef_storeK rfl rfl rfl rfl) ?_
 rintro _ _ ⟨rfl, rfl⟩
 refine Ops.nil ?_
 refine Ends.block_normal ?_
 refine Ends.seq ?_
 refine Wp.region ?_
 refine Om1 rfl rfl ?_
 refine Ops.pv (pv_add rfl rfl (w64n (k := i + 1) (by omega) (by omega))) rfl ?_
 refine Oa1 rfl rfl ?_
 refine Ops.nil ?_
 refine Ends.goes ?_
 refine Goes.back (hK (i + 1, z, w ++ [x], pu, qu, K1) ⟨hW, by dsimp only; omega, hwx, fun y h => hacc y (.down hin h)⟩ (by dsimp only; omega)) ⟨rfl, rfl, rfl, rfl, rfl, trivial⟩
end Go.Proofs.YtdodfnjmkpgdbaaGreat
end
section
set_option linter.unusedVariables false
set_option linter.unusedSimpArgs false
set_option linter.unusedSectionVars false
namespace Go.Proofs.YtdodfnjmkpgdbaaGreat
open Go.SL
set_option maxHeartbeats 4000000 in
theorem tr_dStep (qb n : Nat) (L : Hp) (p : PS) (hH : DcH p qb L) (hok : POk p) (told : List CapM) (a : Option Addr) (c : Nat) (T : Hp) (hsl : Slc 25 6 (.slice a told.length c) told.length (cel CapM.cells told) T) (hb : told.length ≤ 2 ^ 40) (s : SlotM) : Tr Tryz.prog 71 [.pointer (some ⟨qb, 0, none⟩), slotV s, .slice a told.length c] (T ++ L) (fun u L' => ∃ u2 c2 T' L2, u = .slice u2 (stepT ⟨p, told, n⟩ s).told.length c2 ∧ Slc 25 6 (.slice u2 (stepT ⟨p, told, n⟩ s).told.length c2) (stepT ⟨p, told, n⟩ s).told.length (cel CapM.cells (stepT ⟨p, told, n⟩ s).told) T' ∧ DcH (stepT ⟨p, told, n⟩ s).p qb L2 ∧ L' = T' ++ L2) := by
 have hH0 := hH
 obtain ⟨S0, l0, v0, H0, w0, K0, hR0, hQ0, hs0, ht0, rfl⟩ := hH
 have htf : (mTake p s).1 = (dget p.l s).1 := take_fst hok.rel
 refine Tr.enter Tryz.func71 rfl Tryz.ntmps71 rfl (fun W F => ?_)
 refine Wp.app ?_
 refine Wr ?_
 refine Ops.ef rfl (ef_boxK rfl rfl) ?_
 rintro _ _ ⟨b1, rfl, rfl⟩
 refine Oa1 rfl rfl ?_
 refine On ?_
 refine Wr ?_
 refine Om1 rfl rfl ?_
 refine Ops.pv (pv_loadK [_, _] rfl rfl rfl ⟨rfl, rfl, trivial⟩) rfl ?_
 refine Ops.ef rfl (ef_callr (tr_dFinal qb (dcBlk qb v0 w0 :: (H0 ++ (dCaps l0 ++ K0))) p hH0 s) rfl rfl) ?_
 rintro _ _ ⟨rfl, rfl⟩
 refine Oa1 rfl rfl ?_
 refine On ?_
 refine Wr ?_
 refine Om1 rfl rfl ?_
 refine Ops.pv (pv_loadK [_, _] rfl rfl rfl ⟨rfl, rfl, trivial⟩) rfl ?_
 refine Ops.ef rfl (ef_call (tr_dTake qb (dcBlk qb v0 w0 :: (H0 ++ (dCaps l0 ++ K0))) p hH0 hok (F_le hok) s) rfl rfl) ?_
 rintro _ _ ⟨_, Q1, ⟨rfl, hH2⟩, rfl, rfl⟩
 refine Ops.app ?_
 rw [htf]
 refine Om1 rfl rfl ?_
 refine Ops.pv (pv_extract rfl rfl) rfl ?_
 refine Ops.pv (pv_extract rfl rfl) rfl ?_
 refine Ops.ef rfl (ef_allocK tyZ25 rfl) ?_
 rintro _ _ ⟨b2, rfl, rfl⟩
 refine Ops.ef rfl (ef_storeK rfl rfl rfl rfl) ?_
 rintro _ _ ⟨rfl, rfl⟩
 refine Oa1 rfl rfl ?_
 refine On ?_
 refine Wp.seq ?_
 refine Wr ?_
 refine Om1 rfl rfl ?_
 refine On ?_
 refine Wp.cond_dect rfl (fun h1 => ?_) (fun h1 => ?_)
 ·
  refine Wr ?_
  refine Om1 rfl rfl ?_
  refine Ops.pv (pv_loadK [_, _, _, _, _, _] rfl rfl rfl ⟨rfl, rfl, rfl, rfl, rfl, rfl, trivial⟩) rfl ?_
  refine Ops.ef rfl (ef_buildSlice1 (k := 6) rfl rfl rfl rfl rfl) ?_
  rintro _ _ ⟨b3, rfl, rfl⟩
  refine Ops.ef rfl (ef_append (H := T) (xs := (dget p.l s).1.cells) rfl hsl rfl ⟨rfl, rfl, rfl, rfl, rfl, rfl, trivial⟩ rfl rfl rfl (by omega) (by omega) rfl rfl) ?_
  rintro _ _ ⟨u1, K1, hu1, rfl, rfl⟩
  refine Ops.app ?_
  have hut : Slc 25 6 u1 (told ++ [(dget p.l s).1]).length (cel CapM.cells (told ++ [(dget p.l s).1])) K1 := by rw [cel_app, cel_one1, List.length_append]; exact hu1
  obtain ⟨pu, qu, rfl⟩ := hut.form
  refine Oa1 rfl rfl ?_
  refine On ?_
  refine Wr ?_
  refine Of1 rfl rfl rfl ?_
  refine Ol1 rfl rfl rfl rfl ?_
  refine Ops.pv (pv_eql rfl rfl) rfl ?_
  refine On ?_
  refine Wp.cond_dect rfl (fun h2 => ?_) (fun h2 => ?_)
  ·
   obtain ⟨S1, l1, v1, H1, w1, K9, hR1, hQ1, hs1, ht1, rfl⟩ := hH2
   simp only [List.cons_append, List.append_assoc]
   refine AnyH.start ((b2, .cells (dget p.l s).1.cells.toArray 25) :: []) 6 rfl ?_
   refine Tk 0 rfl rfl (pv_move rfl) rfl ?_
   refine Tk 1 rfl rfl (pv_nilCheck rfl) rfl ?_
   refine Tk 2 rfl rfl (pv_fieldAddr0 rfl rfl) rfl ?_
   refine Tk 3 rfl rfl (pv_fieldAddr0 rfl rfl) rfl ?_
   refine Tk 4 rfl rfl (pv_load rfl rfl rfl) rfl ?_
   refine AnyH.one 5 (by kernel_rfl) ?_
   refine Turn.ef rfl rfl (ef_call (dsf_drop (uT := w1) ⟨S1, l1, hR1, hQ1, v1, H1, hs1, rfl⟩ (dget p.l s).1.object) rfl rfl) ?_ ?_
   ·
    rintro _ _ ⟨_, _, ⟨rfl, S2, l2, hR2, hQ2, v2, H2, hs2, rfl⟩, rfl, rfl⟩; infer_instance
   rintro _ _ ⟨_, _, ⟨rfl, S2, l2, hR2, hQ2, v2, H2, hs2, rfl⟩, rfl, rfl⟩
   refine AnyH.app ?_
   refine AnyH.done (by kernel_rfl) ?_
   refine Ends.seq ?_
   refine Wr ?_
   refine Om1 rfl rfl ?_
   refine Oa1 rfl rfl ?_
   refine On ?_
   refine Wp.ret ?_
   have he : stepT (⟨p, told, n⟩ : TS) s = _ := stepT_c (t := ⟨p, told, n⟩) (s := s) (by assumption) (by assumption)
   rw [he]
   exact Ends.ret (L' := K1 ++ (dcBlk qb v2 w1 :: (H2 ++ (dCaps l2 ++ K9)))) (res1 rfl rfl) ⟨_, _, _, _, rfl, hut, ⟨S2, l2, v2, H2, w1, K9, hR2, hQ2, hs2, ht1, rfl⟩, rfl⟩
  refine Wp.skip ?_
  refine Ends.seq ?_
  refine Wr ?_
  refine Om1 rfl rfl ?_
  refine Oa1 rfl rfl ?_
  refine On ?_
  refine Wp.ret ?_
  have he : stepT (⟨p, told, n⟩ : TS) s = _ := stepT_f (t := ⟨p, told, n⟩) (s := s) (by assumption) (by assumption)
  rw [he]
  exact Ends.ret (L' := K1 ++ Q1) (res1 rfl rfl) ⟨_, _, _, _, rfl, hut, hH2, rfl⟩
 refine Wp.skip ?_
 refine Ends.seq ?_
 refine Wr ?_
 refine Om1 rfl rfl ?_
 refine Oa1 rfl rfl ?_
 refine On ?_
 refine Wp.ret ?_
 have he : stepT (⟨p, told, n⟩ : TS) s = _ := stepT_n (t := ⟨p, told, n⟩) (s := s) (by assumption)
 rw [he]
 exact Ends.ret (L' := T ++ Q1) (res1 rfl rfl) ⟨_, _, _, _, rfl, hsl, hH2, rfl⟩
theorem tr_dDelE (qb : Nat) (L : Hp) (p : PS) (hH : DcH p qb L) (sl : SlotM) (k : Int) (h : rvErr p.l sl k ≠ 0) : TrR Tryz.prog 21 [.pointer (some ⟨qb, 0, none⟩), slotV sl, .int .i64 k] (L) (.tuple #[.slice none 0 0, .bool false, .int .i64 (rvErr p.l sl k)]) := by
 refine Tr.enter Tryz.func21 rfl Tryz.ntmps21 rfl (fun W F => ?_)
 refine Wp.app ?_
 refine Wr ?_
 refine Ops.ef rfl (ef_boxK rfl rfl) ?_
 rintro _ _ ⟨b1, rfl, rfl⟩
 refine Oa1 rfl rfl ?_
 refine Oa1 rfl rfl ?_
 refine Oa1 rfl rfl ?_
 refine On ?_
 refine Wr ?_
 refine Om1 rfl rfl ?_
 refine Ops.pv (pv_loadK [_, _] rfl rfl rfl ⟨rfl, rfl, trivial⟩) rfl ?_
 refine Om1 rfl rfl ?_
 refine Ops.ef rfl (ef_callr (tr_dCheck qb L p hH sl k) rfl rfl) ?_
 rintro _ _ ⟨rfl, rfl⟩
 refine Oa1 rfl rfl ?_
 refine On ?_
 refine Wp.seq ?_
 refine Wr ?_
 refine Om1 rfl rfl ?_
 refine Ops.pv ((pv_neq rfl rfl).tru (by first | rfl | decide | omega | assumption | (simp; done) | (simp; omega))) rfl ?_
 refine On ?_
 refine Wp.cond_true rfl ?_
 refine Wr ?_
 refine Om1 rfl rfl ?_
 refine Oa1 rfl rfl ?_
 refine Oa1 rfl rfl ?_
 refine Oa1 rfl rfl ?_
 refine On ?_
 refine Wp.ret ?_
 refine Ends.then_ret ?_
 exact Ends.ret (res3 rfl rfl rfl rfl) ⟨rfl, rfl⟩
theorem tr_dRevE (qb : Nat) (L : Hp) (p : PS) (hH : DcH p qb L) (sl : SlotM) (k : Int) (h : rvErr p.l sl k ≠ 0) : TrR Tryz.prog 24 [.pointer (some ⟨qb, 0, none⟩), slotV sl, .int .i64 k] (L) (.tuple #[.slice none 0 0, .bool false, .int .i64 (rvErr p.l sl k)]) := by
 refine Tr.enter Tryz.func24 rfl Tryz.ntmps24 rfl (fun W F => ?_)
 refine Wp.app ?_
 refine Wr ?_
 refine Ops.ef rfl (ef_boxK rfl rfl) ?_
 rintro _ _ ⟨b1, rfl, rfl⟩
 refine Oa1 rfl rfl ?_
 refine Oa1 rfl rfl ?_
 refine Oa1 rfl rfl ?_
 refine On ?_
 refine Wr ?_
 refine Om1 rfl rfl ?_
 refine Ops.pv (pv_loadK [_, _] rfl rfl rfl ⟨rfl, rfl, trivial⟩) rfl ?_
 refine Om1 rfl rfl ?_
 refine Ops.ef rfl (ef_callr (tr_dCheck qb L p hH sl k) rfl rfl) ?_
 rintro _ _ ⟨rfl, rfl⟩
 refine Oa1 rfl rfl ?_
 refine On ?_
 refine Wp.seq ?_
 refine Wr ?_
 refine Om1 rfl rfl ?_
 refine Ops.pv ((pv_neq rfl rfl).tru (by first | rfl | decide | omega | assumption | (simp; done) | (simp; omega))) rfl ?_
 refine On ?_
 refine Wp.cond_true rfl ?_
 refine Wr ?_
 refine Om1 rfl rfl ?_
 refine Oa1 rfl rfl ?_
 refine Oa1 rfl rfl ?_
 refine Oa1 rfl rfl ?_
 refine On ?_
 refine Wp.ret ?_
 refine Ends.then_ret ?_
 exact Ends.ret (res3 rfl rfl rfl rfl) ⟨rfl, rfl⟩
set_option maxHeartbeats 4000000 in
theorem tr_dDel (qb : Nat) (L : Hp) (p : PS) (hH : DcH p qb L) (hok : POk p) (sl : SlotM) (k : Nat) (hk : rvErr p.l sl k = 0) (b : Bool) (t' : TS) (hd : DRun [sl] sl ⟨p, [], k⟩ b t') : Tr Tryz.prog 21 [.pointer (some ⟨qb, 0, none⟩), slotV sl, .int .i64 k] (L) (fun u L' => ∃ v' c' T' L2, Slc 25 6 (.slice v' t'.told.length c') t'.told.length (cel CapM.cells t'.told) T' ∧ DcH t'.p qb L2 ∧ u = .tuple #[.slice v' t'.told.length c', .bool b, .int .i64 (if b = true then 0 else 11)] ∧ L' = T' ++ L2) := by
 have hk9 := rvErr_range hk
 refine Tr.enter Tryz.func21 rfl Tryz.ntmps21 rfl (fun W F => ?_)
 refine Wp.app ?_
 refine Wr ?_
 refine Ops.ef rfl (ef_boxK rfl rfl) ?_
 rintro _ _ ⟨b1, rfl, rfl⟩
 refine Oa1 rfl rfl ?_
 refine Oa1 rfl rfl ?_
 refine Oa1 rfl rfl ?_
 refine On ?_
 refine Wr ?_
 refine Om1 rfl rfl ?_
 refine Ops.pv (pv_loadK [_, _] rfl rfl rfl ⟨rfl, rfl, trivial⟩) rfl ?_
 refine Om1 rfl rfl ?_
 refine Ops.ef rfl (ef_callr (tr_dCheck qb L p hH sl k) rfl rfl) ?_
 rintro _ _ ⟨rfl, rfl⟩
 refine Oa1 rfl rfl ?_
 refine On ?_
 refine Wp.seq ?_
 refine Wr ?_
 refine Om1 rfl rfl ?_
 refine Ops.pv ((pv_neq rfl rfl).fls (by first | exact fun h => h rfl | decide | omega | assumption)) rfl ?_
 refine On ?_
 refine Wp.cond_false rfl ?_
 refine Wp.skip ?_
 refine Ends.seq ?_
 refine Wr ?_
 refine Oa1 rfl rfl ?_
 refine On ?_
 refine Wp.seq ?_
 refine Wr ?_
 refine Oa1 rfl rfl ?_
 refine On ?_
 refine Wp.block ?_
 refine Wp.loopK (σ := Nat × TS × Option Addr × Nat × Hp × Hp) [(0, _), (2, _), (4, _)] (fun s => [(10, .slice s.2.2.1 s.2.1.told.length s.2.2.2.1), (11, .int .i64 s.1)]) (fun s => (b1, .cells [.int .i64 sl.1, .int .i64 sl.2].toArray 31) :: (s.2.2.2.2.1 ++ (s.2.2.2.2.2 ++ F))) (fun s => s.1 + s.2.1.n = k ∧ Slc 25 6 (.slice s.2.2.1 s.2.1.told.length s.2.2.2.1) s.2.1.told.length (cel CapM.cells s.2.1.told) s.2.2.2.2.1 ∧ DcH s.2.1.p qb s.2.2.2.2.2 ∧ POk s.2.1.p ∧ DRun [sl] sl s.2.1 b t' ∧ s.2.1.told.length + s.2.1.n ≤ k) (fun s => s.2.1.n) (0, ⟨p, [], k⟩, none, 0, [], L) ⟨by dsimp only; omega, Slc.nil _ _, hH, hok, hd, by dsimp only; rw [List.length_nil]; omega⟩ ⟨rfl, rfl, rfl, trivial⟩ ⟨rfl, rfl, trivial⟩ (by intro w ho; (try dsimp only [List.nil_append, List.cons_append]); exact Drop.own ho) ?_
 rintro ⟨i, t, pa, qa, T, L⟩ KK ⟨hin, hsl, hD, hpo, hd, htn⟩ hK
 dsimp only [List.cons_append, List.nil_append] at hK ⊢
 dsimp only at hin hsl hD hpo hd htn ⊢
 obtain ⟨S0, l0, v0, H0, w0, K0, hR0, hQ0, hs0, ht0, rfl⟩ := hD
 simp only [List.cons_append, List.append_assoc]
 refine Wp.seq ?_
 refine Wr ?_
 refine Om1 rfl rfl ?_
 refine Om1 rfl rfl ?_
 refine Ops.pv (pv_lss rfl rfl) rfl ?_
 refine On ?_
 refine Wp.cond_dect rfl (fun h1 => ?_) (fun h1 => ?_)
 ·
  have hn0 : t.n ≠ 0 := by omega
  refine Wp.skip ?_
  refine Ends.seq ?_
  refine Wp.seq ?_
  refine Wp.block ?_
  refine Wr ?_
  refine Om1 rfl rfl ?_
  refine Ops.pv (pv_loadK [_, _] rfl rfl rfl ⟨rfl, rfl, trivial⟩) rfl ?_
  refine Ops.ef rfl (ef_call (tr_dNext qb (dcBlk qb v0 w0 :: (H0 ++ (dCaps l0 ++ K0))) t.p ⟨S0, l0, v0, H0, w0, K0, hR0, hQ0, hs0, ht0, rfl⟩ hpo sl) rfl rfl) ?_
  rintro _ _ ⟨_, _, ⟨y, rfl, hy, rfl⟩, rfl, rfl⟩
  refine Ops.app ?_
  refine Ops.ef rfl (ef_allocK tyZ31 rfl) ?_
  rintro _ _ ⟨b2, rfl, rfl⟩
  refine Ops.ef rfl (ef_storeK rfl rfl rfl rfl) ?_
  rintro _ _ ⟨rfl, rfl⟩
  refine On ?_
  refine Wr ?_
  refine Om1 rfl rfl ?_
  refine Ops.pv (pv_loadK [_, _] rfl rfl rfl ⟨rfl, rfl, trivial⟩) rfl ?_
  refine Om1 rfl rfl ?_
  refine Ops.ef rfl (ef_call (tr_dStep qb t.n (dcBlk qb v0 w0 :: (H0 ++ (dCaps l0 ++ K0))) t.p ⟨S0, l0, v0, H0, w0, K0, hR0, hQ0, hs0, ht0, rfl⟩ hpo t.told pa qa T hsl (by omega) y) rfl rfl) ?_
  rintro _ _ ⟨_, _, ⟨pu, qu, T2, L2, rfl, hs2, hD2, rfl⟩, rfl, rfl⟩
  refine Ops.app ?_
  have hn1 : (stepT t y).n = t.n - 1 := rfl
  have hlen := stepT_len t y
  refine Oa1 rfl rfl ?_
  refine On ?_
  refine Wr ?_
  refine Ops.pv (pv_loadK [_, _] rfl rfl rfl ⟨rfl, rfl, trivial⟩) rfl ?_
  refine Ops.pv (pv_loadK [_, _] rfl rfl rfl ⟨rfl, rfl, trivial⟩) rfl ?_
  refine Ops.pv (pv_eql_slot rfl rfl) rfl ?_
  refine On ?_
  refine Wp.cond_dect rfl (fun h34 => ?_) (fun h34 => ?_)
  ·
   obtain ⟨rfl, rfl⟩ := hd.hit hn0 hy h34
   refine Wr ?_
   refine Om1 rfl rfl ?_
   refine Oa1 rfl rfl ?_
   refine Oa1 rfl rfl ?_
   refine Oa1 rfl rfl ?_
   refine On ?_
   refine Wp.ret ?_
   refine Ends.block_ret ?_
   refine Ends.then_ret ?_
   refine Ends.then_ret ?_
   refine Ends.block_ret ?_
   refine Ends.then_ret ?_
   exact Ends.ret (L' := T2 ++ L2) (res3 rfl rfl rfl rfl) ⟨pu, qu, T2, L2, hs2, hD2, rfl, rfl⟩
  have hd2 := hd.pass hn0 hy h34
  refine Wp.skip ?_
  refine Ends.block_normal ?_
  refine Ends.seq ?_
  refine Wp.region ?_
  refine Om1 rfl rfl ?_
  refine Ops.pv (pv_add rfl rfl (w64n (k := i + 1) (by omega) (by omega))) rfl ?_
  refine Oa1 rfl rfl ?_
  refine Ops.nil ?_
  refine Ends.goes ?_
  refine Goes.back (hK (i + 1, stepT t y, pu, qu, T2, L2) ⟨by dsimp only; omega, hs2, hD2, stepT_ok hpo y, hd2, by dsimp only; omega⟩ (by dsimp only; omega)) ⟨rfl, rfl, rfl, rfl, rfl, trivial⟩
 obtain ⟨rfl, rfl⟩ := hd.nil (by omega)
 refine Wp.exit ?_
 refine Ends.then_exit ?_
 refine Ends.then_exit ?_
 refine Ends.block_hit ?_
 refine Ends.seq ?_
 refine Wr ?_
 refine Om1 rfl rfl ?_
 refine Oa1 rfl rfl ?_
 refine Oa1 rfl rfl ?_
 refine Oa1 rfl rfl ?_
 refine On ?_
 refine Wp.ret ?_
 exact Ends.ret (L' := T ++ (dcBlk qb v0 w0 :: (H0 ++ (dCaps l0 ++ K0)))) (res3 rfl rfl rfl rfl) ⟨pa, qa, T, (dcBlk qb v0 w0 :: (H0 ++ (dCaps l0 ++ K0))), hsl, ⟨S0, l0, v0, H0, w0, K0, hR0, hQ0, hs0, ht0, rfl⟩, rfl, rfl⟩
set_option maxHeartbeats 8000000 in
theorem tr_dRev (qb : Nat) (L : Hp) (p : PS) (hH : DcH p qb L) (hok : POk p) (sl : SlotM) (k : Nat) (hk : rvErr p.l sl k = 0) (b : Bool) (t' : TS) (hd : RevW ⟨p, [], k⟩ sl b t') : Tr Tryz.prog 24 [.pointer (some ⟨qb, 0, none⟩), slotV sl, .int .i64 k] (L) (fun u L' => ∃ v' c' T' L2, Slc 25 6 (.slice v' t'.told.length c') t'.told.length (cel CapM.cells t'.told) T' ∧ DcH t'.p qb L2 ∧ u = .tuple #[.slice v' t'.told.length c', .bool b, .int .i64 (if b = true then 0 else 11)] ∧ L' = T' ++ L2) := by
 have hk9 := rvErr_range hk
 refine Tr.enter Tryz.func24 rfl Tryz.ntmps24 rfl (fun W F => ?_)
 refine Wp.app ?_
 refine Wr ?_
 refine Ops.ef rfl (ef_boxK rfl rfl) ?_
 rintro _ _ ⟨b1, rfl, rfl⟩
 refine Oa1 rfl rfl ?_
 refine Oa1 rfl rfl ?_
 refine Oa1 rfl rfl ?_
 refine On ?_
 refine Wr ?_
 refine Om1 rfl rfl ?_
 refine Ops.pv (pv_loadK [_, _] rfl rfl rfl ⟨rfl, rfl, trivial⟩) rfl ?_
 refine Om1 rfl rfl ?_
 refine Ops.ef rfl (ef_callr (tr_dCheck qb L p hH sl k) rfl rfl) ?_
 rintro _ _ ⟨rfl, rfl⟩
 refine Oa1 rfl rfl ?_
 refine On ?_
 refine Wp.seq ?_
 refine Wr ?_
 refine Om1 rfl rfl ?_
 refine Ops.pv ((pv_neq rfl rfl).fls (by first | exact fun h => h rfl | decide | omega | assumption)) rfl ?_
 refine On ?_
 refine Wp.cond_false rfl ?_
 refine Wp.skip ?_
 refine Ends.seq ?_
 refine Wr ?_
 refine Oa1 rfl rfl ?_
 refine On ?_
 refine Wr ?_
 refine Ops.pv (pv_loadK [_, _] rfl rfl rfl ⟨rfl, rfl, trivial⟩) rfl ?_
 refine Ops.ef rfl (ef_allocK tyZ31 rfl) ?_
 rintro _ _ ⟨b2, rfl, rfl⟩
 refine Ops.ef rfl (ef_storeK rfl rfl rfl rfl) ?_
 rintro _ _ ⟨rfl, rfl⟩
 refine On ?_
 refine Wp.seq ?_
 refine Wr ?_
 refine Oa1 rfl rfl ?_
 refine On ?_
 refine Wp.block ?_
 refine Wp.loopK (σ := Nat × TS × SlotM × Option Addr × Nat × Hp × Hp) [(0, _), (2, _), (4, _), (11, _)] (fun s => [(10, .slice s.2.2.2.1 s.2.1.told.length s.2.2.2.2.1), (12, .int .i64 s.1)]) (fun s => (b2, .cells [.int .i64 s.2.2.1.1, .int .i64 s.2.2.1.2].toArray 31) :: (b1, .cells [.int .i64 sl.1, .int .i64 sl.2].toArray 31) :: (s.2.2.2.2.2.1 ++ (s.2.2.2.2.2.2 ++ F))) (fun s => Slc 25 6 (.slice s.2.2.2.1 s.2.1.told.length s.2.2.2.2.1) s.2.1.told.length (cel CapM.cells s.2.1.told) s.2.2.2.2.2.1 ∧ DcH s.2.1.p qb s.2.2.2.2.2.2 ∧ POk s.2.1.p ∧ s.2.1.told.length + s.2.1.n ≤ k ∧ ((s.1 ≤ k ∧ s.1 + s.2.1.n = k ∧ ((s.2.2.1 = sl ∨ (dget s.2.1.p.l s.2.2.1).1.kind = 0) ∧ RevW s.2.1 sl b t' ∨ Rem sl s.2.2.1 s.2.1 b t')) ∨ (s.1 = k + 1 ∧ s.2.1.n = 0 ∧ b = false ∧ t' = s.2.1))) (fun s => k + 1 - s.1) (0, ⟨p, [], k⟩, sl, none, 0, [], L) ⟨Slc.nil _ _, hH, hok, by dsimp only; rw [List.length_nil]; omega, .inl ⟨Nat.zero_le _, Nat.zero_add _, .inl ⟨.inl rfl, hd⟩⟩⟩ ⟨rfl, rfl, rfl, rfl, trivial⟩ ⟨rfl, rfl, trivial⟩ (by intro w ho; (try dsimp only [List.nil_append, List.cons_append]); exact Drop.own ho) ?_
 rintro ⟨i, t, gl, pa, qa, T, L⟩ KK ⟨hsl, hD, hpo, htn, hst⟩ hK
 dsimp only [List.cons_append, List.nil_append] at hK ⊢
 dsimp only at hsl hD hpo htn hst ⊢
 obtain ⟨S0, l0, v0, H0, w0, K0, hR0, hQ0, hs0, ht0, rfl⟩ := hD
 simp only [List.cons_append, List.append_assoc]
 have hkl : (ftKin t.p.F sl).length ≤ 2 ^ 20 := Nat.le_trans (ftKin_len _ _) (F_le hpo)
 refine Wp.seq ?_
 refine Wr ?_
 refine Om1 rfl rfl ?_
 refine Om1 rfl rfl ?_
 refine Ops.pv (pv_leq rfl rfl) rfl ?_
 refine On ?_
 refine Wp.cond_dect rfl (fun h1 => ?_) (fun h1 => ?_)
 ·
  have hik : i ≤ k := by omega
  have hst2 : i + t.n = k ∧ ((gl = sl ∨ (dget t.p.l gl).1.kind = 0) ∧ RevW t sl b t' ∨ Rem sl gl t b t') := by
   rcases hst with h | h
   ·
    exact h.2
   ·
    omega
  obtain ⟨hin, hst3⟩ := hst2
  refine Wp.skip ?_
  refine Ends.seq ?_
  refine Wp.seq ?_
  refine Wp.block ?_
  refine Wp.cutK (σ := SlotM) [(0, _), (2, _), (4, _), (10, _), (11, _), (12, _)] (fun s => []) (fun s => (b2, .cells [.int .i64 s.1, .int .i64 s.2].toArray 31) :: (b1, .cells [.int .i64 sl.1, .int .i64 sl.2].toArray 31) :: (T ++ (dcBlk qb v0 w0 :: (H0 ++ (dCaps l0 ++ (K0 ++ F)))))) (fun s => (s = sl ∧ RevW t sl b t') ∨ (s ≠ sl ∧ Rem sl s t b t')) ⟨rfl, rfl, rfl, rfl, rfl, rfl, trivial⟩ (fun _ KK hC0 => ?_) ?_
  ·
   dsimp only [List.cons_append, List.nil_append] at hC0
   refine Wr ?_
   refine Ops.pv (pv_loadK [_, _] rfl rfl rfl ⟨rfl, rfl, trivial⟩) rfl ?_
   refine Ops.pv (pv_loadK [_, _] rfl rfl rfl ⟨rfl, rfl, trivial⟩) rfl ?_
   refine Ops.pv (pv_neq_slot (a := gl) (b := sl) rfl rfl) rfl ?_
   refine Om1 rfl rfl ?_
   refine Ops.split (t := 30) rfl (fun h2 => ?_) (fun h2 => ?_)
   ·
    refine Ops.pvg ⟨_, _, rfl, rfl, rfl⟩ (pv_move rfl) rfl ?_
    refine Ops.pvg ⟨_, _, rfl, rfl, rfl⟩ (pv_loadK [_, _] rfl rfl rfl ⟨rfl, rfl, trivial⟩) rfl ?_
    refine Ops.efg ⟨_, _, rfl, rfl, rfl⟩ (ef_callr (tr_dFull qb (dcBlk qb v0 w0 :: (H0 ++ (dCaps l0 ++ K0))) t.p ⟨S0, l0, v0, H0, w0, K0, hR0, hQ0, hs0, ht0, rfl⟩ gl) rfl rfl) ?_
    rintro _ _ ⟨rfl, rfl⟩
    refine Ops.pvg ⟨_, _, rfl, rfl, rfl⟩ (pv_not_dec rfl) rfl ?_
    refine Ops.pv (pv_pick_true rfl rfl) rfl ?_
    refine On ?_
    refine Wp.cond_dect rfl (fun h3 => ?_) (fun h3 => ?_)
    ·
     refine Wp.region ?_
     refine Ops.pv (pv_loadK [_, _] rfl rfl rfl ⟨rfl, rfl, trivial⟩) rfl ?_
     refine Ops.ef rfl (ef_storeK rfl rfl rfl rfl) ?_
     rintro _ _ ⟨rfl, rfl⟩
     refine Ops.nil ?_
     refine Ends.goes ?_
     refine Goes.back (hC0 sl (.inl ⟨rfl, rem_no hst3 (by simp_all)⟩)) ⟨rfl, rfl, rfl, rfl, rfl, rfl, trivial⟩
    refine Wp.skip ?_
    refine Ends.goes ?_
    refine Goes.back (hC0 gl (rem_yes hst3 (by simp_all))) ⟨rfl, rfl, rfl, rfl, rfl, rfl, trivial⟩
   refine Os1 rfl rfl rfl rfl ?_
   refine Os1 rfl rfl rfl rfl ?_
   refine Os1 rfl rfl rfl rfl ?_
   refine Os1 rfl rfl rfl rfl ?_
   refine Ops.pv (pv_pick_false rfl rfl) rfl ?_
   refine On ?_
   refine Wp.cond_false rfl ?_
   refine Wp.skip ?_
   refine Ends.goes ?_
   refine Goes.back (hC0 gl (rem_yes hst3 (by simp_all))) ⟨rfl, rfl, rfl, rfl, rfl, rfl, trivial⟩
  rintro g1 hg1
  dsimp only [List.cons_append, List.nil_append] at ⊢
  refine Wp.cutK (σ := SlotM) [(0, _), (2, _), (4, _), (10, _), (11, _), (12, _)] (fun s => []) (fun s => (b2, .cells [.int .i64 s.1, .int .i64 s.2].toArray 31) :: (b1, .cells [.int .i64 sl.1, .int .i64 sl.2].toArray 31) :: (T ++ (dcBlk qb v0 w0 :: (H0 ++ (dCaps l0 ++ (K0 ++ F)))))) (fun s => Rem sl s t b t') ⟨rfl, rfl, rfl, rfl, rfl, rfl, trivial⟩ (fun _ KK hC0 => ?_) ?_
  ·
   dsimp only [List.cons_append, List.nil_append] at hC0
   refine Wr ?_
   refine Ops.pv (pv_loadK [_, _] rfl rfl rfl ⟨rfl, rfl, trivial⟩) rfl ?_
   refine Ops.pv (pv_loadK [_, _] rfl rfl rfl ⟨rfl, rfl, trivial⟩) rfl ?_
   refine Ops.pv (pv_eql_slot (a := g1) (b := sl) rfl rfl) rfl ?_
   refine On ?_
   refine Wp.cond_dect rfl (fun h39 => ?_) (fun h39 => ?_)
   ·
    have hrev : RevW t sl b t' := hg1.elim (fun h => h.2) (fun h => absurd h39 h.1)
    refine Wp.seq ?_
    refine AnyH.start ((b1, .cells [.int .i64 sl.1, .int .i64 sl.2].toArray 31) :: []) 6 rfl ?_
    refine Tk 0 rfl rfl (pv_move rfl) rfl ?_
    refine Tk 1 rfl rfl (pv_nilCheck rfl) rfl ?_
    refine Tk 2 rfl rfl (pv_fieldAddr0 rfl rfl) rfl ?_
    refine Tk 3 rfl rfl (pv_loadK [_, _] rfl rfl rfl ⟨rfl, rfl, trivial⟩) rfl ?_
    refine AnyH.one 4 (by kernel_rfl) ?_
    refine Turn.ef rfl rfl (ef_call (tr_gKin (uS := v0) (F := t.p.F) ⟨w0, K0, ht0, rfl⟩ hpo.nd (F_le hpo) sl) rfl rfl) ?_ ?_
    ·
     rintro _ _ ⟨_, _, ⟨C1, hc1, rfl⟩, rfl, rfl⟩; infer_instance
    rintro _ _ ⟨_, _, ⟨C1, hc1, rfl⟩, rfl, rfl⟩
    refine AnyH.app ?_
    obtain ⟨pp1, qq1, rfl⟩ := hc1.form
    refine Tk 5 rfl rfl (pv_assign rfl) rfl ?_
    refine AnyH.done (by kernel_rfl) ?_
    refine Ends.seq ?_
    refine Wp.seq ?_
    refine Wr ?_
    refine Om1 rfl rfl ?_
    refine Ops.pv (pv_loadK [_, _] rfl rfl rfl ⟨rfl, rfl, trivial⟩) rfl ?_
    refine Ops.ef rfl (ef_callr (tr_dFull qb (dcBlk qb v0 w0 :: (H0 ++ (dCaps l0 ++ K0))) t.p ⟨S0, l0, v0, H0, w0, K0, hR0, hQ0, hs0, ht0, rfl⟩ sl) rfl rfl) ?_
    rintro _ _ ⟨rfl, rfl⟩
    refine Ops.pv (pv_not_dec rfl) rfl ?_
    refine Om1 rfl rfl ?_
    refine Ops.split (t := 49) rfl (fun h5 => ?_) (fun h5 => ?_)
    ·
     refine Os1 rfl rfl rfl rfl ?_
     refine Os1 rfl rfl rfl rfl ?_
     refine Os1 rfl rfl rfl rfl ?_
     refine Ops.pv (pv_pick_true rfl rfl) rfl ?_
     refine On ?_
     refine Wp.cond_true rfl ?_
     refine Wr ?_
     refine Om1 rfl rfl ?_
     refine Oa1 rfl rfl ?_
     refine Oa1 rfl rfl ?_
     refine Oa1 rfl rfl ?_
     refine On ?_
     refine Wp.ret ?_
     refine Ends.then_ret ?_
     refine Ends.then_ret ?_
     refine Ends.block_ret ?_
     refine Ends.then_ret ?_
     refine Ends.then_ret ?_
     refine Ends.block_ret ?_
     refine Ends.then_ret ?_
     obtain ⟨rfl, rfl⟩ : b = true ∧ t' = t := rev_done hrev hpo (.inl (by assumption))
     exact Ends.ret (L' := T ++ (dcBlk qb v0 w0 :: (H0 ++ (dCaps l0 ++ K0)))) (res3 rfl rfl rfl rfl) ⟨pa, qa, T, (dcBlk qb v0 w0 :: (H0 ++ (dCaps l0 ++ K0))), hsl, ⟨S0, l0, v0, H0, w0, K0, hR0, hQ0, hs0, ht0, rfl⟩, rfl, rfl⟩
    refine Ops.pvg ⟨_, _, rfl, rfl, rfl⟩ (pv_move rfl) rfl ?_
    refine Ops.pvg ⟨_, _, rfl, rfl, rfl⟩ (pv_len_slice (T := 53) rfl rfl) rfl ?_
    refine Ops.pvg ⟨_, _, rfl, rfl, rfl⟩ (pv_eql rfl rfl) rfl ?_
    refine Ops.pv (pv_pick_false rfl rfl) rfl ?_
    refine On ?_
    refine Wp.cond_dect rfl (fun h53 => ?_) (fun h53 => ?_)
    ·
     obtain ⟨rfl, rfl⟩ : b = true ∧ t' = t := rev_done hrev hpo (.inr h53)
     refine Wr ?_
     refine Om1 rfl rfl ?_
     refine Oa1 rfl rfl ?_
     refine Oa1 rfl rfl ?_
     refine Oa1 rfl rfl ?_
     refine On ?_
     refine Wp.ret ?_
     refine Ends.then_ret ?_
     refine Ends.then_ret ?_
     refine Ends.block_ret ?_
     refine Ends.then_ret ?_
     refine Ends.then_ret ?_
     refine Ends.block_ret ?_
     refine Ends.then_ret ?_
     exact Ends.ret (L' := T ++ (dcBlk qb v0 w0 :: (H0 ++ (dCaps l0 ++ K0)))) (res3 rfl rfl rfl rfl) ⟨pa, qa, T, (dcBlk qb v0 w0 :: (H0 ++ (dCaps l0 ++ K0))), hsl, ⟨S0, l0, v0, H0, w0, K0, hR0, hQ0, hs0, ht0, rfl⟩, rfl, rfl⟩
    obtain ⟨x, hx, hrem⟩ := rev_more hrev hpo (fun e => e.elim (by assumption) h53)
    obtain ⟨bf, of, cap, cc, T0, f0, hv1, hbv, hr⟩ := hc1.view.open (by omega)
    cases hv1
    have hre := hr.sub (i := ((ftKin t.p.F sl).length - 1) * 2) (l := 2)
    rw [slots_reads hx] at hre
    refine Wp.skip ?_
    refine Ends.seq ?_
    refine Wp.region ?_
    refine Om1 rfl rfl ?_
    refine Om1 rfl rfl ?_
    refine Ops.pv (pv_len_slice (T := 53) rfl rfl) rfl ?_
    refine Ops.pv (pv_sub rfl rfl (w64n (k := (ftKin t.p.F sl).length - 1) (by omega) (by omega))) rfl ?_
    refine Ops.pv (pv_indexAddr (i := (ftKin t.p.F sl).length - 1) rfl rfl rfl (by omega)) rfl ?_
    refine Ops.pv (pv_loadK [.int .i64 x.1, .int .i64 x.2] rfl rfl rfl hre) rfl ?_
    refine Ops.ef rfl (ef_storeK rfl rfl rfl rfl) ?_
    rintro _ _ ⟨rfl, rfl⟩
    refine Ops.nil ?_
    refine Ends.goes ?_
    refine Goes.back (hC0 x hrem) ⟨rfl, rfl, rfl, rfl, rfl, rfl, trivial⟩
   refine Wp.skip ?_
   refine Ends.goes ?_
   refine Goes.back (hC0 g1 (hg1.elim (fun h => absurd h.1 h39) (fun h => h.2))) ⟨rfl, rfl, rfl, rfl, rfl, rfl, trivial⟩
  rintro g2 hrm
  dsimp only [List.cons_append, List.nil_append] at ⊢
  refine Wr ?_
  refine Om1 rfl rfl ?_
  refine Om1 rfl rfl ?_
  refine Ops.pv (pv_lss rfl rfl) rfl ?_
  refine On ?_
  refine Wp.cond_dect rfl (fun h63 => ?_) (fun h63 => ?_)
  ·
   have hn0 : t.n ≠ 0 := by omega
   refine Wp.region ?_
   refine Om1 rfl rfl ?_
   refine Om1 rfl rfl ?_
   refine Ops.pv (pv_loadK [_, _] rfl rfl rfl ⟨rfl, rfl, trivial⟩) rfl ?_
   refine Ops.ef rfl (ef_call (tr_dNext qb (dcBlk qb v0 w0 :: (H0 ++ (dCaps l0 ++ K0))) t.p ⟨S0, l0, v0, H0, w0, K0, hR0, hQ0, hs0, ht0, rfl⟩ hpo g2) rfl rfl) ?_
   rintro _ _ ⟨_, _, ⟨y, rfl, hy, rfl⟩, rfl, rfl⟩
   refine Ops.app ?_
   refine Om1 rfl rfl ?_
   refine Ops.ef rfl (ef_call (tr_dStep qb t.n (dcBlk qb v0 w0 :: (H0 ++ (dCaps l0 ++ K0))) t.p ⟨S0, l0, v0, H0, w0, K0, hR0, hQ0, hs0, ht0, rfl⟩ hpo t.told pa qa T hsl (by omega) y) rfl rfl) ?_
   rintro _ _ ⟨_, _, ⟨pu, qu, T2, L2, rfl, hs2, hD2, rfl⟩, rfl, rfl⟩
   refine Ops.app ?_
   have hn1 : (stepT t y).n = t.n - 1 := rfl
   have hlen := stepT_len t y
   refine Oa1 rfl rfl ?_
   refine Ops.nil ?_
   refine Ends.block_normal ?_
   refine Ends.seq ?_
   refine Wp.region ?_
   refine Om1 rfl rfl ?_
   refine Ops.pv (pv_add rfl rfl (w64n (k := i + 1) (by omega) (by omega))) rfl ?_
   refine Oa1 rfl rfl ?_
   refine Ops.nil ?_
   refine Ends.goes ?_
   refine Goes.back (hK (i + 1, stepT t y, g2, pu, qu, T2, L2) ⟨hs2, hD2, stepT_ok hpo y, by dsimp only; omega, .inl ⟨by dsimp only; omega, by dsimp only; omega, (hrm.step hpo hn0 hy).elim .inr (fun h => .inl ⟨.inr h.1, h.2⟩)⟩⟩ (by dsimp only; omega)) ⟨rfl, rfl, rfl, rfl, rfl, rfl, trivial⟩
  have hn0 : t.n = 0 := by omega
  obtain ⟨hb9, ht9⟩ := hrm.ends hn0
  refine Wp.skip ?_
  refine Ends.block_normal ?_
  refine Ends.seq ?_
  refine Wp.region ?_
  refine Om1 rfl rfl ?_
  refine Ops.pv (pv_add rfl rfl (w64n (k := i + 1) (by omega) (by omega))) rfl ?_
  refine Oa1 rfl rfl ?_
  refine Ops.nil ?_
  refine Ends.goes ?_
  refine Goes.back (hK (i + 1, t, g2, pa, qa, T, (dcBlk qb v0 w0 :: (H0 ++ (dCaps l0 ++ K0)))) ⟨hsl, ⟨S0, l0, v0, H0, w0, K0, hR0, hQ0, hs0, ht0, rfl⟩, hpo, htn,   .inr ⟨by dsimp only; omega, hn0, hb9, ht9⟩⟩ (by dsimp only; omega)) ⟨rfl, rfl, rfl, rfl, rfl, rfl, trivial⟩
 obtain ⟨rfl, rfl⟩ : b = false ∧ t' = t := by
  rcases hst with h | h
  ·
   omega
  ·
   exact ⟨h.2.2.1, h.2.2.2⟩
 refine Wp.exit ?_
 refine Ends.then_exit ?_
 refine Ends.then_exit ?_
 refine Ends.block_hit ?_
 refine Ends.seq ?_
 refine Wr ?_
 refine Om1 rfl rfl ?_
 refine Oa1 rfl rfl ?_
 refine Oa1 rfl rfl ?_
 refine Oa1 rfl rfl ?_
 refine On ?_
 refine Wp.ret ?_
 exact Ends.ret (L' := T ++ (dcBlk qb v0 w0 :: (H0 ++ (dCaps l0 ++ K0)))) (res3 rfl rfl rfl rfl) ⟨pa, qa, T, (dcBlk qb v0 w0 :: (H0 ++ (dCaps l0 ++ K0))), hsl, ⟨S0, l0, v0, H0, w0, K0, hR0, hQ0, hs0, ht0, rfl⟩, rfl, rfl⟩
end Go.Proofs.YtdodfnjmkpgdbaaGreat
end
section
set_option linter.unusedVariables false
set_option linter.unusedSimpArgs false
set_option linter.unusedSectionVars false
namespace Go.Proofs.YtdodfnjmkpgdbaaGreat
open Go.SL
theorem pv_max {P : Program} {n : Nat} {D : List Deferred} {E : Env} {L : Hp} {d : Option Tmp} {ty : TypeId} {pos : String} {aft : Array Edge} {g : Option (Nat × Bool)} {x y : Operand} {k : IntKind} {i j : Int} {ats : Array TypeId} (hx : ev E x = some (.int k i)) (hy : ev E y = some (.int k j)) {r : Int} (hr : (if j > i then j else i) = r) :
    Pv P n D E L ⟨d, .call { callee := .builtin .max, args := #[x, y], argTypes := ats }, ty, pos, aft, g⟩ (.int k r) := by
  unfold Pv
  intro a w hs _
  rw [BigFrame.execOp_builtin]
  simp only [BigFrame.builtin_max, List.map_toArray, List.map_cons, List.map_nil, hs.ev hx, hs.ev hy, Builtin.max_, List.foldlM_cons, List.foldlM_nil, Builtin.max2, hr, Sem.run_bind, Sem.run_pure, Result.andThen_ok]
section
variable {n cb : Nat} {H : Hp} {p : PS} (hC : CapsH n p cb H) (hok : POk p) (hn : n ≤ 2 ^ 19) (sl : SlotM) (k : Int)
include hC hok hn
theorem tr_pDel0 (h : rvErr p.l sl k = 0) : Tr Tryz.prog 20 [cpP cb, slotV sl, .int .i64 k] H (fun u L' => ∃ b t' v' T' H', Away ⟨p, [], k.toNat⟩ [sl] sl b t' ∧ TkI n t' cb v' T' H' ∧ u = .tuple #[v', .bool b, .int .i64 (if b = true then 0 else 11)] ∧ L' = T' ++ H') :=
  (tr_rDelete n cb H p hC hok hn sl k).mono fun u L' e => by
    rcases e with ⟨h0, _⟩ | ⟨_, e⟩
    · exact absurd h h0
    · exact e
theorem tr_pDelE (h : rvErr p.l sl k ≠ 0) : TrR Tryz.prog 20 [cpP cb, slotV sl, .int .i64 k] H (.tuple #[.slice none 0 0, .bool false, .int .i64 (rvErr p.l sl k)]) :=
  (tr_rDelete n cb H p hC hok hn sl k).mono fun u L' e => by
    rcases e with ⟨_, e⟩ | ⟨h0, _⟩
    · exact e
    · exact absurd h0 h
theorem tr_pRev0 (h : rvErr p.l sl k = 0) : Tr Tryz.prog 23 [cpP cb, slotV sl, .int .i64 k] H (fun u L' => ∃ b t' v' T' H', RevW ⟨p, [], k.toNat⟩ sl b t' ∧ TkI n t' cb v' T' H' ∧ u = .tuple #[v', .bool b, .int .i64 (if b = true then 0 else 11)] ∧ L' = T' ++ H') :=
  (tr_rRevoke n cb H p hC hok hn sl k).mono fun u L' e => by
    rcases e with ⟨h0, _⟩ | ⟨_, e⟩
    · exact absurd h h0
    · exact e
theorem tr_pRevE (h : rvErr p.l sl k ≠ 0) : TrR Tryz.prog 23 [cpP cb, slotV sl, .int .i64 k] H (.tuple #[.slice none 0 0, .bool false, .int .i64 (rvErr p.l sl k)]) :=
  (tr_rRevoke n cb H p hC hok hn sl k).mono fun u L' e => by
    rcases e with ⟨_, e⟩ | ⟨h0, _⟩
    · exact e
    · exact absurd h0 h
end
theorem tr_dDel0 {qb : Nat} {L : Hp} {p : PS} (hH : DcH p qb L) (hok : POk p) (sl : SlotM) (k : Int) (hk : rvErr p.l sl k = 0) {b : Bool} {t' : TS} (hd : DRun [sl] sl ⟨p, [], k.toNat⟩ b t') :
    Tr Tryz.prog 21 [.pointer (some ⟨qb, 0, none⟩), slotV sl, .int .i64 k] L (fun u L' => ∃ v' c' T' L2, Slc 25 6 (.slice v' t'.told.length c') t'.told.length (cel CapM.cells t'.told) T' ∧ DcH t'.p qb L2 ∧ u = .tuple #[.slice v' t'.told.length c', .bool b, .int .i64 (if b = true then 0 else 11)] ∧ L' = T' ++ L2) := by
  have hr := rvErr_range hk
  obtain ⟨kn, rfl⟩ : ∃ j : Nat, k = j := ⟨k.toNat, by omega⟩
  exact tr_dDel qb L p hH hok sl kn hk b t' hd
theorem tr_dRev0 {qb : Nat} {L : Hp} {p : PS} (hH : DcH p qb L) (hok : POk p) (sl : SlotM) (k : Int) (hk : rvErr p.l sl k = 0) {b : Bool} {t' : TS} (hd : RevW ⟨p, [], k.toNat⟩ sl b t') :
    Tr Tryz.prog 24 [.pointer (some ⟨qb, 0, none⟩), slotV sl, .int .i64 k] L (fun u L' => ∃ v' c' T' L2, Slc 25 6 (.slice v' t'.told.length c') t'.told.length (cel CapM.cells t'.told) T' ∧ DcH t'.p qb L2 ∧ u = .tuple #[.slice v' t'.told.length c', .bool b, .int .i64 (if b = true then 0 else 11)] ∧ L' = T' ++ L2) := by
  have hr := rvErr_range hk
  obtain ⟨kn, rfl⟩ : ∃ j : Nat, k = j := ⟨k.toNat, by omega⟩
  exact tr_dRev qb L p hH hok sl kn hk b t' hd
set_option maxHeartbeats 32000000 in
theorem tr_revokeDoes (G : Hp) (a : Option Addr) (c : Nat) (l : List OpR) (ha : ArgS G 19 a (l.map OpR.cells)) (hrg : ∀ o, o ∈ l → OpC.Rg o.o ∧ i64R o.steps) (hl : l.length ≤ maxLen) : TrR Tryz.prog 4 [.slice a l.length c] (G) (.bool true) := by
 refine Tr.enter Tryz.func4 rfl Tryz.ntmps4 rfl (fun W F => ?_)
 refine Wp.app ?_
 refine Wr ?_
 refine Oa1 rfl rfl ?_
 refine On ?_
 refine Wr ?_
 refine Ops.ef rfl (ef_call (tr_mNew) rfl rfl) ?_
 rintro _ _ ⟨_, Q1, ⟨cb1, rfl, hC1⟩, rfl, rfl⟩
 refine Ops.app ?_
 skip
 refine Ops.ef rfl (ef_call (tr_dcNew) rfl rfl) ?_
 rintro _ _ ⟨_, Q2, ⟨qb1, rfl, hD1⟩, rfl, rfl⟩
 refine Ops.app ?_
 skip
 refine Oa1 rfl rfl ?_
 refine Oa1 rfl rfl ?_
 refine On ?_
 refine Wp.seq ?_
 refine Wr ?_
 refine Om1 rfl rfl ?_
 refine Ops.pv (pv_eql_nil rfl rfl) rfl ?_
 refine On ?_
 refine Wp.cond_false rfl ?_
 refine Wp.skip ?_
 refine Ends.seq ?_
 refine Wp.seq ?_
 refine Wr ?_
 refine Oa1 rfl rfl ?_
 refine On ?_
 refine Wp.block ?_
 refine Wp.loopK (σ := Nat × PS × Hp × Hp) [(0, _), (3, _), (4, _)] (fun s => [(5, .int .i64 s.1)]) (fun s => s.2.2.1 ++ (s.2.2.2 ++ (G ++ F))) (fun s => s.1 ≤ l.length ∧ s.1 ≤ 60 ∧ CapsH s.1 s.2.1 cb1 s.2.2.1 ∧ DcH s.2.1 qb1 s.2.2.2 ∧ ROk s.2.1) (fun s => l.length - s.1) (0, PS.new, Q1, Q2) ⟨Nat.zero_le _, Nat.zero_le _, hC1, hD1, ROk.new⟩ ⟨rfl, rfl, rfl, trivial⟩ ⟨rfl, trivial⟩ (by intro w ho; (try dsimp only [List.nil_append, List.cons_append]); exact Drop.own ho) ?_
 rintro ⟨i, p, Lc, Ld⟩ KK ⟨hi, hi2, hC, hD, hp⟩ hK
 dsimp only [List.cons_append, List.nil_append] at hK ⊢
 dsimp only at hi hi2 hC hD hp ⊢
 refine Wp.seq ?_
 refine Wr ?_
 refine Om1 rfl rfl ?_
 refine Om1 rfl rfl ?_
 refine Ops.pv (pv_len_slice (T := 64) rfl rfl) rfl ?_
 refine Ops.pv (pv_lss rfl rfl) rfl ?_
 refine Om1 rfl rfl ?_
 refine Ops.pvc rfl rfl (fun hg => pv_move rfl) rfl ?_
 refine Ops.pvc rfl rfl (fun hg => Pv.setE (t := 30) rfl (cv_pos hg) (pv_lss rfl rfl)) rfl ?_
 refine Ops.pv (pv_pick_and rfl rfl) rfl ?_
 refine On ?_
 refine Wp.cond_dect rfl (fun h1 => ?_) (fun h1 => ?_)
 ·
  obtain ⟨x, hq⟩ : ∃ x, l[i]? = some x := ⟨_, List.getElem?_eq_getElem (by omega)⟩
  obtain ⟨_, b, o, cc, T, f, rfl, hmm, hr⟩ := ha i x.cells (by rw [List.getElem?_map, hq]; rfl)
  have hbg : Blk G b (.cells cc.toArray T f) := ⟨hmm⟩
  have hxr := (hrg x (List.mem_of_getElem? hq)).1
  have hxs := (hrg x (List.mem_of_getElem? hq)).2
  unfold i64R at hxs
  refine Wp.skip ?_
  refine Ends.seq ?_
  refine Wp.seq ?_
  refine Wp.block ?_
  refine Wr ?_
  refine Om1 rfl rfl ?_
  refine Om1 rfl rfl ?_
  refine Ops.pv (pv_indexAddr (i := i) rfl rfl rfl (by omega)) rfl ?_
  refine Ops.pv (pv_loadK x.cells rfl rfl rfl ⟨hr.1, hr.2.1, hr.2.2.1, hr.2.2.2.1, hr.2.2.2.2.1, hr.2.2.2.2.2.1, hr.2.2.2.2.2.2.1, hr.2.2.2.2.2.2.2.1, hr.2.2.2.2.2.2.2.2.1, hr.2.2.2.2.2.2.2.2.2.1, hr.2.2.2.2.2.2.2.2.2.2.1, hr.2.2.2.2.2.2.2.2.2.2.2.1, hr.2.2.2.2.2.2.2.2.2.2.2.2.1, hr.2.2.2.2.2.2.2.2.2.2.2.2.2.1, hr.2.2.2.2.2.2.2.2.2.2.2.2.2.2.1, hr.2.2.2.2.2.2.2.2.2.2.2.2.2.2.2.1, hr.2.2.2.2.2.2.2.2.2.2.2.2.2.2.2.2.1, hr.2.2.2.2.2.2.2.2.2.2.2.2.2.2.2.2.2.1, hr.2.2.2.2.2.2.2.2.2.2.2.2.2.2.2.2.2.2.1, trivial⟩) rfl ?_
  refine Ops.ef rfl (ef_allocK tyZ66 rfl) ?_
  rintro _ _ ⟨b1, rfl, rfl⟩
  refine Ops.ef rfl (ef_storeK rfl rfl rfl rfl) ?_
  rintro _ _ ⟨rfl, rfl⟩
  refine On ?_
  refine Wr ?_
  refine Of1 rfl rfl rfl ?_
  refine Of1 rfl rfl rfl ?_
  refine Ops.pv (pv_loadK [_, _] rfl rfl rfl ⟨rfl, rfl, trivial⟩) rfl ?_
  refine Ops.ef rfl (ef_allocK tyZ31 rfl) ?_
  rintro _ _ ⟨b2, rfl, rfl⟩
  refine Ops.ef rfl (ef_storeK rfl rfl rfl rfl) ?_
  rintro _ _ ⟨rfl, rfl⟩
  refine On ?_
  refine Wp.cutK (σ := PS × Hp × Hp) [(0, _), (3, _), (4, _), (5, _), (7, _)] (fun s => []) (fun s => (b2, .cells [.int .i64 x.o.a.1, .int .i64 x.o.a.2].toArray 31) :: (s.2.1 ++ (s.2.2 ++ (G ++ F)))) (fun s => CapsH (i + 1) s.1 cb1 s.2.1 ∧ DcH s.1 qb1 s.2.2 ∧ ROk s.1) ⟨rfl, rfl, rfl, rfl, rfl, trivial⟩ (fun _ KK hC0 => ?_) ?_
  ·
   dsimp only [List.cons_append, List.nil_append] at hC0
   refine Wp.block ?_
   refine Wr ?_
   refine Of1 rfl rfl rfl ?_
   refine Ol1 rfl rfl rfl rfl ?_
   refine Ops.pv (pv_eql rfl rfl) rfl ?_
   refine Oa1 rfl rfl ?_
   refine On ?_
   refine Wp.cond_dect rfl (fun h2 => ?_) (fun h2 => ?_)
   ·
    refine Wr ?_
    refine Om1 rfl rfl ?_
    refine Om1 rfl rfl ?_
    refine Of1 rfl rfl rfl ?_
    refine Ops.pv (pv_loadK [_, _, _, _, _, _, _, _, _, _, _, _, _, _, _, _, _, _] rfl rfl rfl ⟨rfl, rfl, rfl, rfl, rfl, rfl, rfl, rfl, rfl, rfl, rfl, rfl, rfl, rfl, rfl, rfl, rfl, rfl, trivial⟩) rfl ?_
    refine Ops.ef rfl (ef_call (tr_zAct i cb1 qb1 Lc Ld p hC hD hp (by omega) x.o hxr) rfl rfl) ?_
    rintro _ _ ⟨_, _, ⟨rfl, La, Lb, hCa, hDa, rfl⟩, rfl, rfl⟩
    refine Ops.app ?_
    refine Ops.pv (pv_not rfl) rfl ?_
    refine On ?_
    refine Wp.cond_false rfl ?_
    refine Wp.skip ?_
    refine Ends.block_normal ?_
    refine Ends.goes ?_
    refine Goes.back (hC0 (actZ p x.o, La, Lb) ⟨hCa, hDa, actZ_ok hp hxr⟩) ⟨rfl, rfl, rfl, rfl, rfl, trivial⟩
   refine Wr ?_
   refine Of1 rfl rfl rfl ?_
   refine Ol1 rfl rfl rfl rfl ?_
   refine Ops.pv (pv_gtr rfl rfl) rfl ?_
   refine Oa1 rfl rfl ?_
   refine On ?_
   refine Wp.cond_dect rfl (fun h3 => ?_) (fun h3 => ?_)
   ·
    have hsp : x.steps > 0 := by assumption
    rcases Classical.em (rvErr p.l x.o.a x.steps = 0) with hr0 | hr0
    ·
     refine Wr ?_
     refine Om1 rfl rfl ?_
     refine Ops.pv (pv_loadK [_, _] rfl rfl rfl ⟨rfl, rfl, trivial⟩) rfl ?_
     refine Of1 rfl rfl rfl ?_
     refine Ol1 rfl rfl rfl rfl ?_
     refine Ops.ef rfl (ef_call (tr_pDel0 hC hp.ok (by omega) x.o.a x.steps hr0) rfl rfl) ?_
     rintro _ _ ⟨_, _, ⟨b9, t2, v2, T2, Hn, hA, hI2, rfl, rfl⟩, rfl, rfl⟩
     refine Ops.app ?_
     obtain ⟨pv2, qv2, rfl⟩ := hI2.2.1.form
     refine Om1 rfl rfl ?_
     refine Ops.pv (pv_extract rfl rfl) rfl ?_
     refine Ops.pv (pv_extract rfl rfl) rfl ?_
     refine Ops.pv (pv_extract rfl rfl) rfl ?_
     refine Oa1 rfl rfl ?_
     refine Oa1 rfl rfl ?_
     refine Oa1 rfl rfl ?_
     refine On ?_
     refine Wr ?_
     refine Om1 rfl rfl ?_
     refine Ops.pv (pv_loadK [_, _] rfl rfl rfl ⟨rfl, rfl, trivial⟩) rfl ?_
     refine Of1 rfl rfl rfl ?_
     refine Ol1 rfl rfl rfl rfl ?_
     refine Ops.ef rfl (ef_call (tr_dDel0 hD hp.ok x.o.a x.steps hr0 (hA.drun hp.ok (List.mem_singleton.2 rfl))) rfl rfl) ?_
     rintro _ _ ⟨_, _, ⟨pv3, qv3, T3, Ln, hs3, hD2, rfl, rfl⟩, rfl, rfl⟩
     refine Ops.app ?_
     refine Om1 rfl rfl ?_
     refine Ops.pv (pv_extract rfl rfl) rfl ?_
     refine Ops.pv (pv_extract rfl rfl) rfl ?_
     refine Ops.pv (pv_extract rfl rfl) rfl ?_
     refine Oa1 rfl rfl ?_
     refine Oa1 rfl rfl ?_
     refine Oa1 rfl rfl ?_
     refine On ?_
     refine Wr ?_
     refine Om1 rfl rfl ?_
     refine Om1 rfl rfl ?_
     refine Ops.ef rfl (ef_callr ((tr_sameCaps (T2 ++ T3) _ _ _ _ t2.told t2.told (hI2.2.1.view.mono (by intro p hp; simp [hp])) (hs3.view.mono (by intro p hp; simp [hp])) (by have := hI2.2.2.2; omega)).eq (r' := .bool true) (by rw [decide_eq_true rfl])) rfl rfl) ?_
     rintro _ _ ⟨rfl, rfl⟩
     refine Ops.pv (pv_not rfl) rfl ?_
     refine Om1 rfl rfl ?_
     refine Ops.pvg ⟨_, _, rfl, rfl, rfl⟩ (pv_move rfl) rfl ?_
     refine Ops.pvg ⟨_, _, rfl, rfl, rfl⟩ (pv_move rfl) rfl ?_
     refine Ops.pvg ⟨_, _, rfl, rfl, rfl⟩ ((pv_neq_bool rfl rfl).fls2 (by simp)) rfl ?_
     refine Ops.pv (pv_pick_false rfl rfl) rfl ?_
     refine Om1 rfl rfl ?_
     refine Ops.pvg ⟨_, _, rfl, rfl, rfl⟩ (pv_move rfl) rfl ?_
     refine Ops.pvg ⟨_, _, rfl, rfl, rfl⟩ (pv_move rfl) rfl ?_
     refine Ops.pvg ⟨_, _, rfl, rfl, rfl⟩ ((pv_neq rfl rfl).fls (fun h => h rfl)) rfl ?_
     refine Ops.pv (pv_pick_false rfl rfl) rfl ?_
     refine On ?_
     refine Wp.cond_false rfl ?_
     refine Wp.skip ?_
     refine Ends.block_normal ?_
     refine Ends.goes ?_
     refine Goes.back (hC0 (t2.p, Hn, Ln) ⟨hI2.1.more (by omega), hD2, hA.rok hp⟩) ⟨rfl, rfl, rfl, rfl, rfl, trivial⟩
    refine Wr ?_
    refine Om1 rfl rfl ?_
    refine Ops.pv (pv_loadK [_, _] rfl rfl rfl ⟨rfl, rfl, trivial⟩) rfl ?_
    refine Of1 rfl rfl rfl ?_
    refine Ol1 rfl rfl rfl rfl ?_
    refine Ops.ef rfl (ef_callr (tr_pDelE hC hp.ok (by omega) x.o.a x.steps hr0) rfl rfl) ?_
    rintro _ _ ⟨rfl, rfl⟩
    refine Om1 rfl rfl ?_
    refine Ops.pv (pv_extract rfl rfl) rfl ?_
    refine Ops.pv (pv_extract rfl rfl) rfl ?_
    refine Ops.pv (pv_extract rfl rfl) rfl ?_
    refine Oa1 rfl rfl ?_
    refine Oa1 rfl rfl ?_
    refine Oa1 rfl rfl ?_
    refine On ?_
    refine Wr ?_
    refine Om1 rfl rfl ?_
    refine Ops.pv (pv_loadK [_, _] rfl rfl rfl ⟨rfl, rfl, trivial⟩) rfl ?_
    refine Of1 rfl rfl rfl ?_
    refine Ol1 rfl rfl rfl rfl ?_
    refine Ops.ef rfl (ef_callr (tr_dDelE qb1 Ld p hD x.o.a x.steps hr0) rfl rfl) ?_
    rintro _ _ ⟨rfl, rfl⟩
    refine Om1 rfl rfl ?_
    refine Ops.pv (pv_extract rfl rfl) rfl ?_
    refine Ops.pv (pv_extract rfl rfl) rfl ?_
    refine Ops.pv (pv_extract rfl rfl) rfl ?_
    refine Oa1 rfl rfl ?_
    refine Oa1 rfl rfl ?_
    refine Oa1 rfl rfl ?_
    refine On ?_
    refine Wr ?_
    refine Om1 rfl rfl ?_
    refine Om1 rfl rfl ?_
    refine Ops.ef rfl (ef_callr ((tr_sameCaps [] none none 0 0 [] [] (Slc.nil 25 6).view (Slc.nil 25 6).view (by decide)).eq (r' := .bool true) (by rw [decide_eq_true rfl])) rfl rfl) ?_
    rintro _ _ ⟨rfl, rfl⟩
    refine Ops.pv (pv_not rfl) rfl ?_
    refine Om1 rfl rfl ?_
    refine Ops.pvg ⟨_, _, rfl, rfl, rfl⟩ (pv_move rfl) rfl ?_
    refine Ops.pvg ⟨_, _, rfl, rfl, rfl⟩ (pv_move rfl) rfl ?_
    refine Ops.pvg ⟨_, _, rfl, rfl, rfl⟩ ((pv_neq_bool rfl rfl).fls2 (by simp)) rfl ?_
    refine Ops.pv (pv_pick_false rfl rfl) rfl ?_
    refine Om1 rfl rfl ?_
    refine Ops.pvg ⟨_, _, rfl, rfl, rfl⟩ (pv_move rfl) rfl ?_
    refine Ops.pvg ⟨_, _, rfl, rfl, rfl⟩ (pv_move rfl) rfl ?_
    refine Ops.pvg ⟨_, _, rfl, rfl, rfl⟩ ((pv_neq rfl rfl).fls (fun h => h rfl)) rfl ?_
    refine Ops.pv (pv_pick_false rfl rfl) rfl ?_
    refine On ?_
    refine Wp.cond_false rfl ?_
    refine Wp.skip ?_
    refine Ends.block_normal ?_
    refine Ends.goes ?_
    refine Goes.back (hC0 (p, Lc, Ld) ⟨hC.more (by omega), hD, hp⟩) ⟨rfl, rfl, rfl, rfl, rfl, trivial⟩
   have hsn : x.steps < 0 := by omega
   obtain ⟨kk, hkk⟩ : ∃ q : Int, q = 0 - (if (-2000 : Int) > x.steps then -2000 else x.steps) := ⟨_, rfl⟩
   rcases Classical.em (rvErr p.l x.o.a kk = 0) with hr0 | hr0
   ·
    refine Wr ?_
    refine Of1 rfl rfl rfl ?_
    refine Ol1 rfl rfl rfl rfl ?_
    refine Ops.pv (pv_max rfl rfl rfl) rfl ?_
    refine Oa1 rfl rfl ?_
    refine On ?_
    refine Wr ?_
    refine Om1 rfl rfl ?_
    refine Ops.pv (pv_loadK [_, _] rfl rfl rfl ⟨rfl, rfl, trivial⟩) rfl ?_
    refine Om1 rfl rfl ?_
    refine Ops.pv (pv_neg rfl (r := kk) (by rw [hkk]; exact w64 (by split <;> omega) (by split <;> omega))) rfl ?_
    refine Ops.ef rfl (ef_call (tr_pRev0 hC hp.ok (by omega) x.o.a kk hr0) rfl rfl) ?_
    rintro _ _ ⟨_, _, ⟨b9, t2, v2, T2, Hn, hA, hI2, rfl, rfl⟩, rfl, rfl⟩
    refine Ops.app ?_
    obtain ⟨pv2, qv2, rfl⟩ := hI2.2.1.form
    refine Om1 rfl rfl ?_
    refine Ops.pv (pv_extract rfl rfl) rfl ?_
    refine Ops.pv (pv_extract rfl rfl) rfl ?_
    refine Ops.pv (pv_extract rfl rfl) rfl ?_
    refine Oa1 rfl rfl ?_
    refine Oa1 rfl rfl ?_
    refine Oa1 rfl rfl ?_
    refine On ?_
    refine Wr ?_
    refine Om1 rfl rfl ?_
    refine Ops.pv (pv_loadK [_, _] rfl rfl rfl ⟨rfl, rfl, trivial⟩) rfl ?_
    refine Om1 rfl rfl ?_
    refine Ops.pv (pv_neg rfl (r := kk) (by rw [hkk]; exact w64 (by split <;> omega) (by split <;> omega))) rfl ?_
    refine Ops.ef rfl (ef_call (tr_dRev0 hD hp.ok x.o.a kk hr0 hA) rfl rfl) ?_
    rintro _ _ ⟨_, _, ⟨pv3, qv3, T3, Ln, hs3, hD2, rfl, rfl⟩, rfl, rfl⟩
    refine Ops.app ?_
    refine Om1 rfl rfl ?_
    refine Ops.pv (pv_extract rfl rfl) rfl ?_
    refine Ops.pv (pv_extract rfl rfl) rfl ?_
    refine Ops.pv (pv_extract rfl rfl) rfl ?_
    refine Oa1 rfl rfl ?_
    refine Oa1 rfl rfl ?_
    refine Oa1 rfl rfl ?_
    refine On ?_
    refine Wr ?_
    refine Om1 rfl rfl ?_
    refine Om1 rfl rfl ?_
    refine Ops.ef rfl (ef_callr ((tr_sameCaps (T2 ++ T3) _ _ _ _ t2.told t2.told (hI2.2.1.view.mono (by intro p hp; simp [hp])) (hs3.view.mono (by intro p hp; simp [hp])) (by have := hI2.2.2.2; omega)).eq (r' := .bool true) (by rw [decide_eq_true rfl])) rfl rfl) ?_
    rintro _ _ ⟨rfl, rfl⟩
    refine Ops.pv (pv_not rfl) rfl ?_
    refine Om1 rfl rfl ?_
    refine Ops.pvg ⟨_, _, rfl, rfl, rfl⟩ (pv_move rfl) rfl ?_
    refine Ops.pvg ⟨_, _, rfl, rfl, rfl⟩ (pv_move rfl) rfl ?_
    refine Ops.pvg ⟨_, _, rfl, rfl, rfl⟩ ((pv_neq_bool rfl rfl).fls2 (by simp)) rfl ?_
    refine Ops.pv (pv_pick_false rfl rfl) rfl ?_
    refine Om1 rfl rfl ?_
    refine Ops.pvg ⟨_, _, rfl, rfl, rfl⟩ (pv_move rfl) rfl ?_
    refine Ops.pvg ⟨_, _, rfl, rfl, rfl⟩ (pv_move rfl) rfl ?_
    refine Ops.pvg ⟨_, _, rfl, rfl, rfl⟩ ((pv_neq rfl rfl).fls (fun h => h rfl)) rfl ?_
    refine Ops.pv (pv_pick_false rfl rfl) rfl ?_
    refine On ?_
    refine Wp.cond_false rfl ?_
    refine Wp.skip ?_
    refine Ends.block_normal ?_
    refine Ends.goes ?_
    refine Goes.back (hC0 (t2.p, Hn, Ln) ⟨hI2.1.more (by omega), hD2, hA.rok hp⟩) ⟨rfl, rfl, rfl, rfl, rfl, trivial⟩
   refine Wr ?_
   refine Of1 rfl rfl rfl ?_
   refine Ol1 rfl rfl rfl rfl ?_
   refine Ops.pv (pv_max rfl rfl rfl) rfl ?_
   refine Oa1 rfl rfl ?_
   refine On ?_
   refine Wr ?_
   refine Om1 rfl rfl ?_
   refine Ops.pv (pv_loadK [_, _] rfl rfl rfl ⟨rfl, rfl, trivial⟩) rfl ?_
   refine Om1 rfl rfl ?_
   refine Ops.pv (pv_neg rfl (r := kk) (by rw [hkk]; exact w64 (by split <;> omega) (by split <;> omega))) rfl ?_
   refine Ops.ef rfl (ef_callr (tr_pRevE hC hp.ok (by omega) x.o.a kk hr0) rfl rfl) ?_
   rintro _ _ ⟨rfl, rfl⟩
   refine Om1 rfl rfl ?_
   refine Ops.pv (pv_extract rfl rfl) rfl ?_
   refine Ops.pv (pv_extract rfl rfl) rfl ?_
   refine Ops.pv (pv_extract rfl rfl) rfl ?_
   refine Oa1 rfl rfl ?_
   refine Oa1 rfl rfl ?_
   refine Oa1 rfl rfl ?_
   refine On ?_
   refine Wr ?_
   refine Om1 rfl rfl ?_
   refine Ops.pv (pv_loadK [_, _] rfl rfl rfl ⟨rfl, rfl, trivial⟩) rfl ?_
   refine Om1 rfl rfl ?_
   refine Ops.pv (pv_neg rfl (r := kk) (by rw [hkk]; exact w64 (by split <;> omega) (by split <;> omega))) rfl ?_
   refine Ops.ef rfl (ef_callr (tr_dRevE qb1 Ld p hD x.o.a kk hr0) rfl rfl) ?_
   rintro _ _ ⟨rfl, rfl⟩
   refine Om1 rfl rfl ?_
   refine Ops.pv (pv_extract rfl rfl) rfl ?_
   refine Ops.pv (pv_extract rfl rfl) rfl ?_
   refine Ops.pv (pv_extract rfl rfl) rfl ?_
   refine Oa1 rfl rfl ?_
   refine Oa1 rfl rfl ?_
   refine Oa1 rfl rfl ?_
   refine On ?_
   refine Wr ?_
   refine Om1 rfl rfl ?_
   refine Om1 rfl rfl ?_
   refine Ops.ef rfl (ef_callr ((tr_sameCaps [] none none 0 0 [] [] (Slc.nil 25 6).view (Slc.nil 25 6).view (by decide)).eq (r' := .bool true) (by rw [decide_eq_true rfl])) rfl rfl) ?_
   rintro _ _ ⟨rfl, rfl⟩
   refine Ops.pv (pv_not rfl) rfl ?_
   refine Om1 rfl rfl ?_
   refine Ops.pvg ⟨_, _, rfl, rfl, rfl⟩ (pv_move rfl) rfl ?_
   refine Ops.pvg ⟨_, _, rfl, rfl, rfl⟩ (pv_move rfl) rfl ?_
   refine Ops.pvg ⟨_, _, rfl, rfl, rfl⟩ ((pv_neq_bool rfl rfl).fls2 (by simp)) rfl ?_
   refine Ops.pv (pv_pick_false rfl rfl) rfl ?_
   refine Om1 rfl rfl ?_
   refine Ops.pvg ⟨_, _, rfl, rfl, rfl⟩ (pv_move rfl) rfl ?_
   refine Ops.pvg ⟨_, _, rfl, rfl, rfl⟩ (pv_move rfl) rfl ?_
   refine Ops.pvg ⟨_, _, rfl, rfl, rfl⟩ ((pv_neq rfl rfl).fls (fun h => h rfl)) rfl ?_
   refine Ops.pv (pv_pick_false rfl rfl) rfl ?_
   refine On ?_
   refine Wp.cond_false rfl ?_
   refine Wp.skip ?_
   refine Ends.block_normal ?_
   refine Ends.goes ?_
   refine Goes.back (hC0 (p, Lc, Ld) ⟨hC.more (by omega), hD, hp⟩) ⟨rfl, rfl, rfl, rfl, rfl, trivial⟩
  rintro ⟨p2, Lc2, Ld2⟩ ⟨hC2, hD2, hp2⟩
  dsimp only [List.cons_append, List.nil_append] at ⊢
  dsimp only at hC2 hD2 hp2 ⊢
  obtain ⟨sb2, tb2, Ls2, Lt2, hS2, hT2, rfl⟩ := hC2
  obtain ⟨S2, l2, v2, H2, w2, K2, hR2, hQ2, hs2, ht2, rfl⟩ := hD2
  simp only [List.cons_append, List.append_assoc]
  refine Wp.seq ?_
  refine AnyH.start ((b2, .cells [.int .i64 x.o.a.1, .int .i64 x.o.a.2].toArray 31) :: cBlk cb1 sb2 tb2 :: []) 30 rfl ?_
  refine Tk 0 rfl rfl (pv_move rfl) rfl ?_
  refine Tk 1 rfl rfl (pv_move rfl) rfl ?_
  refine AnyH.one 2 (by kernel_rfl) ?_
  refine Turn.ef rfl rfl (ef_callr (tr_zSame (i + 1) cb1 qb1 _ _ p2 ⟨_, _, _, _, hS2, hT2, rfl⟩ ⟨S2, l2, v2, H2, w2, K2, hR2, hQ2, hs2, ht2, rfl⟩ hp2 (by omega)) rfl rfl) ?_ ?_
  ·
   rintro _ _ ⟨rfl, rfl⟩; infer_instance
  rintro _ _ ⟨rfl, rfl⟩
  refine Tk 3 rfl rfl (pv_not rfl) rfl ?_
  refine Tk 4 rfl rfl (pv_move rfl) rfl ?_
  refine Tk 5 rfl ⟨_, _, rfl, rfl, rfl⟩ (pv_move rfl) rfl ?_
  refine Tk 6 rfl ⟨_, _, rfl, rfl, rfl⟩ (pv_loadK [_, _] rfl rfl rfl ⟨rfl, rfl, trivial⟩) rfl ?_
  refine Tk 8 rfl ⟨_, _, rfl, rfl, rfl⟩ (pv_move rfl) rfl ?_
  refine Tk 9 rfl ⟨_, _, rfl, rfl, rfl⟩ (pv_loadK [_, _] rfl rfl rfl ⟨rfl, rfl, trivial⟩) rfl ?_
  refine AnyH.one 7 (by kernel_rfl) ?_
  refine Turn.ef rfl ⟨_, _, rfl, rfl, rfl⟩ (ef_callr (tr_rFinal _ cb1 _ p2 ⟨_, _, _, _, hS2, hT2, rfl⟩ x.o.a) rfl rfl) ?_ ?_
  ·
   rintro _ _ ⟨rfl, rfl⟩; infer_instance
  rintro _ _ ⟨rfl, rfl⟩
  refine AnyH.one 10 (by kernel_rfl) ?_
  refine Turn.ef rfl ⟨_, _, rfl, rfl, rfl⟩ (ef_callr (tr_dFinal qb1 _ p2 ⟨S2, l2, v2, H2, w2, K2, hR2, hQ2, hs2, ht2, rfl⟩ x.o.a) rfl rfl) ?_ ?_
  ·
   rintro _ _ ⟨rfl, rfl⟩; infer_instance
  rintro _ _ ⟨rfl, rfl⟩
  refine Tk 11 rfl ⟨_, _, rfl, rfl, rfl⟩ ((pv_neq_bool rfl rfl).fls2 (by simp)) rfl ?_
  refine Tk 12 rfl rfl (pv_pick_false rfl rfl) rfl ?_
  refine Tk 13 rfl rfl (pv_move rfl) rfl ?_
  refine Tk 14 rfl ⟨_, _, rfl, rfl, rfl⟩ (pv_move rfl) rfl ?_
  refine Tk 15 rfl ⟨_, _, rfl, rfl, rfl⟩ (pv_nilCheck rfl) rfl ?_
  refine Tk 16 rfl ⟨_, _, rfl, rfl, rfl⟩ (pv_fieldAddr0 rfl rfl) rfl ?_
  refine Tk 17 rfl ⟨_, _, rfl, rfl, rfl⟩ (pv_fieldAddr0 rfl rfl) rfl ?_
  refine Tk 18 rfl ⟨_, _, rfl, rfl, rfl⟩ (pv_load rfl rfl rfl) rfl ?_
  refine Tk 19 rfl ⟨_, _, rfl, rfl, rfl⟩ (pv_fieldAddr0 rfl rfl) rfl ?_
  refine Tk 20 rfl ⟨_, _, rfl, rfl, rfl⟩ (pv_load rfl rfl rfl) rfl ?_
  refine Tk 22 rfl ⟨_, _, rfl, rfl, rfl⟩ (pv_move rfl) rfl ?_
  refine Tk 23 rfl ⟨_, _, rfl, rfl, rfl⟩ (pv_nilCheck rfl) rfl ?_
  refine Tk 24 rfl ⟨_, _, rfl, rfl, rfl⟩ (pv_fieldAddr0 rfl rfl) rfl ?_
  refine Tk 25 rfl ⟨_, _, rfl, rfl, rfl⟩ (pv_fieldAddr0 rfl rfl) rfl ?_
  refine Tk 26 rfl ⟨_, _, rfl, rfl, rfl⟩ (pv_load rfl rfl rfl) rfl ?_
  refine AnyH.one 21 (by kernel_rfl) ?_
  refine Turn.ef rfl ⟨_, _, rfl, rfl, rfl⟩ (ef_callr (sf_radix hS2 x.o.a.1) rfl rfl) ?_ ?_
  ·
   rintro _ _ ⟨rfl, rfl⟩; infer_instance
  rintro _ _ ⟨rfl, rfl⟩
  refine AnyH.one 27 (by kernel_rfl) ?_
  refine Turn.ef rfl ⟨_, _, rfl, rfl, rfl⟩ (ef_callr (dsf_radix (uT := w2) ⟨S2, l2, hR2, hQ2, v2, H2, hs2, rfl⟩ x.o.a.1) rfl rfl) ?_ ?_
  ·
   rintro _ _ ⟨rfl, rfl⟩; infer_instance
  rintro _ _ ⟨rfl, rfl⟩
  refine Tk 28 rfl ⟨_, _, rfl, rfl, rfl⟩ ((pv_neq rfl rfl).fls (fun h => h rfl)) rfl ?_
  refine Tk 29 rfl rfl (pv_pick_false rfl rfl) rfl ?_
  refine AnyH.done (by kernel_rfl) ?_
  refine Ends.seq ?_
  refine Wp.cond_false rfl ?_
  refine Wp.skip ?_
  refine Ends.block_normal ?_
  refine Ends.seq ?_
  refine Wp.region ?_
  refine Om1 rfl rfl ?_
  refine Ops.pv (pv_add rfl rfl (w64n (k := i + 1) (by omega) (by omega))) rfl ?_
  refine Oa1 rfl rfl ?_
  refine Ops.nil ?_
  refine Ends.goes ?_
  refine Goes.back (hK (i + 1, p2, cBlk cb1 sb2 tb2 :: (Ls2 ++ Lt2), dcBlk qb1 v2 w2 :: (H2 ++ (dCaps l2 ++ K2))) ⟨by dsimp only; omega, by dsimp only; omega, ⟨_, _, _, _, hS2, hT2, rfl⟩, ⟨S2, l2, v2, H2, w2, K2, hR2, hQ2, hs2, ht2, rfl⟩, hp2⟩ (by dsimp only; omega)) ⟨rfl, rfl, rfl, rfl, trivial⟩
 refine Wp.exit ?_
 refine Ends.then_exit ?_
 refine Ends.then_exit ?_
 refine Ends.block_hit ?_
 refine Ends.seq ?_
 refine Wr ?_
 refine Oa1 rfl rfl ?_
 refine On ?_
 refine Wp.ret ?_
 exact Ends.ret (res1 rfl rfl) ⟨rfl, rfl⟩
end Go.Proofs.YtdodfnjmkpgdbaaGreat
end
