/- The engine, more: loops whose kept slots are listed, segments by number, cells by number. It holds for every program; no condition. -/
import Derived.Test.YtdodfnjmkpgdbaaSX
set_option linter.unusedVariables false
set_option linter.unusedSimpArgs false
namespace Go.SL

theorem SubE.app : ∀ {A B E : Env}, SubE A E → SubE B E → SubE (A ++ B) E
  | [], _, _, _, h => h
  | (_, _) :: _, _, _, h, k => ⟨h.1, SubE.app h.2 k⟩

instance (priority := 1300) TakeS.nil {L : Hp} : TakeS L [] L := ⟨List.Perm.refl _⟩
section loop
variable {P : Program} {W : World} {Q : Exit → Act → World → Prop} {n : Nat} {D : List Deferred} {E : Env} {L : Hp}
/-- A loop: the slots of K stay as they are, those of V turn with the state. -/
theorem Wp.loopK {σ : Type} {c : Code} (K : Env) (V : σ → Env) (LI : σ → Hp) (I : σ → Prop) (μ : σ → Nat) (x0 : σ) (hI : I x0) (hK : SubE K E) (hE : SubE (V x0) E) (hL : ∀ w, Own W w L → Own W w (LI x0))
    (round : ∀ (x : σ) (G : Act → World → Prop), I x → (∀ y, I y → μ y < μ x → Goes W G n D (V y ++ K) (LI y)) → Wp P W (Exit.then G Q) n D c (V x ++ K) (LI x)) :
    Wp P W Q n D (.loop c) E L := Wp.loop (fun x => V x ++ K) LI I μ x0 hI (hE.app hK) hL round
end loop

/-! ### Both ways of a guard at once -/
/-- v if p holds; else nothing of use. -/
def cv (p : Prop) [Decidable p] (v : Value) : Value := if p then v else undef
theorem cv_pos {p : Prop} [Decidable p] {v : Value} (h : p) : cv p v = v := if_pos h
section joins
variable {P : Program} {W : World} {ops : Array Oper} {Q : Exit → Act → World → Prop} {n : Nat} {D : List Deferred} {E : Env} {L : Hp} {rest : List Oper} {d : Nat} {op : Op} {ty : TypeId} {pos : String} {aft : Array Edge} {v : Value} {dd : Option Tmp} {g : Option (Nat × Bool)}
theorem Pv.setE {t : Nat} {u r : Value} {o : Oper} (hl : look t E = some u) (hu : u = v) (h : Pv P n D ((t, v) :: E) L o r) : Pv P n D E L o r := by
  unfold Pv at h ⊢
  intro a w hs hh
  exact h a w (hs.set hl hu) hh
theorem Ops.pvc {j t : Nat} {p : Prop} [Decidable p] (ht : (ops[j]?).bind (·.dst) = some t) (hl : look t E = some (.bool (decide p))) (hp : p → Pv P n D E L ⟨some d, op, ty, pos, aft, some (j, true)⟩ v) (hd : Nat.blt d n = true)
    (hn : Ops P W ops Q n D rest ((d, cv p v) :: E) L) : Ops P W ops Q n D (⟨some d, op, ty, pos, aft, some (j, true)⟩ :: rest) E L := by
  by_cases h : p
  · have hl' : look t E = some (.bool true) := by rw [hl, decide_eq_true h]
    rw [cv_pos h] at hn
    exact Ops.pvg ⟨t, true, ht, hl', rfl⟩ (hp h) hd hn
  · have hl' : look t E = some (.bool false) := by rw [hl, decide_eq_false h]
    rw [cv, if_neg h] at hn
    exact Ops.skipg ⟨t, false, ht, hl', rfl⟩ hd hn
theorem Ops.pvcn {j t : Nat} {p : Prop} [Decidable p] (ht : (ops[j]?).bind (·.dst) = some t) (hl : look t E = some (.bool (decide p))) (hp : ¬ p → Pv P n D E L ⟨some d, op, ty, pos, aft, some (j, false)⟩ v) (hd : Nat.blt d n = true)
    (hn : Ops P W ops Q n D rest ((d, cv (¬ p) v) :: E) L) : Ops P W ops Q n D (⟨some d, op, ty, pos, aft, some (j, false)⟩ :: rest) E L := by
  by_cases h : p
  · have hl' : look t E = some (.bool true) := by rw [hl, decide_eq_true h]
    rw [cv, if_neg (not_not_intro h)] at hn
    exact Ops.skipg ⟨t, true, ht, hl', rfl⟩ hd hn
  · have hl' : look t E = some (.bool false) := by rw [hl, decide_eq_false h]
    rw [cv_pos h] at hn
    exact Ops.pvg ⟨t, false, ht, hl', rfl⟩ (hp h) hd hn
theorem AnyH.takec {S : Hp} {fuel : Nat} {listed : Array Bool} {j t : Nat} {p : Prop} [Decidable p] (i : Nat) (hi : ops[i]? = some ⟨some d, op, ty, pos, aft, some (j, true)⟩) (hsel : Region.noSelect ops = true) (hf : Region.free .any ops listed i = true) (hr : (Region.ready .any ops listed).contains i = true)
    (hQ : PanicsFree Q) (ht : (ops[j]?).bind (·.dst) = some t) (hl : look t E = some (.bool (decide p))) [hS : HeldSub L S] (hp : p → Pv P n D E S ⟨some d, op, ty, pos, aft, some (j, true)⟩ v) (hd : Nat.blt d n = true)
    (hn : AnyH P W ops Q n D S fuel (listed.setIfInBounds i true) ((d, cv p v) :: E) L) : AnyH P W ops Q n D S (fuel + 1) listed E L := by
  by_cases h : p
  · have hl' : look t E = some (.bool true) := by rw [hl, decide_eq_true h]
    rw [cv_pos h] at hn
    exact AnyH.take i hi hsel hf hr hQ ⟨t, true, ht, hl', rfl⟩ (hp h) hd hn
  · have hl' : look t E = some (.bool false) := by rw [hl, decide_eq_false h]
    rw [cv, if_neg h] at hn
    exact AnyH.skip i hi hsel hf hr hQ ⟨t, false, ht, hl', rfl⟩ hd hn
theorem AnyH.takecn {S : Hp} {fuel : Nat} {listed : Array Bool} {j t : Nat} {p : Prop} [Decidable p] (i : Nat) (hi : ops[i]? = some ⟨some d, op, ty, pos, aft, some (j, false)⟩) (hsel : Region.noSelect ops = true) (hf : Region.free .any ops listed i = true) (hr : (Region.ready .any ops listed).contains i = true)
    (hQ : PanicsFree Q) (ht : (ops[j]?).bind (·.dst) = some t) (hl : look t E = some (.bool (decide p))) [hS : HeldSub L S] (hp : ¬ p → Pv P n D E S ⟨some d, op, ty, pos, aft, some (j, false)⟩ v) (hd : Nat.blt d n = true)
    (hn : AnyH P W ops Q n D S fuel (listed.setIfInBounds i true) ((d, cv (¬ p) v) :: E) L) : AnyH P W ops Q n D S (fuel + 1) listed E L := by
  by_cases h : p
  · have hl' : look t E = some (.bool true) := by rw [hl, decide_eq_true h]
    rw [cv, if_neg (not_not_intro h)] at hn
    exact AnyH.skip i hi hsel hf hr hQ ⟨t, true, ht, hl', rfl⟩ hd hn
  · have hl' : look t E = some (.bool false) := by rw [hl, decide_eq_false h]
    rw [cv_pos h] at hn
    exact AnyH.take i hi hsel hf hr hQ ⟨t, false, ht, hl', rfl⟩ (hp h) hd hn
theorem pv_pick_and {x y : Operand} {p q : Prop} [Decidable p] [Decidable q] (hc : ev E x = some (.bool (decide p))) (hy : ev E y = some (cv p (.bool (decide q)))) : Pv P n D E L ⟨dd, .pick x y (.const (.bool false)), ty, pos, aft, g⟩ (.bool (decide (p ∧ q))) := by
  by_cases h : p
  · rw [cv_pos h] at hy
    rw [decide_eq_true h] at hc
    have e : decide (p ∧ q) = decide q := by simp [h]
    rw [e]; exact pv_pick_true hc hy
  · rw [decide_eq_false h] at hc
    have e : decide (p ∧ q) = false := by simp [h]
    rw [e]; exact pv_pick_false hc rfl
theorem pv_pick_or {x y : Operand} {p q : Prop} [Decidable p] [Decidable q] (hc : ev E x = some (.bool (decide p))) (hy : ev E y = some (cv (¬ p) (.bool (decide q)))) : Pv P n D E L ⟨dd, .pick x (.const (.bool true)) y, ty, pos, aft, g⟩ (.bool (decide (p ∨ q))) := by
  by_cases h : p
  · rw [decide_eq_true h] at hc
    have e : decide (p ∨ q) = true := by simp [h]
    rw [e]; exact pv_pick_true hc rfl
  · rw [cv_pos h] at hy
    rw [decide_eq_false h] at hc
    have e : decide (p ∨ q) = decide q := by simp [h]
    rw [e]; exact pv_pick_false hc hy
end joins

/-- f, but a at i. -/
def fset {α : Type} (f : Nat → α) (i : Nat) (a : α) : Nat → α := fun j => if j = i then a else f j
theorem fset_same {α : Type} (f : Nat → α) (i : Nat) (a : α) : fset f i a i = a := if_pos rfl
theorem fset_ne {α : Type} {f : Nat → α} {i j : Nat} {a : α} (h : j ≠ i) : fset f i a j = f j := if_neg h
theorem fset_fset {α : Type} (f : Nat → α) (i : Nat) (a b : α) : fset (fset f i a) i b = fset f i b := by
  funext j; unfold fset; split <;> rfl

/-- The segments 0 .. n - 1, one behind the other. -/
def segs (h : Nat → Hp) (n : Nat) : Hp := (List.range n).flatMap h
theorem segs_succ (h : Nat → Hp) (n : Nat) : segs h (n + 1) = segs h n ++ h n := by
  unfold segs; rw [List.range_succ, List.flatMap_append]; simp
theorem segs_congr {h k : Nat → Hp} : ∀ {n : Nat}, (∀ i, i < n → h i = k i) → segs h n = segs k n
  | 0, _ => rfl
  | n + 1, e => by rw [segs_succ, segs_succ, segs_congr (fun i hi => e i (by omega)), e n (by omega)]
theorem segs_take {h : Nat → Hp} {i : Nat} : ∀ {n : Nat}, i < n → (segs h n).Perm (h i ++ segs (fset h i []) n)
  | 0, hi => by omega
  | n + 1, hi => by
    rw [segs_succ, segs_succ]
    by_cases e : i = n
    · subst e
      rw [fset_same, List.append_nil, segs_congr (h := fset h i []) (k := h) (fun j hj => fset_ne (by omega))]
      exact List.perm_append_comm
    · have ih := segs_take (h := h) (i := i) (n := n) (by omega)
      rw [fset_ne (show n ≠ i by omega), ← List.append_assoc]
      exact ih.append_right _
theorem segs_put {h : Nat → Hp} {i n : Nat} {H : Hp} (hi : i < n) : (H ++ segs (fset h i []) n).Perm (segs (fset h i H) n) := by
  have := segs_take (h := fset h i H) hi
  rw [fset_same, fset_fset] at this
  exact this.symm
theorem segs_mem {h : Nat → Hp} {i n : Nat} (hi : i < n) {p : Nat × Obj} (hp : p ∈ h i) : p ∈ segs h n :=
  (segs_take hi).mem_iff.2 (List.mem_append_left _ hp)
theorem segs_nil : ∀ n : Nat, segs (fun _ => []) n = []
  | 0 => rfl
  | n + 1 => by rw [segs_succ, segs_nil n]; rfl

section segops
variable {P : Program} {W : World} {ops : Array Oper} {Q : Exit → Act → World → Prop} {n : Nat} {D : List Deferred} {E : Env} {L R R1 R2 : Hp} {rest : List Oper} {h : Nat → Hp} {m k : Nat} {H : Hp}
theorem Own.openS {w : World} (hk : k < m) (t : TakeS L (segs h m) R) (o : Own W w L) : Own W w (h k ++ (segs (fset h k []) m ++ R)) :=
  o.perm (t.perm.trans (by rw [← List.append_assoc]; exact (segs_take hk).append_right R))
theorem Own.closeS {w : World} (hk : k < m) (t : TakeS L (segs (fset h k []) m) R1) (u : Part R1 H R2) (o : Own W w L) : Own W w (segs (fset h k H) m ++ R2) :=
  o.perm (t.perm.trans ((List.Perm.append_left _ u.perm).trans (by
    rw [← List.append_assoc]
    exact (List.perm_append_comm.trans (segs_put hk)).append_right R2)))
theorem Ops.openS (h : Nat → Hp) (m k : Nat) (hk : k < m) [t : TakeS L (segs h m) R] (hn : Ops P W ops Q n D rest E (h k ++ (segs (fset h k []) m ++ R))) : Ops P W ops Q n D rest E L := Ops.heap (fun w o => o.openS hk t) hn
theorem Wp.openS {c : Code} (h : Nat → Hp) (m k : Nat) (hk : k < m) [t : TakeS L (segs h m) R] (hn : Wp P W Q n D c E (h k ++ (segs (fset h k []) m ++ R))) : Wp P W Q n D c E L := Wp.heap (fun w o => o.openS hk t) hn
theorem Ops.closeS (h : Nat → Hp) (m k : Nat) (H : Hp) (hk : k < m) [t : TakeS L (segs (fset h k []) m) R1] [u : Part R1 H R2] (hn : Ops P W ops Q n D rest E (segs (fset h k H) m ++ R2)) : Ops P W ops Q n D rest E L := Ops.heap (fun w o => o.closeS hk t u) hn
theorem Wp.closeS {c : Code} (h : Nat → Hp) (m k : Nat) (H : Hp) (hk : k < m) [t : TakeS L (segs (fset h k []) m) R1] [u : Part R1 H R2] (hn : Wp P W Q n D c E (segs (fset h k H) m ++ R2)) : Wp P W Q n D c E L := Wp.heap (fun w o => o.closeS hk t u) hn
theorem Ends.closeS {e : Exit} (h : Nat → Hp) (m k : Nat) (H : Hp) (hk : k < m) [t : TakeS L (segs (fset h k []) m) R1] [u : Part R1 H R2] (hn : Ends W Q n D e E (segs (fset h k H) m ++ R2)) : Ends W Q n D e E L := Ends.heap (fun w o => o.closeS hk t u) hn
theorem Goes.closeS {Kk : Act → World → Prop} (h : Nat → Hp) (m k : Nat) (H : Hp) (hk : k < m) [t : TakeS L (segs (fset h k []) m) R1] [u : Part R1 H R2] (hn : Goes W Kk n D E (segs (fset h k H) m ++ R2)) : Goes W Kk n D E L := by
  unfold Goes at hn ⊢
  exact fun a w hs ho => hn a w hs (ho.closeS hk t u)
end segops

theorem Tr.post {P : Program} {f : FuncId} {args : List Value} {L : Hp} {R R' : Value → Hp → Prop} (h : Tr P f args L R) (hr : ∀ v L1, R v L1 → ∃ L2, R' v L2 ∧ L1.Perm L2) : Tr P f args L R' := by
  unfold Tr at h ⊢
  intro W w F ho
  refine (h W w F ho).mono ?_
  rintro e w' ⟨v, L1, he, hR, ho'⟩
  obtain ⟨L2, h2, hp⟩ := hr v L1 hR
  exact ⟨v, L2, he, h2, ho'.perm (hp.append_right F)⟩
theorem Tr.inSeg {P : Program} {f : FuncId} {args : List Value} {h : Nat → Hp} {m d : Nat} (hd : d < m) {R : Value → Hp → Prop} (t : Tr P f args (h d) R) : Tr P f args (segs h m) (fun v L' => ∃ L1, R v L1 ∧ L' = L1 ++ segs (fset h d []) m) :=
  t.frame (segs_take hd)
theorem TrR.inSeg {P : Program} {f : FuncId} {args : List Value} {h : Nat → Hp} {m d : Nat} (hd : d < m) {r : Value} (t : TrR P f args (h d) r) : TrR P f args (segs h m) r :=
  haveI : Has (segs h m) (h d) := ⟨_, segs_take hd⟩
  t.frame
theorem SetL.set1 {l : List Value} {i : Nat} {v : Value} (h : i < l.length) : SetL l i [v] (l.set i v) :=
  ⟨by simp, by simp; omega, fun j => by
    rw [List.getElem?_set]
    by_cases e : i = j
    · subst e; simp [h]
    · rw [if_neg e, if_neg (by simp; omega)]⟩
theorem nth_app {A B : List Value} {i : Nat} {v : Value} (h : nth A i = some v) : nth (A ++ B) i = some v := by
  rw [nth_eq] at h ⊢
  rw [List.getElem?_append_left (List.getElem?_eq_some_iff.1 h).1]; exact h

/-! ### Elements of some cells each -/
/-- f lays an element into k cells. -/
class Enc {α : Type} (f : α → List Value) (k : outParam Nat) : Prop where
  len : ∀ a, (f a).length = k
  one : ∀ a, (f a).all Value.oneCell' = true
def cel {α : Type} (f : α → List Value) (l : List α) : List Value := (l.map f).flatten
section cel
variable {α : Type} {f : α → List Value} {k : Nat}
theorem cel_nil : cel f [] = [] := rfl
theorem cel_cons (a : α) (l : List α) : cel f (a :: l) = f a ++ cel f l := by simp [cel]
theorem cel_app (l m : List α) : cel f (l ++ m) = cel f l ++ cel f m := by simp [cel]
theorem cel_one1 (a : α) : cel f [a] = f a := by simp [cel]
theorem cel_len [h : Enc f k] (l : List α) : (cel f l).length = l.length * k := by
  induction l with
  | nil => simp [cel]
  | cons a l ih => rw [cel_cons, List.length_append, h.len, ih, List.length_cons, Nat.add_mul, Nat.one_mul, Nat.add_comm]
theorem cel_one [h : Enc f k] (l : List α) : (cel f l).all Value.oneCell' = true := by
  induction l with
  | nil => rfl
  | cons a l ih => rw [cel_cons, List.all_append, h.one, ih]; rfl
theorem cel_take [h : Enc f k] : ∀ (l : List α) (i : Nat), (cel f l).take (i * k) = cel f (l.take i)
  | [], i => by simp [cel]
  | a :: l, 0 => by simp [cel]
  | a :: l, i + 1 => by
    rw [cel_cons, List.take_succ_cons, cel_cons, List.take_append, h.len, List.take_of_length_le (by rw [h.len, Nat.add_mul]; omega)]
    rw [show (i + 1) * k - k = i * k by rw [Nat.add_mul]; omega, cel_take l i]
theorem cel_drop [h : Enc f k] : ∀ (l : List α) (i : Nat), (cel f l).drop (i * k) = cel f (l.drop i)
  | [], i => by simp [cel]
  | a :: l, 0 => by simp [cel]
  | a :: l, i + 1 => by
    rw [cel_cons, List.drop_succ_cons, List.drop_append, h.len, List.drop_of_length_le (by rw [h.len, Nat.add_mul]; omega)]
    rw [show (i + 1) * k - k = i * k by rw [Nat.add_mul]; omega, cel_drop l i, List.nil_append]
theorem cel_slice [h : Enc f k] (l : List α) (i j : Nat) : ((cel f l).drop (i * k)).take (j * k) = cel f ((l.drop i).take j) := by rw [cel_drop, cel_take]
theorem cel_reads [h : Enc f k] {cc : List Value} {o i : Nat} {l : List α} {a : α} (hr : Reads cc o (cel f l)) (hi : l[i]? = some a) : Reads cc (o + i * k) (f a) := by
  have h1 := hr.sub (i := i * k) (l := 1 * k)
  rw [cel_slice] at h1
  have hlt := (List.getElem?_eq_some_iff.1 hi).1
  have e : (l.drop i).take 1 = [a] := by
    rw [List.drop_eq_getElem_cons hlt]; simp [(List.getElem?_eq_some_iff.1 hi).2]
  rw [e, cel_one1] at h1
  exact h1
/-- A view of a part. -/
theorem View.part [h : Enc f k] {G : Hp} {a : Option Addr} {c : Nat} {l : List α} (hv : View G k (.slice a l.length c) l.length (cel f l)) {i j : Nat} (h1 : i ≤ j) (h2 : j ≤ l.length) :
    View G k (.slice (if c = i then a else a.map (·.add (i * k))) ((l.drop i).take (j - i)).length (c - i)) ((l.drop i).take (j - i)).length (cel f ((l.drop i).take (j - i))) := by
  have hh := hv.slice h1 h2
  rw [cel_slice] at hh
  have e : ((l.drop i).take (j - i)).length = j - i := by rw [List.length_take, List.length_drop]; omega
  rw [e]; exact hh
end cel
theorem shrn {a k : Nat} (hk : k ≤ 64) : ((a : Int)).fdiv (2 ^ (min ((k : Int)).toNat 64)) = ((a / 2 ^ k : Nat) : Int) := by
  rw [show min ((k : Int)).toNat 64 = k by omega]; exact fdiv_pow a k
theorem plen {α : Type} {l : List α} {i j : Nat} (h1 : i ≤ j) (h2 : j ≤ l.length) : ((l.drop i).take (j - i)).length = j - i := by rw [List.length_take, List.length_drop]; omega
theorem slc_empty' (T sz b : Nat) : Slc T sz (.slice (some ⟨b, 0, none⟩) 0 0) 0 [] [(b, .cells ([] : List Value).toArray T)] := ⟨by simp, .inr ⟨b, [], [], 0, rfl, Nat.le_refl _, by simp, rfl⟩⟩
theorem view_nil' {G : Hp} {sz n c : Nat} {cs : List Value} (h : View G sz (.slice none n c) n cs) : n = 0 ∧ cs = [] := by
  obtain ⟨hl, a, c', e, _, h4⟩ := h
  cases e
  rcases h4 with rfl | ⟨b, o, cc, T, f, e, _⟩
  · exact ⟨rfl, List.eq_nil_of_length_eq_zero (by omega)⟩
  · cases e

/-! ### Slices written out -/
theorem fill_congr {f g : Nat → Option (Nat × Nat)} : ∀ {parts : List (Nat × Value)} {zs : Array Value}, (∀ p, p ∈ parts → f p.1 = g p.1) → Instr.fill f zs parts = Instr.fill g zs parts
  | [], _, _ => by simp [Instr.fill]
  | (i, v) :: parts, zs, h => by
    have h0 := h (i, v) (List.mem_cons_self ..)
    dsimp only at h0
    simp only [Instr.fill, h0]
    cases g i with
    | none => rfl
    | some ab =>
      obtain ⟨a, b⟩ := ab
      dsimp only
      split
      · rfl
      · exact fill_congr (fun p hp => h p (List.mem_cons_of_mem _ hp))
section buildn
variable {P : Program} {W : World} {n : Nat} {D : List Deferred} {E : Env} {L : Hp} {ty : TypeId} {pos : String} {aft : Array Edge} {g : Option (Nat × Bool)} {T : TypeId}
theorem ef_buildSliceN {d : Nat} {e m k : Nat} {zv : Value} {parts : List (Nat × Operand)} {vs : List (Nat × Value)} {cs : List Value} (zs : List Value) (pl : List (Nat × Nat)) [ht : TyD P T (.slice e)] [hk : TyS P e k] [hz : TyZ P e zv] (hx : evps E parts = some vs)
    (hzs : (Array.range (m * k)).map (fun i => zv.cells[i % zv.cells.size]!) = zs.toArray) (hpl : vs.all (fun p => decide (pl[p.1]? = some (p.1 * k, k))) = true) (h0 : Nat.ble 1 (m * k) = true) (hb : Nat.ble (m * k) 16777216 = true) (hd : Nat.blt d n = true) [hf : Fills pl zs vs cs] :
    Ef P W n D ⟨some d, .buildSlice T m parts.toArray, ty, pos, aft, g⟩ E L (fun E' L' => ∃ b, E' = (d, .slice (some ⟨b, 0, none⟩) m m) :: E ∧ L' = (b, .cells cs.toArray e) :: L) := by
  unfold Ef
  intro Q a w next hs ho hn
  have h1 : 1 ≤ m * k := Nat.le_of_ble_eq_true h0
  have h2 : m * k ≤ 16777216 := Nat.le_of_ble_eq_true hb
  have hfe := hf.eq
  have hfc : Instr.fill (fun i => some (i * k, k)) zs.toArray vs = some cs.toArray := by
    rw [← hfe]
    refine fill_congr fun p hp => ?_
    have := List.all_eq_true.1 hpl p hp
    simpa using (of_decide_eq_true this).symm
  have hm : (parts.toArray.map fun (i, x) => (i, a.eval x)) = vs.toArray := by rw [List.map_toArray, hs.evps hx]
  unfold Oper.wp
  have : (execOp a.eval ⟨some d, .buildSlice T m parts.toArray, ty, pos, aft, g⟩).run P w = .ok (.value (.slice (some ⟨w.heap.size, 0, none⟩) m m)) (w.alloc (.cells cs.toArray e)) := by
    have hb' : ¬ (m * k > 2 ^ 24) := by omega
    have hb0 : ¬ (m * k = 0) := by omega
    simp only [execOp, Instr.buildSlice, Sem.run_bind, TyD.run, TyS.run, Result.andThen_ok, Sem.run_ite, if_neg hb', if_neg hb0, TyZ.run, Sem.run_pure]
    rw [show (Array.map (fun (x : Nat × Operand) => (x.1, a.eval x.2)) parts.toArray) = vs.toArray from hm]
    simp only [hzs, hfc, newRow, run_newObj]
    rfl
  rw [this]
  exact hn _ _ _ _ ⟨_, rfl, rfl⟩ (hs.put hd) (ho.alloc _)
end buildn
/-! ### Slices made -/
theorem zeros_flat (zs : List Value) : ∀ r : Nat, (List.range (r * zs.length)).map (fun i => zs.toArray[i % zs.toArray.size]!) = (List.replicate r zs).flatten
  | 0 => by simp
  | r + 1 => by
    rw [Nat.add_mul, Nat.one_mul, List.range_add, List.map_append, zeros_flat zs r, List.replicate_succ', List.flatten_append]
    congr 1
    simp only [List.map_map, List.flatten_cons, List.flatten_nil, List.append_nil]
    apply List.ext_getElem
    · simp
    · intro j h1 h2
      simp [Nat.mod_eq_of_lt h2, h2]
section makes
variable {P : Program} {W : World} {n : Nat} {D : List Deferred} {E : Env} {L : Hp} {ty : TypeId} {pos : String} {aft : Array Edge} {g : Option (Nat × Bool)} {T : TypeId} {x y : Operand}
theorem ef_makeSlice {d : Nat} {e k bytes r : Nat} {zv : Value} (zs : List Value) [ht : TyD P T (.slice e)] [hk : TyS P e k] [hby : TyB P e bytes] [hz : TyZ P e zv] (hx : ev E x = some (.int .i64 (r : Int))) (hy : ev E y = some (.int .i64 (r : Int)))
    (hzs : zv.cells = zs.toArray) (hzl : zs.length = k) (hk1 : 1 ≤ k) (hr1 : 1 ≤ r) (hr : r ≤ 1048576) (hbd : bytes ≤ 1024) (hd : Nat.blt d n = true) :
    Ef P W n D ⟨some d, .makeSlice T x y, ty, pos, aft, g⟩ E L (fun E' L' => ∃ b, E' = (d, .slice (some ⟨b, 0, none⟩) r r) :: E ∧ L' = (b, .cells ((List.replicate r zs).flatten).toArray e) :: L) := by
  unfold Ef
  intro Q a w next hs ho hn
  obtain ⟨i, hi, hzi⟩ := Option.bind_eq_some_iff.1 hz.eq
  have hisz : i.size = k := by have := hk.eq; rw [hi] at this; simpa using this
  have hiby : i.bytes = bytes := by have := hby.eq; rw [hi] at this; simpa using this
  unfold Oper.wp
  have hbr : r * bytes ≤ 1048576 * 1024 := Nat.mul_le_mul hr hbd
  have hbr' : ((bytes * r : Nat) : Int) ≤ 1048576 * 1024 := by rw [Nat.mul_comm]; omega
  have wr : IntKind.i64.wrap (r : Int) = r := w64 (by omega) (by omega)
  have n1 : ¬ ((r : Int) < 0) := by omega
  have n2 : ¬ (281474976710656 < (bytes : Int) * (r : Int)) := by rw [Int.natCast_mul] at hbr'; omega
  have n5 : ¬ (140737488355328 < r * bytes) := by omega
  have hn0 : ¬ (r * k = 0) := by intro h0; rcases Nat.mul_eq_zero.1 h0 with h | h <;> omega
  have hrow : (Array.range (r * k)).map (fun i => zv.cells[i % zv.cells.size]!) = ((List.replicate r zs).flatten).toArray := by
    rw [← zeros_flat zs r, hzs, hzl]
    apply Array.ext'; simp
  have : (execOp a.eval ⟨some d, .makeSlice T x y, ty, pos, aft, g⟩).run P w = .ok (.value (.slice (some ⟨w.heap.size, 0, none⟩) r r)) (w.alloc (.cells ((List.replicate r zs).flatten).toArray e)) := by
    simp [execOp, Instr.makeSlice, hs.ev hx, hs.ev hy, run_underlying ht.eq, asInt, asIntOf, typeInfo, hi, sizeOf, zeroValue, hzi, wr, n1, n2, n5, hn0, hisz, hiby, newRow, askRoom, roomBytes, hrow]
  rw [this]
  exact hn _ _ _ _ ⟨_, rfl, rfl⟩ (hs.put hd) (ho.alloc _)
end makes
theorem view_lit {b T k n : Nat} {cs : List Value} (h : cs.length = n * k) : View [(b, .cells cs.toArray T)] k (.slice (some ⟨b, 0, none⟩) n n) n cs :=
  ⟨h, _, n, rfl, Nat.le_refl _, .inr ⟨b, 0, cs, T, (0, 0), rfl, List.mem_singleton.2 rfl, by rw [reads_iff]; intro j v hv; rw [Nat.zero_add]; exact hv⟩⟩
instance (priority := 1250) Part.assoc {L A B T R : Hp} [h : Part L (A ++ (B ++ T)) R] : Part L ((A ++ B) ++ T) R := ⟨by have := h.perm; rwa [← List.append_assoc A B T] at this⟩
/-- Ways that come together: what stands behind them is walked once. -/
theorem Wp.cutK {P : Program} {W : World} {Q : Exit → Act → World → Prop} {n : Nat} {D : List Deferred} {E : Env} {L : Hp} {x y : Code} {σ : Type} (KE : Env) (VE : σ → Env) (H : σ → Hp) (I : σ → Prop) (hK : SubE KE E)
    (hx : SubE KE E → ∀ KK : Act → World → Prop, (∀ s, I s → Goes W KK n D (VE s ++ KE) (H s)) → Wp P W (Exit.then KK Q) n D x E L) (hy : ∀ s, I s → Wp P W Q n D y (VE s ++ KE) (H s)) : Wp P W Q n D (.seq x y) E L := by
  refine Wp.seq (hx hK (fun a w => y.wp P Q a w) fun s hs => ?_)
  have h := hy s hs
  unfold Wp at h
  unfold Goes
  exact h
/-- A guard that was left out itself: what hangs on it is left out too. -/
theorem wanted_undef {ops : Array Oper} {n : Nat} {D : List Deferred} {E : Env} {a : Act} {o : Oper} {j t : Nat} {w : Bool} (hg : o.guard = some (j, w)) (h1 : (ops[j]?).bind (·.dst) = some t) (h2 : look t E = some undef) (hs : Sees n D E a) : Region.wanted o (yielded ops a.tmps) = false := by
  unfold Region.wanted
  rw [hg]
  have : yielded ops a.tmps j = none := by
    unfold yielded
    rw [h1]
    simp [hs.get t _ h2, undef]
  simp only [this]
  first | rfl | (cases w <;> rfl)
theorem Ops.skipu {P : Program} {W : World} {ops : Array Oper} {Q : Exit → Act → World → Prop} {n : Nat} {D : List Deferred} {E : Env} {L : Hp} {rest : List Oper} {d : Nat} {op : Op} {ty : TypeId} {pos : String} {aft : Array Edge} {j t : Nat} {w : Bool}
    (h1 : (ops[j]?).bind (·.dst) = some t) (h2 : look t E = some undef) (hd : Nat.blt d n = true) (hn : Ops P W ops Q n D rest ((d, undef) :: E) L) : Ops P W ops Q n D (⟨some d, op, ty, pos, aft, some (j, w)⟩ :: rest) E L := by
  unfold Ops at hn ⊢
  intro a x hs ho
  refine wpList_step fun K' hK' => ?_
  rw [if_neg (by rw [wanted_undef (o := ⟨some d, op, ty, pos, aft, some (j, w)⟩) rfl h1 h2 hs]; simp)]
  exact hK' _ _ (hn _ _ (hs.put hd) ho)
end Go.SL
