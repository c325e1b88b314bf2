/- The engine of this seat's walks: a small separation logic over the kit's 'Code.wp': what the slots hold ('Sees'), what the blocks hold ('Own', 'Held'), one rule for each operation. It holds for every program; no condition. -/
import Derived.WalkKit
import Derived.OrdersHeld
import Derived.Laws.StructEq
import Derived.Laws.Pointers
import Derived.KernelRfl
set_option linter.unusedVariables false
set_option linter.unusedSimpArgs false
namespace Go.SL

abbrev Env := List (Nat × Value)
abbrev Hp := List (Nat × Obj)

/-- What a slot holds (the first entry counts). -/
def look (t : Nat) : Env → Option Value
  | [] => none
  | (k, v) :: E => match Nat.beq k t with
    | true => some v
    | false => look t E

structure Sees (n : Nat) (D : List Deferred) (E : Env) (a : Act) : Prop where
  size : a.tmps.size = n
  dfs : a.defers = D
  get : ∀ t v, look t E = some v → a.tmps[t]? = some v

def ev (E : Env) : Operand → Option Value
  | .tmp t => look t E
  | .const v => some v
  | .global g => some (.pointer (some ⟨g, 0, none⟩))
  | .func f => some (.func (.func f) #[] #[])

def evs (E : Env) : List Operand → Option (List Value)
  | [] => some []
  | x :: xs => match ev E x with
    | none => none
    | some v => match evs E xs with
      | none => none
      | some vs => some (v :: vs)

structure Own (W w : World) (L : Hp) : Prop where
  os : w.os = W.os
  tape : w.tape = W.tape
  out : w.output = W.output
  nd : (L.map Prod.fst).Nodup
  get : ∀ p, p ∈ L → w.heap[p.1]? = some p.2

def Held (L : Hp) (w : World) : Prop := ∀ p, p ∈ L → w.heap[p.1]? = some p.2

theorem Own.held {W w : World} {L : Hp} (h : Own W w L) : Held L w := h.get

section sees
variable {n : Nat} {D : List Deferred} {E : Env} {a : Act}

theorem Sees.ev (h : Sees n D E a) {x : Operand} {v : Value} (hx : SL.ev E x = some v) : a.eval x = v := by
  cases x with
  | tmp t => have := h.get t v hx; simp [Act.eval, this]
  | const c => simpa [SL.ev, Act.eval] using hx
  | global g => simpa [SL.ev, Act.eval] using hx
  | func f => simpa [SL.ev, Act.eval] using hx

theorem Sees.evs (h : Sees n D E a) : ∀ {xs : List Operand} {vs : List Value}, SL.evs E xs = some vs → xs.map a.eval = vs
  | [], vs, hx => by simpa [SL.evs] using hx
  | x :: xs, vs, hx => by
    simp only [SL.evs] at hx
    split at hx
    · cases hx
    · rename_i v hv
      split at hx
      · cases hx
      · rename_i us hus
        cases hx
        simp [h.ev hv, h.evs hus]

theorem Sees.put (h : Sees n D E a) {d : Nat} {v : Value} (hd : Nat.blt d n = true) : Sees n D ((d, v) :: E) (a.put (some d) v) := by
  have hlt : d < n := by simpa [Nat.blt_eq] using hd
  refine ⟨by simp [Act.put, h.size], by simp [Act.put, h.dfs], fun t u hu => ?_⟩
  simp only [look] at hu
  split at hu
  · rename_i hb
    have : d = t := Nat.eq_of_beq_eq_true hb
    subst this
    cases hu
    simp [Act.put, h.size, hlt]
  · rename_i hb
    have : d ≠ t := fun e => by subst e; simp at hb
    simp only [Act.put]
    rw [Array.getElem?_setIfInBounds_ne this]
    exact h.get t u hu

theorem Sees.put_none (h : Sees n D E a) {v : Value} : Sees n D E (a.put none v) := h

/-- Less is seen. -/
def SubE : Env → Env → Prop
  | [], _ => True
  | (t, v) :: E', E => look t E = some v ∧ SubE E' E

theorem look_of_subE : ∀ {E' E : Env}, SubE E' E → ∀ t v, look t E' = some v → look t E = some v
  | [], _, _, t, v, h => by cases h
  | (k, u) :: E', E, hs, t, v, h => by
    simp only [look] at h
    split at h
    · rename_i hb
      cases h
      rw [← Nat.eq_of_beq_eq_true hb]
      exact hs.1
    · exact look_of_subE hs.2 t v h

theorem Sees.sub {E' : Env} (h : Sees n D E a) (hs : SubE E' E) : Sees n D E' a := ⟨h.size, h.dfs, fun t v hv => h.get t v (look_of_subE hs t v hv)⟩
end sees

section own
variable {W w : World} {L : Hp}

theorem Own.lt (h : Own W w L) {b : Nat} {o : Obj} (hm : (b, o) ∈ L) : b < w.heap.size := by
  have := h.get _ hm
  rcases Nat.lt_or_ge b w.heap.size with h' | h'
  · exact h'
  · simp [Array.getElem?_eq_none h'] at this

theorem Own.drew (h : Own W w L) : Own W w.drew L := ⟨h.os, h.tape, h.out, h.nd, h.get⟩
theorem Own.drawn (h : Own W w L) (n : Nat) : Own W { w with drawn := n } L := ⟨h.os, h.tape, h.out, h.nd, h.get⟩

theorem Own.alloc (h : Own W w L) (o : Obj) : Own W (w.alloc o) ((w.heap.size, o) :: L) := by
  refine ⟨h.os, h.tape, h.out, ?_, ?_⟩
  · simp only [List.map_cons, List.nodup_cons]
    refine ⟨fun hm => ?_, h.nd⟩
    obtain ⟨⟨b, o'⟩, hm, rfl⟩ := List.mem_map.1 hm
    exact Nat.lt_irrefl _ (h.lt hm)
  · intro p hp
    rcases List.mem_cons.1 hp with rfl | hp
    · simp [World.alloc, -World.alloc_eq]
    · have hlt := h.lt (b := p.1) (o := p.2) hp
      simp only [World.alloc, Array.getElem?_push]
      rw [if_neg (Nat.ne_of_lt hlt)]
      exact h.get p hp

theorem Own.perm {L' : Hp} (h : Own W w L) (hp : L.Perm L') : Own W w L' :=
  ⟨h.os, h.tape, h.out, (hp.map Prod.fst).nodup_iff.1 h.nd, fun p hm => h.get p (hp.mem_iff.2 hm)⟩

theorem Own.sublist {L' : Hp} (h : Own W w L) (hp : L'.Sublist L) : Own W w L' :=
  ⟨h.os, h.tape, h.out, h.nd.sublist (hp.map Prod.fst), fun p hm => h.get p (hp.subset hm)⟩

theorem Own.app_left {A B : Hp} (h : Own W w (A ++ B)) : Own W w A := h.sublist (List.sublist_append_left A B)
theorem Own.app_right {A B : Hp} (h : Own W w (A ++ B)) : Own W w B := h.sublist (List.sublist_append_right A B)

/-- Block b holds another thing now. -/
theorem Own.set {A B : Hp} {b : Nat} {o o' : Obj} {w' : World} (h : Own W w (A ++ (b, o) :: B))
    (hos : w'.os = w.os) (ht : w'.tape = w.tape) (hout : w'.output = w.output)
    (hb : w'.heap[b]? = some o') (hne : ∀ k, k ≠ b → w'.heap[k]? = w.heap[k]?) : Own W w' (A ++ (b, o') :: B) := by
  refine ⟨hos.trans h.os, ht.trans h.tape, hout.trans h.out, by simpa using h.nd, fun p hp => ?_⟩
  have hnd := h.nd
  simp only [List.map_append, List.map_cons, List.nodup_append, List.nodup_cons] at hnd
  rcases List.mem_append.1 hp with hp | hp
  · have hneq : p.1 ≠ b := fun e => hnd.2.2 _ (List.mem_map.2 ⟨p, hp, rfl⟩) _ (List.mem_cons_self ..) e
    rw [hne _ hneq]
    exact h.get p (List.mem_append_left _ hp)
  · rcases List.mem_cons.1 hp with rfl | hp
    · exact hb
    · have hneq : p.1 ≠ b := fun e => hnd.2.1.1 (e ▸ List.mem_map.2 ⟨p, hp, rfl⟩)
      rw [hne _ hneq]
      exact h.get p (List.mem_append_right _ (List.mem_cons_of_mem _ hp))
end own

/-! ### Where a block lies in a list (found by instances) -/

class Blk (L : Hp) (b : Nat) (o : outParam Obj) : Prop where
  mem : (b, o) ∈ L
instance (priority := 1100) Blk.here {b : Nat} {o : Obj} {L : Hp} : Blk ((b, o) :: L) b o := ⟨List.mem_cons_self ..⟩
instance (priority := 1000) Blk.there {b : Nat} {o : Obj} {x : Nat × Obj} {L : Hp} [h : Blk L b o] : Blk (x :: L) b o := ⟨List.mem_cons_of_mem _ h.mem⟩
instance (priority := 900) Blk.right {b : Nat} {o : Obj} {S L : Hp} [h : Blk L b o] : Blk (S ++ L) b o := ⟨List.mem_append_right _ h.mem⟩
instance (priority := 800) Blk.left {b : Nat} {o : Obj} {S L : Hp} [h : Blk S b o] : Blk (S ++ L) b o := ⟨List.mem_append_left _ h.mem⟩

/-- L' is L, but for block b, in which o' lies. -/
class Upd (L : Hp) (b : Nat) (o' : Obj) (L' : outParam Hp) : Prop where
  eq : ∃ A B o, L = A ++ (b, o) :: B ∧ L' = A ++ (b, o') :: B
instance (priority := 1100) Upd.here {b : Nat} {o o' : Obj} {L : Hp} : Upd ((b, o) :: L) b o' ((b, o') :: L) := ⟨[], L, o, rfl, rfl⟩
instance (priority := 1000) Upd.there {b : Nat} {o' : Obj} {x : Nat × Obj} {L L' : Hp} [h : Upd L b o' L'] : Upd (x :: L) b o' (x :: L') :=
  ⟨by obtain ⟨A, B, o, h1, h2⟩ := h.eq; exact ⟨x :: A, B, o, by rw [h1]; rfl, by rw [h2]; rfl⟩⟩
instance (priority := 900) Upd.right {b : Nat} {o' : Obj} {S L L' : Hp} [h : Upd L b o' L'] : Upd (S ++ L) b o' (S ++ L') :=
  ⟨by obtain ⟨A, B, o, h1, h2⟩ := h.eq; exact ⟨S ++ A, B, o, by rw [h1, List.append_assoc], by rw [h2, List.append_assoc]⟩⟩
instance (priority := 800) Upd.left {b : Nat} {o' : Obj} {S S' L : Hp} [h : Upd S b o' S'] : Upd (S ++ L) b o' (S' ++ L) :=
  ⟨by obtain ⟨A, B, o, h1, h2⟩ := h.eq; exact ⟨A, B ++ L, o, by rw [h1]; simp, by rw [h2]; simp⟩⟩

/-- Block b is taken out of L. -/
class Take (L : Hp) (b : Nat) (o : outParam Obj) (R : outParam Hp) : Prop where
  perm : L.Perm ((b, o) :: R)
instance (priority := 1100) Take.here {b : Nat} {o : Obj} {L : Hp} : Take ((b, o) :: L) b o L := ⟨List.Perm.refl _⟩
instance (priority := 1000) Take.there {b : Nat} {o : Obj} {x : Nat × Obj} {L R : Hp} [h : Take L b o R] : Take (x :: L) b o (x :: R) :=
  ⟨(h.perm.cons x).trans (List.Perm.swap _ _ _)⟩
instance (priority := 900) Take.right {b : Nat} {o : Obj} {S L R : Hp} [h : Take L b o R] : Take (S ++ L) b o (S ++ R) :=
  ⟨(List.Perm.append_left S h.perm).trans List.perm_middle⟩

/-- The segment S is taken out of L. -/
class TakeS (L S : Hp) (R : outParam Hp) : Prop where
  perm : L.Perm (S ++ R)
instance (priority := 1200) TakeS.all {S : Hp} : TakeS S S [] := ⟨by simp⟩
instance (priority := 1100) TakeS.head {S R : Hp} : TakeS (S ++ R) S R := ⟨List.Perm.refl _⟩
instance (priority := 1000) TakeS.skip {x : Nat × Obj} {L S R : Hp} [h : TakeS L S R] : TakeS (x :: L) S (x :: R) :=
  ⟨(h.perm.cons x).trans (List.perm_middle.symm)⟩
instance (priority := 900) TakeS.skipApp {T L S R : Hp} [h : TakeS L S R] : TakeS (T ++ L) S (T ++ R) :=
  ⟨(List.Perm.append_left T h.perm).trans (by
    rw [← List.append_assoc, ← List.append_assoc]
    exact List.Perm.append_right R List.perm_append_comm)⟩

/-- The parts of S are taken out of L, one by one. -/
class Part (L S : Hp) (R : outParam Hp) : Prop where
  perm : L.Perm (S ++ R)
instance (priority := 2000) Part.nil {L : Hp} : Part L [] L := ⟨List.Perm.refl _⟩
instance (priority := 1300) Part.cons {b : Nat} {o : Obj} {L L1 S R : Hp} [h : Take L b o L1] [k : Part L1 S R] : Part L ((b, o) :: S) R :=
  ⟨h.perm.trans (k.perm.cons _)⟩
instance (priority := 1200) Part.app {L S T R R' : Hp} [h : TakeS L S R] [k : Part R T R'] : Part L (S ++ T) R' :=
  ⟨h.perm.trans ((List.Perm.append_left S k.perm).trans (by simp))⟩
instance (priority := 1100) Part.one {L S R : Hp} [h : TakeS L S R] : Part L S R := ⟨h.perm⟩

theorem Own.part {W w : World} {L S R : Hp} (h : Own W w L) (p : Part L S R) : Own W w (S ++ R) := h.perm p.perm

/-- What is owned may be forgotten. -/
class Drop (L M : Hp) : Prop where
  own : ∀ {W w : World}, Own W w L → Own W w M
instance (priority := 1000) Drop.refl {L : Hp} : Drop L L := ⟨id⟩
instance (priority := 100) Drop.mk' {L M R : Hp} [h : Part L M R] : Drop L M := ⟨fun o => (o.part h).app_left⟩


/-! ### The judgements -/

section judge
/-- From whatever frame and world of this kind the operations come to Q. -/
def Ops (P : Program) (W : World) (ops : Array Oper) (Q : Exit → Act → World → Prop) (n : Nat) (D : List Deferred) (rest : List Oper) (E : Env) (L : Hp) : Prop :=
  ∀ a w, Sees n D E a → Own W w L → wpList P ops Q rest a w
def Wp (P : Program) (W : World) (Q : Exit → Act → World → Prop) (n : Nat) (D : List Deferred) (c : Code) (E : Env) (L : Hp) : Prop :=
  ∀ a w, Sees n D E a → Own W w L → c.wp P Q a w
def Ends (W : World) (Q : Exit → Act → World → Prop) (n : Nat) (D : List Deferred) (e : Exit) (E : Env) (L : Hp) : Prop :=
  ∀ a w, Sees n D E a → Own W w L → Q e a w
def Goes (W : World) (K : Act → World → Prop) (n : Nat) (D : List Deferred) (E : Env) (L : Hp) : Prop :=
  ∀ a w, Sees n D E a → Own W w L → K a w

variable {P : Program} {W : World} {ops : Array Oper} {Q : Exit → Act → World → Prop} {n : Nat} {D : List Deferred} {E E' : Env} {L L' : Hp} {rest : List Oper}

theorem Wp.seq {x y : Code} (h : Wp P W (Exit.then (y.wp P Q) Q) n D x E L) : Wp P W Q n D (.seq x y) E L := fun a w hs ho => wp_seq (h a w hs ho)
theorem Ends.seq {y : Code} (h : Wp P W Q n D y E L) : Ends W (Exit.then (y.wp P Q) Q) n D .normal E L := h
theorem Ends.goes {K : Act → World → Prop} (h : Goes W K n D E L) : Ends W (Exit.then K Q) n D .normal E L := h
theorem Ends.then_exit {K : Act → World → Prop} {i : Nat} (h : Ends W Q n D (.exit i) E L) : Ends W (Exit.then K Q) n D (.exit i) E L := h
theorem Ends.then_ret {K : Act → World → Prop} (h : Ends W Q n D .ret E L) : Ends W (Exit.then K Q) n D .ret E L := h
theorem Ends.then_panic {K : Act → World → Prop} {c : List PanicEntry} (h : Ends W Q n D (.panic c) E L) : Ends W (Exit.then K Q) n D (.panic c) E L := h
theorem Ends.block_normal {id : Nat} (h : Ends W Q n D .normal E L) : Ends W (Exit.inBlock id Q) n D .normal E L := h
theorem Ends.block_ret {id : Nat} (h : Ends W Q n D .ret E L) : Ends W (Exit.inBlock id Q) n D .ret E L := h
theorem Ends.block_panic {id : Nat} {c : List PanicEntry} (h : Ends W Q n D (.panic c) E L) : Ends W (Exit.inBlock id Q) n D (.panic c) E L := h
theorem Ends.block_hit {id : Nat} (h : Ends W Q n D .normal E L) : Ends W (Exit.inBlock id Q) n D (.exit id) E L := fun a w hs ho => by
  simp only [Exit.inBlock, if_true]; exact h a w hs ho
theorem Ends.block_miss {id i : Nat} (hb : Nat.beq i id = false) (h : Ends W Q n D (.exit i) E L) : Ends W (Exit.inBlock id Q) n D (.exit i) E L := fun a w hs ho => by
  have hne : i ≠ id := fun e => by subst e; simp at hb
  simp only [Exit.inBlock, if_neg hne]; exact h a w hs ho
theorem Wp.block {id : Nat} {c : Code} (h : Wp P W (Exit.inBlock id Q) n D c E L) : Wp P W Q n D (.block id c) E L := fun a w hs ho => wp_block (h a w hs ho)
theorem Wp.exit {id : Nat} (h : Ends W Q n D (.exit id) E L) : Wp P W Q n D (.exit id) E L := fun a w hs ho => wp_exit (h a w hs ho)
theorem Wp.ret (h : Ends W Q n D .ret E L) : Wp P W Q n D .ret E L := fun a w hs ho => wp_ret (h a w hs ho)
theorem Wp.skip (h : Ends W Q n D .normal E L) : Wp P W Q n D .skip E L := fun a w hs ho => wp_skip (h a w hs ho)
theorem Wp.region {id : Nat} {l : List Oper} (h : Ops P W l.toArray Q n D l E L) : Wp P W Q n D (.region id l.toArray false) E L :=
  fun a w hs ho => wp_region_lit (h a w hs ho)
theorem Ops.nil (h : Ends W Q n D .normal E L) : Ops P W ops Q n D [] E L := fun a w hs ho => wpList_nil (h a w hs ho)

theorem Wp.cond {c : Operand} {x y : Code} {b : Bool} (hc : ev E c = some (.bool b)) (ht : b = true → Wp P W Q n D x E L) (hf : b = false → Wp P W Q n D y E L) :
    Wp P W Q n D (.cond c x y) E L := fun a w hs ho => wp_cond_split (hs.ev hc) (fun h => ht h a w hs ho) (fun h => hf h a w hs ho)
theorem Wp.cond_dec {c : Operand} {x y : Code} {p : Prop} [Decidable p] (hc : ev E c = some (.bool (decide p))) (ht : p → Wp P W Q n D x E L) (hf : ¬p → Wp P W Q n D y E L) :
    Wp P W Q n D (.cond c x y) E L := .cond hc (fun h => ht (of_decide_eq_true h)) (fun h => hf (of_decide_eq_false h))
theorem Wp.cond_true {c : Operand} {x y : Code} (hc : ev E c = some (.bool true)) (h : Wp P W Q n D x E L) : Wp P W Q n D (.cond c x y) E L := .cond hc (fun _ => h) (fun e => by cases e)
theorem Wp.cond_false {c : Operand} {x y : Code} (hc : ev E c = some (.bool false)) (h : Wp P W Q n D y E L) : Wp P W Q n D (.cond c x y) E L := .cond hc (fun e => by cases e) (fun _ => h)

/-- Fewer slots are looked at from here on; fewer blocks are held. -/
theorem Wp.less {c : Code} {E' : Env} {L' : Hp} (hE : SubE E' E) [hL : Drop L L'] (h : Wp P W Q n D c E' L') : Wp P W Q n D c E L := fun a w hs ho => h a w (hs.sub hE) (hL.own ho)
theorem Goes.less {K : Act → World → Prop} {E' : Env} {L' : Hp} (hE : SubE E' E) [hL : Drop L L'] (h : Goes W K n D E' L') : Goes W K n D E L := fun a w hs ho => h a w (hs.sub hE) (hL.own ho)
theorem Ends.less {e : Exit} {E' : Env} {L' : Hp} (hE : SubE E' E) [hL : Drop L L'] (h : Ends W Q n D e E' L') : Ends W Q n D e E L := fun a w hs ho => h a w (hs.sub hE) (hL.own ho)
theorem Ops.lessE {E' : Env} (hE : SubE E' E) (h : Ops P W ops Q n D rest E' L) : Ops P W ops Q n D rest E L := fun a w hs ho => h a w (hs.sub hE) ho
theorem Ops.heap {L' : Hp} (hL : ∀ w, Own W w L → Own W w L') (h : Ops P W ops Q n D rest E L') : Ops P W ops Q n D rest E L := fun a w hs ho => h a w hs (hL w ho)
theorem Wp.heap {c : Code} {L' : Hp} (hL : ∀ w, Own W w L → Own W w L') (h : Wp P W Q n D c E L') : Wp P W Q n D c E L := fun a w hs ho => h a w hs (hL w ho)
theorem Ends.heap {e : Exit} {L' : Hp} (hL : ∀ w, Own W w L → Own W w L') (h : Ends W Q n D e E L') : Ends W Q n D e E L := fun a w hs ho => h a w hs (hL w ho)

end judge

/-- A loop, by states of the prover's own. -/
theorem wp_loop_by {σ : Type} {P : Program} {Q : Exit → Act → World → Prop} {c : Code} (I : σ → Act → World → Prop) (μ : σ → Nat)
    (round : ∀ x a w, I x a w → c.wp P (Exit.then (fun a' w' => ∃ y, I y a' w' ∧ μ y < μ x) Q) a w) :
    ∀ x a w, I x a w → (Code.loop c).wp P Q a w := by
  intro x a w hI b k cs
  have key : ∀ m x a w, μ x = m → I x a w →
      ∃ e a' w', Q e a' w' ∧ Arrives P (lone (b.at a (.code c :: .inLoop c :: k)) cs w) b k cs e a' w' := by
    intro m
    induction m using Nat.strongRecOn with
    | _ m ih =>
      intro x a w hm hI
      obtain ⟨e, a₁, w₁, hq, harr⟩ := round x a w hI b (.inLoop c :: k) cs
      cases e with
      | normal =>
        obtain ⟨y, hI₁, hlt⟩ := hq
        obtain ⟨e₂, a₂, w₂, hq₂, harr₂⟩ := ih (μ y) (hm ▸ hlt) y a₁ w₁ rfl hI₁
        exact ⟨e₂, a₂, w₂, hq₂, .of_steps (Steps.trans harr (.one step_inLoop)) harr₂⟩
      | exit id => exact ⟨_, a₁, w₁, hq, .pass (x := .inLoop c) rfl (fun _ _ => .inl (by simp)) harr⟩
      | goto l => exact ⟨_, a₁, w₁, hq, .pass (x := .inLoop c) rfl (fun _ _ => .inl (by simp)) harr⟩
      | ret => exact ⟨_, a₁, w₁, hq, .pass (x := .inLoop c) rfl (fun _ _ => .inl (by simp)) harr⟩
      | panic ch => exact ⟨_, a₁, w₁, hq, .pass (x := .inLoop c) rfl (fun _ _ => .inl (by simp)) harr⟩
      | outgrown => exact ⟨_, a₁, w₁, hq, .pass (x := .inLoop c) rfl (fun _ _ => .inl (by simp)) harr⟩
  obtain ⟨e, a', w', hq, harr⟩ := key _ x a w rfl hI
  exact ⟨e, a', w', hq, .of_steps (.one step_loop) harr⟩

section loop
variable {P : Program} {W : World} {Q : Exit → Act → World → Prop} {n : Nat} {D : List Deferred} {E : Env} {L : Hp}
/-- A loop: from every state x of the relation a round comes to a smaller one, or out. -/
theorem Wp.loop {σ : Type} {c : Code} (EI : σ → Env) (LI : σ → Hp) (I : σ → Prop) (μ : σ → Nat) (x0 : σ) (hI : I x0) (hE : SubE (EI x0) E) (hL : ∀ w, Own W w L → Own W w (LI x0))
    (round : ∀ (x : σ) (K : Act → World → Prop), I x → (∀ y, I y → μ y < μ x → Goes W K n D (EI y) (LI y)) → Wp P W (Exit.then K Q) n D c (EI x) (LI x)) :
    Wp P W Q n D (.loop c) E L := fun a w hs ho =>
  wp_loop_by (fun x a w => I x ∧ Sees n D (EI x) a ∧ Own W w (LI x)) μ
    (fun x a w hI => round x _ hI.1 (fun y hy hlt a' w' hs' ho' => ⟨y, ⟨hy, hs', ho'⟩, hlt⟩) a w hI.2.1 hI.2.2) x0 a w ⟨hI, hs.sub hE, hL w ho⟩
end loop

/-! ### Calls -/

def argsEnv : Nat → List Value → Env
  | _, [] => []
  | i, v :: vs => (i, v) :: argsEnv (i + 1) vs

theorem look_argsEnv : ∀ (vs : List Value) (i t : Nat) (v : Value), look t (argsEnv i vs) = some v → i ≤ t ∧ vs[t - i]? = some v
  | [], i, t, v, h => by cases h
  | u :: vs, i, t, v, h => by
    simp only [argsEnv, look] at h
    split at h
    · rename_i hb
      have := Nat.eq_of_beq_eq_true hb
      subst this
      cases h
      exact ⟨Nat.le_refl _, by simp⟩
    · obtain ⟨h1, h2⟩ := look_argsEnv vs (i + 1) t v h
      refine ⟨by omega, ?_⟩
      rw [show t - i = (t - (i + 1)) + 1 by omega]
      simpa using h2

theorem sees_start {n : Nat} {vs : List Value} (h : Nat.ble vs.length n = true) : Sees n [] (argsEnv 0 vs) { tmps := vs.toArray ++ Array.replicate (n - vs.toArray.size) undef, defers := [] } := by
  have h' : vs.length ≤ n := Nat.le_of_ble_eq_true h
  refine ⟨by simp; omega, rfl, fun t v hv => ?_⟩
  obtain ⟨_, h2⟩ := look_argsEnv vs 0 t v hv
  have hlt : t < vs.length := by
    rcases Nat.lt_or_ge t vs.length with h | h
    · exact h
    · simp [List.getElem?_eq_none h] at h2
  simp only [Nat.sub_zero] at h2
  rw [Array.getElem?_append_left (by simpa using hlt)]
  simpa using h2

/-- What a call of f does with the blocks L, whatever other blocks there are. -/
def TrPost (R : Value → Hp → Prop) (W : World) (F : Hp) : Ending → World → Prop := fun e w' => ∃ v L', e = .returned v ∧ R v L' ∧ Own W w' (L' ++ F)
def Tr (P : Program) (f : FuncId) (args : List Value) (L : Hp) (R : Value → Hp → Prop) : Prop :=
  ∀ W w F, Own W w (L ++ F) → Calls P f args.toArray w (TrPost R W F)

theorem Tr.mono {P : Program} {f : FuncId} {args : List Value} {L : Hp} {R R' : Value → Hp → Prop} (h : Tr P f args L R) (hr : ∀ v L', R v L' → R' v L') : Tr P f args L R' :=
  fun W w F ho => (h W w F ho).mono fun _ _ ⟨v, L', he, hR, ho'⟩ => ⟨v, L', he, hr _ _ hR, ho'⟩

theorem Tr.enter {P : Program} {f : FuncId} {fn : Func} {c : Code} {n : Nat} {args : List Value} {L : Hp} {R : Value → Hp → Prop}
    (hf : P.funcs[f]? = some fn) (hb : fn.body = some c) (hn : fn.ntmps = n) (hle : Nat.ble args.length n = true)
    (h : ∀ W F, Wp P W (bodyPost P fn (TrPost R W F)) n [] c (argsEnv 0 args) (L ++ F)) : Tr P f args L R := fun W w F ho =>
  calls_of_wp hf hb (by
    subst hn
    exact h W F _ w (sees_start hle) ho)

/-- The value that the result slots make. -/
def Res (P : Program) (fn : Func) (n : Nat) (D : List Deferred) (E : Env) (L : Hp) (v : Value) : Prop :=
  ∀ a w, Sees n D E a → Held L w → (results fn a.tmps).run P w = .ok v w

section res
variable {P : Program} {fn : Func} {n : Nat} {D : List Deferred} {E : Env} {L : Hp}
theorem res0 (h : fn.results = #[]) : Res P fn n D E L (.tuple #[]) := fun a w _ _ => results_none h _ P w
theorem res1 {t : Nat} {v : Value} (h : fn.results = #[.tmp t]) (hx : look t E = some v) : Res P fn n D E L v := fun a w hs _ => by
  rw [results_tmp h, Array.getD_eq_getD_getElem?, hs.get t v hx]; rfl
theorem res2 {t u : Nat} {v x : Value} (h : fn.results = #[.tmp t, .tmp u]) (hv : look t E = some v) (hx : look u E = some x) : Res P fn n D E L (.tuple #[v, x]) := fun a w hs _ => by
  rw [results_tmp2 h, Array.getD_eq_getD_getElem?, Array.getD_eq_getD_getElem?, hs.get t v hv, hs.get u x hx]; rfl
theorem res3 {t u s : Nat} {v x y : Value} (h : fn.results = #[.tmp t, .tmp u, .tmp s]) (hv : look t E = some v) (hx : look u E = some x) (hy : look s E = some y) :
    Res P fn n D E L (.tuple #[v, x, y]) := fun a w hs _ => by
  simp [results, h, Array.getD_eq_getD_getElem?, hs.get t v hv, hs.get u x hx, hs.get s y hy]
end res




/-! ### Types, by instances -/
class TyD (P : Program) (T : Nat) (d : outParam TypeDesc) : Prop where
  eq : P.underlying T = some d
class TyS (P : Program) (T : Nat) (k : outParam Nat) : Prop where
  eq : (P.info? T).map (·.size) = some k
class TyB (P : Program) (T : Nat) (k : outParam Nat) : Prop where
  eq : (P.info? T).map (·.bytes) = some k
class TyZ (P : Program) (T : Nat) (z : outParam Value) : Prop where
  eq : (P.info? T).bind (·.zero) = some z
class TyFld (P : Program) (S : Nat) (i : Nat) (off U : outParam Nat) : Prop where
  eq : ∃ fs f, P.underlying S = some (.struct fs) ∧ fs[i]? = some f ∧ f.offset = off ∧ f.type = U
class GoFn (P : Program) (f : Nat) : Prop where
  eq : ∃ fn, P.funcs[f]? = some fn ∧ (fn.name == "runtime.NumGoroutine") = false ∧ fn.body.isNone = false

def aggD : TypeDesc → Bool
  | .struct _ => true
  | .array _ _ => true
  | _ => false

section ty
variable {P : Program} {T : TypeId} (w : World)
theorem TyD.run {d : TypeDesc} [h : TyD P T d] : (underlying T).run P w = .ok d w := by simp [underlying, h.eq]
theorem TyD.agg {d : TypeDesc} [h : TyD P T d] : (isAgg T).run P w = .ok (aggD d) w := by
  simp only [isAgg, Sem.run_bind, TyD.run, Result.andThen_ok]
  cases d <;> rfl
theorem TyS.run {k : Nat} [h : TyS P T k] : (sizeOf T).run P w = .ok k w := by
  obtain ⟨i, hi, hk⟩ := Option.map_eq_some_iff.1 h.eq
  simp [sizeOf, typeInfo, hi, hk]
theorem TyZ.run {z : Value} [h : TyZ P T z] : (zeroValue T).run P w = .ok z w := by
  obtain ⟨i, hi, hz⟩ := Option.bind_eq_some_iff.1 h.eq
  simp [zeroValue, typeInfo, hi, hz]
end ty

theorem addr_add (b o k : Nat) : (⟨b, o, none⟩ : Addr).add k = ⟨b, o + k, none⟩ := by
  unfold Addr.add
  split
  · rename_i h; subst h; rfl
  · rfl

section cells
variable {L : Hp} {w : World}
theorem Held.cell {b : Nat} {c : Array Value} {T : TypeId} {f : Nat × Nat} (h : Held L w) (m : (b, Obj.cells c T f) ∈ L) (off : Nat) : w.cell? ⟨b, off, none⟩ = c[off]? := by
  have := h _ m
  simp only at this
  simp [World.cell?, this]
end cells

def nth : List Value → Nat → Option Value
  | [], _ => none
  | x :: _, 0 => some x
  | _ :: l, i + 1 => nth l i
theorem nth_eq : ∀ (l : List Value) (i : Nat), nth l i = l[i]?
  | [], i => by simp [nth]
  | x :: l, 0 => rfl
  | x :: l, i + 1 => by simp [nth, nth_eq l i]

/-- The cells from off on. -/
def Reads (c : List Value) : Nat → List Value → Prop
  | _, [] => True
  | off, v :: vs => nth c off = some v ∧ Reads c (off + 1) vs

theorem Reads.at_ {c : List Value} : ∀ {vs : List Value} {off : Nat}, Reads c off vs → ∀ j v, vs[j]? = some v → c[off + j]? = some v
  | [], _, _, j, v, h => by simp at h
  | u :: vs, off, hr, 0, v, h => by simp at h; subst h; rw [← nth_eq]; exact hr.1
  | u :: vs, off, hr, j + 1, v, h => by
    have := hr.2.at_ j v (by simpa using h)
    rw [show off + (j + 1) = off + 1 + j by omega]
    exact this

theorem Reads.extract {c vs : List Value} {off k : Nat} (h : Reads c off vs) (hl : vs.length = k) : c.toArray.extract off (off + k) = vs.toArray := by
  subst hl
  apply Array.ext'
  apply List.ext_getElem?
  intro j
  simp only [List.extract_toArray, List.extract_eq_take_drop, List.getElem?_take, List.getElem?_drop]
  by_cases hj : j < vs.length
  · rw [if_pos (by omega), h.at_ j vs[j] (by simp)]
    simp
  · rw [if_neg (by omega), List.getElem?_eq_none (by omega)]

/-! ### Operations that yield a value and leave the world as it is -/
def Pv (P : Program) (n : Nat) (D : List Deferred) (E : Env) (L : Hp) (o : Oper) (v : Value) : Prop :=
  ∀ a w, Sees n D E a → Held L w → (execOp a.eval o).run P w = .ok (.value v) w

section pv
variable {P : Program} {n : Nat} {D : List Deferred} {E : Env} {L : Hp} {d : Option Tmp} {ty : TypeId} {pos : String} {aft : Array Edge} {g : Option (Nat × Bool)} {T : TypeId} {x y z : Operand} {v u : Value}

theorem pv_move (hx : ev E x = some v) : Pv P n D E L ⟨d, .move x, ty, pos, aft, g⟩ v := fun a w hs _ => by simp [execOp, hs.ev hx]
theorem pv_assign (hx : ev E x = some v) : Pv P n D E L ⟨d, .assign x, ty, pos, aft, g⟩ v := fun a w hs _ => by simp [execOp, hs.ev hx]
theorem pv_pick {b : Bool} (hc : ev E x = some (.bool b)) (hy : ev E y = some u) (hz : ev E z = some v) : Pv P n D E L ⟨d, .pick x y z, ty, pos, aft, g⟩ (if b then u else v) := fun a w hs _ => by
  simp [execOp, hs.ev hc, hs.ev hy, hs.ev hz, asBool]
theorem pv_pick_true (hc : ev E x = some (.bool true)) (hy : ev E y = some u) : Pv P n D E L ⟨d, .pick x y z, ty, pos, aft, g⟩ u := fun a w hs _ => by
  simp [execOp, hs.ev hc, hs.ev hy, asBool]
theorem pv_pick_false (hc : ev E x = some (.bool false)) (hz : ev E z = some v) : Pv P n D E L ⟨d, .pick x y z, ty, pos, aft, g⟩ v := fun a w hs _ => by
  simp [execOp, hs.ev hc, hs.ev hz, asBool]
theorem pv_nilCheck {p : Addr} (hx : ev E x = some (.pointer (some p))) : Pv P n D E L ⟨d, .nilCheck x, ty, pos, aft, g⟩ (.pointer (some p)) := fun a w hs _ => by simp [execOp, hs.ev hx]
theorem pv_nilCheck_func {fn : Fn} {fi ca : Array Value} (hm : (match fn with | .method _ => true | _ => false) = false) (hx : ev E x = some (.func fn fi ca)) :
    Pv P n D E L ⟨d, .nilCheck x, ty, pos, aft, g⟩ (.func fn fi ca) := fun a w hs _ => by cases fn <;> first | (simp at hm; done) | simp [execOp, hs.ev hx]

theorem pv_load {dsc : TypeDesc} {b off : Nat} {c : List Value} {T' : TypeId} {f : Nat × Nat} (hx : ev E x = some (.pointer (some ⟨b, off, none⟩))) [ht : TyD P T dsc] (hd : aggD dsc = false)
    [hb : Blk L b (.cells c.toArray T' f)] (hc : nth c off = some v) : Pv P n D E L ⟨d, .load T x, ty, pos, aft, g⟩ v := fun a w hs hh => by
  rw [nth_eq] at hc
  simp [execOp, hs.ev hx, Instr.loadAt, Instr.sureAddr, loadVar, TyD.agg, hd, hh.cell hb.mem, hc]

theorem run_loadCells_reads (P : Program) {w : World} {b off : Nat} {vs : List Value} (h : ∀ j v, vs[j]? = some v → w.cell? ⟨b, off + j, none⟩ = some v) : (loadCells ⟨b, off, none⟩ vs.length).run P w = .ok vs.toArray w :=
  run_loadCells_list (P := P) w ⟨b, off, none⟩ vs fun j v hv => by rw [addr_add]; exact h j v hv

theorem pv_loadK {dsc : TypeDesc} {b off k : Nat} {c : List Value} {T' : TypeId} {f : Nat × Nat} (vs : List Value) (hx : ev E x = some (.pointer (some ⟨b, off, none⟩))) [ht : TyD P T dsc] [hk : TyS P T k] (hd : aggD dsc = true)
    [hb : Blk L b (.cells c.toArray T' f)] (hl : vs.length = k) (hc : Reads c off vs) : Pv P n D E L ⟨d, .load T x, ty, pos, aft, g⟩ (.agg vs.toArray) := fun a w hs hh => by
  subst hl
  have h1 := run_loadCells_reads P (w := w) (b := b) (off := off) (vs := vs) fun j v hv => by rw [hh.cell hb.mem, List.getElem?_toArray]; exact hc.at_ j v hv
  simp [execOp, hs.ev hx, Instr.loadAt, Instr.sureAddr, loadVar, TyD.agg, TyS.run, hd, h1]

theorem fieldPlace_run {P : Program} {w : World} {b off : Nat} {f : Field} {k : Nat} [hk : TyS P f.type k] (h0 : Nat.beq k 0 = false) : (fieldPlace ⟨b, off, none⟩ f).run P w = .ok ⟨b, off + f.offset, none⟩ w := by
  have hk0 : k ≠ 0 := fun e => by subst e; simp at h0
  simp [fieldPlace, TyS.run, hk0, addr_add]

theorem pv_fieldAddr {S : TypeId} {i off U k b o : Nat} (hx : ev E x = some (.pointer (some ⟨b, o, none⟩))) [hf : TyFld P S i off U] [hk : TyS P U k] (h0 : Nat.beq k 0 = false) :
    Pv P n D E L ⟨d, .fieldAddr S x i, ty, pos, aft, g⟩ (.pointer (some ⟨b, o + off, none⟩)) := fun a w hs _ => by
  obtain ⟨fs, f, hu, hi, ho, hU⟩ := hf.eq
  subst ho; subst hU
  have ht : TyD P S (.struct fs) := ⟨hu⟩
  simp [execOp, hs.ev hx, Instr.fieldAt, TyD.run, hi, Instr.sureAddr, fieldPlace_run h0]
theorem pv_fieldAddr0 {S : TypeId} {i off U k b : Nat} (hx : ev E x = some (.pointer (some ⟨b, 0, none⟩))) [hf : TyFld P S i off U] [hk : TyS P U k] (h0 : Nat.beq k 0 = false) :
    Pv P n D E L ⟨d, .fieldAddr S x i, ty, pos, aft, g⟩ (.pointer (some ⟨b, off, none⟩)) := by simpa using pv_fieldAddr (o := 0) hx h0

theorem pv_field {S : TypeId} {i off U : Nat} {dsc : TypeDesc} {cs : List Value} (hx : ev E x = some (.agg cs.toArray)) [hf : TyFld P S i off U] [hu : TyD P U dsc] (hd : aggD dsc = false) (hc : nth cs off = some v) :
    Pv P n D E L ⟨d, .field S x i, ty, pos, aft, g⟩ v := fun a w hs _ => by
  obtain ⟨fs, f, hS, hi, ho, hU⟩ := hf.eq
  subst ho; subst hU
  have ht : TyD P S (.struct fs) := ⟨hS⟩
  rw [nth_eq] at hc
  simp [execOp, hs.ev hx, Instr.field, TyD.run, hi, part, asAgg, TyD.agg, hd, hc]
theorem pv_fieldK {S : TypeId} {i off U k : Nat} {dsc : TypeDesc} {cs : List Value} (vs : List Value) (hx : ev E x = some (.agg cs.toArray)) [hf : TyFld P S i off U] [hu : TyD P U dsc] [hk : TyS P U k] (hd : aggD dsc = true)
    (hl : vs.length = k) (hc : Reads cs off vs) : Pv P n D E L ⟨d, .field S x i, ty, pos, aft, g⟩ (.agg vs.toArray) := fun a w hs _ => by
  obtain ⟨fs, f, hS, hi, ho, hU⟩ := hf.eq
  subst ho; subst hU
  have ht : TyD P S (.struct fs) := ⟨hS⟩
  have hc' := hc.extract hl
  simp only [List.extract_toArray, List.extract_eq_take_drop, Nat.add_sub_cancel_left] at hc'
  have hc' := List.toArray_inj hc'
  simp [execOp, hs.ev hx, Instr.field, TyD.run, hi, part, asAgg, TyD.agg, TyS.run, hd, hc']

theorem pv_extract {vs : List Value} {i : Nat} (hx : ev E x = some (.tuple vs.toArray)) (hi : nth vs i = some v) : Pv P n D E L ⟨d, .extract x i, ty, pos, aft, g⟩ v := fun a w hs _ => by
  rw [nth_eq] at hi
  simp [execOp, hs.ev hx, Instr.extract, hi]

/-! numbers -/
theorem pv_add {k : IntKind} {i j : Int} {xt yt : TypeId} (hx : ev E x = some (.int k i)) (hy : ev E y = some (.int k j)) {r : Int} (hr : k.wrap (i + j) = r) : Pv P n D E L ⟨d, .binOp .add xt x y yt, ty, pos, aft, g⟩ (.int k r) := fun a w hs _ => by
  subst hr; simp [execOp, hs.ev hx, hs.ev hy, binOp, eqGuard, Op.intArith]
theorem pv_sub {k : IntKind} {i j : Int} {xt yt : TypeId} (hx : ev E x = some (.int k i)) (hy : ev E y = some (.int k j)) {r : Int} (hr : k.wrap (i - j) = r) : Pv P n D E L ⟨d, .binOp .sub xt x y yt, ty, pos, aft, g⟩ (.int k r) := fun a w hs _ => by
  subst hr; simp [execOp, hs.ev hx, hs.ev hy, binOp, eqGuard, Op.intArith]
theorem pv_mul {k : IntKind} {i j : Int} {xt yt : TypeId} (hx : ev E x = some (.int k i)) (hy : ev E y = some (.int k j)) {r : Int} (hr : k.wrap (i * j) = r) : Pv P n D E L ⟨d, .binOp .mul xt x y yt, ty, pos, aft, g⟩ (.int k r) := fun a w hs _ => by
  subst hr; simp [execOp, hs.ev hx, hs.ev hy, binOp, eqGuard, Op.intArith]
theorem pv_quo {k : IntKind} {i j : Int} {xt yt : TypeId} (hx : ev E x = some (.int k i)) (hy : ev E y = some (.int k j)) (hj : j ≠ 0) {r : Int} (hr : k.wrap (i.tdiv j) = r) : Pv P n D E L ⟨d, .binOp .quo xt x y yt, ty, pos, aft, g⟩ (.int k r) := fun a w hs _ => by
  subst hr; simp [execOp, hs.ev hx, hs.ev hy, binOp, eqGuard, Op.intDiv, hj]
theorem pv_rem {k : IntKind} {i j : Int} {xt yt : TypeId} (hx : ev E x = some (.int k i)) (hy : ev E y = some (.int k j)) (hj : j ≠ 0) {r : Int} (hr : i.tmod j = r) : Pv P n D E L ⟨d, .binOp .rem xt x y yt, ty, pos, aft, g⟩ (.int k r) := fun a w hs _ => by
  subst hr; simp [execOp, hs.ev hx, hs.ev hy, binOp, eqGuard, Op.intDiv, hj]
def bitsI (op : BinOp) (k : IntKind) (i j : Int) : Int :=
  match op with
  | .and => k.wrap ((BitVec.ofInt k.bits i &&& BitVec.ofInt k.bits j).toNat : Int)
  | .or => k.wrap ((BitVec.ofInt k.bits i ||| BitVec.ofInt k.bits j).toNat : Int)
  | .xor => k.wrap ((BitVec.ofInt k.bits i ^^^ BitVec.ofInt k.bits j).toNat : Int)
  | _ => k.wrap ((BitVec.ofInt k.bits i &&& ~~~BitVec.ofInt k.bits j).toNat : Int)
theorem pv_and {k : IntKind} {i j : Int} {xt yt : TypeId} (hx : ev E x = some (.int k i)) (hy : ev E y = some (.int k j)) {r : Int} (hr : bitsI .and k i j = r) : Pv P n D E L ⟨d, .binOp .and xt x y yt, ty, pos, aft, g⟩ (.int k r) := fun a w hs _ => by
  subst hr; simp [execOp, hs.ev hx, hs.ev hy, binOp, eqGuard, Op.intBits, bitsI]
theorem pv_or {k : IntKind} {i j : Int} {xt yt : TypeId} (hx : ev E x = some (.int k i)) (hy : ev E y = some (.int k j)) {r : Int} (hr : bitsI .or k i j = r) : Pv P n D E L ⟨d, .binOp .or xt x y yt, ty, pos, aft, g⟩ (.int k r) := fun a w hs _ => by
  subst hr; simp [execOp, hs.ev hx, hs.ev hy, binOp, eqGuard, Op.intBits, bitsI]
theorem pv_xor {k : IntKind} {i j : Int} {xt yt : TypeId} (hx : ev E x = some (.int k i)) (hy : ev E y = some (.int k j)) {r : Int} (hr : bitsI .xor k i j = r) : Pv P n D E L ⟨d, .binOp .xor xt x y yt, ty, pos, aft, g⟩ (.int k r) := fun a w hs _ => by
  subst hr; simp [execOp, hs.ev hx, hs.ev hy, binOp, eqGuard, Op.intBits, bitsI]
theorem pv_andNot {k : IntKind} {i j : Int} {xt yt : TypeId} (hx : ev E x = some (.int k i)) (hy : ev E y = some (.int k j)) {r : Int} (hr : bitsI .andNot k i j = r) : Pv P n D E L ⟨d, .binOp .andNot xt x y yt, ty, pos, aft, g⟩ (.int k r) := fun a w hs _ => by
  subst hr; simp [execOp, hs.ev hx, hs.ev hy, binOp, eqGuard, Op.intBits, bitsI]
theorem pv_shl {k k' : IntKind} {i j : Int} {xt yt : TypeId} (hx : ev E x = some (.int k i)) (hy : ev E y = some (.int k' j)) (hj : 0 ≤ j) {r : Int} (hr : k.wrap (i * 2 ^ (min j.toNat k.bits)) = r) : Pv P n D E L ⟨d, .binOp .shl xt x y yt, ty, pos, aft, g⟩ (.int k r) := fun a w hs _ => by
  subst hr; simp [execOp, hs.ev hx, hs.ev hy, binOp, eqGuard, Op.shift, Int.not_lt.2 hj]
theorem pv_shr {k k' : IntKind} {i j : Int} {xt yt : TypeId} (hx : ev E x = some (.int k i)) (hy : ev E y = some (.int k' j)) (hj : 0 ≤ j) {r : Int} (hr : i.fdiv (2 ^ (min j.toNat k.bits)) = r) : Pv P n D E L ⟨d, .binOp .shr xt x y yt, ty, pos, aft, g⟩ (.int k r) := fun a w hs _ => by
  subst hr; simp [execOp, hs.ev hx, hs.ev hy, binOp, eqGuard, Op.shift, Int.not_lt.2 hj]
theorem pv_lss {k : IntKind} {i j : Int} {xt yt : TypeId} (hx : ev E x = some (.int k i)) (hy : ev E y = some (.int k j)) : Pv P n D E L ⟨d, .binOp .lss xt x y yt, ty, pos, aft, g⟩ (.bool (decide (i < j))) := fun a w hs _ => by
  simp [execOp, hs.ev hx, hs.ev hy, binOp, eqGuard, Op.intCmp]
theorem pv_leq {k : IntKind} {i j : Int} {xt yt : TypeId} (hx : ev E x = some (.int k i)) (hy : ev E y = some (.int k j)) : Pv P n D E L ⟨d, .binOp .leq xt x y yt, ty, pos, aft, g⟩ (.bool (decide (i ≤ j))) := fun a w hs _ => by
  simp [execOp, hs.ev hx, hs.ev hy, binOp, eqGuard, Op.intCmp]
theorem pv_gtr {k : IntKind} {i j : Int} {xt yt : TypeId} (hx : ev E x = some (.int k i)) (hy : ev E y = some (.int k j)) : Pv P n D E L ⟨d, .binOp .gtr xt x y yt, ty, pos, aft, g⟩ (.bool (decide (j < i))) := fun a w hs _ => by
  simp [execOp, hs.ev hx, hs.ev hy, binOp, eqGuard, Op.intCmp]
theorem pv_geq {k : IntKind} {i j : Int} {xt yt : TypeId} (hx : ev E x = some (.int k i)) (hy : ev E y = some (.int k j)) : Pv P n D E L ⟨d, .binOp .geq xt x y yt, ty, pos, aft, g⟩ (.bool (decide (j ≤ i))) := fun a w hs _ => by
  simp [execOp, hs.ev hx, hs.ev hy, binOp, eqGuard, Op.intCmp]
theorem pv_eql {k : IntKind} {i j : Int} {xt yt : TypeId} (hx : ev E x = some (.int k i)) (hy : ev E y = some (.int k j)) : Pv P n D E L ⟨d, .binOp .eql xt x y yt, ty, pos, aft, g⟩ (.bool (decide (i = j))) := fun a w hs _ => by
  simp [execOp, hs.ev hx, hs.ev hy, binOp, eqGuard, Op.intCmp]
  exact Bool.beq_eq_decide_eq i j
theorem pv_neq {k : IntKind} {i j : Int} {xt yt : TypeId} (hx : ev E x = some (.int k i)) (hy : ev E y = some (.int k j)) : Pv P n D E L ⟨d, .binOp .neq xt x y yt, ty, pos, aft, g⟩ (.bool (decide (i ≠ j))) := fun a w hs _ => by
  simp [execOp, hs.ev hx, hs.ev hy, binOp, eqGuard, Op.intCmp, bne]
  exact Bool.beq_eq_decide_eq i j
theorem pv_not {b : Bool} {xt : TypeId} (hx : ev E x = some (.bool b)) : Pv P n D E L ⟨d, .unOp .not xt x, ty, pos, aft, g⟩ (.bool (!b)) := fun a w hs _ => by simp [execOp, hs.ev hx, Op.unary]
theorem pv_not_dec {p : Prop} [Decidable p] {xt : TypeId} (hx : ev E x = some (.bool (decide p))) : Pv P n D E L ⟨d, .unOp .not xt x, ty, pos, aft, g⟩ (.bool (decide (¬p))) := by
  have := pv_not (P := P) (n := n) (D := D) (L := L) (d := d) (ty := ty) (pos := pos) (aft := aft) (g := g) (xt := xt) hx
  rwa [← decide_not] at this
theorem pv_neg {k : IntKind} {i : Int} {xt : TypeId} (hx : ev E x = some (.int k i)) {r : Int} (hr : k.wrap (0 - i) = r) : Pv P n D E L ⟨d, .unOp .neg xt x, ty, pos, aft, g⟩ (.int k r) := fun a w hs _ => by subst hr; simp [execOp, hs.ev hx, Op.unary, Op.intArith]
theorem pv_conv {src dst : TypeId} {k k' : IntKind} {sd : TypeDesc} {i : Int} (hx : ev E x = some (.int k i)) [hs' : TyD P src sd] [hd : TyD P dst (.int k')] {r : Int} (hr : k'.wrap i = r) : Pv P n D E L ⟨d, .convert src dst x, ty, pos, aft, g⟩ (.int k' r) := fun a w hs _ => by
  subst hr
  simp only [execOp, hs.ev hx, convert, Sem.run_bind, TyD.run, Result.andThen_ok]
  cases sd <;> simp [Conv.intToInt]
end pv


/-! ### Carrying operations out -/

/-- Is an operation's guard met? -/
def Wanted (ops : Array Oper) (E : Env) : Option (Nat × Bool) → Bool → Prop
  | none, r => r = true
  | some (j, want), r => ∃ t b, (ops[j]?).bind (·.dst) = some t ∧ look t E = some (.bool b) ∧ (b == want) = r

theorem wanted_of {ops : Array Oper} {n : Nat} {D : List Deferred} {E : Env} {a : Act} {o : Oper} {r : Bool} (h : Wanted ops E o.guard r) (hs : Sees n D E a) : Region.wanted o (yielded ops a.tmps) = r := by
  unfold Region.wanted
  cases hg : o.guard with
  | none => rw [hg] at h; exact Eq.symm h
  | some jw =>
    obtain ⟨j, want⟩ := jw
    rw [hg] at h
    obtain ⟨t, b, h1, h2, h3⟩ := h
    have : yielded ops a.tmps j = some b := by
      unfold yielded
      rw [h1]
      simp [hs.get t _ h2]
    simp only [this]
    rw [← h3]
    cases b <;> cases want <;> rfl

/-- An operation that comes, from here, to one of the states of K. -/
def Ef (P : Program) (W : World) (n : Nat) (D : List Deferred) (o : Oper) (E : Env) (L : Hp) (K : Env → Hp → Prop) : Prop :=
  ∀ (Q : Exit → Act → World → Prop) a w (next : Act → World → Prop), Sees n D E a → Own W w L →
    (∀ E' L' a' w', K E' L' → Sees n D E' a' → Own W w' L' → next a' w') → o.wp P a w next Q

section carry
variable {P : Program} {W : World} {ops : Array Oper} {Q : Exit → Act → World → Prop} {n : Nat} {D : List Deferred} {E : Env} {L : Hp} {rest : List Oper} {d : Nat} {op : Op} {ty : TypeId} {pos : String} {aft : Array Edge} {g : Option (Nat × Bool)} {v : Value} {K : Env → Hp → Prop}

theorem Ef.mono {o : Oper} {K' : Env → Hp → Prop} (h : Ef P W n D o E L K) (hk : ∀ E' L', K E' L' → K' E' L') : Ef P W n D o E L K' :=
  fun Q a w next hs ho hn => h Q a w next hs ho fun E' L' a' w' k => hn E' L' a' w' (hk _ _ k)

theorem Ef.of_pv (hp : Pv P n D E L ⟨some d, op, ty, pos, aft, g⟩ v) (hd : Nat.blt d n = true) : Ef P W n D ⟨some d, op, ty, pos, aft, g⟩ E L (fun E' L' => E' = (d, v) :: E ∧ L' = L) :=
  fun Q a w next hs ho hn => by
    unfold Oper.wp
    rw [hp a w hs ho.held]
    exact hn _ _ _ _ ⟨rfl, rfl⟩ (hs.put hd) ho

theorem Ops.ef {o : Oper} (hg : o.guard = none) (h : Ef P W n D o E L K) (hn : ∀ E' L', K E' L' → Ops P W ops Q n D rest E' L') : Ops P W ops Q n D (o :: rest) E L := fun a w hs ho =>
  wpList_plain hg fun K' hK' => h Q a w K' hs ho fun E' L' a' w' k hs' ho' => hK' _ _ (hn E' L' k a' w' hs' ho')

theorem Ops.efg {o : Oper} (hg : Wanted ops E o.guard true) (h : Ef P W n D o E L K) (hn : ∀ E' L', K E' L' → Ops P W ops Q n D rest E' L') : Ops P W ops Q n D (o :: rest) E L := fun a w hs ho =>
  wpList_step fun K' hK' => by
    rw [if_pos (wanted_of hg hs)]
    exact h Q a w K' hs ho fun E' L' a' w' k hs' ho' => hK' _ _ (hn E' L' k a' w' hs' ho')

theorem Ops.pv (hp : Pv P n D E L ⟨some d, op, ty, pos, aft, none⟩ v) (hd : Nat.blt d n = true) (hn : Ops P W ops Q n D rest ((d, v) :: E) L) : Ops P W ops Q n D (⟨some d, op, ty, pos, aft, none⟩ :: rest) E L :=
  Ops.ef rfl (Ef.of_pv hp hd) fun E' L' ⟨h1, h2⟩ => by subst h1; subst h2; exact hn

theorem Ops.pvn (hp : Pv P n D E L ⟨none, op, ty, pos, aft, none⟩ v) (hn : Ops P W ops Q n D rest E L) : Ops P W ops Q n D (⟨none, op, ty, pos, aft, none⟩ :: rest) E L := fun a w hs ho =>
  wpList_plain rfl fun K' hK' => by
    unfold Oper.wp
    rw [hp a w hs ho.held]
    exact hK' _ _ (hn a w hs ho)

theorem Ops.pvg (hg : Wanted ops E g true) (hp : Pv P n D E L ⟨some d, op, ty, pos, aft, g⟩ v) (hd : Nat.blt d n = true) (hn : Ops P W ops Q n D rest ((d, v) :: E) L) : Ops P W ops Q n D (⟨some d, op, ty, pos, aft, g⟩ :: rest) E L :=
  Ops.efg hg (Ef.of_pv hp hd) fun E' L' ⟨h1, h2⟩ => by subst h1; subst h2; exact hn

theorem Ops.skipg (hg : Wanted ops E g false) (hd : Nat.blt d n = true) (hn : Ops P W ops Q n D rest ((d, undef) :: E) L) : Ops P W ops Q n D (⟨some d, op, ty, pos, aft, g⟩ :: rest) E L := fun a w hs ho =>
  wpList_step fun K' hK' => by
    rw [if_neg (by rw [wanted_of (o := ⟨some d, op, ty, pos, aft, g⟩) hg hs]; simp)]
    exact hK' _ _ (hn _ _ (hs.put hd) ho)
theorem Ops.skipgn (hg : Wanted ops E g false) (hn : Ops P W ops Q n D rest E L) : Ops P W ops Q n D (⟨none, op, ty, pos, aft, g⟩ :: rest) E L := fun a w hs ho =>
  wpList_step fun K' hK' => by
    rw [if_neg (by rw [wanted_of (o := ⟨none, op, ty, pos, aft, g⟩) hg hs]; simp)]
    exact hK' _ _ (hn _ _ hs ho)

/-- What a slot holds, in other words. -/
theorem Sees.set {t : Nat} {u : Value} {a : Act} (h : Sees n D E a) (hl : look t E = some u) (hu : u = v) : Sees n D ((t, v) :: E) a := by
  subst hu
  refine ⟨h.size, h.dfs, fun s x hx => ?_⟩
  simp only [look] at hx
  split at hx
  · rename_i hb
    cases hx
    rw [← Nat.eq_of_beq_eq_true hb]
    exact h.get t u hl
  · exact h.get s x hx
theorem Ops.setE {t : Nat} {u : Value} (hl : look t E = some u) (hu : u = v) (hn : Ops P W ops Q n D rest ((t, v) :: E) L) : Ops P W ops Q n D rest E L := fun a w hs ho => hn a w (hs.set hl hu) ho
theorem Wp.setE {c : Code} {t : Nat} {u : Value} (hl : look t E = some u) (hu : u = v) (hn : Wp P W Q n D c ((t, v) :: E) L) : Wp P W Q n D c E L := fun a w hs ho => hn a w (hs.set hl hu) ho
theorem Ends.setE {e : Exit} {t : Nat} {u : Value} (hl : look t E = some u) (hu : u = v) (hn : Ends W Q n D e ((t, v) :: E) L) : Ends W Q n D e E L := fun a w hs ho => hn a w (hs.set hl hu) ho
theorem Ops.split {t : Nat} {p : Prop} [Decidable p] (hl : look t E = some (.bool (decide p))) (ht : p → Ops P W ops Q n D rest ((t, .bool true) :: E) L) (hf : ¬p → Ops P W ops Q n D rest ((t, .bool false) :: E) L) :
    Ops P W ops Q n D rest E L := by
  by_cases h : p
  · exact .setE hl (by simp [h]) (ht h)
  · exact .setE hl (by simp [h]) (hf h)
theorem Ops.splitb {t : Nat} {b : Bool} (hl : look t E = some (.bool b)) (ht : b = true → Ops P W ops Q n D rest ((t, .bool true) :: E) L) (hf : b = false → Ops P W ops Q n D rest ((t, .bool false) :: E) L) :
    Ops P W ops Q n D rest E L := by
  cases b
  · exact .setE hl rfl (hf rfl)
  · exact .setE hl rfl (ht rfl)
end carry

section condt
variable {P : Program} {W : World} {Q : Exit → Act → World → Prop} {n : Nat} {D : List Deferred} {E : Env} {L : Hp}
theorem Wp.cond_t {t : Nat} {x y : Code} {b : Bool} (hc : look t E = some (.bool b)) (ht : b = true → Wp P W Q n D x ((t, .bool true) :: E) L) (hf : b = false → Wp P W Q n D y ((t, .bool false) :: E) L) :
    Wp P W Q n D (.cond (.tmp t) x y) E L := Wp.cond (c := .tmp t) hc (fun h => .setE hc (by rw [h]) (ht h)) (fun h => .setE hc (by rw [h]) (hf h))
theorem Wp.cond_dect {t : Nat} {x y : Code} {p : Prop} [Decidable p] (hc : look t E = some (.bool (decide p))) (ht : p → Wp P W Q n D x ((t, .bool true) :: E) L) (hf : ¬p → Wp P W Q n D y ((t, .bool false) :: E) L) :
    Wp P W Q n D (.cond (.tmp t) x y) E L := Wp.cond_t hc (fun h => ht (of_decide_eq_true h)) (fun h => hf (of_decide_eq_false h))
end condt

/-! ### A region that draws its order -/
class Mixed (P : Program) : Prop where
  eq : P.follows .mixedOrders = true
class HeldSub (L S : Hp) : Prop where
  sub : ∀ p, p ∈ S → p ∈ L
instance (priority := 2000) HeldSub.refl {L : Hp} : HeldSub L L := ⟨fun _ h => h⟩
instance (priority := 1900) HeldSub.nil {L : Hp} : HeldSub L [] := ⟨fun _ h => by cases h⟩
instance (priority := 1800) HeldSub.tail {x : Nat × Obj} {L S : Hp} [h : HeldSub L S] : HeldSub (x :: L) S := ⟨fun p hp => List.mem_cons_of_mem _ (h.sub p hp)⟩
instance (priority := 1000) HeldSub.cons {b : Nat} {o : Obj} {L S : Hp} [h : Blk L b o] [k : HeldSub L S] : HeldSub L ((b, o) :: S) := ⟨fun p hp => by
  rcases List.mem_cons.1 hp with rfl | hp
  · exact h.mem
  · exact k.sub p hp⟩
class SegIn (L S : Hp) : Prop where
  sub : ∀ p, p ∈ S → p ∈ L
instance (priority := 1100) SegIn.all {L : Hp} : SegIn L L := ⟨fun _ h => h⟩
instance (priority := 1050) SegIn.head {S L : Hp} : SegIn (S ++ L) S := ⟨fun _ h => List.mem_append_left _ h⟩
instance (priority := 1000) SegIn.skip {x : Nat × Obj} {S L : Hp} [h : SegIn L S] : SegIn (x :: L) S := ⟨fun p hp => List.mem_cons_of_mem _ (h.sub p hp)⟩
instance (priority := 900) SegIn.skipApp {T S L : Hp} [h : SegIn L S] : SegIn (T ++ L) S := ⟨fun p hp => List.mem_append_right _ (h.sub p hp)⟩
instance (priority := 800) HeldSub.app {S T L : Hp} [h : SegIn L S] [k : HeldSub L T] : HeldSub L (S ++ T) := ⟨fun p hp => by
  rcases List.mem_append.1 hp with hp | hp
  · exact h.sub p hp
  · exact k.sub p hp⟩
instance (priority := 100) HeldSub.seg {S L : Hp} [h : SegIn L S] : HeldSub L S := ⟨h.sub⟩

theorem Own.heldSub {W w : World} {L S : Hp} (h : Own W w L) (s : HeldSub L S) : Held S w := fun p hp => h.get p (s.sub p hp)

/-- Whatever order comes, from here; what is in S is not written. -/
def AnyH (P : Program) (W : World) (ops : Array Oper) (Q : Exit → Act → World → Prop) (n : Nat) (D : List Deferred) (S : Hp) (fuel : Nat) (listed : Array Bool) (E : Env) (L : Hp) : Prop :=
  ∀ a w, Sees n D E a → Own W w L → wpAnyH P .any ops Q (Held S) fuel listed a w

section any
variable {P : Program} {W : World} {ops : Array Oper} {Q : Exit → Act → World → Prop} {n : Nat} {D : List Deferred} {S : Hp} {fuel : Nat} {listed : Array Bool} {E : Env} {L : Hp} {d : Nat} {op : Op} {ty : TypeId} {pos : String} {aft : Array Edge} {g : Option (Nat × Bool)} {v : Value} {K : Env → Hp → Prop}

theorem AnyH.start {id : Nat} {l : List Oper} (S : Hp) (m : Nat) [hm : Mixed P] (hl : l.length = m) (h : AnyH P W l.toArray Q n D S m (Array.replicate m false) E L) : Wp P W Q n D (.region id l.toArray true) E L := fun a w hs ho =>
  wp_region_held hm.eq (by subst hl; exact h a _ hs (ho.drawn _))

theorem AnyH.startL {id : Nat} {l : List Oper} (m : Nat) [hm : Mixed P] (hl : l.length = m) (h : AnyH P W l.toArray Q n D L m (Array.replicate m false) E L) : Wp P W Q n D (.region id l.toArray true) E L :=
  AnyH.start L m hl h

/-- Panics don't hang on what the slots hold. -/
def PanicsFree (Q : Exit → Act → World → Prop) : Prop := ∀ c a d v w, Q (.panic c) (a.put d v) w → Q (.panic c) a w

theorem AnyH.take (i : Nat) (hi : ops[i]? = some ⟨some d, op, ty, pos, aft, g⟩) (hsel : Region.noSelect ops = true) (hf : Region.free .any ops listed i = true) (hr : (Region.ready .any ops listed).contains i = true)
    (hQ : PanicsFree Q) (hg : Wanted ops E g true) [hS : HeldSub L S] (hp : Pv P n D E S ⟨some d, op, ty, pos, aft, g⟩ v) (hd : Nat.blt d n = true)
    (hn : AnyH P W ops Q n D S fuel (listed.setIfInBounds i true) ((d, v) :: E) L) : AnyH P W ops Q n D S (fuel + 1) listed E L := fun a w hs ho =>
  wpAnyH_take hi hsel hf hr (fun c a w => hQ c a _ v w) (.inl ⟨wanted_of (o := ⟨some d, op, ty, pos, aft, g⟩) hg hs, fun w' hw' => hp a w' hs hw'⟩) (ho.heldSub hS) (hn _ w (hs.put hd) ho)

theorem AnyH.taken (i : Nat) (hi : ops[i]? = some ⟨none, op, ty, pos, aft, g⟩) (hsel : Region.noSelect ops = true) (hf : Region.free .any ops listed i = true) (hr : (Region.ready .any ops listed).contains i = true)
    (hQ : PanicsFree Q) (hg : Wanted ops E g true) [hS : HeldSub L S] (hp : Pv P n D E S ⟨none, op, ty, pos, aft, g⟩ v)
    (hn : AnyH P W ops Q n D S fuel (listed.setIfInBounds i true) E L) : AnyH P W ops Q n D S (fuel + 1) listed E L := fun a w hs ho =>
  wpAnyH_take hi hsel hf hr (fun c a w => hQ c a _ v w) (.inl ⟨wanted_of (o := ⟨none, op, ty, pos, aft, g⟩) hg hs, fun w' hw' => hp a w' hs hw'⟩) (ho.heldSub hS) (hn _ w hs ho)

theorem AnyH.skip (i : Nat) (hi : ops[i]? = some ⟨some d, op, ty, pos, aft, g⟩) (hsel : Region.noSelect ops = true) (hf : Region.free .any ops listed i = true) (hr : (Region.ready .any ops listed).contains i = true)
    (hQ : PanicsFree Q) (hg : Wanted ops E g false) [hS : HeldSub L S] (hd : Nat.blt d n = true)
    (hn : AnyH P W ops Q n D S fuel (listed.setIfInBounds i true) ((d, undef) :: E) L) : AnyH P W ops Q n D S (fuel + 1) listed E L := fun a w hs ho =>
  wpAnyH_take hi hsel hf hr (fun c a w => hQ c a _ undef w) (.inr ⟨wanted_of (o := ⟨some d, op, ty, pos, aft, g⟩) hg hs, rfl⟩) (ho.heldSub hS) (hn _ w (hs.put hd) ho)

/-- One of those that may come up comes up. -/
def Turn (P : Program) (W : World) (ops : Array Oper) (Q : Exit → Act → World → Prop) (n : Nat) (D : List Deferred) (S : Hp) (fuel : Nat) (listed : Array Bool) (i : Nat) (E : Env) (L : Hp) : Prop :=
  ∀ a w, Sees n D E a → Own W w L → wpOp P ops Q i (fun a' w' => Held S w' ∧ wpAnyH P .any ops Q (Held S) fuel (listed.setIfInBounds i true) a' w') a w

theorem AnyH.one (i : Nat) (hr : Region.ready .any ops listed = [i]) (h : Turn P W ops Q n D S fuel listed i E L) : AnyH P W ops Q n D S (fuel + 1) listed E L := fun a w hs ho =>
  wpAnyH_all hr (by simp) fun j hj => by
    obtain rfl : j = i := by simpa using hj
    exact h a w hs ho
theorem AnyH.two (i k : Nat) (hr : Region.ready .any ops listed = [i, k]) (h : Turn P W ops Q n D S fuel listed i E L) (h' : Turn P W ops Q n D S fuel listed k E L) : AnyH P W ops Q n D S (fuel + 1) listed E L := fun a w hs ho =>
  wpAnyH_all hr (by simp) fun j hj => by
    rcases (by simpa using hj : j = i ∨ j = k) with rfl | rfl
    · exact h a w hs ho
    · exact h' a w hs ho
theorem AnyH.three (i k m : Nat) (hr : Region.ready .any ops listed = [i, k, m]) (h : Turn P W ops Q n D S fuel listed i E L) (h' : Turn P W ops Q n D S fuel listed k E L) (h'' : Turn P W ops Q n D S fuel listed m E L) :
    AnyH P W ops Q n D S (fuel + 1) listed E L := fun a w hs ho =>
  wpAnyH_all hr (by simp) fun j hj => by
    rcases (by simpa using hj : j = i ∨ j = k ∨ j = m) with rfl | rfl | rfl
    · exact h a w hs ho
    · exact h' a w hs ho
    · exact h'' a w hs ho

theorem Turn.ef {i : Nat} {o : Oper} (hi : ops[i]? = some o) (hg : Wanted ops E o.guard true) (h : Ef P W n D o E L K) (hS : ∀ E' L', K E' L' → HeldSub L' S)
    (hn : ∀ E' L', K E' L' → AnyH P W ops Q n D S fuel (listed.setIfInBounds i true) E' L') : Turn P W ops Q n D S fuel listed i E L := fun a w hs ho => by
  unfold wpOp
  simp only [hi]
  rw [if_pos (wanted_of hg hs)]
  exact .inl (h Q a w _ hs ho fun E' L' a' w' k hs' ho' => ⟨ho'.heldSub (hS _ _ k), hn E' L' k a' w' hs' ho'⟩)

theorem AnyH.done (hr : Region.ready .any ops listed = []) (h : Ends W Q n D .normal E L) : AnyH P W ops Q n D S fuel listed E L := fun a w hs ho => wpAnyH_done hr (h a w hs ho) fuel
theorem AnyH.setE {t : Nat} {u : Value} (hl : look t E = some u) (hu : u = v) (hn : AnyH P W ops Q n D S fuel listed ((t, v) :: E) L) : AnyH P W ops Q n D S fuel listed E L := fun a w hs ho => hn a w (hs.set hl hu) ho
theorem AnyH.split {t : Nat} {p : Prop} [Decidable p] (hl : look t E = some (.bool (decide p))) (ht : p → AnyH P W ops Q n D S fuel listed ((t, .bool true) :: E) L) (hf : ¬p → AnyH P W ops Q n D S fuel listed ((t, .bool false) :: E) L) :
    AnyH P W ops Q n D S fuel listed E L := by
  by_cases h : p
  · exact .setE hl (by simp [h]) (ht h)
  · exact .setE hl (by simp [h]) (hf h)
end any

theorem pf_body {P : Program} {fn : Func} {R : Ending → World → Prop} : PanicsFree (bodyPost P fn R) := fun c a d v w h => by cases d <;> exact h
theorem pf_then {Q : Exit → Act → World → Prop} {K : Act → World → Prop} (h : PanicsFree Q) : PanicsFree (Exit.then K Q) := h
theorem pf_block {Q : Exit → Act → World → Prop} {id : Nat} (h : PanicsFree Q) : PanicsFree (Exit.inBlock id Q) := h
class PF (Q : Exit → Act → World → Prop) : Prop where
  pf : PanicsFree Q
instance PF.body {P : Program} {fn : Func} {R : Ending → World → Prop} : PF (bodyPost P fn R) := ⟨pf_body⟩
instance PF.then_ {Q : Exit → Act → World → Prop} {K : Act → World → Prop} [h : PF Q] : PF (Exit.then K Q) := ⟨h.pf⟩
instance PF.block_ {Q : Exit → Act → World → Prop} {id : Nat} [h : PF Q] : PF (Exit.inBlock id Q) := ⟨h.pf⟩


/-! ### Operations that turn the world -/

/-- A list with other members from a place on (found by instances). -/
class SetL (l : List Value) (i : Nat) (vs : List Value) (l' : outParam (List Value)) : Prop where
  len : l'.length = l.length
  le : i + vs.length ≤ l.length
  at_ : ∀ j, l'[j]? = if i ≤ j ∧ j < i + vs.length then vs[j - i]? else l[j]?
instance (priority := 1000) SetL.nil {l : List Value} : SetL l 0 [] l := ⟨rfl, by simp, fun j => by simp⟩
instance (priority := 900) SetL.cons {x v : Value} {l vs l' : List Value} [h : SetL l 0 vs l'] : SetL (x :: l) 0 (v :: vs) (v :: l') :=
  ⟨by simp [h.len], by have := h.le; simp at this ⊢; omega, fun j => by
    cases j with
    | zero => simp
    | succ j =>
      have := h.at_ j
      simp only [Nat.zero_le, true_and, Nat.zero_add, Nat.sub_zero] at this
      simp [this]⟩
instance (priority := 800) SetL.succ {x : Value} {l vs l' : List Value} {i : Nat} [h : SetL l i vs l'] : SetL (x :: l) (i + 1) vs (x :: l') :=
  ⟨by simp [h.len], by have := h.le; simp at this ⊢; omega, fun j => by
    cases j with
    | zero => simp
    | succ j =>
      have := h.at_ j
      simp only [List.getElem?_cons_succ, this]
      by_cases hh : i ≤ j ∧ j < i + vs.length
      · rw [if_pos hh, if_pos (by omega)]; rw [show j + 1 - (i + 1) = j - i by omega]
      · rw [if_neg hh, if_neg (by omega)]⟩

theorem Own.upd {W w w' : World} {L L' : Hp} {b : Nat} {o' : Obj} (h : Own W w L) (u : Upd L b o' L') (hos : w'.os = w.os) (ht : w'.tape = w.tape) (hout : w'.output = w.output)
    (hb : w'.heap[b]? = some o') (hne : ∀ k, k ≠ b → w'.heap[k]? = w.heap[k]?) : Own W w' L' := by
  obtain ⟨A, B, o, h1, h2⟩ := u.eq
  subst h1; subst h2
  exact h.set hos ht hout hb hne

/-- The world after a store of several cells. -/
def storeW (w : World) (b : Nat) (c' : List Value) (T : TypeId) : World := { w with heap := w.heap.setIfInBounds b (.cells c'.toArray T) }

theorem run_storeCells (P : Program) (b off : Nat) (T : TypeId) : ∀ (vs : List Value) (i : Nat) (c : List Value) (w : World),
    w.heap[b]? = some (.cells c.toArray T) → off + i + vs.length ≤ c.length → (∀ v ∈ vs, v.oneCell' = true) →
    (storeCells ⟨b, off, none⟩ vs i).run P w = .ok () (storeW w b (c.take (off + i) ++ vs ++ c.drop (off + i + vs.length)) T)
  | [], i, c, w, hb, hl, h1 => by
    simp only [storeCells, Sem.run_pure, List.append_nil, List.length_nil, Nat.add_zero, List.take_append_drop, storeW]
    congr 1
    cases w with
    | mk heap tape drawn os output =>
      simp only at hb ⊢
      congr 1
      apply Array.ext_getElem?
      intro j
      rw [Array.getElem?_setIfInBounds]
      split
      · rename_i hj; subst hj
        split
        · exact hb
        · rename_i hlt; rw [Array.getElem?_eq_none (by omega)] at hb; cases hb
      · rfl
  | v :: vs, i, c, w, hb, hl, h1 => by
    have hv := h1 v (List.mem_cons_self ..)
    simp only [List.length_cons] at hl
    have hcell : w.cell? ⟨b, off + i, none⟩ = some c[off + i] := by
      simp [World.cell?, hb]
    have hfz : w.frozen? ⟨b, off + i, none⟩ = false := by simp [World.frozen?, hb]
    have hw : w.setCell ⟨b, off + i, none⟩ v = storeW w b (c.set (off + i) v) T := by
      unfold World.setCell storeW
      congr 1
      apply Array.ext_getElem?
      intro j
      rw [Array.getElem?_modify, Array.getElem?_setIfInBounds]
      split
      · rename_i hj; subst hj
        have hlt : b < w.heap.size := by
          rcases Nat.lt_or_ge b w.heap.size with h | h
          · exact h
          · rw [Array.getElem?_eq_none h] at hb; cases hb
        have hb' : w.heap[b] = Obj.cells c.toArray T := by
          rw [Array.getElem?_eq_getElem hlt] at hb; exact Option.some.inj hb
        simp [hlt, hb']
      · rfl
    have hsz : b < w.heap.size := by
      rcases Nat.lt_or_ge b w.heap.size with h | h
      · exact h
      · rw [Array.getElem?_eq_none h] at hb; cases hb
    simp only [storeCells, Sem.run_bind, addr_add, run_store P w _ v .plain hv, hcell, hfz, Bool.false_eq_true, if_false, Result.andThen_ok, hw]
    rw [run_storeCells P b off T vs (i + 1) (c.set (off + i) v) _ (by simp [storeW, hsz]) (by simp; omega) (fun u hu => h1 u (List.mem_cons_of_mem _ hu))]
    have e1 : (c.set (off + i) v).take (off + (i + 1)) = c.take (off + i) ++ [v] := by
      rw [List.take_set, show off + (i + 1) = off + i + 1 by omega, List.take_succ_eq_append_getElem (by omega)]
      rw [List.set_append_right _ _ (by simp; omega)]
      simp [Nat.min_eq_left (show off + i ≤ c.length by omega)]
    have e2 : (c.set (off + i) v).drop (off + (i + 1) + vs.length) = c.drop (off + i + (vs.length + 1)) := by
      rw [List.drop_set_of_lt (by omega), show off + (i + 1) + vs.length = off + i + (vs.length + 1) by omega]
    rw [e1, e2]
    simp [storeW]

theorem SetL.eq {l : List Value} {i : Nat} {vs l' : List Value} (h : SetL l i vs l') : l.take i ++ vs ++ l.drop (i + vs.length) = l' := by
  apply List.ext_getElem?
  intro j
  rw [h.at_ j]
  have hle := h.le
  by_cases h1 : j < i
  · rw [if_neg (by omega), List.append_assoc, List.getElem?_append_left (by simp; omega), List.getElem?_take, if_pos h1]
  · by_cases h2 : j < i + vs.length
    · rw [if_pos (by omega), List.append_assoc, List.getElem?_append_right (by simp; omega), List.getElem?_append_left (by simp; omega)]
      congr 1
      simp; omega
    · rw [if_neg (by omega), List.getElem?_append_right (by simp; omega), List.getElem?_drop]
      congr 1
      simp; omega

section ef
variable {P : Program} {W : World} {n : Nat} {D : List Deferred} {E : Env} {L : Hp} {d : Nat} {ty : TypeId} {pos : String} {aft : Array Edge} {g : Option (Nat × Bool)} {T : TypeId} {x y : Operand} {v : Value}

theorem heap_push {w : World} {o : Obj} : { w with heap := w.heap.push o } = w.alloc o := rfl

theorem ef_box {cs : List Value} (hx : ev E x = some v) (hd : Nat.blt d n = true) (hv : v.cells = cs.toArray) :
    Ef P W n D ⟨some d, .box T x, ty, pos, aft, g⟩ E L (fun E' L' => ∃ b, E' = (d, .pointer (some ⟨b, 0, none⟩)) :: E ∧ L' = (b, .cells cs.toArray T) :: L) := fun Q a w next hs ho hn => by
  unfold Oper.wp
  have : (execOp a.eval ⟨some d, .box T x, ty, pos, aft, g⟩).run P w = .ok (.value (.pointer (some ⟨w.heap.size, 0, none⟩))) (w.alloc (.cells cs.toArray T)) := by
    simp [execOp, hs.ev hx, Instr.box, newVar, newRow, hv]
  rw [this]
  exact hn _ _ _ _ ⟨_, rfl, rfl⟩ (hs.put hd) (ho.alloc _)
theorem ef_box1 (hx : ev E x = some v) (hd : Nat.blt d n = true) (hv : v.cells = #[v]) :
    Ef P W n D ⟨some d, .box T x, ty, pos, aft, g⟩ E L (fun E' L' => ∃ b, E' = (d, .pointer (some ⟨b, 0, none⟩)) :: E ∧ L' = (b, .cells [v].toArray T) :: L) := ef_box hx hd hv
theorem ef_boxK {cs : List Value} (hx : ev E x = some (.agg cs.toArray)) (hd : Nat.blt d n = true) :
    Ef P W n D ⟨some d, .box T x, ty, pos, aft, g⟩ E L (fun E' L' => ∃ b, E' = (d, .pointer (some ⟨b, 0, none⟩)) :: E ∧ L' = (b, .cells cs.toArray T) :: L) := ef_box hx hd rfl

theorem ef_alloc {z : Value} {cs : List Value} (hz : TyZ P T z) (hd : Nat.blt d n = true) (hv : z.cells = cs.toArray) :
    Ef P W n D ⟨some d, .alloc T, ty, pos, aft, g⟩ E L (fun E' L' => ∃ b, E' = (d, .pointer (some ⟨b, 0, none⟩)) :: E ∧ L' = (b, .cells cs.toArray T) :: L) := fun Q a w next hs ho hn => by
  unfold Oper.wp
  have : (execOp a.eval ⟨some d, .alloc T, ty, pos, aft, g⟩).run P w = .ok (.value (.pointer (some ⟨w.heap.size, 0, none⟩))) (w.alloc (.cells cs.toArray T)) := by
    simp [execOp, Instr.alloc, TyZ.run, newVar, newRow, hv]
  rw [this]
  exact hn _ _ _ _ ⟨_, rfl, rfl⟩ (hs.put hd) (ho.alloc _)
theorem ef_alloc1 {z : Value} (hz : TyZ P T z) (hd : Nat.blt d n = true) (hv : z.cells = #[z]) :
    Ef P W n D ⟨some d, .alloc T, ty, pos, aft, g⟩ E L (fun E' L' => ∃ b, E' = (d, .pointer (some ⟨b, 0, none⟩)) :: E ∧ L' = (b, .cells [z].toArray T) :: L) := ef_alloc hz hd hv
theorem ef_allocK {cs : List Value} (hz : TyZ P T (.agg cs.toArray)) (hd : Nat.blt d n = true) :
    Ef P W n D ⟨some d, .alloc T, ty, pos, aft, g⟩ E L (fun E' L' => ∃ b, E' = (d, .pointer (some ⟨b, 0, none⟩)) :: E ∧ L' = (b, .cells cs.toArray T) :: L) := ef_alloc hz hd rfl

theorem ef_store {k b off : Nat} {c c' vs : List Value} {T' : TypeId} {L' : Hp} [hk : TyS P T k] (hx : ev E x = some (.pointer (some ⟨b, off, none⟩))) (hy : ev E y = some v) (hv : v.cells = vs.toArray) (hkl : vs.length = k)
    (h1 : vs.all Value.oneCell' = true) [hb : Blk L b (.cells c.toArray T')] [hset : SetL c off vs c'] [hu : Upd L b (.cells c'.toArray T') L'] :
    Ef P W n D ⟨none, .store T x y, ty, pos, aft, g⟩ E L (fun E1 L1 => E1 = E ∧ L1 = L') := fun Q a w next hs ho hn => by
  unfold Oper.wp
  have hbl := ho.get _ hb.mem
  have hst := run_storeCells P b off T' vs 0 c w hbl (by have := hset.le; omega) (by simpa using h1)
  have he : (execOp a.eval ⟨none, .store T x y, ty, pos, aft, g⟩).run P w = .ok .skip (storeW w b c' T') := by
    simp only [execOp, hs.ev hx, hs.ev hy, Instr.storeAt, Instr.sureAddr, storeVar, Sem.run_bind, Sem.run_pure, Result.andThen_ok, TyS.run, hv, List.size_toArray, hkl, ne_eq, not_true_eq_false, if_false]
    rw [hst]
    simp only [Nat.add_zero, hset.eq, Result.andThen_ok]
  rw [he]
  have hlt := ho.lt hb.mem
  refine hn _ _ _ _ ⟨rfl, rfl⟩ hs (ho.upd hu rfl rfl rfl (by simp [storeW, hlt]) fun j hj => ?_)
  simp [storeW, Array.getElem?_setIfInBounds_ne (Ne.symm hj)]
theorem ef_store1 {b off : Nat} {c c' : List Value} {T' : TypeId} {L' : Hp} [hk : TyS P T 1] (hx : ev E x = some (.pointer (some ⟨b, off, none⟩))) (hy : ev E y = some v) (hv : v.cells = #[v]) (h1 : v.oneCell' = true)
    [hb : Blk L b (.cells c.toArray T')] [hset : SetL c off [v] c'] [hu : Upd L b (.cells c'.toArray T') L'] :
    Ef P W n D ⟨none, .store T x y, ty, pos, aft, g⟩ E L (fun E1 L1 => E1 = E ∧ L1 = L') := ef_store (vs := [v]) hx hy hv rfl (by simp [h1])
theorem ef_storeK {k b off : Nat} {c c' vs : List Value} {T' : TypeId} {L' : Hp} [hk : TyS P T k] (hx : ev E x = some (.pointer (some ⟨b, off, none⟩))) (hy : ev E y = some (.agg vs.toArray)) (hkl : vs.length = k)
    (h1 : vs.all Value.oneCell' = true) [hb : Blk L b (.cells c.toArray T')] [hset : SetL c off vs c'] [hu : Upd L b (.cells c'.toArray T') L'] :
    Ef P W n D ⟨none, .store T x y, ty, pos, aft, g⟩ E L (fun E1 L1 => E1 = E ∧ L1 = L') := ef_store hx hy rfl hkl h1

theorem run_callFunc {f : FuncId} [hf : GoFn P f] (args : Array Value) (w : World) : (callFunc f args).run P w = .ok (.enter f args) w := by
  obtain ⟨fn, h1, h2, h3⟩ := hf.eq
  have h2' : ¬ fn.name = "runtime.NumGoroutine" := by simpa using h2
  have h3' : ¬ fn.body = none := by intro e; rw [e] at h3; cases h3
  simp [callFunc, h1, h2', h3']

theorem ef_call {f : FuncId} {xs : List Operand} {ats : Array TypeId} {args : List Value} {Lp F : Hp} {R : Value → Hp → Prop} (ht : Tr P f args Lp R) [hf : GoFn P f] (hx : evs E xs = some args) (hd : Nat.blt d n = true) [hp : Part L Lp F] :
    Ef P W n D ⟨some d, .call { callee := .value (.func f), args := xs.toArray, argTypes := ats }, ty, pos, aft, g⟩ E L (fun E' L' => ∃ v L1, R v L1 ∧ E' = (d, v) :: E ∧ L' = L1 ++ F) := fun Q a w next hs ho hn => by
  unfold Oper.wp
  rw [execOp_call_go]
  have e : (#[] ++ xs.toArray.map a.eval ++ #[] : Array Value) = args.toArray := by simp [hs.evs hx]
  rw [e, run_callFunc]
  refine (ht W w F (ho.part hp)).mono ?_
  rintro e' w' ⟨v, L1, rfl, hR, ho'⟩
  exact hn _ _ _ _ ⟨v, L1, hR, rfl, rfl⟩ (hs.put hd) ho'
theorem ef_calln {f : FuncId} {xs : List Operand} {ats : Array TypeId} {args : List Value} {Lp F : Hp} {R : Value → Hp → Prop} (ht : Tr P f args Lp R) [hf : GoFn P f] (hx : evs E xs = some args) [hp : Part L Lp F] :
    Ef P W n D ⟨none, .call { callee := .value (.func f), args := xs.toArray, argTypes := ats }, ty, pos, aft, g⟩ E L (fun E' L' => ∃ v L1, R v L1 ∧ E' = E ∧ L' = L1 ++ F) := fun Q a w next hs ho hn => by
  unfold Oper.wp
  rw [execOp_call_go]
  have e : (#[] ++ xs.toArray.map a.eval ++ #[] : Array Value) = args.toArray := by simp [hs.evs hx]
  rw [e, run_callFunc]
  refine (ht W w F (ho.part hp)).mono ?_
  rintro e' w' ⟨v, L1, rfl, hR, ho'⟩
  exact hn _ _ _ _ ⟨v, L1, hR, rfl, rfl⟩ hs ho'

theorem ef_makeMap {x : Option Operand} (hd : Nat.blt d n = true) (hx : x = none) :
    Ef P W n D ⟨some d, .makeMap T x, ty, pos, aft, g⟩ E L (fun E' L' => ∃ b, E' = (d, .map (some b)) :: E ∧ L' = (b, .map #[] 0) :: L) := fun Q a w next hs ho hn => by
  subst hx
  unfold Oper.wp
  have : (execOp a.eval ⟨some d, .makeMap T none, ty, pos, aft, g⟩).run P w = .ok (.value (.map (some w.heap.size))) (w.alloc (.map #[] 0)) := by
    simp [execOp, Instr.makeMap]
  rw [this]
  exact hn _ _ _ _ ⟨_, rfl, rfl⟩ (hs.put hd) (ho.alloc _)
end ef


/-! ### Pointers against nil; lengths -/
section pv2
variable {P : Program} {n : Nat} {D : List Deferred} {E : Env} {L : Hp} {d : Option Tmp} {ty : TypeId} {pos : String} {aft : Array Edge} {g : Option (Nat × Bool)} {T : TypeId} {x y z : Operand} {v u : Value}

theorem run_eql_ptr_nil {P : Program} {T : TypeId} {e : TypeId} [h : TyD P T (.pointer e)] (p : Option Addr) (w : World) : (Op.equal T (.pointer p) (.pointer none)).run P w = .ok p.isNone w := by
  have key : ∀ d, (Op.equalIn (d + 1) T (.pointer p) (.pointer none)).run P w = .ok p.isNone w := fun d => by
    cases p <;> simp [Op.equalIn, TyD.run]
  exact key 9999
theorem pv_eql_nil {p : Option Addr} {e : TypeId} {yt : TypeId} (hx : ev E x = some (.pointer p)) (hy : ev E y = some (.pointer none)) [h : TyD P T (.pointer e)] :
    Pv P n D E L ⟨d, .binOp .eql T x y yt, ty, pos, aft, g⟩ (.bool p.isNone) := fun a w hs _ => by
  simp [execOp, hs.ev hx, hs.ev hy, eqGuard, binOp, run_eql_ptr_nil]
theorem pv_neq_nil {p : Option Addr} {e : TypeId} {yt : TypeId} (hx : ev E x = some (.pointer p)) (hy : ev E y = some (.pointer none)) [h : TyD P T (.pointer e)] :
    Pv P n D E L ⟨d, .binOp .neq T x y yt, ty, pos, aft, g⟩ (.bool p.isSome) := fun a w hs _ => by
  simp [execOp, hs.ev hx, hs.ev hy, eqGuard, binOp, run_eql_ptr_nil]
end pv2

/-! ### Maps -/
section maps
variable {κ : Type} [DecidableEq κ]

/-- A map's entries: keys of the prover's own, values, stamps. -/
def entsL (enc : κ → Value) (l : List (κ × Value × Nat)) : List MapEntry := l.map fun e => { key := enc e.1, val := e.2.1, born := e.2.2 }
def mapO (enc : κ → Value) (l : List (κ × Value × Nat)) (clock : Nat) : Obj := .map (entsL enc l).toArray clock

def fidx (k : κ) : List (κ × Value × Nat) → Nat → Option (Nat × Value)
  | [], _ => none
  | e :: l, i => if k = e.1 then some (i, e.2.1) else fidx k l (i + 1)

/-- What lies at a key. -/
def mget (k : κ) : List (κ × Value × Nat) → Option Value
  | [] => none
  | e :: l => if k = e.1 then some e.2.1 else mget k l
/-- The entries behind a store. -/
def mput (k : κ) (v : Value) (t : Nat) : List (κ × Value × Nat) → List (κ × Value × Nat)
  | [] => [(k, v, t)]
  | e :: l => if k = e.1 then (e.1, v, e.2.2) :: l else e :: mput k v t l
/-- The entries behind a delete. -/
def mdel (k : κ) : List (κ × Value × Nat) → List (κ × Value × Nat)
  | [] => []
  | e :: l => if k = e.1 then l else e :: mdel k l

theorem fidx_get (k : κ) : ∀ (l : List (κ × Value × Nat)) (i : Nat), (fidx k l i).map (·.2) = mget k l
  | [], _ => rfl
  | e :: l, i => by
    simp only [fidx, mget]
    split
    · rfl
    · exact fidx_get k l (i + 1)

class KeyTy (P : Program) (K : Nat) (enc : κ → Value) : Prop where
  check : ∀ b k w, (Instr.checkKey b 10000 K (enc k)).run P w = .ok () w
  find : ∀ k l w, (Instr.findKey K (enc k) (entsL enc l)).run P w = .ok (fidx k l 0) w
  stay : ∀ k w, (Instr.keyThatStays (enc k) (enc k)).run P w = .ok (enc k) w

def encI (k : Int) : Value := .int .i64 k

theorem findNow_int {kd : IntKind} (k : Int) : ∀ (l : List (Int × Value × Nat)) (i : Nat), Instr.findNow (.int kd) (encI k) (entsL encI l) i = some (fidx k l i)
  | [], i => rfl
  | e :: l, i => by
    simp only [entsL, List.map_cons, Instr.findNow, encI, Instr.sameNow, if_true, fidx]
    by_cases h : k = e.1
    · simp [h]
    · have hb : (k == e.1) = false := by simpa using h
      simp only [hb, h, if_false]
      exact findNow_int k l (i + 1)

instance KeyTy.int {P : Program} {K : TypeId} {kd : IntKind} [h : TyD P K (.int kd)] : KeyTy P K encI where
  check b k w := by
    have key : ∀ d, (Instr.checkKey b (d + 1) K (encI k)).run P w = .ok () w := fun d => by simp [Instr.checkKey, TyD.run, encI]
    exact key 9999
  find k l w := by simp only [Instr.findKey, Sem.run_bind, TyD.run, Result.andThen_ok, findNow_int, Sem.run_pure]
  stay k w := by simp [Instr.keyThatStays, Instr.sameBits, encI]

theorem run_lookup {P : Program} {T K V : TypeId} [hT : TyD P T (.map K V)] {enc : κ → Value} [hk : KeyTy P K enc] {z : Value} [hz : TyZ P V z] {w : World} {b : Nat} {l : List (κ × Value × Nat)} {cl : Nat}
    (hb : w.heap[b]? = some (mapO enc l cl)) (k : κ) (ok : Bool) :
    (Instr.lookup T (.map (some b)) (enc k) ok).run P w = .ok (if ok then .tuple #[(mget k l).getD z, .bool (mget k l).isSome] else (mget k l).getD z) w := by
  have hg : (getObj b).run P w = .ok (mapO enc l cl) w := by simp only [getObj, Sem.run, hb, mapO]
  simp only [Instr.lookup, Sem.run_bind, TyD.run, Result.andThen_ok, hg, mapO, Sem.run_pure, hk.check, hk.find]
  rw [← fidx_get k l 0]
  cases fidx k l 0 <;> simp [TyZ.run]

theorem fidx_ge (k : κ) : ∀ (l : List (κ × Value × Nat)) (i j : Nat) (v : Value), fidx k l i = some (j, v) → i ≤ j
  | [], i, j, v, h => by cases h
  | e :: l, i, j, v, h => by
    simp only [fidx] at h
    split at h
    · cases h; exact Nat.le_refl _
    · have := fidx_ge k l (i + 1) j v h; omega

theorem fidx_put (k : κ) (v : Value) (t : Nat) (enc : κ → Value) : ∀ (l : List (κ × Value × Nat)) (i : Nat),
    (match fidx k l i with | some (j, _) => (entsL enc l).modify (j - i) (fun e => { e with key := enc k, val := v }) | none => entsL enc l ++ [{ key := enc k, val := v, born := t }]) = entsL enc (mput k v t l)
  | [], i => rfl
  | e :: l, i => by
    have ih := fidx_put k v t enc l (i + 1)
    simp only [fidx, mput]
    by_cases h : k = e.1
    · simp [h, entsL]
    · simp only [h, if_false]
      simp only [entsL, List.map_cons] at ih ⊢
      rw [← ih]
      cases hf : fidx k l (i + 1) with
      | none => rfl
      | some jv =>
        obtain ⟨j, u⟩ := jv
        have := fidx_ge k l (i + 1) j u hf
        simp only
        rw [show j - i = (j - (i + 1)) + 1 by omega]
        rfl

theorem mput_old (k : κ) (v : Value) (t t' : Nat) : ∀ (l : List (κ × Value × Nat)) (i : Nat) (jv : Nat × Value), fidx k l i = some jv → mput k v t l = mput k v t' l
  | [], i, jv, h => by cases h
  | e :: l, i, jv, h => by
    simp only [fidx] at h
    simp only [mput]
    split at h
    · rename_i hk; simp [hk]
    · rename_i hk; simp only [hk, if_false]; rw [mput_old k v t t' l (i + 1) jv h]

/-- The clock behind a store. -/
def mclk (k : κ) (l : List (κ × Value × Nat)) (cl : Nat) : Nat := if (mget k l).isSome then cl else cl + 1

theorem fidx_key (enc : κ → Value) (k : κ) : ∀ (l : List (κ × Value × Nat)) (i j : Nat) (v : Value), fidx k l i = some (j, v) → ((entsL enc l)[j - i]?).map (·.key) = some (enc k)
  | [], i, j, v, h => by cases h
  | e :: l, i, j, v, h => by
    simp only [fidx] at h
    split at h
    · rename_i hk; cases h; subst hk; simp [entsL]
    · have hge := fidx_ge k l (i + 1) j v h
      have := fidx_key enc k l (i + 1) j v h
      rw [show j - i = (j - (i + 1)) + 1 by omega]
      simpa [entsL] using this

theorem run_mapUpdate {P : Program} {T K V : TypeId} [hT : TyD P T (.map K V)] {enc : κ → Value} [hk : KeyTy P K enc] {w : World} {b : Nat} {l : List (κ × Value × Nat)} {cl : Nat}
    (hb : w.heap[b]? = some (mapO enc l cl)) (k : κ) (v : Value) :
    (Instr.mapUpdate T (.map (some b)) (enc k) v).run P w = .ok () { w with heap := w.heap.setIfInBounds b (mapO enc (mput k v cl l) (mclk k l cl)) } := by
  have hg : (getObj b).run P w = .ok (mapO enc l cl) w := by simp only [getObj, Sem.run, hb, mapO]
  have hs : ∀ es c, (setObj b (.map es c)).run P w = .ok () { w with heap := w.heap.setIfInBounds b (.map es c) } := fun es c => by simp only [setObj, Sem.run, hb, mapO]
  have hput := fidx_put k v cl enc l 0
  have hget := fidx_get k l 0
  simp only [Instr.mapUpdate, Sem.run_bind, TyD.run, Result.andThen_ok, hg, mapO, hk.check, hk.find]
  cases hf : fidx k l 0 with
  | none =>
    simp only [hf] at hput hget
    have hm : (mget k l).isSome = false := by rw [← hget]; rfl
    simp only [hs, mclk, hm, Bool.false_eq_true, if_false]
    rw [← hput]
    simp
  | some jv =>
    obtain ⟨j, u⟩ := jv
    simp only [hf, Nat.sub_zero] at hput hget
    have hm : (mget k l).isSome = true := by rw [← hget]; rfl
    have hkey := fidx_key enc k l 0 j u hf
    simp only [Nat.sub_zero] at hkey
    have hkey' : (((entsL enc l).toArray[j]?).map (·.key)).getD (enc k) = enc k := by
      simp only [List.getElem?_toArray, hkey, Option.getD_some]
    simp only [Sem.run_bind, hkey', hk.stay, Result.andThen_ok, hs, mclk, hm, if_true]
    rw [← hput]
    simp

theorem fidx_del (k : κ) (enc : κ → Value) : ∀ (l : List (κ × Value × Nat)) (i : Nat),
    (match fidx k l i with | some (j, _) => (entsL enc l).eraseIdx (j - i) | none => entsL enc l) = entsL enc (mdel k l)
  | [], i => rfl
  | e :: l, i => by
    have ih := fidx_del k enc l (i + 1)
    simp only [fidx, mdel]
    by_cases h : k = e.1
    · simp [h, entsL]
    · simp only [h, if_false]
      simp only [entsL, List.map_cons] at ih ⊢
      rw [← ih]
      cases hf : fidx k l (i + 1) with
      | none => rfl
      | some jv =>
        obtain ⟨j, u⟩ := jv
        have := fidx_ge k l (i + 1) j u hf
        simp only
        rw [show j - i = (j - (i + 1)) + 1 by omega]
        rfl

theorem run_delete {P : Program} {T K V ty : TypeId} {ats : Array TypeId} [hT : TyD P T (.map K V)] {enc : κ → Value} [hk : KeyTy P K enc] {w : World} {b : Nat} {l : List (κ × Value × Nat)} {cl : Nat}
    (hb : w.heap[b]? = some (mapO enc l cl)) (k : κ) (h0 : ats[0]? = some T) :
    (Builtin.delete_ ats ty #[.map (some b), enc k]).run P w = .ok (.tuple #[]) { w with heap := w.heap.setIfInBounds b (mapO enc (mdel k l) cl) } := by
  have hg : (getObj b).run P w = .ok (mapO enc l cl) w := by simp only [getObj, Sem.run, hb, mapO]
  have hs : ∀ es c, (setObj b (.map es c)).run P w = .ok () { w with heap := w.heap.setIfInBounds b (.map es c) } := fun es c => by simp only [setObj, Sem.run, hb, mapO]
  have hd := fidx_del k enc l 0
  simp only [Builtin.delete_, h0, List.getElem?_toArray, List.getElem?_cons_zero, List.getElem?_cons_succ, Sem.run_bind, TyD.run, Result.andThen_ok, hg, mapO, hk.check, hk.find]
  cases hf : fidx k l 0 with
  | none =>
    simp only [hf] at hd
    simp only [Sem.run_bind, hs, Result.andThen_ok, Sem.run_pure]
    rw [← hd]
  | some jv =>
    obtain ⟨j, u⟩ := jv
    simp only [hf, Nat.sub_zero] at hd
    have hkey := fidx_key enc k l 0 j u hf
    have hlt : j < (entsL enc l).length := by
      rcases Nat.lt_or_ge j (entsL enc l).length with h | h
      · exact h
      · simp only [Nat.sub_zero] at hkey; rw [List.getElem?_eq_none h] at hkey; cases hkey
    simp only [Sem.run_bind, hs, Result.andThen_ok, Sem.run_pure]
    rw [← hd]
    simp [Array.eraseIdxIfInBounds, hlt]
end maps


section mapops
variable {P : Program} {W : World} {n : Nat} {D : List Deferred} {E : Env} {L : Hp} {ty : TypeId} {pos : String} {aft : Array Edge} {g : Option (Nat × Bool)} {T : TypeId} {x y z : Operand} {v u : Value}
variable {κ : Type} [DecidableEq κ]

theorem pv_lookup {d : Option Tmp} {K V : TypeId} {enc : κ → Value} {b cl : Nat} {l : List (κ × Value × Nat)} {zv : Value} (k : κ) (hx : ev E x = some (.map (some b))) (hy : ev E y = some (enc k)) [hT : TyD P T (.map K V)] [hk : KeyTy P K enc] [hz : TyZ P V zv]
    [hb : Blk L b (mapO enc l cl)] {r : Value} (hr : (mget k l).getD zv = r) : Pv P n D E L ⟨d, .lookup T x y false, ty, pos, aft, g⟩ r := fun a w hs hh => by
  subst hr
  simp only [execOp, hs.ev hx, hs.ev hy, Sem.run_bind, run_lookup (hh _ hb.mem), Result.andThen_ok, Sem.run_pure, Bool.false_eq_true, if_false]
theorem pv_lookup_ok {d : Option Tmp} {K V : TypeId} {enc : κ → Value} {b cl : Nat} {l : List (κ × Value × Nat)} {zv : Value} (k : κ) (hx : ev E x = some (.map (some b))) (hy : ev E y = some (enc k)) [hT : TyD P T (.map K V)] [hk : KeyTy P K enc] [hz : TyZ P V zv]
    [hb : Blk L b (mapO enc l cl)] {r : Value} {q : Bool} (hr : (mget k l).getD zv = r) (hq : (mget k l).isSome = q) : Pv P n D E L ⟨d, .lookup T x y true, ty, pos, aft, g⟩ (.tuple #[r, .bool q]) := fun a w hs hh => by
  subst hr; subst hq
  simp only [execOp, hs.ev hx, hs.ev hy, Sem.run_bind, run_lookup (hh _ hb.mem), Result.andThen_ok, Sem.run_pure, if_true]

theorem ef_mapUpdate {K V : TypeId} {enc : κ → Value} {b cl : Nat} {l : List (κ × Value × Nat)} {L' : Hp} (k : κ) (hx : ev E x = some (.map (some b))) (hy : ev E y = some (enc k)) (hz : ev E z = some v) [hT : TyD P T (.map K V)] [hk : KeyTy P K enc]
    [hb : Blk L b (mapO enc l cl)] [hu : Upd L b (mapO enc (mput k v cl l) (mclk k l cl)) L'] :
    Ef P W n D ⟨none, .mapUpdate T x y z, ty, pos, aft, g⟩ E L (fun E1 L1 => E1 = E ∧ L1 = L') := fun Q a w next hs ho hn => by
  unfold Oper.wp
  have he : (execOp a.eval ⟨none, .mapUpdate T x y z, ty, pos, aft, g⟩).run P w = .ok .skip { w with heap := w.heap.setIfInBounds b (mapO enc (mput k v cl l) (mclk k l cl)) } := by
    simp only [execOp, hs.ev hx, hs.ev hy, hs.ev hz, Sem.run_bind, run_mapUpdate (ho.get _ hb.mem), Result.andThen_ok, Sem.run_pure]
  rw [he]
  have hlt := ho.lt hb.mem
  refine hn _ _ _ _ ⟨rfl, rfl⟩ hs (ho.upd hu rfl rfl rfl (by simp [hlt]) fun j hj => ?_)
  simp [Array.getElem?_setIfInBounds_ne (Ne.symm hj)]

theorem ef_delete {d : Nat} {K V : TypeId} {enc : κ → Value} {ats : Array TypeId} {b cl : Nat} {l : List (κ × Value × Nat)} {L' : Hp} (k : κ) (hx : ev E x = some (.map (some b))) (hy : ev E y = some (enc k)) (h0 : ats[0]? = some T) (hd : Nat.blt d n = true) [hT : TyD P T (.map K V)] [hk : KeyTy P K enc]
    [hb : Blk L b (mapO enc l cl)] [hu : Upd L b (mapO enc (mdel k l) cl) L'] :
    Ef P W n D ⟨some d, .call { callee := .builtin .delete, args := #[x, y], argTypes := ats }, ty, pos, aft, g⟩ E L (fun E1 L1 => E1 = (d, .tuple #[]) :: E ∧ L1 = L') := fun Q a w next hs ho hn => by
  unfold Oper.wp
  have he : (execOp a.eval ⟨some d, .call { callee := .builtin .delete, args := #[x, y], argTypes := ats }, ty, pos, aft, g⟩).run P w = .ok (.value (.tuple #[])) { w with heap := w.heap.setIfInBounds b (mapO enc (mdel k l) cl) } := by
    rw [BigFrame.execOp_builtin]
    simp only [BigFrame.builtin_delete, List.map_toArray, List.map_cons, List.map_nil, hs.ev hx, hs.ev hy, Sem.run_bind, run_delete (ho.get _ hb.mem) k h0, Result.andThen_ok, Sem.run_pure]
  rw [he]
  have hlt := ho.lt hb.mem
  refine hn _ _ _ _ ⟨rfl, rfl⟩ (hs.put hd) (ho.upd hu rfl rfl rfl (by simp [hlt]) fun j hj => ?_)
  simp [Array.getElem?_setIfInBounds_ne (Ne.symm hj)]
theorem ef_deleten {K V : TypeId} {enc : κ → Value} {ats : Array TypeId} {b cl : Nat} {l : List (κ × Value × Nat)} {L' : Hp} (k : κ) (hx : ev E x = some (.map (some b))) (hy : ev E y = some (enc k)) (h0 : ats[0]? = some T) [hT : TyD P T (.map K V)] [hk : KeyTy P K enc]
    [hb : Blk L b (mapO enc l cl)] [hu : Upd L b (mapO enc (mdel k l) cl) L'] :
    Ef P W n D ⟨none, .call { callee := .builtin .delete, args := #[x, y], argTypes := ats }, ty, pos, aft, g⟩ E L (fun E1 L1 => E1 = E ∧ L1 = L') := fun Q a w next hs ho hn => by
  unfold Oper.wp
  have he : (execOp a.eval ⟨none, .call { callee := .builtin .delete, args := #[x, y], argTypes := ats }, ty, pos, aft, g⟩).run P w = .ok (.value (.tuple #[])) { w with heap := w.heap.setIfInBounds b (mapO enc (mdel k l) cl) } := by
    rw [BigFrame.execOp_builtin]
    simp only [BigFrame.builtin_delete, List.map_toArray, List.map_cons, List.map_nil, hs.ev hx, hs.ev hy, Sem.run_bind, run_delete (ho.get _ hb.mem) k h0, Result.andThen_ok, Sem.run_pure]
  rw [he]
  have hlt := ho.lt hb.mem
  refine hn _ _ _ _ ⟨rfl, rfl⟩ hs (ho.upd hu rfl rfl rfl (by simp [hlt]) fun j hj => ?_)
  simp [Array.getElem?_setIfInBounds_ne (Ne.symm hj)]

omit [DecidableEq κ] in
theorem pv_len_map {d : Option Tmp} {K V : TypeId} {enc : κ → Value} {ats : Array TypeId} {b cl : Nat} {l : List (κ × Value × Nat)} (hx : ev E x = some (.map (some b))) (h0 : ats[0]? = some T) [hT : TyD P T (.map K V)] [hb : Blk L b (mapO enc l cl)] :
    Pv P n D E L ⟨d, .call { callee := .builtin .len, args := #[x], argTypes := ats }, ty, pos, aft, g⟩ (.int .i64 l.length) := fun a w hs hh => by
  have hg : (getObj b).run P w = .ok (mapO enc l cl) w := by
    have := hh _ hb.mem
    simp only [mapO] at this
    simp only [getObj, Sem.run, mapO, this]
  rw [BigFrame.execOp_builtin]
  simp only [BigFrame.builtin_len, List.map_toArray, List.map_cons, List.map_nil, hs.ev hx, Builtin.len_, h0, List.getElem?_toArray, List.getElem?_cons_zero, Sem.run_bind, TyD.run, Result.andThen_ok, hg, mapO, Sem.run_pure]
  simp [entsL, goInt]
theorem pv_len_slice {d : Option Tmp} {e : TypeId} {ats : Array TypeId} {p : Option Addr} {m c : Nat} (hx : ev E x = some (.slice p m c)) (h0 : ats[0]? = some T) [hT : TyD P T (.slice e)] :
    Pv P n D E L ⟨d, .call { callee := .builtin .len, args := #[x], argTypes := ats }, ty, pos, aft, g⟩ (.int .i64 m) := fun a w hs hh => by
  rw [BigFrame.execOp_builtin]
  simp only [BigFrame.builtin_len, List.map_toArray, List.map_cons, List.map_nil, hs.ev hx, Builtin.len_, h0, List.getElem?_toArray, List.getElem?_cons_zero, Sem.run_bind, TyD.run, Result.andThen_ok, Sem.run_pure, goInt]
end mapops

/-! ### Structs of whole numbers -/
def encK : List IntKind → List Int → List Value
  | k :: ks, x :: xs => .int k x :: encK ks xs
  | _, _ => []

/-- Type T is a struct of such numbers, one a cell. -/
class NumTy (P : Program) (T : Nat) (ks : outParam (List IntKind)) : Prop where
  eq : ∀ d w (xs ys : List Int), xs.length = ks.length → ys.length = ks.length →
    (Op.equalIn (d + 2) T (.agg (encK ks xs).toArray) (.agg (encK ks ys).toArray)).run P w = .ok (decide (xs = ys)) w
  guard : P.eqGuardType P.depth T = false

theorem eqFields_nums {P : Program} (d : Nat) (w : World) (cx cy : List Value) : ∀ (fs : List Field) (ks : List IntKind) (off : Nat) (xs ys : List Int),
    fs.length = ks.length → xs.length = ks.length → ys.length = ks.length →
    (∀ i f k, fs[i]? = some f → ks[i]? = some k → f.name ≠ "_" ∧ f.offset = off + i ∧ P.underlying f.type = some (.int k)) →
    (∀ i v, (encK ks xs)[i]? = some v → cx[off + i]? = some v) → (∀ i v, (encK ks ys)[i]? = some v → cy[off + i]? = some v) →
    (Op.eqFields (d + 1) cx.toArray cy.toArray fs).run P w = .ok (decide (xs = ys)) w
  | [], [], off, [], [], _, _, _, _, _, _ => by simp [Op.eqFields]
  | f :: fs, k :: ks, off, x :: xs, y :: ys, hf, hx, hy, h, hcx, hcy => by
    obtain ⟨hn, ho, hu⟩ := h 0 f k rfl rfl
    have h1 : cx[f.offset]? = some (.int k x) := by rw [ho]; exact hcx 0 _ rfl
    have h2 : cy[f.offset]? = some (.int k y) := by rw [ho]; exact hcy 0 _ rfl
    have hag : (isAgg f.type).run P w = .ok false w := by simp [isAgg, underlying, hu]
    have ih := eqFields_nums d w cx cy fs ks (off + 1) xs ys (by simpa using hf) (by simpa using hx) (by simpa using hy)
      (fun i f' k' hi hk => by
        have := h (i + 1) f' k' (by simpa using hi) (by simpa using hk)
        exact ⟨this.1, by rw [this.2.1]; omega, this.2.2⟩)
      (fun i v hi => by have := hcx (i + 1) v (by simpa [encK] using hi); rw [← this]; congr 1; omega)
      (fun i v hi => by have := hcy (i + 1) v (by simpa [encK] using hi); rw [← this]; congr 1; omega)
    simp only [Op.eqFields, if_pos hn, Sem.run_bind, part, hag, Result.andThen_ok, Bool.false_eq_true, if_false, List.getElem?_toArray, h1, h2, Sem.run_pure, run_equalIn_int w d f.type k k x y hu]
    by_cases hxy : x = y
    · subst hxy
      simp [ih]
    · simp [hxy]
  | [], _ :: _, _, _, _, hf, _, _, _, _, _ => by simp at hf
  | _ :: _, [], _, _, _, hf, _, _, _, _, _ => by simp at hf
  | [], [], _, _ :: _, _, _, hx, _, _, _, _ => by simp at hx
  | [], [], _, [], _ :: _, _, _, hy, _, _, _ => by simp at hy
  | _ :: _, _ :: _, _, [], _, _, hx, _, _, _, _ => by simp at hx
  | _ :: _, _ :: _, _, _ :: _, [], _, _, hy, _, _, _ => by simp at hy

theorem NumTy.mk' {P : Program} {T : TypeId} {fs : Array Field} {ks : List IntKind} (hu : P.underlying T = some (.struct fs)) (hst : P.stoodInHeld T = false) (hg : P.eqGuardType P.depth T = false)
    (hl : fs.toList.length = ks.length) (h : ∀ i f k, fs.toList[i]? = some f → ks[i]? = some k → f.name ≠ "_" ∧ f.offset = 0 + i ∧ P.underlying f.type = some (.int k)) : NumTy P T ks where
  guard := hg
  eq d w xs ys hx hy := by
    have hfs : P.fieldsOf T = fs := by simp [Program.fieldsOf, hu]
    rw [run_equalIn_struct w (d + 1) T _ _ (by rw [hfs]; exact hu) hst, hfs]
    exact eqFields_nums d w _ _ fs.toList ks 0 xs ys hl hx hy h (fun i v hi => by simpa using hi) (fun i v hi => by simpa using hi)

section nums
variable {P : Program} {n : Nat} {D : List Deferred} {E : Env} {L : Hp} {d : Option Tmp} {ty : TypeId} {pos : String} {aft : Array Edge} {g : Option (Nat × Bool)} {T : TypeId} {x y z : Operand} {v u : Value}
theorem pv_eql_nums {ks : List IntKind} {yt : TypeId} (xs ys : List Int) [hT : NumTy P T ks] (hx : ev E x = some (.agg (encK ks xs).toArray)) (hy : ev E y = some (.agg (encK ks ys).toArray)) (h1 : xs.length = ks.length) (h2 : ys.length = ks.length) :
    Pv P n D E L ⟨d, .binOp .eql T x y yt, ty, pos, aft, g⟩ (.bool (decide (xs = ys))) := fun a w hs _ => by
  have := hT.eq 9998 w xs ys h1 h2
  simp only [execOp, hs.ev hx, hs.ev hy, Sem.run_bind, run_eqGuard_agg (P := P) w .eql T x y _ _ hT.guard, run_eql_struct, Result.andThen_ok, this, Sem.run_pure]
theorem pv_neq_nums {ks : List IntKind} {yt : TypeId} (xs ys : List Int) [hT : NumTy P T ks] (hx : ev E x = some (.agg (encK ks xs).toArray)) (hy : ev E y = some (.agg (encK ks ys).toArray)) (h1 : xs.length = ks.length) (h2 : ys.length = ks.length) :
    Pv P n D E L ⟨d, .binOp .neq T x y yt, ty, pos, aft, g⟩ (.bool (decide (xs ≠ ys))) := fun a w hs _ => by
  have := hT.eq 9998 w xs ys h1 h2
  simp only [execOp, hs.ev hx, hs.ev hy, Sem.run_bind, run_eqGuard_agg (P := P) w .neq T x y _ _ hT.guard, run_neq_struct, Result.andThen_ok, this, Sem.run_pure]
  simp

/-- A struct of two numbers as a key. -/
def encS (s : Int × Int) : Value := .agg #[.int .i64 s.1, .int .i64 s.2]

theorem findNow_agg (kind : TypeDesc) (s : Int × Int) (e : (Int × Int) × Value × Nat) (l : List ((Int × Int) × Value × Nat)) (i : Nat) : Instr.findNow kind (encS s) (entsL encS (e :: l)) i = none := by
  simp only [entsL, List.map_cons, Instr.findNow, encS]
  have : Instr.sameNow kind (.agg #[.int .i64 s.1, .int .i64 s.2]) (.agg #[.int .i64 e.1.1, .int .i64 e.1.2]) = none := by cases kind <;> rfl
  rw [this]

theorem findAsking_slots {P : Program} {K : TypeId} [hK : NumTy P K [.i64, .i64]] (s : Int × Int) (w : World) : ∀ (l : List ((Int × Int) × Value × Nat)) (i : Nat), (Instr.findAsking K (encS s) (entsL encS l) i).run P w = .ok (fidx s l i) w
  | [], i => rfl
  | e :: l, i => by
    have h := hK.eq 9998 w [s.1, s.2] [e.1.1, e.1.2] rfl rfl
    simp only [encK] at h
    have he : (Op.equal K (encS s) (encS e.1)).run P w = .ok (decide (s = e.1)) w := by
      have hd : decide ([s.1, s.2] = [e.1.1, e.1.2]) = decide (s = e.1) := by
        obtain ⟨a, b⟩ := s
        obtain ⟨⟨c, d⟩, r⟩ := e
        simp
      rw [← hd]; exact h
    simp only [entsL, List.map_cons, Instr.findAsking, Sem.run_bind, he, Result.andThen_ok, fidx]
    by_cases hs : s = e.1
    · simp [hs]
    · simp only [hs, decide_false, Bool.false_eq_true, if_false]
      exact findAsking_slots s w l (i + 1)

theorem part_cell {P : Program} {t : TypeId} {k : IntKind} [h : TyD P t (.int k)] {cs : Array Value} {off : Nat} {v : Value} (hc : cs[off]? = some v) (w : World) : (part t cs off).run P w = .ok v w := by
  simp [part, TyD.agg, aggD, hc]

/-- Type K is the struct of two ints. -/
class SlotTy (P : Program) (K : Nat) : Prop where
  num : NumTy P K [.i64, .i64]
  check : ∀ b s d w, (Instr.checkKey b (d + 2) K (encS s)).run P w = .ok () w

theorem sameBits_slots (d : Nat) (s : Int × Int) : Instr.sameBits (d + 2) (encS s) (encS s) = true := by
  simp [Instr.sameBits, encS]

instance KeyTy.slot {P : Program} {K : TypeId} {dsc : TypeDesc} [hd : TyD P K dsc] [h : SlotTy P K] : KeyTy P K encS where
  check b k w := h.check b k 9998 w
  find k l w := by
    have hn := h.num
    cases l with
    | nil => simp [Instr.findKey, TyD.run, entsL, Instr.findNow, fidx]
    | cons e l => simp only [Instr.findKey, Sem.run_bind, TyD.run, Result.andThen_ok, findNow_agg, findAsking_slots]
  stay k w := by
    have := sameBits_slots 9998 k
    unfold Instr.keyThatStays
    rw [if_pos this]
    rfl
end nums


/-! ### Appends written out; results that lie in memory -/
class App (A F : Hp) (R : outParam Hp) : Prop where
  eq : A ++ F = R
instance (priority := 1000) App.nil {F : Hp} : App [] F F := ⟨rfl⟩
instance (priority := 900) App.cons {x : Nat × Obj} {A F R : Hp} [h : App A F R] : App (x :: A) F (x :: R) := ⟨by rw [← h.eq]; rfl⟩
instance (priority := 800) App.app {S T F R : Hp} [h : App T F R] : App (S ++ T) F (S ++ R) := ⟨by rw [← h.eq, List.append_assoc]⟩
instance (priority := 100) App.seg {S F : Hp} : App S F (S ++ F) := ⟨rfl⟩

section app
variable {P : Program} {W : World} {ops : Array Oper} {Q : Exit → Act → World → Prop} {n : Nat} {D : List Deferred} {E : Env} {A F R : Hp} {rest : List Oper}
theorem Wp.app {c : Code} [h : App A F R] (hn : Wp P W Q n D c E R) : Wp P W Q n D c E (A ++ F) := by rw [h.eq]; exact hn
theorem Ops.app [h : App A F R] (hn : Ops P W ops Q n D rest E R) : Ops P W ops Q n D rest E (A ++ F) := by rw [h.eq]; exact hn
theorem Ends.app {e : Exit} [h : App A F R] (hn : Ends W Q n D e E R) : Ends W Q n D e E (A ++ F) := by rw [h.eq]; exact hn
theorem AnyH.app {S : Hp} {fuel : Nat} {listed : Array Bool} [h : App A F R] (hn : AnyH P W ops Q n D S fuel listed E R) : AnyH P W ops Q n D S fuel listed E (A ++ F) := by rw [h.eq]; exact hn
end app

def rvRun (tmps : Array Value) : ResultVar → Sem Value
  | .tmp t => pure (tmps.getD t undef)
  | .cell a t => do loadVar t (← asAddr (tmps.getD a undef))
theorem results_eq (fn : Func) (tmps : Array Value) : results fn tmps = (do
    let vs ← fn.results.mapM (rvRun tmps)
    pure (if h : vs.size = 1 then vs[0] else .tuple vs)) := by
  unfold results
  congr 1
def RVal (P : Program) (n : Nat) (D : List Deferred) (E : Env) (L : Hp) (r : ResultVar) (v : Value) : Prop :=
  ∀ a w, Sees n D E a → Held L w → (rvRun a.tmps r).run P w = .ok v w

section rval
variable {P : Program} {fn : Func} {n : Nat} {D : List Deferred} {E : Env} {L : Hp}
theorem rv_tmp {t : Nat} {v : Value} (hx : look t E = some v) : RVal P n D E L (.tmp t) v := fun a w hs _ => by
  simp only [rvRun, Array.getD_eq_getD_getElem?, hs.get t v hx, Option.getD_some, Sem.run_pure]
theorem rv_cell {x T b off : Nat} {v : Value} {dsc : TypeDesc} {c : List Value} {T' : TypeId} {f : Nat × Nat} (hx : look x E = some (.pointer (some ⟨b, off, none⟩))) [ht : TyD P T dsc] (hd : aggD dsc = false) [hb : Blk L b (.cells c.toArray T' f)] (hc : nth c off = some v) :
    RVal P n D E L (.cell x T) v := fun a w hs hh => by
  rw [nth_eq] at hc
  simp [rvRun, Array.getD_eq_getD_getElem?, hs.get x _ hx, asAddr, loadVar, TyD.agg, hd, hh.cell hb.mem, hc]
theorem rv_cellK {x T b off k : Nat} {dsc : TypeDesc} {c : List Value} {T' : TypeId} {f : Nat × Nat} (vs : List Value) (hx : look x E = some (.pointer (some ⟨b, off, none⟩))) [ht : TyD P T dsc] [hk : TyS P T k] (hd : aggD dsc = true) [hb : Blk L b (.cells c.toArray T' f)]
    (hl : vs.length = k) (hc : Reads c off vs) : RVal P n D E L (.cell x T) (.agg vs.toArray) := fun a w hs hh => by
  subst hl
  have h1 := run_loadCells_reads P (w := w) (b := b) (off := off) (vs := vs) fun j v hv => by rw [hh.cell hb.mem, List.getElem?_toArray]; exact hc.at_ j v hv
  simp [rvRun, Array.getD_eq_getD_getElem?, hs.get x _ hx, asAddr, loadVar, TyD.agg, TyS.run, hd, h1]

/-- Several results. -/
def RVals (P : Program) (n : Nat) (D : List Deferred) (E : Env) (L : Hp) : List ResultVar → List Value → Prop
  | [], vs => vs = []
  | r :: rs, vs => ∃ v us, vs = v :: us ∧ RVal P n D E L r v ∧ RVals P n D E L rs us

theorem run_rvals {a : Act} {w : World} (hs : Sees n D E a) (hh : Held L w) : ∀ (rs : List ResultVar) (vs : List Value), RVals P n D E L rs vs →
    (rs.mapM (rvRun a.tmps)).run P w = .ok vs w
  | [], vs, h => by
    obtain rfl := h
    rfl
  | r :: rs, vs, h => by
    obtain ⟨v, us, rfl, h1, h2⟩ := h
    have h3 := h1 a w hs hh
    have h4 := run_rvals hs hh rs us h2
    simp only [List.mapM_cons, Sem.run_bind, h3, h4, Result.andThen_ok, Sem.run_pure]

theorem res_list {rs : List ResultVar} {vs : List Value} (h : fn.results = rs.toArray) (hv : RVals P n D E L rs vs) (h2 : Nat.ble 2 vs.length = true) : Res P fn n D E L (.tuple vs.toArray) := fun a w hs hh => by
  have h3 := run_rvals hs hh rs vs hv
  have hne : ¬ vs.length = 1 := by have := Nat.le_of_ble_eq_true h2; omega
  rw [results_eq, h, Array.mapM_eq_mapM_toList]
  simp only [Sem.run_bind, Sem.run_map, h3, Result.andThen_ok, Sem.run_pure, List.size_toArray, hne, dite_false]
theorem res_one {r : ResultVar} {v : Value} (h : fn.results = #[r]) (hv : RVal P n D E L r v) : Res P fn n D E L v := fun a w hs hh => by
  have h3 := run_rvals hs hh [r] [v] ⟨v, [], rfl, hv, rfl⟩
  rw [results_eq, h, Array.mapM_eq_mapM_toList]
  simp only [Sem.run_bind, Sem.run_map, h3, Result.andThen_ok, Sem.run_pure, List.size_toArray, List.length_singleton, dite_true]
  rfl
end rval

theorem w64 {i : Int} (h1 : -9223372036854775808 ≤ i) (h2 : i ≤ 9223372036854775807) : IntKind.i64.wrap i = i := IntWalk.i64_in i ⟨h1, h2⟩
theorem u64 {i : Int} (h1 : 0 ≤ i) (h2 : i < 18446744073709551616) : IntKind.u64.wrap i = i := by
  simp [IntKind.wrap, IntKind.signed, IntKind.bits]; omega

theorem Ends.ret {P : Program} {W : World} {fn : Func} {R : Value → Hp → Prop} {F : Hp} {n : Nat} {E : Env} {L L' : Hp} {v : Value} {M : Hp}
    (hres : Res P fn n [] E L v) (hR : R v L') [ha : App L' F M] [hd : Drop L M] : Ends W (bodyPost P fn (TrPost R W F)) n [] .ret E L :=
  fun a w hs ho => ⟨hs.dfs, v, hres a w hs ho.held, v, L', rfl, hR, by rw [ha.eq]; exact hd.own ho⟩
theorem Ends.fin {P : Program} {W : World} {fn : Func} {R : Value → Hp → Prop} {F : Hp} {n : Nat} {E : Env} {L L' : Hp} {v : Value} {M : Hp}
    (hres : Res P fn n [] E L v) (hR : R v L') [ha : App L' F M] [hd : Drop L M] : Ends W (bodyPost P fn (TrPost R W F)) n [] .normal E L :=
  fun a w hs ho => ⟨hs.dfs, v, hres a w hs ho.held, v, L', rfl, hR, by rw [ha.eq]; exact hd.own ho⟩

section keyed
variable {P : Program} {W : World} {n : Nat} {D : List Deferred} {E : Env} {L : Hp} {ty : TypeId} {pos : String} {aft : Array Edge} {g : Option (Nat × Bool)} {T : TypeId} {x y z : Operand} {v u : Value} {K V : TypeId} {b cl : Nat} {zv : Value}
theorem pv_lookup_i {d : Option Tmp} {l : List (Int × Value × Nat)} (k : Int) (hx : ev E x = some (.map (some b))) (hy : ev E y = some (.int .i64 k)) [hT : TyD P T (.map K V)] [hk : KeyTy P K encI] [hz : TyZ P V zv]
    [hb : Blk L b (mapO encI l cl)] {r : Value} (hr : (mget k l).getD zv = r) : Pv P n D E L ⟨d, .lookup T x y false, ty, pos, aft, g⟩ r := pv_lookup (enc := encI) k hx hy hr
theorem pv_lookup_s {d : Option Tmp} {l : List ((Int × Int) × Value × Nat)} (k : Int × Int) (hx : ev E x = some (.map (some b))) (hy : ev E y = some (.agg #[.int .i64 k.1, .int .i64 k.2])) [hT : TyD P T (.map K V)] [hk : KeyTy P K encS] [hz : TyZ P V zv]
    [hb : Blk L b (mapO encS l cl)] {r : Value} (hr : (mget k l).getD zv = r) : Pv P n D E L ⟨d, .lookup T x y false, ty, pos, aft, g⟩ r := pv_lookup (enc := encS) k hx hy hr
theorem pv_lookup_ok_i {d : Option Tmp} {l : List (Int × Value × Nat)} (k : Int) (hx : ev E x = some (.map (some b))) (hy : ev E y = some (.int .i64 k)) [hT : TyD P T (.map K V)] [hk : KeyTy P K encI] [hz : TyZ P V zv]
    [hb : Blk L b (mapO encI l cl)] {r : Value} {q : Bool} (hr : (mget k l).getD zv = r) (hq : (mget k l).isSome = q) : Pv P n D E L ⟨d, .lookup T x y true, ty, pos, aft, g⟩ (.tuple #[r, .bool q]) := pv_lookup_ok (enc := encI) k hx hy hr hq
theorem pv_lookup_ok_s {d : Option Tmp} {l : List ((Int × Int) × Value × Nat)} (k : Int × Int) (hx : ev E x = some (.map (some b))) (hy : ev E y = some (.agg #[.int .i64 k.1, .int .i64 k.2])) [hT : TyD P T (.map K V)] [hk : KeyTy P K encS] [hz : TyZ P V zv]
    [hb : Blk L b (mapO encS l cl)] {r : Value} {q : Bool} (hr : (mget k l).getD zv = r) (hq : (mget k l).isSome = q) : Pv P n D E L ⟨d, .lookup T x y true, ty, pos, aft, g⟩ (.tuple #[r, .bool q]) := pv_lookup_ok (enc := encS) k hx hy hr hq
theorem ef_mapUpdate_i {l : List (Int × Value × Nat)} {L' : Hp} (k : Int) (hx : ev E x = some (.map (some b))) (hy : ev E y = some (.int .i64 k)) (hz : ev E z = some v) [hT : TyD P T (.map K V)] [hk : KeyTy P K encI]
    [hb : Blk L b (mapO encI l cl)] [hu : Upd L b (mapO encI (mput k v cl l) (mclk k l cl)) L'] : Ef P W n D ⟨none, .mapUpdate T x y z, ty, pos, aft, g⟩ E L (fun E1 L1 => E1 = E ∧ L1 = L') := ef_mapUpdate (enc := encI) k hx hy hz
theorem ef_mapUpdate_s {l : List ((Int × Int) × Value × Nat)} {L' : Hp} (k : Int × Int) (hx : ev E x = some (.map (some b))) (hy : ev E y = some (.agg #[.int .i64 k.1, .int .i64 k.2])) (hz : ev E z = some v) [hT : TyD P T (.map K V)] [hk : KeyTy P K encS]
    [hb : Blk L b (mapO encS l cl)] [hu : Upd L b (mapO encS (mput k v cl l) (mclk k l cl)) L'] : Ef P W n D ⟨none, .mapUpdate T x y z, ty, pos, aft, g⟩ E L (fun E1 L1 => E1 = E ∧ L1 = L') := ef_mapUpdate (enc := encS) k hx hy hz
theorem ef_deleten_i {ats : Array TypeId} {l : List (Int × Value × Nat)} {L' : Hp} (k : Int) (hx : ev E x = some (.map (some b))) (hy : ev E y = some (.int .i64 k)) (h0 : ats[0]? = some T) [hT : TyD P T (.map K V)] [hk : KeyTy P K encI]
    [hb : Blk L b (mapO encI l cl)] [hu : Upd L b (mapO encI (mdel k l) cl) L'] : Ef P W n D ⟨none, .call { callee := .builtin .delete, args := #[x, y], argTypes := ats }, ty, pos, aft, g⟩ E L (fun E1 L1 => E1 = E ∧ L1 = L') := ef_deleten (enc := encI) k hx hy h0
theorem ef_deleten_s {ats : Array TypeId} {l : List ((Int × Int) × Value × Nat)} {L' : Hp} (k : Int × Int) (hx : ev E x = some (.map (some b))) (hy : ev E y = some (.agg #[.int .i64 k.1, .int .i64 k.2])) (h0 : ats[0]? = some T) [hT : TyD P T (.map K V)] [hk : KeyTy P K encS]
    [hb : Blk L b (mapO encS l cl)] [hu : Upd L b (mapO encS (mdel k l) cl) L'] : Ef P W n D ⟨none, .call { callee := .builtin .delete, args := #[x, y], argTypes := ats }, ty, pos, aft, g⟩ E L (fun E1 L1 => E1 = E ∧ L1 = L') := ef_deleten (enc := encS) k hx hy h0
theorem ef_delete_i {d : Nat} {ats : Array TypeId} {l : List (Int × Value × Nat)} {L' : Hp} (k : Int) (hx : ev E x = some (.map (some b))) (hy : ev E y = some (.int .i64 k)) (h0 : ats[0]? = some T) (hd : Nat.blt d n = true) [hT : TyD P T (.map K V)] [hk : KeyTy P K encI]
    [hb : Blk L b (mapO encI l cl)] [hu : Upd L b (mapO encI (mdel k l) cl) L'] : Ef P W n D ⟨some d, .call { callee := .builtin .delete, args := #[x, y], argTypes := ats }, ty, pos, aft, g⟩ E L (fun E1 L1 => E1 = (d, .tuple #[]) :: E ∧ L1 = L') := ef_delete (enc := encI) k hx hy h0 hd
theorem ef_delete_s {d : Nat} {ats : Array TypeId} {l : List ((Int × Int) × Value × Nat)} {L' : Hp} (k : Int × Int) (hx : ev E x = some (.map (some b))) (hy : ev E y = some (.agg #[.int .i64 k.1, .int .i64 k.2])) (h0 : ats[0]? = some T) (hd : Nat.blt d n = true) [hT : TyD P T (.map K V)] [hk : KeyTy P K encS]
    [hb : Blk L b (mapO encS l cl)] [hu : Upd L b (mapO encS (mdel k l) cl) L'] : Ef P W n D ⟨some d, .call { callee := .builtin .delete, args := #[x, y], argTypes := ats }, ty, pos, aft, g⟩ E L (fun E1 L1 => E1 = (d, .tuple #[]) :: E ∧ L1 = L') := ef_delete (enc := encS) k hx hy h0 hd
end keyed


/-! ### Slices -/

/-- The slice value v has n elements of type T (sz cells each), that hold the cells cs; its block is H (nothing where it is nil). -/
def Slc (T : TypeId) (sz : Nat) (v : Value) (n : Nat) (cs : List Value) (H : Hp) : Prop :=
  cs.length = n * sz ∧ ((v = .slice none 0 0 ∧ n = 0 ∧ H = []) ∨
    ∃ b pre spare cap, v = .slice (some ⟨b, pre.length, none⟩) n cap ∧ n ≤ cap ∧ (cap - n) * sz ≤ spare.length ∧ H = [(b, .cells (pre ++ cs ++ spare : List Value).toArray T)])

theorem Slc.nil (T : TypeId) (sz : Nat) : Slc T sz (.slice none 0 0) 0 [] [] := ⟨by simp, .inl ⟨rfl, rfl, rfl⟩⟩

/-- Its form, empty or not. -/
theorem Slc.form {T : TypeId} {sz : Nat} {v : Value} {n : Nat} {cs : List Value} {H : Hp} (h : Slc T sz v n cs H) : ∃ a c, v = .slice a n c := by
  rcases h.2 with ⟨rfl, rfl, _⟩ | ⟨b, pre, spare, cap, rfl, _⟩
  · exact ⟨none, 0, rfl⟩
  · exact ⟨_, cap, rfl⟩

theorem zeroCells_len (z : Array Value) (n : Nat) : (Builtin.zeroCells z n).toList.length = n * z.size := by simp [Builtin.zeroCells]

section slices
variable {P : Program} {W : World} {n : Nat} {D : List Deferred} {E : Env} {L : Hp} {ty : TypeId} {pos : String} {aft : Array Edge} {g : Option (Nat × Bool)} {T : TypeId} {x y z : Operand} {v u : Value}

theorem Reads.list {c : List Value} {off : Nat} {vs : List Value} (h : Reads c off vs) : ∀ j v, vs[j]? = some v → c[off + j]? = some v := h.at_

theorem run_append_room' {P : Program} (w : World) (t ty e : TypeId) (sz : Nat) [ht : TyD P t (.slice e)] [hk : TyS P e sz]
    (b sLen sCap off : Nat) (cur : List Value) (hg : w.heap[b]? = some (.cells cur.toArray e))
    (a : Addr) (m c : Nat) (news : List Value) (hl : news.length = m * sz) (hnews : ∀ j u, news[j]? = some u → w.cell? (a.add j) = some u) (h1 : ∀ u ∈ news, u.oneCell' = true)
    (hroom : sLen + m ≤ sCap) (hfit : off + sLen * sz + news.length ≤ cur.length) :
    (Builtin.append_ #[t, t] ty #[.slice (some ⟨b, off, none⟩) sLen sCap, .slice (some a) m c]).run P w =
      .ok (.slice (some ⟨b, off, none⟩) (sLen + m) sCap) (storeW w b (cur.take (off + sLen * sz) ++ news ++ cur.drop (off + sLen * sz + news.length)) e) := by
  have hf := run_firstCells_some (P := P) w sz m a m c news hl hnews
  have hst := run_storeCells P b (off + sLen * sz) e news 0 cur w hg (by simpa using hfit) h1
  simp only [Nat.add_zero] at hst
  simp [Builtin.append_, TyD.run, TyS.run, Builtin.lenOf, hroom, hf, addr_add, hst]

theorem ef_append {d : Nat} {t e sz bytes : Nat} {zv : Value} {m k : Nat} {cs xs : List Value} {H R : Hp} {bx ox mc : Nat} {c : List Value} {Tx : TypeId} {f : Nat × Nat} (hx : ev E x = some v) (hs' : Slc e sz v m cs H) (hy : ev E y = some (.slice (some ⟨bx, ox, none⟩) k mc)) (hr : Reads c ox xs) (hl : xs.length = k * sz)
    (h1 : xs.all Value.oneCell' = true) (hk0 : Nat.ble 1 k = true) (hbd : (m + k) * bytes ≤ 140737488355328) (hmk : m + k ≤ 9223372036854775807) (hd : Nat.blt d n = true)
    [ht : TyD P t (.slice e)] [hsz : TyS P e sz] [hby : TyB P e bytes] [hz : TyZ P e zv] (hzs : zv.cells.size = sz) [hp : Part L H R] [hb : Blk L bx (.cells c.toArray Tx f)] :
    Ef P W n D ⟨some d, .call { callee := .builtin .append, args := #[x, y], argTypes := #[t, t] }, ty, pos, aft, g⟩ E L
      (fun E' L' => ∃ v' H', Slc e sz v' (m + k) (cs ++ xs) H' ∧ E' = (d, v') :: E ∧ L' = H' ++ R) := fun Q a w next hs ho hn => by
  have hk1 : 1 ≤ k := Nat.le_of_ble_eq_true hk0
  have hcell : ∀ j u, xs[j]? = some u → w.cell? ((⟨bx, ox, none⟩ : Addr).add j) = some u := fun j u hu => by
    rw [addr_add, ho.held.cell hb.mem, List.getElem?_toArray]; exact hr.at_ j u hu
  have h1' : ∀ u ∈ xs, u.oneCell' = true := by simpa using h1
  obtain ⟨i, hi, hzi⟩ := Option.bind_eq_some_iff.1 hz.eq
  have hisz : i.size = sz := by have := hsz.eq; rw [hi] at this; simpa using this
  have hiby : i.bytes = bytes := by have := hby.eq; rw [hi] at this; simpa using this
  have ho' := ho.part hp
  have hlen : (cs ++ xs).length = (m + k) * sz := by rw [List.length_append, hs'.1, hl, Nat.add_mul]
  unfold Oper.wp
  rw [BigFrame.execOp_builtin]
  simp only [BigFrame.builtin_append, List.map_toArray, List.map_cons, List.map_nil, hs.ev hx, hs.ev hy, Sem.run_bind]
  rcases hs'.2 with ⟨rfl, rfl, rfl⟩ | ⟨b, pre, spare, cap, rfl, hmc, hsp, rfl⟩
  · have hcs : cs = [] := List.eq_nil_of_length_eq_zero (by have := hs'.1; omega)
    subst hcs
    have hr' := run_append_nil (P := P) w t ty e i zv ht.eq hi hzi ⟨bx, ox, none⟩ k mc xs (by rw [hisz]; exact hl) hcell (by omega) (by omega) (by rw [hiby]; simp only [Nat.zero_add] at hbd; omega)
    rw [hr']
    simp only [Result.andThen_ok, Sem.run_pure]
    refine hn _ _ _ _ ⟨_, [(w.heap.size, .cells (([] : List Value) ++ xs ++ (Builtin.zeroCells zv.cells (grownCap w k 0 e - k)).toList).toArray e)], ⟨by simpa using hlen, .inr ⟨w.heap.size, [], _, grownCap w k 0 e, by simp, by simpa using grownCap_ge w k 0 e, ?_, rfl⟩⟩, rfl, rfl⟩ (hs.put hd) ?_
    · rw [zeroCells_len, hzs]; simp
    · have := (ho'.drew).alloc (.cells (([] : List Value) ++ xs ++ (Builtin.zeroCells zv.cells (grownCap w k 0 e - k)).toList).toArray e)
      have e1 : (([] : List Value) ++ xs ++ (Builtin.zeroCells zv.cells (grownCap w k 0 e - k)).toList).toArray = xs.toArray ++ Builtin.zeroCells zv.cells (grownCap w k 0 e - k) := by apply Array.ext'; simp
      rw [e1] at this ⊢
      exact this
  · have hbl := ho'.get (b, .cells (pre ++ cs ++ spare : List Value).toArray e) (by simp)
    by_cases hroom : m + k ≤ cap
    · have hfit : pre.length + m * sz + xs.length ≤ (pre ++ cs ++ spare).length := by
        have e1 : k * sz ≤ (cap - m) * sz := Nat.mul_le_mul_right _ (by omega)
        simp only [List.length_append, hs'.1, hl]
        omega
      have hr' := run_append_room' (P := P) w t ty e sz b m cap pre.length (pre ++ cs ++ spare) hbl ⟨bx, ox, none⟩ k mc xs hl hcell h1' hroom hfit
      rw [hr']
      simp only [Result.andThen_ok, Sem.run_pure]
      have hnew : (pre ++ cs ++ spare).take (pre.length + m * sz) ++ xs ++ (pre ++ cs ++ spare).drop (pre.length + m * sz + xs.length) = pre ++ (cs ++ xs) ++ spare.drop xs.length := by
        have e1 : pre.length + m * sz = (pre ++ cs).length := by simp [hs'.1]
        rw [e1, List.take_left' rfl, List.drop_append, List.drop_eq_nil_of_le (by omega), show (pre ++ cs).length + xs.length - (pre ++ cs).length = xs.length by omega]
        simp
      rw [hnew]
      refine hn _ _ _ _ ⟨_, [(b, .cells (pre ++ (cs ++ xs) ++ spare.drop xs.length : List Value).toArray e)], ⟨hlen, .inr ⟨b, pre, spare.drop xs.length, cap, rfl, hroom, ?_, rfl⟩⟩, rfl, rfl⟩ (hs.put hd) ?_
      · rw [List.length_drop, hl, show cap - (m + k) = (cap - m) - k by omega, Nat.sub_mul]; omega
      · have hlt := ho'.lt (b := b) (o := .cells (pre ++ cs ++ spare : List Value).toArray e) (by simp)
        exact ho'.upd (Upd.here) rfl rfl rfl (by simp [storeW, hlt]) fun j hj => by simp [storeW, Array.getElem?_setIfInBounds_ne (Ne.symm hj)]
    · have holds : ∀ j u, cs[j]? = some u → w.cell? ((⟨b, pre.length, none⟩ : Addr).add j) = some u := fun j u hu => by
        have hjl : j < cs.length := by
          rcases Nat.lt_or_ge j cs.length with h | h
          · exact h
          · rw [List.getElem?_eq_none h] at hu; cases hu
        rw [addr_add]
        simp only [World.cell?, hbl, Option.isSome_none, Bool.false_eq_true, if_false, List.getElem?_toArray]
        rw [List.append_assoc, List.getElem?_append_right (by omega), List.getElem?_append_left (by omega)]
        rw [show pre.length + j - pre.length = j by omega]; exact hu
      have hr' := run_append_grow (P := P) w t ty e i zv ht.eq hi hzi ⟨b, pre.length, none⟩ m cap cs (by rw [hisz]; exact hs'.1) holds ⟨bx, ox, none⟩ k mc xs (by rw [hisz]; exact hl) hcell (by omega) (by omega) (growslice_fits (by omega) (by rw [hiby]; exact hbd))
      rw [hr']
      simp only [Result.andThen_ok, Sem.run_pure]
      refine hn _ _ _ _ ⟨_, [(w.heap.size, .cells (([] : List Value) ++ (cs ++ xs) ++ (Builtin.zeroCells zv.cells (grownCap w (m + k) cap e - (m + k))).toList).toArray e)], ⟨hlen, .inr ⟨w.heap.size, [], _, grownCap w (m + k) cap e, rfl, grownCap_ge w (m + k) cap e, ?_, rfl⟩⟩, rfl, rfl⟩ (hs.put hd) ?_
      · rw [zeroCells_len, hzs]; exact Nat.le_refl _
      · have := (((ho'.app_right).drew).alloc (.cells (([] : List Value) ++ (cs ++ xs) ++ (Builtin.zeroCells zv.cells (grownCap w (m + k) cap e - (m + k))).toList).toArray e))
        have e1 : (([] : List Value) ++ (cs ++ xs) ++ (Builtin.zeroCells zv.cells (grownCap w (m + k) cap e - (m + k))).toList).toArray = cs.toArray ++ xs.toArray ++ Builtin.zeroCells zv.cells (grownCap w (m + k) cap e - (m + k)) := by apply Array.ext'; simp
        rw [e1] at this ⊢
        exact this
end slices


/-! ### Structs that are built -/
class Cells (v : Value) (cs : outParam (List Value)) : Prop where
  eq : v.cells = cs.toArray
instance Cells.agg {l : List Value} : Cells (.agg l.toArray) l := ⟨rfl⟩
instance Cells.int {k : IntKind} {i : Int} : Cells (.int k i) [.int k i] := ⟨rfl⟩
instance Cells.bool {b : Bool} : Cells (.bool b) [.bool b] := ⟨rfl⟩
instance Cells.string {b : ByteArray} : Cells (.string b) [.string b] := ⟨rfl⟩
instance Cells.pointer {p : Option Addr} : Cells (.pointer p) [.pointer p] := ⟨rfl⟩
instance Cells.slice {p : Option Addr} {m c : Nat} : Cells (.slice p m c) [.slice p m c] := ⟨rfl⟩
instance Cells.map {p : Option Nat} : Cells (.map p) [.map p] := ⟨rfl⟩
instance Cells.func {f : Fn} {a b : Array Value} : Cells (.func f a b) [.func f a b] := ⟨rfl⟩
instance Cells.nilFunc : Cells .nilFunc [.nilFunc] := ⟨rfl⟩
instance Cells.iface {t : TypeId} {v : Value} : Cells (.iface t v) [.iface t v] := ⟨rfl⟩
instance Cells.nilIface : Cells .nilIface [.nilIface] := ⟨rfl⟩

/-- Where the fields of struct type S lie. -/
class TyPl (P : Program) (S : Nat) (pl : outParam (List (Nat × Nat))) : Prop where
  eq : ∃ fs, P.underlying S = some (.struct fs) ∧ ∀ w : World, (fs.mapM fun f => do pure (f.offset, ← sizeOf f.type) : Sem (Array (Nat × Nat))).run P w = .ok pl.toArray w

class LenIs (l : List Value) (n : Nat) : Prop where
  eq : l.length = n
instance LenIs.nil : LenIs [] 0 := ⟨rfl⟩
instance LenIs.cons {x : Value} {l : List Value} {n : Nat} [h : LenIs l n] : LenIs (x :: l) (n + 1) := ⟨by simp [h.eq]⟩

class Nth (pl : List (Nat × Nat)) (i : Nat) (a b : outParam Nat) : Prop where
  eq : pl[i]? = some (a, b)
instance Nth.zero {a b : Nat} {l : List (Nat × Nat)} : Nth ((a, b) :: l) 0 a b := ⟨rfl⟩
instance Nth.succ {x : Nat × Nat} {l : List (Nat × Nat)} {i a b : Nat} [h : Nth l i a b] : Nth (x :: l) (i + 1) a b := ⟨h.eq⟩

/-- The cells zs, with these parts laid in. -/
class Fills (pl : List (Nat × Nat)) (zs : List Value) (parts : List (Nat × Value)) (cs : outParam (List Value)) : Prop where
  eq : Instr.fill (fun i => pl[i]?) zs.toArray parts = some cs.toArray
instance Fills.nil {pl : List (Nat × Nat)} {zs : List Value} : Fills pl zs [] zs := ⟨rfl⟩

theorem foldl_set (off : Nat) : ∀ (vs : List Value) (j : Nat) (c : Array Value), off + j + vs.length ≤ c.size →
    (vs.zipIdx j).foldl (fun cs (x : Value × Nat) => cs.setIfInBounds (off + x.2) x.1) c = (c.toList.take (off + j) ++ vs ++ c.toList.drop (off + j + vs.length)).toArray
  | [], j, c, h => by simp
  | v :: vs, j, c, h => by
    simp only [List.length_cons] at h
    simp only [List.zipIdx_cons, List.foldl_cons]
    rw [foldl_set off vs (j + 1) (c.setIfInBounds (off + j) v) (by simp; omega)]
    have hlt : off + j < c.toList.length := by simp; omega
    have e1 : (c.setIfInBounds (off + j) v).toList = c.toList.set (off + j) v := by simp
    rw [e1]
    have e2 : (c.toList.set (off + j) v).take (off + (j + 1)) = c.toList.take (off + j) ++ [v] := by
      rw [List.take_set, show off + (j + 1) = off + j + 1 by omega, List.take_succ_eq_append_getElem hlt, List.set_append_right _ _ (by simp; omega)]
      simp [Nat.min_eq_left (Nat.le_of_lt (show off + j < c.size by simpa using hlt))]
    have e3 : (c.toList.set (off + j) v).drop (off + (j + 1) + vs.length) = c.toList.drop (off + j + (vs.length + 1)) := by
      rw [List.drop_set_of_lt (by omega), show off + (j + 1) + vs.length = off + j + (vs.length + 1) by omega]
    rw [e2, e3]
    simp

instance Fills.cons {pl : List (Nat × Nat)} {zs zs' vs cs : List Value} {i off sz : Nat} {v : Value} {parts : List (Nat × Value)} [h1 : Nth pl i off sz] [h2 : Cells v vs] [h3 : SetL zs off vs zs'] [h4 : Fills pl zs' parts cs] [hl : LenIs vs sz] : Fills pl zs ((i, v) :: parts) cs where
  eq := by
    have hle := h3.le
    simp only [Instr.fill, h1.eq, h2.eq, List.size_toArray, hl.eq]
    rw [if_neg (by simp; have := hl.eq; omega)]
    have hf := foldl_set off vs 0 zs.toArray (by simpa using hle)
    have e : (Array.zipIdx vs.toArray 0) = (vs.zipIdx 0).toArray := by simp
    rw [e]
    simp only [List.size_toArray, List.foldl_toArray', Nat.add_zero] at hf ⊢
    rw [hf, h3.eq]
    exact h4.eq


def evps (E : Env) : List (Nat × Operand) → Option (List (Nat × Value))
  | [] => some []
  | (i, x) :: xs => match ev E x with
    | none => none
    | some v => match evps E xs with
      | none => none
      | some vs => some ((i, v) :: vs)

theorem Sees.evps {n : Nat} {D : List Deferred} {E : Env} {a : Act} (h : Sees n D E a) : ∀ {xs : List (Nat × Operand)} {vs : List (Nat × Value)}, SL.evps E xs = some vs → xs.map (fun (i, x) => (i, a.eval x)) = vs
  | [], vs, hx => by simpa [SL.evps] using hx
  | (i, x) :: xs, vs, hx => by
    simp only [SL.evps] at hx
    split at hx
    · cases hx
    · rename_i v hv
      split at hx
      · cases hx
      · rename_i us hus
        cases hx
        simp [h.ev hv, h.evps hus]

section build
variable {P : Program} {W : World} {n : Nat} {D : List Deferred} {E : Env} {L : Hp} {ty : TypeId} {pos : String} {aft : Array Edge} {g : Option (Nat × Bool)} {T : TypeId} {x y z : Operand} {v u : Value}

theorem pv_build {d : Option Tmp} {zs cs : List Value} {pl : List (Nat × Nat)} {parts : List (Nat × Operand)} {vs : List (Nat × Value)} (hp : evps E parts = some vs) [hz : TyZ P T (.agg zs.toArray)] [hpl : TyPl P T pl] [hf : Fills pl zs vs cs] :
    Pv P n D E L ⟨d, .build T parts.toArray, ty, pos, aft, g⟩ (.agg cs.toArray) := fun a w hs _ => by
  obtain ⟨fs, hu, hrun⟩ := hpl.eq
  have ht : TyD P T (.struct fs) := ⟨hu⟩
  have hm : (parts.toArray.map fun (i, x) => (i, a.eval x)) = vs.toArray := by rw [List.map_toArray, hs.evps hp]
  have hfe := hf.eq
  simp only [execOp, Instr.build, Sem.run_bind, TyZ.run, Result.andThen_ok, TyD.run, hrun, Value.cells]
  rw [show (Array.map (fun (x : Nat × Operand) => (x.1, a.eval x.2)) parts.toArray) = vs.toArray from hm]
  have hpe : (fun (i : Nat) => pl.toArray[i]?) = (fun (i : Nat) => pl[i]?) := by funext i; simp
  simp only [hpe, hfe, Sem.run_pure, Result.andThen_ok]

theorem pv_build_arr0 {d : Option Tmp} {z0 : Value} {m e : Nat} [hz : TyZ P T z0] {cs : Array Value} (hc : z0 = .agg cs) [ht : TyD P T (.array m e)] {k : Nat} [hk : TyS P e k] :
    Pv P n D E L ⟨d, .build T #[], ty, pos, aft, g⟩ z0 := fun a w hs _ => by
  subst hc
  simp [execOp, Instr.build, TyZ.run, TyD.run, TyS.run, Instr.fill, Value.cells]

theorem ef_buildSlice0 {d : Nat} {e k : Nat} [ht : TyD P T (.slice e)] [hk : TyS P e k] (hd : Nat.blt d n = true) :
    Ef P W n D ⟨some d, .buildSlice T 0 #[], ty, pos, aft, g⟩ E L (fun E' L' => ∃ b, E' = (d, .slice (some ⟨b, 0, none⟩) 0 0) :: E ∧ L' = (b, .cells ([] : List Value).toArray e) :: L) := fun Q a w next hs ho hn => by
  unfold Oper.wp
  have : (execOp a.eval ⟨some d, .buildSlice T 0 #[], ty, pos, aft, g⟩).run P w = .ok (.value (.slice (some ⟨w.heap.size, 0, none⟩) 0 0)) (w.alloc (.cells ([] : List Value).toArray e)) := by
    simp [execOp, Instr.buildSlice, TyD.run, TyS.run, Instr.fill, newRow]
    congr 2
    apply Array.ext'
    simp
  rw [this]
  exact hn _ _ _ _ ⟨_, rfl, rfl⟩ (hs.put hd) (ho.alloc _)

theorem fill_one (sz : Nat) (zs : Array Value) (v : Value) (vs : List Value) (hv : v.cells = vs.toArray) (hl : vs.length = sz) (hz : zs.size = sz) : Instr.fill (fun i => some (i * sz, sz)) zs [(0, v)] = some vs.toArray := by
  subst hl
  have hf := foldl_set 0 vs 0 zs (by omega)
  have e : (Array.zipIdx vs.toArray 0) = (vs.zipIdx 0).toArray := by simp
  simp only [Instr.fill, hv, Nat.zero_mul, List.size_toArray, e]
  rw [if_neg (by simp; omega)]
  simp only [List.size_toArray, List.foldl_toArray', Nat.add_zero, Nat.zero_add] at hf ⊢
  rw [hf]
  simp [hz]

theorem ef_buildSlice1 {d : Nat} {e k : Nat} {vs : List Value} {zv : Value} [ht : TyD P T (.slice e)] [hk : TyS P e k] [hz : TyZ P e zv] (hzs : zv.cells.size = k) (hx : ev E x = some v) (hk0 : Nat.ble 1 k = true) (hk1 : Nat.ble k 1000 = true) (hd : Nat.blt d n = true) [hc : Cells v vs] [hl : LenIs vs k] :
    Ef P W n D ⟨some d, .buildSlice T 1 #[(0, x)], ty, pos, aft, g⟩ E L (fun E' L' => ∃ b, E' = (d, .slice (some ⟨b, 0, none⟩) 1 1) :: E ∧ L' = (b, .cells vs.toArray e) :: L) := fun Q a w next hs ho hn => by
  unfold Oper.wp
  have h1 : 1 ≤ k := Nat.le_of_ble_eq_true hk0
  have h2 : k ≤ 1000 := Nat.le_of_ble_eq_true hk1
  have : (execOp a.eval ⟨some d, .buildSlice T 1 #[(0, x)], ty, pos, aft, g⟩).run P w = .ok (.value (.slice (some ⟨w.heap.size, 0, none⟩) 1 1)) (w.alloc (.cells vs.toArray e)) := by
    have hfo := fill_one k ((Array.range (1 * k)).map (fun i => zv.cells[i % zv.cells.size]!)) v vs hc.eq hl.eq (by simp)
    have hb : ¬ (1 * k > 2 ^ 24) := by omega
    have hb0 : ¬ (1 * k = 0) := by omega
    simp only [execOp, Instr.buildSlice, Sem.run_bind, TyD.run, TyS.run, Result.andThen_ok, Sem.run_ite, if_neg hb, if_neg hb0, TyZ.run, Sem.run_pure, List.map_toArray, List.map_cons, List.map_nil, hs.ev hx, hfo, newRow, run_newObj]
    rfl
  rw [this]
  exact hn _ _ _ _ ⟨_, rfl, rfl⟩ (hs.put hd) (ho.alloc _)
end build

section idx
variable {P : Program} {W : World} {n : Nat} {D : List Deferred} {E : Env} {L : Hp} {d : Option Tmp} {ty : TypeId} {pos : String} {aft : Array Edge} {g : Option (Nat × Bool)} {T : TypeId} {x y z : Operand} {v u : Value}

/-- The address of a slice's element; 'i' is the place, a natural number. -/
theorem pv_indexAddr {e k b o m c : Nat} {kk : IntKind} {j : Int} {i : Nat} (hx : ev E x = some (.slice (some ⟨b, o, none⟩) m c)) (hy : ev E y = some (.int kk j)) [ht : TyD P T (.slice e)] [hk : TyS P e k] (hj : j = i) (hi : i < m) :
    Pv P n D E L ⟨d, .indexAddr T x y, ty, pos, aft, g⟩ (.pointer (some ⟨b, o + i * k, none⟩)) := fun a w hs _ => by
  subst hj
  have h1 : (0 : Int) ≤ (i : Int) ∧ (i : Int) < (m : Int) := by omega
  simp [execOp, hs.ev hx, hs.ev hy, Instr.indexAt, asIntOf, TyD.run, TyS.run, h1, addr_add, hi]
/-- The address of an array's element. -/
theorem pv_indexAddrA {e k b o m : Nat} {kk : IntKind} {j : Int} {i : Nat} (hx : ev E x = some (.pointer (some ⟨b, o, none⟩))) (hy : ev E y = some (.int kk j)) [ht : TyD P T (.array m e)] [hk : TyS P e k] (hj : j = i) (hi : i < m) :
    Pv P n D E L ⟨d, .indexAddr T x y, ty, pos, aft, g⟩ (.pointer (some ⟨b, o + i * k, none⟩)) := fun a w hs _ => by
  subst hj
  have h1 : (0 : Int) ≤ (i : Int) ∧ (i : Int) < (m : Int) := by omega
  simp [execOp, hs.ev hx, hs.ev hy, Instr.indexAt, asIntOf, TyD.run, TyS.run, h1, addr_add, hi, Instr.sureAddr]
/-- An element of an array value. -/
theorem pv_indexK {e k m : Nat} {kk : IntKind} {j : Int} {i : Nat} {cs : List Value} (vs : List Value) {dsc : TypeDesc} (hx : ev E x = some (.agg cs.toArray)) (hy : ev E y = some (.int kk j)) [ht : TyD P T (.array m e)] [he : TyD P e dsc] [hk : TyS P e k] (hd : aggD dsc = true) (hj : j = i) (hi : i < m)
    (hl : vs.length = k) (hc : Reads cs (i * k) vs) : Pv P n D E L ⟨d, .index T x y, ty, pos, aft, g⟩ (.agg vs.toArray) := fun a w hs _ => by
  subst hj
  have h1 : (0 : Int) ≤ (i : Int) ∧ (i : Int) < (m : Int) := by omega
  have hc' := hc.extract hl
  simp only [List.extract_toArray, List.extract_eq_take_drop, Nat.add_sub_cancel_left] at hc'
  have hc' := List.toArray_inj hc'
  simp [execOp, hs.ev hx, hs.ev hy, Instr.index, asIntOf, TyD.run, TyS.run, h1, hi, part, TyD.agg, hd, hc']
theorem pv_index1 {e k m : Nat} {kk : IntKind} {j : Int} {i : Nat} {cs : List Value} {dsc : TypeDesc} (hx : ev E x = some (.agg cs.toArray)) (hy : ev E y = some (.int kk j)) [ht : TyD P T (.array m e)] [he : TyD P e dsc] [hk : TyS P e k] (hd : aggD dsc = false) (hj : j = i) (hi : i < m)
    (hc : nth cs (i * k) = some v) : Pv P n D E L ⟨d, .index T x y, ty, pos, aft, g⟩ v := fun a w hs _ => by
  subst hj
  have h1 : (0 : Int) ≤ (i : Int) ∧ (i : Int) < (m : Int) := by omega
  rw [nth_eq] at hc
  simp [execOp, hs.ev hx, hs.ev hy, Instr.index, asIntOf, TyD.run, TyS.run, h1, hi, part, TyD.agg, hd, hc]
end idx


/-! ### Calls that leave the blocks as they are -/
def TrR (P : Program) (f : FuncId) (args : List Value) (L : Hp) (r : Value) : Prop := Tr P f args L (fun v L' => v = r ∧ L' = L)

class Has (L Lp : Hp) : Prop where
  ex : ∃ F, L.Perm (Lp ++ F)
instance (priority := 2000) Has.nil {L : Hp} : Has L [] := ⟨L, List.Perm.refl _⟩
instance (priority := 1000) Has.part {L Lp F : Hp} [h : Part L Lp F] : Has L Lp := ⟨F, h.perm⟩
instance (priority := 500) Has.one {L : Hp} {b : Nat} {o : Obj} [h : Blk L b o] : Has L [(b, o)] := ⟨by
  obtain ⟨A, B, e⟩ := List.append_of_mem h.mem
  exact ⟨A ++ B, by rw [e]; exact List.perm_middle⟩⟩
instance (priority := 1500) Has.refl {L : Hp} : Has L L := ⟨[], by simp⟩

section callr
variable {P : Program} {W : World} {n : Nat} {D : List Deferred} {E : Env} {L : Hp} {ty : TypeId} {pos : String} {aft : Array Edge} {g : Option (Nat × Bool)}
theorem ef_callr {d : Nat} {f : FuncId} {xs : List Operand} {ats : Array TypeId} {args : List Value} {Lp : Hp} {r : Value} (ht : TrR P f args Lp r) [hf : GoFn P f] (hx : evs E xs = some args) (hd : Nat.blt d n = true) [hp : Has L Lp] :
    Ef P W n D ⟨some d, .call { callee := .value (.func f), args := xs.toArray, argTypes := ats }, ty, pos, aft, g⟩ E L (fun E' L' => E' = (d, r) :: E ∧ L' = L) := fun Q a w next hs ho hn => by
  obtain ⟨F, hF⟩ := hp.ex
  unfold Oper.wp
  rw [execOp_call_go]
  have e : (#[] ++ xs.toArray.map a.eval ++ #[] : Array Value) = args.toArray := by simp [hs.evs hx]
  rw [e, run_callFunc]
  refine (ht W w F (ho.perm hF)).mono ?_
  rintro e' w' ⟨v, L1, rfl, ⟨rfl, rfl⟩, ho'⟩
  exact hn _ _ _ _ ⟨rfl, rfl⟩ (hs.put hd) (ho'.perm hF.symm)
theorem ef_callrn {f : FuncId} {xs : List Operand} {ats : Array TypeId} {args : List Value} {Lp : Hp} {r : Value} (ht : TrR P f args Lp r) [hf : GoFn P f] (hx : evs E xs = some args) [hp : Has L Lp] :
    Ef P W n D ⟨none, .call { callee := .value (.func f), args := xs.toArray, argTypes := ats }, ty, pos, aft, g⟩ E L (fun E' L' => E' = E ∧ L' = L) := fun Q a w next hs ho hn => by
  obtain ⟨F, hF⟩ := hp.ex
  unfold Oper.wp
  rw [execOp_call_go]
  have e : (#[] ++ xs.toArray.map a.eval ++ #[] : Array Value) = args.toArray := by simp [hs.evs hx]
  rw [e, run_callFunc]
  refine (ht W w F (ho.perm hF)).mono ?_
  rintro e' w' ⟨v, L1, rfl, ⟨rfl, rfl⟩, ho'⟩
  exact hn _ _ _ _ ⟨rfl, rfl⟩ hs (ho'.perm hF.symm)
theorem TrR.eq {f : FuncId} {args : List Value} {Lp : Hp} {r r' : Value} (h : TrR P f args Lp r) (e : r = r') : TrR P f args Lp r' := e ▸ h
theorem Tr.frame {f : FuncId} {args : List Value} {Lp G M : Hp} {R : Value → Hp → Prop} (h : Tr P f args Lp R) (hp : M.Perm (Lp ++ G)) : Tr P f args M (fun v L' => ∃ L1, R v L1 ∧ L' = L1 ++ G) := fun W w F ho => by
  have ho2 : Own W w (Lp ++ (G ++ F)) := ho.perm (by rw [← List.append_assoc]; exact hp.append_right F)
  refine (h W w (G ++ F) ho2).mono ?_
  rintro e' w' ⟨v, L1, he, hR, ho'⟩
  exact ⟨v, L1 ++ G, he, ⟨L1, hR, rfl⟩, by rw [List.append_assoc]; exact ho'⟩
theorem TrR.frame {f : FuncId} {args : List Value} {Lp M : Hp} {r : Value} (h : TrR P f args Lp r) [hp : Has M Lp] : TrR P f args M r := fun W w F ho => by
  obtain ⟨G, hG⟩ := hp.ex
  have ho2 : Own W w (Lp ++ (G ++ F)) := ho.perm (by rw [← List.append_assoc]; exact hG.append_right F)
  refine (h W w (G ++ F) ho2).mono ?_
  rintro e' w' ⟨v, L1, he, ⟨rfl, rfl⟩, ho'⟩
  exact ⟨v, M, he, ⟨rfl, rfl⟩, ho'.perm (by rw [← List.append_assoc]; exact hG.symm.append_right F)⟩
end callr
instance (priority := 880) Take.left {b : Nat} {o : Obj} {S L R : Hp} [h : Take S b o R] : Take (S ++ L) b o (R ++ L) := ⟨h.perm.append_right L⟩

/-! ### Function values -/
section closures
variable {P : Program} {W : World} {n : Nat} {D : List Deferred} {E : Env} {L : Hp} {ty : TypeId} {pos : String} {aft : Array Edge} {g : Option (Nat × Bool)} {x : Operand}
theorem pv_makeFunc {d : Option Tmp} {fn : Fn} {fi ca : List Operand} {fv cv : List Value} (hf : evs E fi = some fv) (hc : evs E ca = some cv) : Pv P n D E L ⟨d, .makeFunc fn fi.toArray ca.toArray, ty, pos, aft, g⟩ (.func fn fv.toArray cv.toArray) := fun a w hs _ => by
  simp [execOp, Instr.makeFunc, hs.evs hf, hs.evs hc]
theorem ef_callf {d : Nat} {f : FuncId} {xs : List Operand} {ats : Array TypeId} {args cap : List Value} {Lp F : Hp} {R : Value → Hp → Prop} (hv : ev E x = some (.func (.func f) #[] cap.toArray)) (hx : evs E xs = some args) (ht : Tr P f (args ++ cap) Lp R) [hf : GoFn P f] (hd : Nat.blt d n = true) [hp : Part L Lp F] :
    Ef P W n D ⟨some d, .call { callee := .value x, args := xs.toArray, argTypes := ats }, ty, pos, aft, g⟩ E L (fun E' L' => ∃ v L1, R v L1 ∧ E' = (d, v) :: E ∧ L' = L1 ++ F) := fun Q a w next hs ho hn => by
  unfold Oper.wp
  have e : (execOp a.eval ⟨some d, .call { callee := .value x, args := xs.toArray, argTypes := ats }, ty, pos, aft, g⟩).run P w = .ok (.enter f (args ++ cap).toArray) w := by
    simp only [execOp, resolve, hs.ev hv, Deferred.ofValue, List.map_toArray, hs.evs hx, Sem.run_bind, Sem.run_pure, Result.andThen_ok, invoke]
    rw [show ((#[] : Array Value) ++ args.toArray ++ cap.toArray) = (args ++ cap).toArray by simp, run_callFunc]
  rw [e]
  refine (ht W w F (ho.part hp)).mono ?_
  rintro e' w' ⟨v, L1, rfl, hR, ho'⟩
  exact hn _ _ _ _ ⟨v, L1, hR, rfl, rfl⟩ (hs.put hd) ho'
theorem ef_callfn {f : FuncId} {xs : List Operand} {ats : Array TypeId} {args cap : List Value} {Lp F : Hp} {R : Value → Hp → Prop} (hv : ev E x = some (.func (.func f) #[] cap.toArray)) (hx : evs E xs = some args) (ht : Tr P f (args ++ cap) Lp R) [hf : GoFn P f] [hp : Part L Lp F] :
    Ef P W n D ⟨none, .call { callee := .value x, args := xs.toArray, argTypes := ats }, ty, pos, aft, g⟩ E L (fun E' L' => ∃ v L1, R v L1 ∧ E' = E ∧ L' = L1 ++ F) := fun Q a w next hs ho hn => by
  unfold Oper.wp
  have e : (execOp a.eval ⟨none, .call { callee := .value x, args := xs.toArray, argTypes := ats }, ty, pos, aft, g⟩).run P w = .ok (.enter f (args ++ cap).toArray) w := by
    simp only [execOp, resolve, hs.ev hv, Deferred.ofValue, List.map_toArray, hs.evs hx, Sem.run_bind, Sem.run_pure, Result.andThen_ok, invoke]
    rw [show ((#[] : Array Value) ++ args.toArray ++ cap.toArray) = (args ++ cap).toArray by simp, run_callFunc]
  rw [e]
  refine (ht W w F (ho.part hp)).mono ?_
  rintro e' w' ⟨v, L1, rfl, hR, ho'⟩
  exact hn _ _ _ _ ⟨v, L1, hR, rfl, rfl⟩ hs ho'
end closures

section loopmore
variable {P : Program} {W : World} {Q : Exit → Act → World → Prop} {n : Nat} {D : List Deferred} {E : Env} {L : Hp}
theorem Goes.back {K : Act → World → Prop} {E' : Env} {L' : Hp} (h : Goes W K n D E' L') (hE : SubE E' E) [hL : Drop L L'] : Goes W K n D E L := Goes.less hE h
end loopmore

/-! ### Bits of words -/
theorem and_mask (a k : Nat) (ha : a < 2 ^ 64) (hk : k ≤ 63) : bitsI .and .u64 (a : Int) ((2 ^ k - 1 : Nat) : Int) = ((a % 2 ^ k : Nat) : Int) := by
  have h2 : 2 ^ k - 1 < 2 ^ 64 := by
    have : (2 : Nat) ^ k ≤ 2 ^ 63 := Nat.pow_le_pow_right (by omega) hk
    omega
  have e : (BitVec.ofInt 64 (a : Int) &&& BitVec.ofInt 64 ((2 ^ k - 1 : Nat) : Int)).toNat = a % 2 ^ k := by
    rw [BitVec.ofInt_natCast, BitVec.ofInt_natCast, BitVec.toNat_and, BitVec.toNat_ofNat, BitVec.toNat_ofNat, Nat.mod_eq_of_lt ha, Nat.mod_eq_of_lt h2, Nat.and_two_pow_sub_one_eq_mod]
  have h3 : a % 2 ^ k < 18446744073709551616 := Nat.lt_of_le_of_lt (Nat.mod_le _ _) ha
  show IntKind.u64.wrap ((BitVec.ofInt 64 (a : Int) &&& BitVec.ofInt 64 ((2 ^ k - 1 : Nat) : Int)).toNat : Int) = _
  rw [e, u64 (by omega) (by omega)]
theorem fdiv_pow (a k : Nat) : ((a : Int)).fdiv (2 ^ k) = ((a / 2 ^ k : Nat) : Int) := by
  rw [show ((2 : Int) ^ k) = ((2 ^ k : Nat) : Int) by norm_cast, Int.fdiv_eq_ediv_of_nonneg _ (Int.natCast_nonneg _)]
  norm_cast

theorem Pv.tru {P : Program} {n : Nat} {D : List Deferred} {E : Env} {L : Hp} {o : Oper} {p : Prop} [Decidable p] (h : Pv P n D E L o (.bool (decide p))) (hp : p) : Pv P n D E L o (.bool true) := by
  rw [decide_eq_true hp] at h; exact h
theorem Pv.fls {P : Program} {n : Nat} {D : List Deferred} {E : Env} {L : Hp} {o : Oper} {p : Prop} [Decidable p] (h : Pv P n D E L o (.bool (decide p))) (hp : ¬ p) : Pv P n D E L o (.bool false) := by
  rw [decide_eq_false hp] at h; exact h

/-- The bits of an integer, as a natural number. -/
def uI (x : Int) : Nat := (IntKind.u64.wrap x).toNat
theorem uI_eq (x : Int) : IntKind.u64.wrap x = (uI x : Int) := by
  have : 0 ≤ IntKind.u64.wrap x := by simp [IntKind.wrap, IntKind.signed, IntKind.bits]; omega
  unfold uI; omega
theorem uI_lt (x : Int) : uI x < 2 ^ 64 := by
  have : IntKind.u64.wrap x < 18446744073709551616 := by simp [IntKind.wrap, IntKind.signed, IntKind.bits]; omega
  unfold uI; omega
theorem tmod_nat {a b : Nat} {j : Int} (h : j = (b : Int)) : (a : Int).tmod j = ((a % b : Nat) : Int) := by
  subst h; rw [Int.tmod_eq_emod_of_nonneg (by omega)]; norm_cast
theorem tdiv_nat {a b : Nat} {j : Int} (h : j = (b : Int)) : (a : Int).tdiv j = ((a / b : Nat) : Int) := by
  subst h; rw [Int.tdiv_eq_ediv_of_nonneg (by omega)]; norm_cast
theorem w64n {i : Int} {k : Nat} (h : i = k) (hk : k < 2 ^ 63) : IntKind.i64.wrap i = k := by subst h; exact w64 (by omega) (by omega)
theorem u64n {i : Int} {k : Nat} (h : i = k) (hk : k < 2 ^ 64) : IntKind.u64.wrap i = k := by subst h; exact u64 (by omega) (by omega)
theorem shln {a k : Nat} (hk : k ≤ 64) (h : a * 2 ^ k < 2 ^ 64) : IntKind.u64.wrap ((a : Int) * 2 ^ (min (k : Int).toNat 64)) = ((a * 2 ^ k : Nat) : Int) := by
  refine u64n ?_ h
  rw [show min (k : Int).toNat 64 = k by omega]; norm_cast
theorem shl1 {k : Nat} (hk : k < 64) : IntKind.u64.wrap (1 * 2 ^ (min (k : Int).toNat 64)) = ((2 ^ k : Nat) : Int) := by
  have := @shln 1 k (by omega) (by rw [Nat.one_mul]; exact Nat.pow_lt_pow_right (by omega) hk)
  simpa using this
theorem xor_nat {a b : Nat} (ha : a < 2 ^ 64) (hb : b < 2 ^ 64) : bitsI .xor .u64 (a : Int) (b : Int) = ((a ^^^ b : Nat) : Int) := by
  have e : (BitVec.ofInt 64 (a : Int) ^^^ BitVec.ofInt 64 (b : Int)).toNat = a ^^^ b := by
    rw [BitVec.ofInt_natCast, BitVec.ofInt_natCast, BitVec.toNat_xor, BitVec.toNat_ofNat, BitVec.toNat_ofNat, Nat.mod_eq_of_lt ha, Nat.mod_eq_of_lt hb]
  have hl : a ^^^ b < 2 ^ 64 := Nat.xor_lt_two_pow ha hb
  show IntKind.u64.wrap ((BitVec.ofInt 64 (a : Int) ^^^ BitVec.ofInt 64 (b : Int)).toNat : Int) = _
  rw [e]; exact u64n rfl hl

attribute [irreducible] Ops Wp Ends Goes Ef AnyH Turn Tr Pv Res RVal

end Go.SL
