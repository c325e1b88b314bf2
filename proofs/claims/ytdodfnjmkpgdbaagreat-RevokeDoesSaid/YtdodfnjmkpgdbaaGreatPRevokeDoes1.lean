/- RevokeDoes. Laid together by pack.py out of the texts in wip. -/
import Derived.Test.YtdodfnjmkpgdbaaGreatRows
import Derived.WalkKit
import Derived.OrdersHeld
import Derived.Laws.StructEq
import Derived.Laws.Pointers
import Derived.KernelRfl
import Derived.Below
import Derived.Deep.Slices
import Derived.ChangeOld
import Derived.ChangeSame
import Derived.Carry
import Derived.ChangeKeysEq
import Derived.Laws.Cover3
import Derived.LaidEql
import Derived.Recover
import Derived.ProofKit
import Derived.OpenShut
set_option linter.unusedVariables false
set_option linter.unusedSimpArgs false
set_option linter.unusedSectionVars false
section
set_option linter.unusedVariables false
set_option linter.unusedSimpArgs false
namespace Go.SL
abbrev Env := List (Nat × Value)
abbrev Hp := List (Nat × Obj)
def look (t : Nat) : Env → Option Value
  | [] => none
  | (k, v) :: E => match Nat.beq k t with
    | true => some v
    | false => look t E
structure Sees (n : Nat) (D : List Deferred) (E : Env) (a : Act) : Prop where
  size : a.tmps.size = n
  dfs : a.defers = D
  get : ∀ t v, look t E = some v → a.tmps[t]? = some v
def ev (E : Env) : Operand → Option Value
  | .tmp t => look t E
  | .const v => some v
  | .global g => some (.pointer (some ⟨g, 0, none⟩))
  | .func f => some (.func (.func f) #[] #[])
def evs (E : Env) : List Operand → Option (List Value)
  | [] => some []
  | x :: xs => match ev E x with
    | none => none
    | some v => match evs E xs with
      | none => none
      | some vs => some (v :: vs)
structure Own (W w : World) (L : Hp) : Prop where
  os : w.os = W.os
  tape : w.tape = W.tape
  out : w.output = W.output
  nd : (L.map Prod.fst).Nodup
  get : ∀ p, p ∈ L → w.heap[p.1]? = some p.2
def Held (L : Hp) (w : World) : Prop := ∀ p, p ∈ L → w.heap[p.1]? = some p.2
theorem Own.held {W w : World} {L : Hp} (h : Own W w L) : Held L w := h.get
section sees
variable {n : Nat} {D : List Deferred} {E : Env} {a : Act}
theorem Sees.ev (h : Sees n D E a) {x : Operand} {v : Value} (hx : SL.ev E x = some v) : a.eval x = v := by
 cases x with
 | tmp t => have := h.get t v hx; simp [Act.eval, this]
 | const c => simpa [SL.ev, Act.eval] using hx
 | global g => simpa [SL.ev, Act.eval] using hx
 | func f => simpa [SL.ev, Act.eval] using hx
theorem Sees.evs (h : Sees n D E a) : ∀ {xs : List Operand} {vs : List Value}, SL.evs E xs = some vs → xs.map a.eval = vs
  | [], vs, hx => by simpa [SL.evs] using hx
  | x :: xs, vs, hx => by
    simp only [SL.evs] at hx
    split at hx
    · cases hx
    · rename_i v hv
      split at hx
      · cases hx
      · rename_i us hus
        cases hx
        simp [h.ev hv, h.evs hus]
theorem Sees.put (h : Sees n D E a) {d : Nat} {v : Value} (hd : Nat.blt d n = true) : Sees n D ((d, v) :: E) (a.put (some d) v) := by
 have hlt : d < n := by simpa [Nat.blt_eq] using hd
 refine ⟨by simp [Act.put, h.size], by simp [Act.put, h.dfs], fun t u hu => ?_⟩
 simp only [look] at hu
 split at hu
 ·
  rename_i hb
  have : d = t := Nat.eq_of_beq_eq_true hb
  subst this
  cases hu
  simp [Act.put, h.size, hlt]
 ·
  rename_i hb
  have : d ≠ t := fun e => by subst e; simp at hb
  simp only [Act.put]
  rw [Array.getElem?_setIfInBounds_ne this]
  exact h.get t u hu
def SubE : Env → Env → Prop
  | [], _ => True
  | (t, v) :: E', E => look t E = some v ∧ SubE E' E
theorem look_of_subE : ∀ {E' E : Env}, SubE E' E → ∀ t v, look t E' = some v → look t E = some v
  | [], _, _, t, v, h => by cases h
  | (k, u) :: E', E, hs, t, v, h => by
    simp only [look] at h
    split at h
    · rename_i hb
      cases h
      rw [← Nat.eq_of_beq_eq_true hb]
      exact hs.1
    · exact look_of_subE hs.2 t v h
theorem Sees.sub {E' : Env} (h : Sees n D E a) (hs : SubE E' E) : Sees n D E' a := ⟨h.size, h.dfs, fun t v hv => h.get t v (look_of_subE hs t v hv)⟩
end sees
section own
variable {W w : World} {L : Hp}
theorem Own.lt (h : Own W w L) {b : Nat} {o : Obj} (hm : (b, o) ∈ L) : b < w.heap.size := by
 have := h.get _ hm
 rcases Nat.lt_or_ge b w.heap.size with h' | h'
 ·
  exact h'
 ·
  simp [Array.getElem?_eq_none h'] at this
theorem Own.drew (h : Own W w L) : Own W w.drew L := ⟨h.os, h.tape, h.out, h.nd, h.get⟩
theorem Own.drawn (h : Own W w L) (n : Nat) : Own W { w with drawn := n } L := ⟨h.os, h.tape, h.out, h.nd, h.get⟩
theorem Own.alloc (h : Own W w L) (o : Obj) : Own W (w.alloc o) ((w.heap.size, o) :: L) := by
 refine ⟨h.os, h.tape, h.out, ?_, ?_⟩
 ·
  simp only [List.map_cons, List.nodup_cons]
  refine ⟨fun hm => ?_, h.nd⟩
  obtain ⟨⟨b, o'⟩, hm, rfl⟩ := List.mem_map.1 hm
  exact Nat.lt_irrefl _ (h.lt hm)
 ·
  intro p hp
  rcases List.mem_cons.1 hp with rfl | hp
  ·
   simp [World.alloc, -World.alloc_eq]
  ·
   have hlt := h.lt (b := p.1) (o := p.2) hp
   simp only [World.alloc, Array.getElem?_push]
   rw [if_neg (Nat.ne_of_lt hlt)]
   exact h.get p hp
theorem Own.perm {L' : Hp} (h : Own W w L) (hp : L.Perm L') : Own W w L' :=
  ⟨h.os, h.tape, h.out, (hp.map Prod.fst).nodup_iff.1 h.nd, fun p hm => h.get p (hp.mem_iff.2 hm)⟩
theorem Own.sublist {L' : Hp} (h : Own W w L) (hp : L'.Sublist L) : Own W w L' :=
  ⟨h.os, h.tape, h.out, h.nd.sublist (hp.map Prod.fst), fun p hm => h.get p (hp.subset hm)⟩
theorem Own.app_left {A B : Hp} (h : Own W w (A ++ B)) : Own W w A := h.sublist (List.sublist_append_left A B)
theorem Own.app_right {A B : Hp} (h : Own W w (A ++ B)) : Own W w B := h.sublist (List.sublist_append_right A B)
theorem Own.set {A B : Hp} {b : Nat} {o o' : Obj} {w' : World} (h : Own W w (A ++ (b, o) :: B))
    (hos : w'.os = w.os) (ht : w'.tape = w.tape) (hout : w'.output = w.output)
    (hb : w'.heap[b]? = some o') (hne : ∀ k, k ≠ b → w'.heap[k]? = w.heap[k]?) : Own W w' (A ++ (b, o') :: B) := by
  refine ⟨hos.trans h.os, ht.trans h.tape, hout.trans h.out, by simpa using h.nd, fun p hp => ?_⟩
  have hnd := h.nd
  simp only [List.map_append, List.map_cons, List.nodup_append, List.nodup_cons] at hnd
  rcases List.mem_append.1 hp with hp | hp
  · have hneq : p.1 ≠ b := fun e => hnd.2.2 _ (List.mem_map.2 ⟨p, hp, rfl⟩) _ (List.mem_cons_self ..) e
    rw [hne _ hneq]
    exact h.get p (List.mem_append_left _ hp)
  · rcases List.mem_cons.1 hp with rfl | hp
    · exact hb
    · have hneq : p.1 ≠ b := fun e => hnd.2.1.1 (e ▸ List.mem_map.2 ⟨p, hp, rfl⟩)
      rw [hne _ hneq]
      exact h.get p (List.mem_append_right _ (List.mem_cons_of_mem _ hp))
end own
class Blk (L : Hp) (b : Nat) (o : outParam Obj) : Prop where
  mem : (b, o) ∈ L
instance (priority := 1100) Blk.here {b : Nat} {o : Obj} {L : Hp} : Blk ((b, o) :: L) b o := ⟨List.mem_cons_self ..⟩
instance (priority := 1000) Blk.there {b : Nat} {o : Obj} {x : Nat × Obj} {L : Hp} [h : Blk L b o] : Blk (x :: L) b o := ⟨List.mem_cons_of_mem _ h.mem⟩
instance (priority := 900) Blk.right {b : Nat} {o : Obj} {S L : Hp} [h : Blk L b o] : Blk (S ++ L) b o := ⟨List.mem_append_right _ h.mem⟩
instance (priority := 800) Blk.left {b : Nat} {o : Obj} {S L : Hp} [h : Blk S b o] : Blk (S ++ L) b o := ⟨List.mem_append_left _ h.mem⟩
class Upd (L : Hp) (b : Nat) (o' : Obj) (L' : outParam Hp) : Prop where
  eq : ∃ A B o, L = A ++ (b, o) :: B ∧ L' = A ++ (b, o') :: B
instance (priority := 1100) Upd.here {b : Nat} {o o' : Obj} {L : Hp} : Upd ((b, o) :: L) b o' ((b, o') :: L) := ⟨[], L, o, rfl, rfl⟩
instance (priority := 1000) Upd.there {b : Nat} {o' : Obj} {x : Nat × Obj} {L L' : Hp} [h : Upd L b o' L'] : Upd (x :: L) b o' (x :: L') :=
  ⟨by obtain ⟨A, B, o, h1, h2⟩ := h.eq; exact ⟨x :: A, B, o, by rw [h1]; rfl, by rw [h2]; rfl⟩⟩
instance (priority := 900) Upd.right {b : Nat} {o' : Obj} {S L L' : Hp} [h : Upd L b o' L'] : Upd (S ++ L) b o' (S ++ L') :=
  ⟨by obtain ⟨A, B, o, h1, h2⟩ := h.eq; exact ⟨S ++ A, B, o, by rw [h1, List.append_assoc], by rw [h2, List.append_assoc]⟩⟩
instance (priority := 800) Upd.left {b : Nat} {o' : Obj} {S S' L : Hp} [h : Upd S b o' S'] : Upd (S ++ L) b o' (S' ++ L) :=
  ⟨by obtain ⟨A, B, o, h1, h2⟩ := h.eq; exact ⟨A, B ++ L, o, by rw [h1]; simp, by rw [h2]; simp⟩⟩
class Take (L : Hp) (b : Nat) (o : outParam Obj) (R : outParam Hp) : Prop where
  perm : L.Perm ((b, o) :: R)
instance (priority := 1100) Take.here {b : Nat} {o : Obj} {L : Hp} : Take ((b, o) :: L) b o L := ⟨List.Perm.refl _⟩
instance (priority := 1000) Take.there {b : Nat} {o : Obj} {x : Nat × Obj} {L R : Hp} [h : Take L b o R] : Take (x :: L) b o (x :: R) :=
  ⟨(h.perm.cons x).trans (List.Perm.swap _ _ _)⟩
instance (priority := 900) Take.right {b : Nat} {o : Obj} {S L R : Hp} [h : Take L b o R] : Take (S ++ L) b o (S ++ R) :=
  ⟨(List.Perm.append_left S h.perm).trans List.perm_middle⟩
class TakeS (L S : Hp) (R : outParam Hp) : Prop where
  perm : L.Perm (S ++ R)
instance (priority := 1200) TakeS.all {S : Hp} : TakeS S S [] := ⟨by simp⟩
instance (priority := 1100) TakeS.head {S R : Hp} : TakeS (S ++ R) S R := ⟨List.Perm.refl _⟩
instance (priority := 1000) TakeS.skip {x : Nat × Obj} {L S R : Hp} [h : TakeS L S R] : TakeS (x :: L) S (x :: R) :=
  ⟨(h.perm.cons x).trans (List.perm_middle.symm)⟩
instance (priority := 900) TakeS.skipApp {T L S R : Hp} [h : TakeS L S R] : TakeS (T ++ L) S (T ++ R) :=
  ⟨(List.Perm.append_left T h.perm).trans (by
    rw [← List.append_assoc, ← List.append_assoc]
    exact List.Perm.append_right R List.perm_append_comm)⟩
class Part (L S : Hp) (R : outParam Hp) : Prop where
  perm : L.Perm (S ++ R)
instance (priority := 2000) Part.nil {L : Hp} : Part L [] L := ⟨List.Perm.refl _⟩
instance (priority := 1300) Part.cons {b : Nat} {o : Obj} {L L1 S R : Hp} [h : Take L b o L1] [k : Part L1 S R] : Part L ((b, o) :: S) R :=
  ⟨h.perm.trans (k.perm.cons _)⟩
instance (priority := 1200) Part.app {L S T R R' : Hp} [h : TakeS L S R] [k : Part R T R'] : Part L (S ++ T) R' :=
  ⟨h.perm.trans ((List.Perm.append_left S k.perm).trans (by simp))⟩
instance (priority := 1100) Part.one {L S R : Hp} [h : TakeS L S R] : Part L S R := ⟨h.perm⟩
theorem Own.part {W w : World} {L S R : Hp} (h : Own W w L) (p : Part L S R) : Own W w (S ++ R) := h.perm p.perm
class Drop (L M : Hp) : Prop where
  own : ∀ {W w : World}, Own W w L → Own W w M
instance (priority := 1000) Drop.refl {L : Hp} : Drop L L := ⟨id⟩
instance (priority := 100) Drop.mk' {L M R : Hp} [h : Part L M R] : Drop L M := ⟨fun o => (o.part h).app_left⟩
section judge
def Ops (P : Program) (W : World) (ops : Array Oper) (Q : Exit → Act → World → Prop) (n : Nat) (D : List Deferred) (rest : List Oper) (E : Env) (L : Hp) : Prop :=
  ∀ a w, Sees n D E a → Own W w L → wpList P ops Q rest a w
def Wp (P : Program) (W : World) (Q : Exit → Act → World → Prop) (n : Nat) (D : List Deferred) (c : Code) (E : Env) (L : Hp) : Prop :=
  ∀ a w, Sees n D E a → Own W w L → c.wp P Q a w
def Ends (W : World) (Q : Exit → Act → World → Prop) (n : Nat) (D : List Deferred) (e : Exit) (E : Env) (L : Hp) : Prop :=
  ∀ a w, Sees n D E a → Own W w L → Q e a w
def Goes (W : World) (K : Act → World → Prop) (n : Nat) (D : List Deferred) (E : Env) (L : Hp) : Prop :=
  ∀ a w, Sees n D E a → Own W w L → K a w
variable {P : Program} {W : World} {ops : Array Oper} {Q : Exit → Act → World → Prop} {n : Nat} {D : List Deferred} {E E' : Env} {L L' : Hp} {rest : List Oper}
theorem Wp.seq {x y : Code} (h : Wp P W (Exit.then (y.wp P Q) Q) n D x E L) : Wp P W Q n D (.seq x y) E L := fun a w hs ho => wp_seq (h a w hs ho)
theorem Ends.seq {y : Code} (h : Wp P W Q n D y E L) : Ends W (Exit.then (y.wp P Q) Q) n D .normal E L := h
theorem Ends.goes {K : Act → World → Prop} (h : Goes W K n D E L) : Ends W (Exit.then K Q) n D .normal E L := h
theorem Ends.then_exit {K : Act → World → Prop} {i : Nat} (h : Ends W Q n D (.exit i) E L) : Ends W (Exit.then K Q) n D (.exit i) E L := h
theorem Ends.then_ret {K : Act → World → Prop} (h : Ends W Q n D .ret E L) : Ends W (Exit.then K Q) n D .ret E L := h
theorem Ends.block_normal {id : Nat} (h : Ends W Q n D .normal E L) : Ends W (Exit.inBlock id Q) n D .normal E L := h
theorem Ends.block_ret {id : Nat} (h : Ends W Q n D .ret E L) : Ends W (Exit.inBlock id Q) n D .ret E L := h
theorem Ends.block_hit {id : Nat} (h : Ends W Q n D .normal E L) : Ends W (Exit.inBlock id Q) n D (.exit id) E L := fun a w hs ho => by
 simp only [Exit.inBlock, if_true]; exact h a w hs ho
theorem Ends.block_miss {id i : Nat} (hb : Nat.beq i id = false) (h : Ends W Q n D (.exit i) E L) : Ends W (Exit.inBlock id Q) n D (.exit i) E L := fun a w hs ho => by
 have hne : i ≠ id := fun e => by subst e; simp at hb
 simp only [Exit.inBlock, if_neg hne]; exact h a w hs ho
theorem Wp.block {id : Nat} {c : Code} (h : Wp P W (Exit.inBlock id Q) n D c E L) : Wp P W Q n D (.block id c) E L := fun a w hs ho => wp_block (h a w hs ho)
theorem Wp.exit {id : Nat} (h : Ends W Q n D (.exit id) E L) : Wp P W Q n D (.exit id) E L := fun a w hs ho => wp_exit (h a w hs ho)
theorem Wp.ret (h : Ends W Q n D .ret E L) : Wp P W Q n D .ret E L := fun a w hs ho => wp_ret (h a w hs ho)
theorem Wp.skip (h : Ends W Q n D .normal E L) : Wp P W Q n D .skip E L := fun a w hs ho => wp_skip (h a w hs ho)
theorem Wp.region {id : Nat} {l : List Oper} (h : Ops P W l.toArray Q n D l E L) : Wp P W Q n D (.region id l.toArray false) E L :=
  fun a w hs ho => wp_region_lit (h a w hs ho)
theorem Ops.nil (h : Ends W Q n D .normal E L) : Ops P W ops Q n D [] E L := fun a w hs ho => wpList_nil (h a w hs ho)
theorem Wp.cond {c : Operand} {x y : Code} {b : Bool} (hc : ev E c = some (.bool b)) (ht : b = true → Wp P W Q n D x E L) (hf : b = false → Wp P W Q n D y E L) :
    Wp P W Q n D (.cond c x y) E L := fun a w hs ho => wp_cond_split (hs.ev hc) (fun h => ht h a w hs ho) (fun h => hf h a w hs ho)
theorem Wp.cond_true {c : Operand} {x y : Code} (hc : ev E c = some (.bool true)) (h : Wp P W Q n D x E L) : Wp P W Q n D (.cond c x y) E L := .cond hc (fun _ => h) (fun e => by cases e)
theorem Wp.cond_false {c : Operand} {x y : Code} (hc : ev E c = some (.bool false)) (h : Wp P W Q n D y E L) : Wp P W Q n D (.cond c x y) E L := .cond hc (fun e => by cases e) (fun _ => h)
theorem Wp.less {c : Code} {E' : Env} {L' : Hp} (hE : SubE E' E) [hL : Drop L L'] (h : Wp P W Q n D c E' L') : Wp P W Q n D c E L := fun a w hs ho => h a w (hs.sub hE) (hL.own ho)
theorem Goes.less {K : Act → World → Prop} {E' : Env} {L' : Hp} (hE : SubE E' E) [hL : Drop L L'] (h : Goes W K n D E' L') : Goes W K n D E L := fun a w hs ho => h a w (hs.sub hE) (hL.own ho)
theorem Ends.less {e : Exit} {E' : Env} {L' : Hp} (hE : SubE E' E) [hL : Drop L L'] (h : Ends W Q n D e E' L') : Ends W Q n D e E L := fun a w hs ho => h a w (hs.sub hE) (hL.own ho)
theorem Ops.heap {L' : Hp} (hL : ∀ w, Own W w L → Own W w L') (h : Ops P W ops Q n D rest E L') : Ops P W ops Q n D rest E L := fun a w hs ho => h a w hs (hL w ho)
theorem Wp.heap {c : Code} {L' : Hp} (hL : ∀ w, Own W w L → Own W w L') (h : Wp P W Q n D c E L') : Wp P W Q n D c E L := fun a w hs ho => h a w hs (hL w ho)
theorem Ends.heap {e : Exit} {L' : Hp} (hL : ∀ w, Own W w L → Own W w L') (h : Ends W Q n D e E L') : Ends W Q n D e E L := fun a w hs ho => h a w hs (hL w ho)
end judge
theorem wp_loop_by {σ : Type} {P : Program} {Q : Exit → Act → World → Prop} {c : Code} (I : σ → Act → World → Prop) (μ : σ → Nat)
    (round : ∀ x a w, I x a w → c.wp P (Exit.then (fun a' w' => ∃ y, I y a' w' ∧ μ y < μ x) Q) a w) :
    ∀ x a w, I x a w → (Code.loop c).wp P Q a w := by
  intro x a w hI b k cs
  have key : ∀ m x a w, μ x = m → I x a w →
      ∃ e a' w', Q e a' w' ∧ Arrives P (lone (b.at a (.code c :: .inLoop c :: k)) cs w) b k cs e a' w' := by
    intro m
    induction m using Nat.strongRecOn with
    | _ m ih =>
      intro x a w hm hI
      obtain ⟨e, a₁, w₁, hq, harr⟩ := round x a w hI b (.inLoop c :: k) cs
      cases e with
      | normal =>
        obtain ⟨y, hI₁, hlt⟩ := hq
        obtain ⟨e₂, a₂, w₂, hq₂, harr₂⟩ := ih (μ y) (hm ▸ hlt) y a₁ w₁ rfl hI₁
        exact ⟨e₂, a₂, w₂, hq₂, .of_steps (Steps.trans harr (.one step_inLoop)) harr₂⟩
      | exit id => exact ⟨_, a₁, w₁, hq, .pass (x := .inLoop c) rfl (fun _ _ => .inl (by simp)) harr⟩
      | goto l => exact ⟨_, a₁, w₁, hq, .pass (x := .inLoop c) rfl (fun _ _ => .inl (by simp)) harr⟩
      | ret => exact ⟨_, a₁, w₁, hq, .pass (x := .inLoop c) rfl (fun _ _ => .inl (by simp)) harr⟩
      | panic ch => exact ⟨_, a₁, w₁, hq, .pass (x := .inLoop c) rfl (fun _ _ => .inl (by simp)) harr⟩
      | outgrown => exact ⟨_, a₁, w₁, hq, .pass (x := .inLoop c) rfl (fun _ _ => .inl (by simp)) harr⟩
  obtain ⟨e, a', w', hq, harr⟩ := key _ x a w rfl hI
  exact ⟨e, a', w', hq, .of_steps (.one step_loop) harr⟩
section loop
variable {P : Program} {W : World} {Q : Exit → Act → World → Prop} {n : Nat} {D : List Deferred} {E : Env} {L : Hp}
theorem Wp.loop {σ : Type} {c : Code} (EI : σ → Env) (LI : σ → Hp) (I : σ → Prop) (μ : σ → Nat) (x0 : σ) (hI : I x0) (hE : SubE (EI x0) E) (hL : ∀ w, Own W w L → Own W w (LI x0))
    (round : ∀ (x : σ) (K : Act → World → Prop), I x → (∀ y, I y → μ y < μ x → Goes W K n D (EI y) (LI y)) → Wp P W (Exit.then K Q) n D c (EI x) (LI x)) :
    Wp P W Q n D (.loop c) E L := fun a w hs ho =>
  wp_loop_by (fun x a w => I x ∧ Sees n D (EI x) a ∧ Own W w (LI x)) μ
    (fun x a w hI => round x _ hI.1 (fun y hy hlt a' w' hs' ho' => ⟨y, ⟨hy, hs', ho'⟩, hlt⟩) a w hI.2.1 hI.2.2) x0 a w ⟨hI, hs.sub hE, hL w ho⟩
end loop
def argsEnv : Nat → List Value → Env
  | _, [] => []
  | i, v :: vs => (i, v) :: argsEnv (i + 1) vs
theorem look_argsEnv : ∀ (vs : List Value) (i t : Nat) (v : Value), look t (argsEnv i vs) = some v → i ≤ t ∧ vs[t - i]? = some v
  | [], i, t, v, h => by cases h
  | u :: vs, i, t, v, h => by
    simp only [argsEnv, look] at h
    split at h
    · rename_i hb
      have := Nat.eq_of_beq_eq_true hb
      subst this
      cases h
      exact ⟨Nat.le_refl _, by simp⟩
    · obtain ⟨h1, h2⟩ := look_argsEnv vs (i + 1) t v h
      refine ⟨by omega, ?_⟩
      rw [show t - i = (t - (i + 1)) + 1 by omega]
      simpa using h2
theorem sees_start {n : Nat} {vs : List Value} (h : Nat.ble vs.length n = true) : Sees n [] (argsEnv 0 vs) { tmps := vs.toArray ++ Array.replicate (n - vs.toArray.size) undef, defers := [] } := by
 have h' : vs.length ≤ n := Nat.le_of_ble_eq_true h
 refine ⟨by simp; omega, rfl, fun t v hv => ?_⟩
 obtain ⟨_, h2⟩ := look_argsEnv vs 0 t v hv
 have hlt : t < vs.length := by
  rcases Nat.lt_or_ge t vs.length with h | h
  ·
   exact h
  ·
   simp [List.getElem?_eq_none h] at h2
 simp only [Nat.sub_zero] at h2
 rw [Array.getElem?_append_left (by simpa using hlt)]
 simpa using h2
def TrPost (R : Value → Hp → Prop) (W : World) (F : Hp) : Ending → World → Prop := fun e w' => ∃ v L', e = .returned v ∧ R v L' ∧ Own W w' (L' ++ F)
def Tr (P : Program) (f : FuncId) (args : List Value) (L : Hp) (R : Value → Hp → Prop) : Prop :=
  ∀ W w F, Own W w (L ++ F) → Calls P f args.toArray w (TrPost R W F)
theorem Tr.mono {P : Program} {f : FuncId} {args : List Value} {L : Hp} {R R' : Value → Hp → Prop} (h : Tr P f args L R) (hr : ∀ v L', R v L' → R' v L') : Tr P f args L R' :=
  fun W w F ho => (h W w F ho).mono fun _ _ ⟨v, L', he, hR, ho'⟩ => ⟨v, L', he, hr _ _ hR, ho'⟩
theorem Tr.enter {P : Program} {f : FuncId} {fn : Func} {c : Code} {n : Nat} {args : List Value} {L : Hp} {R : Value → Hp → Prop}
    (hf : P.funcs[f]? = some fn) (hb : fn.body = some c) (hn : fn.ntmps = n) (hle : Nat.ble args.length n = true)
    (h : ∀ W F, Wp P W (bodyPost P fn (TrPost R W F)) n [] c (argsEnv 0 args) (L ++ F)) : Tr P f args L R := fun W w F ho =>
  calls_of_wp hf hb (by
    subst hn
    exact h W F _ w (sees_start hle) ho)
def Res (P : Program) (fn : Func) (n : Nat) (D : List Deferred) (E : Env) (L : Hp) (v : Value) : Prop :=
  ∀ a w, Sees n D E a → Held L w → (results fn a.tmps).run P w = .ok v w
section res
variable {P : Program} {fn : Func} {n : Nat} {D : List Deferred} {E : Env} {L : Hp}
theorem res0 (h : fn.results = #[]) : Res P fn n D E L (.tuple #[]) := fun a w _ _ => results_none h _ P w
theorem res1 {t : Nat} {v : Value} (h : fn.results = #[.tmp t]) (hx : look t E = some v) : Res P fn n D E L v := fun a w hs _ => by
 rw [results_tmp h, Array.getD_eq_getD_getElem?, hs.get t v hx]; rfl
theorem res3 {t u s : Nat} {v x y : Value} (h : fn.results = #[.tmp t, .tmp u, .tmp s]) (hv : look t E = some v) (hx : look u E = some x) (hy : look s E = some y) :
    Res P fn n D E L (.tuple #[v, x, y]) := fun a w hs _ => by
  simp [results, h, Array.getD_eq_getD_getElem?, hs.get t v hv, hs.get u x hx, hs.get s y hy]
end res
class TyD (P : Program) (T : Nat) (d : outParam TypeDesc) : Prop where
  eq : P.underlying T = some d
class TyS (P : Program) (T : Nat) (k : outParam Nat) : Prop where
  eq : (P.info? T).map (·.size) = some k
class TyB (P : Program) (T : Nat) (k : outParam Nat) : Prop where
  eq : (P.info? T).map (·.bytes) = some k
class TyZ (P : Program) (T : Nat) (z : outParam Value) : Prop where
  eq : (P.info? T).bind (·.zero) = some z
class TyFld (P : Program) (S : Nat) (i : Nat) (off U : outParam Nat) : Prop where
  eq : ∃ fs f, P.underlying S = some (.struct fs) ∧ fs[i]? = some f ∧ f.offset = off ∧ f.type = U
class GoFn (P : Program) (f : Nat) : Prop where
  eq : ∃ fn, P.funcs[f]? = some fn ∧ (fn.name == "runtime.NumGoroutine") = false ∧ fn.body.isNone = false
def aggD : TypeDesc → Bool
  | .struct _ => true
  | .array _ _ => true
  | _ => false
section ty
variable {P : Program} {T : TypeId} (w : World)
theorem TyD.run {d : TypeDesc} [h : TyD P T d] : (underlying T).run P w = .ok d w := by simp [underlying, h.eq]
theorem TyD.agg {d : TypeDesc} [h : TyD P T d] : (isAgg T).run P w = .ok (aggD d) w := by
 simp only [isAgg, Sem.run_bind, TyD.run, Result.andThen_ok]
 cases d <;> rfl
theorem TyS.run {k : Nat} [h : TyS P T k] : (sizeOf T).run P w = .ok k w := by
 obtain ⟨i, hi, hk⟩ := Option.map_eq_some_iff.1 h.eq
 simp [sizeOf, typeInfo, hi, hk]
theorem TyZ.run {z : Value} [h : TyZ P T z] : (zeroValue T).run P w = .ok z w := by
 obtain ⟨i, hi, hz⟩ := Option.bind_eq_some_iff.1 h.eq
 simp [zeroValue, typeInfo, hi, hz]
end ty
theorem addr_add (b o k : Nat) : (⟨b, o, none⟩ : Addr).add k = ⟨b, o + k, none⟩ := by
 unfold Addr.add
 split
 ·
  rename_i h; subst h; rfl
 ·
  rfl
section cells
variable {L : Hp} {w : World}
theorem Held.cell {b : Nat} {c : Array Value} {T : TypeId} {f : Nat × Nat} (h : Held L w) (m : (b, Obj.cells c T f) ∈ L) (off : Nat) : w.cell? ⟨b, off, none⟩ = c[off]? := by
 have := h _ m
 simp only at this
 simp [World.cell?, this]
end cells
def nth : List Value → Nat → Option Value
  | [], _ => none
  | x :: _, 0 => some x
  | _ :: l, i + 1 => nth l i
theorem nth_eq : ∀ (l : List Value) (i : Nat), nth l i = l[i]?
  | [], i => by simp [nth]
  | x :: l, 0 => rfl
  | x :: l, i + 1 => by simp [nth, nth_eq l i]
def Reads (c : List Value) : Nat → List Value → Prop
  | _, [] => True
  | off, v :: vs => nth c off = some v ∧ Reads c (off + 1) vs
theorem Reads.at_ {c : List Value} : ∀ {vs : List Value} {off : Nat}, Reads c off vs → ∀ j v, vs[j]? = some v → c[off + j]? = some v
  | [], _, _, j, v, h => by simp at h
  | u :: vs, off, hr, 0, v, h => by simp at h; subst h; rw [← nth_eq]; exact hr.1
  | u :: vs, off, hr, j + 1, v, h => by
    have := hr.2.at_ j v (by simpa using h)
    rw [show off + (j + 1) = off + 1 + j by omega]
    exact this
theorem Reads.extract {c vs : List Value} {off k : Nat} (h : Reads c off vs) (hl : vs.length = k) : c.toArray.extract off (off + k) = vs.toArray := by
 subst hl
 apply Array.ext'
 apply List.ext_getElem?
 intro j
 simp only [List.extract_toArray, List.extract_eq_take_drop, List.getElem?_take, List.getElem?_drop]
 by_cases hj : j < vs.length
 ·
  rw [if_pos (by omega), h.at_ j vs[j] (by simp)]
  simp
 ·
  rw [if_neg (by omega), List.getElem?_eq_none (by omega)]
def Pv (P : Program) (n : Nat) (D : List Deferred) (E : Env) (L : Hp) (o : Oper) (v : Value) : Prop :=
  ∀ a w, Sees n D E a → Held L w → (execOp a.eval o).run P w = .ok (.value v) w
section pv
variable {P : Program} {n : Nat} {D : List Deferred} {E : Env} {L : Hp} {d : Option Tmp} {ty : TypeId} {pos : String} {aft : Array Edge} {g : Option (Nat × Bool)} {T : TypeId} {x y z : Operand} {v u : Value}
theorem pv_move (hx : ev E x = some v) : Pv P n D E L ⟨d, .move x, ty, pos, aft, g⟩ v := fun a w hs _ => by simp [execOp, hs.ev hx]
theorem pv_assign (hx : ev E x = some v) : Pv P n D E L ⟨d, .assign x, ty, pos, aft, g⟩ v := fun a w hs _ => by simp [execOp, hs.ev hx]
theorem pv_pick_true (hc : ev E x = some (.bool true)) (hy : ev E y = some u) : Pv P n D E L ⟨d, .pick x y z, ty, pos, aft, g⟩ u := fun a w hs _ => by
 simp [execOp, hs.ev hc, hs.ev hy, asBool]
theorem pv_pick_false (hc : ev E x = some (.bool false)) (hz : ev E z = some v) : Pv P n D E L ⟨d, .pick x y z, ty, pos, aft, g⟩ v := fun a w hs _ => by
 simp [execOp, hs.ev hc, hs.ev hz, asBool]
theorem pv_nilCheck {p : Addr} (hx : ev E x = some (.pointer (some p))) : Pv P n D E L ⟨d, .nilCheck x, ty, pos, aft, g⟩ (.pointer (some p)) := fun a w hs _ => by simp [execOp, hs.ev hx]
theorem pv_load {dsc : TypeDesc} {b off : Nat} {c : List Value} {T' : TypeId} {f : Nat × Nat} (hx : ev E x = some (.pointer (some ⟨b, off, none⟩))) [ht : TyD P T dsc] (hd : aggD dsc = false)
    [hb : Blk L b (.cells c.toArray T' f)] (hc : nth c off = some v) : Pv P n D E L ⟨d, .load T x, ty, pos, aft, g⟩ v := fun a w hs hh => by
  rw [nth_eq] at hc
  simp [execOp, hs.ev hx, Instr.loadAt, Instr.sureAddr, loadVar, TyD.agg, hd, hh.cell hb.mem, hc]
theorem run_loadCells_reads (P : Program) {w : World} {b off : Nat} {vs : List Value} (h : ∀ j v, vs[j]? = some v → w.cell? ⟨b, off + j, none⟩ = some v) : (loadCells ⟨b, off, none⟩ vs.length).run P w = .ok vs.toArray w :=
  run_loadCells_list (P := P) w ⟨b, off, none⟩ vs fun j v hv => by rw [addr_add]; exact h j v hv
theorem pv_loadK {dsc : TypeDesc} {b off k : Nat} {c : List Value} {T' : TypeId} {f : Nat × Nat} (vs : List Value) (hx : ev E x = some (.pointer (some ⟨b, off, none⟩))) [ht : TyD P T dsc] [hk : TyS P T k] (hd : aggD dsc = true)
    [hb : Blk L b (.cells c.toArray T' f)] (hl : vs.length = k) (hc : Reads c off vs) : Pv P n D E L ⟨d, .load T x, ty, pos, aft, g⟩ (.agg vs.toArray) := fun a w hs hh => by
  subst hl
  have h1 := run_loadCells_reads P (w := w) (b := b) (off := off) (vs := vs) fun j v hv => by rw [hh.cell hb.mem, List.getElem?_toArray]; exact hc.at_ j v hv
  simp [execOp, hs.ev hx, Instr.loadAt, Instr.sureAddr, loadVar, TyD.agg, TyS.run, hd, h1]
theorem fieldPlace_run {P : Program} {w : World} {b off : Nat} {f : Field} {k : Nat} [hk : TyS P f.type k] (h0 : Nat.beq k 0 = false) : (fieldPlace ⟨b, off, none⟩ f).run P w = .ok ⟨b, off + f.offset, none⟩ w := by
 have hk0 : k ≠ 0 := fun e => by subst e; simp at h0
 simp [fieldPlace, TyS.run, hk0, addr_add]
theorem pv_fieldAddr {S : TypeId} {i off U k b o : Nat} (hx : ev E x = some (.pointer (some ⟨b, o, none⟩))) [hf : TyFld P S i off U] [hk : TyS P U k] (h0 : Nat.beq k 0 = false) :
    Pv P n D E L ⟨d, .fieldAddr S x i, ty, pos, aft, g⟩ (.pointer (some ⟨b, o + off, none⟩)) := fun a w hs _ => by
  obtain ⟨fs, f, hu, hi, ho, hU⟩ := hf.eq
  subst ho; subst hU
  have ht : TyD P S (.struct fs) := ⟨hu⟩
  simp [execOp, hs.ev hx, Instr.fieldAt, TyD.run, hi, Instr.sureAddr, fieldPlace_run h0]
theorem pv_fieldAddr0 {S : TypeId} {i off U k b : Nat} (hx : ev E x = some (.pointer (some ⟨b, 0, none⟩))) [hf : TyFld P S i off U] [hk : TyS P U k] (h0 : Nat.beq k 0 = false) :
    Pv P n D E L ⟨d, .fieldAddr S x i, ty, pos, aft, g⟩ (.pointer (some ⟨b, off, none⟩)) := by simpa using pv_fieldAddr (o := 0) hx h0
theorem pv_field {S : TypeId} {i off U : Nat} {dsc : TypeDesc} {cs : List Value} (hx : ev E x = some (.agg cs.toArray)) [hf : TyFld P S i off U] [hu : TyD P U dsc] (hd : aggD dsc = false) (hc : nth cs off = some v) :
    Pv P n D E L ⟨d, .field S x i, ty, pos, aft, g⟩ v := fun a w hs _ => by
  obtain ⟨fs, f, hS, hi, ho, hU⟩ := hf.eq
  subst ho; subst hU
  have ht : TyD P S (.struct fs) := ⟨hS⟩
  rw [nth_eq] at hc
  simp [execOp, hs.ev hx, Instr.field, TyD.run, hi, part, asAgg, TyD.agg, hd, hc]
theorem pv_extract {vs : List Value} {i : Nat} (hx : ev E x = some (.tuple vs.toArray)) (hi : nth vs i = some v) : Pv P n D E L ⟨d, .extract x i, ty, pos, aft, g⟩ v := fun a w hs _ => by
 rw [nth_eq] at hi
 simp [execOp, hs.ev hx, Instr.extract, hi]
theorem pv_add {k : IntKind} {i j : Int} {xt yt : TypeId} (hx : ev E x = some (.int k i)) (hy : ev E y = some (.int k j)) {r : Int} (hr : k.wrap (i + j) = r) : Pv P n D E L ⟨d, .binOp .add xt x y yt, ty, pos, aft, g⟩ (.int k r) := fun a w hs _ => by
 subst hr; simp [execOp, hs.ev hx, hs.ev hy, binOp, eqGuard, Op.intArith]
theorem pv_sub {k : IntKind} {i j : Int} {xt yt : TypeId} (hx : ev E x = some (.int k i)) (hy : ev E y = some (.int k j)) {r : Int} (hr : k.wrap (i - j) = r) : Pv P n D E L ⟨d, .binOp .sub xt x y yt, ty, pos, aft, g⟩ (.int k r) := fun a w hs _ => by
 subst hr; simp [execOp, hs.ev hx, hs.ev hy, binOp, eqGuard, Op.intArith]
theorem pv_mul {k : IntKind} {i j : Int} {xt yt : TypeId} (hx : ev E x = some (.int k i)) (hy : ev E y = some (.int k j)) {r : Int} (hr : k.wrap (i * j) = r) : Pv P n D E L ⟨d, .binOp .mul xt x y yt, ty, pos, aft, g⟩ (.int k r) := fun a w hs _ => by
 subst hr; simp [execOp, hs.ev hx, hs.ev hy, binOp, eqGuard, Op.intArith]
theorem pv_quo {k : IntKind} {i j : Int} {xt yt : TypeId} (hx : ev E x = some (.int k i)) (hy : ev E y = some (.int k j)) (hj : j ≠ 0) {r : Int} (hr : k.wrap (i.tdiv j) = r) : Pv P n D E L ⟨d, .binOp .quo xt x y yt, ty, pos, aft, g⟩ (.int k r) := fun a w hs _ => by
 subst hr; simp [execOp, hs.ev hx, hs.ev hy, binOp, eqGuard, Op.intDiv, hj]
theorem pv_rem {k : IntKind} {i j : Int} {xt yt : TypeId} (hx : ev E x = some (.int k i)) (hy : ev E y = some (.int k j)) (hj : j ≠ 0) {r : Int} (hr : i.tmod j = r) : Pv P n D E L ⟨d, .binOp .rem xt x y yt, ty, pos, aft, g⟩ (.int k r) := fun a w hs _ => by
 subst hr; simp [execOp, hs.ev hx, hs.ev hy, binOp, eqGuard, Op.intDiv, hj]
def bitsI (op : BinOp) (k : IntKind) (i j : Int) : Int :=
  match op with
  | .and => k.wrap ((BitVec.ofInt k.bits i &&& BitVec.ofInt k.bits j).toNat : Int)
  | .or => k.wrap ((BitVec.ofInt k.bits i ||| BitVec.ofInt k.bits j).toNat : Int)
  | .xor => k.wrap ((BitVec.ofInt k.bits i ^^^ BitVec.ofInt k.bits j).toNat : Int)
  | _ => k.wrap ((BitVec.ofInt k.bits i &&& ~~~BitVec.ofInt k.bits j).toNat : Int)
theorem pv_and {k : IntKind} {i j : Int} {xt yt : TypeId} (hx : ev E x = some (.int k i)) (hy : ev E y = some (.int k j)) {r : Int} (hr : bitsI .and k i j = r) : Pv P n D E L ⟨d, .binOp .and xt x y yt, ty, pos, aft, g⟩ (.int k r) := fun a w hs _ => by
 subst hr; simp [execOp, hs.ev hx, hs.ev hy, binOp, eqGuard, Op.intBits, bitsI]
theorem pv_andNot {k : IntKind} {i j : Int} {xt yt : TypeId} (hx : ev E x = some (.int k i)) (hy : ev E y = some (.int k j)) {r : Int} (hr : bitsI .andNot k i j = r) : Pv P n D E L ⟨d, .binOp .andNot xt x y yt, ty, pos, aft, g⟩ (.int k r) := fun a w hs _ => by
 subst hr; simp [execOp, hs.ev hx, hs.ev hy, binOp, eqGuard, Op.intBits, bitsI]
theorem pv_shl {k k' : IntKind} {i j : Int} {xt yt : TypeId} (hx : ev E x = some (.int k i)) (hy : ev E y = some (.int k' j)) (hj : 0 ≤ j) {r : Int} (hr : k.wrap (i * 2 ^ (min j.toNat k.bits)) = r) : Pv P n D E L ⟨d, .binOp .shl xt x y yt, ty, pos, aft, g⟩ (.int k r) := fun a w hs _ => by
 subst hr; simp [execOp, hs.ev hx, hs.ev hy, binOp, eqGuard, Op.shift, Int.not_lt.2 hj]
theorem pv_shr {k k' : IntKind} {i j : Int} {xt yt : TypeId} (hx : ev E x = some (.int k i)) (hy : ev E y = some (.int k' j)) (hj : 0 ≤ j) {r : Int} (hr : i.fdiv (2 ^ (min j.toNat k.bits)) = r) : Pv P n D E L ⟨d, .binOp .shr xt x y yt, ty, pos, aft, g⟩ (.int k r) := fun a w hs _ => by
 subst hr; simp [execOp, hs.ev hx, hs.ev hy, binOp, eqGuard, Op.shift, Int.not_lt.2 hj]
theorem pv_lss {k : IntKind} {i j : Int} {xt yt : TypeId} (hx : ev E x = some (.int k i)) (hy : ev E y = some (.int k j)) : Pv P n D E L ⟨d, .binOp .lss xt x y yt, ty, pos, aft, g⟩ (.bool (decide (i < j))) := fun a w hs _ => by
 simp [execOp, hs.ev hx, hs.ev hy, binOp, eqGuard, Op.intCmp]
theorem pv_leq {k : IntKind} {i j : Int} {xt yt : TypeId} (hx : ev E x = some (.int k i)) (hy : ev E y = some (.int k j)) : Pv P n D E L ⟨d, .binOp .leq xt x y yt, ty, pos, aft, g⟩ (.bool (decide (i ≤ j))) := fun a w hs _ => by
 simp [execOp, hs.ev hx, hs.ev hy, binOp, eqGuard, Op.intCmp]
theorem pv_gtr {k : IntKind} {i j : Int} {xt yt : TypeId} (hx : ev E x = some (.int k i)) (hy : ev E y = some (.int k j)) : Pv P n D E L ⟨d, .binOp .gtr xt x y yt, ty, pos, aft, g⟩ (.bool (decide (j < i))) := fun a w hs _ => by
 simp [execOp, hs.ev hx, hs.ev hy, binOp, eqGuard, Op.intCmp]
theorem pv_geq {k : IntKind} {i j : Int} {xt yt : TypeId} (hx : ev E x = some (.int k i)) (hy : ev E y = some (.int k j)) : Pv P n D E L ⟨d, .binOp .geq xt x y yt, ty, pos, aft, g⟩ (.bool (decide (j ≤ i))) := fun a w hs _ => by
 simp [execOp, hs.ev hx, hs.ev hy, binOp, eqGuard, Op.intCmp]
theorem pv_eql {k : IntKind} {i j : Int} {xt yt : TypeId} (hx : ev E x = some (.int k i)) (hy : ev E y = some (.int k j)) : Pv P n D E L ⟨d, .binOp .eql xt x y yt, ty, pos, aft, g⟩ (.bool (decide (i = j))) := fun a w hs _ => by
 simp [execOp, hs.ev hx, hs.ev hy, binOp, eqGuard, Op.intCmp]
 exact Bool.beq_eq_decide_eq i j
theorem pv_neq {k : IntKind} {i j : Int} {xt yt : TypeId} (hx : ev E x = some (.int k i)) (hy : ev E y = some (.int k j)) : Pv P n D E L ⟨d, .binOp .neq xt x y yt, ty, pos, aft, g⟩ (.bool (decide (i ≠ j))) := fun a w hs _ => by
 simp [execOp, hs.ev hx, hs.ev hy, binOp, eqGuard, Op.intCmp, bne]
 exact Bool.beq_eq_decide_eq i j
theorem pv_not {b : Bool} {xt : TypeId} (hx : ev E x = some (.bool b)) : Pv P n D E L ⟨d, .unOp .not xt x, ty, pos, aft, g⟩ (.bool (!b)) := fun a w hs _ => by simp [execOp, hs.ev hx, Op.unary]
theorem pv_not_dec {p : Prop} [Decidable p] {xt : TypeId} (hx : ev E x = some (.bool (decide p))) : Pv P n D E L ⟨d, .unOp .not xt x, ty, pos, aft, g⟩ (.bool (decide (¬p))) := by
 have := pv_not (P := P) (n := n) (D := D) (L := L) (d := d) (ty := ty) (pos := pos) (aft := aft) (g := g) (xt := xt) hx
 rwa [← decide_not] at this
theorem pv_neg {k : IntKind} {i : Int} {xt : TypeId} (hx : ev E x = some (.int k i)) {r : Int} (hr : k.wrap (0 - i) = r) : Pv P n D E L ⟨d, .unOp .neg xt x, ty, pos, aft, g⟩ (.int k r) := fun a w hs _ => by subst hr; simp [execOp, hs.ev hx, Op.unary, Op.intArith]
end pv
def Wanted (ops : Array Oper) (E : Env) : Option (Nat × Bool) → Bool → Prop
  | none, r => r = true
  | some (j, want), r => ∃ t b, (ops[j]?).bind (·.dst) = some t ∧ look t E = some (.bool b) ∧ (b == want) = r
theorem wanted_of {ops : Array Oper} {n : Nat} {D : List Deferred} {E : Env} {a : Act} {o : Oper} {r : Bool} (h : Wanted ops E o.guard r) (hs : Sees n D E a) : Region.wanted o (yielded ops a.tmps) = r := by
 unfold Region.wanted
 cases hg : o.guard with
 | none => rw [hg] at h; exact Eq.symm h
 | some jw =>
  obtain ⟨j, want⟩ := jw
  rw [hg] at h
  obtain ⟨t, b, h1, h2, h3⟩ := h
  have : yielded ops a.tmps j = some b := by
   unfold yielded
   rw [h1]
   simp [hs.get t _ h2]
  simp only [this]
  rw [← h3]
  cases b <;> cases want <;> rfl
def Ef (P : Program) (W : World) (n : Nat) (D : List Deferred) (o : Oper) (E : Env) (L : Hp) (K : Env → Hp → Prop) : Prop :=
  ∀ (Q : Exit → Act → World → Prop) a w (next : Act → World → Prop), Sees n D E a → Own W w L →
    (∀ E' L' a' w', K E' L' → Sees n D E' a' → Own W w' L' → next a' w') → o.wp P a w next Q
section carry
variable {P : Program} {W : World} {ops : Array Oper} {Q : Exit → Act → World → Prop} {n : Nat} {D : List Deferred} {E : Env} {L : Hp} {rest : List Oper} {d : Nat} {op : Op} {ty : TypeId} {pos : String} {aft : Array Edge} {g : Option (Nat × Bool)} {v : Value} {K : Env → Hp → Prop}
theorem Ef.mono {o : Oper} {K' : Env → Hp → Prop} (h : Ef P W n D o E L K) (hk : ∀ E' L', K E' L' → K' E' L') : Ef P W n D o E L K' :=
  fun Q a w next hs ho hn => h Q a w next hs ho fun E' L' a' w' k => hn E' L' a' w' (hk _ _ k)
theorem Ef.of_pv (hp : Pv P n D E L ⟨some d, op, ty, pos, aft, g⟩ v) (hd : Nat.blt d n = true) : Ef P W n D ⟨some d, op, ty, pos, aft, g⟩ E L (fun E' L' => E' = (d, v) :: E ∧ L' = L) :=
  fun Q a w next hs ho hn => by
    unfold Oper.wp
    rw [hp a w hs ho.held]
    exact hn _ _ _ _ ⟨rfl, rfl⟩ (hs.put hd) ho
theorem Ops.ef {o : Oper} (hg : o.guard = none) (h : Ef P W n D o E L K) (hn : ∀ E' L', K E' L' → Ops P W ops Q n D rest E' L') : Ops P W ops Q n D (o :: rest) E L := fun a w hs ho =>
  wpList_plain hg fun K' hK' => h Q a w K' hs ho fun E' L' a' w' k hs' ho' => hK' _ _ (hn E' L' k a' w' hs' ho')
theorem Ops.efg {o : Oper} (hg : Wanted ops E o.guard true) (h : Ef P W n D o E L K) (hn : ∀ E' L', K E' L' → Ops P W ops Q n D rest E' L') : Ops P W ops Q n D (o :: rest) E L := fun a w hs ho =>
  wpList_step fun K' hK' => by
    rw [if_pos (wanted_of hg hs)]
    exact h Q a w K' hs ho fun E' L' a' w' k hs' ho' => hK' _ _ (hn E' L' k a' w' hs' ho')
theorem Ops.pv (hp : Pv P n D E L ⟨some d, op, ty, pos, aft, none⟩ v) (hd : Nat.blt d n = true) (hn : Ops P W ops Q n D rest ((d, v) :: E) L) : Ops P W ops Q n D (⟨some d, op, ty, pos, aft, none⟩ :: rest) E L :=
  Ops.ef rfl (Ef.of_pv hp hd) fun E' L' ⟨h1, h2⟩ => by subst h1; subst h2; exact hn
theorem Ops.pvg (hg : Wanted ops E g true) (hp : Pv P n D E L ⟨some d, op, ty, pos, aft, g⟩ v) (hd : Nat.blt d n = true) (hn : Ops P W ops Q n D rest ((d, v) :: E) L) : Ops P W ops Q n D (⟨some d, op, ty, pos, aft, g⟩ :: rest) E L :=
  Ops.efg hg (Ef.of_pv hp hd) fun E' L' ⟨h1, h2⟩ => by subst h1; subst h2; exact hn
theorem Ops.skipg (hg : Wanted ops E g false) (hd : Nat.blt d n = true) (hn : Ops P W ops Q n D rest ((d, undef) :: E) L) : Ops P W ops Q n D (⟨some d, op, ty, pos, aft, g⟩ :: rest) E L := fun a w hs ho =>
  wpList_step fun K' hK' => by
    rw [if_neg (by rw [wanted_of (o := ⟨some d, op, ty, pos, aft, g⟩) hg hs]; simp)]
    exact hK' _ _ (hn _ _ (hs.put hd) ho)
theorem Sees.set {t : Nat} {u : Value} {a : Act} (h : Sees n D E a) (hl : look t E = some u) (hu : u = v) : Sees n D ((t, v) :: E) a := by
 subst hu
 refine ⟨h.size, h.dfs, fun s x hx => ?_⟩
 simp only [look] at hx
 split at hx
 ·
  rename_i hb
  cases hx
  rw [← Nat.eq_of_beq_eq_true hb]
  exact h.get t u hl
 ·
  exact h.get s x hx
theorem Ops.setE {t : Nat} {u : Value} (hl : look t E = some u) (hu : u = v) (hn : Ops P W ops Q n D rest ((t, v) :: E) L) : Ops P W ops Q n D rest E L := fun a w hs ho => hn a w (hs.set hl hu) ho
theorem Wp.setE {c : Code} {t : Nat} {u : Value} (hl : look t E = some u) (hu : u = v) (hn : Wp P W Q n D c ((t, v) :: E) L) : Wp P W Q n D c E L := fun a w hs ho => hn a w (hs.set hl hu) ho
theorem Ends.setE {e : Exit} {t : Nat} {u : Value} (hl : look t E = some u) (hu : u = v) (hn : Ends W Q n D e ((t, v) :: E) L) : Ends W Q n D e E L := fun a w hs ho => hn a w (hs.set hl hu) ho
theorem Ops.split {t : Nat} {p : Prop} [Decidable p] (hl : look t E = some (.bool (decide p))) (ht : p → Ops P W ops Q n D rest ((t, .bool true) :: E) L) (hf : ¬p → Ops P W ops Q n D rest ((t, .bool false) :: E) L) :
    Ops P W ops Q n D rest E L := by
  by_cases h : p
  · exact .setE hl (by simp [h]) (ht h)
  · exact .setE hl (by simp [h]) (hf h)
end carry
section condt
variable {P : Program} {W : World} {Q : Exit → Act → World → Prop} {n : Nat} {D : List Deferred} {E : Env} {L : Hp}
theorem Wp.cond_t {t : Nat} {x y : Code} {b : Bool} (hc : look t E = some (.bool b)) (ht : b = true → Wp P W Q n D x ((t, .bool true) :: E) L) (hf : b = false → Wp P W Q n D y ((t, .bool false) :: E) L) :
    Wp P W Q n D (.cond (.tmp t) x y) E L := Wp.cond (c := .tmp t) hc (fun h => .setE hc (by rw [h]) (ht h)) (fun h => .setE hc (by rw [h]) (hf h))
theorem Wp.cond_dect {t : Nat} {x y : Code} {p : Prop} [Decidable p] (hc : look t E = some (.bool (decide p))) (ht : p → Wp P W Q n D x ((t, .bool true) :: E) L) (hf : ¬p → Wp P W Q n D y ((t, .bool false) :: E) L) :
    Wp P W Q n D (.cond (.tmp t) x y) E L := Wp.cond_t hc (fun h => ht (of_decide_eq_true h)) (fun h => hf (of_decide_eq_false h))
end condt
class Mixed (P : Program) : Prop where
  eq : P.follows .mixedOrders = true
class HeldSub (L S : Hp) : Prop where
  sub : ∀ p, p ∈ S → p ∈ L
instance (priority := 2000) HeldSub.refl {L : Hp} : HeldSub L L := ⟨fun _ h => h⟩
instance (priority := 1900) HeldSub.nil {L : Hp} : HeldSub L [] := ⟨fun _ h => by cases h⟩
instance (priority := 1800) HeldSub.tail {x : Nat × Obj} {L S : Hp} [h : HeldSub L S] : HeldSub (x :: L) S := ⟨fun p hp => List.mem_cons_of_mem _ (h.sub p hp)⟩
instance (priority := 1000) HeldSub.cons {b : Nat} {o : Obj} {L S : Hp} [h : Blk L b o] [k : HeldSub L S] : HeldSub L ((b, o) :: S) := ⟨fun p hp => by
  rcases List.mem_cons.1 hp with rfl | hp
  · exact h.mem
  · exact k.sub p hp⟩
class SegIn (L S : Hp) : Prop where
  sub : ∀ p, p ∈ S → p ∈ L
instance (priority := 1100) SegIn.all {L : Hp} : SegIn L L := ⟨fun _ h => h⟩
instance (priority := 1050) SegIn.head {S L : Hp} : SegIn (S ++ L) S := ⟨fun _ h => List.mem_append_left _ h⟩
instance (priority := 1000) SegIn.skip {x : Nat × Obj} {S L : Hp} [h : SegIn L S] : SegIn (x :: L) S := ⟨fun p hp => List.mem_cons_of_mem _ (h.sub p hp)⟩
instance (priority := 900) SegIn.skipApp {T S L : Hp} [h : SegIn L S] : SegIn (T ++ L) S := ⟨fun p hp => List.mem_append_right _ (h.sub p hp)⟩
instance (priority := 800) HeldSub.app {S T L : Hp} [h : SegIn L S] [k : HeldSub L T] : HeldSub L (S ++ T) := ⟨fun p hp => by
  rcases List.mem_append.1 hp with hp | hp
  · exact h.sub p hp
  · exact k.sub p hp⟩
instance (priority := 100) HeldSub.seg {S L : Hp} [h : SegIn L S] : HeldSub L S := ⟨h.sub⟩
theorem Own.heldSub {W w : World} {L S : Hp} (h : Own W w L) (s : HeldSub L S) : Held S w := fun p hp => h.get p (s.sub p hp)
def AnyH (P : Program) (W : World) (ops : Array Oper) (Q : Exit → Act → World → Prop) (n : Nat) (D : List Deferred) (S : Hp) (fuel : Nat) (listed : Array Bool) (E : Env) (L : Hp) : Prop :=
  ∀ a w, Sees n D E a → Own W w L → wpAnyH P .any ops Q (Held S) fuel listed a w
section any
variable {P : Program} {W : World} {ops : Array Oper} {Q : Exit → Act → World → Prop} {n : Nat} {D : List Deferred} {S : Hp} {fuel : Nat} {listed : Array Bool} {E : Env} {L : Hp} {d : Nat} {op : Op} {ty : TypeId} {pos : String} {aft : Array Edge} {g : Option (Nat × Bool)} {v : Value} {K : Env → Hp → Prop}
theorem AnyH.start {id : Nat} {l : List Oper} (S : Hp) (m : Nat) [hm : Mixed P] (hl : l.length = m) (h : AnyH P W l.toArray Q n D S m (Array.replicate m false) E L) : Wp P W Q n D (.region id l.toArray true) E L := fun a w hs ho =>
  wp_region_held hm.eq (by subst hl; exact h a _ hs (ho.drawn _))
theorem AnyH.startL {id : Nat} {l : List Oper} (m : Nat) [hm : Mixed P] (hl : l.length = m) (h : AnyH P W l.toArray Q n D L m (Array.replicate m false) E L) : Wp P W Q n D (.region id l.toArray true) E L :=
  AnyH.start L m hl h
def PanicsFree (Q : Exit → Act → World → Prop) : Prop := ∀ c a d v w, Q (.panic c) (a.put d v) w → Q (.panic c) a w
theorem AnyH.take (i : Nat) (hi : ops[i]? = some ⟨some d, op, ty, pos, aft, g⟩) (hsel : Region.noSelect ops = true) (hf : Region.free .any ops listed i = true) (hr : (Region.ready .any ops listed).contains i = true)
    (hQ : PanicsFree Q) (hg : Wanted ops E g true) [hS : HeldSub L S] (hp : Pv P n D E S ⟨some d, op, ty, pos, aft, g⟩ v) (hd : Nat.blt d n = true)
    (hn : AnyH P W ops Q n D S fuel (listed.setIfInBounds i true) ((d, v) :: E) L) : AnyH P W ops Q n D S (fuel + 1) listed E L := fun a w hs ho =>
  wpAnyH_take hi hsel hf hr (fun c a w => hQ c a _ v w) (.inl ⟨wanted_of (o := ⟨some d, op, ty, pos, aft, g⟩) hg hs, fun w' hw' => hp a w' hs hw'⟩) (ho.heldSub hS) (hn _ w (hs.put hd) ho)
theorem AnyH.taken (i : Nat) (hi : ops[i]? = some ⟨none, op, ty, pos, aft, g⟩) (hsel : Region.noSelect ops = true) (hf : Region.free .any ops listed i = true) (hr : (Region.ready .any ops listed).contains i = true)
    (hQ : PanicsFree Q) (hg : Wanted ops E g true) [hS : HeldSub L S] (hp : Pv P n D E S ⟨none, op, ty, pos, aft, g⟩ v)
    (hn : AnyH P W ops Q n D S fuel (listed.setIfInBounds i true) E L) : AnyH P W ops Q n D S (fuel + 1) listed E L := fun a w hs ho =>
  wpAnyH_take hi hsel hf hr (fun c a w => hQ c a _ v w) (.inl ⟨wanted_of (o := ⟨none, op, ty, pos, aft, g⟩) hg hs, fun w' hw' => hp a w' hs hw'⟩) (ho.heldSub hS) (hn _ w hs ho)
theorem AnyH.skip (i : Nat) (hi : ops[i]? = some ⟨some d, op, ty, pos, aft, g⟩) (hsel : Region.noSelect ops = true) (hf : Region.free .any ops listed i = true) (hr : (Region.ready .any ops listed).contains i = true)
    (hQ : PanicsFree Q) (hg : Wanted ops E g false) [hS : HeldSub L S] (hd : Nat.blt d n = true)
    (hn : AnyH P W ops Q n D S fuel (listed.setIfInBounds i true) ((d, undef) :: E) L) : AnyH P W ops Q n D S (fuel + 1) listed E L := fun a w hs ho =>
  wpAnyH_take hi hsel hf hr (fun c a w => hQ c a _ undef w) (.inr ⟨wanted_of (o := ⟨some d, op, ty, pos, aft, g⟩) hg hs, rfl⟩) (ho.heldSub hS) (hn _ w (hs.put hd) ho)
def Turn (P : Program) (W : World) (ops : Array Oper) (Q : Exit → Act → World → Prop) (n : Nat) (D : List Deferred) (S : Hp) (fuel : Nat) (listed : Array Bool) (i : Nat) (E : Env) (L : Hp) : Prop :=
  ∀ a w, Sees n D E a → Own W w L → wpOp P ops Q i (fun a' w' => Held S w' ∧ wpAnyH P .any ops Q (Held S) fuel (listed.setIfInBounds i true) a' w') a w
theorem AnyH.one (i : Nat) (hr : Region.ready .any ops listed = [i]) (h : Turn P W ops Q n D S fuel listed i E L) : AnyH P W ops Q n D S (fuel + 1) listed E L := fun a w hs ho =>
  wpAnyH_all hr (by simp) fun j hj => by
    obtain rfl : j = i := by simpa using hj
    exact h a w hs ho
theorem AnyH.two (i k : Nat) (hr : Region.ready .any ops listed = [i, k]) (h : Turn P W ops Q n D S fuel listed i E L) (h' : Turn P W ops Q n D S fuel listed k E L) : AnyH P W ops Q n D S (fuel + 1) listed E L := fun a w hs ho =>
  wpAnyH_all hr (by simp) fun j hj => by
    rcases (by simpa using hj : j = i ∨ j = k) with rfl | rfl
    · exact h a w hs ho
    · exact h' a w hs ho
theorem AnyH.three (i k m : Nat) (hr : Region.ready .any ops listed = [i, k, m]) (h : Turn P W ops Q n D S fuel listed i E L) (h' : Turn P W ops Q n D S fuel listed k E L) (h'' : Turn P W ops Q n D S fuel listed m E L) :
    AnyH P W ops Q n D S (fuel + 1) listed E L := fun a w hs ho =>
  wpAnyH_all hr (by simp) fun j hj => by
    rcases (by simpa using hj : j = i ∨ j = k ∨ j = m) with rfl | rfl | rfl
    · exact h a w hs ho
    · exact h' a w hs ho
    · exact h'' a w hs ho
theorem Turn.ef {i : Nat} {o : Oper} (hi : ops[i]? = some o) (hg : Wanted ops E o.guard true) (h : Ef P W n D o E L K) (hS : ∀ E' L', K E' L' → HeldSub L' S)
    (hn : ∀ E' L', K E' L' → AnyH P W ops Q n D S fuel (listed.setIfInBounds i true) E' L') : Turn P W ops Q n D S fuel listed i E L := fun a w hs ho => by
  unfold wpOp
  simp only [hi]
  rw [if_pos (wanted_of hg hs)]
  exact .inl (h Q a w _ hs ho fun E' L' a' w' k hs' ho' => ⟨ho'.heldSub (hS _ _ k), hn E' L' k a' w' hs' ho'⟩)
theorem AnyH.done (hr : Region.ready .any ops listed = []) (h : Ends W Q n D .normal E L) : AnyH P W ops Q n D S fuel listed E L := fun a w hs ho => wpAnyH_done hr (h a w hs ho) fuel
theorem AnyH.setE {t : Nat} {u : Value} (hl : look t E = some u) (hu : u = v) (hn : AnyH P W ops Q n D S fuel listed ((t, v) :: E) L) : AnyH P W ops Q n D S fuel listed E L := fun a w hs ho => hn a w (hs.set hl hu) ho
theorem AnyH.split {t : Nat} {p : Prop} [Decidable p] (hl : look t E = some (.bool (decide p))) (ht : p → AnyH P W ops Q n D S fuel listed ((t, .bool true) :: E) L) (hf : ¬p → AnyH P W ops Q n D S fuel listed ((t, .bool false) :: E) L) :
    AnyH P W ops Q n D S fuel listed E L := by
  by_cases h : p
  · exact .setE hl (by simp [h]) (ht h)
  · exact .setE hl (by simp [h]) (hf h)
end any
theorem pf_body {P : Program} {fn : Func} {R : Ending → World → Prop} : PanicsFree (bodyPost P fn R) := fun c a d v w h => by cases d <;> exact h
class PF (Q : Exit → Act → World → Prop) : Prop where
  pf : PanicsFree Q
instance PF.body {P : Program} {fn : Func} {R : Ending → World → Prop} : PF (bodyPost P fn R) := ⟨pf_body⟩
instance PF.then_ {Q : Exit → Act → World → Prop} {K : Act → World → Prop} [h : PF Q] : PF (Exit.then K Q) := ⟨h.pf⟩
instance PF.block_ {Q : Exit → Act → World → Prop} {id : Nat} [h : PF Q] : PF (Exit.inBlock id Q) := ⟨h.pf⟩
class SetL (l : List Value) (i : Nat) (vs : List Value) (l' : outParam (List Value)) : Prop where
  len : l'.length = l.length
  le : i + vs.length ≤ l.length
  at_ : ∀ j, l'[j]? = if i ≤ j ∧ j < i + vs.length then vs[j - i]? else l[j]?
instance (priority := 1000) SetL.nil {l : List Value} : SetL l 0 [] l := ⟨rfl, by simp, fun j => by simp⟩
instance (priority := 900) SetL.cons {x v : Value} {l vs l' : List Value} [h : SetL l 0 vs l'] : SetL (x :: l) 0 (v :: vs) (v :: l') :=
  ⟨by simp [h.len], by have := h.le; simp at this ⊢; omega, fun j => by
    cases j with
    | zero => simp
    | succ j =>
      have := h.at_ j
      simp only [Nat.zero_le, true_and, Nat.zero_add, Nat.sub_zero] at this
      simp [this]⟩
instance (priority := 800) SetL.succ {x : Value} {l vs l' : List Value} {i : Nat} [h : SetL l i vs l'] : SetL (x :: l) (i + 1) vs (x :: l') :=
  ⟨by simp [h.len], by have := h.le; simp at this ⊢; omega, fun j => by
    cases j with
    | zero => simp
    | succ j =>
      have := h.at_ j
      simp only [List.getElem?_cons_succ, this]
      by_cases hh : i ≤ j ∧ j < i + vs.length
      · rw [if_pos hh, if_pos (by omega)]; rw [show j + 1 - (i + 1) = j - i by omega]
      · rw [if_neg hh, if_neg (by omega)]⟩
theorem Own.upd {W w w' : World} {L L' : Hp} {b : Nat} {o' : Obj} (h : Own W w L) (u : Upd L b o' L') (hos : w'.os = w.os) (ht : w'.tape = w.tape) (hout : w'.output = w.output)
    (hb : w'.heap[b]? = some o') (hne : ∀ k, k ≠ b → w'.heap[k]? = w.heap[k]?) : Own W w' L' := by
  obtain ⟨A, B, o, h1, h2⟩ := u.eq
  subst h1; subst h2
  exact h.set hos ht hout hb hne
def storeW (w : World) (b : Nat) (c' : List Value) (T : TypeId) : World := { w with heap := w.heap.setIfInBounds b (.cells c'.toArray T) }
theorem run_storeCells (P : Program) (b off : Nat) (T : TypeId) : ∀ (vs : List Value) (i : Nat) (c : List Value) (w : World),
    w.heap[b]? = some (.cells c.toArray T) → off + i + vs.length ≤ c.length → (∀ v ∈ vs, v.oneCell' = true) →
    (storeCells ⟨b, off, none⟩ vs i).run P w = .ok () (storeW w b (c.take (off + i) ++ vs ++ c.drop (off + i + vs.length)) T)
  | [], i, c, w, hb, hl, h1 => by
    simp only [storeCells, Sem.run_pure, List.append_nil, List.length_nil, Nat.add_zero, List.take_append_drop, storeW]
    congr 1
    cases w with
    | mk heap tape drawn os output =>
      simp only at hb ⊢
      congr 1
      apply Array.ext_getElem?
      intro j
      rw [Array.getElem?_setIfInBounds]
      split
      · rename_i hj; subst hj
        split
        · exact hb
        · rename_i hlt; rw [Array.getElem?_eq_none (by omega)] at hb; cases hb
      · rfl
  | v :: vs, i, c, w, hb, hl, h1 => by
    have hv := h1 v (List.mem_cons_self ..)
    simp only [List.length_cons] at hl
    have hcell : w.cell? ⟨b, off + i, none⟩ = some c[off + i] := by
      simp [World.cell?, hb]
    have hfz : w.frozen? ⟨b, off + i, none⟩ = false := by simp [World.frozen?, hb]
    have hw : w.setCell ⟨b, off + i, none⟩ v = storeW w b (c.set (off + i) v) T := by
      unfold World.setCell storeW
      congr 1
      apply Array.ext_getElem?
      intro j
      rw [Array.getElem?_modify, Array.getElem?_setIfInBounds]
      split
      · rename_i hj; subst hj
        have hlt : b < w.heap.size := by
          rcases Nat.lt_or_ge b w.heap.size with h | h
          · exact h
          · rw [Array.getElem?_eq_none h] at hb; cases hb
        have hb' : w.heap[b] = Obj.cells c.toArray T := by
          rw [Array.getElem?_eq_getElem hlt] at hb; exact Option.some.inj hb
        simp [hlt, hb']
      · rfl
    have hsz : b < w.heap.size := by
      rcases Nat.lt_or_ge b w.heap.size with h | h
      · exact h
      · rw [Array.getElem?_eq_none h] at hb; cases hb
    simp only [storeCells, Sem.run_bind, addr_add, run_store P w _ v .plain hv, hcell, hfz, Bool.false_eq_true, if_false, Result.andThen_ok, hw]
    rw [run_storeCells P b off T vs (i + 1) (c.set (off + i) v) _ (by simp [storeW, hsz]) (by simp; omega) (fun u hu => h1 u (List.mem_cons_of_mem _ hu))]
    have e1 : (c.set (off + i) v).take (off + (i + 1)) = c.take (off + i) ++ [v] := by
      rw [List.take_set, show off + (i + 1) = off + i + 1 by omega, List.take_succ_eq_append_getElem (by omega)]
      rw [List.set_append_right _ _ (by simp; omega)]
      simp [Nat.min_eq_left (show off + i ≤ c.length by omega)]
    have e2 : (c.set (off + i) v).drop (off + (i + 1) + vs.length) = c.drop (off + i + (vs.length + 1)) := by
      rw [List.drop_set_of_lt (by omega), show off + (i + 1) + vs.length = off + i + (vs.length + 1) by omega]
    rw [e1, e2]
    simp [storeW]
theorem SetL.eq {l : List Value} {i : Nat} {vs l' : List Value} (h : SetL l i vs l') : l.take i ++ vs ++ l.drop (i + vs.length) = l' := by
 apply List.ext_getElem?
 intro j
 rw [h.at_ j]
 have hle := h.le
 by_cases h1 : j < i
 ·
  rw [if_neg (by omega), List.append_assoc, List.getElem?_append_left (by simp; omega), List.getElem?_take, if_pos h1]
 ·
  by_cases h2 : j < i + vs.length
  ·
   rw [if_pos (by omega), List.append_assoc, List.getElem?_append_right (by simp; omega), List.getElem?_append_left (by simp; omega)]
   congr 1
   simp; omega
  ·
   rw [if_neg (by omega), List.getElem?_append_right (by simp; omega), List.getElem?_drop]
   congr 1
   simp; omega
section ef
variable {P : Program} {W : World} {n : Nat} {D : List Deferred} {E : Env} {L : Hp} {d : Nat} {ty : TypeId} {pos : String} {aft : Array Edge} {g : Option (Nat × Bool)} {T : TypeId} {x y : Operand} {v : Value}
theorem ef_box {cs : List Value} (hx : ev E x = some v) (hd : Nat.blt d n = true) (hv : v.cells = cs.toArray) :
    Ef P W n D ⟨some d, .box T x, ty, pos, aft, g⟩ E L (fun E' L' => ∃ b, E' = (d, .pointer (some ⟨b, 0, none⟩)) :: E ∧ L' = (b, .cells cs.toArray T) :: L) := fun Q a w next hs ho hn => by
  unfold Oper.wp
  have : (execOp a.eval ⟨some d, .box T x, ty, pos, aft, g⟩).run P w = .ok (.value (.pointer (some ⟨w.heap.size, 0, none⟩))) (w.alloc (.cells cs.toArray T)) := by
    simp [execOp, hs.ev hx, Instr.box, newVar, newRow, hv]
  rw [this]
  exact hn _ _ _ _ ⟨_, rfl, rfl⟩ (hs.put hd) (ho.alloc _)
theorem ef_box1 (hx : ev E x = some v) (hd : Nat.blt d n = true) (hv : v.cells = #[v]) :
    Ef P W n D ⟨some d, .box T x, ty, pos, aft, g⟩ E L (fun E' L' => ∃ b, E' = (d, .pointer (some ⟨b, 0, none⟩)) :: E ∧ L' = (b, .cells [v].toArray T) :: L) := ef_box hx hd hv
theorem ef_boxK {cs : List Value} (hx : ev E x = some (.agg cs.toArray)) (hd : Nat.blt d n = true) :
    Ef P W n D ⟨some d, .box T x, ty, pos, aft, g⟩ E L (fun E' L' => ∃ b, E' = (d, .pointer (some ⟨b, 0, none⟩)) :: E ∧ L' = (b, .cells cs.toArray T) :: L) := ef_box hx hd rfl
theorem ef_alloc {z : Value} {cs : List Value} (hz : TyZ P T z) (hd : Nat.blt d n = true) (hv : z.cells = cs.toArray) :
    Ef P W n D ⟨some d, .alloc T, ty, pos, aft, g⟩ E L (fun E' L' => ∃ b, E' = (d, .pointer (some ⟨b, 0, none⟩)) :: E ∧ L' = (b, .cells cs.toArray T) :: L) := fun Q a w next hs ho hn => by
  unfold Oper.wp
  have : (execOp a.eval ⟨some d, .alloc T, ty, pos, aft, g⟩).run P w = .ok (.value (.pointer (some ⟨w.heap.size, 0, none⟩))) (w.alloc (.cells cs.toArray T)) := by
    simp [execOp, Instr.alloc, TyZ.run, newVar, newRow, hv]
  rw [this]
  exact hn _ _ _ _ ⟨_, rfl, rfl⟩ (hs.put hd) (ho.alloc _)
theorem ef_alloc1 {z : Value} (hz : TyZ P T z) (hd : Nat.blt d n = true) (hv : z.cells = #[z]) :
    Ef P W n D ⟨some d, .alloc T, ty, pos, aft, g⟩ E L (fun E' L' => ∃ b, E' = (d, .pointer (some ⟨b, 0, none⟩)) :: E ∧ L' = (b, .cells [z].toArray T) :: L) := ef_alloc hz hd hv
theorem ef_allocK {cs : List Value} (hz : TyZ P T (.agg cs.toArray)) (hd : Nat.blt d n = true) :
    Ef P W n D ⟨some d, .alloc T, ty, pos, aft, g⟩ E L (fun E' L' => ∃ b, E' = (d, .pointer (some ⟨b, 0, none⟩)) :: E ∧ L' = (b, .cells cs.toArray T) :: L) := ef_alloc hz hd rfl
theorem ef_store {k b off : Nat} {c c' vs : List Value} {T' : TypeId} {L' : Hp} [hk : TyS P T k] (hx : ev E x = some (.pointer (some ⟨b, off, none⟩))) (hy : ev E y = some v) (hv : v.cells = vs.toArray) (hkl : vs.length = k)
    (h1 : vs.all Value.oneCell' = true) [hb : Blk L b (.cells c.toArray T')] [hset : SetL c off vs c'] [hu : Upd L b (.cells c'.toArray T') L'] :
    Ef P W n D ⟨none, .store T x y, ty, pos, aft, g⟩ E L (fun E1 L1 => E1 = E ∧ L1 = L') := fun Q a w next hs ho hn => by
  unfold Oper.wp
  have hbl := ho.get _ hb.mem
  have hst := run_storeCells P b off T' vs 0 c w hbl (by have := hset.le; omega) (by simpa using h1)
  have he : (execOp a.eval ⟨none, .store T x y, ty, pos, aft, g⟩).run P w = .ok .skip (storeW w b c' T') := by
    simp only [execOp, hs.ev hx, hs.ev hy, Instr.storeAt, Instr.sureAddr, storeVar, Sem.run_bind, Sem.run_pure, Result.andThen_ok, TyS.run, hv, List.size_toArray, hkl, ne_eq, not_true_eq_false, if_false]
    rw [hst]
    simp only [Nat.add_zero, hset.eq, Result.andThen_ok]
  rw [he]
  have hlt := ho.lt hb.mem
  refine hn _ _ _ _ ⟨rfl, rfl⟩ hs (ho.upd hu rfl rfl rfl (by simp [storeW, hlt]) fun j hj => ?_)
  simp [storeW, Array.getElem?_setIfInBounds_ne (Ne.symm hj)]
theorem ef_store1 {b off : Nat} {c c' : List Value} {T' : TypeId} {L' : Hp} [hk : TyS P T 1] (hx : ev E x = some (.pointer (some ⟨b, off, none⟩))) (hy : ev E y = some v) (hv : v.cells = #[v]) (h1 : v.oneCell' = true)
    [hb : Blk L b (.cells c.toArray T')] [hset : SetL c off [v] c'] [hu : Upd L b (.cells c'.toArray T') L'] :
    Ef P W n D ⟨none, .store T x y, ty, pos, aft, g⟩ E L (fun E1 L1 => E1 = E ∧ L1 = L') := ef_store (vs := [v]) hx hy hv rfl (by simp [h1])
theorem ef_storeK {k b off : Nat} {c c' vs : List Value} {T' : TypeId} {L' : Hp} [hk : TyS P T k] (hx : ev E x = some (.pointer (some ⟨b, off, none⟩))) (hy : ev E y = some (.agg vs.toArray)) (hkl : vs.length = k)
    (h1 : vs.all Value.oneCell' = true) [hb : Blk L b (.cells c.toArray T')] [hset : SetL c off vs c'] [hu : Upd L b (.cells c'.toArray T') L'] :
    Ef P W n D ⟨none, .store T x y, ty, pos, aft, g⟩ E L (fun E1 L1 => E1 = E ∧ L1 = L') := ef_store hx hy rfl hkl h1
theorem run_callFunc {f : FuncId} [hf : GoFn P f] (args : Array Value) (w : World) : (callFunc f args).run P w = .ok (.enter f args) w := by
 obtain ⟨fn, h1, h2, h3⟩ := hf.eq
 have h2' : ¬ fn.name = "runtime.NumGoroutine" := by simpa using h2
 have h3' : ¬ fn.body = none := by intro e; rw [e] at h3; cases h3
 simp [callFunc, h1, h2', h3']
theorem ef_call {f : FuncId} {xs : List Operand} {ats : Array TypeId} {args : List Value} {Lp F : Hp} {R : Value → Hp → Prop} (ht : Tr P f args Lp R) [hf : GoFn P f] (hx : evs E xs = some args) (hd : Nat.blt d n = true) [hp : Part L Lp F] :
    Ef P W n D ⟨some d, .call { callee := .value (.func f), args := xs.toArray, argTypes := ats }, ty, pos, aft, g⟩ E L (fun E' L' => ∃ v L1, R v L1 ∧ E' = (d, v) :: E ∧ L' = L1 ++ F) := fun Q a w next hs ho hn => by
  unfold Oper.wp
  rw [execOp_call_go]
  have e : (#[] ++ xs.toArray.map a.eval ++ #[] : Array Value) = args.toArray := by simp [hs.evs hx]
  rw [e, run_callFunc]
  refine (ht W w F (ho.part hp)).mono ?_
  rintro e' w' ⟨v, L1, rfl, hR, ho'⟩
  exact hn _ _ _ _ ⟨v, L1, hR, rfl, rfl⟩ (hs.put hd) ho'
theorem ef_makeMap {x : Option Operand} (hd : Nat.blt d n = true) (hx : x = none) :
    Ef P W n D ⟨some d, .makeMap T x, ty, pos, aft, g⟩ E L (fun E' L' => ∃ b, E' = (d, .map (some b)) :: E ∧ L' = (b, .map #[] 0) :: L) := fun Q a w next hs ho hn => by
  subst hx
  unfold Oper.wp
  have : (execOp a.eval ⟨some d, .makeMap T none, ty, pos, aft, g⟩).run P w = .ok (.value (.map (some w.heap.size))) (w.alloc (.map #[] 0)) := by
    simp [execOp, Instr.makeMap]
  rw [this]
  exact hn _ _ _ _ ⟨_, rfl, rfl⟩ (hs.put hd) (ho.alloc _)
end ef
section pv2
variable {P : Program} {n : Nat} {D : List Deferred} {E : Env} {L : Hp} {d : Option Tmp} {ty : TypeId} {pos : String} {aft : Array Edge} {g : Option (Nat × Bool)} {T : TypeId} {x y z : Operand} {v u : Value}
theorem run_eql_ptr_nil {P : Program} {T : TypeId} {e : TypeId} [h : TyD P T (.pointer e)] (p : Option Addr) (w : World) : (Op.equal T (.pointer p) (.pointer none)).run P w = .ok p.isNone w := by
 have key : ∀ d, (Op.equalIn (d + 1) T (.pointer p) (.pointer none)).run P w = .ok p.isNone w := fun d => by
  cases p <;> simp [Op.equalIn, TyD.run]
 exact key 9999
theorem pv_eql_nil {p : Option Addr} {e : TypeId} {yt : TypeId} (hx : ev E x = some (.pointer p)) (hy : ev E y = some (.pointer none)) [h : TyD P T (.pointer e)] :
    Pv P n D E L ⟨d, .binOp .eql T x y yt, ty, pos, aft, g⟩ (.bool p.isNone) := fun a w hs _ => by
  simp [execOp, hs.ev hx, hs.ev hy, eqGuard, binOp, run_eql_ptr_nil]
theorem pv_neq_nil {p : Option Addr} {e : TypeId} {yt : TypeId} (hx : ev E x = some (.pointer p)) (hy : ev E y = some (.pointer none)) [h : TyD P T (.pointer e)] :
    Pv P n D E L ⟨d, .binOp .neq T x y yt, ty, pos, aft, g⟩ (.bool p.isSome) := fun a w hs _ => by
  simp [execOp, hs.ev hx, hs.ev hy, eqGuard, binOp, run_eql_ptr_nil]
end pv2
section maps
variable {κ : Type} [DecidableEq κ]
def entsL (enc : κ → Value) (l : List (κ × Value × Nat)) : List MapEntry := l.map fun e => { key := enc e.1, val := e.2.1, born := e.2.2 }
def mapO (enc : κ → Value) (l : List (κ × Value × Nat)) (clock : Nat) : Obj := .map (entsL enc l).toArray clock
def fidx (k : κ) : List (κ × Value × Nat) → Nat → Option (Nat × Value)
  | [], _ => none
  | e :: l, i => if k = e.1 then some (i, e.2.1) else fidx k l (i + 1)
def mget (k : κ) : List (κ × Value × Nat) → Option Value
  | [] => none
  | e :: l => if k = e.1 then some e.2.1 else mget k l
def mput (k : κ) (v : Value) (t : Nat) : List (κ × Value × Nat) → List (κ × Value × Nat)
  | [] => [(k, v, t)]
  | e :: l => if k = e.1 then (e.1, v, e.2.2) :: l else e :: mput k v t l
def mdel (k : κ) : List (κ × Value × Nat) → List (κ × Value × Nat)
  | [] => []
  | e :: l => if k = e.1 then l else e :: mdel k l
theorem fidx_get (k : κ) : ∀ (l : List (κ × Value × Nat)) (i : Nat), (fidx k l i).map (·.2) = mget k l
  | [], _ => rfl
  | e :: l, i => by
    simp only [fidx, mget]
    split
    · rfl
    · exact fidx_get k l (i + 1)
class KeyTy (P : Program) (K : Nat) (enc : κ → Value) : Prop where
  check : ∀ b k w, (Instr.checkKey b 10000 K (enc k)).run P w = .ok () w
  find : ∀ k l w, (Instr.findKey K (enc k) (entsL enc l)).run P w = .ok (fidx k l 0) w
  stay : ∀ k w, (Instr.keyThatStays (enc k) (enc k)).run P w = .ok (enc k) w
def encI (k : Int) : Value := .int .i64 k
theorem findNow_int {kd : IntKind} (k : Int) : ∀ (l : List (Int × Value × Nat)) (i : Nat), Instr.findNow (.int kd) (encI k) (entsL encI l) i = some (fidx k l i)
  | [], i => rfl
  | e :: l, i => by
    simp only [entsL, List.map_cons, Instr.findNow, encI, Instr.sameNow, if_true, fidx]
    by_cases h : k = e.1
    · simp [h]
    · have hb : (k == e.1) = false := by simpa using h
      simp only [hb, h, if_false]
      exact findNow_int k l (i + 1)
instance KeyTy.int {P : Program} {K : TypeId} {kd : IntKind} [h : TyD P K (.int kd)] : KeyTy P K encI where
  check b k w := by
    have key : ∀ d, (Instr.checkKey b (d + 1) K (encI k)).run P w = .ok () w := fun d => by simp [Instr.checkKey, TyD.run, encI]
    exact key 9999
  find k l w := by simp only [Instr.findKey, Sem.run_bind, TyD.run, Result.andThen_ok, findNow_int, Sem.run_pure]
  stay k w := by simp [Instr.keyThatStays, Instr.sameBits, encI]
theorem run_lookup {P : Program} {T K V : TypeId} [hT : TyD P T (.map K V)] {enc : κ → Value} [hk : KeyTy P K enc] {z : Value} [hz : TyZ P V z] {w : World} {b : Nat} {l : List (κ × Value × Nat)} {cl : Nat}
    (hb : w.heap[b]? = some (mapO enc l cl)) (k : κ) (ok : Bool) :
    (Instr.lookup T (.map (some b)) (enc k) ok).run P w = .ok (if ok then .tuple #[(mget k l).getD z, .bool (mget k l).isSome] else (mget k l).getD z) w := by
  have hg : (getObj b).run P w = .ok (mapO enc l cl) w := by simp only [getObj, Sem.run, hb, mapO]
  simp only [Instr.lookup, Sem.run_bind, TyD.run, Result.andThen_ok, hg, mapO, Sem.run_pure, hk.check, hk.find]
  rw [← fidx_get k l 0]
  cases fidx k l 0 <;> simp [TyZ.run]
theorem fidx_ge (k : κ) : ∀ (l : List (κ × Value × Nat)) (i j : Nat) (v : Value), fidx k l i = some (j, v) → i ≤ j
  | [], i, j, v, h => by cases h
  | e :: l, i, j, v, h => by
    simp only [fidx] at h
    split at h
    · cases h; exact Nat.le_refl _
    · have := fidx_ge k l (i + 1) j v h; omega
theorem fidx_put (k : κ) (v : Value) (t : Nat) (enc : κ → Value) : ∀ (l : List (κ × Value × Nat)) (i : Nat),
    (match fidx k l i with | some (j, _) => (entsL enc l).modify (j - i) (fun e => { e with key := enc k, val := v }) | none => entsL enc l ++ [{ key := enc k, val := v, born := t }]) = entsL enc (mput k v t l)
  | [], i => rfl
  | e :: l, i => by
    have ih := fidx_put k v t enc l (i + 1)
    simp only [fidx, mput]
    by_cases h : k = e.1
    · simp [h, entsL]
    · simp only [h, if_false]
      simp only [entsL, List.map_cons] at ih ⊢
      rw [← ih]
      cases hf : fidx k l (i + 1) with
      | none => rfl
      | some jv =>
        obtain ⟨j, u⟩ := jv
        have := fidx_ge k l (i + 1) j u hf
        simp only
        rw [show j - i = (j - (i + 1)) + 1 by omega]
        rfl
def mclk (k : κ) (l : List (κ × Value × Nat)) (cl : Nat) : Nat := if (mget k l).isSome then cl else cl + 1
theorem fidx_key (enc : κ → Value) (k : κ) : ∀ (l : List (κ × Value × Nat)) (i j : Nat) (v : Value), fidx k l i = some (j, v) → ((entsL enc l)[j - i]?).map (·.key) = some (enc k)
  | [], i, j, v, h => by cases h
  | e :: l, i, j, v, h => by
    simp only [fidx] at h
    split at h
    · rename_i hk; cases h; subst hk; simp [entsL]
    · have hge := fidx_ge k l (i + 1) j v h
      have := fidx_key enc k l (i + 1) j v h
      rw [show j - i = (j - (i + 1)) + 1 by omega]
      simpa [entsL] using this
theorem run_mapUpdate {P : Program} {T K V : TypeId} [hT : TyD P T (.map K V)] {enc : κ → Value} [hk : KeyTy P K enc] {w : World} {b : Nat} {l : List (κ × Value × Nat)} {cl : Nat}
    (hb : w.heap[b]? = some (mapO enc l cl)) (k : κ) (v : Value) :
    (Instr.mapUpdate T (.map (some b)) (enc k) v).run P w = .ok () { w with heap := w.heap.setIfInBounds b (mapO enc (mput k v cl l) (mclk k l cl)) } := by
  have hg : (getObj b).run P w = .ok (mapO enc l cl) w := by simp only [getObj, Sem.run, hb, mapO]
  have hs : ∀ es c, (setObj b (.map es c)).run P w = .ok () { w with heap := w.heap.setIfInBounds b (.map es c) } := fun es c => by simp only [setObj, Sem.run, hb, mapO]
  have hput := fidx_put k v cl enc l 0
  have hget := fidx_get k l 0
  simp only [Instr.mapUpdate, Sem.run_bind, TyD.run, Result.andThen_ok, hg, mapO, hk.check, hk.find]
  cases hf : fidx k l 0 with
  | none =>
    simp only [hf] at hput hget
    have hm : (mget k l).isSome = false := by rw [← hget]; rfl
    simp only [hs, mclk, hm, Bool.false_eq_true, if_false]
    rw [← hput]
    simp
  | some jv =>
    obtain ⟨j, u⟩ := jv
    simp only [hf, Nat.sub_zero] at hput hget
    have hm : (mget k l).isSome = true := by rw [← hget]; rfl
    have hkey := fidx_key enc k l 0 j u hf
    simp only [Nat.sub_zero] at hkey
    have hkey' : (((entsL enc l).toArray[j]?).map (·.key)).getD (enc k) = enc k := by
      simp only [List.getElem?_toArray, hkey, Option.getD_some]
    simp only [Sem.run_bind, hkey', hk.stay, Result.andThen_ok, hs, mclk, hm, if_true]
    rw [← hput]
    simp
theorem fidx_del (k : κ) (enc : κ → Value) : ∀ (l : List (κ × Value × Nat)) (i : Nat),
    (match fidx k l i with | some (j, _) => (entsL enc l).eraseIdx (j - i) | none => entsL enc l) = entsL enc (mdel k l)
  | [], i => rfl
  | e :: l, i => by
    have ih := fidx_del k enc l (i + 1)
    simp only [fidx, mdel]
    by_cases h : k = e.1
    · simp [h, entsL]
    · simp only [h, if_false]
      simp only [entsL, List.map_cons] at ih ⊢
      rw [← ih]
      cases hf : fidx k l (i + 1) with
      | none => rfl
      | some jv =>
        obtain ⟨j, u⟩ := jv
        have := fidx_ge k l (i + 1) j u hf
        simp only
        rw [show j - i = (j - (i + 1)) + 1 by omega]
        rfl
theorem run_delete {P : Program} {T K V ty : TypeId} {ats : Array TypeId} [hT : TyD P T (.map K V)] {enc : κ → Value} [hk : KeyTy P K enc] {w : World} {b : Nat} {l : List (κ × Value × Nat)} {cl : Nat}
    (hb : w.heap[b]? = some (mapO enc l cl)) (k : κ) (h0 : ats[0]? = some T) :
    (Builtin.delete_ ats ty #[.map (some b), enc k]).run P w = .ok (.tuple #[]) { w with heap := w.heap.setIfInBounds b (mapO enc (mdel k l) cl) } := by
  have hg : (getObj b).run P w = .ok (mapO enc l cl) w := by simp only [getObj, Sem.run, hb, mapO]
  have hs : ∀ es c, (setObj b (.map es c)).run P w = .ok () { w with heap := w.heap.setIfInBounds b (.map es c) } := fun es c => by simp only [setObj, Sem.run, hb, mapO]
  have hd := fidx_del k enc l 0
  simp only [Builtin.delete_, h0, List.getElem?_toArray, List.getElem?_cons_zero, List.getElem?_cons_succ, Sem.run_bind, TyD.run, Result.andThen_ok, hg, mapO, hk.check, hk.find]
  cases hf : fidx k l 0 with
  | none =>
    simp only [hf] at hd
    simp only [Sem.run_bind, hs, Result.andThen_ok, Sem.run_pure]
    rw [← hd]
  | some jv =>
    obtain ⟨j, u⟩ := jv
    simp only [hf, Nat.sub_zero] at hd
    have hkey := fidx_key enc k l 0 j u hf
    have hlt : j < (entsL enc l).length := by
      rcases Nat.lt_or_ge j (entsL enc l).length with h | h
      · exact h
      · simp only [Nat.sub_zero] at hkey; rw [List.getElem?_eq_none h] at hkey; cases hkey
    simp only [Sem.run_bind, hs, Result.andThen_ok, Sem.run_pure]
    rw [← hd]
    simp [Array.eraseIdxIfInBounds, hlt]
end maps
section mapops
variable {P : Program} {W : World} {n : Nat} {D : List Deferred} {E : Env} {L : Hp} {ty : TypeId} {pos : String} {aft : Array Edge} {g : Option (Nat × Bool)} {T : TypeId} {x y z : Operand} {v u : Value}
variable {κ : Type} [DecidableEq κ]
theorem pv_lookup {d : Option Tmp} {K V : TypeId} {enc : κ → Value} {b cl : Nat} {l : List (κ × Value × Nat)} {zv : Value} (k : κ) (hx : ev E x = some (.map (some b))) (hy : ev E y = some (enc k)) [hT : TyD P T (.map K V)] [hk : KeyTy P K enc] [hz : TyZ P V zv]
    [hb : Blk L b (mapO enc l cl)] {r : Value} (hr : (mget k l).getD zv = r) : Pv P n D E L ⟨d, .lookup T x y false, ty, pos, aft, g⟩ r := fun a w hs hh => by
  subst hr
  simp only [execOp, hs.ev hx, hs.ev hy, Sem.run_bind, run_lookup (hh _ hb.mem), Result.andThen_ok, Sem.run_pure, Bool.false_eq_true, if_false]
theorem ef_mapUpdate {K V : TypeId} {enc : κ → Value} {b cl : Nat} {l : List (κ × Value × Nat)} {L' : Hp} (k : κ) (hx : ev E x = some (.map (some b))) (hy : ev E y = some (enc k)) (hz : ev E z = some v) [hT : TyD P T (.map K V)] [hk : KeyTy P K enc]
    [hb : Blk L b (mapO enc l cl)] [hu : Upd L b (mapO enc (mput k v cl l) (mclk k l cl)) L'] :
    Ef P W n D ⟨none, .mapUpdate T x y z, ty, pos, aft, g⟩ E L (fun E1 L1 => E1 = E ∧ L1 = L') := fun Q a w next hs ho hn => by
  unfold Oper.wp
  have he : (execOp a.eval ⟨none, .mapUpdate T x y z, ty, pos, aft, g⟩).run P w = .ok .skip { w with heap := w.heap.setIfInBounds b (mapO enc (mput k v cl l) (mclk k l cl)) } := by
    simp only [execOp, hs.ev hx, hs.ev hy, hs.ev hz, Sem.run_bind, run_mapUpdate (ho.get _ hb.mem), Result.andThen_ok, Sem.run_pure]
  rw [he]
  have hlt := ho.lt hb.mem
  refine hn _ _ _ _ ⟨rfl, rfl⟩ hs (ho.upd hu rfl rfl rfl (by simp [hlt]) fun j hj => ?_)
  simp [Array.getElem?_setIfInBounds_ne (Ne.symm hj)]
theorem ef_deleten {K V : TypeId} {enc : κ → Value} {ats : Array TypeId} {b cl : Nat} {l : List (κ × Value × Nat)} {L' : Hp} (k : κ) (hx : ev E x = some (.map (some b))) (hy : ev E y = some (enc k)) (h0 : ats[0]? = some T) [hT : TyD P T (.map K V)] [hk : KeyTy P K enc]
    [hb : Blk L b (mapO enc l cl)] [hu : Upd L b (mapO enc (mdel k l) cl) L'] :
    Ef P W n D ⟨none, .call { callee := .builtin .delete, args := #[x, y], argTypes := ats }, ty, pos, aft, g⟩ E L (fun E1 L1 => E1 = E ∧ L1 = L') := fun Q a w next hs ho hn => by
  unfold Oper.wp
  have he : (execOp a.eval ⟨none, .call { callee := .builtin .delete, args := #[x, y], argTypes := ats }, ty, pos, aft, g⟩).run P w = .ok (.value (.tuple #[])) { w with heap := w.heap.setIfInBounds b (mapO enc (mdel k l) cl) } := by
    rw [BigFrame.execOp_builtin]
    simp only [BigFrame.builtin_delete, List.map_toArray, List.map_cons, List.map_nil, hs.ev hx, hs.ev hy, Sem.run_bind, run_delete (ho.get _ hb.mem) k h0, Result.andThen_ok, Sem.run_pure]
  rw [he]
  have hlt := ho.lt hb.mem
  refine hn _ _ _ _ ⟨rfl, rfl⟩ hs (ho.upd hu rfl rfl rfl (by simp [hlt]) fun j hj => ?_)
  simp [Array.getElem?_setIfInBounds_ne (Ne.symm hj)]
theorem pv_len_slice {d : Option Tmp} {e : TypeId} {ats : Array TypeId} {p : Option Addr} {m c : Nat} (hx : ev E x = some (.slice p m c)) (h0 : ats[0]? = some T) [hT : TyD P T (.slice e)] :
    Pv P n D E L ⟨d, .call { callee := .builtin .len, args := #[x], argTypes := ats }, ty, pos, aft, g⟩ (.int .i64 m) := fun a w hs hh => by
  rw [BigFrame.execOp_builtin]
  simp only [BigFrame.builtin_len, List.map_toArray, List.map_cons, List.map_nil, hs.ev hx, Builtin.len_, h0, List.getElem?_toArray, List.getElem?_cons_zero, Sem.run_bind, TyD.run, Result.andThen_ok, Sem.run_pure, goInt]
end mapops
def encK : List IntKind → List Int → List Value
  | k :: ks, x :: xs => .int k x :: encK ks xs
  | _, _ => []
class NumTy (P : Program) (T : Nat) (ks : outParam (List IntKind)) : Prop where
  eq : ∀ d w (xs ys : List Int), xs.length = ks.length → ys.length = ks.length →
    (Op.equalIn (d + 2) T (.agg (encK ks xs).toArray) (.agg (encK ks ys).toArray)).run P w = .ok (decide (xs = ys)) w
  guard : P.eqGuardType P.depth T = false
theorem eqFields_nums {P : Program} (d : Nat) (w : World) (cx cy : List Value) : ∀ (fs : List Field) (ks : List IntKind) (off : Nat) (xs ys : List Int),
    fs.length = ks.length → xs.length = ks.length → ys.length = ks.length →
    (∀ i f k, fs[i]? = some f → ks[i]? = some k → f.name ≠ "_" ∧ f.offset = off + i ∧ P.underlying f.type = some (.int k)) →
    (∀ i v, (encK ks xs)[i]? = some v → cx[off + i]? = some v) → (∀ i v, (encK ks ys)[i]? = some v → cy[off + i]? = some v) →
    (Op.eqFields (d + 1) cx.toArray cy.toArray fs).run P w = .ok (decide (xs = ys)) w
  | [], [], off, [], [], _, _, _, _, _, _ => by simp [Op.eqFields]
  | f :: fs, k :: ks, off, x :: xs, y :: ys, hf, hx, hy, h, hcx, hcy => by
    obtain ⟨hn, ho, hu⟩ := h 0 f k rfl rfl
    have h1 : cx[f.offset]? = some (.int k x) := by rw [ho]; exact hcx 0 _ rfl
    have h2 : cy[f.offset]? = some (.int k y) := by rw [ho]; exact hcy 0 _ rfl
    have hag : (isAgg f.type).run P w = .ok false w := by simp [isAgg, underlying, hu]
    have ih := eqFields_nums d w cx cy fs ks (off + 1) xs ys (by simpa using hf) (by simpa using hx) (by simpa using hy)
      (fun i f' k' hi hk => by
        have := h (i + 1) f' k' (by simpa using hi) (by simpa using hk)
        exact ⟨this.1, by rw [this.2.1]; omega, this.2.2⟩)
      (fun i v hi => by have := hcx (i + 1) v (by simpa [encK] using hi); rw [← this]; congr 1; omega)
      (fun i v hi => by have := hcy (i + 1) v (by simpa [encK] using hi); rw [← this]; congr 1; omega)
    simp only [Op.eqFields, if_pos hn, Sem.run_bind, part, hag, Result.andThen_ok, Bool.false_eq_true, if_false, List.getElem?_toArray, h1, h2, Sem.run_pure, run_equalIn_int w d f.type k k x y hu]
    by_cases hxy : x = y
    · subst hxy
      simp [ih]
    · simp [hxy]
  | [], _ :: _, _, _, _, hf, _, _, _, _, _ => by simp at hf
  | _ :: _, [], _, _, _, hf, _, _, _, _, _ => by simp at hf
  | [], [], _, _ :: _, _, _, hx, _, _, _, _ => by simp at hx
  | [], [], _, [], _ :: _, _, _, hy, _, _, _ => by simp at hy
  | _ :: _, _ :: _, _, [], _, _, hx, _, _, _, _ => by simp at hx
  | _ :: _, _ :: _, _, _ :: _, [], _, _, hy, _, _, _ => by simp at hy
theorem NumTy.mk' {P : Program} {T : TypeId} {fs : Array Field} {ks : List IntKind} (hu : P.underlying T = some (.struct fs)) (hst : P.stoodInHeld T = false) (hg : P.eqGuardType P.depth T = false)
    (hl : fs.toList.length = ks.length) (h : ∀ i f k, fs.toList[i]? = some f → ks[i]? = some k → f.name ≠ "_" ∧ f.offset = 0 + i ∧ P.underlying f.type = some (.int k)) : NumTy P T ks where
  guard := hg
  eq d w xs ys hx hy := by
    have hfs : P.fieldsOf T = fs := by simp [Program.fieldsOf, hu]
    rw [run_equalIn_struct w (d + 1) T _ _ (by rw [hfs]; exact hu) hst, hfs]
    exact eqFields_nums d w _ _ fs.toList ks 0 xs ys hl hx hy h (fun i v hi => by simpa using hi) (fun i v hi => by simpa using hi)
section nums
variable {P : Program} {n : Nat} {D : List Deferred} {E : Env} {L : Hp} {d : Option Tmp} {ty : TypeId} {pos : String} {aft : Array Edge} {g : Option (Nat × Bool)} {T : TypeId} {x y z : Operand} {v u : Value}
theorem pv_eql_nums {ks : List IntKind} {yt : TypeId} (xs ys : List Int) [hT : NumTy P T ks] (hx : ev E x = some (.agg (encK ks xs).toArray)) (hy : ev E y = some (.agg (encK ks ys).toArray)) (h1 : xs.length = ks.length) (h2 : ys.length = ks.length) :
    Pv P n D E L ⟨d, .binOp .eql T x y yt, ty, pos, aft, g⟩ (.bool (decide (xs = ys))) := fun a w hs _ => by
  have := hT.eq 9998 w xs ys h1 h2
  simp only [execOp, hs.ev hx, hs.ev hy, Sem.run_bind, run_eqGuard_agg (P := P) w .eql T x y _ _ hT.guard, run_eql_struct, Result.andThen_ok, this, Sem.run_pure]
theorem pv_neq_nums {ks : List IntKind} {yt : TypeId} (xs ys : List Int) [hT : NumTy P T ks] (hx : ev E x = some (.agg (encK ks xs).toArray)) (hy : ev E y = some (.agg (encK ks ys).toArray)) (h1 : xs.length = ks.length) (h2 : ys.length = ks.length) :
    Pv P n D E L ⟨d, .binOp .neq T x y yt, ty, pos, aft, g⟩ (.bool (decide (xs ≠ ys))) := fun a w hs _ => by
  have := hT.eq 9998 w xs ys h1 h2
  simp only [execOp, hs.ev hx, hs.ev hy, Sem.run_bind, run_eqGuard_agg (P := P) w .neq T x y _ _ hT.guard, run_neq_struct, Result.andThen_ok, this, Sem.run_pure]
  simp
def encS (s : Int × Int) : Value := .agg #[.int .i64 s.1, .int .i64 s.2]
theorem findNow_agg (kind : TypeDesc) (s : Int × Int) (e : (Int × Int) × Value × Nat) (l : List ((Int × Int) × Value × Nat)) (i : Nat) : Instr.findNow kind (encS s) (entsL encS (e :: l)) i = none := by
 simp only [entsL, List.map_cons, Instr.findNow, encS]
 have : Instr.sameNow kind (.agg #[.int .i64 s.1, .int .i64 s.2]) (.agg #[.int .i64 e.1.1, .int .i64 e.1.2]) = none := by cases kind <;> rfl
 rw [this]
theorem findAsking_slots {P : Program} {K : TypeId} [hK : NumTy P K [.i64, .i64]] (s : Int × Int) (w : World) : ∀ (l : List ((Int × Int) × Value × Nat)) (i : Nat), (Instr.findAsking K (encS s) (entsL encS l) i).run P w = .ok (fidx s l i) w
  | [], i => rfl
  | e :: l, i => by
    have h := hK.eq 9998 w [s.1, s.2] [e.1.1, e.1.2] rfl rfl
    simp only [encK] at h
    have he : (Op.equal K (encS s) (encS e.1)).run P w = .ok (decide (s = e.1)) w := by
      have hd : decide ([s.1, s.2] = [e.1.1, e.1.2]) = decide (s = e.1) := by
        obtain ⟨a, b⟩ := s
        obtain ⟨⟨c, d⟩, r⟩ := e
        simp
      rw [← hd]; exact h
    simp only [entsL, List.map_cons, Instr.findAsking, Sem.run_bind, he, Result.andThen_ok, fidx]
    by_cases hs : s = e.1
    · simp [hs]
    · simp only [hs, decide_false, Bool.false_eq_true, if_false]
      exact findAsking_slots s w l (i + 1)
class SlotTy (P : Program) (K : Nat) : Prop where
  num : NumTy P K [.i64, .i64]
  check : ∀ b s d w, (Instr.checkKey b (d + 2) K (encS s)).run P w = .ok () w
theorem sameBits_slots (d : Nat) (s : Int × Int) : Instr.sameBits (d + 2) (encS s) (encS s) = true := by
 simp [Instr.sameBits, encS]
instance KeyTy.slot {P : Program} {K : TypeId} {dsc : TypeDesc} [hd : TyD P K dsc] [h : SlotTy P K] : KeyTy P K encS where
  check b k w := h.check b k 9998 w
  find k l w := by
    have hn := h.num
    cases l with
    | nil => simp [Instr.findKey, TyD.run, entsL, Instr.findNow, fidx]
    | cons e l => simp only [Instr.findKey, Sem.run_bind, TyD.run, Result.andThen_ok, findNow_agg, findAsking_slots]
  stay k w := by
    have := sameBits_slots 9998 k
    unfold Instr.keyThatStays
    rw [if_pos this]
    rfl
end nums
class App (A F : Hp) (R : outParam Hp) : Prop where
  eq : A ++ F = R
instance (priority := 1000) App.nil {F : Hp} : App [] F F := ⟨rfl⟩
instance (priority := 900) App.cons {x : Nat × Obj} {A F R : Hp} [h : App A F R] : App (x :: A) F (x :: R) := ⟨by rw [← h.eq]; rfl⟩
instance (priority := 800) App.app {S T F R : Hp} [h : App T F R] : App (S ++ T) F (S ++ R) := ⟨by rw [← h.eq, List.append_assoc]⟩
instance (priority := 100) App.seg {S F : Hp} : App S F (S ++ F) := ⟨rfl⟩
section app
variable {P : Program} {W : World} {ops : Array Oper} {Q : Exit → Act → World → Prop} {n : Nat} {D : List Deferred} {E : Env} {A F R : Hp} {rest : List Oper}
theorem Wp.app {c : Code} [h : App A F R] (hn : Wp P W Q n D c E R) : Wp P W Q n D c E (A ++ F) := by rw [h.eq]; exact hn
theorem Ops.app [h : App A F R] (hn : Ops P W ops Q n D rest E R) : Ops P W ops Q n D rest E (A ++ F) := by rw [h.eq]; exact hn
theorem Ends.app {e : Exit} [h : App A F R] (hn : Ends W Q n D e E R) : Ends W Q n D e E (A ++ F) := by rw [h.eq]; exact hn
theorem AnyH.app {S : Hp} {fuel : Nat} {listed : Array Bool} [h : App A F R] (hn : AnyH P W ops Q n D S fuel listed E R) : AnyH P W ops Q n D S fuel listed E (A ++ F) := by rw [h.eq]; exact hn
end app
def rvRun (tmps : Array Value) : ResultVar → Sem Value
  | .tmp t => pure (tmps.getD t undef)
  | .cell a t => do loadVar t (← asAddr (tmps.getD a undef))
theorem results_eq (fn : Func) (tmps : Array Value) : results fn tmps = (do
    let vs ← fn.results.mapM (rvRun tmps)
    pure (if h : vs.size = 1 then vs[0] else .tuple vs)) := by
  unfold results
  congr 1
def RVal (P : Program) (n : Nat) (D : List Deferred) (E : Env) (L : Hp) (r : ResultVar) (v : Value) : Prop :=
  ∀ a w, Sees n D E a → Held L w → (rvRun a.tmps r).run P w = .ok v w
section rval
variable {P : Program} {fn : Func} {n : Nat} {D : List Deferred} {E : Env} {L : Hp}
theorem rv_tmp {t : Nat} {v : Value} (hx : look t E = some v) : RVal P n D E L (.tmp t) v := fun a w hs _ => by
 simp only [rvRun, Array.getD_eq_getD_getElem?, hs.get t v hx, Option.getD_some, Sem.run_pure]
theorem rv_cell {x T b off : Nat} {v : Value} {dsc : TypeDesc} {c : List Value} {T' : TypeId} {f : Nat × Nat} (hx : look x E = some (.pointer (some ⟨b, off, none⟩))) [ht : TyD P T dsc] (hd : aggD dsc = false) [hb : Blk L b (.cells c.toArray T' f)] (hc : nth c off = some v) :
    RVal P n D E L (.cell x T) v := fun a w hs hh => by
  rw [nth_eq] at hc
  simp [rvRun, Array.getD_eq_getD_getElem?, hs.get x _ hx, asAddr, loadVar, TyD.agg, hd, hh.cell hb.mem, hc]
theorem rv_cellK {x T b off k : Nat} {dsc : TypeDesc} {c : List Value} {T' : TypeId} {f : Nat × Nat} (vs : List Value) (hx : look x E = some (.pointer (some ⟨b, off, none⟩))) [ht : TyD P T dsc] [hk : TyS P T k] (hd : aggD dsc = true) [hb : Blk L b (.cells c.toArray T' f)]
    (hl : vs.length = k) (hc : Reads c off vs) : RVal P n D E L (.cell x T) (.agg vs.toArray) := fun a w hs hh => by
  subst hl
  have h1 := run_loadCells_reads P (w := w) (b := b) (off := off) (vs := vs) fun j v hv => by rw [hh.cell hb.mem, List.getElem?_toArray]; exact hc.at_ j v hv
  simp [rvRun, Array.getD_eq_getD_getElem?, hs.get x _ hx, asAddr, loadVar, TyD.agg, TyS.run, hd, h1]
def RVals (P : Program) (n : Nat) (D : List Deferred) (E : Env) (L : Hp) : List ResultVar → List Value → Prop
  | [], vs => vs = []
  | r :: rs, vs => ∃ v us, vs = v :: us ∧ RVal P n D E L r v ∧ RVals P n D E L rs us
theorem run_rvals {a : Act} {w : World} (hs : Sees n D E a) (hh : Held L w) : ∀ (rs : List ResultVar) (vs : List Value), RVals P n D E L rs vs →
    (rs.mapM (rvRun a.tmps)).run P w = .ok vs w
  | [], vs, h => by
    obtain rfl := h
    rfl
  | r :: rs, vs, h => by
    obtain ⟨v, us, rfl, h1, h2⟩ := h
    have h3 := h1 a w hs hh
    have h4 := run_rvals hs hh rs us h2
    simp only [List.mapM_cons, Sem.run_bind, h3, h4, Result.andThen_ok, Sem.run_pure]
theorem res_list {rs : List ResultVar} {vs : List Value} (h : fn.results = rs.toArray) (hv : RVals P n D E L rs vs) (h2 : Nat.ble 2 vs.length = true) : Res P fn n D E L (.tuple vs.toArray) := fun a w hs hh => by
 have h3 := run_rvals hs hh rs vs hv
 have hne : ¬ vs.length = 1 := by have := Nat.le_of_ble_eq_true h2; omega
 rw [results_eq, h, Array.mapM_eq_mapM_toList]
 simp only [Sem.run_bind, Sem.run_map, h3, Result.andThen_ok, Sem.run_pure, List.size_toArray, hne, dite_false]
theorem res_one {r : ResultVar} {v : Value} (h : fn.results = #[r]) (hv : RVal P n D E L r v) : Res P fn n D E L v := fun a w hs hh => by
 have h3 := run_rvals hs hh [r] [v] ⟨v, [], rfl, hv, rfl⟩
 rw [results_eq, h, Array.mapM_eq_mapM_toList]
 simp only [Sem.run_bind, Sem.run_map, h3, Result.andThen_ok, Sem.run_pure, List.size_toArray, List.length_singleton, dite_true]
 rfl
end rval
theorem w64 {i : Int} (h1 : -9223372036854775808 ≤ i) (h2 : i ≤ 9223372036854775807) : IntKind.i64.wrap i = i := IntWalk.i64_in i ⟨h1, h2⟩
theorem u64 {i : Int} (h1 : 0 ≤ i) (h2 : i < 18446744073709551616) : IntKind.u64.wrap i = i := by
 simp [IntKind.wrap, IntKind.signed, IntKind.bits]; omega
theorem Ends.ret {P : Program} {W : World} {fn : Func} {R : Value → Hp → Prop} {F : Hp} {n : Nat} {E : Env} {L L' : Hp} {v : Value} {M : Hp}
    (hres : Res P fn n [] E L v) (hR : R v L') [ha : App L' F M] [hd : Drop L M] : Ends W (bodyPost P fn (TrPost R W F)) n [] .ret E L :=
  fun a w hs ho => ⟨hs.dfs, v, hres a w hs ho.held, v, L', rfl, hR, by rw [ha.eq]; exact hd.own ho⟩
theorem Ends.fin {P : Program} {W : World} {fn : Func} {R : Value → Hp → Prop} {F : Hp} {n : Nat} {E : Env} {L L' : Hp} {v : Value} {M : Hp}
    (hres : Res P fn n [] E L v) (hR : R v L') [ha : App L' F M] [hd : Drop L M] : Ends W (bodyPost P fn (TrPost R W F)) n [] .normal E L :=
  fun a w hs ho => ⟨hs.dfs, v, hres a w hs ho.held, v, L', rfl, hR, by rw [ha.eq]; exact hd.own ho⟩
section keyed
variable {P : Program} {W : World} {n : Nat} {D : List Deferred} {E : Env} {L : Hp} {ty : TypeId} {pos : String} {aft : Array Edge} {g : Option (Nat × Bool)} {T : TypeId} {x y z : Operand} {v u : Value} {K V : TypeId} {b cl : Nat} {zv : Value}
theorem pv_lookup_i {d : Option Tmp} {l : List (Int × Value × Nat)} (k : Int) (hx : ev E x = some (.map (some b))) (hy : ev E y = some (.int .i64 k)) [hT : TyD P T (.map K V)] [hk : KeyTy P K encI] [hz : TyZ P V zv]
    [hb : Blk L b (mapO encI l cl)] {r : Value} (hr : (mget k l).getD zv = r) : Pv P n D E L ⟨d, .lookup T x y false, ty, pos, aft, g⟩ r := pv_lookup (enc := encI) k hx hy hr
theorem pv_lookup_s {d : Option Tmp} {l : List ((Int × Int) × Value × Nat)} (k : Int × Int) (hx : ev E x = some (.map (some b))) (hy : ev E y = some (.agg #[.int .i64 k.1, .int .i64 k.2])) [hT : TyD P T (.map K V)] [hk : KeyTy P K encS] [hz : TyZ P V zv]
    [hb : Blk L b (mapO encS l cl)] {r : Value} (hr : (mget k l).getD zv = r) : Pv P n D E L ⟨d, .lookup T x y false, ty, pos, aft, g⟩ r := pv_lookup (enc := encS) k hx hy hr
theorem ef_mapUpdate_i {l : List (Int × Value × Nat)} {L' : Hp} (k : Int) (hx : ev E x = some (.map (some b))) (hy : ev E y = some (.int .i64 k)) (hz : ev E z = some v) [hT : TyD P T (.map K V)] [hk : KeyTy P K encI]
    [hb : Blk L b (mapO encI l cl)] [hu : Upd L b (mapO encI (mput k v cl l) (mclk k l cl)) L'] : Ef P W n D ⟨none, .mapUpdate T x y z, ty, pos, aft, g⟩ E L (fun E1 L1 => E1 = E ∧ L1 = L') := ef_mapUpdate (enc := encI) k hx hy hz
theorem ef_mapUpdate_s {l : List ((Int × Int) × Value × Nat)} {L' : Hp} (k : Int × Int) (hx : ev E x = some (.map (some b))) (hy : ev E y = some (.agg #[.int .i64 k.1, .int .i64 k.2])) (hz : ev E z = some v) [hT : TyD P T (.map K V)] [hk : KeyTy P K encS]
    [hb : Blk L b (mapO encS l cl)] [hu : Upd L b (mapO encS (mput k v cl l) (mclk k l cl)) L'] : Ef P W n D ⟨none, .mapUpdate T x y z, ty, pos, aft, g⟩ E L (fun E1 L1 => E1 = E ∧ L1 = L') := ef_mapUpdate (enc := encS) k hx hy hz
theorem ef_deleten_i {ats : Array TypeId} {l : List (Int × Value × Nat)} {L' : Hp} (k : Int) (hx : ev E x = some (.map (some b))) (hy : ev E y = some (.int .i64 k)) (h0 : ats[0]? = some T) [hT : TyD P T (.map K V)] [hk : KeyTy P K encI]
    [hb : Blk L b (mapO encI l cl)] [hu : Upd L b (mapO encI (mdel k l) cl) L'] : Ef P W n D ⟨none, .call { callee := .builtin .delete, args := #[x, y], argTypes := ats }, ty, pos, aft, g⟩ E L (fun E1 L1 => E1 = E ∧ L1 = L') := ef_deleten (enc := encI) k hx hy h0
theorem ef_deleten_s {ats : Array TypeId} {l : List ((Int × Int) × Value × Nat)} {L' : Hp} (k : Int × Int) (hx : ev E x = some (.map (some b))) (hy : ev E y = some (.agg #[.int .i64 k.1, .int .i64 k.2])) (h0 : ats[0]? = some T) [hT : TyD P T (.map K V)] [hk : KeyTy P K encS]
    [hb : Blk L b (mapO encS l cl)] [hu : Upd L b (mapO encS (mdel k l) cl) L'] : Ef P W n D ⟨none, .call { callee := .builtin .delete, args := #[x, y], argTypes := ats }, ty, pos, aft, g⟩ E L (fun E1 L1 => E1 = E ∧ L1 = L') := ef_deleten (enc := encS) k hx hy h0
end keyed
def Slc (T : TypeId) (sz : Nat) (v : Value) (n : Nat) (cs : List Value) (H : Hp) : Prop :=
  cs.length = n * sz ∧ ((v = .slice none 0 0 ∧ n = 0 ∧ H = []) ∨
    ∃ b pre spare cap, v = .slice (some ⟨b, pre.length, none⟩) n cap ∧ n ≤ cap ∧ (cap - n) * sz ≤ spare.length ∧ H = [(b, .cells (pre ++ cs ++ spare : List Value).toArray T)])
theorem Slc.nil (T : TypeId) (sz : Nat) : Slc T sz (.slice none 0 0) 0 [] [] := ⟨by simp, .inl ⟨rfl, rfl, rfl⟩⟩
theorem Slc.form {T : TypeId} {sz : Nat} {v : Value} {n : Nat} {cs : List Value} {H : Hp} (h : Slc T sz v n cs H) : ∃ a c, v = .slice a n c := by
 rcases h.2 with ⟨rfl, rfl, _⟩ | ⟨b, pre, spare, cap, rfl, _⟩
 ·
  exact ⟨none, 0, rfl⟩
 ·
  exact ⟨_, cap, rfl⟩
theorem zeroCells_len (z : Array Value) (n : Nat) : (Builtin.zeroCells z n).toList.length = n * z.size := by simp [Builtin.zeroCells]
section slices
variable {P : Program} {W : World} {n : Nat} {D : List Deferred} {E : Env} {L : Hp} {ty : TypeId} {pos : String} {aft : Array Edge} {g : Option (Nat × Bool)} {T : TypeId} {x y z : Operand} {v u : Value}
theorem run_append_room' {P : Program} (w : World) (t ty e : TypeId) (sz : Nat) [ht : TyD P t (.slice e)] [hk : TyS P e sz]
    (b sLen sCap off : Nat) (cur : List Value) (hg : w.heap[b]? = some (.cells cur.toArray e))
    (a : Addr) (m c : Nat) (news : List Value) (hl : news.length = m * sz) (hnews : ∀ j u, news[j]? = some u → w.cell? (a.add j) = some u) (h1 : ∀ u ∈ news, u.oneCell' = true)
    (hroom : sLen + m ≤ sCap) (hfit : off + sLen * sz + news.length ≤ cur.length) :
    (Builtin.append_ #[t, t] ty #[.slice (some ⟨b, off, none⟩) sLen sCap, .slice (some a) m c]).run P w =
      .ok (.slice (some ⟨b, off, none⟩) (sLen + m) sCap) (storeW w b (cur.take (off + sLen * sz) ++ news ++ cur.drop (off + sLen * sz + news.length)) e) := by
  have hf := run_firstCells_some (P := P) w sz m a m c news hl hnews
  have hst := run_storeCells P b (off + sLen * sz) e news 0 cur w hg (by simpa using hfit) h1
  simp only [Nat.add_zero] at hst
  simp [Builtin.append_, TyD.run, TyS.run, Builtin.lenOf, hroom, hf, addr_add, hst]
theorem ef_append {d : Nat} {t e sz bytes : Nat} {zv : Value} {m k : Nat} {cs xs : List Value} {H R : Hp} {bx ox mc : Nat} {c : List Value} {Tx : TypeId} {f : Nat × Nat} (hx : ev E x = some v) (hs' : Slc e sz v m cs H) (hy : ev E y = some (.slice (some ⟨bx, ox, none⟩) k mc)) (hr : Reads c ox xs) (hl : xs.length = k * sz)
    (h1 : xs.all Value.oneCell' = true) (hk0 : Nat.ble 1 k = true) (hbd : (m + k) * bytes ≤ 140737488355328) (hmk : m + k ≤ 9223372036854775807) (hd : Nat.blt d n = true)
    [ht : TyD P t (.slice e)] [hsz : TyS P e sz] [hby : TyB P e bytes] [hz : TyZ P e zv] (hzs : zv.cells.size = sz) [hp : Part L H R] [hb : Blk L bx (.cells c.toArray Tx f)] :
    Ef P W n D ⟨some d, .call { callee := .builtin .append, args := #[x, y], argTypes := #[t, t] }, ty, pos, aft, g⟩ E L
      (fun E' L' => ∃ v' H', Slc e sz v' (m + k) (cs ++ xs) H' ∧ E' = (d, v') :: E ∧ L' = H' ++ R) := fun Q a w next hs ho hn => by
  have hk1 : 1 ≤ k := Nat.le_of_ble_eq_true hk0
  have hcell : ∀ j u, xs[j]? = some u → w.cell? ((⟨bx, ox, none⟩ : Addr).add j) = some u := fun j u hu => by
    rw [addr_add, ho.held.cell hb.mem, List.getElem?_toArray]; exact hr.at_ j u hu
  have h1' : ∀ u ∈ xs, u.oneCell' = true := by simpa using h1
  obtain ⟨i, hi, hzi⟩ := Option.bind_eq_some_iff.1 hz.eq
  have hisz : i.size = sz := by have := hsz.eq; rw [hi] at this; simpa using this
  have hiby : i.bytes = bytes := by have := hby.eq; rw [hi] at this; simpa using this
  have ho' := ho.part hp
  have hlen : (cs ++ xs).length = (m + k) * sz := by rw [List.length_append, hs'.1, hl, Nat.add_mul]
  unfold Oper.wp
  rw [BigFrame.execOp_builtin]
  simp only [BigFrame.builtin_append, List.map_toArray, List.map_cons, List.map_nil, hs.ev hx, hs.ev hy, Sem.run_bind]
  rcases hs'.2 with ⟨rfl, rfl, rfl⟩ | ⟨b, pre, spare, cap, rfl, hmc, hsp, rfl⟩
  · have hcs : cs = [] := List.eq_nil_of_length_eq_zero (by have := hs'.1; omega)
    subst hcs
    have hr' := run_append_nil (P := P) w t ty e i zv ht.eq hi hzi ⟨bx, ox, none⟩ k mc xs (by rw [hisz]; exact hl) hcell (by omega) (by omega) (by rw [hiby]; simp only [Nat.zero_add] at hbd; omega)
    rw [hr']
    simp only [Result.andThen_ok, Sem.run_pure]
    refine hn _ _ _ _ ⟨_, [(w.heap.size, .cells (([] : List Value) ++ xs ++ (Builtin.zeroCells zv.cells (grownCap w k 0 e - k)).toList).toArray e)], ⟨by simpa using hlen, .inr ⟨w.heap.size, [], _, grownCap w k 0 e, by simp, by simpa using grownCap_ge w k 0 e, ?_, rfl⟩⟩, rfl, rfl⟩ (hs.put hd) ?_
    · rw [zeroCells_len, hzs]; simp
    · have := (ho'.drew).alloc (.cells (([] : List Value) ++ xs ++ (Builtin.zeroCells zv.cells (grownCap w k 0 e - k)).toList).toArray e)
      have e1 : (([] : List Value) ++ xs ++ (Builtin.zeroCells zv.cells (grownCap w k 0 e - k)).toList).toArray = xs.toArray ++ Builtin.zeroCells zv.cells (grownCap w k 0 e - k) := by apply Array.ext'; simp
      rw [e1] at this ⊢
      exact this
  · have hbl := ho'.get (b, .cells (pre ++ cs ++ spare : List Value).toArray e) (by simp)
    by_cases hroom : m + k ≤ cap
    · have hfit : pre.length + m * sz + xs.length ≤ (pre ++ cs ++ spare).length := by
        have e1 : k * sz ≤ (cap - m) * sz := Nat.mul_le_mul_right _ (by omega)
        simp only [List.length_append, hs'.1, hl]
        omega
      have hr' := run_append_room' (P := P) w t ty e sz b m cap pre.length (pre ++ cs ++ spare) hbl ⟨bx, ox, none⟩ k mc xs hl hcell h1' hroom hfit
      rw [hr']
      simp only [Result.andThen_ok, Sem.run_pure]
      have hnew : (pre ++ cs ++ spare).take (pre.length + m * sz) ++ xs ++ (pre ++ cs ++ spare).drop (pre.length + m * sz + xs.length) = pre ++ (cs ++ xs) ++ spare.drop xs.length := by
        have e1 : pre.length + m * sz = (pre ++ cs).length := by simp [hs'.1]
        rw [e1, List.take_left' rfl, List.drop_append, List.drop_eq_nil_of_le (by omega), show (pre ++ cs).length + xs.length - (pre ++ cs).length = xs.length by omega]
        simp
      rw [hnew]
      refine hn _ _ _ _ ⟨_, [(b, .cells (pre ++ (cs ++ xs) ++ spare.drop xs.length : List Value).toArray e)], ⟨hlen, .inr ⟨b, pre, spare.drop xs.length, cap, rfl, hroom, ?_, rfl⟩⟩, rfl, rfl⟩ (hs.put hd) ?_
      · rw [List.length_drop, hl, show cap - (m + k) = (cap - m) - k by omega, Nat.sub_mul]; omega
      · have hlt := ho'.lt (b := b) (o := .cells (pre ++ cs ++ spare : List Value).toArray e) (by simp)
        exact ho'.upd (Upd.here) rfl rfl rfl (by simp [storeW, hlt]) fun j hj => by simp [storeW, Array.getElem?_setIfInBounds_ne (Ne.symm hj)]
    · have holds : ∀ j u, cs[j]? = some u → w.cell? ((⟨b, pre.length, none⟩ : Addr).add j) = some u := fun j u hu => by
        have hjl : j < cs.length := by
          rcases Nat.lt_or_ge j cs.length with h | h
          · exact h
          · rw [List.getElem?_eq_none h] at hu; cases hu
        rw [addr_add]
        simp only [World.cell?, hbl, Option.isSome_none, Bool.false_eq_true, if_false, List.getElem?_toArray]
        rw [List.append_assoc, List.getElem?_append_right (by omega), List.getElem?_append_left (by omega)]
        rw [show pre.length + j - pre.length = j by omega]; exact hu
      have hr' := run_append_grow (P := P) w t ty e i zv ht.eq hi hzi ⟨b, pre.length, none⟩ m cap cs (by rw [hisz]; exact hs'.1) holds ⟨bx, ox, none⟩ k mc xs (by rw [hisz]; exact hl) hcell (by omega) (by omega) (growslice_fits (by omega) (by rw [hiby]; exact hbd))
      rw [hr']
      simp only [Result.andThen_ok, Sem.run_pure]
      refine hn _ _ _ _ ⟨_, [(w.heap.size, .cells (([] : List Value) ++ (cs ++ xs) ++ (Builtin.zeroCells zv.cells (grownCap w (m + k) cap e - (m + k))).toList).toArray e)], ⟨hlen, .inr ⟨w.heap.size, [], _, grownCap w (m + k) cap e, rfl, grownCap_ge w (m + k) cap e, ?_, rfl⟩⟩, rfl, rfl⟩ (hs.put hd) ?_
      · rw [zeroCells_len, hzs]; exact Nat.le_refl _
      · have := (((ho'.app_right).drew).alloc (.cells (([] : List Value) ++ (cs ++ xs) ++ (Builtin.zeroCells zv.cells (grownCap w (m + k) cap e - (m + k))).toList).toArray e))
        have e1 : (([] : List Value) ++ (cs ++ xs) ++ (Builtin.zeroCells zv.cells (grownCap w (m + k) cap e - (m + k))).toList).toArray = cs.toArray ++ xs.toArray ++ Builtin.zeroCells zv.cells (grownCap w (m + k) cap e - (m + k)) := by apply Array.ext'; simp
        rw [e1] at this ⊢
        exact this
end slices
class Cells (v : Value) (cs : outParam (List Value)) : Prop where
  eq : v.cells = cs.toArray
instance Cells.agg {l : List Value} : Cells (.agg l.toArray) l := ⟨rfl⟩
instance Cells.int {k : IntKind} {i : Int} : Cells (.int k i) [.int k i] := ⟨rfl⟩
instance Cells.bool {b : Bool} : Cells (.bool b) [.bool b] := ⟨rfl⟩
instance Cells.pointer {p : Option Addr} : Cells (.pointer p) [.pointer p] := ⟨rfl⟩
instance Cells.slice {p : Option Addr} {m c : Nat} : Cells (.slice p m c) [.slice p m c] := ⟨rfl⟩
instance Cells.map {p : Option Nat} : Cells (.map p) [.map p] := ⟨rfl⟩
class TyPl (P : Program) (S : Nat) (pl : outParam (List (Nat × Nat))) : Prop where
  eq : ∃ fs, P.underlying S = some (.struct fs) ∧ ∀ w : World, (fs.mapM fun f => do pure (f.offset, ← sizeOf f.type) : Sem (Array (Nat × Nat))).run P w = .ok pl.toArray w
class LenIs (l : List Value) (n : Nat) : Prop where
  eq : l.length = n
instance LenIs.nil : LenIs [] 0 := ⟨rfl⟩
instance LenIs.cons {x : Value} {l : List Value} {n : Nat} [h : LenIs l n] : LenIs (x :: l) (n + 1) := ⟨by simp [h.eq]⟩
class Nth (pl : List (Nat × Nat)) (i : Nat) (a b : outParam Nat) : Prop where
  eq : pl[i]? = some (a, b)
instance Nth.zero {a b : Nat} {l : List (Nat × Nat)} : Nth ((a, b) :: l) 0 a b := ⟨rfl⟩
instance Nth.succ {x : Nat × Nat} {l : List (Nat × Nat)} {i a b : Nat} [h : Nth l i a b] : Nth (x :: l) (i + 1) a b := ⟨h.eq⟩
class Fills (pl : List (Nat × Nat)) (zs : List Value) (parts : List (Nat × Value)) (cs : outParam (List Value)) : Prop where
  eq : Instr.fill (fun i => pl[i]?) zs.toArray parts = some cs.toArray
instance Fills.nil {pl : List (Nat × Nat)} {zs : List Value} : Fills pl zs [] zs := ⟨rfl⟩
theorem foldl_set (off : Nat) : ∀ (vs : List Value) (j : Nat) (c : Array Value), off + j + vs.length ≤ c.size →
    (vs.zipIdx j).foldl (fun cs (x : Value × Nat) => cs.setIfInBounds (off + x.2) x.1) c = (c.toList.take (off + j) ++ vs ++ c.toList.drop (off + j + vs.length)).toArray
  | [], j, c, h => by simp
  | v :: vs, j, c, h => by
    simp only [List.length_cons] at h
    simp only [List.zipIdx_cons, List.foldl_cons]
    rw [foldl_set off vs (j + 1) (c.setIfInBounds (off + j) v) (by simp; omega)]
    have hlt : off + j < c.toList.length := by simp; omega
    have e1 : (c.setIfInBounds (off + j) v).toList = c.toList.set (off + j) v := by simp
    rw [e1]
    have e2 : (c.toList.set (off + j) v).take (off + (j + 1)) = c.toList.take (off + j) ++ [v] := by
      rw [List.take_set, show off + (j + 1) = off + j + 1 by omega, List.take_succ_eq_append_getElem hlt, List.set_append_right _ _ (by simp; omega)]
      simp [Nat.min_eq_left (Nat.le_of_lt (show off + j < c.size by simpa using hlt))]
    have e3 : (c.toList.set (off + j) v).drop (off + (j + 1) + vs.length) = c.toList.drop (off + j + (vs.length + 1)) := by
      rw [List.drop_set_of_lt (by omega), show off + (j + 1) + vs.length = off + j + (vs.length + 1) by omega]
    rw [e2, e3]
    simp
instance Fills.cons {pl : List (Nat × Nat)} {zs zs' vs cs : List Value} {i off sz : Nat} {v : Value} {parts : List (Nat × Value)} [h1 : Nth pl i off sz] [h2 : Cells v vs] [h3 : SetL zs off vs zs'] [h4 : Fills pl zs' parts cs] [hl : LenIs vs sz] : Fills pl zs ((i, v) :: parts) cs where
  eq := by
    have hle := h3.le
    simp only [Instr.fill, h1.eq, h2.eq, List.size_toArray, hl.eq]
    rw [if_neg (by simp; have := hl.eq; omega)]
    have hf := foldl_set off vs 0 zs.toArray (by simpa using hle)
    have e : (Array.zipIdx vs.toArray 0) = (vs.zipIdx 0).toArray := by simp
    rw [e]
    simp only [List.size_toArray, List.foldl_toArray', Nat.add_zero] at hf ⊢
    rw [hf, h3.eq]
    exact h4.eq
def evps (E : Env) : List (Nat × Operand) → Option (List (Nat × Value))
  | [] => some []
  | (i, x) :: xs => match ev E x with
    | none => none
    | some v => match evps E xs with
      | none => none
      | some vs => some ((i, v) :: vs)
theorem Sees.evps {n : Nat} {D : List Deferred} {E : Env} {a : Act} (h : Sees n D E a) : ∀ {xs : List (Nat × Operand)} {vs : List (Nat × Value)}, SL.evps E xs = some vs → xs.map (fun (i, x) => (i, a.eval x)) = vs
  | [], vs, hx => by simpa [SL.evps] using hx
  | (i, x) :: xs, vs, hx => by
    simp only [SL.evps] at hx
    split at hx
    · cases hx
    · rename_i v hv
      split at hx
      · cases hx
      · rename_i us hus
        cases hx
        simp [h.ev hv, h.evps hus]
section build
variable {P : Program} {W : World} {n : Nat} {D : List Deferred} {E : Env} {L : Hp} {ty : TypeId} {pos : String} {aft : Array Edge} {g : Option (Nat × Bool)} {T : TypeId} {x y z : Operand} {v u : Value}
theorem pv_build {d : Option Tmp} {zs cs : List Value} {pl : List (Nat × Nat)} {parts : List (Nat × Operand)} {vs : List (Nat × Value)} (hp : evps E parts = some vs) [hz : TyZ P T (.agg zs.toArray)] [hpl : TyPl P T pl] [hf : Fills pl zs vs cs] :
    Pv P n D E L ⟨d, .build T parts.toArray, ty, pos, aft, g⟩ (.agg cs.toArray) := fun a w hs _ => by
  obtain ⟨fs, hu, hrun⟩ := hpl.eq
  have ht : TyD P T (.struct fs) := ⟨hu⟩
  have hm : (parts.toArray.map fun (i, x) => (i, a.eval x)) = vs.toArray := by rw [List.map_toArray, hs.evps hp]
  have hfe := hf.eq
  simp only [execOp, Instr.build, Sem.run_bind, TyZ.run, Result.andThen_ok, TyD.run, hrun, Value.cells]
  rw [show (Array.map (fun (x : Nat × Operand) => (x.1, a.eval x.2)) parts.toArray) = vs.toArray from hm]
  have hpe : (fun (i : Nat) => pl.toArray[i]?) = (fun (i : Nat) => pl[i]?) := by funext i; simp
  simp only [hpe, hfe, Sem.run_pure, Result.andThen_ok]
theorem pv_build_arr0 {d : Option Tmp} {z0 : Value} {m e : Nat} [hz : TyZ P T z0] {cs : Array Value} (hc : z0 = .agg cs) [ht : TyD P T (.array m e)] {k : Nat} [hk : TyS P e k] :
    Pv P n D E L ⟨d, .build T #[], ty, pos, aft, g⟩ z0 := fun a w hs _ => by
  subst hc
  simp [execOp, Instr.build, TyZ.run, TyD.run, TyS.run, Instr.fill, Value.cells]
theorem ef_buildSlice0 {d : Nat} {e k : Nat} [ht : TyD P T (.slice e)] [hk : TyS P e k] (hd : Nat.blt d n = true) :
    Ef P W n D ⟨some d, .buildSlice T 0 #[], ty, pos, aft, g⟩ E L (fun E' L' => ∃ b, E' = (d, .slice (some ⟨b, 0, none⟩) 0 0) :: E ∧ L' = (b, .cells ([] : List Value).toArray e) :: L) := fun Q a w next hs ho hn => by
  unfold Oper.wp
  have : (execOp a.eval ⟨some d, .buildSlice T 0 #[], ty, pos, aft, g⟩).run P w = .ok (.value (.slice (some ⟨w.heap.size, 0, none⟩) 0 0)) (w.alloc (.cells ([] : List Value).toArray e)) := by
    simp [execOp, Instr.buildSlice, TyD.run, TyS.run, Instr.fill, newRow]
    congr 2
    apply Array.ext'
    simp
  rw [this]
  exact hn _ _ _ _ ⟨_, rfl, rfl⟩ (hs.put hd) (ho.alloc _)
theorem fill_one (sz : Nat) (zs : Array Value) (v : Value) (vs : List Value) (hv : v.cells = vs.toArray) (hl : vs.length = sz) (hz : zs.size = sz) : Instr.fill (fun i => some (i * sz, sz)) zs [(0, v)] = some vs.toArray := by
 subst hl
 have hf := foldl_set 0 vs 0 zs (by omega)
 have e : (Array.zipIdx vs.toArray 0) = (vs.zipIdx 0).toArray := by simp
 simp only [Instr.fill, hv, Nat.zero_mul, List.size_toArray, e]
 rw [if_neg (by simp; omega)]
 simp only [List.size_toArray, List.foldl_toArray', Nat.add_zero, Nat.zero_add] at hf ⊢
 rw [hf]
 simp [hz]
theorem ef_buildSlice1 {d : Nat} {e k : Nat} {vs : List Value} {zv : Value} [ht : TyD P T (.slice e)] [hk : TyS P e k] [hz : TyZ P e zv] (hzs : zv.cells.size = k) (hx : ev E x = some v) (hk0 : Nat.ble 1 k = true) (hk1 : Nat.ble k 1000 = true) (hd : Nat.blt d n = true) [hc : Cells v vs] [hl : LenIs vs k] :
    Ef P W n D ⟨some d, .buildSlice T 1 #[(0, x)], ty, pos, aft, g⟩ E L (fun E' L' => ∃ b, E' = (d, .slice (some ⟨b, 0, none⟩) 1 1) :: E ∧ L' = (b, .cells vs.toArray e) :: L) := fun Q a w next hs ho hn => by
  unfold Oper.wp
  have h1 : 1 ≤ k := Nat.le_of_ble_eq_true hk0
  have h2 : k ≤ 1000 := Nat.le_of_ble_eq_true hk1
  have : (execOp a.eval ⟨some d, .buildSlice T 1 #[(0, x)], ty, pos, aft, g⟩).run P w = .ok (.value (.slice (some ⟨w.heap.size, 0, none⟩) 1 1)) (w.alloc (.cells vs.toArray e)) := by
    have hfo := fill_one k ((Array.range (1 * k)).map (fun i => zv.cells[i % zv.cells.size]!)) v vs hc.eq hl.eq (by simp)
    have hb : ¬ (1 * k > 2 ^ 24) := by omega
    have hb0 : ¬ (1 * k = 0) := by omega
    simp only [execOp, Instr.buildSlice, Sem.run_bind, TyD.run, TyS.run, Result.andThen_ok, Sem.run_ite, if_neg hb, if_neg hb0, TyZ.run, Sem.run_pure, List.map_toArray, List.map_cons, List.map_nil, hs.ev hx, hfo, newRow, run_newObj]
    rfl
  rw [this]
  exact hn _ _ _ _ ⟨_, rfl, rfl⟩ (hs.put hd) (ho.alloc _)
end build
section idx
variable {P : Program} {W : World} {n : Nat} {D : List Deferred} {E : Env} {L : Hp} {d : Option Tmp} {ty : TypeId} {pos : String} {aft : Array Edge} {g : Option (Nat × Bool)} {T : TypeId} {x y z : Operand} {v u : Value}
theorem pv_indexAddr {e k b o m c : Nat} {kk : IntKind} {j : Int} {i : Nat} (hx : ev E x = some (.slice (some ⟨b, o, none⟩) m c)) (hy : ev E y = some (.int kk j)) [ht : TyD P T (.slice e)] [hk : TyS P e k] (hj : j = i) (hi : i < m) :
    Pv P n D E L ⟨d, .indexAddr T x y, ty, pos, aft, g⟩ (.pointer (some ⟨b, o + i * k, none⟩)) := fun a w hs _ => by
  subst hj
  have h1 : (0 : Int) ≤ (i : Int) ∧ (i : Int) < (m : Int) := by omega
  simp [execOp, hs.ev hx, hs.ev hy, Instr.indexAt, asIntOf, TyD.run, TyS.run, h1, addr_add, hi]
theorem pv_indexAddrA {e k b o m : Nat} {kk : IntKind} {j : Int} {i : Nat} (hx : ev E x = some (.pointer (some ⟨b, o, none⟩))) (hy : ev E y = some (.int kk j)) [ht : TyD P T (.array m e)] [hk : TyS P e k] (hj : j = i) (hi : i < m) :
    Pv P n D E L ⟨d, .indexAddr T x y, ty, pos, aft, g⟩ (.pointer (some ⟨b, o + i * k, none⟩)) := fun a w hs _ => by
  subst hj
  have h1 : (0 : Int) ≤ (i : Int) ∧ (i : Int) < (m : Int) := by omega
  simp [execOp, hs.ev hx, hs.ev hy, Instr.indexAt, asIntOf, TyD.run, TyS.run, h1, addr_add, hi, Instr.sureAddr]
theorem pv_indexK {e k m : Nat} {kk : IntKind} {j : Int} {i : Nat} {cs : List Value} (vs : List Value) {dsc : TypeDesc} (hx : ev E x = some (.agg cs.toArray)) (hy : ev E y = some (.int kk j)) [ht : TyD P T (.array m e)] [he : TyD P e dsc] [hk : TyS P e k] (hd : aggD dsc = true) (hj : j = i) (hi : i < m)
    (hl : vs.length = k) (hc : Reads cs (i * k) vs) : Pv P n D E L ⟨d, .index T x y, ty, pos, aft, g⟩ (.agg vs.toArray) := fun a w hs _ => by
  subst hj
  have h1 : (0 : Int) ≤ (i : Int) ∧ (i : Int) < (m : Int) := by omega
  have hc' := hc.extract hl
  simp only [List.extract_toArray, List.extract_eq_take_drop, Nat.add_sub_cancel_left] at hc'
  have hc' := List.toArray_inj hc'
  simp [execOp, hs.ev hx, hs.ev hy, Instr.index, asIntOf, TyD.run, TyS.run, h1, hi, part, TyD.agg, hd, hc']
end idx
def TrR (P : Program) (f : FuncId) (args : List Value) (L : Hp) (r : Value) : Prop := Tr P f args L (fun v L' => v = r ∧ L' = L)
class Has (L Lp : Hp) : Prop where
  ex : ∃ F, L.Perm (Lp ++ F)
instance (priority := 2000) Has.nil {L : Hp} : Has L [] := ⟨L, List.Perm.refl _⟩
instance (priority := 1000) Has.part {L Lp F : Hp} [h : Part L Lp F] : Has L Lp := ⟨F, h.perm⟩
instance (priority := 500) Has.one {L : Hp} {b : Nat} {o : Obj} [h : Blk L b o] : Has L [(b, o)] := ⟨by
  obtain ⟨A, B, e⟩ := List.append_of_mem h.mem
  exact ⟨A ++ B, by rw [e]; exact List.perm_middle⟩⟩
instance (priority := 1500) Has.refl {L : Hp} : Has L L := ⟨[], by simp⟩
section callr
variable {P : Program} {W : World} {n : Nat} {D : List Deferred} {E : Env} {L : Hp} {ty : TypeId} {pos : String} {aft : Array Edge} {g : Option (Nat × Bool)}
theorem ef_callr {d : Nat} {f : FuncId} {xs : List Operand} {ats : Array TypeId} {args : List Value} {Lp : Hp} {r : Value} (ht : TrR P f args Lp r) [hf : GoFn P f] (hx : evs E xs = some args) (hd : Nat.blt d n = true) [hp : Has L Lp] :
    Ef P W n D ⟨some d, .call { callee := .value (.func f), args := xs.toArray, argTypes := ats }, ty, pos, aft, g⟩ E L (fun E' L' => E' = (d, r) :: E ∧ L' = L) := fun Q a w next hs ho hn => by
  obtain ⟨F, hF⟩ := hp.ex
  unfold Oper.wp
  rw [execOp_call_go]
  have e : (#[] ++ xs.toArray.map a.eval ++ #[] : Array Value) = args.toArray := by simp [hs.evs hx]
  rw [e, run_callFunc]
  refine (ht W w F (ho.perm hF)).mono ?_
  rintro e' w' ⟨v, L1, rfl, ⟨rfl, rfl⟩, ho'⟩
  exact hn _ _ _ _ ⟨rfl, rfl⟩ (hs.put hd) (ho'.perm hF.symm)
theorem TrR.eq {f : FuncId} {args : List Value} {Lp : Hp} {r r' : Value} (h : TrR P f args Lp r) (e : r = r') : TrR P f args Lp r' := e ▸ h
theorem Tr.frame {f : FuncId} {args : List Value} {Lp G M : Hp} {R : Value → Hp → Prop} (h : Tr P f args Lp R) (hp : M.Perm (Lp ++ G)) : Tr P f args M (fun v L' => ∃ L1, R v L1 ∧ L' = L1 ++ G) := fun W w F ho => by
 have ho2 : Own W w (Lp ++ (G ++ F)) := ho.perm (by rw [← List.append_assoc]; exact hp.append_right F)
 refine (h W w (G ++ F) ho2).mono ?_
 rintro e' w' ⟨v, L1, he, hR, ho'⟩
 exact ⟨v, L1 ++ G, he, ⟨L1, hR, rfl⟩, by rw [List.append_assoc]; exact ho'⟩
theorem TrR.frame {f : FuncId} {args : List Value} {Lp M : Hp} {r : Value} (h : TrR P f args Lp r) [hp : Has M Lp] : TrR P f args M r := fun W w F ho => by
 obtain ⟨G, hG⟩ := hp.ex
 have ho2 : Own W w (Lp ++ (G ++ F)) := ho.perm (by rw [← List.append_assoc]; exact hG.append_right F)
 refine (h W w (G ++ F) ho2).mono ?_
 rintro e' w' ⟨v, L1, he, ⟨rfl, rfl⟩, ho'⟩
 exact ⟨v, M, he, ⟨rfl, rfl⟩, ho'.perm (by rw [← List.append_assoc]; exact hG.symm.append_right F)⟩
end callr
instance (priority := 880) Take.left {b : Nat} {o : Obj} {S L R : Hp} [h : Take S b o R] : Take (S ++ L) b o (R ++ L) := ⟨h.perm.append_right L⟩
section closures
variable {P : Program} {W : World} {n : Nat} {D : List Deferred} {E : Env} {L : Hp} {ty : TypeId} {pos : String} {aft : Array Edge} {g : Option (Nat × Bool)} {x : Operand}
theorem pv_makeFunc {d : Option Tmp} {fn : Fn} {fi ca : List Operand} {fv cv : List Value} (hf : evs E fi = some fv) (hc : evs E ca = some cv) : Pv P n D E L ⟨d, .makeFunc fn fi.toArray ca.toArray, ty, pos, aft, g⟩ (.func fn fv.toArray cv.toArray) := fun a w hs _ => by
 simp [execOp, Instr.makeFunc, hs.evs hf, hs.evs hc]
end closures
section loopmore
variable {P : Program} {W : World} {Q : Exit → Act → World → Prop} {n : Nat} {D : List Deferred} {E : Env} {L : Hp}
theorem Goes.back {K : Act → World → Prop} {E' : Env} {L' : Hp} (h : Goes W K n D E' L') (hE : SubE E' E) [hL : Drop L L'] : Goes W K n D E L := Goes.less hE h
end loopmore
theorem fdiv_pow (a k : Nat) : ((a : Int)).fdiv (2 ^ k) = ((a / 2 ^ k : Nat) : Int) := by
 rw [show ((2 : Int) ^ k) = ((2 ^ k : Nat) : Int) by norm_cast, Int.fdiv_eq_ediv_of_nonneg _ (Int.natCast_nonneg _)]
 norm_cast
theorem Pv.tru {P : Program} {n : Nat} {D : List Deferred} {E : Env} {L : Hp} {o : Oper} {p : Prop} [Decidable p] (h : Pv P n D E L o (.bool (decide p))) (hp : p) : Pv P n D E L o (.bool true) := by
 rw [decide_eq_true hp] at h; exact h
theorem Pv.fls {P : Program} {n : Nat} {D : List Deferred} {E : Env} {L : Hp} {o : Oper} {p : Prop} [Decidable p] (h : Pv P n D E L o (.bool (decide p))) (hp : ¬ p) : Pv P n D E L o (.bool false) := by
 rw [decide_eq_false hp] at h; exact h
theorem tmod_nat {a b : Nat} {j : Int} (h : j = (b : Int)) : (a : Int).tmod j = ((a % b : Nat) : Int) := by
 subst h; rw [Int.tmod_eq_emod_of_nonneg (by omega)]; norm_cast
theorem tdiv_nat {a b : Nat} {j : Int} (h : j = (b : Int)) : (a : Int).tdiv j = ((a / b : Nat) : Int) := by
 subst h; rw [Int.tdiv_eq_ediv_of_nonneg (by omega)]; norm_cast
theorem w64n {i : Int} {k : Nat} (h : i = k) (hk : k < 2 ^ 63) : IntKind.i64.wrap i = k := by subst h; exact w64 (by omega) (by omega)
theorem u64n {i : Int} {k : Nat} (h : i = k) (hk : k < 2 ^ 64) : IntKind.u64.wrap i = k := by subst h; exact u64 (by omega) (by omega)
theorem shln {a k : Nat} (hk : k ≤ 64) (h : a * 2 ^ k < 2 ^ 64) : IntKind.u64.wrap ((a : Int) * 2 ^ (min (k : Int).toNat 64)) = ((a * 2 ^ k : Nat) : Int) := by
 refine u64n ?_ h
 rw [show min (k : Int).toNat 64 = k by omega]; norm_cast
theorem shl1 {k : Nat} (hk : k < 64) : IntKind.u64.wrap (1 * 2 ^ (min (k : Int).toNat 64)) = ((2 ^ k : Nat) : Int) := by
 have := @shln 1 k (by omega) (by rw [Nat.one_mul]; exact Nat.pow_lt_pow_right (by omega) hk)
 simpa using this
attribute [irreducible] Ops Wp Ends Goes Ef AnyH Turn Tr Pv Res RVal
end Go.SL
namespace Go.SL
section
variable {P : Program} {W : World} {ops : Array Oper} {Q : Exit → Act → World → Prop} {n : Nat} {D : List Deferred} {S : Hp} {fuel : Nat} {listed : Array Bool} {E : Env} {L : Hp} {d : Nat} {op : Op} {ty : TypeId} {pos : String} {aft : Array Edge} {g : Option (Nat × Bool)} {v : Value} [q : PF Q]
theorem Tk (i : Nat) (hi : ops[i]? = some ⟨some d, op, ty, pos, aft, g⟩) (hg : Wanted ops E g true) [hS : HeldSub L S] (hp : Pv P n D E S ⟨some d, op, ty, pos, aft, g⟩ v) (hd : Nat.blt d n = true) (hn : AnyH P W ops Q n D S fuel (listed.setIfInBounds i true) ((d, v) :: E) L)
    (hsel : Region.noSelect ops = true := by kernel_rfl) (hf : Region.free .any ops listed i = true := by kernel_rfl) (hr : (Region.ready .any ops listed).contains i = true := by kernel_rfl) : AnyH P W ops Q n D S (fuel + 1) listed E L := AnyH.take i hi hsel hf hr q.pf hg hp hd hn
theorem Tn (i : Nat) (hi : ops[i]? = some ⟨none, op, ty, pos, aft, g⟩) (hg : Wanted ops E g true) [hS : HeldSub L S] (hp : Pv P n D E S ⟨none, op, ty, pos, aft, g⟩ v) (hn : AnyH P W ops Q n D S fuel (listed.setIfInBounds i true) E L)
    (hsel : Region.noSelect ops = true := by kernel_rfl) (hf : Region.free .any ops listed i = true := by kernel_rfl) (hr : (Region.ready .any ops listed).contains i = true := by kernel_rfl) : AnyH P W ops Q n D S (fuel + 1) listed E L := AnyH.taken i hi hsel hf hr q.pf hg hp hn
theorem Ts (i : Nat) (hi : ops[i]? = some ⟨some d, op, ty, pos, aft, g⟩) (hg : Wanted ops E g false) [hS : HeldSub L S] (hd : Nat.blt d n = true) (hn : AnyH P W ops Q n D S fuel (listed.setIfInBounds i true) ((d, undef) :: E) L)
    (hsel : Region.noSelect ops = true := by kernel_rfl) (hf : Region.free .any ops listed i = true := by kernel_rfl) (hr : (Region.ready .any ops listed).contains i = true := by kernel_rfl) : AnyH P W ops Q n D S (fuel + 1) listed E L := AnyH.skip i hi hsel hf hr q.pf hg hd hn
end
section
variable {P : Program} {W : World} {ops : Array Oper} {Q : Exit → Act → World → Prop} {n : Nat} {D : List Deferred} {E : Env} {L : Hp} {rest : List Oper} {d : Nat} {op : Op} {ty : TypeId} {pos : String} {aft : Array Edge} {v : Value} {x : Operand}
theorem Om1 (h : ev E x = some v) (hd : Nat.blt d n = true) (hn : Ops P W ops Q n D rest ((d, v) :: E) L) : Ops P W ops Q n D (⟨some d, .move x, ty, pos, aft, none⟩ :: rest) E L := Ops.pv (pv_move h) hd hn
theorem Oa1 (h : ev E x = some v) (hd : Nat.blt d n = true) (hn : Ops P W ops Q n D rest ((d, v) :: E) L) : Ops P W ops Q n D (⟨some d, .assign x, ty, pos, aft, none⟩ :: rest) E L := Ops.pv (pv_assign h) hd hn
theorem Os1 {j t : Nat} {b w : Bool} (h1 : (ops[j]?).bind (·.dst) = some t) (h2 : look t E = some (.bool b)) (h3 : (b == w) = false) (hd : Nat.blt d n = true) (hn : Ops P W ops Q n D rest ((d, undef) :: E) L) : Ops P W ops Q n D (⟨some d, op, ty, pos, aft, some (j, w)⟩ :: rest) E L := Ops.skipg ⟨t, b, h1, h2, h3⟩ hd hn
theorem Of1 {S : TypeId} {i off U k b : Nat} (hx : ev E x = some (.pointer (some ⟨b, 0, none⟩))) [hf : TyFld P S i off U] [hk : TyS P U k] (h0 : Nat.beq k 0 = false) (hd : Nat.blt d n = true) (hn : Ops P W ops Q n D rest ((d, .pointer (some ⟨b, off, none⟩)) :: E) L) : Ops P W ops Q n D (⟨some d, .fieldAddr S x i, ty, pos, aft, none⟩ :: rest) E L := Ops.pv (pv_fieldAddr0 hx h0) hd hn
theorem Ol1 {T : TypeId} {dsc : TypeDesc} {b off : Nat} {c : List Value} {T' : TypeId} {f : Nat × Nat} (hx : ev E x = some (.pointer (some ⟨b, off, none⟩))) [ht : TyD P T dsc] (h2 : aggD dsc = false) [hb : Blk L b (.cells c.toArray T' f)] (hc : nth c off = some v) (hd : Nat.blt d n = true) (hn : Ops P W ops Q n D rest ((d, v) :: E) L) : Ops P W ops Q n D (⟨some d, .load T x, ty, pos, aft, none⟩ :: rest) E L := Ops.pv (pv_load hx h2 hc) hd hn
theorem On {y : Code} (h : Wp P W Q n D y E L) : Ops P W ops (Exit.then (y.wp P Q) Q) n D [] E L := Ops.nil (Ends.seq h)
theorem Wr {id : Nat} {l : List Oper} {y : Code} (h : Ops P W l.toArray (Exit.then (y.wp P Q) Q) n D l E L) : Wp P W Q n D (.seq (.region id l.toArray false) y) E L := Wp.seq (Wp.region h)
end
end Go.SL
end
section
set_option linter.unusedVariables false
set_option linter.unusedSimpArgs false
namespace Go.SL
open Go.RowKit
def allHp (W : World) : Hp := W.heap.toList.zipIdx.map fun p => (p.2, p.1)
theorem allHp_fst (W : World) : (allHp W).map Prod.fst = List.range' 0 W.heap.size := by
 unfold allHp
 rw [List.map_map, show (Prod.fst ∘ fun p : Obj × Nat => (p.2, p.1)) = Prod.snd from rfl, List.zipIdx_map_snd, Array.length_toList]
theorem mem_allHp {W : World} {k : Nat} {o : Obj} : (k, o) ∈ allHp W ↔ W.heap[k]? = some o := by
 unfold allHp
 rw [List.mem_map]
 constructor
 ·
  rintro ⟨⟨o', i⟩, h, e⟩
  cases e
  simpa using List.mem_zipIdx_iff_getElem?.1 h
 ·
  intro h
  exact ⟨(o, k), List.mem_zipIdx_iff_getElem?.2 (by simpa using h), rfl⟩
theorem own_all (W : World) : Own W W (allHp W) :=
  ⟨rfl, rfl, rfl, by rw [allHp_fst]; exact List.nodup_range', fun p hp => mem_allHp.1 hp⟩
theorem below_of_own {W w' : World} {X : Hp} (h : Own W w' (X ++ allHp W)) : Below W.heap.size W w' := by
 have hb : ∀ k, k < W.heap.size → w'.heap[k]? = W.heap[k]? := fun k hk => by
  have e : W.heap[k]? = some W.heap[k] := Array.getElem?_eq_getElem hk
  rw [e]; exact h.get (k, W.heap[k]) (List.mem_append_right _ (mem_allHp.2 e))
 refine ⟨h.os, h.tape, h.out, ?_, hb⟩
 by_cases hs : W.heap.size ≤ w'.heap.size
 ·
  exact hs
 ·
  exfalso
  have h1 := hb w'.heap.size (by omega)
  rw [Array.getElem?_eq_none (Nat.le_refl _), Array.getElem?_eq_getElem (by omega)] at h1
  cases h1
theorem TrR.callsG {P : Program} {f : FuncId} {args : List Value} {r : Value} {W : World} (h : TrR P f args (allHp W) r) :
    Calls P f args.toArray W fun e w' => e = .returned r ∧ Below W.heap.size W w' := by
  unfold TrR Tr at h
  refine (h W W [] (by simpa using own_all W)).mono fun e w' hx => ?_
  obtain ⟨v, L', he, ⟨rfl, rfl⟩, ho⟩ := hx
  exact ⟨he, below_of_own (X := []) (by simpa using ho)⟩
end Go.SL
end
section
set_option linter.unusedVariables false
set_option linter.unusedSimpArgs false
namespace Go.SL
open Go.RowKit Go.ChangeShapes Go.WideShapes Go.Deep
def FlatV : List (Option IntKind) → List Value → Prop
  | [], [] => True
  | some k :: ks, v :: vs => (∃ n, v = .int k n ∧ (Lit.int k n).wf = true) ∧ FlatV ks vs
  | none :: ks, v :: vs => (∃ b, v = .bool b) ∧ FlatV ks vs
  | _, _ => False
theorem FlatV.len : ∀ {ks : List (Option IntKind)} {vs : List Value}, FlatV ks vs → vs.length = ks.length
  | [], [], _ => rfl
  | some _ :: ks, _ :: vs, h => by simp [FlatV.len h.2]
  | none :: ks, _ :: vs, h => by simp [FlatV.len h.2]
theorem FlatV.int {k : IntKind} {ks : List (Option IntKind)} : ∀ {vs : List Value}, FlatV (some k :: ks) vs → ∃ n us, vs = .int k n :: us ∧ (Lit.int k n).wf = true ∧ FlatV ks us
  | _ :: us, ⟨⟨n, e, hw⟩, h⟩ => ⟨n, us, by rw [e], hw, h⟩
theorem FlatV.bool {ks : List (Option IntKind)} : ∀ {vs : List Value}, FlatV (none :: ks) vs → ∃ b us, vs = .bool b :: us ∧ FlatV ks us
  | _ :: us, ⟨⟨b, e⟩, h⟩ => ⟨b, us, by rw [e], h⟩
theorem FlatV.nil : ∀ {vs : List Value}, FlatV [] vs → vs = []
  | [], _ => rfl
theorem map_of {α : Type} {f : α → List Value} {p : α → Prop} : ∀ {els : List (List Value)}, (∀ x, x ∈ els → ∃ o, x = f o ∧ p o) → ∃ l : List α, els = l.map f ∧ ∀ o, o ∈ l → p o
  | [], _ => ⟨[], rfl, fun o ho => by cases ho⟩
  | x :: els, h => by
    obtain ⟨o, rfl, hp⟩ := h x (List.mem_cons_self ..)
    obtain ⟨l, rfl, hl⟩ := map_of (p := p) (fun y hy => h y (List.mem_cons_of_mem _ hy))
    exact ⟨o :: l, rfl, fun q hq => by rcases List.mem_cons.1 hq with rfl | hq; exact hp; exact hl q hq⟩
theorem FlatV.app : ∀ {ks ls : List (Option IntKind)} {vs us : List Value}, FlatV ks vs → FlatV ls us → FlatV (ks ++ ls) (vs ++ us)
  | [], _, [], _, _, h => h
  | some _ :: ks, _, _ :: vs, _, h, h' => ⟨h.1, FlatV.app h.2 h'⟩
  | none :: ks, _, _ :: vs, _, h, h' => ⟨h.1, FlatV.app h.2 h'⟩
class FlatTy (P : Program) (t : TypeId) (ks : outParam (List (Option IntKind))) : Prop where
  size : P.cellsOf t = ks.length
  go : ∀ {H : Type} (enc : TypeId × Value → H) (w : World) (base : Nat) (spare : Nat → Bool) (held : Bool) (fuel : Nat) (cs : List Value) (x : DataW H × List MemPlace),
    DataW.trod enc P w base spare held fuel t cs = some x → FlatV ks cs
theorem FlatTy.int {P : Program} {t : TypeId} {k : IntKind} (hu : P.underlying t = some (.int k)) (hc : P.cellsOf t = 1) : FlatTy P t [some k] :=
  ⟨hc, fun enc w base spare held fuel cs x h => by obtain ⟨n, rfl, _, hw⟩ := DataW.trod_int hu h; exact ⟨⟨n, rfl, hw⟩, trivial⟩⟩
theorem FlatTy.bool {P : Program} {t : TypeId} (hu : P.underlying t = some .bool) (hc : P.cellsOf t = 1) : FlatTy P t [none] :=
  ⟨hc, fun enc w base spare held fuel cs x h => by obtain ⟨b, rfl, _⟩ := DataW.trod_bool hu h; exact ⟨⟨b, rfl⟩, trivial⟩⟩
def FlatFs (P : Program) : Nat → List Field → List (List (Option IntKind)) → Prop
  | _, [], [] => True
  | off, f :: fs, ks :: kss => f.offset = off ∧ FlatTy P f.type ks ∧ FlatFs P (off + ks.length) fs kss
  | _, _, _ => False
theorem FlatFs.nil {P : Program} {off : Nat} : FlatFs P off [] [] := trivial
theorem FlatFs.cons {P : Program} {off : Nat} {f : Field} {fs : List Field} {ks : List (Option IntKind)} {kss : List (List (Option IntKind))} (h1 : f.offset = off) (h2 : FlatTy P f.type ks) (h3 : FlatFs P (off + ks.length) fs kss) : FlatFs P off (f :: fs) (ks :: kss) := ⟨h1, h2, h3⟩
theorem FlatFs.go {P : Program} {H : Type} {enc : TypeId × Value → H} {w : World} {base : Nat} {spare : Nat → Bool} {held : Bool} {n : Nat} {cs : List Value} :
    ∀ {fs : List Field} {kss : List (List (Option IntKind))} {off : Nat}, FlatFs P off fs kss →
      (∀ f, f ∈ fs → ∃ y, DataW.trod enc P w base spare held n f.type ((cs.drop f.offset).take (P.cellsOf f.type)) = some y) → FlatV kss.flatten ((cs.drop off).take kss.flatten.length)
  | [], [], off, _, _ => by simp [FlatV]
  | f :: fs, ks :: kss, off, h, hf => by
    obtain ⟨h1, h2, h3⟩ := h
    obtain ⟨y, hy⟩ := hf f (List.mem_cons_self ..)
    have hv := h2.go enc w base spare held n _ y hy
    rw [h1, h2.size] at hv
    have ih := FlatFs.go (cs := cs) h3 (fun g hg => hf g (List.mem_cons_of_mem _ hg))
    rw [List.flatten_cons, List.length_append, List.take_add, List.drop_drop]
    exact hv.app ih
theorem FlatTy.struct {P : Program} {t : TypeId} {fs : Array Field} {kss : List (List (Option IntKind))} (hu : P.underlying t = some (.struct fs)) (hf : FlatFs P 0 fs.toList kss) (hc : P.cellsOf t = kss.flatten.length) : FlatTy P t kss.flatten :=
  ⟨hc, fun enc w base spare held fuel cs x h => by
    obtain ⟨xs, n, _, _, hl, hxl, hat⟩ := DataW.trod_struct hu h
    have := FlatFs.go (cs := cs) (enc := enc) (w := w) (base := base) (spare := spare) (held := held) (n := n) hf (fun f hf' => by
      obtain ⟨i, hi⟩ := List.mem_iff_getElem?.1 hf'
      have hlt : i < xs.length := by
        have := (List.getElem?_eq_some_iff.1 hi).1
        rw [hxl]; simpa using this
      exact ⟨xs[i], by rw [hat i f (by simpa using hi)]; exact List.getElem?_eq_getElem hlt⟩)
    rw [List.drop_zero, ← hc, ← hl, List.take_length] at this
    exact this⟩
theorem flat_arg {P : Program} {H : Type} {enc : TypeId × Value → H} {w : World} {base : Nat} {spare : Nat → Bool} {held : Bool} {t : TypeId} {cs : Array Value} {d : DataW H} {p : List MemPlace} {ks : List (Option IntKind)} [ht : FlatTy P t ks]
    (h : DataW.Trod enc P w base spare held t (.agg cs) d p) : FlatV ks cs.toList := by
  obtain ⟨fuel, h⟩ := h
  exact ht.go enc w base spare held fuel _ _ h
def ArgS (G : Hp) (k : Nat) (a : Option Addr) (els : List (List Value)) : Prop :=
  ∀ i x, els[i]? = some x → x.length = k ∧ ∃ b o, ∃ cc : List Value, ∃ T f, a = some ⟨b, o, none⟩ ∧ (b, Obj.cells cc.toArray T f) ∈ G ∧ Reads cc (o + i * k) x
theorem reads_of {c : List Value} : ∀ {vs : List Value} {off : Nat}, (∀ j v, vs[j]? = some v → c[off + j]? = some v) → Reads c off vs
  | [], _, _ => trivial
  | v :: vs, off, h => ⟨by rw [nth_eq]; exact h 0 v rfl, reads_of fun j u hu => by
      have := h (j + 1) u (by simpa using hu)
      rwa [show off + (j + 1) = off + 1 + j by omega] at this⟩
theorem cell_some {w : World} {ad : Addr} {v : Value} (h : w.cell? ad = some v) : ∃ cc T f, w.heap[ad.block]? = some (.cells cc T f) ∧ ad.spot = none ∧ cc[ad.off]? = some v := by
 unfold World.cell? at h
 split at h
 ·
  rename_i c T f hc
  split at h
  ·
   cases h
  ·
   rename_i hs
   exact ⟨c, T, f, hc, by simpa using hs, h⟩
 ·
  cases h
theorem add_block (a : Addr) (n : Nat) : (a.add n).block = a.block := by unfold Addr.add; split <;> rfl
theorem add_off (a : Addr) (n : Nat) : (a.add n).off = a.off + n := by unfold Addr.add; split <;> simp_all
theorem flat_slice2 {P : Program} {H : Type} {enc : TypeId × Value → H} {w : World} {held : Bool} {t e : TypeId} {v : Value} {d : DataW H} {p : List MemPlace} {ks : List (Option IntKind)} (hu : P.underlying t = some (.slice e)) [he : FlatTy P e ks] (hk : 0 < ks.length)
    (hv : ∃ a n c, v = .slice a n c) (h : DataW.Trod enc P w 0 (fun _ => true) held t v d p) :
    ∃ a c els, v = .slice a els.length c ∧ els.length ≤ maxLen ∧ els.length ≤ c ∧ (∀ x, x ∈ els → FlatV ks x) ∧ ArgS (allHp w) ks.length a els := by
  obtain ⟨fuel, h⟩ := h
  obtain ⟨a0, n0, c0, rfl⟩ := hv
  rcases open_slice hu h with ⟨hcs, _⟩ | ⟨a, len, cap, m, n, D, Pl, hcs, hb, hl, hm, hmm, hx, hi⟩
  · simp [Value.cells] at hcs
    obtain ⟨rfl, rfl, rfl⟩ := hcs
    exact ⟨none, 0, [], rfl, Nat.zero_le _, Nat.le_refl _, ⟨fun x hx => absurd hx (by simp), fun i x hx => by simp at hx⟩⟩
  · simp [Value.cells] at hcs
    obtain ⟨rfl, rfl, rfl⟩ := hcs
    have hmc : m = c0 := by simpa using hmm
    subst hmc
    have hex : ∀ i, ∃ cs', i < n0 → w.cells? 0 (a.add (i * P.cellsOf e)) (P.cellsOf e) = some cs' ∧ DataW.trod enc P w 0 (fun _ => true) held n e cs' = some (D i, Pl i) := fun i => by
      by_cases h' : i < n0
      · obtain ⟨cs', h1, h2⟩ := hi i (by omega)
        exact ⟨cs', fun _ => ⟨h1, h2⟩⟩
      · exact ⟨[], fun h => absurd h h'⟩
    have hel : ∀ k, k ≤ n0 → ∃ els : List (List Value), els.length = k ∧ ∀ i x, els[i]? = some x → w.cells? 0 (a.add (i * P.cellsOf e)) (P.cellsOf e) = some x ∧ DataW.trod enc P w 0 (fun _ => true) held n e x = some (D i, Pl i) := by
      intro k
      induction k with
      | zero => intro _; exact ⟨[], rfl, fun i x hx => by cases hx⟩
      | succ k ih =>
        intro hk'
        obtain ⟨els, he1, he2⟩ := ih (by omega)
        obtain ⟨cs', hcs'⟩ := hex k
        refine ⟨els ++ [cs'], by simp [he1], fun i x hx => ?_⟩
        rcases Nat.lt_or_ge i els.length with h' | h'
        · rw [List.getElem?_append_left h'] at hx; exact he2 i x hx
        · rw [List.getElem?_append_right h'] at hx
          have : i = k := by
            rcases Nat.lt_or_ge (i - els.length) 1 with h'' | h''
            · omega
            · rw [List.getElem?_eq_none (by simpa using h'')] at hx; cases hx
          subst this
          rw [he1, Nat.sub_self] at hx
          cases hx
          exact hcs' (by omega)
    obtain ⟨els, he1, he2⟩ := hel n0 (Nat.le_refl _)
    subst he1
    refine ⟨some a, m, els, rfl, by omega, by omega, fun x hx => ?_, fun i x hx => ?_⟩
    · obtain ⟨i, hi'⟩ := List.mem_iff_getElem?.1 hx
      exact he.go enc w 0 _ held n _ _ (he2 i x hi').2
    · obtain ⟨h1, h2⟩ := he2 i x hx
      have hf := he.go enc w 0 _ held n _ _ h2
      obtain ⟨_, hlen, hat⟩ := World.cells?_some h1
      rw [he.size] at hlen hat
      refine ⟨hlen, ?_⟩
      have hcell : ∀ j u, x[j]? = some u → ∃ cc T f, w.heap[a.block]? = some (.cells cc T f) ∧ cc[a.off + i * ks.length + j]? = some u := fun j u hu => by
        have hj : j < ks.length := by
          rcases Nat.lt_or_ge j ks.length with h' | h'
          · exact h'
          · rw [List.getElem?_eq_none (by omega)] at hu; cases hu
        have h0 := hat j hj
        rw [hu] at h0
        obtain ⟨cc, T, f, h1, _, h3⟩ := cell_some h0
        rw [add_block, add_block] at h1
        rw [add_off, add_off] at h3
        exact ⟨cc, T, f, h1, h3⟩
      have hsp0 : a.spot = none := by
        obtain ⟨x0, hx0'⟩ : ∃ x0, els[0]? = some x0 := ⟨els[0]'(by have := (List.getElem?_eq_some_iff.1 hx).1; omega), List.getElem?_eq_getElem _⟩
        obtain ⟨g1, _⟩ := he2 0 x0 hx0'
        obtain ⟨_, hlen0, hat0⟩ := World.cells?_some g1
        rw [he.size] at hlen0 hat0
        have e0 := hat0 0 hk
        rw [show x0[0]? = some (x0[0]'(by omega)) from List.getElem?_eq_getElem (by omega), Nat.zero_mul] at e0
        obtain ⟨_, _, _, _, h2, _⟩ := cell_some e0
        exact h2
      obtain ⟨cc, T, f, hb1, _⟩ := hcell 0 (x[0]'(by omega)) (List.getElem?_eq_getElem _)
      obtain ⟨ab, ao, asp⟩ := a
      dsimp only at hsp0 hcell hb1
      subst hsp0
      refine ⟨ab, ao, cc.toList, T, f, rfl, mem_allHp.2 (by rw [hb1]), reads_of fun j u hu => ?_⟩
      obtain ⟨cc', T', f', hb2, h3⟩ := hcell j u hu
      rw [hb1] at hb2
      cases hb2
      simpa using h3
theorem flat_slice {P : Program} {H : Type} {enc : TypeId × Value → H} {w : World} {held : Bool} {t e : TypeId} {v : Value} {d : DataW H} {p : List MemPlace} {ks : List (Option IntKind)} (hu : P.underlying t = some (.slice e)) [he : FlatTy P e ks] (hk : 0 < ks.length)
    (hv : ∃ a n c, v = .slice a n c) (h : DataW.Trod enc P w 0 (fun _ => true) held t v d p) :
    ∃ a c els, v = .slice a els.length c ∧ els.length ≤ maxLen ∧ (∀ x, x ∈ els → FlatV ks x) ∧ ArgS (allHp w) ks.length a els := by
  obtain ⟨a, c, els, h1, h2, _, h3, h4⟩ := flat_slice2 hu hk hv h
  exact ⟨a, c, els, h1, h2, h3, h4⟩
end Go.SL
end
section
namespace Go.Proofs.YtdodfnjmkpgdbaaGreat
open Go.SL
instance : Mixed Tryz.prog := ⟨by kernel_rfl⟩
instance : TyD Tryz.prog 3 (.int .i64) := ⟨Tryz.underlying3⟩
instance : TyS Tryz.prog 3 1 := ⟨by kernel_rfl⟩
instance : TyD Tryz.prog 4 (.bool) := ⟨Tryz.underlying4⟩
instance : TyS Tryz.prog 4 1 := ⟨by kernel_rfl⟩
instance tyZ4 : TyZ Tryz.prog 4 (.bool false) := ⟨by kernel_rfl⟩
instance : TyD Tryz.prog 20 (.interface #[]) := ⟨Tryz.underlying20⟩
instance : TyD Tryz.prog 23 (.int .u64) := ⟨Tryz.underlying23⟩
instance : TyS Tryz.prog 23 1 := ⟨by kernel_rfl⟩
instance : TyD Tryz.prog 25 (.struct #[⟨ "Kind", 3, 0, false, "", "", 0⟩, ⟨ "Object", 3, 1, false, "", "", 8⟩, ⟨ "Rights", 3, 2, false, "", "", 16⟩, ⟨ "Badge", 23, 3, false, "", "", 24⟩, ⟨ "Guard", 23, 4, false, "", "", 32⟩, ⟨ "Bits", 3, 5, false, "", "", 40⟩]) := ⟨Tryz.underlying25⟩
instance : TyS Tryz.prog 25 6 := ⟨by kernel_rfl⟩
instance : TyB Tryz.prog 25 48 := ⟨by kernel_rfl⟩
instance tyZ25 : TyZ Tryz.prog 25 (.agg #[.int .i64 0, .int .i64 0, .int .i64 0, .int .u64 0, .int .u64 0, .int .i64 0]) := ⟨by kernel_rfl⟩
instance : TyFld Tryz.prog 25 0 0 3 := ⟨_, _, Tryz.underlying25, rfl, rfl, rfl⟩
instance : TyFld Tryz.prog 25 1 1 3 := ⟨_, _, Tryz.underlying25, rfl, rfl, rfl⟩
instance : TyFld Tryz.prog 25 2 2 3 := ⟨_, _, Tryz.underlying25, rfl, rfl, rfl⟩
instance : TyFld Tryz.prog 25 3 3 23 := ⟨_, _, Tryz.underlying25, rfl, rfl, rfl⟩
instance : TyFld Tryz.prog 25 4 4 23 := ⟨_, _, Tryz.underlying25, rfl, rfl, rfl⟩
instance : TyFld Tryz.prog 25 5 5 3 := ⟨_, _, Tryz.underlying25, rfl, rfl, rfl⟩
instance : TyPl Tryz.prog 25 [(0, 1), (1, 1), (2, 1), (3, 1), (4, 1), (5, 1)] := ⟨_, Tryz.underlying25, fun w => by simp [TyS.run]⟩
instance : NumTy Tryz.prog 25 [.i64, .i64, .i64, .u64, .u64, .i64] := NumTy.mk' Tryz.underlying25 (by kernel_rfl) (by kernel_rfl) rfl (fun
    | 0, f, k, hf, hk => by obtain rfl := Option.some.inj hf; obtain rfl := Option.some.inj hk; exact ⟨by decide, rfl, Tryz.underlying3⟩
    | 1, f, k, hf, hk => by obtain rfl := Option.some.inj hf; obtain rfl := Option.some.inj hk; exact ⟨by decide, rfl, Tryz.underlying3⟩
    | 2, f, k, hf, hk => by obtain rfl := Option.some.inj hf; obtain rfl := Option.some.inj hk; exact ⟨by decide, rfl, Tryz.underlying3⟩
    | 3, f, k, hf, hk => by obtain rfl := Option.some.inj hf; obtain rfl := Option.some.inj hk; exact ⟨by decide, rfl, Tryz.underlying23⟩
    | 4, f, k, hf, hk => by obtain rfl := Option.some.inj hf; obtain rfl := Option.some.inj hk; exact ⟨by decide, rfl, Tryz.underlying23⟩
    | 5, f, k, hf, hk => by obtain rfl := Option.some.inj hf; obtain rfl := Option.some.inj hk; exact ⟨by decide, rfl, Tryz.underlying3⟩
    | i + 6, f, k, hf, hk => by simp at hf)
instance : TyD Tryz.prog 26 (.pointer 42) := ⟨Tryz.underlying26⟩
instance : TyS Tryz.prog 26 1 := ⟨by kernel_rfl⟩
instance : TyD Tryz.prog 31 (.struct #[⟨ "Node", 3, 0, false, "", "", 0⟩, ⟨ "At", 3, 1, false, "", "", 8⟩]) := ⟨Tryz.underlying31⟩
instance : TyS Tryz.prog 31 2 := ⟨by kernel_rfl⟩
instance : TyB Tryz.prog 31 16 := ⟨by kernel_rfl⟩
instance tyZ31 : TyZ Tryz.prog 31 (.agg #[.int .i64 0, .int .i64 0]) := ⟨by kernel_rfl⟩
instance : TyFld Tryz.prog 31 0 0 3 := ⟨_, _, Tryz.underlying31, rfl, rfl, rfl⟩
instance : TyFld Tryz.prog 31 1 1 3 := ⟨_, _, Tryz.underlying31, rfl, rfl, rfl⟩
instance : TyPl Tryz.prog 31 [(0, 1), (1, 1)] := ⟨_, Tryz.underlying31, fun w => by simp [TyS.run]⟩
instance : NumTy Tryz.prog 31 [.i64, .i64] := NumTy.mk' Tryz.underlying31 (by kernel_rfl) (by kernel_rfl) rfl (fun
    | 0, f, k, hf, hk => by obtain rfl := Option.some.inj hf; obtain rfl := Option.some.inj hk; exact ⟨by decide, rfl, Tryz.underlying3⟩
    | 1, f, k, hf, hk => by obtain rfl := Option.some.inj hf; obtain rfl := Option.some.inj hk; exact ⟨by decide, rfl, Tryz.underlying3⟩
    | i + 2, f, k, hf, hk => by simp at hf)
instance : SlotTy Tryz.prog 31 where
  num := inferInstance
  check b s d w := by
    simp [Instr.checkKey, TyD.run, encS, List.forIn_cons, List.forIn_nil, TyD.agg, aggD, part]
instance : TyD Tryz.prog 33 (.struct #[⟨ "Kind", 3, 0, false, "", "", 0⟩, ⟨ "A", 31, 1, false, "", "", 8⟩, ⟨ "B", 31, 3, false, "", "", 24⟩, ⟨ "D", 31, 5, false, "", "", 40⟩, ⟨ "C", 25, 7, false, "", "", 56⟩, ⟨ "N", 3, 13, false, "", "", 104⟩, ⟨ "Rights", 3, 14, false, "", "", 112⟩, ⟨ "Badge", 23, 15, false, "", "", 120⟩, ⟨ "Guard", 23, 16, false, "", "", 128⟩, ⟨ "Bits", 3, 17, false, "", "", 136⟩]) := ⟨Tryz.underlying33⟩
instance : TyS Tryz.prog 33 18 := ⟨by kernel_rfl⟩
instance : TyFld Tryz.prog 33 0 0 3 := ⟨_, _, Tryz.underlying33, rfl, rfl, rfl⟩
instance : TyFld Tryz.prog 33 1 1 31 := ⟨_, _, Tryz.underlying33, rfl, rfl, rfl⟩
instance : TyFld Tryz.prog 33 2 3 31 := ⟨_, _, Tryz.underlying33, rfl, rfl, rfl⟩
instance : TyFld Tryz.prog 33 3 5 31 := ⟨_, _, Tryz.underlying33, rfl, rfl, rfl⟩
instance : TyFld Tryz.prog 33 4 7 25 := ⟨_, _, Tryz.underlying33, rfl, rfl, rfl⟩
instance : TyFld Tryz.prog 33 5 13 3 := ⟨_, _, Tryz.underlying33, rfl, rfl, rfl⟩
instance : TyFld Tryz.prog 33 6 14 3 := ⟨_, _, Tryz.underlying33, rfl, rfl, rfl⟩
instance : TyFld Tryz.prog 33 7 15 23 := ⟨_, _, Tryz.underlying33, rfl, rfl, rfl⟩
instance : TyFld Tryz.prog 33 8 16 23 := ⟨_, _, Tryz.underlying33, rfl, rfl, rfl⟩
instance : TyFld Tryz.prog 33 9 17 3 := ⟨_, _, Tryz.underlying33, rfl, rfl, rfl⟩
instance : TyD Tryz.prog 37 (.pointer 94) := ⟨Tryz.underlying37⟩
instance : TyS Tryz.prog 37 1 := ⟨by kernel_rfl⟩
instance : TyD Tryz.prog 39 (.struct #[⟨ "Store", 37, 0, true, "", "", 0⟩]) := ⟨Tryz.underlying39⟩
instance : TyS Tryz.prog 39 1 := ⟨by kernel_rfl⟩
instance tyZ39 : TyZ Tryz.prog 39 (.agg #[.pointer none]) := ⟨by kernel_rfl⟩
instance : TyFld Tryz.prog 39 0 0 37 := ⟨_, _, Tryz.underlying39, rfl, rfl, rfl⟩
instance : TyPl Tryz.prog 39 [(0, 1)] := ⟨_, Tryz.underlying39, fun w => by simp [TyS.run]⟩
instance : TyD Tryz.prog 40 (.pointer 123) := ⟨Tryz.underlying40⟩
instance : TyS Tryz.prog 40 1 := ⟨by kernel_rfl⟩
instance tyZ42 : TyZ Tryz.prog 42 (.agg #[.pointer none, .pointer none]) := ⟨by kernel_rfl⟩
instance : TyFld Tryz.prog 42 0 0 39 := ⟨_, _, Tryz.underlying42, rfl, rfl, rfl⟩
instance : TyFld Tryz.prog 42 1 1 40 := ⟨_, _, Tryz.underlying42, rfl, rfl, rfl⟩
instance : TyPl Tryz.prog 42 [(0, 1), (1, 1)] := ⟨_, Tryz.underlying42, fun w => by simp [TyS.run]⟩
instance : TyD Tryz.prog 43 (.slice 99) := ⟨Tryz.underlying43⟩
instance : TyS Tryz.prog 43 1 := ⟨by kernel_rfl⟩
instance : TyS Tryz.prog 45 1 := ⟨by kernel_rfl⟩
instance : TyFld Tryz.prog 45 0 0 43 := ⟨_, _, Tryz.underlying45, rfl, rfl, rfl⟩
instance : TyD Tryz.prog 46 (.slice 105) := ⟨Tryz.underlying46⟩
instance : TyS Tryz.prog 46 1 := ⟨by kernel_rfl⟩
instance : TyS Tryz.prog 48 1 := ⟨by kernel_rfl⟩
instance : TyFld Tryz.prog 48 0 0 46 := ⟨_, _, Tryz.underlying48, rfl, rfl, rfl⟩
instance tyZ50 : TyZ Tryz.prog 50 (.agg #[.slice none 0 0, .slice none 0 0]) := ⟨by kernel_rfl⟩
instance : TyFld Tryz.prog 50 0 0 45 := ⟨_, _, Tryz.underlying50, rfl, rfl, rfl⟩
instance : TyFld Tryz.prog 50 1 1 48 := ⟨_, _, Tryz.underlying50, rfl, rfl, rfl⟩
instance : TyPl Tryz.prog 50 [(0, 1), (1, 1)] := ⟨_, Tryz.underlying50, fun w => by simp [TyS.run]⟩
instance : TyD Tryz.prog 53 (.slice 31) := ⟨Tryz.underlying53⟩
instance : TyD Tryz.prog 55 (.int .i64) := ⟨Tryz.underlying55⟩
instance : TyS Tryz.prog 55 1 := ⟨by kernel_rfl⟩
instance tyZ55 : TyZ Tryz.prog 55 (.int .i64 0) := ⟨by kernel_rfl⟩
instance : TyD Tryz.prog 64 (.slice 66) := ⟨Tryz.underlying64⟩
instance : TyD Tryz.prog 66 (.struct #[⟨ "O", 33, 0, false, "", "", 0⟩, ⟨ "Steps", 3, 18, false, "", "", 144⟩]) := ⟨Tryz.underlying66⟩
instance : TyS Tryz.prog 66 19 := ⟨by kernel_rfl⟩
instance tyZ66 : TyZ Tryz.prog 66 (.agg #[.int .i64 0, .int .i64 0, .int .i64 0, .int .i64 0, .int .i64 0, .int .i64 0, .int .i64 0, .int .i64 0, .int .i64 0, .int .i64 0, .int .u64 0, .int .u64 0, .int .i64 0, .int .i64 0, .int .i64 0, .int .u64 0, .int .u64 0, .int .i64 0, .int .i64 0]) := ⟨by kernel_rfl⟩
instance : TyFld Tryz.prog 66 0 0 33 := ⟨_, _, Tryz.underlying66, rfl, rfl, rfl⟩
instance : TyFld Tryz.prog 66 1 18 3 := ⟨_, _, Tryz.underlying66, rfl, rfl, rfl⟩
instance : TyD Tryz.prog 67 (.slice 25) := ⟨Tryz.underlying67⟩
instance : TyS Tryz.prog 67 1 := ⟨by kernel_rfl⟩
instance : TyD Tryz.prog 91 (.pointer 97) := ⟨Tryz.underlying91⟩
instance tyZ91 : TyZ Tryz.prog 91 (.pointer none) := ⟨by kernel_rfl⟩
instance : TyD Tryz.prog 92 (.map 3 91) := ⟨Tryz.underlying92⟩
instance : TyS Tryz.prog 92 1 := ⟨by kernel_rfl⟩
instance tyZ94 : TyZ Tryz.prog 94 (.agg #[.map none]) := ⟨by kernel_rfl⟩
instance : TyFld Tryz.prog 94 0 0 92 := ⟨_, _, Tryz.underlying94, rfl, rfl, rfl⟩
instance : TyPl Tryz.prog 94 [(0, 1)] := ⟨_, Tryz.underlying94, fun w => by simp [TyS.run]⟩
instance : TyD Tryz.prog 95 (.array 16 25) := ⟨Tryz.underlying95⟩
instance : TyS Tryz.prog 95 96 := ⟨by kernel_rfl⟩
instance : TyFld Tryz.prog 97 0 0 3 := ⟨_, _, Tryz.underlying97, rfl, rfl, rfl⟩
instance : TyFld Tryz.prog 97 1 1 95 := ⟨_, _, Tryz.underlying97, rfl, rfl, rfl⟩
instance : TyPl Tryz.prog 97 [(0, 1), (1, 96)] := ⟨_, Tryz.underlying97, fun w => by simp [TyS.run]⟩
instance : TyS Tryz.prog 99 3 := ⟨by kernel_rfl⟩
instance : TyB Tryz.prog 99 40 := ⟨by kernel_rfl⟩
instance tyZ99 : TyZ Tryz.prog 99 (.agg #[.int .i64 0, .int .i64 0, .slice none 0 0]) := ⟨by kernel_rfl⟩
instance : TyFld Tryz.prog 99 0 0 3 := ⟨_, _, Tryz.underlying99, rfl, rfl, rfl⟩
instance : TyFld Tryz.prog 99 1 1 3 := ⟨_, _, Tryz.underlying99, rfl, rfl, rfl⟩
instance : TyFld Tryz.prog 99 2 2 67 := ⟨_, _, Tryz.underlying99, rfl, rfl, rfl⟩
instance : TyPl Tryz.prog 99 [(0, 1), (1, 1), (2, 1)] := ⟨_, Tryz.underlying99, fun w => by simp [TyS.run]⟩
instance : TyD Tryz.prog 100 (.pointer 25) := ⟨Tryz.underlying100⟩
instance : TyD Tryz.prog 105 (.struct #[⟨ "S", 31, 0, false, "", "", 0⟩, ⟨ "Deep", 3, 2, false, "", "", 16⟩]) := ⟨Tryz.underlying105⟩
instance : TyS Tryz.prog 105 3 := ⟨by kernel_rfl⟩
instance : TyB Tryz.prog 105 24 := ⟨by kernel_rfl⟩
instance tyZ105 : TyZ Tryz.prog 105 (.agg #[.int .i64 0, .int .i64 0, .int .i64 0]) := ⟨by kernel_rfl⟩
instance : TyFld Tryz.prog 105 0 0 31 := ⟨_, _, Tryz.underlying105, rfl, rfl, rfl⟩
instance : TyFld Tryz.prog 105 1 2 3 := ⟨_, _, Tryz.underlying105, rfl, rfl, rfl⟩
instance : TyPl Tryz.prog 105 [(0, 2), (2, 1)] := ⟨_, Tryz.underlying105, fun w => by simp [TyS.run]⟩
instance : TyD Tryz.prog 111 (.pointer 113) := ⟨Tryz.underlying111⟩
instance : TyS Tryz.prog 111 1 := ⟨by kernel_rfl⟩
instance tyZ111 : TyZ Tryz.prog 111 (.pointer none) := ⟨by kernel_rfl⟩
instance tyZ113 : TyZ Tryz.prog 113 (.agg #[.pointer none, .int .i64 0, .slice none 0 0]) := ⟨by kernel_rfl⟩
instance : TyFld Tryz.prog 113 0 0 26 := ⟨_, _, Tryz.underlying113, rfl, rfl, rfl⟩
instance : TyFld Tryz.prog 113 1 1 3 := ⟨_, _, Tryz.underlying113, rfl, rfl, rfl⟩
instance : TyFld Tryz.prog 113 2 2 67 := ⟨_, _, Tryz.underlying113, rfl, rfl, rfl⟩
instance : TyPl Tryz.prog 113 [(0, 1), (1, 1), (2, 1)] := ⟨_, Tryz.underlying113, fun w => by simp [TyS.run]⟩
instance : TyD Tryz.prog 121 (.map 31 130) := ⟨Tryz.underlying121⟩
instance : TyS Tryz.prog 121 1 := ⟨by kernel_rfl⟩
instance tyZ123 : TyZ Tryz.prog 123 (.agg #[.map none]) := ⟨by kernel_rfl⟩
instance : TyFld Tryz.prog 123 0 0 121 := ⟨_, _, Tryz.underlying123, rfl, rfl, rfl⟩
instance : TyPl Tryz.prog 123 [(0, 1)] := ⟨_, Tryz.underlying123, fun w => by simp [TyS.run]⟩
instance : TyD Tryz.prog 130 (.pointer 134) := ⟨Tryz.underlying130⟩
instance : TyS Tryz.prog 130 1 := ⟨by kernel_rfl⟩
instance : TyB Tryz.prog 130 8 := ⟨by kernel_rfl⟩
instance tyZ130 : TyZ Tryz.prog 130 (.pointer none) := ⟨by kernel_rfl⟩
instance : TyD Tryz.prog 131 (.slice 130) := ⟨Tryz.underlying131⟩
instance : TyS Tryz.prog 131 1 := ⟨by kernel_rfl⟩
instance tyZ131 : TyZ Tryz.prog 131 (.slice none 0 0) := ⟨by kernel_rfl⟩
instance : TyS Tryz.prog 134 4 := ⟨by kernel_rfl⟩
instance tyZ134 : TyZ Tryz.prog 134 (.agg #[.int .i64 0, .int .i64 0, .pointer none, .slice none 0 0]) := ⟨by kernel_rfl⟩
instance : TyFld Tryz.prog 134 0 0 31 := ⟨_, _, Tryz.underlying134, rfl, rfl, rfl⟩
instance : TyFld Tryz.prog 134 1 2 130 := ⟨_, _, Tryz.underlying134, rfl, rfl, rfl⟩
instance : TyFld Tryz.prog 134 2 3 131 := ⟨_, _, Tryz.underlying134, rfl, rfl, rfl⟩
instance : TyPl Tryz.prog 134 [(0, 2), (2, 1), (3, 1)] := ⟨_, Tryz.underlying134, fun w => by simp [TyS.run]⟩
instance : TyD Tryz.prog 139 (.struct #[]) := ⟨Tryz.underlying139⟩
instance : TyS Tryz.prog 139 0 := ⟨by kernel_rfl⟩
instance tyZ139 : TyZ Tryz.prog 139 (.agg #[]) := ⟨by kernel_rfl⟩
instance : TyPl Tryz.prog 139 [] := ⟨_, Tryz.underlying139, fun w => by simp [TyS.run]⟩
instance : TyD Tryz.prog 151 (.slice 131) := ⟨Tryz.underlying151⟩
instance : GoFn Tryz.prog 5 := ⟨_, Tryz.func5, by kernel_rfl, by kernel_rfl⟩
instance : GoFn Tryz.prog 6 := ⟨_, Tryz.func6, by kernel_rfl, by kernel_rfl⟩
instance : GoFn Tryz.prog 7 := ⟨_, Tryz.func7, by kernel_rfl, by kernel_rfl⟩
instance : GoFn Tryz.prog 8 := ⟨_, Tryz.func8, by kernel_rfl, by kernel_rfl⟩
instance : GoFn Tryz.prog 9 := ⟨_, Tryz.func9, by kernel_rfl, by kernel_rfl⟩
instance : GoFn Tryz.prog 10 := ⟨_, Tryz.func10, by kernel_rfl, by kernel_rfl⟩
instance : GoFn Tryz.prog 11 := ⟨_, Tryz.func11, by kernel_rfl, by kernel_rfl⟩
instance : GoFn Tryz.prog 12 := ⟨_, Tryz.func12, by kernel_rfl, by kernel_rfl⟩
instance : GoFn Tryz.prog 13 := ⟨_, Tryz.func13, by kernel_rfl, by kernel_rfl⟩
instance : GoFn Tryz.prog 14 := ⟨_, Tryz.func14, by kernel_rfl, by kernel_rfl⟩
instance : GoFn Tryz.prog 15 := ⟨_, Tryz.func15, by kernel_rfl, by kernel_rfl⟩
instance : GoFn Tryz.prog 20 := ⟨_, Tryz.func20, by kernel_rfl, by kernel_rfl⟩
instance : GoFn Tryz.prog 21 := ⟨_, Tryz.func21, by kernel_rfl, by kernel_rfl⟩
instance : GoFn Tryz.prog 22 := ⟨_, Tryz.func22, by kernel_rfl, by kernel_rfl⟩
instance : GoFn Tryz.prog 23 := ⟨_, Tryz.func23, by kernel_rfl, by kernel_rfl⟩
instance : GoFn Tryz.prog 24 := ⟨_, Tryz.func24, by kernel_rfl, by kernel_rfl⟩
instance : GoFn Tryz.prog 25 := ⟨_, Tryz.func25, by kernel_rfl, by kernel_rfl⟩
instance : GoFn Tryz.prog 26 := ⟨_, Tryz.func26, by kernel_rfl, by kernel_rfl⟩
instance : GoFn Tryz.prog 27 := ⟨_, Tryz.func27, by kernel_rfl, by kernel_rfl⟩
instance : GoFn Tryz.prog 28 := ⟨_, Tryz.func28, by kernel_rfl, by kernel_rfl⟩
instance : GoFn Tryz.prog 29 := ⟨_, Tryz.func29, by kernel_rfl, by kernel_rfl⟩
instance : GoFn Tryz.prog 30 := ⟨_, Tryz.func30, by kernel_rfl, by kernel_rfl⟩
instance : GoFn Tryz.prog 31 := ⟨_, Tryz.func31, by kernel_rfl, by kernel_rfl⟩
instance : GoFn Tryz.prog 32 := ⟨_, Tryz.func32, by kernel_rfl, by kernel_rfl⟩
instance : GoFn Tryz.prog 33 := ⟨_, Tryz.func33, by kernel_rfl, by kernel_rfl⟩
instance : GoFn Tryz.prog 34 := ⟨_, Tryz.func34, by kernel_rfl, by kernel_rfl⟩
instance : GoFn Tryz.prog 35 := ⟨_, Tryz.func35, by kernel_rfl, by kernel_rfl⟩
instance : GoFn Tryz.prog 36 := ⟨_, Tryz.func36, by kernel_rfl, by kernel_rfl⟩
instance : GoFn Tryz.prog 37 := ⟨_, Tryz.func37, by kernel_rfl, by kernel_rfl⟩
instance : GoFn Tryz.prog 38 := ⟨_, Tryz.func38, by kernel_rfl, by kernel_rfl⟩
instance : GoFn Tryz.prog 39 := ⟨_, Tryz.func39, by kernel_rfl, by kernel_rfl⟩
instance : GoFn Tryz.prog 40 := ⟨_, Tryz.func40, by kernel_rfl, by kernel_rfl⟩
instance : GoFn Tryz.prog 41 := ⟨_, Tryz.func41, by kernel_rfl, by kernel_rfl⟩
instance : GoFn Tryz.prog 42 := ⟨_, Tryz.func42, by kernel_rfl, by kernel_rfl⟩
instance : GoFn Tryz.prog 43 := ⟨_, Tryz.func43, by kernel_rfl, by kernel_rfl⟩
instance : GoFn Tryz.prog 44 := ⟨_, Tryz.func44, by kernel_rfl, by kernel_rfl⟩
instance : GoFn Tryz.prog 45 := ⟨_, Tryz.func45, by kernel_rfl, by kernel_rfl⟩
instance : GoFn Tryz.prog 46 := ⟨_, Tryz.func46, by kernel_rfl, by kernel_rfl⟩
instance : GoFn Tryz.prog 47 := ⟨_, Tryz.func47, by kernel_rfl, by kernel_rfl⟩
instance : GoFn Tryz.prog 48 := ⟨_, Tryz.func48, by kernel_rfl, by kernel_rfl⟩
instance : GoFn Tryz.prog 49 := ⟨_, Tryz.func49, by kernel_rfl, by kernel_rfl⟩
instance : GoFn Tryz.prog 50 := ⟨_, Tryz.func50, by kernel_rfl, by kernel_rfl⟩
instance : GoFn Tryz.prog 51 := ⟨_, Tryz.func51, by kernel_rfl, by kernel_rfl⟩
instance : GoFn Tryz.prog 52 := ⟨_, Tryz.func52, by kernel_rfl, by kernel_rfl⟩
instance : GoFn Tryz.prog 53 := ⟨_, Tryz.func53, by kernel_rfl, by kernel_rfl⟩
instance : GoFn Tryz.prog 54 := ⟨_, Tryz.func54, by kernel_rfl, by kernel_rfl⟩
instance : GoFn Tryz.prog 55 := ⟨_, Tryz.func55, by kernel_rfl, by kernel_rfl⟩
instance : GoFn Tryz.prog 56 := ⟨_, Tryz.func56, by kernel_rfl, by kernel_rfl⟩
instance : GoFn Tryz.prog 57 := ⟨_, Tryz.func57, by kernel_rfl, by kernel_rfl⟩
instance : GoFn Tryz.prog 58 := ⟨_, Tryz.func58, by kernel_rfl, by kernel_rfl⟩
instance : GoFn Tryz.prog 59 := ⟨_, Tryz.func59, by kernel_rfl, by kernel_rfl⟩
instance : GoFn Tryz.prog 60 := ⟨_, Tryz.func60, by kernel_rfl, by kernel_rfl⟩
instance : GoFn Tryz.prog 61 := ⟨_, Tryz.func61, by kernel_rfl, by kernel_rfl⟩
instance : GoFn Tryz.prog 65 := ⟨_, Tryz.func65, by kernel_rfl, by kernel_rfl⟩
instance : GoFn Tryz.prog 66 := ⟨_, Tryz.func66, by kernel_rfl, by kernel_rfl⟩
instance : GoFn Tryz.prog 67 := ⟨_, Tryz.func67, by kernel_rfl, by kernel_rfl⟩
instance : GoFn Tryz.prog 68 := ⟨_, Tryz.func68, by kernel_rfl, by kernel_rfl⟩
instance : GoFn Tryz.prog 69 := ⟨_, Tryz.func69, by kernel_rfl, by kernel_rfl⟩
instance : GoFn Tryz.prog 70 := ⟨_, Tryz.func70, by kernel_rfl, by kernel_rfl⟩
instance : GoFn Tryz.prog 71 := ⟨_, Tryz.func71, by kernel_rfl, by kernel_rfl⟩
instance : GoFn Tryz.prog 72 := ⟨_, Tryz.func72, by kernel_rfl, by kernel_rfl⟩
instance : GoFn Tryz.prog 73 := ⟨_, Tryz.func73, by kernel_rfl, by kernel_rfl⟩
instance : GoFn Tryz.prog 74 := ⟨_, Tryz.func74, by kernel_rfl, by kernel_rfl⟩
instance : GoFn Tryz.prog 75 := ⟨_, Tryz.func75, by kernel_rfl, by kernel_rfl⟩
instance : GoFn Tryz.prog 76 := ⟨_, Tryz.func76, by kernel_rfl, by kernel_rfl⟩
instance : GoFn Tryz.prog 77 := ⟨_, Tryz.func77, by kernel_rfl, by kernel_rfl⟩
instance : GoFn Tryz.prog 78 := ⟨_, Tryz.func78, by kernel_rfl, by kernel_rfl⟩
instance : GoFn Tryz.prog 79 := ⟨_, Tryz.func79, by kernel_rfl, by kernel_rfl⟩
instance : GoFn Tryz.prog 80 := ⟨_, Tryz.func80, by kernel_rfl, by kernel_rfl⟩
instance : GoFn Tryz.prog 81 := ⟨_, Tryz.func81, by kernel_rfl, by kernel_rfl⟩
instance : GoFn Tryz.prog 82 := ⟨_, Tryz.func82, by kernel_rfl, by kernel_rfl⟩
instance : GoFn Tryz.prog 83 := ⟨_, Tryz.func83, by kernel_rfl, by kernel_rfl⟩
instance : GoFn Tryz.prog 84 := ⟨_, Tryz.func84, by kernel_rfl, by kernel_rfl⟩
instance : GoFn Tryz.prog 85 := ⟨_, Tryz.func85, by kernel_rfl, by kernel_rfl⟩
instance : GoFn Tryz.prog 86 := ⟨_, Tryz.func86, by kernel_rfl, by kernel_rfl⟩
instance : GoFn Tryz.prog 87 := ⟨_, Tryz.func87, by kernel_rfl, by kernel_rfl⟩
instance : GoFn Tryz.prog 88 := ⟨_, Tryz.func88, by kernel_rfl, by kernel_rfl⟩
instance : GoFn Tryz.prog 89 := ⟨_, Tryz.func89, by kernel_rfl, by kernel_rfl⟩
instance : GoFn Tryz.prog 90 := ⟨_, Tryz.func90, by kernel_rfl, by kernel_rfl⟩
instance : GoFn Tryz.prog 91 := ⟨_, Tryz.func91, by kernel_rfl, by kernel_rfl⟩
instance : GoFn Tryz.prog 92 := ⟨_, Tryz.func92, by kernel_rfl, by kernel_rfl⟩
instance : GoFn Tryz.prog 93 := ⟨_, Tryz.func93, by kernel_rfl, by kernel_rfl⟩
instance : GoFn Tryz.prog 94 := ⟨_, Tryz.func94, by kernel_rfl, by kernel_rfl⟩
instance : GoFn Tryz.prog 95 := ⟨_, Tryz.func95, by kernel_rfl, by kernel_rfl⟩
instance : GoFn Tryz.prog 96 := ⟨_, Tryz.func96, by kernel_rfl, by kernel_rfl⟩
instance : GoFn Tryz.prog 97 := ⟨_, Tryz.func97, by kernel_rfl, by kernel_rfl⟩
instance : GoFn Tryz.prog 98 := ⟨_, Tryz.func98, by kernel_rfl, by kernel_rfl⟩
instance : GoFn Tryz.prog 99 := ⟨_, Tryz.func99, by kernel_rfl, by kernel_rfl⟩
instance : GoFn Tryz.prog 100 := ⟨_, Tryz.func100, by kernel_rfl, by kernel_rfl⟩
instance : GoFn Tryz.prog 101 := ⟨_, Tryz.func101, by kernel_rfl, by kernel_rfl⟩
instance : GoFn Tryz.prog 102 := ⟨_, Tryz.func102, by kernel_rfl, by kernel_rfl⟩
instance : GoFn Tryz.prog 103 := ⟨_, Tryz.func103, by kernel_rfl, by kernel_rfl⟩
instance : GoFn Tryz.prog 106 := ⟨_, Tryz.func106, by kernel_rfl, by kernel_rfl⟩
instance : GoFn Tryz.prog 107 := ⟨_, Tryz.func107, by kernel_rfl, by kernel_rfl⟩
instance : GoFn Tryz.prog 108 := ⟨_, Tryz.func108, by kernel_rfl, by kernel_rfl⟩
instance : GoFn Tryz.prog 109 := ⟨_, Tryz.func109, by kernel_rfl, by kernel_rfl⟩
instance : GoFn Tryz.prog 110 := ⟨_, Tryz.func110, by kernel_rfl, by kernel_rfl⟩
instance : GoFn Tryz.prog 111 := ⟨_, Tryz.func111, by kernel_rfl, by kernel_rfl⟩
instance : GoFn Tryz.prog 112 := ⟨_, Tryz.func112, by kernel_rfl, by kernel_rfl⟩
instance : GoFn Tryz.prog 113 := ⟨_, Tryz.func113, by kernel_rfl, by kernel_rfl⟩
instance : GoFn Tryz.prog 114 := ⟨_, Tryz.func114, by kernel_rfl, by kernel_rfl⟩
instance : GoFn Tryz.prog 115 := ⟨_, Tryz.func115, by kernel_rfl, by kernel_rfl⟩
instance : GoFn Tryz.prog 116 := ⟨_, Tryz.func116, by kernel_rfl, by kernel_rfl⟩
instance : GoFn Tryz.prog 117 := ⟨_, Tryz.func117, by kernel_rfl, by kernel_rfl⟩
instance : GoFn Tryz.prog 118 := ⟨_, Tryz.func118, by kernel_rfl, by kernel_rfl⟩
instance : GoFn Tryz.prog 119 := ⟨_, Tryz.func119, by kernel_rfl, by kernel_rfl⟩
instance : GoFn Tryz.prog 120 := ⟨_, Tryz.func120, by kernel_rfl, by kernel_rfl⟩
instance : GoFn Tryz.prog 121 := ⟨_, Tryz.func121, by kernel_rfl, by kernel_rfl⟩
instance : GoFn Tryz.prog 122 := ⟨_, Tryz.func122, by kernel_rfl, by kernel_rfl⟩
instance : GoFn Tryz.prog 123 := ⟨_, Tryz.func123, by kernel_rfl, by kernel_rfl⟩
instance : GoFn Tryz.prog 124 := ⟨_, Tryz.func124, by kernel_rfl, by kernel_rfl⟩
instance : GoFn Tryz.prog 125 := ⟨_, Tryz.func125, by kernel_rfl, by kernel_rfl⟩
instance : GoFn Tryz.prog 127 := ⟨_, Tryz.func127, by kernel_rfl, by kernel_rfl⟩
instance : GoFn Tryz.prog 128 := ⟨_, Tryz.func128, by kernel_rfl, by kernel_rfl⟩
instance : GoFn Tryz.prog 129 := ⟨_, Tryz.func129, by kernel_rfl, by kernel_rfl⟩
instance : GoFn Tryz.prog 130 := ⟨_, Tryz.func130, by kernel_rfl, by kernel_rfl⟩
end Go.Proofs.YtdodfnjmkpgdbaaGreat
end
section
set_option linter.unusedVariables false
set_option linter.unusedSimpArgs false
namespace Go.Proofs.YtdodfnjmkpgdbaaGreat
open Go.SL
structure CapM where
  kind : Int
  object : Int
  rights : Int
  badge : Int
  guard : Int
  bits : Int
deriving DecidableEq
abbrev CapM.zero : CapM := ⟨0, 0, 0, 0, 0, 0⟩
def CapM.nums (c : CapM) : List Int := [c.kind, c.object, c.rights, c.badge, c.guard, c.bits]
def capK : List IntKind := [.i64, .i64, .i64, .u64, .u64, .i64]
abbrev CapM.cells (c : CapM) : List Value := [.int .i64 c.kind, .int .i64 c.object, .int .i64 c.rights, .int .u64 c.badge, .int .u64 c.guard, .int .i64 c.bits]
abbrev CapM.v (c : CapM) : Value := .agg #[.int .i64 c.kind, .int .i64 c.object, .int .i64 c.rights, .int .u64 c.badge, .int .u64 c.guard, .int .i64 c.bits]
theorem CapM.ext_nums {a b : CapM} (h : a.nums = b.nums) : a = b := by
 cases a; cases b; simp [CapM.nums] at h; simp [h]
abbrev SlotM := Int × Int
abbrev slotV (s : SlotM) : Value := .agg #[.int .i64 s.1, .int .i64 s.2]
structure NodeM where
  blk : Nat
  radix : Nat
  caps : List CapM
def capsCells (l : List CapM) : List Value := l.flatMap CapM.cells
def NodeM.o (n : NodeM) : Obj := .cells (.int .i64 n.radix :: capsCells n.caps).toArray 97
structure StoreM where
  mb : Nat
  clk : Nat
  nodes : List (Int × NodeM × Nat)
def storeO (S : StoreM) : Obj := .cells [.map (some S.mb)].toArray 94
def nodeKV (l : List (Int × NodeM × Nat)) : List (Int × Value × Nat) := l.map fun e => (e.1, .pointer (some ⟨e.2.1.blk, 0, none⟩), e.2.2)
def StoreM.mapo (S : StoreM) : Obj := mapO encI (nodeKV S.nodes) S.clk
def nodesHp (l : List (Int × NodeM × Nat)) : Hp := l.map fun e => (e.2.1.blk, e.2.1.o)
def storeHp (sb : Nat) (S : StoreM) : Hp := (sb, storeO S) :: (S.mb, S.mapo) :: nodesHp S.nodes
def nget (id : Int) : List (Int × NodeM × Nat) → Option NodeM
  | [] => none
  | e :: l => if id = e.1 then some e.2.1 else nget id l
theorem mget_nodeKV (id : Int) : ∀ l, mget id (nodeKV l) = (nget id l).map fun n => .pointer (some ⟨n.blk, 0, none⟩)
  | [] => rfl
  | e :: l => by
    simp only [nodeKV, List.map_cons, mget, nget]
    split
    · rfl
    · exact mget_nodeKV id l
theorem nget_split {id : Int} {n : NodeM} : ∀ {l}, nget id l = some n → ∃ A t B, l = A ++ (id, n, t) :: B ∧ nget id A = none
  | [], h => by cases h
  | e :: l, h => by
    simp only [nget] at h
    split at h
    · rename_i hid
      cases h
      obtain ⟨i, m, t⟩ := e
      simp only at hid
      subst hid
      exact ⟨[], t, l, rfl, rfl⟩
    · rename_i hid
      obtain ⟨A, t, B, rfl, hA⟩ := nget_split h
      exact ⟨e :: A, t, B, rfl, by simp [nget, hid, hA]⟩
theorem reads_app {c : List Value} {off : Nat} {vs : List Value} (A B : List Value) (h : c = A ++ vs ++ B) (ho : A.length = off) : Reads c off vs := by
 subst h; subst ho
 induction vs generalizing A with
 | nil => trivial
 | cons v vs ih =>
  refine ⟨by rw [nth_eq]; simp, ?_⟩
  have := ih (A ++ [v])
  simpa using this
theorem capsCells_split {l : List CapM} {i : Nat} {c : CapM} (h : l[i]? = some c) : capsCells l = capsCells (l.take i) ++ c.cells ++ capsCells (l.drop (i + 1)) := by
 have hlt : i < l.length := by
  rcases Nat.lt_or_ge i l.length with h' | h'
  ·
   exact h'
  ·
   rw [List.getElem?_eq_none h'] at h; cases h
 have he : l[i] = c := by rw [List.getElem?_eq_getElem hlt] at h; exact Option.some.inj h
 conv => lhs; rw [← List.take_append_drop i l, List.drop_eq_getElem_cons hlt, he]
 simp [capsCells, List.flatMap_append]
theorem capsCells_len : ∀ l : List CapM, (capsCells l).length = 6 * l.length
  | [] => rfl
  | c :: l => by
    have ih := capsCells_len l
    have e : capsCells (c :: l) = c.cells ++ capsCells l := rfl
    rw [e, List.length_append, ih]
    simp [CapM.cells]; omega
theorem NodeM.reads {n : NodeM} {i : Nat} {c : CapM} (h : n.caps[i]? = some c) : Reads (.int .i64 n.radix :: capsCells n.caps) (1 + i * 6) c.cells := by
 have hlt : i < n.caps.length := by
  rcases Nat.lt_or_ge i n.caps.length with h' | h'
  ·
   exact h'
  ·
   rw [List.getElem?_eq_none h'] at h; cases h
 refine reads_app (.int .i64 n.radix :: capsCells (n.caps.take i)) (capsCells (n.caps.drop (i + 1))) ?_ ?_
 ·
  rw [capsCells_split h]; simp
 ·
  simp [capsCells_len, Nat.min_eq_left (Nat.le_of_lt hlt)]; omega
theorem sh_one {r : Nat} (h : r ≤ 4) : Value.int .i64 (IntKind.i64.wrap (1 * 2 ^ (min (r : Int).toNat IntKind.i64.bits))) = .int .i64 ((2 ^ r : Nat) : Int) := by
 match r, h with
 | 0, _ => rfl
 | 1, _ => rfl
 | 2, _ => rfl
 | 3, _ => rfl
 | 4, _ => rfl
instance {c : CapM} : LenIs c.cells 6 := ⟨rfl⟩
def rightsOk (r : Int) : Bool := decide (bitsI .andNot .i64 r 7 = 0)
def fitsM (g n : Int) : Bool := decide (0 ≤ n) && (decide (n ≤ 16) && decide (g.fdiv (2 ^ (min n.toNat 64)) = 0))
def plainM (c : CapM) : CapM :=
  if c.kind = 0 ∨ c.kind = 10 then ⟨c.kind, 0, 0, 0, 0, 0⟩
  else if c.kind = 4 ∨ c.kind = 5 then ⟨c.kind, c.object, c.rights, c.badge, 0, 0⟩
  else if c.kind = 6 then ⟨c.kind, c.object, c.rights, 0, 0, 0⟩
  else if c.kind = 2 then ⟨c.kind, c.object, 0, 0, c.guard, c.bits⟩
  else ⟨c.kind, c.object, 0, 0, 0, 0⟩
def checkM (c : CapM) : Int :=
  if c.kind < 0 ∨ 11 < c.kind then 2
  else if plainM c ≠ c ∨ c.object < 0 ∨ c.object.fdiv (2 ^ 6) ≠ 0 ∨ rightsOk c.rights = false ∨ c.badge.fdiv (2 ^ 28) ≠ 0 ∨ fitsM c.guard c.bits = false then 10 else 0
section capops
variable {P : Program} {n : Nat} {D : List Deferred} {E : Env} {L : Hp} {d : Option Tmp} {ty : TypeId} {pos : String} {aft : Array Edge} {g : Option (Nat × Bool)} {T : TypeId} {x y : Operand} {yt : TypeId}
theorem nums_iff {a b : CapM} : a.nums = b.nums ↔ a = b := ⟨CapM.ext_nums, fun h => by rw [h]⟩
theorem pv_eql_cap {a b : CapM} [hT : NumTy P T capK] (hx : ev E x = some a.v) (hy : ev E y = some b.v) : Pv P n D E L ⟨d, .binOp .eql T x y yt, ty, pos, aft, g⟩ (.bool (decide (a = b))) := by
 have := pv_eql_nums (P := P) (n := n) (D := D) (L := L) (d := d) (ty := ty) (pos := pos) (aft := aft) (g := g) (T := T) (yt := yt) a.nums b.nums hx hy rfl rfl
 rwa [decide_eq_decide.2 (nums_iff (a := a) (b := b))] at this
theorem pv_neq_cap {a b : CapM} [hT : NumTy P T capK] (hx : ev E x = some a.v) (hy : ev E y = some b.v) : Pv P n D E L ⟨d, .binOp .neq T x y yt, ty, pos, aft, g⟩ (.bool (decide (a ≠ b))) := by
 have := pv_neq_nums (P := P) (n := n) (D := D) (L := L) (d := d) (ty := ty) (pos := pos) (aft := aft) (g := g) (T := T) (yt := yt) a.nums b.nums hx hy rfl rfl
 rwa [decide_eq_decide.2 (not_congr (nums_iff (a := a) (b := b)))] at this
theorem slot_iff {a b : SlotM} : [a.1, a.2] = [b.1, b.2] ↔ a = b := by
 obtain ⟨a1, a2⟩ := a; obtain ⟨b1, b2⟩ := b; simp
theorem pv_eql_slot {a b : SlotM} [hT : NumTy P T [.i64, .i64]] (hx : ev E x = some (slotV a)) (hy : ev E y = some (slotV b)) : Pv P n D E L ⟨d, .binOp .eql T x y yt, ty, pos, aft, g⟩ (.bool (decide (a = b))) := by
 have := pv_eql_nums (P := P) (n := n) (D := D) (L := L) (d := d) (ty := ty) (pos := pos) (aft := aft) (g := g) (T := T) (yt := yt) [a.1, a.2] [b.1, b.2] hx hy rfl rfl
 rwa [decide_eq_decide.2 (slot_iff (a := a) (b := b))] at this
theorem pv_neq_slot {a b : SlotM} [hT : NumTy P T [.i64, .i64]] (hx : ev E x = some (slotV a)) (hy : ev E y = some (slotV b)) : Pv P n D E L ⟨d, .binOp .neq T x y yt, ty, pos, aft, g⟩ (.bool (decide (a ≠ b))) := by
 have := pv_neq_nums (P := P) (n := n) (D := D) (L := L) (d := d) (ty := ty) (pos := pos) (aft := aft) (g := g) (T := T) (yt := yt) [a.1, a.2] [b.1, b.2] hx hy rfl rfl
 rwa [decide_eq_decide.2 (not_congr (slot_iff (a := a) (b := b)))] at this
end capops
def zeroCaps : List CapM := List.replicate 16 CapM.zero
structure NodeM.Wf (n : NodeM) : Prop where
  len : n.caps.length = 16
  lo : 1 ≤ n.radix
  hi : n.radix ≤ 4
def StoreM.Wf (S : StoreM) : Prop := ∀ id n, nget id S.nodes = some n → n.Wf ∧ 0 ≤ id ∧ id < 64
def NodeM.has (n : NodeM) (i : Int) : Prop := 0 ≤ i ∧ i < (2 ^ n.radix : Nat)
instance (n : NodeM) (i : Int) : Decidable (n.has i) := inferInstanceAs (Decidable (_ ∧ _))
def StoreM.cap? (S : StoreM) (s : SlotM) : Option CapM :=
  match nget s.1 S.nodes with
  | none => none
  | some n => if n.has s.2 then n.caps[s.2.toNat]? else none
def StoreM.addr (S : StoreM) (s : SlotM) : Option Addr :=
  match nget s.1 S.nodes with
  | none => none
  | some n => if n.has s.2 then some ⟨n.blk, 1 + s.2.toNat * 6, none⟩ else none
theorem NodeM.Wf.lt {n : NodeM} (h : n.Wf) {i : Int} (hi : n.has i) : i.toNat < 16 := by
 have h1 : (2 : Nat) ^ n.radix ≤ 2 ^ 4 := Nat.pow_le_pow_right (by omega) h.hi
 unfold NodeM.has at hi
 omega
instance {sb : Nat} {S : StoreM} : Blk (storeHp sb S) sb (.cells [.map (some S.mb)].toArray 94 (0, 0)) := ⟨List.mem_cons_self ..⟩
instance {sb : Nat} {S : StoreM} : Blk (storeHp sb S) S.mb (mapO encI (nodeKV S.nodes) S.clk) := ⟨List.mem_cons_of_mem _ (List.mem_cons_self ..)⟩
theorem nodesHp_mem {id : Int} {n : NodeM} {l : List (Int × NodeM × Nat)} (h : nget id l = some n) : (n.blk, n.o) ∈ nodesHp l := by
 obtain ⟨A, t, B, rfl, _⟩ := nget_split h
 simp [nodesHp]
theorem StoreM.blk {sb : Nat} {S : StoreM} {id : Int} {n : NodeM} (h : nget id S.nodes = some n) : Blk (storeHp sb S) n.blk (.cells (.int .i64 n.radix :: capsCells n.caps).toArray 97 (0, 0)) :=
  ⟨List.mem_cons_of_mem _ (List.mem_cons_of_mem _ (nodesHp_mem h))⟩
def nset (id : Int) (n' : NodeM) : List (Int × NodeM × Nat) → List (Int × NodeM × Nat)
  | [] => []
  | e :: l => if id = e.1 then (e.1, n', e.2.2) :: l else e :: nset id n' l
theorem nset_split {id : Int} {n n' : NodeM} : ∀ {A : List (Int × NodeM × Nat)} {t : Nat} {B}, nget id A = none → nset id n' (A ++ (id, n, t) :: B) = A ++ (id, n', t) :: B
  | [], t, B, _ => by simp [nset]
  | e :: A, t, B, h => by
    simp only [nget] at h
    split at h
    · cases h
    · rename_i hid
      simp only [List.cons_append, nset, hid, if_false]
      rw [nset_split h]
theorem nodeKV_nset {id : Int} {n n' : NodeM} (hb : n'.blk = n.blk) : ∀ {l}, nget id l = some n → nodeKV (nset id n' l) = nodeKV l
  | [], h => by cases h
  | e :: l, h => by
    simp only [nget] at h
    simp only [nset]
    split at h
    · rename_i hid; cases h; simp [hid, nodeKV, hb]
    · rename_i hid
      have := nodeKV_nset hb h
      simp only [hid, if_false, nodeKV, List.map_cons] at this ⊢
      rw [this]
def StoreM.setNode (S : StoreM) (id : Int) (n' : NodeM) : StoreM := { S with nodes := nset id n' S.nodes }
theorem StoreM.upd {sb : Nat} {S : StoreM} {id : Int} {n n' : NodeM} (h : nget id S.nodes = some n) (hb : n'.blk = n.blk) {o' : Obj} (ho : o' = n'.o) : Upd (storeHp sb S) n.blk o' (storeHp sb (S.setNode id n')) := by
 subst ho
 have hk := nodeKV_nset hb h
 obtain ⟨A, t, B, hl, hA⟩ := nget_split h
 refine ⟨(sb, storeO S) :: (S.mb, S.mapo) :: nodesHp A, nodesHp B, n.o, ?_, ?_⟩
 ·
  simp [storeHp, hl, nodesHp]
 ·
  have e1 : (S.setNode id n').nodes = A ++ (id, n', t) :: B := by simp only [StoreM.setNode]; rw [hl, nset_split hA]
  have e2 : (S.setNode id n').mapo = S.mapo := by simp only [StoreM.mapo]; rw [show (S.setNode id n').nodes = nset id n' S.nodes from rfl, hk]; rfl
  have e3 : storeO (S.setNode id n') = storeO S := rfl
  have e4 : (S.setNode id n').mb = S.mb := rfl
  simp only [storeHp, e1, e2, e3, e4, nodesHp, List.map_append, List.map_cons, hb]
  rfl
theorem setL_of {l l' vs : List Value} {i : Nat} (A B : List Value) (vs0 : List Value) (h : l = A ++ vs0 ++ B) (h' : l' = A ++ vs ++ B) (hi : A.length = i) (hv : vs0.length = vs.length) : SetL l i vs l' := by
 subst h; subst h'; subst hi
 refine ⟨by simp [hv], by simp [hv], fun j => ?_⟩
 by_cases h1 : j < A.length
 ·
  rw [if_neg (by omega), List.append_assoc, List.append_assoc, List.getElem?_append_left h1, List.getElem?_append_left h1]
 ·
  by_cases h2 : j < A.length + vs.length
  ·
   rw [if_pos (by omega), List.append_assoc, List.getElem?_append_right (by omega), List.getElem?_append_left (by omega)]
  ·
   rw [if_neg (by omega), List.getElem?_append_right (by simp; omega), List.getElem?_append_right (by simp; omega)]
   simp [hv]
theorem capsCells_set {l : List CapM} {i : Nat} {c c' : CapM} (h : l[i]? = some c) : capsCells (l.set i c') = capsCells (l.take i) ++ c'.cells ++ capsCells (l.drop (i + 1)) := by
 have hlt : i < l.length := by
  rcases Nat.lt_or_ge i l.length with h' | h'
  ·
   exact h'
  ·
   rw [List.getElem?_eq_none h'] at h; cases h
 rw [List.set_eq_take_append_cons_drop, if_pos hlt]
 simp [capsCells, List.flatMap_append]
theorem NodeM.setL {n : NodeM} {i : Nat} {c c' : CapM} (h : n.caps[i]? = some c) : SetL (.int .i64 n.radix :: capsCells n.caps) (1 + i * 6) c'.cells (.int .i64 n.radix :: capsCells (n.caps.set i c')) := by
 have hlt : i < n.caps.length := by
  rcases Nat.lt_or_ge i n.caps.length with h' | h'
  ·
   exact h'
  ·
   rw [List.getElem?_eq_none h'] at h; cases h
 refine setL_of (.int .i64 n.radix :: capsCells (n.caps.take i)) (capsCells (n.caps.drop (i + 1))) c.cells ?_ ?_ ?_ rfl
 ·
  rw [capsCells_split h]; simp
 ·
  rw [capsCells_set h]; simp
 ·
  simp [capsCells_len, Nat.min_eq_left (Nat.le_of_lt hlt)]; omega
def NodeM.set (n : NodeM) (i : Nat) (c : CapM) : NodeM := { n with caps := n.caps.set i c }
def StoreM.setCap (S : StoreM) (s : SlotM) (c : CapM) : StoreM :=
  match nget s.1 S.nodes with
  | none => S
  | some n => S.setNode s.1 (n.set s.2.toNat c)
theorem StoreM.cap_some {S : StoreM} {s : SlotM} {c : CapM} (h : S.cap? s = some c) : ∃ n, nget s.1 S.nodes = some n ∧ n.has s.2 ∧ n.caps[s.2.toNat]? = some c ∧ S.addr s = some ⟨n.blk, 1 + s.2.toNat * 6, none⟩ := by
 unfold StoreM.cap? at h
 unfold StoreM.addr
 cases hn : nget s.1 S.nodes with
 | none => rw [hn] at h; cases h
 | some n =>
  rw [hn] at h
  simp only at h ⊢
  split at h
  ·
   rename_i hh; exact ⟨n, rfl, hh, h, if_pos hh⟩
  ·
   cases h
theorem StoreM.cap_none {S : StoreM} {s : SlotM} (hw : S.Wf) (h : S.cap? s = none) : S.addr s = none := by
 unfold StoreM.cap? at h
 unfold StoreM.addr
 cases hn : nget s.1 S.nodes with
 | none => rfl
 | some n =>
  rw [hn] at h
  simp only at h ⊢
  split at h
  ·
   rename_i hh
   have h1 := (hw _ _ hn).1
   have h2 := h1.lt hh
   rw [List.getElem?_eq_none_iff] at h
   rw [h1.len] at h
   omega
  ·
   rename_i hh; exact if_neg hh
theorem StoreM.setCap_eq {S : StoreM} {s : SlotM} {n : NodeM} (h : nget s.1 S.nodes = some n) (c : CapM) : S.setNode s.1 (n.set s.2.toNat c) = S.setCap s c := by
 unfold StoreM.setCap; rw [h]
def StoreM.put (S : StoreM) (s : SlotM) (c : CapM) : Int × StoreM :=
  match S.cap? s with
  | none => (6, S)
  | some x => if checkM c ≠ 0 then (checkM c, S) else if c.kind = 0 then (3, S) else if x.kind ≠ 0 then (4, S) else (0, S.setCap s c)
def StoreM.take (S : StoreM) (s : SlotM) : CapM × Int × StoreM :=
  match S.cap? s with
  | none => (CapM.zero, 6, S)
  | some x => if x.kind = 0 then (CapM.zero, 3, S) else (x, 0, S.setCap s CapM.zero)
def StoreM.get (S : StoreM) (s : SlotM) : CapM × Int :=
  match S.cap? s with
  | none => (CapM.zero, 6)
  | some x => (x, 0)
def StoreM.radix (S : StoreM) (id : Int) : Int :=
  match nget id S.nodes with
  | none => 0
  | some n => n.radix
theorem mput_new {id : Int} {v : Value} {t : Nat} : ∀ {l : List (Int × NodeM × Nat)}, nget id l = none → mput id v t (nodeKV l) = nodeKV l ++ [(id, v, t)]
  | [], _ => rfl
  | e :: l, h => by
    simp only [nget] at h
    split at h
    · cases h
    · rename_i hid
      have := mput_new (v := v) (t := t) h
      simp only [nodeKV, List.map_cons, mput, hid, if_false, List.cons_append] at this ⊢
      rw [this]
theorem mclk_new {id : Int} {cl : Nat} {l : List (Int × NodeM × Nat)} (h : nget id l = none) : mclk id (nodeKV l) cl = cl + 1 := by
 simp [mclk, mget_nodeKV, h]
def StoreM.addNode (S : StoreM) (id : Int) (b r : Nat) : StoreM := { S with nodes := S.nodes ++ [(id, ⟨b, r, zeroCaps⟩, S.clk)], clk := S.clk + 1 }
def storeMapU (sb : Nat) (S : StoreM) (o : Obj) : Hp := (sb, storeO S) :: (S.mb, o) :: nodesHp S.nodes
theorem StoreM.updMap {sb : Nat} {S : StoreM} {o : Obj} : Upd (storeHp sb S) S.mb o (storeMapU sb S o) := ⟨[(sb, storeO S)], nodesHp S.nodes, S.mapo, rfl, rfl⟩
theorem StoreM.add_perm {sb b r : Nat} {S : StoreM} {id : Int} {F : Hp} (h : nget id S.nodes = none) :
    ((b, .cells (.int .i64 (r : Int) :: capsCells zeroCaps).toArray 97) :: (storeMapU sb S (mapO encI (mput id (.pointer (some ⟨b, 0, none⟩)) S.clk (nodeKV S.nodes)) (mclk id (nodeKV S.nodes) S.clk)) ++ F)).Perm (storeHp sb (S.addNode id b r) ++ F) := by
  rw [mput_new h, mclk_new h]
  have e : storeHp sb (S.addNode id b r) = storeMapU sb S (mapO encI (nodeKV S.nodes ++ [(id, .pointer (some ⟨b, 0, none⟩), S.clk)]) (S.clk + 1)) ++ [(b, .cells (.int .i64 (r : Int) :: capsCells zeroCaps).toArray 97)] := by
    simp [storeHp, storeMapU, StoreM.addNode, StoreM.mapo, nodeKV, nodesHp, storeO, NodeM.o]
  rw [e, ← List.cons_append]
  exact (List.perm_append_singleton _ _).symm.append_right F
instance tyZNode : TyZ Tryz.prog 97 (.agg (.int .i64 0 :: capsCells zeroCaps).toArray) := ⟨by kernel_rfl⟩
instance tyZCaps : TyZ Tryz.prog 95 (.agg (capsCells zeroCaps).toArray) := ⟨by kernel_rfl⟩
theorem nget_app_none {id : Int} {l m : List (Int × NodeM × Nat)} (h : nget id l = none) : nget id (l ++ m) = nget id m := by
 induction l with
 | nil => rfl
 | cons e l ih =>
  simp only [nget] at h
  split at h
  ·
   cases h
  ·
   rename_i hid; simp [nget, hid, ih h]
theorem nget_app_some {id : Int} {n : NodeM} {l m : List (Int × NodeM × Nat)} (h : nget id l = some n) : nget id (l ++ m) = some n := by
 induction l with
 | nil => cases h
 | cons e l ih =>
  simp only [nget] at h
  simp only [List.cons_append, nget]
  split at h
  ·
   rename_i hid; rw [if_pos hid]; exact h
  ·
   rename_i hid; rw [if_neg hid]; exact ih h
end Go.Proofs.YtdodfnjmkpgdbaaGreat
end
section
set_option linter.unusedVariables false
set_option linter.unusedSimpArgs false
namespace Go.Proofs.YtdodfnjmkpgdbaaGreat
open Go.SL
theorem tr_rightsOk (r : Int) : TrR Tryz.prog 115 [.int .i64 r] ([]) (.bool (rightsOk r)) := by
 refine Tr.enter Tryz.func115 rfl Tryz.ntmps115 rfl (fun W F => ?_)
 refine Wp.app ?_
 refine Wr ?_
 refine Oa1 rfl rfl ?_
 refine On ?_
 refine Wr ?_
 refine Om1 rfl rfl ?_
 refine Ops.pv (pv_andNot rfl rfl rfl) rfl ?_
 refine Ops.pv (pv_eql rfl rfl) rfl ?_
 refine Oa1 rfl rfl ?_
 refine On ?_
 refine Wp.ret ?_
 exact Ends.ret (res1 rfl rfl) ⟨rfl, rfl⟩
theorem tr_fits (gd n : Int) : TrR Tryz.prog 117 [.int .u64 gd, .int .i64 n] ([]) (.bool (fitsM gd n)) := by
 refine Tr.enter Tryz.func117 rfl Tryz.ntmps117 rfl (fun W F => ?_)
 refine Wp.app ?_
 refine Wr ?_
 refine Oa1 rfl rfl ?_
 refine On ?_
 refine Wr ?_
 refine Om1 rfl rfl ?_
 refine Ops.pv (pv_geq rfl rfl) rfl ?_
 refine Om1 rfl rfl ?_
 refine Ops.split (t := 7) rfl (fun h1 => ?_) (fun h1 => ?_)
 ·
  refine Ops.pvg ⟨_, _, rfl, rfl, rfl⟩ (pv_move rfl) rfl ?_
  refine Ops.pvg ⟨_, _, rfl, rfl, rfl⟩ (pv_leq rfl rfl) rfl ?_
  refine Ops.pv (pv_pick_true rfl rfl) rfl ?_
  refine Om1 rfl rfl ?_
  refine Ops.split (t := 11) rfl (fun h2 => ?_) (fun h2 => ?_)
  ·
   refine Ops.pvg ⟨_, _, rfl, rfl, rfl⟩ (pv_move rfl) rfl ?_
   refine Ops.pvg ⟨_, _, rfl, rfl, rfl⟩ (pv_move rfl) rfl ?_
   refine Ops.pvg ⟨_, _, rfl, rfl, rfl⟩ (pv_shr rfl rfl (by omega) rfl) rfl ?_
   refine Ops.pvg ⟨_, _, rfl, rfl, rfl⟩ (pv_eql rfl rfl) rfl ?_
   refine Ops.pv (pv_pick_true rfl rfl) rfl ?_
   refine Oa1 rfl rfl ?_
   refine On ?_
   refine Wp.ret ?_
   exact Ends.ret (res1 rfl rfl) ⟨by simp [fitsM, IntKind.bits, *] <;> rfl, rfl⟩
  refine Os1 rfl rfl rfl rfl ?_
  refine Os1 rfl rfl rfl rfl ?_
  refine Os1 rfl rfl rfl rfl ?_
  refine Os1 rfl rfl rfl rfl ?_
  refine Ops.pv (pv_pick_false rfl rfl) rfl ?_
  refine Oa1 rfl rfl ?_
  refine On ?_
  refine Wp.ret ?_
  exact Ends.ret (res1 rfl rfl) ⟨by simp [fitsM, IntKind.bits, *] <;> rfl, rfl⟩
 refine Os1 rfl rfl rfl rfl ?_
 refine Os1 rfl rfl rfl rfl ?_
 refine Ops.pv (pv_pick_false rfl rfl) rfl ?_
 refine Om1 rfl rfl ?_
 refine Os1 rfl rfl rfl rfl ?_
 refine Os1 rfl rfl rfl rfl ?_
 refine Os1 rfl rfl rfl rfl ?_
 refine Os1 rfl rfl rfl rfl ?_
 refine Ops.pv (pv_pick_false rfl rfl) rfl ?_
 refine Oa1 rfl rfl ?_
 refine On ?_
 refine Wp.ret ?_
 exact Ends.ret (res1 rfl rfl) ⟨by simp [fitsM, IntKind.bits, *] <;> rfl, rfl⟩
theorem tr_plain (c : CapM) : TrR Tryz.prog 128 [c.v] ([]) ((plainM c).v) := by
 refine Tr.enter Tryz.func128 rfl Tryz.ntmps128 rfl (fun W F => ?_)
 refine Wp.app ?_
 refine Wr ?_
 refine Ops.ef rfl (ef_boxK rfl rfl) ?_
 rintro _ _ ⟨b1, rfl, rfl⟩
 refine Ops.ef rfl (ef_allocK tyZ25 rfl) ?_
 rintro _ _ ⟨b2, rfl, rfl⟩
 refine On ?_
 refine Wr ?_
 refine Of1 rfl rfl rfl ?_
 refine Ol1 rfl rfl rfl rfl ?_
 refine Ops.pv (pv_build rfl) rfl ?_
 refine Ops.ef rfl (ef_allocK tyZ25 rfl) ?_
 rintro _ _ ⟨b3, rfl, rfl⟩
 refine Ops.ef rfl (ef_storeK rfl rfl rfl rfl) ?_
 rintro _ _ ⟨rfl, rfl⟩
 refine On ?_
 refine Wp.seq ?_
 refine Wr ?_
 refine Of1 rfl rfl rfl ?_
 refine Ol1 rfl rfl rfl rfl ?_
 refine On ?_
 refine Wp.block ?_
 refine Wp.seq ?_
 refine Wr ?_
 refine Ops.pv (pv_eql rfl rfl) rfl ?_
 refine Oa1 rfl rfl ?_
 refine On ?_
 refine Wp.cond_dect rfl (fun h1 => ?_) (fun h1 => ?_)
 ·
  refine Wp.skip ?_
  refine Ends.seq ?_
  refine Wp.cond_true rfl ?_
  refine Wp.skip ?_
  refine Ends.block_normal ?_
  refine Ends.seq ?_
  refine Wr ?_
  refine Ops.pv (pv_loadK [_, _, _, _, _, _] rfl rfl rfl ⟨rfl, rfl, rfl, rfl, rfl, rfl, trivial⟩) rfl ?_
  refine Ops.ef rfl (ef_storeK rfl rfl rfl rfl) ?_
  rintro _ _ ⟨rfl, rfl⟩
  refine On ?_
  refine Wp.ret ?_
  exact Ends.ret (res_one rfl (rv_cellK [_, _, _, _, _, _] rfl rfl rfl ⟨rfl, rfl, rfl, rfl, rfl, rfl, trivial⟩)) ⟨by simp [plainM, *], rfl⟩
 refine Wp.region ?_
 refine Ops.pv (pv_eql rfl rfl) rfl ?_
 refine Oa1 rfl rfl ?_
 refine On ?_
 refine Wp.cond_dect rfl (fun h2 => ?_) (fun h2 => ?_)
 ·
  refine Wp.skip ?_
  refine Ends.block_normal ?_
  refine Ends.seq ?_
  refine Wr ?_
  refine Ops.pv (pv_loadK [_, _, _, _, _, _] rfl rfl rfl ⟨rfl, rfl, rfl, rfl, rfl, rfl, trivial⟩) rfl ?_
  refine Ops.ef rfl (ef_storeK rfl rfl rfl rfl) ?_
  rintro _ _ ⟨rfl, rfl⟩
  refine On ?_
  refine Wp.ret ?_
  exact Ends.ret (res_one rfl (rv_cellK [_, _, _, _, _, _] rfl rfl rfl ⟨rfl, rfl, rfl, rfl, rfl, rfl, trivial⟩)) ⟨by simp [plainM, *], rfl⟩
 refine Wp.seq ?_
 refine Wr ?_
 refine Ops.pv (pv_eql rfl rfl) rfl ?_
 refine Oa1 rfl rfl ?_
 refine On ?_
 refine Wp.cond_dect rfl (fun h3 => ?_) (fun h3 => ?_)
 ·
  refine Wp.skip ?_
  refine Ends.seq ?_
  refine Wp.cond_true rfl ?_
  refine AnyH.start [(b1, .cells c.cells.toArray 25)] 12 rfl ?_
  refine Tk 0 rfl rfl (pv_fieldAddr0 rfl rfl) rfl ?_
  refine Tk 1 rfl rfl (pv_load rfl rfl rfl) rfl ?_
  refine Tk 2 rfl rfl (pv_fieldAddr0 rfl rfl) rfl ?_
  refine Tk 3 rfl rfl (pv_load rfl rfl rfl) rfl ?_
  refine Tk 4 rfl rfl (pv_fieldAddr0 rfl rfl) rfl ?_
  refine Tk 5 rfl rfl (pv_load rfl rfl rfl) rfl ?_
  refine Tk 6 rfl rfl (pv_fieldAddr0 rfl rfl) rfl ?_
  refine AnyH.one 7 (by kernel_rfl) ?_
  refine Turn.ef rfl rfl (ef_store1 rfl rfl (by first | rfl | assumption) (by first | rfl | assumption)) ?_ ?_
  ·
   rintro _ _ ⟨rfl, rfl⟩; infer_instance
  rintro _ _ ⟨rfl, rfl⟩
  refine Tk 8 rfl rfl (pv_fieldAddr0 rfl rfl) rfl ?_
  refine AnyH.one 9 (by kernel_rfl) ?_
  refine Turn.ef rfl rfl (ef_store1 rfl rfl (by first | rfl | assumption) (by first | rfl | assumption)) ?_ ?_
  ·
   rintro _ _ ⟨rfl, rfl⟩; infer_instance
  rintro _ _ ⟨rfl, rfl⟩
  refine Tk 10 rfl rfl (pv_fieldAddr0 rfl rfl) rfl ?_
  refine AnyH.one 11 (by kernel_rfl) ?_
  refine Turn.ef rfl rfl (ef_store1 rfl rfl (by first | rfl | assumption) (by first | rfl | assumption)) ?_ ?_
  ·
   rintro _ _ ⟨rfl, rfl⟩; infer_instance
  rintro _ _ ⟨rfl, rfl⟩
  refine AnyH.done (by kernel_rfl) ?_
  refine Ends.block_normal ?_
  refine Ends.seq ?_
  refine Wr ?_
  refine Ops.pv (pv_loadK [_, _, _, _, _, _] rfl rfl rfl ⟨rfl, rfl, rfl, rfl, rfl, rfl, trivial⟩) rfl ?_
  refine Ops.ef rfl (ef_storeK rfl rfl rfl rfl) ?_
  rintro _ _ ⟨rfl, rfl⟩
  refine On ?_
  refine Wp.ret ?_
  exact Ends.ret (res_one rfl (rv_cellK [_, _, _, _, _, _] rfl rfl rfl ⟨rfl, rfl, rfl, rfl, rfl, rfl, trivial⟩)) ⟨by simp [plainM, *], rfl⟩
 refine Wp.region ?_
 refine Ops.pv (pv_eql rfl rfl) rfl ?_
 refine Oa1 rfl rfl ?_
 refine On ?_
 refine Wp.cond_dect rfl (fun h4 => ?_) (fun h4 => ?_)
 ·
  refine AnyH.start [(b1, .cells c.cells.toArray 25)] 12 rfl ?_
  refine Tk 0 rfl rfl (pv_fieldAddr0 rfl rfl) rfl ?_
  refine Tk 1 rfl rfl (pv_load rfl rfl rfl) rfl ?_
  refine Tk 2 rfl rfl (pv_fieldAddr0 rfl rfl) rfl ?_
  refine Tk 3 rfl rfl (pv_load rfl rfl rfl) rfl ?_
  refine Tk 4 rfl rfl (pv_fieldAddr0 rfl rfl) rfl ?_
  refine Tk 5 rfl rfl (pv_load rfl rfl rfl) rfl ?_
  refine Tk 6 rfl rfl (pv_fieldAddr0 rfl rfl) rfl ?_
  refine AnyH.one 7 (by kernel_rfl) ?_
  refine Turn.ef rfl rfl (ef_store1 rfl rfl (by first | rfl | assumption) (by first | rfl | assumption)) ?_ ?_
  ·
   rintro _ _ ⟨rfl, rfl⟩; infer_instance
  rintro _ _ ⟨rfl, rfl⟩
  refine Tk 8 rfl rfl (pv_fieldAddr0 rfl rfl) rfl ?_
  refine AnyH.one 9 (by kernel_rfl) ?_
  refine Turn.ef rfl rfl (ef_store1 rfl rfl (by first | rfl | assumption) (by first | rfl | assumption)) ?_ ?_
  ·
   rintro _ _ ⟨rfl, rfl⟩; infer_instance
  rintro _ _ ⟨rfl, rfl⟩
  refine Tk 10 rfl rfl (pv_fieldAddr0 rfl rfl) rfl ?_
  refine AnyH.one 11 (by kernel_rfl) ?_
  refine Turn.ef rfl rfl (ef_store1 rfl rfl (by first | rfl | assumption) (by first | rfl | assumption)) ?_ ?_
  ·
   rintro _ _ ⟨rfl, rfl⟩; infer_instance
  rintro _ _ ⟨rfl, rfl⟩
  refine AnyH.done (by kernel_rfl) ?_
  refine Ends.block_normal ?_
  refine Ends.seq ?_
  refine Wr ?_
  refine Ops.pv (pv_loadK [_, _, _, _, _, _] rfl rfl rfl ⟨rfl, rfl, rfl, rfl, rfl, rfl, trivial⟩) rfl ?_
  refine Ops.ef rfl (ef_storeK rfl rfl rfl rfl) ?_
  rintro _ _ ⟨rfl, rfl⟩
  refine On ?_
  refine Wp.ret ?_
  exact Ends.ret (res_one rfl (rv_cellK [_, _, _, _, _, _] rfl rfl rfl ⟨rfl, rfl, rfl, rfl, rfl, rfl, trivial⟩)) ⟨by simp [plainM, *], rfl⟩
 refine Wr ?_
 refine Ops.pv (pv_eql rfl rfl) rfl ?_
 refine Oa1 rfl rfl ?_
 refine On ?_
 refine Wp.cond_dect rfl (fun h5 => ?_) (fun h5 => ?_)
 ·
  refine AnyH.start [(b1, .cells c.cells.toArray 25)] 8 rfl ?_
  refine Tk 0 rfl rfl (pv_fieldAddr0 rfl rfl) rfl ?_
  refine Tk 1 rfl rfl (pv_load rfl rfl rfl) rfl ?_
  refine Tk 2 rfl rfl (pv_fieldAddr0 rfl rfl) rfl ?_
  refine Tk 3 rfl rfl (pv_load rfl rfl rfl) rfl ?_
  refine Tk 4 rfl rfl (pv_fieldAddr0 rfl rfl) rfl ?_
  refine AnyH.one 5 (by kernel_rfl) ?_
  refine Turn.ef rfl rfl (ef_store1 rfl rfl (by first | rfl | assumption) (by first | rfl | assumption)) ?_ ?_
  ·
   rintro _ _ ⟨rfl, rfl⟩; infer_instance
  rintro _ _ ⟨rfl, rfl⟩
  refine Tk 6 rfl rfl (pv_fieldAddr0 rfl rfl) rfl ?_
  refine AnyH.one 7 (by kernel_rfl) ?_
  refine Turn.ef rfl rfl (ef_store1 rfl rfl (by first | rfl | assumption) (by first | rfl | assumption)) ?_ ?_
  ·
   rintro _ _ ⟨rfl, rfl⟩; infer_instance
  rintro _ _ ⟨rfl, rfl⟩
  refine AnyH.done (by kernel_rfl) ?_
  refine Ends.block_normal ?_
  refine Ends.seq ?_
  refine Wr ?_
  refine Ops.pv (pv_loadK [_, _, _, _, _, _] rfl rfl rfl ⟨rfl, rfl, rfl, rfl, rfl, rfl, trivial⟩) rfl ?_
  refine Ops.ef rfl (ef_storeK rfl rfl rfl rfl) ?_
  rintro _ _ ⟨rfl, rfl⟩
  refine On ?_
  refine Wp.ret ?_
  exact Ends.ret (res_one rfl (rv_cellK [_, _, _, _, _, _] rfl rfl rfl ⟨rfl, rfl, rfl, rfl, rfl, rfl, trivial⟩)) ⟨by simp [plainM, *], rfl⟩
 refine Wr ?_
 refine Ops.pv (pv_eql rfl rfl) rfl ?_
 refine Oa1 rfl rfl ?_
 refine On ?_
 refine Wp.cond_dect rfl (fun h6 => ?_) (fun h6 => ?_)
 ·
  refine AnyH.start [(b1, .cells c.cells.toArray 25)] 12 rfl ?_
  refine Tk 0 rfl rfl (pv_fieldAddr0 rfl rfl) rfl ?_
  refine Tk 1 rfl rfl (pv_load rfl rfl rfl) rfl ?_
  refine Tk 2 rfl rfl (pv_fieldAddr0 rfl rfl) rfl ?_
  refine Tk 3 rfl rfl (pv_load rfl rfl rfl) rfl ?_
  refine Tk 4 rfl rfl (pv_fieldAddr0 rfl rfl) rfl ?_
  refine Tk 5 rfl rfl (pv_load rfl rfl rfl) rfl ?_
  refine Tk 6 rfl rfl (pv_fieldAddr0 rfl rfl) rfl ?_
  refine AnyH.one 7 (by kernel_rfl) ?_
  refine Turn.ef rfl rfl (ef_store1 rfl rfl (by first | rfl | assumption) (by first | rfl | assumption)) ?_ ?_
  ·
   rintro _ _ ⟨rfl, rfl⟩; infer_instance
  rintro _ _ ⟨rfl, rfl⟩
  refine Tk 8 rfl rfl (pv_fieldAddr0 rfl rfl) rfl ?_
  refine AnyH.one 9 (by kernel_rfl) ?_
  refine Turn.ef rfl rfl (ef_store1 rfl rfl (by first | rfl | assumption) (by first | rfl | assumption)) ?_ ?_
  ·
   rintro _ _ ⟨rfl, rfl⟩; infer_instance
  rintro _ _ ⟨rfl, rfl⟩
  refine Tk 10 rfl rfl (pv_fieldAddr0 rfl rfl) rfl ?_
  refine AnyH.one 11 (by kernel_rfl) ?_
  refine Turn.ef rfl rfl (ef_store1 rfl rfl (by first | rfl | assumption) (by first | rfl | assumption)) ?_ ?_
  ·
   rintro _ _ ⟨rfl, rfl⟩; infer_instance
  rintro _ _ ⟨rfl, rfl⟩
  refine AnyH.done (by kernel_rfl) ?_
  refine Ends.block_normal ?_
  refine Ends.seq ?_
  refine Wr ?_
  refine Ops.pv (pv_loadK [_, _, _, _, _, _] rfl rfl rfl ⟨rfl, rfl, rfl, rfl, rfl, rfl, trivial⟩) rfl ?_
  refine Ops.ef rfl (ef_storeK rfl rfl rfl rfl) ?_
  rintro _ _ ⟨rfl, rfl⟩
  refine On ?_
  refine Wp.ret ?_
  exact Ends.ret (res_one rfl (rv_cellK [_, _, _, _, _, _] rfl rfl rfl ⟨rfl, rfl, rfl, rfl, rfl, rfl, trivial⟩)) ⟨by simp [plainM, *], rfl⟩
 refine Wp.region ?_
 refine Of1 rfl rfl rfl ?_
 refine Ol1 rfl rfl rfl rfl ?_
 refine Of1 rfl rfl rfl ?_
 refine Ops.ef rfl (ef_store1 rfl rfl (by first | rfl | assumption) (by first | rfl | assumption)) ?_
 rintro _ _ ⟨rfl, rfl⟩
 refine Ops.nil ?_
 refine Ends.block_normal ?_
 refine Ends.seq ?_
 refine Wr ?_
 refine Ops.pv (pv_loadK [_, _, _, _, _, _] rfl rfl rfl ⟨rfl, rfl, rfl, rfl, rfl, rfl, trivial⟩) rfl ?_
 refine Ops.ef rfl (ef_storeK rfl rfl rfl rfl) ?_
 rintro _ _ ⟨rfl, rfl⟩
 refine On ?_
 refine Wp.ret ?_
 exact Ends.ret (res_one rfl (rv_cellK [_, _, _, _, _, _] rfl rfl rfl ⟨rfl, rfl, rfl, rfl, rfl, rfl, trivial⟩)) ⟨by simp [plainM, *], rfl⟩
theorem tr_check (c : CapM) : TrR Tryz.prog 111 [c.v] ([]) (.int .i64 (checkM c)) := by
 refine Tr.enter Tryz.func111 rfl Tryz.ntmps111 rfl (fun W F => ?_)
 refine Wp.app ?_
 refine Wr ?_
 refine Ops.ef rfl (ef_boxK rfl rfl) ?_
 rintro _ _ ⟨b1, rfl, rfl⟩
 refine Oa1 rfl rfl ?_
 refine On ?_
 refine Wp.seq ?_
 refine Wp.block ?_
 refine Wr ?_
 refine Of1 rfl rfl rfl ?_
 refine Ol1 rfl rfl rfl rfl ?_
 refine Ops.pv (pv_lss rfl rfl) rfl ?_
 refine Om1 rfl rfl ?_
 refine Ops.split (t := 7) rfl (fun h1 => ?_) (fun h1 => ?_)
 ·
  refine Os1 rfl rfl rfl rfl ?_
  refine Os1 rfl rfl rfl rfl ?_
  refine Os1 rfl rfl rfl rfl ?_
  refine Ops.pv (pv_pick_true rfl rfl) rfl ?_
  refine Oa1 rfl rfl ?_
  refine On ?_
  refine Wp.cond_true rfl ?_
  refine Wr ?_
  refine Oa1 rfl rfl ?_
  refine On ?_
  refine Wp.ret ?_
  refine Ends.block_ret ?_
  refine Ends.then_ret ?_
  exact Ends.ret (res1 rfl rfl) ⟨by (first | (simp_all [checkM, rightsOk, IntKind.bits]; done) | (simp_all [checkM, rightsOk, IntKind.bits]; omega) | (simp_all [checkM, rightsOk, IntKind.bits]; intros; omega)), rfl⟩
 refine Ops.pvg ⟨_, _, rfl, rfl, rfl⟩ (pv_fieldAddr0 rfl rfl) rfl ?_
 refine Ops.pvg ⟨_, _, rfl, rfl, rfl⟩ (pv_load rfl rfl rfl) rfl ?_
 refine Ops.pvg ⟨_, _, rfl, rfl, rfl⟩ (pv_gtr rfl rfl) rfl ?_
 refine Ops.pv (pv_pick_false rfl rfl) rfl ?_
 refine Oa1 rfl rfl ?_
 refine On ?_
 refine Wp.cond_dect rfl (fun h2 => ?_) (fun h2 => ?_)
 ·
  refine Wr ?_
  refine Oa1 rfl rfl ?_
  refine On ?_
  refine Wp.ret ?_
  refine Ends.block_ret ?_
  refine Ends.then_ret ?_
  exact Ends.ret (res1 rfl rfl) ⟨by (first | (simp_all [checkM, rightsOk, IntKind.bits]; done) | (simp_all [checkM, rightsOk, IntKind.bits]; omega) | (simp_all [checkM, rightsOk, IntKind.bits]; intros; omega)), rfl⟩
 refine Wp.seq ?_
 refine Wp.seq ?_
 refine AnyH.startL 5 rfl ?_
 refine Tk 0 rfl rfl (pv_loadK [_, _, _, _, _, _] rfl rfl rfl ⟨rfl, rfl, rfl, rfl, rfl, rfl, trivial⟩) rfl ?_
 refine Tk 2 rfl rfl (pv_loadK [_, _, _, _, _, _] rfl rfl rfl ⟨rfl, rfl, rfl, rfl, rfl, rfl, trivial⟩) rfl ?_
 refine AnyH.one 1 (by kernel_rfl) ?_
 refine Turn.ef rfl rfl (ef_callr (tr_plain c) rfl rfl) ?_ ?_
 ·
  rintro _ _ ⟨rfl, rfl⟩; infer_instance
 rintro _ _ ⟨rfl, rfl⟩
 refine Tk 3 rfl rfl (pv_neq_cap rfl rfl) rfl ?_
 refine Tk 4 rfl rfl (pv_assign rfl) rfl ?_
 refine AnyH.done (by kernel_rfl) ?_
 refine Ends.seq ?_
 refine Wp.cond_t rfl (fun h3 => ?_) (fun h3 => ?_)
 ·
  refine Wp.skip ?_
  refine Ends.seq ?_
  refine Wp.cond_true rfl ?_
  refine Wr ?_
  refine Oa1 rfl rfl ?_
  refine On ?_
  refine Wp.ret ?_
  refine Ends.block_ret ?_
  refine Ends.then_ret ?_
  exact Ends.ret (res1 rfl rfl) ⟨by (first | (simp_all [checkM, rightsOk, IntKind.bits]; done) | (simp_all [checkM, rightsOk, IntKind.bits]; omega) | (simp_all [checkM, rightsOk, IntKind.bits]; intros; omega)), rfl⟩
 refine Wr ?_
 refine Of1 rfl rfl rfl ?_
 refine Ol1 rfl rfl rfl rfl ?_
 refine Ops.pv (pv_lss rfl rfl) rfl ?_
 refine Om1 rfl rfl ?_
 refine Ops.split (t := 20) rfl (fun h4 => ?_) (fun h4 => ?_)
 ·
  refine Os1 rfl rfl rfl rfl ?_
  refine Os1 rfl rfl rfl rfl ?_
  refine Os1 rfl rfl rfl rfl ?_
  refine Os1 rfl rfl rfl rfl ?_
  refine Ops.pv (pv_pick_true rfl rfl) rfl ?_
  refine Oa1 rfl rfl ?_
  refine On ?_
  refine Wp.cond_true rfl ?_
  refine Wp.skip ?_
  refine Ends.seq ?_
  refine Wp.cond_true rfl ?_
  refine Wr ?_
  refine Oa1 rfl rfl ?_
  refine On ?_
  refine Wp.ret ?_
  refine Ends.block_ret ?_
  refine Ends.then_ret ?_
  exact Ends.ret (res1 rfl rfl) ⟨by (first | (simp_all [checkM, rightsOk, IntKind.bits]; done) | (simp_all [checkM, rightsOk, IntKind.bits]; omega) | (simp_all [checkM, rightsOk, IntKind.bits]; intros; omega)), rfl⟩
 refine Ops.pvg ⟨_, _, rfl, rfl, rfl⟩ (pv_fieldAddr0 rfl rfl) rfl ?_
 refine Ops.pvg ⟨_, _, rfl, rfl, rfl⟩ (pv_load rfl rfl rfl) rfl ?_
 refine Ops.pvg ⟨_, _, rfl, rfl, rfl⟩ (pv_shr rfl rfl (by omega) rfl) rfl ?_
 refine Ops.pvg ⟨_, _, rfl, rfl, rfl⟩ (pv_neq rfl rfl) rfl ?_
 refine Ops.pv (pv_pick_false rfl rfl) rfl ?_
 refine Oa1 rfl rfl ?_
 refine On ?_
 refine Wp.cond_t rfl (fun h5 => ?_) (fun h5 => ?_)
 ·
  refine Wp.skip ?_
  refine Ends.seq ?_
  refine Wp.cond_true rfl ?_
  refine Wr ?_
  refine Oa1 rfl rfl ?_
  refine On ?_
  refine Wp.ret ?_
  refine Ends.block_ret ?_
  refine Ends.then_ret ?_
  exact Ends.ret (res1 rfl rfl) ⟨by (first | (simp_all [checkM, rightsOk, IntKind.bits]; done) | (simp_all [checkM, rightsOk, IntKind.bits]; omega) | (simp_all [checkM, rightsOk, IntKind.bits]; intros; omega)), rfl⟩
 refine Wr ?_
 refine Of1 rfl rfl rfl ?_
 refine Ol1 rfl rfl rfl rfl ?_
 refine Ops.ef rfl (ef_callr (tr_rightsOk _) rfl rfl) ?_
 rintro _ _ ⟨rfl, rfl⟩
 refine Ops.pv (pv_not_dec rfl) rfl ?_
 refine Oa1 rfl rfl ?_
 refine On ?_
 refine Wp.cond_t rfl (fun h6 => ?_) (fun h6 => ?_)
 ·
  refine Wp.skip ?_
  refine Ends.seq ?_
  refine Wp.cond_true rfl ?_
  refine Wr ?_
  refine Oa1 rfl rfl ?_
  refine On ?_
  refine Wp.ret ?_
  refine Ends.block_ret ?_
  refine Ends.then_ret ?_
  exact Ends.ret (res1 rfl rfl) ⟨by (first | (simp_all [checkM, rightsOk, IntKind.bits]; done) | (simp_all [checkM, rightsOk, IntKind.bits]; omega) | (simp_all [checkM, rightsOk, IntKind.bits]; intros; omega)), rfl⟩
 refine Wr ?_
 refine Of1 rfl rfl rfl ?_
 refine Ol1 rfl rfl rfl rfl ?_
 refine Ops.pv (pv_shr rfl rfl (by omega) rfl) rfl ?_
 refine Ops.pv (pv_neq rfl rfl) rfl ?_
 refine Oa1 rfl rfl ?_
 refine On ?_
 refine Wp.cond_t rfl (fun h7 => ?_) (fun h7 => ?_)
 ·
  refine Wp.skip ?_
  refine Ends.seq ?_
  refine Wp.cond_true rfl ?_
  refine Wr ?_
  refine Oa1 rfl rfl ?_
  refine On ?_
  refine Wp.ret ?_
  refine Ends.block_ret ?_
  refine Ends.then_ret ?_
  exact Ends.ret (res1 rfl rfl) ⟨by (first | (simp_all [checkM, rightsOk, IntKind.bits]; done) | (simp_all [checkM, rightsOk, IntKind.bits]; omega) | (simp_all [checkM, rightsOk, IntKind.bits]; intros; omega)), rfl⟩
 refine Wp.region ?_
 refine Of1 rfl rfl rfl ?_
 refine Ol1 rfl rfl rfl rfl ?_
 refine Of1 rfl rfl rfl ?_
 refine Ol1 rfl rfl rfl rfl ?_
 refine Ops.ef rfl (ef_callr (tr_fits _ _) rfl rfl) ?_
 rintro _ _ ⟨rfl, rfl⟩
 refine Ops.pv (pv_not rfl) rfl ?_
 refine Oa1 rfl rfl ?_
 refine On ?_
 refine Wp.cond_t rfl (fun h8 => ?_) (fun h8 => ?_)
 ·
  refine Wr ?_
  refine Oa1 rfl rfl ?_
  refine On ?_
  refine Wp.ret ?_
  refine Ends.block_ret ?_
  refine Ends.then_ret ?_
  exact Ends.ret (res1 rfl rfl) ⟨by (first | (simp_all [checkM, rightsOk, IntKind.bits]; done) | (simp_all [checkM, rightsOk, IntKind.bits]; omega) | (simp_all [checkM, rightsOk, IntKind.bits]; intros; omega)), rfl⟩
 refine Wp.skip ?_
 refine Ends.block_normal ?_
 refine Ends.seq ?_
 refine Wr ?_
 refine Oa1 rfl rfl ?_
 refine On ?_
 refine Wp.ret ?_
 exact Ends.ret (res1 rfl rfl) ⟨by (first | (simp_all [checkM, rightsOk, IntKind.bits]; done) | (simp_all [checkM, rightsOk, IntKind.bits]; omega) | (simp_all [checkM, rightsOk, IntKind.bits]; intros; omega)), rfl⟩
theorem tr_size (b : Nat) (n : NodeM) (h : n.radix ≤ 4) : TrR Tryz.prog 101 [.pointer (some ⟨b, 0, none⟩)] ([(b, .cells (.int .i64 n.radix :: capsCells n.caps).toArray 97)]) (.int .i64 (2 ^ n.radix : Nat)) := by
 refine Tr.enter Tryz.func101 rfl Tryz.ntmps101 rfl (fun W F => ?_)
 refine Wp.app ?_
 refine Wr ?_
 refine Oa1 rfl rfl ?_
 refine On ?_
 refine Wr ?_
 refine Om1 rfl rfl ?_
 refine Ops.pv (pv_nilCheck rfl) rfl ?_
 refine Of1 rfl rfl rfl ?_
 refine Ol1 rfl rfl rfl rfl ?_
 refine Ops.pv (pv_shl rfl rfl (by omega) rfl) rfl ?_
 refine Oa1 rfl rfl ?_
 refine On ?_
 refine Wp.ret ?_
 exact Ends.ret (res1 rfl rfl) ⟨sh_one h, rfl⟩
theorem tr_slot_none (sb : Nat) (S : StoreM) (s : SlotM) (h : nget s.1 S.nodes = none) : TrR Tryz.prog 58 [.pointer (some ⟨sb, 0, none⟩), slotV s] (storeHp sb S) (.pointer none) := by
 have hm : (mget s.1 (nodeKV S.nodes)).getD (.pointer none) = .pointer none := by rw [mget_nodeKV, h]; rfl
 refine Tr.enter Tryz.func58 rfl Tryz.ntmps58 rfl (fun W F => ?_)
 refine Wp.app ?_
 refine Wr ?_
 refine Ops.ef rfl (ef_boxK rfl rfl) ?_
 rintro _ _ ⟨b1, rfl, rfl⟩
 refine Oa1 rfl rfl ?_
 refine On ?_
 refine Wp.seq ?_
 refine AnyH.startL 8 rfl ?_
 refine Tk 0 rfl rfl (pv_move rfl) rfl ?_
 refine Tk 1 rfl rfl (pv_nilCheck rfl) rfl ?_
 refine Tk 2 rfl rfl (pv_fieldAddr0 rfl rfl) rfl ?_
 refine Tk 3 rfl rfl (pv_load rfl rfl rfl) rfl ?_
 refine Tk 4 rfl rfl (pv_fieldAddr0 rfl rfl) rfl ?_
 refine Tk 5 rfl rfl (pv_load rfl rfl rfl) rfl ?_
 refine Tk 6 rfl rfl (pv_lookup_i s.1 rfl rfl hm) rfl ?_
 refine Tk 7 rfl rfl (pv_assign rfl) rfl ?_
 refine AnyH.done (by kernel_rfl) ?_
 refine Ends.seq ?_
 refine Wp.seq ?_
 refine Wp.seq ?_
 refine AnyH.startL 14 rfl ?_
 refine Tk 0 rfl rfl (pv_move rfl) rfl ?_
 refine Tk 1 rfl rfl (pv_eql_nil rfl rfl) rfl ?_
 refine Tk 2 rfl rfl (pv_move rfl) rfl ?_
 refine Ts 3 rfl ⟨_, _, rfl, rfl, rfl⟩ rfl ?_
 refine Ts 4 rfl ⟨_, _, rfl, rfl, rfl⟩ rfl ?_
 refine Ts 5 rfl ⟨_, _, rfl, rfl, rfl⟩ rfl ?_
 refine Tk 6 rfl rfl (pv_pick_true rfl rfl) rfl ?_
 refine Tk 7 rfl rfl (pv_move rfl) rfl ?_
 refine Ts 8 rfl ⟨_, _, rfl, rfl, rfl⟩ rfl ?_
 refine Ts 9 rfl ⟨_, _, rfl, rfl, rfl⟩ rfl ?_
 refine Ts 10 rfl ⟨_, _, rfl, rfl, rfl⟩ rfl ?_
 refine Ts 11 rfl ⟨_, _, rfl, rfl, rfl⟩ rfl ?_
 refine Ts 12 rfl ⟨_, _, rfl, rfl, rfl⟩ rfl ?_
 refine Tk 13 rfl rfl (pv_pick_true rfl rfl) rfl ?_
 refine AnyH.done (by kernel_rfl) ?_
 refine Ends.seq ?_
 refine Wp.cond_true rfl ?_
 refine Wr ?_
 refine Oa1 rfl rfl ?_
 refine On ?_
 refine Wp.ret ?_
 refine Ends.then_ret ?_
 exact Ends.ret (res1 rfl rfl) ⟨rfl, rfl⟩
theorem tr_slot_node (sb : Nat) (S : StoreM) (s : SlotM) (n : NodeM) (h : nget s.1 S.nodes = some n) (hw : n.Wf) : TrR Tryz.prog 58 [.pointer (some ⟨sb, 0, none⟩), slotV s] (storeHp sb S) (.pointer (if n.has s.2 then some ⟨n.blk, 1 + s.2.toNat * 6, none⟩ else none)) := by
 have hm : (mget s.1 (nodeKV S.nodes)).getD (.pointer none) = .pointer (some ⟨n.blk, 0, none⟩) := by rw [mget_nodeKV, h]; rfl
 have hblk := S.blk (sb := sb) h
 have hlt := @NodeM.Wf.lt n hw s.2
 refine Tr.enter Tryz.func58 rfl Tryz.ntmps58 rfl (fun W F => ?_)
 refine Wp.app ?_
 refine Wr ?_
 refine Ops.ef rfl (ef_boxK rfl rfl) ?_
 rintro _ _ ⟨b1, rfl, rfl⟩
 refine Oa1 rfl rfl ?_
 refine On ?_
 refine Wp.seq ?_
 refine AnyH.startL 8 rfl ?_
 refine Tk 0 rfl rfl (pv_move rfl) rfl ?_
 refine Tk 1 rfl rfl (pv_nilCheck rfl) rfl ?_
 refine Tk 2 rfl rfl (pv_fieldAddr0 rfl rfl) rfl ?_
 refine Tk 3 rfl rfl (pv_load rfl rfl rfl) rfl ?_
 refine Tk 4 rfl rfl (pv_fieldAddr0 rfl rfl) rfl ?_
 refine Tk 5 rfl rfl (pv_load rfl rfl rfl) rfl ?_
 refine Tk 6 rfl rfl (pv_lookup_i s.1 rfl rfl hm) rfl ?_
 refine Tk 7 rfl rfl (pv_assign rfl) rfl ?_
 refine AnyH.done (by kernel_rfl) ?_
 refine Ends.seq ?_
 refine Wp.seq ?_
 refine Wp.seq ?_
 refine AnyH.startL 14 rfl ?_
 refine Tk 0 rfl rfl (pv_move rfl) rfl ?_
 refine Tk 1 rfl rfl (pv_eql_nil rfl rfl) rfl ?_
 refine Tk 2 rfl rfl (pv_move rfl) rfl ?_
 refine Tk 3 rfl ⟨_, _, rfl, rfl, rfl⟩ (pv_fieldAddr0 rfl rfl) rfl ?_
 refine Tk 4 rfl ⟨_, _, rfl, rfl, rfl⟩ (pv_load rfl rfl rfl) rfl ?_
 refine Tk 5 rfl ⟨_, _, rfl, rfl, rfl⟩ (pv_lss rfl rfl) rfl ?_
 refine Tk 6 rfl rfl (pv_pick_false rfl rfl) rfl ?_
 refine Tk 7 rfl rfl (pv_move rfl) rfl ?_
 refine AnyH.split (t := 20) rfl (fun h1 => ?_) (fun h1 => ?_)
 ·
  refine Ts 8 rfl ⟨_, _, rfl, rfl, rfl⟩ rfl ?_
  refine Ts 9 rfl ⟨_, _, rfl, rfl, rfl⟩ rfl ?_
  refine Ts 10 rfl ⟨_, _, rfl, rfl, rfl⟩ rfl ?_
  refine Ts 11 rfl ⟨_, _, rfl, rfl, rfl⟩ rfl ?_
  refine Ts 12 rfl ⟨_, _, rfl, rfl, rfl⟩ rfl ?_
  refine Tk 13 rfl rfl (pv_pick_true rfl rfl) rfl ?_
  refine AnyH.done (by kernel_rfl) ?_
  refine Ends.seq ?_
  refine Wp.cond_true rfl ?_
  refine Wr ?_
  refine Oa1 rfl rfl ?_
  refine On ?_
  refine Wp.ret ?_
  refine Ends.then_ret ?_
  exact Ends.ret (res1 rfl rfl) ⟨by rw [if_neg (by unfold NodeM.has; omega)], rfl⟩
 refine Tk 8 rfl ⟨_, _, rfl, rfl, rfl⟩ (pv_fieldAddr0 rfl rfl) rfl ?_
 refine Tk 9 rfl ⟨_, _, rfl, rfl, rfl⟩ (pv_load rfl rfl rfl) rfl ?_
 refine Tk 10 rfl ⟨_, _, rfl, rfl, rfl⟩ (pv_move rfl) rfl ?_
 refine AnyH.one 11 (by kernel_rfl) ?_
 refine Turn.ef rfl ⟨_, _, rfl, rfl, rfl⟩ (ef_callr (tr_size n.blk n hw.hi) rfl rfl) ?_ ?_
 ·
  rintro _ _ ⟨rfl, rfl⟩; infer_instance
 rintro _ _ ⟨rfl, rfl⟩
 refine Tk 12 rfl ⟨_, _, rfl, rfl, rfl⟩ (pv_geq rfl rfl) rfl ?_
 refine Tk 13 rfl rfl (pv_pick_false rfl rfl) rfl ?_
 refine AnyH.done (by kernel_rfl) ?_
 refine Ends.seq ?_
 refine Wp.cond_dect rfl (fun h2 => ?_) (fun h2 => ?_)
 ·
  refine Wr ?_
  refine Oa1 rfl rfl ?_
  refine On ?_
  refine Wp.ret ?_
  refine Ends.then_ret ?_
  exact Ends.ret (res1 rfl rfl) ⟨by rw [if_neg (by unfold NodeM.has; omega)], rfl⟩
 refine Wp.skip ?_
 refine Ends.seq ?_
 refine Wp.seq ?_
 refine AnyH.startL 7 rfl ?_
 refine Tk 0 rfl rfl (pv_move rfl) rfl ?_
 refine Tk 1 rfl rfl (pv_fieldAddr0 rfl rfl) rfl ?_
 refine Tk 2 rfl rfl (pv_load rfl rfl rfl) rfl ?_
 refine Tk 3 rfl rfl (pv_nilCheck rfl) rfl ?_
 refine Tk 4 rfl rfl (pv_fieldAddr0 rfl rfl) rfl ?_
 refine Tk 5 rfl rfl (pv_indexAddrA (i := s.2.toNat) rfl rfl (by unfold NodeM.has at *; omega) (hlt (by unfold NodeM.has at *; omega))) rfl ?_
 refine Tk 6 rfl rfl (pv_assign rfl) rfl ?_
 refine AnyH.done (by kernel_rfl) ?_
 refine Ends.seq ?_
 refine Wp.ret ?_
 exact Ends.ret (res1 rfl rfl) ⟨by rw [if_pos (by unfold NodeM.has; omega)], rfl⟩
theorem tr_slot (sb : Nat) (S : StoreM) (s : SlotM) (hw : S.Wf) : TrR Tryz.prog 58 [.pointer (some ⟨sb, 0, none⟩), slotV s] (storeHp sb S) (.pointer (S.addr s)) := by
 cases hn : nget s.1 S.nodes with
 | none => exact (tr_slot_none sb S s hn).eq (by simp [StoreM.addr, hn])
 | some n => exact (tr_slot_node sb S s n hn (hw _ _ hn).1).eq (by simp [StoreM.addr, hn])
theorem tr_get_none (sb : Nat) (S : StoreM) (s : SlotM) (hw : S.Wf) (h : S.cap? s = none) : TrR Tryz.prog 51 [.pointer (some ⟨sb, 0, none⟩), slotV s] (storeHp sb S) (.tuple #[CapM.zero.v, .int .i64 6]) := by
 refine Tr.enter Tryz.func51 rfl Tryz.ntmps51 rfl (fun W F => ?_)
 refine Wp.app ?_
 refine Wr ?_
 refine Ops.ef rfl (ef_boxK rfl rfl) ?_
 rintro _ _ ⟨b1, rfl, rfl⟩
 refine Ops.ef rfl (ef_allocK tyZ25 rfl) ?_
 rintro _ _ ⟨b2, rfl, rfl⟩
 refine Oa1 rfl rfl ?_
 refine On ?_
 refine Wr ?_
 refine Om1 rfl rfl ?_
 refine Ops.pv (pv_loadK [_, _] rfl rfl rfl ⟨rfl, rfl, trivial⟩) rfl ?_
 refine Ops.ef rfl (ef_callr (TrR.eq (r' := .pointer none) (tr_slot sb S s hw) (by rw [S.cap_none hw h])) rfl rfl) ?_
 rintro _ _ ⟨rfl, rfl⟩
 refine Oa1 rfl rfl ?_
 refine On ?_
 refine Wp.seq ?_
 refine Wr ?_
 refine Om1 rfl rfl ?_
 refine Ops.pv (pv_eql_nil rfl rfl) rfl ?_
 refine On ?_
 refine Wp.cond_true rfl ?_
 refine Wr ?_
 refine Ops.pv (pv_build rfl) rfl ?_
 refine Ops.ef rfl (ef_storeK rfl rfl rfl rfl) ?_
 rintro _ _ ⟨rfl, rfl⟩
 refine Oa1 rfl rfl ?_
 refine On ?_
 refine Wp.ret ?_
 refine Ends.then_ret ?_
 exact Ends.ret (res_list (rs := [.cell 4 25, .tmp 5]) rfl ⟨_, _, rfl, rv_cellK [_, _, _, _, _, _] rfl rfl rfl ⟨rfl, rfl, rfl, rfl, rfl, rfl, trivial⟩, ⟨_, _, rfl, rv_tmp rfl, rfl⟩⟩ rfl) ⟨rfl, rfl⟩
theorem tr_get_some (sb : Nat) (S : StoreM) (s : SlotM) (c : CapM) (hw : S.Wf) (h : S.cap? s = some c) : TrR Tryz.prog 51 [.pointer (some ⟨sb, 0, none⟩), slotV s] (storeHp sb S) (.tuple #[c.v, .int .i64 0]) := by
 obtain ⟨n, hn, hh, hc, ha⟩ := S.cap_some h
 have hblk := S.blk (sb := sb) hn
 refine Tr.enter Tryz.func51 rfl Tryz.ntmps51 rfl (fun W F => ?_)
 refine Wp.app ?_
 refine Wr ?_
 refine Ops.ef rfl (ef_boxK rfl rfl) ?_
 rintro _ _ ⟨b1, rfl, rfl⟩
 refine Ops.ef rfl (ef_allocK tyZ25 rfl) ?_
 rintro _ _ ⟨b2, rfl, rfl⟩
 refine Oa1 rfl rfl ?_
 refine On ?_
 refine Wr ?_
 refine Om1 rfl rfl ?_
 refine Ops.pv (pv_loadK [_, _] rfl rfl rfl ⟨rfl, rfl, trivial⟩) rfl ?_
 refine Ops.ef rfl (ef_callr (TrR.eq (r' := .pointer (some ⟨n.blk, 1 + s.2.toNat * 6, none⟩)) (tr_slot sb S s hw) (by rw [ha])) rfl rfl) ?_
 rintro _ _ ⟨rfl, rfl⟩
 refine Oa1 rfl rfl ?_
 refine On ?_
 refine Wp.seq ?_
 refine Wr ?_
 refine Om1 rfl rfl ?_
 refine Ops.pv (pv_eql_nil rfl rfl) rfl ?_
 refine On ?_
 refine Wp.cond_false rfl ?_
 refine Wp.skip ?_
 refine Ends.seq ?_
 refine Wr ?_
 refine Om1 rfl rfl ?_
 refine Ops.pv (pv_nilCheck rfl) rfl ?_
 refine Ops.pv (pv_loadK c.cells rfl rfl rfl (NodeM.reads hc)) rfl ?_
 refine Ops.ef rfl (ef_storeK rfl rfl rfl rfl) ?_
 rintro _ _ ⟨rfl, rfl⟩
 refine Oa1 rfl rfl ?_
 refine On ?_
 refine Wp.ret ?_
 exact Ends.ret (res_list (rs := [.cell 4 25, .tmp 5]) rfl ⟨_, _, rfl, rv_cellK [_, _, _, _, _, _] rfl rfl rfl ⟨rfl, rfl, rfl, rfl, rfl, rfl, trivial⟩, ⟨_, _, rfl, rv_tmp rfl, rfl⟩⟩ rfl) ⟨rfl, rfl⟩
theorem tr_get (sb : Nat) (S : StoreM) (s : SlotM) (hw : S.Wf) : TrR Tryz.prog 51 [.pointer (some ⟨sb, 0, none⟩), slotV s] (storeHp sb S) (.tuple #[(S.get s).1.v, .int .i64 (S.get s).2]) := by
 cases h : S.cap? s with
 | none => exact (tr_get_none sb S s hw h).eq (by simp [StoreM.get, h])
 | some c => exact (tr_get_some sb S s c hw h).eq (by simp [StoreM.get, h])
theorem tr_put_none (sb : Nat) (S : StoreM) (s : SlotM) (c : CapM) (hw : S.Wf) (h : S.cap? s = none) : Tr Tryz.prog 77 [.pointer (some ⟨sb, 0, none⟩), slotV s, c.v] (storeHp sb S) (fun v L' => v = .int .i64 (S.put s c).1 ∧ L' = storeHp sb (S.put s c).2) := by
 refine Tr.enter Tryz.func77 rfl Tryz.ntmps77 rfl (fun W F => ?_)
 refine Wp.app ?_
 refine Wr ?_
 refine Ops.ef rfl (ef_boxK rfl rfl) ?_
 rintro _ _ ⟨b1, rfl, rfl⟩
 refine Ops.ef rfl (ef_boxK rfl rfl) ?_
 rintro _ _ ⟨b2, rfl, rfl⟩
 refine Oa1 rfl rfl ?_
 refine On ?_
 refine Wr ?_
 refine Om1 rfl rfl ?_
 refine Ops.pv (pv_loadK [_, _] rfl rfl rfl ⟨rfl, rfl, trivial⟩) rfl ?_
 refine Ops.ef rfl (ef_callr (TrR.eq (r' := .pointer none) (tr_slot sb S s hw) (by rw [S.cap_none hw h])) rfl rfl) ?_
 rintro _ _ ⟨rfl, rfl⟩
 refine Oa1 rfl rfl ?_
 refine On ?_
 refine Wp.seq ?_
 refine Wr ?_
 refine Om1 rfl rfl ?_
 refine Ops.pv (pv_eql_nil rfl rfl) rfl ?_
 refine On ?_
 refine Wp.cond_true rfl ?_
 refine Wr ?_
 refine Oa1 rfl rfl ?_
 refine On ?_
 refine Wp.ret ?_
 refine Ends.then_ret ?_
 exact Ends.ret (L' := storeHp sb S) (res1 rfl rfl) ⟨by simp [StoreM.put, *], by simp [StoreM.put, *]⟩
theorem tr_put_some (sb : Nat) (S : StoreM) (s : SlotM) (c x : CapM) (hw : S.Wf) (h : S.cap? s = some x) : Tr Tryz.prog 77 [.pointer (some ⟨sb, 0, none⟩), slotV s, c.v] (storeHp sb S) (fun v L' => v = .int .i64 (S.put s c).1 ∧ L' = storeHp sb (S.put s c).2) := by
 obtain ⟨n, hn, hh, hc, ha⟩ := S.cap_some h
 have hblk := S.blk (sb := sb) hn
 have hset := NodeM.setL (c' := c) hc
 have hupd : Upd (storeHp sb S) n.blk (.cells (.int .i64 n.radix :: capsCells (n.caps.set s.2.toNat c)).toArray 97 (0, 0)) (storeHp sb (S.setNode s.1 (n.set s.2.toNat c))) := S.upd (n' := n.set s.2.toNat c) hn rfl rfl
 refine Tr.enter Tryz.func77 rfl Tryz.ntmps77 rfl (fun W F => ?_)
 refine Wp.app ?_
 refine Wr ?_
 refine Ops.ef rfl (ef_boxK rfl rfl) ?_
 rintro _ _ ⟨b1, rfl, rfl⟩
 refine Ops.ef rfl (ef_boxK rfl rfl) ?_
 rintro _ _ ⟨b2, rfl, rfl⟩
 refine Oa1 rfl rfl ?_
 refine On ?_
 refine Wr ?_
 refine Om1 rfl rfl ?_
 refine Ops.pv (pv_loadK [_, _] rfl rfl rfl ⟨rfl, rfl, trivial⟩) rfl ?_
 refine Ops.ef rfl (ef_callr (TrR.eq (r' := .pointer (some ⟨n.blk, 1 + s.2.toNat * 6, none⟩)) (tr_slot sb S s hw) (by rw [ha])) rfl rfl) ?_
 rintro _ _ ⟨rfl, rfl⟩
 refine Oa1 rfl rfl ?_
 refine On ?_
 refine Wp.seq ?_
 refine Wr ?_
 refine Om1 rfl rfl ?_
 refine Ops.pv (pv_eql_nil rfl rfl) rfl ?_
 refine On ?_
 refine Wp.cond_false rfl ?_
 refine Wp.skip ?_
 refine Ends.seq ?_
 refine Wp.seq ?_
 refine Wr ?_
 refine Ops.pv (pv_loadK [_, _, _, _, _, _] rfl rfl rfl ⟨rfl, rfl, rfl, rfl, rfl, rfl, trivial⟩) rfl ?_
 refine Ops.ef rfl (ef_callr (tr_check c) rfl rfl) ?_
 rintro _ _ ⟨rfl, rfl⟩
 refine Oa1 rfl rfl ?_
 refine On ?_
 refine Wp.block ?_
 refine Wr ?_
 refine Om1 rfl rfl ?_
 refine Ops.pv (pv_neq rfl rfl) rfl ?_
 refine Oa1 rfl rfl ?_
 refine On ?_
 refine Wp.cond_dect rfl (fun h1 => ?_) (fun h1 => ?_)
 ·
  refine Wr ?_
  refine Om1 rfl rfl ?_
  refine Oa1 rfl rfl ?_
  refine On ?_
  refine Wp.ret ?_
  refine Ends.block_ret ?_
  refine Ends.then_ret ?_
  exact Ends.ret (L' := storeHp sb S) (res1 rfl rfl) ⟨by simp [StoreM.put, *], by simp [StoreM.put, *]⟩
 refine Wr ?_
 refine Of1 rfl rfl rfl ?_
 refine Ol1 rfl rfl rfl rfl ?_
 refine Ops.pv (pv_eql rfl rfl) rfl ?_
 refine Oa1 rfl rfl ?_
 refine On ?_
 refine Wp.cond_dect rfl (fun h2 => ?_) (fun h2 => ?_)
 ·
  refine Wr ?_
  refine Oa1 rfl rfl ?_
  refine On ?_
  refine Wp.ret ?_
  refine Ends.block_ret ?_
  refine Ends.then_ret ?_
  exact Ends.ret (L' := storeHp sb S) (res1 rfl rfl) ⟨by simp [StoreM.put, *], by simp [StoreM.put, *]⟩
 refine Wr ?_
 refine Om1 rfl rfl ?_
 refine Ops.pv (pv_nilCheck rfl) rfl ?_
 refine Ops.pv (pv_fieldAddr rfl rfl) rfl ?_
 refine Ops.pv (pv_load rfl rfl (NodeM.reads hc).1) rfl ?_
 refine Ops.pv (pv_neq rfl rfl) rfl ?_
 refine Oa1 rfl rfl ?_
 refine On ?_
 refine Wp.cond_dect rfl (fun h3 => ?_) (fun h3 => ?_)
 ·
  refine Wr ?_
  refine Oa1 rfl rfl ?_
  refine On ?_
  refine Wp.ret ?_
  refine Ends.block_ret ?_
  refine Ends.then_ret ?_
  exact Ends.ret (L' := storeHp sb S) (res1 rfl rfl) ⟨by simp [StoreM.put, *], by simp [StoreM.put, *]⟩
 refine Wp.skip ?_
 refine Ends.block_normal ?_
 refine Ends.seq ?_
 refine Wr ?_
 refine Om1 rfl rfl ?_
 refine Ops.pv (pv_loadK [_, _, _, _, _, _] rfl rfl rfl ⟨rfl, rfl, rfl, rfl, rfl, rfl, trivial⟩) rfl ?_
 refine Ops.pv (pv_nilCheck rfl) rfl ?_
 refine Ops.ef rfl (ef_storeK rfl rfl rfl rfl) ?_
 rintro _ _ ⟨rfl, rfl⟩
 refine On ?_
 refine Wr ?_
 refine Oa1 rfl rfl ?_
 refine On ?_
 refine Wp.ret ?_
 exact Ends.ret (L' := storeHp sb (S.setNode s.1 (n.set s.2.toNat c))) (res1 rfl rfl) ⟨by simp [StoreM.put, *], by rw [S.setCap_eq hn]; simp [StoreM.put, *]⟩
theorem tr_put (sb : Nat) (S : StoreM) (s : SlotM) (c : CapM) (hw : S.Wf) : Tr Tryz.prog 77 [.pointer (some ⟨sb, 0, none⟩), slotV s, c.v] (storeHp sb S) (fun v L' => v = .int .i64 (S.put s c).1 ∧ L' = storeHp sb (S.put s c).2) := by
 cases h : S.cap? s with
 | none => exact tr_put_none sb S s c hw h
 | some x => exact tr_put_some sb S s c x hw h
theorem tr_take_none (sb : Nat) (S : StoreM) (s : SlotM) (hw : S.Wf) (h : S.cap? s = none) : Tr Tryz.prog 92 [.pointer (some ⟨sb, 0, none⟩), slotV s] (storeHp sb S) (fun v L' => v = .tuple #[(S.take s).1.v, .int .i64 (S.take s).2.1] ∧ L' = storeHp sb (S.take s).2.2) := by
 refine Tr.enter Tryz.func92 rfl Tryz.ntmps92 rfl (fun W F => ?_)
 refine Wp.app ?_
 refine Wr ?_
 refine Ops.ef rfl (ef_boxK rfl rfl) ?_
 rintro _ _ ⟨b1, rfl, rfl⟩
 refine Ops.ef rfl (ef_allocK tyZ25 rfl) ?_
 rintro _ _ ⟨b2, rfl, rfl⟩
 refine Oa1 rfl rfl ?_
 refine On ?_
 refine Wr ?_
 refine Om1 rfl rfl ?_
 refine Ops.pv (pv_loadK [_, _] rfl rfl rfl ⟨rfl, rfl, trivial⟩) rfl ?_
 refine Ops.ef rfl (ef_callr (TrR.eq (r' := .pointer none) (tr_slot sb S s hw) (by rw [S.cap_none hw h])) rfl rfl) ?_
 rintro _ _ ⟨rfl, rfl⟩
 refine Oa1 rfl rfl ?_
 refine On ?_
 refine Wp.seq ?_
 refine Wp.block ?_
 refine Wr ?_
 refine Om1 rfl rfl ?_
 refine Ops.pv (pv_eql_nil rfl rfl) rfl ?_
 refine Oa1 rfl rfl ?_
 refine On ?_
 refine Wp.cond_true rfl ?_
 refine Wr ?_
 refine Ops.pv (pv_build rfl) rfl ?_
 refine Ops.ef rfl (ef_storeK rfl rfl rfl rfl) ?_
 rintro _ _ ⟨rfl, rfl⟩
 refine Oa1 rfl rfl ?_
 refine On ?_
 refine Wp.ret ?_
 refine Ends.block_ret ?_
 refine Ends.then_ret ?_
 exact Ends.ret (L' := storeHp sb S) (res_list (rs := [.cell 4 25, .tmp 5]) rfl ⟨_, _, rfl, rv_cellK [_, _, _, _, _, _] rfl rfl rfl ⟨rfl, rfl, rfl, rfl, rfl, rfl, trivial⟩, ⟨_, _, rfl, rv_tmp rfl, rfl⟩⟩ rfl) ⟨by simp [StoreM.take, *], by simp [StoreM.take, *]⟩
theorem tr_take_some (sb : Nat) (S : StoreM) (s : SlotM) (x : CapM) (hw : S.Wf) (h : S.cap? s = some x) : Tr Tryz.prog 92 [.pointer (some ⟨sb, 0, none⟩), slotV s] (storeHp sb S) (fun v L' => v = .tuple #[(S.take s).1.v, .int .i64 (S.take s).2.1] ∧ L' = storeHp sb (S.take s).2.2) := by
 obtain ⟨n, hn, hh, hc, ha⟩ := S.cap_some h
 have hblk := S.blk (sb := sb) hn
 have hset : SetL _ (1 + s.2.toNat * 6) [.int .i64 0, .int .i64 0, .int .i64 0, .int .u64 0, .int .u64 0, .int .i64 0] _ := NodeM.setL (c' := CapM.zero) hc
 have hupd : Upd (storeHp sb S) n.blk (.cells (.int .i64 n.radix :: capsCells (n.caps.set s.2.toNat CapM.zero)).toArray 97 (0, 0)) (storeHp sb (S.setNode s.1 (n.set s.2.toNat CapM.zero))) := S.upd (n' := n.set s.2.toNat CapM.zero) hn rfl rfl
 refine Tr.enter Tryz.func92 rfl Tryz.ntmps92 rfl (fun W F => ?_)
 refine Wp.app ?_
 refine Wr ?_
 refine Ops.ef rfl (ef_boxK rfl rfl) ?_
 rintro _ _ ⟨b1, rfl, rfl⟩
 refine Ops.ef rfl (ef_allocK tyZ25 rfl) ?_
 rintro _ _ ⟨b2, rfl, rfl⟩
 refine Oa1 rfl rfl ?_
 refine On ?_
 refine Wr ?_
 refine Om1 rfl rfl ?_
 refine Ops.pv (pv_loadK [_, _] rfl rfl rfl ⟨rfl, rfl, trivial⟩) rfl ?_
 refine Ops.ef rfl (ef_callr (TrR.eq (r' := .pointer (some ⟨n.blk, 1 + s.2.toNat * 6, none⟩)) (tr_slot sb S s hw) (by rw [ha])) rfl rfl) ?_
 rintro _ _ ⟨rfl, rfl⟩
 refine Oa1 rfl rfl ?_
 refine On ?_
 refine Wp.seq ?_
 refine Wp.block ?_
 refine Wr ?_
 refine Om1 rfl rfl ?_
 refine Ops.pv (pv_eql_nil rfl rfl) rfl ?_
 refine Oa1 rfl rfl ?_
 refine On ?_
 refine Wp.cond_false rfl ?_
 refine Wr ?_
 refine Om1 rfl rfl ?_
 refine Ops.pv (pv_nilCheck rfl) rfl ?_
 refine Ops.pv (pv_fieldAddr rfl rfl) rfl ?_
 refine Ops.pv (pv_load rfl rfl (NodeM.reads hc).1) rfl ?_
 refine Ops.pv (pv_eql rfl rfl) rfl ?_
 refine Oa1 rfl rfl ?_
 refine On ?_
 refine Wp.cond_dect rfl (fun h1 => ?_) (fun h1 => ?_)
 ·
  refine Wr ?_
  refine Ops.pv (pv_build rfl) rfl ?_
  refine Ops.ef rfl (ef_storeK rfl rfl rfl rfl) ?_
  rintro _ _ ⟨rfl, rfl⟩
  refine Oa1 rfl rfl ?_
  refine On ?_
  refine Wp.ret ?_
  refine Ends.block_ret ?_
  refine Ends.then_ret ?_
  exact Ends.ret (L' := storeHp sb S) (res_list (rs := [.cell 4 25, .tmp 5]) rfl ⟨_, _, rfl, rv_cellK [_, _, _, _, _, _] rfl rfl rfl ⟨rfl, rfl, rfl, rfl, rfl, rfl, trivial⟩, ⟨_, _, rfl, rv_tmp rfl, rfl⟩⟩ rfl) ⟨by simp [StoreM.take, *], by simp [StoreM.take, *]⟩
 refine Wp.skip ?_
 refine Ends.block_normal ?_
 refine Ends.seq ?_
 refine Wr ?_
 refine Om1 rfl rfl ?_
 refine Ops.pv (pv_nilCheck rfl) rfl ?_
 refine Ops.pv (pv_loadK x.cells rfl rfl rfl (NodeM.reads hc)) rfl ?_
 refine Ops.ef rfl (ef_allocK tyZ25 rfl) ?_
 rintro _ _ ⟨b3, rfl, rfl⟩
 refine Ops.ef rfl (ef_storeK rfl rfl rfl rfl) ?_
 rintro _ _ ⟨rfl, rfl⟩
 refine On ?_
 refine Wr ?_
 refine Om1 rfl rfl ?_
 refine Ops.pv (pv_build rfl) rfl ?_
 refine Ops.pv (pv_nilCheck rfl) rfl ?_
 refine Ops.ef rfl (ef_storeK rfl rfl rfl rfl) ?_
 rintro _ _ ⟨rfl, rfl⟩
 refine On ?_
 refine Wr ?_
 refine Ops.pv (pv_loadK [_, _, _, _, _, _] rfl rfl rfl ⟨rfl, rfl, rfl, rfl, rfl, rfl, trivial⟩) rfl ?_
 refine Ops.ef rfl (ef_storeK rfl rfl rfl rfl) ?_
 rintro _ _ ⟨rfl, rfl⟩
 refine Oa1 rfl rfl ?_
 refine On ?_
 refine Wp.ret ?_
 exact Ends.ret (L' := storeHp sb (S.setNode s.1 (n.set s.2.toNat CapM.zero))) (res_list (rs := [.cell 4 25, .tmp 5]) rfl ⟨_, _, rfl, rv_cellK [_, _, _, _, _, _] rfl rfl rfl ⟨rfl, rfl, rfl, rfl, rfl, rfl, trivial⟩, ⟨_, _, rfl, rv_tmp rfl, rfl⟩⟩ rfl) ⟨by simp [StoreM.take, *], by rw [S.setCap_eq hn]; simp [StoreM.take, *]⟩
theorem tr_take (sb : Nat) (S : StoreM) (s : SlotM) (hw : S.Wf) : Tr Tryz.prog 92 [.pointer (some ⟨sb, 0, none⟩), slotV s] (storeHp sb S) (fun v L' => v = .tuple #[(S.take s).1.v, .int .i64 (S.take s).2.1] ∧ L' = storeHp sb (S.take s).2.2) := by
 cases h : S.cap? s with
 | none => exact tr_take_none sb S s hw h
 | some x => exact tr_take_some sb S s x hw h
theorem tr_radix_none (sb : Nat) (S : StoreM) (id : Int) (h : nget id S.nodes = none) : TrR Tryz.prog 9 [.pointer (some ⟨sb, 0, none⟩), .int .i64 id] (storeHp sb S) (.int .i64 0) := by
 have hm : (mget id (nodeKV S.nodes)).getD (.pointer none) = .pointer none := by rw [mget_nodeKV, h]; rfl
 refine Tr.enter Tryz.func9 rfl Tryz.ntmps9 rfl (fun W F => ?_)
 refine Wp.app ?_
 refine Wr ?_
 refine Oa1 rfl rfl ?_
 refine On ?_
 refine Wp.seq ?_
 refine Wr ?_
 refine Om1 rfl rfl ?_
 refine Ops.pv (pv_nilCheck rfl) rfl ?_
 refine Of1 rfl rfl rfl ?_
 refine Ol1 rfl rfl rfl rfl ?_
 refine Om1 rfl rfl ?_
 refine Ops.pv (pv_lookup_i id rfl rfl hm) rfl ?_
 refine Oa1 rfl rfl ?_
 refine On ?_
 refine Wr ?_
 refine Om1 rfl rfl ?_
 refine Ops.pv (pv_neq_nil rfl rfl) rfl ?_
 refine On ?_
 refine Wp.cond_false rfl ?_
 refine Wp.skip ?_
 refine Ends.seq ?_
 refine Wr ?_
 refine Oa1 rfl rfl ?_
 refine On ?_
 refine Wp.ret ?_
 exact Ends.ret (res1 rfl rfl) ⟨rfl, rfl⟩
theorem tr_radix_some (sb : Nat) (S : StoreM) (id : Int) (n : NodeM) (h : nget id S.nodes = some n) : TrR Tryz.prog 9 [.pointer (some ⟨sb, 0, none⟩), .int .i64 id] (storeHp sb S) (.int .i64 n.radix) := by
 have hm : (mget id (nodeKV S.nodes)).getD (.pointer none) = .pointer (some ⟨n.blk, 0, none⟩) := by rw [mget_nodeKV, h]; rfl
 have hblk := S.blk (sb := sb) h
 refine Tr.enter Tryz.func9 rfl Tryz.ntmps9 rfl (fun W F => ?_)
 refine Wp.app ?_
 refine Wr ?_
 refine Oa1 rfl rfl ?_
 refine On ?_
 refine Wp.seq ?_
 refine Wr ?_
 refine Om1 rfl rfl ?_
 refine Ops.pv (pv_nilCheck rfl) rfl ?_
 refine Of1 rfl rfl rfl ?_
 refine Ol1 rfl rfl rfl rfl ?_
 refine Om1 rfl rfl ?_
 refine Ops.pv (pv_lookup_i id rfl rfl hm) rfl ?_
 refine Oa1 rfl rfl ?_
 refine On ?_
 refine Wr ?_
 refine Om1 rfl rfl ?_
 refine Ops.pv (pv_neq_nil rfl rfl) rfl ?_
 refine On ?_
 refine Wp.cond_true rfl ?_
 refine Wr ?_
 refine Om1 rfl rfl ?_
 refine Ops.pv (pv_nilCheck rfl) rfl ?_
 refine Of1 rfl rfl rfl ?_
 refine Ol1 rfl rfl rfl rfl ?_
 refine Oa1 rfl rfl ?_
 refine On ?_
 refine Wp.ret ?_
 refine Ends.then_ret ?_
 exact Ends.ret (res1 rfl rfl) ⟨rfl, rfl⟩
theorem tr_radix (sb : Nat) (S : StoreM) (id : Int) : TrR Tryz.prog 9 [.pointer (some ⟨sb, 0, none⟩), .int .i64 id] (storeHp sb S) (.int .i64 (S.radix id)) := by
 cases h : nget id S.nodes with
 | none => exact (tr_radix_none sb S id h).eq (by simp [StoreM.radix, h])
 | some n => exact (tr_radix_some sb S id n h).eq (by simp [StoreM.radix, h])
theorem tr_slotsNew  : Tr Tryz.prog 27 [] ([]) (fun v L' => ∃ sb S, v = .pointer (some ⟨sb, 0, none⟩) ∧ L' = storeHp sb S ∧ S.nodes = []) := by
 refine Tr.enter Tryz.func27 rfl Tryz.ntmps27 rfl (fun W F => ?_)
 refine Wp.app ?_
 refine Wr ?_
 refine Oa1 rfl rfl ?_
 refine On ?_
 refine Wr ?_
 refine Ops.ef rfl (ef_makeMap rfl rfl) ?_
 rintro _ _ ⟨b1, rfl, rfl⟩
 refine Ops.pv (pv_build rfl) rfl ?_
 refine Ops.ef rfl (ef_boxK rfl rfl) ?_
 rintro _ _ ⟨b2, rfl, rfl⟩
 refine Oa1 rfl rfl ?_
 refine On ?_
 refine Wp.ret ?_
 exact Ends.ret (L' := [(b2, .cells [.map (some b1)].toArray 94 (0, 0)), (b1, .map #[] 0)]) (res1 rfl rfl) ⟨b2, ⟨b1, 0, []⟩, rfl, rfl, rfl⟩
def addErr (S : StoreM) (id r : Int) : Int := if id < 0 ∨ 64 ≤ id ∨ r < 1 ∨ 4 < r then 1 else if (nget id S.nodes).isSome then 4 else 0
theorem tr_add_some (sb : Nat) (S : StoreM) (id r : Int) (n : NodeM) (h : nget id S.nodes = some n) : Tr Tryz.prog 75 [.pointer (some ⟨sb, 0, none⟩), .int .i64 id, .int .i64 r] (storeHp sb S) (fun v L' => v = .int .i64 (addErr S id r) ∧ ((addErr S id r ≠ 0 ∧ L' = storeHp sb S) ∨ (addErr S id r = 0 ∧ ∃ b, L' = storeHp sb (S.addNode id b r.toNat)))) := by
 have hm : (mget id (nodeKV S.nodes)).getD (.pointer none) = .pointer (some ⟨n.blk, 0, none⟩) := by rw [mget_nodeKV, h]; rfl
 refine Tr.enter Tryz.func75 rfl Tryz.ntmps75 rfl (fun W F => ?_)
 refine Wp.app ?_
 refine Wr ?_
 refine Oa1 rfl rfl ?_
 refine On ?_
 refine Wp.seq ?_
 refine Wp.block ?_
 refine Wr ?_
 refine Om1 rfl rfl ?_
 refine Ops.pv (pv_lss rfl rfl) rfl ?_
 refine Om1 rfl rfl ?_
 refine Ops.split (t := 10) rfl (fun h1 => ?_) (fun h1 => ?_)
 ·
  refine Os1 rfl rfl rfl rfl ?_
  refine Os1 rfl rfl rfl rfl ?_
  refine Ops.pv (pv_pick_true rfl rfl) rfl ?_
  refine Om1 rfl rfl ?_
  refine Os1 rfl rfl rfl rfl ?_
  refine Os1 rfl rfl rfl rfl ?_
  refine Ops.pv (pv_pick_true rfl rfl) rfl ?_
  refine Om1 rfl rfl ?_
  refine Os1 rfl rfl rfl rfl ?_
  refine Os1 rfl rfl rfl rfl ?_
  refine Ops.pv (pv_pick_true rfl rfl) rfl ?_
  refine Oa1 rfl rfl ?_
  refine On ?_
  refine Wp.cond_true rfl ?_
  refine Wr ?_
  refine Oa1 rfl rfl ?_
  refine On ?_
  refine Wp.ret ?_
  refine Ends.block_ret ?_
  refine Ends.then_ret ?_
  exact Ends.ret (L' := storeHp sb S) (res1 rfl rfl) ⟨by simp [addErr, *] <;> omega, .inl ⟨by simp [addErr, *] <;> omega, rfl⟩⟩
 refine Ops.pvg ⟨_, _, rfl, rfl, rfl⟩ (pv_move rfl) rfl ?_
 refine Ops.pvg ⟨_, _, rfl, rfl, rfl⟩ (pv_geq rfl rfl) rfl ?_
 refine Ops.pv (pv_pick_false rfl rfl) rfl ?_
 refine Om1 rfl rfl ?_
 refine Ops.split (t := 14) rfl (fun h2 => ?_) (fun h2 => ?_)
 ·
  refine Os1 rfl rfl rfl rfl ?_
  refine Os1 rfl rfl rfl rfl ?_
  refine Ops.pv (pv_pick_true rfl rfl) rfl ?_
  refine Om1 rfl rfl ?_
  refine Os1 rfl rfl rfl rfl ?_
  refine Os1 rfl rfl rfl rfl ?_
  refine Ops.pv (pv_pick_true rfl rfl) rfl ?_
  refine Oa1 rfl rfl ?_
  refine On ?_
  refine Wp.cond_true rfl ?_
  refine Wr ?_
  refine Oa1 rfl rfl ?_
  refine On ?_
  refine Wp.ret ?_
  refine Ends.block_ret ?_
  refine Ends.then_ret ?_
  exact Ends.ret (L' := storeHp sb S) (res1 rfl rfl) ⟨by simp [addErr, *] <;> omega, .inl ⟨by simp [addErr, *] <;> omega, rfl⟩⟩
 refine Ops.pvg ⟨_, _, rfl, rfl, rfl⟩ (pv_move rfl) rfl ?_
 refine Ops.pvg ⟨_, _, rfl, rfl, rfl⟩ (pv_lss rfl rfl) rfl ?_
 refine Ops.pv (pv_pick_false rfl rfl) rfl ?_
 refine Om1 rfl rfl ?_
 refine Ops.split (t := 18) rfl (fun h3 => ?_) (fun h3 => ?_)
 ·
  refine Os1 rfl rfl rfl rfl ?_
  refine Os1 rfl rfl rfl rfl ?_
  refine Ops.pv (pv_pick_true rfl rfl) rfl ?_
  refine Oa1 rfl rfl ?_
  refine On ?_
  refine Wp.cond_true rfl ?_
  refine Wr ?_
  refine Oa1 rfl rfl ?_
  refine On ?_
  refine Wp.ret ?_
  refine Ends.block_ret ?_
  refine Ends.then_ret ?_
  exact Ends.ret (L' := storeHp sb S) (res1 rfl rfl) ⟨by simp [addErr, *] <;> omega, .inl ⟨by simp [addErr, *] <;> omega, rfl⟩⟩
 refine Ops.pvg ⟨_, _, rfl, rfl, rfl⟩ (pv_move rfl) rfl ?_
 refine Ops.pvg ⟨_, _, rfl, rfl, rfl⟩ (pv_gtr rfl rfl) rfl ?_
 refine Ops.pv (pv_pick_false rfl rfl) rfl ?_
 refine Oa1 rfl rfl ?_
 refine On ?_
 refine Wp.cond_dect rfl (fun h4 => ?_) (fun h4 => ?_)
 ·
  refine Wr ?_
  refine Oa1 rfl rfl ?_
  refine On ?_
  refine Wp.ret ?_
  refine Ends.block_ret ?_
  refine Ends.then_ret ?_
  exact Ends.ret (L' := storeHp sb S) (res1 rfl rfl) ⟨by simp [addErr, *] <;> omega, .inl ⟨by simp [addErr, *] <;> omega, rfl⟩⟩
 refine Wr ?_
 refine Om1 rfl rfl ?_
 refine Ops.pv (pv_nilCheck rfl) rfl ?_
 refine Of1 rfl rfl rfl ?_
 refine Ol1 rfl rfl rfl rfl ?_
 refine Om1 rfl rfl ?_
 refine Ops.pv (pv_lookup_i id rfl rfl hm) rfl ?_
 refine Ops.pv (pv_neq_nil rfl rfl) rfl ?_
 refine Oa1 rfl rfl ?_
 refine On ?_
 refine Wp.cond_true rfl ?_
 refine Wr ?_
 refine Oa1 rfl rfl ?_
 refine On ?_
 refine Wp.ret ?_
 refine Ends.block_ret ?_
 refine Ends.then_ret ?_
 exact Ends.ret (L' := storeHp sb S) (res1 rfl rfl) ⟨by simp [addErr, *] <;> omega, .inl ⟨by simp [addErr, *] <;> omega, rfl⟩⟩
theorem tr_add_none (sb : Nat) (S : StoreM) (id r : Int) (h : nget id S.nodes = none) : Tr Tryz.prog 75 [.pointer (some ⟨sb, 0, none⟩), .int .i64 id, .int .i64 r] (storeHp sb S) (fun v L' => v = .int .i64 (addErr S id r) ∧ ((addErr S id r ≠ 0 ∧ L' = storeHp sb S) ∨ (addErr S id r = 0 ∧ ∃ b, L' = storeHp sb (S.addNode id b r.toNat)))) := by
 have hm : (mget id (nodeKV S.nodes)).getD (.pointer none) = .pointer none := by rw [mget_nodeKV, h]; rfl
 have hupd := fun o => S.updMap (sb := sb) (o := o)
 refine Tr.enter Tryz.func75 rfl Tryz.ntmps75 rfl (fun W F => ?_)
 refine Wp.app ?_
 refine Wr ?_
 refine Oa1 rfl rfl ?_
 refine On ?_
 refine Wp.seq ?_
 refine Wp.block ?_
 refine Wr ?_
 refine Om1 rfl rfl ?_
 refine Ops.pv (pv_lss rfl rfl) rfl ?_
 refine Om1 rfl rfl ?_
 refine Ops.split (t := 10) rfl (fun h1 => ?_) (fun h1 => ?_)
 ·
  refine Os1 rfl rfl rfl rfl ?_
  refine Os1 rfl rfl rfl rfl ?_
  refine Ops.pv (pv_pick_true rfl rfl) rfl ?_
  refine Om1 rfl rfl ?_
  refine Os1 rfl rfl rfl rfl ?_
  refine Os1 rfl rfl rfl rfl ?_
  refine Ops.pv (pv_pick_true rfl rfl) rfl ?_
  refine Om1 rfl rfl ?_
  refine Os1 rfl rfl rfl rfl ?_
  refine Os1 rfl rfl rfl rfl ?_
  refine Ops.pv (pv_pick_true rfl rfl) rfl ?_
  refine Oa1 rfl rfl ?_
  refine On ?_
  refine Wp.cond_true rfl ?_
  refine Wr ?_
  refine Oa1 rfl rfl ?_
  refine On ?_
  refine Wp.ret ?_
  refine Ends.block_ret ?_
  refine Ends.then_ret ?_
  exact Ends.ret (L' := storeHp sb S) (res1 rfl rfl) ⟨by simp [addErr, *] <;> omega, .inl ⟨by simp [addErr, *] <;> omega, rfl⟩⟩
 refine Ops.pvg ⟨_, _, rfl, rfl, rfl⟩ (pv_move rfl) rfl ?_
 refine Ops.pvg ⟨_, _, rfl, rfl, rfl⟩ (pv_geq rfl rfl) rfl ?_
 refine Ops.pv (pv_pick_false rfl rfl) rfl ?_
 refine Om1 rfl rfl ?_
 refine Ops.split (t := 14) rfl (fun h2 => ?_) (fun h2 => ?_)
 ·
  refine Os1 rfl rfl rfl rfl ?_
  refine Os1 rfl rfl rfl rfl ?_
  refine Ops.pv (pv_pick_true rfl rfl) rfl ?_
  refine Om1 rfl rfl ?_
  refine Os1 rfl rfl rfl rfl ?_
  refine Os1 rfl rfl rfl rfl ?_
  refine Ops.pv (pv_pick_true rfl rfl) rfl ?_
  refine Oa1 rfl rfl ?_
  refine On ?_
  refine Wp.cond_true rfl ?_
  refine Wr ?_
  refine Oa1 rfl rfl ?_
  refine On ?_
  refine Wp.ret ?_
  refine Ends.block_ret ?_
  refine Ends.then_ret ?_
  exact Ends.ret (L' := storeHp sb S) (res1 rfl rfl) ⟨by simp [addErr, *] <;> omega, .inl ⟨by simp [addErr, *] <;> omega, rfl⟩⟩
 refine Ops.pvg ⟨_, _, rfl, rfl, rfl⟩ (pv_move rfl) rfl ?_
 refine Ops.pvg ⟨_, _, rfl, rfl, rfl⟩ (pv_lss rfl rfl) rfl ?_
 refine Ops.pv (pv_pick_false rfl rfl) rfl ?_
 refine Om1 rfl rfl ?_
 refine Ops.split (t := 18) rfl (fun h3 => ?_) (fun h3 => ?_)
 ·
  refine Os1 rfl rfl rfl rfl ?_
  refine Os1 rfl rfl rfl rfl ?_
  refine Ops.pv (pv_pick_true rfl rfl) rfl ?_
  refine Oa1 rfl rfl ?_
  refine On ?_
  refine Wp.cond_true rfl ?_
  refine Wr ?_
  refine Oa1 rfl rfl ?_
  refine On ?_
  refine Wp.ret ?_
  refine Ends.block_ret ?_
  refine Ends.then_ret ?_
  exact Ends.ret (L' := storeHp sb S) (res1 rfl rfl) ⟨by simp [addErr, *] <;> omega, .inl ⟨by simp [addErr, *] <;> omega, rfl⟩⟩
 refine Ops.pvg ⟨_, _, rfl, rfl, rfl⟩ (pv_move rfl) rfl ?_
 refine Ops.pvg ⟨_, _, rfl, rfl, rfl⟩ (pv_gtr rfl rfl) rfl ?_
 refine Ops.pv (pv_pick_false rfl rfl) rfl ?_
 refine Oa1 rfl rfl ?_
 refine On ?_
 refine Wp.cond_dect rfl (fun h4 => ?_) (fun h4 => ?_)
 ·
  refine Wr ?_
  refine Oa1 rfl rfl ?_
  refine On ?_
  refine Wp.ret ?_
  refine Ends.block_ret ?_
  refine Ends.then_ret ?_
  exact Ends.ret (L' := storeHp sb S) (res1 rfl rfl) ⟨by simp [addErr, *] <;> omega, .inl ⟨by simp [addErr, *] <;> omega, rfl⟩⟩
 refine Wr ?_
 refine Om1 rfl rfl ?_
 refine Ops.pv (pv_nilCheck rfl) rfl ?_
 refine Of1 rfl rfl rfl ?_
 refine Ol1 rfl rfl rfl rfl ?_
 refine Om1 rfl rfl ?_
 refine Ops.pv (pv_lookup_i id rfl rfl hm) rfl ?_
 refine Ops.pv (pv_neq_nil rfl rfl) rfl ?_
 refine Oa1 rfl rfl ?_
 refine On ?_
 refine Wp.cond_false rfl ?_
 refine Wp.skip ?_
 refine Ends.block_normal ?_
 refine Ends.seq ?_
 refine Wr ?_
 refine Om1 rfl rfl ?_
 refine Ops.pv (pv_nilCheck rfl) rfl ?_
 refine Of1 rfl rfl rfl ?_
 refine Ol1 rfl rfl rfl rfl ?_
 refine Om1 rfl rfl ?_
 refine Om1 rfl rfl ?_
 refine Ops.pv (pv_build rfl) rfl ?_
 refine Ops.ef rfl (ef_boxK rfl rfl) ?_
 rintro _ _ ⟨b1, rfl, rfl⟩
 refine Ops.ef rfl (ef_mapUpdate_i _ rfl rfl rfl) ?_
 rintro _ _ ⟨rfl, rfl⟩
 refine On ?_
 refine Wr ?_
 refine Oa1 rfl rfl ?_
 refine On ?_
 refine Wp.ret ?_
 obtain ⟨k, rfl⟩ : ∃ k : Nat, r = k := ⟨r.toNat, by omega⟩
 refine Ends.heap (fun w ho => ho.perm (StoreM.add_perm h)) ?_
 exact Ends.ret (L' := storeHp sb (S.addNode id b1 k)) (res1 rfl rfl) ⟨by simp [addErr, *] <;> omega, .inr ⟨by simp [addErr, *] <;> omega, b1, by simp⟩⟩
theorem tr_add (sb : Nat) (S : StoreM) (id r : Int) : Tr Tryz.prog 75 [.pointer (some ⟨sb, 0, none⟩), .int .i64 id, .int .i64 r] (storeHp sb S) (fun v L' => v = .int .i64 (addErr S id r) ∧ ((addErr S id r ≠ 0 ∧ L' = storeHp sb S) ∨ (addErr S id r = 0 ∧ ∃ b, L' = storeHp sb (S.addNode id b r.toNat)))) := by
 cases h : nget id S.nodes with
 | none => exact tr_add_none sb S id r h
 | some n => exact tr_add_some sb S id r n h
end Go.Proofs.YtdodfnjmkpgdbaaGreat
end
section
set_option linter.unusedVariables false
set_option linter.unusedSimpArgs false
namespace Go.Proofs.YtdodfnjmkpgdbaaGreat
open Go.SL
theorem nget_nset {id : Int} {n n' : NodeM} : ∀ {l : List (Int × NodeM × Nat)}, nget id l = some n → ∀ o, nget o (nset id n' l) = if o = id then some n' else nget o l
  | [], h, o => by cases h
  | e :: l, h, o => by
    simp only [nget] at h
    by_cases he : id = e.1
    · rw [if_pos he] at h
      subst he
      simp only [nset, nget, if_true]
      split <;> rfl
    · rw [if_neg he] at h
      have ih := nget_nset (n' := n') h o
      by_cases ho : o = e.1
      · have : o ≠ id := fun h' => he (h' ▸ ho)
        simp [nset, nget, he, ho, Ne.symm he]
      · simp [nset, nget, he, ho, ih]
section
variable {S : StoreM} {s : SlotM} {x : CapM} (h : S.cap? s = some x) (c : CapM)
include h
theorem setCap_nget (o : Int) : ∃ n, nget s.1 S.nodes = some n ∧ n.has s.2 ∧ n.caps[s.2.toNat]? = some x ∧ nget o (S.setCap s c).nodes = if o = s.1 then some (n.set s.2.toNat c) else nget o S.nodes := by
 obtain ⟨n, hn, hh, hc, _⟩ := S.cap_some h
 refine ⟨n, hn, hh, hc, ?_⟩
 rw [← S.setCap_eq hn]
 exact nget_nset hn o
theorem setCap_cap (t : SlotM) : (S.setCap s c).cap? t = if t = s then some c else S.cap? t := by
 obtain ⟨n, hn, hh, hc, e⟩ := setCap_nget h c t.1
 have hlt : s.2.toNat < n.caps.length := by
  rcases Nat.lt_or_ge s.2.toNat n.caps.length with h' | h'
  ·
   exact h'
  ·
   rw [List.getElem?_eq_none h'] at hc; cases hc
 unfold StoreM.cap?
 rw [e]
 by_cases h1 : t.1 = s.1
 ·
  rw [if_pos h1, h1, hn]
  dsimp only
  have e0 : ∀ i, (n.set s.2.toNat c).has i ↔ n.has i := fun i => Iff.rfl
  by_cases h2 : t.2 = s.2
  ·
   have hh' : (n.set s.2.toNat c).has s.2 := hh
   rw [if_pos (Prod.ext h1 h2), h2, if_pos hh']
   simp [NodeM.set, hlt]
  ·
   rw [if_neg (fun e => h2 (congrArg Prod.snd e))]
   by_cases h3 : n.has t.2
   ·
    have h4 : (n.set s.2.toNat c).has t.2 := h3
    rw [if_pos h3, if_pos h4]
    have : s.2.toNat ≠ t.2.toNat := by have a := hh.1; have b := h3.1; omega
    simp [NodeM.set, List.getElem?_set_ne this]
   ·
    have h4 : ¬ (n.set s.2.toNat c).has t.2 := h3
    rw [if_neg h3, if_neg h4]
 ·
  rw [if_neg h1, if_neg (fun e => h1 (congrArg Prod.fst e))]
theorem setCap_radix (o : Int) : (S.setCap s c).radix o = S.radix o := by
 obtain ⟨n, hn, hh, hc, e⟩ := setCap_nget h c o
 unfold StoreM.radix
 rw [e]
 by_cases h1 : o = s.1
 ·
  rw [if_pos h1, h1, hn]; rfl
 ·
  rw [if_neg h1]
theorem setCap_wf (hw : S.Wf) : (S.setCap s c).Wf := by
 intro o m hm
 obtain ⟨n, hn, hh, hc, e⟩ := setCap_nget h c o
 rw [e] at hm
 by_cases h1 : o = s.1
 ·
  rw [if_pos h1] at hm; cases hm
  have := hw _ _ hn
  exact ⟨⟨by simpa [NodeM.set] using this.1.len, this.1.lo, this.1.hi⟩, by rw [h1]; exact this.2⟩
 ·
  rw [if_neg h1] at hm; exact hw _ _ hm
end
section
variable {S : StoreM} {id : Int} (h : nget id S.nodes = none) (b r : Nat)
include h
theorem addNode_nget (o : Int) : nget o (S.addNode id b r).nodes = if o = id then some ⟨b, r, zeroCaps⟩ else nget o S.nodes := by
 unfold StoreM.addNode
 dsimp only
 by_cases ho : o = id
 ·
  subst ho; rw [if_pos rfl, nget_app_none h]; simp [nget]
 ·
  rw [if_neg ho]
  cases hn : nget o S.nodes with
  | none => rw [nget_app_none hn]; simp [nget, ho]
  | some n => exact nget_app_some hn
theorem addNode_cap (t : SlotM) : (S.addNode id b r).cap? t = if t.1 = id then (if 0 ≤ t.2 ∧ t.2 < (2 ^ r : Nat) ∧ t.2 < 16 then some CapM.zero else none) else S.cap? t := by
 unfold StoreM.cap?
 rw [addNode_nget h]
 by_cases ht : t.1 = id
 ·
  rw [if_pos ht, if_pos ht]
  dsimp only
  by_cases h1 : 0 ≤ t.2 ∧ t.2 < (2 ^ r : Nat)
  ·
   have h1' : NodeM.has ⟨b, r, zeroCaps⟩ t.2 := h1
   rw [if_pos h1']
   by_cases h2 : t.2 < 16
   ·
    rw [if_pos ⟨h1.1, h1.2, h2⟩]
    unfold zeroCaps
    rw [List.getElem?_replicate, if_pos (by omega)]
   ·
    rw [if_neg (by omega)]
    unfold zeroCaps
    rw [List.getElem?_replicate, if_neg (by omega)]
  ·
   have h1' : ¬ NodeM.has ⟨b, r, zeroCaps⟩ t.2 := h1
   rw [if_neg h1', if_neg (by omega)]
 ·
  rw [if_neg ht, if_neg ht]
theorem addNode_wf (hw : S.Wf) (h0 : 0 ≤ id) (h1 : id < 64) (h2 : 1 ≤ r) (hr : r ≤ 4) : (S.addNode id b r).Wf := by
 intro o n hn
 rw [addNode_nget h] at hn
 split at hn
 ·
  next h => cases hn; subst h; exact ⟨⟨by simp [zeroCaps], h2, hr⟩, h0, h1⟩
 ·
  exact hw _ _ hn
end
theorem wf_new {S : StoreM} (hS : S.nodes = []) : S.Wf := by intro o n h; rw [hS] at h; cases h
end Go.Proofs.YtdodfnjmkpgdbaaGreat
end
section
set_option linter.unusedVariables false
set_option linter.unusedSimpArgs false
namespace Go.SL
theorem reads_iff {c : List Value} {off : Nat} {vs : List Value} : Reads c off vs ↔ ∀ j v, vs[j]? = some v → c[off + j]? = some v := by
 constructor
 ·
  exact Reads.at_
 ·
  revert off
  induction vs with
  | nil => intro off _; trivial
  | cons v vs ih =>
   intro off h
   refine ⟨by rw [nth_eq]; exact h 0 v rfl, ih fun j u hu => ?_⟩
   have := h (j + 1) u (by simpa using hu)
   rwa [show off + (j + 1) = off + 1 + j by omega] at this
theorem reads_split {A x B : List Value} : Reads (A ++ x ++ B) A.length x := by
 rw [reads_iff]
 intro j v hv
 have hj := (List.getElem?_eq_some_iff.1 hv).1
 rw [List.append_assoc, List.getElem?_append_right (by omega), show A.length + j - A.length = j by omega, List.getElem?_append_left hj, hv]
theorem reads_flat {ls : List (List Value)} {k i : Nat} {x : List Value} (h : ls[i]? = some x) (hk : ∀ y, y ∈ ls → y.length = k) : Reads ls.flatten (i * k) x := by
 have hlt := (List.getElem?_eq_some_iff.1 h).1
 have e : ls = ls.take i ++ x :: ls.drop (i + 1) := by
  have := (List.getElem?_eq_some_iff.1 h).2
  rw [← this, ← List.drop_eq_getElem_cons hlt, List.take_append_drop]
 have hl : (ls.take i).flatten.length = i * k := by
  have hgen : ∀ (m : List (List Value)), (∀ y, y ∈ m → y.length = k) → m.flatten.length = m.length * k := by
   intro m
   induction m with
   | nil => intro _; simp
   | cons a m ih =>
    intro hm
    rw [List.flatten_cons, List.length_append, hm a (List.mem_cons_self ..), ih (fun y hy => hm y (List.mem_cons_of_mem _ hy)), List.length_cons, Nat.add_mul, Nat.one_mul, Nat.add_comm]
  rw [hgen _ (fun y hy => hk y (List.mem_of_mem_take hy)), List.length_take, Nat.min_eq_left (Nat.le_of_lt hlt)]
 have e2 : ls.flatten = (ls.take i).flatten ++ x ++ (ls.drop (i + 1)).flatten := by
  conv => lhs; rw [e]
  simp
 rw [e2, ← hl]
 exact reads_split
theorem run_eqItems_nums {P : Program} (d : Nat) (w : World) {e k : Nat} {ks : List IntKind} {dsc : TypeDesc} [hT : NumTy P e ks] [he : TyD P e dsc] [hk : TyS P e k] (hd : aggD dsc = true) (hkl : ks.length = k) (X Y : List Value) (a b : Nat → List Int) :
    ∀ is : List Nat, (∀ i, i ∈ is → (a i).length = k ∧ (b i).length = k ∧ (encK ks (a i)).length = k ∧ (encK ks (b i)).length = k ∧ Reads X (i * k) (encK ks (a i)) ∧ Reads Y (i * k) (encK ks (b i))) →
      (Op.eqItems (d + 2) e k X.toArray Y.toArray is).run P w = .ok (decide (∀ i, i ∈ is → a i = b i)) w
  | [], _ => by simp [Op.eqItems]
  | i :: is, h => by
    obtain ⟨h1, h2, h1', h2', h3, h4⟩ := h i (List.mem_cons_self ..)
    have ih := run_eqItems_nums (P := P) (e := e) (k := k) (ks := ks) d w hd hkl X Y a b is (fun j hj => h j (List.mem_cons_of_mem _ hj))
    have px : (part e X.toArray (i * k)).run P w = .ok (.agg (encK ks (a i)).toArray) w := by
      have hc' := h3.extract h1'
      simp only [List.extract_toArray, List.extract_eq_take_drop, Nat.add_sub_cancel_left] at hc'
      have hc' := List.toArray_inj hc'
      simp [part, TyD.agg, TyS.run, hd, hc']
    have py : (part e Y.toArray (i * k)).run P w = .ok (.agg (encK ks (b i)).toArray) w := by
      have hc' := h4.extract h2'
      simp only [List.extract_toArray, List.extract_eq_take_drop, Nat.add_sub_cancel_left] at hc'
      have hc' := List.toArray_inj hc'
      simp [part, TyD.agg, TyS.run, hd, hc']
    simp only [Op.eqItems, Sem.run_bind, px, py, Result.andThen_ok, hT.eq d w (a i) (b i) (by rw [hkl, h1]) (by rw [hkl, h2])]
    by_cases hab : a i = b i
    · simp [hab, ih]
    · simp [hab]
theorem encK_len : ∀ (ks : List IntKind) (xs : List Int), xs.length = ks.length → (encK ks xs).length = ks.length
  | [], [], _ => rfl
  | k :: ks, x :: xs, h => by simp [encK, encK_len ks xs (by simpa using h)]
  | [], _ :: _, h => by simp at h
  | _ :: _, [], h => by simp at h
section pv
variable {P : Program} {n : Nat} {D : List Deferred} {E : Env} {L : Hp} {d : Option Tmp} {ty : TypeId} {pos : String} {aft : Array Edge} {g : Option (Nat × Bool)} {T : TypeId} {x y z : Operand} {v u : Value}
theorem run_eq_arr {e k m : Nat} {ks : List IntKind} {dsc : TypeDesc} (w : World) [hA : TyD P T (.array m e)] [hT : NumTy P e ks] [he : TyD P e dsc] [hk : TyS P e k] (hd : aggD dsc = true) (hkl : ks.length = k) (xs ys : List (List Int)) (hlx : xs.length = m) (hly : ys.length = m)
    (hx : ∀ q, q ∈ xs → q.length = k) (hy : ∀ q, q ∈ ys → q.length = k) :
    (Op.equalIn 10000 T (.agg (xs.map (encK ks)).flatten.toArray) (.agg (ys.map (encK ks)).flatten.toArray)).run P w = .ok (decide (xs = ys)) w := by
  obtain ⟨i, hi, hsz⟩ := Option.map_eq_some_iff.1 hk.eq
  have hc : P.cellsOf e = k := by simp [Program.cellsOf, hi, hsz]
  rw [show (10000 : Nat) = 9999 + 1 from rfl, run_equalIn_array w 9999 _ _ hA.eq hi, hc]
  have key : ∀ (zs : List (List Int)), zs.length = m → (∀ q, q ∈ zs → q.length = k) → ∀ i, i ∈ List.range m → (zs[i]?.getD []).length = k ∧ (encK ks (zs[i]?.getD [])).length = k ∧ Reads (zs.map (encK ks)).flatten (i * k) (encK ks (zs[i]?.getD [])) := by
    intro zs hl hq i hi
    rw [List.mem_range] at hi
    have e1 : zs[i]? = some (zs[i]'(by omega)) := List.getElem?_eq_getElem (by omega)
    rw [e1, Option.getD_some]
    have hlen : (zs[i]'(by omega)).length = k := hq _ (List.getElem_mem _)
    refine ⟨hlen, by rw [encK_len ks _ (by rw [hlen, hkl]), hkl], reads_flat (by rw [List.getElem?_map, e1]; rfl) ?_⟩
    intro y hy
    obtain ⟨q, hq', rfl⟩ := List.mem_map.1 hy
    rw [encK_len ks _ (by rw [hq q hq', hkl]), hkl]
  have := run_eqItems_nums (P := P) 9997 w (e := e) (k := k) (ks := ks) hd hkl (xs.map (encK ks)).flatten (ys.map (encK ks)).flatten (fun i => xs[i]?.getD []) (fun i => ys[i]?.getD []) (List.range m)
    (fun i hi => ⟨(key xs hlx hx i hi).1, (key ys hly hy i hi).1, (key xs hlx hx i hi).2.1, (key ys hly hy i hi).2.1, (key xs hlx hx i hi).2.2, (key ys hly hy i hi).2.2⟩)
  rw [this]
  congr 1
  apply decide_eq_decide.2
  constructor
  · intro h
    apply List.ext_getElem?
    intro i
    by_cases hi : i < m
    · have := h i (List.mem_range.2 hi)
      rw [List.getElem?_eq_getElem (by omega), List.getElem?_eq_getElem (by omega)] at this ⊢
      simpa using this
    · rw [List.getElem?_eq_none (by omega), List.getElem?_eq_none (by omega)]
  · intro h i _; rw [h]
theorem pv_neq_arr {e k m : Nat} {ks : List IntKind} {dsc : TypeDesc} {yt : TypeId} (xs ys : List (List Int)) [hA : TyD P T (.array m e)] [hT : NumTy P e ks] [he : TyD P e dsc] [hk : TyS P e k]
    (hx : ev E x = some (.agg (xs.map (encK ks)).flatten.toArray)) (hy : ev E y = some (.agg (ys.map (encK ks)).flatten.toArray)) (hd : aggD dsc = true) (hkl : ks.length = k) (hlx : xs.length = m) (hly : ys.length = m)
    (hx' : ∀ q, q ∈ xs → q.length = k) (hy' : ∀ q, q ∈ ys → q.length = k) (hg : P.eqGuardType P.depth T = false) : Pv P n D E L ⟨d, .binOp .neq T x y yt, ty, pos, aft, g⟩ (.bool (decide (xs ≠ ys))) := by
  unfold Pv; intro a w hs _
  have := run_eq_arr (P := P) (T := T) w hd hkl xs ys hlx hly hx' hy'
  simp only [execOp, hs.ev hx, hs.ev hy, Sem.run_bind, run_eqGuard_agg (P := P) w .neq T x y _ _ hg, run_neq_struct, Result.andThen_ok, this, Sem.run_pure]
  simp
def evO (E : Env) (o : Option Operand) (d : Nat) (i : Nat) : Prop :=
  match o with
  | none => i = d
  | some o => ∃ k, ev E o = some (.int k (i : Int))
theorem pv_slice {a : Option Addr} {m c i j e k : Nat} {lo hi : Option Operand} (hx : ev E x = some (.slice a m c)) (hlo : evO E lo 0 i) (hhi : evO E hi m j) (h1 : i ≤ j) (h2 : j ≤ c) [ht : TyD P T (.slice e)] [hk : TyS P e k] :
    Pv P n D E L ⟨d, .slice T x lo hi none, ty, pos, aft, g⟩ (.slice (if c = i then a else a.map (·.add (i * k))) (j - i) (c - i)) := by
  unfold Pv; intro A w hs _
  have g1 : (Int.ofNat i).toNat = i := rfl
  cases lo with
  | none =>
    obtain rfl : i = 0 := hlo
    cases hi with
    | none =>
      obtain rfl : j = m := hhi
      simp [execOp, hs.ev hx, Instr.sliceAt, Instr.slice, Instr.sliceBounds, TyD.run, TyS.run]
    | some o =>
      obtain ⟨kk, ho⟩ := hhi
      have h3 : (0 : Int) ≤ (j : Int) ∧ (j : Int) ≤ (c : Int) := by omega
      simp [execOp, hs.ev hx, hs.ev ho, Instr.sliceAt, Instr.slice, Instr.sliceBounds, Instr.sliceBound, asIntOf, TyD.run, TyS.run, h3, h2]
  | some o =>
    obtain ⟨kk, ho⟩ := hlo
    cases hi with
    | none =>
      obtain rfl : j = m := hhi
      simp [execOp, hs.ev hx, hs.ev ho, Instr.sliceAt, Instr.slice, Instr.sliceBounds, Instr.sliceBound, asIntOf, TyD.run, TyS.run, h1]
    | some o' =>
      obtain ⟨kk', ho'⟩ := hhi
      simp [execOp, hs.ev hx, hs.ev ho, hs.ev ho', Instr.sliceAt, Instr.slice, Instr.sliceBounds, Instr.sliceBound, asIntOf, TyD.run, TyS.run, h1, h2]
theorem pv_sliceL {a : Option Addr} {m c i j e k r : Nat} {lo hi : Option Operand} (hx : ev E x = some (.slice a m c)) (hlo : evO E lo 0 i) (hhi : evO E hi m j) (h1 : i ≤ j) (h2 : j ≤ c) (hr : j - i = r) [ht : TyD P T (.slice e)] [hk : TyS P e k] :
    Pv P n D E L ⟨d, .slice T x lo hi none, ty, pos, aft, g⟩ (.slice (if c = i then a else a.map (·.add (i * k))) r (c - i)) := by
  subst hr; exact pv_slice hx hlo hhi h1 h2
theorem pv_sliceTo {a : Option Addr} {m c j e k : Nat} {hi : Option Operand} (hx : ev E x = some (.slice a m c)) (hhi : evO E hi m j) (h2 : j ≤ c) [ht : TyD P T (.slice e)] [hk : TyS P e k] :
    Pv P n D E L ⟨d, .slice T x none hi none, ty, pos, aft, g⟩ (.slice a j c) := by
  have := pv_slice (P := P) (n := n) (D := D) (E := E) (L := L) (d := d) (ty := ty) (pos := pos) (aft := aft) (g := g) (T := T) (x := x) (lo := none) (hi := hi) (i := 0) (j := j) hx rfl hhi (Nat.zero_le _) h2
  have e1 : (if c = 0 then a else a.map (·.add (0 * k))) = a := by
    rw [Nat.zero_mul]; split
    · rfl
    · cases a <;> rfl
  rw [e1, Nat.sub_zero, Nat.sub_zero] at this
  exact this
theorem pv_neq_bool {b c : Bool} {yt : TypeId} (hx : ev E x = some (.bool b)) (hy : ev E y = some (.bool c)) [h : TyD P T .bool] :
    Pv P n D E L ⟨d, .binOp .neq T x y yt, ty, pos, aft, g⟩ (.bool (!(b == c))) := by
  unfold Pv; intro a w hs _
  have h1 : (Op.equalIn 10000 T (.bool b) (.bool c)).run P w = .ok (b == c) w := run_equalIn_bool' w 9999 T b c h.eq
  simp [execOp, hs.ev hx, hs.ev hy, eqGuard, binOp, Op.equal, Op.maxDepth, h1]
theorem pv_cap_slice {e : TypeId} {ats : Array TypeId} {p : Option Addr} {m c : Nat} (hx : ev E x = some (.slice p m c)) (h0 : ats[0]? = some T) [hT : TyD P T (.slice e)] :
    Pv P n D E L ⟨d, .call { callee := .builtin .cap, args := #[x], argTypes := ats }, ty, pos, aft, g⟩ (.int .i64 c) := by
  unfold Pv; intro a w hs hh
  rw [BigFrame.execOp_builtin]
  simp only [BigFrame.builtin_cap, List.map_toArray, List.map_cons, List.map_nil, hs.ev hx, Builtin.cap_, h0, List.getElem?_toArray, List.getElem?_cons_zero, Sem.run_bind, TyD.run, Result.andThen_ok, Sem.run_pure, goInt]
theorem pv_eql_slcnil {e : TypeId} {p : Option Addr} {m c : Nat} {yt : TypeId} (hx : ev E x = some (.slice p m c)) (hy : ev E y = some (.slice none 0 0)) [h : TyD P T (.slice e)] :
    Pv P n D E L ⟨d, .binOp .eql T x y yt, ty, pos, aft, g⟩ (.bool p.isNone) := by
  unfold Pv; intro a w hs _
  have h1 : (Op.equalIn 10000 T (.slice p m c) (.slice none 0 0)).run P w = .ok p.isNone w := by
    exact Go.run_equalIn_slice_nil w 9999 T e p m c h.eq
  simp [execOp, hs.ev hx, hs.ev hy, eqGuard, binOp, Op.equal, Op.maxDepth, h1]
end pv
def View (G : Hp) (sz : Nat) (v : Value) (n : Nat) (cs : List Value) : Prop :=
  cs.length = n * sz ∧ ∃ a c, v = .slice a n c ∧ n ≤ c ∧ (n = 0 ∨ ∃ b o, ∃ cc : List Value, ∃ T f, a = some ⟨b, o, none⟩ ∧ (b, Obj.cells cc.toArray T f) ∈ G ∧ Reads cc o cs)
theorem View.nil (G : Hp) (sz : Nat) : View G sz (.slice none 0 0) 0 [] := ⟨by simp, none, 0, rfl, Nat.le_refl _, .inl rfl⟩
theorem View.mono {G G' : Hp} {sz : Nat} {v : Value} {n : Nat} {cs : List Value} (h : View G sz v n cs) (hg : ∀ p, p ∈ G → p ∈ G') : View G' sz v n cs := by
 obtain ⟨h1, a, c, h2, h3, h4⟩ := h
 refine ⟨h1, a, c, h2, h3, h4.imp id ?_⟩
 rintro ⟨b, o, cc, T, f, e, hm, hr⟩
 exact ⟨b, o, cc, T, f, e, hg _ hm, hr⟩
theorem Slc.view {T : TypeId} {sz : Nat} {v : Value} {n : Nat} {cs : List Value} {H : Hp} (h : Slc T sz v n cs H) : View H sz v n cs := by
 obtain ⟨hl, ⟨rfl, rfl, rfl⟩ | ⟨b, pre, spare, cap, rfl, hc, _, rfl⟩⟩ := h
 ·
  exact ⟨hl, none, 0, rfl, Nat.le_refl _, .inl rfl⟩
 ·
  exact ⟨hl, _, cap, rfl, hc, .inr ⟨b, pre.length, _, T, (0, 0), rfl, List.mem_cons_self .., reads_split⟩⟩
theorem Reads.sub {c : List Value} {off i l : Nat} {vs : List Value} (h : Reads c off vs) : Reads c (off + i) ((vs.drop i).take l) := by
 rw [reads_iff] at h ⊢
 intro j v hv
 rw [List.getElem?_take] at hv
 split at hv
 ·
  rw [List.getElem?_drop] at hv
  rw [show off + i + j = off + (i + j) by omega]
  exact h _ v hv
 ·
  cases hv
theorem View.elem {G : Hp} {sz : Nat} {v : Value} {n : Nat} {cs : List Value} (h : View G sz v n cs) {i : Nat} (hi : i < n) :
    ∃ b o cap, ∃ cc : List Value, ∃ T f, v = .slice (some ⟨b, o, none⟩) n cap ∧ Blk G b (.cells cc.toArray T f) ∧ Reads cc (o + i * sz) ((cs.drop (i * sz)).take sz) := by
  obtain ⟨h1, a, c, h2, h3, h4⟩ := h
  rcases h4 with h4 | ⟨b, o, cc, T, f, rfl, hm, hr⟩
  · omega
  · exact ⟨b, o, c, cc, T, f, h2, ⟨hm⟩, hr.sub⟩
theorem View.open {G : Hp} {sz : Nat} {v : Value} {n : Nat} {cs : List Value} (h : View G sz v n cs) (hn : 0 < n) :
    ∃ b o cap, ∃ cc : List Value, ∃ T f, v = .slice (some ⟨b, o, none⟩) n cap ∧ Blk G b (.cells cc.toArray T f) ∧ Reads cc o cs := by
  obtain ⟨h1, a, c, h2, h3, h4⟩ := h
  rcases h4 with h4 | ⟨b, o, cc, T, f, rfl, hm, hr⟩
  · omega
  · exact ⟨b, o, c, cc, T, f, h2, ⟨hm⟩, hr⟩
theorem View.slice {G : Hp} {sz : Nat} {a : Option Addr} {n c : Nat} {cs : List Value} (h : View G sz (.slice a n c) n cs) {i j : Nat} (h1 : i ≤ j) (h2 : j ≤ n) :
    View G sz (.slice (if c = i then a else a.map (·.add (i * sz))) (j - i) (c - i)) (j - i) ((cs.drop (i * sz)).take ((j - i) * sz)) := by
  obtain ⟨hl, a', c', e, h3, h4⟩ := h
  cases e
  refine ⟨?_, _, _, rfl, by omega, ?_⟩
  · rw [List.length_take, List.length_drop, hl, ← Nat.sub_mul]
    exact Nat.min_eq_left (Nat.mul_le_mul_right _ (by omega))
  · by_cases hz : j - i = 0
    · exact .inl hz
    · right
      rcases h4 with h4 | ⟨b, o, cc, T, f, rfl, hm, hr⟩
      · omega
      · refine ⟨b, o + i * sz, cc, T, f, ?_, hm, hr.sub⟩
        rw [if_neg (by omega)]
        unfold Addr.add
        by_cases hi : i * sz = 0
        · simp [hi]
        · simp [hi]
theorem run_append_none {P : Program} (w : World) (t ty e : TypeId) (sz : Nat) [ht : TyD P t (.slice e)] [hk : TyS P e sz] (base : Option Addr) (m cap : Nat) (hm : m ≤ cap) (a : Option Addr) (c : Nat) :
    (Builtin.append_ #[t, t] ty #[.slice base m cap, .slice a 0 c]).run P w = .ok (.slice base m cap) w := by
  cases base <;> cases a <;> simp [Builtin.append_, TyD.run, TyS.run, Builtin.lenOf, hm, Builtin.firstCells, loadCells, loadCellsFrom, storeCells]
theorem run_append_make {P : Program} (w : World) (t u ty e : TypeId) (i : TypeInfo) (z : Value) (ht : P.underlying t = some (.slice e)) (hu : P.underlying u = some (.int .i64)) (hi : P.info? e = some i) (hz : i.zero = some z)
    (n : Nat) (h0 : 0 < n) (h63 : (n : Int) ≤ 9223372036854775807) (h48 : n * i.bytes ≤ 281474976710656) (hs0 : 0 < i.size) :
    (Builtin.append_ #[t, u] ty #[.slice none 0 0, .int .i64 n]).run P w =
      .ok (.slice (some ⟨w.heap.size, 0, none⟩) n (grownCap w n 0 e)) (w.drew.alloc (.cells (Builtin.zeroCells z.cells n ++ Builtin.zeroCells z.cells (grownCap w n 0 e - n)) e)) := by
  have hn : n ≠ 0 := by omega
  have h63' : ¬ (9223372036854775807 < (n : Int)) := by omega
  have h48' : ¬ (281474976710656 < Builtin.nextslicecap n 0 * i.bytes) := by rw [nextslicecap_zero h0]; omega
  have hw : IntKind.i64.wrap (n : Int) = n := w64 (by omega) (by omega)
  have h48'' : ¬ ((281474976710656 : Int) < (n : Int) * (i.bytes : Int)) := by
    have : ((n * i.bytes : Nat) : Int) ≤ 281474976710656 := by omega
    rw [Int.natCast_mul] at this; omega
  have hneg : ¬ ((n : Int) < 0) := by omega
  have hs0' : i.size ≠ 0 := by omega
  have hn2 : n * i.size ≠ 0 := Nat.mul_ne_zero hn hs0'
  simp [Builtin.append_, run_underlying ht, run_underlying hu, sizeOf, typeInfo, zeroValue, hi, hz, Builtin.lenOf, asInt, asIntOf, hw, hneg, h48'', hn, h63', h48', hs0', hn2, Question.forced, run_firstCells_none, newRow, grownCap]
section app
variable {P : Program} {W : World} {n : Nat} {D : List Deferred} {E : Env} {L : Hp} {ty : TypeId} {pos : String} {aft : Array Edge} {g : Option (Nat × Bool)} {T : TypeId} {x y z : Operand} {v u : Value}
theorem Slc.cap {T : TypeId} {sz : Nat} {v : Value} {n : Nat} {cs : List Value} {H : Hp} (h : Slc T sz v n cs H) : ∃ a c, v = .slice a n c ∧ n ≤ c := by
 rcases h.2 with ⟨rfl, rfl, _⟩ | ⟨b, pre, spare, cap, rfl, hc, _⟩
 ·
  exact ⟨none, 0, rfl, Nat.le_refl _⟩
 ·
  exact ⟨_, cap, rfl, hc⟩
theorem ef_appendV {d : Nat} {t e sz bytes : Nat} {zv : Value} {m k : Nat} {cs xs : List Value} {H R : Hp} (hx : ev E x = some v) (hs' : Slc e sz v m cs H) (hy : ev E y = some u) (hv : View L sz u k xs)
    (h1 : xs.all Value.oneCell' = true) (hbd : (m + k) * bytes ≤ 140737488355328) (hmk : m + k ≤ 9223372036854775807) (hd : Nat.blt d n = true)
    [ht : TyD P t (.slice e)] [hsz : TyS P e sz] [hby : TyB P e bytes] [hz : TyZ P e zv] (hzs : zv.cells.size = sz) [hp : Part L H R] :
    Ef P W n D ⟨some d, .call { callee := .builtin .append, args := #[x, y], argTypes := #[t, t] }, ty, pos, aft, g⟩ E L
      (fun E' L' => ∃ v' H', Slc e sz v' (m + k) (cs ++ xs) H' ∧ E' = (d, v') :: E ∧ L' = H' ++ R) := by
  obtain ⟨hl, a, c, rfl, hkc, h4⟩ := hv
  rcases h4 with rfl | ⟨b, o, cc, T, f, rfl, hm, hr⟩
  · obtain rfl : xs = [] := List.eq_nil_of_length_eq_zero (by omega)
    unfold Ef
    intro Q A w next hs ho hn
    obtain ⟨base, cap, rfl, hmc⟩ := hs'.cap
    have hr := run_append_none (P := P) w t ty e sz base m cap hmc a c
    unfold Oper.wp
    rw [BigFrame.execOp_builtin]
    simp only [BigFrame.builtin_append, List.map_toArray, List.map_cons, List.map_nil, hs.ev hx, hs.ev hy, Sem.run_bind, hr, Result.andThen_ok, Sem.run_pure]
    exact hn _ _ _ _ ⟨.slice base m cap, H, by simpa using hs', rfl, rfl⟩ (hs.put hd) (ho.part hp)
  · by_cases hk : k = 0
    · subst hk
      obtain rfl : xs = [] := List.eq_nil_of_length_eq_zero (by omega)
      unfold Ef
      intro Q A w next hs ho hn
      obtain ⟨base, cap, rfl, hmc⟩ := hs'.cap
      have hr := run_append_none (P := P) w t ty e sz base m cap hmc (some ⟨b, o, none⟩) c
      unfold Oper.wp
      rw [BigFrame.execOp_builtin]
      simp only [BigFrame.builtin_append, List.map_toArray, List.map_cons, List.map_nil, hs.ev hx, hs.ev hy, Sem.run_bind, hr, Result.andThen_ok, Sem.run_pure]
      exact hn _ _ _ _ ⟨.slice base m cap, H, by simpa using hs', rfl, rfl⟩ (hs.put hd) (ho.part hp)
    · have hb : Blk L b (.cells cc.toArray T f) := ⟨hm⟩
      exact ef_append hx hs' hy hr hl h1 (Nat.ble_eq_true_of_le (by omega)) hbd hmk hd hzs
theorem ef_appendZ {d : Nat} {t tu e sz bytes : Nat} {zv : Value} {k : Nat} (hx : ev E x = some (.slice none 0 0)) (hy : ev E y = some (.int .i64 (k : Int))) (hk0 : 0 < k) (hbd : k * bytes ≤ 140737488355328) (hmk : k ≤ 9223372036854775807) (hd : Nat.blt d n = true)
    [ht : TyD P t (.slice e)] [hu : TyD P tu (.int .i64)] [hsz : TyS P e sz] [hby : TyB P e bytes] [hz : TyZ P e zv] (hzs : zv.cells.size = sz) (hs0 : 0 < sz) :
    Ef P W n D ⟨some d, .call { callee := .builtin .append, args := #[x, y], argTypes := #[t, tu] }, ty, pos, aft, g⟩ E L
      (fun E' L' => ∃ b c cs, cs.length = c * sz ∧ k ≤ c ∧ E' = (d, .slice (some ⟨b, 0, none⟩) k c) :: E ∧ L' = (b, .cells (cs : List Value).toArray e) :: L) := by
  unfold Ef
  intro Q A w next hs ho hn
  obtain ⟨i, hi, hzi⟩ := Option.bind_eq_some_iff.1 hz.eq
  have hisz : i.size = sz := by have := hsz.eq; rw [hi] at this; simpa using this
  have hiby : i.bytes = bytes := by have := hby.eq; rw [hi] at this; simpa using this
  have hr := run_append_make (P := P) w t tu ty e i zv ht.eq hu.eq hi hzi k hk0 (by omega) (by rw [hiby]; omega) (by omega)
  unfold Oper.wp
  rw [BigFrame.execOp_builtin]
  simp only [BigFrame.builtin_append, List.map_toArray, List.map_cons, List.map_nil, hs.ev hx, hs.ev hy, Sem.run_bind, hr, Result.andThen_ok, Sem.run_pure]
  have hg := grownCap_ge w k 0 e
  refine hn _ _ _ _ ⟨w.heap.size, grownCap w k 0 e, (Builtin.zeroCells zv.cells k ++ Builtin.zeroCells zv.cells (grownCap w k 0 e - k)).toList, ?_, hg, rfl, rfl⟩ (hs.put hd) ?_
  · rw [Array.toList_append, List.length_append, zeroCells_len, zeroCells_len, hzs, ← Nat.add_mul]
    congr 1; omega
  · have := (ho.drew).alloc (.cells (Builtin.zeroCells zv.cells k ++ Builtin.zeroCells zv.cells (grownCap w k 0 e - k)) e)
    rw [Array.toArray_toList]; exact this
end app
section turns
variable {P : Program} {W : World} {n : Nat} {D : List Deferred} {E : Env} {L : Hp} {ty : TypeId} {pos : String} {aft : Array Edge} {g : Option (Nat × Bool)} {T : TypeId} {x y z : Operand} {v u : Value}
theorem ef_pv {d : Nat} {op : Op} (h : Pv P n D E L ⟨some d, op, ty, pos, aft, g⟩ v) (hd : Nat.blt d n = true) : Ef P W n D ⟨some d, op, ty, pos, aft, g⟩ E L (fun E' L' => E' = (d, v) :: E ∧ L' = L) := by
 unfold Pv at h
 unfold Ef
 intro Q a w next hs ho hn
 unfold Oper.wp
 rw [h a w hs ho.held]
 exact hn _ _ _ _ ⟨rfl, rfl⟩ (hs.put hd) ho
theorem ef_buildSlice2 {d : Nat} {e : Nat} {zv : Value} [ht : TyD P T (.slice e)] [hk : TyS P e 1] [hz : TyZ P e zv] (hzs : zv.cells.size = 1) (hx : ev E x = some v) (hy : ev E y = some u) (hv : v.cells = #[v]) (hu : u.cells = #[u]) (hd : Nat.blt d n = true) :
    Ef P W n D ⟨some d, .buildSlice T 2 #[(0, x), (1, y)], ty, pos, aft, g⟩ E L (fun E' L' => ∃ b, E' = (d, .slice (some ⟨b, 0, none⟩) 2 2) :: E ∧ L' = (b, .cells ([v, u] : List Value).toArray e) :: L) := by
  unfold Ef
  intro Q a w next hs ho hn
  unfold Oper.wp
  have : (execOp a.eval ⟨some d, .buildSlice T 2 #[(0, x), (1, y)], ty, pos, aft, g⟩).run P w = .ok (.value (.slice (some ⟨w.heap.size, 0, none⟩) 2 2)) (w.alloc (.cells ([v, u] : List Value).toArray e)) := by
    have hfo : Instr.fill (fun i => some (i * 1, 1)) ((Array.range (2 * 1)).map (fun i => zv.cells[i % zv.cells.size]!)) [(0, v), (1, u)] = some #[v, u] := by
      obtain ⟨p, q, hpq⟩ : ∃ p q, (Array.range (2 * 1)).map (fun i => zv.cells[i % zv.cells.size]!) = #[p, q] := ⟨zv.cells[0 % zv.cells.size]!, zv.cells[1 % zv.cells.size]!, by apply Array.ext'; simp [Array.range]⟩
      rw [hpq]
      simp [Instr.fill, hv, hu]
    have hb : ¬ (2 * 1 > 2 ^ 24) := by omega
    have hb0 : ¬ (2 * 1 = 0) := by omega
    simp only [execOp, Instr.buildSlice, Sem.run_bind, TyD.run, TyS.run, Result.andThen_ok, Sem.run_ite, if_neg hb, if_neg hb0, TyZ.run, Sem.run_pure, List.map_toArray, List.map_cons, List.map_nil, hs.ev hx, hs.ev hy, hfo, newRow, run_newObj]
    rfl
  rw [this]
  exact hn _ _ _ _ ⟨_, rfl, rfl⟩ (hs.put hd) (ho.alloc _)
end turns
theorem Slc.tail {T : TypeId} {a : Option Addr} {n c : Nat} {x : Value} {cs : List Value} {H : Hp} (h : Slc T 1 (.slice a (n + 1) c) (n + 1) (x :: cs) H) :
    Slc T 1 (.slice (if c = 1 then a else a.map (·.add (1 * 1))) n (c - 1)) n cs H := by
  obtain ⟨hl, ⟨e, _, _⟩ | ⟨b, pre, spare, cap, e, hc, hsp, rfl⟩⟩ := h
  · cases e
  · cases e
    have hl' : cs.length = n * 1 := by simp at hl; omega
    refine ⟨hl', .inr ?_⟩
    by_cases h1 : c = 1
    · subst h1
      obtain rfl : n = 0 := by omega
      obtain rfl : cs = [] := List.eq_nil_of_length_eq_zero (by omega)
      exact ⟨b, pre, x :: spare, 0, rfl, Nat.le_refl _, by simp, by simp⟩
    · refine ⟨b, pre ++ [x], spare, c - 1, ?_, by omega, by rw [show c - 1 - n = c - (n + 1) by omega]; exact hsp, by simp⟩
      rw [if_neg h1]
      simp [Addr.add]
theorem Slc.one {T : TypeId} {sz : Nat} {v : Value} {n : Nat} {cs : List Value} {H : Hp} (h : Slc T sz v n cs H) : v.oneCell' = true := by
 obtain ⟨a, c, rfl⟩ := h.form; rfl
theorem Slc.cells1 {T : TypeId} {sz : Nat} {v : Value} {n : Nat} {cs : List Value} {H : Hp} (h : Slc T sz v n cs H) : v.cells = #[v] := by
 obtain ⟨a, c, rfl⟩ := h.form; rfl
instance (priority := 700) SegIn.appL {S T L : Hp} [h : SegIn T S] : SegIn (T ++ L) S := ⟨fun p hp => List.mem_append_left _ (h.sub p hp)⟩
theorem Pv.is {P : Program} {n : Nat} {D : List Deferred} {E : Env} {L : Hp} {o : Oper} {v u : Value} (h : Pv P n D E L o v) (e : v = u) : Pv P n D E L o u := e ▸ h
end Go.SL
end
