/- BootBytes. Laid together by pack.py out of the texts in wip. -/
import Derived.Test.YtkldjadpoknejaaRows
import Derived.WalkKit
import Derived.OrdersHeld
import Derived.Laws.StructEq
import Derived.Laws.Pointers
import Derived.KernelRfl
import Derived.Below
import Derived.Deep.Slices
import Derived.ChangeOld
import Derived.ChangeSame
import Derived.Carry
import Derived.ChangeKeysEq
import Derived.Laws.Cover3
import Derived.Lib.UnsafeStr
import Derived.Lib.Builder
import Derived.Laws.Concat
import Derived.Laws.BytesString
import Derived.Laws.Externs
import Derived.Recover
import Derived.ChangeMaps5
import Derived.ProofKit
import Derived.OpenShut
set_option linter.unusedVariables false
set_option linter.unusedSimpArgs false
set_option linter.unusedSectionVars false
section
set_option linter.unusedVariables false
set_option linter.unusedSimpArgs false
namespace Go.SL
abbrev Env := List (Nat × Value)
abbrev Hp := List (Nat × Obj)
def look (t : Nat) : Env → Option Value
  | [] => none
  | (k, v) :: E => match Nat.beq k t with
    | true => some v
    | false => look t E
structure Sees (n : Nat) (D : List Deferred) (E : Env) (a : Act) : Prop where
  size : a.tmps.size = n
  dfs : a.defers = D
  get : ∀ t v, look t E = some v → a.tmps[t]? = some v
def ev (E : Env) : Operand → Option Value
  | .tmp t => look t E
  | .const v => some v
  | .global g => some (.pointer (some ⟨g, 0, none⟩))
  | .func f => some (.func (.func f) #[] #[])
def evs (E : Env) : List Operand → Option (List Value)
  | [] => some []
  | x :: xs => match ev E x with
    | none => none
    | some v => match evs E xs with
      | none => none
      | some vs => some (v :: vs)
structure Own (W w : World) (L : Hp) : Prop where
  os : w.os = W.os
  tape : w.tape = W.tape
  out : w.output = W.output
  nd : (L.map Prod.fst).Nodup
  get : ∀ p, p ∈ L → w.heap[p.1]? = some p.2
def Held (L : Hp) (w : World) : Prop := ∀ p, p ∈ L → w.heap[p.1]? = some p.2
theorem Own.held {W w : World} {L : Hp} (h : Own W w L) : Held L w := h.get
section sees
variable {n : Nat} {D : List Deferred} {E : Env} {a : Act}
theorem Sees.ev (h : Sees n D E a) {x : Operand} {v : Value} (hx : SL.ev E x = some v) : a.eval x = v := by
 cases x with
 | tmp t => have := h.get t v hx; simp [Act.eval, this]
 | const c => simpa [SL.ev, Act.eval] using hx
 | global g => simpa [SL.ev, Act.eval] using hx
 | func f => simpa [SL.ev, Act.eval] using hx
theorem Sees.evs (h : Sees n D E a) : ∀ {xs : List Operand} {vs : List Value}, SL.evs E xs = some vs → xs.map a.eval = vs
  | [], vs, hx => by simpa [SL.evs] using hx
  | x :: xs, vs, hx => by
    simp only [SL.evs] at hx
    split at hx
    · cases hx
    · rename_i v hv
      split at hx
      · cases hx
      · rename_i us hus
        cases hx
        simp [h.ev hv, h.evs hus]
theorem Sees.put (h : Sees n D E a) {d : Nat} {v : Value} (hd : Nat.blt d n = true) : Sees n D ((d, v) :: E) (a.put (some d) v) := by
 have hlt : d < n := by simpa [Nat.blt_eq] using hd
 refine ⟨by simp [Act.put, h.size], by simp [Act.put, h.dfs], fun t u hu => ?_⟩
 simp only [look] at hu
 split at hu
 ·
  rename_i hb
  have : d = t := Nat.eq_of_beq_eq_true hb
  subst this
  cases hu
  simp [Act.put, h.size, hlt]
 ·
  rename_i hb
  have : d ≠ t := fun e => by subst e; simp at hb
  simp only [Act.put]
  rw [Array.getElem?_setIfInBounds_ne this]
  exact h.get t u hu
def SubE : Env → Env → Prop
  | [], _ => True
  | (t, v) :: E', E => look t E = some v ∧ SubE E' E
theorem look_of_subE : ∀ {E' E : Env}, SubE E' E → ∀ t v, look t E' = some v → look t E = some v
  | [], _, _, t, v, h => by cases h
  | (k, u) :: E', E, hs, t, v, h => by
    simp only [look] at h
    split at h
    · rename_i hb
      cases h
      rw [← Nat.eq_of_beq_eq_true hb]
      exact hs.1
    · exact look_of_subE hs.2 t v h
theorem Sees.sub {E' : Env} (h : Sees n D E a) (hs : SubE E' E) : Sees n D E' a := ⟨h.size, h.dfs, fun t v hv => h.get t v (look_of_subE hs t v hv)⟩
end sees
section own
variable {W w : World} {L : Hp}
theorem Own.lt (h : Own W w L) {b : Nat} {o : Obj} (hm : (b, o) ∈ L) : b < w.heap.size := by
 have := h.get _ hm
 rcases Nat.lt_or_ge b w.heap.size with h' | h'
 ·
  exact h'
 ·
  simp [Array.getElem?_eq_none h'] at this
theorem Own.drew (h : Own W w L) : Own W w.drew L := ⟨h.os, h.tape, h.out, h.nd, h.get⟩
theorem Own.drawn (h : Own W w L) (n : Nat) : Own W { w with drawn := n } L := ⟨h.os, h.tape, h.out, h.nd, h.get⟩
theorem Own.alloc (h : Own W w L) (o : Obj) : Own W (w.alloc o) ((w.heap.size, o) :: L) := by
 refine ⟨h.os, h.tape, h.out, ?_, ?_⟩
 ·
  simp only [List.map_cons, List.nodup_cons]
  refine ⟨fun hm => ?_, h.nd⟩
  obtain ⟨⟨b, o'⟩, hm, rfl⟩ := List.mem_map.1 hm
  exact Nat.lt_irrefl _ (h.lt hm)
 ·
  intro p hp
  rcases List.mem_cons.1 hp with rfl | hp
  ·
   simp [World.alloc, -World.alloc_eq]
  ·
   have hlt := h.lt (b := p.1) (o := p.2) hp
   simp only [World.alloc, Array.getElem?_push]
   rw [if_neg (Nat.ne_of_lt hlt)]
   exact h.get p hp
theorem Own.perm {L' : Hp} (h : Own W w L) (hp : L.Perm L') : Own W w L' :=
  ⟨h.os, h.tape, h.out, (hp.map Prod.fst).nodup_iff.1 h.nd, fun p hm => h.get p (hp.mem_iff.2 hm)⟩
theorem Own.sublist {L' : Hp} (h : Own W w L) (hp : L'.Sublist L) : Own W w L' :=
  ⟨h.os, h.tape, h.out, h.nd.sublist (hp.map Prod.fst), fun p hm => h.get p (hp.subset hm)⟩
theorem Own.app_left {A B : Hp} (h : Own W w (A ++ B)) : Own W w A := h.sublist (List.sublist_append_left A B)
theorem Own.app_right {A B : Hp} (h : Own W w (A ++ B)) : Own W w B := h.sublist (List.sublist_append_right A B)
theorem Own.set {A B : Hp} {b : Nat} {o o' : Obj} {w' : World} (h : Own W w (A ++ (b, o) :: B))
    (hos : w'.os = w.os) (ht : w'.tape = w.tape) (hout : w'.output = w.output)
    (hb : w'.heap[b]? = some o') (hne : ∀ k, k ≠ b → w'.heap[k]? = w.heap[k]?) : Own W w' (A ++ (b, o') :: B) := by
  refine ⟨hos.trans h.os, ht.trans h.tape, hout.trans h.out, by simpa using h.nd, fun p hp => ?_⟩
  have hnd := h.nd
  simp only [List.map_append, List.map_cons, List.nodup_append, List.nodup_cons] at hnd
  rcases List.mem_append.1 hp with hp | hp
  · have hneq : p.1 ≠ b := fun e => hnd.2.2 _ (List.mem_map.2 ⟨p, hp, rfl⟩) _ (List.mem_cons_self ..) e
    rw [hne _ hneq]
    exact h.get p (List.mem_append_left _ hp)
  · rcases List.mem_cons.1 hp with rfl | hp
    · exact hb
    · have hneq : p.1 ≠ b := fun e => hnd.2.1.1 (e ▸ List.mem_map.2 ⟨p, hp, rfl⟩)
      rw [hne _ hneq]
      exact h.get p (List.mem_append_right _ (List.mem_cons_of_mem _ hp))
end own
class Blk (L : Hp) (b : Nat) (o : outParam Obj) : Prop where
  mem : (b, o) ∈ L
instance (priority := 1100) Blk.here {b : Nat} {o : Obj} {L : Hp} : Blk ((b, o) :: L) b o := ⟨List.mem_cons_self ..⟩
instance (priority := 1000) Blk.there {b : Nat} {o : Obj} {x : Nat × Obj} {L : Hp} [h : Blk L b o] : Blk (x :: L) b o := ⟨List.mem_cons_of_mem _ h.mem⟩
instance (priority := 900) Blk.right {b : Nat} {o : Obj} {S L : Hp} [h : Blk L b o] : Blk (S ++ L) b o := ⟨List.mem_append_right _ h.mem⟩
instance (priority := 800) Blk.left {b : Nat} {o : Obj} {S L : Hp} [h : Blk S b o] : Blk (S ++ L) b o := ⟨List.mem_append_left _ h.mem⟩
class Upd (L : Hp) (b : Nat) (o' : Obj) (L' : outParam Hp) : Prop where
  eq : ∃ A B o, L = A ++ (b, o) :: B ∧ L' = A ++ (b, o') :: B
instance (priority := 1100) Upd.here {b : Nat} {o o' : Obj} {L : Hp} : Upd ((b, o) :: L) b o' ((b, o') :: L) := ⟨[], L, o, rfl, rfl⟩
instance (priority := 1000) Upd.there {b : Nat} {o' : Obj} {x : Nat × Obj} {L L' : Hp} [h : Upd L b o' L'] : Upd (x :: L) b o' (x :: L') :=
  ⟨by obtain ⟨A, B, o, h1, h2⟩ := h.eq; exact ⟨x :: A, B, o, by rw [h1]; rfl, by rw [h2]; rfl⟩⟩
instance (priority := 900) Upd.right {b : Nat} {o' : Obj} {S L L' : Hp} [h : Upd L b o' L'] : Upd (S ++ L) b o' (S ++ L') :=
  ⟨by obtain ⟨A, B, o, h1, h2⟩ := h.eq; exact ⟨S ++ A, B, o, by rw [h1, List.append_assoc], by rw [h2, List.append_assoc]⟩⟩
instance (priority := 800) Upd.left {b : Nat} {o' : Obj} {S S' L : Hp} [h : Upd S b o' S'] : Upd (S ++ L) b o' (S' ++ L) :=
  ⟨by obtain ⟨A, B, o, h1, h2⟩ := h.eq; exact ⟨A, B ++ L, o, by rw [h1]; simp, by rw [h2]; simp⟩⟩
class Take (L : Hp) (b : Nat) (o : outParam Obj) (R : outParam Hp) : Prop where
  perm : L.Perm ((b, o) :: R)
instance (priority := 1100) Take.here {b : Nat} {o : Obj} {L : Hp} : Take ((b, o) :: L) b o L := ⟨List.Perm.refl _⟩
instance (priority := 1000) Take.there {b : Nat} {o : Obj} {x : Nat × Obj} {L R : Hp} [h : Take L b o R] : Take (x :: L) b o (x :: R) :=
  ⟨(h.perm.cons x).trans (List.Perm.swap _ _ _)⟩
instance (priority := 900) Take.right {b : Nat} {o : Obj} {S L R : Hp} [h : Take L b o R] : Take (S ++ L) b o (S ++ R) :=
  ⟨(List.Perm.append_left S h.perm).trans List.perm_middle⟩
class TakeS (L S : Hp) (R : outParam Hp) : Prop where
  perm : L.Perm (S ++ R)
instance (priority := 1200) TakeS.all {S : Hp} : TakeS S S [] := ⟨by simp⟩
instance (priority := 1100) TakeS.head {S R : Hp} : TakeS (S ++ R) S R := ⟨List.Perm.refl _⟩
instance (priority := 1000) TakeS.skip {x : Nat × Obj} {L S R : Hp} [h : TakeS L S R] : TakeS (x :: L) S (x :: R) :=
  ⟨(h.perm.cons x).trans (List.perm_middle.symm)⟩
instance (priority := 900) TakeS.skipApp {T L S R : Hp} [h : TakeS L S R] : TakeS (T ++ L) S (T ++ R) :=
  ⟨(List.Perm.append_left T h.perm).trans (by
    rw [← List.append_assoc, ← List.append_assoc]
    exact List.Perm.append_right R List.perm_append_comm)⟩
class Part (L S : Hp) (R : outParam Hp) : Prop where
  perm : L.Perm (S ++ R)
instance (priority := 2000) Part.nil {L : Hp} : Part L [] L := ⟨List.Perm.refl _⟩
instance (priority := 1300) Part.cons {b : Nat} {o : Obj} {L L1 S R : Hp} [h : Take L b o L1] [k : Part L1 S R] : Part L ((b, o) :: S) R :=
  ⟨h.perm.trans (k.perm.cons _)⟩
instance (priority := 1200) Part.app {L S T R R' : Hp} [h : TakeS L S R] [k : Part R T R'] : Part L (S ++ T) R' :=
  ⟨h.perm.trans ((List.Perm.append_left S k.perm).trans (by simp))⟩
instance (priority := 1100) Part.one {L S R : Hp} [h : TakeS L S R] : Part L S R := ⟨h.perm⟩
theorem Own.part {W w : World} {L S R : Hp} (h : Own W w L) (p : Part L S R) : Own W w (S ++ R) := h.perm p.perm
class Drop (L M : Hp) : Prop where
  own : ∀ {W w : World}, Own W w L → Own W w M
instance (priority := 1000) Drop.refl {L : Hp} : Drop L L := ⟨id⟩
instance (priority := 100) Drop.mk' {L M R : Hp} [h : Part L M R] : Drop L M := ⟨fun o => (o.part h).app_left⟩
section judge
def Ops (P : Program) (W : World) (ops : Array Oper) (Q : Exit → Act → World → Prop) (n : Nat) (D : List Deferred) (rest : List Oper) (E : Env) (L : Hp) : Prop :=
  ∀ a w, Sees n D E a → Own W w L → wpList P ops Q rest a w
def Wp (P : Program) (W : World) (Q : Exit → Act → World → Prop) (n : Nat) (D : List Deferred) (c : Code) (E : Env) (L : Hp) : Prop :=
  ∀ a w, Sees n D E a → Own W w L → c.wp P Q a w
def Ends (W : World) (Q : Exit → Act → World → Prop) (n : Nat) (D : List Deferred) (e : Exit) (E : Env) (L : Hp) : Prop :=
  ∀ a w, Sees n D E a → Own W w L → Q e a w
def Goes (W : World) (K : Act → World → Prop) (n : Nat) (D : List Deferred) (E : Env) (L : Hp) : Prop :=
  ∀ a w, Sees n D E a → Own W w L → K a w
variable {P : Program} {W : World} {ops : Array Oper} {Q : Exit → Act → World → Prop} {n : Nat} {D : List Deferred} {E E' : Env} {L L' : Hp} {rest : List Oper}
theorem Wp.seq {x y : Code} (h : Wp P W (Exit.then (y.wp P Q) Q) n D x E L) : Wp P W Q n D (.seq x y) E L := fun a w hs ho => wp_seq (h a w hs ho)
theorem Ends.seq {y : Code} (h : Wp P W Q n D y E L) : Ends W (Exit.then (y.wp P Q) Q) n D .normal E L := h
theorem Ends.goes {K : Act → World → Prop} (h : Goes W K n D E L) : Ends W (Exit.then K Q) n D .normal E L := h
theorem Ends.then_exit {K : Act → World → Prop} {i : Nat} (h : Ends W Q n D (.exit i) E L) : Ends W (Exit.then K Q) n D (.exit i) E L := h
theorem Ends.then_ret {K : Act → World → Prop} (h : Ends W Q n D .ret E L) : Ends W (Exit.then K Q) n D .ret E L := h
theorem Ends.block_normal {id : Nat} (h : Ends W Q n D .normal E L) : Ends W (Exit.inBlock id Q) n D .normal E L := h
theorem Ends.block_hit {id : Nat} (h : Ends W Q n D .normal E L) : Ends W (Exit.inBlock id Q) n D (.exit id) E L := fun a w hs ho => by
 simp only [Exit.inBlock, if_true]; exact h a w hs ho
theorem Wp.block {id : Nat} {c : Code} (h : Wp P W (Exit.inBlock id Q) n D c E L) : Wp P W Q n D (.block id c) E L := fun a w hs ho => wp_block (h a w hs ho)
theorem Wp.exit {id : Nat} (h : Ends W Q n D (.exit id) E L) : Wp P W Q n D (.exit id) E L := fun a w hs ho => wp_exit (h a w hs ho)
theorem Wp.ret (h : Ends W Q n D .ret E L) : Wp P W Q n D .ret E L := fun a w hs ho => wp_ret (h a w hs ho)
theorem Wp.skip (h : Ends W Q n D .normal E L) : Wp P W Q n D .skip E L := fun a w hs ho => wp_skip (h a w hs ho)
theorem Wp.region {id : Nat} {l : List Oper} (h : Ops P W l.toArray Q n D l E L) : Wp P W Q n D (.region id l.toArray false) E L :=
  fun a w hs ho => wp_region_lit (h a w hs ho)
theorem Ops.nil (h : Ends W Q n D .normal E L) : Ops P W ops Q n D [] E L := fun a w hs ho => wpList_nil (h a w hs ho)
theorem Wp.cond {c : Operand} {x y : Code} {b : Bool} (hc : ev E c = some (.bool b)) (ht : b = true → Wp P W Q n D x E L) (hf : b = false → Wp P W Q n D y E L) :
    Wp P W Q n D (.cond c x y) E L := fun a w hs ho => wp_cond_split (hs.ev hc) (fun h => ht h a w hs ho) (fun h => hf h a w hs ho)
theorem Wp.cond_true {c : Operand} {x y : Code} (hc : ev E c = some (.bool true)) (h : Wp P W Q n D x E L) : Wp P W Q n D (.cond c x y) E L := .cond hc (fun _ => h) (fun e => by cases e)
theorem Wp.cond_false {c : Operand} {x y : Code} (hc : ev E c = some (.bool false)) (h : Wp P W Q n D y E L) : Wp P W Q n D (.cond c x y) E L := .cond hc (fun e => by cases e) (fun _ => h)
theorem Wp.less {c : Code} {E' : Env} {L' : Hp} (hE : SubE E' E) [hL : Drop L L'] (h : Wp P W Q n D c E' L') : Wp P W Q n D c E L := fun a w hs ho => h a w (hs.sub hE) (hL.own ho)
theorem Goes.less {K : Act → World → Prop} {E' : Env} {L' : Hp} (hE : SubE E' E) [hL : Drop L L'] (h : Goes W K n D E' L') : Goes W K n D E L := fun a w hs ho => h a w (hs.sub hE) (hL.own ho)
theorem Ends.less {e : Exit} {E' : Env} {L' : Hp} (hE : SubE E' E) [hL : Drop L L'] (h : Ends W Q n D e E' L') : Ends W Q n D e E L := fun a w hs ho => h a w (hs.sub hE) (hL.own ho)
theorem Ops.heap {L' : Hp} (hL : ∀ w, Own W w L → Own W w L') (h : Ops P W ops Q n D rest E L') : Ops P W ops Q n D rest E L := fun a w hs ho => h a w hs (hL w ho)
theorem Wp.heap {c : Code} {L' : Hp} (hL : ∀ w, Own W w L → Own W w L') (h : Wp P W Q n D c E L') : Wp P W Q n D c E L := fun a w hs ho => h a w hs (hL w ho)
theorem Ends.heap {e : Exit} {L' : Hp} (hL : ∀ w, Own W w L → Own W w L') (h : Ends W Q n D e E L') : Ends W Q n D e E L := fun a w hs ho => h a w hs (hL w ho)
end judge
theorem wp_loop_by {σ : Type} {P : Program} {Q : Exit → Act → World → Prop} {c : Code} (I : σ → Act → World → Prop) (μ : σ → Nat)
    (round : ∀ x a w, I x a w → c.wp P (Exit.then (fun a' w' => ∃ y, I y a' w' ∧ μ y < μ x) Q) a w) :
    ∀ x a w, I x a w → (Code.loop c).wp P Q a w := by
  intro x a w hI b k cs
  have key : ∀ m x a w, μ x = m → I x a w →
      ∃ e a' w', Q e a' w' ∧ Arrives P (lone (b.at a (.code c :: .inLoop c :: k)) cs w) b k cs e a' w' := by
    intro m
    induction m using Nat.strongRecOn with
    | _ m ih =>
      intro x a w hm hI
      obtain ⟨e, a₁, w₁, hq, harr⟩ := round x a w hI b (.inLoop c :: k) cs
      cases e with
      | normal =>
        obtain ⟨y, hI₁, hlt⟩ := hq
        obtain ⟨e₂, a₂, w₂, hq₂, harr₂⟩ := ih (μ y) (hm ▸ hlt) y a₁ w₁ rfl hI₁
        exact ⟨e₂, a₂, w₂, hq₂, .of_steps (Steps.trans harr (.one step_inLoop)) harr₂⟩
      | exit id => exact ⟨_, a₁, w₁, hq, .pass (x := .inLoop c) rfl (fun _ _ => .inl (by simp)) harr⟩
      | goto l => exact ⟨_, a₁, w₁, hq, .pass (x := .inLoop c) rfl (fun _ _ => .inl (by simp)) harr⟩
      | ret => exact ⟨_, a₁, w₁, hq, .pass (x := .inLoop c) rfl (fun _ _ => .inl (by simp)) harr⟩
      | panic ch => exact ⟨_, a₁, w₁, hq, .pass (x := .inLoop c) rfl (fun _ _ => .inl (by simp)) harr⟩
      | outgrown => exact ⟨_, a₁, w₁, hq, .pass (x := .inLoop c) rfl (fun _ _ => .inl (by simp)) harr⟩
  obtain ⟨e, a', w', hq, harr⟩ := key _ x a w rfl hI
  exact ⟨e, a', w', hq, .of_steps (.one step_loop) harr⟩
section loop
variable {P : Program} {W : World} {Q : Exit → Act → World → Prop} {n : Nat} {D : List Deferred} {E : Env} {L : Hp}
theorem Wp.loop {σ : Type} {c : Code} (EI : σ → Env) (LI : σ → Hp) (I : σ → Prop) (μ : σ → Nat) (x0 : σ) (hI : I x0) (hE : SubE (EI x0) E) (hL : ∀ w, Own W w L → Own W w (LI x0))
    (round : ∀ (x : σ) (K : Act → World → Prop), I x → (∀ y, I y → μ y < μ x → Goes W K n D (EI y) (LI y)) → Wp P W (Exit.then K Q) n D c (EI x) (LI x)) :
    Wp P W Q n D (.loop c) E L := fun a w hs ho =>
  wp_loop_by (fun x a w => I x ∧ Sees n D (EI x) a ∧ Own W w (LI x)) μ
    (fun x a w hI => round x _ hI.1 (fun y hy hlt a' w' hs' ho' => ⟨y, ⟨hy, hs', ho'⟩, hlt⟩) a w hI.2.1 hI.2.2) x0 a w ⟨hI, hs.sub hE, hL w ho⟩
end loop
def argsEnv : Nat → List Value → Env
  | _, [] => []
  | i, v :: vs => (i, v) :: argsEnv (i + 1) vs
theorem look_argsEnv : ∀ (vs : List Value) (i t : Nat) (v : Value), look t (argsEnv i vs) = some v → i ≤ t ∧ vs[t - i]? = some v
  | [], i, t, v, h => by cases h
  | u :: vs, i, t, v, h => by
    simp only [argsEnv, look] at h
    split at h
    · rename_i hb
      have := Nat.eq_of_beq_eq_true hb
      subst this
      cases h
      exact ⟨Nat.le_refl _, by simp⟩
    · obtain ⟨h1, h2⟩ := look_argsEnv vs (i + 1) t v h
      refine ⟨by omega, ?_⟩
      rw [show t - i = (t - (i + 1)) + 1 by omega]
      simpa using h2
theorem sees_start {n : Nat} {vs : List Value} (h : Nat.ble vs.length n = true) : Sees n [] (argsEnv 0 vs) { tmps := vs.toArray ++ Array.replicate (n - vs.toArray.size) undef, defers := [] } := by
 have h' : vs.length ≤ n := Nat.le_of_ble_eq_true h
 refine ⟨by simp; omega, rfl, fun t v hv => ?_⟩
 obtain ⟨_, h2⟩ := look_argsEnv vs 0 t v hv
 have hlt : t < vs.length := by
  rcases Nat.lt_or_ge t vs.length with h | h
  ·
   exact h
  ·
   simp [List.getElem?_eq_none h] at h2
 simp only [Nat.sub_zero] at h2
 rw [Array.getElem?_append_left (by simpa using hlt)]
 simpa using h2
def TrPost (R : Value → Hp → Prop) (W : World) (F : Hp) : Ending → World → Prop := fun e w' => ∃ v L', e = .returned v ∧ R v L' ∧ Own W w' (L' ++ F)
def Tr (P : Program) (f : FuncId) (args : List Value) (L : Hp) (R : Value → Hp → Prop) : Prop :=
  ∀ W w F, Own W w (L ++ F) → Calls P f args.toArray w (TrPost R W F)
theorem Tr.mono {P : Program} {f : FuncId} {args : List Value} {L : Hp} {R R' : Value → Hp → Prop} (h : Tr P f args L R) (hr : ∀ v L', R v L' → R' v L') : Tr P f args L R' :=
  fun W w F ho => (h W w F ho).mono fun _ _ ⟨v, L', he, hR, ho'⟩ => ⟨v, L', he, hr _ _ hR, ho'⟩
theorem Tr.enter {P : Program} {f : FuncId} {fn : Func} {c : Code} {n : Nat} {args : List Value} {L : Hp} {R : Value → Hp → Prop}
    (hf : P.funcs[f]? = some fn) (hb : fn.body = some c) (hn : fn.ntmps = n) (hle : Nat.ble args.length n = true)
    (h : ∀ W F, Wp P W (bodyPost P fn (TrPost R W F)) n [] c (argsEnv 0 args) (L ++ F)) : Tr P f args L R := fun W w F ho =>
  calls_of_wp hf hb (by
    subst hn
    exact h W F _ w (sees_start hle) ho)
def Res (P : Program) (fn : Func) (n : Nat) (D : List Deferred) (E : Env) (L : Hp) (v : Value) : Prop :=
  ∀ a w, Sees n D E a → Held L w → (results fn a.tmps).run P w = .ok v w
section res
variable {P : Program} {fn : Func} {n : Nat} {D : List Deferred} {E : Env} {L : Hp}
theorem res0 (h : fn.results = #[]) : Res P fn n D E L (.tuple #[]) := fun a w _ _ => results_none h _ P w
theorem res1 {t : Nat} {v : Value} (h : fn.results = #[.tmp t]) (hx : look t E = some v) : Res P fn n D E L v := fun a w hs _ => by
 rw [results_tmp h, Array.getD_eq_getD_getElem?, hs.get t v hx]; rfl
theorem res2 {t u : Nat} {v x : Value} (h : fn.results = #[.tmp t, .tmp u]) (hv : look t E = some v) (hx : look u E = some x) : Res P fn n D E L (.tuple #[v, x]) := fun a w hs _ => by
 rw [results_tmp2 h, Array.getD_eq_getD_getElem?, Array.getD_eq_getD_getElem?, hs.get t v hv, hs.get u x hx]; rfl
end res
class TyD (P : Program) (T : Nat) (d : outParam TypeDesc) : Prop where
  eq : P.underlying T = some d
class TyS (P : Program) (T : Nat) (k : outParam Nat) : Prop where
  eq : (P.info? T).map (·.size) = some k
class TyB (P : Program) (T : Nat) (k : outParam Nat) : Prop where
  eq : (P.info? T).map (·.bytes) = some k
class TyZ (P : Program) (T : Nat) (z : outParam Value) : Prop where
  eq : (P.info? T).bind (·.zero) = some z
class TyFld (P : Program) (S : Nat) (i : Nat) (off U : outParam Nat) : Prop where
  eq : ∃ fs f, P.underlying S = some (.struct fs) ∧ fs[i]? = some f ∧ f.offset = off ∧ f.type = U
class GoFn (P : Program) (f : Nat) : Prop where
  eq : ∃ fn, P.funcs[f]? = some fn ∧ (fn.name == "runtime.NumGoroutine") = false ∧ fn.body.isNone = false
def aggD : TypeDesc → Bool
  | .struct _ => true
  | .array _ _ => true
  | _ => false
section ty
variable {P : Program} {T : TypeId} (w : World)
theorem TyD.run {d : TypeDesc} [h : TyD P T d] : (underlying T).run P w = .ok d w := by simp [underlying, h.eq]
theorem TyD.agg {d : TypeDesc} [h : TyD P T d] : (isAgg T).run P w = .ok (aggD d) w := by
 simp only [isAgg, Sem.run_bind, TyD.run, Result.andThen_ok]
 cases d <;> rfl
theorem TyS.run {k : Nat} [h : TyS P T k] : (sizeOf T).run P w = .ok k w := by
 obtain ⟨i, hi, hk⟩ := Option.map_eq_some_iff.1 h.eq
 simp [sizeOf, typeInfo, hi, hk]
theorem TyZ.run {z : Value} [h : TyZ P T z] : (zeroValue T).run P w = .ok z w := by
 obtain ⟨i, hi, hz⟩ := Option.bind_eq_some_iff.1 h.eq
 simp [zeroValue, typeInfo, hi, hz]
end ty
theorem addr_add (b o k : Nat) : (⟨b, o, none⟩ : Addr).add k = ⟨b, o + k, none⟩ := by
 unfold Addr.add
 split
 ·
  rename_i h; subst h; rfl
 ·
  rfl
section cells
variable {L : Hp} {w : World}
theorem Held.cell {b : Nat} {c : Array Value} {T : TypeId} {f : Nat × Nat} (h : Held L w) (m : (b, Obj.cells c T f) ∈ L) (off : Nat) : w.cell? ⟨b, off, none⟩ = c[off]? := by
 have := h _ m
 simp only at this
 simp [World.cell?, this]
end cells
def nth : List Value → Nat → Option Value
  | [], _ => none
  | x :: _, 0 => some x
  | _ :: l, i + 1 => nth l i
theorem nth_eq : ∀ (l : List Value) (i : Nat), nth l i = l[i]?
  | [], i => by simp [nth]
  | x :: l, 0 => rfl
  | x :: l, i + 1 => by simp [nth, nth_eq l i]
def Reads (c : List Value) : Nat → List Value → Prop
  | _, [] => True
  | off, v :: vs => nth c off = some v ∧ Reads c (off + 1) vs
theorem Reads.at_ {c : List Value} : ∀ {vs : List Value} {off : Nat}, Reads c off vs → ∀ j v, vs[j]? = some v → c[off + j]? = some v
  | [], _, _, j, v, h => by simp at h
  | u :: vs, off, hr, 0, v, h => by simp at h; subst h; rw [← nth_eq]; exact hr.1
  | u :: vs, off, hr, j + 1, v, h => by
    have := hr.2.at_ j v (by simpa using h)
    rw [show off + (j + 1) = off + 1 + j by omega]
    exact this
theorem Reads.extract {c vs : List Value} {off k : Nat} (h : Reads c off vs) (hl : vs.length = k) : c.toArray.extract off (off + k) = vs.toArray := by
 subst hl
 apply Array.ext'
 apply List.ext_getElem?
 intro j
 simp only [List.extract_toArray, List.extract_eq_take_drop, List.getElem?_take, List.getElem?_drop]
 by_cases hj : j < vs.length
 ·
  rw [if_pos (by omega), h.at_ j vs[j] (by simp)]
  simp
 ·
  rw [if_neg (by omega), List.getElem?_eq_none (by omega)]
def Pv (P : Program) (n : Nat) (D : List Deferred) (E : Env) (L : Hp) (o : Oper) (v : Value) : Prop :=
  ∀ a w, Sees n D E a → Held L w → (execOp a.eval o).run P w = .ok (.value v) w
section pv
variable {P : Program} {n : Nat} {D : List Deferred} {E : Env} {L : Hp} {d : Option Tmp} {ty : TypeId} {pos : String} {aft : Array Edge} {g : Option (Nat × Bool)} {T : TypeId} {x y z : Operand} {v u : Value}
theorem pv_move (hx : ev E x = some v) : Pv P n D E L ⟨d, .move x, ty, pos, aft, g⟩ v := fun a w hs _ => by simp [execOp, hs.ev hx]
theorem pv_assign (hx : ev E x = some v) : Pv P n D E L ⟨d, .assign x, ty, pos, aft, g⟩ v := fun a w hs _ => by simp [execOp, hs.ev hx]
theorem pv_pick_true (hc : ev E x = some (.bool true)) (hy : ev E y = some u) : Pv P n D E L ⟨d, .pick x y z, ty, pos, aft, g⟩ u := fun a w hs _ => by
 simp [execOp, hs.ev hc, hs.ev hy, asBool]
theorem pv_pick_false (hc : ev E x = some (.bool false)) (hz : ev E z = some v) : Pv P n D E L ⟨d, .pick x y z, ty, pos, aft, g⟩ v := fun a w hs _ => by
 simp [execOp, hs.ev hc, hs.ev hz, asBool]
theorem pv_nilCheck {p : Addr} (hx : ev E x = some (.pointer (some p))) : Pv P n D E L ⟨d, .nilCheck x, ty, pos, aft, g⟩ (.pointer (some p)) := fun a w hs _ => by simp [execOp, hs.ev hx]
theorem pv_load {dsc : TypeDesc} {b off : Nat} {c : List Value} {T' : TypeId} {f : Nat × Nat} (hx : ev E x = some (.pointer (some ⟨b, off, none⟩))) [ht : TyD P T dsc] (hd : aggD dsc = false)
    [hb : Blk L b (.cells c.toArray T' f)] (hc : nth c off = some v) : Pv P n D E L ⟨d, .load T x, ty, pos, aft, g⟩ v := fun a w hs hh => by
  rw [nth_eq] at hc
  simp [execOp, hs.ev hx, Instr.loadAt, Instr.sureAddr, loadVar, TyD.agg, hd, hh.cell hb.mem, hc]
theorem run_loadCells_reads (P : Program) {w : World} {b off : Nat} {vs : List Value} (h : ∀ j v, vs[j]? = some v → w.cell? ⟨b, off + j, none⟩ = some v) : (loadCells ⟨b, off, none⟩ vs.length).run P w = .ok vs.toArray w :=
  run_loadCells_list (P := P) w ⟨b, off, none⟩ vs fun j v hv => by rw [addr_add]; exact h j v hv
theorem pv_loadK {dsc : TypeDesc} {b off k : Nat} {c : List Value} {T' : TypeId} {f : Nat × Nat} (vs : List Value) (hx : ev E x = some (.pointer (some ⟨b, off, none⟩))) [ht : TyD P T dsc] [hk : TyS P T k] (hd : aggD dsc = true)
    [hb : Blk L b (.cells c.toArray T' f)] (hl : vs.length = k) (hc : Reads c off vs) : Pv P n D E L ⟨d, .load T x, ty, pos, aft, g⟩ (.agg vs.toArray) := fun a w hs hh => by
  subst hl
  have h1 := run_loadCells_reads P (w := w) (b := b) (off := off) (vs := vs) fun j v hv => by rw [hh.cell hb.mem, List.getElem?_toArray]; exact hc.at_ j v hv
  simp [execOp, hs.ev hx, Instr.loadAt, Instr.sureAddr, loadVar, TyD.agg, TyS.run, hd, h1]
theorem fieldPlace_run {P : Program} {w : World} {b off : Nat} {f : Field} {k : Nat} [hk : TyS P f.type k] (h0 : Nat.beq k 0 = false) : (fieldPlace ⟨b, off, none⟩ f).run P w = .ok ⟨b, off + f.offset, none⟩ w := by
 have hk0 : k ≠ 0 := fun e => by subst e; simp at h0
 simp [fieldPlace, TyS.run, hk0, addr_add]
theorem pv_fieldAddr {S : TypeId} {i off U k b o : Nat} (hx : ev E x = some (.pointer (some ⟨b, o, none⟩))) [hf : TyFld P S i off U] [hk : TyS P U k] (h0 : Nat.beq k 0 = false) :
    Pv P n D E L ⟨d, .fieldAddr S x i, ty, pos, aft, g⟩ (.pointer (some ⟨b, o + off, none⟩)) := fun a w hs _ => by
  obtain ⟨fs, f, hu, hi, ho, hU⟩ := hf.eq
  subst ho; subst hU
  have ht : TyD P S (.struct fs) := ⟨hu⟩
  simp [execOp, hs.ev hx, Instr.fieldAt, TyD.run, hi, Instr.sureAddr, fieldPlace_run h0]
theorem pv_fieldAddr0 {S : TypeId} {i off U k b : Nat} (hx : ev E x = some (.pointer (some ⟨b, 0, none⟩))) [hf : TyFld P S i off U] [hk : TyS P U k] (h0 : Nat.beq k 0 = false) :
    Pv P n D E L ⟨d, .fieldAddr S x i, ty, pos, aft, g⟩ (.pointer (some ⟨b, off, none⟩)) := by simpa using pv_fieldAddr (o := 0) hx h0
theorem pv_extract {vs : List Value} {i : Nat} (hx : ev E x = some (.tuple vs.toArray)) (hi : nth vs i = some v) : Pv P n D E L ⟨d, .extract x i, ty, pos, aft, g⟩ v := fun a w hs _ => by
 rw [nth_eq] at hi
 simp [execOp, hs.ev hx, Instr.extract, hi]
theorem pv_add {k : IntKind} {i j : Int} {xt yt : TypeId} (hx : ev E x = some (.int k i)) (hy : ev E y = some (.int k j)) {r : Int} (hr : k.wrap (i + j) = r) : Pv P n D E L ⟨d, .binOp .add xt x y yt, ty, pos, aft, g⟩ (.int k r) := fun a w hs _ => by
 subst hr; simp [execOp, hs.ev hx, hs.ev hy, binOp, eqGuard, Op.intArith]
theorem pv_sub {k : IntKind} {i j : Int} {xt yt : TypeId} (hx : ev E x = some (.int k i)) (hy : ev E y = some (.int k j)) {r : Int} (hr : k.wrap (i - j) = r) : Pv P n D E L ⟨d, .binOp .sub xt x y yt, ty, pos, aft, g⟩ (.int k r) := fun a w hs _ => by
 subst hr; simp [execOp, hs.ev hx, hs.ev hy, binOp, eqGuard, Op.intArith]
theorem pv_mul {k : IntKind} {i j : Int} {xt yt : TypeId} (hx : ev E x = some (.int k i)) (hy : ev E y = some (.int k j)) {r : Int} (hr : k.wrap (i * j) = r) : Pv P n D E L ⟨d, .binOp .mul xt x y yt, ty, pos, aft, g⟩ (.int k r) := fun a w hs _ => by
 subst hr; simp [execOp, hs.ev hx, hs.ev hy, binOp, eqGuard, Op.intArith]
def bitsI (op : BinOp) (k : IntKind) (i j : Int) : Int :=
  match op with
  | .and => k.wrap ((BitVec.ofInt k.bits i &&& BitVec.ofInt k.bits j).toNat : Int)
  | .or => k.wrap ((BitVec.ofInt k.bits i ||| BitVec.ofInt k.bits j).toNat : Int)
  | .xor => k.wrap ((BitVec.ofInt k.bits i ^^^ BitVec.ofInt k.bits j).toNat : Int)
  | _ => k.wrap ((BitVec.ofInt k.bits i &&& ~~~BitVec.ofInt k.bits j).toNat : Int)
theorem pv_or {k : IntKind} {i j : Int} {xt yt : TypeId} (hx : ev E x = some (.int k i)) (hy : ev E y = some (.int k j)) {r : Int} (hr : bitsI .or k i j = r) : Pv P n D E L ⟨d, .binOp .or xt x y yt, ty, pos, aft, g⟩ (.int k r) := fun a w hs _ => by
 subst hr; simp [execOp, hs.ev hx, hs.ev hy, binOp, eqGuard, Op.intBits, bitsI]
theorem pv_shl {k k' : IntKind} {i j : Int} {xt yt : TypeId} (hx : ev E x = some (.int k i)) (hy : ev E y = some (.int k' j)) (hj : 0 ≤ j) {r : Int} (hr : k.wrap (i * 2 ^ (min j.toNat k.bits)) = r) : Pv P n D E L ⟨d, .binOp .shl xt x y yt, ty, pos, aft, g⟩ (.int k r) := fun a w hs _ => by
 subst hr; simp [execOp, hs.ev hx, hs.ev hy, binOp, eqGuard, Op.shift, Int.not_lt.2 hj]
theorem pv_shr {k k' : IntKind} {i j : Int} {xt yt : TypeId} (hx : ev E x = some (.int k i)) (hy : ev E y = some (.int k' j)) (hj : 0 ≤ j) {r : Int} (hr : i.fdiv (2 ^ (min j.toNat k.bits)) = r) : Pv P n D E L ⟨d, .binOp .shr xt x y yt, ty, pos, aft, g⟩ (.int k r) := fun a w hs _ => by
 subst hr; simp [execOp, hs.ev hx, hs.ev hy, binOp, eqGuard, Op.shift, Int.not_lt.2 hj]
theorem pv_lss {k : IntKind} {i j : Int} {xt yt : TypeId} (hx : ev E x = some (.int k i)) (hy : ev E y = some (.int k j)) : Pv P n D E L ⟨d, .binOp .lss xt x y yt, ty, pos, aft, g⟩ (.bool (decide (i < j))) := fun a w hs _ => by
 simp [execOp, hs.ev hx, hs.ev hy, binOp, eqGuard, Op.intCmp]
theorem pv_leq {k : IntKind} {i j : Int} {xt yt : TypeId} (hx : ev E x = some (.int k i)) (hy : ev E y = some (.int k j)) : Pv P n D E L ⟨d, .binOp .leq xt x y yt, ty, pos, aft, g⟩ (.bool (decide (i ≤ j))) := fun a w hs _ => by
 simp [execOp, hs.ev hx, hs.ev hy, binOp, eqGuard, Op.intCmp]
theorem pv_gtr {k : IntKind} {i j : Int} {xt yt : TypeId} (hx : ev E x = some (.int k i)) (hy : ev E y = some (.int k j)) : Pv P n D E L ⟨d, .binOp .gtr xt x y yt, ty, pos, aft, g⟩ (.bool (decide (j < i))) := fun a w hs _ => by
 simp [execOp, hs.ev hx, hs.ev hy, binOp, eqGuard, Op.intCmp]
theorem pv_geq {k : IntKind} {i j : Int} {xt yt : TypeId} (hx : ev E x = some (.int k i)) (hy : ev E y = some (.int k j)) : Pv P n D E L ⟨d, .binOp .geq xt x y yt, ty, pos, aft, g⟩ (.bool (decide (j ≤ i))) := fun a w hs _ => by
 simp [execOp, hs.ev hx, hs.ev hy, binOp, eqGuard, Op.intCmp]
theorem pv_eql {k : IntKind} {i j : Int} {xt yt : TypeId} (hx : ev E x = some (.int k i)) (hy : ev E y = some (.int k j)) : Pv P n D E L ⟨d, .binOp .eql xt x y yt, ty, pos, aft, g⟩ (.bool (decide (i = j))) := fun a w hs _ => by
 simp [execOp, hs.ev hx, hs.ev hy, binOp, eqGuard, Op.intCmp]
 exact Bool.beq_eq_decide_eq i j
theorem pv_neq {k : IntKind} {i j : Int} {xt yt : TypeId} (hx : ev E x = some (.int k i)) (hy : ev E y = some (.int k j)) : Pv P n D E L ⟨d, .binOp .neq xt x y yt, ty, pos, aft, g⟩ (.bool (decide (i ≠ j))) := fun a w hs _ => by
 simp [execOp, hs.ev hx, hs.ev hy, binOp, eqGuard, Op.intCmp, bne]
 exact Bool.beq_eq_decide_eq i j
theorem pv_not {b : Bool} {xt : TypeId} (hx : ev E x = some (.bool b)) : Pv P n D E L ⟨d, .unOp .not xt x, ty, pos, aft, g⟩ (.bool (!b)) := fun a w hs _ => by simp [execOp, hs.ev hx, Op.unary]
theorem pv_not_dec {p : Prop} [Decidable p] {xt : TypeId} (hx : ev E x = some (.bool (decide p))) : Pv P n D E L ⟨d, .unOp .not xt x, ty, pos, aft, g⟩ (.bool (decide (¬p))) := by
 have := pv_not (P := P) (n := n) (D := D) (L := L) (d := d) (ty := ty) (pos := pos) (aft := aft) (g := g) (xt := xt) hx
 rwa [← decide_not] at this
theorem pv_conv {src dst : TypeId} {k k' : IntKind} {sd : TypeDesc} {i : Int} (hx : ev E x = some (.int k i)) [hs' : TyD P src sd] [hd : TyD P dst (.int k')] {r : Int} (hr : k'.wrap i = r) : Pv P n D E L ⟨d, .convert src dst x, ty, pos, aft, g⟩ (.int k' r) := fun a w hs _ => by
 subst hr
 simp only [execOp, hs.ev hx, convert, Sem.run_bind, TyD.run, Result.andThen_ok]
 cases sd <;> simp [Conv.intToInt]
end pv
def Wanted (ops : Array Oper) (E : Env) : Option (Nat × Bool) → Bool → Prop
  | none, r => r = true
  | some (j, want), r => ∃ t b, (ops[j]?).bind (·.dst) = some t ∧ look t E = some (.bool b) ∧ (b == want) = r
theorem wanted_of {ops : Array Oper} {n : Nat} {D : List Deferred} {E : Env} {a : Act} {o : Oper} {r : Bool} (h : Wanted ops E o.guard r) (hs : Sees n D E a) : Region.wanted o (yielded ops a.tmps) = r := by
 unfold Region.wanted
 cases hg : o.guard with
 | none => rw [hg] at h; exact Eq.symm h
 | some jw =>
  obtain ⟨j, want⟩ := jw
  rw [hg] at h
  obtain ⟨t, b, h1, h2, h3⟩ := h
  have : yielded ops a.tmps j = some b := by
   unfold yielded
   rw [h1]
   simp [hs.get t _ h2]
  simp only [this]
  rw [← h3]
  cases b <;> cases want <;> rfl
def Ef (P : Program) (W : World) (n : Nat) (D : List Deferred) (o : Oper) (E : Env) (L : Hp) (K : Env → Hp → Prop) : Prop :=
  ∀ (Q : Exit → Act → World → Prop) a w (next : Act → World → Prop), Sees n D E a → Own W w L →
    (∀ E' L' a' w', K E' L' → Sees n D E' a' → Own W w' L' → next a' w') → o.wp P a w next Q
section carry
variable {P : Program} {W : World} {ops : Array Oper} {Q : Exit → Act → World → Prop} {n : Nat} {D : List Deferred} {E : Env} {L : Hp} {rest : List Oper} {d : Nat} {op : Op} {ty : TypeId} {pos : String} {aft : Array Edge} {g : Option (Nat × Bool)} {v : Value} {K : Env → Hp → Prop}
theorem Ef.mono {o : Oper} {K' : Env → Hp → Prop} (h : Ef P W n D o E L K) (hk : ∀ E' L', K E' L' → K' E' L') : Ef P W n D o E L K' :=
  fun Q a w next hs ho hn => h Q a w next hs ho fun E' L' a' w' k => hn E' L' a' w' (hk _ _ k)
theorem Ef.of_pv (hp : Pv P n D E L ⟨some d, op, ty, pos, aft, g⟩ v) (hd : Nat.blt d n = true) : Ef P W n D ⟨some d, op, ty, pos, aft, g⟩ E L (fun E' L' => E' = (d, v) :: E ∧ L' = L) :=
  fun Q a w next hs ho hn => by
    unfold Oper.wp
    rw [hp a w hs ho.held]
    exact hn _ _ _ _ ⟨rfl, rfl⟩ (hs.put hd) ho
theorem Ops.ef {o : Oper} (hg : o.guard = none) (h : Ef P W n D o E L K) (hn : ∀ E' L', K E' L' → Ops P W ops Q n D rest E' L') : Ops P W ops Q n D (o :: rest) E L := fun a w hs ho =>
  wpList_plain hg fun K' hK' => h Q a w K' hs ho fun E' L' a' w' k hs' ho' => hK' _ _ (hn E' L' k a' w' hs' ho')
theorem Ops.efg {o : Oper} (hg : Wanted ops E o.guard true) (h : Ef P W n D o E L K) (hn : ∀ E' L', K E' L' → Ops P W ops Q n D rest E' L') : Ops P W ops Q n D (o :: rest) E L := fun a w hs ho =>
  wpList_step fun K' hK' => by
    rw [if_pos (wanted_of hg hs)]
    exact h Q a w K' hs ho fun E' L' a' w' k hs' ho' => hK' _ _ (hn E' L' k a' w' hs' ho')
theorem Ops.pv (hp : Pv P n D E L ⟨some d, op, ty, pos, aft, none⟩ v) (hd : Nat.blt d n = true) (hn : Ops P W ops Q n D rest ((d, v) :: E) L) : Ops P W ops Q n D (⟨some d, op, ty, pos, aft, none⟩ :: rest) E L :=
  Ops.ef rfl (Ef.of_pv hp hd) fun E' L' ⟨h1, h2⟩ => by subst h1; subst h2; exact hn
theorem Ops.pvg (hg : Wanted ops E g true) (hp : Pv P n D E L ⟨some d, op, ty, pos, aft, g⟩ v) (hd : Nat.blt d n = true) (hn : Ops P W ops Q n D rest ((d, v) :: E) L) : Ops P W ops Q n D (⟨some d, op, ty, pos, aft, g⟩ :: rest) E L :=
  Ops.efg hg (Ef.of_pv hp hd) fun E' L' ⟨h1, h2⟩ => by subst h1; subst h2; exact hn
theorem Ops.skipg (hg : Wanted ops E g false) (hd : Nat.blt d n = true) (hn : Ops P W ops Q n D rest ((d, undef) :: E) L) : Ops P W ops Q n D (⟨some d, op, ty, pos, aft, g⟩ :: rest) E L := fun a w hs ho =>
  wpList_step fun K' hK' => by
    rw [if_neg (by rw [wanted_of (o := ⟨some d, op, ty, pos, aft, g⟩) hg hs]; simp)]
    exact hK' _ _ (hn _ _ (hs.put hd) ho)
theorem Sees.set {t : Nat} {u : Value} {a : Act} (h : Sees n D E a) (hl : look t E = some u) (hu : u = v) : Sees n D ((t, v) :: E) a := by
 subst hu
 refine ⟨h.size, h.dfs, fun s x hx => ?_⟩
 simp only [look] at hx
 split at hx
 ·
  rename_i hb
  cases hx
  rw [← Nat.eq_of_beq_eq_true hb]
  exact h.get t u hl
 ·
  exact h.get s x hx
theorem Ops.setE {t : Nat} {u : Value} (hl : look t E = some u) (hu : u = v) (hn : Ops P W ops Q n D rest ((t, v) :: E) L) : Ops P W ops Q n D rest E L := fun a w hs ho => hn a w (hs.set hl hu) ho
theorem Wp.setE {c : Code} {t : Nat} {u : Value} (hl : look t E = some u) (hu : u = v) (hn : Wp P W Q n D c ((t, v) :: E) L) : Wp P W Q n D c E L := fun a w hs ho => hn a w (hs.set hl hu) ho
theorem Ends.setE {e : Exit} {t : Nat} {u : Value} (hl : look t E = some u) (hu : u = v) (hn : Ends W Q n D e ((t, v) :: E) L) : Ends W Q n D e E L := fun a w hs ho => hn a w (hs.set hl hu) ho
theorem Ops.split {t : Nat} {p : Prop} [Decidable p] (hl : look t E = some (.bool (decide p))) (ht : p → Ops P W ops Q n D rest ((t, .bool true) :: E) L) (hf : ¬p → Ops P W ops Q n D rest ((t, .bool false) :: E) L) :
    Ops P W ops Q n D rest E L := by
  by_cases h : p
  · exact .setE hl (by simp [h]) (ht h)
  · exact .setE hl (by simp [h]) (hf h)
theorem Ops.splitb {t : Nat} {b : Bool} (hl : look t E = some (.bool b)) (ht : b = true → Ops P W ops Q n D rest ((t, .bool true) :: E) L) (hf : b = false → Ops P W ops Q n D rest ((t, .bool false) :: E) L) :
    Ops P W ops Q n D rest E L := by
  cases b
  · exact .setE hl rfl (hf rfl)
  · exact .setE hl rfl (ht rfl)
end carry
section condt
variable {P : Program} {W : World} {Q : Exit → Act → World → Prop} {n : Nat} {D : List Deferred} {E : Env} {L : Hp}
theorem Wp.cond_t {t : Nat} {x y : Code} {b : Bool} (hc : look t E = some (.bool b)) (ht : b = true → Wp P W Q n D x ((t, .bool true) :: E) L) (hf : b = false → Wp P W Q n D y ((t, .bool false) :: E) L) :
    Wp P W Q n D (.cond (.tmp t) x y) E L := Wp.cond (c := .tmp t) hc (fun h => .setE hc (by rw [h]) (ht h)) (fun h => .setE hc (by rw [h]) (hf h))
theorem Wp.cond_dect {t : Nat} {x y : Code} {p : Prop} [Decidable p] (hc : look t E = some (.bool (decide p))) (ht : p → Wp P W Q n D x ((t, .bool true) :: E) L) (hf : ¬p → Wp P W Q n D y ((t, .bool false) :: E) L) :
    Wp P W Q n D (.cond (.tmp t) x y) E L := Wp.cond_t hc (fun h => ht (of_decide_eq_true h)) (fun h => hf (of_decide_eq_false h))
end condt
class Mixed (P : Program) : Prop where
  eq : P.follows .mixedOrders = true
class HeldSub (L S : Hp) : Prop where
  sub : ∀ p, p ∈ S → p ∈ L
instance (priority := 2000) HeldSub.refl {L : Hp} : HeldSub L L := ⟨fun _ h => h⟩
instance (priority := 1900) HeldSub.nil {L : Hp} : HeldSub L [] := ⟨fun _ h => by cases h⟩
instance (priority := 1800) HeldSub.tail {x : Nat × Obj} {L S : Hp} [h : HeldSub L S] : HeldSub (x :: L) S := ⟨fun p hp => List.mem_cons_of_mem _ (h.sub p hp)⟩
instance (priority := 1000) HeldSub.cons {b : Nat} {o : Obj} {L S : Hp} [h : Blk L b o] [k : HeldSub L S] : HeldSub L ((b, o) :: S) := ⟨fun p hp => by
  rcases List.mem_cons.1 hp with rfl | hp
  · exact h.mem
  · exact k.sub p hp⟩
class SegIn (L S : Hp) : Prop where
  sub : ∀ p, p ∈ S → p ∈ L
instance (priority := 1100) SegIn.all {L : Hp} : SegIn L L := ⟨fun _ h => h⟩
instance (priority := 1050) SegIn.head {S L : Hp} : SegIn (S ++ L) S := ⟨fun _ h => List.mem_append_left _ h⟩
instance (priority := 1000) SegIn.skip {x : Nat × Obj} {S L : Hp} [h : SegIn L S] : SegIn (x :: L) S := ⟨fun p hp => List.mem_cons_of_mem _ (h.sub p hp)⟩
instance (priority := 900) SegIn.skipApp {T S L : Hp} [h : SegIn L S] : SegIn (T ++ L) S := ⟨fun p hp => List.mem_append_right _ (h.sub p hp)⟩
instance (priority := 800) HeldSub.app {S T L : Hp} [h : SegIn L S] [k : HeldSub L T] : HeldSub L (S ++ T) := ⟨fun p hp => by
  rcases List.mem_append.1 hp with hp | hp
  · exact h.sub p hp
  · exact k.sub p hp⟩
instance (priority := 100) HeldSub.seg {S L : Hp} [h : SegIn L S] : HeldSub L S := ⟨h.sub⟩
theorem Own.heldSub {W w : World} {L S : Hp} (h : Own W w L) (s : HeldSub L S) : Held S w := fun p hp => h.get p (s.sub p hp)
def AnyH (P : Program) (W : World) (ops : Array Oper) (Q : Exit → Act → World → Prop) (n : Nat) (D : List Deferred) (S : Hp) (fuel : Nat) (listed : Array Bool) (E : Env) (L : Hp) : Prop :=
  ∀ a w, Sees n D E a → Own W w L → wpAnyH P .any ops Q (Held S) fuel listed a w
section any
variable {P : Program} {W : World} {ops : Array Oper} {Q : Exit → Act → World → Prop} {n : Nat} {D : List Deferred} {S : Hp} {fuel : Nat} {listed : Array Bool} {E : Env} {L : Hp} {d : Nat} {op : Op} {ty : TypeId} {pos : String} {aft : Array Edge} {g : Option (Nat × Bool)} {v : Value} {K : Env → Hp → Prop}
theorem AnyH.start {id : Nat} {l : List Oper} (S : Hp) (m : Nat) [hm : Mixed P] (hl : l.length = m) (h : AnyH P W l.toArray Q n D S m (Array.replicate m false) E L) : Wp P W Q n D (.region id l.toArray true) E L := fun a w hs ho =>
  wp_region_held hm.eq (by subst hl; exact h a _ hs (ho.drawn _))
def PanicsFree (Q : Exit → Act → World → Prop) : Prop := ∀ c a d v w, Q (.panic c) (a.put d v) w → Q (.panic c) a w
theorem AnyH.take (i : Nat) (hi : ops[i]? = some ⟨some d, op, ty, pos, aft, g⟩) (hsel : Region.noSelect ops = true) (hf : Region.free .any ops listed i = true) (hr : (Region.ready .any ops listed).contains i = true)
    (hQ : PanicsFree Q) (hg : Wanted ops E g true) [hS : HeldSub L S] (hp : Pv P n D E S ⟨some d, op, ty, pos, aft, g⟩ v) (hd : Nat.blt d n = true)
    (hn : AnyH P W ops Q n D S fuel (listed.setIfInBounds i true) ((d, v) :: E) L) : AnyH P W ops Q n D S (fuel + 1) listed E L := fun a w hs ho =>
  wpAnyH_take hi hsel hf hr (fun c a w => hQ c a _ v w) (.inl ⟨wanted_of (o := ⟨some d, op, ty, pos, aft, g⟩) hg hs, fun w' hw' => hp a w' hs hw'⟩) (ho.heldSub hS) (hn _ w (hs.put hd) ho)
theorem AnyH.taken (i : Nat) (hi : ops[i]? = some ⟨none, op, ty, pos, aft, g⟩) (hsel : Region.noSelect ops = true) (hf : Region.free .any ops listed i = true) (hr : (Region.ready .any ops listed).contains i = true)
    (hQ : PanicsFree Q) (hg : Wanted ops E g true) [hS : HeldSub L S] (hp : Pv P n D E S ⟨none, op, ty, pos, aft, g⟩ v)
    (hn : AnyH P W ops Q n D S fuel (listed.setIfInBounds i true) E L) : AnyH P W ops Q n D S (fuel + 1) listed E L := fun a w hs ho =>
  wpAnyH_take hi hsel hf hr (fun c a w => hQ c a _ v w) (.inl ⟨wanted_of (o := ⟨none, op, ty, pos, aft, g⟩) hg hs, fun w' hw' => hp a w' hs hw'⟩) (ho.heldSub hS) (hn _ w hs ho)
theorem AnyH.skip (i : Nat) (hi : ops[i]? = some ⟨some d, op, ty, pos, aft, g⟩) (hsel : Region.noSelect ops = true) (hf : Region.free .any ops listed i = true) (hr : (Region.ready .any ops listed).contains i = true)
    (hQ : PanicsFree Q) (hg : Wanted ops E g false) [hS : HeldSub L S] (hd : Nat.blt d n = true)
    (hn : AnyH P W ops Q n D S fuel (listed.setIfInBounds i true) ((d, undef) :: E) L) : AnyH P W ops Q n D S (fuel + 1) listed E L := fun a w hs ho =>
  wpAnyH_take hi hsel hf hr (fun c a w => hQ c a _ undef w) (.inr ⟨wanted_of (o := ⟨some d, op, ty, pos, aft, g⟩) hg hs, rfl⟩) (ho.heldSub hS) (hn _ w (hs.put hd) ho)
def Turn (P : Program) (W : World) (ops : Array Oper) (Q : Exit → Act → World → Prop) (n : Nat) (D : List Deferred) (S : Hp) (fuel : Nat) (listed : Array Bool) (i : Nat) (E : Env) (L : Hp) : Prop :=
  ∀ a w, Sees n D E a → Own W w L → wpOp P ops Q i (fun a' w' => Held S w' ∧ wpAnyH P .any ops Q (Held S) fuel (listed.setIfInBounds i true) a' w') a w
theorem AnyH.one (i : Nat) (hr : Region.ready .any ops listed = [i]) (h : Turn P W ops Q n D S fuel listed i E L) : AnyH P W ops Q n D S (fuel + 1) listed E L := fun a w hs ho =>
  wpAnyH_all hr (by simp) fun j hj => by
    obtain rfl : j = i := by simpa using hj
    exact h a w hs ho
theorem AnyH.two (i k : Nat) (hr : Region.ready .any ops listed = [i, k]) (h : Turn P W ops Q n D S fuel listed i E L) (h' : Turn P W ops Q n D S fuel listed k E L) : AnyH P W ops Q n D S (fuel + 1) listed E L := fun a w hs ho =>
  wpAnyH_all hr (by simp) fun j hj => by
    rcases (by simpa using hj : j = i ∨ j = k) with rfl | rfl
    · exact h a w hs ho
    · exact h' a w hs ho
theorem AnyH.three (i k m : Nat) (hr : Region.ready .any ops listed = [i, k, m]) (h : Turn P W ops Q n D S fuel listed i E L) (h' : Turn P W ops Q n D S fuel listed k E L) (h'' : Turn P W ops Q n D S fuel listed m E L) :
    AnyH P W ops Q n D S (fuel + 1) listed E L := fun a w hs ho =>
  wpAnyH_all hr (by simp) fun j hj => by
    rcases (by simpa using hj : j = i ∨ j = k ∨ j = m) with rfl | rfl | rfl
    · exact h a w hs ho
    · exact h' a w hs ho
    · exact h'' a w hs ho
theorem Turn.ef {i : Nat} {o : Oper} (hi : ops[i]? = some o) (hg : Wanted ops E o.guard true) (h : Ef P W n D o E L K) (hS : ∀ E' L', K E' L' → HeldSub L' S)
    (hn : ∀ E' L', K E' L' → AnyH P W ops Q n D S fuel (listed.setIfInBounds i true) E' L') : Turn P W ops Q n D S fuel listed i E L := fun a w hs ho => by
  unfold wpOp
  simp only [hi]
  rw [if_pos (wanted_of hg hs)]
  exact .inl (h Q a w _ hs ho fun E' L' a' w' k hs' ho' => ⟨ho'.heldSub (hS _ _ k), hn E' L' k a' w' hs' ho'⟩)
theorem AnyH.done (hr : Region.ready .any ops listed = []) (h : Ends W Q n D .normal E L) : AnyH P W ops Q n D S fuel listed E L := fun a w hs ho => wpAnyH_done hr (h a w hs ho) fuel
theorem AnyH.setE {t : Nat} {u : Value} (hl : look t E = some u) (hu : u = v) (hn : AnyH P W ops Q n D S fuel listed ((t, v) :: E) L) : AnyH P W ops Q n D S fuel listed E L := fun a w hs ho => hn a w (hs.set hl hu) ho
theorem AnyH.split {t : Nat} {p : Prop} [Decidable p] (hl : look t E = some (.bool (decide p))) (ht : p → AnyH P W ops Q n D S fuel listed ((t, .bool true) :: E) L) (hf : ¬p → AnyH P W ops Q n D S fuel listed ((t, .bool false) :: E) L) :
    AnyH P W ops Q n D S fuel listed E L := by
  by_cases h : p
  · exact .setE hl (by simp [h]) (ht h)
  · exact .setE hl (by simp [h]) (hf h)
end any
theorem pf_body {P : Program} {fn : Func} {R : Ending → World → Prop} : PanicsFree (bodyPost P fn R) := fun c a d v w h => by cases d <;> exact h
class PF (Q : Exit → Act → World → Prop) : Prop where
  pf : PanicsFree Q
instance PF.body {P : Program} {fn : Func} {R : Ending → World → Prop} : PF (bodyPost P fn R) := ⟨pf_body⟩
instance PF.then_ {Q : Exit → Act → World → Prop} {K : Act → World → Prop} [h : PF Q] : PF (Exit.then K Q) := ⟨h.pf⟩
instance PF.block_ {Q : Exit → Act → World → Prop} {id : Nat} [h : PF Q] : PF (Exit.inBlock id Q) := ⟨h.pf⟩
class SetL (l : List Value) (i : Nat) (vs : List Value) (l' : outParam (List Value)) : Prop where
  len : l'.length = l.length
  le : i + vs.length ≤ l.length
  at_ : ∀ j, l'[j]? = if i ≤ j ∧ j < i + vs.length then vs[j - i]? else l[j]?
instance (priority := 1000) SetL.nil {l : List Value} : SetL l 0 [] l := ⟨rfl, by simp, fun j => by simp⟩
instance (priority := 900) SetL.cons {x v : Value} {l vs l' : List Value} [h : SetL l 0 vs l'] : SetL (x :: l) 0 (v :: vs) (v :: l') :=
  ⟨by simp [h.len], by have := h.le; simp at this ⊢; omega, fun j => by
    cases j with
    | zero => simp
    | succ j =>
      have := h.at_ j
      simp only [Nat.zero_le, true_and, Nat.zero_add, Nat.sub_zero] at this
      simp [this]⟩
instance (priority := 800) SetL.succ {x : Value} {l vs l' : List Value} {i : Nat} [h : SetL l i vs l'] : SetL (x :: l) (i + 1) vs (x :: l') :=
  ⟨by simp [h.len], by have := h.le; simp at this ⊢; omega, fun j => by
    cases j with
    | zero => simp
    | succ j =>
      have := h.at_ j
      simp only [List.getElem?_cons_succ, this]
      by_cases hh : i ≤ j ∧ j < i + vs.length
      · rw [if_pos hh, if_pos (by omega)]; rw [show j + 1 - (i + 1) = j - i by omega]
      · rw [if_neg hh, if_neg (by omega)]⟩
theorem Own.upd {W w w' : World} {L L' : Hp} {b : Nat} {o' : Obj} (h : Own W w L) (u : Upd L b o' L') (hos : w'.os = w.os) (ht : w'.tape = w.tape) (hout : w'.output = w.output)
    (hb : w'.heap[b]? = some o') (hne : ∀ k, k ≠ b → w'.heap[k]? = w.heap[k]?) : Own W w' L' := by
  obtain ⟨A, B, o, h1, h2⟩ := u.eq
  subst h1; subst h2
  exact h.set hos ht hout hb hne
def storeW (w : World) (b : Nat) (c' : List Value) (T : TypeId) : World := { w with heap := w.heap.setIfInBounds b (.cells c'.toArray T) }
theorem run_storeCells (P : Program) (b off : Nat) (T : TypeId) : ∀ (vs : List Value) (i : Nat) (c : List Value) (w : World),
    w.heap[b]? = some (.cells c.toArray T) → off + i + vs.length ≤ c.length → (∀ v ∈ vs, v.oneCell' = true) →
    (storeCells ⟨b, off, none⟩ vs i).run P w = .ok () (storeW w b (c.take (off + i) ++ vs ++ c.drop (off + i + vs.length)) T)
  | [], i, c, w, hb, hl, h1 => by
    simp only [storeCells, Sem.run_pure, List.append_nil, List.length_nil, Nat.add_zero, List.take_append_drop, storeW]
    congr 1
    cases w with
    | mk heap tape drawn os output =>
      simp only at hb ⊢
      congr 1
      apply Array.ext_getElem?
      intro j
      rw [Array.getElem?_setIfInBounds]
      split
      · rename_i hj; subst hj
        split
        · exact hb
        · rename_i hlt; rw [Array.getElem?_eq_none (by omega)] at hb; cases hb
      · rfl
  | v :: vs, i, c, w, hb, hl, h1 => by
    have hv := h1 v (List.mem_cons_self ..)
    simp only [List.length_cons] at hl
    have hcell : w.cell? ⟨b, off + i, none⟩ = some c[off + i] := by
      simp [World.cell?, hb]
    have hfz : w.frozen? ⟨b, off + i, none⟩ = false := by simp [World.frozen?, hb]
    have hw : w.setCell ⟨b, off + i, none⟩ v = storeW w b (c.set (off + i) v) T := by
      unfold World.setCell storeW
      congr 1
      apply Array.ext_getElem?
      intro j
      rw [Array.getElem?_modify, Array.getElem?_setIfInBounds]
      split
      · rename_i hj; subst hj
        have hlt : b < w.heap.size := by
          rcases Nat.lt_or_ge b w.heap.size with h | h
          · exact h
          · rw [Array.getElem?_eq_none h] at hb; cases hb
        have hb' : w.heap[b] = Obj.cells c.toArray T := by
          rw [Array.getElem?_eq_getElem hlt] at hb; exact Option.some.inj hb
        simp [hlt, hb']
      · rfl
    have hsz : b < w.heap.size := by
      rcases Nat.lt_or_ge b w.heap.size with h | h
      · exact h
      · rw [Array.getElem?_eq_none h] at hb; cases hb
    simp only [storeCells, Sem.run_bind, addr_add, run_store P w _ v .plain hv, hcell, hfz, Bool.false_eq_true, if_false, Result.andThen_ok, hw]
    rw [run_storeCells P b off T vs (i + 1) (c.set (off + i) v) _ (by simp [storeW, hsz]) (by simp; omega) (fun u hu => h1 u (List.mem_cons_of_mem _ hu))]
    have e1 : (c.set (off + i) v).take (off + (i + 1)) = c.take (off + i) ++ [v] := by
      rw [List.take_set, show off + (i + 1) = off + i + 1 by omega, List.take_succ_eq_append_getElem (by omega)]
      rw [List.set_append_right _ _ (by simp; omega)]
      simp [Nat.min_eq_left (show off + i ≤ c.length by omega)]
    have e2 : (c.set (off + i) v).drop (off + (i + 1) + vs.length) = c.drop (off + i + (vs.length + 1)) := by
      rw [List.drop_set_of_lt (by omega), show off + (i + 1) + vs.length = off + i + (vs.length + 1) by omega]
    rw [e1, e2]
    simp [storeW]
theorem SetL.eq {l : List Value} {i : Nat} {vs l' : List Value} (h : SetL l i vs l') : l.take i ++ vs ++ l.drop (i + vs.length) = l' := by
 apply List.ext_getElem?
 intro j
 rw [h.at_ j]
 have hle := h.le
 by_cases h1 : j < i
 ·
  rw [if_neg (by omega), List.append_assoc, List.getElem?_append_left (by simp; omega), List.getElem?_take, if_pos h1]
 ·
  by_cases h2 : j < i + vs.length
  ·
   rw [if_pos (by omega), List.append_assoc, List.getElem?_append_right (by simp; omega), List.getElem?_append_left (by simp; omega)]
   congr 1
   simp; omega
  ·
   rw [if_neg (by omega), List.getElem?_append_right (by simp; omega), List.getElem?_drop]
   congr 1
   simp; omega
section ef
variable {P : Program} {W : World} {n : Nat} {D : List Deferred} {E : Env} {L : Hp} {d : Nat} {ty : TypeId} {pos : String} {aft : Array Edge} {g : Option (Nat × Bool)} {T : TypeId} {x y : Operand} {v : Value}
theorem ef_box {cs : List Value} (hx : ev E x = some v) (hd : Nat.blt d n = true) (hv : v.cells = cs.toArray) :
    Ef P W n D ⟨some d, .box T x, ty, pos, aft, g⟩ E L (fun E' L' => ∃ b, E' = (d, .pointer (some ⟨b, 0, none⟩)) :: E ∧ L' = (b, .cells cs.toArray T) :: L) := fun Q a w next hs ho hn => by
  unfold Oper.wp
  have : (execOp a.eval ⟨some d, .box T x, ty, pos, aft, g⟩).run P w = .ok (.value (.pointer (some ⟨w.heap.size, 0, none⟩))) (w.alloc (.cells cs.toArray T)) := by
    simp [execOp, hs.ev hx, Instr.box, newVar, newRow, hv]
  rw [this]
  exact hn _ _ _ _ ⟨_, rfl, rfl⟩ (hs.put hd) (ho.alloc _)
theorem ef_box1 (hx : ev E x = some v) (hd : Nat.blt d n = true) (hv : v.cells = #[v]) :
    Ef P W n D ⟨some d, .box T x, ty, pos, aft, g⟩ E L (fun E' L' => ∃ b, E' = (d, .pointer (some ⟨b, 0, none⟩)) :: E ∧ L' = (b, .cells [v].toArray T) :: L) := ef_box hx hd hv
theorem ef_boxK {cs : List Value} (hx : ev E x = some (.agg cs.toArray)) (hd : Nat.blt d n = true) :
    Ef P W n D ⟨some d, .box T x, ty, pos, aft, g⟩ E L (fun E' L' => ∃ b, E' = (d, .pointer (some ⟨b, 0, none⟩)) :: E ∧ L' = (b, .cells cs.toArray T) :: L) := ef_box hx hd rfl
theorem ef_alloc {z : Value} {cs : List Value} (hz : TyZ P T z) (hd : Nat.blt d n = true) (hv : z.cells = cs.toArray) :
    Ef P W n D ⟨some d, .alloc T, ty, pos, aft, g⟩ E L (fun E' L' => ∃ b, E' = (d, .pointer (some ⟨b, 0, none⟩)) :: E ∧ L' = (b, .cells cs.toArray T) :: L) := fun Q a w next hs ho hn => by
  unfold Oper.wp
  have : (execOp a.eval ⟨some d, .alloc T, ty, pos, aft, g⟩).run P w = .ok (.value (.pointer (some ⟨w.heap.size, 0, none⟩))) (w.alloc (.cells cs.toArray T)) := by
    simp [execOp, Instr.alloc, TyZ.run, newVar, newRow, hv]
  rw [this]
  exact hn _ _ _ _ ⟨_, rfl, rfl⟩ (hs.put hd) (ho.alloc _)
theorem ef_alloc1 {z : Value} (hz : TyZ P T z) (hd : Nat.blt d n = true) (hv : z.cells = #[z]) :
    Ef P W n D ⟨some d, .alloc T, ty, pos, aft, g⟩ E L (fun E' L' => ∃ b, E' = (d, .pointer (some ⟨b, 0, none⟩)) :: E ∧ L' = (b, .cells [z].toArray T) :: L) := ef_alloc hz hd hv
theorem ef_allocK {cs : List Value} (hz : TyZ P T (.agg cs.toArray)) (hd : Nat.blt d n = true) :
    Ef P W n D ⟨some d, .alloc T, ty, pos, aft, g⟩ E L (fun E' L' => ∃ b, E' = (d, .pointer (some ⟨b, 0, none⟩)) :: E ∧ L' = (b, .cells cs.toArray T) :: L) := ef_alloc hz hd rfl
theorem ef_store {k b off : Nat} {c c' vs : List Value} {T' : TypeId} {L' : Hp} [hk : TyS P T k] (hx : ev E x = some (.pointer (some ⟨b, off, none⟩))) (hy : ev E y = some v) (hv : v.cells = vs.toArray) (hkl : vs.length = k)
    (h1 : vs.all Value.oneCell' = true) [hb : Blk L b (.cells c.toArray T')] [hset : SetL c off vs c'] [hu : Upd L b (.cells c'.toArray T') L'] :
    Ef P W n D ⟨none, .store T x y, ty, pos, aft, g⟩ E L (fun E1 L1 => E1 = E ∧ L1 = L') := fun Q a w next hs ho hn => by
  unfold Oper.wp
  have hbl := ho.get _ hb.mem
  have hst := run_storeCells P b off T' vs 0 c w hbl (by have := hset.le; omega) (by simpa using h1)
  have he : (execOp a.eval ⟨none, .store T x y, ty, pos, aft, g⟩).run P w = .ok .skip (storeW w b c' T') := by
    simp only [execOp, hs.ev hx, hs.ev hy, Instr.storeAt, Instr.sureAddr, storeVar, Sem.run_bind, Sem.run_pure, Result.andThen_ok, TyS.run, hv, List.size_toArray, hkl, ne_eq, not_true_eq_false, if_false]
    rw [hst]
    simp only [Nat.add_zero, hset.eq, Result.andThen_ok]
  rw [he]
  have hlt := ho.lt hb.mem
  refine hn _ _ _ _ ⟨rfl, rfl⟩ hs (ho.upd hu rfl rfl rfl (by simp [storeW, hlt]) fun j hj => ?_)
  simp [storeW, Array.getElem?_setIfInBounds_ne (Ne.symm hj)]
theorem ef_store1 {b off : Nat} {c c' : List Value} {T' : TypeId} {L' : Hp} [hk : TyS P T 1] (hx : ev E x = some (.pointer (some ⟨b, off, none⟩))) (hy : ev E y = some v) (hv : v.cells = #[v]) (h1 : v.oneCell' = true)
    [hb : Blk L b (.cells c.toArray T')] [hset : SetL c off [v] c'] [hu : Upd L b (.cells c'.toArray T') L'] :
    Ef P W n D ⟨none, .store T x y, ty, pos, aft, g⟩ E L (fun E1 L1 => E1 = E ∧ L1 = L') := ef_store (vs := [v]) hx hy hv rfl (by simp [h1])
theorem ef_storeK {k b off : Nat} {c c' vs : List Value} {T' : TypeId} {L' : Hp} [hk : TyS P T k] (hx : ev E x = some (.pointer (some ⟨b, off, none⟩))) (hy : ev E y = some (.agg vs.toArray)) (hkl : vs.length = k)
    (h1 : vs.all Value.oneCell' = true) [hb : Blk L b (.cells c.toArray T')] [hset : SetL c off vs c'] [hu : Upd L b (.cells c'.toArray T') L'] :
    Ef P W n D ⟨none, .store T x y, ty, pos, aft, g⟩ E L (fun E1 L1 => E1 = E ∧ L1 = L') := ef_store hx hy rfl hkl h1
theorem run_callFunc {f : FuncId} [hf : GoFn P f] (args : Array Value) (w : World) : (callFunc f args).run P w = .ok (.enter f args) w := by
 obtain ⟨fn, h1, h2, h3⟩ := hf.eq
 have h2' : ¬ fn.name = "runtime.NumGoroutine" := by simpa using h2
 have h3' : ¬ fn.body = none := by intro e; rw [e] at h3; cases h3
 simp [callFunc, h1, h2', h3']
theorem ef_call {f : FuncId} {xs : List Operand} {ats : Array TypeId} {args : List Value} {Lp F : Hp} {R : Value → Hp → Prop} (ht : Tr P f args Lp R) [hf : GoFn P f] (hx : evs E xs = some args) (hd : Nat.blt d n = true) [hp : Part L Lp F] :
    Ef P W n D ⟨some d, .call { callee := .value (.func f), args := xs.toArray, argTypes := ats }, ty, pos, aft, g⟩ E L (fun E' L' => ∃ v L1, R v L1 ∧ E' = (d, v) :: E ∧ L' = L1 ++ F) := fun Q a w next hs ho hn => by
  unfold Oper.wp
  rw [execOp_call_go]
  have e : (#[] ++ xs.toArray.map a.eval ++ #[] : Array Value) = args.toArray := by simp [hs.evs hx]
  rw [e, run_callFunc]
  refine (ht W w F (ho.part hp)).mono ?_
  rintro e' w' ⟨v, L1, rfl, hR, ho'⟩
  exact hn _ _ _ _ ⟨v, L1, hR, rfl, rfl⟩ (hs.put hd) ho'
end ef
section pv2
variable {P : Program} {n : Nat} {D : List Deferred} {E : Env} {L : Hp} {d : Option Tmp} {ty : TypeId} {pos : String} {aft : Array Edge} {g : Option (Nat × Bool)} {T : TypeId} {x y z : Operand} {v u : Value}
theorem run_eql_ptr_nil {P : Program} {T : TypeId} {e : TypeId} [h : TyD P T (.pointer e)] (p : Option Addr) (w : World) : (Op.equal T (.pointer p) (.pointer none)).run P w = .ok p.isNone w := by
 have key : ∀ d, (Op.equalIn (d + 1) T (.pointer p) (.pointer none)).run P w = .ok p.isNone w := fun d => by
  cases p <;> simp [Op.equalIn, TyD.run]
 exact key 9999
theorem pv_eql_nil {p : Option Addr} {e : TypeId} {yt : TypeId} (hx : ev E x = some (.pointer p)) (hy : ev E y = some (.pointer none)) [h : TyD P T (.pointer e)] :
    Pv P n D E L ⟨d, .binOp .eql T x y yt, ty, pos, aft, g⟩ (.bool p.isNone) := fun a w hs _ => by
  simp [execOp, hs.ev hx, hs.ev hy, eqGuard, binOp, run_eql_ptr_nil]
end pv2
section maps
variable {κ : Type} [DecidableEq κ]
def entsL (enc : κ → Value) (l : List (κ × Value × Nat)) : List MapEntry := l.map fun e => { key := enc e.1, val := e.2.1, born := e.2.2 }
def fidx (k : κ) : List (κ × Value × Nat) → Nat → Option (Nat × Value)
  | [], _ => none
  | e :: l, i => if k = e.1 then some (i, e.2.1) else fidx k l (i + 1)
def mget (k : κ) : List (κ × Value × Nat) → Option Value
  | [] => none
  | e :: l => if k = e.1 then some e.2.1 else mget k l
class KeyTy (P : Program) (K : Nat) (enc : κ → Value) : Prop where
  check : ∀ b k w, (Instr.checkKey b 10000 K (enc k)).run P w = .ok () w
  find : ∀ k l w, (Instr.findKey K (enc k) (entsL enc l)).run P w = .ok (fidx k l 0) w
  stay : ∀ k w, (Instr.keyThatStays (enc k) (enc k)).run P w = .ok (enc k) w
def encI (k : Int) : Value := .int .i64 k
theorem findNow_int {kd : IntKind} (k : Int) : ∀ (l : List (Int × Value × Nat)) (i : Nat), Instr.findNow (.int kd) (encI k) (entsL encI l) i = some (fidx k l i)
  | [], i => rfl
  | e :: l, i => by
    simp only [entsL, List.map_cons, Instr.findNow, encI, Instr.sameNow, if_true, fidx]
    by_cases h : k = e.1
    · simp [h]
    · have hb : (k == e.1) = false := by simpa using h
      simp only [hb, h, if_false]
      exact findNow_int k l (i + 1)
instance KeyTy.int {P : Program} {K : TypeId} {kd : IntKind} [h : TyD P K (.int kd)] : KeyTy P K encI where
  check b k w := by
    have key : ∀ d, (Instr.checkKey b (d + 1) K (encI k)).run P w = .ok () w := fun d => by simp [Instr.checkKey, TyD.run, encI]
    exact key 9999
  find k l w := by simp only [Instr.findKey, Sem.run_bind, TyD.run, Result.andThen_ok, findNow_int, Sem.run_pure]
  stay k w := by simp [Instr.keyThatStays, Instr.sameBits, encI]
end maps
section mapops
variable {P : Program} {W : World} {n : Nat} {D : List Deferred} {E : Env} {L : Hp} {ty : TypeId} {pos : String} {aft : Array Edge} {g : Option (Nat × Bool)} {T : TypeId} {x y z : Operand} {v u : Value}
variable {κ : Type} [DecidableEq κ]
theorem pv_len_slice {d : Option Tmp} {e : TypeId} {ats : Array TypeId} {p : Option Addr} {m c : Nat} (hx : ev E x = some (.slice p m c)) (h0 : ats[0]? = some T) [hT : TyD P T (.slice e)] :
    Pv P n D E L ⟨d, .call { callee := .builtin .len, args := #[x], argTypes := ats }, ty, pos, aft, g⟩ (.int .i64 m) := fun a w hs hh => by
  rw [BigFrame.execOp_builtin]
  simp only [BigFrame.builtin_len, List.map_toArray, List.map_cons, List.map_nil, hs.ev hx, Builtin.len_, h0, List.getElem?_toArray, List.getElem?_cons_zero, Sem.run_bind, TyD.run, Result.andThen_ok, Sem.run_pure, goInt]
end mapops
def encK : List IntKind → List Int → List Value
  | k :: ks, x :: xs => .int k x :: encK ks xs
  | _, _ => []
class NumTy (P : Program) (T : Nat) (ks : outParam (List IntKind)) : Prop where
  eq : ∀ d w (xs ys : List Int), xs.length = ks.length → ys.length = ks.length →
    (Op.equalIn (d + 2) T (.agg (encK ks xs).toArray) (.agg (encK ks ys).toArray)).run P w = .ok (decide (xs = ys)) w
  guard : P.eqGuardType P.depth T = false
theorem eqFields_nums {P : Program} (d : Nat) (w : World) (cx cy : List Value) : ∀ (fs : List Field) (ks : List IntKind) (off : Nat) (xs ys : List Int),
    fs.length = ks.length → xs.length = ks.length → ys.length = ks.length →
    (∀ i f k, fs[i]? = some f → ks[i]? = some k → f.name ≠ "_" ∧ f.offset = off + i ∧ P.underlying f.type = some (.int k)) →
    (∀ i v, (encK ks xs)[i]? = some v → cx[off + i]? = some v) → (∀ i v, (encK ks ys)[i]? = some v → cy[off + i]? = some v) →
    (Op.eqFields (d + 1) cx.toArray cy.toArray fs).run P w = .ok (decide (xs = ys)) w
  | [], [], off, [], [], _, _, _, _, _, _ => by simp [Op.eqFields]
  | f :: fs, k :: ks, off, x :: xs, y :: ys, hf, hx, hy, h, hcx, hcy => by
    obtain ⟨hn, ho, hu⟩ := h 0 f k rfl rfl
    have h1 : cx[f.offset]? = some (.int k x) := by rw [ho]; exact hcx 0 _ rfl
    have h2 : cy[f.offset]? = some (.int k y) := by rw [ho]; exact hcy 0 _ rfl
    have hag : (isAgg f.type).run P w = .ok false w := by simp [isAgg, underlying, hu]
    have ih := eqFields_nums d w cx cy fs ks (off + 1) xs ys (by simpa using hf) (by simpa using hx) (by simpa using hy)
      (fun i f' k' hi hk => by
        have := h (i + 1) f' k' (by simpa using hi) (by simpa using hk)
        exact ⟨this.1, by rw [this.2.1]; omega, this.2.2⟩)
      (fun i v hi => by have := hcx (i + 1) v (by simpa [encK] using hi); rw [← this]; congr 1; omega)
      (fun i v hi => by have := hcy (i + 1) v (by simpa [encK] using hi); rw [← this]; congr 1; omega)
    simp only [Op.eqFields, if_pos hn, Sem.run_bind, part, hag, Result.andThen_ok, Bool.false_eq_true, if_false, List.getElem?_toArray, h1, h2, Sem.run_pure, run_equalIn_int w d f.type k k x y hu]
    by_cases hxy : x = y
    · subst hxy
      simp [ih]
    · simp [hxy]
  | [], _ :: _, _, _, _, hf, _, _, _, _, _ => by simp at hf
  | _ :: _, [], _, _, _, hf, _, _, _, _, _ => by simp at hf
  | [], [], _, _ :: _, _, _, hx, _, _, _, _ => by simp at hx
  | [], [], _, [], _ :: _, _, _, hy, _, _, _ => by simp at hy
  | _ :: _, _ :: _, _, [], _, _, hx, _, _, _, _ => by simp at hx
  | _ :: _, _ :: _, _, _ :: _, [], _, _, hy, _, _, _ => by simp at hy
theorem NumTy.mk' {P : Program} {T : TypeId} {fs : Array Field} {ks : List IntKind} (hu : P.underlying T = some (.struct fs)) (hst : P.stoodInHeld T = false) (hg : P.eqGuardType P.depth T = false)
    (hl : fs.toList.length = ks.length) (h : ∀ i f k, fs.toList[i]? = some f → ks[i]? = some k → f.name ≠ "_" ∧ f.offset = 0 + i ∧ P.underlying f.type = some (.int k)) : NumTy P T ks where
  guard := hg
  eq d w xs ys hx hy := by
    have hfs : P.fieldsOf T = fs := by simp [Program.fieldsOf, hu]
    rw [run_equalIn_struct w (d + 1) T _ _ (by rw [hfs]; exact hu) hst, hfs]
    exact eqFields_nums d w _ _ fs.toList ks 0 xs ys hl hx hy h (fun i v hi => by simpa using hi) (fun i v hi => by simpa using hi)
section nums
variable {P : Program} {n : Nat} {D : List Deferred} {E : Env} {L : Hp} {d : Option Tmp} {ty : TypeId} {pos : String} {aft : Array Edge} {g : Option (Nat × Bool)} {T : TypeId} {x y z : Operand} {v u : Value}
end nums
class App (A F : Hp) (R : outParam Hp) : Prop where
  eq : A ++ F = R
instance (priority := 1000) App.nil {F : Hp} : App [] F F := ⟨rfl⟩
instance (priority := 900) App.cons {x : Nat × Obj} {A F R : Hp} [h : App A F R] : App (x :: A) F (x :: R) := ⟨by rw [← h.eq]; rfl⟩
instance (priority := 800) App.app {S T F R : Hp} [h : App T F R] : App (S ++ T) F (S ++ R) := ⟨by rw [← h.eq, List.append_assoc]⟩
instance (priority := 100) App.seg {S F : Hp} : App S F (S ++ F) := ⟨rfl⟩
section app
variable {P : Program} {W : World} {ops : Array Oper} {Q : Exit → Act → World → Prop} {n : Nat} {D : List Deferred} {E : Env} {A F R : Hp} {rest : List Oper}
theorem Wp.app {c : Code} [h : App A F R] (hn : Wp P W Q n D c E R) : Wp P W Q n D c E (A ++ F) := by rw [h.eq]; exact hn
theorem Ops.app [h : App A F R] (hn : Ops P W ops Q n D rest E R) : Ops P W ops Q n D rest E (A ++ F) := by rw [h.eq]; exact hn
theorem Ends.app {e : Exit} [h : App A F R] (hn : Ends W Q n D e E R) : Ends W Q n D e E (A ++ F) := by rw [h.eq]; exact hn
theorem AnyH.app {S : Hp} {fuel : Nat} {listed : Array Bool} [h : App A F R] (hn : AnyH P W ops Q n D S fuel listed E R) : AnyH P W ops Q n D S fuel listed E (A ++ F) := by rw [h.eq]; exact hn
end app
def rvRun (tmps : Array Value) : ResultVar → Sem Value
  | .tmp t => pure (tmps.getD t undef)
  | .cell a t => do loadVar t (← asAddr (tmps.getD a undef))
theorem results_eq (fn : Func) (tmps : Array Value) : results fn tmps = (do
    let vs ← fn.results.mapM (rvRun tmps)
    pure (if h : vs.size = 1 then vs[0] else .tuple vs)) := by
  unfold results
  congr 1
def RVal (P : Program) (n : Nat) (D : List Deferred) (E : Env) (L : Hp) (r : ResultVar) (v : Value) : Prop :=
  ∀ a w, Sees n D E a → Held L w → (rvRun a.tmps r).run P w = .ok v w
section rval
variable {P : Program} {fn : Func} {n : Nat} {D : List Deferred} {E : Env} {L : Hp}
theorem rv_tmp {t : Nat} {v : Value} (hx : look t E = some v) : RVal P n D E L (.tmp t) v := fun a w hs _ => by
 simp only [rvRun, Array.getD_eq_getD_getElem?, hs.get t v hx, Option.getD_some, Sem.run_pure]
theorem rv_cell {x T b off : Nat} {v : Value} {dsc : TypeDesc} {c : List Value} {T' : TypeId} {f : Nat × Nat} (hx : look x E = some (.pointer (some ⟨b, off, none⟩))) [ht : TyD P T dsc] (hd : aggD dsc = false) [hb : Blk L b (.cells c.toArray T' f)] (hc : nth c off = some v) :
    RVal P n D E L (.cell x T) v := fun a w hs hh => by
  rw [nth_eq] at hc
  simp [rvRun, Array.getD_eq_getD_getElem?, hs.get x _ hx, asAddr, loadVar, TyD.agg, hd, hh.cell hb.mem, hc]
theorem rv_cellK {x T b off k : Nat} {dsc : TypeDesc} {c : List Value} {T' : TypeId} {f : Nat × Nat} (vs : List Value) (hx : look x E = some (.pointer (some ⟨b, off, none⟩))) [ht : TyD P T dsc] [hk : TyS P T k] (hd : aggD dsc = true) [hb : Blk L b (.cells c.toArray T' f)]
    (hl : vs.length = k) (hc : Reads c off vs) : RVal P n D E L (.cell x T) (.agg vs.toArray) := fun a w hs hh => by
  subst hl
  have h1 := run_loadCells_reads P (w := w) (b := b) (off := off) (vs := vs) fun j v hv => by rw [hh.cell hb.mem, List.getElem?_toArray]; exact hc.at_ j v hv
  simp [rvRun, Array.getD_eq_getD_getElem?, hs.get x _ hx, asAddr, loadVar, TyD.agg, TyS.run, hd, h1]
def RVals (P : Program) (n : Nat) (D : List Deferred) (E : Env) (L : Hp) : List ResultVar → List Value → Prop
  | [], vs => vs = []
  | r :: rs, vs => ∃ v us, vs = v :: us ∧ RVal P n D E L r v ∧ RVals P n D E L rs us
theorem run_rvals {a : Act} {w : World} (hs : Sees n D E a) (hh : Held L w) : ∀ (rs : List ResultVar) (vs : List Value), RVals P n D E L rs vs →
    (rs.mapM (rvRun a.tmps)).run P w = .ok vs w
  | [], vs, h => by
    obtain rfl := h
    rfl
  | r :: rs, vs, h => by
    obtain ⟨v, us, rfl, h1, h2⟩ := h
    have h3 := h1 a w hs hh
    have h4 := run_rvals hs hh rs us h2
    simp only [List.mapM_cons, Sem.run_bind, h3, h4, Result.andThen_ok, Sem.run_pure]
theorem res_list {rs : List ResultVar} {vs : List Value} (h : fn.results = rs.toArray) (hv : RVals P n D E L rs vs) (h2 : Nat.ble 2 vs.length = true) : Res P fn n D E L (.tuple vs.toArray) := fun a w hs hh => by
 have h3 := run_rvals hs hh rs vs hv
 have hne : ¬ vs.length = 1 := by have := Nat.le_of_ble_eq_true h2; omega
 rw [results_eq, h, Array.mapM_eq_mapM_toList]
 simp only [Sem.run_bind, Sem.run_map, h3, Result.andThen_ok, Sem.run_pure, List.size_toArray, hne, dite_false]
theorem res_one {r : ResultVar} {v : Value} (h : fn.results = #[r]) (hv : RVal P n D E L r v) : Res P fn n D E L v := fun a w hs hh => by
 have h3 := run_rvals hs hh [r] [v] ⟨v, [], rfl, hv, rfl⟩
 rw [results_eq, h, Array.mapM_eq_mapM_toList]
 simp only [Sem.run_bind, Sem.run_map, h3, Result.andThen_ok, Sem.run_pure, List.size_toArray, List.length_singleton, dite_true]
 rfl
end rval
theorem w64 {i : Int} (h1 : -9223372036854775808 ≤ i) (h2 : i ≤ 9223372036854775807) : IntKind.i64.wrap i = i := IntWalk.i64_in i ⟨h1, h2⟩
theorem u64 {i : Int} (h1 : 0 ≤ i) (h2 : i < 18446744073709551616) : IntKind.u64.wrap i = i := by
 simp [IntKind.wrap, IntKind.signed, IntKind.bits]; omega
theorem Ends.ret {P : Program} {W : World} {fn : Func} {R : Value → Hp → Prop} {F : Hp} {n : Nat} {E : Env} {L L' : Hp} {v : Value} {M : Hp}
    (hres : Res P fn n [] E L v) (hR : R v L') [ha : App L' F M] [hd : Drop L M] : Ends W (bodyPost P fn (TrPost R W F)) n [] .ret E L :=
  fun a w hs ho => ⟨hs.dfs, v, hres a w hs ho.held, v, L', rfl, hR, by rw [ha.eq]; exact hd.own ho⟩
theorem Ends.fin {P : Program} {W : World} {fn : Func} {R : Value → Hp → Prop} {F : Hp} {n : Nat} {E : Env} {L L' : Hp} {v : Value} {M : Hp}
    (hres : Res P fn n [] E L v) (hR : R v L') [ha : App L' F M] [hd : Drop L M] : Ends W (bodyPost P fn (TrPost R W F)) n [] .normal E L :=
  fun a w hs ho => ⟨hs.dfs, v, hres a w hs ho.held, v, L', rfl, hR, by rw [ha.eq]; exact hd.own ho⟩
section keyed
variable {P : Program} {W : World} {n : Nat} {D : List Deferred} {E : Env} {L : Hp} {ty : TypeId} {pos : String} {aft : Array Edge} {g : Option (Nat × Bool)} {T : TypeId} {x y z : Operand} {v u : Value} {K V : TypeId} {b cl : Nat} {zv : Value}
end keyed
def Slc (T : TypeId) (sz : Nat) (v : Value) (n : Nat) (cs : List Value) (H : Hp) : Prop :=
  cs.length = n * sz ∧ ((v = .slice none 0 0 ∧ n = 0 ∧ H = []) ∨
    ∃ b pre spare cap, v = .slice (some ⟨b, pre.length, none⟩) n cap ∧ n ≤ cap ∧ (cap - n) * sz ≤ spare.length ∧ H = [(b, .cells (pre ++ cs ++ spare : List Value).toArray T)])
theorem Slc.nil (T : TypeId) (sz : Nat) : Slc T sz (.slice none 0 0) 0 [] [] := ⟨by simp, .inl ⟨rfl, rfl, rfl⟩⟩
theorem Slc.form {T : TypeId} {sz : Nat} {v : Value} {n : Nat} {cs : List Value} {H : Hp} (h : Slc T sz v n cs H) : ∃ a c, v = .slice a n c := by
 rcases h.2 with ⟨rfl, rfl, _⟩ | ⟨b, pre, spare, cap, rfl, _⟩
 ·
  exact ⟨none, 0, rfl⟩
 ·
  exact ⟨_, cap, rfl⟩
theorem zeroCells_len (z : Array Value) (n : Nat) : (Builtin.zeroCells z n).toList.length = n * z.size := by simp [Builtin.zeroCells]
section slices
variable {P : Program} {W : World} {n : Nat} {D : List Deferred} {E : Env} {L : Hp} {ty : TypeId} {pos : String} {aft : Array Edge} {g : Option (Nat × Bool)} {T : TypeId} {x y z : Operand} {v u : Value}
theorem run_append_room' {P : Program} (w : World) (t ty e : TypeId) (sz : Nat) [ht : TyD P t (.slice e)] [hk : TyS P e sz]
    (b sLen sCap off : Nat) (cur : List Value) (hg : w.heap[b]? = some (.cells cur.toArray e))
    (a : Addr) (m c : Nat) (news : List Value) (hl : news.length = m * sz) (hnews : ∀ j u, news[j]? = some u → w.cell? (a.add j) = some u) (h1 : ∀ u ∈ news, u.oneCell' = true)
    (hroom : sLen + m ≤ sCap) (hfit : off + sLen * sz + news.length ≤ cur.length) :
    (Builtin.append_ #[t, t] ty #[.slice (some ⟨b, off, none⟩) sLen sCap, .slice (some a) m c]).run P w =
      .ok (.slice (some ⟨b, off, none⟩) (sLen + m) sCap) (storeW w b (cur.take (off + sLen * sz) ++ news ++ cur.drop (off + sLen * sz + news.length)) e) := by
  have hf := run_firstCells_some (P := P) w sz m a m c news hl hnews
  have hst := run_storeCells P b (off + sLen * sz) e news 0 cur w hg (by simpa using hfit) h1
  simp only [Nat.add_zero] at hst
  simp [Builtin.append_, TyD.run, TyS.run, Builtin.lenOf, hroom, hf, addr_add, hst]
theorem ef_append {d : Nat} {t e sz bytes : Nat} {zv : Value} {m k : Nat} {cs xs : List Value} {H R : Hp} {bx ox mc : Nat} {c : List Value} {Tx : TypeId} {f : Nat × Nat} (hx : ev E x = some v) (hs' : Slc e sz v m cs H) (hy : ev E y = some (.slice (some ⟨bx, ox, none⟩) k mc)) (hr : Reads c ox xs) (hl : xs.length = k * sz)
    (h1 : xs.all Value.oneCell' = true) (hk0 : Nat.ble 1 k = true) (hbd : (m + k) * bytes ≤ 140737488355328) (hmk : m + k ≤ 9223372036854775807) (hd : Nat.blt d n = true)
    [ht : TyD P t (.slice e)] [hsz : TyS P e sz] [hby : TyB P e bytes] [hz : TyZ P e zv] (hzs : zv.cells.size = sz) [hp : Part L H R] [hb : Blk L bx (.cells c.toArray Tx f)] :
    Ef P W n D ⟨some d, .call { callee := .builtin .append, args := #[x, y], argTypes := #[t, t] }, ty, pos, aft, g⟩ E L
      (fun E' L' => ∃ v' H', Slc e sz v' (m + k) (cs ++ xs) H' ∧ E' = (d, v') :: E ∧ L' = H' ++ R) := fun Q a w next hs ho hn => by
  have hk1 : 1 ≤ k := Nat.le_of_ble_eq_true hk0
  have hcell : ∀ j u, xs[j]? = some u → w.cell? ((⟨bx, ox, none⟩ : Addr).add j) = some u := fun j u hu => by
    rw [addr_add, ho.held.cell hb.mem, List.getElem?_toArray]; exact hr.at_ j u hu
  have h1' : ∀ u ∈ xs, u.oneCell' = true := by simpa using h1
  obtain ⟨i, hi, hzi⟩ := Option.bind_eq_some_iff.1 hz.eq
  have hisz : i.size = sz := by have := hsz.eq; rw [hi] at this; simpa using this
  have hiby : i.bytes = bytes := by have := hby.eq; rw [hi] at this; simpa using this
  have ho' := ho.part hp
  have hlen : (cs ++ xs).length = (m + k) * sz := by rw [List.length_append, hs'.1, hl, Nat.add_mul]
  unfold Oper.wp
  rw [BigFrame.execOp_builtin]
  simp only [BigFrame.builtin_append, List.map_toArray, List.map_cons, List.map_nil, hs.ev hx, hs.ev hy, Sem.run_bind]
  rcases hs'.2 with ⟨rfl, rfl, rfl⟩ | ⟨b, pre, spare, cap, rfl, hmc, hsp, rfl⟩
  · have hcs : cs = [] := List.eq_nil_of_length_eq_zero (by have := hs'.1; omega)
    subst hcs
    have hr' := run_append_nil (P := P) w t ty e i zv ht.eq hi hzi ⟨bx, ox, none⟩ k mc xs (by rw [hisz]; exact hl) hcell (by omega) (by omega) (by rw [hiby]; simp only [Nat.zero_add] at hbd; omega)
    rw [hr']
    simp only [Result.andThen_ok, Sem.run_pure]
    refine hn _ _ _ _ ⟨_, [(w.heap.size, .cells (([] : List Value) ++ xs ++ (Builtin.zeroCells zv.cells (grownCap w k 0 e - k)).toList).toArray e)], ⟨by simpa using hlen, .inr ⟨w.heap.size, [], _, grownCap w k 0 e, by simp, by simpa using grownCap_ge w k 0 e, ?_, rfl⟩⟩, rfl, rfl⟩ (hs.put hd) ?_
    · rw [zeroCells_len, hzs]; simp
    · have := (ho'.drew).alloc (.cells (([] : List Value) ++ xs ++ (Builtin.zeroCells zv.cells (grownCap w k 0 e - k)).toList).toArray e)
      have e1 : (([] : List Value) ++ xs ++ (Builtin.zeroCells zv.cells (grownCap w k 0 e - k)).toList).toArray = xs.toArray ++ Builtin.zeroCells zv.cells (grownCap w k 0 e - k) := by apply Array.ext'; simp
      rw [e1] at this ⊢
      exact this
  · have hbl := ho'.get (b, .cells (pre ++ cs ++ spare : List Value).toArray e) (by simp)
    by_cases hroom : m + k ≤ cap
    · have hfit : pre.length + m * sz + xs.length ≤ (pre ++ cs ++ spare).length := by
        have e1 : k * sz ≤ (cap - m) * sz := Nat.mul_le_mul_right _ (by omega)
        simp only [List.length_append, hs'.1, hl]
        omega
      have hr' := run_append_room' (P := P) w t ty e sz b m cap pre.length (pre ++ cs ++ spare) hbl ⟨bx, ox, none⟩ k mc xs hl hcell h1' hroom hfit
      rw [hr']
      simp only [Result.andThen_ok, Sem.run_pure]
      have hnew : (pre ++ cs ++ spare).take (pre.length + m * sz) ++ xs ++ (pre ++ cs ++ spare).drop (pre.length + m * sz + xs.length) = pre ++ (cs ++ xs) ++ spare.drop xs.length := by
        have e1 : pre.length + m * sz = (pre ++ cs).length := by simp [hs'.1]
        rw [e1, List.take_left' rfl, List.drop_append, List.drop_eq_nil_of_le (by omega), show (pre ++ cs).length + xs.length - (pre ++ cs).length = xs.length by omega]
        simp
      rw [hnew]
      refine hn _ _ _ _ ⟨_, [(b, .cells (pre ++ (cs ++ xs) ++ spare.drop xs.length : List Value).toArray e)], ⟨hlen, .inr ⟨b, pre, spare.drop xs.length, cap, rfl, hroom, ?_, rfl⟩⟩, rfl, rfl⟩ (hs.put hd) ?_
      · rw [List.length_drop, hl, show cap - (m + k) = (cap - m) - k by omega, Nat.sub_mul]; omega
      · have hlt := ho'.lt (b := b) (o := .cells (pre ++ cs ++ spare : List Value).toArray e) (by simp)
        exact ho'.upd (Upd.here) rfl rfl rfl (by simp [storeW, hlt]) fun j hj => by simp [storeW, Array.getElem?_setIfInBounds_ne (Ne.symm hj)]
    · have holds : ∀ j u, cs[j]? = some u → w.cell? ((⟨b, pre.length, none⟩ : Addr).add j) = some u := fun j u hu => by
        have hjl : j < cs.length := by
          rcases Nat.lt_or_ge j cs.length with h | h
          · exact h
          · rw [List.getElem?_eq_none h] at hu; cases hu
        rw [addr_add]
        simp only [World.cell?, hbl, Option.isSome_none, Bool.false_eq_true, if_false, List.getElem?_toArray]
        rw [List.append_assoc, List.getElem?_append_right (by omega), List.getElem?_append_left (by omega)]
        rw [show pre.length + j - pre.length = j by omega]; exact hu
      have hr' := run_append_grow (P := P) w t ty e i zv ht.eq hi hzi ⟨b, pre.length, none⟩ m cap cs (by rw [hisz]; exact hs'.1) holds ⟨bx, ox, none⟩ k mc xs (by rw [hisz]; exact hl) hcell (by omega) (by omega) (growslice_fits (by omega) (by rw [hiby]; exact hbd))
      rw [hr']
      simp only [Result.andThen_ok, Sem.run_pure]
      refine hn _ _ _ _ ⟨_, [(w.heap.size, .cells (([] : List Value) ++ (cs ++ xs) ++ (Builtin.zeroCells zv.cells (grownCap w (m + k) cap e - (m + k))).toList).toArray e)], ⟨hlen, .inr ⟨w.heap.size, [], _, grownCap w (m + k) cap e, rfl, grownCap_ge w (m + k) cap e, ?_, rfl⟩⟩, rfl, rfl⟩ (hs.put hd) ?_
      · rw [zeroCells_len, hzs]; exact Nat.le_refl _
      · have := (((ho'.app_right).drew).alloc (.cells (([] : List Value) ++ (cs ++ xs) ++ (Builtin.zeroCells zv.cells (grownCap w (m + k) cap e - (m + k))).toList).toArray e))
        have e1 : (([] : List Value) ++ (cs ++ xs) ++ (Builtin.zeroCells zv.cells (grownCap w (m + k) cap e - (m + k))).toList).toArray = cs.toArray ++ xs.toArray ++ Builtin.zeroCells zv.cells (grownCap w (m + k) cap e - (m + k)) := by apply Array.ext'; simp
        rw [e1] at this ⊢
        exact this
end slices
class Cells (v : Value) (cs : outParam (List Value)) : Prop where
  eq : v.cells = cs.toArray
instance Cells.agg {l : List Value} : Cells (.agg l.toArray) l := ⟨rfl⟩
instance Cells.int {k : IntKind} {i : Int} : Cells (.int k i) [.int k i] := ⟨rfl⟩
instance Cells.bool {b : Bool} : Cells (.bool b) [.bool b] := ⟨rfl⟩
instance Cells.string {b : ByteArray} : Cells (.string b) [.string b] := ⟨rfl⟩
instance Cells.pointer {p : Option Addr} : Cells (.pointer p) [.pointer p] := ⟨rfl⟩
instance Cells.slice {p : Option Addr} {m c : Nat} : Cells (.slice p m c) [.slice p m c] := ⟨rfl⟩
instance Cells.map {p : Option Nat} : Cells (.map p) [.map p] := ⟨rfl⟩
class TyPl (P : Program) (S : Nat) (pl : outParam (List (Nat × Nat))) : Prop where
  eq : ∃ fs, P.underlying S = some (.struct fs) ∧ ∀ w : World, (fs.mapM fun f => do pure (f.offset, ← sizeOf f.type) : Sem (Array (Nat × Nat))).run P w = .ok pl.toArray w
class LenIs (l : List Value) (n : Nat) : Prop where
  eq : l.length = n
instance LenIs.nil : LenIs [] 0 := ⟨rfl⟩
instance LenIs.cons {x : Value} {l : List Value} {n : Nat} [h : LenIs l n] : LenIs (x :: l) (n + 1) := ⟨by simp [h.eq]⟩
class Nth (pl : List (Nat × Nat)) (i : Nat) (a b : outParam Nat) : Prop where
  eq : pl[i]? = some (a, b)
instance Nth.zero {a b : Nat} {l : List (Nat × Nat)} : Nth ((a, b) :: l) 0 a b := ⟨rfl⟩
instance Nth.succ {x : Nat × Nat} {l : List (Nat × Nat)} {i a b : Nat} [h : Nth l i a b] : Nth (x :: l) (i + 1) a b := ⟨h.eq⟩
class Fills (pl : List (Nat × Nat)) (zs : List Value) (parts : List (Nat × Value)) (cs : outParam (List Value)) : Prop where
  eq : Instr.fill (fun i => pl[i]?) zs.toArray parts = some cs.toArray
instance Fills.nil {pl : List (Nat × Nat)} {zs : List Value} : Fills pl zs [] zs := ⟨rfl⟩
theorem foldl_set (off : Nat) : ∀ (vs : List Value) (j : Nat) (c : Array Value), off + j + vs.length ≤ c.size →
    (vs.zipIdx j).foldl (fun cs (x : Value × Nat) => cs.setIfInBounds (off + x.2) x.1) c = (c.toList.take (off + j) ++ vs ++ c.toList.drop (off + j + vs.length)).toArray
  | [], j, c, h => by simp
  | v :: vs, j, c, h => by
    simp only [List.length_cons] at h
    simp only [List.zipIdx_cons, List.foldl_cons]
    rw [foldl_set off vs (j + 1) (c.setIfInBounds (off + j) v) (by simp; omega)]
    have hlt : off + j < c.toList.length := by simp; omega
    have e1 : (c.setIfInBounds (off + j) v).toList = c.toList.set (off + j) v := by simp
    rw [e1]
    have e2 : (c.toList.set (off + j) v).take (off + (j + 1)) = c.toList.take (off + j) ++ [v] := by
      rw [List.take_set, show off + (j + 1) = off + j + 1 by omega, List.take_succ_eq_append_getElem hlt, List.set_append_right _ _ (by simp; omega)]
      simp [Nat.min_eq_left (Nat.le_of_lt (show off + j < c.size by simpa using hlt))]
    have e3 : (c.toList.set (off + j) v).drop (off + (j + 1) + vs.length) = c.toList.drop (off + j + (vs.length + 1)) := by
      rw [List.drop_set_of_lt (by omega), show off + (j + 1) + vs.length = off + j + (vs.length + 1) by omega]
    rw [e2, e3]
    simp
instance Fills.cons {pl : List (Nat × Nat)} {zs zs' vs cs : List Value} {i off sz : Nat} {v : Value} {parts : List (Nat × Value)} [h1 : Nth pl i off sz] [h2 : Cells v vs] [h3 : SetL zs off vs zs'] [h4 : Fills pl zs' parts cs] [hl : LenIs vs sz] : Fills pl zs ((i, v) :: parts) cs where
  eq := by
    have hle := h3.le
    simp only [Instr.fill, h1.eq, h2.eq, List.size_toArray, hl.eq]
    rw [if_neg (by simp; have := hl.eq; omega)]
    have hf := foldl_set off vs 0 zs.toArray (by simpa using hle)
    have e : (Array.zipIdx vs.toArray 0) = (vs.zipIdx 0).toArray := by simp
    rw [e]
    simp only [List.size_toArray, List.foldl_toArray', Nat.add_zero] at hf ⊢
    rw [hf, h3.eq]
    exact h4.eq
def evps (E : Env) : List (Nat × Operand) → Option (List (Nat × Value))
  | [] => some []
  | (i, x) :: xs => match ev E x with
    | none => none
    | some v => match evps E xs with
      | none => none
      | some vs => some ((i, v) :: vs)
theorem Sees.evps {n : Nat} {D : List Deferred} {E : Env} {a : Act} (h : Sees n D E a) : ∀ {xs : List (Nat × Operand)} {vs : List (Nat × Value)}, SL.evps E xs = some vs → xs.map (fun (i, x) => (i, a.eval x)) = vs
  | [], vs, hx => by simpa [SL.evps] using hx
  | (i, x) :: xs, vs, hx => by
    simp only [SL.evps] at hx
    split at hx
    · cases hx
    · rename_i v hv
      split at hx
      · cases hx
      · rename_i us hus
        cases hx
        simp [h.ev hv, h.evps hus]
section build
variable {P : Program} {W : World} {n : Nat} {D : List Deferred} {E : Env} {L : Hp} {ty : TypeId} {pos : String} {aft : Array Edge} {g : Option (Nat × Bool)} {T : TypeId} {x y z : Operand} {v u : Value}
theorem pv_build {d : Option Tmp} {zs cs : List Value} {pl : List (Nat × Nat)} {parts : List (Nat × Operand)} {vs : List (Nat × Value)} (hp : evps E parts = some vs) [hz : TyZ P T (.agg zs.toArray)] [hpl : TyPl P T pl] [hf : Fills pl zs vs cs] :
    Pv P n D E L ⟨d, .build T parts.toArray, ty, pos, aft, g⟩ (.agg cs.toArray) := fun a w hs _ => by
  obtain ⟨fs, hu, hrun⟩ := hpl.eq
  have ht : TyD P T (.struct fs) := ⟨hu⟩
  have hm : (parts.toArray.map fun (i, x) => (i, a.eval x)) = vs.toArray := by rw [List.map_toArray, hs.evps hp]
  have hfe := hf.eq
  simp only [execOp, Instr.build, Sem.run_bind, TyZ.run, Result.andThen_ok, TyD.run, hrun, Value.cells]
  rw [show (Array.map (fun (x : Nat × Operand) => (x.1, a.eval x.2)) parts.toArray) = vs.toArray from hm]
  have hpe : (fun (i : Nat) => pl.toArray[i]?) = (fun (i : Nat) => pl[i]?) := by funext i; simp
  simp only [hpe, hfe, Sem.run_pure, Result.andThen_ok]
theorem ef_buildSlice0 {d : Nat} {e k : Nat} [ht : TyD P T (.slice e)] [hk : TyS P e k] (hd : Nat.blt d n = true) :
    Ef P W n D ⟨some d, .buildSlice T 0 #[], ty, pos, aft, g⟩ E L (fun E' L' => ∃ b, E' = (d, .slice (some ⟨b, 0, none⟩) 0 0) :: E ∧ L' = (b, .cells ([] : List Value).toArray e) :: L) := fun Q a w next hs ho hn => by
  unfold Oper.wp
  have : (execOp a.eval ⟨some d, .buildSlice T 0 #[], ty, pos, aft, g⟩).run P w = .ok (.value (.slice (some ⟨w.heap.size, 0, none⟩) 0 0)) (w.alloc (.cells ([] : List Value).toArray e)) := by
    simp [execOp, Instr.buildSlice, TyD.run, TyS.run, Instr.fill, newRow]
    congr 2
    apply Array.ext'
    simp
  rw [this]
  exact hn _ _ _ _ ⟨_, rfl, rfl⟩ (hs.put hd) (ho.alloc _)
theorem fill_one (sz : Nat) (zs : Array Value) (v : Value) (vs : List Value) (hv : v.cells = vs.toArray) (hl : vs.length = sz) (hz : zs.size = sz) : Instr.fill (fun i => some (i * sz, sz)) zs [(0, v)] = some vs.toArray := by
 subst hl
 have hf := foldl_set 0 vs 0 zs (by omega)
 have e : (Array.zipIdx vs.toArray 0) = (vs.zipIdx 0).toArray := by simp
 simp only [Instr.fill, hv, Nat.zero_mul, List.size_toArray, e]
 rw [if_neg (by simp; omega)]
 simp only [List.size_toArray, List.foldl_toArray', Nat.add_zero, Nat.zero_add] at hf ⊢
 rw [hf]
 simp [hz]
theorem ef_buildSlice1 {d : Nat} {e k : Nat} {vs : List Value} {zv : Value} [ht : TyD P T (.slice e)] [hk : TyS P e k] [hz : TyZ P e zv] (hzs : zv.cells.size = k) (hx : ev E x = some v) (hk0 : Nat.ble 1 k = true) (hk1 : Nat.ble k 1000 = true) (hd : Nat.blt d n = true) [hc : Cells v vs] [hl : LenIs vs k] :
    Ef P W n D ⟨some d, .buildSlice T 1 #[(0, x)], ty, pos, aft, g⟩ E L (fun E' L' => ∃ b, E' = (d, .slice (some ⟨b, 0, none⟩) 1 1) :: E ∧ L' = (b, .cells vs.toArray e) :: L) := fun Q a w next hs ho hn => by
  unfold Oper.wp
  have h1 : 1 ≤ k := Nat.le_of_ble_eq_true hk0
  have h2 : k ≤ 1000 := Nat.le_of_ble_eq_true hk1
  have : (execOp a.eval ⟨some d, .buildSlice T 1 #[(0, x)], ty, pos, aft, g⟩).run P w = .ok (.value (.slice (some ⟨w.heap.size, 0, none⟩) 1 1)) (w.alloc (.cells vs.toArray e)) := by
    have hfo := fill_one k ((Array.range (1 * k)).map (fun i => zv.cells[i % zv.cells.size]!)) v vs hc.eq hl.eq (by simp)
    have hb : ¬ (1 * k > 2 ^ 24) := by omega
    have hb0 : ¬ (1 * k = 0) := by omega
    simp only [execOp, Instr.buildSlice, Sem.run_bind, TyD.run, TyS.run, Result.andThen_ok, Sem.run_ite, if_neg hb, if_neg hb0, TyZ.run, Sem.run_pure, List.map_toArray, List.map_cons, List.map_nil, hs.ev hx, hfo, newRow, run_newObj]
    rfl
  rw [this]
  exact hn _ _ _ _ ⟨_, rfl, rfl⟩ (hs.put hd) (ho.alloc _)
end build
section idx
variable {P : Program} {W : World} {n : Nat} {D : List Deferred} {E : Env} {L : Hp} {d : Option Tmp} {ty : TypeId} {pos : String} {aft : Array Edge} {g : Option (Nat × Bool)} {T : TypeId} {x y z : Operand} {v u : Value}
theorem pv_indexAddr {e k b o m c : Nat} {kk : IntKind} {j : Int} {i : Nat} (hx : ev E x = some (.slice (some ⟨b, o, none⟩) m c)) (hy : ev E y = some (.int kk j)) [ht : TyD P T (.slice e)] [hk : TyS P e k] (hj : j = i) (hi : i < m) :
    Pv P n D E L ⟨d, .indexAddr T x y, ty, pos, aft, g⟩ (.pointer (some ⟨b, o + i * k, none⟩)) := fun a w hs _ => by
  subst hj
  have h1 : (0 : Int) ≤ (i : Int) ∧ (i : Int) < (m : Int) := by omega
  simp [execOp, hs.ev hx, hs.ev hy, Instr.indexAt, asIntOf, TyD.run, TyS.run, h1, addr_add, hi]
end idx
def TrR (P : Program) (f : FuncId) (args : List Value) (L : Hp) (r : Value) : Prop := Tr P f args L (fun v L' => v = r ∧ L' = L)
class Has (L Lp : Hp) : Prop where
  ex : ∃ F, L.Perm (Lp ++ F)
instance (priority := 2000) Has.nil {L : Hp} : Has L [] := ⟨L, List.Perm.refl _⟩
instance (priority := 1000) Has.part {L Lp F : Hp} [h : Part L Lp F] : Has L Lp := ⟨F, h.perm⟩
instance (priority := 500) Has.one {L : Hp} {b : Nat} {o : Obj} [h : Blk L b o] : Has L [(b, o)] := ⟨by
  obtain ⟨A, B, e⟩ := List.append_of_mem h.mem
  exact ⟨A ++ B, by rw [e]; exact List.perm_middle⟩⟩
instance (priority := 1500) Has.refl {L : Hp} : Has L L := ⟨[], by simp⟩
section callr
variable {P : Program} {W : World} {n : Nat} {D : List Deferred} {E : Env} {L : Hp} {ty : TypeId} {pos : String} {aft : Array Edge} {g : Option (Nat × Bool)}
theorem ef_callr {d : Nat} {f : FuncId} {xs : List Operand} {ats : Array TypeId} {args : List Value} {Lp : Hp} {r : Value} (ht : TrR P f args Lp r) [hf : GoFn P f] (hx : evs E xs = some args) (hd : Nat.blt d n = true) [hp : Has L Lp] :
    Ef P W n D ⟨some d, .call { callee := .value (.func f), args := xs.toArray, argTypes := ats }, ty, pos, aft, g⟩ E L (fun E' L' => E' = (d, r) :: E ∧ L' = L) := fun Q a w next hs ho hn => by
  obtain ⟨F, hF⟩ := hp.ex
  unfold Oper.wp
  rw [execOp_call_go]
  have e : (#[] ++ xs.toArray.map a.eval ++ #[] : Array Value) = args.toArray := by simp [hs.evs hx]
  rw [e, run_callFunc]
  refine (ht W w F (ho.perm hF)).mono ?_
  rintro e' w' ⟨v, L1, rfl, ⟨rfl, rfl⟩, ho'⟩
  exact hn _ _ _ _ ⟨rfl, rfl⟩ (hs.put hd) (ho'.perm hF.symm)
theorem TrR.eq {f : FuncId} {args : List Value} {Lp : Hp} {r r' : Value} (h : TrR P f args Lp r) (e : r = r') : TrR P f args Lp r' := e ▸ h
theorem Tr.frame {f : FuncId} {args : List Value} {Lp G M : Hp} {R : Value → Hp → Prop} (h : Tr P f args Lp R) (hp : M.Perm (Lp ++ G)) : Tr P f args M (fun v L' => ∃ L1, R v L1 ∧ L' = L1 ++ G) := fun W w F ho => by
 have ho2 : Own W w (Lp ++ (G ++ F)) := ho.perm (by rw [← List.append_assoc]; exact hp.append_right F)
 refine (h W w (G ++ F) ho2).mono ?_
 rintro e' w' ⟨v, L1, he, hR, ho'⟩
 exact ⟨v, L1 ++ G, he, ⟨L1, hR, rfl⟩, by rw [List.append_assoc]; exact ho'⟩
theorem TrR.frame {f : FuncId} {args : List Value} {Lp M : Hp} {r : Value} (h : TrR P f args Lp r) [hp : Has M Lp] : TrR P f args M r := fun W w F ho => by
 obtain ⟨G, hG⟩ := hp.ex
 have ho2 : Own W w (Lp ++ (G ++ F)) := ho.perm (by rw [← List.append_assoc]; exact hG.append_right F)
 refine (h W w (G ++ F) ho2).mono ?_
 rintro e' w' ⟨v, L1, he, ⟨rfl, rfl⟩, ho'⟩
 exact ⟨v, M, he, ⟨rfl, rfl⟩, ho'.perm (by rw [← List.append_assoc]; exact hG.symm.append_right F)⟩
end callr
instance (priority := 880) Take.left {b : Nat} {o : Obj} {S L R : Hp} [h : Take S b o R] : Take (S ++ L) b o (R ++ L) := ⟨h.perm.append_right L⟩
section closures
variable {P : Program} {W : World} {n : Nat} {D : List Deferred} {E : Env} {L : Hp} {ty : TypeId} {pos : String} {aft : Array Edge} {g : Option (Nat × Bool)} {x : Operand}
theorem pv_makeFunc {d : Option Tmp} {fn : Fn} {fi ca : List Operand} {fv cv : List Value} (hf : evs E fi = some fv) (hc : evs E ca = some cv) : Pv P n D E L ⟨d, .makeFunc fn fi.toArray ca.toArray, ty, pos, aft, g⟩ (.func fn fv.toArray cv.toArray) := fun a w hs _ => by
 simp [execOp, Instr.makeFunc, hs.evs hf, hs.evs hc]
end closures
section loopmore
variable {P : Program} {W : World} {Q : Exit → Act → World → Prop} {n : Nat} {D : List Deferred} {E : Env} {L : Hp}
theorem Goes.back {K : Act → World → Prop} {E' : Env} {L' : Hp} (h : Goes W K n D E' L') (hE : SubE E' E) [hL : Drop L L'] : Goes W K n D E L := Goes.less hE h
end loopmore
theorem Pv.tru {P : Program} {n : Nat} {D : List Deferred} {E : Env} {L : Hp} {o : Oper} {p : Prop} [Decidable p] (h : Pv P n D E L o (.bool (decide p))) (hp : p) : Pv P n D E L o (.bool true) := by
 rw [decide_eq_true hp] at h; exact h
theorem Pv.fls {P : Program} {n : Nat} {D : List Deferred} {E : Env} {L : Hp} {o : Oper} {p : Prop} [Decidable p] (h : Pv P n D E L o (.bool (decide p))) (hp : ¬ p) : Pv P n D E L o (.bool false) := by
 rw [decide_eq_false hp] at h; exact h
def uI (x : Int) : Nat := (IntKind.u64.wrap x).toNat
theorem uI_eq (x : Int) : IntKind.u64.wrap x = (uI x : Int) := by
 have : 0 ≤ IntKind.u64.wrap x := by simp [IntKind.wrap, IntKind.signed, IntKind.bits]; omega
 unfold uI; omega
theorem w64n {i : Int} {k : Nat} (h : i = k) (hk : k < 2 ^ 63) : IntKind.i64.wrap i = k := by subst h; exact w64 (by omega) (by omega)
theorem u64n {i : Int} {k : Nat} (h : i = k) (hk : k < 2 ^ 64) : IntKind.u64.wrap i = k := by subst h; exact u64 (by omega) (by omega)
attribute [irreducible] Ops Wp Ends Goes Ef AnyH Turn Tr Pv Res RVal
end Go.SL
namespace Go.SL
section
variable {P : Program} {W : World} {ops : Array Oper} {Q : Exit → Act → World → Prop} {n : Nat} {D : List Deferred} {S : Hp} {fuel : Nat} {listed : Array Bool} {E : Env} {L : Hp} {d : Nat} {op : Op} {ty : TypeId} {pos : String} {aft : Array Edge} {g : Option (Nat × Bool)} {v : Value} [q : PF Q]
theorem Tk (i : Nat) (hi : ops[i]? = some ⟨some d, op, ty, pos, aft, g⟩) (hg : Wanted ops E g true) [hS : HeldSub L S] (hp : Pv P n D E S ⟨some d, op, ty, pos, aft, g⟩ v) (hd : Nat.blt d n = true) (hn : AnyH P W ops Q n D S fuel (listed.setIfInBounds i true) ((d, v) :: E) L)
    (hsel : Region.noSelect ops = true := by kernel_rfl) (hf : Region.free .any ops listed i = true := by kernel_rfl) (hr : (Region.ready .any ops listed).contains i = true := by kernel_rfl) : AnyH P W ops Q n D S (fuel + 1) listed E L := AnyH.take i hi hsel hf hr q.pf hg hp hd hn
theorem Tn (i : Nat) (hi : ops[i]? = some ⟨none, op, ty, pos, aft, g⟩) (hg : Wanted ops E g true) [hS : HeldSub L S] (hp : Pv P n D E S ⟨none, op, ty, pos, aft, g⟩ v) (hn : AnyH P W ops Q n D S fuel (listed.setIfInBounds i true) E L)
    (hsel : Region.noSelect ops = true := by kernel_rfl) (hf : Region.free .any ops listed i = true := by kernel_rfl) (hr : (Region.ready .any ops listed).contains i = true := by kernel_rfl) : AnyH P W ops Q n D S (fuel + 1) listed E L := AnyH.taken i hi hsel hf hr q.pf hg hp hn
theorem Ts (i : Nat) (hi : ops[i]? = some ⟨some d, op, ty, pos, aft, g⟩) (hg : Wanted ops E g false) [hS : HeldSub L S] (hd : Nat.blt d n = true) (hn : AnyH P W ops Q n D S fuel (listed.setIfInBounds i true) ((d, undef) :: E) L)
    (hsel : Region.noSelect ops = true := by kernel_rfl) (hf : Region.free .any ops listed i = true := by kernel_rfl) (hr : (Region.ready .any ops listed).contains i = true := by kernel_rfl) : AnyH P W ops Q n D S (fuel + 1) listed E L := AnyH.skip i hi hsel hf hr q.pf hg hd hn
end
section
variable {P : Program} {W : World} {ops : Array Oper} {Q : Exit → Act → World → Prop} {n : Nat} {D : List Deferred} {E : Env} {L : Hp} {rest : List Oper} {d : Nat} {op : Op} {ty : TypeId} {pos : String} {aft : Array Edge} {v : Value} {x : Operand}
theorem Om1 (h : ev E x = some v) (hd : Nat.blt d n = true) (hn : Ops P W ops Q n D rest ((d, v) :: E) L) : Ops P W ops Q n D (⟨some d, .move x, ty, pos, aft, none⟩ :: rest) E L := Ops.pv (pv_move h) hd hn
theorem Oa1 (h : ev E x = some v) (hd : Nat.blt d n = true) (hn : Ops P W ops Q n D rest ((d, v) :: E) L) : Ops P W ops Q n D (⟨some d, .assign x, ty, pos, aft, none⟩ :: rest) E L := Ops.pv (pv_assign h) hd hn
theorem Os1 {j t : Nat} {b w : Bool} (h1 : (ops[j]?).bind (·.dst) = some t) (h2 : look t E = some (.bool b)) (h3 : (b == w) = false) (hd : Nat.blt d n = true) (hn : Ops P W ops Q n D rest ((d, undef) :: E) L) : Ops P W ops Q n D (⟨some d, op, ty, pos, aft, some (j, w)⟩ :: rest) E L := Ops.skipg ⟨t, b, h1, h2, h3⟩ hd hn
theorem Of1 {S : TypeId} {i off U k b : Nat} (hx : ev E x = some (.pointer (some ⟨b, 0, none⟩))) [hf : TyFld P S i off U] [hk : TyS P U k] (h0 : Nat.beq k 0 = false) (hd : Nat.blt d n = true) (hn : Ops P W ops Q n D rest ((d, .pointer (some ⟨b, off, none⟩)) :: E) L) : Ops P W ops Q n D (⟨some d, .fieldAddr S x i, ty, pos, aft, none⟩ :: rest) E L := Ops.pv (pv_fieldAddr0 hx h0) hd hn
theorem Ol1 {T : TypeId} {dsc : TypeDesc} {b off : Nat} {c : List Value} {T' : TypeId} {f : Nat × Nat} (hx : ev E x = some (.pointer (some ⟨b, off, none⟩))) [ht : TyD P T dsc] (h2 : aggD dsc = false) [hb : Blk L b (.cells c.toArray T' f)] (hc : nth c off = some v) (hd : Nat.blt d n = true) (hn : Ops P W ops Q n D rest ((d, v) :: E) L) : Ops P W ops Q n D (⟨some d, .load T x, ty, pos, aft, none⟩ :: rest) E L := Ops.pv (pv_load hx h2 hc) hd hn
theorem On {y : Code} (h : Wp P W Q n D y E L) : Ops P W ops (Exit.then (y.wp P Q) Q) n D [] E L := Ops.nil (Ends.seq h)
theorem Wr {id : Nat} {l : List Oper} {y : Code} (h : Ops P W l.toArray (Exit.then (y.wp P Q) Q) n D l E L) : Wp P W Q n D (.seq (.region id l.toArray false) y) E L := Wp.seq (Wp.region h)
end
end Go.SL
end
section
set_option linter.unusedVariables false
set_option linter.unusedSimpArgs false
namespace Go.SL
open Go.RowKit
def allHp (W : World) : Hp := W.heap.toList.zipIdx.map fun p => (p.2, p.1)
theorem allHp_fst (W : World) : (allHp W).map Prod.fst = List.range' 0 W.heap.size := by
 unfold allHp
 rw [List.map_map, show (Prod.fst ∘ fun p : Obj × Nat => (p.2, p.1)) = Prod.snd from rfl, List.zipIdx_map_snd, Array.length_toList]
theorem mem_allHp {W : World} {k : Nat} {o : Obj} : (k, o) ∈ allHp W ↔ W.heap[k]? = some o := by
 unfold allHp
 rw [List.mem_map]
 constructor
 ·
  rintro ⟨⟨o', i⟩, h, e⟩
  cases e
  simpa using List.mem_zipIdx_iff_getElem?.1 h
 ·
  intro h
  exact ⟨(o, k), List.mem_zipIdx_iff_getElem?.2 (by simpa using h), rfl⟩
theorem own_all (W : World) : Own W W (allHp W) :=
  ⟨rfl, rfl, rfl, by rw [allHp_fst]; exact List.nodup_range', fun p hp => mem_allHp.1 hp⟩
theorem below_of_own {W w' : World} {X : Hp} (h : Own W w' (X ++ allHp W)) : Below W.heap.size W w' := by
 have hb : ∀ k, k < W.heap.size → w'.heap[k]? = W.heap[k]? := fun k hk => by
  have e : W.heap[k]? = some W.heap[k] := Array.getElem?_eq_getElem hk
  rw [e]; exact h.get (k, W.heap[k]) (List.mem_append_right _ (mem_allHp.2 e))
 refine ⟨h.os, h.tape, h.out, ?_, hb⟩
 by_cases hs : W.heap.size ≤ w'.heap.size
 ·
  exact hs
 ·
  exfalso
  have h1 := hb w'.heap.size (by omega)
  rw [Array.getElem?_eq_none (Nat.le_refl _), Array.getElem?_eq_getElem (by omega)] at h1
  cases h1
theorem TrR.callsG {P : Program} {f : FuncId} {args : List Value} {r : Value} {W : World} (h : TrR P f args (allHp W) r) :
    Calls P f args.toArray W fun e w' => e = .returned r ∧ Below W.heap.size W w' := by
  unfold TrR Tr at h
  refine (h W W [] (by simpa using own_all W)).mono fun e w' hx => ?_
  obtain ⟨v, L', he, ⟨rfl, rfl⟩, ho⟩ := hx
  exact ⟨he, below_of_own (X := []) (by simpa using ho)⟩
end Go.SL
end
section
set_option linter.unusedVariables false
set_option linter.unusedSimpArgs false
namespace Go.SL
open Go.RowKit Go.ChangeShapes Go.WideShapes Go.Deep
def FlatV : List (Option IntKind) → List Value → Prop
  | [], [] => True
  | some k :: ks, v :: vs => (∃ n, v = .int k n ∧ (Lit.int k n).wf = true) ∧ FlatV ks vs
  | none :: ks, v :: vs => (∃ b, v = .bool b) ∧ FlatV ks vs
  | _, _ => False
theorem FlatV.len : ∀ {ks : List (Option IntKind)} {vs : List Value}, FlatV ks vs → vs.length = ks.length
  | [], [], _ => rfl
  | some _ :: ks, _ :: vs, h => by simp [FlatV.len h.2]
  | none :: ks, _ :: vs, h => by simp [FlatV.len h.2]
theorem FlatV.int {k : IntKind} {ks : List (Option IntKind)} : ∀ {vs : List Value}, FlatV (some k :: ks) vs → ∃ n us, vs = .int k n :: us ∧ (Lit.int k n).wf = true ∧ FlatV ks us
  | _ :: us, ⟨⟨n, e, hw⟩, h⟩ => ⟨n, us, by rw [e], hw, h⟩
theorem FlatV.bool {ks : List (Option IntKind)} : ∀ {vs : List Value}, FlatV (none :: ks) vs → ∃ b us, vs = .bool b :: us ∧ FlatV ks us
  | _ :: us, ⟨⟨b, e⟩, h⟩ => ⟨b, us, by rw [e], h⟩
theorem FlatV.nil : ∀ {vs : List Value}, FlatV [] vs → vs = []
  | [], _ => rfl
theorem map_of {α : Type} {f : α → List Value} {p : α → Prop} : ∀ {els : List (List Value)}, (∀ x, x ∈ els → ∃ o, x = f o ∧ p o) → ∃ l : List α, els = l.map f ∧ ∀ o, o ∈ l → p o
  | [], _ => ⟨[], rfl, fun o ho => by cases ho⟩
  | x :: els, h => by
    obtain ⟨o, rfl, hp⟩ := h x (List.mem_cons_self ..)
    obtain ⟨l, rfl, hl⟩ := map_of (p := p) (fun y hy => h y (List.mem_cons_of_mem _ hy))
    exact ⟨o :: l, rfl, fun q hq => by rcases List.mem_cons.1 hq with rfl | hq; exact hp; exact hl q hq⟩
theorem FlatV.app : ∀ {ks ls : List (Option IntKind)} {vs us : List Value}, FlatV ks vs → FlatV ls us → FlatV (ks ++ ls) (vs ++ us)
  | [], _, [], _, _, h => h
  | some _ :: ks, _, _ :: vs, _, h, h' => ⟨h.1, FlatV.app h.2 h'⟩
  | none :: ks, _, _ :: vs, _, h, h' => ⟨h.1, FlatV.app h.2 h'⟩
class FlatTy (P : Program) (t : TypeId) (ks : outParam (List (Option IntKind))) : Prop where
  size : P.cellsOf t = ks.length
  go : ∀ {H : Type} (enc : TypeId × Value → H) (w : World) (base : Nat) (spare : Nat → Bool) (held : Bool) (fuel : Nat) (cs : List Value) (x : DataW H × List MemPlace),
    DataW.trod enc P w base spare held fuel t cs = some x → FlatV ks cs
theorem FlatTy.int {P : Program} {t : TypeId} {k : IntKind} (hu : P.underlying t = some (.int k)) (hc : P.cellsOf t = 1) : FlatTy P t [some k] :=
  ⟨hc, fun enc w base spare held fuel cs x h => by obtain ⟨n, rfl, _, hw⟩ := DataW.trod_int hu h; exact ⟨⟨n, rfl, hw⟩, trivial⟩⟩
theorem FlatTy.bool {P : Program} {t : TypeId} (hu : P.underlying t = some .bool) (hc : P.cellsOf t = 1) : FlatTy P t [none] :=
  ⟨hc, fun enc w base spare held fuel cs x h => by obtain ⟨b, rfl, _⟩ := DataW.trod_bool hu h; exact ⟨⟨b, rfl⟩, trivial⟩⟩
def FlatFs (P : Program) : Nat → List Field → List (List (Option IntKind)) → Prop
  | _, [], [] => True
  | off, f :: fs, ks :: kss => f.offset = off ∧ FlatTy P f.type ks ∧ FlatFs P (off + ks.length) fs kss
  | _, _, _ => False
theorem FlatFs.nil {P : Program} {off : Nat} : FlatFs P off [] [] := trivial
theorem FlatFs.cons {P : Program} {off : Nat} {f : Field} {fs : List Field} {ks : List (Option IntKind)} {kss : List (List (Option IntKind))} (h1 : f.offset = off) (h2 : FlatTy P f.type ks) (h3 : FlatFs P (off + ks.length) fs kss) : FlatFs P off (f :: fs) (ks :: kss) := ⟨h1, h2, h3⟩
theorem FlatFs.go {P : Program} {H : Type} {enc : TypeId × Value → H} {w : World} {base : Nat} {spare : Nat → Bool} {held : Bool} {n : Nat} {cs : List Value} :
    ∀ {fs : List Field} {kss : List (List (Option IntKind))} {off : Nat}, FlatFs P off fs kss →
      (∀ f, f ∈ fs → ∃ y, DataW.trod enc P w base spare held n f.type ((cs.drop f.offset).take (P.cellsOf f.type)) = some y) → FlatV kss.flatten ((cs.drop off).take kss.flatten.length)
  | [], [], off, _, _ => by simp [FlatV]
  | f :: fs, ks :: kss, off, h, hf => by
    obtain ⟨h1, h2, h3⟩ := h
    obtain ⟨y, hy⟩ := hf f (List.mem_cons_self ..)
    have hv := h2.go enc w base spare held n _ y hy
    rw [h1, h2.size] at hv
    have ih := FlatFs.go (cs := cs) h3 (fun g hg => hf g (List.mem_cons_of_mem _ hg))
    rw [List.flatten_cons, List.length_append, List.take_add, List.drop_drop]
    exact hv.app ih
theorem FlatTy.struct {P : Program} {t : TypeId} {fs : Array Field} {kss : List (List (Option IntKind))} (hu : P.underlying t = some (.struct fs)) (hf : FlatFs P 0 fs.toList kss) (hc : P.cellsOf t = kss.flatten.length) : FlatTy P t kss.flatten :=
  ⟨hc, fun enc w base spare held fuel cs x h => by
    obtain ⟨xs, n, _, _, hl, hxl, hat⟩ := DataW.trod_struct hu h
    have := FlatFs.go (cs := cs) (enc := enc) (w := w) (base := base) (spare := spare) (held := held) (n := n) hf (fun f hf' => by
      obtain ⟨i, hi⟩ := List.mem_iff_getElem?.1 hf'
      have hlt : i < xs.length := by
        have := (List.getElem?_eq_some_iff.1 hi).1
        rw [hxl]; simpa using this
      exact ⟨xs[i], by rw [hat i f (by simpa using hi)]; exact List.getElem?_eq_getElem hlt⟩)
    rw [List.drop_zero, ← hc, ← hl, List.take_length] at this
    exact this⟩
theorem flat_arg {P : Program} {H : Type} {enc : TypeId × Value → H} {w : World} {base : Nat} {spare : Nat → Bool} {held : Bool} {t : TypeId} {cs : Array Value} {d : DataW H} {p : List MemPlace} {ks : List (Option IntKind)} [ht : FlatTy P t ks]
    (h : DataW.Trod enc P w base spare held t (.agg cs) d p) : FlatV ks cs.toList := by
  obtain ⟨fuel, h⟩ := h
  exact ht.go enc w base spare held fuel _ _ h
def ArgS (G : Hp) (k : Nat) (a : Option Addr) (els : List (List Value)) : Prop :=
  ∀ i x, els[i]? = some x → x.length = k ∧ ∃ b o, ∃ cc : List Value, ∃ T f, a = some ⟨b, o, none⟩ ∧ (b, Obj.cells cc.toArray T f) ∈ G ∧ Reads cc (o + i * k) x
theorem reads_of {c : List Value} : ∀ {vs : List Value} {off : Nat}, (∀ j v, vs[j]? = some v → c[off + j]? = some v) → Reads c off vs
  | [], _, _ => trivial
  | v :: vs, off, h => ⟨by rw [nth_eq]; exact h 0 v rfl, reads_of fun j u hu => by
      have := h (j + 1) u (by simpa using hu)
      rwa [show off + (j + 1) = off + 1 + j by omega] at this⟩
theorem cell_some {w : World} {ad : Addr} {v : Value} (h : w.cell? ad = some v) : ∃ cc T f, w.heap[ad.block]? = some (.cells cc T f) ∧ ad.spot = none ∧ cc[ad.off]? = some v := by
 unfold World.cell? at h
 split at h
 ·
  rename_i c T f hc
  split at h
  ·
   cases h
  ·
   rename_i hs
   exact ⟨c, T, f, hc, by simpa using hs, h⟩
 ·
  cases h
theorem add_block (a : Addr) (n : Nat) : (a.add n).block = a.block := by unfold Addr.add; split <;> rfl
theorem add_off (a : Addr) (n : Nat) : (a.add n).off = a.off + n := by unfold Addr.add; split <;> simp_all
theorem flat_slice2 {P : Program} {H : Type} {enc : TypeId × Value → H} {w : World} {held : Bool} {t e : TypeId} {v : Value} {d : DataW H} {p : List MemPlace} {ks : List (Option IntKind)} (hu : P.underlying t = some (.slice e)) [he : FlatTy P e ks] (hk : 0 < ks.length)
    (hv : ∃ a n c, v = .slice a n c) (h : DataW.Trod enc P w 0 (fun _ => true) held t v d p) :
    ∃ a c els, v = .slice a els.length c ∧ els.length ≤ maxLen ∧ els.length ≤ c ∧ (∀ x, x ∈ els → FlatV ks x) ∧ ArgS (allHp w) ks.length a els := by
  obtain ⟨fuel, h⟩ := h
  obtain ⟨a0, n0, c0, rfl⟩ := hv
  rcases open_slice hu h with ⟨hcs, _⟩ | ⟨a, len, cap, m, n, D, Pl, hcs, hb, hl, hm, hmm, hx, hi⟩
  · simp [Value.cells] at hcs
    obtain ⟨rfl, rfl, rfl⟩ := hcs
    exact ⟨none, 0, [], rfl, Nat.zero_le _, Nat.le_refl _, ⟨fun x hx => absurd hx (by simp), fun i x hx => by simp at hx⟩⟩
  · simp [Value.cells] at hcs
    obtain ⟨rfl, rfl, rfl⟩ := hcs
    have hmc : m = c0 := by simpa using hmm
    subst hmc
    have hex : ∀ i, ∃ cs', i < n0 → w.cells? 0 (a.add (i * P.cellsOf e)) (P.cellsOf e) = some cs' ∧ DataW.trod enc P w 0 (fun _ => true) held n e cs' = some (D i, Pl i) := fun i => by
      by_cases h' : i < n0
      · obtain ⟨cs', h1, h2⟩ := hi i (by omega)
        exact ⟨cs', fun _ => ⟨h1, h2⟩⟩
      · exact ⟨[], fun h => absurd h h'⟩
    have hel : ∀ k, k ≤ n0 → ∃ els : List (List Value), els.length = k ∧ ∀ i x, els[i]? = some x → w.cells? 0 (a.add (i * P.cellsOf e)) (P.cellsOf e) = some x ∧ DataW.trod enc P w 0 (fun _ => true) held n e x = some (D i, Pl i) := by
      intro k
      induction k with
      | zero => intro _; exact ⟨[], rfl, fun i x hx => by cases hx⟩
      | succ k ih =>
        intro hk'
        obtain ⟨els, he1, he2⟩ := ih (by omega)
        obtain ⟨cs', hcs'⟩ := hex k
        refine ⟨els ++ [cs'], by simp [he1], fun i x hx => ?_⟩
        rcases Nat.lt_or_ge i els.length with h' | h'
        · rw [List.getElem?_append_left h'] at hx; exact he2 i x hx
        · rw [List.getElem?_append_right h'] at hx
          have : i = k := by
            rcases Nat.lt_or_ge (i - els.length) 1 with h'' | h''
            · omega
            · rw [List.getElem?_eq_none (by simpa using h'')] at hx; cases hx
          subst this
          rw [he1, Nat.sub_self] at hx
          cases hx
          exact hcs' (by omega)
    obtain ⟨els, he1, he2⟩ := hel n0 (Nat.le_refl _)
    subst he1
    refine ⟨some a, m, els, rfl, by omega, by omega, fun x hx => ?_, fun i x hx => ?_⟩
    · obtain ⟨i, hi'⟩ := List.mem_iff_getElem?.1 hx
      exact he.go enc w 0 _ held n _ _ (he2 i x hi').2
    · obtain ⟨h1, h2⟩ := he2 i x hx
      have hf := he.go enc w 0 _ held n _ _ h2
      obtain ⟨_, hlen, hat⟩ := World.cells?_some h1
      rw [he.size] at hlen hat
      refine ⟨hlen, ?_⟩
      have hcell : ∀ j u, x[j]? = some u → ∃ cc T f, w.heap[a.block]? = some (.cells cc T f) ∧ cc[a.off + i * ks.length + j]? = some u := fun j u hu => by
        have hj : j < ks.length := by
          rcases Nat.lt_or_ge j ks.length with h' | h'
          · exact h'
          · rw [List.getElem?_eq_none (by omega)] at hu; cases hu
        have h0 := hat j hj
        rw [hu] at h0
        obtain ⟨cc, T, f, h1, _, h3⟩ := cell_some h0
        rw [add_block, add_block] at h1
        rw [add_off, add_off] at h3
        exact ⟨cc, T, f, h1, h3⟩
      have hsp0 : a.spot = none := by
        obtain ⟨x0, hx0'⟩ : ∃ x0, els[0]? = some x0 := ⟨els[0]'(by have := (List.getElem?_eq_some_iff.1 hx).1; omega), List.getElem?_eq_getElem _⟩
        obtain ⟨g1, _⟩ := he2 0 x0 hx0'
        obtain ⟨_, hlen0, hat0⟩ := World.cells?_some g1
        rw [he.size] at hlen0 hat0
        have e0 := hat0 0 hk
        rw [show x0[0]? = some (x0[0]'(by omega)) from List.getElem?_eq_getElem (by omega), Nat.zero_mul] at e0
        obtain ⟨_, _, _, _, h2, _⟩ := cell_some e0
        exact h2
      obtain ⟨cc, T, f, hb1, _⟩ := hcell 0 (x[0]'(by omega)) (List.getElem?_eq_getElem _)
      obtain ⟨ab, ao, asp⟩ := a
      dsimp only at hsp0 hcell hb1
      subst hsp0
      refine ⟨ab, ao, cc.toList, T, f, rfl, mem_allHp.2 (by rw [hb1]), reads_of fun j u hu => ?_⟩
      obtain ⟨cc', T', f', hb2, h3⟩ := hcell j u hu
      rw [hb1] at hb2
      cases hb2
      simpa using h3
theorem flat_slice {P : Program} {H : Type} {enc : TypeId × Value → H} {w : World} {held : Bool} {t e : TypeId} {v : Value} {d : DataW H} {p : List MemPlace} {ks : List (Option IntKind)} (hu : P.underlying t = some (.slice e)) [he : FlatTy P e ks] (hk : 0 < ks.length)
    (hv : ∃ a n c, v = .slice a n c) (h : DataW.Trod enc P w 0 (fun _ => true) held t v d p) :
    ∃ a c els, v = .slice a els.length c ∧ els.length ≤ maxLen ∧ (∀ x, x ∈ els → FlatV ks x) ∧ ArgS (allHp w) ks.length a els := by
  obtain ⟨a, c, els, h1, h2, _, h3, h4⟩ := flat_slice2 hu hk hv h
  exact ⟨a, c, els, h1, h2, h3, h4⟩
end Go.SL
end
section
set_option linter.unusedVariables false
set_option linter.unusedSimpArgs false
namespace Go.SL
theorem reads_iff {c : List Value} {off : Nat} {vs : List Value} : Reads c off vs ↔ ∀ j v, vs[j]? = some v → c[off + j]? = some v := by
 constructor
 ·
  exact Reads.at_
 ·
  revert off
  induction vs with
  | nil => intro off _; trivial
  | cons v vs ih =>
   intro off h
   refine ⟨by rw [nth_eq]; exact h 0 v rfl, ih fun j u hu => ?_⟩
   have := h (j + 1) u (by simpa using hu)
   rwa [show off + (j + 1) = off + 1 + j by omega] at this
theorem reads_split {A x B : List Value} : Reads (A ++ x ++ B) A.length x := by
 rw [reads_iff]
 intro j v hv
 have hj := (List.getElem?_eq_some_iff.1 hv).1
 rw [List.append_assoc, List.getElem?_append_right (by omega), show A.length + j - A.length = j by omega, List.getElem?_append_left hj, hv]
section pv
variable {P : Program} {n : Nat} {D : List Deferred} {E : Env} {L : Hp} {d : Option Tmp} {ty : TypeId} {pos : String} {aft : Array Edge} {g : Option (Nat × Bool)} {T : TypeId} {x y z : Operand} {v u : Value}
theorem pv_eql_slcnil {e : TypeId} {p : Option Addr} {m c : Nat} {yt : TypeId} (hx : ev E x = some (.slice p m c)) (hy : ev E y = some (.slice none 0 0)) [h : TyD P T (.slice e)] :
    Pv P n D E L ⟨d, .binOp .eql T x y yt, ty, pos, aft, g⟩ (.bool p.isNone) := by
  unfold Pv; intro a w hs _
  have h1 : (Op.equalIn 10000 T (.slice p m c) (.slice none 0 0)).run P w = .ok p.isNone w := by
    exact Go.run_equalIn_slice_nil w 9999 T e p m c h.eq
  simp [execOp, hs.ev hx, hs.ev hy, eqGuard, binOp, Op.equal, Op.maxDepth, h1]
end pv
def View (G : Hp) (sz : Nat) (v : Value) (n : Nat) (cs : List Value) : Prop :=
  cs.length = n * sz ∧ ∃ a c, v = .slice a n c ∧ n ≤ c ∧ (n = 0 ∨ ∃ b o, ∃ cc : List Value, ∃ T f, a = some ⟨b, o, none⟩ ∧ (b, Obj.cells cc.toArray T f) ∈ G ∧ Reads cc o cs)
theorem View.nil (G : Hp) (sz : Nat) : View G sz (.slice none 0 0) 0 [] := ⟨by simp, none, 0, rfl, Nat.le_refl _, .inl rfl⟩
theorem View.mono {G G' : Hp} {sz : Nat} {v : Value} {n : Nat} {cs : List Value} (h : View G sz v n cs) (hg : ∀ p, p ∈ G → p ∈ G') : View G' sz v n cs := by
 obtain ⟨h1, a, c, h2, h3, h4⟩ := h
 refine ⟨h1, a, c, h2, h3, h4.imp id ?_⟩
 rintro ⟨b, o, cc, T, f, e, hm, hr⟩
 exact ⟨b, o, cc, T, f, e, hg _ hm, hr⟩
theorem Slc.view {T : TypeId} {sz : Nat} {v : Value} {n : Nat} {cs : List Value} {H : Hp} (h : Slc T sz v n cs H) : View H sz v n cs := by
 obtain ⟨hl, ⟨rfl, rfl, rfl⟩ | ⟨b, pre, spare, cap, rfl, hc, _, rfl⟩⟩ := h
 ·
  exact ⟨hl, none, 0, rfl, Nat.le_refl _, .inl rfl⟩
 ·
  exact ⟨hl, _, cap, rfl, hc, .inr ⟨b, pre.length, _, T, (0, 0), rfl, List.mem_cons_self .., reads_split⟩⟩
theorem Reads.sub {c : List Value} {off i l : Nat} {vs : List Value} (h : Reads c off vs) : Reads c (off + i) ((vs.drop i).take l) := by
 rw [reads_iff] at h ⊢
 intro j v hv
 rw [List.getElem?_take] at hv
 split at hv
 ·
  rw [List.getElem?_drop] at hv
  rw [show off + i + j = off + (i + j) by omega]
  exact h _ v hv
 ·
  cases hv
theorem View.slice {G : Hp} {sz : Nat} {a : Option Addr} {n c : Nat} {cs : List Value} (h : View G sz (.slice a n c) n cs) {i j : Nat} (h1 : i ≤ j) (h2 : j ≤ n) :
    View G sz (.slice (if c = i then a else a.map (·.add (i * sz))) (j - i) (c - i)) (j - i) ((cs.drop (i * sz)).take ((j - i) * sz)) := by
  obtain ⟨hl, a', c', e, h3, h4⟩ := h
  cases e
  refine ⟨?_, _, _, rfl, by omega, ?_⟩
  · rw [List.length_take, List.length_drop, hl, ← Nat.sub_mul]
    exact Nat.min_eq_left (Nat.mul_le_mul_right _ (by omega))
  · by_cases hz : j - i = 0
    · exact .inl hz
    · right
      rcases h4 with h4 | ⟨b, o, cc, T, f, rfl, hm, hr⟩
      · omega
      · refine ⟨b, o + i * sz, cc, T, f, ?_, hm, hr.sub⟩
        rw [if_neg (by omega)]
        unfold Addr.add
        by_cases hi : i * sz = 0
        · simp [hi]
        · simp [hi]
theorem run_append_none {P : Program} (w : World) (t ty e : TypeId) (sz : Nat) [ht : TyD P t (.slice e)] [hk : TyS P e sz] (base : Option Addr) (m cap : Nat) (hm : m ≤ cap) (a : Option Addr) (c : Nat) :
    (Builtin.append_ #[t, t] ty #[.slice base m cap, .slice a 0 c]).run P w = .ok (.slice base m cap) w := by
  cases base <;> cases a <;> simp [Builtin.append_, TyD.run, TyS.run, Builtin.lenOf, hm, Builtin.firstCells, loadCells, loadCellsFrom, storeCells]
section app
variable {P : Program} {W : World} {n : Nat} {D : List Deferred} {E : Env} {L : Hp} {ty : TypeId} {pos : String} {aft : Array Edge} {g : Option (Nat × Bool)} {T : TypeId} {x y z : Operand} {v u : Value}
theorem Slc.cap {T : TypeId} {sz : Nat} {v : Value} {n : Nat} {cs : List Value} {H : Hp} (h : Slc T sz v n cs H) : ∃ a c, v = .slice a n c ∧ n ≤ c := by
 rcases h.2 with ⟨rfl, rfl, _⟩ | ⟨b, pre, spare, cap, rfl, hc, _⟩
 ·
  exact ⟨none, 0, rfl, Nat.le_refl _⟩
 ·
  exact ⟨_, cap, rfl, hc⟩
theorem ef_appendV {d : Nat} {t e sz bytes : Nat} {zv : Value} {m k : Nat} {cs xs : List Value} {H R : Hp} (hx : ev E x = some v) (hs' : Slc e sz v m cs H) (hy : ev E y = some u) (hv : View L sz u k xs)
    (h1 : xs.all Value.oneCell' = true) (hbd : (m + k) * bytes ≤ 140737488355328) (hmk : m + k ≤ 9223372036854775807) (hd : Nat.blt d n = true)
    [ht : TyD P t (.slice e)] [hsz : TyS P e sz] [hby : TyB P e bytes] [hz : TyZ P e zv] (hzs : zv.cells.size = sz) [hp : Part L H R] :
    Ef P W n D ⟨some d, .call { callee := .builtin .append, args := #[x, y], argTypes := #[t, t] }, ty, pos, aft, g⟩ E L
      (fun E' L' => ∃ v' H', Slc e sz v' (m + k) (cs ++ xs) H' ∧ E' = (d, v') :: E ∧ L' = H' ++ R) := by
  obtain ⟨hl, a, c, rfl, hkc, h4⟩ := hv
  rcases h4 with rfl | ⟨b, o, cc, T, f, rfl, hm, hr⟩
  · obtain rfl : xs = [] := List.eq_nil_of_length_eq_zero (by omega)
    unfold Ef
    intro Q A w next hs ho hn
    obtain ⟨base, cap, rfl, hmc⟩ := hs'.cap
    have hr := run_append_none (P := P) w t ty e sz base m cap hmc a c
    unfold Oper.wp
    rw [BigFrame.execOp_builtin]
    simp only [BigFrame.builtin_append, List.map_toArray, List.map_cons, List.map_nil, hs.ev hx, hs.ev hy, Sem.run_bind, hr, Result.andThen_ok, Sem.run_pure]
    exact hn _ _ _ _ ⟨.slice base m cap, H, by simpa using hs', rfl, rfl⟩ (hs.put hd) (ho.part hp)
  · by_cases hk : k = 0
    · subst hk
      obtain rfl : xs = [] := List.eq_nil_of_length_eq_zero (by omega)
      unfold Ef
      intro Q A w next hs ho hn
      obtain ⟨base, cap, rfl, hmc⟩ := hs'.cap
      have hr := run_append_none (P := P) w t ty e sz base m cap hmc (some ⟨b, o, none⟩) c
      unfold Oper.wp
      rw [BigFrame.execOp_builtin]
      simp only [BigFrame.builtin_append, List.map_toArray, List.map_cons, List.map_nil, hs.ev hx, hs.ev hy, Sem.run_bind, hr, Result.andThen_ok, Sem.run_pure]
      exact hn _ _ _ _ ⟨.slice base m cap, H, by simpa using hs', rfl, rfl⟩ (hs.put hd) (ho.part hp)
    · have hb : Blk L b (.cells cc.toArray T f) := ⟨hm⟩
      exact ef_append hx hs' hy hr hl h1 (Nat.ble_eq_true_of_le (by omega)) hbd hmk hd hzs
end app
section turns
variable {P : Program} {W : World} {n : Nat} {D : List Deferred} {E : Env} {L : Hp} {ty : TypeId} {pos : String} {aft : Array Edge} {g : Option (Nat × Bool)} {T : TypeId} {x y z : Operand} {v u : Value}
theorem ef_pv {d : Nat} {op : Op} (h : Pv P n D E L ⟨some d, op, ty, pos, aft, g⟩ v) (hd : Nat.blt d n = true) : Ef P W n D ⟨some d, op, ty, pos, aft, g⟩ E L (fun E' L' => E' = (d, v) :: E ∧ L' = L) := by
 unfold Pv at h
 unfold Ef
 intro Q a w next hs ho hn
 unfold Oper.wp
 rw [h a w hs ho.held]
 exact hn _ _ _ _ ⟨rfl, rfl⟩ (hs.put hd) ho
theorem ef_buildSlice2 {d : Nat} {e : Nat} {zv : Value} [ht : TyD P T (.slice e)] [hk : TyS P e 1] [hz : TyZ P e zv] (hzs : zv.cells.size = 1) (hx : ev E x = some v) (hy : ev E y = some u) (hv : v.cells = #[v]) (hu : u.cells = #[u]) (hd : Nat.blt d n = true) :
    Ef P W n D ⟨some d, .buildSlice T 2 #[(0, x), (1, y)], ty, pos, aft, g⟩ E L (fun E' L' => ∃ b, E' = (d, .slice (some ⟨b, 0, none⟩) 2 2) :: E ∧ L' = (b, .cells ([v, u] : List Value).toArray e) :: L) := by
  unfold Ef
  intro Q a w next hs ho hn
  unfold Oper.wp
  have : (execOp a.eval ⟨some d, .buildSlice T 2 #[(0, x), (1, y)], ty, pos, aft, g⟩).run P w = .ok (.value (.slice (some ⟨w.heap.size, 0, none⟩) 2 2)) (w.alloc (.cells ([v, u] : List Value).toArray e)) := by
    have hfo : Instr.fill (fun i => some (i * 1, 1)) ((Array.range (2 * 1)).map (fun i => zv.cells[i % zv.cells.size]!)) [(0, v), (1, u)] = some #[v, u] := by
      obtain ⟨p, q, hpq⟩ : ∃ p q, (Array.range (2 * 1)).map (fun i => zv.cells[i % zv.cells.size]!) = #[p, q] := ⟨zv.cells[0 % zv.cells.size]!, zv.cells[1 % zv.cells.size]!, by apply Array.ext'; simp [Array.range]⟩
      rw [hpq]
      simp [Instr.fill, hv, hu]
    have hb : ¬ (2 * 1 > 2 ^ 24) := by omega
    have hb0 : ¬ (2 * 1 = 0) := by omega
    simp only [execOp, Instr.buildSlice, Sem.run_bind, TyD.run, TyS.run, Result.andThen_ok, Sem.run_ite, if_neg hb, if_neg hb0, TyZ.run, Sem.run_pure, List.map_toArray, List.map_cons, List.map_nil, hs.ev hx, hs.ev hy, hfo, newRow, run_newObj]
    rfl
  rw [this]
  exact hn _ _ _ _ ⟨_, rfl, rfl⟩ (hs.put hd) (ho.alloc _)
end turns
theorem Slc.tail {T : TypeId} {a : Option Addr} {n c : Nat} {x : Value} {cs : List Value} {H : Hp} (h : Slc T 1 (.slice a (n + 1) c) (n + 1) (x :: cs) H) :
    Slc T 1 (.slice (if c = 1 then a else a.map (·.add (1 * 1))) n (c - 1)) n cs H := by
  obtain ⟨hl, ⟨e, _, _⟩ | ⟨b, pre, spare, cap, e, hc, hsp, rfl⟩⟩ := h
  · cases e
  · cases e
    have hl' : cs.length = n * 1 := by simp at hl; omega
    refine ⟨hl', .inr ?_⟩
    by_cases h1 : c = 1
    · subst h1
      obtain rfl : n = 0 := by omega
      obtain rfl : cs = [] := List.eq_nil_of_length_eq_zero (by omega)
      exact ⟨b, pre, x :: spare, 0, rfl, Nat.le_refl _, by simp, by simp⟩
    · refine ⟨b, pre ++ [x], spare, c - 1, ?_, by omega, by rw [show c - 1 - n = c - (n + 1) by omega]; exact hsp, by simp⟩
      rw [if_neg h1]
      simp [Addr.add]
theorem Slc.one {T : TypeId} {sz : Nat} {v : Value} {n : Nat} {cs : List Value} {H : Hp} (h : Slc T sz v n cs H) : v.oneCell' = true := by
 obtain ⟨a, c, rfl⟩ := h.form; rfl
theorem Pv.is {P : Program} {n : Nat} {D : List Deferred} {E : Env} {L : Hp} {o : Oper} {v u : Value} (h : Pv P n D E L o v) (e : v = u) : Pv P n D E L o u := e ▸ h
end Go.SL
end
section
set_option linter.unusedVariables false
set_option linter.unusedSimpArgs false
namespace Go.SL
theorem SubE.app : ∀ {A B E : Env}, SubE A E → SubE B E → SubE (A ++ B) E
  | [], _, _, _, h => h
  | (_, _) :: _, _, _, h, k => ⟨h.1, SubE.app h.2 k⟩
instance (priority := 1300) TakeS.nil {L : Hp} : TakeS L [] L := ⟨List.Perm.refl _⟩
section loop
variable {P : Program} {W : World} {Q : Exit → Act → World → Prop} {n : Nat} {D : List Deferred} {E : Env} {L : Hp}
theorem Wp.loopK {σ : Type} {c : Code} (K : Env) (V : σ → Env) (LI : σ → Hp) (I : σ → Prop) (μ : σ → Nat) (x0 : σ) (hI : I x0) (hK : SubE K E) (hE : SubE (V x0) E) (hL : ∀ w, Own W w L → Own W w (LI x0))
    (round : ∀ (x : σ) (G : Act → World → Prop), I x → (∀ y, I y → μ y < μ x → Goes W G n D (V y ++ K) (LI y)) → Wp P W (Exit.then G Q) n D c (V x ++ K) (LI x)) :
    Wp P W Q n D (.loop c) E L := Wp.loop (fun x => V x ++ K) LI I μ x0 hI (hE.app hK) hL round
end loop
def cv (p : Prop) [Decidable p] (v : Value) : Value := if p then v else undef
theorem cv_pos {p : Prop} [Decidable p] {v : Value} (h : p) : cv p v = v := if_pos h
section joins
variable {P : Program} {W : World} {ops : Array Oper} {Q : Exit → Act → World → Prop} {n : Nat} {D : List Deferred} {E : Env} {L : Hp} {rest : List Oper} {d : Nat} {op : Op} {ty : TypeId} {pos : String} {aft : Array Edge} {v : Value} {dd : Option Tmp} {g : Option (Nat × Bool)}
theorem Pv.setE {t : Nat} {u r : Value} {o : Oper} (hl : look t E = some u) (hu : u = v) (h : Pv P n D ((t, v) :: E) L o r) : Pv P n D E L o r := by
 unfold Pv at h ⊢
 intro a w hs hh
 exact h a w (hs.set hl hu) hh
theorem Ops.pvc {j t : Nat} {p : Prop} [Decidable p] (ht : (ops[j]?).bind (·.dst) = some t) (hl : look t E = some (.bool (decide p))) (hp : p → Pv P n D E L ⟨some d, op, ty, pos, aft, some (j, true)⟩ v) (hd : Nat.blt d n = true)
    (hn : Ops P W ops Q n D rest ((d, cv p v) :: E) L) : Ops P W ops Q n D (⟨some d, op, ty, pos, aft, some (j, true)⟩ :: rest) E L := by
  by_cases h : p
  · have hl' : look t E = some (.bool true) := by rw [hl, decide_eq_true h]
    rw [cv_pos h] at hn
    exact Ops.pvg ⟨t, true, ht, hl', rfl⟩ (hp h) hd hn
  · have hl' : look t E = some (.bool false) := by rw [hl, decide_eq_false h]
    rw [cv, if_neg h] at hn
    exact Ops.skipg ⟨t, false, ht, hl', rfl⟩ hd hn
theorem Ops.pvcn {j t : Nat} {p : Prop} [Decidable p] (ht : (ops[j]?).bind (·.dst) = some t) (hl : look t E = some (.bool (decide p))) (hp : ¬ p → Pv P n D E L ⟨some d, op, ty, pos, aft, some (j, false)⟩ v) (hd : Nat.blt d n = true)
    (hn : Ops P W ops Q n D rest ((d, cv (¬ p) v) :: E) L) : Ops P W ops Q n D (⟨some d, op, ty, pos, aft, some (j, false)⟩ :: rest) E L := by
  by_cases h : p
  · have hl' : look t E = some (.bool true) := by rw [hl, decide_eq_true h]
    rw [cv, if_neg (not_not_intro h)] at hn
    exact Ops.skipg ⟨t, true, ht, hl', rfl⟩ hd hn
  · have hl' : look t E = some (.bool false) := by rw [hl, decide_eq_false h]
    rw [cv_pos h] at hn
    exact Ops.pvg ⟨t, false, ht, hl', rfl⟩ (hp h) hd hn
theorem pv_pick_and {x y : Operand} {p q : Prop} [Decidable p] [Decidable q] (hc : ev E x = some (.bool (decide p))) (hy : ev E y = some (cv p (.bool (decide q)))) : Pv P n D E L ⟨dd, .pick x y (.const (.bool false)), ty, pos, aft, g⟩ (.bool (decide (p ∧ q))) := by
 by_cases h : p
 ·
  rw [cv_pos h] at hy
  rw [decide_eq_true h] at hc
  have e : decide (p ∧ q) = decide q := by simp [h]
  rw [e]; exact pv_pick_true hc hy
 ·
  rw [decide_eq_false h] at hc
  have e : decide (p ∧ q) = false := by simp [h]
  rw [e]; exact pv_pick_false hc rfl
theorem pv_pick_or {x y : Operand} {p q : Prop} [Decidable p] [Decidable q] (hc : ev E x = some (.bool (decide p))) (hy : ev E y = some (cv (¬ p) (.bool (decide q)))) : Pv P n D E L ⟨dd, .pick x (.const (.bool true)) y, ty, pos, aft, g⟩ (.bool (decide (p ∨ q))) := by
 by_cases h : p
 ·
  rw [decide_eq_true h] at hc
  have e : decide (p ∨ q) = true := by simp [h]
  rw [e]; exact pv_pick_true hc rfl
 ·
  rw [cv_pos h] at hy
  rw [decide_eq_false h] at hc
  have e : decide (p ∨ q) = decide q := by simp [h]
  rw [e]; exact pv_pick_false hc hy
end joins
section segops
variable {P : Program} {W : World} {ops : Array Oper} {Q : Exit → Act → World → Prop} {n : Nat} {D : List Deferred} {E : Env} {L R R1 R2 : Hp} {rest : List Oper} {h : Nat → Hp} {m k : Nat} {H : Hp}
end segops
theorem Tr.post {P : Program} {f : FuncId} {args : List Value} {L : Hp} {R R' : Value → Hp → Prop} (h : Tr P f args L R) (hr : ∀ v L1, R v L1 → ∃ L2, R' v L2 ∧ L1.Perm L2) : Tr P f args L R' := by
 unfold Tr at h ⊢
 intro W w F ho
 refine (h W w F ho).mono ?_
 rintro e w' ⟨v, L1, he, hR, ho'⟩
 obtain ⟨L2, h2, hp⟩ := hr v L1 hR
 exact ⟨v, L2, he, h2, ho'.perm (hp.append_right F)⟩
class Enc {α : Type} (f : α → List Value) (k : outParam Nat) : Prop where
  len : ∀ a, (f a).length = k
  one : ∀ a, (f a).all Value.oneCell' = true
def cel {α : Type} (f : α → List Value) (l : List α) : List Value := (l.map f).flatten
section cel
variable {α : Type} {f : α → List Value} {k : Nat}
theorem cel_cons (a : α) (l : List α) : cel f (a :: l) = f a ++ cel f l := by simp [cel]
theorem cel_app (l m : List α) : cel f (l ++ m) = cel f l ++ cel f m := by simp [cel]
theorem cel_one1 (a : α) : cel f [a] = f a := by simp [cel]
theorem cel_len [h : Enc f k] (l : List α) : (cel f l).length = l.length * k := by
 induction l with
 | nil => simp [cel]
 | cons a l ih => rw [cel_cons, List.length_append, h.len, ih, List.length_cons, Nat.add_mul, Nat.one_mul, Nat.add_comm]
theorem cel_one [h : Enc f k] (l : List α) : (cel f l).all Value.oneCell' = true := by
 induction l with
 | nil => rfl
 | cons a l ih => rw [cel_cons, List.all_append, h.one, ih]; rfl
theorem cel_take [h : Enc f k] : ∀ (l : List α) (i : Nat), (cel f l).take (i * k) = cel f (l.take i)
  | [], i => by simp [cel]
  | a :: l, 0 => by simp [cel]
  | a :: l, i + 1 => by
    rw [cel_cons, List.take_succ_cons, cel_cons, List.take_append, h.len, List.take_of_length_le (by rw [h.len, Nat.add_mul]; omega)]
    rw [show (i + 1) * k - k = i * k by rw [Nat.add_mul]; omega, cel_take l i]
theorem cel_drop [h : Enc f k] : ∀ (l : List α) (i : Nat), (cel f l).drop (i * k) = cel f (l.drop i)
  | [], i => by simp [cel]
  | a :: l, 0 => by simp [cel]
  | a :: l, i + 1 => by
    rw [cel_cons, List.drop_succ_cons, List.drop_append, h.len, List.drop_of_length_le (by rw [h.len, Nat.add_mul]; omega)]
    rw [show (i + 1) * k - k = i * k by rw [Nat.add_mul]; omega, cel_drop l i, List.nil_append]
theorem cel_slice [h : Enc f k] (l : List α) (i j : Nat) : ((cel f l).drop (i * k)).take (j * k) = cel f ((l.drop i).take j) := by rw [cel_drop, cel_take]
theorem View.part [h : Enc f k] {G : Hp} {a : Option Addr} {c : Nat} {l : List α} (hv : View G k (.slice a l.length c) l.length (cel f l)) {i j : Nat} (h1 : i ≤ j) (h2 : j ≤ l.length) :
    View G k (.slice (if c = i then a else a.map (·.add (i * k))) ((l.drop i).take (j - i)).length (c - i)) ((l.drop i).take (j - i)).length (cel f ((l.drop i).take (j - i))) := by
  have hh := hv.slice h1 h2
  rw [cel_slice] at hh
  have e : ((l.drop i).take (j - i)).length = j - i := by rw [List.length_take, List.length_drop]; omega
  rw [e]; exact hh
end cel
theorem slc_empty' (T sz b : Nat) : Slc T sz (.slice (some ⟨b, 0, none⟩) 0 0) 0 [] [(b, .cells ([] : List Value).toArray T)] := ⟨by simp, .inr ⟨b, [], [], 0, rfl, Nat.le_refl _, by simp, rfl⟩⟩
theorem view_nil' {G : Hp} {sz n c : Nat} {cs : List Value} (h : View G sz (.slice none n c) n cs) : n = 0 ∧ cs = [] := by
 obtain ⟨hl, a, c', e, _, h4⟩ := h
 cases e
 rcases h4 with rfl | ⟨b, o, cc, T, f, e, _⟩
 ·
  exact ⟨rfl, List.eq_nil_of_length_eq_zero (by omega)⟩
 ·
  cases e
theorem fill_congr {f g : Nat → Option (Nat × Nat)} : ∀ {parts : List (Nat × Value)} {zs : Array Value}, (∀ p, p ∈ parts → f p.1 = g p.1) → Instr.fill f zs parts = Instr.fill g zs parts
  | [], _, _ => by simp [Instr.fill]
  | (i, v) :: parts, zs, h => by
    have h0 := h (i, v) (List.mem_cons_self ..)
    dsimp only at h0
    simp only [Instr.fill, h0]
    cases g i with
    | none => rfl
    | some ab =>
      obtain ⟨a, b⟩ := ab
      dsimp only
      split
      · rfl
      · exact fill_congr (fun p hp => h p (List.mem_cons_of_mem _ hp))
section buildn
variable {P : Program} {W : World} {n : Nat} {D : List Deferred} {E : Env} {L : Hp} {ty : TypeId} {pos : String} {aft : Array Edge} {g : Option (Nat × Bool)} {T : TypeId}
theorem ef_buildSliceN {d : Nat} {e m k : Nat} {zv : Value} {parts : List (Nat × Operand)} {vs : List (Nat × Value)} {cs : List Value} (zs : List Value) (pl : List (Nat × Nat)) [ht : TyD P T (.slice e)] [hk : TyS P e k] [hz : TyZ P e zv] (hx : evps E parts = some vs)
    (hzs : (Array.range (m * k)).map (fun i => zv.cells[i % zv.cells.size]!) = zs.toArray) (hpl : vs.all (fun p => decide (pl[p.1]? = some (p.1 * k, k))) = true) (h0 : Nat.ble 1 (m * k) = true) (hb : Nat.ble (m * k) 16777216 = true) (hd : Nat.blt d n = true) [hf : Fills pl zs vs cs] :
    Ef P W n D ⟨some d, .buildSlice T m parts.toArray, ty, pos, aft, g⟩ E L (fun E' L' => ∃ b, E' = (d, .slice (some ⟨b, 0, none⟩) m m) :: E ∧ L' = (b, .cells cs.toArray e) :: L) := by
  unfold Ef
  intro Q a w next hs ho hn
  have h1 : 1 ≤ m * k := Nat.le_of_ble_eq_true h0
  have h2 : m * k ≤ 16777216 := Nat.le_of_ble_eq_true hb
  have hfe := hf.eq
  have hfc : Instr.fill (fun i => some (i * k, k)) zs.toArray vs = some cs.toArray := by
    rw [← hfe]
    refine fill_congr fun p hp => ?_
    have := List.all_eq_true.1 hpl p hp
    simpa using (of_decide_eq_true this).symm
  have hm : (parts.toArray.map fun (i, x) => (i, a.eval x)) = vs.toArray := by rw [List.map_toArray, hs.evps hx]
  unfold Oper.wp
  have : (execOp a.eval ⟨some d, .buildSlice T m parts.toArray, ty, pos, aft, g⟩).run P w = .ok (.value (.slice (some ⟨w.heap.size, 0, none⟩) m m)) (w.alloc (.cells cs.toArray e)) := by
    have hb' : ¬ (m * k > 2 ^ 24) := by omega
    have hb0 : ¬ (m * k = 0) := by omega
    simp only [execOp, Instr.buildSlice, Sem.run_bind, TyD.run, TyS.run, Result.andThen_ok, Sem.run_ite, if_neg hb', if_neg hb0, TyZ.run, Sem.run_pure]
    rw [show (Array.map (fun (x : Nat × Operand) => (x.1, a.eval x.2)) parts.toArray) = vs.toArray from hm]
    simp only [hzs, hfc, newRow, run_newObj]
    rfl
  rw [this]
  exact hn _ _ _ _ ⟨_, rfl, rfl⟩ (hs.put hd) (ho.alloc _)
end buildn
section makes
variable {P : Program} {W : World} {n : Nat} {D : List Deferred} {E : Env} {L : Hp} {ty : TypeId} {pos : String} {aft : Array Edge} {g : Option (Nat × Bool)} {T : TypeId} {x y : Operand}
end makes
instance (priority := 1250) Part.assoc {L A B T R : Hp} [h : Part L (A ++ (B ++ T)) R] : Part L ((A ++ B) ++ T) R := ⟨by have := h.perm; rwa [← List.append_assoc A B T] at this⟩
end Go.SL
end
section
set_option linter.unusedVariables false
set_option linter.unusedSimpArgs false
set_option linter.unusedSectionVars false
namespace Go.SL
abbrev sV (l : List UInt8) : Value := .string ⟨l.toArray⟩
def bC (l : List UInt8) : List Value := l.map fun b => .int .u8 (b.toNat : Int)
theorem bC_len (l : List UInt8) : (bC l).length = l.length := by simp [bC]
theorem bC_app (a b : List UInt8) : bC (a ++ b) = bC a ++ bC b := by simp [bC]
theorem bC_get {l : List UInt8} {j : Nat} {b : UInt8} (h : l[j]? = some b) : (bC l)[j]? = some (.int .u8 (b.toNat : Int)) := by simp [bC, h]
theorem str_of (s : ByteArray) : ∃ l : List UInt8, s = ⟨l.toArray⟩ := ⟨s.data.toList, by cases s; simp⟩
theorem str_toList (l : List UInt8) : (ByteArray.mk l.toArray).toList = l := by rw [ByteArray.toList_eq]
theorem str_app (a b : List UInt8) : (ByteArray.mk a.toArray) ++ (ByteArray.mk b.toArray) = ByteArray.mk (a ++ b).toArray := ByteArray.mk_append_mk a b
theorem str_size (l : List UInt8) : (ByteArray.mk l.toArray).size = l.length := by simp [ByteArray.size]
section
variable {P : Program} {n : Nat} {D : List Deferred} {E : Env} {L : Hp} {d : Option Tmp} {ty : TypeId} {pos : String} {aft : Array Edge} {g : Option (Nat × Bool)} {T : TypeId} {x y z : Operand} {a b : List UInt8} {yt : TypeId}
theorem pv_str_eql (hx : ev E x = some (sV a)) (hy : ev E y = some (sV b)) : Pv P n D E L ⟨d, .binOp .eql T x y yt, ty, pos, aft, g⟩ (.bool (decide (a = b))) := by
 unfold Pv; intro c w hs _
 simp [execOp, hs.ev hx, hs.ev hy, eqGuard, binOp, Op.stringOp, str_toList]
 by_cases h : a = b <;> simp [h]
theorem pv_str_neq (hx : ev E x = some (sV a)) (hy : ev E y = some (sV b)) : Pv P n D E L ⟨d, .binOp .neq T x y yt, ty, pos, aft, g⟩ (.bool (decide (a ≠ b))) := by
 unfold Pv; intro c w hs _
 simp [execOp, hs.ev hx, hs.ev hy, eqGuard, binOp, Op.stringOp, str_toList]
 by_cases h : a = b <;> simp [h]
theorem pv_str_add (hx : ev E x = some (sV a)) (hy : ev E y = some (sV b)) (h : a.length + b.length ≤ 9223372036854775807) : Pv P n D E L ⟨d, .binOp .add T x y yt, ty, pos, aft, g⟩ (sV (a ++ b)) := by
 unfold Pv; intro c w hs _
 have := run_string_add_sum (P := P) w ⟨a.toArray⟩ ⟨b.toArray⟩ (by simpa [ByteArray.size] using h)
 rw [str_app] at this
 simp [execOp, hs.ev hx, hs.ev hy, eqGuard, binOp, this]
theorem pv_str_len {ats : Array TypeId} (hx : ev E x = some (sV a)) (h0 : ats[0]? = some T) [hT : TyD P T .string] : Pv P n D E L ⟨d, .call { callee := .builtin .len, args := #[x], argTypes := ats }, ty, pos, aft, g⟩ (.int .i64 a.length) := by
 unfold Pv; intro c w hs hh
 rw [BigFrame.execOp_builtin]
 simp only [BigFrame.builtin_len, List.map_toArray, List.map_cons, List.map_nil, hs.ev hx, Builtin.len_, h0, List.getElem?_toArray, List.getElem?_cons_zero, Sem.run_bind, TyD.run, Result.andThen_ok, Sem.run_pure, goInt, str_size]
theorem pv_str_from {i : Nat} (hx : ev E x = some (sV a)) (hy : ev E y = some (.int .i64 (i : Int))) (h : i ≤ a.length) [hT : TyD P T .string] : Pv P n D E L ⟨d, .slice T x (some y) none none, ty, pos, aft, g⟩ (sV (a.drop i)) := by
 unfold Pv; intro c w hs hh
 have hi : (0 : Int) ≤ (i : Int) ∧ (i : Int) ≤ (a.length : Int) := ⟨by omega, by omega⟩
 have he : (ByteArray.mk a.toArray).extract i a.length = ⟨(a.drop i).toArray⟩ := by
  rw [ByteArray.extract_mk, List.take_of_length_le (by simp)]
 simp [execOp, hs.ev hx, hs.ev hy, Instr.sliceAt, Instr.slice, Instr.sliceBounds, Instr.sliceBound, asIntOf, TyD.run, str_size, hi, he]
 intro hc; omega
theorem pv_str_upto {i : Nat} (hx : ev E x = some (sV a)) (hy : ev E y = some (.int .i64 (i : Int))) (h : i ≤ a.length) [hT : TyD P T .string] : Pv P n D E L ⟨d, .slice T x none (some y) none, ty, pos, aft, g⟩ (sV (a.take i)) := by
 unfold Pv; intro c w hs hh
 have hi : (0 : Int) ≤ (i : Int) ∧ (i : Int) ≤ (a.length : Int) := ⟨by omega, by omega⟩
 have he : (ByteArray.mk a.toArray).extract 0 i = ⟨(a.take i).toArray⟩ := by
  rw [ByteArray.extract_mk]; simp
 simp [execOp, hs.ev hx, hs.ev hy, Instr.sliceAt, Instr.slice, Instr.sliceBounds, Instr.sliceBound, asIntOf, TyD.run, str_size, hi, he]
 intro hc; omega
theorem pv_str_index {i : Nat} {v : UInt8} (hx : ev E x = some (sV a)) (hy : ev E y = some (.int .i64 (i : Int))) (h : a[i]? = some v) [hT : TyD P T .string] : Pv P n D E L ⟨d, .index T x y, ty, pos, aft, g⟩ (.int .u8 (v.toNat : Int)) := by
 unfold Pv; intro c w hs hh
 obtain ⟨hi, hv⟩ := List.getElem?_eq_some_iff.1 h
 have he : (ByteArray.mk a.toArray)[i]? = some v := by
  rw [ByteArray.getElem?_lt' _ _ (by simpa [ByteArray.size] using hi)]
  subst hv; rfl
 simp [execOp, hs.ev hx, hs.ev hy, Instr.index, asIntOf, TyD.run, he]
theorem pv_str_conv1 {bx ox : Nat} {cs : List Value} {Tx : TypeId} {f : Nat × Nat} {e mc : TypeId} {v : UInt8} {dst : TypeId} (hx : ev E x = some (.slice (some ⟨bx, ox, none⟩) 1 mc)) [h1 : TyD P T (.slice e)] [h2 : TyD P e (.int .u8)] [h3 : TyD P dst .string] [hb : Blk L bx (.cells cs.toArray Tx f)] (hc : nth cs ox = some (.int .u8 (v.toNat : Int))) :
    Pv P n D E L ⟨d, .convert T dst x, ty, pos, aft, g⟩ (sV [v]) := by
  unfold Pv; intro c w hs hh
  rw [nth_eq] at hc
  have hl : (loadCells ⟨bx, ox, none⟩ 1).run P w = .ok #[.int .u8 (v.toNat : Int)] w := by
    have := run_loadCells_reads P (w := w) (b := bx) (off := ox) (vs := [.int .u8 (v.toNat : Int)]) fun j u hu => by
      cases j with
      | zero => cases hu; rw [hh.cell hb.mem, List.getElem?_toArray]; exact hc
      | succ j => simp at hu
    exact this
  have h4 := run_bytesToString (P := P) w ⟨bx, ox, none⟩ 1 mc [(v.toNat : Int)] hl
  have h5 := run_convert_bytes_string (P := P) w T dst e (some ⟨bx, ox, none⟩) 1 mc h1.eq h2.eq h3.eq
  have h6 : ([(v.toNat : Int)] : List Int).foldl (fun r n => r.push (UInt8.ofNat n.toNat)) ByteArray.empty = ⟨[v].toArray⟩ := by
    simp [ByteArray.push, ByteArray.empty, ByteArray.emptyWithCapacity]
    rfl
  rw [h6] at h4
  simp only [execOp, hs.ev hx, Sem.run_bind, h5, h4, Result.andThen_ok, Sem.run_pure]
end
section
variable {P : Program} {n : Nat} {D : List Deferred} {E : Env} {L : Hp} {d : Option Tmp} {ty : TypeId} {pos : String} {aft : Array Edge} {g : Option (Nat × Bool)} {T : TypeId} {x y z : Operand} {yt : TypeId}
theorem pv_same {f : FuncId} {fn : Func} {ats : Array TypeId} {v : Value} (hf : P.funcs[f]? = some fn) (h1 : (fn.name == "runtime.NumGoroutine") = false) (h2 : fn.body.isNone = true) (h3 : Extern.findNext fn = none) (h4 : Extern.find fn = some Extern.AbiNoEscape.same) (hx : ev E x = some v) :
    Pv P n D E L ⟨d, .call { callee := .value (.func f), args := #[x], argTypes := ats }, ty, pos, aft, g⟩ v := by
  unfold Pv; intro a w hs _
  rw [execOp_call_go, run_callFunc_extern hf h1 h2 h3 h4]
  have e : (#[] ++ #[x].map a.eval ++ #[] : Array Value) = #[v] := by simp [hs.ev hx]
  rw [e, Lib.run_noEscape]; rfl
theorem shape_of {w : World} {b : Nat} {c : List Value} {T' : TypeId} {f : Nat × Nat} (h : w.heap[b]? = some (.cells c.toArray T' f)) : w.shape? b = some (T', c.length) := by
 simp [World.shape?, h]
theorem pv_toUnsafe {b off k t dst : Nat} {c : List Value} {T' : TypeId} {f : Nat × Nat} (hx : ev E x = some (.pointer (some ⟨b, off, none⟩))) [h1 : TyD P T (.pointer t)] (h2 : P.underlying dst = some .unsafePointer) [h3 : TyS P t k] (h4 : Nat.beq k 0 = false) [hb : Blk L b (.cells c.toArray T' f)] (h5 : Nat.blt off c.length = true) :
    Pv P n D E L ⟨d, .convert T dst x, ty, pos, aft, g⟩ (.pointer (some ⟨b, off, none⟩)) := by
  unfold Pv; intro a w hs hh
  obtain ⟨i, hi, hik⟩ : ∃ i, P.info? t = some i ∧ i.size = k := by
    have := h3.eq
    cases hq : P.info? t with
    | none => rw [hq] at this; cases this
    | some i => rw [hq] at this; exact ⟨i, rfl, by simpa using this⟩
  have := Lib.run_to_unsafe (P := P) w (src := T) (dst := dst) (⟨b, off, none⟩ : Addr) h1.eq h2 hi (by rw [hik]; intro e; rw [e] at h4; cases h4) (shape_of (hh _ hb.mem)) (by simpa using h5)
  simp only [execOp, hs.ev hx, Sem.run_bind, this, Result.andThen_ok, Sem.run_pure]
theorem pv_fromUnsafe {b off u dst k : Nat} {c : List Value} {T' : TypeId} {f : Nat × Nat} (hx : ev E x = some (.pointer (some ⟨b, off, none⟩))) (h1 : P.underlying T = some .unsafePointer) [h2 : TyD P dst (.pointer u)] [h3 : TyS P u k] [hb : Blk L b (.cells c.toArray T' f)] (h4 : liesAt P P.depth T' (c.length / P.cellsOf T') off u 1 = true) :
    Pv P n D E L ⟨d, .convert T dst x, ty, pos, aft, g⟩ (.pointer (some ⟨b, off, none⟩)) := by
  unfold Pv; intro a w hs hh
  obtain ⟨i, hi, hik⟩ : ∃ i, P.info? u = some i ∧ i.size = k := by
    have := h3.eq
    cases hq : P.info? u with
    | none => rw [hq] at this; cases this
    | some i => rw [hq] at this; exact ⟨i, rfl, by simpa using this⟩
  have := Lib.run_from_unsafe (P := P) w (src := T) (dst := dst) (⟨b, off, none⟩ : Addr) h1 h2.eq hi (shape_of (hh _ hb.mem)) h4
  simp only [execOp, hs.ev hx, Sem.run_bind, this, Result.andThen_ok, Sem.run_pure]
theorem pv_neq_same {b off t k : Nat} (hx : ev E x = some (.pointer (some ⟨b, off, none⟩))) (hy : ev E y = some (.pointer (some ⟨b, off, none⟩))) [h1 : TyD P T (.pointer t)] [h2 : TyS P t k] :
    Pv P n D E L ⟨d, .binOp .neq T x y yt, ty, pos, aft, g⟩ (.bool false) := by
  unfold Pv; intro a w hs hh
  obtain ⟨i, hi⟩ : ∃ i, P.info? t = some i := by
    have := h2.eq
    cases hq : P.info? t with
    | none => rw [hq] at this; cases this
    | some i => exact ⟨i, rfl⟩
  have := Lib.run_neq_ptr_same (P := P) w (tp := T) (⟨b, off, none⟩ : Addr) h1.eq hi
  simp [execOp, hs.ev hx, hs.ev hy, eqGuard, this]
theorem pv_sliceData {a : Addr} {m c : Nat} {ats : Array TypeId} (hx : ev E x = some (.slice (some a) m c)) (hc : c ≠ 0) :
    Pv P n D E L ⟨d, .call { callee := .builtin .unsafeSliceData, args := #[x], argTypes := ats }, ty, pos, aft, g⟩ (.pointer (some a)) := by
  unfold Pv; intro A w hs hh
  rw [BigFrame.execOp_builtin]
  simp only [BigFrame.builtin_unsafeSliceData, List.map_toArray, List.map_cons, List.map_nil, hs.ev hx, Sem.run_bind, Lib.run_unsafeSliceData_row w _ _ a m c hc, Result.andThen_ok, Sem.run_pure]
theorem liesAt_bytes' {e : TypeId} (hc : P.cellsOf e = 1) (count off m : Nat) (hm : off + m ≤ count) : liesAt P P.depth e count off e m = true := by
 have hd : P.depth = (2 * (P.types.size + Made.depth) + 1) + 1 := rfl
 rw [hd]
 simp only [liesAt, Bool.or_eq_true]
 left
 rw [hd]
 simp [rowAt, hc, hm, sameLayout]
 exact .inl (Nat.mod_one off)
theorem run_unsafeString_at (w : World) (pt it tt e : TypeId) (hp : P.underlying pt = some (.pointer e)) (hc : P.cellsOf e = 1) (b off cells : Nat) (hsh : w.shape? b = some (e, cells)) (l : List UInt8) (h0 : l ≠ []) (hn : off + l.length ≤ cells) (h63 : l.length ≤ 9223372036854775807)
    (hcell : ∀ j x, l[j]? = some x → w.cell? ((⟨b, off, none⟩ : Addr).add j) = some (.int .u8 x.toNat)) :
    (Builtin.unsafeString_ #[pt, it] tt #[.pointer (some ⟨b, off, none⟩), .int .i64 l.length]).run P w = .ok (.string ⟨l.toArray⟩) (w.freeze ⟨b, off, none⟩ l.length) := by
  have hl : l.length ≠ 0 := by simpa using h0
  have hlb := Lib.run_loadBytes (P := P) w l ⟨b, off, none⟩ .empty hcell
  have hlies := liesAt_bytes' (P := P) hc (cells / P.cellsOf e) off l.length (by rw [hc]; simpa using hn)
  have h63' : ¬ (9223372036854775807 : Int) < (l.length : Int) := by omega
  have hdef : Builtin.unsafeString_ #[pt, it] tt #[.pointer (some ⟨b, off, none⟩), .int .i64 l.length] =
      (do
        let n ← asInt (.int .i64 l.length)
        if n < 0 then runtimePanic (.error "unsafe.String: len out of range")
        if n > IntKind.i64.max then unsupported (.unsafePointer "String: a length above the largest int")
        if n = 0 then pure (.string .empty)
        else if ← variablesAt ⟨b, off, none⟩ (← elemOf pt) n.toNat then do
          let s ← loadBytes ⟨b, off, none⟩ .empty n.toNat
          freeze ⟨b, off, none⟩ n.toNat
          pure (.string s)
        else unsupported (.unsafePointer "String: not so many bytes at ptr")) := rfl
  rw [hdef]
  have hmax : IntKind.i64.max = 9223372036854775807 := rfl
  have hneg : ¬ (l.length : Int) < 0 := by omega
  simp [asInt, asIntOf, hmax, h63', hneg, hl, variablesAt, hsh, elemOf, run_underlying hp, hlies, hlb]
end
section
variable {P : Program} {W : World} {n : Nat} {D : List Deferred} {E : Env} {L : Hp} {d : Nat} {ty : TypeId} {pos : String} {aft : Array Edge} {g : Option (Nat × Bool)} {T : TypeId} {x y z : Operand} {v : Value}
theorem ef_unsafeString {pt it e b off c : Nat} {l : List UInt8} {H R : Hp} (hx : ev E x = some (.pointer (some ⟨b, off, none⟩))) (hs' : Slc e 1 (.slice (some ⟨b, off, none⟩) l.length c) l.length (bC l) H) (hy : ev E y = some (.int .i64 (l.length : Int))) (h0 : l ≠ []) (h63 : l.length ≤ 9223372036854775807) (hd : Nat.blt d n = true)
    [h1 : TyD P pt (.pointer e)] (h2 : P.cellsOf e = 1) [hp : Part L H R] :
    Ef P W n D ⟨some d, .call { callee := .builtin .unsafeString, args := #[x, y], argTypes := #[pt, it] }, ty, pos, aft, g⟩ E L (fun E' L' => E' = (d, sV l) :: E ∧ L' = R) := by
  unfold Ef
  intro Q a w next hs ho hn
  have ho' := ho.part hp
  rcases hs'.2 with ⟨h, _, _⟩ | ⟨b', pre, spare, cap, hv, hmc, hsp, rfl⟩
  · cases h
  · cases hv
    have hg := ho'.get (b, .cells (pre ++ bC l ++ spare : List Value).toArray e) (by simp)
    have hr := run_unsafeString_at (P := P) w pt it ty e h1.eq h2 b pre.length _ (shape_of hg) l h0 (by simp [bC_len]) h63 (fun j u hu => by
      have hj : j < l.length := (List.getElem?_eq_some_iff.1 hu).1
      rw [addr_add]
      simp only [World.cell?, hg, Option.isSome_none, Bool.false_eq_true, if_false, List.getElem?_toArray]
      rw [List.append_assoc, List.getElem?_append_right (by omega), List.getElem?_append_left (by rw [bC_len]; omega)]
      rw [show pre.length + j - pre.length = j by omega]; exact bC_get hu)
    unfold Oper.wp
    rw [BigFrame.execOp_builtin]
    simp only [BigFrame.builtin_unsafeString, List.map_toArray, List.map_cons, List.map_nil, hs.ev hx, hs.ev hy, Sem.run_bind, hr, Result.andThen_ok, Sem.run_pure]
    refine hn _ _ _ _ ⟨rfl, rfl⟩ (hs.put hd) ?_
    have hr2 := ho'.app_right
    have hnb : ∀ p, p ∈ R → p.1 ≠ b := fun p hp e => by
      have := ho'.nd
      simp only [List.map_append, List.map_cons, List.map_nil, List.singleton_append, List.nodup_cons] at this
      exact this.1 (e ▸ List.mem_map_of_mem hp)
    refine ⟨?_, ?_, ?_, hr2.nd, fun p hp => ?_⟩
    · unfold World.freeze; split <;> exact hr2.os
    · unfold World.freeze; split <;> exact hr2.tape
    · unfold World.freeze; split <;> exact hr2.out
    · have := hr2.get p hp
      unfold World.freeze
      split
      · exact this
      · show (w.heap.modify b _)[p.1]? = _
        rw [Array.getElem?_modify, if_neg (fun e => hnb p hp e.symm)]; exact this
theorem ef_appendStr {t ts e bytes : Nat} {zv : Value} {l : List UInt8} (hx : ev E x = some (.slice none 0 0)) (hy : ev E y = some (sV l)) (h0 : l ≠ []) (hbd : l.length * bytes ≤ 140737488355328) (h63 : l.length ≤ 9223372036854775807) (hd : Nat.blt d n = true)
    [ht : TyD P t (.slice e)] [hts : TyD P ts .string] [hsz : TyS P e 1] [hby : TyB P e bytes] [hz : TyZ P e zv] (hzs : zv.cells.size = 1) :
    Ef P W n D ⟨some d, .call { callee := .builtin .append, args := #[x, y], argTypes := #[t, ts] }, ty, pos, aft, g⟩ E L
      (fun E' L' => ∃ v' H', Slc e 1 v' l.length (bC l) H' ∧ E' = (d, v') :: E ∧ L' = H' ++ L) := by
  unfold Ef
  intro Q a w next hs ho hn
  obtain ⟨i, hi, hzi⟩ := Option.bind_eq_some_iff.1 hz.eq
  have hisz : i.size = 1 := by have := hsz.eq; rw [hi] at this; simpa using this
  have hiby : i.bytes = bytes := by have := hby.eq; rw [hi] at this; simpa using this
  have hk : 0 < l.length := by
    cases l with
    | nil => exact absurd rfl h0
    | cons _ _ => exact Nat.succ_pos _
  have hn0 : l ≠ [] := h0
  have h63' : ¬ (9223372036854775807 < (l.length : Int)) := by omega
  have h48' : ¬ (281474976710656 < Builtin.nextslicecap l.length 0 * i.bytes) := by rw [nextslicecap_zero hk, hiby]; omega
  have hmap : ((ByteArray.mk l.toArray).extract 0 l.length).data.map (fun b => (Value.int .u8 b.toNat)) = (bC l).toArray := by
    rw [ByteArray.extract_mk]; simp [bC]
  have hr : (Builtin.append_ #[t, ts] ty #[.slice none 0 0, sV l]).run P w = .ok (.slice (some ⟨w.heap.size, 0, none⟩) l.length (grownCap w l.length 0 e)) (w.drew.alloc (.cells ((bC l).toArray ++ Builtin.zeroCells zv.cells (grownCap w l.length 0 e - l.length)) e)) := by
    simp [Builtin.append_, TyD.run, sizeOf, typeInfo, zeroValue, hi, hzi, Builtin.lenOf, str_size, hn0, h63', h48', Question.forced, run_firstCells_none, Builtin.firstCells, hmap, newRow, grownCap]
    rw [List.take_of_length_le (by simp)]; rfl
  unfold Oper.wp
  rw [BigFrame.execOp_builtin]
  simp only [BigFrame.builtin_append, List.map_toArray, List.map_cons, List.map_nil, hs.ev hx, hs.ev hy, Sem.run_bind, hr, Result.andThen_ok, Sem.run_pure]
  refine hn _ _ _ _ ⟨_, [(w.heap.size, .cells (([] : List Value) ++ bC l ++ (Builtin.zeroCells zv.cells (grownCap w l.length 0 e - l.length)).toList).toArray e)], ⟨by rw [bC_len, Nat.mul_one], .inr ⟨w.heap.size, [], _, grownCap w l.length 0 e, rfl, grownCap_ge w l.length 0 e, ?_, rfl⟩⟩, rfl, rfl⟩ (hs.put hd) ?_
  · rw [zeroCells_len, hzs]; exact Nat.le_refl _
  · have := (ho.drew).alloc (.cells (([] : List Value) ++ bC l ++ (Builtin.zeroCells zv.cells (grownCap w l.length 0 e - l.length)).toList).toArray e)
    have e1 : (([] : List Value) ++ bC l ++ (Builtin.zeroCells zv.cells (grownCap w l.length 0 e - l.length)).toList).toArray = (bC l).toArray ++ Builtin.zeroCells zv.cells (grownCap w l.length 0 e - l.length) := by apply Array.ext'; simp
    rw [e1] at this ⊢
    exact this
end
end Go.SL
end
section
set_option linter.unusedVariables false
set_option linter.unusedSimpArgs false
namespace Go.SL
section
variable {P : Program} {W : World} {ops : Array Oper} {Q : Exit → Act → World → Prop} {n : Nat} {D : List Deferred} {S : Hp} {fuel : Nat} {listed : Array Bool} {E : Env} {L : Hp}
theorem AnyH.splitb {t : Nat} {b : Bool} (hl : look t E = some (.bool b)) (ht : b = true → AnyH P W ops Q n D S fuel listed ((t, .bool true) :: E) L) (hf : b = false → AnyH P W ops Q n D S fuel listed ((t, .bool false) :: E) L) :
    AnyH P W ops Q n D S fuel listed E L := by
  cases b
  · exact .setE hl rfl (hf rfl)
  · exact .setE hl rfl (ht rfl)
end
section
variable {P : Program} {W : World} {n : Nat} {D : List Deferred} {E : Env} {L : Hp} {d : Nat} {ty : TypeId} {pos : String} {aft : Array Edge} {g : Option (Nat × Bool)} {T : TypeId}
end
end Go.SL
end
section
set_option linter.unusedVariables false
set_option linter.unusedSimpArgs false
set_option linter.unusedSectionVars false
namespace Go.SL
section ent
variable {κ : Type} [DecidableEq κ]
end ent
section
variable {P : Program} {W : World} {n : Nat} {D : List Deferred} {E : Env} {L : Hp} {ty : TypeId} {pos : String} {aft : Array Edge} {g : Option (Nat × Bool)} {T : TypeId} {x y z : Operand} {v : Value}
variable {κ : Type} [DecidableEq κ]
def AllI (i : Nat) (l : List (κ × Value × Nat)) : Prop := ∀ e, e ∈ l → ∃ j : Nat, j ≤ i ∧ e.2.1 = .int .i64 (j : Int)
theorem AllI.get {i : Nat} : ∀ {l : List (κ × Value × Nat)}, AllI i l → ∀ k, ∃ j : Nat, j ≤ i ∧ (mget k l).getD (.int .i64 0) = .int .i64 (j : Int)
  | [], h, k => ⟨0, Nat.zero_le _, rfl⟩
  | e :: l, h, k => by
    simp only [mget]
    split
    · obtain ⟨j, hj, he⟩ := h e (List.mem_cons_self ..)
      exact ⟨j, hj, he⟩
    · exact AllI.get (fun x hx => h x (List.mem_cons_of_mem _ hx)) k
end
end Go.SL
end
section
set_option linter.unusedVariables false
set_option linter.unusedSimpArgs false
set_option linter.unusedSectionVars false
namespace Go.Proofs.Ytkldjadpoknejaa
open Go.SL
def leB : Nat → Nat → List UInt8
  | 0, _ => []
  | w + 1, v => UInt8.ofNat v :: leB w (v / 256)
def leV : List UInt8 → Nat
  | [] => 0
  | b :: l => b.toNat + 256 * leV l
theorem leB_len : ∀ w v, (leB w v).length = w
  | 0, _ => rfl
  | w + 1, v => by rw [leB, List.length_cons, leB_len w]
theorem leB_succ : ∀ i v, leB (i + 1) v = leB i v ++ [UInt8.ofNat (v / 256 ^ i)]
  | 0, v => by simp [leB]
  | i + 1, v => by
    rw [leB, leB_succ i (v / 256), leB, List.cons_append, Nat.div_div_eq_div_mul]
    congr 4
    rw [Nat.pow_succ, Nat.mul_comm]
theorem leV_lt : ∀ l : List UInt8, leV l < 256 ^ l.length
  | [] => by simp [leV]
  | b :: l => by
    have h1 := leV_lt l
    have h2 := b.toNat_lt
    rw [leV, List.length_cons, Nat.pow_succ]
    omega
theorem leV_app : ∀ (l : List UInt8) (b : UInt8), leV (l ++ [b]) = leV l + 256 ^ l.length * b.toNat
  | [], b => by simp [leV]
  | c :: l, b => by
    rw [List.cons_append, leV, leV_app l b, leV, List.length_cons, Nat.pow_succ]
    rw [Nat.mul_add, ← Nat.mul_assoc, Nat.mul_comm 256 (256 ^ l.length)]
    omega
theorem leV_take {l : List UInt8} {i : Nat} {b : UInt8} (h : l[i]? = some b) : leV (l.take (i + 1)) = leV (l.take i) + 256 ^ i * b.toNat := by
 have hi := (List.getElem?_eq_some_iff.1 h).1
 rw [List.take_add_one, h, Option.toList_some, leV_app, List.length_take, Nat.min_eq_left (by omega)]
theorem leV_drop {l : List UInt8} {i : Nat} {b : UInt8} (h : l[i]? = some b) : leV (l.drop i) = leV (l.drop (i + 1)) * 256 + b.toNat := by
 obtain ⟨hi, hb⟩ := List.getElem?_eq_some_iff.1 h
 rw [List.drop_eq_getElem_cons hi, hb, leV]; omega
theorem pow256 {i : Nat} (h : i ≤ 8) : 256 ^ i ≤ 18446744073709551616 := by
 have := Nat.pow_le_pow_right (n := 256) (by decide) h
 exact this
theorem shrB (v i : Nat) (h : i ≤ 8) : ((v : Nat) : Int).fdiv (2 ^ (min (((8 * i : Nat) : Int)).toNat IntKind.u64.bits)) = ((v / 256 ^ i : Nat) : Int) := by
 have hb : IntKind.u64.bits = 64 := rfl
 rw [hb, Int.toNat_natCast, show min (8 * i) 64 = 8 * i by omega, Int.fdiv_eq_ediv_of_nonneg _ (by exact_mod_cast Nat.zero_le _)]
 rw [show (256 : Nat) ^ i = 2 ^ (8 * i) by rw [Nat.pow_mul]]
 norm_cast
theorem shlB (b : UInt8) (i : Nat) (h : i < 8) : IntKind.u64.wrap ((b.toNat : Int) * 2 ^ (min (((8 * i : Nat) : Int)).toNat IntKind.u64.bits)) = ((256 ^ i * b.toNat : Nat) : Int) := by
 have hb : IntKind.u64.bits = 64 := rfl
 have h1 := b.toNat_lt
 have h2 : 256 ^ i * b.toNat < 256 ^ (i + 1) := by
  rw [Nat.pow_succ]
  exact Nat.mul_lt_mul_of_pos_left (by omega) (Nat.pow_pos (by decide))
 have h3 := pow256 (i := i + 1) (by omega)
 rw [hb, Int.toNat_natCast, show min (8 * i) 64 = 8 * i by omega]
 rw [show ((b.toNat : Int) * 2 ^ (8 * i)) = ((256 ^ i * b.toNat : Nat) : Int) by
  rw [show (256 : Nat) ^ i = 2 ^ (8 * i) by rw [Nat.pow_mul], Int.natCast_mul, Int.mul_comm]; norm_cast]
 exact u64n rfl (by omega)
theorem u8conv (m : Nat) : IntKind.u8.wrap ((m : Nat) : Int) = ((UInt8.ofNat m).toNat : Int) := by
 have : (UInt8.ofNat m).toNat = m % 256 := by simp
 rw [this]
 simp [IntKind.wrap, IntKind.signed, IntKind.bits]
theorem orB {a b k : Nat} (h : a < 256 ^ k) (hk : k < 8) (hb : b < 256) : bitsI .or .u64 ((a : Nat) : Int) ((256 ^ k * b : Nat) : Int) = ((a + 256 ^ k * b : Nat) : Int) := by
 have h2 : 256 ^ k * b < 256 ^ (k + 1) := by
  rw [Nat.pow_succ]
  exact Nat.mul_lt_mul_of_pos_left hb (Nat.pow_pos (by decide))
 have h3 := pow256 (i := k + 1) (by omega)
 have h4 : 256 ^ k * b + 256 ^ k ≤ 256 ^ (k + 1) := by
  rw [Nat.pow_succ, ← Nat.mul_succ]; exact Nat.mul_le_mul_left _ hb
 have e : a ||| (256 ^ k * b) = a + 256 ^ k * b := by
  have hp : (256 : Nat) ^ k = 2 ^ (8 * k) := by rw [Nat.pow_mul]
  rw [Nat.or_comm, Nat.mul_comm, Nat.add_comm, hp, ← Nat.shiftLeft_eq]
  rw [hp] at h
  exact (Nat.shiftLeft_add_eq_or_of_lt h b).symm
 have e1 : bitsI .or .u64 ((a : Nat) : Int) ((256 ^ k * b : Nat) : Int) = IntKind.u64.wrap ((BitVec.ofInt 64 (a : Int) ||| BitVec.ofInt 64 ((256 ^ k * b : Nat) : Int)).toNat : Int) := rfl
 rw [e1, BitVec.toNat_or, BitVec.toNat_ofInt, BitVec.toNat_ofInt]
 have m1 : (((a : Nat) : Int) % ((2 ^ 64 : Nat) : Int)).toNat = a := by omega
 have m2 : ((((256 ^ k * b : Nat) : Nat) : Int) % ((2 ^ 64 : Nat) : Int)).toNat = 256 ^ k * b := by omega
 rw [m1, m2, e]
 exact u64n rfl (by omega)
theorem nth_lt {c : List Value} {o : Nat} {v : Value} (h : nth c o = some v) : o < c.length := by
 rw [nth_eq] at h; exact (List.getElem?_eq_some_iff.1 h).1
theorem nth_set {c : List Value} {o : Nat} {v : Value} (h : o < c.length) : nth (c.set o v) o = some v := by
 rw [nth_eq, List.getElem?_set_self h]
theorem setL_set {c : List Value} {o : Nat} {v : Value} (h : o < c.length) : SetL c o [v] (c.set o v) where
  len := List.length_set ..
  le := by simp; omega
  at_ := fun j => by
    rw [List.getElem?_set]
    by_cases e : o = j
    · subst e; simp [h]
    · rw [if_neg e, if_neg (by simp only [List.length_singleton]; omega)]
theorem setL_set2 {c : List Value} {o : Nat} {u v : Value} (h : o < c.length) : SetL (c.set o u) o [v] (c.set o v) := by
 have := setL_set (c := c.set o u) (v := v) (by rw [List.length_set]; exact h)
 rwa [List.set_set] at this
theorem slc_some {T sz n c : Nat} {pa : Option Addr} {cs : List Value} {H : Hp} (h : Slc T sz (.slice pa n c) n cs H) (h0 : n ≠ 0) : ∃ b o, pa = some ⟨b, o, none⟩ := by
 rcases h.2 with ⟨_, h1, _⟩ | ⟨b, pre, spare, cap, hv, _⟩
 ·
  exact absurd h1 h0
 ·
  cases hv; exact ⟨b, pre.length, rfl⟩
theorem slc_cap {T sz n c : Nat} {pa : Option Addr} {cs : List Value} {H : Hp} (h : Slc T sz (.slice pa n c) n cs H) (h0 : n ≠ 0) : c ≠ 0 := by
 rcases h.2 with ⟨_, h1, _⟩ | ⟨b, pre, spare, cap, hv, hc, _⟩
 ·
  exact absurd h1 h0
 ·
  cases hv; omega
end Go.Proofs.Ytkldjadpoknejaa
end
section
namespace Go.Proofs.Ytkldjadpoknejaa
open Go.SL
instance : Mixed Try.prog := ⟨by kernel_rfl⟩
instance : TyD Try.prog 3 (.int .i64) := ⟨Try.underlying3⟩
instance : TyS Try.prog 3 1 := ⟨by kernel_rfl⟩
instance tyZ3 : TyZ Try.prog 3 (.int .i64 0) := ⟨by kernel_rfl⟩
instance : TyD Try.prog 4 (.bool) := ⟨Try.underlying4⟩
instance : TyS Try.prog 4 1 := ⟨by kernel_rfl⟩
instance tyZ4 : TyZ Try.prog 4 (.bool false) := ⟨by kernel_rfl⟩
instance : TyD Try.prog 5 (.int .u8) := ⟨Try.underlying5⟩
instance : TyS Try.prog 5 1 := ⟨by kernel_rfl⟩
instance : TyB Try.prog 5 1 := ⟨by kernel_rfl⟩
instance tyZ5 : TyZ Try.prog 5 (.int .u8 0) := ⟨by kernel_rfl⟩
instance : TyD Try.prog 9 (.string) := ⟨Try.underlying9⟩
instance : TyS Try.prog 9 1 := ⟨by kernel_rfl⟩
instance : TyD Try.prog 20 (.interface #[]) := ⟨Try.underlying20⟩
instance : TyD Try.prog 22 (.slice 53) := ⟨Try.underlying22⟩
instance : TyS Try.prog 22 1 := ⟨by kernel_rfl⟩
instance : TyD Try.prog 23 (.slice 61) := ⟨Try.underlying23⟩
instance : TyS Try.prog 23 1 := ⟨by kernel_rfl⟩
instance : TyD Try.prog 24 (.slice 64) := ⟨Try.underlying24⟩
instance : TyS Try.prog 24 1 := ⟨by kernel_rfl⟩
instance : TyD Try.prog 25 (.slice 67) := ⟨Try.underlying25⟩
instance : TyS Try.prog 25 1 := ⟨by kernel_rfl⟩
instance : TyD Try.prog 26 (.slice 70) := ⟨Try.underlying26⟩
instance : TyS Try.prog 26 1 := ⟨by kernel_rfl⟩
instance : TyD Try.prog 27 (.slice 73) := ⟨Try.underlying27⟩
instance : TyS Try.prog 27 1 := ⟨by kernel_rfl⟩
instance : TyD Try.prog 28 (.slice 76) := ⟨Try.underlying28⟩
instance : TyS Try.prog 28 1 := ⟨by kernel_rfl⟩
instance : TyD Try.prog 30 (.struct #[⟨ "Objects", 22, 0, false, "", "", 0⟩, ⟨ "Puts", 23, 1, false, "", "", 24⟩, ⟨ "Maps", 24, 2, false, "", "", 48⟩, ⟨ "Fills", 25, 3, false, "", "", 72⟩, ⟨ "Threads", 26, 4, false, "", "", 96⟩, ⟨ "Wires", 27, 5, false, "", "", 120⟩, ⟨ "Times", 28, 6, false, "", "", 144⟩]) := ⟨Try.underlying30⟩
instance : TyS Try.prog 30 7 := ⟨by kernel_rfl⟩
instance tyZ30 : TyZ Try.prog 30 (.agg #[.slice none 0 0, .slice none 0 0, .slice none 0 0, .slice none 0 0, .slice none 0 0, .slice none 0 0, .slice none 0 0]) := ⟨by kernel_rfl⟩
instance : TyFld Try.prog 30 0 0 22 := ⟨_, _, Try.underlying30, rfl, rfl, rfl⟩
instance : TyFld Try.prog 30 1 1 23 := ⟨_, _, Try.underlying30, rfl, rfl, rfl⟩
instance : TyFld Try.prog 30 2 2 24 := ⟨_, _, Try.underlying30, rfl, rfl, rfl⟩
instance : TyFld Try.prog 30 3 3 25 := ⟨_, _, Try.underlying30, rfl, rfl, rfl⟩
instance : TyFld Try.prog 30 4 4 26 := ⟨_, _, Try.underlying30, rfl, rfl, rfl⟩
instance : TyFld Try.prog 30 5 5 27 := ⟨_, _, Try.underlying30, rfl, rfl, rfl⟩
instance : TyFld Try.prog 30 6 6 28 := ⟨_, _, Try.underlying30, rfl, rfl, rfl⟩
instance : TyPl Try.prog 30 [(0, 1), (1, 1), (2, 1), (3, 1), (4, 1), (5, 1), (6, 1)] := ⟨_, Try.underlying30, fun w => by simp [TyS.run]⟩
instance : TyD Try.prog 32 (.slice 54) := ⟨Try.underlying32⟩
instance : TyS Try.prog 32 1 := ⟨by kernel_rfl⟩
instance : TyD Try.prog 33 (.slice 62) := ⟨Try.underlying33⟩
instance : TyS Try.prog 33 1 := ⟨by kernel_rfl⟩
instance : TyD Try.prog 34 (.slice 65) := ⟨Try.underlying34⟩
instance : TyS Try.prog 34 1 := ⟨by kernel_rfl⟩
instance : TyD Try.prog 35 (.slice 68) := ⟨Try.underlying35⟩
instance : TyS Try.prog 35 1 := ⟨by kernel_rfl⟩
instance : TyD Try.prog 36 (.slice 71) := ⟨Try.underlying36⟩
instance : TyS Try.prog 36 1 := ⟨by kernel_rfl⟩
instance : TyD Try.prog 37 (.slice 74) := ⟨Try.underlying37⟩
instance : TyS Try.prog 37 1 := ⟨by kernel_rfl⟩
instance : TyD Try.prog 38 (.slice 77) := ⟨Try.underlying38⟩
instance : TyS Try.prog 38 1 := ⟨by kernel_rfl⟩
instance : TyD Try.prog 40 (.struct #[⟨ "Objects", 32, 0, false, "", "", 0⟩, ⟨ "Puts", 33, 1, false, "", "", 24⟩, ⟨ "Maps", 34, 2, false, "", "", 48⟩, ⟨ "Fills", 35, 3, false, "", "", 72⟩, ⟨ "Threads", 36, 4, false, "", "", 96⟩, ⟨ "Wires", 37, 5, false, "", "", 120⟩, ⟨ "Times", 38, 6, false, "", "", 144⟩]) := ⟨Try.underlying40⟩
instance : TyS Try.prog 40 7 := ⟨by kernel_rfl⟩
instance tyZ40 : TyZ Try.prog 40 (.agg #[.slice none 0 0, .slice none 0 0, .slice none 0 0, .slice none 0 0, .slice none 0 0, .slice none 0 0, .slice none 0 0]) := ⟨by kernel_rfl⟩
instance : TyFld Try.prog 40 0 0 32 := ⟨_, _, Try.underlying40, rfl, rfl, rfl⟩
instance : TyFld Try.prog 40 1 1 33 := ⟨_, _, Try.underlying40, rfl, rfl, rfl⟩
instance : TyFld Try.prog 40 2 2 34 := ⟨_, _, Try.underlying40, rfl, rfl, rfl⟩
instance : TyFld Try.prog 40 3 3 35 := ⟨_, _, Try.underlying40, rfl, rfl, rfl⟩
instance : TyFld Try.prog 40 4 4 36 := ⟨_, _, Try.underlying40, rfl, rfl, rfl⟩
instance : TyFld Try.prog 40 5 5 37 := ⟨_, _, Try.underlying40, rfl, rfl, rfl⟩
instance : TyFld Try.prog 40 6 6 38 := ⟨_, _, Try.underlying40, rfl, rfl, rfl⟩
instance : TyPl Try.prog 40 [(0, 1), (1, 1), (2, 1), (3, 1), (4, 1), (5, 1), (6, 1)] := ⟨_, Try.underlying40, fun w => by simp [TyS.run]⟩
instance : TyD Try.prog 53 (.struct #[⟨ "Kind", 3, 0, false, "", "", 0⟩, ⟨ "Size", 3, 1, false, "", "", 8⟩, ⟨ "Label", 3, 2, false, "", "", 16⟩]) := ⟨Try.underlying53⟩
instance : TyS Try.prog 53 3 := ⟨by kernel_rfl⟩
instance : TyB Try.prog 53 24 := ⟨by kernel_rfl⟩
instance tyZ53 : TyZ Try.prog 53 (.agg #[.int .i64 0, .int .i64 0, .int .i64 0]) := ⟨by kernel_rfl⟩
instance : TyFld Try.prog 53 0 0 3 := ⟨_, _, Try.underlying53, rfl, rfl, rfl⟩
instance : TyFld Try.prog 53 1 1 3 := ⟨_, _, Try.underlying53, rfl, rfl, rfl⟩
instance : TyFld Try.prog 53 2 2 3 := ⟨_, _, Try.underlying53, rfl, rfl, rfl⟩
instance : TyPl Try.prog 53 [(0, 1), (1, 1), (2, 1)] := ⟨_, Try.underlying53, fun w => by simp [TyS.run]⟩
instance : TyD Try.prog 54 (.struct #[⟨ "Kind", 3, 0, false, "", "", 0⟩, ⟨ "Size", 3, 1, false, "", "", 8⟩, ⟨ "Label", 3, 2, false, "", "", 16⟩]) := ⟨Try.underlying54⟩
instance : TyS Try.prog 54 3 := ⟨by kernel_rfl⟩
instance : TyB Try.prog 54 24 := ⟨by kernel_rfl⟩
instance tyZ54 : TyZ Try.prog 54 (.agg #[.int .i64 0, .int .i64 0, .int .i64 0]) := ⟨by kernel_rfl⟩
instance : TyFld Try.prog 54 0 0 3 := ⟨_, _, Try.underlying54, rfl, rfl, rfl⟩
instance : TyFld Try.prog 54 1 1 3 := ⟨_, _, Try.underlying54, rfl, rfl, rfl⟩
instance : TyFld Try.prog 54 2 2 3 := ⟨_, _, Try.underlying54, rfl, rfl, rfl⟩
instance : TyPl Try.prog 54 [(0, 1), (1, 1), (2, 1)] := ⟨_, Try.underlying54, fun w => by simp [TyS.run]⟩
instance : NumTy Try.prog 54 [.i64, .i64, .i64] := NumTy.mk' Try.underlying54 (by kernel_rfl) (by kernel_rfl) rfl (fun
    | 0, f, k, hf, hk => by obtain rfl := Option.some.inj hf; obtain rfl := Option.some.inj hk; exact ⟨by decide, rfl, Try.underlying3⟩
    | 1, f, k, hf, hk => by obtain rfl := Option.some.inj hf; obtain rfl := Option.some.inj hk; exact ⟨by decide, rfl, Try.underlying3⟩
    | 2, f, k, hf, hk => by obtain rfl := Option.some.inj hf; obtain rfl := Option.some.inj hk; exact ⟨by decide, rfl, Try.underlying3⟩
    | i + 3, f, k, hf, hk => by simp at hf)
instance : TyD Try.prog 56 (.struct #[⟨ "Node", 3, 0, false, "", "", 0⟩, ⟨ "At", 3, 1, false, "", "", 8⟩]) := ⟨Try.underlying56⟩
instance : TyS Try.prog 56 2 := ⟨by kernel_rfl⟩
instance tyZ56 : TyZ Try.prog 56 (.agg #[.int .i64 0, .int .i64 0]) := ⟨by kernel_rfl⟩
instance : TyFld Try.prog 56 0 0 3 := ⟨_, _, Try.underlying56, rfl, rfl, rfl⟩
instance : TyFld Try.prog 56 1 1 3 := ⟨_, _, Try.underlying56, rfl, rfl, rfl⟩
instance : TyPl Try.prog 56 [(0, 1), (1, 1)] := ⟨_, Try.underlying56, fun w => by simp [TyS.run]⟩
instance : NumTy Try.prog 56 [.i64, .i64] := NumTy.mk' Try.underlying56 (by kernel_rfl) (by kernel_rfl) rfl (fun
    | 0, f, k, hf, hk => by obtain rfl := Option.some.inj hf; obtain rfl := Option.some.inj hk; exact ⟨by decide, rfl, Try.underlying3⟩
    | 1, f, k, hf, hk => by obtain rfl := Option.some.inj hf; obtain rfl := Option.some.inj hk; exact ⟨by decide, rfl, Try.underlying3⟩
    | i + 2, f, k, hf, hk => by simp at hf)
instance : TyD Try.prog 57 (.int .u64) := ⟨Try.underlying57⟩
instance : TyS Try.prog 57 1 := ⟨by kernel_rfl⟩
instance tyZ57 : TyZ Try.prog 57 (.int .u64 0) := ⟨by kernel_rfl⟩
instance : TyD Try.prog 59 (.struct #[⟨ "Kind", 3, 0, false, "", "", 0⟩, ⟨ "Object", 3, 1, false, "", "", 8⟩, ⟨ "Rights", 3, 2, false, "", "", 16⟩, ⟨ "Badge", 57, 3, false, "", "", 24⟩, ⟨ "Guard", 57, 4, false, "", "", 32⟩, ⟨ "Bits", 3, 5, false, "", "", 40⟩]) := ⟨Try.underlying59⟩
instance : TyS Try.prog 59 6 := ⟨by kernel_rfl⟩
instance tyZ59 : TyZ Try.prog 59 (.agg #[.int .i64 0, .int .i64 0, .int .i64 0, .int .u64 0, .int .u64 0, .int .i64 0]) := ⟨by kernel_rfl⟩
instance : TyFld Try.prog 59 0 0 3 := ⟨_, _, Try.underlying59, rfl, rfl, rfl⟩
instance : TyFld Try.prog 59 1 1 3 := ⟨_, _, Try.underlying59, rfl, rfl, rfl⟩
instance : TyFld Try.prog 59 2 2 3 := ⟨_, _, Try.underlying59, rfl, rfl, rfl⟩
instance : TyFld Try.prog 59 3 3 57 := ⟨_, _, Try.underlying59, rfl, rfl, rfl⟩
instance : TyFld Try.prog 59 4 4 57 := ⟨_, _, Try.underlying59, rfl, rfl, rfl⟩
instance : TyFld Try.prog 59 5 5 3 := ⟨_, _, Try.underlying59, rfl, rfl, rfl⟩
instance : TyPl Try.prog 59 [(0, 1), (1, 1), (2, 1), (3, 1), (4, 1), (5, 1)] := ⟨_, Try.underlying59, fun w => by simp [TyS.run]⟩
instance : NumTy Try.prog 59 [.i64, .i64, .i64, .u64, .u64, .i64] := NumTy.mk' Try.underlying59 (by kernel_rfl) (by kernel_rfl) rfl (fun
    | 0, f, k, hf, hk => by obtain rfl := Option.some.inj hf; obtain rfl := Option.some.inj hk; exact ⟨by decide, rfl, Try.underlying3⟩
    | 1, f, k, hf, hk => by obtain rfl := Option.some.inj hf; obtain rfl := Option.some.inj hk; exact ⟨by decide, rfl, Try.underlying3⟩
    | 2, f, k, hf, hk => by obtain rfl := Option.some.inj hf; obtain rfl := Option.some.inj hk; exact ⟨by decide, rfl, Try.underlying3⟩
    | 3, f, k, hf, hk => by obtain rfl := Option.some.inj hf; obtain rfl := Option.some.inj hk; exact ⟨by decide, rfl, Try.underlying57⟩
    | 4, f, k, hf, hk => by obtain rfl := Option.some.inj hf; obtain rfl := Option.some.inj hk; exact ⟨by decide, rfl, Try.underlying57⟩
    | 5, f, k, hf, hk => by obtain rfl := Option.some.inj hf; obtain rfl := Option.some.inj hk; exact ⟨by decide, rfl, Try.underlying3⟩
    | i + 6, f, k, hf, hk => by simp at hf)
instance : TyD Try.prog 61 (.struct #[⟨ "At", 56, 0, false, "", "", 0⟩, ⟨ "Cap", 59, 2, false, "", "", 16⟩]) := ⟨Try.underlying61⟩
instance : TyS Try.prog 61 8 := ⟨by kernel_rfl⟩
instance : TyB Try.prog 61 64 := ⟨by kernel_rfl⟩
instance tyZ61 : TyZ Try.prog 61 (.agg #[.int .i64 0, .int .i64 0, .int .i64 0, .int .i64 0, .int .i64 0, .int .u64 0, .int .u64 0, .int .i64 0]) := ⟨by kernel_rfl⟩
instance : TyFld Try.prog 61 0 0 56 := ⟨_, _, Try.underlying61, rfl, rfl, rfl⟩
instance : TyFld Try.prog 61 1 2 59 := ⟨_, _, Try.underlying61, rfl, rfl, rfl⟩
instance : TyPl Try.prog 61 [(0, 2), (2, 6)] := ⟨_, Try.underlying61, fun w => by simp [TyS.run]⟩
instance : TyD Try.prog 62 (.struct #[⟨ "At", 56, 0, false, "", "", 0⟩, ⟨ "Cap", 59, 2, false, "", "", 16⟩]) := ⟨Try.underlying62⟩
instance : TyS Try.prog 62 8 := ⟨by kernel_rfl⟩
instance : TyB Try.prog 62 64 := ⟨by kernel_rfl⟩
instance tyZ62 : TyZ Try.prog 62 (.agg #[.int .i64 0, .int .i64 0, .int .i64 0, .int .i64 0, .int .i64 0, .int .u64 0, .int .u64 0, .int .i64 0]) := ⟨by kernel_rfl⟩
instance : TyFld Try.prog 62 0 0 56 := ⟨_, _, Try.underlying62, rfl, rfl, rfl⟩
instance : TyFld Try.prog 62 1 2 59 := ⟨_, _, Try.underlying62, rfl, rfl, rfl⟩
instance : TyPl Try.prog 62 [(0, 2), (2, 6)] := ⟨_, Try.underlying62, fun w => by simp [TyS.run]⟩
instance : TyD Try.prog 64 (.struct #[⟨ "Object", 3, 0, false, "", "", 0⟩, ⟨ "Space", 3, 1, false, "", "", 8⟩, ⟨ "At", 3, 2, false, "", "", 16⟩, ⟨ "Write", 4, 3, false, "", "", 24⟩]) := ⟨Try.underlying64⟩
instance : TyS Try.prog 64 4 := ⟨by kernel_rfl⟩
instance : TyB Try.prog 64 32 := ⟨by kernel_rfl⟩
instance tyZ64 : TyZ Try.prog 64 (.agg #[.int .i64 0, .int .i64 0, .int .i64 0, .bool false]) := ⟨by kernel_rfl⟩
instance : TyFld Try.prog 64 0 0 3 := ⟨_, _, Try.underlying64, rfl, rfl, rfl⟩
instance : TyFld Try.prog 64 1 1 3 := ⟨_, _, Try.underlying64, rfl, rfl, rfl⟩
instance : TyFld Try.prog 64 2 2 3 := ⟨_, _, Try.underlying64, rfl, rfl, rfl⟩
instance : TyFld Try.prog 64 3 3 4 := ⟨_, _, Try.underlying64, rfl, rfl, rfl⟩
instance : TyPl Try.prog 64 [(0, 1), (1, 1), (2, 1), (3, 1)] := ⟨_, Try.underlying64, fun w => by simp [TyS.run]⟩
instance : TyD Try.prog 65 (.struct #[⟨ "Object", 3, 0, false, "", "", 0⟩, ⟨ "Space", 3, 1, false, "", "", 8⟩, ⟨ "At", 3, 2, false, "", "", 16⟩, ⟨ "Write", 4, 3, false, "", "", 24⟩]) := ⟨Try.underlying65⟩
instance : TyS Try.prog 65 4 := ⟨by kernel_rfl⟩
instance : TyB Try.prog 65 32 := ⟨by kernel_rfl⟩
instance tyZ65 : TyZ Try.prog 65 (.agg #[.int .i64 0, .int .i64 0, .int .i64 0, .bool false]) := ⟨by kernel_rfl⟩
instance : TyFld Try.prog 65 0 0 3 := ⟨_, _, Try.underlying65, rfl, rfl, rfl⟩
instance : TyFld Try.prog 65 1 1 3 := ⟨_, _, Try.underlying65, rfl, rfl, rfl⟩
instance : TyFld Try.prog 65 2 2 3 := ⟨_, _, Try.underlying65, rfl, rfl, rfl⟩
instance : TyFld Try.prog 65 3 3 4 := ⟨_, _, Try.underlying65, rfl, rfl, rfl⟩
instance : TyPl Try.prog 65 [(0, 1), (1, 1), (2, 1), (3, 1)] := ⟨_, Try.underlying65, fun w => by simp [TyS.run]⟩
instance : TyD Try.prog 67 (.struct #[⟨ "Object", 3, 0, false, "", "", 0⟩, ⟨ "At", 3, 1, false, "", "", 8⟩, ⟨ "Word", 57, 2, false, "", "", 16⟩]) := ⟨Try.underlying67⟩
instance : TyS Try.prog 67 3 := ⟨by kernel_rfl⟩
instance : TyB Try.prog 67 24 := ⟨by kernel_rfl⟩
instance tyZ67 : TyZ Try.prog 67 (.agg #[.int .i64 0, .int .i64 0, .int .u64 0]) := ⟨by kernel_rfl⟩
instance : TyFld Try.prog 67 0 0 3 := ⟨_, _, Try.underlying67, rfl, rfl, rfl⟩
instance : TyFld Try.prog 67 1 1 3 := ⟨_, _, Try.underlying67, rfl, rfl, rfl⟩
instance : TyFld Try.prog 67 2 2 57 := ⟨_, _, Try.underlying67, rfl, rfl, rfl⟩
instance : TyPl Try.prog 67 [(0, 1), (1, 1), (2, 1)] := ⟨_, Try.underlying67, fun w => by simp [TyS.run]⟩
instance : TyD Try.prog 68 (.struct #[⟨ "Object", 3, 0, false, "", "", 0⟩, ⟨ "At", 3, 1, false, "", "", 8⟩, ⟨ "Word", 57, 2, false, "", "", 16⟩]) := ⟨Try.underlying68⟩
instance : TyS Try.prog 68 3 := ⟨by kernel_rfl⟩
instance : TyB Try.prog 68 24 := ⟨by kernel_rfl⟩
instance tyZ68 : TyZ Try.prog 68 (.agg #[.int .i64 0, .int .i64 0, .int .u64 0]) := ⟨by kernel_rfl⟩
instance : TyFld Try.prog 68 0 0 3 := ⟨_, _, Try.underlying68, rfl, rfl, rfl⟩
instance : TyFld Try.prog 68 1 1 3 := ⟨_, _, Try.underlying68, rfl, rfl, rfl⟩
instance : TyFld Try.prog 68 2 2 57 := ⟨_, _, Try.underlying68, rfl, rfl, rfl⟩
instance : TyPl Try.prog 68 [(0, 1), (1, 1), (2, 1)] := ⟨_, Try.underlying68, fun w => by simp [TyS.run]⟩
instance : NumTy Try.prog 68 [.i64, .i64, .u64] := NumTy.mk' Try.underlying68 (by kernel_rfl) (by kernel_rfl) rfl (fun
    | 0, f, k, hf, hk => by obtain rfl := Option.some.inj hf; obtain rfl := Option.some.inj hk; exact ⟨by decide, rfl, Try.underlying3⟩
    | 1, f, k, hf, hk => by obtain rfl := Option.some.inj hf; obtain rfl := Option.some.inj hk; exact ⟨by decide, rfl, Try.underlying3⟩
    | 2, f, k, hf, hk => by obtain rfl := Option.some.inj hf; obtain rfl := Option.some.inj hk; exact ⟨by decide, rfl, Try.underlying57⟩
    | i + 3, f, k, hf, hk => by simp at hf)
instance : TyD Try.prog 70 (.struct #[⟨ "Object", 3, 0, false, "", "", 0⟩, ⟨ "Level", 3, 1, false, "", "", 8⟩, ⟨ "Domain", 3, 2, false, "", "", 16⟩, ⟨ "Pc", 3, 3, false, "", "", 24⟩, ⟨ "Root", 3, 4, false, "", "", 32⟩, ⟨ "Guard", 57, 5, false, "", "", 40⟩, ⟨ "Bits", 3, 6, false, "", "", 48⟩, ⟨ "Space", 3, 7, false, "", "", 56⟩]) := ⟨Try.underlying70⟩
instance : TyS Try.prog 70 8 := ⟨by kernel_rfl⟩
instance : TyB Try.prog 70 64 := ⟨by kernel_rfl⟩
instance tyZ70 : TyZ Try.prog 70 (.agg #[.int .i64 0, .int .i64 0, .int .i64 0, .int .i64 0, .int .i64 0, .int .u64 0, .int .i64 0, .int .i64 0]) := ⟨by kernel_rfl⟩
instance : TyFld Try.prog 70 0 0 3 := ⟨_, _, Try.underlying70, rfl, rfl, rfl⟩
instance : TyFld Try.prog 70 1 1 3 := ⟨_, _, Try.underlying70, rfl, rfl, rfl⟩
instance : TyFld Try.prog 70 2 2 3 := ⟨_, _, Try.underlying70, rfl, rfl, rfl⟩
instance : TyFld Try.prog 70 3 3 3 := ⟨_, _, Try.underlying70, rfl, rfl, rfl⟩
instance : TyFld Try.prog 70 4 4 3 := ⟨_, _, Try.underlying70, rfl, rfl, rfl⟩
instance : TyFld Try.prog 70 5 5 57 := ⟨_, _, Try.underlying70, rfl, rfl, rfl⟩
instance : TyFld Try.prog 70 6 6 3 := ⟨_, _, Try.underlying70, rfl, rfl, rfl⟩
instance : TyFld Try.prog 70 7 7 3 := ⟨_, _, Try.underlying70, rfl, rfl, rfl⟩
instance : TyPl Try.prog 70 [(0, 1), (1, 1), (2, 1), (3, 1), (4, 1), (5, 1), (6, 1), (7, 1)] := ⟨_, Try.underlying70, fun w => by simp [TyS.run]⟩
instance : TyD Try.prog 71 (.struct #[⟨ "Object", 3, 0, false, "", "", 0⟩, ⟨ "Level", 3, 1, false, "", "", 8⟩, ⟨ "Domain", 3, 2, false, "", "", 16⟩, ⟨ "Pc", 3, 3, false, "", "", 24⟩, ⟨ "Root", 3, 4, false, "", "", 32⟩, ⟨ "Guard", 57, 5, false, "", "", 40⟩, ⟨ "Bits", 3, 6, false, "", "", 48⟩, ⟨ "Space", 3, 7, false, "", "", 56⟩]) := ⟨Try.underlying71⟩
instance : TyS Try.prog 71 8 := ⟨by kernel_rfl⟩
instance : TyB Try.prog 71 64 := ⟨by kernel_rfl⟩
instance tyZ71 : TyZ Try.prog 71 (.agg #[.int .i64 0, .int .i64 0, .int .i64 0, .int .i64 0, .int .i64 0, .int .u64 0, .int .i64 0, .int .i64 0]) := ⟨by kernel_rfl⟩
instance : TyFld Try.prog 71 0 0 3 := ⟨_, _, Try.underlying71, rfl, rfl, rfl⟩
instance : TyFld Try.prog 71 1 1 3 := ⟨_, _, Try.underlying71, rfl, rfl, rfl⟩
instance : TyFld Try.prog 71 2 2 3 := ⟨_, _, Try.underlying71, rfl, rfl, rfl⟩
instance : TyFld Try.prog 71 3 3 3 := ⟨_, _, Try.underlying71, rfl, rfl, rfl⟩
instance : TyFld Try.prog 71 4 4 3 := ⟨_, _, Try.underlying71, rfl, rfl, rfl⟩
instance : TyFld Try.prog 71 5 5 57 := ⟨_, _, Try.underlying71, rfl, rfl, rfl⟩
instance : TyFld Try.prog 71 6 6 3 := ⟨_, _, Try.underlying71, rfl, rfl, rfl⟩
instance : TyFld Try.prog 71 7 7 3 := ⟨_, _, Try.underlying71, rfl, rfl, rfl⟩
instance : TyPl Try.prog 71 [(0, 1), (1, 1), (2, 1), (3, 1), (4, 1), (5, 1), (6, 1), (7, 1)] := ⟨_, Try.underlying71, fun w => by simp [TyS.run]⟩
instance : NumTy Try.prog 71 [.i64, .i64, .i64, .i64, .i64, .u64, .i64, .i64] := NumTy.mk' Try.underlying71 (by kernel_rfl) (by kernel_rfl) rfl (fun
    | 0, f, k, hf, hk => by obtain rfl := Option.some.inj hf; obtain rfl := Option.some.inj hk; exact ⟨by decide, rfl, Try.underlying3⟩
    | 1, f, k, hf, hk => by obtain rfl := Option.some.inj hf; obtain rfl := Option.some.inj hk; exact ⟨by decide, rfl, Try.underlying3⟩
    | 2, f, k, hf, hk => by obtain rfl := Option.some.inj hf; obtain rfl := Option.some.inj hk; exact ⟨by decide, rfl, Try.underlying3⟩
    | 3, f, k, hf, hk => by obtain rfl := Option.some.inj hf; obtain rfl := Option.some.inj hk; exact ⟨by decide, rfl, Try.underlying3⟩
    | 4, f, k, hf, hk => by obtain rfl := Option.some.inj hf; obtain rfl := Option.some.inj hk; exact ⟨by decide, rfl, Try.underlying3⟩
    | 5, f, k, hf, hk => by obtain rfl := Option.some.inj hf; obtain rfl := Option.some.inj hk; exact ⟨by decide, rfl, Try.underlying57⟩
    | 6, f, k, hf, hk => by obtain rfl := Option.some.inj hf; obtain rfl := Option.some.inj hk; exact ⟨by decide, rfl, Try.underlying3⟩
    | 7, f, k, hf, hk => by obtain rfl := Option.some.inj hf; obtain rfl := Option.some.inj hk; exact ⟨by decide, rfl, Try.underlying3⟩
    | i + 8, f, k, hf, hk => by simp at hf)
instance : TyD Try.prog 73 (.struct #[⟨ "Line", 3, 0, false, "", "", 0⟩, ⟨ "Domain", 3, 1, false, "", "", 8⟩, ⟨ "Notice", 3, 2, false, "", "", 16⟩, ⟨ "Badge", 57, 3, false, "", "", 24⟩]) := ⟨Try.underlying73⟩
instance : TyS Try.prog 73 4 := ⟨by kernel_rfl⟩
instance : TyB Try.prog 73 32 := ⟨by kernel_rfl⟩
instance tyZ73 : TyZ Try.prog 73 (.agg #[.int .i64 0, .int .i64 0, .int .i64 0, .int .u64 0]) := ⟨by kernel_rfl⟩
instance : TyFld Try.prog 73 0 0 3 := ⟨_, _, Try.underlying73, rfl, rfl, rfl⟩
instance : TyFld Try.prog 73 1 1 3 := ⟨_, _, Try.underlying73, rfl, rfl, rfl⟩
instance : TyFld Try.prog 73 2 2 3 := ⟨_, _, Try.underlying73, rfl, rfl, rfl⟩
instance : TyFld Try.prog 73 3 3 57 := ⟨_, _, Try.underlying73, rfl, rfl, rfl⟩
instance : TyPl Try.prog 73 [(0, 1), (1, 1), (2, 1), (3, 1)] := ⟨_, Try.underlying73, fun w => by simp [TyS.run]⟩
instance : TyD Try.prog 74 (.struct #[⟨ "Line", 3, 0, false, "", "", 0⟩, ⟨ "Domain", 3, 1, false, "", "", 8⟩, ⟨ "Notice", 3, 2, false, "", "", 16⟩, ⟨ "Badge", 57, 3, false, "", "", 24⟩]) := ⟨Try.underlying74⟩
instance : TyS Try.prog 74 4 := ⟨by kernel_rfl⟩
instance : TyB Try.prog 74 32 := ⟨by kernel_rfl⟩
instance tyZ74 : TyZ Try.prog 74 (.agg #[.int .i64 0, .int .i64 0, .int .i64 0, .int .u64 0]) := ⟨by kernel_rfl⟩
instance : TyFld Try.prog 74 0 0 3 := ⟨_, _, Try.underlying74, rfl, rfl, rfl⟩
instance : TyFld Try.prog 74 1 1 3 := ⟨_, _, Try.underlying74, rfl, rfl, rfl⟩
instance : TyFld Try.prog 74 2 2 3 := ⟨_, _, Try.underlying74, rfl, rfl, rfl⟩
instance : TyFld Try.prog 74 3 3 57 := ⟨_, _, Try.underlying74, rfl, rfl, rfl⟩
instance : TyPl Try.prog 74 [(0, 1), (1, 1), (2, 1), (3, 1)] := ⟨_, Try.underlying74, fun w => by simp [TyS.run]⟩
instance : NumTy Try.prog 74 [.i64, .i64, .i64, .u64] := NumTy.mk' Try.underlying74 (by kernel_rfl) (by kernel_rfl) rfl (fun
    | 0, f, k, hf, hk => by obtain rfl := Option.some.inj hf; obtain rfl := Option.some.inj hk; exact ⟨by decide, rfl, Try.underlying3⟩
    | 1, f, k, hf, hk => by obtain rfl := Option.some.inj hf; obtain rfl := Option.some.inj hk; exact ⟨by decide, rfl, Try.underlying3⟩
    | 2, f, k, hf, hk => by obtain rfl := Option.some.inj hf; obtain rfl := Option.some.inj hk; exact ⟨by decide, rfl, Try.underlying3⟩
    | 3, f, k, hf, hk => by obtain rfl := Option.some.inj hf; obtain rfl := Option.some.inj hk; exact ⟨by decide, rfl, Try.underlying57⟩
    | i + 4, f, k, hf, hk => by simp at hf)
instance : TyS Try.prog 76 2 := ⟨by kernel_rfl⟩
instance : TyB Try.prog 76 16 := ⟨by kernel_rfl⟩
instance tyZ76 : TyZ Try.prog 76 (.agg #[.int .i64 0, .int .i64 0]) := ⟨by kernel_rfl⟩
instance : TyFld Try.prog 76 0 0 3 := ⟨_, _, Try.underlying76, rfl, rfl, rfl⟩
instance : TyFld Try.prog 76 1 1 3 := ⟨_, _, Try.underlying76, rfl, rfl, rfl⟩
instance : TyPl Try.prog 76 [(0, 1), (1, 1)] := ⟨_, Try.underlying76, fun w => by simp [TyS.run]⟩
instance : TyD Try.prog 77 (.struct #[⟨ "Domain", 3, 0, false, "", "", 0⟩, ⟨ "Ticks", 3, 1, false, "", "", 8⟩]) := ⟨Try.underlying77⟩
instance : TyS Try.prog 77 2 := ⟨by kernel_rfl⟩
instance : TyB Try.prog 77 16 := ⟨by kernel_rfl⟩
instance tyZ77 : TyZ Try.prog 77 (.agg #[.int .i64 0, .int .i64 0]) := ⟨by kernel_rfl⟩
instance : TyFld Try.prog 77 0 0 3 := ⟨_, _, Try.underlying77, rfl, rfl, rfl⟩
instance : TyFld Try.prog 77 1 1 3 := ⟨_, _, Try.underlying77, rfl, rfl, rfl⟩
instance : TyPl Try.prog 77 [(0, 1), (1, 1)] := ⟨_, Try.underlying77, fun w => by simp [TyS.run]⟩
instance : NumTy Try.prog 77 [.i64, .i64] := NumTy.mk' Try.underlying77 (by kernel_rfl) (by kernel_rfl) rfl (fun
    | 0, f, k, hf, hk => by obtain rfl := Option.some.inj hf; obtain rfl := Option.some.inj hk; exact ⟨by decide, rfl, Try.underlying3⟩
    | 1, f, k, hf, hk => by obtain rfl := Option.some.inj hf; obtain rfl := Option.some.inj hk; exact ⟨by decide, rfl, Try.underlying3⟩
    | i + 2, f, k, hf, hk => by simp at hf)
instance : TyD Try.prog 78 (.pointer 84) := ⟨Try.underlying78⟩
instance : TyD Try.prog 79 (.pointer 82) := ⟨Try.underlying79⟩
instance : TyS Try.prog 79 1 := ⟨by kernel_rfl⟩
instance : TyD Try.prog 80 (.slice 5) := ⟨Try.underlying80⟩
instance : TyS Try.prog 80 1 := ⟨by kernel_rfl⟩
instance : TyS Try.prog 82 2 := ⟨by kernel_rfl⟩
instance : TyFld Try.prog 82 0 0 79 := ⟨_, _, Try.underlying82, rfl, rfl, rfl⟩
instance : TyFld Try.prog 82 1 1 80 := ⟨_, _, Try.underlying82, rfl, rfl, rfl⟩
instance tyZ84 : TyZ Try.prog 84 (.agg #[.bool false, .pointer none, .slice none 0 0, .string ByteArray.empty]) := ⟨by kernel_rfl⟩
instance : TyFld Try.prog 84 0 0 4 := ⟨_, _, Try.underlying84, rfl, rfl, rfl⟩
instance : TyFld Try.prog 84 1 1 82 := ⟨_, _, Try.underlying84, rfl, rfl, rfl⟩
instance : TyFld Try.prog 84 2 3 9 := ⟨_, _, Try.underlying84, rfl, rfl, rfl⟩
instance : TyPl Try.prog 84 [(0, 1), (1, 2), (3, 1)] := ⟨_, Try.underlying84, fun w => by simp [TyS.run]⟩
instance tyZ99 : TyZ Try.prog 99 (.agg #[.string ByteArray.empty, .bool false]) := ⟨by kernel_rfl⟩
instance : TyFld Try.prog 99 0 0 9 := ⟨_, _, Try.underlying99, rfl, rfl, rfl⟩
instance : TyFld Try.prog 99 1 1 4 := ⟨_, _, Try.underlying99, rfl, rfl, rfl⟩
instance : TyPl Try.prog 99 [(0, 1), (1, 1)] := ⟨_, Try.underlying99, fun w => by simp [TyS.run]⟩
instance : TyD Try.prog 110 (.struct #[]) := ⟨Try.underlying110⟩
instance : TyS Try.prog 110 0 := ⟨by kernel_rfl⟩
instance tyZ110 : TyZ Try.prog 110 (.agg #[]) := ⟨by kernel_rfl⟩
instance : TyPl Try.prog 110 [] := ⟨_, Try.underlying110, fun w => by simp [TyS.run]⟩
instance : TyD Try.prog 112 (.pointer 5) := ⟨Try.underlying112⟩
instance : TyD Try.prog 120 (.pointer 3) := ⟨Try.underlying120⟩
instance : TyS Try.prog 120 1 := ⟨by kernel_rfl⟩
instance tyZ120 : TyZ Try.prog 120 (.pointer none) := ⟨by kernel_rfl⟩
instance : TyD Try.prog 151 (.slice 120) := ⟨Try.underlying151⟩
instance : GoFn Try.prog 4 := ⟨_, Try.func4, by kernel_rfl, by kernel_rfl⟩
instance : GoFn Try.prog 5 := ⟨_, Try.func5, by kernel_rfl, by kernel_rfl⟩
instance : GoFn Try.prog 6 := ⟨_, Try.func6, by kernel_rfl, by kernel_rfl⟩
instance : GoFn Try.prog 7 := ⟨_, Try.func7, by kernel_rfl, by kernel_rfl⟩
instance : GoFn Try.prog 8 := ⟨_, Try.func8, by kernel_rfl, by kernel_rfl⟩
instance : GoFn Try.prog 9 := ⟨_, Try.func9, by kernel_rfl, by kernel_rfl⟩
instance : GoFn Try.prog 10 := ⟨_, Try.func10, by kernel_rfl, by kernel_rfl⟩
instance : GoFn Try.prog 11 := ⟨_, Try.func11, by kernel_rfl, by kernel_rfl⟩
instance : GoFn Try.prog 12 := ⟨_, Try.func12, by kernel_rfl, by kernel_rfl⟩
instance : GoFn Try.prog 13 := ⟨_, Try.func13, by kernel_rfl, by kernel_rfl⟩
instance : GoFn Try.prog 14 := ⟨_, Try.func14, by kernel_rfl, by kernel_rfl⟩
instance : GoFn Try.prog 15 := ⟨_, Try.func15, by kernel_rfl, by kernel_rfl⟩
instance : GoFn Try.prog 16 := ⟨_, Try.func16, by kernel_rfl, by kernel_rfl⟩
instance : GoFn Try.prog 17 := ⟨_, Try.func17, by kernel_rfl, by kernel_rfl⟩
instance : GoFn Try.prog 18 := ⟨_, Try.func18, by kernel_rfl, by kernel_rfl⟩
instance : GoFn Try.prog 19 := ⟨_, Try.func19, by kernel_rfl, by kernel_rfl⟩
instance : GoFn Try.prog 20 := ⟨_, Try.func20, by kernel_rfl, by kernel_rfl⟩
instance : GoFn Try.prog 21 := ⟨_, Try.func21, by kernel_rfl, by kernel_rfl⟩
instance : GoFn Try.prog 22 := ⟨_, Try.func22, by kernel_rfl, by kernel_rfl⟩
instance : GoFn Try.prog 23 := ⟨_, Try.func23, by kernel_rfl, by kernel_rfl⟩
instance : GoFn Try.prog 24 := ⟨_, Try.func24, by kernel_rfl, by kernel_rfl⟩
instance : GoFn Try.prog 25 := ⟨_, Try.func25, by kernel_rfl, by kernel_rfl⟩
instance : GoFn Try.prog 26 := ⟨_, Try.func26, by kernel_rfl, by kernel_rfl⟩
instance : GoFn Try.prog 27 := ⟨_, Try.func27, by kernel_rfl, by kernel_rfl⟩
instance : GoFn Try.prog 28 := ⟨_, Try.func28, by kernel_rfl, by kernel_rfl⟩
instance : GoFn Try.prog 29 := ⟨_, Try.func29, by kernel_rfl, by kernel_rfl⟩
instance : GoFn Try.prog 30 := ⟨_, Try.func30, by kernel_rfl, by kernel_rfl⟩
instance : GoFn Try.prog 31 := ⟨_, Try.func31, by kernel_rfl, by kernel_rfl⟩
instance : GoFn Try.prog 32 := ⟨_, Try.func32, by kernel_rfl, by kernel_rfl⟩
instance : GoFn Try.prog 34 := ⟨_, Try.func34, by kernel_rfl, by kernel_rfl⟩
instance : GoFn Try.prog 35 := ⟨_, Try.func35, by kernel_rfl, by kernel_rfl⟩
instance : GoFn Try.prog 36 := ⟨_, Try.func36, by kernel_rfl, by kernel_rfl⟩
instance : GoFn Try.prog 37 := ⟨_, Try.func37, by kernel_rfl, by kernel_rfl⟩
instance : GoFn Try.prog 38 := ⟨_, Try.func38, by kernel_rfl, by kernel_rfl⟩
instance : GoFn Try.prog 39 := ⟨_, Try.func39, by kernel_rfl, by kernel_rfl⟩
instance : GoFn Try.prog 40 := ⟨_, Try.func40, by kernel_rfl, by kernel_rfl⟩
instance : GoFn Try.prog 41 := ⟨_, Try.func41, by kernel_rfl, by kernel_rfl⟩
instance : GoFn Try.prog 42 := ⟨_, Try.func42, by kernel_rfl, by kernel_rfl⟩
instance : GoFn Try.prog 43 := ⟨_, Try.func43, by kernel_rfl, by kernel_rfl⟩
instance : GoFn Try.prog 44 := ⟨_, Try.func44, by kernel_rfl, by kernel_rfl⟩
instance : GoFn Try.prog 45 := ⟨_, Try.func45, by kernel_rfl, by kernel_rfl⟩
instance : GoFn Try.prog 46 := ⟨_, Try.func46, by kernel_rfl, by kernel_rfl⟩
instance : GoFn Try.prog 47 := ⟨_, Try.func47, by kernel_rfl, by kernel_rfl⟩
instance : GoFn Try.prog 48 := ⟨_, Try.func48, by kernel_rfl, by kernel_rfl⟩
instance : GoFn Try.prog 49 := ⟨_, Try.func49, by kernel_rfl, by kernel_rfl⟩
instance : GoFn Try.prog 50 := ⟨_, Try.func50, by kernel_rfl, by kernel_rfl⟩
instance : GoFn Try.prog 51 := ⟨_, Try.func51, by kernel_rfl, by kernel_rfl⟩
instance : GoFn Try.prog 52 := ⟨_, Try.func52, by kernel_rfl, by kernel_rfl⟩
end Go.Proofs.Ytkldjadpoknejaa
end
section
set_option linter.unusedVariables false
set_option linter.unusedSimpArgs false
set_option linter.unusedSectionVars false
namespace Go.SL
attribute [local semireducible] Ops Wp Ends Goes Ef AnyH Turn Tr Pv Res RVal
def TrPostE (R : Value → Hp → Prop) (X : List PanicEntry → Hp → Prop) (W : World) (F : Hp) : Ending → World → Prop := fun e w' =>
  (∃ v L', e = .returned v ∧ R v L' ∧ Own W w' (L' ++ F)) ∨ ∃ c L', e = .panicked c ∧ X c L' ∧ Own W w' (L' ++ F)
def TrE (P : Program) (f : FuncId) (args : List Value) (L : Hp) (R : Value → Hp → Prop) (X : List PanicEntry → Hp → Prop) : Prop :=
  ∀ W w F, Own W w (L ++ F) → Calls P f args.toArray w (TrPostE R X W F)
theorem TrE.enter {P : Program} {f : FuncId} {fn : Func} {c : Code} {n : Nat} {args : List Value} {L : Hp} {R : Value → Hp → Prop} {X : List PanicEntry → Hp → Prop}
    (hf : P.funcs[f]? = some fn) (hb : fn.body = some c) (hn : fn.ntmps = n) (hle : Nat.ble args.length n = true)
    (h : ∀ W F, Wp P W (bodyPost P fn (TrPostE R X W F)) n [] c (argsEnv 0 args) (L ++ F)) : TrE P f args L R X := fun W w F ho =>
  calls_of_wp hf hb (by
    subst hn
    exact h W F _ w (sees_start hle) ho)
theorem TrE.mono {P : Program} {f : FuncId} {args : List Value} {L : Hp} {R R' : Value → Hp → Prop} {X X' : List PanicEntry → Hp → Prop} (h : TrE P f args L R X) (hr : ∀ v L', R v L' → R' v L') (hx : ∀ c L', X c L' → X' c L') : TrE P f args L R' X' :=
  fun W w F ho => (h W w F ho).mono fun _ _ h => by
    rcases h with ⟨v, L', he, hR, ho'⟩ | ⟨c, L', he, hX, ho'⟩
    · exact .inl ⟨v, L', he, hr _ _ hR, ho'⟩
    · exact .inr ⟨c, L', he, hx _ _ hX, ho'⟩
theorem Ends.retE {P : Program} {W : World} {fn : Func} {R : Value → Hp → Prop} {X : List PanicEntry → Hp → Prop} {F : Hp} {n : Nat} {E : Env} {L L' : Hp} {v : Value} {M : Hp}
    (hres : Res P fn n [] E L v) (hR : R v L') [ha : App L' F M] [hd : Drop L M] : Ends W (bodyPost P fn (TrPostE R X W F)) n [] .ret E L :=
  fun a w hs ho => ⟨hs.dfs, v, hres a w hs ho.held, .inl ⟨v, L', rfl, hR, by rw [ha.eq]; exact hd.own ho⟩⟩
theorem Ends.finE {P : Program} {W : World} {fn : Func} {R : Value → Hp → Prop} {X : List PanicEntry → Hp → Prop} {F : Hp} {n : Nat} {E : Env} {L L' : Hp} {v : Value} {M : Hp}
    (hres : Res P fn n [] E L v) (hR : R v L') [ha : App L' F M] [hd : Drop L M] : Ends W (bodyPost P fn (TrPostE R X W F)) n [] .normal E L :=
  fun a w hs ho => ⟨hs.dfs, v, hres a w hs ho.held, .inl ⟨v, L', rfl, hR, by rw [ha.eq]; exact hd.own ho⟩⟩
instance (priority := 1260) Part.consApp2 {x : Nat × Obj} {L A T R : Hp} [h : Part L (x :: (A ++ T)) R] : Part L ((x :: A) ++ T) R := ⟨h.perm⟩
class PT (W : World) (D : List Deferred) (Q : Exit → Act → World → Prop) (X : outParam (List PanicEntry → Hp → Prop)) (F : outParam Hp) : Prop where
  pt : ∀ c a w L', a.defers = D → X c L' → Own W w (L' ++ F) → Q (.panic c) a w
instance PT.body {P : Program} {W : World} {fn : Func} {R : Value → Hp → Prop} {X : List PanicEntry → Hp → Prop} {F : Hp} : PT W [] (bodyPost P fn (TrPostE R X W F)) X F :=
  ⟨fun c a w L' hd hx ho => ⟨hd, .inr ⟨c, L', rfl, hx, ho⟩⟩⟩
instance PT.then_ {W : World} {D : List Deferred} {Q : Exit → Act → World → Prop} {K : Act → World → Prop} {X : List PanicEntry → Hp → Prop} {F : Hp} [h : PT W D Q X F] : PT W D (Exit.then K Q) X F := ⟨h.pt⟩
instance PT.block_ {W : World} {D : List Deferred} {Q : Exit → Act → World → Prop} {id : Nat} {X : List PanicEntry → Hp → Prop} {F : Hp} [h : PT W D Q X F] : PT W D (Exit.inBlock id Q) X F := ⟨h.pt⟩
section
variable {P : Program} {W : World} {ops : Array Oper} {Q : Exit → Act → World → Prop} {n : Nat} {D : List Deferred} {E : Env} {L : Hp} {rest : List Oper} {ty : TypeId} {pos : String} {aft : Array Edge} {g : Option (Nat × Bool)} {K : Env → Hp → Prop} {X Y : List PanicEntry → Hp → Prop} {G : Hp}
def EfX (P : Program) (W : World) (n : Nat) (D : List Deferred) (o : Oper) (E : Env) (L : Hp) (K : Env → Hp → Prop) (X : List PanicEntry → Hp → Prop) : Prop :=
  ∀ (Q : Exit → Act → World → Prop) a w (next : Act → World → Prop), Sees n D E a → Own W w L →
    (∀ E' L' a' w', K E' L' → Sees n D E' a' → Own W w' L' → next a' w') → (∀ c L' w', X c L' → Own W w' L' → Q (.panic c) a w') → o.wp P a w next Q
theorem Ops.efx {o : Oper} (hg : o.guard = none) (h : EfX P W n D o E L K X) [hq : PT W D Q Y G] (hx : ∀ c L', X c L' → ∃ L2, Y c L2 ∧ Drop L' (L2 ++ G)) (hn : ∀ E' L', K E' L' → Ops P W ops Q n D rest E' L') : Ops P W ops Q n D (o :: rest) E L := fun a w hs ho =>
  wpList_plain hg fun K' hK' => h Q a w K' hs ho (fun E' L' a' w' k hs' ho' => hK' _ _ (hn E' L' k a' w' hs' ho')) (fun c L' w' hX ho' => by
    obtain ⟨L2, hY, hd⟩ := hx c L' hX
    exact hq.pt c a w' L2 hs.dfs hY (hd.own ho'))
theorem Turn.efx {S : Hp} {fuel : Nat} {listed : Array Bool} {i : Nat} {o : Oper} (hi : ops[i]? = some o) (hg : Wanted ops E o.guard true) (h : EfX P W n D o E L K X) [hq : PT W D Q Y G] (hx : ∀ c L', X c L' → ∃ L2, Y c L2 ∧ Drop L' (L2 ++ G)) (hS : ∀ E' L', K E' L' → HeldSub L' S)
    (hn : ∀ E' L', K E' L' → AnyH P W ops Q n D S fuel (listed.setIfInBounds i true) E' L') : Turn P W ops Q n D S fuel listed i E L := fun a w hs ho => by
  unfold wpOp
  simp only [hi]
  rw [if_pos (wanted_of hg hs)]
  exact .inl (h Q a w _ hs ho (fun E' L' a' w' k hs' ho' => ⟨ho'.heldSub (hS _ _ k), hn E' L' k a' w' hs' ho'⟩) (fun c L' w' hX ho' => by
    obtain ⟨L2, hY, hd⟩ := hx c L' hX
    exact hq.pt c a w' L2 hs.dfs hY (hd.own ho')))
theorem efx_call {d : Nat} {f : FuncId} {xs : List Operand} {ats : Array TypeId} {args : List Value} {Lp F : Hp} {R : Value → Hp → Prop} (ht : TrE P f args Lp R X) [hf : GoFn P f] (hx : evs E xs = some args) (hd : Nat.blt d n = true) [hp : Part L Lp F] :
    EfX P W n D ⟨some d, .call { callee := .value (.func f), args := xs.toArray, argTypes := ats }, ty, pos, aft, g⟩ E L (fun E' L' => ∃ v L1, R v L1 ∧ E' = (d, v) :: E ∧ L' = L1 ++ F) (fun c L' => ∃ L1, X c L1 ∧ L' = L1 ++ F) := fun Q a w next hs ho hn hpn => by
  unfold Oper.wp
  rw [execOp_call_go]
  have e : (#[] ++ xs.toArray.map a.eval ++ #[] : Array Value) = args.toArray := by simp [hs.evs hx]
  rw [e, run_callFunc]
  refine (ht W w F (ho.part hp)).mono ?_
  rintro e' w' (⟨v, L1, rfl, hR, ho'⟩ | ⟨c, L1, rfl, hX, ho'⟩)
  · exact hn _ _ _ _ ⟨v, L1, hR, rfl, rfl⟩ (hs.put hd) ho'
  · exact hpn _ _ _ ⟨L1, hX, rfl⟩ ho'
theorem efx_callf {x : Operand} {d : Nat} {f : FuncId} {xs : List Operand} {ats : Array TypeId} {args cap : List Value} {Lp F : Hp} {R : Value → Hp → Prop} (hv : ev E x = some (.func (.func f) #[] cap.toArray)) (hx : evs E xs = some args) (ht : TrE P f (args ++ cap) Lp R X) [hf : GoFn P f] (hd : Nat.blt d n = true) [hp : Part L Lp F] :
    EfX P W n D ⟨some d, .call { callee := .value x, args := xs.toArray, argTypes := ats }, ty, pos, aft, g⟩ E L (fun E' L' => ∃ v L1, R v L1 ∧ E' = (d, v) :: E ∧ L' = L1 ++ F) (fun c L' => ∃ L1, X c L1 ∧ L' = L1 ++ F) := fun Q a w next hs ho hn hpn => by
  unfold Oper.wp
  have e : (execOp a.eval ⟨some d, .call { callee := .value x, args := xs.toArray, argTypes := ats }, ty, pos, aft, g⟩).run P w = .ok (.enter f (args ++ cap).toArray) w := by
    simp only [execOp, resolve, hs.ev hv, Deferred.ofValue, List.map_toArray, hs.evs hx, Sem.run_bind, Sem.run_pure, Result.andThen_ok, invoke]
    rw [show ((#[] : Array Value) ++ args.toArray ++ cap.toArray) = (args ++ cap).toArray by simp, run_callFunc]
  rw [e]
  refine (ht W w F (ho.part hp)).mono ?_
  rintro e' w' (⟨v, L1, rfl, hR, ho'⟩ | ⟨c, L1, rfl, hX, ho'⟩)
  · exact hn _ _ _ _ ⟨v, L1, hR, rfl, rfl⟩ (hs.put hd) ho'
  · exact hpn _ _ _ ⟨L1, hX, rfl⟩ ho'
theorem pv_iface {d : Option Tmp} {T : TypeId} {x : Operand} {v : Value} {S : Hp} {dsc : TypeDesc} [ht : TyD P T dsc] (hd : (match dsc with | .interface _ => false | _ => true) = true) (hx : ev E x = some v) : Pv P n D E S ⟨d, .makeInterface T x, ty, pos, aft, g⟩ (.iface T v) := fun a w hs _ => by
 simp only [execOp, hs.ev hx, Instr.makeInterface, Sem.run_bind, TyD.run, Result.andThen_ok, Sem.run_pure]
 cases dsc <;> simp_all
theorem Ops.panic {x : Operand} {T : TypeId} {v : Value} {d : Option Tmp} (hx : ev E x = some (.iface T v)) [hq : PT W D Q Y G] (hy : ∃ L2, Y [{ v := .iface T v, recovered := false }] L2 ∧ Drop L (L2 ++ G)) : Ops P W ops Q n D (⟨d, .panic x, ty, pos, aft, none⟩ :: rest) E L := fun a w hs ho =>
  wpList_plain rfl fun K' hK' => by
    obtain ⟨L2, hY, hd⟩ := hy
    have hp := hq.pt [{ v := .iface T v, recovered := false }] a w L2 hs.dfs hY (hd.own ho)
    unfold Oper.wp
    have e : (execOp a.eval ⟨d, .panic x, ty, pos, aft, none⟩).run P w = .halt (.panic (.iface T v)) w := by
      simp [execOp, hs.ev hx, Instr.panic, goPanic]
    rw [e]
    exact hp
end
section
variable {P : Program} {W : World} {ops : Array Oper} {Q : Exit → Act → World → Prop} {n : Nat} {D : List Deferred} {E : Env} {L : Hp} {rest : List Oper} {ty : TypeId} {pos : String} {aft : Array Edge} {g : Option (Nat × Bool)} {K : Env → Hp → Prop} {X Y : List PanicEntry → Hp → Prop} {G : Hp}
theorem Tr.enterD {f : FuncId} {fn : Func} {c : Code} {args : List Value} {R : Value → Hp → Prop}
    (hf : P.funcs[f]? = some fn) (hb : fn.body = some c) (hn : fn.ntmps = n) (hle : Nat.ble args.length n = true)
    (h : ∀ W F, Wp P W (bodyPostD P fn (TrPost R W F)) n [] c (argsEnv 0 args) (L ++ F)) : Tr P f args L R := fun W w F ho =>
  calls_of_wp_defers hf hb (by
    subst hn
    exact h W F _ w (sees_start hle) ho)
theorem Ops.defer {x : Operand} {fn : Fn} {cap : Array Value} {ats : Array TypeId} (hv : ev E x = some (.func fn #[] cap)) (hn : Ops P W ops Q n ({ target := .fn fn cap, args := #[] } :: D) rest E L) :
    Ops P W ops Q n D (⟨none, .defer { callee := .value x, args := #[], argTypes := ats }, ty, pos, aft, none⟩ :: rest) E L := fun a w hs ho =>
  wpList_plain rfl fun K' hK' => by
    unfold Oper.wp
    have e : (execOp a.eval ⟨none, .defer { callee := .value x, args := #[], argTypes := ats }, ty, pos, aft, none⟩).run P w = .ok (.defer { target := .fn fn cap, args := #[] }) w := by
      simp [execOp, resolve, hs.ev hv, Deferred.ofValue]
    rw [e]
    exact hK' _ _ (hn _ _ ⟨hs.size, by rw [← hs.dfs]; rfl, hs.get⟩ ho)
theorem Ops.efxq {o : Oper} (hg : o.guard = none) (h : EfX P W n D o E L K X) (hq : ∀ c a w L', Sees n D E a → X c L' → Own W w L' → Q (.panic c) a w) (hn : ∀ E' L', K E' L' → Ops P W ops Q n D rest E' L') : Ops P W ops Q n D (o :: rest) E L := fun a w hs ho =>
  wpList_plain hg fun K' hK' => h Q a w K' hs ho (fun E' L' a' w' k hs' ho' => hK' _ _ (hn E' L' k a' w' hs' ho')) (fun c L' w' hX ho' => hq c a w' L' hs hX ho')
theorem leaves_one {fn : Func} {R : Value → Hp → Prop} {F L1 L' M : Hp} {v : Value} {gf : FuncId} {cap : List Value} {u : FrameMode} {a : Act} {w : World} (hs : Sees n [{ target := .fn (.func gf) cap.toArray, args := #[] }] E a) (hu : u ≠ .run) [hf : GoFn P gf]
    (hc : CallsD P gf cap.toArray u w (fun e u' w' => e = .returned (.tuple #[]) ∧ settle u' = .returning ∧ Own W w' L1)) (hres : Res P fn n [{ target := .fn (.func gf) cap.toArray, args := #[] }] E L1 v) (hR : R v L') [ha : App L' F M] [hd : Drop L1 M] :
    Leaves P fn a.tmps (TrPost R W F) a.defers u w := by
  rw [hs.dfs]
  refine leaves_cons (f := gf) (args := cap.toArray) hu ?_ (hc.mono ?_)
  · simp only [invoke]
    rw [show ((#[] : Array Value) ++ cap.toArray) = cap.toArray by simp, run_callFunc]
  · rintro e u' w' ⟨rfl, hs', ho'⟩
    show Leaves P fn a.tmps _ [] (settle u') w'
    rw [hs']
    exact ⟨v, hres a w' hs ho'.held, v, L', rfl, hR, by rw [ha.eq]; exact hd.own ho'⟩
theorem Ends.retD {fn : Func} {R : Ending → World → Prop} (h : ∀ a w, Sees n D E a → Own W w L → Leaves P fn a.tmps R a.defers .returning w) : Ends W (bodyPostD P fn R) n D .ret E L := h
theorem Ends.finS {fn : Func} {c0 : Frame} {cs : List Frame} {R : Ending → FrameMode → World → Prop} {u : FrameMode} (hres : fn.results = #[]) (hR : ∀ w, Own W w L → R (.returned (.tuple #[])) u w) :
    Ends W (fun e a w => bodyPostS P fn c0 cs R e a ({ c0 with mode := u } :: cs) w) n [] .normal E L := fun a w hs ho =>
  ⟨hs.dfs, u, rfl, _, results_none hres _ P w, hR w ho⟩
theorem wpS_recover {id d : Nat} {c2 : Code} {Q : Exit → Act → List Frame → World → Prop} {a : Act} {c0 : Frame} {cs : List Frame} {w : World} {v : Value} {older : List PanicEntry} (hu : c0.mode = .panicking ({ v := v, recovered := false } :: older))
    (h : c2.wpS P Q (a.put (some d) v) ({ c0 with mode := .panicking ({ v := v, recovered := true } :: older) } :: cs) w) :
    ((Code.region id #[⟨some d, .call { callee := .builtin .recover, args := #[], argTypes := #[] }, ty, pos, aft, none⟩] false).seq c2).wpS P Q a (c0 :: cs) w := by
  apply wpS_seq
  apply wpS_region
  have he : (execOp a.eval ⟨some d, .call { callee := .builtin .recover, args := #[], argTypes := #[] }, ty, pos, aft, none⟩).run P w = .ok .recover w := by simp [go_sem]
  have hw : Region.wanted (⟨some d, .call { callee := .builtin .recover, args := #[], argTypes := #[] }, ty, pos, aft, none⟩ : Oper) (yielded #[⟨some d, .call { callee := .builtin .recover, args := #[], argTypes := #[] }, ty, pos, aft, none⟩] a.tmps) = true := by simp [Region.wanted]
  have hrd : recoverD (c0 :: cs) = some (v, { c0 with mode := .panicking ({ v := v, recovered := true } :: older) } :: cs) := by simp [recoverD, hu]
  show wpOpsS P _ _ [0] a (c0 :: cs) w
  simp only [wpOpsS, List.getElem?_toArray, List.getElem?_cons_zero, hw, if_true, he, hrd]
  exact h
theorem wpS_recover0 {id d : Nat} {c2 : Code} {Q : Exit → Act → List Frame → World → Prop} {a : Act} {c0 : Frame} {cs : List Frame} {w : World} (hu : c0.mode = .returning)
    (h : c2.wpS P Q (a.put (some d) .nilIface) (c0 :: cs) w) :
    ((Code.region id #[⟨some d, .call { callee := .builtin .recover, args := #[], argTypes := #[] }, ty, pos, aft, none⟩] false).seq c2).wpS P Q a (c0 :: cs) w := by
  apply wpS_seq
  apply wpS_region
  have he : (execOp a.eval ⟨some d, .call { callee := .builtin .recover, args := #[], argTypes := #[] }, ty, pos, aft, none⟩).run P w = .ok .recover w := by simp [go_sem]
  have hw : Region.wanted (⟨some d, .call { callee := .builtin .recover, args := #[], argTypes := #[] }, ty, pos, aft, none⟩ : Oper) (yielded #[⟨some d, .call { callee := .builtin .recover, args := #[], argTypes := #[] }, ty, pos, aft, none⟩] a.tmps) = true := by simp [Region.wanted]
  have hrd : recoverD (c0 :: cs) = none := by simp [recoverD, hu]
  show wpOpsS P _ _ [0] a (c0 :: cs) w
  simp only [wpOpsS, List.getElem?_toArray, List.getElem?_cons_zero, hw, if_true, he, hrd]
  exact h
theorem pv_eql_iface {d : Option Tmp} {T T2 U : TypeId} {x : Operand} {u : Value} {S : Hp} {dsc : TypeDesc} [ht : TyD P T dsc] (hd : (match dsc with | .interface _ => true | _ => false) = true) (hx : ev E x = some (.iface U u)) : Pv P n D E S ⟨d, .binOp .eql T x (.const .nilIface) T2, ty, pos, aft, g⟩ (.bool false) := fun a w hs _ => by
 have hc : a.eval (.const .nilIface) = .nilIface := rfl
 cases dsc <;> simp at hd
 have hu := TyD.run (P := P) (T := T) (w := w)
 have he : (Op.equal T (.iface U u) .nilIface).run P w = .ok false w := by
  unfold Op.equal
  rw [show Op.maxDepth = 9999 + 1 from rfl, Op.equalIn]
  simp [hu]
 simp [execOp, hs.ev hx, hc, binOp, eqGuard, he]
theorem pv_eql_nilif {d : Option Tmp} {T T2 : TypeId} {x : Operand} {S : Hp} {dsc : TypeDesc} [ht : TyD P T dsc] (hd : (match dsc with | .interface _ => true | _ => false) = true) (hx : ev E x = some .nilIface) : Pv P n D E S ⟨d, .binOp .eql T x (.const .nilIface) T2, ty, pos, aft, g⟩ (.bool true) := fun a w hs _ => by
 have hc : a.eval (.const .nilIface) = .nilIface := rfl
 cases dsc <;> simp at hd
 have hu := TyD.run (P := P) (T := T) (w := w)
 have he : (Op.equal T .nilIface .nilIface).run P w = .ok true w := by
  unfold Op.equal
  rw [show Op.maxDepth = 9999 + 1 from rfl, Op.equalIn]
  simp [hu]
 have hg : eqGuard .eql T x (.const .nilIface) .nilIface .nilIface = pure () := by cases x <;> rfl
 simp [execOp, hs.ev hx, hc, binOp, hg, he]
theorem pv_tassert {d : Option Tmp} {T U : TypeId} {x : Operand} {u : Value} {S : Hp} {dsc : TypeDesc} [ht : TyD P U dsc] (hd : (match dsc with | .interface _ => false | _ => true) = true) (hx : ev E x = some (.iface U u)) : Pv P n D E S ⟨d, .typeAssert x T U true, ty, pos, aft, g⟩ (.tuple #[u, .bool true]) := fun a w hs _ => by
 simp only [execOp, hs.ev hx, Instr.typeAssert, Sem.run_bind, TyD.run, Result.andThen_ok]
 cases dsc <;> simp_all
end
attribute [irreducible] TrE EfX
end Go.SL
end
section
set_option linter.unusedVariables false
set_option linter.unusedSimpArgs false
set_option linter.unusedSectionVars false
namespace Go.Proofs.Ytkldjadpoknejaa
open Go.SL
def badC : List PanicEntry := [{ v := .iface 110 (.agg #[]), recovered := false }]
abbrev outP (k : Nat) : Value := .pointer (some ⟨k, 1, none⟩)
abbrev kP (k : Nat) : Value := .pointer (some ⟨k, 0, none⟩)
theorem tr_cc0 (k : Nat) (rd : Bool) (bv : Value) (left : List UInt8) (h1 : bv.oneCell' = true) : Tr Try.prog 21 [outP k] ([(k, .cells [.bool rd, .pointer none, bv, sV left].toArray 84)]) (fun u L' => u = .tuple #[] ∧ L' = [(k, .cells [.bool rd, .pointer (some ⟨k, 1, none⟩), bv, sV left].toArray 84)]) := by
 refine Tr.enter Try.func21 rfl Try.ntmps21 rfl (fun W F => ?_)
 refine Wp.app ?_
 refine Wr ?_
 refine Om1 rfl rfl ?_
 refine Ops.pv (pv_nilCheck rfl) rfl ?_
 refine Ops.pv (pv_fieldAddr rfl rfl) rfl ?_
 refine Ol1 rfl rfl rfl rfl ?_
 refine Ops.pv ((pv_eql_nil rfl rfl).is (u := .bool true) (by first | rfl | (simp; done))) rfl ?_
 refine On ?_
 refine Wp.cond_true rfl ?_
 refine Wp.region ?_
 refine Om1 rfl rfl ?_
 refine Om1 rfl rfl ?_
 refine Ops.pv (pv_toUnsafe rfl Try.underlying114 rfl rfl) rfl ?_
 refine Ops.pv (pv_same Try.func33 (by kernel_rfl) (by kernel_rfl) (by kernel_rfl) (by kernel_rfl) rfl) rfl ?_
 refine Ops.pv (pv_fromUnsafe rfl Try.underlying114 (by kernel_rfl)) rfl ?_
 refine Ops.pv (pv_nilCheck rfl) rfl ?_
 refine Ops.pv (pv_fieldAddr rfl rfl) rfl ?_
 refine Ops.ef rfl (ef_store1 rfl rfl (by first | rfl | assumption) (by first | rfl | assumption)) ?_
 rintro _ _ ⟨rfl, rfl⟩
 refine Ops.nil ?_
 exact Ends.fin (res0 rfl) ⟨rfl, rfl⟩
theorem tr_cc1 (k : Nat) (rd : Bool) (bv : Value) (left : List UInt8) (h1 : bv.oneCell' = true) : TrR Try.prog 21 [outP k] ([(k, .cells [.bool rd, .pointer (some ⟨k, 1, none⟩), bv, sV left].toArray 84)]) (.tuple #[]) := by
 refine Tr.enter Try.func21 rfl Try.ntmps21 rfl (fun W F => ?_)
 refine Wp.app ?_
 refine Wr ?_
 refine Om1 rfl rfl ?_
 refine Ops.pv (pv_nilCheck rfl) rfl ?_
 refine Ops.pv (pv_fieldAddr rfl rfl) rfl ?_
 refine Ol1 rfl rfl rfl rfl ?_
 refine Ops.pv ((pv_eql_nil rfl rfl).is (u := .bool false) (by first | rfl | (simp; done))) rfl ?_
 refine On ?_
 refine Wp.cond_false rfl ?_
 refine Wr ?_
 refine Om1 rfl rfl ?_
 refine Ops.pv (pv_nilCheck rfl) rfl ?_
 refine Ops.pv (pv_fieldAddr rfl rfl) rfl ?_
 refine Ol1 rfl rfl rfl rfl ?_
 refine Om1 rfl rfl ?_
 refine Ops.pv (pv_neq_same rfl rfl) rfl ?_
 refine On ?_
 refine Wp.cond_false rfl ?_
 refine Wp.skip ?_
 exact Ends.fin (res0 rfl) ⟨rfl, rfl⟩
theorem tr_wbyte (k : Nat) (left : List UInt8) (bs : List UInt8) (pa : Option Addr) (ca : Nat) (Kb : Hp) (hb : Slc 5 1 (.slice pa bs.length ca) bs.length (bC bs) Kb) (hl : bs.length ≤ 2 ^ 40) (b : UInt8) : Tr Try.prog 52 [outP k, .int .u8 (b.toNat : Int)] ((k, .cells [.bool false, .pointer (some ⟨k, 1, none⟩), .slice pa bs.length ca, sV left].toArray 84) :: Kb) (fun u L' => u = .nilIface ∧ ∃ pa' ca' Kb', Slc 5 1 (.slice pa' (bs ++ [b]).length ca') (bs ++ [b]).length (bC (bs ++ [b])) Kb' ∧ L' = (k, .cells [.bool false, .pointer (some ⟨k, 1, none⟩), (.slice pa' (bs ++ [b]).length ca'), sV left].toArray 84) :: Kb') := by
 refine Tr.enter Try.func52 rfl Try.ntmps52 rfl (fun W F => ?_)
 refine Wp.app ?_
 refine Wr ?_
 refine Oa1 rfl rfl ?_
 refine On ?_
 refine Wr ?_
 refine Om1 rfl rfl ?_
 refine Ops.ef rfl (ef_callr (tr_cc1 k false (.slice pa bs.length ca) left rfl) rfl rfl) ?_
 rintro _ _ ⟨rfl, rfl⟩
 refine On ?_
 refine Wr ?_
 refine Om1 rfl rfl ?_
 refine Om1 rfl rfl ?_
 refine Ops.pv (pv_nilCheck rfl) rfl ?_
 refine Ops.pv (pv_fieldAddr rfl rfl) rfl ?_
 refine Ol1 rfl rfl rfl rfl ?_
 refine Om1 rfl rfl ?_
 refine Ops.ef rfl (ef_buildSlice1 (k := 1) rfl rfl rfl rfl rfl) ?_
 rintro _ _ ⟨b1, rfl, rfl⟩
 refine Ops.ef rfl (ef_append (H := Kb) (xs := [.int .u8 (b.toNat : Int)]) rfl hb rfl ⟨rfl, trivial⟩ rfl rfl rfl (by omega) (by omega) rfl rfl) ?_
 rintro _ _ ⟨u1, K1, hu1, rfl, rfl⟩
 refine Ops.app ?_
 have hut : Slc 5 1 u1 (bs ++ [b]).length (bC (bs ++ [b])) K1 := by rw [bC_app, List.length_append]; exact hu1
 obtain ⟨pu, qu, rfl⟩ := hut.form
 refine Ops.pv (pv_nilCheck rfl) rfl ?_
 refine Ops.pv (pv_fieldAddr rfl rfl) rfl ?_
 refine Ops.ef rfl (ef_store1 rfl rfl (by first | rfl | assumption) (by first | rfl | assumption)) ?_
 rintro _ _ ⟨rfl, rfl⟩
 refine On ?_
 refine Wr ?_
 refine Oa1 rfl rfl ?_
 refine On ?_
 refine Wp.ret ?_
 exact Ends.ret (L' := (k, .cells [.bool false, .pointer (some ⟨k, 1, none⟩), .slice pu (bs ++ [b]).length qu, sV left].toArray 84) :: K1) (res1 rfl rfl) ⟨rfl, pu, qu, K1, hut, rfl⟩
theorem tr_wstr (k : Nat) (left : List UInt8) (l : List UInt8) (h0 : l ≠ []) (hl : l.length ≤ 2 ^ 40) : Tr Try.prog 11 [outP k, sV l] ([(k, .cells [.bool false, .pointer none, .slice none 0 0, sV left].toArray 84)]) (fun u L' => u = .tuple #[.int .i64 l.length, .nilIface] ∧ ∃ pa' ca' Kb', Slc 5 1 (.slice pa' l.length ca') l.length (bC l) Kb' ∧ L' = (k, .cells [.bool false, .pointer (some ⟨k, 1, none⟩), (.slice pa' l.length ca'), sV left].toArray 84) :: Kb') := by
 refine Tr.enter Try.func11 rfl Try.ntmps11 rfl (fun W F => ?_)
 refine Wp.app ?_
 refine Wr ?_
 refine Oa1 rfl rfl ?_
 refine Oa1 rfl rfl ?_
 refine On ?_
 refine Wr ?_
 refine Om1 rfl rfl ?_
 refine Ops.ef rfl (ef_call (tr_cc0 k false (.slice none 0 0) left rfl) rfl rfl) ?_
 rintro _ _ ⟨_, _, ⟨rfl, rfl⟩, rfl, rfl⟩
 refine Ops.app ?_
 refine On ?_
 refine Wr ?_
 refine Om1 rfl rfl ?_
 refine Om1 rfl rfl ?_
 refine Ops.pv (pv_nilCheck rfl) rfl ?_
 refine Ops.pv (pv_fieldAddr rfl rfl) rfl ?_
 refine Ol1 rfl rfl rfl rfl ?_
 refine Om1 rfl rfl ?_
 refine Ops.ef rfl (ef_appendStr rfl rfl h0 (by omega) (by omega) rfl rfl) ?_
 rintro _ _ ⟨u1, K1, hu1, rfl, rfl⟩
 obtain ⟨pu, qu, rfl⟩ := hu1.form
 refine Ops.pv (pv_nilCheck rfl) rfl ?_
 refine Ops.pv (pv_fieldAddr rfl rfl) rfl ?_
 refine Ops.ef rfl (ef_store1 rfl rfl (by first | rfl | assumption) (by first | rfl | assumption)) ?_
 rintro _ _ ⟨rfl, rfl⟩
 refine On ?_
 refine Wr ?_
 refine Om1 rfl rfl ?_
 refine Ops.pv (pv_str_len (T := 9) rfl rfl) rfl ?_
 refine Oa1 rfl rfl ?_
 refine Oa1 rfl rfl ?_
 refine On ?_
 refine Wp.ret ?_
 exact Ends.ret (L' := (k, .cells [.bool false, .pointer (some ⟨k, 1, none⟩), .slice pu l.length qu, sV left].toArray 84) :: K1) (res2 rfl rfl rfl) ⟨rfl, pu, qu, K1, hu1, rfl⟩
theorem tr_bstr (k : Nat) (left : List UInt8) (bs : List UInt8) (pa : Option Addr) (ca : Nat) (Kb : Hp) (hb : Slc 5 1 (.slice pa bs.length ca) bs.length (bC bs) Kb) (hl : bs.length ≤ 2 ^ 40) (h0 : bs ≠ []) : Tr Try.prog 14 [outP k] ((k, .cells [.bool false, .pointer (some ⟨k, 1, none⟩), .slice pa bs.length ca, sV left].toArray 84) :: Kb) (fun u L' => u = sV bs ∧ L' = [(k, .cells [.bool false, .pointer (some ⟨k, 1, none⟩), .slice pa bs.length ca, sV left].toArray 84)]) := by
 obtain ⟨b9, o9, rfl⟩ : ∃ b9 o9, pa = some ⟨b9, o9, none⟩ := slc_some hb (by intro e; exact h0 (List.eq_nil_of_length_eq_zero e))
 have hca : ca ≠ 0 := slc_cap hb (by intro e; exact h0 (List.eq_nil_of_length_eq_zero e))
 refine Tr.enter Try.func14 rfl Try.ntmps14 rfl (fun W F => ?_)
 refine Wp.app ?_
 refine Wr ?_
 refine Oa1 rfl rfl ?_
 refine On ?_
 refine Wp.seq ?_
 refine AnyH.start ([(k, .cells [.bool false, .pointer (some ⟨k, 1, none⟩), .slice (some ⟨b9, o9, none⟩) bs.length ca, sV left].toArray 84)] : Hp) 12 rfl ?_
 refine Tk 0 rfl rfl (pv_move rfl) rfl ?_
 refine Tk 1 rfl rfl (pv_nilCheck rfl) rfl ?_
 refine Tk 2 rfl rfl (pv_fieldAddr rfl rfl) rfl ?_
 refine Tk 3 rfl rfl (pv_load rfl rfl rfl) rfl ?_
 refine Tk 4 rfl rfl (pv_sliceData rfl hca) rfl ?_
 refine Tk 5 rfl rfl (pv_move rfl) rfl ?_
 refine Tk 6 rfl rfl (pv_nilCheck rfl) rfl ?_
 refine Tk 7 rfl rfl (pv_fieldAddr rfl rfl) rfl ?_
 refine Tk 8 rfl rfl (pv_load rfl rfl rfl) rfl ?_
 refine Tk 9 rfl rfl (pv_len_slice (T := 80) rfl rfl) rfl ?_
 refine AnyH.one 10 (by kernel_rfl) ?_
 refine Turn.ef rfl rfl (ef_unsafeString (H := Kb) rfl hb rfl h0 (by omega) rfl (by kernel_rfl)) ?_ ?_
 ·
  rintro _ _ ⟨rfl, rfl⟩; infer_instance
 rintro _ _ ⟨rfl, rfl⟩
 refine Tk 11 rfl rfl (pv_assign rfl) rfl ?_
 refine AnyH.done (by kernel_rfl) ?_
 refine Ends.seq ?_
 refine Wp.ret ?_
 exact Ends.ret (res1 rfl rfl) ⟨rfl, rfl⟩
set_option maxHeartbeats 4000000 in
theorem tr_wordW (k : Nat) (left : List UInt8) (bs : List UInt8) (pa : Option Addr) (ca : Nat) (Kb : Hp) (hb : Slc 5 1 (.slice pa bs.length ca) bs.length (bC bs) Kb) (hl : bs.length ≤ 2 ^ 39) (vb vo : Nat) (cc : List Value) (Tv : TypeId) (v : Nat) (hv : nth cc vo = some (.int .u64 (v : Int))) (w : Nat) (h1 : 1 ≤ w) (h8 : w ≤ 8) : TrE Try.prog 39 [kP k, .pointer (some ⟨vb, vo, none⟩), .int .i64 w] ((k, .cells [.bool false, .pointer (some ⟨k, 1, none⟩), .slice pa bs.length ca, sV left].toArray 84) :: (Kb ++ [(vb, .cells cc.toArray Tv)])) (fun u L' => u = .tuple #[] ∧ (w = 8 ∨ v < 256 ^ w) ∧ ∃ pa' ca' Kb', Slc 5 1 (.slice pa' (bs ++ leB w v).length ca') (bs ++ leB w v).length (bC (bs ++ leB w v)) Kb' ∧ L' = (k, .cells [.bool false, .pointer (some ⟨k, 1, none⟩), (.slice pa' (bs ++ leB w v).length ca'), sV left].toArray 84) :: (Kb' ++ [(vb, .cells cc.toArray Tv)])) (fun c L' => c = badC ∧ ¬ (w = 8 ∨ v < 256 ^ w) ∧ L' = []) := by
 refine TrE.enter Try.func39 rfl Try.ntmps39 rfl (fun W F => ?_)
 refine Wp.app ?_
 refine Wp.seq ?_
 refine Wr ?_
 refine Om1 rfl rfl ?_
 refine Ops.pv (pv_nilCheck rfl) rfl ?_
 refine Of1 rfl rfl rfl ?_
 refine Ol1 rfl rfl rfl rfl ?_
 refine Ops.pv (pv_not rfl) rfl ?_
 refine On ?_
 refine Wp.cond_true rfl ?_
 refine Wp.seq ?_
 refine Wr ?_
 refine Om1 rfl rfl ?_
 refine Ops.pv (pv_lss rfl rfl) rfl ?_
 refine Om1 rfl rfl ?_
 refine Ops.pvc rfl rfl (fun hg => pv_move rfl) rfl ?_
 refine Ops.pvc rfl rfl (fun hg => Pv.setE (t := 16) rfl (cv_pos hg) (pv_nilCheck rfl)) rfl ?_
 refine Ops.pvc rfl rfl (fun hg => Pv.setE (t := 16) rfl (cv_pos hg) (Pv.setE (t := 17) rfl (cv_pos hg) (pv_load rfl rfl hv))) rfl ?_
 refine Ops.pvc rfl rfl (fun hg => Pv.setE (t := 16) rfl (cv_pos hg) (Pv.setE (t := 17) rfl (cv_pos hg) (Pv.setE (t := 18) rfl (cv_pos hg) (pv_move rfl)))) rfl ?_
 refine Ops.pvc rfl rfl (fun hg => Pv.setE (t := 16) rfl (cv_pos hg) (Pv.setE (t := 17) rfl (cv_pos hg) (Pv.setE (t := 18) rfl (cv_pos hg) (Pv.setE (t := 19) rfl (cv_pos hg) (pv_mul rfl rfl (w64n (k := 8 * w) (by omega) (by omega))))))) rfl ?_
 refine Ops.pvc rfl rfl (fun hg => Pv.setE (t := 16) rfl (cv_pos hg) (Pv.setE (t := 17) rfl (cv_pos hg) (Pv.setE (t := 18) rfl (cv_pos hg) (Pv.setE (t := 19) rfl (cv_pos hg) (Pv.setE (t := 20) rfl (cv_pos hg) (pv_shr rfl rfl (by omega) (shrB v w (by omega)))))))) rfl ?_
 refine Ops.pvc rfl rfl (fun hg => Pv.setE (t := 16) rfl (cv_pos hg) (Pv.setE (t := 17) rfl (cv_pos hg) (Pv.setE (t := 18) rfl (cv_pos hg) (Pv.setE (t := 19) rfl (cv_pos hg) (Pv.setE (t := 20) rfl (cv_pos hg) (Pv.setE (t := 21) rfl (cv_pos hg) (pv_neq rfl rfl))))))) rfl ?_
 refine Ops.pv (pv_pick_and rfl rfl) rfl ?_
 refine On ?_
 refine Wp.cond_dect rfl (fun h23 => ?_) (fun h23 => ?_)
 ·
  refine Wp.region ?_
  refine Ops.pv (pv_build rfl) rfl ?_
  refine Ops.pv (pv_iface rfl rfl) rfl ?_
  have hno : ¬ (w = 8 ∨ v < 256 ^ w) := by
   rintro (h | h)
   ·
    omega
   ·
    exact absurd (Nat.div_eq_of_lt h) (by omega)
  exact Ops.panic rfl ⟨[], ⟨rfl, hno, rfl⟩, inferInstance⟩
 have hyes : (w = 8 ∨ v < 256 ^ w) := by
  by_cases h : w = 8
  ·
   exact .inl h
  ·
   right
   have hq : v / 256 ^ w = 0 := by omega
   exact (Nat.div_eq_zero_iff_lt (Nat.pow_pos (by decide))).1 hq
 refine Wp.skip ?_
 refine Ends.seq ?_
 refine Wp.seq ?_
 refine Wr ?_
 refine Om1 rfl rfl ?_
 refine Om1 rfl rfl ?_
 refine On ?_
 refine Wp.block ?_
 refine Wp.loopK (σ := Nat × List UInt8 × Option Addr × Nat × Hp) [(0, _), (1, _), (26, _)] (fun s => [(27, .int .i64 s.1)]) (fun s => (k, .cells [.bool false, .pointer (some ⟨k, 1, none⟩), .slice s.2.2.1 s.2.1.length s.2.2.2.1, sV left].toArray 84) :: (s.2.2.2.2 ++ ((vb, .cells cc.toArray Tv) :: F))) (fun s => s.1 ≤ w ∧ s.2.1 = bs ++ leB s.1 v ∧ s.2.1.length = bs.length + s.1 ∧ Slc 5 1 (.slice s.2.2.1 s.2.1.length s.2.2.2.1) s.2.1.length (bC s.2.1) s.2.2.2.2) (fun s => w - s.1) (0, bs, pa, ca, Kb) ⟨Nat.zero_le _, by simp [leB], rfl, hb⟩ ⟨rfl, rfl, rfl, trivial⟩ ⟨rfl, trivial⟩ (by intro w ho; (try dsimp only [List.nil_append, List.cons_append]); exact Drop.own ho) ?_
 rintro ⟨i, e, pi, ci, Ki⟩ KK ⟨hi, he, hel, hsi⟩ hK
 dsimp only [List.cons_append, List.nil_append] at hK ⊢
 dsimp only at hi he hel hsi ⊢
 refine Wr ?_
 refine Ops.pv (pv_lss rfl rfl) rfl ?_
 refine On ?_
 refine Wp.seq ?_
 refine Wp.cond_dect rfl (fun h2 => ?_) (fun h2 => ?_)
 ·
  refine Wp.skip ?_
  refine Ends.seq ?_
  refine Wp.seq ?_
  refine Wp.block ?_
  refine Wr ?_
  refine Om1 rfl rfl ?_
  refine Oa1 rfl rfl ?_
  refine On ?_
  refine AnyH.start ([(vb, .cells cc.toArray Tv)] : Hp) 11 rfl ?_
  refine Tk 0 rfl rfl (pv_move rfl) rfl ?_
  refine Tk 1 rfl rfl (pv_nilCheck rfl) rfl ?_
  refine Tk 2 rfl rfl (pv_fieldAddr0 rfl rfl) rfl ?_
  refine Tk 3 rfl rfl (pv_move rfl) rfl ?_
  refine Tk 4 rfl rfl (pv_nilCheck rfl) rfl ?_
  refine Tk 5 rfl rfl (pv_load rfl rfl hv) rfl ?_
  refine Tk 6 rfl rfl (pv_move rfl) rfl ?_
  refine Tk 7 rfl rfl (pv_mul rfl rfl (w64n (k := 8 * i) (by omega) (by omega))) rfl ?_
  refine Tk 8 rfl rfl (pv_shr rfl rfl (by omega) (shrB v i (by omega))) rfl ?_
  refine Tk 9 rfl rfl (pv_conv rfl (u8conv (v / 256 ^ i))) rfl ?_
  refine AnyH.one 10 (by kernel_rfl) ?_
  refine Turn.ef rfl rfl (ef_call (tr_wbyte k left e pi ci Ki hsi (by omega) (UInt8.ofNat (v / 256 ^ i))) rfl rfl) ?_ ?_
  ·
   rintro _ _ ⟨_, _, ⟨rfl, pa2, ca2, Kb2, hb2, rfl⟩, rfl, rfl⟩; infer_instance
  rintro _ _ ⟨_, _, ⟨rfl, pa2, ca2, Kb2, hb2, rfl⟩, rfl, rfl⟩
  refine AnyH.app ?_
  refine AnyH.done (by kernel_rfl) ?_
  refine Ends.block_normal ?_
  refine Ends.seq ?_
  refine Wp.region ?_
  refine Ops.pv (pv_add rfl rfl (w64n (k := i + 1) (by omega) (by omega))) rfl ?_
  refine Om1 rfl rfl ?_
  refine Ops.nil ?_
  refine Ends.goes ?_
  refine Goes.back (hK (i + 1, e ++ [UInt8.ofNat (v / 256 ^ i)], pa2, ca2, Kb2) ⟨by dsimp only; omega, by dsimp only; rw [leB_succ, he, List.append_assoc], by dsimp only; rw [List.length_append, hel]; rfl, hb2⟩ (by dsimp only; omega)) ⟨rfl, rfl, rfl, rfl, trivial⟩
 obtain rfl : i = w := by omega
 refine Wp.exit ?_
 refine Ends.then_exit ?_
 refine Ends.then_exit ?_
 refine Ends.block_hit ?_
 refine Ends.seq ?_
 refine Wp.ret ?_
 refine Ends.then_ret ?_
 subst he
 exact Ends.retE (L' := (k, .cells [.bool false, .pointer (some ⟨k, 1, none⟩), .slice pi (bs ++ leB i v).length ci, sV left].toArray 84) :: (Ki ++ [(vb, .cells cc.toArray Tv)])) (res0 rfl) ⟨rfl, hyes, pi, ci, Ki, hsi, rfl⟩
set_option maxHeartbeats 4000000 in
theorem tr_wordR (k : Nat) (adr bv : Value) (left : List UInt8) (hl : left.length ≤ 2 ^ 40) (h1b : bv.oneCell' = true) (h1a : adr.oneCell' = true) (vb vo : Nat) (cc : List Value) (Tv : TypeId) (v : Nat) (hv : nth cc vo = some (.int .u64 (v : Int))) (w : Nat) (h1 : 1 ≤ w) (h8 : w ≤ 8) : TrE Try.prog 39 [kP k, .pointer (some ⟨vb, vo, none⟩), .int .i64 w] ([(k, .cells [.bool true, adr, bv, sV left].toArray 84), (vb, .cells cc.toArray Tv)]) (fun u L' => u = .tuple #[] ∧ w ≤ left.length ∧ L' = [(k, .cells [.bool true, adr, bv, sV (left.drop w)].toArray 84), (vb, .cells (cc.set vo (.int .u64 (leV (left.take w) : Nat))).toArray Tv)]) (fun c L' => c = badC ∧ left.length < w ∧ L' = []) := by
 have hvl := nth_lt hv
 refine TrE.enter Try.func39 rfl Try.ntmps39 rfl (fun W F => ?_)
 refine Wp.app ?_
 refine Wp.seq ?_
 refine Wr ?_
 refine Om1 rfl rfl ?_
 refine Ops.pv (pv_nilCheck rfl) rfl ?_
 refine Of1 rfl rfl rfl ?_
 refine Ol1 rfl rfl rfl rfl ?_
 refine Ops.pv (pv_not rfl) rfl ?_
 refine On ?_
 refine Wp.cond_false rfl ?_
 refine Wp.skip ?_
 refine Ends.seq ?_
 refine Wp.seq ?_
 refine Wr ?_
 refine Om1 rfl rfl ?_
 refine Ops.pv (pv_nilCheck rfl) rfl ?_
 refine Of1 rfl rfl rfl ?_
 refine Ol1 rfl rfl rfl rfl ?_
 refine Ops.pv (pv_str_len (T := 9) rfl rfl) rfl ?_
 refine Om1 rfl rfl ?_
 refine Ops.pv (pv_lss rfl rfl) rfl ?_
 refine On ?_
 refine Wp.cond_dect rfl (fun h48 => ?_) (fun h48 => ?_)
 ·
  refine Wp.region ?_
  refine Ops.pv (pv_build rfl) rfl ?_
  refine Ops.pv (pv_iface rfl rfl) rfl ?_
  exact Ops.panic rfl ⟨[], ⟨rfl, by omega, rfl⟩, inferInstance⟩
 refine Wp.skip ?_
 refine Ends.seq ?_
 refine Wr ?_
 refine Om1 rfl rfl ?_
 refine Ops.pv (pv_nilCheck rfl) rfl ?_
 refine Ops.ef rfl (ef_store1 (hset := setL_set hvl) rfl rfl rfl rfl) ?_
 rintro _ _ ⟨rfl, rfl⟩
 refine On ?_
 refine Wp.seq ?_
 refine Wr ?_
 refine Om1 rfl rfl ?_
 refine Om1 rfl rfl ?_
 refine On ?_
 refine Wp.block ?_
 refine Wp.loopK (σ := Nat × Nat) [(0, _), (1, _), (2, _), (53, _)] (fun s => [(54, .int .i64 s.1)]) (fun s => (k, .cells [.bool true, adr, bv, sV left].toArray 84) :: (vb, .cells (cc.set vo (.int .u64 (s.2 : Int))).toArray Tv) :: F) (fun s => s.1 ≤ w ∧ s.2 = leV (left.take s.1)) (fun s => w - s.1) (0, 0) ⟨Nat.zero_le _, rfl⟩ ⟨rfl, rfl, rfl, rfl, trivial⟩ ⟨rfl, trivial⟩ (by intro w ho; (try dsimp only [List.nil_append, List.cons_append]); exact Drop.own ho) ?_
 rintro ⟨i, m⟩ KK ⟨hi, hm⟩ hK
 dsimp only [List.cons_append, List.nil_append] at hK ⊢
 dsimp only at hi hm ⊢
 refine Wr ?_
 refine Ops.pv (pv_lss rfl rfl) rfl ?_
 refine On ?_
 refine Wp.seq ?_
 refine Wp.cond_dect rfl (fun h2 => ?_) (fun h2 => ?_)
 ·
  obtain ⟨b, hb⟩ : ∃ b, left[i]? = some b := ⟨_, List.getElem?_eq_getElem (by omega)⟩
  have ht := leV_take hb
  have hlt := leV_lt (left.take i)
  rw [List.length_take, Nat.min_eq_left (by omega), ← hm] at hlt
  rw [← hm] at ht
  have hbt := b.toNat_lt
  refine Wp.skip ?_
  refine Ends.seq ?_
  refine Wp.seq ?_
  refine Wp.block ?_
  refine Wr ?_
  refine Om1 rfl rfl ?_
  refine Oa1 rfl rfl ?_
  refine On ?_
  refine AnyH.start ([(k, .cells [.bool true, adr, bv, sV left].toArray 84)] : Hp) 16 rfl ?_
  refine Tk 0 rfl rfl (pv_move rfl) rfl ?_
  refine Tk 1 rfl rfl (pv_nilCheck rfl) rfl ?_
  refine Tk 3 rfl rfl (pv_move rfl) rfl ?_
  refine Tk 4 rfl rfl (pv_nilCheck rfl) rfl ?_
  refine Tk 5 rfl rfl (pv_fieldAddr0 rfl rfl) rfl ?_
  refine Tk 6 rfl rfl (pv_load rfl rfl rfl) rfl ?_
  refine Tk 7 rfl rfl (pv_move rfl) rfl ?_
  refine Tk 8 rfl rfl (pv_str_index (i := i) rfl rfl hb) rfl ?_
  refine Tk 9 rfl rfl (pv_conv rfl (u64n (k := b.toNat) rfl (by omega))) rfl ?_
  refine Tk 10 rfl rfl (pv_move rfl) rfl ?_
  refine Tk 11 rfl rfl (pv_mul rfl rfl (w64n (k := 8 * i) (by omega) (by omega))) rfl ?_
  refine Tk 12 rfl rfl (pv_shl rfl rfl (by omega) (shlB b i (by omega))) rfl ?_
  refine AnyH.one 2 (by kernel_rfl) ?_
  refine Turn.ef rfl rfl (ef_pv (pv_load rfl rfl (nth_set hvl)) rfl) ?_ ?_
  ·
   rintro _ _ ⟨rfl, rfl⟩; infer_instance
  rintro _ _ ⟨rfl, rfl⟩
  refine Tk 13 rfl rfl (pv_or rfl rfl (orB hlt (by omega) (by omega))) rfl ?_
  refine Tk 14 rfl rfl (pv_nilCheck rfl) rfl ?_
  refine AnyH.one 15 (by kernel_rfl) ?_
  refine Turn.ef rfl rfl (ef_store1 (hset := setL_set2 hvl) rfl rfl rfl rfl) ?_ ?_
  ·
   rintro _ _ ⟨rfl, rfl⟩; infer_instance
  rintro _ _ ⟨rfl, rfl⟩
  refine AnyH.done (by kernel_rfl) ?_
  refine Ends.block_normal ?_
  refine Ends.seq ?_
  refine Wp.region ?_
  refine Ops.pv (pv_add rfl rfl (w64n (k := i + 1) (by omega) (by omega))) rfl ?_
  refine Om1 rfl rfl ?_
  refine Ops.nil ?_
  refine Ends.goes ?_
  refine Goes.back (hK (i + 1, m + 256 ^ i * b.toNat) ⟨by dsimp only; omega, by dsimp only; rw [ht]⟩ (by dsimp only; omega)) ⟨rfl, rfl, rfl, rfl, rfl, trivial⟩
 obtain rfl : i = w := by omega
 refine Wp.exit ?_
 refine Ends.then_exit ?_
 refine Ends.then_exit ?_
 refine Ends.block_hit ?_
 refine Ends.seq ?_
 refine Wp.region ?_
 refine Om1 rfl rfl ?_
 refine Om1 rfl rfl ?_
 refine Ops.pv (pv_nilCheck rfl) rfl ?_
 refine Of1 rfl rfl rfl ?_
 refine Ol1 rfl rfl rfl rfl ?_
 refine Om1 rfl rfl ?_
 refine Ops.pv (pv_str_from (i := i) rfl rfl (by omega)) rfl ?_
 refine Ops.pv (pv_nilCheck rfl) rfl ?_
 refine Of1 rfl rfl rfl ?_
 refine Ops.ef rfl (ef_store1 rfl rfl (by first | rfl | assumption) (by first | rfl | assumption)) ?_
 rintro _ _ ⟨rfl, rfl⟩
 refine Ops.nil ?_
 subst hm
 exact Ends.finE (L' := [(k, .cells [.bool true, adr, bv, sV (left.drop i)].toArray 84), (vb, .cells (cc.set vo (.int .u64 (leV (left.take i) : Nat))).toArray Tv)]) (res0 rfl) ⟨rfl, by omega, rfl⟩
end Go.Proofs.Ytkldjadpoknejaa
end
section
set_option linter.unusedVariables false
set_option linter.unusedSimpArgs false
set_option linter.unusedSectionVars false
namespace Go.Proofs.Ytkldjadpoknejaa
open Go.SL
def RgI (x : Int) : Prop := -9223372036854775808 ≤ x ∧ x < 9223372036854775808
theorem uI_val (x : Int) : (uI x : Int) = x % 18446744073709551616 := by
 rw [← uI_eq]; simp [IntKind.wrap, IntKind.signed, IntKind.bits]
theorem uI_ok {x : Int} (h : RgI x) : uI x < 65536 ↔ 0 ≤ x ∧ x ≤ 65535 := by
 have := uI_val x
 unfold RgI at h
 omega
theorem uI_nn {x : Int} (h : 0 ≤ x) (h2 : x < 9223372036854775808) : (uI x : Int) = x := by
 have := uI_val x
 omega
def okT (xs : List Int) : Prop := ∀ x, x ∈ xs → 0 ≤ x ∧ x ≤ 65535
def encT (xs : List Int) : List UInt8 := (xs.map fun x => leB 2 (uI x)).flatten
theorem encT_len (xs : List Int) : (encT xs).length = 2 * xs.length := by
 induction xs with
 | nil => rfl
 | cons x l ih =>
  have : encT (x :: l) = leB 2 (uI x) ++ encT l := by simp [encT]
  rw [this, List.length_append, leB_len, ih, List.length_cons]; omega
theorem encT_take {xs : List Int} {i : Nat} {x : Int} (h : xs[i]? = some x) : encT (xs.take (i + 1)) = encT (xs.take i) ++ leB 2 (uI x) := by
 rw [List.take_add_one, h]; simp [encT]
def intC (xs : List Int) : List Value := xs.map (.int .i64)
theorem intC_len (xs : List Int) : (intC xs).length = xs.length := by simp [intC]
def rdTw : Nat → List UInt8 → List Int
  | 0, _ => []
  | m + 1, s => (leV (s.take 2) : Int) :: rdTw m (s.drop 2)
theorem rdTw_len : ∀ m s, (rdTw m s).length = m
  | 0, _ => rfl
  | m + 1, s => by rw [rdTw, List.length_cons, rdTw_len m]
theorem rdTw_succ : ∀ m s, rdTw (m + 1) s = rdTw m s ++ [(leV ((s.drop (2 * m)).take 2) : Int)]
  | 0, s => by simp [rdTw]
  | m + 1, s => by
    have e : (s.drop 2).drop (2 * m) = s.drop (2 * (m + 1)) := by rw [List.drop_drop]; congr 1; omega
    rw [rdTw, rdTw_succ m (s.drop 2), rdTw, List.cons_append, e]
theorem okT_take {xs : List Int} {i : Nat} {x : Int} (h : xs[i]? = some x) (ho : okT (xs.take i)) (hx : 0 ≤ x ∧ x ≤ 65535) : okT (xs.take (i + 1)) := by
 intro y hy
 rw [List.take_add_one, h, List.mem_append] at hy
 rcases hy with hy | hy
 ·
  exact ho y hy
 ·
  simp only [Option.toList_some, List.mem_singleton] at hy
  subst hy; exact hx
theorem intC_snoc (a : List Int) (v : Int) : intC (a ++ [v]) = intC a ++ [.int .i64 v] := by simp [intC]
theorem cc_len {cc : List Value} {vo : Nat} {xs : List Int} (h : ∀ j x, xs[j]? = some x → nth cc (vo + j) = some (.int .i64 x)) (h0 : vo ≤ cc.length := by omega) : vo + xs.length ≤ cc.length := by
 rcases Nat.eq_zero_or_pos xs.length with e | e
 ·
  rw [e]; exact h0
 ·
  obtain ⟨x, hx⟩ : ∃ x, xs[xs.length - 1]? = some x := ⟨_, List.getElem?_eq_getElem (by omega)⟩
  have := nth_lt (h _ _ hx)
  omega
def setAt (cc : List Value) (o : Nat) (vs : List Value) : List Value := cc.take o ++ vs ++ cc.drop (o + vs.length)
theorem setAt_nil (cc : List Value) (o : Nat) : setAt cc o [] = cc := by simp [setAt]
theorem setAt_len {cc : List Value} {o : Nat} {vs : List Value} (h : o + vs.length ≤ cc.length) : (setAt cc o vs).length = cc.length := by
 unfold setAt
 simp only [List.length_append, List.length_take, List.length_drop]
 omega
theorem setAt_get {cc : List Value} {o : Nat} {vs : List Value} (h : o + vs.length ≤ cc.length) {j : Nat} (hj : o + vs.length ≤ j) : (setAt cc o vs)[j]? = cc[j]? := by
 unfold setAt
 rw [List.getElem?_append_right (by simp only [List.length_append, List.length_take]; omega), List.getElem?_drop]
 congr 1
 simp only [List.length_append, List.length_take]; omega
theorem setAt_succ {cc : List Value} {o : Nat} {vs : List Value} {v : Value} (h : o + vs.length < cc.length) : setAt cc o (vs ++ [v]) = (setAt cc o vs).set (o + vs.length) v := by
 unfold setAt
 have e : (cc.take o ++ vs).length = o + vs.length := by simp only [List.length_append, List.length_take]; omega
 rw [List.set_append_right _ _ (by omega), e, Nat.sub_self]
 obtain ⟨x, hx⟩ : ∃ x, cc[o + vs.length]? = some x := ⟨_, List.getElem?_eq_getElem h⟩
 obtain ⟨hl, hx2⟩ := List.getElem?_eq_some_iff.1 hx
 rw [List.drop_eq_getElem_cons hl, List.set_cons_zero]
 simp only [List.length_append, List.length_singleton, List.append_assoc, List.singleton_append]
 rfl
theorem setAt_app {A X Y : List Value} {vs : List Value} (h : vs.length ≤ X.length) : setAt (A ++ (X ++ Y)) A.length vs = A ++ (vs ++ (X.drop vs.length ++ Y)) := by
 unfold setAt
 rw [List.take_left' rfl, List.drop_append, List.drop_eq_nil_of_le (by omega), List.nil_append, show A.length + vs.length - A.length = vs.length by omega, List.drop_append_of_le_length h, List.append_assoc]
theorem set_same {c : List Value} {o : Nat} {v : Value} (h : nth c o = some v) : c.set o v = c := by
 rw [nth_eq] at h
 obtain ⟨hl, hv⟩ := List.getElem?_eq_some_iff.1 h
 subst hv
 exact List.set_getElem_self hl
theorem setL_same {c : List Value} {o : Nat} {v : Value} (h : nth c o = some v) : SetL c o [v] c := by
 have := setL_set (c := c) (v := v) (nth_lt h)
 rwa [set_same h] at this
def ptrsM (vb : Nat) (vo : Nat) : Nat → List Value
  | 0 => []
  | m + 1 => .pointer (some ⟨vb, vo, none⟩) :: ptrsM vb (vo + 1) m
theorem ptrsM_get (vb : Nat) : ∀ m vo j, j < m → nth (ptrsM vb vo m) j = some (.pointer (some ⟨vb, vo + j, none⟩))
  | 0, _, j, h => absurd h (Nat.not_lt_zero _)
  | m + 1, vo, 0, _ => rfl
  | m + 1, vo, j + 1, h => by
    show nth (ptrsM vb (vo + 1) m) j = _
    rw [ptrsM_get vb m (vo + 1) j (by omega), show vo + 1 + j = vo + (j + 1) by omega]
end Go.Proofs.Ytkldjadpoknejaa
end
section
set_option linter.unusedVariables false
set_option linter.unusedSimpArgs false
set_option linter.unusedSectionVars false
namespace Go.Proofs.Ytkldjadpoknejaa
open Go.SL
set_option maxHeartbeats 4000000 in
theorem tr_twoW (k : Nat) (left : List UInt8) (bs : List UInt8) (pa : Option Addr) (ca : Nat) (Kb : Hp) (hb : Slc 5 1 (.slice pa bs.length ca) bs.length (bC bs) Kb) (pb : Nat) (Tp : TypeId) (ps : List Value) (vb vo : Nat) (cc : List Value) (Tv : TypeId) (xs : List Int) (hps : ps = ptrsM vb vo xs.length) (hcc : ∀ j x, xs[j]? = some x → nth cc (vo + j) = some (.int .i64 x)) (hxr : ∀ x, x ∈ xs → RgI x) (hxl : xs.length ≤ 2 ^ 20) (hvo : vo ≤ cc.length) (hl : bs.length + 2 * xs.length ≤ 2 ^ 39) : TrE Try.prog 36 [kP k, .slice (some ⟨pb, 0, none⟩) xs.length xs.length] ((k, .cells [.bool false, .pointer (some ⟨k, 1, none⟩), .slice pa bs.length ca, sV left].toArray 84) :: (Kb ++ [(vb, .cells cc.toArray Tv), (pb, .cells ps.toArray Tp)])) (fun u L' => u = .tuple #[] ∧ okT xs ∧ ∃ pa' ca' Kb', Slc 5 1 (.slice pa' (bs ++ encT xs).length ca') (bs ++ encT xs).length (bC (bs ++ encT xs)) Kb' ∧ L' = (k, .cells [.bool false, .pointer (some ⟨k, 1, none⟩), .slice pa' (bs ++ encT xs).length ca', sV left].toArray 84) :: (Kb' ++ [(vb, .cells cc.toArray Tv), (pb, .cells ps.toArray Tp)])) (fun c L' => c = badC ∧ ¬ okT xs ∧ L' = []) := by
 refine TrE.enter Try.func36 rfl Try.ntmps36 rfl (fun W F => ?_)
 refine Wp.app ?_
 refine Wr ?_
 refine Om1 rfl rfl ?_
 refine Ops.pv (pv_len_slice (T := 151) rfl rfl) rfl ?_
 refine Om1 rfl rfl ?_
 refine On ?_
 refine Wp.block ?_
 refine Wp.loopK (σ := Nat × List UInt8 × Option Addr × Nat × Hp) [(0, _), (7, _), (8, _)] (fun s => [(9, .int .i64 s.1)]) (fun s => (k, .cells [.bool false, .pointer (some ⟨k, 1, none⟩), .slice s.2.2.1 s.2.1.length s.2.2.2.1, sV left].toArray 84) :: (s.2.2.2.2 ++ ((vb, .cells cc.toArray Tv) :: ((pb, .cells ps.toArray Tp) :: F)))) (fun s => s.1 ≤ xs.length ∧ s.2.1 = bs ++ encT (xs.take s.1) ∧ s.2.1.length = bs.length + 2 * s.1 ∧ okT (xs.take s.1) ∧ Slc 5 1 (.slice s.2.2.1 s.2.1.length s.2.2.2.1) s.2.1.length (bC s.2.1) s.2.2.2.2) (fun s => xs.length - s.1) (0, bs, pa, ca, Kb) ⟨Nat.zero_le _, by simp [encT], rfl, by intro x hx; simp at hx, hb⟩ ⟨rfl, rfl, rfl, trivial⟩ ⟨rfl, trivial⟩ (by intro w ho; (try dsimp only [List.nil_append, List.cons_append]); exact Drop.own ho) ?_
 rintro ⟨i, b2, pi, ci, Ki⟩ KK ⟨hi, he, hel, hok, hsi⟩ hK
 dsimp only [List.cons_append, List.nil_append] at hK ⊢
 dsimp only at hi he hel hok hsi ⊢
 refine Wr ?_
 refine Ops.pv (pv_lss rfl rfl) rfl ?_
 refine On ?_
 refine Wp.seq ?_
 refine Wp.cond_dect rfl (fun h1 => ?_) (fun h1 => ?_)
 ·
  obtain ⟨x, hx⟩ : ∃ x, xs[i]? = some x := ⟨_, List.getElem?_eq_getElem (by omega)⟩
  have hpi : nth ps i = some (.pointer (some ⟨vb, vo + i, none⟩)) := by rw [hps]; exact ptrsM_get vb _ vo i (by omega)
  have hrx := hxr x (List.mem_of_getElem? hx)
  have hcx := hcc i x hx
  refine Wp.skip ?_
  refine Ends.seq ?_
  refine Wp.seq ?_
  refine Wp.block ?_
  refine Wr ?_
  refine Ops.pv (pv_indexAddr (i := i) rfl rfl rfl (by omega)) rfl ?_
  refine Ops.pv (pv_load rfl rfl (by rw [Nat.zero_add, Nat.mul_one]; exact hpi)) rfl ?_
  refine Oa1 rfl rfl ?_
  refine On ?_
  refine Wr ?_
  refine Om1 rfl rfl ?_
  refine Ops.pv (pv_nilCheck rfl) rfl ?_
  refine Ops.pv (pv_load rfl rfl hcx) rfl ?_
  refine Ops.pv (pv_conv rfl (uI_eq x)) rfl ?_
  refine Ops.ef rfl (ef_alloc1 tyZ57 rfl rfl) ?_
  rintro _ _ ⟨b1, rfl, rfl⟩
  refine Ops.ef rfl (ef_store1 rfl rfl (by first | rfl | assumption) (by first | rfl | assumption)) ?_
  rintro _ _ ⟨rfl, rfl⟩
  refine On ?_
  refine Wr ?_
  refine Om1 rfl rfl ?_
  refine Ops.efx rfl (efx_call (tr_wordW k left b2 pi ci Ki hsi (by omega) b1 0 [.int .u64 (uI x)] 57 (uI x) rfl 2 (by decide) (by decide)) rfl rfl) ?_ ?_
  ·
   rintro _ _ ⟨_, ⟨rfl, hno, rfl⟩, rfl⟩
   exact ⟨[], ⟨rfl, fun hok => hno (.inr ((uI_ok hrx).2 (hok x (List.mem_of_getElem? hx)))), rfl⟩, inferInstance⟩
  rintro _ _ ⟨_, _, ⟨rfl, hok2, pa2, ca2, Kb2, hb2, rfl⟩, rfl, rfl⟩
  refine Ops.app ?_
  have hu : uI x < 65536 := hok2.elim (fun h => absurd h (by decide)) id
  have hxo := (uI_ok hrx).1 hu
  have hxe := uI_nn hxo.1 (by omega)
  refine On ?_
  refine Wp.region ?_
  refine Om1 rfl rfl ?_
  refine Ol1 rfl rfl rfl rfl ?_
  refine Ops.pv (pv_conv rfl (r := x) (by rw [hxe]; exact w64 (by omega) (by omega))) rfl ?_
  refine Ops.pv (pv_nilCheck rfl) rfl ?_
  refine Ops.ef rfl (ef_store1 (hset := setL_same hcx) rfl rfl rfl rfl) ?_
  rintro _ _ ⟨rfl, rfl⟩
  refine Ops.nil ?_
  refine Ends.block_normal ?_
  refine Ends.seq ?_
  refine Wp.region ?_
  refine Ops.pv (pv_add rfl rfl (w64n (k := i + 1) (by omega) (by omega))) rfl ?_
  refine Om1 rfl rfl ?_
  refine Ops.nil ?_
  refine Ends.goes ?_
  refine Goes.back (hK (i + 1, b2 ++ leB 2 (uI x), pa2, ca2, Kb2) ⟨by dsimp only; omega, by dsimp only; rw [encT_take hx, he, List.append_assoc], by dsimp only; rw [List.length_append, leB_len, hel]; omega, okT_take hx hok hxo, hb2⟩ (by dsimp only; omega)) ⟨rfl, rfl, rfl, rfl, trivial⟩
 obtain rfl : i = xs.length := by omega
 refine Wp.exit ?_
 refine Ends.then_exit ?_
 refine Ends.then_exit ?_
 refine Ends.block_hit ?_
 rw [List.take_length] at he hok
 subst he
 exact Ends.finE (L' := (k, .cells [.bool false, .pointer (some ⟨k, 1, none⟩), .slice pi (bs ++ encT xs).length ci, sV left].toArray 84) :: (Ki ++ [(vb, .cells cc.toArray Tv), (pb, .cells ps.toArray Tp)])) (res0 rfl) ⟨rfl, hok, pi, ci, Ki, hsi, rfl⟩
set_option maxHeartbeats 4000000 in
theorem tr_twoR (k : Nat) (adr bv : Value) (left : List UInt8) (hl : left.length ≤ 2 ^ 40) (h1b : bv.oneCell' = true) (h1a : adr.oneCell' = true) (pb : Nat) (Tp : TypeId) (ps : List Value) (vb vo : Nat) (cc : List Value) (Tv : TypeId) (xs : List Int) (hps : ps = ptrsM vb vo xs.length) (hcc : ∀ j x, xs[j]? = some x → nth cc (vo + j) = some (.int .i64 x)) (hxr : ∀ x, x ∈ xs → RgI x) (hxl : xs.length ≤ 2 ^ 20) (hvo : vo ≤ cc.length) : TrE Try.prog 36 [kP k, .slice (some ⟨pb, 0, none⟩) xs.length xs.length] ([(k, .cells [.bool true, adr, bv, sV left].toArray 84), (vb, .cells cc.toArray Tv), (pb, .cells ps.toArray Tp)]) (fun u L' => u = .tuple #[] ∧ 2 * xs.length ≤ left.length ∧ L' = [(k, .cells [.bool true, adr, bv, sV (left.drop (2 * xs.length))].toArray 84), (vb, .cells (setAt cc vo (intC (rdTw xs.length left))).toArray Tv), (pb, .cells ps.toArray Tp)]) (fun c L' => c = badC ∧ left.length < 2 * xs.length ∧ L' = []) := by
 have hccl : vo + xs.length ≤ cc.length := cc_len hcc hvo
 refine TrE.enter Try.func36 rfl Try.ntmps36 rfl (fun W F => ?_)
 refine Wp.app ?_
 refine Wr ?_
 refine Om1 rfl rfl ?_
 refine Ops.pv (pv_len_slice (T := 151) rfl rfl) rfl ?_
 refine Om1 rfl rfl ?_
 refine On ?_
 refine Wp.block ?_
 refine Wp.loopK (σ := Nat × List UInt8 × List Int × List Value) [(0, _), (7, _), (8, _)] (fun s => [(9, .int .i64 s.1)]) (fun s => (k, .cells [.bool true, adr, bv, sV s.2.1].toArray 84) :: ((vb, .cells s.2.2.2.toArray Tv) :: ((pb, .cells ps.toArray Tp) :: F))) (fun s => s.1 ≤ xs.length ∧ 2 * s.1 ≤ left.length ∧ s.2.1 = left.drop (2 * s.1) ∧ s.2.2.1 = rdTw s.1 left ∧ s.2.2.1.length = s.1 ∧ s.2.2.2 = setAt cc vo (intC s.2.2.1)) (fun s => xs.length - s.1) (0, left, [], cc) ⟨Nat.zero_le _, Nat.zero_le _, rfl, rfl, rfl, (setAt_nil cc vo).symm⟩ ⟨rfl, rfl, rfl, trivial⟩ ⟨rfl, trivial⟩ (by intro w ho; (try dsimp only [List.nil_append, List.cons_append]); exact Drop.own ho) ?_
 rintro ⟨i, lf, vs, c2⟩ KK ⟨hi, h2i, hlf, hvs, hvl, hc2⟩ hK
 dsimp only [List.cons_append, List.nil_append] at hK ⊢
 dsimp only at hi h2i hlf hvs hvl hc2 ⊢
 refine Wr ?_
 refine Ops.pv (pv_lss rfl rfl) rfl ?_
 refine On ?_
 refine Wp.seq ?_
 refine Wp.cond_dect rfl (fun h1 => ?_) (fun h1 => ?_)
 ·
  obtain ⟨x, hx⟩ : ∃ x, xs[i]? = some x := ⟨_, List.getElem?_eq_getElem (by omega)⟩
  have hpi : nth ps i = some (.pointer (some ⟨vb, vo + i, none⟩)) := by rw [hps]; exact ptrsM_get vb _ vo i (by omega)
  have hrx := hxr x (List.mem_of_getElem? hx)
  have hcx := hcc i x hx
  have hcx2 : nth c2 (vo + i) = some (.int .i64 x) := by rw [hc2, nth_eq, setAt_get (by rw [intC_len, hvl]; omega) (by rw [intC_len, hvl]; omega), ← nth_eq]; exact hcx
  refine Wp.skip ?_
  refine Ends.seq ?_
  refine Wp.seq ?_
  refine Wp.block ?_
  refine Wr ?_
  refine Ops.pv (pv_indexAddr (i := i) rfl rfl rfl (by omega)) rfl ?_
  refine Ops.pv (pv_load rfl rfl (by rw [Nat.zero_add, Nat.mul_one]; exact hpi)) rfl ?_
  refine Oa1 rfl rfl ?_
  refine On ?_
  refine Wr ?_
  refine Om1 rfl rfl ?_
  refine Ops.pv (pv_nilCheck rfl) rfl ?_
  refine Ops.pv (pv_load rfl rfl hcx2) rfl ?_
  refine Ops.pv (pv_conv rfl (uI_eq x)) rfl ?_
  refine Ops.ef rfl (ef_alloc1 tyZ57 rfl rfl) ?_
  rintro _ _ ⟨b1, rfl, rfl⟩
  refine Ops.ef rfl (ef_store1 rfl rfl (by first | rfl | assumption) (by first | rfl | assumption)) ?_
  rintro _ _ ⟨rfl, rfl⟩
  refine On ?_
  refine Wr ?_
  refine Om1 rfl rfl ?_
  refine Ops.efx rfl (efx_call (tr_wordR k adr bv lf (by rw [hlf, List.length_drop]; omega) h1b h1a b1 0 [.int .u64 (uI x)] 57 (uI x) rfl 2 (by decide) (by decide)) rfl rfl) ?_ ?_
  ·
   rintro _ _ ⟨_, ⟨rfl, hno, rfl⟩, rfl⟩
   exact ⟨[], ⟨rfl, by rw [hlf, List.length_drop] at hno; omega, rfl⟩, inferInstance⟩
  rintro _ _ ⟨_, _, ⟨rfl, h2l, rfl⟩, rfl, rfl⟩
  refine Ops.app ?_
  rw [hlf, List.length_drop] at h2l
  have hv2 := leV_lt (lf.take 2)
  have hv3 : leV (lf.take 2) < 65536 := Nat.lt_of_lt_of_le hv2 (Nat.pow_le_pow_right (n := 256) (by decide) (List.length_take_le 2 lf))
  refine On ?_
  refine Wp.region ?_
  refine Om1 rfl rfl ?_
  refine Ol1 rfl rfl rfl rfl ?_
  refine Ops.pv (pv_conv rfl (w64n (k := leV (lf.take 2)) rfl (by omega))) rfl ?_
  refine Ops.pv (pv_nilCheck rfl) rfl ?_
  refine Ops.ef rfl (ef_store1 (hset := setL_set (nth_lt hcx2)) rfl rfl rfl rfl) ?_
  rintro _ _ ⟨rfl, rfl⟩
  have hc3 : c2.set (vo + i) (.int .i64 (leV (lf.take 2) : Nat)) = setAt cc vo (intC (vs ++ [(leV (lf.take 2) : Int)])) := by rw [intC_snoc, setAt_succ (by rw [intC_len, hvl]; omega), intC_len, hvl, hc2]
  refine Ops.nil ?_
  refine Ends.block_normal ?_
  refine Ends.seq ?_
  refine Wp.region ?_
  refine Ops.pv (pv_add rfl rfl (w64n (k := i + 1) (by omega) (by omega))) rfl ?_
  refine Om1 rfl rfl ?_
  refine Ops.nil ?_
  refine Ends.goes ?_
  refine Goes.back (hK (i + 1, lf.drop 2, vs ++ [(leV (lf.take 2) : Int)], c2.set (vo + i) (.int .i64 (leV (lf.take 2) : Nat))) ⟨by dsimp only; omega, by dsimp only; omega, by dsimp only; rw [hlf, List.drop_drop]; congr 1, by dsimp only; rw [rdTw_succ, hvs, hlf], by dsimp only; rw [List.length_append, hvl]; rfl, hc3⟩ (by dsimp only; omega)) ⟨rfl, rfl, rfl, rfl, trivial⟩
 obtain rfl : i = xs.length := by omega
 refine Wp.exit ?_
 refine Ends.then_exit ?_
 refine Ends.then_exit ?_
 refine Ends.block_hit ?_
 subst hlf; subst hc2; subst hvs
 exact Ends.finE (L' := [(k, .cells [.bool true, adr, bv, sV (left.drop (2 * xs.length))].toArray 84), (vb, .cells (setAt cc vo (intC (rdTw xs.length left))).toArray Tv), (pb, .cells ps.toArray Tp)]) (res0 rfl) ⟨rfl, h2i, rfl⟩
end Go.Proofs.Ytkldjadpoknejaa
end
section
set_option linter.unusedVariables false
set_option linter.unusedSimpArgs false
set_option linter.unusedSectionVars false
namespace Go.Proofs.Ytkldjadpoknejaa
open Go.SL
inductive Fld | two | lab | spc | w4 | w8 | flg
def Fld.cell : Fld → Int → Value
  | .two, x => .int .i64 x
  | .lab, x => .int .i64 x
  | .spc, x => .int .i64 x
  | .w4, x => .int .u64 x
  | .w8, x => .int .u64 x
  | .flg, x => .bool (decide (x = 1))
def Fld.wid : Fld → Nat
  | .two => 2
  | .lab => 2
  | .spc => 2
  | .w4 => 4
  | .w8 => 8
  | .flg => 1
def Fld.rg : Fld → Int → Prop
  | .two, x => RgI x
  | .lab, x => RgI x
  | .spc, x => RgI x
  | .w4, x => 0 ≤ x ∧ x < 18446744073709551616
  | .w8, x => 0 ≤ x ∧ x < 18446744073709551616
  | .flg, x => x = 0 ∨ x = 1
def Fld.ok : Fld → Int → Prop
  | .two, x => 0 ≤ x ∧ x ≤ 65535
  | .lab, x => 0 ≤ x ∧ x ≤ 7
  | .spc, x => -1 ≤ x ∧ x ≤ 65534
  | .w4, x => x < 4294967296
  | .w8, _ => True
  | .flg, _ => True
def Fld.enc : Fld → Int → List UInt8
  | .two, x => leB 2 (uI x)
  | .lab, x => leB 2 (uI x)
  | .spc, x => leB 2 (uI (x + 1))
  | .w4, x => leB 4 x.toNat
  | .w8, x => leB 8 x.toNat
  | .flg, x => leB 1 x.toNat
def Fld.dec : Fld → Nat → Option Int
  | .two, v => some v
  | .lab, v => if v < 8 then some v else none
  | .spc, v => some ((v : Int) - 1)
  | .w4, v => some v
  | .w8, v => some v
  | .flg, v => if v < 2 then some v else none
def cellsE (fs : List Fld) (e : List Int) : List Value := List.zipWith Fld.cell fs e
def rgE : List Fld → List Int → Prop
  | f :: fs, x :: e => f.rg x ∧ rgE fs e
  | _, _ => True
def okE : List Fld → List Int → Prop
  | f :: fs, x :: e => f.ok x ∧ okE fs e
  | _, _ => True
def encE : List Fld → List Int → List UInt8
  | f :: fs, x :: e => f.enc x ++ encE fs e
  | _, _ => []
def rdF (f : Fld) (s : List UInt8) : Option (Int × List UInt8) := if s.length < f.wid then none else (f.dec (leV (s.take f.wid))).map fun v => (v, s.drop f.wid)
def rdE : List Fld → List UInt8 → Option (List Int × List UInt8)
  | [], s => some ([], s)
  | f :: fs, s => match rdF f s with
    | none => none
    | some (v, s1) => match rdE fs s1 with
      | none => none
      | some (e, s2) => some (v :: e, s2)
def widE (fs : List Fld) : Nat := (fs.map Fld.wid).sum
theorem rdE_some {f : Fld} {fs : List Fld} {s s1 s2 : List UInt8} {v : Int} {e : List Int} (h1 : rdF f s = some (v, s1)) (h2 : rdE fs s1 = some (e, s2)) : rdE (f :: fs) s = some (v :: e, s2) := by rw [rdE, h1]; dsimp only; rw [h2]
theorem rdE_none {f : Fld} {fs : List Fld} {s s1 : List UInt8} {v : Int} (h1 : rdF f s = some (v, s1)) (h2 : rdE fs s1 = none) : rdE (f :: fs) s = none := by rw [rdE, h1]; dsimp only; rw [h2]
theorem rdE_none' {f : Fld} {fs : List Fld} {s : List UInt8} (h1 : rdF f s = none) : rdE (f :: fs) s = none := by rw [rdE, h1]
theorem rdF_len {f : Fld} {s s1 : List UInt8} {v : Int} (h : rdF f s = some (v, s1)) : f.wid ≤ s.length ∧ s1 = s.drop f.wid := by
 unfold rdF at h
 split at h
 ·
  cases h
 ·
  cases hd : f.dec (leV (s.take f.wid)) with
  | none => rw [hd] at h; cases h
  | some x => rw [hd] at h; cases h; exact ⟨by omega, rfl⟩
theorem rdE_len : ∀ {fs : List Fld} {s s2 : List UInt8} {e : List Int}, rdE fs s = some (e, s2) → widE fs ≤ s.length ∧ s2 = s.drop (widE fs) ∧ e.length = fs.length
  | [], s, s2, e, h => by cases h; exact ⟨Nat.zero_le _, rfl, rfl⟩
  | f :: fs, s, s2, e, h => by
    rw [rdE] at h
    split at h
    · cases h
    · rename_i v s1 h1
      obtain ⟨l1, rfl⟩ := rdF_len h1
      split at h
      · cases h
      · rename_i e2 s3 h2
        cases h
        obtain ⟨l2, rfl, l3⟩ := rdE_len h2
        rw [List.length_drop] at l2
        have e : widE (f :: fs) = f.wid + widE fs := by simp [widE]
        rw [e, List.drop_drop, List.length_cons, l3, List.length_cons]
        exact ⟨by omega, rfl, rfl⟩
theorem rdE_short {fs : List Fld} {s : List UInt8} (h : s.length < widE fs) : rdE fs s = none := by
 cases hr : rdE fs s with
 | none => rfl
 | some x => obtain ⟨e, s2⟩ := x; have := (rdE_len hr).1; omega
theorem rdF_of {f : Fld} {s : List UInt8} {v : Int} (h : f.wid ≤ s.length) (hd : f.dec (leV (s.take f.wid)) = some v) : rdF f s = some (v, s.drop f.wid) := by
 unfold rdF; rw [if_neg (by omega), hd]; rfl
theorem rdF_bad {f : Fld} {s : List UInt8} (h : f.wid ≤ s.length) (hd : f.dec (leV (s.take f.wid)) = none) : rdF f s = none := by
 unfold rdF; rw [if_neg (by omega), hd]; rfl
def Lies (cc : List Value) (o : Nat) (X : List Value) : Prop := ∀ j v, X[j]? = some v → nth cc (o + j) = some v
theorem Lies.at_ {cc X : List Value} {o : Nat} {v : Value} (h : Lies cc o X) (j : Nat) (hj : X[j]? = some v) : nth cc (o + j) = some v := h j v hj
theorem Lies.ints {cc X S : List Value} {o : Nat} {xs : List Int} (P : List Value) (h : Lies cc o X) (hX : X = P ++ (intC xs ++ S)) : ∀ j x, xs[j]? = some x → nth cc (o + P.length + j) = some (.int .i64 x) := fun j x hx => by
 have := h (P.length + j) (.int .i64 x) (by
  rw [hX, List.getElem?_append_right (by omega), show P.length + j - P.length = j by omega]
  rw [List.getElem?_append_left (by rw [intC_len]; exact (List.getElem?_eq_some_iff.1 hx).1)]
  simp [intC, hx])
 rwa [show o + (P.length + j) = o + P.length + j by omega] at this
theorem Lies.len {cc X : List Value} {o : Nat} (h : Lies cc o X) (h0 : X ≠ []) : o + X.length ≤ cc.length := by
 have hp : 0 < X.length := List.length_pos_iff.2 h0
 obtain ⟨v, hv⟩ : ∃ v, X[X.length - 1]? = some v := ⟨_, List.getElem?_eq_getElem (by omega)⟩
 have := nth_lt (h _ _ hv)
 omega
theorem lies_mid (A X B : List Value) : Lies (A ++ (X ++ B)) A.length X := fun j v hv => by
 rw [nth_eq, List.getElem?_append_right (by omega), show A.length + j - A.length = j by omega, List.getElem?_append_left (List.getElem?_eq_some_iff.1 hv).1]
 exact hv
theorem setAt_setAt {cc : List Value} {o : Nat} {P Q : List Value} (h : o + P.length + Q.length ≤ cc.length) : setAt (setAt cc o P) (o + P.length) Q = setAt cc o (P ++ Q) := by
 have e : (cc.take o ++ P).length = o + P.length := by simp only [List.length_append, List.length_take]; omega
 have h1 : setAt cc o P = (cc.take o ++ P) ++ cc.drop (o + P.length) := rfl
 unfold setAt at h1 ⊢
 rw [← e, List.take_left' rfl, List.drop_append, List.drop_eq_nil_of_le (by omega), List.nil_append, show (cc.take o ++ P).length + Q.length - (cc.take o ++ P).length = Q.length by omega, e, List.drop_drop]
 simp only [List.append_assoc, List.length_append]
 congr 3
 congr 1
 omega
theorem set_setAt {cc : List Value} {o : Nat} {v : Value} (h : o < cc.length) : cc.set o v = setAt cc o [v] := by
 have := setAt_succ (cc := cc) (o := o) (vs := []) (v := v) (by simpa using h)
 rw [setAt_nil] at this
 simpa using this.symm
theorem nth_setAt {cc : List Value} {o j : Nat} {P : List Value} (h : o + P.length ≤ cc.length) (hj : o + P.length ≤ j) : nth (setAt cc o P) j = nth cc j := by
 rw [nth_eq, nth_eq, setAt_get h hj]
theorem setL_set2s {c : List Value} {o : Nat} {u v : Value} (h : nth c o = some v) (hl : o < c.length) : SetL (c.set o u) o [v] c := by
 have := setL_set2 (c := c) (u := u) (v := v) hl
 rwa [set_same h] at this
theorem flg_enc {x : Int} (h : x = 0 ∨ x = 1) : x.toNat = if x = 1 then 1 else 0 := by
 rcases h with rfl | rfl <;> rfl
theorem nth_set_ne {c : List Value} {o j : Nat} {v : Value} (h : o ≠ j) : nth (c.set o v) j = nth c j := by rw [nth_eq, nth_eq, List.getElem?_set_ne h]
theorem nth_setAt_in {c X : List Value} {o j : Nat} {v : Value} (h : o ≤ c.length) (hj : X[j]? = some v) : nth (setAt c o X) (o + j) = some v := by
 unfold setAt
 have e : (c.take o).length = o := by rw [List.length_take]; omega
 rw [nth_eq, List.append_assoc, List.getElem?_append_right (by omega), e, show o + j - o = j by omega, List.getElem?_append_left (List.getElem?_eq_some_iff.1 hj).1]
 exact hj
theorem one_hcc {c : List Value} {o : Nat} {x : Int} (h : nth c o = some (.int .i64 x)) : ∀ j y, [x][j]? = some y → nth c (o + j) = some (.int .i64 y)
  | 0, y, hy => by cases hy; exact h
  | j + 1, y, hy => by simp at hy
theorem set_at {cc P : List Value} {o k : Nat} {v : Value} (hk : P.length = k) (h : o + k < cc.length) : (setAt cc o P).set (o + k) v = setAt cc o (P ++ [v]) := by
 subst hk; exact (setAt_succ h).symm
theorem setAt_at {cc P Q : List Value} {o k : Nat} (hk : P.length = k) (h : o + k + Q.length ≤ cc.length) : setAt (setAt cc o P) (o + k) Q = setAt cc o (P ++ Q) := by
 subst hk; exact setAt_setAt h
theorem set_at' {c cc P : List Value} {o k i : Nat} {v : Value} (hc : c = setAt cc o P) (hk : P.length = k) (hi : i = o + k) (h : o + k < cc.length) : c.set i v = setAt cc o (P ++ [v]) := by
 subst hc; subst hi; exact set_at hk h
theorem setAt_at' {c cc P Q : List Value} {o k i : Nat} (hc : c = setAt cc o P) (hk : P.length = k) (hi : i = o + k) (h : o + k + Q.length ≤ cc.length) : setAt c i Q = setAt cc o (P ++ Q) := by
 subst hc; subst hi; exact setAt_at hk h
theorem set_last' {c cc P : List Value} {o k i : Nat} {v w : Value} (hc : c = setAt cc o (P ++ [v])) (hk : P.length = k) (hi : i = o + k) (h : o + k < cc.length) : c.set i w = setAt cc o (P ++ [w]) := by
 subst hc; subst hi; subst hk
 rw [setAt_succ h, setAt_succ h, List.set_set]
theorem setAt_last' {c cc P : List Value} {o k i : Nat} {v w : Value} (hc : c = setAt cc o (P ++ [v])) (hk : P.length = k) (hi : i = o + k) (h : o + k < cc.length) : setAt c i [w] = setAt cc o (P ++ [w]) := by
 have hl : c.length = cc.length := by rw [hc, setAt_len]; simp only [List.length_append, List.length_cons, List.length_nil]; omega
 rw [← set_setAt (by omega)]; exact set_last' hc hk hi h
theorem len_set' {c cc : List Value} {i : Nat} {v : Value} (h : c.length = cc.length) : (c.set i v).length = cc.length := by rw [List.length_set, h]
theorem len_setAt' {c cc P : List Value} {i k : Nat} (h : c.length = cc.length) (hk : P.length = k) (hi : i + k ≤ cc.length) : (setAt c i P).length = cc.length := by subst hk; rw [setAt_len (by omega), h]
theorem leV2 (s : List UInt8) : leV (s.take 2) < 65536 :=
  Nat.lt_of_lt_of_le (leV_lt _) (Nat.pow_le_pow_right (n := 256) (by decide) (List.length_take_le 2 s))
def fsO : List Fld := [.two, .two, .lab]
def fsP : List Fld := [.two, .two, .two, .two, .two, .w4, .w4, .two]
def fsM : List Fld := [.two, .two, .two, .flg]
def fsF : List Fld := [.two, .two, .w8]
def fsT : List Fld := [.two, .two, .two, .two, .two, .w4, .two, .spc]
def fsW : List Fld := [.two, .two, .two, .w4]
def fsS : List Fld := [.two, .two]
end Go.Proofs.Ytkldjadpoknejaa
end
