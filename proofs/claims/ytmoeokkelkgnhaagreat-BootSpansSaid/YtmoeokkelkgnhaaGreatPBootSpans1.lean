/- BootSpans. Laid together by pack.py out of the texts in wip. -/
import Derived.Test.YtmoeokkelkgnhaaGreatRows
import Derived.WalkKit
import Derived.OrdersHeld
import Derived.Laws.StructEq
import Derived.Laws.Pointers
import Derived.KernelRfl
import Derived.ChangeKeysEq
import Derived.Laws.Cover3
import Derived.Below
import Derived.Deep.Slices
import Derived.ChangeOld
import Derived.ChangeSame
import Derived.Carry
import Derived.LaidEql
import Derived.Laws.CopyRow
import Derived.Laws.IdiomRangeMap
import Derived.ScopeJumps
import Derived.Recover
import Derived.Lib.UnsafeStr
import Derived.Lib.Builder
import Derived.Laws.Concat
import Derived.Laws.BytesString
import Derived.Laws.Externs
import Derived.ChangeMaps5
import Derived.ProofKit
import Derived.OpenShut
set_option linter.unusedVariables false
set_option linter.unusedSimpArgs false
set_option linter.unusedSectionVars false
set_option maxHeartbeats 64000000
section
namespace Go.SL
abbrev Env:=List (Nat×Value)
abbrev Hp:=List (Nat×Obj)
def look (t:Nat):Env→Option Value
  | []=>none
  | (k,v)::E=>match Nat.beq k t with
    | true=>some v
    | false=>look t E
structure Sees (n:Nat) (D:List Deferred) (E:Env) (a:Act):Prop where
  size:a.tmps.size=n
  dfs:a.defers=D
  get:∀t v,look t E=some v→a.tmps[t]?=some v
def ev (E:Env):Operand→Option Value
  | .tmp t=>look t E
  | .const v=>some v
  | .global g=>some (.pointer (some ⟨g,0,none⟩))
  | .func f=>some (.func (.func f) #[] #[])
def evs (E:Env):List Operand→Option (List Value)
  | []=>some []
  | x::xs=>match ev E x with
    | none=>none
    | some v=>match evs E xs with
      | none=>none
      | some vs=>some (v::vs)
structure Own (W w:World) (L:Hp):Prop where
  os:w.os=W.os
  tape:w.tape=W.tape
  out:w.output=W.output
  nd:(L.map Prod.fst).Nodup
  get:∀p,p∈L→w.heap[p.1]?=some p.2
def Held (L:Hp) (w:World):Prop:=∀p,p∈L→w.heap[p.1]?=some p.2
theorem Own.held{W w:World}{L:Hp}(h:Own W w L):Held L w:=h.get
section sees
variable {n : Nat} {D : List Deferred} {E : Env} {a : Act}
theorem Sees.ev(h:Sees n D E a){x:Operand}{v:Value}(hx:SL.ev E x=some v):a.eval x=v:=by
  cases x with
  | tmp t=>have:=h.get t v hx;simp[Act.eval,this]
  | const c=>simpa [SL.ev,Act.eval] using hx
  | global g=>simpa [SL.ev,Act.eval] using hx
  | func f=>simpa [SL.ev,Act.eval] using hx
theorem Sees.evs(h:Sees n D E a):∀{xs:List Operand} {vs:List Value},SL.evs E xs=some vs→xs.map a.eval=vs
  | [],vs,hx=>by simpa [SL.evs] using hx
  | x::xs,vs,hx=>by
    simp only[SL.evs]at hx
    split at hx
    · cases hx
    · rename_i v hv
      split at hx
      · cases hx
      · rename_i us hus
        cases hx;simp[h.ev hv,h.evs hus]
theorem Sees.put(h:Sees n D E a){d:Nat}{v:Value}(hd:Nat.blt d n=true):Sees n D ((d,v)::E) (a.put (some d) v):=by
  have hlt:d<n:=by simpa [Nat.blt_eq] using hd
  refine ⟨by simp[Act.put,h.size],by simp[Act.put,h.dfs],fun t u hu=>?_⟩;simp only[look]at hu
  split at hu
  · rename_i hb
    have:d=t:=Nat.eq_of_beq_eq_true hb
    subst this;cases hu;simp[Act.put,h.size,hlt]
  · rename_i hb
    have:d≠t:=fun e=>by subst e;simp at hb
    simp only[Act.put];rw[Array.getElem?_setIfInBounds_ne this];exact h.get t u hu
theorem Sees.put_none(h:Sees n D E a){v:Value}:Sees n D E (a.put none v):=h
def SubE:Env→Env→Prop
  | [],_=>True
  | (t,v)::E', E=>look t E=some v∧SubE E' E
theorem look_of_subE:∀{E' E:Env},SubE E' E→∀t v,look t E' = some v→look t E=some v
  | [],_,_,t,v,h=>by cases h
  | (k,u)::E', E,hs,t,v,h=>by
    simp only[look]at h
    split at h
    · rename_i hb
      cases h;rw[←Nat.eq_of_beq_eq_true hb];exact hs.1
    · exact look_of_subE hs.2 t v h
theorem Sees.sub{E' : Env}(h:Sees n D E a)(hs:SubE E' E):Sees n D E' a:=⟨h.size,h.dfs,fun t v hv=>h.get t v (look_of_subE hs t v hv)⟩
end sees
section own
variable {W w : World} {L : Hp}
theorem Own.lt(h:Own W w L){b:Nat}{o:Obj}(hm:(b,o)∈L):b<w.heap.size:=by
  have:=h.get _ hm
  rcases Nat.lt_or_ge b w.heap.size with h' | h'
  · exact h'
  · simp[Array.getElem?_eq_none h']at this
theorem Own.drew(h:Own W w L):Own W w.drew L:=⟨h.os,h.tape,h.out,h.nd,h.get⟩
theorem Own.drawn(h:Own W w L)(n:Nat):Own W { w with drawn:=n } L:=⟨h.os,h.tape,h.out,h.nd,h.get⟩
theorem Own.alloc(h:Own W w L)(o:Obj):Own W (w.alloc o) ((w.heap.size,o)::L):=by
  refine ⟨h.os,h.tape,h.out,?_,?_⟩
  · simp only[List.map_cons,List.nodup_cons]
    refine ⟨fun hm=>?_,h.nd⟩;obtain ⟨⟨b,o'⟩,hm,rfl⟩:=List.mem_map.1 hm;exact Nat.lt_irrefl _ (h.lt hm)
  · intro p hp
    rcases List.mem_cons.1 hp with rfl | hp
    · simp[World.alloc,-World.alloc_eq]
    · have hlt:=h.lt (b:=p.1) (o:=p.2) hp
      simp only[World.alloc,Array.getElem?_push];rw[if_neg (Nat.ne_of_lt hlt)];exact h.get p hp
theorem Own.perm{L' : Hp}(h:Own W w L)(hp:L.Perm L'):Own W w L' :=
  ⟨h.os,h.tape,h.out,(hp.map Prod.fst).nodup_iff.1 h.nd,fun p hm=>h.get p (hp.mem_iff.2 hm)⟩
theorem Own.sublist{L' : Hp}(h:Own W w L)(hp:L'.Sublist L):Own W w L' :=
  ⟨h.os,h.tape,h.out,h.nd.sublist (hp.map Prod.fst),fun p hm=>h.get p (hp.subset hm)⟩
theorem Own.app_left{A B:Hp}(h:Own W w (A++B)):Own W w A:=h.sublist (List.sublist_append_left A B)
theorem Own.app_right{A B:Hp}(h:Own W w (A++B)):Own W w B:=h.sublist (List.sublist_append_right A B)
theorem Own.set{A B:Hp}{b:Nat}{o o' : Obj}{w' : World}(h:Own W w (A++(b,o)::B))
    (hos:w'.os=w.os) (ht:w'.tape=w.tape) (hout:w'.output=w.output)
    (hb:w'.heap[b]?=some o') (hne:∀k,k≠b→w'.heap[k]?=w.heap[k]?):Own W w' (A++(b,o')::B):=by
  refine ⟨hos.trans h.os,ht.trans h.tape,hout.trans h.out,by simpa using h.nd,fun p hp=>?_⟩;have hnd:=h.nd
  simp only[List.map_append,List.map_cons,List.nodup_append,List.nodup_cons]at hnd
  rcases List.mem_append.1 hp with hp | hp
  · have hneq:p.1≠b:=fun e=>hnd.2.2 _ (List.mem_map.2 ⟨p,hp,rfl⟩) _ (List.mem_cons_self ..) e
    rw[hne _ hneq];exact h.get p (List.mem_append_left _ hp)
  · rcases List.mem_cons.1 hp with rfl | hp
    · exact hb
    · have hneq:p.1≠b:=fun e=>hnd.2.1.1 (e ▸ List.mem_map.2 ⟨p,hp,rfl⟩)
      rw[hne _ hneq];exact h.get p (List.mem_append_right _ (List.mem_cons_of_mem _ hp))
end own
class Blk (L:Hp) (b:Nat) (o:outParam Obj):Prop where
  mem:(b,o)∈L
instance (priority:=1100) Blk.here {b:Nat} {o:Obj} {L:Hp}:Blk ((b,o)::L) b o:=⟨List.mem_cons_self ..⟩
instance (priority:=1000) Blk.there {b:Nat} {o:Obj} {x:Nat×Obj} {L:Hp} [h:Blk L b o]:Blk (x::L) b o:=⟨List.mem_cons_of_mem _ h.mem⟩
instance (priority:=900) Blk.right {b:Nat} {o:Obj} {S L:Hp} [h:Blk L b o]:Blk (S++L) b o:=⟨List.mem_append_right _ h.mem⟩
instance (priority:=800) Blk.left {b:Nat} {o:Obj} {S L:Hp} [h:Blk S b o]:Blk (S++L) b o:=⟨List.mem_append_left _ h.mem⟩
class Upd (L:Hp) (b:Nat) (o' : Obj) (L' : outParam Hp):Prop where
  eq:∃A B o,L=A++(b,o)::B∧L' = A++(b,o')::B
instance (priority:=1100) Upd.here {b:Nat} {o o' : Obj} {L:Hp}:Upd ((b,o)::L) b o' ((b,o')::L):=⟨[],L,o,rfl,rfl⟩
instance (priority:=1000) Upd.there {b:Nat} {o' : Obj} {x:Nat×Obj} {L L' : Hp} [h:Upd L b o' L']:Upd (x::L) b o' (x::L') :=
  ⟨by obtain ⟨A,B,o,h1,h2⟩:=h.eq;exact ⟨x::A,B,o,by rw[h1];rfl,by rw[h2];rfl⟩⟩
instance (priority:=900) Upd.right {b:Nat} {o' : Obj} {S L L' : Hp} [h:Upd L b o' L']:Upd (S++L) b o' (S++L') :=
  ⟨by obtain ⟨A,B,o,h1,h2⟩:=h.eq;exact ⟨S++A,B,o,by rw[h1,List.append_assoc],by rw[h2,List.append_assoc]⟩⟩
instance (priority:=800) Upd.left {b:Nat} {o' : Obj} {S S' L:Hp} [h:Upd S b o' S']:Upd (S++L) b o' (S' ++ L) :=
  ⟨by obtain ⟨A,B,o,h1,h2⟩:=h.eq;exact ⟨A,B++L,o,by rw[h1];simp,by rw[h2];simp⟩⟩
class Take (L:Hp) (b:Nat) (o:outParam Obj) (R:outParam Hp):Prop where
  perm:L.Perm ((b,o)::R)
instance (priority:=1100) Take.here {b:Nat} {o:Obj} {L:Hp}:Take ((b,o)::L) b o L:=⟨List.Perm.refl _⟩
instance (priority:=1000) Take.there {b:Nat} {o:Obj} {x:Nat×Obj} {L R:Hp} [h:Take L b o R]:Take (x::L) b o (x::R) :=
  ⟨(h.perm.cons x).trans (List.Perm.swap _ _ _)⟩
instance (priority:=900) Take.right {b:Nat} {o:Obj} {S L R:Hp} [h:Take L b o R]:Take (S++L) b o (S++R) :=
  ⟨(List.Perm.append_left S h.perm).trans List.perm_middle⟩
class TakeS (L S:Hp) (R:outParam Hp):Prop where
  perm:L.Perm (S++R)
instance (priority:=1200) TakeS.all {S:Hp}:TakeS S S []:=⟨by simp⟩
instance (priority:=1100) TakeS.head {S R:Hp}:TakeS (S++R) S R:=⟨List.Perm.refl _⟩
instance (priority:=1000) TakeS.skip {x:Nat×Obj} {L S R:Hp} [h:TakeS L S R]:TakeS (x::L) S (x::R) :=
  ⟨(h.perm.cons x).trans (List.perm_middle.symm)⟩
instance (priority:=900) TakeS.skipApp {T L S R:Hp} [h:TakeS L S R]:TakeS (T++L) S (T++R) :=
  ⟨(List.Perm.append_left T h.perm).trans (by
    rw[←List.append_assoc,←List.append_assoc];exact List.Perm.append_right R List.perm_append_comm)⟩
class Part (L S:Hp) (R:outParam Hp):Prop where
  perm:L.Perm (S++R)
instance (priority:=2000) Part.nil {L:Hp}:Part L [] L:=⟨List.Perm.refl _⟩
instance (priority:=1300) Part.cons {b:Nat} {o:Obj} {L L1 S R:Hp} [h:Take L b o L1] [k:Part L1 S R]:Part L ((b,o)::S) R :=
  ⟨h.perm.trans (k.perm.cons _)⟩
instance (priority:=1200) Part.app {L S T R R' : Hp} [h:TakeS L S R] [k:Part R T R']:Part L (S++T) R' :=
  ⟨h.perm.trans ((List.Perm.append_left S k.perm).trans (by simp))⟩
instance (priority:=1100) Part.one {L S R:Hp} [h:TakeS L S R]:Part L S R:=⟨h.perm⟩
theorem Own.part{W w:World}{L S R:Hp}(h:Own W w L)(p:Part L S R):Own W w (S++R):=h.perm p.perm
class Drop (L M:Hp):Prop where
  own:∀{W w:World},Own W w L→Own W w M
instance (priority:=1000) Drop.refl {L:Hp}:Drop L L:=⟨id⟩
instance (priority:=100) Drop.mk' {L M R:Hp} [h:Part L M R]:Drop L M:=⟨fun o=>(o.part h).app_left⟩
section judge
def Ops (P:Program) (W:World) (ops:Array Oper) (Q:Exit→Act→World→Prop) (n:Nat) (D:List Deferred) (rest:List Oper) (E:Env) (L:Hp):Prop :=
  ∀a w,Sees n D E a→Own W w L→wpList P ops Q rest a w
def Wp (P:Program) (W:World) (Q:Exit→Act→World→Prop) (n:Nat) (D:List Deferred) (c:Code) (E:Env) (L:Hp):Prop :=
  ∀a w,Sees n D E a→Own W w L→c.wp P Q a w
def Ends (W:World) (Q:Exit→Act→World→Prop) (n:Nat) (D:List Deferred) (e:Exit) (E:Env) (L:Hp):Prop :=
  ∀a w,Sees n D E a→Own W w L→Q e a w
def Goes (W:World) (K:Act→World→Prop) (n:Nat) (D:List Deferred) (E:Env) (L:Hp):Prop :=
  ∀a w,Sees n D E a→Own W w L→K a w
variable {P : Program} {W : World} {ops : Array Oper} {Q : Exit → Act → World → Prop} {n : Nat} {D : List Deferred} {E E' : Env} {L L' : Hp} {rest : List Oper}
theorem Wp.seq{x y:Code}(h:Wp P W (Exit.then (y.wp P Q) Q) n D x E L):Wp P W Q n D (.seq x y) E L:=fun a w hs ho=>wp_seq (h a w hs ho)
theorem Ends.seq{y:Code}(h:Wp P W Q n D y E L):Ends W (Exit.then (y.wp P Q) Q) n D .normal E L:=h
theorem Ends.goes{K:Act→World→Prop}(h:Goes W K n D E L):Ends W (Exit.then K Q) n D .normal E L:=h
theorem Ends.then_exit{K:Act→World→Prop}{i:Nat}(h:Ends W Q n D (.exit i) E L):Ends W (Exit.then K Q) n D (.exit i) E L:=h
theorem Ends.then_ret{K:Act→World→Prop}(h:Ends W Q n D .ret E L):Ends W (Exit.then K Q) n D .ret E L:=h
theorem Ends.block_normal{id:Nat}(h:Ends W Q n D .normal E L):Ends W (Exit.inBlock id Q) n D .normal E L:=h
theorem Ends.block_ret{id:Nat}(h:Ends W Q n D .ret E L):Ends W (Exit.inBlock id Q) n D .ret E L:=h
theorem Ends.block_hit{id:Nat}(h:Ends W Q n D .normal E L):Ends W (Exit.inBlock id Q) n D (.exit id) E L:=fun a w hs ho=>by
  simp only[Exit.inBlock,if_true];exact h a w hs ho
theorem Ends.block_miss{id i:Nat}(hb:Nat.beq i id=false)(h:Ends W Q n D (.exit i) E L):Ends W (Exit.inBlock id Q) n D (.exit i) E L:=fun a w hs ho=>by
  have hne:i≠id:=fun e=>by subst e;simp at hb
  simp only[Exit.inBlock,if_neg hne];exact h a w hs ho
theorem Wp.block{id:Nat}{c:Code}(h:Wp P W (Exit.inBlock id Q) n D c E L):Wp P W Q n D (.block id c) E L:=fun a w hs ho=>wp_block (h a w hs ho)
theorem Wp.exit{id:Nat}(h:Ends W Q n D (.exit id) E L):Wp P W Q n D (.exit id) E L:=fun a w hs ho=>wp_exit (h a w hs ho)
theorem Wp.ret(h:Ends W Q n D .ret E L):Wp P W Q n D .ret E L:=fun a w hs ho=>wp_ret (h a w hs ho)
theorem Wp.skip(h:Ends W Q n D .normal E L):Wp P W Q n D .skip E L:=fun a w hs ho=>wp_skip (h a w hs ho)
theorem Wp.region{id:Nat}{l:List Oper}(h:Ops P W l.toArray Q n D l E L):Wp P W Q n D (.region id l.toArray false) E L :=
  fun a w hs ho=>wp_region_lit (h a w hs ho)
theorem Ops.nil(h:Ends W Q n D .normal E L):Ops P W ops Q n D [] E L:=fun a w hs ho=>wpList_nil (h a w hs ho)
theorem Wp.cond{c:Operand}{x y:Code}{b:Bool}(hc:ev E c=some (.bool b))(ht:b=true→Wp P W Q n D x E L)(hf:b=false→Wp P W Q n D y E L) :
    Wp P W Q n D (.cond c x y) E L:=fun a w hs ho=>wp_cond_split (hs.ev hc) (fun h=>ht h a w hs ho) (fun h=>hf h a w hs ho)
theorem Wp.cond_true{c:Operand}{x y:Code}(hc:ev E c=some (.bool true))(h:Wp P W Q n D x E L):Wp P W Q n D (.cond c x y) E L:=.cond hc (fun _=>h) (fun e=>by cases e)
theorem Wp.cond_false{c:Operand}{x y:Code}(hc:ev E c=some (.bool false))(h:Wp P W Q n D y E L):Wp P W Q n D (.cond c x y) E L:=.cond hc (fun e=>by cases e) (fun _=>h)
theorem Goes.less{K:Act→World→Prop}{E' : Env}{L' : Hp}(hE:SubE E' E)[hL:Drop L L'](h:Goes W K n D E' L'):Goes W K n D E L:=fun a w hs ho=>h a w (hs.sub hE) (hL.own ho)
theorem Ops.heap{L' : Hp}(hL:∀w,Own W w L→Own W w L')(h:Ops P W ops Q n D rest E L'):Ops P W ops Q n D rest E L:=fun a w hs ho=>h a w hs (hL w ho)
theorem Ends.heap{e:Exit}{L' : Hp}(hL:∀w,Own W w L→Own W w L')(h:Ends W Q n D e E L'):Ends W Q n D e E L:=fun a w hs ho=>h a w hs (hL w ho)
end judge
theorem wp_loop_by{σ:Type}{P:Program}{Q:Exit→Act→World→Prop}{c:Code}(I:σ→Act→World→Prop)(μ:σ→Nat)
    (round:∀x a w,I x a w→c.wp P (Exit.then (fun a' w' => ∃y,I y a' w' ∧ μ y<μ x) Q) a w) :
    ∀x a w,I x a w→(Code.loop c).wp P Q a w:=by
  intro x a w hI b k cs;have key:∀m x a w,μ x=m→I x a w →
      ∃e a' w', Q e a' w' ∧ Arrives P (lone (b.at a (.code c::.inLoop c::k)) cs w) b k cs e a' w' := by
    intro m
    induction m using Nat.strongRecOn with
    | _ m ih =>
      intro x a w hm hI;obtain ⟨e,a₁,w₁,hq,harr⟩:=round x a w hI b (.inLoop c::k) cs;cases e with
      | normal =>
        obtain ⟨y,hI₁,hlt⟩:=hq;obtain ⟨e₂,a₂,w₂,hq₂,harr₂⟩:=ih (μ y) (hm ▸ hlt) y a₁ w₁ rfl hI₁;exact ⟨e₂,a₂,w₂,hq₂,.of_steps (Steps.trans harr (.one step_inLoop)) harr₂⟩
      | exit id=>exact ⟨_,a₁,w₁,hq,.pass (x:=.inLoop c) rfl (fun _ _=>.inl (by simp)) harr⟩
      | goto l=>exact ⟨_,a₁,w₁,hq,.pass (x:=.inLoop c) rfl (fun _ _=>.inl (by simp)) harr⟩
      | ret=>exact ⟨_,a₁,w₁,hq,.pass (x:=.inLoop c) rfl (fun _ _=>.inl (by simp)) harr⟩
      | panic ch=>exact ⟨_,a₁,w₁,hq,.pass (x:=.inLoop c) rfl (fun _ _=>.inl (by simp)) harr⟩
      | outgrown=>exact ⟨_,a₁,w₁,hq,.pass (x:=.inLoop c) rfl (fun _ _=>.inl (by simp)) harr⟩
  obtain ⟨e,a', w', hq,harr⟩:=key _ x a w rfl hI;exact ⟨e,a', w', hq,.of_steps (.one step_loop) harr⟩
section loop
variable {P : Program} {W : World} {Q : Exit → Act → World → Prop} {n : Nat} {D : List Deferred} {E : Env} {L : Hp}
theorem Wp.loop{σ:Type}{c:Code}(EI:σ→Env)(LI:σ→Hp)(I:σ→Prop)(μ:σ→Nat)(x0:σ)(hI:I x0)(hE:SubE (EI x0) E)(hL:∀w,Own W w L→Own W w (LI x0))
    (round:∀(x:σ) (K:Act→World→Prop),I x→(∀y,I y→μ y<μ x→Goes W K n D (EI y) (LI y))→Wp P W (Exit.then K Q) n D c (EI x) (LI x)) :
    Wp P W Q n D (.loop c) E L:=fun a w hs ho =>
  wp_loop_by (fun x a w=>I x∧Sees n D (EI x) a∧Own W w (LI x)) μ
    (fun x a w hI=>round x _ hI.1 (fun y hy hlt a' w' hs' ho' => ⟨y,⟨hy,hs', ho'⟩,hlt⟩) a w hI.2.1 hI.2.2) x0 a w ⟨hI,hs.sub hE,hL w ho⟩
end loop
def argsEnv:Nat→List Value→Env
  | _,[]=>[]
  | i,v::vs=>(i,v)::argsEnv (i+1) vs
theorem look_argsEnv:∀(vs:List Value) (i t:Nat) (v:Value),look t (argsEnv i vs)=some v→i≤t∧vs[t-i]?=some v
  | [],i,t,v,h=>by cases h
  | u::vs,i,t,v,h=>by
    simp only[argsEnv,look]at h
    split at h
    · rename_i hb
      have:=Nat.eq_of_beq_eq_true hb
      subst this;cases h;exact ⟨Nat.le_refl _,by simp⟩
    · obtain ⟨h1,h2⟩:=look_argsEnv vs (i+1) t v h
      refine ⟨by omega,?_⟩;rw[show t-i=(t-(i+1))+1 by omega]
      simpa using h2
theorem sees_start{n:Nat}{vs:List Value}(h:Nat.ble vs.length n=true):Sees n [] (argsEnv 0 vs) { tmps:=vs.toArray++Array.replicate (n-vs.toArray.size) undef,defers:=[] }:=by
  have h' : vs.length≤n:=Nat.le_of_ble_eq_true h
  refine ⟨by simp;omega,rfl,fun t v hv=>?_⟩;obtain ⟨_,h2⟩:=look_argsEnv vs 0 t v hv;have hlt:t<vs.length:=by
    rcases Nat.lt_or_ge t vs.length with h | h
    · exact h
    · simp[List.getElem?_eq_none h]at h2
  simp only[Nat.sub_zero]at h2;rw[Array.getElem?_append_left (by simpa using hlt)]
  simpa using h2
def TrPost (R:Value→Hp→Prop) (W:World) (F:Hp):Ending→World→Prop:=fun e w' => ∃v L', e=.returned v∧R v L' ∧ Own W w' (L' ++ F)
def Tr (P:Program) (f:FuncId) (args:List Value) (L:Hp) (R:Value→Hp→Prop):Prop :=
  ∀W w F,Own W w (L++F)→Calls P f args.toArray w (TrPost R W F)
theorem Tr.mono{P:Program}{f:FuncId}{args:List Value}{L:Hp}{R R' : Value→Hp→Prop}(h:Tr P f args L R)(hr:∀v L', R v L' → R' v L'):Tr P f args L R' :=
  fun W w F ho=>(h W w F ho).mono fun _ _ ⟨v,L', he,hR,ho'⟩=>⟨v,L', he,hr _ _ hR,ho'⟩
theorem Tr.enter{P:Program}{f:FuncId}{fn:Func}{c:Code}{n:Nat}{args:List Value}{L:Hp}{R:Value→Hp→Prop}
    (hf:P.funcs[f]?=some fn) (hb:fn.body=some c) (hn:fn.ntmps=n) (hle:Nat.ble args.length n=true)
    (h:∀W F,Wp P W (bodyPost P fn (TrPost R W F)) n [] c (argsEnv 0 args) (L++F)):Tr P f args L R:=fun W w F ho =>
  calls_of_wp hf hb (by
    subst hn;exact h W F _ w (sees_start hle) ho)
def Res (P:Program) (fn:Func) (n:Nat) (D:List Deferred) (E:Env) (L:Hp) (v:Value):Prop :=
  ∀a w,Sees n D E a→Held L w→(results fn a.tmps).run P w=.ok v w
section res
variable {P : Program} {fn : Func} {n : Nat} {D : List Deferred} {E : Env} {L : Hp}
theorem res0(h:fn.results=#[]):Res P fn n D E L (.tuple #[]):=fun a w _ _=>results_none h _ P w
theorem res1{t:Nat}{v:Value}(h:fn.results=#[.tmp t])(hx:look t E=some v):Res P fn n D E L v:=fun a w hs _=>by
  rw[results_tmp h,Array.getD_eq_getD_getElem?,hs.get t v hx];rfl
theorem res2{t u:Nat}{v x:Value}(h:fn.results=#[.tmp t,.tmp u])(hv:look t E=some v)(hx:look u E=some x):Res P fn n D E L (.tuple #[v,x]):=fun a w hs _=>by
  rw[results_tmp2 h,Array.getD_eq_getD_getElem?,Array.getD_eq_getD_getElem?,hs.get t v hv,hs.get u x hx];rfl
theorem res3{t u s:Nat}{v x y:Value}(h:fn.results=#[.tmp t,.tmp u,.tmp s])(hv:look t E=some v)(hx:look u E=some x)(hy:look s E=some y) :
    Res P fn n D E L (.tuple #[v,x,y]):=fun a w hs _=>by
  simp[results,h,Array.getD_eq_getD_getElem?,hs.get t v hv,hs.get u x hx,hs.get s y hy]
end res
class TyD (P:Program) (T:Nat) (d:outParam TypeDesc):Prop where
  eq:P.underlying T=some d
class TyS (P:Program) (T:Nat) (k:outParam Nat):Prop where
  eq:(P.info? T).map (·.size)=some k
class TyB (P:Program) (T:Nat) (k:outParam Nat):Prop where
  eq:(P.info? T).map (·.bytes)=some k
class TyZ (P:Program) (T:Nat) (z:outParam Value):Prop where
  eq:(P.info? T).bind (·.zero)=some z
class TyFld (P:Program) (S:Nat) (i:Nat) (off U:outParam Nat):Prop where
  eq:∃fs f,P.underlying S=some (.struct fs)∧fs[i]?=some f∧f.offset=off∧f.type=U
class GoFn (P:Program) (f:Nat):Prop where
  eq : ∃ fn, P.funcs[f]? = some fn ∧ (fn.name == "runtime.NumGoroutine") = false ∧ fn.body.isNone = false
def aggD:TypeDesc→Bool
  | .struct _=>true
  | .array _ _=>true
  | _=>false
section ty
variable {P : Program} {T : TypeId} (w : World)
theorem TyD.run{d:TypeDesc}[h:TyD P T d]:(underlying T).run P w=.ok d w:=by simp[underlying,h.eq]
theorem TyD.agg{d:TypeDesc}[h:TyD P T d]:(isAgg T).run P w=.ok (aggD d) w:=by
  simp only[isAgg,Sem.run_bind,TyD.run,Result.andThen_ok];cases d <;> rfl
theorem TyS.run{k:Nat}[h:TyS P T k]:(sizeOf T).run P w=.ok k w:=by
  obtain ⟨i,hi,hk⟩:=Option.map_eq_some_iff.1 h.eq;simp[sizeOf,typeInfo,hi,hk]
theorem TyZ.run{z:Value}[h:TyZ P T z]:(zeroValue T).run P w=.ok z w:=by
  obtain ⟨i,hi,hz⟩:=Option.bind_eq_some_iff.1 h.eq;simp[zeroValue,typeInfo,hi,hz]
end ty
theorem addr_add(b o k:Nat):(⟨b,o,none⟩:Addr).add k=⟨b,o+k,none⟩:=by
  unfold Addr.add
  split
  · rename_i h;subst h;rfl
  · rfl
section cells
variable {L : Hp} {w : World}
theorem Held.cell{b:Nat}{c:Array Value}{T:TypeId}{f:Nat×Nat}(h:Held L w)(m:(b,Obj.cells c T f)∈L)(off:Nat):w.cell? ⟨b,off,none⟩=c[off]?:=by
  have:=h _ m
  simp only at this;simp[World.cell?,this]
end cells
def nth:List Value→Nat→Option Value
  | [],_=>none
  | x::_,0=>some x
  | _::l,i+1=>nth l i
theorem nth_eq:∀(l:List Value) (i:Nat),nth l i=l[i]?
  | [],i=>by simp[nth]
  | x::l,0=>rfl
  | x::l,i+1=>by simp[nth,nth_eq l i]
def Reads (c:List Value):Nat→List Value→Prop
  | _,[]=>True
  | off,v::vs=>nth c off=some v∧Reads c (off+1) vs
theorem Reads.at_{c:List Value}:∀{vs:List Value} {off:Nat},Reads c off vs→∀j v,vs[j]?=some v→c[off+j]?=some v
  | [],_,_,j,v,h=>by simp at h
  | u::vs,off,hr,0,v,h=>by simp at h;subst h;rw[←nth_eq];exact hr.1
  | u::vs,off,hr,j+1,v,h=>by
    have:=hr.2.at_ j v (by simpa using h)
    rw[show off+(j+1)=off+1+j by omega];exact this
theorem Reads.extract{c vs:List Value}{off k:Nat}(h:Reads c off vs)(hl:vs.length=k):c.toArray.extract off (off+k)=vs.toArray:=by
  subst hl;apply Array.ext';apply List.ext_getElem?;intro j;simp only[List.extract_toArray,List.extract_eq_take_drop,List.getElem?_take,List.getElem?_drop]
  by_cases hj:j<vs.length
  · rw[if_pos (by omega),h.at_ j vs[j] (by simp)]
    simp
  · rw[if_neg (by omega),List.getElem?_eq_none (by omega)]
def Pv (P:Program) (n:Nat) (D:List Deferred) (E:Env) (L:Hp) (o:Oper) (v:Value):Prop :=
  ∀a w,Sees n D E a→Held L w→(execOp a.eval o).run P w=.ok (.value v) w
section pv
variable {P : Program} {n : Nat} {D : List Deferred} {E : Env} {L : Hp} {d : Option Tmp} {ty : TypeId} {pos : String} {aft : Array Edge} {g : Option (Nat × Bool)} {T : TypeId} {x y z : Operand} {v u : Value}
theorem pv_move(hx:ev E x=some v):Pv P n D E L ⟨d,.move x,ty,pos,aft,g⟩ v:=fun a w hs _=>by simp[execOp,hs.ev hx]
theorem pv_assign(hx:ev E x=some v):Pv P n D E L ⟨d,.assign x,ty,pos,aft,g⟩ v:=fun a w hs _=>by simp[execOp,hs.ev hx]
theorem pv_pick{b:Bool}(hc:ev E x=some (.bool b))(hy:ev E y=some u)(hz:ev E z=some v):Pv P n D E L ⟨d,.pick x y z,ty,pos,aft,g⟩ (if b then u else v):=fun a w hs _=>by
  simp[execOp,hs.ev hc,hs.ev hy,hs.ev hz,asBool]
theorem pv_pick_true(hc:ev E x=some (.bool true))(hy:ev E y=some u):Pv P n D E L ⟨d,.pick x y z,ty,pos,aft,g⟩ u:=fun a w hs _=>by
  simp[execOp,hs.ev hc,hs.ev hy,asBool]
theorem pv_pick_false(hc:ev E x=some (.bool false))(hz:ev E z=some v):Pv P n D E L ⟨d,.pick x y z,ty,pos,aft,g⟩ v:=fun a w hs _=>by
  simp[execOp,hs.ev hc,hs.ev hz,asBool]
theorem pv_nilCheck{p:Addr}(hx:ev E x=some (.pointer (some p))):Pv P n D E L ⟨d,.nilCheck x,ty,pos,aft,g⟩ (.pointer (some p)):=fun a w hs _=>by simp[execOp,hs.ev hx]
theorem pv_load{dsc:TypeDesc}{b off:Nat}{c:List Value}{T' : TypeId}{f:Nat×Nat}(hx:ev E x=some (.pointer (some ⟨b,off,none⟩)))[ht:TyD P T dsc](hd:aggD dsc=false)
    [hb:Blk L b (.cells c.toArray T' f)] (hc:nth c off=some v):Pv P n D E L ⟨d,.load T x,ty,pos,aft,g⟩ v:=fun a w hs hh=>by
  rw[nth_eq]at hc;simp[execOp,hs.ev hx,Instr.loadAt,Instr.sureAddr,loadVar,TyD.agg,hd,hh.cell hb.mem,hc]
theorem run_loadCells_reads(P:Program){w:World}{b off:Nat}{vs:List Value}(h:∀j v,vs[j]?=some v→w.cell? ⟨b,off+j,none⟩=some v):(loadCells ⟨b,off,none⟩ vs.length).run P w=.ok vs.toArray w :=
  run_loadCells_list (P:=P) w ⟨b,off,none⟩ vs fun j v hv=>by rw[addr_add];exact h j v hv
theorem pv_loadK{dsc:TypeDesc}{b off k:Nat}{c:List Value}{T' : TypeId}{f:Nat×Nat}(vs:List Value)(hx:ev E x=some (.pointer (some ⟨b,off,none⟩)))[ht:TyD P T dsc][hk:TyS P T k](hd:aggD dsc=true)
    [hb:Blk L b (.cells c.toArray T' f)] (hl:vs.length=k) (hc:Reads c off vs):Pv P n D E L ⟨d,.load T x,ty,pos,aft,g⟩ (.agg vs.toArray):=fun a w hs hh=>by
  subst hl;have h1:=run_loadCells_reads P (w:=w) (b:=b) (off:=off) (vs:=vs) fun j v hv=>by rw[hh.cell hb.mem,List.getElem?_toArray];exact hc.at_ j v hv
  simp[execOp,hs.ev hx,Instr.loadAt,Instr.sureAddr,loadVar,TyD.agg,TyS.run,hd,h1]
theorem fieldPlace_run{P:Program}{w:World}{b off:Nat}{f:Field}{k:Nat}[hk:TyS P f.type k](h0:Nat.beq k 0=false):(fieldPlace ⟨b,off,none⟩ f).run P w=.ok ⟨b,off+f.offset,none⟩ w:=by
  have hk0:k≠0:=fun e=>by subst e;simp at h0
  simp[fieldPlace,TyS.run,hk0,addr_add]
theorem pv_fieldAddr{S:TypeId}{i off U k b o:Nat}(hx:ev E x=some (.pointer (some ⟨b,o,none⟩)))[hf:TyFld P S i off U][hk:TyS P U k](h0:Nat.beq k 0=false) :
    Pv P n D E L ⟨d,.fieldAddr S x i,ty,pos,aft,g⟩ (.pointer (some ⟨b,o+off,none⟩)):=fun a w hs _=>by
  obtain ⟨fs,f,hu,hi,ho,hU⟩:=hf.eq;subst ho;subst hU
  have ht:TyD P S (.struct fs):=⟨hu⟩
  simp[execOp,hs.ev hx,Instr.fieldAt,TyD.run,hi,Instr.sureAddr,fieldPlace_run h0]
theorem pv_fieldAddr0{S:TypeId}{i off U k b:Nat}(hx:ev E x=some (.pointer (some ⟨b,0,none⟩)))[hf:TyFld P S i off U][hk:TyS P U k](h0:Nat.beq k 0=false) :
    Pv P n D E L ⟨d,.fieldAddr S x i,ty,pos,aft,g⟩ (.pointer (some ⟨b,off,none⟩)):=by simpa using pv_fieldAddr (o:=0) hx h0
theorem pv_field{S:TypeId}{i off U:Nat}{dsc:TypeDesc}{cs:List Value}(hx:ev E x=some (.agg cs.toArray))[hf:TyFld P S i off U][hu:TyD P U dsc](hd:aggD dsc=false)(hc:nth cs off=some v) :
    Pv P n D E L ⟨d,.field S x i,ty,pos,aft,g⟩ v:=fun a w hs _=>by
  obtain ⟨fs,f,hS,hi,ho,hU⟩:=hf.eq;subst ho;subst hU
  have ht:TyD P S (.struct fs):=⟨hS⟩
  rw[nth_eq]at hc;simp[execOp,hs.ev hx,Instr.field,TyD.run,hi,part,asAgg,TyD.agg,hd,hc]
theorem pv_extract{vs:List Value}{i:Nat}(hx:ev E x=some (.tuple vs.toArray))(hi:nth vs i=some v):Pv P n D E L ⟨d,.extract x i,ty,pos,aft,g⟩ v:=fun a w hs _=>by
  rw[nth_eq]at hi;simp[execOp,hs.ev hx,Instr.extract,hi]
theorem pv_add{k:IntKind}{i j:Int}{xt yt:TypeId}(hx:ev E x=some (.int k i))(hy:ev E y=some (.int k j)){r:Int}(hr:k.wrap (i+j)=r):Pv P n D E L ⟨d,.binOp .add xt x y yt,ty,pos,aft,g⟩ (.int k r):=fun a w hs _=>by
  subst hr;simp[execOp,hs.ev hx,hs.ev hy,binOp,eqGuard,Op.intArith]
theorem pv_sub{k:IntKind}{i j:Int}{xt yt:TypeId}(hx:ev E x=some (.int k i))(hy:ev E y=some (.int k j)){r:Int}(hr:k.wrap (i-j)=r):Pv P n D E L ⟨d,.binOp .sub xt x y yt,ty,pos,aft,g⟩ (.int k r):=fun a w hs _=>by
  subst hr;simp[execOp,hs.ev hx,hs.ev hy,binOp,eqGuard,Op.intArith]
theorem pv_mul{k:IntKind}{i j:Int}{xt yt:TypeId}(hx:ev E x=some (.int k i))(hy:ev E y=some (.int k j)){r:Int}(hr:k.wrap (i*j)=r):Pv P n D E L ⟨d,.binOp .mul xt x y yt,ty,pos,aft,g⟩ (.int k r):=fun a w hs _=>by
  subst hr;simp[execOp,hs.ev hx,hs.ev hy,binOp,eqGuard,Op.intArith]
theorem pv_quo{k:IntKind}{i j:Int}{xt yt:TypeId}(hx:ev E x=some (.int k i))(hy:ev E y=some (.int k j))(hj:j≠0){r:Int}(hr:k.wrap (i.tdiv j)=r):Pv P n D E L ⟨d,.binOp .quo xt x y yt,ty,pos,aft,g⟩ (.int k r):=fun a w hs _=>by
  subst hr;simp[execOp,hs.ev hx,hs.ev hy,binOp,eqGuard,Op.intDiv,hj]
theorem pv_rem{k:IntKind}{i j:Int}{xt yt:TypeId}(hx:ev E x=some (.int k i))(hy:ev E y=some (.int k j))(hj:j≠0){r:Int}(hr:i.tmod j=r):Pv P n D E L ⟨d,.binOp .rem xt x y yt,ty,pos,aft,g⟩ (.int k r):=fun a w hs _=>by
  subst hr;simp[execOp,hs.ev hx,hs.ev hy,binOp,eqGuard,Op.intDiv,hj]
def bitsI (op:BinOp) (k:IntKind) (i j:Int):Int :=
  match op with
  | .and=>k.wrap ((BitVec.ofInt k.bits i &&& BitVec.ofInt k.bits j).toNat:Int)
  | .or=>k.wrap ((BitVec.ofInt k.bits i ||| BitVec.ofInt k.bits j).toNat:Int)
  | .xor=>k.wrap ((BitVec.ofInt k.bits i ^^^ BitVec.ofInt k.bits j).toNat:Int)
  | _=>k.wrap ((BitVec.ofInt k.bits i &&& ~~~BitVec.ofInt k.bits j).toNat:Int)
theorem pv_and{k:IntKind}{i j:Int}{xt yt:TypeId}(hx:ev E x=some (.int k i))(hy:ev E y=some (.int k j)){r:Int}(hr:bitsI .and k i j=r):Pv P n D E L ⟨d,.binOp .and xt x y yt,ty,pos,aft,g⟩ (.int k r):=fun a w hs _=>by
  subst hr;simp[execOp,hs.ev hx,hs.ev hy,binOp,eqGuard,Op.intBits,bitsI]
theorem pv_or{k:IntKind}{i j:Int}{xt yt:TypeId}(hx:ev E x=some (.int k i))(hy:ev E y=some (.int k j)){r:Int}(hr:bitsI .or k i j=r):Pv P n D E L ⟨d,.binOp .or xt x y yt,ty,pos,aft,g⟩ (.int k r):=fun a w hs _=>by
  subst hr;simp[execOp,hs.ev hx,hs.ev hy,binOp,eqGuard,Op.intBits,bitsI]
theorem pv_xor{k:IntKind}{i j:Int}{xt yt:TypeId}(hx:ev E x=some (.int k i))(hy:ev E y=some (.int k j)){r:Int}(hr:bitsI .xor k i j=r):Pv P n D E L ⟨d,.binOp .xor xt x y yt,ty,pos,aft,g⟩ (.int k r):=fun a w hs _=>by
  subst hr;simp[execOp,hs.ev hx,hs.ev hy,binOp,eqGuard,Op.intBits,bitsI]
theorem pv_andNot{k:IntKind}{i j:Int}{xt yt:TypeId}(hx:ev E x=some (.int k i))(hy:ev E y=some (.int k j)){r:Int}(hr:bitsI .andNot k i j=r):Pv P n D E L ⟨d,.binOp .andNot xt x y yt,ty,pos,aft,g⟩ (.int k r):=fun a w hs _=>by
  subst hr;simp[execOp,hs.ev hx,hs.ev hy,binOp,eqGuard,Op.intBits,bitsI]
theorem pv_shl{k k' : IntKind}{i j:Int}{xt yt:TypeId}(hx:ev E x=some (.int k i))(hy:ev E y=some (.int k' j))(hj:0≤j){r:Int}(hr:k.wrap (i*2^(min j.toNat k.bits))=r):Pv P n D E L ⟨d,.binOp .shl xt x y yt,ty,pos,aft,g⟩ (.int k r):=fun a w hs _=>by
  subst hr;simp[execOp,hs.ev hx,hs.ev hy,binOp,eqGuard,Op.shift,Int.not_lt.2 hj]
theorem pv_shr{k k' : IntKind}{i j:Int}{xt yt:TypeId}(hx:ev E x=some (.int k i))(hy:ev E y=some (.int k' j))(hj:0≤j){r:Int}(hr:i.fdiv (2^(min j.toNat k.bits))=r):Pv P n D E L ⟨d,.binOp .shr xt x y yt,ty,pos,aft,g⟩ (.int k r):=fun a w hs _=>by
  subst hr;simp[execOp,hs.ev hx,hs.ev hy,binOp,eqGuard,Op.shift,Int.not_lt.2 hj]
theorem pv_lss{k:IntKind}{i j:Int}{xt yt:TypeId}(hx:ev E x=some (.int k i))(hy:ev E y=some (.int k j)):Pv P n D E L ⟨d,.binOp .lss xt x y yt,ty,pos,aft,g⟩ (.bool (decide (i<j))):=fun a w hs _=>by
  simp[execOp,hs.ev hx,hs.ev hy,binOp,eqGuard,Op.intCmp]
theorem pv_leq{k:IntKind}{i j:Int}{xt yt:TypeId}(hx:ev E x=some (.int k i))(hy:ev E y=some (.int k j)):Pv P n D E L ⟨d,.binOp .leq xt x y yt,ty,pos,aft,g⟩ (.bool (decide (i≤j))):=fun a w hs _=>by
  simp[execOp,hs.ev hx,hs.ev hy,binOp,eqGuard,Op.intCmp]
theorem pv_gtr{k:IntKind}{i j:Int}{xt yt:TypeId}(hx:ev E x=some (.int k i))(hy:ev E y=some (.int k j)):Pv P n D E L ⟨d,.binOp .gtr xt x y yt,ty,pos,aft,g⟩ (.bool (decide (j<i))):=fun a w hs _=>by
  simp[execOp,hs.ev hx,hs.ev hy,binOp,eqGuard,Op.intCmp]
theorem pv_geq{k:IntKind}{i j:Int}{xt yt:TypeId}(hx:ev E x=some (.int k i))(hy:ev E y=some (.int k j)):Pv P n D E L ⟨d,.binOp .geq xt x y yt,ty,pos,aft,g⟩ (.bool (decide (j≤i))):=fun a w hs _=>by
  simp[execOp,hs.ev hx,hs.ev hy,binOp,eqGuard,Op.intCmp]
theorem pv_eql{k:IntKind}{i j:Int}{xt yt:TypeId}(hx:ev E x=some (.int k i))(hy:ev E y=some (.int k j)):Pv P n D E L ⟨d,.binOp .eql xt x y yt,ty,pos,aft,g⟩ (.bool (decide (i=j))):=fun a w hs _=>by
  simp[execOp,hs.ev hx,hs.ev hy,binOp,eqGuard,Op.intCmp];exact Bool.beq_eq_decide_eq i j
theorem pv_neq{k:IntKind}{i j:Int}{xt yt:TypeId}(hx:ev E x=some (.int k i))(hy:ev E y=some (.int k j)):Pv P n D E L ⟨d,.binOp .neq xt x y yt,ty,pos,aft,g⟩ (.bool (decide (i≠j))):=fun a w hs _=>by
  simp[execOp,hs.ev hx,hs.ev hy,binOp,eqGuard,Op.intCmp,bne];exact Bool.beq_eq_decide_eq i j
theorem pv_not{b:Bool}{xt:TypeId}(hx:ev E x=some (.bool b)):Pv P n D E L ⟨d,.unOp .not xt x,ty,pos,aft,g⟩ (.bool (!b)):=fun a w hs _=>by simp[execOp,hs.ev hx,Op.unary]
theorem pv_not_dec{p:Prop}[Decidable p]{xt:TypeId}(hx:ev E x=some (.bool (decide p))):Pv P n D E L ⟨d,.unOp .not xt x,ty,pos,aft,g⟩ (.bool (decide (¬p))):=by
  have:=pv_not (P:=P) (n:=n) (D:=D) (L:=L) (d:=d) (ty:=ty) (pos:=pos) (aft:=aft) (g:=g) (xt:=xt) hx
  rwa [←decide_not]at this
theorem pv_conv{src dst:TypeId}{k k' : IntKind}{sd:TypeDesc}{i:Int}(hx:ev E x=some (.int k i))[hs' : TyD P src sd][hd:TyD P dst (.int k')]{r:Int}(hr:k'.wrap i=r):Pv P n D E L ⟨d,.convert src dst x,ty,pos,aft,g⟩ (.int k' r):=fun a w hs _=>by
  subst hr;simp only[execOp,hs.ev hx,convert,Sem.run_bind,TyD.run,Result.andThen_ok];cases sd <;> simp[Conv.intToInt]
end pv
def Wanted (ops:Array Oper) (E:Env):Option (Nat×Bool)→Bool→Prop
  | none,r=>r=true
  | some (j,want),r=>∃t b,(ops[j]?).bind (·.dst)=some t∧look t E=some (.bool b)∧(b == want)=r
theorem wanted_of{ops:Array Oper}{n:Nat}{D:List Deferred}{E:Env}{a:Act}{o:Oper}{r:Bool}(h:Wanted ops E o.guard r)(hs:Sees n D E a):Region.wanted o (yielded ops a.tmps)=r:=by
  unfold Region.wanted;cases hg:o.guard with
  | none=>rw[hg]at h;exact Eq.symm h
  | some jw =>
    obtain ⟨j,want⟩:=jw;rw[hg]at h;obtain ⟨t,b,h1,h2,h3⟩:=h;have:yielded ops a.tmps j=some b:=by
      unfold yielded;rw[h1];simp[hs.get t _ h2]
    simp only[this];rw[←h3];cases b <;> cases want <;> rfl
def Ef (P:Program) (W:World) (n:Nat) (D:List Deferred) (o:Oper) (E:Env) (L:Hp) (K:Env→Hp→Prop):Prop :=
  ∀(Q:Exit→Act→World→Prop) a w (next:Act→World→Prop),Sees n D E a→Own W w L →
    (∀E' L' a' w', K E' L' → Sees n D E' a' → Own W w' L' → next a' w')→o.wp P a w next Q
section carry
variable {P : Program} {W : World} {ops : Array Oper} {Q : Exit → Act → World → Prop} {n : Nat} {D : List Deferred} {E : Env} {L : Hp} {rest : List Oper} {d : Nat} {op : Op} {ty : TypeId} {pos : String} {aft : Array Edge} {g : Option (Nat × Bool)} {v : Value} {K : Env → Hp → Prop}
theorem Ef.of_pv(hp:Pv P n D E L ⟨some d,op,ty,pos,aft,g⟩ v)(hd:Nat.blt d n=true):Ef P W n D ⟨some d,op,ty,pos,aft,g⟩ E L (fun E' L' => E' = (d,v)::E∧L' = L) :=
  fun Q a w next hs ho hn=>by
    unfold Oper.wp;rw[hp a w hs ho.held];exact hn _ _ _ _ ⟨rfl,rfl⟩ (hs.put hd) ho
theorem Ops.ef{o:Oper}(hg:o.guard=none)(h:Ef P W n D o E L K)(hn:∀E' L', K E' L' → Ops P W ops Q n D rest E' L'):Ops P W ops Q n D (o::rest) E L:=fun a w hs ho =>
  wpList_plain hg fun K' hK' => h Q a w K' hs ho fun E' L' a' w' k hs' ho' => hK' _ _ (hn E' L' k a' w' hs' ho')
theorem Ops.efg{o:Oper}(hg:Wanted ops E o.guard true)(h:Ef P W n D o E L K)(hn:∀E' L', K E' L' → Ops P W ops Q n D rest E' L'):Ops P W ops Q n D (o::rest) E L:=fun a w hs ho =>
  wpList_step fun K' hK' => by
    rw[if_pos (wanted_of hg hs)];exact h Q a w K' hs ho fun E' L' a' w' k hs' ho' => hK' _ _ (hn E' L' k a' w' hs' ho')
theorem Ops.pv(hp:Pv P n D E L ⟨some d,op,ty,pos,aft,none⟩ v)(hd:Nat.blt d n=true)(hn:Ops P W ops Q n D rest ((d,v)::E) L):Ops P W ops Q n D (⟨some d,op,ty,pos,aft,none⟩::rest) E L :=
  Ops.ef rfl (Ef.of_pv hp hd) fun E' L' ⟨h1,h2⟩=>by subst h1;subst h2;exact hn
theorem Ops.pvg(hg:Wanted ops E g true)(hp:Pv P n D E L ⟨some d,op,ty,pos,aft,g⟩ v)(hd:Nat.blt d n=true)(hn:Ops P W ops Q n D rest ((d,v)::E) L):Ops P W ops Q n D (⟨some d,op,ty,pos,aft,g⟩::rest) E L :=
  Ops.efg hg (Ef.of_pv hp hd) fun E' L' ⟨h1,h2⟩=>by subst h1;subst h2;exact hn
theorem Ops.skipg(hg:Wanted ops E g false)(hd:Nat.blt d n=true)(hn:Ops P W ops Q n D rest ((d,undef)::E) L):Ops P W ops Q n D (⟨some d,op,ty,pos,aft,g⟩::rest) E L:=fun a w hs ho =>
  wpList_step fun K' hK' => by
    rw[if_neg (by rw[wanted_of (o:=⟨some d,op,ty,pos,aft,g⟩) hg hs];simp)];exact hK' _ _ (hn _ _ (hs.put hd) ho)
theorem Sees.set{t:Nat}{u:Value}{a:Act}(h:Sees n D E a)(hl:look t E=some u)(hu:u=v):Sees n D ((t,v)::E) a:=by
  subst hu;refine ⟨h.size,h.dfs,fun s x hx=>?_⟩;simp only[look]at hx
  split at hx
  · rename_i hb
    cases hx;rw[←Nat.eq_of_beq_eq_true hb];exact h.get t u hl
  · exact h.get s x hx
theorem Ops.setE{t:Nat}{u:Value}(hl:look t E=some u)(hu:u=v)(hn:Ops P W ops Q n D rest ((t,v)::E) L):Ops P W ops Q n D rest E L:=fun a w hs ho=>hn a w (hs.set hl hu) ho
theorem Wp.setE{c:Code}{t:Nat}{u:Value}(hl:look t E=some u)(hu:u=v)(hn:Wp P W Q n D c ((t,v)::E) L):Wp P W Q n D c E L:=fun a w hs ho=>hn a w (hs.set hl hu) ho
theorem Ops.split{t:Nat}{p:Prop}[Decidable p](hl:look t E=some (.bool (decide p)))(ht:p→Ops P W ops Q n D rest ((t,.bool true)::E) L)(hf:¬p→Ops P W ops Q n D rest ((t,.bool false)::E) L) :
    Ops P W ops Q n D rest E L:=by
  by_cases h:p
  · exact .setE hl (by simp[h]) (ht h)
  · exact .setE hl (by simp[h]) (hf h)
theorem Ops.splitb{t:Nat}{b:Bool}(hl:look t E=some (.bool b))(ht:b=true→Ops P W ops Q n D rest ((t,.bool true)::E) L)(hf:b=false→Ops P W ops Q n D rest ((t,.bool false)::E) L) :
    Ops P W ops Q n D rest E L:=by
  cases b
  · exact .setE hl rfl (hf rfl)
  · exact .setE hl rfl (ht rfl)
end carry
section condt
variable {P : Program} {W : World} {Q : Exit → Act → World → Prop} {n : Nat} {D : List Deferred} {E : Env} {L : Hp}
theorem Wp.cond_t{t:Nat}{x y:Code}{b:Bool}(hc:look t E=some (.bool b))(ht:b=true→Wp P W Q n D x ((t,.bool true)::E) L)(hf:b=false→Wp P W Q n D y ((t,.bool false)::E) L) :
    Wp P W Q n D (.cond (.tmp t) x y) E L:=Wp.cond (c:=.tmp t) hc (fun h=>.setE hc (by rw[h]) (ht h)) (fun h=>.setE hc (by rw[h]) (hf h))
theorem Wp.cond_dect{t:Nat}{x y:Code}{p:Prop}[Decidable p](hc:look t E=some (.bool (decide p)))(ht:p→Wp P W Q n D x ((t,.bool true)::E) L)(hf:¬p→Wp P W Q n D y ((t,.bool false)::E) L) :
    Wp P W Q n D (.cond (.tmp t) x y) E L:=Wp.cond_t hc (fun h=>ht (of_decide_eq_true h)) (fun h=>hf (of_decide_eq_false h))
end condt
class Mixed (P:Program):Prop where
  eq:P.follows .mixedOrders=true
class HeldSub (L S:Hp):Prop where
  sub:∀p,p∈S→p∈L
instance (priority:=2000) HeldSub.refl {L:Hp}:HeldSub L L:=⟨fun _ h=>h⟩
instance (priority:=1900) HeldSub.nil {L:Hp}:HeldSub L []:=⟨fun _ h=>by cases h⟩
instance (priority:=1800) HeldSub.tail {x:Nat×Obj} {L S:Hp} [h:HeldSub L S]:HeldSub (x::L) S:=⟨fun p hp=>List.mem_cons_of_mem _ (h.sub p hp)⟩
instance (priority:=1000) HeldSub.cons {b:Nat} {o:Obj} {L S:Hp} [h:Blk L b o] [k:HeldSub L S]:HeldSub L ((b,o)::S):=⟨fun p hp=>by
  rcases List.mem_cons.1 hp with rfl | hp
  · exact h.mem
  · exact k.sub p hp⟩
class SegIn (L S:Hp):Prop where
  sub:∀p,p∈S→p∈L
instance (priority:=1100) SegIn.all {L:Hp}:SegIn L L:=⟨fun _ h=>h⟩
instance (priority:=1050) SegIn.head {S L:Hp}:SegIn (S++L) S:=⟨fun _ h=>List.mem_append_left _ h⟩
instance (priority:=1000) SegIn.skip {x:Nat×Obj} {S L:Hp} [h:SegIn L S]:SegIn (x::L) S:=⟨fun p hp=>List.mem_cons_of_mem _ (h.sub p hp)⟩
instance (priority:=900) SegIn.skipApp {T S L:Hp} [h:SegIn L S]:SegIn (T++L) S:=⟨fun p hp=>List.mem_append_right _ (h.sub p hp)⟩
instance (priority:=800) HeldSub.app {S T L:Hp} [h:SegIn L S] [k:HeldSub L T]:HeldSub L (S++T):=⟨fun p hp=>by
  rcases List.mem_append.1 hp with hp | hp
  · exact h.sub p hp
  · exact k.sub p hp⟩
instance (priority:=100) HeldSub.seg {S L:Hp} [h:SegIn L S]:HeldSub L S:=⟨h.sub⟩
theorem Own.heldSub{W w:World}{L S:Hp}(h:Own W w L)(s:HeldSub L S):Held S w:=fun p hp=>h.get p (s.sub p hp)
def AnyH (P:Program) (W:World) (ops:Array Oper) (Q:Exit→Act→World→Prop) (n:Nat) (D:List Deferred) (S:Hp) (fuel:Nat) (listed:Array Bool) (E:Env) (L:Hp):Prop :=
  ∀a w,Sees n D E a→Own W w L→wpAnyH P .any ops Q (Held S) fuel listed a w
section any
variable {P : Program} {W : World} {ops : Array Oper} {Q : Exit → Act → World → Prop} {n : Nat} {D : List Deferred} {S : Hp} {fuel : Nat} {listed : Array Bool} {E : Env} {L : Hp} {d : Nat} {op : Op} {ty : TypeId} {pos : String} {aft : Array Edge} {g : Option (Nat × Bool)} {v : Value} {K : Env → Hp → Prop}
theorem AnyH.start{id:Nat}{l:List Oper}(S:Hp)(m:Nat)[hm:Mixed P](hl:l.length=m)(h:AnyH P W l.toArray Q n D S m (Array.replicate m false) E L):Wp P W Q n D (.region id l.toArray true) E L:=fun a w hs ho =>
  wp_region_held hm.eq (by subst hl;exact h a _ hs (ho.drawn _))
theorem AnyH.startL{id:Nat}{l:List Oper}(m:Nat)[hm:Mixed P](hl:l.length=m)(h:AnyH P W l.toArray Q n D L m (Array.replicate m false) E L):Wp P W Q n D (.region id l.toArray true) E L :=
  AnyH.start L m hl h
def PanicsFree (Q:Exit→Act→World→Prop):Prop:=∀c a d v w,Q (.panic c) (a.put d v) w→Q (.panic c) a w
theorem AnyH.take(i:Nat)(hi:ops[i]?=some ⟨some d,op,ty,pos,aft,g⟩)(hsel:Region.noSelect ops=true)(hf:Region.free .any ops listed i=true)(hr:(Region.ready .any ops listed).contains i=true)
    (hQ:PanicsFree Q) (hg:Wanted ops E g true) [hS:HeldSub L S] (hp:Pv P n D E S ⟨some d,op,ty,pos,aft,g⟩ v) (hd:Nat.blt d n=true)
    (hn:AnyH P W ops Q n D S fuel (listed.setIfInBounds i true) ((d,v)::E) L):AnyH P W ops Q n D S (fuel+1) listed E L:=fun a w hs ho =>
  wpAnyH_take hi hsel hf hr (fun c a w=>hQ c a _ v w) (.inl ⟨wanted_of (o:=⟨some d,op,ty,pos,aft,g⟩) hg hs,fun w' hw' => hp a w' hs hw'⟩) (ho.heldSub hS) (hn _ w (hs.put hd) ho)
theorem AnyH.taken(i:Nat)(hi:ops[i]?=some ⟨none,op,ty,pos,aft,g⟩)(hsel:Region.noSelect ops=true)(hf:Region.free .any ops listed i=true)(hr:(Region.ready .any ops listed).contains i=true)
    (hQ:PanicsFree Q) (hg:Wanted ops E g true) [hS:HeldSub L S] (hp:Pv P n D E S ⟨none,op,ty,pos,aft,g⟩ v)
    (hn:AnyH P W ops Q n D S fuel (listed.setIfInBounds i true) E L):AnyH P W ops Q n D S (fuel+1) listed E L:=fun a w hs ho =>
  wpAnyH_take hi hsel hf hr (fun c a w=>hQ c a _ v w) (.inl ⟨wanted_of (o:=⟨none,op,ty,pos,aft,g⟩) hg hs,fun w' hw' => hp a w' hs hw'⟩) (ho.heldSub hS) (hn _ w hs ho)
theorem AnyH.skip(i:Nat)(hi:ops[i]?=some ⟨some d,op,ty,pos,aft,g⟩)(hsel:Region.noSelect ops=true)(hf:Region.free .any ops listed i=true)(hr:(Region.ready .any ops listed).contains i=true)
    (hQ:PanicsFree Q) (hg:Wanted ops E g false) [hS:HeldSub L S] (hd:Nat.blt d n=true)
    (hn:AnyH P W ops Q n D S fuel (listed.setIfInBounds i true) ((d,undef)::E) L):AnyH P W ops Q n D S (fuel+1) listed E L:=fun a w hs ho =>
  wpAnyH_take hi hsel hf hr (fun c a w=>hQ c a _ undef w) (.inr ⟨wanted_of (o:=⟨some d,op,ty,pos,aft,g⟩) hg hs,rfl⟩) (ho.heldSub hS) (hn _ w (hs.put hd) ho)
def Turn (P:Program) (W:World) (ops:Array Oper) (Q:Exit→Act→World→Prop) (n:Nat) (D:List Deferred) (S:Hp) (fuel:Nat) (listed:Array Bool) (i:Nat) (E:Env) (L:Hp):Prop :=
  ∀a w,Sees n D E a→Own W w L→wpOp P ops Q i (fun a' w' => Held S w' ∧ wpAnyH P .any ops Q (Held S) fuel (listed.setIfInBounds i true) a' w') a w
theorem AnyH.one(i:Nat)(hr:Region.ready .any ops listed=[i])(h:Turn P W ops Q n D S fuel listed i E L):AnyH P W ops Q n D S (fuel+1) listed E L:=fun a w hs ho =>
  wpAnyH_all hr (by simp) fun j hj=>by
    obtain rfl:j=i:=by simpa using hj
    exact h a w hs ho
theorem AnyH.two(i k:Nat)(hr:Region.ready .any ops listed=[i,k])(h:Turn P W ops Q n D S fuel listed i E L)(h' : Turn P W ops Q n D S fuel listed k E L):AnyH P W ops Q n D S (fuel+1) listed E L:=fun a w hs ho =>
  wpAnyH_all hr (by simp) fun j hj=>by
    rcases (by simpa using hj:j=i∨j=k) with rfl | rfl
    · exact h a w hs ho
    · exact h' a w hs ho
theorem Turn.ef{i:Nat}{o:Oper}(hi:ops[i]?=some o)(hg:Wanted ops E o.guard true)(h:Ef P W n D o E L K)(hS:∀E' L', K E' L' → HeldSub L' S)
    (hn:∀E' L', K E' L' → AnyH P W ops Q n D S fuel (listed.setIfInBounds i true) E' L'):Turn P W ops Q n D S fuel listed i E L:=fun a w hs ho=>by
  unfold wpOp;simp only[hi];rw[if_pos (wanted_of hg hs)];exact .inl (h Q a w _ hs ho fun E' L' a' w' k hs' ho' => ⟨ho'.heldSub (hS _ _ k),hn E' L' k a' w' hs' ho'⟩)
theorem AnyH.done(hr:Region.ready .any ops listed=[])(h:Ends W Q n D .normal E L):AnyH P W ops Q n D S fuel listed E L:=fun a w hs ho=>wpAnyH_done hr (h a w hs ho) fuel
theorem AnyH.setE{t:Nat}{u:Value}(hl:look t E=some u)(hu:u=v)(hn:AnyH P W ops Q n D S fuel listed ((t,v)::E) L):AnyH P W ops Q n D S fuel listed E L:=fun a w hs ho=>hn a w (hs.set hl hu) ho
theorem AnyH.split{t:Nat}{p:Prop}[Decidable p](hl:look t E=some (.bool (decide p)))(ht:p→AnyH P W ops Q n D S fuel listed ((t,.bool true)::E) L)(hf:¬p→AnyH P W ops Q n D S fuel listed ((t,.bool false)::E) L) :
    AnyH P W ops Q n D S fuel listed E L:=by
  by_cases h:p
  · exact .setE hl (by simp[h]) (ht h)
  · exact .setE hl (by simp[h]) (hf h)
end any
theorem pf_body{P:Program}{fn:Func}{R:Ending→World→Prop}:PanicsFree (bodyPost P fn R):=fun c a d v w h=>by cases d <;> exact h
class PF (Q:Exit→Act→World→Prop):Prop where
  pf:PanicsFree Q
instance PF.body {P:Program} {fn:Func} {R:Ending→World→Prop}:PF (bodyPost P fn R):=⟨pf_body⟩
instance PF.then_ {Q:Exit→Act→World→Prop} {K:Act→World→Prop} [h:PF Q]:PF (Exit.then K Q):=⟨h.pf⟩
instance PF.block_ {Q:Exit→Act→World→Prop} {id:Nat} [h:PF Q]:PF (Exit.inBlock id Q):=⟨h.pf⟩
class SetL (l:List Value) (i:Nat) (vs:List Value) (l' : outParam (List Value)):Prop where
  len:l'.length=l.length
  le:i+vs.length≤l.length
  at_:∀j,l'[j]?=if i≤j∧j<i+vs.length then vs[j-i]? else l[j]?
instance (priority:=1000) SetL.nil {l:List Value}:SetL l 0 [] l:=⟨rfl,by simp,fun j=>by simp⟩
instance (priority:=900) SetL.cons {x v:Value} {l vs l' : List Value} [h:SetL l 0 vs l']:SetL (x::l) 0 (v::vs) (v::l') :=
  ⟨by simp[h.len],by have:=h.le;simp at this ⊢;omega,fun j=>by
    cases j with
    | zero=>simp
    | succ j =>
      have:=h.at_ j
      simp only[Nat.zero_le,true_and,Nat.zero_add,Nat.sub_zero]at this;simp[this]⟩
instance (priority:=800) SetL.succ {x:Value} {l vs l' : List Value} {i:Nat} [h:SetL l i vs l']:SetL (x::l) (i+1) vs (x::l') :=
  ⟨by simp[h.len],by have:=h.le;simp at this ⊢;omega,fun j=>by
    cases j with
    | zero=>simp
    | succ j =>
      have:=h.at_ j
      simp only[List.getElem?_cons_succ,this]
      by_cases hh:i≤j∧j<i+vs.length
      · rw[if_pos hh,if_pos (by omega)];rw[show j+1-(i+1)=j-i by omega]
      · rw[if_neg hh,if_neg (by omega)]⟩
theorem Own.upd{W w w' : World}{L L' : Hp}{b:Nat}{o' : Obj}(h:Own W w L)(u:Upd L b o' L')(hos:w'.os=w.os)(ht:w'.tape=w.tape)(hout:w'.output=w.output)
    (hb:w'.heap[b]?=some o') (hne:∀k,k≠b→w'.heap[k]?=w.heap[k]?):Own W w' L' := by
  obtain ⟨A,B,o,h1,h2⟩:=u.eq;subst h1;subst h2
  exact h.set hos ht hout hb hne
def storeW (w:World) (b:Nat) (c' : List Value) (T:TypeId):World:={ w with heap:=w.heap.setIfInBounds b (.cells c'.toArray T) }
theorem run_storeCells(P:Program)(b off:Nat)(T:TypeId):∀(vs:List Value) (i:Nat) (c:List Value) (w:World),
    w.heap[b]?=some (.cells c.toArray T)→off+i+vs.length≤c.length→(∀v∈vs,v.oneCell' = true) →
    (storeCells ⟨b,off,none⟩ vs i).run P w=.ok () (storeW w b (c.take (off+i)++vs++c.drop (off+i+vs.length)) T)
  | [],i,c,w,hb,hl,h1=>by
    simp only[storeCells,Sem.run_pure,List.append_nil,List.length_nil,Nat.add_zero,List.take_append_drop,storeW]
    congr 1
    cases w with
    | mk heap tape drawn os output =>
      simp only at hb ⊢
      congr 1
      apply Array.ext_getElem?;intro j;rw[Array.getElem?_setIfInBounds]
      split
      · rename_i hj;subst hj
        split
        · exact hb
        · rename_i hlt;rw[Array.getElem?_eq_none (by omega)]at hb;cases hb
      · rfl
  | v::vs,i,c,w,hb,hl,h1=>by
    have hv:=h1 v (List.mem_cons_self ..)
    simp only[List.length_cons]at hl;have hcell:w.cell? ⟨b,off+i,none⟩=some c[off+i]:=by
      simp[World.cell?,hb]
    have hfz:w.frozen? ⟨b,off+i,none⟩=false:=by simp[World.frozen?,hb]
    have hw:w.setCell ⟨b,off+i,none⟩ v=storeW w b (c.set (off+i) v) T:=by
      unfold World.setCell storeW
      congr 1
      apply Array.ext_getElem?;intro j;rw[Array.getElem?_modify,Array.getElem?_setIfInBounds]
      split
      · rename_i hj;subst hj
        have hlt:b<w.heap.size:=by
          rcases Nat.lt_or_ge b w.heap.size with h | h
          · exact h
          · rw[Array.getElem?_eq_none h]at hb;cases hb
        have hb' : w.heap[b]=Obj.cells c.toArray T:=by
          rw[Array.getElem?_eq_getElem hlt]at hb;exact Option.some.inj hb
        simp[hlt,hb']
      · rfl
    have hsz:b<w.heap.size:=by
      rcases Nat.lt_or_ge b w.heap.size with h | h
      · exact h
      · rw[Array.getElem?_eq_none h]at hb;cases hb
    simp only[storeCells,Sem.run_bind,addr_add,run_store P w _ v .plain hv,hcell,hfz,Bool.false_eq_true,if_false,Result.andThen_ok,hw];rw[run_storeCells P b off T vs (i+1) (c.set (off+i) v) _ (by simp[storeW,hsz]) (by simp;omega) (fun u hu=>h1 u (List.mem_cons_of_mem _ hu))];have e1:(c.set (off+i) v).take (off+(i+1))=c.take (off+i)++[v]:=by
      rw[List.take_set,show off+(i+1)=off+i+1 by omega,List.take_succ_eq_append_getElem (by omega)];rw[List.set_append_right _ _ (by simp;omega)];simp[Nat.min_eq_left (show off+i≤c.length by omega)]
    have e2:(c.set (off+i) v).drop (off+(i+1)+vs.length)=c.drop (off+i+(vs.length+1)):=by
      rw[List.drop_set_of_lt (by omega),show off+(i+1)+vs.length=off+i+(vs.length+1) by omega]
    rw[e1,e2];simp[storeW]
theorem SetL.eq{l:List Value}{i:Nat}{vs l' : List Value}(h:SetL l i vs l'):l.take i++vs++l.drop (i+vs.length)=l' := by
  apply List.ext_getElem?;intro j;rw[h.at_ j];have hle:=h.le
  by_cases h1:j<i
  · rw[if_neg (by omega),List.append_assoc,List.getElem?_append_left (by simp;omega),List.getElem?_take,if_pos h1]
  · by_cases h2:j<i+vs.length
    · rw[if_pos (by omega),List.append_assoc,List.getElem?_append_right (by simp;omega),List.getElem?_append_left (by simp;omega)]
      congr 1
      simp;omega
    · rw[if_neg (by omega),List.getElem?_append_right (by simp;omega),List.getElem?_drop]
      congr 1
      simp;omega
section ef
variable {P : Program} {W : World} {n : Nat} {D : List Deferred} {E : Env} {L : Hp} {d : Nat} {ty : TypeId} {pos : String} {aft : Array Edge} {g : Option (Nat × Bool)} {T : TypeId} {x y : Operand} {v : Value}
theorem ef_box{cs:List Value}(hx:ev E x=some v)(hd:Nat.blt d n=true)(hv:v.cells=cs.toArray) :
    Ef P W n D ⟨some d,.box T x,ty,pos,aft,g⟩ E L (fun E' L' => ∃b,E' = (d,.pointer (some ⟨b,0,none⟩))::E∧L' = (b,.cells cs.toArray T)::L):=fun Q a w next hs ho hn=>by
  unfold Oper.wp;have:(execOp a.eval ⟨some d,.box T x,ty,pos,aft,g⟩).run P w=.ok (.value (.pointer (some ⟨w.heap.size,0,none⟩))) (w.alloc (.cells cs.toArray T)):=by
    simp[execOp,hs.ev hx,Instr.box,newVar,newRow,hv]
  rw[this];exact hn _ _ _ _ ⟨_,rfl,rfl⟩ (hs.put hd) (ho.alloc _)
theorem ef_box1(hx:ev E x=some v)(hd:Nat.blt d n=true)(hv:v.cells=#[v]) :
    Ef P W n D ⟨some d,.box T x,ty,pos,aft,g⟩ E L (fun E' L' => ∃b,E' = (d,.pointer (some ⟨b,0,none⟩))::E∧L' = (b,.cells [v].toArray T)::L):=ef_box hx hd hv
theorem ef_boxK{cs:List Value}(hx:ev E x=some (.agg cs.toArray))(hd:Nat.blt d n=true) :
    Ef P W n D ⟨some d,.box T x,ty,pos,aft,g⟩ E L (fun E' L' => ∃b,E' = (d,.pointer (some ⟨b,0,none⟩))::E∧L' = (b,.cells cs.toArray T)::L):=ef_box hx hd rfl
theorem ef_alloc{z:Value}{cs:List Value}(hz:TyZ P T z)(hd:Nat.blt d n=true)(hv:z.cells=cs.toArray) :
    Ef P W n D ⟨some d,.alloc T,ty,pos,aft,g⟩ E L (fun E' L' => ∃b,E' = (d,.pointer (some ⟨b,0,none⟩))::E∧L' = (b,.cells cs.toArray T)::L):=fun Q a w next hs ho hn=>by
  unfold Oper.wp;have:(execOp a.eval ⟨some d,.alloc T,ty,pos,aft,g⟩).run P w=.ok (.value (.pointer (some ⟨w.heap.size,0,none⟩))) (w.alloc (.cells cs.toArray T)):=by
    simp[execOp,Instr.alloc,TyZ.run,newVar,newRow,hv]
  rw[this];exact hn _ _ _ _ ⟨_,rfl,rfl⟩ (hs.put hd) (ho.alloc _)
theorem ef_alloc1{z:Value}(hz:TyZ P T z)(hd:Nat.blt d n=true)(hv:z.cells=#[z]) :
    Ef P W n D ⟨some d,.alloc T,ty,pos,aft,g⟩ E L (fun E' L' => ∃b,E' = (d,.pointer (some ⟨b,0,none⟩))::E∧L' = (b,.cells [z].toArray T)::L):=ef_alloc hz hd hv
theorem ef_allocK{cs:List Value}(hz:TyZ P T (.agg cs.toArray))(hd:Nat.blt d n=true) :
    Ef P W n D ⟨some d,.alloc T,ty,pos,aft,g⟩ E L (fun E' L' => ∃b,E' = (d,.pointer (some ⟨b,0,none⟩))::E∧L' = (b,.cells cs.toArray T)::L):=ef_alloc hz hd rfl
theorem ef_store{k b off:Nat}{c c' vs:List Value}{T' : TypeId}{L' : Hp}[hk:TyS P T k](hx:ev E x=some (.pointer (some ⟨b,off,none⟩)))(hy:ev E y=some v)(hv:v.cells=vs.toArray)(hkl:vs.length=k)
    (h1:vs.all Value.oneCell' = true) [hb:Blk L b (.cells c.toArray T')] [hset:SetL c off vs c'] [hu:Upd L b (.cells c'.toArray T') L'] :
    Ef P W n D ⟨none,.store T x y,ty,pos,aft,g⟩ E L (fun E1 L1=>E1=E∧L1=L'):=fun Q a w next hs ho hn=>by
  unfold Oper.wp;have hbl:=ho.get _ hb.mem
  have hst:=run_storeCells P b off T' vs 0 c w hbl (by have:=hset.le;omega) (by simpa using h1)
  have he:(execOp a.eval ⟨none,.store T x y,ty,pos,aft,g⟩).run P w=.ok .skip (storeW w b c' T'):=by
    simp only[execOp,hs.ev hx,hs.ev hy,Instr.storeAt,Instr.sureAddr,storeVar,Sem.run_bind,Sem.run_pure,Result.andThen_ok,TyS.run,hv,List.size_toArray,hkl,ne_eq,not_true_eq_false,if_false];rw[hst];simp only[Nat.add_zero,hset.eq,Result.andThen_ok]
  rw[he];have hlt:=ho.lt hb.mem
  refine hn _ _ _ _ ⟨rfl,rfl⟩ hs (ho.upd hu rfl rfl rfl (by simp[storeW,hlt]) fun j hj=>?_);simp[storeW,Array.getElem?_setIfInBounds_ne (Ne.symm hj)]
theorem ef_store1{b off:Nat}{c c' : List Value}{T' : TypeId}{L' : Hp}[hk:TyS P T 1](hx:ev E x=some (.pointer (some ⟨b,off,none⟩)))(hy:ev E y=some v)(hv:v.cells=#[v])(h1:v.oneCell' = true)
    [hb:Blk L b (.cells c.toArray T')] [hset:SetL c off [v] c'] [hu:Upd L b (.cells c'.toArray T') L'] :
    Ef P W n D ⟨none,.store T x y,ty,pos,aft,g⟩ E L (fun E1 L1=>E1=E∧L1=L'):=ef_store (vs:=[v]) hx hy hv rfl (by simp[h1])
theorem ef_storeK{k b off:Nat}{c c' vs:List Value}{T' : TypeId}{L' : Hp}[hk:TyS P T k](hx:ev E x=some (.pointer (some ⟨b,off,none⟩)))(hy:ev E y=some (.agg vs.toArray))(hkl:vs.length=k)
    (h1:vs.all Value.oneCell' = true) [hb:Blk L b (.cells c.toArray T')] [hset:SetL c off vs c'] [hu:Upd L b (.cells c'.toArray T') L'] :
    Ef P W n D ⟨none,.store T x y,ty,pos,aft,g⟩ E L (fun E1 L1=>E1=E∧L1=L'):=ef_store hx hy rfl hkl h1
theorem run_callFunc{f:FuncId}[hf:GoFn P f](args:Array Value)(w:World):(callFunc f args).run P w=.ok (.enter f args) w:=by
  obtain ⟨fn, h1, h2, h3⟩ := hf.eq;have h2' : ¬ fn.name = "runtime.NumGoroutine" := by simpa using h2
  have h3' : ¬fn.body=none:=by intro e;rw[e]at h3;cases h3
  simp[callFunc,h1,h2', h3']
theorem ef_call{f:FuncId}{xs:List Operand}{ats:Array TypeId}{args:List Value}{Lp F:Hp}{R:Value→Hp→Prop}(ht:Tr P f args Lp R)[hf:GoFn P f](hx:evs E xs=some args)(hd:Nat.blt d n=true)[hp:Part L Lp F] :
    Ef P W n D ⟨some d,.call { callee:=.value (.func f),args:=xs.toArray,argTypes:=ats },ty,pos,aft,g⟩ E L (fun E' L' => ∃v L1,R v L1∧E' = (d,v)::E∧L' = L1++F):=fun Q a w next hs ho hn=>by
  unfold Oper.wp;rw[execOp_call_go];have e:(#[]++xs.toArray.map a.eval++#[]:Array Value)=args.toArray:=by simp[hs.evs hx]
  rw[e,run_callFunc];refine (ht W w F (ho.part hp)).mono ?_;rintro e' w' ⟨v,L1,rfl,hR,ho'⟩;exact hn _ _ _ _ ⟨v,L1,hR,rfl,rfl⟩ (hs.put hd) ho'
theorem ef_makeMap{x:Option Operand}(hd:Nat.blt d n=true)(hx:x=none) :
    Ef P W n D ⟨some d,.makeMap T x,ty,pos,aft,g⟩ E L (fun E' L' => ∃b,E' = (d,.map (some b))::E∧L' = (b,.map #[] 0)::L):=fun Q a w next hs ho hn=>by
  subst hx;unfold Oper.wp;have:(execOp a.eval ⟨some d,.makeMap T none,ty,pos,aft,g⟩).run P w=.ok (.value (.map (some w.heap.size))) (w.alloc (.map #[] 0)):=by
    simp[execOp,Instr.makeMap]
  rw[this];exact hn _ _ _ _ ⟨_,rfl,rfl⟩ (hs.put hd) (ho.alloc _)
end ef
section pv2
variable {P : Program} {n : Nat} {D : List Deferred} {E : Env} {L : Hp} {d : Option Tmp} {ty : TypeId} {pos : String} {aft : Array Edge} {g : Option (Nat × Bool)} {T : TypeId} {x y z : Operand} {v u : Value}
theorem run_eql_ptr_nil{P:Program}{T:TypeId}{e:TypeId}[h:TyD P T (.pointer e)](p:Option Addr)(w:World):(Op.equal T (.pointer p) (.pointer none)).run P w=.ok p.isNone w:=by
  have key:∀d,(Op.equalIn (d+1) T (.pointer p) (.pointer none)).run P w=.ok p.isNone w:=fun d=>by
    cases p <;> simp[Op.equalIn,TyD.run]
  exact key 9999
theorem pv_eql_nil{p:Option Addr}{e:TypeId}{yt:TypeId}(hx:ev E x=some (.pointer p))(hy:ev E y=some (.pointer none))[h:TyD P T (.pointer e)] :
    Pv P n D E L ⟨d,.binOp .eql T x y yt,ty,pos,aft,g⟩ (.bool p.isNone):=fun a w hs _=>by
  simp[execOp,hs.ev hx,hs.ev hy,eqGuard,binOp,run_eql_ptr_nil]
theorem pv_neq_nil{p:Option Addr}{e:TypeId}{yt:TypeId}(hx:ev E x=some (.pointer p))(hy:ev E y=some (.pointer none))[h:TyD P T (.pointer e)] :
    Pv P n D E L ⟨d,.binOp .neq T x y yt,ty,pos,aft,g⟩ (.bool p.isSome):=fun a w hs _=>by
  simp[execOp,hs.ev hx,hs.ev hy,eqGuard,binOp,run_eql_ptr_nil]
end pv2
section maps
variable {κ : Type} [DecidableEq κ]
def entsL (enc:κ→Value) (l:List (κ×Value×Nat)):List MapEntry:=l.map fun e=>{ key:=enc e.1,val:=e.2.1,born:=e.2.2 }
def mapO (enc:κ→Value) (l:List (κ×Value×Nat)) (clock:Nat):Obj:=.map (entsL enc l).toArray clock
def fidx (k:κ):List (κ×Value×Nat)→Nat→Option (Nat×Value)
  | [],_=>none
  | e::l,i=>if k=e.1 then some (i,e.2.1) else fidx k l (i+1)
def mget (k:κ):List (κ×Value×Nat)→Option Value
  | []=>none
  | e::l=>if k=e.1 then some e.2.1 else mget k l
def mput (k:κ) (v:Value) (t:Nat):List (κ×Value×Nat)→List (κ×Value×Nat)
  | []=>[(k,v,t)]
  | e::l=>if k=e.1 then (e.1,v,e.2.2)::l else e::mput k v t l
theorem fidx_get(k:κ):∀(l:List (κ×Value×Nat)) (i:Nat),(fidx k l i).map (·.2)=mget k l
  | [],_=>rfl
  | e::l,i=>by
    simp only[fidx,mget]
    split
    · rfl
    · exact fidx_get k l (i+1)
class KeyTy (P:Program) (K:Nat) (enc:κ→Value):Prop where
  check:∀b k w,(Instr.checkKey b 10000 K (enc k)).run P w=.ok () w
  find:∀k l w,(Instr.findKey K (enc k) (entsL enc l)).run P w=.ok (fidx k l 0) w
  stay:∀k w,(Instr.keyThatStays (enc k) (enc k)).run P w=.ok (enc k) w
def encI (k:Int):Value:=.int .i64 k
theorem findNow_int{kd:IntKind}(k:Int):∀(l:List (Int×Value×Nat)) (i:Nat),Instr.findNow (.int kd) (encI k) (entsL encI l) i=some (fidx k l i)
  | [],i=>rfl
  | e::l,i=>by
    simp only[entsL,List.map_cons,Instr.findNow,encI,Instr.sameNow,if_true,fidx]
    by_cases h:k=e.1
    · simp[h]
    · have hb:(k == e.1)=false:=by simpa using h
      simp only[hb,h,if_false];exact findNow_int k l (i+1)
instance KeyTy.int {P:Program} {K:TypeId} {kd:IntKind} [h:TyD P K (.int kd)]:KeyTy P K encI where
  check b k w:=by
    have key:∀d,(Instr.checkKey b (d+1) K (encI k)).run P w=.ok () w:=fun d=>by simp[Instr.checkKey,TyD.run,encI]
    exact key 9999
  find k l w:=by simp only[Instr.findKey,Sem.run_bind,TyD.run,Result.andThen_ok,findNow_int,Sem.run_pure]
  stay k w:=by simp[Instr.keyThatStays,Instr.sameBits,encI]
theorem run_lookup{P:Program}{T K V:TypeId}[hT:TyD P T (.map K V)]{enc:κ→Value}[hk:KeyTy P K enc]{z:Value}[hz:TyZ P V z]{w:World}{b:Nat}{l:List (κ×Value×Nat)}{cl:Nat}
    (hb:w.heap[b]?=some (mapO enc l cl)) (k:κ) (ok:Bool) :
    (Instr.lookup T (.map (some b)) (enc k) ok).run P w=.ok (if ok then .tuple #[(mget k l).getD z,.bool (mget k l).isSome] else (mget k l).getD z) w:=by
  have hg:(getObj b).run P w=.ok (mapO enc l cl) w:=by simp only[getObj,Sem.run,hb,mapO]
  simp only[Instr.lookup,Sem.run_bind,TyD.run,Result.andThen_ok,hg,mapO,Sem.run_pure,hk.check,hk.find];rw[←fidx_get k l 0];cases fidx k l 0 <;> simp[TyZ.run]
theorem fidx_ge(k:κ):∀(l:List (κ×Value×Nat)) (i j:Nat) (v:Value),fidx k l i=some (j,v)→i≤j
  | [],i,j,v,h=>by cases h
  | e::l,i,j,v,h=>by
    simp only[fidx]at h
    split at h
    · cases h;exact Nat.le_refl _
    · have:=fidx_ge k l (i+1) j v h;omega
theorem fidx_put(k:κ)(v:Value)(t:Nat)(enc:κ→Value):∀(l:List (κ×Value×Nat)) (i:Nat),
    (match fidx k l i with | some (j,_)=>(entsL enc l).modify (j-i) (fun e=>{ e with key:=enc k,val:=v }) | none=>entsL enc l++[{ key:=enc k,val:=v,born:=t }])=entsL enc (mput k v t l)
  | [],i=>rfl
  | e::l,i=>by
    have ih:=fidx_put k v t enc l (i+1)
    simp only[fidx,mput]
    by_cases h:k=e.1
    · simp[h,entsL]
    · simp only[h,if_false]
      simp only[entsL,List.map_cons]at ih ⊢;rw[←ih];cases hf:fidx k l (i+1) with
      | none=>rfl
      | some jv =>
        obtain ⟨j,u⟩:=jv;have:=fidx_ge k l (i+1) j u hf
        simp only;rw[show j-i=(j-(i+1))+1 by omega]
        rfl
def mclk (k:κ) (l:List (κ×Value×Nat)) (cl:Nat):Nat:=if (mget k l).isSome then cl else cl+1
theorem fidx_key(enc:κ→Value)(k:κ):∀(l:List (κ×Value×Nat)) (i j:Nat) (v:Value),fidx k l i=some (j,v)→((entsL enc l)[j-i]?).map (·.key)=some (enc k)
  | [],i,j,v,h=>by cases h
  | e::l,i,j,v,h=>by
    simp only[fidx]at h
    split at h
    · rename_i hk;cases h;subst hk;simp[entsL]
    · have hge:=fidx_ge k l (i+1) j v h
      have:=fidx_key enc k l (i+1) j v h
      rw[show j-i=(j-(i+1))+1 by omega]
      simpa [entsL] using this
theorem run_mapUpdate{P:Program}{T K V:TypeId}[hT:TyD P T (.map K V)]{enc:κ→Value}[hk:KeyTy P K enc]{w:World}{b:Nat}{l:List (κ×Value×Nat)}{cl:Nat}
    (hb:w.heap[b]?=some (mapO enc l cl)) (k:κ) (v:Value) :
    (Instr.mapUpdate T (.map (some b)) (enc k) v).run P w=.ok () { w with heap:=w.heap.setIfInBounds b (mapO enc (mput k v cl l) (mclk k l cl)) }:=by
  have hg:(getObj b).run P w=.ok (mapO enc l cl) w:=by simp only[getObj,Sem.run,hb,mapO]
  have hs:∀es c,(setObj b (.map es c)).run P w=.ok () { w with heap:=w.heap.setIfInBounds b (.map es c) }:=fun es c=>by simp only[setObj,Sem.run,hb,mapO]
  have hput:=fidx_put k v cl enc l 0
  have hget:=fidx_get k l 0
  simp only[Instr.mapUpdate,Sem.run_bind,TyD.run,Result.andThen_ok,hg,mapO,hk.check,hk.find];cases hf:fidx k l 0 with
  | none =>
    simp only[hf]at hput hget;have hm:(mget k l).isSome=false:=by rw[←hget];rfl
    simp only[hs,mclk,hm,Bool.false_eq_true,if_false];rw[←hput];simp
  | some jv =>
    obtain ⟨j,u⟩:=jv;simp only[hf,Nat.sub_zero]at hput hget;have hm:(mget k l).isSome=true:=by rw[←hget];rfl
    have hkey:=fidx_key enc k l 0 j u hf
    simp only[Nat.sub_zero]at hkey;have hkey' : (((entsL enc l).toArray[j]?).map (·.key)).getD (enc k)=enc k:=by
      simp only[List.getElem?_toArray,hkey,Option.getD_some]
    simp only[Sem.run_bind,hkey', hk.stay,Result.andThen_ok,hs,mclk,hm,if_true];rw[←hput];simp
end maps
section mapops
variable {P : Program} {W : World} {n : Nat} {D : List Deferred} {E : Env} {L : Hp} {ty : TypeId} {pos : String} {aft : Array Edge} {g : Option (Nat × Bool)} {T : TypeId} {x y z : Operand} {v u : Value}
variable {κ : Type} [DecidableEq κ]
theorem pv_lookup{d:Option Tmp}{K V:TypeId}{enc:κ→Value}{b cl:Nat}{l:List (κ×Value×Nat)}{zv:Value}(k:κ)(hx:ev E x=some (.map (some b)))(hy:ev E y=some (enc k))[hT:TyD P T (.map K V)][hk:KeyTy P K enc][hz:TyZ P V zv]
    [hb:Blk L b (mapO enc l cl)] {r:Value} (hr:(mget k l).getD zv=r):Pv P n D E L ⟨d,.lookup T x y false,ty,pos,aft,g⟩ r:=fun a w hs hh=>by
  subst hr;simp only[execOp,hs.ev hx,hs.ev hy,Sem.run_bind,run_lookup (hh _ hb.mem),Result.andThen_ok,Sem.run_pure,Bool.false_eq_true,if_false]
theorem pv_lookup_ok{d:Option Tmp}{K V:TypeId}{enc:κ→Value}{b cl:Nat}{l:List (κ×Value×Nat)}{zv:Value}(k:κ)(hx:ev E x=some (.map (some b)))(hy:ev E y=some (enc k))[hT:TyD P T (.map K V)][hk:KeyTy P K enc][hz:TyZ P V zv]
    [hb:Blk L b (mapO enc l cl)] {r:Value} {q:Bool} (hr:(mget k l).getD zv=r) (hq:(mget k l).isSome=q):Pv P n D E L ⟨d,.lookup T x y true,ty,pos,aft,g⟩ (.tuple #[r,.bool q]):=fun a w hs hh=>by
  subst hr;subst hq
  simp only[execOp,hs.ev hx,hs.ev hy,Sem.run_bind,run_lookup (hh _ hb.mem),Result.andThen_ok,Sem.run_pure,if_true]
theorem ef_mapUpdate{K V:TypeId}{enc:κ→Value}{b cl:Nat}{l:List (κ×Value×Nat)}{L' : Hp}(k:κ)(hx:ev E x=some (.map (some b)))(hy:ev E y=some (enc k))(hz:ev E z=some v)[hT:TyD P T (.map K V)][hk:KeyTy P K enc]
    [hb:Blk L b (mapO enc l cl)] [hu:Upd L b (mapO enc (mput k v cl l) (mclk k l cl)) L'] :
    Ef P W n D ⟨none,.mapUpdate T x y z,ty,pos,aft,g⟩ E L (fun E1 L1=>E1=E∧L1=L'):=fun Q a w next hs ho hn=>by
  unfold Oper.wp;have he:(execOp a.eval ⟨none,.mapUpdate T x y z,ty,pos,aft,g⟩).run P w=.ok .skip { w with heap:=w.heap.setIfInBounds b (mapO enc (mput k v cl l) (mclk k l cl)) }:=by
    simp only[execOp,hs.ev hx,hs.ev hy,hs.ev hz,Sem.run_bind,run_mapUpdate (ho.get _ hb.mem),Result.andThen_ok,Sem.run_pure]
  rw[he];have hlt:=ho.lt hb.mem
  refine hn _ _ _ _ ⟨rfl,rfl⟩ hs (ho.upd hu rfl rfl rfl (by simp[hlt]) fun j hj=>?_);simp[Array.getElem?_setIfInBounds_ne (Ne.symm hj)]
theorem pv_len_slice{d:Option Tmp}{e:TypeId}{ats:Array TypeId}{p:Option Addr}{m c:Nat}(hx:ev E x=some (.slice p m c))(h0:ats[0]?=some T)[hT:TyD P T (.slice e)] :
    Pv P n D E L ⟨d,.call { callee:=.builtin .len,args:=#[x],argTypes:=ats },ty,pos,aft,g⟩ (.int .i64 m):=fun a w hs hh=>by
  rw[BigFrame.execOp_builtin];simp only[BigFrame.builtin_len,List.map_toArray,List.map_cons,List.map_nil,hs.ev hx,Builtin.len_,h0,List.getElem?_toArray,List.getElem?_cons_zero,Sem.run_bind,TyD.run,Result.andThen_ok,Sem.run_pure,goInt]
end mapops
def encK:List IntKind→List Int→List Value
  | k::ks,x::xs=>.int k x::encK ks xs
  | _,_=>[]
class NumTy (P:Program) (T:Nat) (ks:outParam (List IntKind)):Prop where
  eq:∀d w (xs ys:List Int),xs.length=ks.length→ys.length=ks.length →
    (Op.equalIn (d+2) T (.agg (encK ks xs).toArray) (.agg (encK ks ys).toArray)).run P w=.ok (decide (xs=ys)) w
  guard:P.eqGuardType P.depth T=false
theorem eqFields_nums{P:Program}(d:Nat)(w:World)(cx cy:List Value):∀(fs:List Field) (ks:List IntKind) (off:Nat) (xs ys:List Int),
    fs.length=ks.length→xs.length=ks.length→ys.length=ks.length →
    (∀ i f k, fs[i]? = some f → ks[i]? = some k → f.name ≠ "_" ∧ f.offset = off + i ∧ P.underlying f.type = some (.int k)) →
    (∀i v,(encK ks xs)[i]?=some v→cx[off+i]?=some v)→(∀i v,(encK ks ys)[i]?=some v→cy[off+i]?=some v) →
    (Op.eqFields (d+1) cx.toArray cy.toArray fs).run P w=.ok (decide (xs=ys)) w
  | [],[],off,[],[],_,_,_,_,_,_=>by simp[Op.eqFields]
  | f::fs,k::ks,off,x::xs,y::ys,hf,hx,hy,h,hcx,hcy=>by
    obtain ⟨hn,ho,hu⟩:=h 0 f k rfl rfl;have h1:cx[f.offset]?=some (.int k x):=by rw[ho];exact hcx 0 _ rfl
    have h2:cy[f.offset]?=some (.int k y):=by rw[ho];exact hcy 0 _ rfl
    have hag:(isAgg f.type).run P w=.ok false w:=by simp[isAgg,underlying,hu]
    have ih:=eqFields_nums d w cx cy fs ks (off+1) xs ys (by simpa using hf) (by simpa using hx) (by simpa using hy)
      (fun i f' k' hi hk=>by
        have:=h (i+1) f' k' (by simpa using hi) (by simpa using hk)
        exact ⟨this.1,by rw[this.2.1];omega,this.2.2⟩)
      (fun i v hi=>by have:=hcx (i+1) v (by simpa [encK] using hi);rw[←this];congr 1;omega)
      (fun i v hi=>by have:=hcy (i+1) v (by simpa [encK] using hi);rw[←this];congr 1;omega)
    simp only[Op.eqFields,if_pos hn,Sem.run_bind,part,hag,Result.andThen_ok,Bool.false_eq_true,if_false,List.getElem?_toArray,h1,h2,Sem.run_pure,run_equalIn_int w d f.type k k x y hu]
    by_cases hxy:x=y
    · subst hxy
      simp[ih]
    · simp[hxy]
  | [],_::_,_,_,_,hf,_,_,_,_,_=>by simp at hf
  | _::_,[],_,_,_,hf,_,_,_,_,_=>by simp at hf
  | [],[],_,_::_,_,_,hx,_,_,_,_=>by simp at hx
  | [],[],_,[],_::_,_,_,hy,_,_,_=>by simp at hy
  | _::_,_::_,_,[],_,_,hx,_,_,_,_=>by simp at hx
  | _::_,_::_,_,_::_,[],_,_,hy,_,_,_=>by simp at hy
theorem NumTy.mk'{P:Program}{T:TypeId}{fs:Array Field}{ks:List IntKind}(hu:P.underlying T=some (.struct fs))(hst:P.stoodInHeld T=false)(hg:P.eqGuardType P.depth T=false)
    (hl : fs.toList.length = ks.length) (h : ∀ i f k, fs.toList[i]? = some f → ks[i]? = some k → f.name ≠ "_" ∧ f.offset = 0 + i ∧ P.underlying f.type = some (.int k)) : NumTy P T ks where
  guard:=hg
  eq d w xs ys hx hy:=by
    have hfs:P.fieldsOf T=fs:=by simp[Program.fieldsOf,hu]
    rw[run_equalIn_struct w (d+1) T _ _ (by rw[hfs];exact hu) hst,hfs];exact eqFields_nums d w _ _ fs.toList ks 0 xs ys hl hx hy h (fun i v hi=>by simpa using hi) (fun i v hi=>by simpa using hi)
section nums
variable {P : Program} {n : Nat} {D : List Deferred} {E : Env} {L : Hp} {d : Option Tmp} {ty : TypeId} {pos : String} {aft : Array Edge} {g : Option (Nat × Bool)} {T : TypeId} {x y z : Operand} {v u : Value}
theorem pv_eql_nums{ks:List IntKind}{yt:TypeId}(xs ys:List Int)[hT:NumTy P T ks](hx:ev E x=some (.agg (encK ks xs).toArray))(hy:ev E y=some (.agg (encK ks ys).toArray))(h1:xs.length=ks.length)(h2:ys.length=ks.length) :
    Pv P n D E L ⟨d,.binOp .eql T x y yt,ty,pos,aft,g⟩ (.bool (decide (xs=ys))):=fun a w hs _=>by
  have:=hT.eq 9998 w xs ys h1 h2
  simp only[execOp,hs.ev hx,hs.ev hy,Sem.run_bind,run_eqGuard_agg (P:=P) w .eql T x y _ _ hT.guard,run_eql_struct,Result.andThen_ok,this,Sem.run_pure]
theorem pv_neq_nums{ks:List IntKind}{yt:TypeId}(xs ys:List Int)[hT:NumTy P T ks](hx:ev E x=some (.agg (encK ks xs).toArray))(hy:ev E y=some (.agg (encK ks ys).toArray))(h1:xs.length=ks.length)(h2:ys.length=ks.length) :
    Pv P n D E L ⟨d,.binOp .neq T x y yt,ty,pos,aft,g⟩ (.bool (decide (xs≠ys))):=fun a w hs _=>by
  have:=hT.eq 9998 w xs ys h1 h2
  simp only[execOp,hs.ev hx,hs.ev hy,Sem.run_bind,run_eqGuard_agg (P:=P) w .neq T x y _ _ hT.guard,run_neq_struct,Result.andThen_ok,this,Sem.run_pure];simp
def encS (s:Int×Int):Value:=.agg #[.int .i64 s.1,.int .i64 s.2]
theorem findNow_agg(kind:TypeDesc)(s:Int×Int)(e:(Int×Int)×Value×Nat)(l:List ((Int×Int)×Value×Nat))(i:Nat):Instr.findNow kind (encS s) (entsL encS (e::l)) i=none:=by
  simp only[entsL,List.map_cons,Instr.findNow,encS];have:Instr.sameNow kind (.agg #[.int .i64 s.1,.int .i64 s.2]) (.agg #[.int .i64 e.1.1,.int .i64 e.1.2])=none:=by cases kind <;> rfl
  rw[this]
theorem findAsking_slots{P:Program}{K:TypeId}[hK:NumTy P K [.i64,.i64]](s:Int×Int)(w:World):∀(l:List ((Int×Int)×Value×Nat)) (i:Nat),(Instr.findAsking K (encS s) (entsL encS l) i).run P w=.ok (fidx s l i) w
  | [],i=>rfl
  | e::l,i=>by
    have h:=hK.eq 9998 w [s.1,s.2] [e.1.1,e.1.2] rfl rfl
    simp only[encK]at h;have he:(Op.equal K (encS s) (encS e.1)).run P w=.ok (decide (s=e.1)) w:=by
      have hd:decide ([s.1,s.2]=[e.1.1,e.1.2])=decide (s=e.1):=by
        obtain ⟨a,b⟩:=s;obtain ⟨⟨c,d⟩,r⟩:=e;simp
      rw[←hd];exact h
    simp only[entsL,List.map_cons,Instr.findAsking,Sem.run_bind,he,Result.andThen_ok,fidx]
    by_cases hs:s=e.1
    · simp[hs]
    · simp only[hs,decide_false,Bool.false_eq_true,if_false]
      exact findAsking_slots s w l (i+1)
class SlotTy (P:Program) (K:Nat):Prop where
  num:NumTy P K [.i64,.i64]
  check:∀b s d w,(Instr.checkKey b (d+2) K (encS s)).run P w=.ok () w
theorem sameBits_slots(d:Nat)(s:Int×Int):Instr.sameBits (d+2) (encS s) (encS s)=true:=by
  simp[Instr.sameBits,encS]
instance KeyTy.slot {P:Program} {K:TypeId} {dsc:TypeDesc} [hd:TyD P K dsc] [h:SlotTy P K]:KeyTy P K encS where
  check b k w:=h.check b k 9998 w
  find k l w:=by
    have hn:=h.num
    cases l with
    | nil=>simp[Instr.findKey,TyD.run,entsL,Instr.findNow,fidx]
    | cons e l=>simp only[Instr.findKey,Sem.run_bind,TyD.run,Result.andThen_ok,findNow_agg,findAsking_slots]
  stay k w:=by
    have:=sameBits_slots 9998 k
    unfold Instr.keyThatStays;rw[if_pos this]
    rfl
end nums
class App (A F:Hp) (R:outParam Hp):Prop where
  eq:A++F=R
instance (priority:=1000) App.nil {F:Hp}:App [] F F:=⟨rfl⟩
instance (priority:=900) App.cons {x:Nat×Obj} {A F R:Hp} [h:App A F R]:App (x::A) F (x::R):=⟨by rw[←h.eq];rfl⟩
instance (priority:=800) App.app {S T F R:Hp} [h:App T F R]:App (S++T) F (S++R):=⟨by rw[←h.eq,List.append_assoc]⟩
instance (priority:=100) App.seg {S F:Hp}:App S F (S++F):=⟨rfl⟩
section app
variable {P : Program} {W : World} {ops : Array Oper} {Q : Exit → Act → World → Prop} {n : Nat} {D : List Deferred} {E : Env} {A F R : Hp} {rest : List Oper}
theorem Wp.app{c:Code}[h:App A F R](hn:Wp P W Q n D c E R):Wp P W Q n D c E (A++F):=by rw[h.eq];exact hn
theorem Ops.app[h:App A F R](hn:Ops P W ops Q n D rest E R):Ops P W ops Q n D rest E (A++F):=by rw[h.eq];exact hn
theorem AnyH.app{S:Hp}{fuel:Nat}{listed:Array Bool}[h:App A F R](hn:AnyH P W ops Q n D S fuel listed E R):AnyH P W ops Q n D S fuel listed E (A++F):=by rw[h.eq];exact hn
end app
def rvRun (tmps:Array Value):ResultVar→Sem Value
  | .tmp t=>pure (tmps.getD t undef)
  | .cell a t=>do loadVar t (←asAddr (tmps.getD a undef))
theorem results_eq(fn:Func)(tmps:Array Value):results fn tmps=(do
    let vs ←fn.results.mapM (rvRun tmps)
    pure (if h:vs.size=1 then vs[0] else .tuple vs)):=by
  unfold results
  congr 1
def RVal (P:Program) (n:Nat) (D:List Deferred) (E:Env) (L:Hp) (r:ResultVar) (v:Value):Prop :=
  ∀a w,Sees n D E a→Held L w→(rvRun a.tmps r).run P w=.ok v w
section rval
variable {P : Program} {fn : Func} {n : Nat} {D : List Deferred} {E : Env} {L : Hp}
theorem rv_tmp{t:Nat}{v:Value}(hx:look t E=some v):RVal P n D E L (.tmp t) v:=fun a w hs _=>by
  simp only[rvRun,Array.getD_eq_getD_getElem?,hs.get t v hx,Option.getD_some,Sem.run_pure]
theorem rv_cell{x T b off:Nat}{v:Value}{dsc:TypeDesc}{c:List Value}{T' : TypeId}{f:Nat×Nat}(hx:look x E=some (.pointer (some ⟨b,off,none⟩)))[ht:TyD P T dsc](hd:aggD dsc=false)[hb:Blk L b (.cells c.toArray T' f)](hc:nth c off=some v) :
    RVal P n D E L (.cell x T) v:=fun a w hs hh=>by
  rw[nth_eq]at hc;simp[rvRun,Array.getD_eq_getD_getElem?,hs.get x _ hx,asAddr,loadVar,TyD.agg,hd,hh.cell hb.mem,hc]
theorem rv_cellK{x T b off k:Nat}{dsc:TypeDesc}{c:List Value}{T' : TypeId}{f:Nat×Nat}(vs:List Value)(hx:look x E=some (.pointer (some ⟨b,off,none⟩)))[ht:TyD P T dsc][hk:TyS P T k](hd:aggD dsc=true)[hb:Blk L b (.cells c.toArray T' f)]
    (hl:vs.length=k) (hc:Reads c off vs):RVal P n D E L (.cell x T) (.agg vs.toArray):=fun a w hs hh=>by
  subst hl;have h1:=run_loadCells_reads P (w:=w) (b:=b) (off:=off) (vs:=vs) fun j v hv=>by rw[hh.cell hb.mem,List.getElem?_toArray];exact hc.at_ j v hv
  simp[rvRun,Array.getD_eq_getD_getElem?,hs.get x _ hx,asAddr,loadVar,TyD.agg,TyS.run,hd,h1]
def RVals (P:Program) (n:Nat) (D:List Deferred) (E:Env) (L:Hp):List ResultVar→List Value→Prop
  | [],vs=>vs=[]
  | r::rs,vs=>∃v us,vs=v::us∧RVal P n D E L r v∧RVals P n D E L rs us
theorem run_rvals{a:Act}{w:World}(hs:Sees n D E a)(hh:Held L w):∀(rs:List ResultVar) (vs:List Value),RVals P n D E L rs vs →
    (rs.mapM (rvRun a.tmps)).run P w=.ok vs w
  | [],vs,h=>by
    obtain rfl:=h
    rfl
  | r::rs,vs,h=>by
    obtain ⟨v,us,rfl,h1,h2⟩:=h;have h3:=h1 a w hs hh
    have h4:=run_rvals hs hh rs us h2
    simp only[List.mapM_cons,Sem.run_bind,h3,h4,Result.andThen_ok,Sem.run_pure]
theorem res_list{rs:List ResultVar}{vs:List Value}(h:fn.results=rs.toArray)(hv:RVals P n D E L rs vs)(h2:Nat.ble 2 vs.length=true):Res P fn n D E L (.tuple vs.toArray):=fun a w hs hh=>by
  have h3:=run_rvals hs hh rs vs hv
  have hne:¬vs.length=1:=by have:=Nat.le_of_ble_eq_true h2;omega
  rw[results_eq,h,Array.mapM_eq_mapM_toList];simp only[Sem.run_bind,Sem.run_map,h3,Result.andThen_ok,Sem.run_pure,List.size_toArray,hne,dite_false]
theorem res_one{r:ResultVar}{v:Value}(h:fn.results=#[r])(hv:RVal P n D E L r v):Res P fn n D E L v:=fun a w hs hh=>by
  have h3:=run_rvals hs hh [r] [v] ⟨v,[],rfl,hv,rfl⟩
  rw[results_eq,h,Array.mapM_eq_mapM_toList];simp only[Sem.run_bind,Sem.run_map,h3,Result.andThen_ok,Sem.run_pure,List.size_toArray,List.length_singleton,dite_true]
  rfl
end rval
theorem w64{i:Int}(h1 : -9223372036854775808≤i)(h2:i≤9223372036854775807):IntKind.i64.wrap i=i:=IntWalk.i64_in i ⟨h1,h2⟩
theorem u64{i:Int}(h1:0≤i)(h2:i<18446744073709551616):IntKind.u64.wrap i=i:=by
  simp[IntKind.wrap,IntKind.signed,IntKind.bits];omega
theorem Ends.ret{P:Program}{W:World}{fn:Func}{R:Value→Hp→Prop}{F:Hp}{n:Nat}{E:Env}{L L' : Hp}{v:Value}{M:Hp}
    (hres:Res P fn n [] E L v) (hR:R v L') [ha:App L' F M] [hd:Drop L M]:Ends W (bodyPost P fn (TrPost R W F)) n [] .ret E L :=
  fun a w hs ho=>⟨hs.dfs,v,hres a w hs ho.held,v,L', rfl,hR,by rw[ha.eq];exact hd.own ho⟩
theorem Ends.fin{P:Program}{W:World}{fn:Func}{R:Value→Hp→Prop}{F:Hp}{n:Nat}{E:Env}{L L' : Hp}{v:Value}{M:Hp}
    (hres:Res P fn n [] E L v) (hR:R v L') [ha:App L' F M] [hd:Drop L M]:Ends W (bodyPost P fn (TrPost R W F)) n [] .normal E L :=
  fun a w hs ho=>⟨hs.dfs,v,hres a w hs ho.held,v,L', rfl,hR,by rw[ha.eq];exact hd.own ho⟩
section keyed
variable {P : Program} {W : World} {n : Nat} {D : List Deferred} {E : Env} {L : Hp} {ty : TypeId} {pos : String} {aft : Array Edge} {g : Option (Nat × Bool)} {T : TypeId} {x y z : Operand} {v u : Value} {K V : TypeId} {b cl : Nat} {zv : Value}
theorem pv_lookup_i{d:Option Tmp}{l:List (Int×Value×Nat)}(k:Int)(hx:ev E x=some (.map (some b)))(hy:ev E y=some (.int .i64 k))[hT:TyD P T (.map K V)][hk:KeyTy P K encI][hz:TyZ P V zv]
    [hb:Blk L b (mapO encI l cl)] {r:Value} (hr:(mget k l).getD zv=r):Pv P n D E L ⟨d,.lookup T x y false,ty,pos,aft,g⟩ r:=pv_lookup (enc:=encI) k hx hy hr
theorem pv_lookup_s{d:Option Tmp}{l:List ((Int×Int)×Value×Nat)}(k:Int×Int)(hx:ev E x=some (.map (some b)))(hy:ev E y=some (.agg #[.int .i64 k.1,.int .i64 k.2]))[hT:TyD P T (.map K V)][hk:KeyTy P K encS][hz:TyZ P V zv]
    [hb:Blk L b (mapO encS l cl)] {r:Value} (hr:(mget k l).getD zv=r):Pv P n D E L ⟨d,.lookup T x y false,ty,pos,aft,g⟩ r:=pv_lookup (enc:=encS) k hx hy hr
theorem pv_lookup_ok_i{d:Option Tmp}{l:List (Int×Value×Nat)}(k:Int)(hx:ev E x=some (.map (some b)))(hy:ev E y=some (.int .i64 k))[hT:TyD P T (.map K V)][hk:KeyTy P K encI][hz:TyZ P V zv]
    [hb:Blk L b (mapO encI l cl)] {r:Value} {q:Bool} (hr:(mget k l).getD zv=r) (hq:(mget k l).isSome=q):Pv P n D E L ⟨d,.lookup T x y true,ty,pos,aft,g⟩ (.tuple #[r,.bool q]):=pv_lookup_ok (enc:=encI) k hx hy hr hq
theorem ef_mapUpdate_i{l:List (Int×Value×Nat)}{L' : Hp}(k:Int)(hx:ev E x=some (.map (some b)))(hy:ev E y=some (.int .i64 k))(hz:ev E z=some v)[hT:TyD P T (.map K V)][hk:KeyTy P K encI]
    [hb:Blk L b (mapO encI l cl)] [hu:Upd L b (mapO encI (mput k v cl l) (mclk k l cl)) L']:Ef P W n D ⟨none,.mapUpdate T x y z,ty,pos,aft,g⟩ E L (fun E1 L1=>E1=E∧L1=L'):=ef_mapUpdate (enc:=encI) k hx hy hz
theorem ef_mapUpdate_s{l:List ((Int×Int)×Value×Nat)}{L' : Hp}(k:Int×Int)(hx:ev E x=some (.map (some b)))(hy:ev E y=some (.agg #[.int .i64 k.1,.int .i64 k.2]))(hz:ev E z=some v)[hT:TyD P T (.map K V)][hk:KeyTy P K encS]
    [hb:Blk L b (mapO encS l cl)] [hu:Upd L b (mapO encS (mput k v cl l) (mclk k l cl)) L']:Ef P W n D ⟨none,.mapUpdate T x y z,ty,pos,aft,g⟩ E L (fun E1 L1=>E1=E∧L1=L'):=ef_mapUpdate (enc:=encS) k hx hy hz
end keyed
def Slc (T:TypeId) (sz:Nat) (v:Value) (n:Nat) (cs:List Value) (H:Hp):Prop :=
  cs.length=n*sz∧((v=.slice none 0 0∧n=0∧H=[]) ∨
    ∃b pre spare cap,v=.slice (some ⟨b,pre.length,none⟩) n cap∧n≤cap∧(cap-n)*sz≤spare.length∧H=[(b,.cells (pre++cs++spare:List Value).toArray T)])
theorem Slc.nil(T:TypeId)(sz:Nat):Slc T sz (.slice none 0 0) 0 [] []:=⟨by simp,.inl ⟨rfl,rfl,rfl⟩⟩
theorem Slc.form{T:TypeId}{sz:Nat}{v:Value}{n:Nat}{cs:List Value}{H:Hp}(h:Slc T sz v n cs H):∃a c,v=.slice a n c:=by
  rcases h.2 with ⟨rfl,rfl,_⟩ | ⟨b,pre,spare,cap,rfl,_⟩
  · exact ⟨none,0,rfl⟩
  · exact ⟨_,cap,rfl⟩
theorem zeroCells_len(z:Array Value)(n:Nat):(Builtin.zeroCells z n).toList.length=n*z.size:=by simp[Builtin.zeroCells]
section slices
variable {P : Program} {W : World} {n : Nat} {D : List Deferred} {E : Env} {L : Hp} {ty : TypeId} {pos : String} {aft : Array Edge} {g : Option (Nat × Bool)} {T : TypeId} {x y z : Operand} {v u : Value}
theorem run_append_room'{P:Program}(w:World)(t ty e:TypeId)(sz:Nat)[ht:TyD P t (.slice e)][hk:TyS P e sz]
    (b sLen sCap off:Nat) (cur:List Value) (hg:w.heap[b]?=some (.cells cur.toArray e))
    (a:Addr) (m c:Nat) (news:List Value) (hl:news.length=m*sz) (hnews:∀j u,news[j]?=some u→w.cell? (a.add j)=some u) (h1:∀u∈news,u.oneCell' = true)
    (hroom:sLen+m≤sCap) (hfit:off+sLen*sz+news.length≤cur.length) :
    (Builtin.append_ #[t,t] ty #[.slice (some ⟨b,off,none⟩) sLen sCap,.slice (some a) m c]).run P w =
      .ok (.slice (some ⟨b,off,none⟩) (sLen+m) sCap) (storeW w b (cur.take (off+sLen*sz)++news++cur.drop (off+sLen*sz+news.length)) e):=by
  have hf:=run_firstCells_some (P:=P) w sz m a m c news hl hnews
  have hst:=run_storeCells P b (off+sLen*sz) e news 0 cur w hg (by simpa using hfit) h1
  simp only[Nat.add_zero]at hst;simp[Builtin.append_,TyD.run,TyS.run,Builtin.lenOf,hroom,hf,addr_add,hst]
theorem ef_append{d:Nat}{t e sz bytes:Nat}{zv:Value}{m k:Nat}{cs xs:List Value}{H R:Hp}{bx ox mc:Nat}{c:List Value}{Tx:TypeId}{f:Nat×Nat}(hx:ev E x=some v)(hs' : Slc e sz v m cs H)(hy:ev E y=some (.slice (some ⟨bx,ox,none⟩) k mc))(hr:Reads c ox xs)(hl:xs.length=k*sz)
    (h1:xs.all Value.oneCell' = true) (hk0:Nat.ble 1 k=true) (hbd:(m+k)*bytes≤140737488355328) (hmk:m+k≤9223372036854775807) (hd:Nat.blt d n=true)
    [ht:TyD P t (.slice e)] [hsz:TyS P e sz] [hby:TyB P e bytes] [hz:TyZ P e zv] (hzs:zv.cells.size=sz) [hp:Part L H R] [hb:Blk L bx (.cells c.toArray Tx f)] :
    Ef P W n D ⟨some d,.call { callee:=.builtin .append,args:=#[x,y],argTypes:=#[t,t] },ty,pos,aft,g⟩ E L
      (fun E' L' => ∃v' H', Slc e sz v' (m+k) (cs++xs) H' ∧ E' = (d,v')::E∧L' = H' ++ R):=fun Q a w next hs ho hn=>by
  have hk1:1≤k:=Nat.le_of_ble_eq_true hk0
  have hcell:∀j u,xs[j]?=some u→w.cell? ((⟨bx,ox,none⟩:Addr).add j)=some u:=fun j u hu=>by
    rw[addr_add,ho.held.cell hb.mem,List.getElem?_toArray];exact hr.at_ j u hu
  have h1' : ∀u∈xs,u.oneCell' = true:=by simpa using h1
  obtain ⟨i,hi,hzi⟩:=Option.bind_eq_some_iff.1 hz.eq;have hisz:i.size=sz:=by have:=hsz.eq;rw[hi]at this;simpa using this
  have hiby:i.bytes=bytes:=by have:=hby.eq;rw[hi]at this;simpa using this
  have ho' := ho.part hp
  have hlen:(cs++xs).length=(m+k)*sz:=by rw[List.length_append,hs'.1,hl,Nat.add_mul]
  unfold Oper.wp;rw[BigFrame.execOp_builtin];simp only[BigFrame.builtin_append,List.map_toArray,List.map_cons,List.map_nil,hs.ev hx,hs.ev hy,Sem.run_bind]
  rcases hs'.2 with ⟨rfl,rfl,rfl⟩ | ⟨b,pre,spare,cap,rfl,hmc,hsp,rfl⟩
  · have hcs:cs=[]:=List.eq_nil_of_length_eq_zero (by have:=hs'.1;omega)
    subst hcs;have hr' := run_append_nil (P:=P) w t ty e i zv ht.eq hi hzi ⟨bx,ox,none⟩ k mc xs (by rw[hisz];exact hl) hcell (by omega) (by omega) (by rw[hiby];simp only[Nat.zero_add]at hbd;omega)
    rw[hr'];simp only[Result.andThen_ok,Sem.run_pure];refine hn _ _ _ _ ⟨_,[(w.heap.size,.cells (([]:List Value)++xs++(Builtin.zeroCells zv.cells (grownCap w k 0 e-k)).toList).toArray e)],⟨by simpa using hlen,.inr ⟨w.heap.size,[],_,grownCap w k 0 e,by simp,by simpa using grownCap_ge w k 0 e,?_,rfl⟩⟩,rfl,rfl⟩ (hs.put hd) ?_
    · rw[zeroCells_len,hzs];simp
    · have:=(ho'.drew).alloc (.cells (([]:List Value)++xs++(Builtin.zeroCells zv.cells (grownCap w k 0 e-k)).toList).toArray e)
      have e1:(([]:List Value)++xs++(Builtin.zeroCells zv.cells (grownCap w k 0 e-k)).toList).toArray=xs.toArray++Builtin.zeroCells zv.cells (grownCap w k 0 e-k):=by apply Array.ext';simp
      rw[e1]at this ⊢;exact this
  · have hbl:=ho'.get (b,.cells (pre++cs++spare:List Value).toArray e) (by simp)
    by_cases hroom:m+k≤cap
    · have hfit:pre.length+m*sz+xs.length≤(pre++cs++spare).length:=by
        have e1:k*sz≤(cap-m)*sz:=Nat.mul_le_mul_right _ (by omega)
        simp only[List.length_append,hs'.1,hl];omega
      have hr' := run_append_room' (P:=P) w t ty e sz b m cap pre.length (pre++cs++spare) hbl ⟨bx,ox,none⟩ k mc xs hl hcell h1' hroom hfit
      rw[hr'];simp only[Result.andThen_ok,Sem.run_pure];have hnew:(pre++cs++spare).take (pre.length+m*sz)++xs++(pre++cs++spare).drop (pre.length+m*sz+xs.length)=pre++(cs++xs)++spare.drop xs.length:=by
        have e1:pre.length+m*sz=(pre++cs).length:=by simp[hs'.1]
        rw[e1,List.take_left' rfl,List.drop_append,List.drop_eq_nil_of_le (by omega),show (pre++cs).length+xs.length-(pre++cs).length=xs.length by omega];simp
      rw[hnew];refine hn _ _ _ _ ⟨_,[(b,.cells (pre++(cs++xs)++spare.drop xs.length:List Value).toArray e)],⟨hlen,.inr ⟨b,pre,spare.drop xs.length,cap,rfl,hroom,?_,rfl⟩⟩,rfl,rfl⟩ (hs.put hd) ?_
      · rw[List.length_drop,hl,show cap-(m+k)=(cap-m)-k by omega,Nat.sub_mul];omega
      · have hlt:=ho'.lt (b:=b) (o:=.cells (pre++cs++spare:List Value).toArray e) (by simp)
        exact ho'.upd (Upd.here) rfl rfl rfl (by simp[storeW,hlt]) fun j hj=>by simp[storeW,Array.getElem?_setIfInBounds_ne (Ne.symm hj)]
    · have holds:∀j u,cs[j]?=some u→w.cell? ((⟨b,pre.length,none⟩:Addr).add j)=some u:=fun j u hu=>by
        have hjl:j<cs.length:=by
          rcases Nat.lt_or_ge j cs.length with h | h
          · exact h
          · rw[List.getElem?_eq_none h]at hu;cases hu
        rw[addr_add];simp only[World.cell?,hbl,Option.isSome_none,Bool.false_eq_true,if_false,List.getElem?_toArray];rw[List.append_assoc,List.getElem?_append_right (by omega),List.getElem?_append_left (by omega)];rw[show pre.length+j-pre.length=j by omega];exact hu
      have hr' := run_append_grow (P:=P) w t ty e i zv ht.eq hi hzi ⟨b,pre.length,none⟩ m cap cs (by rw[hisz];exact hs'.1) holds ⟨bx,ox,none⟩ k mc xs (by rw[hisz];exact hl) hcell (by omega) (by omega) (growslice_fits (by omega) (by rw[hiby];exact hbd))
      rw[hr'];simp only[Result.andThen_ok,Sem.run_pure];refine hn _ _ _ _ ⟨_,[(w.heap.size,.cells (([]:List Value)++(cs++xs)++(Builtin.zeroCells zv.cells (grownCap w (m+k) cap e-(m+k))).toList).toArray e)],⟨hlen,.inr ⟨w.heap.size,[],_,grownCap w (m+k) cap e,rfl,grownCap_ge w (m+k) cap e,?_,rfl⟩⟩,rfl,rfl⟩ (hs.put hd) ?_
      · rw[zeroCells_len,hzs];exact Nat.le_refl _
      · have:=(((ho'.app_right).drew).alloc (.cells (([]:List Value)++(cs++xs)++(Builtin.zeroCells zv.cells (grownCap w (m+k) cap e-(m+k))).toList).toArray e))
        have e1:(([]:List Value)++(cs++xs)++(Builtin.zeroCells zv.cells (grownCap w (m+k) cap e-(m+k))).toList).toArray=cs.toArray++xs.toArray++Builtin.zeroCells zv.cells (grownCap w (m+k) cap e-(m+k)):=by apply Array.ext';simp
        rw[e1]at this ⊢;exact this
end slices
class Cells (v:Value) (cs:outParam (List Value)):Prop where
  eq:v.cells=cs.toArray
instance Cells.agg {l:List Value}:Cells (.agg l.toArray) l:=⟨rfl⟩
instance Cells.int {k:IntKind} {i:Int}:Cells (.int k i) [.int k i]:=⟨rfl⟩
instance Cells.bool {b:Bool}:Cells (.bool b) [.bool b]:=⟨rfl⟩
instance Cells.string {b:ByteArray}:Cells (.string b) [.string b]:=⟨rfl⟩
instance Cells.pointer {p:Option Addr}:Cells (.pointer p) [.pointer p]:=⟨rfl⟩
instance Cells.slice {p:Option Addr} {m c:Nat}:Cells (.slice p m c) [.slice p m c]:=⟨rfl⟩
instance Cells.map {p:Option Nat}:Cells (.map p) [.map p]:=⟨rfl⟩
instance Cells.iface {t:TypeId} {v:Value}:Cells (.iface t v) [.iface t v]:=⟨rfl⟩
class TyPl (P:Program) (S:Nat) (pl:outParam (List (Nat×Nat))):Prop where
  eq:∃fs,P.underlying S=some (.struct fs)∧∀w:World,(fs.mapM fun f=>do pure (f.offset,←sizeOf f.type):Sem (Array (Nat×Nat))).run P w=.ok pl.toArray w
class LenIs (l:List Value) (n:Nat):Prop where
  eq:l.length=n
instance LenIs.nil:LenIs [] 0:=⟨rfl⟩
instance LenIs.cons {x:Value} {l:List Value} {n:Nat} [h:LenIs l n]:LenIs (x::l) (n+1):=⟨by simp[h.eq]⟩
class Nth (pl:List (Nat×Nat)) (i:Nat) (a b:outParam Nat):Prop where
  eq:pl[i]?=some (a,b)
instance Nth.zero {a b:Nat} {l:List (Nat×Nat)}:Nth ((a,b)::l) 0 a b:=⟨rfl⟩
instance Nth.succ {x:Nat×Nat} {l:List (Nat×Nat)} {i a b:Nat} [h:Nth l i a b]:Nth (x::l) (i+1) a b:=⟨h.eq⟩
class Fills (pl:List (Nat×Nat)) (zs:List Value) (parts:List (Nat×Value)) (cs:outParam (List Value)):Prop where
  eq:Instr.fill (fun i=>pl[i]?) zs.toArray parts=some cs.toArray
instance Fills.nil {pl:List (Nat×Nat)} {zs:List Value}:Fills pl zs [] zs:=⟨rfl⟩
theorem foldl_set(off:Nat):∀(vs:List Value) (j:Nat) (c:Array Value),off+j+vs.length≤c.size →
    (vs.zipIdx j).foldl (fun cs (x:Value×Nat)=>cs.setIfInBounds (off+x.2) x.1) c=(c.toList.take (off+j)++vs++c.toList.drop (off+j+vs.length)).toArray
  | [],j,c,h=>by simp
  | v::vs,j,c,h=>by
    simp only[List.length_cons]at h;simp only[List.zipIdx_cons,List.foldl_cons];rw[foldl_set off vs (j+1) (c.setIfInBounds (off+j) v) (by simp;omega)];have hlt:off+j<c.toList.length:=by simp;omega
    have e1:(c.setIfInBounds (off+j) v).toList=c.toList.set (off+j) v:=by simp
    rw[e1];have e2:(c.toList.set (off+j) v).take (off+(j+1))=c.toList.take (off+j)++[v]:=by
      rw[List.take_set,show off+(j+1)=off+j+1 by omega,List.take_succ_eq_append_getElem hlt,List.set_append_right _ _ (by simp;omega)];simp[Nat.min_eq_left (Nat.le_of_lt (show off+j<c.size by simpa using hlt))]
    have e3:(c.toList.set (off+j) v).drop (off+(j+1)+vs.length)=c.toList.drop (off+j+(vs.length+1)):=by
      rw[List.drop_set_of_lt (by omega),show off+(j+1)+vs.length=off+j+(vs.length+1) by omega]
    rw[e2,e3];simp
instance Fills.cons {pl:List (Nat×Nat)} {zs zs' vs cs:List Value} {i off sz:Nat} {v:Value} {parts:List (Nat×Value)} [h1:Nth pl i off sz] [h2:Cells v vs] [h3:SetL zs off vs zs'] [h4:Fills pl zs' parts cs] [hl:LenIs vs sz]:Fills pl zs ((i,v)::parts) cs where
  eq:=by
    have hle:=h3.le
    simp only[Instr.fill,h1.eq,h2.eq,List.size_toArray,hl.eq];rw[if_neg (by simp;have:=hl.eq;omega)];have hf:=foldl_set off vs 0 zs.toArray (by simpa using hle)
    have e:(Array.zipIdx vs.toArray 0)=(vs.zipIdx 0).toArray:=by simp
    rw[e];simp only[List.size_toArray,List.foldl_toArray', Nat.add_zero]at hf ⊢;rw[hf,h3.eq];exact h4.eq
def evps (E:Env):List (Nat×Operand)→Option (List (Nat×Value))
  | []=>some []
  | (i,x)::xs=>match ev E x with
    | none=>none
    | some v=>match evps E xs with
      | none=>none
      | some vs=>some ((i,v)::vs)
theorem Sees.evps{n:Nat}{D:List Deferred}{E:Env}{a:Act}(h:Sees n D E a):∀{xs:List (Nat×Operand)} {vs:List (Nat×Value)},SL.evps E xs=some vs→xs.map (fun (i,x)=>(i,a.eval x))=vs
  | [],vs,hx=>by simpa [SL.evps] using hx
  | (i,x)::xs,vs,hx=>by
    simp only[SL.evps]at hx
    split at hx
    · cases hx
    · rename_i v hv
      split at hx
      · cases hx
      · rename_i us hus
        cases hx;simp[h.ev hv,h.evps hus]
section build
variable {P : Program} {W : World} {n : Nat} {D : List Deferred} {E : Env} {L : Hp} {ty : TypeId} {pos : String} {aft : Array Edge} {g : Option (Nat × Bool)} {T : TypeId} {x y z : Operand} {v u : Value}
theorem pv_build{d:Option Tmp}{zs cs:List Value}{pl:List (Nat×Nat)}{parts:List (Nat×Operand)}{vs:List (Nat×Value)}(hp:evps E parts=some vs)[hz:TyZ P T (.agg zs.toArray)][hpl:TyPl P T pl][hf:Fills pl zs vs cs] :
    Pv P n D E L ⟨d,.build T parts.toArray,ty,pos,aft,g⟩ (.agg cs.toArray):=fun a w hs _=>by
  obtain ⟨fs,hu,hrun⟩:=hpl.eq;have ht:TyD P T (.struct fs):=⟨hu⟩
  have hm:(parts.toArray.map fun (i,x)=>(i,a.eval x))=vs.toArray:=by rw[List.map_toArray,hs.evps hp]
  have hfe:=hf.eq
  simp only[execOp,Instr.build,Sem.run_bind,TyZ.run,Result.andThen_ok,TyD.run,hrun,Value.cells];rw[show (Array.map (fun (x:Nat×Operand)=>(x.1,a.eval x.2)) parts.toArray)=vs.toArray from hm];have hpe:(fun (i:Nat)=>pl.toArray[i]?)=(fun (i:Nat)=>pl[i]?):=by funext i;simp
  simp only[hpe,hfe,Sem.run_pure,Result.andThen_ok]
theorem pv_build_arr0{d:Option Tmp}{z0:Value}{m e:Nat}[hz:TyZ P T z0]{cs:Array Value}(hc:z0=.agg cs)[ht:TyD P T (.array m e)]{k:Nat}[hk:TyS P e k] :
    Pv P n D E L ⟨d,.build T #[],ty,pos,aft,g⟩ z0:=fun a w hs _=>by
  subst hc;simp[execOp,Instr.build,TyZ.run,TyD.run,TyS.run,Instr.fill,Value.cells]
theorem ef_buildSlice0{d:Nat}{e k:Nat}[ht:TyD P T (.slice e)][hk:TyS P e k](hd:Nat.blt d n=true) :
    Ef P W n D ⟨some d,.buildSlice T 0 #[],ty,pos,aft,g⟩ E L (fun E' L' => ∃b,E' = (d,.slice (some ⟨b,0,none⟩) 0 0)::E∧L' = (b,.cells ([]:List Value).toArray e)::L):=fun Q a w next hs ho hn=>by
  unfold Oper.wp;have:(execOp a.eval ⟨some d,.buildSlice T 0 #[],ty,pos,aft,g⟩).run P w=.ok (.value (.slice (some ⟨w.heap.size,0,none⟩) 0 0)) (w.alloc (.cells ([]:List Value).toArray e)):=by
    simp[execOp,Instr.buildSlice,TyD.run,TyS.run,Instr.fill,newRow]
    congr 2
    apply Array.ext';simp
  rw[this];exact hn _ _ _ _ ⟨_,rfl,rfl⟩ (hs.put hd) (ho.alloc _)
theorem fill_one(sz:Nat)(zs:Array Value)(v:Value)(vs:List Value)(hv:v.cells=vs.toArray)(hl:vs.length=sz)(hz:zs.size=sz):Instr.fill (fun i=>some (i*sz,sz)) zs [(0,v)]=some vs.toArray:=by
  subst hl;have hf:=foldl_set 0 vs 0 zs (by omega)
  have e:(Array.zipIdx vs.toArray 0)=(vs.zipIdx 0).toArray:=by simp
  simp only[Instr.fill,hv,Nat.zero_mul,List.size_toArray,e];rw[if_neg (by simp;omega)];simp only[List.size_toArray,List.foldl_toArray', Nat.add_zero,Nat.zero_add]at hf ⊢;rw[hf];simp[hz]
theorem ef_buildSlice1{d:Nat}{e k:Nat}{vs:List Value}{zv:Value}[ht:TyD P T (.slice e)][hk:TyS P e k][hz:TyZ P e zv](hzs:zv.cells.size=k)(hx:ev E x=some v)(hk0:Nat.ble 1 k=true)(hk1:Nat.ble k 1000=true)(hd:Nat.blt d n=true)[hc:Cells v vs][hl:LenIs vs k] :
    Ef P W n D ⟨some d,.buildSlice T 1 #[(0,x)],ty,pos,aft,g⟩ E L (fun E' L' => ∃b,E' = (d,.slice (some ⟨b,0,none⟩) 1 1)::E∧L' = (b,.cells vs.toArray e)::L):=fun Q a w next hs ho hn=>by
  unfold Oper.wp;have h1:1≤k:=Nat.le_of_ble_eq_true hk0
  have h2:k≤1000:=Nat.le_of_ble_eq_true hk1
  have:(execOp a.eval ⟨some d,.buildSlice T 1 #[(0,x)],ty,pos,aft,g⟩).run P w=.ok (.value (.slice (some ⟨w.heap.size,0,none⟩) 1 1)) (w.alloc (.cells vs.toArray e)):=by
    have hfo:=fill_one k ((Array.range (1*k)).map (fun i=>zv.cells[i%zv.cells.size]!)) v vs hc.eq hl.eq (by simp)
    have hb:¬(1*k>2^24):=by omega
    have hb0:¬(1*k=0):=by omega
    simp only[execOp,Instr.buildSlice,Sem.run_bind,TyD.run,TyS.run,Result.andThen_ok,Sem.run_ite,if_neg hb,if_neg hb0,TyZ.run,Sem.run_pure,List.map_toArray,List.map_cons,List.map_nil,hs.ev hx,hfo,newRow,run_newObj]
    rfl
  rw[this];exact hn _ _ _ _ ⟨_,rfl,rfl⟩ (hs.put hd) (ho.alloc _)
end build
section idx
variable {P : Program} {W : World} {n : Nat} {D : List Deferred} {E : Env} {L : Hp} {d : Option Tmp} {ty : TypeId} {pos : String} {aft : Array Edge} {g : Option (Nat × Bool)} {T : TypeId} {x y z : Operand} {v u : Value}
theorem pv_indexAddr{e k b o m c:Nat}{kk:IntKind}{j:Int}{i:Nat}(hx:ev E x=some (.slice (some ⟨b,o,none⟩) m c))(hy:ev E y=some (.int kk j))[ht:TyD P T (.slice e)][hk:TyS P e k](hj:j=i)(hi:i<m) :
    Pv P n D E L ⟨d,.indexAddr T x y,ty,pos,aft,g⟩ (.pointer (some ⟨b,o+i*k,none⟩)):=fun a w hs _=>by
  subst hj;have h1:(0:Int)≤(i:Int)∧(i:Int)<(m:Int):=by omega
  simp[execOp,hs.ev hx,hs.ev hy,Instr.indexAt,asIntOf,TyD.run,TyS.run,h1,addr_add,hi]
theorem pv_indexAddrA{e k b o m:Nat}{kk:IntKind}{j:Int}{i:Nat}(hx:ev E x=some (.pointer (some ⟨b,o,none⟩)))(hy:ev E y=some (.int kk j))[ht:TyD P T (.array m e)][hk:TyS P e k](hj:j=i)(hi:i<m) :
    Pv P n D E L ⟨d,.indexAddr T x y,ty,pos,aft,g⟩ (.pointer (some ⟨b,o+i*k,none⟩)):=fun a w hs _=>by
  subst hj;have h1:(0:Int)≤(i:Int)∧(i:Int)<(m:Int):=by omega
  simp[execOp,hs.ev hx,hs.ev hy,Instr.indexAt,asIntOf,TyD.run,TyS.run,h1,addr_add,hi,Instr.sureAddr]
theorem pv_indexK{e k m:Nat}{kk:IntKind}{j:Int}{i:Nat}{cs:List Value}(vs:List Value){dsc:TypeDesc}(hx:ev E x=some (.agg cs.toArray))(hy:ev E y=some (.int kk j))[ht:TyD P T (.array m e)][he:TyD P e dsc][hk:TyS P e k](hd:aggD dsc=true)(hj:j=i)(hi:i<m)
    (hl:vs.length=k) (hc:Reads cs (i*k) vs):Pv P n D E L ⟨d,.index T x y,ty,pos,aft,g⟩ (.agg vs.toArray):=fun a w hs _=>by
  subst hj;have h1:(0:Int)≤(i:Int)∧(i:Int)<(m:Int):=by omega
  have hc' := hc.extract hl
  simp only[List.extract_toArray,List.extract_eq_take_drop,Nat.add_sub_cancel_left]at hc';have hc' := List.toArray_inj hc'
  simp[execOp,hs.ev hx,hs.ev hy,Instr.index,asIntOf,TyD.run,TyS.run,h1,hi,part,TyD.agg,hd,hc']
theorem pv_index1{e k m:Nat}{kk:IntKind}{j:Int}{i:Nat}{cs:List Value}{dsc:TypeDesc}(hx:ev E x=some (.agg cs.toArray))(hy:ev E y=some (.int kk j))[ht:TyD P T (.array m e)][he:TyD P e dsc][hk:TyS P e k](hd:aggD dsc=false)(hj:j=i)(hi:i<m)
    (hc:nth cs (i*k)=some v):Pv P n D E L ⟨d,.index T x y,ty,pos,aft,g⟩ v:=fun a w hs _=>by
  subst hj;have h1:(0:Int)≤(i:Int)∧(i:Int)<(m:Int):=by omega
  rw[nth_eq]at hc;simp[execOp,hs.ev hx,hs.ev hy,Instr.index,asIntOf,TyD.run,TyS.run,h1,hi,part,TyD.agg,hd,hc]
end idx
def TrR (P:Program) (f:FuncId) (args:List Value) (L:Hp) (r:Value):Prop:=Tr P f args L (fun v L' => v=r∧L' = L)
class Has (L Lp:Hp):Prop where
  ex:∃F,L.Perm (Lp++F)
instance (priority:=2000) Has.nil {L:Hp}:Has L []:=⟨L,List.Perm.refl _⟩
instance (priority:=1000) Has.part {L Lp F:Hp} [h:Part L Lp F]:Has L Lp:=⟨F,h.perm⟩
instance (priority:=500) Has.one {L:Hp} {b:Nat} {o:Obj} [h:Blk L b o]:Has L [(b,o)]:=⟨by
  obtain ⟨A,B,e⟩:=List.append_of_mem h.mem;exact ⟨A++B,by rw[e];exact List.perm_middle⟩⟩
section callr
variable {P : Program} {W : World} {n : Nat} {D : List Deferred} {E : Env} {L : Hp} {ty : TypeId} {pos : String} {aft : Array Edge} {g : Option (Nat × Bool)}
theorem ef_callr{d:Nat}{f:FuncId}{xs:List Operand}{ats:Array TypeId}{args:List Value}{Lp:Hp}{r:Value}(ht:TrR P f args Lp r)[hf:GoFn P f](hx:evs E xs=some args)(hd:Nat.blt d n=true)[hp:Has L Lp] :
    Ef P W n D ⟨some d,.call { callee:=.value (.func f),args:=xs.toArray,argTypes:=ats },ty,pos,aft,g⟩ E L (fun E' L' => E' = (d,r)::E∧L' = L):=fun Q a w next hs ho hn=>by
  obtain ⟨F,hF⟩:=hp.ex;unfold Oper.wp;rw[execOp_call_go];have e:(#[]++xs.toArray.map a.eval++#[]:Array Value)=args.toArray:=by simp[hs.evs hx]
  rw[e,run_callFunc];refine (ht W w F (ho.perm hF)).mono ?_;rintro e' w' ⟨v,L1,rfl,⟨rfl,rfl⟩,ho'⟩;exact hn _ _ _ _ ⟨rfl,rfl⟩ (hs.put hd) (ho'.perm hF.symm)
theorem TrR.eq{f:FuncId}{args:List Value}{Lp:Hp}{r r' : Value}(h:TrR P f args Lp r)(e:r=r'):TrR P f args Lp r' := e ▸ h
theorem Tr.frame{f:FuncId}{args:List Value}{Lp G M:Hp}{R:Value→Hp→Prop}(h:Tr P f args Lp R)(hp:M.Perm (Lp++G)):Tr P f args M (fun v L' => ∃L1,R v L1∧L' = L1++G):=fun W w F ho=>by
  have ho2:Own W w (Lp++(G++F)):=ho.perm (by rw[←List.append_assoc];exact hp.append_right F)
  refine (h W w (G++F) ho2).mono ?_;rintro e' w' ⟨v,L1,he,hR,ho'⟩;exact ⟨v,L1++G,he,⟨L1,hR,rfl⟩,by rw[List.append_assoc];exact ho'⟩
theorem TrR.frame{f:FuncId}{args:List Value}{Lp M:Hp}{r:Value}(h:TrR P f args Lp r)[hp:Has M Lp]:TrR P f args M r:=fun W w F ho=>by
  obtain ⟨G,hG⟩:=hp.ex;have ho2:Own W w (Lp++(G++F)):=ho.perm (by rw[←List.append_assoc];exact hG.append_right F)
  refine (h W w (G++F) ho2).mono ?_;rintro e' w' ⟨v,L1,he,⟨rfl,rfl⟩,ho'⟩;exact ⟨v,M,he,⟨rfl,rfl⟩,ho'.perm (by rw[←List.append_assoc];exact hG.symm.append_right F)⟩
end callr
instance (priority:=880) Take.left {b:Nat} {o:Obj} {S L R:Hp} [h:Take S b o R]:Take (S++L) b o (R++L):=⟨h.perm.append_right L⟩
section closures
variable {P : Program} {W : World} {n : Nat} {D : List Deferred} {E : Env} {L : Hp} {ty : TypeId} {pos : String} {aft : Array Edge} {g : Option (Nat × Bool)} {x : Operand}
theorem pv_makeFunc{d:Option Tmp}{fn:Fn}{fi ca:List Operand}{fv cv:List Value}(hf:evs E fi=some fv)(hc:evs E ca=some cv):Pv P n D E L ⟨d,.makeFunc fn fi.toArray ca.toArray,ty,pos,aft,g⟩ (.func fn fv.toArray cv.toArray):=fun a w hs _=>by
  simp[execOp,Instr.makeFunc,hs.evs hf,hs.evs hc]
theorem ef_callf{d:Nat}{f:FuncId}{xs:List Operand}{ats:Array TypeId}{args cap:List Value}{Lp F:Hp}{R:Value→Hp→Prop}(hv:ev E x=some (.func (.func f) #[] cap.toArray))(hx:evs E xs=some args)(ht:Tr P f (args++cap) Lp R)[hf:GoFn P f](hd:Nat.blt d n=true)[hp:Part L Lp F] :
    Ef P W n D ⟨some d,.call { callee:=.value x,args:=xs.toArray,argTypes:=ats },ty,pos,aft,g⟩ E L (fun E' L' => ∃v L1,R v L1∧E' = (d,v)::E∧L' = L1++F):=fun Q a w next hs ho hn=>by
  unfold Oper.wp;have e:(execOp a.eval ⟨some d,.call { callee:=.value x,args:=xs.toArray,argTypes:=ats },ty,pos,aft,g⟩).run P w=.ok (.enter f (args++cap).toArray) w:=by
    simp only[execOp,resolve,hs.ev hv,Deferred.ofValue,List.map_toArray,hs.evs hx,Sem.run_bind,Sem.run_pure,Result.andThen_ok,invoke];rw[show ((#[]:Array Value)++args.toArray++cap.toArray)=(args++cap).toArray by simp,run_callFunc]
  rw[e];refine (ht W w F (ho.part hp)).mono ?_;rintro e' w' ⟨v,L1,rfl,hR,ho'⟩;exact hn _ _ _ _ ⟨v,L1,hR,rfl,rfl⟩ (hs.put hd) ho'
end closures
section loopmore
variable {P : Program} {W : World} {Q : Exit → Act → World → Prop} {n : Nat} {D : List Deferred} {E : Env} {L : Hp}
theorem Goes.back{K:Act→World→Prop}{E' : Env}{L' : Hp}(h:Goes W K n D E' L')(hE:SubE E' E)[hL:Drop L L']:Goes W K n D E L:=Goes.less hE h
end loopmore
theorem and_mask(a k:Nat)(ha:a<2^64)(hk:k≤63):bitsI .and .u64 (a:Int) ((2^k-1:Nat):Int)=((a%2^k:Nat):Int):=by
  have h2:2^k-1<2^64:=by
    have:(2:Nat)^k≤2^63:=Nat.pow_le_pow_right (by omega) hk
    omega
  have e:(BitVec.ofInt 64 (a:Int) &&& BitVec.ofInt 64 ((2^k-1:Nat):Int)).toNat=a%2^k:=by
    rw[BitVec.ofInt_natCast,BitVec.ofInt_natCast,BitVec.toNat_and,BitVec.toNat_ofNat,BitVec.toNat_ofNat,Nat.mod_eq_of_lt ha,Nat.mod_eq_of_lt h2,Nat.and_two_pow_sub_one_eq_mod]
  have h3:a%2^k<18446744073709551616:=Nat.lt_of_le_of_lt (Nat.mod_le _ _) ha
  show IntKind.u64.wrap ((BitVec.ofInt 64 (a:Int) &&& BitVec.ofInt 64 ((2^k-1:Nat):Int)).toNat:Int)=_
  rw[e,u64 (by omega) (by omega)]
theorem fdiv_pow(a k:Nat):((a:Int)).fdiv (2^k)=((a/2^k:Nat):Int):=by
  rw[show ((2:Int)^k)=((2^k:Nat):Int) by norm_cast,Int.fdiv_eq_ediv_of_nonneg _ (Int.natCast_nonneg _)]
  norm_cast
theorem Pv.tru{P:Program}{n:Nat}{D:List Deferred}{E:Env}{L:Hp}{o:Oper}{p:Prop}[Decidable p](h:Pv P n D E L o (.bool (decide p)))(hp:p):Pv P n D E L o (.bool true):=by
  rw[decide_eq_true hp]at h;exact h
theorem Pv.fls{P:Program}{n:Nat}{D:List Deferred}{E:Env}{L:Hp}{o:Oper}{p:Prop}[Decidable p](h:Pv P n D E L o (.bool (decide p)))(hp:¬p):Pv P n D E L o (.bool false):=by
  rw[decide_eq_false hp]at h;exact h
def uI (x:Int):Nat:=(IntKind.u64.wrap x).toNat
theorem uI_eq(x:Int):IntKind.u64.wrap x=(uI x:Int):=by
  have:0≤IntKind.u64.wrap x:=by simp[IntKind.wrap,IntKind.signed,IntKind.bits];omega
  unfold uI;omega
theorem tmod_nat{a b:Nat}{j:Int}(h:j=(b:Int)):(a:Int).tmod j=((a%b:Nat):Int):=by
  subst h;rw[Int.tmod_eq_emod_of_nonneg (by omega)];norm_cast
theorem w64n{i:Int}{k:Nat}(h:i=k)(hk:k<2^63):IntKind.i64.wrap i=k:=by subst h;exact w64 (by omega) (by omega)
theorem u64n{i:Int}{k:Nat}(h:i=k)(hk:k<2^64):IntKind.u64.wrap i=k:=by subst h;exact u64 (by omega) (by omega)
theorem shln{a k:Nat}(hk:k≤64)(h:a*2^k<2^64):IntKind.u64.wrap ((a:Int)*2^(min (k:Int).toNat 64))=((a*2^k:Nat):Int):=by
  refine u64n ?_ h;rw[show min (k:Int).toNat 64=k by omega];norm_cast
theorem shl1{k:Nat}(hk:k<64):IntKind.u64.wrap (1*2^(min (k:Int).toNat 64))=((2^k:Nat):Int):=by
  have:=@shln 1 k (by omega) (by rw[Nat.one_mul];exact Nat.pow_lt_pow_right (by omega) hk)
  simpa using this
attribute [irreducible] Ops Wp Ends Goes Ef AnyH Turn Tr Pv Res RVal
end Go.SL
namespace Go.SL
section
variable {P : Program} {W : World} {ops : Array Oper} {Q : Exit → Act → World → Prop} {n : Nat} {D : List Deferred} {S : Hp} {fuel : Nat} {listed : Array Bool} {E : Env} {L : Hp} {d : Nat} {op : Op} {ty : TypeId} {pos : String} {aft : Array Edge} {g : Option (Nat × Bool)} {v : Value} [q : PF Q]
theorem Tk(i:Nat)(hi:ops[i]?=some ⟨some d,op,ty,pos,aft,g⟩)(hg:Wanted ops E g true)[hS:HeldSub L S](hp:Pv P n D E S ⟨some d,op,ty,pos,aft,g⟩ v)(hd:Nat.blt d n=true)(hn:AnyH P W ops Q n D S fuel (listed.setIfInBounds i true) ((d,v)::E) L)
    (hsel:Region.noSelect ops=true:=by kernel_rfl) (hf:Region.free .any ops listed i=true:=by kernel_rfl) (hr:(Region.ready .any ops listed).contains i=true:=by kernel_rfl):AnyH P W ops Q n D S (fuel+1) listed E L:=AnyH.take i hi hsel hf hr q.pf hg hp hd hn
theorem Tn(i:Nat)(hi:ops[i]?=some ⟨none,op,ty,pos,aft,g⟩)(hg:Wanted ops E g true)[hS:HeldSub L S](hp:Pv P n D E S ⟨none,op,ty,pos,aft,g⟩ v)(hn:AnyH P W ops Q n D S fuel (listed.setIfInBounds i true) E L)
    (hsel:Region.noSelect ops=true:=by kernel_rfl) (hf:Region.free .any ops listed i=true:=by kernel_rfl) (hr:(Region.ready .any ops listed).contains i=true:=by kernel_rfl):AnyH P W ops Q n D S (fuel+1) listed E L:=AnyH.taken i hi hsel hf hr q.pf hg hp hn
theorem Ts(i:Nat)(hi:ops[i]?=some ⟨some d,op,ty,pos,aft,g⟩)(hg:Wanted ops E g false)[hS:HeldSub L S](hd:Nat.blt d n=true)(hn:AnyH P W ops Q n D S fuel (listed.setIfInBounds i true) ((d,undef)::E) L)
    (hsel:Region.noSelect ops=true:=by kernel_rfl) (hf:Region.free .any ops listed i=true:=by kernel_rfl) (hr:(Region.ready .any ops listed).contains i=true:=by kernel_rfl):AnyH P W ops Q n D S (fuel+1) listed E L:=AnyH.skip i hi hsel hf hr q.pf hg hd hn
end
section
variable {P : Program} {W : World} {ops : Array Oper} {Q : Exit → Act → World → Prop} {n : Nat} {D : List Deferred} {E : Env} {L : Hp} {rest : List Oper} {d : Nat} {op : Op} {ty : TypeId} {pos : String} {aft : Array Edge} {v : Value} {x : Operand}
theorem Om1(h:ev E x=some v)(hd:Nat.blt d n=true)(hn:Ops P W ops Q n D rest ((d,v)::E) L):Ops P W ops Q n D (⟨some d,.move x,ty,pos,aft,none⟩::rest) E L:=Ops.pv (pv_move h) hd hn
theorem Oa1(h:ev E x=some v)(hd:Nat.blt d n=true)(hn:Ops P W ops Q n D rest ((d,v)::E) L):Ops P W ops Q n D (⟨some d,.assign x,ty,pos,aft,none⟩::rest) E L:=Ops.pv (pv_assign h) hd hn
theorem Os1{j t:Nat}{b w:Bool}(h1:(ops[j]?).bind (·.dst)=some t)(h2:look t E=some (.bool b))(h3:(b == w)=false)(hd:Nat.blt d n=true)(hn:Ops P W ops Q n D rest ((d,undef)::E) L):Ops P W ops Q n D (⟨some d,op,ty,pos,aft,some (j,w)⟩::rest) E L:=Ops.skipg ⟨t,b,h1,h2,h3⟩ hd hn
theorem Of1{S:TypeId}{i off U k b:Nat}(hx:ev E x=some (.pointer (some ⟨b,0,none⟩)))[hf:TyFld P S i off U][hk:TyS P U k](h0:Nat.beq k 0=false)(hd:Nat.blt d n=true)(hn:Ops P W ops Q n D rest ((d,.pointer (some ⟨b,off,none⟩))::E) L):Ops P W ops Q n D (⟨some d,.fieldAddr S x i,ty,pos,aft,none⟩::rest) E L:=Ops.pv (pv_fieldAddr0 hx h0) hd hn
theorem Ol1{T:TypeId}{dsc:TypeDesc}{b off:Nat}{c:List Value}{T' : TypeId}{f:Nat×Nat}(hx:ev E x=some (.pointer (some ⟨b,off,none⟩)))[ht:TyD P T dsc](h2:aggD dsc=false)[hb:Blk L b (.cells c.toArray T' f)](hc:nth c off=some v)(hd:Nat.blt d n=true)(hn:Ops P W ops Q n D rest ((d,v)::E) L):Ops P W ops Q n D (⟨some d,.load T x,ty,pos,aft,none⟩::rest) E L:=Ops.pv (pv_load hx h2 hc) hd hn
theorem On{y:Code}(h:Wp P W Q n D y E L):Ops P W ops (Exit.then (y.wp P Q) Q) n D [] E L:=Ops.nil (Ends.seq h)
theorem Wr{id:Nat}{l:List Oper}{y:Code}(h:Ops P W l.toArray (Exit.then (y.wp P Q) Q) n D l E L):Wp P W Q n D (.seq (.region id l.toArray false) y) E L:=Wp.seq (Wp.region h)
end
section
variable {P : Program} {W : World} {ops : Array Oper} {Q : Exit → Act → World → Prop} {n : Nat} {D : List Deferred} {S : Hp} {fuel : Nat} {listed : Array Bool} {E : Env} {L : Hp}
theorem YA(i:Nat)(h:Turn P W ops Q n D S fuel listed i E L)(hr:Region.ready .any ops listed=[i]:=by kernel_rfl):AnyH P W ops Q n D S (fuel+1) listed E L:=AnyH.one i hr h
theorem YB(i k:Nat)(h:Turn P W ops Q n D S fuel listed i E L)(h' : Turn P W ops Q n D S fuel listed k E L)(hr:Region.ready .any ops listed=[i,k]:=by kernel_rfl):AnyH P W ops Q n D S (fuel+1) listed E L:=AnyH.two i k hr h h'
theorem YD(h:Ends W Q n D .normal E L)(hr:Region.ready .any ops listed=[]:=by kernel_rfl):AnyH P W ops Q n D S fuel listed E L:=AnyH.done hr h
end
theorem Y1{α:Type _}{a:α}{xs ys:List α}:(a::xs)++ys=a::(xs++ys):=rfl
theorem Y2{α:Type _}(xs:List α):[]++xs=xs:=rfl
theorem Y3{α:Type _}{xs ys:List α}:(xs++ys).length=xs.length+ys.length:=List.length_append
theorem Y4{α:Type _}{a:α}{xs:List α}:(a::xs).length=xs.length+1:=rfl
theorem Y5{α:Type _}:([]:List α).length=0:=rfl
theorem Y6{α:Type _}{i:Nat}{l:List α}:(l.drop i).length=l.length-i:=List.length_drop
theorem Y7{α:Type _}(xs ys zs:List α):(xs++ys)++zs=xs++(ys++zs):=List.append_assoc xs ys zs
theorem Y8{α:Type _}{l:List α}{i:Nat}(h:i<l.length):l[i]?=some l[i]:=List.getElem?_eq_getElem h
theorem Y9{α:Type _}{l:List α}{i:Nat}(h:i<l.length:=by omega):∃x,l[i]?=some x:=⟨_,List.getElem?_eq_getElem h⟩
theorem dwn{W:Type}{A B:W→Prop}(h:∀w,A w→B w:=by intro w ho;(try dsimp only[List.nil_append,List.cons_append]);exact Drop.own ho):∀w,A w→B w:=h
end Go.SL
end
section
namespace Go.SL
theorem reads_iff{c:List Value}{off:Nat}{vs:List Value}:Reads c off vs↔∀j v,vs[j]?=some v→c[off+j]?=some v:=by
  constructor
  · exact Reads.at_
  · revert off
    induction vs with
    | nil=>intro off _;trivial
    | cons v vs ih =>
      intro off h;refine ⟨by rw[nth_eq];exact h 0 v rfl,ih fun j u hu=>?_⟩;have:=h (j+1) u (by simpa using hu)
      rwa [show off+(j+1)=off+1+j by omega]at this
theorem reads_split{A x B:List Value}:Reads (A++x++B) A.length x:=by
  rw[reads_iff];intro j v hv;have hj:=(List.getElem?_eq_some_iff.1 hv).1
  rw[List.append_assoc,List.getElem?_append_right (by omega),show A.length+j-A.length=j by omega,List.getElem?_append_left hj,hv]
section pv
variable {P : Program} {n : Nat} {D : List Deferred} {E : Env} {L : Hp} {d : Option Tmp} {ty : TypeId} {pos : String} {aft : Array Edge} {g : Option (Nat × Bool)} {T : TypeId} {x y z : Operand} {v u : Value}
def evO (E:Env) (o:Option Operand) (d:Nat) (i:Nat):Prop :=
  match o with
  | none=>i=d
  | some o=>∃k,ev E o=some (.int k (i:Int))
theorem pv_slice{a:Option Addr}{m c i j e k:Nat}{lo hi:Option Operand}(hx:ev E x=some (.slice a m c))(hlo:evO E lo 0 i)(hhi:evO E hi m j)(h1:i≤j)(h2:j≤c)[ht:TyD P T (.slice e)][hk:TyS P e k] :
    Pv P n D E L ⟨d,.slice T x lo hi none,ty,pos,aft,g⟩ (.slice (if c=i then a else a.map (·.add (i*k))) (j-i) (c-i)):=by
  unfold Pv;intro A w hs _
  have g1:(Int.ofNat i).toNat=i:=rfl
  cases lo with
  | none =>
    obtain rfl:i=0:=hlo;cases hi with
    | none =>
      obtain rfl:j=m:=hhi;simp[execOp,hs.ev hx,Instr.sliceAt,Instr.slice,Instr.sliceBounds,TyD.run,TyS.run]
    | some o =>
      obtain ⟨kk,ho⟩:=hhi;have h3:(0:Int)≤(j:Int)∧(j:Int)≤(c:Int):=by omega
      simp[execOp,hs.ev hx,hs.ev ho,Instr.sliceAt,Instr.slice,Instr.sliceBounds,Instr.sliceBound,asIntOf,TyD.run,TyS.run,h3,h2]
  | some o =>
    obtain ⟨kk,ho⟩:=hlo;cases hi with
    | none =>
      obtain rfl:j=m:=hhi;simp[execOp,hs.ev hx,hs.ev ho,Instr.sliceAt,Instr.slice,Instr.sliceBounds,Instr.sliceBound,asIntOf,TyD.run,TyS.run,h1]
    | some o' =>
      obtain ⟨kk', ho'⟩:=hhi;simp[execOp,hs.ev hx,hs.ev ho,hs.ev ho', Instr.sliceAt,Instr.slice,Instr.sliceBounds,Instr.sliceBound,asIntOf,TyD.run,TyS.run,h1,h2]
theorem pv_sliceL{a:Option Addr}{m c i j e k r:Nat}{lo hi:Option Operand}(hx:ev E x=some (.slice a m c))(hlo:evO E lo 0 i)(hhi:evO E hi m j)(h1:i≤j)(h2:j≤c)(hr:j-i=r)[ht:TyD P T (.slice e)][hk:TyS P e k] :
    Pv P n D E L ⟨d,.slice T x lo hi none,ty,pos,aft,g⟩ (.slice (if c=i then a else a.map (·.add (i*k))) r (c-i)):=by
  subst hr;exact pv_slice hx hlo hhi h1 h2
theorem pv_sliceTo{a:Option Addr}{m c j e k:Nat}{hi:Option Operand}(hx:ev E x=some (.slice a m c))(hhi:evO E hi m j)(h2:j≤c)[ht:TyD P T (.slice e)][hk:TyS P e k] :
    Pv P n D E L ⟨d,.slice T x none hi none,ty,pos,aft,g⟩ (.slice a j c):=by
  have:=pv_slice (P:=P) (n:=n) (D:=D) (E:=E) (L:=L) (d:=d) (ty:=ty) (pos:=pos) (aft:=aft) (g:=g) (T:=T) (x:=x) (lo:=none) (hi:=hi) (i:=0) (j:=j) hx rfl hhi (Nat.zero_le _) h2
  have e1:(if c=0 then a else a.map (·.add (0*k)))=a:=by
    rw[Nat.zero_mul];split
    · rfl
    · cases a <;> rfl
  rw[e1,Nat.sub_zero,Nat.sub_zero]at this;exact this
theorem pv_eql_bool{b c:Bool}{yt:TypeId}(hx:ev E x=some (.bool b))(hy:ev E y=some (.bool c))[h:TyD P T .bool] :
    Pv P n D E L ⟨d,.binOp .eql T x y yt,ty,pos,aft,g⟩ (.bool (b == c)):=by
  unfold Pv;intro a w hs _
  have h1:(Op.equalIn 10000 T (.bool b) (.bool c)).run P w=.ok (b == c) w:=run_equalIn_bool' w 9999 T b c h.eq
  simp[execOp,hs.ev hx,hs.ev hy,eqGuard,binOp,Op.equal,Op.maxDepth,h1]
theorem pv_neq_bool{b c:Bool}{yt:TypeId}(hx:ev E x=some (.bool b))(hy:ev E y=some (.bool c))[h:TyD P T .bool] :
    Pv P n D E L ⟨d,.binOp .neq T x y yt,ty,pos,aft,g⟩ (.bool (!(b == c))):=by
  unfold Pv;intro a w hs _
  have h1:(Op.equalIn 10000 T (.bool b) (.bool c)).run P w=.ok (b == c) w:=run_equalIn_bool' w 9999 T b c h.eq
  simp[execOp,hs.ev hx,hs.ev hy,eqGuard,binOp,Op.equal,Op.maxDepth,h1]
theorem pv_cap_slice{e:TypeId}{ats:Array TypeId}{p:Option Addr}{m c:Nat}(hx:ev E x=some (.slice p m c))(h0:ats[0]?=some T)[hT:TyD P T (.slice e)] :
    Pv P n D E L ⟨d,.call { callee:=.builtin .cap,args:=#[x],argTypes:=ats },ty,pos,aft,g⟩ (.int .i64 c):=by
  unfold Pv;intro a w hs hh
  rw[BigFrame.execOp_builtin];simp only[BigFrame.builtin_cap,List.map_toArray,List.map_cons,List.map_nil,hs.ev hx,Builtin.cap_,h0,List.getElem?_toArray,List.getElem?_cons_zero,Sem.run_bind,TyD.run,Result.andThen_ok,Sem.run_pure,goInt]
theorem pv_eql_slcnil{e:TypeId}{p:Option Addr}{m c:Nat}{yt:TypeId}(hx:ev E x=some (.slice p m c))(hy:ev E y=some (.slice none 0 0))[h:TyD P T (.slice e)] :
    Pv P n D E L ⟨d,.binOp .eql T x y yt,ty,pos,aft,g⟩ (.bool p.isNone):=by
  unfold Pv;intro a w hs _
  have h1:(Op.equalIn 10000 T (.slice p m c) (.slice none 0 0)).run P w=.ok p.isNone w:=by
    exact Go.run_equalIn_slice_nil w 9999 T e p m c h.eq
  simp[execOp,hs.ev hx,hs.ev hy,eqGuard,binOp,Op.equal,Op.maxDepth,h1]
end pv
def View (G:Hp) (sz:Nat) (v:Value) (n:Nat) (cs:List Value):Prop :=
  cs.length=n*sz∧∃a c,v=.slice a n c∧n≤c∧(n=0∨∃b o,∃cc:List Value,∃T f,a=some ⟨b,o,none⟩∧(b,Obj.cells cc.toArray T f)∈G∧Reads cc o cs)
theorem View.mono{G G' : Hp}{sz:Nat}{v:Value}{n:Nat}{cs:List Value}(h:View G sz v n cs)(hg:∀p,p∈G→p∈G'):View G' sz v n cs:=by
  obtain ⟨h1,a,c,h2,h3,h4⟩:=h;refine ⟨h1,a,c,h2,h3,h4.imp id ?_⟩;rintro ⟨b,o,cc,T,f,e,hm,hr⟩;exact ⟨b,o,cc,T,f,e,hg _ hm,hr⟩
theorem Slc.view{T:TypeId}{sz:Nat}{v:Value}{n:Nat}{cs:List Value}{H:Hp}(h:Slc T sz v n cs H):View H sz v n cs:=by
  obtain ⟨hl,⟨rfl,rfl,rfl⟩ | ⟨b,pre,spare,cap,rfl,hc,_,rfl⟩⟩:=h
  · exact ⟨hl,none,0,rfl,Nat.le_refl _,.inl rfl⟩
  · exact ⟨hl,_,cap,rfl,hc,.inr ⟨b,pre.length,_,T,(0,0),rfl,List.mem_cons_self ..,reads_split⟩⟩
theorem Reads.sub{c:List Value}{off i l:Nat}{vs:List Value}(h:Reads c off vs):Reads c (off+i) ((vs.drop i).take l):=by
  rw[reads_iff]at h ⊢;intro j v hv;rw[List.getElem?_take]at hv
  split at hv
  · rw[List.getElem?_drop]at hv
    rw[show off+i+j=off+(i+j) by omega];exact h _ v hv
  · cases hv
theorem View.open{G:Hp}{sz:Nat}{v:Value}{n:Nat}{cs:List Value}(h:View G sz v n cs)(hn:0<n) :
    ∃b o cap,∃cc:List Value,∃T f,v=.slice (some ⟨b,o,none⟩) n cap∧Blk G b (.cells cc.toArray T f)∧Reads cc o cs:=by
  obtain ⟨h1,a,c,h2,h3,h4⟩:=h
  rcases h4 with h4 | ⟨b,o,cc,T,f,rfl,hm,hr⟩
  · omega
  · exact ⟨b,o,c,cc,T,f,h2,⟨hm⟩,hr⟩
theorem View.slice{G:Hp}{sz:Nat}{a:Option Addr}{n c:Nat}{cs:List Value}(h:View G sz (.slice a n c) n cs){i j:Nat}(h1:i≤j)(h2:j≤n) :
    View G sz (.slice (if c=i then a else a.map (·.add (i*sz))) (j-i) (c-i)) (j-i) ((cs.drop (i*sz)).take ((j-i)*sz)):=by
  obtain ⟨hl,a', c', e,h3,h4⟩:=h;cases e;refine ⟨?_,_,_,rfl,by omega,?_⟩
  · rw[List.length_take,List.length_drop,hl,←Nat.sub_mul]
    exact Nat.min_eq_left (Nat.mul_le_mul_right _ (by omega))
  · by_cases hz:j-i=0
    · exact .inl hz
    · right
      rcases h4 with h4 | ⟨b,o,cc,T,f,rfl,hm,hr⟩
      · omega
      · refine ⟨b,o+i*sz,cc,T,f,?_,hm,hr.sub⟩
        rw[if_neg (by omega)];unfold Addr.add
        by_cases hi:i*sz=0
        · simp[hi]
        · simp[hi]
theorem run_append_none{P:Program}(w:World)(t ty e:TypeId)(sz:Nat)[ht:TyD P t (.slice e)][hk:TyS P e sz](base:Option Addr)(m cap:Nat)(hm:m≤cap)(a:Option Addr)(c:Nat) :
    (Builtin.append_ #[t,t] ty #[.slice base m cap,.slice a 0 c]).run P w=.ok (.slice base m cap) w:=by
  cases base <;> cases a <;> simp[Builtin.append_,TyD.run,TyS.run,Builtin.lenOf,hm,Builtin.firstCells,loadCells,loadCellsFrom,storeCells]
theorem run_append_make{P:Program}(w:World)(t u ty e:TypeId)(i:TypeInfo)(z:Value)(ht:P.underlying t=some (.slice e))(hu:P.underlying u=some (.int .i64))(hi:P.info? e=some i)(hz:i.zero=some z)
    (n:Nat) (h0:0<n) (h63:(n:Int)≤9223372036854775807) (h48:n*i.bytes≤281474976710656) (hs0:0<i.size) :
    (Builtin.append_ #[t,u] ty #[.slice none 0 0,.int .i64 n]).run P w =
      .ok (.slice (some ⟨w.heap.size,0,none⟩) n (grownCap w n 0 e)) (w.drew.alloc (.cells (Builtin.zeroCells z.cells n++Builtin.zeroCells z.cells (grownCap w n 0 e-n)) e)):=by
  have hn:n≠0:=by omega
  have h63' : ¬(9223372036854775807<(n:Int)):=by omega
  have h48' : ¬(281474976710656<Builtin.nextslicecap n 0*i.bytes):=by rw[nextslicecap_zero h0];omega
  have hw:IntKind.i64.wrap (n:Int)=n:=w64 (by omega) (by omega)
  have h48'' : ¬((281474976710656:Int)<(n:Int)*(i.bytes:Int)):=by
    have:((n*i.bytes:Nat):Int)≤281474976710656:=by omega
    rw[Int.natCast_mul]at this;omega
  have hneg:¬((n:Int)<0):=by omega
  have hs0' : i.size≠0:=by omega
  have hn2:n*i.size≠0:=Nat.mul_ne_zero hn hs0'
  simp[Builtin.append_,run_underlying ht,run_underlying hu,sizeOf,typeInfo,zeroValue,hi,hz,Builtin.lenOf,asInt,asIntOf,hw,hneg,h48'', hn,h63', h48', hs0', hn2,Question.forced,run_firstCells_none,newRow,grownCap]
section app
variable {P : Program} {W : World} {n : Nat} {D : List Deferred} {E : Env} {L : Hp} {ty : TypeId} {pos : String} {aft : Array Edge} {g : Option (Nat × Bool)} {T : TypeId} {x y z : Operand} {v u : Value}
theorem Slc.cap{T:TypeId}{sz:Nat}{v:Value}{n:Nat}{cs:List Value}{H:Hp}(h:Slc T sz v n cs H):∃a c,v=.slice a n c∧n≤c:=by
  rcases h.2 with ⟨rfl,rfl,_⟩ | ⟨b,pre,spare,cap,rfl,hc,_⟩
  · exact ⟨none,0,rfl,Nat.le_refl _⟩
  · exact ⟨_,cap,rfl,hc⟩
theorem ef_appendV{d:Nat}{t e sz bytes:Nat}{zv:Value}{m k:Nat}{cs xs:List Value}{H R:Hp}(hx:ev E x=some v)(hs' : Slc e sz v m cs H)(hy:ev E y=some u)(hv:View L sz u k xs)
    (h1:xs.all Value.oneCell' = true) (hbd:(m+k)*bytes≤140737488355328) (hmk:m+k≤9223372036854775807) (hd:Nat.blt d n=true)
    [ht:TyD P t (.slice e)] [hsz:TyS P e sz] [hby:TyB P e bytes] [hz:TyZ P e zv] (hzs:zv.cells.size=sz) [hp:Part L H R] :
    Ef P W n D ⟨some d,.call { callee:=.builtin .append,args:=#[x,y],argTypes:=#[t,t] },ty,pos,aft,g⟩ E L
      (fun E' L' => ∃v' H', Slc e sz v' (m+k) (cs++xs) H' ∧ E' = (d,v')::E∧L' = H' ++ R):=by
  obtain ⟨hl,a,c,rfl,hkc,h4⟩:=hv
  rcases h4 with rfl | ⟨b,o,cc,T,f,rfl,hm,hr⟩
  · obtain rfl:xs=[]:=List.eq_nil_of_length_eq_zero (by omega)
    unfold Ef;intro Q A w next hs ho hn;obtain ⟨base,cap,rfl,hmc⟩:=hs'.cap;have hr:=run_append_none (P:=P) w t ty e sz base m cap hmc a c
    unfold Oper.wp;rw[BigFrame.execOp_builtin];simp only[BigFrame.builtin_append,List.map_toArray,List.map_cons,List.map_nil,hs.ev hx,hs.ev hy,Sem.run_bind,hr,Result.andThen_ok,Sem.run_pure];exact hn _ _ _ _ ⟨.slice base m cap,H,by simpa using hs', rfl,rfl⟩ (hs.put hd) (ho.part hp)
  · by_cases hk:k=0
    · subst hk
      obtain rfl:xs=[]:=List.eq_nil_of_length_eq_zero (by omega);unfold Ef;intro Q A w next hs ho hn;obtain ⟨base,cap,rfl,hmc⟩:=hs'.cap;have hr:=run_append_none (P:=P) w t ty e sz base m cap hmc (some ⟨b,o,none⟩) c
      unfold Oper.wp;rw[BigFrame.execOp_builtin];simp only[BigFrame.builtin_append,List.map_toArray,List.map_cons,List.map_nil,hs.ev hx,hs.ev hy,Sem.run_bind,hr,Result.andThen_ok,Sem.run_pure];exact hn _ _ _ _ ⟨.slice base m cap,H,by simpa using hs', rfl,rfl⟩ (hs.put hd) (ho.part hp)
    · have hb:Blk L b (.cells cc.toArray T f):=⟨hm⟩
      exact ef_append hx hs' hy hr hl h1 (Nat.ble_eq_true_of_le (by omega)) hbd hmk hd hzs
theorem ef_appendZ{d:Nat}{t tu e sz bytes:Nat}{zv:Value}{k:Nat}(hx:ev E x=some (.slice none 0 0))(hy:ev E y=some (.int .i64 (k:Int)))(hk0:0<k)(hbd:k*bytes≤140737488355328)(hmk:k≤9223372036854775807)(hd:Nat.blt d n=true)
    [ht:TyD P t (.slice e)] [hu:TyD P tu (.int .i64)] [hsz:TyS P e sz] [hby:TyB P e bytes] [hz:TyZ P e zv] (hzs:zv.cells.size=sz) (hs0:0<sz) :
    Ef P W n D ⟨some d,.call { callee:=.builtin .append,args:=#[x,y],argTypes:=#[t,tu] },ty,pos,aft,g⟩ E L
      (fun E' L' => ∃b c cs,cs.length=c*sz∧k≤c∧E' = (d,.slice (some ⟨b,0,none⟩) k c)::E∧L' = (b,.cells (cs:List Value).toArray e)::L):=by
  unfold Ef;intro Q A w next hs ho hn;obtain ⟨i,hi,hzi⟩:=Option.bind_eq_some_iff.1 hz.eq;have hisz:i.size=sz:=by have:=hsz.eq;rw[hi]at this;simpa using this
  have hiby:i.bytes=bytes:=by have:=hby.eq;rw[hi]at this;simpa using this
  have hr:=run_append_make (P:=P) w t tu ty e i zv ht.eq hu.eq hi hzi k hk0 (by omega) (by rw[hiby];omega) (by omega)
  unfold Oper.wp;rw[BigFrame.execOp_builtin];simp only[BigFrame.builtin_append,List.map_toArray,List.map_cons,List.map_nil,hs.ev hx,hs.ev hy,Sem.run_bind,hr,Result.andThen_ok,Sem.run_pure];have hg:=grownCap_ge w k 0 e
  refine hn _ _ _ _ ⟨w.heap.size,grownCap w k 0 e,(Builtin.zeroCells zv.cells k++Builtin.zeroCells zv.cells (grownCap w k 0 e-k)).toList,?_,hg,rfl,rfl⟩ (hs.put hd) ?_
  · rw[Array.toList_append,List.length_append,zeroCells_len,zeroCells_len,hzs,←Nat.add_mul]
    congr 1;omega
  · have:=(ho.drew).alloc (.cells (Builtin.zeroCells zv.cells k++Builtin.zeroCells zv.cells (grownCap w k 0 e-k)) e)
    rw[Array.toArray_toList];exact this
end app
section turns
variable {P : Program} {W : World} {n : Nat} {D : List Deferred} {E : Env} {L : Hp} {ty : TypeId} {pos : String} {aft : Array Edge} {g : Option (Nat × Bool)} {T : TypeId} {x y z : Operand} {v u : Value}
theorem ef_pv{d:Nat}{op:Op}(h:Pv P n D E L ⟨some d,op,ty,pos,aft,g⟩ v)(hd:Nat.blt d n=true):Ef P W n D ⟨some d,op,ty,pos,aft,g⟩ E L (fun E' L' => E' = (d,v)::E∧L' = L):=by
  unfold Pv at h;unfold Ef;intro Q a w next hs ho hn;unfold Oper.wp;rw[h a w hs ho.held];exact hn _ _ _ _ ⟨rfl,rfl⟩ (hs.put hd) ho
theorem ef_buildSlice2{d:Nat}{e:Nat}{zv:Value}[ht:TyD P T (.slice e)][hk:TyS P e 1][hz:TyZ P e zv](hzs:zv.cells.size=1)(hx:ev E x=some v)(hy:ev E y=some u)(hv:v.cells=#[v])(hu:u.cells=#[u])(hd:Nat.blt d n=true) :
    Ef P W n D ⟨some d,.buildSlice T 2 #[(0,x),(1,y)],ty,pos,aft,g⟩ E L (fun E' L' => ∃b,E' = (d,.slice (some ⟨b,0,none⟩) 2 2)::E∧L' = (b,.cells ([v,u]:List Value).toArray e)::L):=by
  unfold Ef;intro Q a w next hs ho hn;unfold Oper.wp;have:(execOp a.eval ⟨some d,.buildSlice T 2 #[(0,x),(1,y)],ty,pos,aft,g⟩).run P w=.ok (.value (.slice (some ⟨w.heap.size,0,none⟩) 2 2)) (w.alloc (.cells ([v,u]:List Value).toArray e)):=by
    have hfo:Instr.fill (fun i=>some (i*1,1)) ((Array.range (2*1)).map (fun i=>zv.cells[i%zv.cells.size]!)) [(0,v),(1,u)]=some #[v,u]:=by
      obtain ⟨p,q,hpq⟩:∃p q,(Array.range (2*1)).map (fun i=>zv.cells[i%zv.cells.size]!)=#[p,q]:=⟨zv.cells[0%zv.cells.size]!,zv.cells[1%zv.cells.size]!,by apply Array.ext';simp[Array.range]⟩;rw[hpq];simp[Instr.fill,hv,hu]
    have hb:¬(2*1>2^24):=by omega
    have hb0:¬(2*1=0):=by omega
    simp only[execOp,Instr.buildSlice,Sem.run_bind,TyD.run,TyS.run,Result.andThen_ok,Sem.run_ite,if_neg hb,if_neg hb0,TyZ.run,Sem.run_pure,List.map_toArray,List.map_cons,List.map_nil,hs.ev hx,hs.ev hy,hfo,newRow,run_newObj]
    rfl
  rw[this];exact hn _ _ _ _ ⟨_,rfl,rfl⟩ (hs.put hd) (ho.alloc _)
end turns
theorem Slc.one{T:TypeId}{sz:Nat}{v:Value}{n:Nat}{cs:List Value}{H:Hp}(h:Slc T sz v n cs H):v.oneCell' = true:=by
  obtain ⟨a,c,rfl⟩:=h.form;rfl
theorem Slc.cells1{T:TypeId}{sz:Nat}{v:Value}{n:Nat}{cs:List Value}{H:Hp}(h:Slc T sz v n cs H):v.cells=#[v]:=by
  obtain ⟨a,c,rfl⟩:=h.form;rfl
instance (priority:=700) SegIn.appL {S T L:Hp} [h:SegIn T S]:SegIn (T++L) S:=⟨fun p hp=>List.mem_append_left _ (h.sub p hp)⟩
theorem Pv.is{P:Program}{n:Nat}{D:List Deferred}{E:Env}{L:Hp}{o:Oper}{v u:Value}(h:Pv P n D E L o v)(e:v=u):Pv P n D E L o u:=e ▸ h
end Go.SL
end
section
namespace Go.SL
theorem SubE.app:∀{A B E:Env},SubE A E→SubE B E→SubE (A++B) E
  | [],_,_,_,h=>h
  | (_,_)::_,_,_,h,k=>⟨h.1,SubE.app h.2 k⟩
instance (priority:=1300) TakeS.nil {L:Hp}:TakeS L [] L:=⟨List.Perm.refl _⟩
section loop
variable {P : Program} {W : World} {Q : Exit → Act → World → Prop} {n : Nat} {D : List Deferred} {E : Env} {L : Hp}
theorem Wp.loopK{σ:Type}{c:Code}(K:Env)(V:σ→Env)(LI:σ→Hp)(I:σ→Prop)(μ:σ→Nat)(x0:σ)(hI:I x0)(hK:SubE K E)(hE:SubE (V x0) E)(hL:∀w,Own W w L→Own W w (LI x0))
    (round:∀(x:σ) (G:Act→World→Prop),I x→(∀y,I y→μ y<μ x→Goes W G n D (V y++K) (LI y))→Wp P W (Exit.then G Q) n D c (V x++K) (LI x)) :
    Wp P W Q n D (.loop c) E L:=Wp.loop (fun x=>V x++K) LI I μ x0 hI (hE.app hK) hL round
end loop
def cv (p:Prop) [Decidable p] (v:Value):Value:=if p then v else undef
theorem cv_pos{p:Prop}[Decidable p]{v:Value}(h:p):cv p v=v:=if_pos h
section joins
variable {P : Program} {W : World} {ops : Array Oper} {Q : Exit → Act → World → Prop} {n : Nat} {D : List Deferred} {E : Env} {L : Hp} {rest : List Oper} {d : Nat} {op : Op} {ty : TypeId} {pos : String} {aft : Array Edge} {v : Value} {dd : Option Tmp} {g : Option (Nat × Bool)}
theorem Pv.setE{t:Nat}{u r:Value}{o:Oper}(hl:look t E=some u)(hu:u=v)(h:Pv P n D ((t,v)::E) L o r):Pv P n D E L o r:=by
  unfold Pv at h ⊢;intro a w hs hh;exact h a w (hs.set hl hu) hh
theorem Ops.pvc{j t:Nat}{p:Prop}[Decidable p](ht:(ops[j]?).bind (·.dst)=some t)(hl:look t E=some (.bool (decide p)))(hp:p→Pv P n D E L ⟨some d,op,ty,pos,aft,some (j,true)⟩ v)(hd:Nat.blt d n=true)
    (hn:Ops P W ops Q n D rest ((d,cv p v)::E) L):Ops P W ops Q n D (⟨some d,op,ty,pos,aft,some (j,true)⟩::rest) E L:=by
  by_cases h:p
  · have hl' : look t E=some (.bool true):=by rw[hl,decide_eq_true h]
    rw[cv_pos h]at hn;exact Ops.pvg ⟨t,true,ht,hl', rfl⟩ (hp h) hd hn
  · have hl' : look t E=some (.bool false):=by rw[hl,decide_eq_false h]
    rw[cv,if_neg h]at hn;exact Ops.skipg ⟨t,false,ht,hl', rfl⟩ hd hn
theorem Ops.pvcn{j t:Nat}{p:Prop}[Decidable p](ht:(ops[j]?).bind (·.dst)=some t)(hl:look t E=some (.bool (decide p)))(hp:¬p→Pv P n D E L ⟨some d,op,ty,pos,aft,some (j,false)⟩ v)(hd:Nat.blt d n=true)
    (hn:Ops P W ops Q n D rest ((d,cv (¬p) v)::E) L):Ops P W ops Q n D (⟨some d,op,ty,pos,aft,some (j,false)⟩::rest) E L:=by
  by_cases h:p
  · have hl' : look t E=some (.bool true):=by rw[hl,decide_eq_true h]
    rw[cv,if_neg (not_not_intro h)]at hn;exact Ops.skipg ⟨t,true,ht,hl', rfl⟩ hd hn
  · have hl' : look t E=some (.bool false):=by rw[hl,decide_eq_false h]
    rw[cv_pos h]at hn;exact Ops.pvg ⟨t,false,ht,hl', rfl⟩ (hp h) hd hn
theorem AnyH.takec{S:Hp}{fuel:Nat}{listed:Array Bool}{j t:Nat}{p:Prop}[Decidable p](i:Nat)(hi:ops[i]?=some ⟨some d,op,ty,pos,aft,some (j,true)⟩)(hsel:Region.noSelect ops=true)(hf:Region.free .any ops listed i=true)(hr:(Region.ready .any ops listed).contains i=true)
    (hQ:PanicsFree Q) (ht:(ops[j]?).bind (·.dst)=some t) (hl:look t E=some (.bool (decide p))) [hS:HeldSub L S] (hp:p→Pv P n D E S ⟨some d,op,ty,pos,aft,some (j,true)⟩ v) (hd:Nat.blt d n=true)
    (hn:AnyH P W ops Q n D S fuel (listed.setIfInBounds i true) ((d,cv p v)::E) L):AnyH P W ops Q n D S (fuel+1) listed E L:=by
  by_cases h:p
  · have hl' : look t E=some (.bool true):=by rw[hl,decide_eq_true h]
    rw[cv_pos h]at hn;exact AnyH.take i hi hsel hf hr hQ ⟨t,true,ht,hl', rfl⟩ (hp h) hd hn
  · have hl' : look t E=some (.bool false):=by rw[hl,decide_eq_false h]
    rw[cv,if_neg h]at hn;exact AnyH.skip i hi hsel hf hr hQ ⟨t,false,ht,hl', rfl⟩ hd hn
theorem pv_pick_and{x y:Operand}{p q:Prop}[Decidable p][Decidable q](hc:ev E x=some (.bool (decide p)))(hy:ev E y=some (cv p (.bool (decide q)))):Pv P n D E L ⟨dd,.pick x y (.const (.bool false)),ty,pos,aft,g⟩ (.bool (decide (p∧q))):=by
  by_cases h:p
  · rw[cv_pos h]at hy
    rw[decide_eq_true h]at hc;have e:decide (p∧q)=decide q:=by simp[h]
    rw[e];exact pv_pick_true hc hy
  · rw[decide_eq_false h]at hc
    have e:decide (p∧q)=false:=by simp[h]
    rw[e];exact pv_pick_false hc rfl
theorem pv_pick_or{x y:Operand}{p q:Prop}[Decidable p][Decidable q](hc:ev E x=some (.bool (decide p)))(hy:ev E y=some (cv (¬p) (.bool (decide q)))):Pv P n D E L ⟨dd,.pick x (.const (.bool true)) y,ty,pos,aft,g⟩ (.bool (decide (p∨q))):=by
  by_cases h:p
  · rw[decide_eq_true h]at hc
    have e:decide (p∨q)=true:=by simp[h]
    rw[e];exact pv_pick_true hc rfl
  · rw[cv_pos h]at hy
    rw[decide_eq_false h]at hc;have e:decide (p∨q)=decide q:=by simp[h]
    rw[e];exact pv_pick_false hc hy
end joins
def fset {α:Type} (f:Nat→α) (i:Nat) (a:α):Nat→α:=fun j=>if j=i then a else f j
theorem fset_same{α:Type}(f:Nat→α)(i:Nat)(a:α):fset f i a i=a:=if_pos rfl
theorem fset_ne{α:Type}{f:Nat→α}{i j:Nat}{a:α}(h:j≠i):fset f i a j=f j:=if_neg h
theorem fset_fset{α:Type}(f:Nat→α)(i:Nat)(a b:α):fset (fset f i a) i b=fset f i b:=by
  funext j; unfold fset; split <;> rfl
def segs (h:Nat→Hp) (n:Nat):Hp:=(List.range n).flatMap h
theorem segs_succ(h:Nat→Hp)(n:Nat):segs h (n+1)=segs h n++h n:=by
  unfold segs;rw[List.range_succ,List.flatMap_append];simp
theorem segs_congr{h k:Nat→Hp}:∀{n:Nat},(∀i,i<n→h i=k i)→segs h n=segs k n
  | 0,_=>rfl
  | n+1,e=>by rw[segs_succ,segs_succ,segs_congr (fun i hi=>e i (by omega)),e n (by omega)]
theorem segs_take{h:Nat→Hp}{i:Nat}:∀{n:Nat},i<n→(segs h n).Perm (h i++segs (fset h i []) n)
  | 0,hi=>by omega
  | n+1,hi=>by
    rw[segs_succ,segs_succ]
    by_cases e:i=n
    · subst e
      rw[fset_same,List.append_nil,segs_congr (h:=fset h i []) (k:=h) (fun j hj=>fset_ne (by omega))];exact List.perm_append_comm
    · have ih:=segs_take (h:=h) (i:=i) (n:=n) (by omega)
      rw[fset_ne (show n≠i by omega),←List.append_assoc];exact ih.append_right _
theorem segs_put{h:Nat→Hp}{i n:Nat}{H:Hp}(hi:i<n):(H++segs (fset h i []) n).Perm (segs (fset h i H) n):=by
  have:=segs_take (h:=fset h i H) hi
  rw[fset_same,fset_fset]at this;exact this.symm
theorem segs_mem{h:Nat→Hp}{i n:Nat}(hi:i<n){p:Nat×Obj}(hp:p∈h i):p∈segs h n :=
  (segs_take hi).mem_iff.2 (List.mem_append_left _ hp)
theorem segs_nil:∀n:Nat,segs (fun _=>[]) n=[]
  | 0=>rfl
  | n+1=>by rw[segs_succ,segs_nil n];rfl
section segops
variable {P : Program} {W : World} {ops : Array Oper} {Q : Exit → Act → World → Prop} {n : Nat} {D : List Deferred} {E : Env} {L R R1 R2 : Hp} {rest : List Oper} {h : Nat → Hp} {m k : Nat} {H : Hp}
theorem Own.openS{w:World}(hk:k<m)(t:TakeS L (segs h m) R)(o:Own W w L):Own W w (h k++(segs (fset h k []) m++R)) :=
  o.perm (t.perm.trans (by rw[←List.append_assoc];exact (segs_take hk).append_right R))
theorem Own.closeS{w:World}(hk:k<m)(t:TakeS L (segs (fset h k []) m) R1)(u:Part R1 H R2)(o:Own W w L):Own W w (segs (fset h k H) m++R2) :=
  o.perm (t.perm.trans ((List.Perm.append_left _ u.perm).trans (by
    rw[←List.append_assoc];exact (List.perm_append_comm.trans (segs_put hk)).append_right R2)))
theorem Ops.openS(h:Nat→Hp)(m k:Nat)(hk:k<m)[t:TakeS L (segs h m) R](hn:Ops P W ops Q n D rest E (h k++(segs (fset h k []) m++R))):Ops P W ops Q n D rest E L:=Ops.heap (fun w o=>o.openS hk t) hn
theorem Ops.closeS(h:Nat→Hp)(m k:Nat)(H:Hp)(hk:k<m)[t:TakeS L (segs (fset h k []) m) R1][u:Part R1 H R2](hn:Ops P W ops Q n D rest E (segs (fset h k H) m++R2)):Ops P W ops Q n D rest E L:=Ops.heap (fun w o=>o.closeS hk t u) hn
theorem Goes.closeS{Kk:Act→World→Prop}(h:Nat→Hp)(m k:Nat)(H:Hp)(hk:k<m)[t:TakeS L (segs (fset h k []) m) R1][u:Part R1 H R2](hn:Goes W Kk n D E (segs (fset h k H) m++R2)):Goes W Kk n D E L:=by
  unfold Goes at hn ⊢;exact fun a w hs ho=>hn a w hs (ho.closeS hk t u)
end segops
theorem Tr.post{P:Program}{f:FuncId}{args:List Value}{L:Hp}{R R' : Value→Hp→Prop}(h:Tr P f args L R)(hr:∀v L1,R v L1→∃L2,R' v L2∧L1.Perm L2):Tr P f args L R' := by
  unfold Tr at h ⊢;intro W w F ho;refine (h W w F ho).mono ?_;rintro e w' ⟨v,L1,he,hR,ho'⟩;obtain ⟨L2,h2,hp⟩:=hr v L1 hR;exact ⟨v,L2,he,h2,ho'.perm (hp.append_right F)⟩
theorem Tr.inSeg{P:Program}{f:FuncId}{args:List Value}{h:Nat→Hp}{m d:Nat}(hd:d<m){R:Value→Hp→Prop}(t:Tr P f args (h d) R):Tr P f args (segs h m) (fun v L' => ∃L1,R v L1∧L' = L1++segs (fset h d []) m) :=
  t.frame (segs_take hd)
theorem TrR.inSeg{P:Program}{f:FuncId}{args:List Value}{h:Nat→Hp}{m d:Nat}(hd:d<m){r:Value}(t:TrR P f args (h d) r):TrR P f args (segs h m) r :=
  haveI:Has (segs h m) (h d):=⟨_,segs_take hd⟩
  t.frame
theorem SetL.set1{l:List Value}{i:Nat}{v:Value}(h:i<l.length):SetL l i [v] (l.set i v) :=
  ⟨by simp,by simp;omega,fun j=>by
    rw[List.getElem?_set]
    by_cases e:i=j
    · subst e;simp[h]
    · rw[if_neg e,if_neg (by simp;omega)]⟩
class Enc {α:Type} (f:α→List Value) (k:outParam Nat):Prop where
  len:∀a,(f a).length=k
  one:∀a,(f a).all Value.oneCell' = true
def cel {α:Type} (f:α→List Value) (l:List α):List Value:=(l.map f).flatten
section cel
variable {α : Type} {f : α → List Value} {k : Nat}
theorem cel_cons(a:α)(l:List α):cel f (a::l)=f a++cel f l:=by simp[cel]
theorem cel_app(l m:List α):cel f (l++m)=cel f l++cel f m:=by simp[cel]
theorem cel_one1(a:α):cel f [a]=f a:=by simp[cel]
theorem cel_len[h:Enc f k](l:List α):(cel f l).length=l.length*k:=by
  induction l with
  | nil=>simp[cel]
  | cons a l ih=>rw[cel_cons,List.length_append,h.len,ih,List.length_cons,Nat.add_mul,Nat.one_mul,Nat.add_comm]
theorem cel_one[h:Enc f k](l:List α):(cel f l).all Value.oneCell' = true:=by
  induction l with
  | nil=>rfl
  | cons a l ih=>rw[cel_cons,List.all_append,h.one,ih];rfl
theorem cel_take[h:Enc f k]:∀(l:List α) (i:Nat),(cel f l).take (i*k)=cel f (l.take i)
  | [],i=>by simp[cel]
  | a::l,0=>by simp[cel]
  | a::l,i+1=>by
    rw[cel_cons,List.take_succ_cons,cel_cons,List.take_append,h.len,List.take_of_length_le (by rw[h.len,Nat.add_mul];omega)];rw[show (i+1)*k-k=i*k by rw[Nat.add_mul];omega,cel_take l i]
theorem cel_drop[h:Enc f k]:∀(l:List α) (i:Nat),(cel f l).drop (i*k)=cel f (l.drop i)
  | [],i=>by simp[cel]
  | a::l,0=>by simp[cel]
  | a::l,i+1=>by
    rw[cel_cons,List.drop_succ_cons,List.drop_append,h.len,List.drop_of_length_le (by rw[h.len,Nat.add_mul];omega)];rw[show (i+1)*k-k=i*k by rw[Nat.add_mul];omega,cel_drop l i,List.nil_append]
theorem cel_slice[h:Enc f k](l:List α)(i j:Nat):((cel f l).drop (i*k)).take (j*k)=cel f ((l.drop i).take j):=by rw[cel_drop,cel_take]
theorem cel_reads[h:Enc f k]{cc:List Value}{o i:Nat}{l:List α}{a:α}(hr:Reads cc o (cel f l))(hi:l[i]?=some a):Reads cc (o+i*k) (f a):=by
  have h1:=hr.sub (i:=i*k) (l:=1*k)
  rw[cel_slice]at h1;have hlt:=(List.getElem?_eq_some_iff.1 hi).1
  have e:(l.drop i).take 1=[a]:=by
    rw[List.drop_eq_getElem_cons hlt];simp[(List.getElem?_eq_some_iff.1 hi).2]
  rw[e,cel_one1]at h1;exact h1
end cel
theorem shrn{a k:Nat}(hk:k≤64):((a:Int)).fdiv (2^(min ((k:Int)).toNat 64))=((a/2^k:Nat):Int):=by
  rw[show min ((k:Int)).toNat 64=k by omega];exact fdiv_pow a k
theorem slc_empty'(T sz b:Nat):Slc T sz (.slice (some ⟨b,0,none⟩) 0 0) 0 [] [(b,.cells ([]:List Value).toArray T)]:=⟨by simp,.inr ⟨b,[],[],0,rfl,Nat.le_refl _,by simp,rfl⟩⟩
theorem view_nil'{G:Hp}{sz n c:Nat}{cs:List Value}(h:View G sz (.slice none n c) n cs):n=0∧cs=[]:=by
  obtain ⟨hl,a,c', e,_,h4⟩:=h;cases e
  rcases h4 with rfl | ⟨b,o,cc,T,f,e,_⟩
  · exact ⟨rfl,List.eq_nil_of_length_eq_zero (by omega)⟩
  · cases e
theorem fill_congr{f g:Nat→Option (Nat×Nat)}:∀{parts:List (Nat×Value)} {zs:Array Value},(∀p,p∈parts→f p.1=g p.1)→Instr.fill f zs parts=Instr.fill g zs parts
  | [],_,_=>by simp[Instr.fill]
  | (i,v)::parts,zs,h=>by
    have h0:=h (i,v) (List.mem_cons_self ..)
    dsimp only at h0;simp only[Instr.fill,h0];cases g i with
    | none=>rfl
    | some ab =>
      obtain ⟨a,b⟩:=ab;dsimp only
      split
      · rfl
      · exact fill_congr (fun p hp=>h p (List.mem_cons_of_mem _ hp))
section buildn
variable {P : Program} {W : World} {n : Nat} {D : List Deferred} {E : Env} {L : Hp} {ty : TypeId} {pos : String} {aft : Array Edge} {g : Option (Nat × Bool)} {T : TypeId}
theorem ef_buildSliceN{d:Nat}{e m k:Nat}{zv:Value}{parts:List (Nat×Operand)}{vs:List (Nat×Value)}{cs:List Value}(zs:List Value)(pl:List (Nat×Nat))[ht:TyD P T (.slice e)][hk:TyS P e k][hz:TyZ P e zv](hx:evps E parts=some vs)
    (hzs:(Array.range (m*k)).map (fun i=>zv.cells[i%zv.cells.size]!)=zs.toArray) (hpl:vs.all (fun p=>decide (pl[p.1]?=some (p.1*k,k)))=true) (h0:Nat.ble 1 (m*k)=true) (hb:Nat.ble (m*k) 16777216=true) (hd:Nat.blt d n=true) [hf:Fills pl zs vs cs] :
    Ef P W n D ⟨some d,.buildSlice T m parts.toArray,ty,pos,aft,g⟩ E L (fun E' L' => ∃b,E' = (d,.slice (some ⟨b,0,none⟩) m m)::E∧L' = (b,.cells cs.toArray e)::L):=by
  unfold Ef;intro Q a w next hs ho hn;have h1:1≤m*k:=Nat.le_of_ble_eq_true h0
  have h2:m*k≤16777216:=Nat.le_of_ble_eq_true hb
  have hfe:=hf.eq
  have hfc:Instr.fill (fun i=>some (i*k,k)) zs.toArray vs=some cs.toArray:=by
    rw[←hfe];refine fill_congr fun p hp=>?_
    have:=List.all_eq_true.1 hpl p hp
    simpa using (of_decide_eq_true this).symm
  have hm:(parts.toArray.map fun (i,x)=>(i,a.eval x))=vs.toArray:=by rw[List.map_toArray,hs.evps hx]
  unfold Oper.wp;have:(execOp a.eval ⟨some d,.buildSlice T m parts.toArray,ty,pos,aft,g⟩).run P w=.ok (.value (.slice (some ⟨w.heap.size,0,none⟩) m m)) (w.alloc (.cells cs.toArray e)):=by
    have hb' : ¬(m*k>2^24):=by omega
    have hb0:¬(m*k=0):=by omega
    simp only[execOp,Instr.buildSlice,Sem.run_bind,TyD.run,TyS.run,Result.andThen_ok,Sem.run_ite,if_neg hb', if_neg hb0,TyZ.run,Sem.run_pure];rw[show (Array.map (fun (x:Nat×Operand)=>(x.1,a.eval x.2)) parts.toArray)=vs.toArray from hm];simp only[hzs,hfc,newRow,run_newObj]
    rfl
  rw[this];exact hn _ _ _ _ ⟨_,rfl,rfl⟩ (hs.put hd) (ho.alloc _)
end buildn
theorem zeros_flat(zs:List Value):∀r:Nat,(List.range (r*zs.length)).map (fun i=>zs.toArray[i%zs.toArray.size]!)=(List.replicate r zs).flatten
  | 0=>by simp
  | r+1=>by
    rw[Nat.add_mul,Nat.one_mul,List.range_add,List.map_append,zeros_flat zs r,List.replicate_succ', List.flatten_append]
    congr 1
    simp only[List.map_map,List.flatten_cons,List.flatten_nil,List.append_nil];apply List.ext_getElem
    · simp
    · intro j h1 h2
      simp[Nat.mod_eq_of_lt h2,h2]
section makes
variable {P : Program} {W : World} {n : Nat} {D : List Deferred} {E : Env} {L : Hp} {ty : TypeId} {pos : String} {aft : Array Edge} {g : Option (Nat × Bool)} {T : TypeId} {x y : Operand}
theorem ef_makeSlice{d:Nat}{e k bytes r:Nat}{zv:Value}(zs:List Value)[ht:TyD P T (.slice e)][hk:TyS P e k][hby:TyB P e bytes][hz:TyZ P e zv](hx:ev E x=some (.int .i64 (r:Int)))(hy:ev E y=some (.int .i64 (r:Int)))
    (hzs:zv.cells=zs.toArray) (hzl:zs.length=k) (hk1:1≤k) (hr1:1≤r) (hr:r≤1048576) (hbd:bytes≤1024) (hd:Nat.blt d n=true) :
    Ef P W n D ⟨some d,.makeSlice T x y,ty,pos,aft,g⟩ E L (fun E' L' => ∃b,E' = (d,.slice (some ⟨b,0,none⟩) r r)::E∧L' = (b,.cells ((List.replicate r zs).flatten).toArray e)::L):=by
  unfold Ef;intro Q a w next hs ho hn;obtain ⟨i,hi,hzi⟩:=Option.bind_eq_some_iff.1 hz.eq;have hisz:i.size=k:=by have:=hk.eq;rw[hi]at this;simpa using this
  have hiby:i.bytes=bytes:=by have:=hby.eq;rw[hi]at this;simpa using this
  unfold Oper.wp;have hbr:r*bytes≤1048576*1024:=Nat.mul_le_mul hr hbd
  have hbr' : ((bytes*r:Nat):Int)≤1048576*1024:=by rw[Nat.mul_comm];omega
  have wr:IntKind.i64.wrap (r:Int)=r:=w64 (by omega) (by omega)
  have n1:¬((r:Int)<0):=by omega
  have n2:¬(281474976710656<(bytes:Int)*(r:Int)):=by rw[Int.natCast_mul]at hbr';omega
  have n5:¬(140737488355328<r*bytes):=by omega
  have hn0:¬(r*k=0):=by intro h0; rcases Nat.mul_eq_zero.1 h0 with h | h <;> omega
  have hrow:(Array.range (r*k)).map (fun i=>zv.cells[i%zv.cells.size]!)=((List.replicate r zs).flatten).toArray:=by
    rw[←zeros_flat zs r,hzs,hzl];apply Array.ext';simp
  have:(execOp a.eval ⟨some d,.makeSlice T x y,ty,pos,aft,g⟩).run P w=.ok (.value (.slice (some ⟨w.heap.size,0,none⟩) r r)) (w.alloc (.cells ((List.replicate r zs).flatten).toArray e)):=by
    simp[execOp,Instr.makeSlice,hs.ev hx,hs.ev hy,run_underlying ht.eq,asInt,asIntOf,typeInfo,hi,sizeOf,zeroValue,hzi,wr,n1,n2,n5,hn0,hisz,hiby,newRow,askRoom,roomBytes,hrow]
  rw[this];exact hn _ _ _ _ ⟨_,rfl,rfl⟩ (hs.put hd) (ho.alloc _)
end makes
instance (priority:=1250) Part.assoc {L A B T R:Hp} [h:Part L (A++(B++T)) R]:Part L ((A++B)++T) R:=⟨by have:=h.perm;rwa [←List.append_assoc A B T]at this⟩
theorem Wp.cutK{P:Program}{W:World}{Q:Exit→Act→World→Prop}{n:Nat}{D:List Deferred}{E:Env}{L:Hp}{x y:Code}{σ:Type}(KE:Env)(VE:σ→Env)(H:σ→Hp)(I:σ→Prop)(hK:SubE KE E)
    (hx:SubE KE E→∀KK:Act→World→Prop,(∀s,I s→Goes W KK n D (VE s++KE) (H s))→Wp P W (Exit.then KK Q) n D x E L) (hy:∀s,I s→Wp P W Q n D y (VE s++KE) (H s)):Wp P W Q n D (.seq x y) E L:=by
  refine Wp.seq (hx hK (fun a w=>y.wp P Q a w) fun s hs=>?_);have h:=hy s hs
  unfold Wp at h;unfold Goes;exact h
section
variable {P : Program} {W : World} {Q : Exit → Act → World → Prop} {n : Nat} {D : List Deferred} {E : Env} {L : Hp} {x y : Code}
theorem Goes.same{K:Act→World→Prop}{E' : Env}(h:Goes W K n D E' L)(hE:SubE E' E):Goes W K n D E L:=by
  unfold Goes at h ⊢;exact fun a w hs ho=>h a w (hs.sub hE) ho
theorem Wp.cutB1(KE:Env)(VE:Nat→Env)(H:Nat→Hp)(hK:SubE KE E)(hx:∀KK:Act→World→Prop,(∀a,Goes W KK n D (VE a++KE) (H a))→Wp P W (Exit.then KK Q) n D x E L)(hy:∀a,Wp P W Q n D y (VE a++KE) (H a)):Wp P W Q n D (.seq x y) E L :=
  Wp.cutK (σ:=Nat) KE VE H (fun _=>True) hK (fun _ KK h=>hx KK fun a=>h a trivial) (fun a _=>hy a)
end
theorem wanted_undef{ops:Array Oper}{n:Nat}{D:List Deferred}{E:Env}{a:Act}{o:Oper}{j t:Nat}{w:Bool}(hg:o.guard=some (j,w))(h1:(ops[j]?).bind (·.dst)=some t)(h2:look t E=some undef)(hs:Sees n D E a):Region.wanted o (yielded ops a.tmps)=false:=by
  unfold Region.wanted;rw[hg];have:yielded ops a.tmps j=none:=by
    unfold yielded;rw[h1];simp[hs.get t _ h2,undef]
  simp only[this]
  rfl
theorem Ops.skipu{P:Program}{W:World}{ops:Array Oper}{Q:Exit→Act→World→Prop}{n:Nat}{D:List Deferred}{E:Env}{L:Hp}{rest:List Oper}{d:Nat}{op:Op}{ty:TypeId}{pos:String}{aft:Array Edge}{j t:Nat}{w:Bool}
    (h1:(ops[j]?).bind (·.dst)=some t) (h2:look t E=some undef) (hd:Nat.blt d n=true) (hn:Ops P W ops Q n D rest ((d,undef)::E) L):Ops P W ops Q n D (⟨some d,op,ty,pos,aft,some (j,w)⟩::rest) E L:=by
  unfold Ops at hn ⊢;intro a x hs ho;refine wpList_step fun K' hK' => ?_
  rw[if_neg (by rw[wanted_undef (o:=⟨some d,op,ty,pos,aft,some (j,w)⟩) rfl h1 h2 hs];simp)];exact hK' _ _ (hn _ _ (hs.put hd) ho)
end Go.SL
namespace Go.SL
theorem Yf {P : Program} {f : FuncId} {fn : Func} (h : P.funcs[f]? = some fn) (h1 : (fn.name == "runtime.NumGoroutine") = false := by kernel_rfl) (h2 : fn.body.isNone = false := by kernel_rfl) : GoFn P f := ⟨fn, h, h1, h2⟩
theorem YR{P:Program}{f:FuncId}{fn:Func}{c:Code}{n:Nat}{args:List Value}{L:Hp}{R:Value→Hp→Prop}{A:Hp→Hp}(hf:P.funcs[f]?=some fn)(hn:fn.ntmps=n)[hA:∀F,App L F (A F)](h:∀W F,Wp P W (bodyPost P fn (TrPost R W F)) n [] c (argsEnv 0 args) (A F))(hb:fn.body=some c:=by rfl)(hle:Nat.ble args.length n=true:=by rfl):Tr P f args L R:=Tr.enter hf hb hn hle (fun W F=>by rw[(hA F).eq];exact h W F)
theorem Yr{P:Program}{f:FuncId}{fn:Func}{c:Code}{n:Nat}{args:List Value}{L:Hp}{R:Value→Hp→Prop}(hf:P.funcs[f]?=some fn)(hn:fn.ntmps=n)(h:∀W F,Wp P W (bodyPost P fn (TrPost R W F)) n [] c (argsEnv 0 args) (L++F))(hb:fn.body=some c:=by rfl)(hle:Nat.ble args.length n=true:=by rfl):Tr P f args L R:=Tr.enter hf hb hn hle h
section
variable {P : Program} {W : World} {ops : Array Oper} {Q : Exit → Act → World → Prop} {n : Nat} {D : List Deferred} {E : Env} {L : Hp} {rest : List Oper} {d : Nat} {op : Op} {ty : TypeId} {pos : String} {aft : Array Edge} {g : Option (Nat × Bool)} {v : Value} {T : TypeId} {x y : Operand}
theorem Ys(t:Nat){p:Prop}[Decidable p]{v r:Value}{o:Oper}(hl:look t E=some (cv p v))(hg:p)(h:Pv P n D ((t,v)::E) L o r):Pv P n D E L o r:=Pv.setE hl (cv_pos hg) h
theorem Yn{j t:Nat}{p:Prop}[Decidable p](ht:(ops[j]?).bind (·.dst)=some t)(hl:look t E=some (.bool (decide p)))(hp:¬p→Pv P n D E L ⟨some d,op,ty,pos,aft,some (j,false)⟩ v)
    (hn:Ops P W ops Q n D rest ((d,cv (¬p) v)::E) L) (hd:Nat.blt d n=true:=by rfl):Ops P W ops Q n D (⟨some d,op,ty,pos,aft,some (j,false)⟩::rest) E L:=Ops.pvcn ht hl hp hd hn
theorem Yc{j t:Nat}{p:Prop}[Decidable p](ht:(ops[j]?).bind (·.dst)=some t)(hl:look t E=some (.bool (decide p)))(hp:p→Pv P n D E L ⟨some d,op,ty,pos,aft,some (j,true)⟩ v)
    (hn:Ops P W ops Q n D rest ((d,cv p v)::E) L) (hd:Nat.blt d n=true:=by rfl):Ops P W ops Q n D (⟨some d,op,ty,pos,aft,some (j,true)⟩::rest) E L:=Ops.pvc ht hl hp hd hn
theorem Yp(hp:Pv P n D E L ⟨some d,op,ty,pos,aft,none⟩ v)(hn:Ops P W ops Q n D rest ((d,v)::E) L)(hd:Nat.blt d n=true:=by rfl):Ops P W ops Q n D (⟨some d,op,ty,pos,aft,none⟩::rest) E L:=Ops.pv hp hd hn
theorem Yg(hp:Pv P n D E L ⟨some d,op,ty,pos,aft,g⟩ v)(hn:Ops P W ops Q n D rest ((d,v)::E) L)(hg:Wanted ops E g true:=by exact ⟨_,_,rfl,rfl,rfl⟩)(hd:Nat.blt d n=true:=by rfl):Ops P W ops Q n D (⟨some d,op,ty,pos,aft,g⟩::rest) E L:=Ops.pvg hg hp hd hn
theorem Ya{i j:Int}{xt yt:TypeId}(hx:ev E x=some (.int .i64 i))(hy:ev E y=some (.int .i64 j))(k:Nat)(hn:Ops P W ops Q n D rest ((d,.int .i64 k)::E) L)(h:i+j=k:=by omega)(hk:k<2^63:=by omega)(hd:Nat.blt d n=true:=by rfl):Ops P W ops Q n D (⟨some d,.binOp .add xt x y yt,ty,pos,aft,none⟩::rest) E L:=Ops.pv (pv_add hx hy (w64n h hk)) hd hn
theorem Yb{i j:Int}{xt yt:TypeId}(hx:ev E x=some (.int .i64 i))(hy:ev E y=some (.int .i64 j))(k:Nat)(hn:Ops P W ops Q n D rest ((d,.int .i64 k)::E) L)(h:i-j=k:=by omega)(hk:k<2^63:=by omega)(hd:Nat.blt d n=true:=by rfl):Ops P W ops Q n D (⟨some d,.binOp .sub xt x y yt,ty,pos,aft,none⟩::rest) E L:=Ops.pv (pv_sub hx hy (w64n h hk)) hd hn
theorem Yo{o:Oper}{E1:Env}{L1:Hp}(h:Ef P W n D o E L (fun E' L' => E' = E1∧L' = L1))(hn:Ops P W ops Q n D rest E1 L1)(hg:o.guard=none:=by rfl):Ops P W ops Q n D (o::rest) E L:=Ops.ef hg h (by rintro _ _ ⟨rfl,rfl⟩;exact hn)
theorem Yq{o:Oper}{E1:Nat→Env}{L1:Nat→Hp}(h:Ef P W n D o E L (fun E' L' => ∃b,E' = E1 b∧L' = L1 b))(hn:∀b,Ops P W ops Q n D rest (E1 b) (L1 b))(hg:o.guard=none:=by rfl):Ops P W ops Q n D (o::rest) E L:=Ops.ef hg h (by rintro _ _ ⟨b,rfl,rfl⟩;exact hn b)
theorem Yog{o:Oper}{E1:Env}{L1:Hp}(h:Ef P W n D o E L (fun E' L' => E' = E1∧L' = L1))(hn:Ops P W ops Q n D rest E1 L1)(hg:Wanted ops E o.guard true:=by exact ⟨_,_,rfl,rfl,rfl⟩):Ops P W ops Q n D (o::rest) E L:=Ops.efg hg h (by rintro _ _ ⟨rfl,rfl⟩;exact hn)
theorem Yqg{o:Oper}{E1:Nat→Env}{L1:Nat→Hp}(h:Ef P W n D o E L (fun E' L' => ∃b,E' = E1 b∧L' = L1 b))(hn:∀b,Ops P W ops Q n D rest (E1 b) (L1 b))(hg:Wanted ops E o.guard true:=by exact ⟨_,_,rfl,rfl,rfl⟩):Ops P W ops Q n D (o::rest) E L:=Ops.efg hg h (by rintro _ _ ⟨b,rfl,rfl⟩;exact hn b)
theorem Yi{e k b o m c:Nat}{kk:IntKind}{j:Int}(hx:ev E x=some (.slice (some ⟨b,o,none⟩) m c))(hy:ev E y=some (.int kk j))[ht:TyD P T (.slice e)][hk:TyS P e k](i:Nat)(hj:j=i)(hn:Ops P W ops Q n D rest ((d,.pointer (some ⟨b,o+i*k,none⟩))::E) L)(hi:i<m:=by omega)(hd:Nat.blt d n=true:=by rfl):Ops P W ops Q n D (⟨some d,.indexAddr T x y,ty,pos,aft,none⟩::rest) E L:=Ops.pv (pv_indexAddr hx hy hj hi) hd hn
end
section
variable {P : Program} {W : World} {Q : Exit → Act → World → Prop} {n : Nat} {D : List Deferred} {E : Env} {L : Hp}
theorem Yy{K:Act→World→Prop}{E' : Env}{L' : Hp}(h:Goes W K n D E' L')[hL:Drop L L'](hE:SubE E' E:=by repeat (first | exact trivial | refine ⟨rfl,?_⟩)):Goes W K n D E L:=Goes.back h hE
theorem YL{σ:Type}{c:Code}(K:Env)(V:σ→Env)(I:σ→Prop)(μ:σ→Nat)(x0:σ)(hI:I x0)(round:∀(x:σ) (G:Act→World→Prop),I x→(∀y,I y→μ y<μ x→Goes W G n D (V y++K) L)→Wp P W (Exit.then G Q) n D c (V x++K) L)(hK:SubE K E:=by repeat (first | exact trivial | refine ⟨rfl,?_⟩))(hE:SubE (V x0) E:=by repeat (first | exact trivial | refine ⟨rfl,?_⟩)):Wp P W Q n D (.loop c) E L:=Wp.loopK K V (fun _=>L) I μ x0 hI hK hE (fun _ h=>h) round
theorem YM{σ:Type}{c:Code}(K:Env)(V:σ→Env)(LI:σ→Hp)(I:σ→Prop)(μ:σ→Nat)(x0:σ)(hI:I x0)(round:∀(x:σ) (G:Act→World→Prop),I x→(∀y,I y→μ y<μ x→Goes W G n D (V y++K) (LI y))→Wp P W (Exit.then G Q) n D c (V x++K) (LI x))(hK:SubE K E:=by repeat (first | exact trivial | refine ⟨rfl,?_⟩))(hE:SubE (V x0) E:=by repeat (first | exact trivial | refine ⟨rfl,?_⟩))(hL:∀w,Own W w L→Own W w (LI x0):=by intro w ho;(try dsimp only[List.nil_append,List.cons_append]);exact Drop.own ho):Wp P W Q n D (.loop c) E L:=Wp.loopK K V LI I μ x0 hI hK hE hL round
theorem Yd{t:Nat}{x y:Code}{p:Prop}[Decidable p](hc:look t E=some (.bool (decide p)))(ht:p→Wp P W Q n D x ((t,.bool true)::E) L)(hf:¬p→Wp P W Q n D y ((t,.bool false)::E) L):Wp P W Q n D (.cond (.tmp t) x y) E L:=Wp.cond_dect hc ht hf
end
section
variable {P : Program} {W : World} {ops : Array Oper} {Q : Exit → Act → World → Prop} {n : Nat} {D : List Deferred} {S : Hp} {fuel : Nat} {listed : Array Bool} {E : Env} {L : Hp} {d : Nat} {op : Op} {ty : TypeId} {pos : String} {aft : Array Edge} {g : Option (Nat × Bool)} {v : Value} [q : PF Q]
theorem Yt(i:Nat)(hi:ops[i]?=some ⟨some d,op,ty,pos,aft,g⟩)[hS:HeldSub L S](hp:Pv P n D E S ⟨some d,op,ty,pos,aft,g⟩ v)(hn:AnyH P W ops Q n D S fuel (listed.setIfInBounds i true) ((d,v)::E) L)(hg:Wanted ops E g true:=by exact ⟨_,_,rfl,rfl,rfl⟩)(hd:Nat.blt d n=true:=by rfl)
    (hsel:Region.noSelect ops=true:=by kernel_rfl) (hf:Region.free .any ops listed i=true:=by kernel_rfl) (hr:(Region.ready .any ops listed).contains i=true:=by kernel_rfl):AnyH P W ops Q n D S (fuel+1) listed E L:=AnyH.take i hi hsel hf hr q.pf hg hp hd hn
theorem Yh(i:Nat)(hi:ops[i]?=some ⟨some d,op,ty,pos,aft,none⟩)[hS:HeldSub L S](hp:Pv P n D E S ⟨some d,op,ty,pos,aft,none⟩ v)(hn:AnyH P W ops Q n D S fuel (listed.setIfInBounds i true) ((d,v)::E) L)(hd:Nat.blt d n=true:=by rfl)
    (hsel:Region.noSelect ops=true:=by kernel_rfl) (hf:Region.free .any ops listed i=true:=by kernel_rfl) (hr:(Region.ready .any ops listed).contains i=true:=by kernel_rfl):AnyH P W ops Q n D S (fuel+1) listed E L:=AnyH.take i hi hsel hf hr q.pf rfl hp hd hn
theorem Yv{i:Nat}(hi:ops[i]?=some ⟨some d,op,ty,pos,aft,g⟩)(hg:Wanted ops E g true)(hp:Pv P n D E L ⟨some d,op,ty,pos,aft,g⟩ v)[hS:HeldSub L S](hn:AnyH P W ops Q n D S fuel (listed.setIfInBounds i true) ((d,v)::E) L)(hd:Nat.blt d n=true:=by rfl):Turn P W ops Q n D S fuel listed i E L :=
  Turn.ef hi hg (ef_pv hp hd) (by rintro _ _ ⟨rfl,rfl⟩;exact hS) (by rintro _ _ ⟨rfl,rfl⟩;exact hn)
theorem Yu{i:Nat}{o:Oper}{E1:Env}{L1:Hp}(hi:ops[i]?=some o)(hg:Wanted ops E o.guard true)(h:Ef P W n D o E L (fun E' L' => E' = E1∧L' = L1))[hS:HeldSub L1 S](hn:AnyH P W ops Q n D S fuel (listed.setIfInBounds i true) E1 L1):Turn P W ops Q n D S fuel listed i E L :=
  Turn.ef hi hg h (by rintro _ _ ⟨rfl,rfl⟩;exact hS) (by rintro _ _ ⟨rfl,rfl⟩;exact hn)
theorem Yw{i:Nat}{o:Oper}{E1:Nat→Env}{L1:Nat→Hp}(hi:ops[i]?=some o)(hg:Wanted ops E o.guard true)(h:Ef P W n D o E L (fun E' L' => ∃b,E' = E1 b∧L' = L1 b))[hS:∀b,HeldSub (L1 b) S](hn:∀b,AnyH P W ops Q n D S fuel (listed.setIfInBounds i true) (E1 b) (L1 b)):Turn P W ops Q n D S fuel listed i E L :=
  Turn.ef hi hg h (by rintro _ _ ⟨b,rfl,rfl⟩;exact hS b) (by rintro _ _ ⟨b,rfl,rfl⟩;exact hn b)
theorem Yz(i:Nat)(hi:ops[i]?=some ⟨some d,op,ty,pos,aft,g⟩)[hS:HeldSub L S](hn:AnyH P W ops Q n D S fuel (listed.setIfInBounds i true) ((d,undef)::E) L)(hg:Wanted ops E g false:=by exact ⟨_,_,rfl,rfl,rfl⟩)(hd:Nat.blt d n=true:=by rfl)
    (hsel:Region.noSelect ops=true:=by kernel_rfl) (hf:Region.free .any ops listed i=true:=by kernel_rfl) (hr:(Region.ready .any ops listed).contains i=true:=by kernel_rfl):AnyH P W ops Q n D S (fuel+1) listed E L:=AnyH.skip i hi hsel hf hr q.pf hg hd hn
theorem Yk{j t:Nat}{p:Prop}[Decidable p](i:Nat)(hi:ops[i]?=some ⟨some d,op,ty,pos,aft,some (j,true)⟩)(ht:(ops[j]?).bind (·.dst)=some t)(hl:look t E=some (.bool (decide p)))[hS:HeldSub L S](hp:p→Pv P n D E S ⟨some d,op,ty,pos,aft,some (j,true)⟩ v)
    (hn:AnyH P W ops Q n D S fuel (listed.setIfInBounds i true) ((d,cv p v)::E) L) (hd:Nat.blt d n=true:=by rfl)
    (hsel:Region.noSelect ops=true:=by kernel_rfl) (hf:Region.free .any ops listed i=true:=by kernel_rfl) (hr:(Region.ready .any ops listed).contains i=true:=by kernel_rfl):AnyH P W ops Q n D S (fuel+1) listed E L:=AnyH.takec i hi hsel hf hr q.pf ht hl hp hd hn
end
end Go.SL
end
namespace Go.SL
section
structure Stp (n:List Nat):Prop
structure Stq (n:List Nat):Prop
structure Stg (A:Prop):Prop where
  h:A
theorem Stp.z{A:Prop}(_:Stp [])(k:Stg A):A:=k.h
section
variable {P : Program} {W : World} {ops : Array Oper} {Q : Exit → Act → World → Prop} {n : Nat} {m : List Nat} {D : List Deferred} {E : Env} {L : Hp} {rest : List Oper} {d : Nat} {op : Op} {ty : TypeId} {pos : String} {aft : Array Edge} {g : Option (Nat × Bool)} {v : Value} {x y : Operand} {B : Prop} {S : Hp} {fuel : Nat} {listed : Array Bool} {T : TypeId}
theorem Stp.mv(e:Stq m)(h:ev E x=some v)(hd:Nat.blt d n=true)(k:Stp m→(Ops P W ops Q n D rest ((d,v)::E) L)):(Ops P W ops Q n D (⟨some d,.move x,ty,pos,aft,none⟩::rest) E L):=Ops.pv (pv_move h) hd (k ⟨⟩)
theorem Stp.as(e:Stq m)(h:ev E x=some v)(hd:Nat.blt d n=true)(k:Stp m→(Ops P W ops Q n D rest ((d,v)::E) L)):(Ops P W ops Q n D (⟨some d,.assign x,ty,pos,aft,none⟩::rest) E L):=Ops.pv (pv_assign h) hd (k ⟨⟩)
theorem Stp.pv(e:Stq m)(hp:Pv P n D E L ⟨some d,op,ty,pos,aft,none⟩ v)(hd:Nat.blt d n=true)(k:Stp m→(Ops P W ops Q n D rest ((d,v)::E) L)):(Ops P W ops Q n D (⟨some d,op,ty,pos,aft,none⟩::rest) E L):=Ops.pv hp hd (k ⟨⟩)
theorem Stp.pg(e:Stq m)(hg:Wanted ops E g true)(hp:Pv P n D E L ⟨some d,op,ty,pos,aft,g⟩ v)(hd:Nat.blt d n=true)(k:Stp m→(Ops P W ops Q n D rest ((d,v)::E) L)):(Ops P W ops Q n D (⟨some d,op,ty,pos,aft,g⟩::rest) E L):=Ops.pvg hg hp hd (k ⟨⟩)
theorem Stp.sk(e:Stq m)(hg:Wanted ops E g false)(hd:Nat.blt d n=true)(k:Stp m→(Ops P W ops Q n D rest ((d,undef)::E) L)):(Ops P W ops Q n D (⟨some d,op,ty,pos,aft,g⟩::rest) E L):=Ops.skipg hg hd (k ⟨⟩)
theorem Stp.s1(e:Stq m){b0 off:Nat}{c c' : List Value}{T' : TypeId}{L' : Hp}[hk:TyS P T 1](hx:ev E x=some (.pointer (some ⟨b0,off,none⟩)))(hy:ev E y=some v)(hv:v.cells=#[v])(h1:v.oneCell' = true)
    [hb:Blk L b0 (.cells c.toArray T')] [hset:SetL c off [v] c'] [hu:Upd L b0 (.cells c'.toArray T') L'] (k:Stp m→(Ops P W ops Q n D rest E L')):(Ops P W ops Q n D (⟨none,.store T x y,ty,pos,aft,none⟩::rest) E L) :=
  Ops.ef rfl (ef_store1 hx hy hv h1) fun _ _ ⟨e1,e2⟩=>by subst e1;subst e2;exact k ⟨⟩
theorem Stp.sK(e:Stq m){k0 b0 off:Nat}{c c' vs:List Value}{T' : TypeId}{L' : Hp}[hk:TyS P T k0](hx:ev E x=some (.pointer (some ⟨b0,off,none⟩)))(hy:ev E y=some (.agg vs.toArray))(hkl:vs.length=k0)
    (h1:vs.all Value.oneCell' = true) [hb:Blk L b0 (.cells c.toArray T')] [hset:SetL c off vs c'] [hu:Upd L b0 (.cells c'.toArray T') L'] (k:Stp m→(Ops P W ops Q n D rest E L')):(Ops P W ops Q n D (⟨none,.store T x y,ty,pos,aft,none⟩::rest) E L) :=
  Ops.ef rfl (ef_storeK hx hy hkl h1) fun _ _ ⟨e1,e2⟩=>by subst e1;subst e2;exact k ⟨⟩
theorem Stp.on(e:Stq m)(k:Stp m→(Ends W Q n D .normal E L)):(Ops P W ops Q n D [] E L):=Ops.nil (k ⟨⟩)
theorem Stp.sq(e:Stq m){a c:Code}(k:Stp m→(Wp P W (Exit.then (c.wp P Q) Q) n D a E L)):(Wp P W Q n D (.seq a c) E L):=Wp.seq (k ⟨⟩)
theorem Stp.rg(e:Stq m){id:Nat}{l:List Oper}(k:Stp m→(Ops P W l.toArray Q n D l E L)):(Wp P W Q n D (.region id l.toArray false) E L):=Wp.region (k ⟨⟩)
theorem Stp.bk(e:Stq m){id:Nat}{c:Code}(k:Stp m→(Wp P W (Exit.inBlock id Q) n D c E L)):(Wp P W Q n D (.block id c) E L):=Wp.block (k ⟨⟩)
theorem Stp.sp(e:Stq m)(k:Stp m→(Ends W Q n D .normal E L)):(Wp P W Q n D .skip E L):=Wp.skip (k ⟨⟩)
theorem Stp.rt(e:Stq m)(k:Stp m→(Ends W Q n D .ret E L)):(Wp P W Q n D .ret E L):=Wp.ret (k ⟨⟩)
theorem Stp.ex(e:Stq m){id:Nat}(k:Stp m→(Ends W Q n D (.exit id) E L)):(Wp P W Q n D (.exit id) E L):=Wp.exit (k ⟨⟩)
theorem Stp.ct(e:Stq m){a c:Code}(h:ev E x=some (.bool true))(k:Stp m→(Wp P W Q n D a E L)):(Wp P W Q n D (.cond x a c) E L):=Wp.cond_true h (k ⟨⟩)
theorem Stp.cf(e:Stq m){a c:Code}(h:ev E x=some (.bool false))(k:Stp m→(Wp P W Q n D c E L)):(Wp P W Q n D (.cond x a c) E L):=Wp.cond_false h (k ⟨⟩)
theorem Stp.es(e:Stq m){c:Code}(k:Stp m→(Wp P W Q n D c E L)):(Ends W (Exit.then (c.wp P Q) Q) n D .normal E L):=Ends.seq (k ⟨⟩)
theorem Stp.tr(e:Stq m){K:Act→World→Prop}(k:Stp m→(Ends W Q n D .ret E L)):(Ends W (Exit.then K Q) n D .ret E L):=Ends.then_ret (k ⟨⟩)
theorem Stp.te(e:Stq m){K:Act→World→Prop}{i:Nat}(k:Stp m→(Ends W Q n D (.exit i) E L)):(Ends W (Exit.then K Q) n D (.exit i) E L):=Ends.then_exit (k ⟨⟩)
theorem Stp.br(e:Stq m){id:Nat}(k:Stp m→(Ends W Q n D .ret E L)):(Ends W (Exit.inBlock id Q) n D .ret E L):=Ends.block_ret (k ⟨⟩)
theorem Stp.bn(e:Stq m){id:Nat}(k:Stp m→(Ends W Q n D .normal E L)):(Ends W (Exit.inBlock id Q) n D .normal E L):=Ends.block_normal (k ⟨⟩)
theorem Stp.bh(e:Stq m){id:Nat}(k:Stp m→(Ends W Q n D .normal E L)):(Ends W (Exit.inBlock id Q) n D (.exit id) E L):=Ends.block_hit (k ⟨⟩)
theorem Stp.bm(e:Stq m){id i:Nat}(hb:Nat.beq i id=false)(k:Stp m→(Ends W Q n D (.exit i) E L)):(Ends W (Exit.inBlock id Q) n D (.exit i) E L):=Ends.block_miss hb (k ⟨⟩)
theorem Stp.gs(e:Stq m){K:Act→World→Prop}(k:Stp m→(Goes W K n D E L)):(Ends W (Exit.then K Q) n D .normal E L):=Ends.goes (k ⟨⟩)
end
theorem Stp.c0{m:List Nat}(_:Stp (0::m)):Stq m:=⟨⟩
theorem Stp.c1{m:List Nat}(_:Stp (1::m)):Stq m:=⟨⟩
theorem Stp.c2{m:List Nat}(_:Stp (2::m)):Stq m:=⟨⟩
theorem Stp.c3{m:List Nat}(_:Stp (3::m)):Stq m:=⟨⟩
theorem Stp.c4{m:List Nat}(_:Stp (4::m)):Stq m:=⟨⟩
theorem Stp.c5{m:List Nat}(_:Stp (5::m)):Stq m:=⟨⟩
theorem Stp.c6{m:List Nat}(_:Stp (6::m)):Stq m:=⟨⟩
theorem Stp.c7{m:List Nat}(_:Stp (7::m)):Stq m:=⟨⟩
theorem Stp.c8{m:List Nat}(_:Stp (8::m)):Stq m:=⟨⟩
theorem Stp.c9{m:List Nat}(_:Stp (9::m)):Stq m:=⟨⟩
theorem Stp.c10{m:List Nat}(_:Stp (10::m)):Stq m:=⟨⟩
theorem Stp.c11{m:List Nat}(_:Stp (11::m)):Stq m:=⟨⟩
theorem Stp.c12{m:List Nat}(_:Stp (12::m)):Stq m:=⟨⟩
theorem Stp.c13{m:List Nat}(_:Stp (13::m)):Stq m:=⟨⟩
theorem Stp.c14{m:List Nat}(_:Stp (14::m)):Stq m:=⟨⟩
theorem Stp.c15{m:List Nat}(_:Stp (15::m)):Stq m:=⟨⟩
theorem Stp.c16{m:List Nat}(_:Stp (16::m)):Stq m:=⟨⟩
theorem Stp.c17{m:List Nat}(_:Stp (17::m)):Stq m:=⟨⟩
theorem Stp.c18{m:List Nat}(_:Stp (18::m)):Stq m:=⟨⟩
theorem Stp.c19{m:List Nat}(_:Stp (19::m)):Stq m:=⟨⟩
theorem Stp.c20{m:List Nat}(_:Stp (20::m)):Stq m:=⟨⟩
theorem Stp.c21{m:List Nat}(_:Stp (21::m)):Stq m:=⟨⟩
theorem Stp.c22{m:List Nat}(_:Stp (22::m)):Stq m:=⟨⟩
theorem Stp.c23{m:List Nat}(_:Stp (23::m)):Stq m:=⟨⟩
theorem Stp.c24{m:List Nat}(_:Stp (24::m)):Stq m:=⟨⟩
theorem Stp.c25{m:List Nat}(_:Stp (25::m)):Stq m:=⟨⟩
theorem Stp.c26{m:List Nat}(_:Stp (26::m)):Stq m:=⟨⟩
theorem Stp.c27{m:List Nat}(_:Stp (27::m)):Stq m:=⟨⟩
theorem Stp.c28{m:List Nat}(_:Stp (28::m)):Stq m:=⟨⟩
theorem Stp.c29{m:List Nat}(_:Stp (29::m)):Stq m:=⟨⟩
theorem Stp.c30{m:List Nat}(_:Stp (30::m)):Stq m:=⟨⟩
theorem Stp.c31{m:List Nat}(_:Stp (31::m)):Stq m:=⟨⟩
theorem Stp.c32{m:List Nat}(_:Stp (32::m)):Stq m:=⟨⟩
theorem Stp.c33{m:List Nat}(_:Stp (33::m)):Stq m:=⟨⟩
theorem Stp.c34{m:List Nat}(_:Stp (34::m)):Stq m:=⟨⟩
theorem Stp.c35{m:List Nat}(_:Stp (35::m)):Stq m:=⟨⟩
theorem Stp.c36{m:List Nat}(_:Stp (36::m)):Stq m:=⟨⟩
theorem Stp.c37{m:List Nat}(_:Stp (37::m)):Stq m:=⟨⟩
theorem Stp.c38{m:List Nat}(_:Stp (38::m)):Stq m:=⟨⟩
theorem Stp.c39{m:List Nat}(_:Stp (39::m)):Stq m:=⟨⟩
theorem Stp.c40{m:List Nat}(_:Stp (40::m)):Stq m:=⟨⟩
theorem Stp.c41{m:List Nat}(_:Stp (41::m)):Stq m:=⟨⟩
theorem Stp.c42{m:List Nat}(_:Stp (42::m)):Stq m:=⟨⟩
theorem Stp.c43{m:List Nat}(_:Stp (43::m)):Stq m:=⟨⟩
theorem Stp.c44{m:List Nat}(_:Stp (44::m)):Stq m:=⟨⟩
theorem Stp.c45{m:List Nat}(_:Stp (45::m)):Stq m:=⟨⟩
theorem Stp.c46{m:List Nat}(_:Stp (46::m)):Stq m:=⟨⟩
theorem Stp.c47{m:List Nat}(_:Stp (47::m)):Stq m:=⟨⟩
theorem Stp.c48{m:List Nat}(_:Stp (48::m)):Stq m:=⟨⟩
theorem Stp.c49{m:List Nat}(_:Stp (49::m)):Stq m:=⟨⟩
theorem Stp.c50{m:List Nat}(_:Stp (50::m)):Stq m:=⟨⟩
theorem Stp.c51{m:List Nat}(_:Stp (51::m)):Stq m:=⟨⟩
theorem Stp.c52{m:List Nat}(_:Stp (52::m)):Stq m:=⟨⟩
theorem Stp.c53{m:List Nat}(_:Stp (53::m)):Stq m:=⟨⟩
theorem Stp.c54{m:List Nat}(_:Stp (54::m)):Stq m:=⟨⟩
theorem Stp.c55{m:List Nat}(_:Stp (55::m)):Stq m:=⟨⟩
theorem Stp.c56{m:List Nat}(_:Stp (56::m)):Stq m:=⟨⟩
theorem Stp.c57{m:List Nat}(_:Stp (57::m)):Stq m:=⟨⟩
theorem Stp.c58{m:List Nat}(_:Stp (58::m)):Stq m:=⟨⟩
theorem Stp.c59{m:List Nat}(_:Stp (59::m)):Stq m:=⟨⟩
theorem Stp.c60{m:List Nat}(_:Stp (60::m)):Stq m:=⟨⟩
theorem Stp.c61{m:List Nat}(_:Stp (61::m)):Stq m:=⟨⟩
theorem Stp.c62{m:List Nat}(_:Stp (62::m)):Stq m:=⟨⟩
theorem Stp.c63{m:List Nat}(_:Stp (63::m)):Stq m:=⟨⟩
theorem Stp.c64{m:List Nat}(_:Stp (64::m)):Stq m:=⟨⟩
theorem Stp.c65{m:List Nat}(_:Stp (65::m)):Stq m:=⟨⟩
theorem Stp.c66{m:List Nat}(_:Stp (66::m)):Stq m:=⟨⟩
theorem Stp.c67{m:List Nat}(_:Stp (67::m)):Stq m:=⟨⟩
theorem Stp.c68{m:List Nat}(_:Stp (68::m)):Stq m:=⟨⟩
theorem Stp.c69{m:List Nat}(_:Stp (69::m)):Stq m:=⟨⟩
theorem Stp.c70{m:List Nat}(_:Stp (70::m)):Stq m:=⟨⟩
theorem Stp.c71{m:List Nat}(_:Stp (71::m)):Stq m:=⟨⟩
theorem Stp.c72{m:List Nat}(_:Stp (72::m)):Stq m:=⟨⟩
theorem Stp.c73{m:List Nat}(_:Stp (73::m)):Stq m:=⟨⟩
theorem Stp.c74{m:List Nat}(_:Stp (74::m)):Stq m:=⟨⟩
theorem Stp.c75{m:List Nat}(_:Stp (75::m)):Stq m:=⟨⟩
theorem zq{A B:Prop}(n:List Nat)(k:B)(h:Stp n→Stg B→A:=by
  intro e k
  repeat first
    | exact Stp.z e k
    | (have f:=Stp.c0 e;clear e;refine Stp.mv f rfl rfl ?_;clear f;intro e)
    | (have f:=Stp.c1 e;clear e;refine Stp.as f rfl rfl ?_;clear f;intro e)
    | (have f:=Stp.c2 e;clear e;refine Stp.on f ?_;clear f;intro e)
    | (have f:=Stp.c3 e;clear e;refine Stp.sq f ?_;clear f;intro e)
    | (have f:=Stp.c4 e;clear e;refine Stp.rg f ?_;clear f;intro e)
    | (have f:=Stp.c5 e;clear e;refine Stp.es f ?_;clear f;intro e)
    | (have f:=Stp.c6 e;clear e;refine Stp.pv f (pv_fieldAddr0 rfl rfl) rfl ?_;clear f;intro e)
    | (have f:=Stp.c7 e;clear e;refine Stp.pv f (pv_extract rfl rfl) rfl ?_;clear f;intro e)
    | (have f:=Stp.c8 e;clear e;refine Stp.pv f (pv_load rfl rfl rfl) rfl ?_;clear f;intro e)
    | (have f:=Stp.c9 e;clear e;refine Stp.pv f (pv_nilCheck rfl) rfl ?_;clear f;intro e)
    | (have f:=Stp.c10 e;clear e;refine Stp.rt f ?_;clear f;intro e)
    | (have f:=Stp.c11 e;clear e;refine Stp.sp f ?_;clear f;intro e)
    | (have f:=Stp.c12 e;clear e;refine Stp.tr f ?_;clear f;intro e)
    | (have f:=Stp.c13 e;clear e;refine Stp.sk f ⟨_,_,rfl,rfl,rfl⟩ rfl ?_;clear f;intro e)
    | (have f:=Stp.c14 e;clear e;refine Stp.sK f rfl rfl rfl rfl ?_;clear f;intro e)
    | (have f:=Stp.c15 e;clear e;refine Stp.br f ?_;clear f;intro e)
    | (have f:=Stp.c16 e;clear e;refine Stp.te f ?_;clear f;intro e)
    | (have f:=Stp.c17 e;clear e;refine Stp.cf f rfl ?_;clear f;intro e)
    | (have f:=Stp.c18 e;clear e;refine Stp.ct f rfl ?_;clear f;intro e)
    | (have f:=Stp.c19 e;clear e;refine Stp.bn f ?_;clear f;intro e)
    | (have f:=Stp.c20 e;clear e;refine Stp.bk f ?_;clear f;intro e)
    | (have f:=Stp.c21 e;clear e;refine Stp.pg f ⟨_,_,rfl,rfl,rfl⟩ (pv_move rfl) rfl ?_;clear f;intro e)
    | (have f:=Stp.c22 e;clear e;refine Stp.pv f (pv_eql rfl rfl) rfl ?_;clear f;intro e)
    | (have f:=Stp.c23 e;clear e;refine Stp.pv f (pv_build rfl) rfl ?_;clear f;intro e)
    | (have f:=Stp.c24 e;clear e;refine Stp.pv f (pv_pick_true rfl rfl) rfl ?_;clear f;intro e)
    | (have f:=Stp.c25 e;clear e;refine Stp.s1 f rfl rfl (by first | rfl | assumption) (by first | rfl | assumption) ?_;clear f;intro e)
    | (have f:=Stp.c26 e;clear e;refine Stp.pv f (pv_pick_false rfl rfl) rfl ?_;clear f;intro e)
    | (have f:=Stp.c27 e;clear e;refine Stp.pv f (pv_neq rfl rfl) rfl ?_;clear f;intro e)
    | (have f:=Stp.c28 e;clear e;refine Stp.bm f rfl ?_;clear f;intro e)
    | (have f:=Stp.c29 e;clear e;refine Stp.pv f (pv_loadK [_,_,_] rfl rfl rfl ⟨rfl,rfl,rfl,trivial⟩) rfl ?_;clear f;intro e)
    | (have f:=Stp.c30 e;clear e;refine Stp.pv f (pv_loadK [_,_] rfl rfl rfl ⟨rfl,rfl,trivial⟩) rfl ?_;clear f;intro e)
    | (have f:=Stp.c31 e;clear e;refine Stp.pv f (pv_loadK [_,_,_,_,_,_,_,_,_,_,_,_,_,_,_,_] rfl rfl rfl ⟨rfl,rfl,rfl,rfl,rfl,rfl,rfl,rfl,rfl,rfl,rfl,rfl,rfl,rfl,rfl,rfl,trivial⟩) rfl ?_;clear f;intro e)
    | (have f:=Stp.c32 e;clear e;refine Stp.pv f (pv_loadK [_,_,_,_,_,_] rfl rfl rfl ⟨rfl,rfl,rfl,rfl,rfl,rfl,trivial⟩) rfl ?_;clear f;intro e)
    | (have f:=Stp.c33 e;clear e;refine Stp.pv f (pv_loadK [_,_,_,_,_,_,_,_] rfl rfl rfl ⟨rfl,rfl,rfl,rfl,rfl,rfl,rfl,rfl,trivial⟩) rfl ?_;clear f;intro e)
    | (have f:=Stp.c34 e;clear e;refine Stp.pv f (pv_loadK [_,_,_,_] rfl rfl rfl ⟨rfl,rfl,rfl,rfl,trivial⟩) rfl ?_;clear f;intro e)
    | (have f:=Stp.c35 e;clear e;refine Stp.pv f (pv_loadK [_,_,_,_,_] rfl rfl rfl ⟨rfl,rfl,rfl,rfl,rfl,trivial⟩) rfl ?_;clear f;intro e)
    | (have f:=Stp.c36 e;clear e;refine Stp.pv f (pv_loadK [_,_,_,_,_,_,_] rfl rfl rfl ⟨rfl,rfl,rfl,rfl,rfl,rfl,rfl,trivial⟩) rfl ?_;clear f;intro e)
    | (have f:=Stp.c37 e;clear e;refine Stp.pv f (pv_loadK [_,_,_,_,_,_,_,_,_,_,_,_,_] rfl rfl rfl ⟨rfl,rfl,rfl,rfl,rfl,rfl,rfl,rfl,rfl,rfl,rfl,rfl,rfl,trivial⟩) rfl ?_;clear f;intro e)
    | (have f:=Stp.c38 e;clear e;refine Stp.pv f (pv_loadK [_,_,_,_,_,_,_,_,_,_,_,_,_,_,_,_,_,_,_,_,_,_,_,_] rfl rfl rfl ⟨rfl,rfl,rfl,rfl,rfl,rfl,rfl,rfl,rfl,rfl,rfl,rfl,rfl,rfl,rfl,rfl,rfl,rfl,rfl,rfl,rfl,rfl,rfl,rfl,trivial⟩) rfl ?_;clear f;intro e)
    | (have f:=Stp.c39 e;clear e;refine Stp.pv f (pv_not rfl) rfl ?_;clear f;intro e)
    | (have f:=Stp.c40 e;clear e;refine Stp.bh f ?_;clear f;intro e)
    | (have f:=Stp.c41 e;clear e;refine Stp.ex f ?_;clear f;intro e)
    | (have f:=Stp.c42 e;clear e;refine Stp.pv f (pv_lss rfl rfl) rfl ?_;clear f;intro e)
    | (have f:=Stp.c43 e;clear e;refine Stp.pv f (pv_geq rfl rfl) rfl ?_;clear f;intro e)
    | (have f:=Stp.c44 e;clear e;refine Stp.pv f (pv_gtr rfl rfl) rfl ?_;clear f;intro e)
    | (have f:=Stp.c45 e;clear e;refine Stp.pv f (pv_leq rfl rfl) rfl ?_;clear f;intro e)
    | (have f:=Stp.c46 e;clear e;refine Stp.pv f (pv_pick_and rfl rfl) rfl ?_;clear f;intro e)
    | (have f:=Stp.c47 e;clear e;refine Stp.pv f (pv_pick_or rfl rfl) rfl ?_;clear f;intro e)
    | (have f:=Stp.c48 e;clear e;refine Stp.pv f (pv_pick rfl rfl rfl) rfl ?_;clear f;intro e)
    | (have f:=Stp.c49 e;clear e;refine Stp.gs f ?_;clear f;intro e)
    | (have f:=Stp.c50 e;clear e;refine Stp.pg f ⟨_,_,rfl,rfl,rfl⟩ (pv_fieldAddr0 rfl rfl) rfl ?_;clear f;intro e)
    | (have f:=Stp.c51 e;clear e;refine Stp.pg f ⟨_,_,rfl,rfl,rfl⟩ (pv_load rfl rfl rfl) rfl ?_;clear f;intro e)
    | (have f:=Stp.c52 e;clear e;refine Stp.pv f (pv_add rfl rfl (w64 (by omega) (by omega))) rfl ?_;clear f;intro e)
    | (have f:=Stp.c53 e;clear e;refine Stp.pv f (pv_sub rfl rfl (w64 (by omega) (by omega))) rfl ?_;clear f;intro e)
    | (have f:=Stp.c54 e;clear e;refine Stp.pg f ⟨_,_,rfl,rfl,rfl⟩ (pv_not rfl) rfl ?_;clear f;intro e)
    | (have f:=Stp.c55 e;clear e;refine Stp.pv f (pv_not_dec rfl) rfl ?_;clear f;intro e)
    | (have f:=Stp.c56 e;clear e;refine Stp.pg f ⟨_,_,rfl,rfl,rfl⟩ (pv_build rfl) rfl ?_;clear f;intro e)
    | (have f:=Stp.c57 e;clear e;refine Stp.pg f ⟨_,_,rfl,rfl,rfl⟩ (pv_nilCheck rfl) rfl ?_;clear f;intro e)
    | (have f:=Stp.c58 e;clear e;refine Stp.pg f ⟨_,_,rfl,rfl,rfl⟩ (pv_extract rfl rfl) rfl ?_;clear f;intro e)
    | (have f:=Stp.c59 e;clear e;refine Stp.pv f (pv_eql_nil rfl rfl) rfl ?_;clear f;intro e)
    | (have f:=Stp.c60 e;clear e;refine Stp.pv f (pv_neq_nil rfl rfl) rfl ?_;clear f;intro e)
    | (have f:=Stp.c61 e;clear e;refine Stp.pv f (pv_fieldAddr rfl rfl) rfl ?_;clear f;intro e)
    | (have f:=Stp.c62 e;clear e;refine Stp.pv f (pv_field rfl rfl rfl) rfl ?_;clear f;intro e)
    | (have f:=Stp.c63 e;clear e;refine Stp.pv f (pv_eql_bool rfl rfl) rfl ?_;clear f;intro e)
    | (have f:=Stp.c64 e;clear e;refine Stp.pv f (pv_neq_bool rfl rfl) rfl ?_;clear f;intro e)
    | (have f:=Stp.c65 e;clear e;refine Stp.pv f ((pv_eql rfl rfl).fls (by first | exact fun h=>h rfl | decide | omega | assumption)) rfl ?_;clear f;intro e)
    | (have f:=Stp.c66 e;clear e;refine Stp.pv f ((pv_eql rfl rfl).tru (by first | rfl | decide | omega | assumption | (simp;done) | (simp;omega))) rfl ?_;clear f;intro e)
    | (have f:=Stp.c67 e;clear e;refine Stp.pv f ((pv_neq rfl rfl).fls (by first | exact fun h=>h rfl | decide | omega | assumption)) rfl ?_;clear f;intro e)
    | (have f:=Stp.c68 e;clear e;refine Stp.pv f ((pv_neq rfl rfl).tru (by first | rfl | decide | omega | assumption | (simp;done) | (simp;omega))) rfl ?_;clear f;intro e)
    | (have f:=Stp.c69 e;clear e;refine Stp.pg f ⟨_,_,rfl,rfl,rfl⟩ ((pv_eql rfl rfl).tru (by first | rfl | decide | omega | assumption | (simp;done) | (simp;omega))) rfl ?_;clear f;intro e)
    | (have f:=Stp.c70 e;clear e;refine Stp.pg f ⟨_,_,rfl,rfl,rfl⟩ ((pv_eql rfl rfl).fls (by first | exact fun h=>h rfl | decide | omega | assumption)) rfl ?_;clear f;intro e)
    | (have f:=Stp.c71 e;clear e;refine Stp.pg f ⟨_,_,rfl,rfl,rfl⟩ ((pv_neq rfl rfl).fls (by first | exact fun h=>h rfl | decide | omega | assumption)) rfl ?_;clear f;intro e)
    | (have f:=Stp.c72 e;clear e;refine Stp.pv f (pv_conv rfl rfl) rfl ?_;clear f;intro e)
    | (have f:=Stp.c73 e;clear e;refine Stp.pv f (pv_makeFunc rfl rfl) rfl ?_;clear f;intro e)
    | (have f:=Stp.c74 e;clear e;refine Stp.pv f (pv_iface rfl rfl) rfl ?_;clear f;intro e)
    | (have f:=Stp.c75 e;clear e;refine Stp.pv f (pv_len_slice rfl rfl) rfl ?_;clear f;intro e)):A:=h ⟨⟩ ⟨k⟩
section
variable {P : Program} {W : World} {ops : Array Oper} {Q : Exit → Act → World → Prop} {n : Nat} {D : List Deferred} {E : Env} {L : Hp} {rest : List Oper} {d : Nat} {op : Op} {ty : TypeId} {pos : String} {aft : Array Edge} {v : Value} {x y : Operand} {T : TypeId}
theorem zA{cs:List Value}(k:∀b,Ops P W ops Q n D rest ((d,.pointer (some ⟨b,0,none⟩))::E) ((b,.cells cs.toArray T)::L))[hz:TyZ P T (.agg cs.toArray)](hd:Nat.blt d n=true:=by rfl):Ops P W ops Q n D (⟨some d,.alloc T,ty,pos,aft,none⟩::rest) E L :=
  Ops.ef rfl (ef_allocK hz hd) fun _ _ ⟨b,e1,e2⟩=>by subst e1;subst e2;exact k b
theorem zB{cs:List Value}(k:∀b,Ops P W ops Q n D rest ((d,.pointer (some ⟨b,0,none⟩))::E) ((b,.cells cs.toArray T)::L))(hx:ev E x=some (.agg cs.toArray):=by rfl)(hd:Nat.blt d n=true:=by rfl):Ops P W ops Q n D (⟨some d,.box T x,ty,pos,aft,none⟩::rest) E L :=
  Ops.ef rfl (ef_boxK hx hd) fun _ _ ⟨b,e1,e2⟩=>by subst e1;subst e2;exact k b
theorem zC{f:FuncId}{xs:List Operand}{ats:Array TypeId}{args:List Value}{Lp:Hp}{r:Value}(ht:TrR P f args Lp r)[hf:GoFn P f](k:Ops P W ops Q n D rest ((d,r)::E) L)(hx:evs E xs=some args:=by rfl)(hd:Nat.blt d n=true:=by rfl)[hp:Has L Lp] :
    Ops P W ops Q n D (⟨some d,.call { callee:=.value (.func f),args:=xs.toArray,argTypes:=ats },ty,pos,aft,none⟩::rest) E L :=
  Ops.ef rfl (ef_callr ht hx hd) fun _ _ ⟨e1,e2⟩=>by subst e1;subst e2;exact k
theorem zD{f:FuncId}{xs:List Operand}{ats:Array TypeId}{args:List Value}{Lp F:Hp}{R:Value→Hp→Prop}(ht:Tr P f args Lp R)[hf:GoFn P f][hp:Part L Lp F](k:∀v L1,R v L1→Ops P W ops Q n D rest ((d,v)::E) (L1++F))(hx:evs E xs=some args:=by rfl)(hd:Nat.blt d n=true:=by rfl) :
    Ops P W ops Q n D (⟨some d,.call { callee:=.value (.func f),args:=xs.toArray,argTypes:=ats },ty,pos,aft,none⟩::rest) E L :=
  Ops.ef rfl (ef_call ht hx hd) fun _ _ ⟨v,L1,hr,e1,e2⟩=>by subst e1;subst e2;exact k v L1 hr
end
section
variable {P : Program} {W : World} {ops : Array Oper} {Q : Exit → Act → World → Prop} {n : Nat} {m : List Nat} {D : List Deferred} {E : Env} {L : Hp} {d : Nat} {op : Op} {ty : TypeId} {pos : String} {aft : Array Edge} {g : Option (Nat × Bool)} {v : Value} {x y : Operand} {B : Prop} {S : Hp} {fuel : Nat} {listed : Array Bool} {T : TypeId}
structure Std (is:List Nat):Prop
structure Ste (i:Nat) (is:List Nat):Prop
theorem Std.z{A:Prop}(_:Std [])(k:Stg A):A:=k.h
theorem Std.t{i:Nat}{is:List Nat}(e:Ste i is)(hi:ops[i]?=some ⟨some d,op,ty,pos,aft,g⟩)(hg:Wanted ops E g true)[hS:HeldSub L S](hp:Pv P n D E S ⟨some d,op,ty,pos,aft,g⟩ v)(hd:Nat.blt d n=true)[q:PF Q]
    (hsel:Region.noSelect ops=true) (hf:Region.free .any ops listed i=true) (hr:(Region.ready .any ops listed).contains i=true) (k:Std is→(AnyH P W ops Q n D S fuel (listed.setIfInBounds i true) ((d,v)::E) L)):(AnyH P W ops Q n D S (fuel+1) listed E L):=AnyH.take i hi hsel hf hr q.pf hg hp hd (k ⟨⟩)
theorem Std.c0{i:Nat}{is:List Nat}(_:Std (i::0::is)):Ste i is:=⟨⟩
theorem Std.c1{i:Nat}{is:List Nat}(_:Std (i::1::is)):Ste i is:=⟨⟩
theorem Std.c2{i:Nat}{is:List Nat}(_:Std (i::2::is)):Ste i is:=⟨⟩
theorem Std.c3{i:Nat}{is:List Nat}(_:Std (i::3::is)):Ste i is:=⟨⟩
theorem Std.c4{i:Nat}{is:List Nat}(_:Std (i::4::is)):Ste i is:=⟨⟩
theorem Std.c5{i:Nat}{is:List Nat}(_:Std (i::5::is)):Ste i is:=⟨⟩
theorem Std.c6{i:Nat}{is:List Nat}(_:Std (i::6::is)):Ste i is:=⟨⟩
theorem Std.c7{i:Nat}{is:List Nat}(_:Std (i::7::is)):Ste i is:=⟨⟩
theorem Std.c8{i:Nat}{is:List Nat}(_:Std (i::8::is)):Ste i is:=⟨⟩
theorem Std.c9{i:Nat}{is:List Nat}(_:Std (i::9::is)):Ste i is:=⟨⟩
theorem Std.c10{i:Nat}{is:List Nat}(_:Std (i::10::is)):Ste i is:=⟨⟩
theorem Std.c11{i:Nat}{is:List Nat}(_:Std (i::11::is)):Ste i is:=⟨⟩
theorem Std.c12{i:Nat}{is:List Nat}(_:Std (i::12::is)):Ste i is:=⟨⟩
theorem Std.c13{i:Nat}{is:List Nat}(_:Std (i::13::is)):Ste i is:=⟨⟩
theorem Std.c14{i:Nat}{is:List Nat}(_:Std (i::14::is)):Ste i is:=⟨⟩
theorem zd{A B:Prop}(is:List Nat)(k:B)(h:Std is→Stg B→A:=by
  intro e k
  repeat first
    | exact Std.z e k
    | (have f:=Std.c0 e;clear e;refine Std.t f rfl rfl (pv_fieldAddr0 rfl rfl) rfl (by kernel_rfl) (by kernel_rfl) (by kernel_rfl) ?_;clear f;intro e)
    | (have f:=Std.c1 e;clear e;refine Std.t f rfl rfl (pv_move rfl) rfl (by kernel_rfl) (by kernel_rfl) (by kernel_rfl) ?_;clear f;intro e)
    | (have f:=Std.c2 e;clear e;refine Std.t f rfl rfl (pv_load rfl rfl rfl) rfl (by kernel_rfl) (by kernel_rfl) (by kernel_rfl) ?_;clear f;intro e)
    | (have f:=Std.c3 e;clear e;refine Std.t f rfl rfl (pv_nilCheck rfl) rfl (by kernel_rfl) (by kernel_rfl) (by kernel_rfl) ?_;clear f;intro e)
    | (have f:=Std.c4 e;clear e;refine Std.t f rfl rfl (pv_extract rfl rfl) rfl (by kernel_rfl) (by kernel_rfl) (by kernel_rfl) ?_;clear f;intro e)
    | (have f:=Std.c5 e;clear e;refine Std.t f rfl rfl (pv_assign rfl) rfl (by kernel_rfl) (by kernel_rfl) (by kernel_rfl) ?_;clear f;intro e)
    | (have f:=Std.c6 e;clear e;refine Std.t f rfl rfl (pv_fieldAddr rfl rfl) rfl (by kernel_rfl) (by kernel_rfl) (by kernel_rfl) ?_;clear f;intro e)
    | (have f:=Std.c7 e;clear e;refine Std.t f rfl rfl (pv_eql rfl rfl) rfl (by kernel_rfl) (by kernel_rfl) (by kernel_rfl) ?_;clear f;intro e)
    | (have f:=Std.c8 e;clear e;refine Std.t f rfl rfl (pv_neq rfl rfl) rfl (by kernel_rfl) (by kernel_rfl) (by kernel_rfl) ?_;clear f;intro e)
    | (have f:=Std.c9 e;clear e;refine Std.t f rfl rfl (pv_build rfl) rfl (by kernel_rfl) (by kernel_rfl) (by kernel_rfl) ?_;clear f;intro e)
    | (have f:=Std.c10 e;clear e;refine Std.t f rfl rfl (pv_loadK [_,_] rfl rfl rfl ⟨rfl,rfl,trivial⟩) rfl (by kernel_rfl) (by kernel_rfl) (by kernel_rfl) ?_;clear f;intro e)
    | (have f:=Std.c11 e;clear e;refine Std.t f rfl rfl (pv_loadK [_,_,_,_,_,_] rfl rfl rfl ⟨rfl,rfl,rfl,rfl,rfl,rfl,trivial⟩) rfl (by kernel_rfl) (by kernel_rfl) (by kernel_rfl) ?_;clear f;intro e)
    | (have f:=Std.c12 e;clear e;refine Std.t f rfl rfl (pv_loadK [_,_,_,_,_,_,_,_] rfl rfl rfl ⟨rfl,rfl,rfl,rfl,rfl,rfl,rfl,rfl,trivial⟩) rfl (by kernel_rfl) (by kernel_rfl) (by kernel_rfl) ?_;clear f;intro e)
    | (have f:=Std.c13 e;clear e;refine Std.t f rfl rfl (pv_loadK [_,_,_,_,_,_,_,_,_,_,_,_,_,_,_,_] rfl rfl rfl ⟨rfl,rfl,rfl,rfl,rfl,rfl,rfl,rfl,rfl,rfl,rfl,rfl,rfl,rfl,rfl,rfl,trivial⟩) rfl (by kernel_rfl) (by kernel_rfl) (by kernel_rfl) ?_;clear f;intro e)
    | (have f:=Std.c14 e;clear e;refine Std.t f rfl rfl (pv_loadK [_,_,_] rfl rfl rfl ⟨rfl,rfl,rfl,trivial⟩) rfl (by kernel_rfl) (by kernel_rfl) (by kernel_rfl) ?_;clear f;intro e)):A:=h ⟨⟩ ⟨k⟩
theorem zK{k0 b0 off:Nat}{c c' vs:List Value}{T' : TypeId}{L' : Hp}(i:Nat)(k:AnyH P W ops Q n D S fuel (listed.setIfInBounds i true) E L')(hr:Region.ready .any ops listed=[i]:=by kernel_rfl)(hi:ops[i]?=some ⟨none,.store T x y,ty,pos,aft,none⟩:=by rfl)[hk:TyS P T k0](hx:ev E x=some (.pointer (some ⟨b0,off,none⟩)):=by rfl)(hy:ev E y=some (.agg vs.toArray):=by rfl)(hkl:vs.length=k0:=by rfl)
    (h1:vs.all Value.oneCell' = true:=by rfl) [hb:Blk L b0 (.cells c.toArray T')] [hset:SetL c off vs c'] [hu:Upd L b0 (.cells c'.toArray T') L'] [hs:HeldSub L' S]:AnyH P W ops Q n D S (fuel+1) listed E L :=
  AnyH.one i hr (Turn.ef hi rfl (ef_storeK hx hy hkl h1) (by rintro _ _ ⟨rfl,rfl⟩;exact hs) (by rintro _ _ ⟨rfl,rfl⟩;exact k))
theorem z1{b0 off:Nat}{c c' : List Value}{T' : TypeId}{L' : Hp}(i:Nat)(k:AnyH P W ops Q n D S fuel (listed.setIfInBounds i true) E L')(hr:Region.ready .any ops listed=[i]:=by kernel_rfl)(hi:ops[i]?=some ⟨none,.store T x y,ty,pos,aft,none⟩:=by rfl)[hk:TyS P T 1](hx:ev E x=some (.pointer (some ⟨b0,off,none⟩)):=by rfl)(hy:ev E y=some v:=by rfl)(hv:v.cells=#[v]:=by first | rfl | assumption)
    (h1:v.oneCell' = true:=by first | rfl | assumption) [hb:Blk L b0 (.cells c.toArray T')] [hset:SetL c off [v] c'] [hu:Upd L b0 (.cells c'.toArray T') L'] [hs:HeldSub L' S]:AnyH P W ops Q n D S (fuel+1) listed E L :=
  AnyH.one i hr (Turn.ef hi rfl (ef_store1 hx hy hv h1) (by rintro _ _ ⟨rfl,rfl⟩;exact hs) (by rintro _ _ ⟨rfl,rfl⟩;exact k))
end
structure Ans (P:Program) (fn:Func) (n:Nat) (E:Env) (L:Hp) (v:Value):Prop where
  h:Res P fn n [] E L v
theorem zans{P:Program}{fn:Func}{n:Nat}{E:Env}{L:Hp}{v:Value}(a:Ans P fn n E L v:=by constructor;first | exact res0 rfl | exact res1 rfl rfl | exact res2 rfl rfl rfl | exact res3 rfl rfl rfl rfl | exact res_list (rs:=[.cell _ _,.tmp _]) rfl ⟨_,_,rfl,rv_cellK [_,_,_,_,_,_] rfl rfl rfl ⟨rfl,rfl,rfl,rfl,rfl,rfl,trivial⟩,⟨_,_,rfl,rv_tmp rfl,rfl⟩⟩ rfl | exact res_list (rs:=[.cell _ _,.tmp _]) rfl ⟨_,_,rfl,rv_cellK [_,_,_,_,_,_,_,_,_,_,_,_,_,_,_,_] rfl rfl rfl ⟨rfl,rfl,rfl,rfl,rfl,rfl,rfl,rfl,rfl,rfl,rfl,rfl,rfl,rfl,rfl,rfl,trivial⟩,⟨_,_,rfl,rv_tmp rfl,rfl⟩⟩ rfl | exact res_list (rs:=[.cell _ _,.tmp _]) rfl ⟨_,_,rfl,rv_cellK [_,_,_] rfl rfl rfl ⟨rfl,rfl,rfl,trivial⟩,⟨_,_,rfl,rv_tmp rfl,rfl⟩⟩ rfl | exact res_list (rs:=[.cell _ _,.tmp _]) rfl ⟨_,_,rfl,rv_cellK [_,_,_,_,_,_,_,_,_,_,_,_,_] rfl rfl rfl ⟨rfl,rfl,rfl,rfl,rfl,rfl,rfl,rfl,rfl,rfl,rfl,rfl,rfl,trivial⟩,⟨_,_,rfl,rv_tmp rfl,rfl⟩⟩ rfl | exact res_list (rs:=[.cell _ _,.tmp _]) rfl ⟨_,_,rfl,rv_cellK [_,_] rfl rfl rfl ⟨rfl,rfl,trivial⟩,⟨_,_,rfl,rv_tmp rfl,rfl⟩⟩ rfl | exact res_list (rs:=[.cell _ _,.tmp _]) rfl ⟨_,_,rfl,rv_cellK [_,_,_,_] rfl rfl rfl ⟨rfl,rfl,rfl,rfl,trivial⟩,⟨_,_,rfl,rv_tmp rfl,rfl⟩⟩ rfl | exact res_list (rs:=[.cell _ _,.tmp _]) rfl ⟨_,_,rfl,rv_cellK [_,_,_,_,_,_,_,_] rfl rfl rfl ⟨rfl,rfl,rfl,rfl,rfl,rfl,rfl,rfl,trivial⟩,⟨_,_,rfl,rv_tmp rfl,rfl⟩⟩ rfl | exact res_list (rs:=[.cell _ _,.tmp _,.tmp _]) rfl ⟨_,_,rfl,rv_cellK [_,_] rfl rfl rfl ⟨rfl,rfl,trivial⟩,⟨_,_,rfl,rv_tmp rfl,⟨_,_,rfl,rv_tmp rfl,rfl⟩⟩⟩ rfl | exact res_list (rs:=[.cell _ _,.cell _ _,.tmp _]) rfl ⟨_,_,rfl,rv_cellK [_,_] rfl rfl rfl ⟨rfl,rfl,trivial⟩,⟨_,_,rfl,rv_cellK [_,_,_,_,_,_] rfl rfl rfl ⟨rfl,rfl,rfl,rfl,rfl,rfl,trivial⟩,⟨_,_,rfl,rv_tmp rfl,rfl⟩⟩⟩ rfl | exact res_list (rs:=[.tmp _,.tmp _,.tmp _,.tmp _]) rfl ⟨_,_,rfl,rv_tmp rfl,⟨_,_,rfl,rv_tmp rfl,⟨_,_,rfl,rv_tmp rfl,⟨_,_,rfl,rv_tmp rfl,rfl⟩⟩⟩⟩ rfl):Ans P fn n E L v:=a
theorem zr{P:Program}{W:World}{fn:Func}{R:Value→Hp→Prop}{F:Hp}{n:Nat}{E:Env}{L L' : Hp}{v:Value}{M:Hp}
    (h:R v L') (a:Ans P fn n E L v:=by exact zans) [ha:App L' F M] [hd:Drop L M]:Ends W (bodyPost P fn (TrPost R W F)) n [] .ret E L:=Ends.ret a.h h
theorem zf{P:Program}{W:World}{fn:Func}{R:Value→Hp→Prop}{F:Hp}{n:Nat}{E:Env}{L L' : Hp}{v:Value}{M:Hp}
    (h:R v L') (a:Ans P fn n E L v:=by exact zans) [ha:App L' F M] [hd:Drop L M]:Ends W (bodyPost P fn (TrPost R W F)) n [] .normal E L:=Ends.fin a.h h
theorem zs{P:Program}{W:World}{fn:Func}{R:Value→Hp→Prop}{F:Hp}{n:Nat}{E:Env}{L L' : Hp}{v:Value}{M:Hp}
    (a:Ans P fn n E L v:=by exact zans) (h:R v L') [ha:App L' F M] [hd:Drop L M]:Ends W (bodyPost P fn (TrPost R W F)) n [] .ret E L:=Ends.ret a.h h
theorem zt{P:Program}{W:World}{fn:Func}{R:Value→Hp→Prop}{F:Hp}{n:Nat}{E:Env}{L L' : Hp}{v:Value}{M:Hp}
    (a:Ans P fn n E L v:=by exact zans) (h:R v L') [ha:App L' F M] [hd:Drop L M]:Ends W (bodyPost P fn (TrPost R W F)) n [] .normal E L:=Ends.fin a.h h
end
section
open Go.RowKit
def allHp (W:World):Hp:=W.heap.toList.zipIdx.map fun p=>(p.2,p.1)
theorem allHp_fst(W:World):(allHp W).map Prod.fst=List.range' 0 W.heap.size:=by
 unfold allHp;rw[List.map_map,show (Prod.fst ∘ fun p:Obj×Nat=>(p.2,p.1))=Prod.snd from rfl,List.zipIdx_map_snd,Array.length_toList]
theorem mem_allHp{W:World}{k:Nat}{o:Obj}:(k,o)∈allHp W↔W.heap[k]?=some o:=by
 unfold allHp;rw[List.mem_map]
 constructor
 ·
  rintro ⟨⟨o', i⟩,h,e⟩;cases e
  simpa using List.mem_zipIdx_iff_getElem?.1 h
 ·
  intro h;exact ⟨(o,k),List.mem_zipIdx_iff_getElem?.2 (by simpa using h),rfl⟩
theorem own_all(W:World):Own W W (allHp W) :=
  ⟨rfl,rfl,rfl,by rw[allHp_fst];exact List.nodup_range', fun p hp=>mem_allHp.1 hp⟩
theorem below_of_own{W w' : World}{X:Hp}(h:Own W w' (X++allHp W)):Below W.heap.size W w' := by
 have hb:∀k,k<W.heap.size→w'.heap[k]?=W.heap[k]?:=fun k hk=>by
  have e:W.heap[k]?=some W.heap[k]:=Array.getElem?_eq_getElem hk
  rw[e];exact h.get (k,W.heap[k]) (List.mem_append_right _ (mem_allHp.2 e))
 refine ⟨h.os,h.tape,h.out,?_,hb⟩
 by_cases hs:W.heap.size≤w'.heap.size
 ·
  exact hs
 ·
  exfalso
  have h1:=hb w'.heap.size (by omega)
  rw[Array.getElem?_eq_none (Nat.le_refl _),Array.getElem?_eq_getElem (by omega)]at h1;cases h1
theorem TrR.callsG{P:Program}{f:FuncId}{args:List Value}{r:Value}{W:World}(h:TrR P f args (allHp W) r) :
    Calls P f args.toArray W fun e w' => e=.returned r∧Below W.heap.size W w' := by
  unfold TrR Tr at h;refine (h W W [] (by simpa using own_all W)).mono fun e w' hx=>?_
  obtain ⟨v,L', he,⟨rfl,rfl⟩,ho⟩:=hx;exact ⟨he,below_of_own (X:=[]) (by simpa using ho)⟩
end
section
open Go.RowKit Go.ChangeShapes Go.WideShapes Go.Deep
def FlatV:List (Option IntKind)→List Value→Prop
  | [],[]=>True
  | some k::ks,v::vs=>(∃n,v=.int k n∧(Lit.int k n).wf=true)∧FlatV ks vs
  | none::ks,v::vs=>(∃b,v=.bool b)∧FlatV ks vs
  | _,_=>False
theorem FlatV.int{k:IntKind}{ks:List (Option IntKind)}:∀{vs:List Value},FlatV (some k::ks) vs→∃n us,vs=.int k n::us∧(Lit.int k n).wf=true∧FlatV ks us
  | _::us,⟨⟨n,e,hw⟩,h⟩=>⟨n,us,by rw[e],hw,h⟩
theorem FlatV.bool{ks:List (Option IntKind)}:∀{vs:List Value},FlatV (none::ks) vs→∃b us,vs=.bool b::us∧FlatV ks us
  | _::us,⟨⟨b,e⟩,h⟩=>⟨b,us,by rw[e],h⟩
theorem FlatV.nil:∀{vs:List Value},FlatV [] vs→vs=[]
  | [],_=>rfl
theorem map_of{α:Type}{f:α→List Value}{p:α→Prop}:∀{els:List (List Value)},(∀x,x∈els→∃o,x=f o∧p o)→∃l:List α,els=l.map f∧∀o,o∈l→p o
  | [],_=>⟨[],rfl,fun o ho=>by cases ho⟩
  | x::els,h=>by
    obtain ⟨o,rfl,hp⟩:=h x (List.mem_cons_self ..);obtain ⟨l,rfl,hl⟩:=map_of (p:=p) (fun y hy=>h y (List.mem_cons_of_mem _ hy));exact ⟨o::l,rfl,fun q hq=>by rcases List.mem_cons.1 hq with rfl | hq;exact hp;exact hl q hq⟩
theorem FlatV.app:∀{ks ls:List (Option IntKind)} {vs us:List Value},FlatV ks vs→FlatV ls us→FlatV (ks++ls) (vs++us)
  | [],_,[],_,_,h=>h
  | some _::ks,_,_::vs,_,h,h' => ⟨h.1,FlatV.app h.2 h'⟩
  | none::ks,_,_::vs,_,h,h' => ⟨h.1,FlatV.app h.2 h'⟩
class FlatTy (P:Program) (t:TypeId) (ks:outParam (List (Option IntKind))):Prop where
  size:P.cellsOf t=ks.length
  go:∀{H:Type} (enc:TypeId×Value→H) (w:World) (base:Nat) (spare:Nat→Bool) (held:Bool) (fuel:Nat) (cs:List Value) (x:DataW H×List MemPlace),
    DataW.trod enc P w base spare held fuel t cs=some x→FlatV ks cs
theorem FlatTy.int{P:Program}{t:TypeId}{k:IntKind}(hu:P.underlying t=some (.int k))(hc:P.cellsOf t=1):FlatTy P t [some k] :=
  ⟨hc,fun enc w base spare held fuel cs x h=>by obtain ⟨n,rfl,_,hw⟩:=DataW.trod_int hu h;exact ⟨⟨n,rfl,hw⟩,trivial⟩⟩
theorem FlatTy.bool{P:Program}{t:TypeId}(hu:P.underlying t=some .bool)(hc:P.cellsOf t=1):FlatTy P t [none] :=
  ⟨hc,fun enc w base spare held fuel cs x h=>by obtain ⟨b,rfl,_⟩:=DataW.trod_bool hu h;exact ⟨⟨b,rfl⟩,trivial⟩⟩
def FlatFs (P:Program):Nat→List Field→List (List (Option IntKind))→Prop
  | _,[],[]=>True
  | off,f::fs,ks::kss=>f.offset=off∧FlatTy P f.type ks∧FlatFs P (off+ks.length) fs kss
  | _,_,_=>False
theorem FlatFs.nil{P:Program}{off:Nat}:FlatFs P off [] []:=trivial
theorem FlatFs.cons{P:Program}{off:Nat}{f:Field}{fs:List Field}{ks:List (Option IntKind)}{kss:List (List (Option IntKind))}(h1:f.offset=off)(h2:FlatTy P f.type ks)(h3:FlatFs P (off+ks.length) fs kss):FlatFs P off (f::fs) (ks::kss):=⟨h1,h2,h3⟩
theorem FlatFs.go{P:Program}{H:Type}{enc:TypeId×Value→H}{w:World}{base:Nat}{spare:Nat→Bool}{held:Bool}{n:Nat}{cs:List Value} :
    ∀{fs:List Field} {kss:List (List (Option IntKind))} {off:Nat},FlatFs P off fs kss →
      (∀f,f∈fs→∃y,DataW.trod enc P w base spare held n f.type ((cs.drop f.offset).take (P.cellsOf f.type))=some y)→FlatV kss.flatten ((cs.drop off).take kss.flatten.length)
  | [],[],off,_,_=>by simp[FlatV]
  | f::fs,ks::kss,off,h,hf=>by
    obtain ⟨h1,h2,h3⟩:=h;obtain ⟨y,hy⟩:=hf f (List.mem_cons_self ..);have hv:=h2.go enc w base spare held n _ y hy
    rw[h1,h2.size]at hv;have ih:=FlatFs.go (cs:=cs) h3 (fun g hg=>hf g (List.mem_cons_of_mem _ hg))
    rw[List.flatten_cons,Y3,List.take_add,List.drop_drop];exact hv.app ih
theorem FlatTy.struct{P:Program}{t:TypeId}{fs:Array Field}{kss:List (List (Option IntKind))}(hu:P.underlying t=some (.struct fs))(hf:FlatFs P 0 fs.toList kss)(hc:P.cellsOf t=kss.flatten.length):FlatTy P t kss.flatten :=
  ⟨hc,fun enc w base spare held fuel cs x h=>by
    obtain ⟨xs,n,_,_,hl,hxl,hat⟩:=DataW.trod_struct hu h;have:=FlatFs.go (cs:=cs) (enc:=enc) (w:=w) (base:=base) (spare:=spare) (held:=held) (n:=n) hf (fun f hf' => by
      obtain ⟨i,hi⟩:=List.mem_iff_getElem?.1 hf';have hlt:i<xs.length:=by
        have:=(List.getElem?_eq_some_iff.1 hi).1
        rw[hxl];simpa using this
      exact ⟨xs[i],by rw[hat i f (by simpa using hi)];exact Y8 hlt⟩)
    rw[List.drop_zero,←hc,←hl,List.take_length]at this;exact this⟩
theorem flat_arg{P:Program}{H:Type}{enc:TypeId×Value→H}{w:World}{base:Nat}{spare:Nat→Bool}{held:Bool}{t:TypeId}{cs:Array Value}{d:DataW H}{p:List MemPlace}{ks:List (Option IntKind)}[ht:FlatTy P t ks]
    (h:DataW.Trod enc P w base spare held t (.agg cs) d p):FlatV ks cs.toList:=by
  obtain ⟨fuel,h⟩:=h;exact ht.go enc w base spare held fuel _ _ h
def ArgS (G:Hp) (k:Nat) (a:Option Addr) (els:List (List Value)):Prop :=
  ∀i x,els[i]?=some x→x.length=k∧∃b o,∃cc:List Value,∃T f,a=some ⟨b,o,none⟩∧(b,Obj.cells cc.toArray T f)∈G∧Reads cc (o+i*k) x
theorem reads_of{c:List Value}:∀{vs:List Value} {off:Nat},(∀j v,vs[j]?=some v→c[off+j]?=some v)→Reads c off vs
  | [],_,_=>trivial
  | v::vs,off,h=>⟨by rw[nth_eq];exact h 0 v rfl,reads_of fun j u hu=>by
      have:=h (j+1) u (by simpa using hu)
      rwa [show off+(j+1)=off+1+j by omega]at this⟩
theorem cell_some{w:World}{ad:Addr}{v:Value}(h:w.cell? ad=some v):∃cc T f,w.heap[ad.block]?=some (.cells cc T f)∧ad.spot=none∧cc[ad.off]?=some v:=by
 unfold World.cell? at h
 split at h
 ·
  rename_i c T f hc
  split at h
  ·
   cases h
  ·
   rename_i hs
   exact ⟨c,T,f,hc,by simpa using hs,h⟩
 ·
  cases h
theorem add_block(a:Addr)(n:Nat):(a.add n).block=a.block:=by unfold Addr.add; split <;> rfl
theorem add_off(a:Addr)(n:Nat):(a.add n).off=a.off+n:=by unfold Addr.add; split <;> simp_all
section
variable{P:Program}{H:Type}{enc:TypeId×Value→H}{w:World}{held:Bool}{t e:TypeId}{v:Value}{d:DataW H}{p:List MemPlace}{ks:List (Option IntKind)}(hu:P.underlying t=some (.slice e))[he:FlatTy P e ks](hk:0<ks.length)
include P H enc w held t e v d p ks hu he hk
theorem flat_slice2
    (hv:∃a n c,v=.slice a n c) (h:DataW.Trod enc P w 0 (fun _=>true) held t v d p) :
    ∃a c els,v=.slice a els.length c∧els.length≤maxLen∧els.length≤c∧(∀x,x∈els→FlatV ks x)∧ArgS (allHp w) ks.length a els:=by
  obtain ⟨fuel,h⟩:=h;obtain ⟨a0,n0,c0,rfl⟩:=hv
  rcases open_slice hu h with ⟨hcs,_⟩ | ⟨a,len,cap,m,n,D,Pl,hcs,hb,hl,hm,hmm,hx,hi⟩
  · simp[Value.cells]at hcs
    obtain ⟨rfl,rfl,rfl⟩:=hcs;exact ⟨none,0,[],rfl,Nat.zero_le _,Nat.le_refl _,⟨fun x hx=>absurd hx (by simp),fun i x hx=>by simp at hx⟩⟩
  · simp[Value.cells]at hcs
    obtain ⟨rfl,rfl,rfl⟩:=hcs;have hmc:m=c0:=by simpa using hmm
    subst hmc;have hex:∀i,∃cs', i<n0→w.cells? 0 (a.add (i*P.cellsOf e)) (P.cellsOf e)=some cs' ∧ DataW.trod enc P w 0 (fun _=>true) held n e cs' = some (D i,Pl i):=fun i=>by
      by_cases h' : i<n0
      · obtain ⟨cs', h1,h2⟩:=hi i (by omega)
        exact ⟨cs', fun _=>⟨h1,h2⟩⟩
      · exact ⟨[],fun h=>absurd h h'⟩
    have hel:∀k,k≤n0→∃els:List (List Value),els.length=k∧∀i x,els[i]?=some x→w.cells? 0 (a.add (i*P.cellsOf e)) (P.cellsOf e)=some x∧DataW.trod enc P w 0 (fun _=>true) held n e x=some (D i,Pl i):=by
      intro k
      induction k with
      | zero=>intro _;exact ⟨[],rfl,fun i x hx=>by cases hx⟩
      | succ k ih =>
        intro hk';obtain ⟨els,he1,he2⟩:=ih (by omega);obtain ⟨cs', hcs'⟩:=hex k;refine ⟨els++[cs'],by simp[he1],fun i x hx=>?_⟩
        rcases Nat.lt_or_ge i els.length with h' | h'
        · rw[List.getElem?_append_left h']at hx;exact he2 i x hx
        · rw[List.getElem?_append_right h']at hx
          have:i=k:=by
            rcases Nat.lt_or_ge (i-els.length) 1 with h'' | h''
            · omega
            · rw[List.getElem?_eq_none (by simpa using h'')]at hx;cases hx
          subst this;rw[he1,Nat.sub_self]at hx;cases hx;exact hcs' (by omega)
    obtain ⟨els,he1,he2⟩:=hel n0 (Nat.le_refl _);subst he1;refine ⟨some a,m,els,rfl,by omega,by omega,fun x hx=>?_,fun i x hx=>?_⟩
    · obtain ⟨i,hi'⟩:=List.mem_iff_getElem?.1 hx
      exact he.go enc w 0 _ held n _ _ (he2 i x hi').2
    · obtain ⟨h1,h2⟩:=he2 i x hx
      have hf:=he.go enc w 0 _ held n _ _ h2
      obtain ⟨_,hlen,hat⟩:=World.cells?_some h1;rw[he.size]at hlen hat;refine ⟨hlen,?_⟩;have hcell:∀j u,x[j]?=some u→∃cc T f,w.heap[a.block]?=some (.cells cc T f)∧cc[a.off+i*ks.length+j]?=some u:=fun j u hu=>by
        have hj:j<ks.length:=by
          rcases Nat.lt_or_ge j ks.length with h' | h'
          · exact h'
          · rw[List.getElem?_eq_none (by omega)]at hu;cases hu
        have h0:=hat j hj
        rw[hu]at h0;obtain ⟨cc,T,f,h1,_,h3⟩:=cell_some h0;rw[add_block,add_block]at h1;rw[add_off,add_off]at h3;exact ⟨cc,T,f,h1,h3⟩
      have hsp0:a.spot=none:=by
        obtain ⟨x0,hx0'⟩:∃x0,els[0]?=some x0:=⟨els[0]'(by have:=(List.getElem?_eq_some_iff.1 hx).1;omega),Y8 _⟩;obtain ⟨g1,_⟩:=he2 0 x0 hx0';obtain ⟨_,hlen0,hat0⟩:=World.cells?_some g1;rw[he.size]at hlen0 hat0;have e0:=hat0 0 hk
        rw[show x0[0]?=some (x0[0]'(by omega)) from Y8 (by omega),Nat.zero_mul]at e0;obtain ⟨_,_,_,_,h2,_⟩:=cell_some e0;exact h2
      obtain ⟨cc,T,f,hb1,_⟩:=hcell 0 (x[0]'(by omega)) (Y8 _);obtain ⟨ab,ao,asp⟩:=a;dsimp only at hsp0 hcell hb1;subst hsp0;refine ⟨ab,ao,cc.toList,T,f,rfl,mem_allHp.2 (by rw[hb1]),reads_of fun j u hu=>?_⟩;obtain ⟨cc', T', f', hb2,h3⟩:=hcell j u hu;rw[hb1]at hb2;cases hb2
      simpa using h3
theorem flat_slice
    (hv:∃a n c,v=.slice a n c) (h:DataW.Trod enc P w 0 (fun _=>true) held t v d p) :
    ∃a c els,v=.slice a els.length c∧els.length≤maxLen∧(∀x,x∈els→FlatV ks x)∧ArgS (allHp w) ks.length a els:=by
  obtain ⟨a,c,els,h1,h2,_,h3,h4⟩:=flat_slice2 hu hk hv h;exact ⟨a,c,els,h1,h2,h3,h4⟩
end
end
end Go.SL
