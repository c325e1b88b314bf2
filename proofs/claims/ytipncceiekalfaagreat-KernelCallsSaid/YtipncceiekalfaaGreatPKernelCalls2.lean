/- KernelCalls. Laid together by pack.py out of the texts in wip. -/
import Derived.Test.YtipncceiekalfaaGreatPKernelCalls1
set_option linter.unusedVariables false
set_option linter.unusedSimpArgs false
set_option linter.unusedSectionVars false
section
set_option linter.unusedVariables false
set_option linter.unusedSimpArgs false
namespace Go.Proofs.YtipncceiekalfaaGreat
open Go.SL
structure CapM where
  kind : Int
  object : Int
  rights : Int
  badge : Int
  guard : Int
  bits : Int
deriving DecidableEq
abbrev CapM.zero : CapM := ⟨0, 0, 0, 0, 0, 0⟩
def CapM.nums (c : CapM) : List Int := [c.kind, c.object, c.rights, c.badge, c.guard, c.bits]
def capK : List IntKind := [.i64, .i64, .i64, .u64, .u64, .i64]
abbrev CapM.cells (c : CapM) : List Value := [.int .i64 c.kind, .int .i64 c.object, .int .i64 c.rights, .int .u64 c.badge, .int .u64 c.guard, .int .i64 c.bits]
abbrev CapM.v (c : CapM) : Value := .agg #[.int .i64 c.kind, .int .i64 c.object, .int .i64 c.rights, .int .u64 c.badge, .int .u64 c.guard, .int .i64 c.bits]
theorem CapM.ext_nums {a b : CapM} (h : a.nums = b.nums) : a = b := by
 cases a; cases b; simp [CapM.nums] at h; simp [h]
abbrev SlotM := Int × Int
abbrev slotV (s : SlotM) : Value := .agg #[.int .i64 s.1, .int .i64 s.2]
structure NodeM where
  blk : Nat
  radix : Nat
  caps : List CapM
def capsCells (l : List CapM) : List Value := l.flatMap CapM.cells
def NodeM.o (n : NodeM) : Obj := .cells (.int .i64 n.radix :: capsCells n.caps).toArray 289
structure StoreM where
  mb : Nat
  clk : Nat
  nodes : List (Int × NodeM × Nat)
def storeO (S : StoreM) : Obj := .cells [.map (some S.mb)].toArray 268
def nodeKV (l : List (Int × NodeM × Nat)) : List (Int × Value × Nat) := l.map fun e => (e.1, .pointer (some ⟨e.2.1.blk, 0, none⟩), e.2.2)
def StoreM.mapo (S : StoreM) : Obj := mapO encI (nodeKV S.nodes) S.clk
def nodesHp (l : List (Int × NodeM × Nat)) : Hp := l.map fun e => (e.2.1.blk, e.2.1.o)
def storeHp (sb : Nat) (S : StoreM) : Hp := (sb, storeO S) :: (S.mb, S.mapo) :: nodesHp S.nodes
def nget (id : Int) : List (Int × NodeM × Nat) → Option NodeM
  | [] => none
  | e :: l => if id = e.1 then some e.2.1 else nget id l
theorem mget_nodeKV (id : Int) : ∀ l, mget id (nodeKV l) = (nget id l).map fun n => .pointer (some ⟨n.blk, 0, none⟩)
  | [] => rfl
  | e :: l => by
    simp only [nodeKV, List.map_cons, mget, nget]
    split
    · rfl
    · exact mget_nodeKV id l
theorem nget_split {id : Int} {n : NodeM} : ∀ {l}, nget id l = some n → ∃ A t B, l = A ++ (id, n, t) :: B ∧ nget id A = none
  | [], h => by cases h
  | e :: l, h => by
    simp only [nget] at h
    split at h
    · rename_i hid
      cases h
      obtain ⟨i, m, t⟩ := e
      simp only at hid
      subst hid
      exact ⟨[], t, l, rfl, rfl⟩
    · rename_i hid
      obtain ⟨A, t, B, rfl, hA⟩ := nget_split h
      exact ⟨e :: A, t, B, rfl, by simp [nget, hid, hA]⟩
theorem reads_app {c : List Value} {off : Nat} {vs : List Value} (A B : List Value) (h : c = A ++ vs ++ B) (ho : A.length = off) : Reads c off vs := by
 subst h; subst ho
 induction vs generalizing A with
 | nil => trivial
 | cons v vs ih =>
  refine ⟨by rw [nth_eq]; simp, ?_⟩
  have := ih (A ++ [v])
  simpa using this
theorem capsCells_split {l : List CapM} {i : Nat} {c : CapM} (h : l[i]? = some c) : capsCells l = capsCells (l.take i) ++ c.cells ++ capsCells (l.drop (i + 1)) := by
 have hlt : i < l.length := by
  rcases Nat.lt_or_ge i l.length with h' | h'
  ·
   exact h'
  ·
   rw [List.getElem?_eq_none h'] at h; cases h
 have he : l[i] = c := by rw [List.getElem?_eq_getElem hlt] at h; exact Option.some.inj h
 conv => lhs; rw [← List.take_append_drop i l, List.drop_eq_getElem_cons hlt, he]
 simp [capsCells, List.flatMap_append]
theorem capsCells_len : ∀ l : List CapM, (capsCells l).length = 6 * l.length
  | [] => rfl
  | c :: l => by
    have ih := capsCells_len l
    have e : capsCells (c :: l) = c.cells ++ capsCells l := rfl
    rw [e, List.length_append, ih]
    simp [CapM.cells]; omega
theorem NodeM.reads {n : NodeM} {i : Nat} {c : CapM} (h : n.caps[i]? = some c) : Reads (.int .i64 n.radix :: capsCells n.caps) (1 + i * 6) c.cells := by
 have hlt : i < n.caps.length := by
  rcases Nat.lt_or_ge i n.caps.length with h' | h'
  ·
   exact h'
  ·
   rw [List.getElem?_eq_none h'] at h; cases h
 refine reads_app (.int .i64 n.radix :: capsCells (n.caps.take i)) (capsCells (n.caps.drop (i + 1))) ?_ ?_
 ·
  rw [capsCells_split h]; simp
 ·
  simp [capsCells_len, Nat.min_eq_left (Nat.le_of_lt hlt)]; omega
theorem sh_one {r : Nat} (h : r ≤ 4) : Value.int .i64 (IntKind.i64.wrap (1 * 2 ^ (min (r : Int).toNat IntKind.i64.bits))) = .int .i64 ((2 ^ r : Nat) : Int) := by
 match r, h with
 | 0, _ => rfl
 | 1, _ => rfl
 | 2, _ => rfl
 | 3, _ => rfl
 | 4, _ => rfl
def rightsOk (r : Int) : Bool := decide (bitsI .andNot .i64 r 7 = 0)
def fitsM (g n : Int) : Bool := decide (0 ≤ n) && (decide (n ≤ 16) && decide (g.fdiv (2 ^ (min n.toNat 64)) = 0))
def plainM (c : CapM) : CapM :=
  if c.kind = 0 ∨ c.kind = 10 then ⟨c.kind, 0, 0, 0, 0, 0⟩
  else if c.kind = 4 ∨ c.kind = 5 then ⟨c.kind, c.object, c.rights, c.badge, 0, 0⟩
  else if c.kind = 6 then ⟨c.kind, c.object, c.rights, 0, 0, 0⟩
  else if c.kind = 2 then ⟨c.kind, c.object, 0, 0, c.guard, c.bits⟩
  else ⟨c.kind, c.object, 0, 0, 0, 0⟩
def checkM (c : CapM) : Int :=
  if c.kind < 0 ∨ 11 < c.kind then 2
  else if plainM c ≠ c ∨ c.object < 0 ∨ c.object.fdiv (2 ^ 6) ≠ 0 ∨ rightsOk c.rights = false ∨ c.badge.fdiv (2 ^ 28) ≠ 0 ∨ fitsM c.guard c.bits = false then 10 else 0
section capops
variable {P : Program} {n : Nat} {D : List Deferred} {E : Env} {L : Hp} {d : Option Tmp} {ty : TypeId} {pos : String} {aft : Array Edge} {g : Option (Nat × Bool)} {T : TypeId} {x y : Operand} {yt : TypeId}
theorem nums_iff {a b : CapM} : a.nums = b.nums ↔ a = b := ⟨CapM.ext_nums, fun h => by rw [h]⟩
theorem pv_neq_cap {a b : CapM} [hT : NumTy P T capK] (hx : ev E x = some a.v) (hy : ev E y = some b.v) : Pv P n D E L ⟨d, .binOp .neq T x y yt, ty, pos, aft, g⟩ (.bool (decide (a ≠ b))) := by
 have := pv_neq_nums (P := P) (n := n) (D := D) (L := L) (d := d) (ty := ty) (pos := pos) (aft := aft) (g := g) (T := T) (yt := yt) a.nums b.nums hx hy rfl rfl
 rwa [decide_eq_decide.2 (not_congr (nums_iff (a := a) (b := b)))] at this
end capops
def zeroCaps : List CapM := List.replicate 16 CapM.zero
structure NodeM.Wf (n : NodeM) : Prop where
  len : n.caps.length = 16
  lo : 1 ≤ n.radix
  hi : n.radix ≤ 4
def StoreM.Wf (S : StoreM) : Prop := ∀ id n, nget id S.nodes = some n → n.Wf ∧ 0 ≤ id ∧ id < 64
def NodeM.has (n : NodeM) (i : Int) : Prop := 0 ≤ i ∧ i < (2 ^ n.radix : Nat)
instance (n : NodeM) (i : Int) : Decidable (n.has i) := inferInstanceAs (Decidable (_ ∧ _))
def StoreM.cap? (S : StoreM) (s : SlotM) : Option CapM :=
  match nget s.1 S.nodes with
  | none => none
  | some n => if n.has s.2 then n.caps[s.2.toNat]? else none
def StoreM.addr (S : StoreM) (s : SlotM) : Option Addr :=
  match nget s.1 S.nodes with
  | none => none
  | some n => if n.has s.2 then some ⟨n.blk, 1 + s.2.toNat * 6, none⟩ else none
theorem NodeM.Wf.lt {n : NodeM} (h : n.Wf) {i : Int} (hi : n.has i) : i.toNat < 16 := by
 have h1 : (2 : Nat) ^ n.radix ≤ 2 ^ 4 := Nat.pow_le_pow_right (by omega) h.hi
 unfold NodeM.has at hi
 omega
instance {sb : Nat} {S : StoreM} : Blk (storeHp sb S) sb (.cells [.map (some S.mb)].toArray 268 (0, 0)) := ⟨List.mem_cons_self ..⟩
instance {sb : Nat} {S : StoreM} : Blk (storeHp sb S) S.mb (mapO encI (nodeKV S.nodes) S.clk) := ⟨List.mem_cons_of_mem _ (List.mem_cons_self ..)⟩
theorem nodesHp_mem {id : Int} {n : NodeM} {l : List (Int × NodeM × Nat)} (h : nget id l = some n) : (n.blk, n.o) ∈ nodesHp l := by
 obtain ⟨A, t, B, rfl, _⟩ := nget_split h
 simp [nodesHp]
theorem StoreM.blk {sb : Nat} {S : StoreM} {id : Int} {n : NodeM} (h : nget id S.nodes = some n) : Blk (storeHp sb S) n.blk (.cells (.int .i64 n.radix :: capsCells n.caps).toArray 289 (0, 0)) :=
  ⟨List.mem_cons_of_mem _ (List.mem_cons_of_mem _ (nodesHp_mem h))⟩
def nset (id : Int) (n' : NodeM) : List (Int × NodeM × Nat) → List (Int × NodeM × Nat)
  | [] => []
  | e :: l => if id = e.1 then (e.1, n', e.2.2) :: l else e :: nset id n' l
theorem nset_split {id : Int} {n n' : NodeM} : ∀ {A : List (Int × NodeM × Nat)} {t : Nat} {B}, nget id A = none → nset id n' (A ++ (id, n, t) :: B) = A ++ (id, n', t) :: B
  | [], t, B, _ => by simp [nset]
  | e :: A, t, B, h => by
    simp only [nget] at h
    split at h
    · cases h
    · rename_i hid
      simp only [List.cons_append, nset, hid, if_false]
      rw [nset_split h]
theorem nodeKV_nset {id : Int} {n n' : NodeM} (hb : n'.blk = n.blk) : ∀ {l}, nget id l = some n → nodeKV (nset id n' l) = nodeKV l
  | [], h => by cases h
  | e :: l, h => by
    simp only [nget] at h
    simp only [nset]
    split at h
    · rename_i hid; cases h; simp [hid, nodeKV, hb]
    · rename_i hid
      have := nodeKV_nset hb h
      simp only [hid, if_false, nodeKV, List.map_cons] at this ⊢
      rw [this]
def StoreM.setNode (S : StoreM) (id : Int) (n' : NodeM) : StoreM := { S with nodes := nset id n' S.nodes }
theorem StoreM.upd {sb : Nat} {S : StoreM} {id : Int} {n n' : NodeM} (h : nget id S.nodes = some n) (hb : n'.blk = n.blk) {o' : Obj} (ho : o' = n'.o) : Upd (storeHp sb S) n.blk o' (storeHp sb (S.setNode id n')) := by
 subst ho
 have hk := nodeKV_nset hb h
 obtain ⟨A, t, B, hl, hA⟩ := nget_split h
 refine ⟨(sb, storeO S) :: (S.mb, S.mapo) :: nodesHp A, nodesHp B, n.o, ?_, ?_⟩
 ·
  simp [storeHp, hl, nodesHp]
 ·
  have e1 : (S.setNode id n').nodes = A ++ (id, n', t) :: B := by simp only [StoreM.setNode]; rw [hl, nset_split hA]
  have e2 : (S.setNode id n').mapo = S.mapo := by simp only [StoreM.mapo]; rw [show (S.setNode id n').nodes = nset id n' S.nodes from rfl, hk]; rfl
  have e3 : storeO (S.setNode id n') = storeO S := rfl
  have e4 : (S.setNode id n').mb = S.mb := rfl
  simp only [storeHp, e1, e2, e3, e4, nodesHp, List.map_append, List.map_cons, hb]
  rfl
theorem setL_of {l l' vs : List Value} {i : Nat} (A B : List Value) (vs0 : List Value) (h : l = A ++ vs0 ++ B) (h' : l' = A ++ vs ++ B) (hi : A.length = i) (hv : vs0.length = vs.length) : SetL l i vs l' := by
 subst h; subst h'; subst hi
 refine ⟨by simp [hv], by simp [hv], fun j => ?_⟩
 by_cases h1 : j < A.length
 ·
  rw [if_neg (by omega), List.append_assoc, List.append_assoc, List.getElem?_append_left h1, List.getElem?_append_left h1]
 ·
  by_cases h2 : j < A.length + vs.length
  ·
   rw [if_pos (by omega), List.append_assoc, List.getElem?_append_right (by omega), List.getElem?_append_left (by omega)]
  ·
   rw [if_neg (by omega), List.getElem?_append_right (by simp; omega), List.getElem?_append_right (by simp; omega)]
   simp [hv]
theorem capsCells_set {l : List CapM} {i : Nat} {c c' : CapM} (h : l[i]? = some c) : capsCells (l.set i c') = capsCells (l.take i) ++ c'.cells ++ capsCells (l.drop (i + 1)) := by
 have hlt : i < l.length := by
  rcases Nat.lt_or_ge i l.length with h' | h'
  ·
   exact h'
  ·
   rw [List.getElem?_eq_none h'] at h; cases h
 rw [List.set_eq_take_append_cons_drop, if_pos hlt]
 simp [capsCells, List.flatMap_append]
theorem NodeM.setL {n : NodeM} {i : Nat} {c c' : CapM} (h : n.caps[i]? = some c) : SetL (.int .i64 n.radix :: capsCells n.caps) (1 + i * 6) c'.cells (.int .i64 n.radix :: capsCells (n.caps.set i c')) := by
 have hlt : i < n.caps.length := by
  rcases Nat.lt_or_ge i n.caps.length with h' | h'
  ·
   exact h'
  ·
   rw [List.getElem?_eq_none h'] at h; cases h
 refine setL_of (.int .i64 n.radix :: capsCells (n.caps.take i)) (capsCells (n.caps.drop (i + 1))) c.cells ?_ ?_ ?_ rfl
 ·
  rw [capsCells_split h]; simp
 ·
  rw [capsCells_set h]; simp
 ·
  simp [capsCells_len, Nat.min_eq_left (Nat.le_of_lt hlt)]; omega
def NodeM.set (n : NodeM) (i : Nat) (c : CapM) : NodeM := { n with caps := n.caps.set i c }
def StoreM.setCap (S : StoreM) (s : SlotM) (c : CapM) : StoreM :=
  match nget s.1 S.nodes with
  | none => S
  | some n => S.setNode s.1 (n.set s.2.toNat c)
theorem StoreM.cap_some {S : StoreM} {s : SlotM} {c : CapM} (h : S.cap? s = some c) : ∃ n, nget s.1 S.nodes = some n ∧ n.has s.2 ∧ n.caps[s.2.toNat]? = some c ∧ S.addr s = some ⟨n.blk, 1 + s.2.toNat * 6, none⟩ := by
 unfold StoreM.cap? at h
 unfold StoreM.addr
 cases hn : nget s.1 S.nodes with
 | none => rw [hn] at h; cases h
 | some n =>
  rw [hn] at h
  simp only at h ⊢
  split at h
  ·
   rename_i hh; exact ⟨n, rfl, hh, h, if_pos hh⟩
  ·
   cases h
theorem StoreM.cap_none {S : StoreM} {s : SlotM} (hw : S.Wf) (h : S.cap? s = none) : S.addr s = none := by
 unfold StoreM.cap? at h
 unfold StoreM.addr
 cases hn : nget s.1 S.nodes with
 | none => rfl
 | some n =>
  rw [hn] at h
  simp only at h ⊢
  split at h
  ·
   rename_i hh
   have h1 := (hw _ _ hn).1
   have h2 := h1.lt hh
   rw [List.getElem?_eq_none_iff] at h
   rw [h1.len] at h
   omega
  ·
   rename_i hh; exact if_neg hh
theorem StoreM.setCap_eq {S : StoreM} {s : SlotM} {n : NodeM} (h : nget s.1 S.nodes = some n) (c : CapM) : S.setNode s.1 (n.set s.2.toNat c) = S.setCap s c := by
 unfold StoreM.setCap; rw [h]
def StoreM.put (S : StoreM) (s : SlotM) (c : CapM) : Int × StoreM :=
  match S.cap? s with
  | none => (6, S)
  | some x => if checkM c ≠ 0 then (checkM c, S) else if c.kind = 0 then (3, S) else if x.kind ≠ 0 then (4, S) else (0, S.setCap s c)
def StoreM.take (S : StoreM) (s : SlotM) : CapM × Int × StoreM :=
  match S.cap? s with
  | none => (CapM.zero, 6, S)
  | some x => if x.kind = 0 then (CapM.zero, 3, S) else (x, 0, S.setCap s CapM.zero)
def StoreM.get (S : StoreM) (s : SlotM) : CapM × Int :=
  match S.cap? s with
  | none => (CapM.zero, 6)
  | some x => (x, 0)
def StoreM.radix (S : StoreM) (id : Int) : Int :=
  match nget id S.nodes with
  | none => 0
  | some n => n.radix
theorem mput_new {id : Int} {v : Value} {t : Nat} : ∀ {l : List (Int × NodeM × Nat)}, nget id l = none → mput id v t (nodeKV l) = nodeKV l ++ [(id, v, t)]
  | [], _ => rfl
  | e :: l, h => by
    simp only [nget] at h
    split at h
    · cases h
    · rename_i hid
      have := mput_new (v := v) (t := t) h
      simp only [nodeKV, List.map_cons, mput, hid, if_false, List.cons_append] at this ⊢
      rw [this]
theorem mclk_new {id : Int} {cl : Nat} {l : List (Int × NodeM × Nat)} (h : nget id l = none) : mclk id (nodeKV l) cl = cl + 1 := by
 simp [mclk, mget_nodeKV, h]
def StoreM.addNode (S : StoreM) (id : Int) (b r : Nat) : StoreM := { S with nodes := S.nodes ++ [(id, ⟨b, r, zeroCaps⟩, S.clk)], clk := S.clk + 1 }
def storeMapU (sb : Nat) (S : StoreM) (o : Obj) : Hp := (sb, storeO S) :: (S.mb, o) :: nodesHp S.nodes
theorem StoreM.updMap {sb : Nat} {S : StoreM} {o : Obj} : Upd (storeHp sb S) S.mb o (storeMapU sb S o) := ⟨[(sb, storeO S)], nodesHp S.nodes, S.mapo, rfl, rfl⟩
theorem StoreM.add_perm {sb b r : Nat} {S : StoreM} {id : Int} {F : Hp} (h : nget id S.nodes = none) :
    ((b, .cells (.int .i64 (r : Int) :: capsCells zeroCaps).toArray 289) :: (storeMapU sb S (mapO encI (mput id (.pointer (some ⟨b, 0, none⟩)) S.clk (nodeKV S.nodes)) (mclk id (nodeKV S.nodes) S.clk)) ++ F)).Perm (storeHp sb (S.addNode id b r) ++ F) := by
  rw [mput_new h, mclk_new h]
  have e : storeHp sb (S.addNode id b r) = storeMapU sb S (mapO encI (nodeKV S.nodes ++ [(id, .pointer (some ⟨b, 0, none⟩), S.clk)]) (S.clk + 1)) ++ [(b, .cells (.int .i64 (r : Int) :: capsCells zeroCaps).toArray 289)] := by
    simp [storeHp, storeMapU, StoreM.addNode, StoreM.mapo, nodeKV, nodesHp, storeO, NodeM.o]
  rw [e, ← List.cons_append]
  exact (List.perm_append_singleton _ _).symm.append_right F
instance tyZNode : TyZ Tryz.prog 289 (.agg (.int .i64 0 :: capsCells zeroCaps).toArray) := ⟨by kernel_rfl⟩
theorem nget_app_none {id : Int} {l m : List (Int × NodeM × Nat)} (h : nget id l = none) : nget id (l ++ m) = nget id m := by
 induction l with
 | nil => rfl
 | cons e l ih =>
  simp only [nget] at h
  split at h
  ·
   cases h
  ·
   rename_i hid; simp [nget, hid, ih h]
theorem nget_app_some {id : Int} {n : NodeM} {l m : List (Int × NodeM × Nat)} (h : nget id l = some n) : nget id (l ++ m) = some n := by
 induction l with
 | nil => cases h
 | cons e l ih =>
  simp only [nget] at h
  simp only [List.cons_append, nget]
  split at h
  ·
   rename_i hid; rw [if_pos hid]; exact h
  ·
   rename_i hid; rw [if_neg hid]; exact ih h
end Go.Proofs.YtipncceiekalfaaGreat
end
section
set_option linter.unusedVariables false
set_option linter.unusedSimpArgs false
namespace Go.Proofs.YtipncceiekalfaaGreat
open Go.SL
theorem tr_rightsOk (r : Int) : TrR Tryz.prog 207 [.int .i64 r] ([]) (.bool (rightsOk r)) := by
 refine Tr.enter Tryz.func207 rfl Tryz.ntmps207 rfl (fun W F => ?_)
 refine Wp.app ?_
 refine zq [3,4,1,2,5,3,4,0] ?_
 refine Ops.pv (pv_andNot rfl rfl rfl) rfl ?_
 refine zq [22,1,2,5,10] ?_
 exact zr ⟨rfl, rfl⟩
theorem tr_fits (gd n : Int) : TrR Tryz.prog 208 [.int .u64 gd, .int .i64 n] ([]) (.bool (fitsM gd n)) := by
 refine Tr.enter Tryz.func208 rfl Tryz.ntmps208 rfl (fun W F => ?_)
 refine Wp.app ?_
 refine zq [3,4,1,2,5,3,4,0,43,0] ?_
 refine Ops.split (t := 7) rfl (fun h1 => ?_) (fun h1 => ?_)
 ·
  refine zq [21] ?_
  refine Ops.pvg ⟨_, _, rfl, rfl, rfl⟩ (pv_leq rfl rfl) rfl ?_
  refine zq [24,0] ?_
  refine Ops.split (t := 11) rfl (fun h2 => ?_) (fun h2 => ?_)
  ·
   refine zq [21,21] ?_
   refine Ops.pvg ⟨_, _, rfl, rfl, rfl⟩ (pv_shr rfl rfl (by omega) rfl) rfl ?_
   refine Ops.pvg ⟨_, _, rfl, rfl, rfl⟩ (pv_eql rfl rfl) rfl ?_
   refine zq [24,1,2,5,10] ?_
   exact Ends.ret (res1 rfl rfl) ⟨by simp [fitsM, IntKind.bits, *] <;> rfl, rfl⟩
  refine zq [13,13,13,13,26,1,2,5,10] ?_
  exact Ends.ret (res1 rfl rfl) ⟨by simp [fitsM, IntKind.bits, *] <;> rfl, rfl⟩
 refine zq [13,13,26,0,13,13,13,13,26,1,2,5,10] ?_
 exact Ends.ret (res1 rfl rfl) ⟨by simp [fitsM, IntKind.bits, *] <;> rfl, rfl⟩
theorem tr_plain (c : CapM) : TrR Tryz.prog 206 [c.v] ([]) ((plainM c).v) := by
 refine Tr.enter Tryz.func206 rfl Tryz.ntmps206 rfl (fun W F => ?_)
 refine Wp.app ?_
 refine Wr ?_
 refine zB fun b1 => ?_
 refine zA fun b2 => ?_
 refine zq [2,5,3,4,6,8,23] ?_
 refine zA fun b3 => ?_
 refine zq [14,2,5,3,3,4,6,8,2,5,20,3,3,4,22,1,2,5] ?_
 refine Wp.cond_dect rfl (fun h1 => ?_) (fun h1 => ?_)
 ·
  refine zq [11,5,18,11,19,5,3,4,32,14,2,5,10] ?_
  exact Ends.ret (res_one rfl (rv_cellK [_, _, _, _, _, _] rfl rfl rfl ⟨rfl, rfl, rfl, rfl, rfl, rfl, trivial⟩)) ⟨by simp [plainM, *], rfl⟩
 refine zq [4,22,1,2,5] ?_
 refine Wp.cond_dect rfl (fun h2 => ?_) (fun h2 => ?_)
 ·
  refine zq [11,19,5,3,4,32,14,2,5,10] ?_
  exact Ends.ret (res_one rfl (rv_cellK [_, _, _, _, _, _] rfl rfl rfl ⟨rfl, rfl, rfl, rfl, rfl, rfl, trivial⟩)) ⟨by simp [plainM, *], rfl⟩
 refine zq [3,3,4,22,1,2,5] ?_
 refine Wp.cond_dect rfl (fun h3 => ?_) (fun h3 => ?_)
 ·
  refine zq [11,5,18] ?_
  refine AnyH.start [(b1, .cells c.cells.toArray 70)] 12 rfl ?_
  refine zd [0,0,1,2,2,0,3,2,4,0,5,2,6,0] ?_
  refine z1 7 ?_
  refine zd [8,0] ?_
  refine z1 9 ?_
  refine zd [10,0] ?_
  refine z1 11 ?_
  refine AnyH.done (by kernel_rfl) ?_
  refine zq [19,5,3,4,32,14,2,5,10] ?_
  exact Ends.ret (res_one rfl (rv_cellK [_, _, _, _, _, _] rfl rfl rfl ⟨rfl, rfl, rfl, rfl, rfl, rfl, trivial⟩)) ⟨by simp [plainM, *], rfl⟩
 refine zq [4,22,1,2,5] ?_
 refine Wp.cond_dect rfl (fun h4 => ?_) (fun h4 => ?_)
 ·
  refine AnyH.start [(b1, .cells c.cells.toArray 70)] 12 rfl ?_
  refine zd [0,0,1,2,2,0,3,2,4,0,5,2,6,0] ?_
  refine z1 7 ?_
  refine zd [8,0] ?_
  refine z1 9 ?_
  refine zd [10,0] ?_
  refine z1 11 ?_
  refine AnyH.done (by kernel_rfl) ?_
  refine zq [19,5,3,4,32,14,2,5,10] ?_
  exact Ends.ret (res_one rfl (rv_cellK [_, _, _, _, _, _] rfl rfl rfl ⟨rfl, rfl, rfl, rfl, rfl, rfl, trivial⟩)) ⟨by simp [plainM, *], rfl⟩
 refine zq [3,4,22,1,2,5] ?_
 refine Wp.cond_dect rfl (fun h5 => ?_) (fun h5 => ?_)
 ·
  refine AnyH.start [(b1, .cells c.cells.toArray 70)] 8 rfl ?_
  refine zd [0,0,1,2,2,0,3,2,4,0] ?_
  refine z1 5 ?_
  refine zd [6,0] ?_
  refine z1 7 ?_
  refine AnyH.done (by kernel_rfl) ?_
  refine zq [19,5,3,4,32,14,2,5,10] ?_
  exact Ends.ret (res_one rfl (rv_cellK [_, _, _, _, _, _] rfl rfl rfl ⟨rfl, rfl, rfl, rfl, rfl, rfl, trivial⟩)) ⟨by simp [plainM, *], rfl⟩
 refine zq [3,4,22,1,2,5] ?_
 refine Wp.cond_dect rfl (fun h6 => ?_) (fun h6 => ?_)
 ·
  refine AnyH.start [(b1, .cells c.cells.toArray 70)] 12 rfl ?_
  refine zd [0,0,1,2,2,0,3,2,4,0,5,2,6,0] ?_
  refine z1 7 ?_
  refine zd [8,0] ?_
  refine z1 9 ?_
  refine zd [10,0] ?_
  refine z1 11 ?_
  refine AnyH.done (by kernel_rfl) ?_
  refine zq [19,5,3,4,32,14,2,5,10] ?_
  exact Ends.ret (res_one rfl (rv_cellK [_, _, _, _, _, _] rfl rfl rfl ⟨rfl, rfl, rfl, rfl, rfl, rfl, trivial⟩)) ⟨by simp [plainM, *], rfl⟩
 refine zq [4,6,8,6,25,2,19,5,3,4,32,14,2,5,10] ?_
 exact Ends.ret (res_one rfl (rv_cellK [_, _, _, _, _, _] rfl rfl rfl ⟨rfl, rfl, rfl, rfl, rfl, rfl, trivial⟩)) ⟨by simp [plainM, *], rfl⟩
theorem tr_check (c : CapM) : TrR Tryz.prog 168 [c.v] ([]) (.int .i64 (checkM c)) := by
 refine Tr.enter Tryz.func168 rfl Tryz.ntmps168 rfl (fun W F => ?_)
 refine Wp.app ?_
 refine Wr ?_
 refine zB fun b1 => ?_
 refine zq [1,2,5,3,20,3,4,6,8,42,0] ?_
 refine Ops.split (t := 7) rfl (fun h1 => ?_) (fun h1 => ?_)
 ·
  refine zq [13,13,13,24,1,2,5,18,3,4,1,2,5,10,15,12] ?_
  exact Ends.ret (res1 rfl rfl) ⟨by (first | (simp_all [checkM, rightsOk, IntKind.bits]; done) | (simp_all [checkM, rightsOk, IntKind.bits]; omega) | (simp_all [checkM, rightsOk, IntKind.bits]; intros; omega)), rfl⟩
 refine zq [50,51] ?_
 refine Ops.pvg ⟨_, _, rfl, rfl, rfl⟩ (pv_gtr rfl rfl) rfl ?_
 refine zq [26,1,2,5] ?_
 refine Wp.cond_dect rfl (fun h2 => ?_) (fun h2 => ?_)
 ·
  refine zq [3,4,1,2,5,10,15,12] ?_
  exact Ends.ret (res1 rfl rfl) ⟨by (first | (simp_all [checkM, rightsOk, IntKind.bits]; done) | (simp_all [checkM, rightsOk, IntKind.bits]; omega) | (simp_all [checkM, rightsOk, IntKind.bits]; intros; omega)), rfl⟩
 refine zq [3,3] ?_
 refine AnyH.startL 5 rfl ?_
 refine zd [0,11,2,11] ?_
 refine AnyH.one 1 (by kernel_rfl) ?_
 refine Turn.ef rfl rfl (ef_callr (tr_plain c) rfl rfl) ?_ ?_
 ·
  rintro _ _ ⟨rfl, rfl⟩; infer_instance
 rintro _ _ ⟨rfl, rfl⟩
 refine Tk 3 rfl rfl (pv_neq_cap rfl rfl) rfl ?_
 refine zd [4,5] ?_
 refine AnyH.done (by kernel_rfl) ?_
 refine Ends.seq ?_
 refine Wp.cond_t rfl (fun h3 => ?_) (fun h3 => ?_)
 ·
  refine zq [11,5,18,3,4,1,2,5,10,15,12] ?_
  exact Ends.ret (res1 rfl rfl) ⟨by (first | (simp_all [checkM, rightsOk, IntKind.bits]; done) | (simp_all [checkM, rightsOk, IntKind.bits]; omega) | (simp_all [checkM, rightsOk, IntKind.bits]; intros; omega)), rfl⟩
 refine zq [3,4,6,8,42,0] ?_
 refine Ops.split (t := 20) rfl (fun h4 => ?_) (fun h4 => ?_)
 ·
  refine zq [13,13,13,13,24,1,2,5,18,11,5,18,3,4,1,2,5,10,15,12] ?_
  exact Ends.ret (res1 rfl rfl) ⟨by (first | (simp_all [checkM, rightsOk, IntKind.bits]; done) | (simp_all [checkM, rightsOk, IntKind.bits]; omega) | (simp_all [checkM, rightsOk, IntKind.bits]; intros; omega)), rfl⟩
 refine zq [50,51] ?_
 refine Ops.pvg ⟨_, _, rfl, rfl, rfl⟩ (pv_shr rfl rfl (by omega) rfl) rfl ?_
 refine Ops.pvg ⟨_, _, rfl, rfl, rfl⟩ (pv_neq rfl rfl) rfl ?_
 refine zq [26,1,2,5] ?_
 refine Wp.cond_t rfl (fun h5 => ?_) (fun h5 => ?_)
 ·
  refine zq [11,5,18,3,4,1,2,5,10,15,12] ?_
  exact Ends.ret (res1 rfl rfl) ⟨by (first | (simp_all [checkM, rightsOk, IntKind.bits]; done) | (simp_all [checkM, rightsOk, IntKind.bits]; omega) | (simp_all [checkM, rightsOk, IntKind.bits]; intros; omega)), rfl⟩
 refine zq [3,4,6,8] ?_
 refine zC (tr_rightsOk _) ?_
 refine zq [55,1,2,5] ?_
 refine Wp.cond_t rfl (fun h6 => ?_) (fun h6 => ?_)
 ·
  refine zq [11,5,18,3,4,1,2,5,10,15,12] ?_
  exact Ends.ret (res1 rfl rfl) ⟨by (first | (simp_all [checkM, rightsOk, IntKind.bits]; done) | (simp_all [checkM, rightsOk, IntKind.bits]; omega) | (simp_all [checkM, rightsOk, IntKind.bits]; intros; omega)), rfl⟩
 refine zq [3,4,6,8] ?_
 refine Ops.pv (pv_shr rfl rfl (by omega) rfl) rfl ?_
 refine zq [27,1,2,5] ?_
 refine Wp.cond_t rfl (fun h7 => ?_) (fun h7 => ?_)
 ·
  refine zq [11,5,18,3,4,1,2,5,10,15,12] ?_
  exact Ends.ret (res1 rfl rfl) ⟨by (first | (simp_all [checkM, rightsOk, IntKind.bits]; done) | (simp_all [checkM, rightsOk, IntKind.bits]; omega) | (simp_all [checkM, rightsOk, IntKind.bits]; intros; omega)), rfl⟩
 refine zq [4,6,8,6,8] ?_
 refine zC (tr_fits _ _) ?_
 refine zq [39,1,2,5] ?_
 refine Wp.cond_t rfl (fun h8 => ?_) (fun h8 => ?_)
 ·
  refine zq [3,4,1,2,5,10,15,12] ?_
  exact Ends.ret (res1 rfl rfl) ⟨by (first | (simp_all [checkM, rightsOk, IntKind.bits]; done) | (simp_all [checkM, rightsOk, IntKind.bits]; omega) | (simp_all [checkM, rightsOk, IntKind.bits]; intros; omega)), rfl⟩
 refine zq [11,19,5,3,4,1,2,5,10] ?_
 exact Ends.ret (res1 rfl rfl) ⟨by (first | (simp_all [checkM, rightsOk, IntKind.bits]; done) | (simp_all [checkM, rightsOk, IntKind.bits]; omega) | (simp_all [checkM, rightsOk, IntKind.bits]; intros; omega)), rfl⟩
theorem tr_size (b : Nat) (n : NodeM) (h : n.radix ≤ 4) : TrR Tryz.prog 205 [.pointer (some ⟨b, 0, none⟩)] ([(b, .cells (.int .i64 n.radix :: capsCells n.caps).toArray 289)]) (.int .i64 (2 ^ n.radix : Nat)) := by
 refine Tr.enter Tryz.func205 rfl Tryz.ntmps205 rfl (fun W F => ?_)
 refine Wp.app ?_
 refine zq [3,4,1,2,5,3,4,0,9,6,8] ?_
 refine Ops.pv (pv_shl rfl rfl (by omega) rfl) rfl ?_
 refine zq [1,2,5,10] ?_
 exact Ends.ret (res1 rfl rfl) ⟨sh_one h, rfl⟩
theorem tr_slot_none (sb : Nat) (S : StoreM) (s : SlotM) (h : nget s.1 S.nodes = none) : TrR Tryz.prog 164 [.pointer (some ⟨sb, 0, none⟩), slotV s] (storeHp sb S) (.pointer none) := by
 have hm : (mget s.1 (nodeKV S.nodes)).getD (.pointer none) = .pointer none := by rw [mget_nodeKV, h]; rfl
 refine Tr.enter Tryz.func164 rfl Tryz.ntmps164 rfl (fun W F => ?_)
 refine Wp.app ?_
 refine Wr ?_
 refine zB fun b1 => ?_
 refine zq [1,2,5,3] ?_
 refine AnyH.startL 8 rfl ?_
 refine zd [0,1,1,3,2,0,3,2,4,0,5,2] ?_
 refine Tk 6 rfl rfl (pv_lookup_i s.1 rfl rfl hm) rfl ?_
 refine zd [7,5] ?_
 refine AnyH.done (by kernel_rfl) ?_
 refine zq [5,3,3] ?_
 refine AnyH.startL 14 rfl ?_
 refine zd [0,1] ?_
 refine Tk 1 rfl rfl (pv_eql_nil rfl rfl) rfl ?_
 refine zd [2,1] ?_
 refine Ts 3 rfl ⟨_, _, rfl, rfl, rfl⟩ rfl ?_
 refine Ts 4 rfl ⟨_, _, rfl, rfl, rfl⟩ rfl ?_
 refine Ts 5 rfl ⟨_, _, rfl, rfl, rfl⟩ rfl ?_
 refine Tk 6 rfl rfl (pv_pick_true rfl rfl) rfl ?_
 refine zd [7,1] ?_
 refine Ts 8 rfl ⟨_, _, rfl, rfl, rfl⟩ rfl ?_
 refine Ts 9 rfl ⟨_, _, rfl, rfl, rfl⟩ rfl ?_
 refine Ts 10 rfl ⟨_, _, rfl, rfl, rfl⟩ rfl ?_
 refine Ts 11 rfl ⟨_, _, rfl, rfl, rfl⟩ rfl ?_
 refine Ts 12 rfl ⟨_, _, rfl, rfl, rfl⟩ rfl ?_
 refine Tk 13 rfl rfl (pv_pick_true rfl rfl) rfl ?_
 refine AnyH.done (by kernel_rfl) ?_
 refine zq [5,18,3,4,1,2,5,10,12] ?_
 exact zr ⟨rfl, rfl⟩
theorem tr_slot_node (sb : Nat) (S : StoreM) (s : SlotM) (n : NodeM) (h : nget s.1 S.nodes = some n) (hw : n.Wf) : TrR Tryz.prog 164 [.pointer (some ⟨sb, 0, none⟩), slotV s] (storeHp sb S) (.pointer (if n.has s.2 then some ⟨n.blk, 1 + s.2.toNat * 6, none⟩ else none)) := by
 have hm : (mget s.1 (nodeKV S.nodes)).getD (.pointer none) = .pointer (some ⟨n.blk, 0, none⟩) := by rw [mget_nodeKV, h]; rfl
 have hblk := S.blk (sb := sb) h
 have hlt := @NodeM.Wf.lt n hw s.2
 refine Tr.enter Tryz.func164 rfl Tryz.ntmps164 rfl (fun W F => ?_)
 refine Wp.app ?_
 refine Wr ?_
 refine zB fun b1 => ?_
 refine zq [1,2,5,3] ?_
 refine AnyH.startL 8 rfl ?_
 refine zd [0,1,1,3,2,0,3,2,4,0,5,2] ?_
 refine Tk 6 rfl rfl (pv_lookup_i s.1 rfl rfl hm) rfl ?_
 refine zd [7,5] ?_
 refine AnyH.done (by kernel_rfl) ?_
 refine zq [5,3,3] ?_
 refine AnyH.startL 14 rfl ?_
 refine zd [0,1] ?_
 refine Tk 1 rfl rfl (pv_eql_nil rfl rfl) rfl ?_
 refine zd [2,1] ?_
 refine Tk 3 rfl ⟨_, _, rfl, rfl, rfl⟩ (pv_fieldAddr0 rfl rfl) rfl ?_
 refine Tk 4 rfl ⟨_, _, rfl, rfl, rfl⟩ (pv_load rfl rfl rfl) rfl ?_
 refine Tk 5 rfl ⟨_, _, rfl, rfl, rfl⟩ (pv_lss rfl rfl) rfl ?_
 refine Tk 6 rfl rfl (pv_pick_false rfl rfl) rfl ?_
 refine zd [7,1] ?_
 refine AnyH.split (t := 20) rfl (fun h1 => ?_) (fun h1 => ?_)
 ·
  refine Ts 8 rfl ⟨_, _, rfl, rfl, rfl⟩ rfl ?_
  refine Ts 9 rfl ⟨_, _, rfl, rfl, rfl⟩ rfl ?_
  refine Ts 10 rfl ⟨_, _, rfl, rfl, rfl⟩ rfl ?_
  refine Ts 11 rfl ⟨_, _, rfl, rfl, rfl⟩ rfl ?_
  refine Ts 12 rfl ⟨_, _, rfl, rfl, rfl⟩ rfl ?_
  refine Tk 13 rfl rfl (pv_pick_true rfl rfl) rfl ?_
  refine AnyH.done (by kernel_rfl) ?_
  refine zq [5,18,3,4,1,2,5,10,12] ?_
  exact Ends.ret (res1 rfl rfl) ⟨by rw [if_neg (by unfold NodeM.has; omega)], rfl⟩
 refine Tk 8 rfl ⟨_, _, rfl, rfl, rfl⟩ (pv_fieldAddr0 rfl rfl) rfl ?_
 refine Tk 9 rfl ⟨_, _, rfl, rfl, rfl⟩ (pv_load rfl rfl rfl) rfl ?_
 refine Tk 10 rfl ⟨_, _, rfl, rfl, rfl⟩ (pv_move rfl) rfl ?_
 refine AnyH.one 11 (by kernel_rfl) ?_
 refine Turn.ef rfl ⟨_, _, rfl, rfl, rfl⟩ (ef_callr (tr_size n.blk n hw.hi) rfl rfl) ?_ ?_
 ·
  rintro _ _ ⟨rfl, rfl⟩; infer_instance
 rintro _ _ ⟨rfl, rfl⟩
 refine Tk 12 rfl ⟨_, _, rfl, rfl, rfl⟩ (pv_geq rfl rfl) rfl ?_
 refine Tk 13 rfl rfl (pv_pick_false rfl rfl) rfl ?_
 refine AnyH.done (by kernel_rfl) ?_
 refine Ends.seq ?_
 refine Wp.cond_dect rfl (fun h2 => ?_) (fun h2 => ?_)
 ·
  refine zq [3,4,1,2,5,10,12] ?_
  exact Ends.ret (res1 rfl rfl) ⟨by rw [if_neg (by unfold NodeM.has; omega)], rfl⟩
 refine zq [11,5,3] ?_
 refine AnyH.startL 7 rfl ?_
 refine zd [0,1,1,0,2,2,3,3,4,0] ?_
 refine Tk 5 rfl rfl (pv_indexAddrA (i := s.2.toNat) rfl rfl (by unfold NodeM.has at *; omega) (hlt (by unfold NodeM.has at *; omega))) rfl ?_
 refine zd [6,5] ?_
 refine AnyH.done (by kernel_rfl) ?_
 refine zq [5,10] ?_
 exact Ends.ret (res1 rfl rfl) ⟨by rw [if_pos (by unfold NodeM.has; omega)], rfl⟩
theorem tr_slot (sb : Nat) (S : StoreM) (s : SlotM) (hw : S.Wf) : TrR Tryz.prog 164 [.pointer (some ⟨sb, 0, none⟩), slotV s] (storeHp sb S) (.pointer (S.addr s)) := by
 cases hn : nget s.1 S.nodes with
 | none => exact (tr_slot_none sb S s hn).eq (by simp [StoreM.addr, hn])
 | some n => exact (tr_slot_node sb S s n hn (hw _ _ hn).1).eq (by simp [StoreM.addr, hn])
theorem tr_get_none (sb : Nat) (S : StoreM) (s : SlotM) (hw : S.Wf) (h : S.cap? s = none) : TrR Tryz.prog 110 [.pointer (some ⟨sb, 0, none⟩), slotV s] (storeHp sb S) (.tuple #[CapM.zero.v, .int .i64 6]) := by
 refine Tr.enter Tryz.func110 rfl Tryz.ntmps110 rfl (fun W F => ?_)
 refine Wp.app ?_
 refine Wr ?_
 refine zB fun b1 => ?_
 refine zA fun b2 => ?_
 refine zq [1,2,5,3,4,0,30] ?_
 refine zC (TrR.eq (r' := .pointer none) (tr_slot sb S s hw) (by rw [S.cap_none hw h])) ?_
 refine zq [1,2,5,3,3,4,0,59,2,5,18,3,4,23,14,1,2,5,10,12] ?_
 exact Ends.ret (res_list (rs := [.cell 4 70, .tmp 5]) rfl ⟨_, _, rfl, rv_cellK [_, _, _, _, _, _] rfl rfl rfl ⟨rfl, rfl, rfl, rfl, rfl, rfl, trivial⟩, ⟨_, _, rfl, rv_tmp rfl, rfl⟩⟩ rfl) ⟨rfl, rfl⟩
theorem tr_get_some (sb : Nat) (S : StoreM) (s : SlotM) (c : CapM) (hw : S.Wf) (h : S.cap? s = some c) : TrR Tryz.prog 110 [.pointer (some ⟨sb, 0, none⟩), slotV s] (storeHp sb S) (.tuple #[c.v, .int .i64 0]) := by
 obtain ⟨n, hn, hh, hc, ha⟩ := S.cap_some h
 have hblk := S.blk (sb := sb) hn
 refine Tr.enter Tryz.func110 rfl Tryz.ntmps110 rfl (fun W F => ?_)
 refine Wp.app ?_
 refine Wr ?_
 refine zB fun b1 => ?_
 refine zA fun b2 => ?_
 refine zq [1,2,5,3,4,0,30] ?_
 refine zC (TrR.eq (r' := .pointer (some ⟨n.blk, 1 + s.2.toNat * 6, none⟩)) (tr_slot sb S s hw) (by rw [ha])) ?_
 refine zq [1,2,5,3,3,4,0,59,2,5,17,11,5,3,4,0,9] ?_
 refine Ops.pv (pv_loadK c.cells rfl rfl rfl (NodeM.reads hc)) rfl ?_
 refine zq [14,1,2,5,10] ?_
 exact Ends.ret (res_list (rs := [.cell 4 70, .tmp 5]) rfl ⟨_, _, rfl, rv_cellK [_, _, _, _, _, _] rfl rfl rfl ⟨rfl, rfl, rfl, rfl, rfl, rfl, trivial⟩, ⟨_, _, rfl, rv_tmp rfl, rfl⟩⟩ rfl) ⟨rfl, rfl⟩
theorem tr_get (sb : Nat) (S : StoreM) (s : SlotM) (hw : S.Wf) : TrR Tryz.prog 110 [.pointer (some ⟨sb, 0, none⟩), slotV s] (storeHp sb S) (.tuple #[(S.get s).1.v, .int .i64 (S.get s).2]) := by
 cases h : S.cap? s with
 | none => exact (tr_get_none sb S s hw h).eq (by simp [StoreM.get, h])
 | some c => exact (tr_get_some sb S s c hw h).eq (by simp [StoreM.get, h])
theorem tr_put_none (sb : Nat) (S : StoreM) (s : SlotM) (c : CapM) (hw : S.Wf) (h : S.cap? s = none) : Tr Tryz.prog 125 [.pointer (some ⟨sb, 0, none⟩), slotV s, c.v] (storeHp sb S) (fun v L' => v = .int .i64 (S.put s c).1 ∧ L' = storeHp sb (S.put s c).2) := by
 refine Tr.enter Tryz.func125 rfl Tryz.ntmps125 rfl (fun W F => ?_)
 refine Wp.app ?_
 refine Wr ?_
 refine zB fun b1 => ?_
 refine zB fun b2 => ?_
 refine zq [1,2,5,3,4,0,30] ?_
 refine zC (TrR.eq (r' := .pointer none) (tr_slot sb S s hw) (by rw [S.cap_none hw h])) ?_
 refine zq [1,2,5,3,3,4,0,59,2,5,18,3,4,1,2,5,10,12] ?_
 exact Ends.ret (L' := storeHp sb S) (res1 rfl rfl) ⟨by simp [StoreM.put, *], by simp [StoreM.put, *]⟩
theorem tr_put_some (sb : Nat) (S : StoreM) (s : SlotM) (c x : CapM) (hw : S.Wf) (h : S.cap? s = some x) : Tr Tryz.prog 125 [.pointer (some ⟨sb, 0, none⟩), slotV s, c.v] (storeHp sb S) (fun v L' => v = .int .i64 (S.put s c).1 ∧ L' = storeHp sb (S.put s c).2) := by
 obtain ⟨n, hn, hh, hc, ha⟩ := S.cap_some h
 have hblk := S.blk (sb := sb) hn
 have hset := NodeM.setL (c' := c) hc
 have hupd : Upd (storeHp sb S) n.blk (.cells (.int .i64 n.radix :: capsCells (n.caps.set s.2.toNat c)).toArray 289 (0, 0)) (storeHp sb (S.setNode s.1 (n.set s.2.toNat c))) := S.upd (n' := n.set s.2.toNat c) hn rfl rfl
 refine Tr.enter Tryz.func125 rfl Tryz.ntmps125 rfl (fun W F => ?_)
 refine Wp.app ?_
 refine Wr ?_
 refine zB fun b1 => ?_
 refine zB fun b2 => ?_
 refine zq [1,2,5,3,4,0,30] ?_
 refine zC (TrR.eq (r' := .pointer (some ⟨n.blk, 1 + s.2.toNat * 6, none⟩)) (tr_slot sb S s hw) (by rw [ha])) ?_
 refine zq [1,2,5,3,3,4,0,59,2,5,17,11,5,3,3,4,32] ?_
 refine zC (tr_check c) ?_
 refine zq [1,2,5,20,3,4,0,27,1,2,5] ?_
 refine Wp.cond_dect rfl (fun h1 => ?_) (fun h1 => ?_)
 ·
  refine zq [3,4,0,1,2,5,10,15,12] ?_
  exact Ends.ret (L' := storeHp sb S) (res1 rfl rfl) ⟨by simp [StoreM.put, *], by simp [StoreM.put, *]⟩
 refine zq [3,4,6,8,22,1,2,5] ?_
 refine Wp.cond_dect rfl (fun h2 => ?_) (fun h2 => ?_)
 ·
  refine zq [3,4,1,2,5,10,15,12] ?_
  exact Ends.ret (L' := storeHp sb S) (res1 rfl rfl) ⟨by simp [StoreM.put, *], by simp [StoreM.put, *]⟩
 refine zq [3,4,0,9,61] ?_
 refine Ops.pv (pv_load rfl rfl (NodeM.reads hc).1) rfl ?_
 refine zq [27,1,2,5] ?_
 refine Wp.cond_dect rfl (fun h3 => ?_) (fun h3 => ?_)
 ·
  refine zq [3,4,1,2,5,10,15,12] ?_
  exact Ends.ret (L' := storeHp sb S) (res1 rfl rfl) ⟨by simp [StoreM.put, *], by simp [StoreM.put, *]⟩
 refine zq [11,19,5,3,4,0,32,9,14,2,5,3,4,1,2,5,10] ?_
 exact Ends.ret (L' := storeHp sb (S.setNode s.1 (n.set s.2.toNat c))) (res1 rfl rfl) ⟨by simp [StoreM.put, *], by rw [S.setCap_eq hn]; simp [StoreM.put, *]⟩
theorem tr_put (sb : Nat) (S : StoreM) (s : SlotM) (c : CapM) (hw : S.Wf) : Tr Tryz.prog 125 [.pointer (some ⟨sb, 0, none⟩), slotV s, c.v] (storeHp sb S) (fun v L' => v = .int .i64 (S.put s c).1 ∧ L' = storeHp sb (S.put s c).2) := by
 cases h : S.cap? s with
 | none => exact tr_put_none sb S s c hw h
 | some x => exact tr_put_some sb S s c x hw h
theorem tr_radix_none (sb : Nat) (S : StoreM) (id : Int) (h : nget id S.nodes = none) : TrR Tryz.prog 116 [.pointer (some ⟨sb, 0, none⟩), .int .i64 id] (storeHp sb S) (.int .i64 0) := by
 have hm : (mget id (nodeKV S.nodes)).getD (.pointer none) = .pointer none := by rw [mget_nodeKV, h]; rfl
 refine Tr.enter Tryz.func116 rfl Tryz.ntmps116 rfl (fun W F => ?_)
 refine Wp.app ?_
 refine zq [3,4,1,2,5,3,3,4,0,9,6,8,0] ?_
 refine Ops.pv (pv_lookup_i id rfl rfl hm) rfl ?_
 refine zq [1,2,5,3,4,0,60,2,5,17,11,5,3,4,1,2,5,10] ?_
 exact zr ⟨rfl, rfl⟩
theorem tr_radix_some (sb : Nat) (S : StoreM) (id : Int) (n : NodeM) (h : nget id S.nodes = some n) : TrR Tryz.prog 116 [.pointer (some ⟨sb, 0, none⟩), .int .i64 id] (storeHp sb S) (.int .i64 n.radix) := by
 have hm : (mget id (nodeKV S.nodes)).getD (.pointer none) = .pointer (some ⟨n.blk, 0, none⟩) := by rw [mget_nodeKV, h]; rfl
 have hblk := S.blk (sb := sb) h
 refine Tr.enter Tryz.func116 rfl Tryz.ntmps116 rfl (fun W F => ?_)
 refine Wp.app ?_
 refine zq [3,4,1,2,5,3,3,4,0,9,6,8,0] ?_
 refine Ops.pv (pv_lookup_i id rfl rfl hm) rfl ?_
 refine zq [1,2,5,3,4,0,60,2,5,18,3,4,0,9,6,8,1,2,5,10,12] ?_
 exact zr ⟨rfl, rfl⟩
theorem tr_radix (sb : Nat) (S : StoreM) (id : Int) : TrR Tryz.prog 116 [.pointer (some ⟨sb, 0, none⟩), .int .i64 id] (storeHp sb S) (.int .i64 (S.radix id)) := by
 cases h : nget id S.nodes with
 | none => exact (tr_radix_none sb S id h).eq (by simp [StoreM.radix, h])
 | some n => exact (tr_radix_some sb S id n h).eq (by simp [StoreM.radix, h])
theorem tr_slotsNew  : Tr Tryz.prog 95 [] ([]) (fun v L' => ∃ sb S, v = .pointer (some ⟨sb, 0, none⟩) ∧ L' = storeHp sb S ∧ S.nodes = []) := by
 refine Tr.enter Tryz.func95 rfl Tryz.ntmps95 rfl (fun W F => ?_)
 refine Wp.app ?_
 refine zq [3,4,1,2,5,3,4] ?_
 refine Ops.ef rfl (ef_makeMap rfl rfl) ?_
 rintro _ _ ⟨b1, rfl, rfl⟩
 refine zq [23] ?_
 refine zB fun b2 => ?_
 refine zq [1,2,5,10] ?_
 exact Ends.ret (L' := [(b2, .cells [.map (some b1)].toArray 268 (0, 0)), (b1, .map #[] 0)]) (res1 rfl rfl) ⟨b2, ⟨b1, 0, []⟩, rfl, rfl, rfl⟩
def addErr (S : StoreM) (id r : Int) : Int := if id < 0 ∨ 64 ≤ id ∨ r < 1 ∨ 4 < r then 1 else if (nget id S.nodes).isSome then 4 else 0
theorem tr_add_some (sb : Nat) (S : StoreM) (id r : Int) (n : NodeM) (h : nget id S.nodes = some n) : Tr Tryz.prog 167 [.pointer (some ⟨sb, 0, none⟩), .int .i64 id, .int .i64 r] (storeHp sb S) (fun v L' => v = .int .i64 (addErr S id r) ∧ ((addErr S id r ≠ 0 ∧ L' = storeHp sb S) ∨ (addErr S id r = 0 ∧ ∃ b, L' = storeHp sb (S.addNode id b r.toNat)))) := by
 have hm : (mget id (nodeKV S.nodes)).getD (.pointer none) = .pointer (some ⟨n.blk, 0, none⟩) := by rw [mget_nodeKV, h]; rfl
 refine Tr.enter Tryz.func167 rfl Tryz.ntmps167 rfl (fun W F => ?_)
 refine Wp.app ?_
 refine zq [3,4,1,2,5,3,20,3,4,0,42,0] ?_
 refine Ops.split (t := 10) rfl (fun h1 => ?_) (fun h1 => ?_)
 ·
  refine zq [13,13,24,0,13,13,24,0,13,13,24,1,2,5,18,3,4,1,2,5,10,15,12] ?_
  exact Ends.ret (L' := storeHp sb S) (res1 rfl rfl) ⟨by simp [addErr, *] <;> omega, .inl ⟨by simp [addErr, *] <;> omega, rfl⟩⟩
 refine zq [21] ?_
 refine Ops.pvg ⟨_, _, rfl, rfl, rfl⟩ (pv_geq rfl rfl) rfl ?_
 refine zq [26,0] ?_
 refine Ops.split (t := 14) rfl (fun h2 => ?_) (fun h2 => ?_)
 ·
  refine zq [13,13,24,0,13,13,24,1,2,5,18,3,4,1,2,5,10,15,12] ?_
  exact Ends.ret (L' := storeHp sb S) (res1 rfl rfl) ⟨by simp [addErr, *] <;> omega, .inl ⟨by simp [addErr, *] <;> omega, rfl⟩⟩
 refine zq [21] ?_
 refine Ops.pvg ⟨_, _, rfl, rfl, rfl⟩ (pv_lss rfl rfl) rfl ?_
 refine zq [26,0] ?_
 refine Ops.split (t := 18) rfl (fun h3 => ?_) (fun h3 => ?_)
 ·
  refine zq [13,13,24,1,2,5,18,3,4,1,2,5,10,15,12] ?_
  exact Ends.ret (L' := storeHp sb S) (res1 rfl rfl) ⟨by simp [addErr, *] <;> omega, .inl ⟨by simp [addErr, *] <;> omega, rfl⟩⟩
 refine zq [21] ?_
 refine Ops.pvg ⟨_, _, rfl, rfl, rfl⟩ (pv_gtr rfl rfl) rfl ?_
 refine zq [26,1,2,5] ?_
 refine Wp.cond_dect rfl (fun h4 => ?_) (fun h4 => ?_)
 ·
  refine zq [3,4,1,2,5,10,15,12] ?_
  exact Ends.ret (L' := storeHp sb S) (res1 rfl rfl) ⟨by simp [addErr, *] <;> omega, .inl ⟨by simp [addErr, *] <;> omega, rfl⟩⟩
 refine zq [3,4,0,9,6,8,0] ?_
 refine Ops.pv (pv_lookup_i id rfl rfl hm) rfl ?_
 refine zq [60,1,2,5,18,3,4,1,2,5,10,15,12] ?_
 exact Ends.ret (L' := storeHp sb S) (res1 rfl rfl) ⟨by simp [addErr, *] <;> omega, .inl ⟨by simp [addErr, *] <;> omega, rfl⟩⟩
theorem tr_add_none (sb : Nat) (S : StoreM) (id r : Int) (h : nget id S.nodes = none) : Tr Tryz.prog 167 [.pointer (some ⟨sb, 0, none⟩), .int .i64 id, .int .i64 r] (storeHp sb S) (fun v L' => v = .int .i64 (addErr S id r) ∧ ((addErr S id r ≠ 0 ∧ L' = storeHp sb S) ∨ (addErr S id r = 0 ∧ ∃ b, L' = storeHp sb (S.addNode id b r.toNat)))) := by
 have hm : (mget id (nodeKV S.nodes)).getD (.pointer none) = .pointer none := by rw [mget_nodeKV, h]; rfl
 have hupd := fun o => S.updMap (sb := sb) (o := o)
 refine Tr.enter Tryz.func167 rfl Tryz.ntmps167 rfl (fun W F => ?_)
 refine Wp.app ?_
 refine zq [3,4,1,2,5,3,20,3,4,0,42,0] ?_
 refine Ops.split (t := 10) rfl (fun h1 => ?_) (fun h1 => ?_)
 ·
  refine zq [13,13,24,0,13,13,24,0,13,13,24,1,2,5,18,3,4,1,2,5,10,15,12] ?_
  exact Ends.ret (L' := storeHp sb S) (res1 rfl rfl) ⟨by simp [addErr, *] <;> omega, .inl ⟨by simp [addErr, *] <;> omega, rfl⟩⟩
 refine zq [21] ?_
 refine Ops.pvg ⟨_, _, rfl, rfl, rfl⟩ (pv_geq rfl rfl) rfl ?_
 refine zq [26,0] ?_
 refine Ops.split (t := 14) rfl (fun h2 => ?_) (fun h2 => ?_)
 ·
  refine zq [13,13,24,0,13,13,24,1,2,5,18,3,4,1,2,5,10,15,12] ?_
  exact Ends.ret (L' := storeHp sb S) (res1 rfl rfl) ⟨by simp [addErr, *] <;> omega, .inl ⟨by simp [addErr, *] <;> omega, rfl⟩⟩
 refine zq [21] ?_
 refine Ops.pvg ⟨_, _, rfl, rfl, rfl⟩ (pv_lss rfl rfl) rfl ?_
 refine zq [26,0] ?_
 refine Ops.split (t := 18) rfl (fun h3 => ?_) (fun h3 => ?_)
 ·
  refine zq [13,13,24,1,2,5,18,3,4,1,2,5,10,15,12] ?_
  exact Ends.ret (L' := storeHp sb S) (res1 rfl rfl) ⟨by simp [addErr, *] <;> omega, .inl ⟨by simp [addErr, *] <;> omega, rfl⟩⟩
 refine zq [21] ?_
 refine Ops.pvg ⟨_, _, rfl, rfl, rfl⟩ (pv_gtr rfl rfl) rfl ?_
 refine zq [26,1,2,5] ?_
 refine Wp.cond_dect rfl (fun h4 => ?_) (fun h4 => ?_)
 ·
  refine zq [3,4,1,2,5,10,15,12] ?_
  exact Ends.ret (L' := storeHp sb S) (res1 rfl rfl) ⟨by simp [addErr, *] <;> omega, .inl ⟨by simp [addErr, *] <;> omega, rfl⟩⟩
 refine zq [3,4,0,9,6,8,0] ?_
 refine Ops.pv (pv_lookup_i id rfl rfl hm) rfl ?_
 refine zq [60,1,2,5,17,11,19,5,3,4,0,9,6,8,0,0,23] ?_
 refine zB fun b1 => ?_
 refine Ops.ef rfl (ef_mapUpdate_i _ rfl rfl rfl) ?_
 rintro _ _ ⟨rfl, rfl⟩
 refine zq [2,5,3,4,1,2,5,10] ?_
 obtain ⟨k, rfl⟩ : ∃ k : Nat, r = k := ⟨r.toNat, by omega⟩
 refine Ends.heap (fun w ho => ho.perm (StoreM.add_perm h)) ?_
 exact Ends.ret (L' := storeHp sb (S.addNode id b1 k)) (res1 rfl rfl) ⟨by simp [addErr, *] <;> omega, .inr ⟨by simp [addErr, *] <;> omega, b1, by simp⟩⟩
theorem tr_add (sb : Nat) (S : StoreM) (id r : Int) : Tr Tryz.prog 167 [.pointer (some ⟨sb, 0, none⟩), .int .i64 id, .int .i64 r] (storeHp sb S) (fun v L' => v = .int .i64 (addErr S id r) ∧ ((addErr S id r ≠ 0 ∧ L' = storeHp sb S) ∨ (addErr S id r = 0 ∧ ∃ b, L' = storeHp sb (S.addNode id b r.toNat)))) := by
 cases h : nget id S.nodes with
 | none => exact tr_add_none sb S id r h
 | some n => exact tr_add_some sb S id r n h
end Go.Proofs.YtipncceiekalfaaGreat
end
section
set_option linter.unusedVariables false
set_option linter.unusedSimpArgs false
namespace Go.Proofs.YtipncceiekalfaaGreat
open Go.SL
theorem nget_nset {id : Int} {n n' : NodeM} : ∀ {l : List (Int × NodeM × Nat)}, nget id l = some n → ∀ o, nget o (nset id n' l) = if o = id then some n' else nget o l
  | [], h, o => by cases h
  | e :: l, h, o => by
    simp only [nget] at h
    by_cases he : id = e.1
    · rw [if_pos he] at h
      subst he
      simp only [nset, nget, if_true]
      split <;> rfl
    · rw [if_neg he] at h
      have ih := nget_nset (n' := n') h o
      by_cases ho : o = e.1
      · have : o ≠ id := fun h' => he (h' ▸ ho)
        simp [nset, nget, he, ho, Ne.symm he]
      · simp [nset, nget, he, ho, ih]
section
variable {S : StoreM} {s : SlotM} {x : CapM} (h : S.cap? s = some x) (c : CapM)
include h
theorem setCap_nget (o : Int) : ∃ n, nget s.1 S.nodes = some n ∧ n.has s.2 ∧ n.caps[s.2.toNat]? = some x ∧ nget o (S.setCap s c).nodes = if o = s.1 then some (n.set s.2.toNat c) else nget o S.nodes := by
 obtain ⟨n, hn, hh, hc, _⟩ := S.cap_some h
 refine ⟨n, hn, hh, hc, ?_⟩
 rw [← S.setCap_eq hn]
 exact nget_nset hn o
theorem setCap_cap (t : SlotM) : (S.setCap s c).cap? t = if t = s then some c else S.cap? t := by
 obtain ⟨n, hn, hh, hc, e⟩ := setCap_nget h c t.1
 have hlt : s.2.toNat < n.caps.length := by
  rcases Nat.lt_or_ge s.2.toNat n.caps.length with h' | h'
  ·
   exact h'
  ·
   rw [List.getElem?_eq_none h'] at hc; cases hc
 unfold StoreM.cap?
 rw [e]
 by_cases h1 : t.1 = s.1
 ·
  rw [if_pos h1, h1, hn]
  dsimp only
  have e0 : ∀ i, (n.set s.2.toNat c).has i ↔ n.has i := fun i => Iff.rfl
  by_cases h2 : t.2 = s.2
  ·
   have hh' : (n.set s.2.toNat c).has s.2 := hh
   rw [if_pos (Prod.ext h1 h2), h2, if_pos hh']
   simp [NodeM.set, hlt]
  ·
   rw [if_neg (fun e => h2 (congrArg Prod.snd e))]
   by_cases h3 : n.has t.2
   ·
    have h4 : (n.set s.2.toNat c).has t.2 := h3
    rw [if_pos h3, if_pos h4]
    have : s.2.toNat ≠ t.2.toNat := by have a := hh.1; have b := h3.1; omega
    simp [NodeM.set, List.getElem?_set_ne this]
   ·
    have h4 : ¬ (n.set s.2.toNat c).has t.2 := h3
    rw [if_neg h3, if_neg h4]
 ·
  rw [if_neg h1, if_neg (fun e => h1 (congrArg Prod.fst e))]
theorem setCap_radix (o : Int) : (S.setCap s c).radix o = S.radix o := by
 obtain ⟨n, hn, hh, hc, e⟩ := setCap_nget h c o
 unfold StoreM.radix
 rw [e]
 by_cases h1 : o = s.1
 ·
  rw [if_pos h1, h1, hn]; rfl
 ·
  rw [if_neg h1]
theorem setCap_wf (hw : S.Wf) : (S.setCap s c).Wf := by
 intro o m hm
 obtain ⟨n, hn, hh, hc, e⟩ := setCap_nget h c o
 rw [e] at hm
 by_cases h1 : o = s.1
 ·
  rw [if_pos h1] at hm; cases hm
  have := hw _ _ hn
  exact ⟨⟨by simpa [NodeM.set] using this.1.len, this.1.lo, this.1.hi⟩, by rw [h1]; exact this.2⟩
 ·
  rw [if_neg h1] at hm; exact hw _ _ hm
end
section
variable {S : StoreM} {id : Int} (h : nget id S.nodes = none) (b r : Nat)
include h
theorem addNode_nget (o : Int) : nget o (S.addNode id b r).nodes = if o = id then some ⟨b, r, zeroCaps⟩ else nget o S.nodes := by
 unfold StoreM.addNode
 dsimp only
 by_cases ho : o = id
 ·
  subst ho; rw [if_pos rfl, nget_app_none h]; simp [nget]
 ·
  rw [if_neg ho]
  cases hn : nget o S.nodes with
  | none => rw [nget_app_none hn]; simp [nget, ho]
  | some n => exact nget_app_some hn
theorem addNode_cap (t : SlotM) : (S.addNode id b r).cap? t = if t.1 = id then (if 0 ≤ t.2 ∧ t.2 < (2 ^ r : Nat) ∧ t.2 < 16 then some CapM.zero else none) else S.cap? t := by
 unfold StoreM.cap?
 rw [addNode_nget h]
 by_cases ht : t.1 = id
 ·
  rw [if_pos ht, if_pos ht]
  dsimp only
  by_cases h1 : 0 ≤ t.2 ∧ t.2 < (2 ^ r : Nat)
  ·
   have h1' : NodeM.has ⟨b, r, zeroCaps⟩ t.2 := h1
   rw [if_pos h1']
   by_cases h2 : t.2 < 16
   ·
    rw [if_pos ⟨h1.1, h1.2, h2⟩]
    unfold zeroCaps
    rw [List.getElem?_replicate, if_pos (by omega)]
   ·
    rw [if_neg (by omega)]
    unfold zeroCaps
    rw [List.getElem?_replicate, if_neg (by omega)]
  ·
   have h1' : ¬ NodeM.has ⟨b, r, zeroCaps⟩ t.2 := h1
   rw [if_neg h1', if_neg (by omega)]
 ·
  rw [if_neg ht, if_neg ht]
theorem addNode_wf (hw : S.Wf) (h0 : 0 ≤ id) (h1 : id < 64) (h2 : 1 ≤ r) (hr : r ≤ 4) : (S.addNode id b r).Wf := by
 intro o n hn
 rw [addNode_nget h] at hn
 split at hn
 ·
  next h => cases hn; subst h; exact ⟨⟨by simp [zeroCaps], h2, hr⟩, h0, h1⟩
 ·
  exact hw _ _ hn
end
theorem wf_new {S : StoreM} (hS : S.nodes = []) : S.Wf := by intro o n h; rw [hS] at h; cases h
end Go.Proofs.YtipncceiekalfaaGreat
end
section
set_option linter.unusedVariables false
set_option linter.unusedSimpArgs false
namespace Go.Proofs.YtipncceiekalfaaGreat
open Go.SL
abbrev slotCells (s : SlotM) : List Value := [.int .i64 s.1, .int .i64 s.2]
def slotsCells (l : List SlotM) : List Value := l.flatMap slotCells
def nodeFull (id : Nat) (caps : List CapM) : Nat → List SlotM
  | 0 => []
  | j + 1 => nodeFull id caps j ++ (if (caps[j]?.getD CapM.zero).kind ≠ 0 then [((id : Int), (j : Int))] else [])
def full1 (S : StoreM) (id : Nat) : List SlotM :=
  match nget (id : Int) S.nodes with
  | none => []
  | some n => nodeFull id n.caps 16
def fullUpto (S : StoreM) : Nat → List SlotM
  | 0 => []
  | k + 1 => fullUpto S k ++ full1 S k
def fullM (S : StoreM) : List SlotM := fullUpto S 64
def ndel (id : Int) : List (Int × NodeM × Nat) → List (Int × NodeM × Nat)
  | [] => []
  | e :: l => if id = e.1 then l else e :: ndel id l
def StoreM.delNode (S : StoreM) (id : Int) : StoreM := { S with nodes := ndel id S.nodes }
def StoreM.drop (S : StoreM) (id : Int) : Int × StoreM :=
  match nget id S.nodes with
  | none => (3, S)
  | some n => if n.caps ≠ zeroCaps then (8, S) else (0, S.delNode id)
def StoreM.Uniq (S : StoreM) : Prop := (S.nodes.map Prod.fst).Nodup
theorem nget_notin {id : Int} : ∀ {l : List (Int × NodeM × Nat)}, id ∉ l.map Prod.fst → nget id l = none
  | [], _ => rfl
  | e :: l, h => by
    simp only [List.map_cons, List.mem_cons, not_or] at h
    simp only [nget]
    rw [if_neg h.1]; exact nget_notin h.2
theorem nget_none_notin {id : Int} : ∀ {l : List (Int × NodeM × Nat)}, nget id l = none → id ∉ l.map Prod.fst
  | [], _ => by simp
  | e :: l, h => by
    simp only [nget] at h
    split at h
    · cases h
    · rename_i he
      simp only [List.map_cons, List.mem_cons, not_or]
      exact ⟨he, nget_none_notin h⟩
theorem nget_ndel {id : Int} : ∀ {l : List (Int × NodeM × Nat)}, (l.map Prod.fst).Nodup → ∀ o, nget o (ndel id l) = if o = id then none else nget o l
  | [], _, o => by simp [ndel, nget]
  | e :: l, h, o => by
    simp only [List.map_cons, List.nodup_cons] at h
    simp only [ndel]
    by_cases he : id = e.1
    · rw [if_pos he]
      by_cases ho : o = id
      · rw [if_pos ho, ho, he]; exact nget_notin h.1
      · rw [if_neg ho]; simp only [nget]; rw [if_neg (by rw [← he]; exact ho)]
    · rw [if_neg he]
      simp only [nget]
      rw [nget_ndel h.2 o]
      by_cases ho : o = id
      · subst ho; simp [he]
      · simp [ho]
theorem ndel_sub {id : Int} : ∀ {l : List (Int × NodeM × Nat)}, (ndel id l).Sublist l
  | [] => List.Sublist.refl _
  | e :: l => by
    simp only [ndel]
    split
    · exact List.sublist_cons_self _ _
    · exact ndel_sub.cons_cons _
theorem ndel_uniq {S : StoreM} {id : Int} (h : S.Uniq) : (S.delNode id).Uniq := (ndel_sub.map Prod.fst).nodup h
theorem addNode_uniq {S : StoreM} {id : Int} {b r : Nat} (h : S.Uniq) (hn : nget id S.nodes = none) : (S.addNode id b r).Uniq := by
 unfold StoreM.Uniq StoreM.addNode
 rw [List.map_append]
 exact List.nodup_append.2 ⟨h, by simp, by simp; intro a t x hx e; exact nget_none_notin hn (List.mem_map.2 ⟨_, hx, e⟩)⟩
theorem nset_keys {id : Int} {n' : NodeM} : ∀ l : List (Int × NodeM × Nat), (nset id n' l).map Prod.fst = l.map Prod.fst
  | [] => rfl
  | e :: l => by
    simp only [nset]
    split
    · rfl
    · simp [nset_keys l]
theorem setCap_uniq {S : StoreM} {s : SlotM} {c : CapM} (h : S.Uniq) : (S.setCap s c).Uniq := by
 unfold StoreM.setCap
 split
 ·
  exact h
 ·
  unfold StoreM.Uniq StoreM.setNode; rw [nset_keys]; exact h
end Go.Proofs.YtipncceiekalfaaGreat
end
section
set_option linter.unusedVariables false
set_option linter.unusedSimpArgs false
namespace Go.Proofs.YtipncceiekalfaaGreat
open Go.SL
def StoreM.Tidy (S : StoreM) : Prop := ∀ id n i c, nget id S.nodes = some n → n.caps[i]? = some c → c.kind ≠ 0 → i < 2 ^ n.radix ∧ checkM c = 0
theorem tidy_new {S : StoreM} (h : S.nodes = []) : S.Tidy := by intro id n i c hn; rw [h] at hn; cases hn
theorem tidy_add {S : StoreM} (hw : S.Tidy) {id : Int} (h : nget id S.nodes = none) (b r : Nat) : (S.addNode id b r).Tidy := by
 intro o n i c hn hc hk
 rw [addNode_nget h] at hn
 split at hn
 ·
  cases hn
  rw [List.eq_of_mem_replicate (List.mem_of_getElem? hc)] at hk
  exact absurd rfl hk
 ·
  exact hw o n i c hn hc hk
def isKO (S : StoreM) (k o : Int) (s : SlotM) : Bool := decide ((S.get s).1.kind = k) && decide ((S.get s).1.object = o)
def cntUpto (S : StoreM) (k o : Int) (i : Nat) : Nat := ((fullM S).take i).countP (isKO S k o)
def countM (S : StoreM) (k o : Int) : Nat := (fullM S).countP (isKO S k o)
attribute [irreducible] countM cntUpto
structure OpM where
  kind : Int
  slot : SlotM
  n : Int
  c : CapM
abbrev OpM.cells (o : OpM) : List Value := [.int .i64 o.kind, .int .i64 o.slot.1, .int .i64 o.slot.2, .int .i64 o.n, .int .i64 o.c.kind, .int .i64 o.c.object, .int .i64 o.c.rights, .int .u64 o.c.badge, .int .u64 o.c.guard, .int .i64 o.c.bits]
end Go.Proofs.YtipncceiekalfaaGreat
end
section
set_option linter.unusedVariables false
set_option linter.unusedSimpArgs false
namespace Go.Proofs.YtipncceiekalfaaGreat
open Go.SL
section maps
variable {κ : Type} [DecidableEq κ]
theorem mget_mput (k : κ) (v : Value) (t : Nat) : ∀ (l : List (κ × Value × Nat)) (o : κ), mget o (mput k v t l) = if o = k then some v else mget o l
  | [], o => by simp [mput, mget]
  | e :: l, o => by
    simp only [mput]
    by_cases hk : k = e.1
    · subst hk
      simp only [if_true, mget]
      by_cases ho : o = e.1
      · simp [ho]
      · simp [ho]
    · simp only [if_neg hk, mget]
      by_cases ho : o = e.1
      · have : o ≠ k := fun h => hk (h ▸ ho)
        simp [ho, Ne.symm hk]
      · simp only [if_neg ho, mget_mput k v t l o]
end maps
structure Four (S : StoreM) : Prop where
  wf : S.Wf
  tidy : S.Tidy
  rad : ∀ id : Int, S.radix id = if 0 ≤ id ∧ id < 4 then id + 1 else 0
end Go.Proofs.YtipncceiekalfaaGreat
end
section
set_option linter.unusedVariables false
set_option linter.unusedSimpArgs false
set_option linter.unusedSectionVars false
namespace Go.Proofs.YtipncceiekalfaaGreat
open Go.SL
structure InMap (S : StoreM) (M : List (SlotM × Value × Nat)) : Prop where
  nd : (M.map Prod.fst).Nodup
  zero : ∀ s, (S.get s).1.kind = 0 → (S.get s).1 = CapM.zero
  get : ∀ s, mget s M = if (S.get s).1.kind ≠ 0 then some (S.get s).1.v else none
theorem InMap.val {S : StoreM} {M : List (SlotM × Value × Nat)} (h : InMap S M) (s : SlotM) : (mget s M).getD CapM.zero.v = (S.get s).1.v := by
 rw [h.get]
 by_cases hk : (S.get s).1.kind ≠ 0
 ·
  rw [if_pos hk]; rfl
 ·
  rw [if_neg hk, h.zero s (by omega)]; rfl
theorem InMap.ok {S : StoreM} {M : List (SlotM × Value × Nat)} (h : InMap S M) (s : SlotM) : (mget s M).isSome = decide ((S.get s).1.kind ≠ 0) := by
 rw [h.get]
 by_cases hk : (S.get s).1.kind ≠ 0
 ·
  rw [if_pos hk, decide_eq_true hk]; rfl
 ·
  rw [if_neg hk, decide_eq_false hk]; rfl
theorem get_set {S : StoreM} {s : SlotM} {x : CapM} (h : S.cap? s = some x) (c : CapM) (t : SlotM) : (S.setCap s c).get t = if t = s then (c, 0) else S.get t := by
 unfold StoreM.get
 rw [setCap_cap h]
 by_cases ht : t = s
 ·
  rw [if_pos ht, if_pos ht]
 ·
  rw [if_neg ht, if_neg ht]
theorem Four.set {S : StoreM} (h : Four S) {s : SlotM} {x : CapM} (hx : S.cap? s = some x) {c : CapM} (hc : c.kind ≠ 0 → checkM c = 0) : Four (S.setCap s c) := by
 refine ⟨setCap_wf hx _ h.wf, ?_, fun id => by rw [setCap_radix hx]; exact h.rad id⟩
 intro o n i d hn hd hk
 obtain ⟨m, hm, hh, hmc, e⟩ := setCap_nget hx c o
 rw [e] at hn
 split at hn
 ·
  cases hn
  by_cases hi : i = s.2.toNat
  ·
   subst hi
   have hl := (List.getElem?_eq_some_iff.1 hmc).1
   simp only [NodeM.set, List.getElem?_set_self hl] at hd
   cases hd
   have := hh.1; have := hh.2
   exact ⟨by simp only [NodeM.set]; omega, hc hk⟩
  ·
   have : s.2.toNat ≠ i := fun e => hi e.symm
   simp only [NodeM.set, List.getElem?_set_ne this] at hd
   exact h.tidy _ m i d hm hd hk
 ·
  exact h.tidy o n i d hn hd hk
section take
variable {S : StoreM} {M : List (SlotM × Value × Nat)} (h : InMap S M) (hf : Four S) (s : SlotM)
include h hf
end take
section put
variable {S : StoreM} {M : List (SlotM × Value × Nat)} (h : InMap S M) (hf : Four S) (s : SlotM) (c : CapM)
include h hf
end put
end Go.Proofs.YtipncceiekalfaaGreat
end
section
set_option linter.unusedVariables false
set_option linter.unusedSimpArgs false
namespace Go.Proofs.YtipncceiekalfaaGreat
open Go.SL
def intsC (l : List Int) : List Value := l.map (.int .i64 ·)
theorem intsC_app (l m : List Int) : intsC (l ++ m) = intsC l ++ intsC m := by simp [intsC]
theorem intsC_one (l : List Int) : (intsC l).all Value.oneCell' = true := by simp [intsC, Value.oneCell']
theorem intsC_slice (l : List Int) (i j : Nat) : ((intsC l).drop (i * 1)).take (j * 1) = intsC ((l.drop i).take j) := by simp [intsC, List.map_take, List.map_drop]
theorem ints_nth {cc : List Value} {o i : Nat} {l : List Int} {x : Int} (hr : Reads cc o (intsC l)) (h : l[i]? = some x) : nth cc (o + i * 1) = some (.int .i64 x) := by
 rw [nth_eq, Nat.mul_one]
 exact hr.at_ i _ (by simp [intsC, h])
def idxM : List Int → Int → Int
  | [], _ => -1
  | a :: l, x => if a = x then 0 else if idxM l x < 0 then -1 else idxM l x + 1
theorem idx_hit : ∀ {l : List Int} {i : Nat} {x : Int}, l[i]? = some x → (∀ j, j < i → l[j]? ≠ some x) → idxM l x = i
  | [], i, x, h, _ => by simp at h
  | a :: l, 0, x, h, _ => by simp at h; simp [idxM, h]
  | a :: l, i + 1, x, h, hn => by
    have h0 : a ≠ x := fun e => hn 0 (by omega) (by simp [e])
    have ih := idx_hit (l := l) (i := i) (x := x) (by simpa using h) (fun j hj => by have := hn (j + 1) (by omega); simpa using this)
    simp only [idxM, if_neg h0, ih]
    rw [if_neg (by omega)]; push_cast; rfl
theorem idx_miss : ∀ {l : List Int} {x : Int}, (∀ j, j < l.length → l[j]? ≠ some x) → idxM l x = -1
  | [], _, _ => rfl
  | a :: l, x, hn => by
    have h0 : a ≠ x := fun e => hn 0 (by simp) (by simp [e])
    have ih := idx_miss (l := l) (x := x) (fun j hj => by have := hn (j + 1) (by simpa using hj); simpa using this)
    simp only [idxM, if_neg h0, ih]; rfl
theorem idx_lt : ∀ (l : List Int) (x : Int), idxM l x < l.length ∧ -1 ≤ idxM l x
  | [], _ => by simp [idxM]
  | a :: l, x => by
    have := idx_lt l x
    simp only [idxM, List.length_cons]
    split
    · omega
    · split <;> omega
theorem idx_mem : ∀ (l : List Int) (x : Int), 0 ≤ idxM l x ↔ x ∈ l
  | [], _ => by simp [idxM]
  | a :: l, x => by
    have ih := idx_mem l x
    simp only [idxM, List.mem_cons]
    split
    · rename_i h; simp [h]
    · rename_i h
      split
      · rename_i h2
        have : ¬ x ∈ l := fun e => by have := ih.2 e; omega
        simp [this, Ne.symm h]
      · rename_i h2
        have : x ∈ l := ih.1 (by omega)
        simp [this]; omega
structure SV where
  a : Option Addr
  c : Nat
  l : List Int
abbrev SV.v (s : SV) : Value := .slice s.a s.l.length s.c
def catM (ss : List SV) : List Int := ss.flatMap SV.l
def catUpto (ss : List SV) (i : Nat) : List Int := catM (ss.take i)
theorem catUpto_succ {ss : List SV} {i : Nat} {s : SV} (h : ss[i]? = some s) : catUpto ss (i + 1) = catUpto ss i ++ s.l := by
 unfold catUpto catM
 rw [List.take_add_one, h, List.flatMap_append]; simp
theorem catUpto_all (ss : List SV) : catUpto ss ss.length = catM ss := by unfold catUpto; rw [List.take_length]
theorem catUpto_len (ss : List SV) : ∀ i, (catUpto ss i).length ≤ (catM ss).length := fun i => by
 unfold catUpto catM
 have : ss.flatMap SV.l = (ss.take i).flatMap SV.l ++ (ss.drop i).flatMap SV.l := by rw [← List.flatMap_append, List.take_append_drop]
 rw [this, List.length_append]; omega
theorem sv_nth {ss : List SV} {i : Nat} {s : SV} (h : ss[i]? = some s) : nth (ss.map SV.v) (0 + i * 1) = some s.v := by
 rw [nth_eq, Nat.zero_add, Nat.mul_one, List.getElem?_map, h]; rfl
theorem view_nil {G : Hp} {n c : Nat} {cs : List Value} (h : View G 1 (.slice none n c) n cs) : n = 0 ∧ cs = [] := by
 obtain ⟨hl, a, c', e, _, h4⟩ := h
 cases e
 rcases h4 with rfl | ⟨b, o, cc, T, f, e, _⟩
 ·
  exact ⟨rfl, List.eq_nil_of_length_eq_zero (by omega)⟩
 ·
  cases e
theorem slc_empty (T b : Nat) : Slc T 1 (.slice (some ⟨b, 0, none⟩) 0 0) 0 [] [(b, .cells ([] : List Value).toArray T)] := ⟨rfl, .inr ⟨b, [], [], 0, rfl, Nat.le_refl _, Nat.zero_le _, rfl⟩⟩
theorem view_part {G : Hp} {a : Option Addr} {c : Nat} {l : List Int} (hv : View G 1 (.slice a l.length c) l.length (intsC l)) {i j : Nat} (h1 : i ≤ j) (h2 : j ≤ l.length) :
    View G 1 (.slice (if c = i then a else a.map (·.add (i * 1))) ((l.drop i).take (j - i)).length (c - i)) ((l.drop i).take (j - i)).length (intsC ((l.drop i).take (j - i))) := by
  have h := hv.slice h1 h2
  rw [intsC_slice] at h
  have e : ((l.drop i).take (j - i)).length = j - i := by rw [List.length_take, List.length_drop]; omega
  rw [e]; exact h
theorem part_len {l : List Int} {i j : Nat} (h1 : i ≤ j) (h2 : j ≤ l.length) : ((l.drop i).take (j - i)).length = j - i := by rw [List.length_take, List.length_drop]; omega
theorem forall_two {p : SV → Prop} {s1 s2 : SV} (h1 : p s1) (h2 : p s2) : ∀ s, s ∈ [s1, s2] → p s := by
 intro s hs
 rcases List.mem_cons.1 hs with rfl | hs
 ·
  exact h1
 ·
  rw [List.mem_singleton.1 hs]; exact h2
end Go.Proofs.YtipncceiekalfaaGreat
end
section
set_option linter.unusedVariables false
set_option linter.unusedSimpArgs false
namespace Go.Proofs.YtipncceiekalfaaGreat
open Go.SL
structure DN where
  id : Nat
  rad : Nat
  caps : List CapM
  cb : Nat
def dIds (l : List DN) : List Int := l.map fun d => (d.id : Int)
theorem dIds_len (l : List DN) : (dIds l).length = l.length := by simp [dIds]
abbrev DN.o (d : DN) : Obj := .cells (capsCells d.caps).toArray 70
def dfind (l : List DN) (id : Int) : Option DN := l.find? fun d => decide ((d.id : Int) = id)
theorem dfind_cons (a : DN) (l : List DN) (id : Int) : dfind (a :: l) id = if (a.id : Int) = id then some a else dfind l id := by
 unfold dfind; rw [List.find?_cons]
 by_cases h : (a.id : Int) = id
 ·
  simp [h]
 ·
  simp [h]
theorem dfind_app (l m : List DN) (id : Int) : dfind (l ++ m) id = (dfind l id).or (dfind m id) := by unfold dfind; rw [List.find?_append]
theorem dfind_some {id : Int} {d : DN} : ∀ {l : List DN}, dfind l id = some d → ∃ i : Nat, idxM (dIds l) id = i ∧ l[i]? = some d ∧ (d.id : Int) = id
  | [], h => by cases h
  | a :: l, h => by
    rw [dfind_cons] at h
    split at h
    · rename_i e; cases h; exact ⟨0, by simp [dIds, idxM, e], rfl, e⟩
    · rename_i e
      obtain ⟨i, h1, h2, h3⟩ := dfind_some h
      refine ⟨i + 1, ?_, by simpa using h2, h3⟩
      show (if (a.id : Int) = id then 0 else if idxM (dIds l) id < 0 then -1 else idxM (dIds l) id + 1) = _
      rw [if_neg e, h1, if_neg (by omega)]; push_cast; rfl
def dcap? (l : List DN) (s : SlotM) : Option CapM :=
  match dfind l s.1 with
  | none => none
  | some d => if 0 ≤ s.2 ∧ s.2 < d.caps.length then d.caps[s.2.toNat]? else none
def dget (l : List DN) (s : SlotM) : CapM × Int := match dcap? l s with | none => (CapM.zero, 6) | some x => (x, 0)
def dradix (l : List DN) (id : Int) : Int := match dfind l id with | none => 0 | some d => (d.rad : Int)
def dsetC (l : List DN) (s : SlotM) (c : CapM) : List DN := match dfind l s.1 with | none => l | some d => l.set (idxM (dIds l) s.1).toNat { d with caps := d.caps.set s.2.toNat c }
def dput (l : List DN) (s : SlotM) (c : CapM) : Int × List DN :=
  match dcap? l s with
  | none => (6, l)
  | some x => if checkM c ≠ 0 then (checkM c, l) else if c.kind = 0 then (3, l) else if x.kind ≠ 0 then (4, l) else (0, dsetC l s c)
def dtake (l : List DN) (s : SlotM) : CapM × Int × List DN :=
  match dcap? l s with
  | none => (CapM.zero, 6, l)
  | some x => if x.kind = 0 then (x, 3, l) else (x, 0, dsetC l s CapM.zero)
def daddErr (l : List DN) (id r : Int) : Int := if id < 0 ∨ 64 ≤ id ∨ r < 1 ∨ 4 < r then 1 else if (dfind l id).isSome then 4 else 0
def ddel (l : List DN) (id : Int) : List DN := l.eraseIdx (idxM (dIds l) id).toNat
theorem dcap_some {l : List DN} {s : SlotM} {c : CapM} (h : dcap? l s = some c) : ∃ d, dfind l s.1 = some d ∧ (0 ≤ s.2 ∧ s.2 < d.caps.length) ∧ d.caps[s.2.toNat]? = some c := by
 unfold dcap? at h
 split at h
 ·
  cases h
 ·
  rename_i d hd
  split at h
  ·
   rename_i hs; exact ⟨d, hd, hs, h⟩
  ·
   cases h
def i64R (x : Int) : Prop := -9223372036854775808 ≤ x ∧ x < 9223372036854775808
def u64R (x : Int) : Prop := 0 ≤ x ∧ x < 18446744073709551616
structure CapM.Rg (c : CapM) : Prop where
  rights : i64R c.rights
  badge : u64R c.badge
  guard : u64R c.guard
theorem mask7 (x : BitVec 64) : (x &&& ~~~7#64) = 0#64 ↔ x.toNat < 8 := by
 have e7 : (x &&& 7#64).toNat = x.toNat % 8 := by
  rw [BitVec.toNat_and, show (7#64).toNat = 2 ^ 3 - 1 by rfl, Nat.and_two_pow_sub_one_eq_mod]
 have es : x = (x &&& 7#64) ||| (x &&& ~~~7#64) := by
  apply BitVec.eq_of_getLsbD_eq
  intro i hi
  simp only [BitVec.getLsbD_or, BitVec.getLsbD_and, BitVec.getLsbD_not, hi, decide_true, Bool.true_and]
  cases x.getLsbD i <;> cases (7#64).getLsbD i <;> rfl
 constructor
 ·
  intro h
  rw [h, BitVec.or_zero] at es
  rw [es, e7]; omega
 ·
  intro h
  have : x = x &&& 7#64 := by
   apply BitVec.eq_of_toNat_eq
   rw [e7]; omega
  rw [this, BitVec.and_assoc]
  have z : (7#64 &&& ~~~7#64) = 0#64 := by decide
  rw [z, BitVec.and_zero]
theorem rights_iff {r : Int} (h : i64R r) : rightsOk r = true ↔ 0 ≤ r ∧ r ≤ 7 := by
 have hx : (BitVec.ofInt 64 r).toNat = (r % 18446744073709551616).toNat := by rw [BitVec.toNat_ofInt]; rfl
 have hb := (BitVec.ofInt 64 r &&& ~~~BitVec.ofInt 64 7).isLt
 have hw : ∀ m : Nat, m < 2 ^ 64 → (IntKind.i64.wrap (m : Int) = 0 ↔ m = 0) := by
  intro m hm
  simp [IntKind.wrap, IntKind.signed, IntKind.bits]; omega
 have e : bitsI .andNot .i64 r 7 = IntKind.i64.wrap ((BitVec.ofInt 64 r &&& ~~~BitVec.ofInt 64 7).toNat : Int) := rfl
 unfold rightsOk
 rw [decide_eq_true_iff, e, hw _ hb]
 have z : (BitVec.ofInt 64 r &&& ~~~BitVec.ofInt 64 7).toNat = 0 ↔ (BitVec.ofInt 64 r &&& ~~~7#64) = 0#64 :=
  ⟨fun h => BitVec.eq_of_toNat_eq h, fun h => congrArg BitVec.toNat h⟩
 rw [z, mask7, hx]
 unfold i64R at h
 omega
theorem d_lt {l : List DN} {i : Nat} {d : DN} (h : l[i]? = some d) : i < l.length := (List.getElem?_eq_some_iff.1 h).1
theorem dsetC_eq {l : List DN} {s : SlotM} {d : DN} {i : Nat} (h : dfind l s.1 = some d) (hi : idxM (dIds l) s.1 = i) (c : CapM) : dsetC l s c = l.set i { d with caps := d.caps.set s.2.toNat c } := by
 unfold dsetC; rw [h, hi]; rfl
def newN (m k cb : Nat) : DN := ⟨m, k, List.replicate (2 ^ k) CapM.zero, cb⟩
def dPlace (l : List DN) (id : Int) (n : Nat) : Prop := n ≤ l.length ∧ (∀ j d, j < n → l[j]? = some d → (d.id : Int) < id) ∧ ∀ d, l[n]? = some d → ¬ (d.id : Int) < id
end Go.Proofs.YtipncceiekalfaaGreat
end
section
set_option linter.unusedVariables false
set_option linter.unusedSimpArgs false
namespace Go.Proofs.YtipncceiekalfaaGreat
open Go.SL
def StoreM.Zero (S : StoreM) : Prop := ∀ (id : Int) (n : NodeM) (i : Nat) (c : CapM), nget id S.nodes = some n → n.caps[i]? = some c → c.kind = 0 → c = CapM.zero
def RelN (S : StoreM) (l : List DN) (id : Int) : Prop := (nget id S.nodes = none ∧ dfind l id = none) ∨ ∃ n d, nget id S.nodes = some n ∧ dfind l id = some d ∧ d.rad = n.radix ∧ d.caps = n.caps.take (2 ^ n.radix)
structure Rel (S : StoreM) (l : List DN) : Prop where
  wf : S.Wf
  tidy : S.Tidy
  uniq : S.Uniq
  zero : S.Zero
  srt : (dIds l).Pairwise (· < ·)
  lt : ∀ x, x ∈ dIds l → x < 64
  rel : ∀ id, RelN S l id
theorem rel_new {S : StoreM} (h : S.nodes = []) : Rel S [] :=
  ⟨wf_new h, tidy_new h, by unfold StoreM.Uniq; rw [h]; exact List.nodup_nil, (by intro id n i c hn; rw [h] at hn; cases hn), List.Pairwise.nil, by simp [dIds], fun id => .inl ⟨by rw [h]; rfl, rfl⟩⟩
theorem pow16 {r : Nat} (h : r ≤ 4) : 2 ^ r ≤ 16 := Nat.pow_le_pow_right (n := 2) (by omega) h
theorem dfind_self : ∀ {l : List DN}, (dIds l).Pairwise (· < ·) → ∀ {d : DN}, d ∈ l → dfind l d.id = some d
  | [], _, d, h => by cases h
  | a :: l, hs, d, h => by
    rw [dfind_cons]
    have hs' : (((a.id : Nat) : Int) :: dIds l).Pairwise (· < ·) := hs
    rw [List.pairwise_cons] at hs'
    rcases List.mem_cons.1 h with rfl | h
    · rw [if_pos rfl]
    · have := hs'.1 d.id (List.mem_map.2 ⟨d, h, rfl⟩)
      rw [if_neg (by omega)]
      exact dfind_self hs'.2 h
section
variable {S : StoreM} {l : List DN} (h : Rel S l)
include h
theorem rel_find {id : Int} {d : DN} (hd : dfind l id = some d) : ∃ n, nget id S.nodes = some n ∧ d.rad = n.radix ∧ d.caps = n.caps.take (2 ^ n.radix) ∧ d.caps.length = 2 ^ n.radix ∧ n.Wf := by
 rcases h.rel id with ⟨_, e⟩ | ⟨n, d', hn, e, hr, hc⟩
 ·
  rw [e] at hd; cases hd
 ·
  rw [e] at hd; cases hd
  have hw := (h.wf _ _ hn).1
  refine ⟨n, hn, hr, hc, ?_, hw⟩
  rw [hc, List.length_take, hw.len]
  have := pow16 hw.hi
  omega
theorem rel_cap (s : SlotM) : S.cap? s = dcap? l s := by
 unfold StoreM.cap? dcap?
 rcases h.rel s.1 with ⟨e1, e2⟩ | ⟨n, d, hn, e, hr, hc⟩
 ·
  rw [e1, e2]
 ·
  obtain ⟨n', hn', _, _, hl, hw⟩ := rel_find h e
  rw [hn] at hn'; cases hn'
  rw [hn, e]
  dsimp only
  by_cases hh : n.has s.2
  ·
   have hh2 := hh
   unfold NodeM.has at hh2
   rw [if_pos hh, if_pos (by rw [hl]; exact hh2), hc, List.getElem?_take, if_pos (by omega)]
  ·
   have hh2 := hh
   unfold NodeM.has at hh2
   rw [if_neg hh, if_neg (by rw [hl]; exact hh2)]
theorem rel_get (s : SlotM) : S.get s = dget l s := by unfold StoreM.get dget; rw [rel_cap h]; try (cases dcap? l s <;> rfl)
theorem rel_radix (id : Int) : S.radix id = dradix l id := by
 unfold StoreM.radix dradix
 rcases h.rel id with ⟨e1, e2⟩ | ⟨n, d, hn, e, hr, hc⟩
 ·
  rw [e1, e2]
 ·
  rw [hn, e]; dsimp only; rw [hr]
end
theorem dIds_set {l : List DN} {i : Nat} {d d' : DN} (hd : l[i]? = some d) (he : d'.id = d.id) : dIds (l.set i d') = dIds l := by
 apply List.ext_getElem?
 intro j
 unfold dIds
 rw [List.getElem?_map, List.getElem?_map, List.getElem?_set]
 by_cases hij : i = j
 ·
  subst hij
  rw [if_pos rfl, if_pos (d_lt hd), hd]; simp [he]
 ·
  rw [if_neg hij]
theorem dfind_set {id : Int} {d d' : DN} (he : d'.id = d.id) (o : Int) : ∀ {l : List DN}, dfind l id = some d → dfind (l.set (idxM (dIds l) id).toNat d') o = if o = id then some d' else dfind l o
  | [], h => by cases h
  | a :: l, h => by
    have hcons : idxM (dIds (a :: l)) id = if (a.id : Int) = id then 0 else if idxM (dIds l) id < 0 then -1 else idxM (dIds l) id + 1 := rfl
    rw [dfind_cons] at h
    rw [hcons]
    by_cases e : (a.id : Int) = id
    · rw [if_pos e] at h ⊢
      cases h
      show dfind (d' :: l) o = _
      rw [dfind_cons, he, e, dfind_cons, e]
      by_cases ho : o = id
      · rw [if_pos ho.symm, if_pos ho]
      · rw [if_neg (Ne.symm ho), if_neg ho, if_neg (Ne.symm ho)]
    · rw [if_neg e] at h ⊢
      obtain ⟨i, hi, _, _⟩ := dfind_some h
      have ih := dfind_set he o h
      rw [hi] at ih ⊢
      rw [if_neg (by omega), show ((i : Int) + 1).toNat = i + 1 by omega, List.set_cons_succ, dfind_cons, dfind_cons, ← show (i : Int).toNat = i by omega, ih]
      by_cases ho : o = id
      · subst ho; simp [e]
      · simp [ho]
theorem rel_set {S : StoreM} {l : List DN} (h : Rel S l) {s : SlotM} {x : CapM} (hx : S.cap? s = some x) {c : CapM} (hc : c.kind ≠ 0 → checkM c = 0) (hz : c.kind = 0 → c = CapM.zero) : Rel (S.setCap s c) (dsetC l s c) := by
 have hx2 := hx
 rw [rel_cap h] at hx2
 obtain ⟨d, hd, hh, hxd⟩ := dcap_some hx2
 obtain ⟨i, hi, hid, hdid⟩ := dfind_some hd
 have hds := dsetC_eq hd hi c
 have hdi : dIds (dsetC l s c) = dIds l := by rw [hds]; exact dIds_set hid rfl
 obtain ⟨n, hn, hr, hcd, hl, hw⟩ := rel_find h hd
 have tz : ∀ o m i d, nget o (S.setCap s c).nodes = some m → m.caps[i]? = some d → (d.kind ≠ 0 → i < 2 ^ m.radix ∧ checkM d = 0) ∧ (d.kind = 0 → d = CapM.zero) := by
  intro o m i d hm hmd
  obtain ⟨m', hm', hh', hmc, e⟩ := setCap_nget hx c o
  rw [e] at hm
  split at hm
  ·
   cases hm
   by_cases hi : i = s.2.toNat
   ·
    subst hi
    have hl := (List.getElem?_eq_some_iff.1 hmc).1
    simp only [NodeM.set, List.getElem?_set_self hl] at hmd
    cases hmd
    have := hh'.1; have := hh'.2
    exact ⟨fun hk => ⟨by simp only [NodeM.set]; omega, hc hk⟩, hz⟩
   ·
    have : s.2.toNat ≠ i := fun e => hi e.symm
    simp only [NodeM.set, List.getElem?_set_ne this] at hmd
    exact ⟨fun hk => h.tidy _ m' i d hm' hmd hk, fun hk => h.zero _ m' i d hm' hmd hk⟩
  ·
   exact ⟨fun hk => h.tidy o m i d hm hmd hk, fun hk => h.zero o m i d hm hmd hk⟩
 refine ⟨setCap_wf hx _ h.wf, fun o m i d hm hmd hk => (tz o m i d hm hmd).1 hk, setCap_uniq h.uniq, fun o m i d hm hmd hk => (tz o m i d hm hmd).2 hk, by rw [hdi]; exact h.srt, by rw [hdi]; exact h.lt, fun o => ?_⟩
 obtain ⟨m, hm, _, _, e⟩ := setCap_nget hx c o
 rw [hn] at hm; cases hm
 have e2 : dfind (dsetC l s c) o = if o = s.1 then some { d with caps := d.caps.set s.2.toNat c } else dfind l o := by
  rw [hds, ← show (i : Int).toNat = i by omega, ← hi]; exact dfind_set (d := d) (d' := { d with caps := d.caps.set s.2.toNat c }) rfl o hd
 unfold RelN
 rw [e, e2]
 by_cases ho : o = s.1
 ·
  rw [if_pos ho, if_pos ho]
  refine .inr ⟨_, _, rfl, rfl, hr, ?_⟩
  show d.caps.set s.2.toNat c = (n.caps.set s.2.toNat c).take (2 ^ n.radix)
  rw [List.take_set, ← hcd]
 ·
  rw [if_neg ho, if_neg ho]; exact h.rel o
theorem rel_put {S : StoreM} {l : List DN} (h : Rel S l) (s : SlotM) (c : CapM) : (S.put s c).1 = (dput l s c).1 ∧ Rel (S.put s c).2 (dput l s c).2 := by
 unfold StoreM.put dput
 have e := rel_cap h s
 cases hx : S.cap? s with
 | none => rw [hx] at e; rw [← e]; exact ⟨rfl, h⟩
 | some x =>
  rw [hx] at e; rw [← e]
  dsimp only
  split
  ·
   exact ⟨rfl, h⟩
  ·
   rename_i h1
   split
   ·
    exact ⟨rfl, h⟩
   ·
    rename_i h2
    split
    ·
     exact ⟨rfl, h⟩
    ·
     exact ⟨rfl, rel_set h hx (fun _ => by omega) (fun hk => absurd hk h2)⟩
theorem rel_take {S : StoreM} {l : List DN} (h : Rel S l) (s : SlotM) : (S.take s).1 = (dtake l s).1 ∧ (S.take s).2.1 = (dtake l s).2.1 ∧ Rel (S.take s).2.2 (dtake l s).2.2 := by
 unfold StoreM.take dtake
 have e := rel_cap h s
 cases hx : S.cap? s with
 | none => rw [hx] at e; rw [← e]; exact ⟨rfl, rfl, h⟩
 | some x =>
  rw [hx] at e; rw [← e]
  dsimp only
  by_cases hk : x.kind = 0
  ·
   obtain ⟨n, hn, _, hc, _⟩ := S.cap_some hx
   rw [if_pos hk, if_pos hk]
   exact ⟨(h.zero _ n _ x hn hc hk).symm, rfl, h⟩
  ·
   rw [if_neg hk, if_neg hk]
   exact ⟨rfl, rfl, rel_set h hx (fun hk => absurd rfl hk) (fun _ => rfl)⟩
theorem addNode_zero {S : StoreM} (hz : S.Zero) {id : Int} (h : nget id S.nodes = none) (b r : Nat) : (S.addNode id b r).Zero := by
 intro o n i c hn hc hk
 rw [addNode_nget h] at hn
 split at hn
 ·
  cases hn; exact List.eq_of_mem_replicate (List.mem_of_getElem? hc)
 ·
  exact hz o n i c hn hc hk
theorem rel_addErr {S : StoreM} {l : List DN} (h : Rel S l) (id r : Int) : addErr S id r = daddErr l id r := by
 unfold addErr daddErr
 rcases h.rel id with ⟨e1, e2⟩ | ⟨n, d, hn, e, _, _⟩
 ·
  rw [e1, e2]; rfl
 ·
  rw [hn, e]; rfl
theorem rel_add {S : StoreM} {l : List DN} (h : Rel S l) {id r : Int} (he : addErr S id r = 0) {n : Nat} (hp : dPlace l id n) (b cb : Nat) : Rel (S.addNode id b r.toNat) (l.take n ++ newN id.toNat r.toNat cb :: l.drop n) := by
 unfold addErr at he
 split at he
 ·
  cases he
 rename_i hr
 have hn : nget id S.nodes = none := by
  cases e : nget id S.nodes with
  | none => rfl
  | some m => rw [e] at he; cases he
 have hd : dfind l id = none := by
  rcases h.rel id with ⟨_, e2⟩ | ⟨m, d, hm, _⟩
  ·
   exact e2
  ·
   rw [hn] at hm; cases hm
 obtain ⟨m, rfl⟩ : ∃ m : Nat, id = m := ⟨id.toNat, by omega⟩
 obtain ⟨k, rfl⟩ : ∃ k : Nat, r = k := ⟨r.toNat, by omega⟩
 rw [Int.toNat_natCast, Int.toNat_natCast]
 have hids : dIds (l.take n ++ newN m k cb :: l.drop n) = (dIds l).take n ++ (m : Int) :: (dIds l).drop n := by simp [dIds, newN, List.map_take, List.map_drop]
 have hne : ∀ d, d ∈ l → (d.id : Int) ≠ m := fun d hdm e => by
  have := dfind_self h.srt hdm
  rw [e, hd] at this; cases this
 have hlo : ∀ x, x ∈ (dIds l).take n → x < (m : Int) := by
  intro x hx
  obtain ⟨j, hj⟩ := List.getElem?_of_mem hx
  have hjn : j < n := by
   have := (List.getElem?_eq_some_iff.1 hj).1
   rw [List.length_take] at this; omega
  rw [List.getElem?_take, if_pos hjn] at hj
  unfold dIds at hj
  rw [List.getElem?_map] at hj
  obtain ⟨d, hdj, rfl⟩ := Option.map_eq_some_iff.1 hj
  exact hp.2.1 j d hjn hdj
 have hhi : ∀ x, x ∈ (dIds l).drop n → (m : Int) < x := by
  intro x hx
  rcases Nat.lt_or_ge n l.length with hlt | hge
  ·
   have hdn : l[n]? = some l[n] := List.getElem?_eq_getElem hlt
   have h1 := hp.2.2 _ hdn
   have h2 := hne _ (List.mem_of_getElem? hdn)
   have hs := h.srt.sublist (List.drop_sublist n (dIds l))
   have hc : (dIds l).drop n = (l[n].id : Int) :: (dIds l).drop (n + 1) := by
    rw [List.drop_eq_getElem_cons (by rw [dIds_len]; exact hlt)]; simp [dIds]
   rw [hc] at hs hx
   rw [List.pairwise_cons] at hs
   rcases List.mem_cons.1 hx with rfl | hx
   ·
    omega
   ·
    have := hs.1 x hx; omega
  ·
   rw [List.drop_of_length_le (by rw [dIds_len]; exact hge)] at hx; cases hx
 refine ⟨addNode_wf hn _ _ h.wf (by omega) (by omega) (by omega) (by omega), tidy_add h.tidy hn _ _, addNode_uniq h.uniq hn, addNode_zero h.zero hn _ _, ?_, ?_, fun o => ?_⟩
 ·
  rw [hids, List.pairwise_append, List.pairwise_cons]
  refine ⟨h.srt.sublist (List.take_sublist _ _), ⟨hhi, h.srt.sublist (List.drop_sublist _ _)⟩, fun a ha b hb => ?_⟩
  rcases List.mem_cons.1 hb with rfl | hb
  ·
   exact hlo a ha
  ·
   have := hlo a ha; have := hhi b hb; omega
 ·
  rw [hids]
  intro x hx
  rcases List.mem_append.1 hx with hx | hx
  ·
   exact h.lt x (List.mem_of_mem_take hx)
  ·
   rcases List.mem_cons.1 hx with rfl | hx
   ·
    omega
   ·
    exact h.lt x (List.mem_of_mem_drop hx)
 ·
  have ed : dfind (l.take n ++ newN m k cb :: l.drop n) o = if o = (m : Int) then some (newN m k cb) else dfind l o := by
   have e0 : dfind l o = (dfind (l.take n) o).or (dfind (l.drop n) o) := by rw [← dfind_app, List.take_append_drop]
   rw [dfind_app, dfind_cons]
   by_cases ho : o = (m : Int)
   ·
    subst ho
    have e1 : dfind (l.take n) (m : Int) = none := by
     rw [hd] at e0
     cases e : dfind (l.take n) (m : Int) with
     | none => rfl
     | some z => rw [e] at e0; cases e0
    rw [if_pos rfl, e1, if_pos (by simp [newN])]; rfl
   ·
    rw [if_neg ho, if_neg (by simp [newN]; omega), e0]
  unfold RelN
  rw [ed, addNode_nget hn]
  by_cases ho : o = (m : Int)
  ·
   rw [if_pos ho, if_pos ho]
   refine .inr ⟨_, _, rfl, rfl, rfl, ?_⟩
   show List.replicate (2 ^ k) CapM.zero = zeroCaps.take (2 ^ k)
   have := pow16 (r := k) (by omega)
   unfold zeroCaps
   rw [List.take_replicate, Nat.min_eq_left this]
  ·
   rw [if_neg ho, if_neg ho]; exact h.rel o
theorem dfind_del {id : Int} {d : DN} (o : Int) : ∀ {l : List DN}, (dIds l).Pairwise (· < ·) → dfind l id = some d → dfind (l.eraseIdx (idxM (dIds l) id).toNat) o = if o = id then none else dfind l o
  | [], _, h => by cases h
  | a :: l, hs, h => by
    have hcons : idxM (dIds (a :: l)) id = if (a.id : Int) = id then 0 else if idxM (dIds l) id < 0 then -1 else idxM (dIds l) id + 1 := rfl
    have hs' : (((a.id : Nat) : Int) :: dIds l).Pairwise (· < ·) := hs
    rw [List.pairwise_cons] at hs'
    rw [dfind_cons] at h
    rw [hcons]
    by_cases e : (a.id : Int) = id
    · rw [if_pos e] at h ⊢
      cases h
      show dfind l o = _
      rw [dfind_cons, e]
      by_cases ho : o = id
      · rw [if_pos ho, ho]
        cases hf : dfind l id with
        | none => rfl
        | some d =>
          obtain ⟨_, _, hi, hd⟩ := dfind_some hf
          have := hs'.1 d.id (List.mem_map.2 ⟨d, List.mem_of_getElem? hi, rfl⟩)
          omega
      · rw [if_neg ho, if_neg (Ne.symm ho)]
    · rw [if_neg e] at h ⊢
      obtain ⟨i, hi, _, _⟩ := dfind_some h
      have ih := dfind_del o hs'.2 h
      rw [hi] at ih ⊢
      rw [if_neg (by omega), show ((i : Int) + 1).toNat = i + 1 by omega, List.eraseIdx_cons_succ, dfind_cons, dfind_cons, ← show (i : Int).toNat = i by omega, ih]
      by_cases ho : o = id
      · subst ho; simp [e]
      · simp [ho]
theorem rel_del {S : StoreM} {l : List DN} (h : Rel S l) {id : Int} {d : DN} (hd : dfind l id = some d) : Rel (S.delNode id) (ddel l id) := by
 have hng : ∀ o, nget o (S.delNode id).nodes = if o = id then none else nget o S.nodes := nget_ndel h.uniq
 have hsome : ∀ {o n}, nget o (S.delNode id).nodes = some n → nget o S.nodes = some n := by
  intro o n hn
  rw [hng] at hn
  split at hn
  ·
   cases hn
  ·
   exact hn
 have hsub : (dIds (ddel l id)).Sublist (dIds l) := (List.eraseIdx_sublist _ _).map _
 refine ⟨fun o n hn => h.wf o n (hsome hn), fun o n i c hn => h.tidy o n i c (hsome hn), ndel_uniq h.uniq, fun o n i c hn => h.zero o n i c (hsome hn), h.srt.sublist hsub, fun x hx => h.lt x (hsub.subset hx), fun o => ?_⟩
 unfold RelN
 have e2 : dfind (ddel l id) o = if o = id then none else dfind l o := dfind_del o h.srt hd
 rw [hng, e2]
 by_cases ho : o = id
 ·
  rw [if_pos ho, if_pos ho]; exact .inl ⟨rfl, rfl⟩
 ·
  rw [if_neg ho, if_neg ho]; exact h.rel o
theorem sorted_len : ∀ {l : List Int} {a b : Int}, l.Pairwise (· < ·) → (∀ x, x ∈ l → a ≤ x ∧ x < b) → a ≤ b → (l.length : Int) ≤ b - a
  | [], a, b, _, _, h => by simp; omega
  | x :: l, a, b, hs, hb, h => by
    rw [List.pairwise_cons] at hs
    have hx := hb x (List.mem_cons_self ..)
    have ih := sorted_len (a := x + 1) (b := b) hs.2 (fun y hy => ⟨by have := hs.1 y hy; omega, (hb y (List.mem_cons_of_mem _ hy)).2⟩) (by omega)
    rw [List.length_cons]; omega
theorem rel_len {S : StoreM} {l : List DN} (h : Rel S l) : l.length ≤ 64 := by
 have := sorted_len (a := 0) (b := 64) h.srt (fun x hx => ⟨by obtain ⟨d, _, rfl⟩ := List.mem_map.1 hx; omega, h.lt x hx⟩) (by omega)
 rw [dIds_len] at this; omega
end Go.Proofs.YtipncceiekalfaaGreat
end
section
set_option linter.unusedVariables false
set_option linter.unusedSimpArgs false
namespace Go.SL
def isC (L : Hp) (b : Nat) : Prop := ∃ c T, (b, Obj.cells c T (0, 0)) ∈ L
theorem isC.mono {L M : Hp} {b : Nat} (h : isC L b) (hm : ∀ p, p ∈ L → p ∈ M) : isC M b := by
 obtain ⟨c, T, h⟩ := h; exact ⟨c, T, hm _ h⟩
section ptrs
variable {P : Program} {n : Nat} {D : List Deferred} {E : Env} {L : Hp} {d : Option Tmp} {ty : TypeId} {pos : String} {aft : Array Edge} {g : Option (Nat × Bool)} {T : TypeId} {x y : Operand}
end ptrs
section nd
variable {P : Program} {W : World} {ops : Array Oper} {Q : Exit → Act → World → Prop} {n : Nat} {D : List Deferred} {E : Env} {L : Hp} {rest : List Oper}
theorem Ops.nd (h : (L.map Prod.fst).Nodup → Ops P W ops Q n D rest E L) : Ops P W ops Q n D rest E L := by
 unfold Ops at h ⊢
 exact fun a w hs ho => h ho.nd a w hs ho
theorem Wp.nd {c : Code} (h : (L.map Prod.fst).Nodup → Wp P W Q n D c E L) : Wp P W Q n D c E L := by
 unfold Wp at h ⊢
 exact fun a w hs ho => h ho.nd a w hs ho
theorem Ends.nd {e : Exit} (h : (L.map Prod.fst).Nodup → Ends W Q n D e E L) : Ends W Q n D e E L := by
 unfold Ends at h ⊢
 exact fun a w hs ho => h ho.nd a w hs ho
end nd
def ptrE (b : Nat) : List Value := [.pointer (some ⟨b, 0, none⟩)]
abbrev ptsC (l : List Nat) : List Value := cel ptrE l
theorem ptsC_app (l m : List Nat) : ptsC (l ++ m) = ptsC l ++ ptsC m := cel_app l m
structure SP where
  a : Option Addr
  c : Nat
  l : List Nat
abbrev SP.v (s : SP) : Value := .slice s.a s.l.length s.c
end Go.SL
end
section
set_option linter.unusedVariables false
set_option linter.unusedSimpArgs false
set_option linter.unusedSectionVars false
namespace Go.Proofs.YtipncceiekalfaaGreat
inductive Fo (α : Type) where
  | nil : Fo α
  | cons (i : α) (c r : Fo α) : Fo α
namespace Fo
section
variable {α : Type}
def app : (Fo α) → (Fo α) → (Fo α)
  | .nil, g => g
  | .cons i c r, g => .cons i c (app r g)
def flat : (Fo α) → Nat → List (α × Nat)
  | .nil, _ => []
  | .cons i c r, d => (i, d) :: (flat c (d + 1) ++ flat r d)
def all : (Fo α) → List α
  | .nil => []
  | .cons i c r => i :: (all c ++ all r)
def roots : (Fo α) → List α
  | .nil => []
  | .cons i _ r => i :: roots r
def OkK (kids : α → List α) : (Fo α) → Prop
  | .nil => True
  | .cons i c r => kids i = roots c ∧ OkK kids c ∧ OkK kids r
def OkP (par : α → Option α) : (Fo α) → Option α → Prop
  | .nil, _ => True
  | .cons i c r, p => par i = p ∧ OkP par c (some i) ∧ OkP par r p
def one (y : α) : (Fo α) := .cons y .nil .nil
end
variable {α : Type} [DecidableEq α]
def sub (x : α) : (Fo α) → (Fo α)
  | .nil => .nil
  | .cons i c r => if i = x then c else if x ∈ all c then sub x c else sub x r
def parO (x : α) : (Fo α) → Option α → Option α
  | .nil, _ => none
  | .cons i c r, p => if i = x then p else if x ∈ all c then parO x c (some i) else parO x r p
def drop (x : α) : (Fo α) → (Fo α)
  | .nil => .nil
  | .cons i c r => if i = x then app c r else .cons i (drop x c) (drop x r)
def addc (x y : α) : (Fo α) → (Fo α)
  | .nil => .nil
  | .cons i c r => if i = x then .cons i (app c (.cons y .nil .nil)) r else .cons i (addc x y c) (addc x y r)
def dep (x : α) : (Fo α) → Nat
  | .nil => 0
  | .cons i c r => if i = x then 0 else if x ∈ all c then dep x c + 1 else dep x r
theorem all_app : ∀ f g : (Fo α), all (app f g) = all f ++ all g
  | .nil, g => rfl
  | .cons i c r, g => by simp [app, all, all_app r g]
theorem roots_app : ∀ f g : (Fo α), roots (app f g) = roots f ++ roots g
  | .nil, g => rfl
  | .cons i c r, g => by simp [app, roots, roots_app r g]
theorem flat_app (d : Nat) : ∀ f g : (Fo α), flat (app f g) d = flat f d ++ flat g d
  | .nil, g => rfl
  | .cons i c r, g => by simp [app, flat, flat_app d r g]
theorem flat_ge : ∀ (f : (Fo α)) (d : Nat) (e : α × Nat), e ∈ flat f d → d ≤ e.2
  | .nil, _, _, h => by cases h
  | .cons i c r, d, e, h => by
    simp only [flat, List.mem_cons, List.mem_append] at h
    rcases h with rfl | h | h
    · exact Nat.le_refl _
    · have := flat_ge c (d + 1) e h; omega
    · exact flat_ge r d e h
theorem roots_sub_all : ∀ (f : (Fo α)) (x : α), x ∈ roots f → x ∈ all f
  | .nil, _, h => by cases h
  | .cons i c r, x, h => by
    simp only [roots, List.mem_cons, all, List.mem_append] at h ⊢
    rcases h with h | h
    · exact .inl h
    · exact .inr (.inr (roots_sub_all r x h))
theorem sub_all : ∀ (f : (Fo α)) (x z : α), z ∈ all (sub x f) → z ∈ all f
  | .nil, _, _, h => h
  | .cons i c r, x, z, h => by
    simp only [sub] at h
    simp only [all, List.mem_cons, List.mem_append]
    split at h
    · exact .inr (.inl h)
    · split at h
      · exact .inr (.inl (sub_all c x z h))
      · exact .inr (.inr (sub_all r x z h))
theorem sub_no : ∀ (f : (Fo α)) (x : α), x ∉ all f → sub x f = .nil
  | .nil, _, _ => rfl
  | .cons i c r, x, h => by
    simp only [all, List.mem_cons, List.mem_append, not_or] at h
    simp only [sub]
    rw [if_neg (Ne.symm h.1), if_neg h.2.1, sub_no r x h.2.2]
theorem drop_no : ∀ (f : (Fo α)) (x : α), x ∉ all f → drop x f = f
  | .nil, _, _ => rfl
  | .cons i c r, x, h => by
    simp only [all, List.mem_cons, List.mem_append, not_or] at h
    simp only [drop]
    rw [if_neg (Ne.symm h.1), drop_no c x h.2.1, drop_no r x h.2.2]
theorem addc_no (y : α) : ∀ (f : (Fo α)) (x : α), x ∉ all f → addc x y f = f
  | .nil, _, _ => rfl
  | .cons i c r, x, h => by
    simp only [all, List.mem_cons, List.mem_append, not_or] at h
    simp only [addc]
    rw [if_neg (Ne.symm h.1), addc_no y c x h.2.1, addc_no y r x h.2.2]
def Nd {α : Type} (f : (Fo α)) : Prop := (all f).Nodup
theorem nd_cons {i : α} {c r : (Fo α)} (h : Nd (.cons i c r)) : i ∉ all c ∧ i ∉ all r ∧ Nd c ∧ Nd r ∧ ∀ z, z ∈ all c → z ∉ all r := by
 unfold Nd at h
 simp only [all, List.nodup_cons, List.mem_append, not_or, List.nodup_append] at h
 exact ⟨h.1.1, h.1.2, h.2.1, h.2.2.1, fun z h1 h2 => h.2.2.2 z h1 z h2 rfl⟩
theorem OkK.sub {kids : α → List α} : ∀ {f : (Fo α)} {x : α}, OkK kids f → x ∈ all f → kids x = roots (sub x f) ∧ OkK kids (sub x f)
  | .nil, _, _, h => by cases h
  | .cons i c r, x, ⟨h1, h2, h3⟩, h => by
    simp only [all, List.mem_cons, List.mem_append] at h
    simp only [Fo.sub]
    by_cases e : i = x
    · rw [if_pos e]; exact ⟨e ▸ h1, h2⟩
    · rw [if_neg e]
      by_cases e2 : x ∈ all c
      · rw [if_pos e2]; exact OkK.sub h2 e2
      · rw [if_neg e2]
        exact OkK.sub h3 (by rcases h with h | h | h; exact absurd h.symm e; exact absurd h e2; exact h)
theorem OkP.at {par : α → Option α} : ∀ {f : (Fo α)} {p : Option α} {x : α}, OkP par f p → x ∈ all f → par x = parO x f p
  | .nil, _, _, _, h => by cases h
  | .cons i c r, p, x, ⟨h1, h2, h3⟩, h => by
    simp only [all, List.mem_cons, List.mem_append] at h
    simp only [parO]
    by_cases e : i = x
    · rw [if_pos e]; exact e ▸ h1
    · rw [if_neg e]
      by_cases e2 : x ∈ all c
      · rw [if_pos e2]; exact OkP.at h2 e2
      · rw [if_neg e2]
        exact OkP.at h3 (by rcases h with h | h | h; exact absurd h.symm e; exact absurd h e2; exact h)
theorem OkK.congr {k k' : α → List α} : ∀ {f : (Fo α)}, (∀ z, z ∈ all f → k z = k' z) → OkK k f → OkK k' f
  | .nil, _, _ => trivial
  | .cons i c r, h, ⟨h1, h2, h3⟩ => ⟨by rw [← h i (by simp [all])]; exact h1, OkK.congr (fun z hz => h z (by simp [all, hz])) h2, OkK.congr (fun z hz => h z (by simp [all, hz])) h3⟩
theorem OkP.congr {k k' : α → Option α} : ∀ {f : (Fo α)} {p : Option α}, (∀ z, z ∈ all f → k z = k' z) → OkP k f p → OkP k' f p
  | .nil, _, _, _ => trivial
  | .cons i c r, p, h, ⟨h1, h2, h3⟩ => ⟨by rw [← h i (by simp [all])]; exact h1, OkP.congr (fun z hz => h z (by simp [all, hz])) h2, OkP.congr (fun z hz => h z (by simp [all, hz])) h3⟩
theorem OkK.app {k : α → List α} : ∀ {f g : (Fo α)}, OkK k f → OkK k g → OkK k (Fo.app f g)
  | .nil, _, _, h => h
  | .cons i c r, g, ⟨h1, h2, h3⟩, h => ⟨h1, h2, OkK.app h3 h⟩
theorem OkP.app {k : α → Option α} : ∀ {f g : (Fo α)} {p : Option α}, OkP k f p → OkP k g p → OkP k (Fo.app f g) p
  | .nil, _, _, _, h => h
  | .cons i c r, g, p, ⟨h1, h2, h3⟩, h => ⟨h1, h2, OkP.app h3 h⟩
theorem roots_addc {x y : α} : ∀ f : (Fo α), roots (addc x y f) = roots f
  | .nil => rfl
  | .cons i c r => by
    simp only [addc]
    split
    · rfl
    · simp [roots, roots_addc r]
theorem OkK.addc {k k' : α → List α} {x y : α} (hx : k' x = k x ++ [y]) (hy : k' y = []) : ∀ {f : (Fo α)}, Nd f → y ∉ all f → (∀ z, z ∈ all f → z ≠ x → k' z = k z) → OkK k f → OkK k' (Fo.addc x y f)
  | .nil, _, _, _, _ => trivial
  | .cons i c r, hn, hyf, h, ⟨h1, h2, h3⟩ => by
    obtain ⟨n1, n2, n3, n4, n5⟩ := nd_cons hn
    simp only [all, List.mem_cons, List.mem_append, not_or] at hyf
    simp only [Fo.addc]
    by_cases e : i = x
    · rw [if_pos e]
      subst e
      refine ⟨by rw [hx, h1, roots_app]; rfl, OkK.app (OkK.congr (fun z hz => (h z (by simp [all, hz]) (fun e => n1 (e ▸ hz))).symm) h2) ⟨hy, trivial, trivial⟩, OkK.congr (fun z hz => (h z (by simp [all, hz]) (fun e => n2 (e ▸ hz))).symm) h3⟩
    · rw [if_neg e]
      refine ⟨by rw [roots_addc, h i (by simp [all]) e, h1], OkK.addc hx hy n3 hyf.2.1 (fun z hz => h z (by simp [all, hz])) h2, OkK.addc hx hy n4 hyf.2.2 (fun z hz => h z (by simp [all, hz])) h3⟩
theorem OkP.addc {k : α → Option α} {x y : α} (hy : k y = some x) : ∀ {f : (Fo α)} {p : Option α}, OkP k f p → OkP k (Fo.addc x y f) p
  | .nil, _, _ => trivial
  | .cons i c r, p, ⟨h1, h2, h3⟩ => by
    simp only [Fo.addc]
    by_cases e : i = x
    · rw [if_pos e]
      exact ⟨h1, OkP.app h2 ⟨by rw [hy, e], trivial, trivial⟩, h3⟩
    · rw [if_neg e]
      exact ⟨h1, OkP.addc hy h2, OkP.addc hy h3⟩
def repl (x : α) (l : List α) : List α → List α
  | [] => []
  | a :: m => if a = x then l ++ m else a :: repl x l m
theorem repl_no {x : α} {l : List α} : ∀ {m : List α}, x ∉ m → repl x l m = m
  | [], _ => rfl
  | a :: m, h => by
    simp only [List.mem_cons, not_or] at h
    simp only [repl]; rw [if_neg (Ne.symm h.1), repl_no h.2]
theorem roots_drop {x : α} : ∀ {f : (Fo α)}, Nd f → roots (drop x f) = repl x (roots (sub x f)) (roots f)
  | .nil, _ => rfl
  | .cons i c r, hn => by
    obtain ⟨n1, n2, n3, n4, n5⟩ := nd_cons hn
    simp only [drop, sub, roots, repl]
    by_cases e : i = x
    · rw [if_pos e, if_pos e, if_pos e, roots_app]
    · rw [if_neg e, if_neg e, if_neg e]
      by_cases e2 : x ∈ all c
      · have h3 := n5 x e2
        rw [roots, drop_no r x h3, repl_no (fun hx => h3 (roots_sub_all r x hx))]
      · rw [if_neg e2, roots, roots_drop n4]
theorem parO_root : ∀ {f : (Fo α)} {x : α} {p : Option α}, Nd f → x ∈ roots f → parO x f p = p
  | .nil, _, _, _, h => by cases h
  | .cons i c r, x, p, hn, h => by
    obtain ⟨n1, n2, n3, n4, n5⟩ := nd_cons hn
    simp only [parO]
    by_cases e : i = x
    · rw [if_pos e]
    · rw [if_neg e]
      have hr : x ∈ roots r := by
        simp only [roots, List.mem_cons] at h
        rcases h with h | h
        · exact absurd h.symm e
        · exact h
      rw [if_neg (fun h2 => n5 x h2 (roots_sub_all r x hr)), parO_root n4 hr]
theorem parO_in : ∀ {f : (Fo α)} {x : α} {p : Option α}, Nd f → x ∈ all f → x ∉ roots f → ∃ j, parO x f p = some j ∧ j ∈ all f
  | .nil, _, _, _, h, _ => by cases h
  | .cons i c r, x, p, hn, h, hr => by
    obtain ⟨n1, n2, n3, n4, n5⟩ := nd_cons hn
    simp only [all, List.mem_cons, List.mem_append] at h
    simp only [roots, List.mem_cons, not_or] at hr
    simp only [parO]
    rw [if_neg (Ne.symm hr.1)]
    by_cases e2 : x ∈ all c
    · rw [if_pos e2]
      by_cases e3 : x ∈ roots c
      · exact ⟨i, parO_root n3 e3, by simp [all]⟩
      · obtain ⟨j, h1, h2⟩ := parO_in (p := some i) n3 e2 e3
        exact ⟨j, h1, by simp [all, h2]⟩
    · rw [if_neg e2]
      obtain ⟨j, h1, h2⟩ := parO_in (f := r) (p := p) n4 (by rcases h with h | h | h; exact absurd h hr.1; exact absurd h e2; exact h) hr.2
      exact ⟨j, h1, by simp [all, h2]⟩
theorem parO_mem {f : (Fo α)} {x : α} {p : Option α} {j : α} (hn : Nd f) (hx : x ∈ all f) (h : parO x f p = some j) : p = some j ∨ j ∈ all f := by
 by_cases hr : x ∈ roots f
 ·
  rw [parO_root hn hr] at h; exact .inl h
 ·
  obtain ⟨k, h1, h2⟩ := parO_in (p := p) hn hx hr
  rw [h1] at h; cases h; exact .inr h2
theorem all_drop {x : α} : ∀ {f : (Fo α)} {z : α}, Nd f → (z ∈ all (drop x f) ↔ z ∈ all f ∧ z ≠ x)
  | .nil, _, _ => by simp [drop, all]
  | .cons i c r, z, hn => by
    obtain ⟨n1, n2, n3, n4, n5⟩ := nd_cons hn
    simp only [drop]
    by_cases e : i = x
    · rw [if_pos e, all_app, List.mem_append]
      subst e
      simp only [all, List.mem_cons, List.mem_append]
      constructor
      · rintro (h | h)
        · exact ⟨.inr (.inl h), fun e => n1 (e ▸ h)⟩
        · exact ⟨.inr (.inr h), fun e => n2 (e ▸ h)⟩
      · rintro ⟨h | h | h, h2⟩
        · exact absurd h h2
        · exact .inl h
        · exact .inr h
    · rw [if_neg e]
      simp only [all, List.mem_cons, List.mem_append, all_drop n3, all_drop n4]
      constructor
      · rintro (h | h | h)
        · exact ⟨.inl h, fun e2 => e (h ▸ e2)⟩
        · exact ⟨.inr (.inl h.1), h.2⟩
        · exact ⟨.inr (.inr h.1), h.2⟩
      · rintro ⟨h | h | h, h2⟩
        · exact .inl h
        · exact .inr (.inl ⟨h, h2⟩)
        · exact .inr (.inr ⟨h, h2⟩)
theorem OkP.at_root {k k' : α → Option α} : ∀ {f : (Fo α)} {p q : Option α}, Nd f → (∀ z, z ∈ all f → k' z = if z ∈ roots f then q else k z) → OkP k f p → OkP k' f q
  | .nil, _, _, _, _, _ => trivial
  | .cons i c r, p, q, hn, h, ⟨h1, h2, h3⟩ => by
    obtain ⟨n1, n2, n3, n4, n5⟩ := nd_cons hn
    refine ⟨by rw [h i (by simp [all]), if_pos (by simp [roots])], OkP.congr (fun z hz => ?_) h2, OkP.at_root (k := k) (p := p) n4 (fun z hz => ?_) h3⟩
    · rw [h z (by simp [all, hz]), if_neg]
      simp only [roots, List.mem_cons, not_or]
      exact ⟨fun e => n1 (e ▸ hz), fun hr => n5 z hz (roots_sub_all r z hr)⟩
    · rw [h z (by simp [all, hz])]
      simp only [roots, List.mem_cons]
      have : z ≠ i := fun e => n2 (e ▸ hz)
      simp [this]
theorem OkP.drop {k k' : α → Option α} {x : α} : ∀ {f : (Fo α)} {p : Option α}, Nd f → x ∈ all f → (∀ z, z ∈ all f → z ≠ x → k' z = if z ∈ roots (Fo.sub x f) then parO x f p else k z) → OkP k f p → OkP k' (Fo.drop x f) p
  | .nil, _, _, hx, _, _ => by cases hx
  | .cons i c r, p, hn, hx, h, ⟨h1, h2, h3⟩ => by
    obtain ⟨n1, n2, n3, n4, n5⟩ := nd_cons hn
    simp only [Fo.drop]
    simp only [Fo.sub, parO] at h
    by_cases e : i = x
    · rw [if_pos e]
      subst e
      simp only [if_true] at h
      refine OkP.app (OkP.at_root (k := k) (p := some i) n3 (fun z hz => ?_) h2) (OkP.congr (fun z hz => ?_) h3)
      · exact h z (by simp [all, hz]) (fun e => n1 (e ▸ hz))
      · rw [h z (by simp [all, hz]) (fun e => n2 (e ▸ hz)), if_neg (fun hr => n5 z (roots_sub_all c z hr) hz)]
    · rw [if_neg e]
      simp only [if_neg e] at h
      by_cases e2 : x ∈ all c
      · simp only [if_pos e2] at h
        have hsub : ∀ z, z ∈ roots (Fo.sub x c) → z ∈ all c := fun z hz => sub_all c x z (roots_sub_all _ z hz)
        refine ⟨?_, OkP.drop n3 e2 (fun z hz hzx => h z (by simp [all, hz]) hzx) h2, ?_⟩
        · rw [h i (by simp [all]) e, if_neg (fun hz => n1 (hsub _ hz)), h1]
        · rw [drop_no r x (n5 x e2)]
          refine OkP.congr (fun z hz => ?_) h3
          rw [h z (by simp [all, hz]) (fun e => n5 x e2 (e ▸ hz)), if_neg (fun hr => n5 z (hsub z hr) hz)]
      · simp only [if_neg e2] at h
        have hxr : x ∈ all r := by
          simp only [all, List.mem_cons, List.mem_append] at hx
          rcases hx with hx | hx | hx
          · exact absurd hx.symm e
          · exact absurd hx e2
          · exact hx
        have hsub : ∀ z, z ∈ roots (Fo.sub x r) → z ∈ all r := fun z hz => sub_all r x z (roots_sub_all _ z hz)
        refine ⟨?_, ?_, OkP.drop n4 hxr (fun z hz hzx => h z (by simp [all, hz]) hzx) h3⟩
        · rw [h i (by simp [all]) e, if_neg (fun hz => n2 (hsub _ hz)), h1]
        · rw [drop_no c x e2]
          refine OkP.congr (fun z hz => ?_) h2
          rw [h z (by simp [all, hz]) (fun e => e2 (e ▸ hz)), if_neg (fun hr => n5 z hz (hsub z hr))]
theorem OkK.drop {k k' : α → List α} {x : α} : ∀ {f : (Fo α)} {p : Option α}, Nd f → (∀ j, p = some j → j ∉ all f) → x ∈ all f → (∀ z, z ∈ all f → z ≠ x → k' z = if parO x f p = some z then repl x (roots (Fo.sub x f)) (k z) else k z) → OkK k f → OkK k' (Fo.drop x f)
  | .nil, _, _, _, hx, _, _ => by cases hx
  | .cons i c r, p, hn, hp, hx, h, ⟨h1, h2, h3⟩ => by
    obtain ⟨n1, n2, n3, n4, n5⟩ := nd_cons hn
    have hp2 : ∀ j, p = some j → j ≠ i ∧ j ∉ all c ∧ j ∉ all r := fun j hj => by
      have := hp j hj
      simpa [all] using this
    simp only [Fo.drop]
    simp only [Fo.sub, parO] at h
    by_cases e : i = x
    · rw [if_pos e]
      subst e
      simp only [if_true] at h
      refine OkK.app (OkK.congr (fun z hz => ?_) h2) (OkK.congr (fun z hz => ?_) h3)
      · rw [h z (by simp [all, hz]) (fun e => n1 (e ▸ hz)), if_neg (fun hj => (hp2 z hj).2.1 hz)]
      · rw [h z (by simp [all, hz]) (fun e => n2 (e ▸ hz)), if_neg (fun hj => (hp2 z hj).2.2 hz)]
    · rw [if_neg e]
      simp only [if_neg e] at h
      by_cases e2 : x ∈ all c
      · simp only [if_pos e2] at h
        refine ⟨?_, OkK.drop (p := some i) n3 (fun j hj => by cases hj; exact n1) e2 (fun z hz hzx => h z (by simp [all, hz]) hzx) h2, ?_⟩
        · rw [h i (by simp [all]) e, roots_drop n3, h1]
          by_cases e3 : x ∈ roots c
          · rw [parO_root n3 e3, if_pos rfl]
          · rw [repl_no e3, if_neg]
            obtain ⟨j, hj, hjc⟩ := parO_in (p := some i) n3 e2 e3
            rw [hj]; intro e; cases e; exact n1 hjc
        · rw [drop_no r x (n5 x e2)]
          refine OkK.congr (fun z hz => ?_) h3
          rw [h z (by simp [all, hz]) (fun e => n5 x e2 (e ▸ hz)), if_neg]
          intro hj
          rcases parO_mem n3 e2 hj with hj | hj
          · cases hj; exact n2 hz
          · exact n5 z hj hz
      · simp only [if_neg e2] at h
        have hxr : x ∈ all r := by
          simp only [all, List.mem_cons, List.mem_append] at hx
          rcases hx with hx | hx | hx
          · exact absurd hx.symm e
          · exact absurd hx e2
          · exact hx
        refine ⟨?_, ?_, OkK.drop (p := p) n4 (fun j hj => (hp2 j hj).2.2) hxr (fun z hz hzx => h z (by simp [all, hz]) hzx) h3⟩
        · rw [h i (by simp [all]) e, drop_no c x e2, if_neg, h1]
          intro hj
          rcases parO_mem n4 hxr hj with hj | hj
          · exact (hp2 i hj).1 rfl
          · exact n2 hj
        · rw [drop_no c x e2]
          refine OkK.congr (fun z hz => ?_) h2
          rw [h z (by simp [all, hz]) (fun e => e2 (e ▸ hz)), if_neg]
          intro hj
          rcases parO_mem n4 hxr hj with hj | hj
          · exact (hp2 z hj).2.1 hz
          · exact n5 z hz hj
structure Cut (x y : α) (f : (Fo α)) (d : Nat) (p : Option α) (A : List (α × Nat)) (e : Nat) (B : List (α × Nat)) : Prop where
  row : flat f d = A ++ (x, e) :: (flat (sub x f) (e + 1) ++ B)
  behind : ∀ b, B.head? = some b → b.2 ≤ e
  child : flat (addc x y f) d = A ++ (x, e) :: (flat (sub x f) (e + 1) ++ (y, e + 1) :: B)
  gone : flat (drop x f) d = A ++ (flat (sub x f) e ++ B)
  deep : d ≤ e ∧ e = d + dep x f
  top : x ∈ roots f → e = d
  par : x ∉ roots f → ∃ j A1 A2, parO x f p = some j ∧ A = A1 ++ (j, e - 1) :: A2 ∧ (∀ a, a ∈ A2 → e ≤ a.2) ∧ d < e
  ahead : ∀ a, a ∈ A → d ≤ a.2
theorem flat_head {f : (Fo α)} {d : Nat} {b : α × Nat} (h : (flat f d).head? = some b) : b.2 = d := by
 cases f with
 | nil => cases h
 | cons i c r => simp [flat] at h; rw [← h]
theorem cut : ∀ {f : (Fo α)} {x y : α} {d : Nat} {p : Option α}, Nd f → x ∈ all f → ∃ A e B, Cut x y f d p A e B
  | .nil, _, _, _, _, _, h => by cases h
  | .cons i c r, x, y, d, p, hn, h => by
    obtain ⟨n1, n2, n3, n4, n5⟩ := nd_cons hn
    by_cases e : i = x
    · subst e
      refine ⟨[], d, flat r d, ?_⟩
      constructor
      · simp [flat, sub]
      · intro b hb; rw [flat_head hb]; exact Nat.le_refl _
      · simp [addc, flat, sub, flat_app]
      · simp [drop, sub, flat_app]
      · simp [dep]
      · intro _; rfl
      · intro hr; simp [roots] at hr
      · intro a ha; cases ha
    · by_cases e2 : x ∈ all c
      · have hxr := n5 x e2
        obtain ⟨A, e', B, h⟩ := cut (y := y) (d := d + 1) (p := some i) n3 e2
        have hs : sub x (.cons i c r) = sub x c := by simp [sub, e, e2]
        refine ⟨(i, d) :: A, e', B ++ flat r d, ?_⟩
        constructor
        · rw [hs]; simp [flat, h.row]
        · intro b hb
          cases B with
          | nil => rw [List.nil_append] at hb; rw [flat_head hb]; have := h.deep.1; omega
          | cons b2 B2 => exact h.behind b (by simpa using hb)
        · rw [hs]
          have : addc x y (.cons i c r) = .cons i (addc x y c) r := by simp [addc, e, addc_no y r x hxr]
          rw [this]; simp [flat, h.child]
        · rw [hs]
          have : drop x (.cons i c r) = .cons i (drop x c) r := by simp [drop, e, drop_no r x hxr]
          rw [this]; simp [flat, h.gone]
        · have := h.deep
          refine ⟨by omega, ?_⟩
          simp only [dep]; rw [if_neg e, if_pos e2]; omega
        · intro hr
          simp only [roots, List.mem_cons] at hr
          rcases hr with hr | hr
          · exact absurd hr.symm e
          · exact absurd (roots_sub_all r x hr) hxr
        · intro _
          have hd := h.deep
          have hp : parO x (.cons i c r) p = parO x c (some i) := by simp [parO, e, e2]
          rw [hp]
          by_cases e3 : x ∈ roots c
          · have := h.top e3
            exact ⟨i, [], A, parO_root n3 e3, by rw [this]; rfl, fun a ha => by rw [this]; exact h.ahead a ha, by omega⟩
          · obtain ⟨j, A1, A2, h1, h2, h3, h4⟩ := h.par e3
            exact ⟨j, (i, d) :: A1, A2, h1, by rw [h2]; rfl, h3, by omega⟩
        · intro a ha
          rcases List.mem_cons.1 ha with rfl | ha
          · exact Nat.le_refl _
          · have := h.ahead a ha; omega
      · have hxr : x ∈ all r := by
          simp only [all, List.mem_cons, List.mem_append] at h
          rcases h with h | h | h
          · exact absurd h.symm e
          · exact absurd h e2
          · exact h
        obtain ⟨A, e', B, h⟩ := cut (y := y) (d := d) (p := p) n4 hxr
        have hs : sub x (.cons i c r) = sub x r := by simp [sub, e, e2]
        refine ⟨(i, d) :: (flat c (d + 1) ++ A), e', B, ?_⟩
        constructor
        · rw [hs]; simp [flat, h.row]
        · exact h.behind
        · rw [hs]
          have : addc x y (.cons i c r) = .cons i c (addc x y r) := by simp [addc, e, addc_no y c x e2]
          rw [this]; simp [flat, h.child]
        · rw [hs]
          have : drop x (.cons i c r) = .cons i c (drop x r) := by simp [drop, e, drop_no c x e2]
          rw [this]; simp [flat, h.gone]
        · have := h.deep
          refine ⟨by omega, ?_⟩
          simp only [dep]; rw [if_neg e, if_neg e2]; omega
        · intro hr
          simp only [roots, List.mem_cons] at hr
          rcases hr with hr | hr
          · exact absurd hr.symm e
          · exact h.top hr
        · intro hr
          simp only [roots, List.mem_cons, not_or] at hr
          obtain ⟨j, A1, A2, h1, h2, h3, h4⟩ := h.par hr.2
          exact ⟨j, (i, d) :: (flat c (d + 1) ++ A1), A2, by simp [parO, e, e2, h1], by rw [h2]; simp, h3, h4⟩
        · intro a ha
          rcases List.mem_cons.1 ha with rfl | ha
          · exact Nat.le_refl _
          · rcases List.mem_append.1 ha with ha | ha
            · have := flat_ge c (d + 1) a ha; omega
            · exact h.ahead a ha
theorem all_addc {x y : α} : ∀ {f : (Fo α)} {z : α}, (z ∈ all (addc x y f) ↔ z ∈ all f ∨ (z = y ∧ x ∈ all f))
  | .nil, z => by simp [addc, all]
  | .cons i c r, z => by
    simp only [addc]
    by_cases e : i = x
    · rw [if_pos e]
      subst e
      simp only [all, all_app, List.mem_cons, List.mem_append, List.not_mem_nil, or_false, true_or, and_true, List.append_nil]
      constructor
      · rintro (h | (h | h) | h)
        · exact .inl (.inl h)
        · exact .inl (.inr (.inl h))
        · exact .inr h
        · exact .inl (.inr (.inr h))
      · rintro ((h | h | h) | h)
        · exact .inl h
        · exact .inr (.inl (.inl h))
        · exact .inr (.inr h)
        · exact .inr (.inl (.inr h))
    · rw [if_neg e]
      simp only [all, List.mem_cons, List.mem_append, all_addc (f := c), all_addc (f := r)]
      constructor
      · rintro (h | (h | h) | (h | h))
        · exact .inl (.inl h)
        · exact .inl (.inr (.inl h))
        · exact .inr ⟨h.1, .inr (.inl h.2)⟩
        · exact .inl (.inr (.inr h))
        · exact .inr ⟨h.1, .inr (.inr h.2)⟩
      · rintro ((h | h | h) | ⟨h, h2 | h2 | h2⟩)
        · exact .inl h
        · exact .inr (.inl (.inl h))
        · exact .inr (.inr (.inl h))
        · exact absurd h2.symm e
        · exact .inr (.inl (.inr ⟨h, h2⟩))
        · exact .inr (.inr (.inr ⟨h, h2⟩))
theorem nd_app {f g : (Fo α)} (h1 : Nd f) (h2 : Nd g) (h : ∀ z, z ∈ all f → z ∉ all g) : Nd (app f g) := by
 unfold Nd at *
 rw [all_app, List.nodup_append]
 exact ⟨h1, h2, fun a ha b hb e => h a ha (e ▸ hb)⟩
theorem nd_mk {i : α} {c r : (Fo α)} (h1 : i ∉ all c) (h2 : i ∉ all r) (h3 : Nd c) (h4 : Nd r) (h5 : ∀ z, z ∈ all c → z ∉ all r) : Nd (.cons i c r) := by
 unfold Nd at *
 simp only [all, List.nodup_cons, List.mem_append, not_or, List.nodup_append]
 exact ⟨⟨h1, h2⟩, h3, h4, fun a ha b hb e => h5 a ha (e ▸ hb)⟩
theorem nd_one (y : α) : Nd (one y) := by unfold Nd one; simp [all]
theorem nd_addc {x y : α} : ∀ {f : (Fo α)}, Nd f → y ∉ all f → Nd (addc x y f)
  | .nil, h, _ => h
  | .cons i c r, hn, hy => by
    obtain ⟨n1, n2, n3, n4, n5⟩ := nd_cons hn
    simp only [all, List.mem_cons, List.mem_append, not_or] at hy
    simp only [addc]
    by_cases e : i = x
    · rw [if_pos e]
      refine nd_mk ?_ n2 (nd_app n3 (nd_one y) ?_) n4 ?_
      · rw [all_app]; simp [all]; exact ⟨n1, Ne.symm hy.1⟩
      · intro z hz h; simp [one, all] at h; exact hy.2.1 (h ▸ hz)
      · intro z hz; rw [all_app] at hz; simp [all] at hz
        rcases hz with hz | hz
        · exact n5 z hz
        · exact hz ▸ hy.2.2
    · rw [if_neg e]
      refine nd_mk ?_ ?_ (nd_addc n3 hy.2.1) (nd_addc n4 hy.2.2) ?_
      · rw [all_addc]; rintro (h | h); exact n1 h; exact hy.1 h.1.symm
      · rw [all_addc]; rintro (h | h); exact n2 h; exact hy.1 h.1.symm
      · intro z hz hr
        rw [all_addc] at hz hr
        rcases hz with hz | hz <;> rcases hr with hr | hr
        · exact n5 z hz hr
        · exact hy.2.1 (hr.1 ▸ hz)
        · exact hy.2.2 (hz.1 ▸ hr)
        · exact n5 x hz.2 hr.2
theorem drop_sublist {x : α} : ∀ f : (Fo α), (all (drop x f)).Sublist (all f)
  | .nil => List.Sublist.refl _
  | .cons i c r => by
    simp only [drop]
    split
    · rw [all_app]; exact List.sublist_cons_self _ _
    · simp only [all]; exact ((drop_sublist c).append (drop_sublist r)).cons_cons _
theorem nd_drop {x : α} {f : (Fo α)} (h : Nd f) : Nd (drop x f) := (drop_sublist f).nodup h
theorem addc_len {x y : α} : ∀ {f : (Fo α)}, Nd f → x ∈ all f → (all (addc x y f)).length = (all f).length + 1
  | .nil, _, h => by cases h
  | .cons i c r, hn, h => by
    obtain ⟨n1, n2, n3, n4, n5⟩ := nd_cons hn
    simp only [addc]
    by_cases e : i = x
    · rw [if_pos e]; simp [all, all_app]; omega
    · rw [if_neg e]
      simp only [all, List.length_cons, List.length_append]
      by_cases e2 : x ∈ all c
      · have := addc_len (y := y) n3 e2
        rw [addc_no y r x (n5 x e2)]; omega
      · have hxr : x ∈ all r := by
          simp only [all, List.mem_cons, List.mem_append] at h
          rcases h with h | h | h
          · exact absurd h.symm e
          · exact absurd h e2
          · exact h
        have := addc_len (y := y) n4 hxr
        rw [addc_no y c x e2]; omega
theorem sub_self : ∀ {f : (Fo α)} {x : α}, Nd f → x ∉ all (sub x f)
  | .nil, _, _ => by simp [sub, all]
  | .cons i c r, x, hn => by
    obtain ⟨n1, n2, n3, n4, n5⟩ := nd_cons hn
    simp only [sub]
    by_cases e : i = x
    · rw [if_pos e]; exact e ▸ n1
    · rw [if_neg e]
      split
      · exact sub_self n3
      · exact sub_self n4
end Fo
end Go.Proofs.YtipncceiekalfaaGreat
end
section
set_option linter.unusedVariables false
set_option linter.unusedSimpArgs false
namespace Go.Proofs.YtipncceiekalfaaGreat
open Go.SL
structure TreeM where
  n : Nat
  sl : Nat → SlotM
  par : Nat → Option Nat
  kids : Nat → List Nat
  M : List (SlotM × Nat × Nat)
def tget (s : SlotM) : List (SlotM × Nat × Nat) → Option Nat
  | [] => none
  | e :: l => if s = e.1 then some e.2.1 else tget s l
def tdel (s : SlotM) : List (SlotM × Nat × Nat) → List (SlotM × Nat × Nat)
  | [] => []
  | e :: l => if s = e.1 then l else e :: tdel s l
theorem tget_app {s : SlotM} : ∀ {l m : List (SlotM × Nat × Nat)}, tget s (l ++ m) = (tget s l).or (tget s m)
  | [], m => rfl
  | e :: l, m => by
    simp only [List.cons_append, tget]
    split
    · rfl
    · exact tget_app
theorem tget_none {s : SlotM} : ∀ {l : List (SlotM × Nat × Nat)}, tget s l = none → s ∉ l.map Prod.fst
  | [], _ => by simp
  | e :: l, h => by
    simp only [tget] at h
    split at h
    · cases h
    · rename_i he
      simp only [List.map_cons, List.mem_cons, not_or]
      exact ⟨he, tget_none h⟩
def ptrO (blk : Nat → Nat) : Option Nat → Value
  | none => .pointer none
  | some j => .pointer (some ⟨blk j, 0, none⟩)
abbrev knC (blk : Nat → Nat) (T : TreeM) (kv : Nat → Value) (i : Nat) : List Value := [.int .i64 (T.sl i).1, .int .i64 (T.sl i).2, ptrO blk (T.par i), kv i]
abbrev knO (blk : Nat → Nat) (T : TreeM) (kv : Nat → Value) (i : Nat) : Obj := .cells (knC blk T kv i).toArray 333
def knS (blk : Nat → Nat) (T : TreeM) (kv : Nat → Value) (kH : Nat → Hp) (i : Nat) : Hp := (blk i, knO blk T kv i) :: kH i
def kvT (blk : Nat → Nat) (M : List (SlotM × Nat × Nat)) : List (SlotM × Value × Nat) := M.map fun e => (e.1, .pointer (some ⟨blk e.2.1, 0, none⟩), e.2.2)
def kidsOk (blk : Nat → Nat) (T : TreeM) (kv : Nat → Value) (kH : Nat → Hp) : Prop := ∀ i, i < T.n → Slc 329 1 (kv i) (T.kids i).length (ptsC ((T.kids i).map blk)) (kH i)
abbrev trBlk (tb mb : Nat) : Nat × Obj := (tb, .cells [.map (some mb)].toArray 271)
abbrev mpBlk (mb : Nat) (blk : Nat → Nat) (M : List (SlotM × Nat × Nat)) (clk : Nat) : Nat × Obj := (mb, mapO encS (kvT blk M) clk)
def TrH (T : TreeM) (tb : Nat) (L : Hp) : Prop := ∃ mb clk blk kv kH, kidsOk blk T kv kH ∧ L = trBlk tb mb :: mpBlk mb blk T.M clk :: segs (knS blk T kv kH) T.n
def tptr (blk : Nat → Nat) (M : List (SlotM × Nat × Nat)) (s : SlotM) : Option Addr := (tget s M).map fun i => ⟨blk i, 0, none⟩
theorem mget_kvT (blk : Nat → Nat) (s : SlotM) : ∀ M, mget s (kvT blk M) = (tget s M).map fun i => .pointer (some ⟨blk i, 0, none⟩)
  | [] => rfl
  | e :: l => by
    simp only [kvT, List.map_cons, mget, tget]
    split
    · rfl
    · exact mget_kvT blk s l
theorem tptr_hm (blk : Nat → Nat) (M : List (SlotM × Nat × Nat)) (s : SlotM) : (mget s (kvT blk M)).getD (.pointer none) = .pointer (tptr blk M s) := by
 rw [mget_kvT]; unfold tptr; cases tget s M <;> rfl
theorem tptr_is {blk : Nat → Nat} {M : List (SlotM × Nat × Nat)} {s : SlotM} : (tptr blk M s).isSome = (tget s M).isSome := by unfold tptr; cases tget s M <;> rfl
theorem tptr_some {blk : Nat → Nat} {M : List (SlotM × Nat × Nat)} {s : SlotM} {i : Nat} (h : tget s M = some i) : tptr blk M s = some ⟨blk i, 0, none⟩ := by unfold tptr; rw [h]; rfl
theorem tptr_no {blk : Nat → Nat} {M : List (SlotM × Nat × Nat)} {s : SlotM} (h : tget s M = none) : tptr blk M s = none := by unfold tptr; rw [h]; rfl
def TreeM.more (T : TreeM) (s : SlotM) (p : Option Nat) (t : Nat) : TreeM :=
  { n := T.n + 1, sl := fset T.sl T.n s, par := fset T.par T.n p,
    kids := match p with | none => fset T.kids T.n [] | some j => fset (fset T.kids T.n []) j (T.kids j ++ [T.n]),
    M := T.M ++ [(s, T.n, t)] }
theorem tput_new {s : SlotM} {v : Value} {t : Nat} {blk : Nat → Nat} : ∀ {M : List (SlotM × Nat × Nat)}, tget s M = none → mput s v t (kvT blk M) = kvT blk M ++ [(s, v, t)]
  | [], _ => rfl
  | e :: l, h => by
    simp only [tget] at h
    split at h
    · cases h
    · rename_i hid
      have := tput_new (v := v) (t := t) (blk := blk) h
      simp only [kvT, List.map_cons, mput, hid, if_false, List.cons_append] at this ⊢
      rw [this]
theorem tclk_new {s : SlotM} {cl : Nat} {blk : Nat → Nat} {M : List (SlotM × Nat × Nat)} (h : tget s M = none) : mclk s (kvT blk M) cl = cl + 1 := by
 simp [mclk, mget_kvT, h]
theorem kvT_congr {blk blk' : Nat → Nat} {M : List (SlotM × Nat × Nat)} (h : ∀ e, e ∈ M → blk' e.2.1 = blk e.2.1) : kvT blk' M = kvT blk M := List.map_congr_left fun e he => by rw [h e he]
theorem tget_mem {s : SlotM} {i : Nat} : ∀ {M : List (SlotM × Nat × Nat)}, tget s M = some i → ∃ t, (s, i, t) ∈ M
  | [], h => by cases h
  | e :: l, h => by
    simp only [tget] at h
    split at h
    · rename_i he; cases h; obtain ⟨a, b, c⟩ := e; dsimp only at he; subst he; exact ⟨c, List.mem_cons_self ..⟩
    · obtain ⟨t, ht⟩ := tget_mem h; exact ⟨t, List.mem_cons_of_mem _ ht⟩
structure TreeM.Ix (T : TreeM) : Prop where
  par : ∀ i j, i < T.n → T.par i = some j → j < T.n
  kids : ∀ i j, i < T.n → j ∈ T.kids i → j < T.n
  map : ∀ e, e ∈ T.M → e.2.1 < T.n
  small : ∀ i, i < T.n → (T.kids i).length ≤ T.n
theorem TreeM.Ix.get {T : TreeM} (h : T.Ix) {s : SlotM} {i : Nat} (hi : tget s T.M = some i) : i < T.n := by
 obtain ⟨t, ht⟩ := tget_mem hi; exact h.map _ ht
structure TOk (T : TreeM) (F : (Fo Nat)) : Prop where
  nd : Fo.Nd F
  lt : ∀ i, i ∈ F.all → i < T.n
  par : Fo.OkP T.par F none
  kids : Fo.OkK T.kids F
  map : ∀ s i, tget s T.M = some i ↔ i ∈ F.all ∧ T.sl i = s
  uniq : (T.M.map Prod.fst).Nodup
  len : T.M.length = F.all.length
  ix : T.Ix
theorem TOk.mem {T : TreeM} {F : (Fo Nat)} (h : TOk T F) {s : SlotM} {i : Nat} (hi : tget s T.M = some i) : i ∈ F.all := ((h.map s i).1 hi).1
theorem TOk.sl {T : TreeM} {F : (Fo Nat)} (h : TOk T F) {s : SlotM} {i : Nat} (hi : tget s T.M = some i) : T.sl i = s := ((h.map s i).1 hi).2
theorem TOk.get {T : TreeM} {F : (Fo Nat)} (h : TOk T F) {i : Nat} (hi : i ∈ F.all) : tget (T.sl i) T.M = some i := (h.map _ i).2 ⟨hi, rfl⟩
theorem TOk.inj {T : TreeM} {F : (Fo Nat)} (h : TOk T F) {i j : Nat} (hi : i ∈ F.all) (hj : j ∈ F.all) (e : T.sl i = T.sl j) : i = j := by
 have h1 := h.get hi
 rw [e, h.get hj] at h1; exact (Option.some.inj h1).symm
theorem nodup_len : ∀ {n : Nat} {l : List Nat}, l.Nodup → (∀ x, x ∈ l → x < n) → l.length ≤ n
  | 0, l, _, hl => by cases l with
    | nil => exact Nat.le_refl _
    | cons a l => exact absurd (hl a (List.mem_cons_self ..)) (Nat.not_lt_zero a)
  | n + 1, l, hn, hl => by
    have h1 := nodup_len (n := n) (l := l.erase n) (hn.erase n) (fun x hx => by
      have h2 := (hn.mem_erase_iff.1 hx)
      have := hl x h2.2
      have := h2.1; omega)
    have h2 := List.length_erase (a := n) (l := l)
    split at h2 <;> omega
theorem TOk.all_len {T : TreeM} {F : (Fo Nat)} (h : TOk T F) : F.all.length ≤ T.n := nodup_len h.nd h.lt
theorem ptrO_congr {blk blk' : Nat → Nat} {p : Option Nat} (h : ∀ j, p = some j → blk' j = blk j) : ptrO blk' p = ptrO blk p := by
 cases p with
 | none => rfl
 | some j => simp only [ptrO, h j rfl]
section more
variable {T : TreeM} (hx : T.Ix) {blk : Nat → Nat} {kv : Nat → Value} {kH : Nat → Hp} {s : SlotM} {b t clk : Nat}
include hx
theorem more_kvT : kvT (fset blk T.n b) (T.M ++ [(s, T.n, t)]) = kvT blk T.M ++ [(s, .pointer (some ⟨b, 0, none⟩), t)] := by
 have e : kvT (fset blk T.n b) T.M = kvT blk T.M := kvT_congr fun e he => fset_ne (by have := hx.map e he; omega)
 have e2 : kvT (fset blk T.n b) (T.M ++ [(s, T.n, t)]) = kvT (fset blk T.n b) T.M ++ [(s, .pointer (some ⟨fset blk T.n b T.n, 0, none⟩), t)] := by simp [kvT]
 rw [e2, e, fset_same]
theorem more_kids {i : Nat} (hi : i < T.n) : (T.kids i).map (fset blk T.n b) = (T.kids i).map blk := List.map_congr_left fun j hj => fset_ne (by have := hx.kids i j hi hj; omega)
theorem more_root : segs (knS (fset blk T.n b) (T.more s none t) (fset kv T.n (.slice none 0 0)) (fset kH T.n [])) (T.n + 1) = segs (knS blk T kv kH) T.n ++ [(b, .cells [.int .i64 s.1, .int .i64 s.2, .pointer none, .slice none 0 0].toArray 333)] := by
 rw [segs_succ]
 congr 1
 ·
  refine segs_congr fun i hi => ?_
  have h1 : i ≠ T.n := by omega
  have h2 : ptrO (fset blk T.n b) (T.par i) = ptrO blk (T.par i) := ptrO_congr fun j hj => fset_ne (by have := hx.par i j hi hj; omega)
  simp only [knS, knO, knC, TreeM.more, fset_ne h1, h2]
 ·
  simp only [knS, knO, knC, TreeM.more, fset_same, ptrO]
theorem more_child {j : Nat} {v1 : Value} {H1 : Hp} (hj : j < T.n) : segs (knS (fset blk T.n b) (T.more s (some j) t) (fset (fset kv T.n (.slice none 0 0)) j v1) (fset (fset kH T.n []) j H1)) (T.n + 1) =
    segs (fset (knS blk T kv kH) j ((blk j, .cells [.int .i64 (T.sl j).1, .int .i64 (T.sl j).2, ptrO blk (T.par j), v1].toArray 333) :: H1)) T.n ++ [(b, .cells [.int .i64 s.1, .int .i64 s.2, .pointer (some ⟨blk j, 0, none⟩), .slice none 0 0].toArray 333)] := by
  have hjn : j ≠ T.n := by omega
  rw [segs_succ]
  congr 1
  · refine segs_congr fun i hi => ?_
    have h1 : i ≠ T.n := by omega
    have h2 : ptrO (fset blk T.n b) (T.par i) = ptrO blk (T.par i) := ptrO_congr fun j hj => fset_ne (by have := hx.par i j hi hj; omega)
    by_cases e : i = j
    · subst e
      simp only [knS, knO, knC, TreeM.more, fset_ne h1, h2, fset_same]
    · rw [fset_ne e]
      simp only [knS, knO, knC, TreeM.more, fset_ne h1, h2, fset_ne e]
  · simp only [knS, knO, knC, TreeM.more, fset_same, ptrO, fset_ne (Ne.symm hjn), fset_ne hjn]
theorem more_root_ok (hk : kidsOk blk T kv kH) : kidsOk (fset blk T.n b) (T.more s none t) (fset kv T.n (.slice none 0 0)) (fset kH T.n []) := by
 intro i hi
 simp only [TreeM.more] at hi ⊢
 by_cases e : i = T.n
 ·
  subst e; rw [fset_same, fset_same, fset_same]; exact Slc.nil _ _
 ·
  rw [fset_ne e, fset_ne e, fset_ne e, more_kids hx (by omega)]; exact hk i (by omega)
theorem more_child_ok (hk : kidsOk blk T kv kH) {j : Nat} {v1 : Value} {H1 : Hp} (hj : j < T.n) (hs : Slc 329 1 v1 ((T.kids j).length + 1) (ptsC ((T.kids j).map blk) ++ [.pointer (some ⟨b, 0, none⟩)]) H1) :
    kidsOk (fset blk T.n b) (T.more s (some j) t) (fset (fset kv T.n (.slice none 0 0)) j v1) (fset (fset kH T.n []) j H1) := by
  intro i hi
  simp only [TreeM.more] at hi ⊢
  by_cases e2 : i = j
  · subst e2
    rw [fset_same, fset_same, fset_same, List.map_append, more_kids hx hj, List.length_append, ptsC_app, List.map_singleton, fset_same]
    exact hs
  · rw [fset_ne e2, fset_ne e2, fset_ne e2]
    by_cases e : i = T.n
    · subst e; rw [fset_same, fset_same, fset_same]; exact Slc.nil _ _
    · rw [fset_ne e, fset_ne e, fset_ne e, more_kids hx (by omega)]; exact hk i (by omega)
end more
def TAdd (T : TreeM) (s : SlotM) (p : Option Nat) (e : Int) (T' : TreeM) : Prop := (∃ i, tget s T.M = some i ∧ e = 4 ∧ T' = T) ∨ (tget s T.M = none ∧ e = 0 ∧ ∃ t, T' = T.more s p t)
def TChild (T : TreeM) (o s : SlotM) (e : Int) (T' : TreeM) : Prop := (tget o T.M = none ∧ e = 3 ∧ T' = T) ∨ ∃ j, tget o T.M = some j ∧ TAdd T s (some j) e T'
def TreeM.gone (T : TreeM) (s : SlotM) (x : Nat) : TreeM :=
  { T with par := fun z => if z ∈ T.kids x then T.par x else T.par z, kids := match T.par x with | none => T.kids | some j => fset T.kids j (Fo.repl x (T.kids x) (T.kids j)), M := tdel s T.M }
section drop
variable {T : TreeM} {blk : Nat → Nat} {kv : Nat → Value} {kH : Nat → Hp}
end drop
end Go.Proofs.YtipncceiekalfaaGreat
end
section
set_option linter.unusedVariables false
set_option linter.unusedSimpArgs false
set_option linter.unusedSectionVars false
namespace Go.Proofs.YtipncceiekalfaaGreat
open Go.SL
theorem tok_new : TOk ⟨0, fun _ => (0, 0), fun _ => none, fun _ => [], []⟩ .nil where
  nd := List.nodup_nil
  lt := fun i h => by cases h
  par := trivial
  kids := trivial
  map := fun s i => by simp [tget, Fo.all]
  uniq := List.nodup_nil
  len := rfl
  ix := ⟨fun i j h => absurd h (Nat.not_lt_zero i), fun i j h => absurd h (Nat.not_lt_zero i), (fun e h => by cases h), fun i h => absurd h (Nat.not_lt_zero i)⟩
section
variable {T : TreeM} {F : (Fo Nat)} (h : TOk T F)
include h
theorem TOk.fresh : T.n ∉ F.all := fun e => absurd (h.lt _ e) (Nat.lt_irrefl _)
theorem more_tget {s : SlotM} {p : Option Nat} {t : Nat} (hs : tget s T.M = none) (o : SlotM) : tget o (T.more s p t).M = if o = s then some T.n else tget o T.M := by
 show tget o (T.M ++ [(s, T.n, t)]) = _
 rw [tget_app]
 by_cases e : o = s
 ·
  rw [if_pos e, e, hs]; simp [tget]
 ·
  rw [if_neg e]
  have : tget o [(s, T.n, t)] = none := by simp [tget, e]
  rw [this]; cases tget o T.M <;> rfl
theorem more_map {s : SlotM} {p : Option Nat} {t : Nat} {F' : (Fo Nat)} (hs : tget s T.M = none) (hF : ∀ z, z ∈ F'.all ↔ z ∈ F.all ∨ z = T.n) (o : SlotM) (i : Nat) : tget o (T.more s p t).M = some i ↔ i ∈ F'.all ∧ (T.more s p t).sl i = o := by
 rw [more_tget h hs, hF]
 show _ ↔ _ ∧ fset T.sl T.n s i = o
 by_cases hi : i = T.n
 ·
  subst hi
  rw [fset_same]
  constructor
  ·
   intro e
   by_cases eo : o = s
   ·
    exact ⟨.inr rfl, eo.symm⟩
   ·
    rw [if_neg eo] at e; exact absurd (h.mem e) h.fresh
  ·
   rintro ⟨_, rfl⟩; rw [if_pos rfl]
 ·
  rw [fset_ne hi]
  constructor
  ·
   intro e
   by_cases eo : o = s
   ·
    rw [if_pos eo] at e; exact absurd (Option.some.inj e).symm hi
   ·
    rw [if_neg eo] at e; exact ⟨.inl (h.mem e), h.sl e⟩
  ·
   rintro ⟨hm, e⟩
   have hm' := hm.resolve_right hi
   have h1 := h.get hm'
   rw [e] at h1
   have : o ≠ s := fun eo => by rw [eo, hs] at h1; cases h1
   rw [if_neg this, h1]
theorem more_uniq {s : SlotM} {p : Option Nat} {t : Nat} (hs : tget s T.M = none) : ((T.more s p t).M.map Prod.fst).Nodup := by
 show ((T.M ++ [(s, T.n, t)]).map Prod.fst).Nodup
 rw [List.map_append]
 exact List.nodup_append.2 ⟨h.uniq, by simp, fun a ha b hb e => by simp at hb; subst hb; exact tget_none hs (e ▸ ha)⟩
theorem tok_root {s : SlotM} {t : Nat} (hs : tget s T.M = none) : TOk (T.more s none t) (F.app (.one T.n)) where
  nd := Fo.nd_app h.nd (Fo.nd_one _) fun z hz e => by simp [Fo.one, Fo.all] at e; exact h.fresh (e ▸ hz)
  lt := fun i hi => by
    rw [Fo.all_app] at hi; simp [Fo.one, Fo.all] at hi
    show i < T.n + 1
    rcases hi with hi | hi
    · have := h.lt i hi; omega
    · omega
  par := Fo.OkP.app (Fo.OkP.congr (fun z hz => (fset_ne (f := T.par) (i := T.n) (j := z) (a := none) (fun e => h.fresh (e ▸ hz))).symm) h.par) ⟨fset_same .., trivial, trivial⟩
  kids := Fo.OkK.app (Fo.OkK.congr (fun z hz => (fset_ne (f := T.kids) (i := T.n) (j := z) (a := []) (fun e => h.fresh (e ▸ hz))).symm) h.kids) ⟨fset_same .., trivial, trivial⟩
  map := more_map h hs (fun z => by rw [Fo.all_app]; simp [Fo.one, Fo.all])
  uniq := more_uniq h hs
  len := by
    show (T.M ++ [(s, T.n, t)]).length = _
    rw [Fo.all_app, List.length_append, List.length_append, h.len]; rfl
  ix := by
    refine ⟨fun i j hi hj => ?_, fun i j hi hj => ?_, fun e he => ?_, fun i hi => ?_⟩
    · change i < T.n + 1 at hi; change fset T.par T.n none i = some j at hj; show j < T.n + 1
      by_cases e : i = T.n
      · subst e; rw [fset_same] at hj; cases hj
      · rw [fset_ne e] at hj; have := h.ix.par i j (by omega) hj; omega
    · change i < T.n + 1 at hi; change j ∈ fset T.kids T.n [] i at hj; show j < T.n + 1
      by_cases e : i = T.n
      · subst e; rw [fset_same] at hj; cases hj
      · rw [fset_ne e] at hj; have := h.ix.kids i j (by omega) hj; omega
    · show e.2.1 < T.n + 1
      rcases List.mem_append.1 he with he | he
      · have := h.ix.map e he; omega
      · rw [List.mem_singleton] at he; subst he; exact Nat.lt_succ_self _
    · change i < T.n + 1 at hi; show (fset T.kids T.n [] i).length ≤ T.n + 1
      by_cases e : i = T.n
      · subst e; rw [fset_same]; exact Nat.zero_le _
      · rw [fset_ne e]; have := h.ix.small i (by omega); omega
theorem tok_child {s : SlotM} {t j : Nat} (hs : tget s T.M = none) (hj : j ∈ F.all) : TOk (T.more s (some j) t) (F.addc j T.n) where
  nd := Fo.nd_addc h.nd h.fresh
  lt := fun i hi => by
    rw [Fo.all_addc] at hi
    show i < T.n + 1
    rcases hi with hi | hi
    · have := h.lt i hi; omega
    · omega
  par := Fo.OkP.addc (fset_same ..) (Fo.OkP.congr (fun z hz => (fset_ne (f := T.par) (i := T.n) (j := z) (a := some j) (fun e => h.fresh (e ▸ hz))).symm) h.par)
  kids := by
    have hjn : j ≠ T.n := fun e => h.fresh (e ▸ hj)
    refine Fo.OkK.addc (k := T.kids) ?_ ?_ h.nd h.fresh (fun z hz hzj => ?_) h.kids
    · show fset (fset T.kids T.n []) j (T.kids j ++ [T.n]) j = _
      rw [fset_same]
    · show fset (fset T.kids T.n []) j (T.kids j ++ [T.n]) T.n = _
      rw [fset_ne (Ne.symm hjn), fset_same]
    · show fset (fset T.kids T.n []) j (T.kids j ++ [T.n]) z = _
      rw [fset_ne hzj, fset_ne (i := T.n) (j := z) (fun e => h.fresh (e ▸ hz))]
  map := more_map h hs (fun z => by rw [Fo.all_addc]; simp [hj])
  uniq := more_uniq h hs
  len := by
    show (T.M ++ [(s, T.n, t)]).length = _
    rw [Fo.addc_len h.nd hj, List.length_append, h.len]; rfl
  ix := by
    have hjn := h.lt j hj
    have hjne : j ≠ T.n := by omega
    refine ⟨fun i k hi hk => ?_, fun i k hi hk => ?_, fun e he => ?_, fun i hi => ?_⟩
    · change i < T.n + 1 at hi; change fset T.par T.n (some j) i = some k at hk; show k < T.n + 1
      by_cases e : i = T.n
      · subst e; rw [fset_same] at hk; cases hk; omega
      · rw [fset_ne e] at hk; have := h.ix.par i k (by omega) hk; omega
    · change i < T.n + 1 at hi; change k ∈ fset (fset T.kids T.n []) j (T.kids j ++ [T.n]) i at hk; show k < T.n + 1
      by_cases e2 : i = j
      · subst e2; rw [fset_same] at hk
        rcases List.mem_append.1 hk with hk | hk
        · have := h.ix.kids i k hjn hk; omega
        · rw [List.mem_singleton] at hk; omega
      · rw [fset_ne e2] at hk
        by_cases e : i = T.n
        · subst e; rw [fset_same] at hk; cases hk
        · rw [fset_ne e] at hk; have := h.ix.kids i k (by omega) hk; omega
    · show e.2.1 < T.n + 1
      rcases List.mem_append.1 he with he | he
      · have := h.ix.map e he; omega
      · rw [List.mem_singleton] at he; subst he; exact Nat.lt_succ_self _
    · change i < T.n + 1 at hi; show (fset (fset T.kids T.n []) j (T.kids j ++ [T.n]) i).length ≤ T.n + 1
      by_cases e2 : i = j
      · subst e2; rw [fset_same, List.length_append]; have := h.ix.small i hjn; simp; omega
      · rw [fset_ne e2]
        by_cases e : i = T.n
        · subst e; rw [fset_same]; exact Nat.zero_le _
        · rw [fset_ne e]; have := h.ix.small i (by omega); omega
end
end Go.Proofs.YtipncceiekalfaaGreat
end
section
set_option linter.unusedVariables false
set_option linter.unusedSimpArgs false
set_option linter.unusedSectionVars false
namespace Go.Proofs.YtipncceiekalfaaGreat
open Go.SL
namespace Fo
section
variable {α β : Type}
def map (g : α → β) : Fo α → Fo β
  | .nil => .nil
  | .cons i c r => .cons (g i) (map g c) (map g r)
theorem all_map (g : α → β) : ∀ f : Fo α, all (map g f) = (all f).map g
  | .nil => rfl
  | .cons i c r => by simp [map, all, all_map g c, all_map g r]
theorem map_app (g : α → β) : ∀ a b : Fo α, map g (app a b) = app (map g a) (map g b)
  | .nil, _ => rfl
  | .cons i c r, b => by simp [map, app, map_app g r b]
theorem map_congr {g h : α → β} : ∀ {f : Fo α}, (∀ z, z ∈ all f → g z = h z) → map g f = map h f
  | .nil, _ => rfl
  | .cons i c r, e => by
    simp only [map]
    rw [e i (by simp [all]), map_congr (f := c) (fun z hz => e z (by simp [all, hz])), map_congr (f := r) (fun z hz => e z (by simp [all, hz]))]
theorem map_map {γ : Type} (g : α → β) (h : β → γ) : ∀ f : Fo α, map h (map g f) = map (fun x => h (g x)) f
  | .nil => rfl
  | .cons i c r => by simp [map, map_map g h c, map_map g h r]
end
section
variable {α β : Type} [DecidableEq α] [DecidableEq β]
def Inj1 (g : α → β) (x : α) (f : Fo α) : Prop := ∀ z, z ∈ all f → g z = g x → z = x
theorem inj_c {g : α → β} {x i : α} {c r : Fo α} (h : Inj1 g x (.cons i c r)) : Inj1 g x c := fun z hz => h z (by simp [all, hz])
theorem inj_r {g : α → β} {x i : α} {c r : Fo α} (h : Inj1 g x (.cons i c r)) : Inj1 g x r := fun z hz => h z (by simp [all, hz])
theorem inj_i {g : α → β} {x i : α} {c r : Fo α} (h : Inj1 g x (.cons i c r)) : g i = g x ↔ i = x := ⟨h i (by simp [all]), fun e => by rw [e]⟩
theorem inj_mem {g : α → β} {x : α} {f : Fo α} (h : Inj1 g x f) : g x ∈ all (map g f) ↔ x ∈ all f := by
 rw [all_map, List.mem_map]
 exact ⟨fun ⟨z, hz, e⟩ => h z hz e ▸ hz, fun hx => ⟨x, hx, rfl⟩⟩
theorem sub_map {g : α → β} {x : α} : ∀ {f : Fo α}, Inj1 g x f → sub (g x) (map g f) = map g (sub x f)
  | .nil, _ => rfl
  | .cons i c r, h => by
    simp only [map, sub, inj_i h, inj_mem (inj_c h), sub_map (inj_c h), sub_map (inj_r h)]
    split
    · rfl
    · split <;> rfl
theorem addc_map {g : α → β} {x y : α} : ∀ {f : Fo α}, Inj1 g x f → addc (g x) (g y) (map g f) = map g (addc x y f)
  | .nil, _ => rfl
  | .cons i c r, h => by
    simp only [map, addc, inj_i h, addc_map (inj_c h), addc_map (inj_r h)]
    split
    · simp [map, map_app]
    · rfl
omit [DecidableEq α] [DecidableEq β] in
theorem nodup_map_on {g : α → β} : ∀ {l : List α}, l.Nodup → (∀ a b, a ∈ l → b ∈ l → g a = g b → a = b) → (l.map g).Nodup
  | [], _, _ => List.nodup_nil
  | a :: l, h, hi => by
    rw [List.nodup_cons] at h
    rw [List.map_cons, List.nodup_cons]
    refine ⟨fun hm => ?_, nodup_map_on h.2 fun x y hx hy => hi x y (List.mem_cons_of_mem _ hx) (List.mem_cons_of_mem _ hy)⟩
    obtain ⟨z, hz, e⟩ := List.mem_map.1 hm
    exact h.1 (hi z a (List.mem_cons_of_mem _ hz) (List.mem_cons_self ..) e ▸ hz)
theorem nd_map {g : α → β} {f : Fo α} (h : Nd f) (hi : ∀ a b, a ∈ all f → b ∈ all f → g a = g b → a = b) : Nd (map g f) := by
 unfold Nd at *
 rw [all_map]
 exact nodup_map_on h hi
end
end Fo
abbrev FoS := Fo SlotM
def ftRoot (F : FoS) (s : SlotM) : Int × FoS := if s ∈ F.all then (4, F) else (0, F.app (.one s))
def ftChild (F : FoS) (o s : SlotM) : Int × FoS := if o ∈ F.all then (if s ∈ F.all then (4, F) else (0, F.addc o s)) else (3, F)
def ftDrop (F : FoS) (s : SlotM) : Int × FoS := if s ∈ F.all then (0, F.drop s) else (3, F)
def ftKin (F : FoS) (s : SlotM) : List SlotM := (F.sub s).all
def TrF (n : Nat) (F : FoS) (tb : Nat) (L : Hp) : Prop := ∃ T G, TOk T G ∧ TrH T tb L ∧ T.n ≤ n ∧ F = G.map T.sl
section
variable {T : TreeM} {G : Fo Nat} (h : TOk T G)
include h
theorem TOk.in_all {s : SlotM} : s ∈ (G.map T.sl).all ↔ ∃ i, tget s T.M = some i := by
 rw [Fo.all_map, List.mem_map]
 constructor
 ·
  rintro ⟨i, hi, rfl⟩; exact ⟨i, h.get hi⟩
 ·
  rintro ⟨i, hi⟩; exact ⟨i, h.mem hi, h.sl hi⟩
theorem TOk.out_all {s : SlotM} : tget s T.M = none ↔ s ∉ (G.map T.sl).all := by
 rw [h.in_all]; cases tget s T.M <;> simp
theorem TOk.ndS : Fo.Nd (G.map T.sl) := Fo.nd_map h.nd fun a b ha hb e => h.inj ha hb e
theorem more_mapS {s : SlotM} {p : Option Nat} {t : Nat} : G.map (T.more s p t).sl = G.map T.sl := Fo.map_congr fun z hz => fset_ne fun e => h.fresh (e ▸ hz)
theorem more_rootS {s : SlotM} {t : Nat} : (G.app (.one T.n)).map (T.more s none t).sl = (G.map T.sl).app (.one s) := by
 rw [Fo.map_app, more_mapS h]
 have : (T.more s none t).sl T.n = s := fset_same ..
 simp [Fo.one, Fo.map, this]
theorem more_childS {o s : SlotM} {j t : Nat} (hj : tget o T.M = some j) : (G.addc j T.n).map (T.more s (some j) t).sl = (G.map T.sl).addc o s := by
 have e1 : (T.more s (some j) t).sl T.n = s := fset_same ..
 have hjn : j ≠ T.n := fun e => h.fresh (e ▸ h.mem hj)
 have e2 : (T.more s (some j) t).sl j = o := (fset_ne (f := T.sl) (a := s) hjn).trans (h.sl hj)
 have hi : Fo.Inj1 (T.more s (some j) t).sl j G := fun z hz e => by
  have h1 : (T.more s (some j) t).sl z = T.sl z := fset_ne fun e => h.fresh (e ▸ hz)
  rw [h1, e2, ← h.sl hj] at e
  exact h.inj hz (h.mem hj) e
 have := Fo.addc_map (g := (T.more s (some j) t).sl) (y := T.n) hi
 rw [← this, e1, e2, more_mapS h]
end
theorem ftRoot_nd {F : FoS} {s : SlotM} (h : Fo.Nd F) : Fo.Nd (ftRoot F s).2 := by
 unfold ftRoot; split
 ·
  exact h
 ·
  rename_i hs; exact Fo.nd_app h (Fo.nd_one _) fun z hz e => by simp [Fo.one, Fo.all] at e; exact hs (e ▸ hz)
theorem ftChild_nd {F : FoS} {o s : SlotM} (h : Fo.Nd F) : Fo.Nd (ftChild F o s).2 := by
 unfold ftChild; split
 ·
  split
  ·
   exact h
  ·
   exact Fo.nd_addc h (by assumption)
 ·
  exact h
end Go.Proofs.YtipncceiekalfaaGreat
end
section
set_option linter.unusedVariables false
set_option linter.unusedSimpArgs false
set_option linter.unusedSectionVars false
namespace Go.Proofs.YtipncceiekalfaaGreat
open Go.SL
def insAt (l : List DN) (id : Int) : Nat := (l.takeWhile fun d => decide ((d.id : Int) < id)).length
def dadd (l : List DN) (id r : Int) : Int × List DN := (daddErr l id r, if daddErr l id r = 0 then l.take (insAt l id) ++ newN id.toNat r.toNat 0 :: l.drop (insAt l id) else l)
def ddrop (l : List DN) (id : Int) : Int × List DN :=
  match dfind l id with
  | none => (3, l)
  | some d => if d.caps.all (fun c => decide (c.kind = 0)) then (0, ddel l id) else (8, l)
theorem insAt_place {id : Int} : ∀ l : List DN, dPlace l id (insAt l id)
  | [] => ⟨Nat.le_refl _, fun j d hj => absurd hj (Nat.not_lt_zero j), fun d hd => by cases hd⟩
  | a :: l => by
    obtain ⟨h1, h2, h3⟩ := insAt_place (id := id) l
    by_cases e : (a.id : Int) < id
    · have he : insAt (a :: l) id = insAt l id + 1 := by unfold insAt; rw [List.takeWhile_cons_of_pos (by simpa using e), List.length_cons]
      rw [he]
      refine ⟨by simpa using h1, fun j d hj hd => ?_, fun d hd => h3 d (by simpa using hd)⟩
      cases j with
      | zero => simp at hd; subst hd; exact e
      | succ j => exact h2 j d (by omega) (by simpa using hd)
    · have he : insAt (a :: l) id = 0 := by unfold insAt; rw [List.takeWhile_cons_of_neg (by simpa using e)]; rfl
      rw [he]
      exact ⟨Nat.zero_le _, fun j d hj => absurd hj (Nat.not_lt_zero j), fun d hd => by simp at hd; subst hd; exact e⟩
def StF (l : List DN) (sb : Nat) (L : Hp) : Prop := ∃ S, Rel S l ∧ L = storeHp sb S
def maskM (a b : Int) : Int := if rightsOk a = true ∧ rightsOk b = true then bitsI .and .i64 a b else 0
def derive (c : CapM) (r badge g n : Int) : CapM × Int :=
  if checkM c ≠ 0 then (CapM.zero, checkM c)
  else if c.kind = 0 then (CapM.zero, 3)
  else if c.kind = 1 ∨ c.kind = 10 ∨ c.kind = 11 then (CapM.zero, 2)
  else if rightsOk r = false then (CapM.zero, 5)
  else if c.kind = 6 then ({ c with rights := maskM c.rights r }, 0)
  else if c.kind = 2 then (if fitsM g n = false then (CapM.zero, 10) else ({ c with guard := g, bits := n }, 0))
  else if c.kind = 4 ∨ c.kind = 5 then
    (if badge ≠ 0 ∧ c.badge ≠ 0 then (CapM.zero, 8)
     else if (if badge ≠ 0 then badge else c.badge).fdiv (2 ^ 28) ≠ 0 then (CapM.zero, 10)
     else ({ c with rights := maskM c.rights r, badge := if badge ≠ 0 then badge else c.badge }, 0))
  else (c, 0)
structure PS where
  l : List DN
  F : FoS
def mSource (p : PS) (s : SlotM) : CapM × Int := if (dget p.l s).2 = 0 ∧ (dget p.l s).1.kind = 0 then ((dget p.l s).1, 3) else dget p.l s
def mPlace (p : PS) (s : SlotM) : Int := if (dget p.l s).2 = 0 ∧ (dget p.l s).1.kind ≠ 0 then 4 else (dget p.l s).2
def mBoth (p : PS) (s d : SlotM) : CapM × Int := ((mSource p s).1, if (mSource p s).2 = 0 then mPlace p d else (mSource p s).2)
def mNode (p : PS) (id r : Int) : Int × PS := ((dadd p.l id r).1, ⟨(dadd p.l id r).2, p.F⟩)
def mPlant (p : PS) (s : SlotM) (c : CapM) : Int × PS := ((dput p.l s c).1, ⟨(dput p.l s c).2, if (dput p.l s c).1 = 0 then (ftRoot p.F s).2 else p.F⟩)
def mChild (p : PS) (o s : SlotM) (c : CapM) : Int × PS :=
  if (mBoth p o s).2 ≠ 0 then ((mBoth p o s).2, p) else ((dput p.l s c).1, ⟨(dput p.l s c).2, if (dput p.l s c).1 = 0 then (ftChild p.F o s).2 else p.F⟩)
def mMint (p : PS) (s d : SlotM) (r b g n : Int) : Int × PS :=
  if (mBoth p s d).2 ≠ 0 then ((mBoth p s d).2, p) else if (derive (mBoth p s d).1 r b g n).2 ≠ 0 then ((derive (mBoth p s d).1 r b g n).2, p) else mChild p s d (derive (mBoth p s d).1 r b g n).1
def mCopy (p : PS) (s d : SlotM) (r : Int) : Int × PS := mMint p s d r 0 (dget p.l s).1.guard (dget p.l s).1.bits
def mTake (p : PS) (s : SlotM) : CapM × Int × PS := ((dtake p.l s).1, (dtake p.l s).2.1, ⟨(dtake p.l s).2.2, if (dtake p.l s).2.1 = 0 then (ftDrop p.F s).2 else p.F⟩)
abbrev cBlk (cb sb tb : Nat) : Nat × Obj := (cb, .cells [.pointer (some ⟨sb, 0, none⟩), .pointer (some ⟨tb, 0, none⟩)].toArray 203)
def CapsH (n : Nat) (p : PS) (cb : Nat) (L : Hp) : Prop := ∃ sb tb Ls Lt, StF p.l sb Ls ∧ TrF n p.F tb Lt ∧ L = cBlk cb sb tb :: (Ls ++ Lt)
def PS.new : PS := ⟨[], .nil⟩
end Go.Proofs.YtipncceiekalfaaGreat
end
section
set_option linter.unusedVariables false
set_option linter.unusedSimpArgs false
set_option linter.unusedSectionVars false
namespace Go.Proofs.YtipncceiekalfaaGreat
open Go.SL
abbrev stP (sb : Nat) : Value := .pointer (some ⟨sb, 0, none⟩)
theorem sf_new : Tr Tryz.prog 95 [] [] (fun v L' => ∃ sb, v = stP sb ∧ StF [] sb L') :=
  tr_slotsNew.mono fun v L' ⟨sb, S, hv, hl, hS⟩ => ⟨sb, hv, S, rel_new hS, hl⟩
section
variable {l : List DN} {sb : Nat} {L : Hp} (hH : StF l sb L)
include hH
theorem StF.len : l.length ≤ 64 := by obtain ⟨S, hR, _⟩ := hH; exact rel_len hR
theorem sf_get (s : SlotM) : TrR Tryz.prog 110 [stP sb, slotV s] L (.tuple #[(dget l s).1.v, .int .i64 (dget l s).2]) := by
 obtain ⟨S, hR, rfl⟩ := hH
 exact (tr_get sb S s hR.wf).eq (by rw [rel_get hR])
theorem sf_radix (x : Int) : TrR Tryz.prog 116 [stP sb, .int .i64 x] L (.int .i64 (dradix l x)) := by
 obtain ⟨S, hR, rfl⟩ := hH
 exact (tr_radix sb S x).eq (by rw [rel_radix hR])
theorem sf_put (s : SlotM) (c : CapM) : Tr Tryz.prog 125 [stP sb, slotV s, c.v] L (fun u L' => u = .int .i64 (dput l s c).1 ∧ StF (dput l s c).2 sb L') := by
 obtain ⟨S, hR, rfl⟩ := hH
 obtain ⟨e, h2⟩ := rel_put hR s c
 exact (tr_put sb S s c hR.wf).mono fun v L' ⟨hv, hl⟩ => ⟨by rw [hv, e], _, h2, hl⟩
theorem sf_add (id r : Int) : Tr Tryz.prog 167 [stP sb, .int .i64 id, .int .i64 r] L (fun u L' => u = .int .i64 (dadd l id r).1 ∧ StF (dadd l id r).2 sb L') := by
 obtain ⟨S, hR, rfl⟩ := hH
 have e := rel_addErr hR id r
 refine (tr_add sb S id r).mono fun v L' ⟨hv, hl⟩ => ⟨by rw [hv, e]; rfl, ?_⟩
 rcases hl with ⟨h0, hl⟩ | ⟨h0, b, hl⟩
 ·
  exact ⟨S, by unfold dadd; rw [if_neg (by rw [← e]; exact h0)]; exact hR, hl⟩
 exact ⟨_, by unfold dadd; rw [if_pos (by rw [← e]; exact h0)]; exact rel_add hR h0 (insAt_place l) b 0, hl⟩
end
end Go.Proofs.YtipncceiekalfaaGreat
end
section
set_option linter.unusedVariables false
set_option linter.unusedSimpArgs false
namespace Go.Proofs.YtipncceiekalfaaGreat
open Go.SL
theorem tr_treeNew  : Tr Tryz.prog 96 [] ([]) (fun v L' => ∃ tb, v = .pointer (some ⟨tb, 0, none⟩) ∧ TrH ⟨0, fun _ => (0, 0), fun _ => none, fun _ => [], []⟩ tb L') := by
 refine Tr.enter Tryz.func96 rfl Tryz.ntmps96 rfl (fun W F => ?_)
 refine Wp.app ?_
 refine zq [3,4,1,2,5,3,4] ?_
 refine Ops.ef rfl (ef_makeMap rfl rfl) ?_
 rintro _ _ ⟨b1, rfl, rfl⟩
 refine zq [23] ?_
 refine zB fun b2 => ?_
 refine zq [1,2,5,10] ?_
 exact Ends.ret (L' := [trBlk b2 b1, (b1, .map #[] 0)]) (res1 rfl rfl) ⟨b2, rfl, b1, 0, fun _ => 0, fun _ => .pointer none, fun _ => [], fun i hi => absurd hi (Nat.not_lt_zero i), rfl⟩
theorem tr_tHas (tb : Nat) (L : Hp) (T : TreeM) (hH : TrH T tb L) (s : SlotM) : TrR Tryz.prog 209 [.pointer (some ⟨tb, 0, none⟩), slotV s] (L) (.bool (tget s T.M).isSome) := by
 obtain ⟨mb, clk, blk, kv, kH, hk, rfl⟩ := hH
 have hm := tptr_hm blk T.M s
 refine Tr.enter Tryz.func209 rfl Tryz.ntmps209 rfl (fun W F => ?_)
 refine Wp.app ?_
 refine Wr ?_
 refine zB fun b1 => ?_
 refine zq [1,2,5,3] ?_
 refine AnyH.start ((b1, .cells [.int .i64 s.1, .int .i64 s.2].toArray 68) :: trBlk tb mb :: mpBlk mb blk T.M clk :: segs (knS blk T kv kH) T.n) 8 rfl ?_
 refine zd [0,1,1,3,2,0,3,2,4,10] ?_
 refine Tk 5 rfl rfl (pv_lookup_s s rfl rfl hm) rfl ?_
 refine Tk 6 rfl rfl (pv_neq_nil rfl rfl) rfl ?_
 refine zd [7,5] ?_
 refine AnyH.done (by kernel_rfl) ?_
 refine zq [5,10] ?_
 exact Ends.ret (res1 rfl rfl) ⟨by rw [tptr_is], rfl⟩
theorem tr_tadd_has (tb : Nat) (L : Hp) (T : TreeM) (hH : TrH T tb L) (s : SlotM) (v0 : Value) (i : Nat) (h : tget s T.M = some i) : Tr Tryz.prog 169 [.pointer (some ⟨tb, 0, none⟩), slotV s, v0] (L) (fun u L' => u = .int .i64 4 ∧ TrH T tb L') := by
 obtain ⟨mb, clk, blk, kv, kH, hk, rfl⟩ := hH
 refine Tr.enter Tryz.func169 rfl Tryz.ntmps169 rfl (fun W F => ?_)
 refine Wp.app ?_
 refine Wr ?_
 refine zB fun b1 => ?_
 refine zq [1,2,5,3,3,4,0,30] ?_
 refine zC ((tr_tHas tb _ T ⟨mb, clk, blk, kv, kH, hk, rfl⟩ s).eq (r' := .bool true) (by simp [h])) ?_
 refine zq [2,5,18,3,4,1,2,5,10,12] ?_
 exact zr (L' := trBlk tb mb :: mpBlk mb blk T.M clk :: segs (knS blk T kv kH) T.n) ⟨rfl, mb, clk, blk, kv, kH, hk, rfl⟩
theorem tr_tadd_root (tb : Nat) (L : Hp) (T : TreeM) (hH : TrH T tb L) (hx : T.Ix) (s : SlotM) (h : tget s T.M = none) : Tr Tryz.prog 169 [.pointer (some ⟨tb, 0, none⟩), slotV s, .pointer none] (L) (fun u L' => u = .int .i64 0 ∧ ∃ t, TrH (T.more s none t) tb L') := by
 obtain ⟨mb, clk, blk, kv, kH, hk, rfl⟩ := hH
 refine Tr.enter Tryz.func169 rfl Tryz.ntmps169 rfl (fun W F => ?_)
 refine Wp.app ?_
 refine Wr ?_
 refine zB fun b1 => ?_
 refine zq [1,2,5,3,3,4,0,30] ?_
 refine zC ((tr_tHas tb _ T ⟨mb, clk, blk, kv, kH, hk, rfl⟩ s).eq (r' := .bool false) (by simp [h])) ?_
 refine zq [2,5,17,11,5,3,4,30,0,23] ?_
 refine zB fun b2 => ?_
 refine zq [1,2,5,3] ?_
 refine AnyH.start ((b1, .cells [.int .i64 s.1, .int .i64 s.2].toArray 68) :: trBlk tb mb :: []) 7 rfl ?_
 refine zd [0,1,1,3,2,0,3,2,4,10,5,1] ?_
 refine AnyH.one 6 (by kernel_rfl) ?_
 refine Turn.ef rfl rfl (ef_mapUpdate_s _ rfl rfl rfl) ?_ ?_
 ·
  rintro _ _ ⟨rfl, rfl⟩; infer_instance
 rintro _ _ ⟨rfl, rfl⟩
 refine AnyH.done (by kernel_rfl) ?_
 refine zq [5,3,3,4,0,60,2,5,17,11,5,3,4,1,2,5,10] ?_
 rw [tput_new h, tclk_new h]
 refine Ends.heap (L' := trBlk tb mb :: (mb, mapO encS (kvT blk T.M ++ [(s, .pointer (some ⟨b2, 0, none⟩), clk)]) (clk + 1)) :: ((segs (knS blk T kv kH) T.n ++ [(b2, .cells [.int .i64 s.1, .int .i64 s.2, .pointer none, .slice none 0 0].toArray 333)]) ++ F)) (fun w ho => ?_) ?_
 ·
  have h2 : Own W w (trBlk tb mb :: (mb, mapO encS (kvT blk T.M ++ [(s, .pointer (some ⟨b2, 0, none⟩), clk)]) (clk + 1)) :: (segs (knS blk T kv kH) T.n ++ ((b2, .cells [.int .i64 s.1, .int .i64 s.2, .pointer none, .slice none 0 0].toArray 333) :: F))) := Drop.own ho
  rw [List.append_assoc]; exact h2
 rw [← more_root hx (t := clk), ← more_kvT hx]
 exact zr (L' := trBlk tb mb :: (mb, mapO encS (kvT (fset blk T.n b2) (T.M ++ [(s, T.n, clk)])) (clk + 1)) :: segs (knS (fset blk T.n b2) (T.more s none clk) (fset kv T.n (.slice none 0 0)) (fset kH T.n [])) (T.n + 1)) ⟨rfl, clk, mb, clk + 1, fset blk T.n b2, _, _, more_root_ok hx hk, rfl⟩
theorem tr_tadd_child (tb mb clk : Nat) (blk : Nat → Nat) (T : TreeM) (kv : Nat → Value) (kH : Nat → Hp) (hk : kidsOk blk T kv kH) (hx : T.Ix) (hn : T.n ≤ 2 ^ 20) (s : SlotM) (j : Nat) (hj : j < T.n) (h : tget s T.M = none) : Tr Tryz.prog 169 [.pointer (some ⟨tb, 0, none⟩), slotV s, .pointer (some ⟨blk j, 0, none⟩)] (trBlk tb mb :: mpBlk mb blk T.M clk :: segs (knS blk T kv kH) T.n) (fun u L' => u = .int .i64 0 ∧ ∃ t, TrH (T.more s (some j) t) tb L') := by
 have hkj := hk j hj
 have hsm := hx.small j hj
 refine Tr.enter Tryz.func169 rfl Tryz.ntmps169 rfl (fun W F => ?_)
 refine Wp.app ?_
 refine Wr ?_
 refine zB fun b1 => ?_
 refine zq [1,2,5,3,3,4,0,30] ?_
 refine zC ((tr_tHas tb _ T ⟨mb, clk, blk, kv, kH, hk, rfl⟩ s).eq (r' := .bool false) (by simp [h])) ?_
 refine zq [2,5,17,11,5,3,4,30,0,23] ?_
 refine zB fun b2 => ?_
 refine zq [1,2,5,3] ?_
 refine AnyH.start ((b1, .cells [.int .i64 s.1, .int .i64 s.2].toArray 68) :: trBlk tb mb :: []) 7 rfl ?_
 refine zd [0,1,1,3,2,0,3,2,4,10,5,1] ?_
 refine AnyH.one 6 (by kernel_rfl) ?_
 refine Turn.ef rfl rfl (ef_mapUpdate_s _ rfl rfl rfl) ?_ ?_
 ·
  rintro _ _ ⟨rfl, rfl⟩; infer_instance
 rintro _ _ ⟨rfl, rfl⟩
 refine AnyH.done (by kernel_rfl) ?_
 refine zq [5,3,3,4,0,60,2,5,18,4] ?_
 rw [tput_new h, tclk_new h]
 refine Ops.openS (knS blk T kv kH) T.n j hj ?_
 dsimp only [knS, List.cons_append]
 refine zq [0,0,9,6,8,0] ?_
 refine Ops.ef rfl (ef_buildSlice1 (k := 1) rfl rfl rfl rfl rfl) ?_
 rintro _ _ ⟨b3, rfl, rfl⟩
 refine Ops.ef rfl (ef_append (H := kH j) (xs := [.pointer (some ⟨b2, 0, none⟩)]) rfl hkj rfl ⟨rfl, trivial⟩ rfl rfl rfl (by omega) (by omega) rfl rfl) ?_
 rintro _ _ ⟨u1, H1, hu1, rfl, rfl⟩
 refine Ops.app ?_
 have ho1 := hu1.one
 have ho2 := hu1.cells1
 refine zq [9,6,25,2,5,3,4,1,2,5,10] ?_
 refine Ends.closeS (knS blk T kv kH) T.n j ((blk j, .cells [.int .i64 (T.sl j).1, .int .i64 (T.sl j).2, ptrO blk (T.par j), u1].toArray 333) :: H1) hj ?_
 refine Ends.heap (L' := trBlk tb mb :: (mb, mapO encS (kvT blk T.M ++ [(s, .pointer (some ⟨b2, 0, none⟩), clk)]) (clk + 1)) :: ((segs (fset (knS blk T kv kH) j ((blk j, .cells [.int .i64 (T.sl j).1, .int .i64 (T.sl j).2, ptrO blk (T.par j), u1].toArray 333) :: H1)) T.n ++ [(b2, .cells [.int .i64 s.1, .int .i64 s.2, .pointer (some ⟨blk j, 0, none⟩), .slice none 0 0].toArray 333)]) ++ F)) (fun w ho => ?_) ?_
 ·
  have h2 : Own W w (trBlk tb mb :: (mb, mapO encS (kvT blk T.M ++ [(s, .pointer (some ⟨b2, 0, none⟩), clk)]) (clk + 1)) :: (segs (fset (knS blk T kv kH) j ((blk j, .cells [.int .i64 (T.sl j).1, .int .i64 (T.sl j).2, ptrO blk (T.par j), u1].toArray 333) :: H1)) T.n ++ ((b2, .cells [.int .i64 s.1, .int .i64 s.2, .pointer (some ⟨blk j, 0, none⟩), .slice none 0 0].toArray 333) :: F))) := Drop.own ho
  rw [List.append_assoc]; exact h2
 rw [← more_child hx (t := clk) hj, ← more_kvT hx]
 exact zr (L' := trBlk tb mb :: (mb, mapO encS (kvT (fset blk T.n b2) (T.M ++ [(s, T.n, clk)])) (clk + 1)) :: segs (knS (fset blk T.n b2) (T.more s (some j) clk) (fset (fset kv T.n (.slice none 0 0)) j u1) (fset (fset kH T.n []) j H1)) (T.n + 1)) ⟨rfl, clk, mb, clk + 1, fset blk T.n b2, _, _, more_child_ok hx hk hj hu1, rfl⟩
theorem tr_taddR (tb : Nat) (L : Hp) (T : TreeM) (hH : TrH T tb L) (hx : T.Ix) (s : SlotM) : Tr Tryz.prog 169 [.pointer (some ⟨tb, 0, none⟩), slotV s, .pointer none] L (fun u L' => ∃ e T', u = .int .i64 e ∧ TAdd T s none e T' ∧ TrH T' tb L') := by
 cases h : tget s T.M with
 | none => exact (tr_tadd_root tb L T hH hx s h).mono fun u L' ⟨hu, t, hl⟩ => ⟨0, _, hu, .inr ⟨h, rfl, t, rfl⟩, hl⟩
 | some i => exact (tr_tadd_has tb L T hH s (.pointer none) i h).mono fun u L' ⟨hu, hl⟩ => ⟨4, T, hu, .inl ⟨i, h, rfl, rfl⟩, hl⟩
theorem tr_taddC (tb mb clk : Nat) (blk : Nat → Nat) (T : TreeM) (kv : Nat → Value) (kH : Nat → Hp) (hk : kidsOk blk T kv kH) (hx : T.Ix) (hn : T.n ≤ 2 ^ 20) (s : SlotM) (j : Nat) (hj : j < T.n) :
    Tr Tryz.prog 169 [.pointer (some ⟨tb, 0, none⟩), slotV s, .pointer (some ⟨blk j, 0, none⟩)] (trBlk tb mb :: mpBlk mb blk T.M clk :: segs (knS blk T kv kH) T.n) (fun u L' => ∃ e T', u = .int .i64 e ∧ TAdd T s (some j) e T' ∧ TrH T' tb L') := by
  cases h : tget s T.M with
  | none => exact (tr_tadd_child tb mb clk blk T kv kH hk hx hn s j hj h).mono fun u L' ⟨hu, t, hl⟩ => ⟨0, _, hu, .inr ⟨h, rfl, t, rfl⟩, hl⟩
  | some i => exact (tr_tadd_has tb _ T ⟨mb, clk, blk, kv, kH, hk, rfl⟩ s (.pointer (some ⟨blk j, 0, none⟩)) i h).mono fun u L' ⟨hu, hl⟩ => ⟨4, T, hu, .inl ⟨i, h, rfl, rfl⟩, hl⟩
theorem tr_tRoot (tb : Nat) (L : Hp) (T : TreeM) (hH : TrH T tb L) (hx : T.Ix) (s : SlotM) : Tr Tryz.prog 126 [.pointer (some ⟨tb, 0, none⟩), slotV s] (L) (fun u L' => ∃ e T', u = .int .i64 e ∧ TAdd T s none e T' ∧ TrH T' tb L') := by
 refine Tr.enter Tryz.func126 rfl Tryz.ntmps126 rfl (fun W F => ?_)
 refine Wp.app ?_
 refine Wr ?_
 refine zB fun b1 => ?_
 refine zq [1,2,5,3,4,0,30] ?_
 refine zD (tr_taddR tb L T hH hx s) ?_
 rintro _ Q1 ⟨e1, T1, rfl, ha1, hH1⟩
 refine Ops.app ?_
 skip
 refine zq [1,2,5,10] ?_
 exact Ends.ret (L' := Q1) (res1 rfl rfl) ⟨e1, T1, rfl, ha1, hH1⟩
theorem tr_tChild0 (tb : Nat) (L : Hp) (T : TreeM) (hH : TrH T tb L) (o s : SlotM) (h : tget o T.M = none) : Tr Tryz.prog 245 [.pointer (some ⟨tb, 0, none⟩), slotV o, slotV s] (L) (fun u L' => u = .int .i64 3 ∧ TrH T tb L') := by
 obtain ⟨mb, clk, blk, kv, kH, hk, rfl⟩ := hH
 have hm := tptr_hm blk T.M o
 rw [tptr_no h] at hm
 refine Tr.enter Tryz.func245 rfl Tryz.ntmps245 rfl (fun W F => ?_)
 refine Wp.app ?_
 refine Wr ?_
 refine zB fun b1 => ?_
 refine zB fun b2 => ?_
 refine zq [1,2,5,3] ?_
 refine AnyH.start ((b1, .cells [.int .i64 o.1, .int .i64 o.2].toArray 68) :: trBlk tb mb :: mpBlk mb blk T.M clk :: segs (knS blk T kv kH) T.n) 7 rfl ?_
 refine zd [0,1,1,3,2,0,3,2,4,10] ?_
 refine Tk 5 rfl rfl (pv_lookup_s o rfl rfl hm) rfl ?_
 refine zd [6,5] ?_
 refine AnyH.done (by kernel_rfl) ?_
 refine zq [5,3,3,4,0,59,2,5,18,3,4,1,2,5,10,12] ?_
 exact zr (L' := trBlk tb mb :: mpBlk mb blk T.M clk :: segs (knS blk T kv kH) T.n) ⟨rfl, mb, clk, blk, kv, kH, hk, rfl⟩
theorem tr_tChild1 (tb : Nat) (L : Hp) (T : TreeM) (hH : TrH T tb L) (hx : T.Ix) (hn : T.n ≤ 2 ^ 20) (o s : SlotM) (j : Nat) (h : tget o T.M = some j) : Tr Tryz.prog 245 [.pointer (some ⟨tb, 0, none⟩), slotV o, slotV s] (L) (fun u L' => ∃ e T', u = .int .i64 e ∧ TAdd T s (some j) e T' ∧ TrH T' tb L') := by
 obtain ⟨mb, clk, blk, kv, kH, hk, rfl⟩ := hH
 have hm := tptr_hm blk T.M o
 rw [tptr_some h] at hm
 have hj := hx.get h
 refine Tr.enter Tryz.func245 rfl Tryz.ntmps245 rfl (fun W F => ?_)
 refine Wp.app ?_
 refine Wr ?_
 refine zB fun b1 => ?_
 refine zB fun b2 => ?_
 refine zq [1,2,5,3] ?_
 refine AnyH.start ((b1, .cells [.int .i64 o.1, .int .i64 o.2].toArray 68) :: trBlk tb mb :: mpBlk mb blk T.M clk :: segs (knS blk T kv kH) T.n) 7 rfl ?_
 refine zd [0,1,1,3,2,0,3,2,4,10] ?_
 refine Tk 5 rfl rfl (pv_lookup_s o rfl rfl hm) rfl ?_
 refine zd [6,5] ?_
 refine AnyH.done (by kernel_rfl) ?_
 refine zq [5,3,3,4,0,59,2,5,17,11,5,3,4,0,30,0] ?_
 refine zD (tr_taddC tb mb clk blk T kv kH hk hx hn s j hj) ?_
 rintro _ Q1 ⟨e1, T1, rfl, ha1, hH1⟩
 refine Ops.app ?_
 skip
 refine zq [1,2,5,10] ?_
 exact Ends.ret (L' := Q1) (res1 rfl rfl) ⟨e1, T1, rfl, ha1, hH1⟩
theorem tr_tChild (tb : Nat) (L : Hp) (T : TreeM) (hH : TrH T tb L) (hx : T.Ix) (hn : T.n ≤ 2 ^ 20) (o s : SlotM) : Tr Tryz.prog 245 [.pointer (some ⟨tb, 0, none⟩), slotV o, slotV s] L (fun u L' => ∃ e T', u = .int .i64 e ∧ TChild T o s e T' ∧ TrH T' tb L') := by
 cases h : tget o T.M with
 | none => exact (tr_tChild0 tb L T hH o s h).mono fun u L' ⟨hu, hl⟩ => ⟨3, T, hu, .inl ⟨h, rfl, rfl⟩, hl⟩
 | some j => exact (tr_tChild1 tb L T hH hx hn o s j h).mono fun u L' ⟨e, T', hu, ha, hl⟩ => ⟨e, T', hu, .inr ⟨j, h, ha⟩, hl⟩
end Go.Proofs.YtipncceiekalfaaGreat
end
section
set_option linter.unusedVariables false
set_option linter.unusedSimpArgs false
set_option linter.unusedSectionVars false
namespace Go.Proofs.YtipncceiekalfaaGreat
open Go.SL
abbrev trP (tb : Nat) : Value := .pointer (some ⟨tb, 0, none⟩)
theorem tr_fNew : Tr Tryz.prog 96 [] [] (fun v L' => ∃ tb, v = trP tb ∧ TrF 0 .nil tb L') :=
  tr_treeNew.mono fun v L' ⟨tb, hv, h⟩ => ⟨tb, hv, _, .nil, tok_new, h, Nat.le_refl _, rfl⟩
theorem TAdd.root {n tb : Nat} {L : Hp} {T T' : TreeM} {G : Fo Nat} (hT : TOk T G) {s : SlotM} {e : Int} (h : TAdd T s none e T') (hL : TrH T' tb L) (hn : T.n ≤ n) : e = (ftRoot (G.map T.sl) s).1 ∧ TrF (n + 1) (ftRoot (G.map T.sl) s).2 tb L := by
 rcases h with ⟨i, h1, rfl, rfl⟩ | ⟨h1, rfl, t, rfl⟩
 ·
  have := hT.in_all.2 ⟨i, h1⟩
  unfold ftRoot; rw [if_pos this]
  exact ⟨rfl, T', G, hT, hL, by omega, rfl⟩
 have := hT.out_all.1 h1
 unfold ftRoot; rw [if_neg this]
 exact ⟨rfl, _, _, tok_root hT h1, hL, by show T.n + 1 ≤ _; omega, (more_rootS hT).symm⟩
section
variable {n : Nat} {F : FoS} {tb : Nat} {L : Hp} (hH : TrF n F tb L)
include hH
theorem TrF.nd : Fo.Nd F := by obtain ⟨T, G, hT, _, _, rfl⟩ := hH; exact hT.ndS
theorem TrF.len : F.all.length ≤ n := by
 obtain ⟨T, G, hT, _, hn, rfl⟩ := hH
 have := hT.all_len
 rw [Fo.all_map, List.length_map]; omega
theorem TrF.more {m : Nat} (h : n ≤ m) : TrF m F tb L := by
 obtain ⟨T, G, hT, hL, hn, e⟩ := hH
 exact ⟨T, G, hT, hL, Nat.le_trans hn h, e⟩
theorem tr_fRoot (s : SlotM) : Tr Tryz.prog 126 [trP tb, slotV s] L (fun u L' => u = .int .i64 (ftRoot F s).1 ∧ TrF (n + 1) (ftRoot F s).2 tb L') := by
 obtain ⟨T, G, hT, hL, hn, rfl⟩ := hH
 refine (tr_tRoot tb L T hL hT.ix s).mono ?_
 rintro u L' ⟨e, T', rfl, ha, hl⟩
 obtain ⟨h1, h2⟩ := TAdd.root hT ha hl hn
 exact ⟨by rw [h1], h2⟩
theorem tr_fChild (h : n ≤ 2 ^ 20) (o s : SlotM) : Tr Tryz.prog 245 [trP tb, slotV o, slotV s] L (fun u L' => u = .int .i64 (ftChild F o s).1 ∧ TrF (n + 1) (ftChild F o s).2 tb L') := by
 obtain ⟨T, G, hT, hL, hn, rfl⟩ := hH
 refine (tr_tChild tb L T hL hT.ix (by omega) o s).mono ?_
 rintro u L' ⟨e, T', rfl, ha, hl⟩
 rcases ha with ⟨h1, rfl, rfl⟩ | ⟨j, h1, ⟨i, h2, rfl, rfl⟩ | ⟨h2, rfl, t, rfl⟩⟩
 ·
  unfold ftChild; rw [if_neg (hT.out_all.1 h1)]
  exact ⟨rfl, _, G, hT, hl, by omega, rfl⟩
 ·
  unfold ftChild; rw [if_pos (hT.in_all.2 ⟨j, h1⟩), if_pos (hT.in_all.2 ⟨i, h2⟩)]
  exact ⟨rfl, _, G, hT, hl, by omega, rfl⟩
 unfold ftChild; rw [if_pos (hT.in_all.2 ⟨j, h1⟩), if_neg (hT.out_all.1 h2)]
 exact ⟨rfl, _, _, tok_child hT h2 (hT.mem h1), hl, by show T.n + 1 ≤ _; omega, (more_childS hT h1).symm⟩
end
end Go.Proofs.YtipncceiekalfaaGreat
end
section
set_option linter.unusedVariables false
set_option linter.unusedSimpArgs false
namespace Go.Proofs.YtipncceiekalfaaGreat
open Go.SL
abbrev cpP (cb : Nat) : Value := .pointer (some ⟨cb, 0, none⟩)
theorem tr_mask (a b : Int) : TrR Tryz.prog 273 [.int .i64 a, .int .i64 b] ([]) (.int .i64 (maskM a b)) := by
 refine Tr.enter Tryz.func273 rfl Tryz.ntmps273 rfl (fun W F => ?_)
 refine Wp.app ?_
 refine zq [3,4,1,2,5,3,3,4,0] ?_
 refine zC (tr_rightsOk a) ?_
 refine zq [55,0] ?_
 refine Ops.split (t := 8) rfl (fun h1 => ?_) (fun h1 => ?_)
 ·
  refine zq [13,13,13,24,2,5,18,3,4,1,2,5,10,12] ?_
  exact Ends.ret (res1 rfl rfl) ⟨by simp_all [maskM, rightsOk], rfl⟩
 refine zq [21] ?_
 refine Ops.efg ⟨_, _, rfl, rfl, rfl⟩ (ef_callr (tr_rightsOk b) rfl rfl) ?_
 rintro _ _ ⟨rfl, rfl⟩
 refine Ops.pvg ⟨_, _, rfl, rfl, rfl⟩ (pv_not_dec rfl) rfl ?_
 refine zq [26,2,5] ?_
 refine Wp.cond_dect rfl (fun h2 => ?_) (fun h2 => ?_)
 ·
  refine zq [3,4,1,2,5,10,12] ?_
  exact Ends.ret (res1 rfl rfl) ⟨by simp_all [maskM, rightsOk], rfl⟩
 refine zq [11,5,3,4,0,0] ?_
 refine Ops.pv (pv_and rfl rfl rfl) rfl ?_
 refine zq [1,2,5,10] ?_
 exact Ends.ret (res1 rfl rfl) ⟨by simp_all [maskM, rightsOk], rfl⟩
set_option maxHeartbeats 4000000 in
theorem tr_derive (c : CapM) (r bd g n : Int) : TrR Tryz.prog 258 [c.v, .int .i64 r, .int .u64 bd, .int .u64 g, .int .i64 n] ([]) (.tuple #[(derive c r bd g n).1.v, .int .i64 (derive c r bd g n).2]) := by
 refine Tr.enter Tryz.func258 rfl Tryz.ntmps258 rfl (fun W F => ?_)
 refine Wp.app ?_
 refine Wr ?_
 refine zB fun b1 => ?_
 refine zA fun b2 => ?_
 refine zq [1,2,5,3,3,4,32] ?_
 refine zC (tr_check c) ?_
 refine zq [1,2,5,3,4,0,27,2,5] ?_
 refine Wp.cond_dect rfl (fun h1 => ?_) (fun h1 => ?_)
 ·
  refine zq [3,4,23,0,14,1,2,5,10,12] ?_
  exact Ends.ret (res_list (rs := [.cell 10 70, .tmp 11]) rfl ⟨_, _, rfl, rv_cellK [_, _, _, _, _, _] rfl rfl rfl ⟨rfl, rfl, rfl, rfl, rfl, rfl, trivial⟩, ⟨_, _, rfl, rv_tmp rfl, rfl⟩⟩ rfl) ⟨by simp_all [derive, rightsOk, IntKind.bits], rfl⟩
 refine zq [11,5,3,3,4,6,8,2,5,20,3,4,22,1,2,5] ?_
 refine Wp.cond_dect rfl (fun h2 => ?_) (fun h2 => ?_)
 ·
  refine zq [3,4,23,14,1,2,5,10,15,12] ?_
  exact Ends.ret (res_list (rs := [.cell 10 70, .tmp 11]) rfl ⟨_, _, rfl, rv_cellK [_, _, _, _, _, _] rfl rfl rfl ⟨rfl, rfl, rfl, rfl, rfl, rfl, trivial⟩, ⟨_, _, rfl, rv_tmp rfl, rfl⟩⟩ rfl) ⟨by simp_all [derive, rightsOk, IntKind.bits], rfl⟩
 refine zq [3,3,4,22,1,2,5] ?_
 refine Wp.cond_dect rfl (fun h3 => ?_) (fun h3 => ?_)
 ·
  refine zq [11,5,18,3,4,23,14,1,2,5,10,15,12] ?_
  exact Ends.ret (res_list (rs := [.cell 10 70, .tmp 11]) rfl ⟨_, _, rfl, rv_cellK [_, _, _, _, _, _] rfl rfl rfl ⟨rfl, rfl, rfl, rfl, rfl, rfl, trivial⟩, ⟨_, _, rfl, rv_tmp rfl, rfl⟩⟩ rfl) ⟨by simp_all [derive, rightsOk, IntKind.bits], rfl⟩
 refine zq [3,4,22,1,2,5] ?_
 refine Wp.cond_dect rfl (fun h4 => ?_) (fun h4 => ?_)
 ·
  refine zq [11,5,18,3,4,23,14,1,2,5,10,15,12] ?_
  exact Ends.ret (res_list (rs := [.cell 10 70, .tmp 11]) rfl ⟨_, _, rfl, rv_cellK [_, _, _, _, _, _] rfl rfl rfl ⟨rfl, rfl, rfl, rfl, rfl, rfl, trivial⟩, ⟨_, _, rfl, rv_tmp rfl, rfl⟩⟩ rfl) ⟨by simp_all [derive, rightsOk, IntKind.bits], rfl⟩
 refine zq [4,22,1,2,5] ?_
 refine Wp.cond_dect rfl (fun h5 => ?_) (fun h5 => ?_)
 ·
  refine zq [3,4,23,14,1,2,5,10,15,12] ?_
  exact Ends.ret (res_list (rs := [.cell 10 70, .tmp 11]) rfl ⟨_, _, rfl, rv_cellK [_, _, _, _, _, _] rfl rfl rfl ⟨rfl, rfl, rfl, rfl, rfl, rfl, trivial⟩, ⟨_, _, rfl, rv_tmp rfl, rfl⟩⟩ rfl) ⟨by simp_all [derive, rightsOk, IntKind.bits], rfl⟩
 refine zq [11,19,5,3,3,4,0] ?_
 refine zC (tr_rightsOk r) ?_
 refine zq [55,2,5] ?_
 refine Wp.cond_dect rfl (fun h6 => ?_) (fun h6 => ?_)
 ·
  refine zq [3,4,23,14,1,2,5,10,12] ?_
  exact Ends.ret (res_list (rs := [.cell 10 70, .tmp 11]) rfl ⟨_, _, rfl, rv_cellK [_, _, _, _, _, _] rfl rfl rfl ⟨rfl, rfl, rfl, rfl, rfl, rfl, trivial⟩, ⟨_, _, rfl, rv_tmp rfl, rfl⟩⟩ rfl) ⟨by simp_all [derive, rightsOk, IntKind.bits], rfl⟩
 refine zq [11,5,3,3,4,6,8,2,5,20,3,4,22,1,2,5] ?_
 refine Wp.cond_dect rfl (fun h7 => ?_) (fun h7 => ?_)
 ·
  refine zq [4,6,8,0] ?_
  refine zC (tr_mask c.rights r) ?_
  refine zq [6,25,2,19,5,3,4,32,14,1,2,5,10] ?_
  exact Ends.ret (res_list (rs := [.cell 10 70, .tmp 11]) rfl ⟨_, _, rfl, rv_cellK [_, _, _, _, _, _] rfl rfl rfl ⟨rfl, rfl, rfl, rfl, rfl, rfl, trivial⟩, ⟨_, _, rfl, rv_tmp rfl, rfl⟩⟩ rfl) ⟨by simp_all [derive, rightsOk, IntKind.bits], rfl⟩
 refine zq [3,4,22,1,2,5] ?_
 refine Wp.cond_dect rfl (fun h8 => ?_) (fun h8 => ?_)
 ·
  refine zq [3,3,4,0,0] ?_
  refine zC (tr_fits g n) ?_
  refine zq [39,2,5] ?_
  refine Wp.cond_t rfl (fun h9 => ?_) (fun h9 => ?_)
  ·
   refine zq [3,4,23,14,1,2,5,10,12,15,12] ?_
   exact Ends.ret (res_list (rs := [.cell 10 70, .tmp 11]) rfl ⟨_, _, rfl, rv_cellK [_, _, _, _, _, _] rfl rfl rfl ⟨rfl, rfl, rfl, rfl, rfl, rfl, trivial⟩, ⟨_, _, rfl, rv_tmp rfl, rfl⟩⟩ rfl) ⟨by simp_all [derive, rightsOk, IntKind.bits], rfl⟩
  refine zq [11,5,4,0,0,6,25,6,25,2,19,5,3,4,32,14,1,2,5,10] ?_
  exact Ends.ret (res_list (rs := [.cell 10 70, .tmp 11]) rfl ⟨_, _, rfl, rv_cellK [_, _, _, _, _, _] rfl rfl rfl ⟨rfl, rfl, rfl, rfl, rfl, rfl, trivial⟩, ⟨_, _, rfl, rv_tmp rfl, rfl⟩⟩ rfl) ⟨by simp_all [derive, rightsOk, IntKind.bits], rfl⟩
 refine zq [3,3,4,22,1,2,5] ?_
 refine Wp.cond_dect rfl (fun h10 => ?_) (fun h10 => ?_)
 ·
  refine zq [11,5,18,3,4,6,8,0] ?_
  refine zC (tr_mask c.rights r) ?_
  refine zq [6,25,2,5,3,3,4,0,27,2,5] ?_
  refine Wp.cond_dect rfl (fun h11 => ?_) (fun h11 => ?_)
  ·
   refine zq [3,3,4,6,8,27,2,5] ?_
   refine Wp.cond_dect rfl (fun h12 => ?_) (fun h12 => ?_)
   ·
    refine zq [3,4,23,14,1,2,5,10,12,12,15,12] ?_
    exact Ends.ret (res_list (rs := [.cell 10 70, .tmp 11]) rfl ⟨_, _, rfl, rv_cellK [_, _, _, _, _, _] rfl rfl rfl ⟨rfl, rfl, rfl, rfl, rfl, rfl, trivial⟩, ⟨_, _, rfl, rv_tmp rfl, rfl⟩⟩ rfl) ⟨by simp_all [derive, rightsOk, IntKind.bits], rfl⟩
   refine zq [11,5,4,0,6,25,2,5,3,4,6,8] ?_
   refine Ops.pv (pv_shr rfl rfl (by omega) rfl) rfl ?_
   refine zq [27,2,5] ?_
   refine Wp.cond_dect rfl (fun h13 => ?_) (fun h13 => ?_)
   ·
    refine zq [3,4,23,14,1,2,5,10,15,12] ?_
    exact Ends.ret (res_list (rs := [.cell 10 70, .tmp 11]) rfl ⟨_, _, rfl, rv_cellK [_, _, _, _, _, _] rfl rfl rfl ⟨rfl, rfl, rfl, rfl, rfl, rfl, trivial⟩, ⟨_, _, rfl, rv_tmp rfl, rfl⟩⟩ rfl) ⟨by simp_all [derive, rightsOk, IntKind.bits], rfl⟩
   refine zq [11,19,5,3,4,32,14,1,2,5,10] ?_
   exact Ends.ret (res_list (rs := [.cell 10 70, .tmp 11]) rfl ⟨_, _, rfl, rv_cellK [_, _, _, _, _, _] rfl rfl rfl ⟨rfl, rfl, rfl, rfl, rfl, rfl, trivial⟩, ⟨_, _, rfl, rv_tmp rfl, rfl⟩⟩ rfl) ⟨by simp_all [derive, rightsOk, IntKind.bits], rfl⟩
  refine zq [11,5,3,4,6,8] ?_
  refine Ops.pv (pv_shr rfl rfl (by omega) rfl) rfl ?_
  refine zq [27,2,5] ?_
  refine Wp.cond_dect rfl (fun h14 => ?_) (fun h14 => ?_)
  ·
   refine zq [3,4,23,14,1,2,5,10,15,12] ?_
   exact Ends.ret (res_list (rs := [.cell 10 70, .tmp 11]) rfl ⟨_, _, rfl, rv_cellK [_, _, _, _, _, _] rfl rfl rfl ⟨rfl, rfl, rfl, rfl, rfl, rfl, trivial⟩, ⟨_, _, rfl, rv_tmp rfl, rfl⟩⟩ rfl) ⟨by simp_all [derive, rightsOk, IntKind.bits], rfl⟩
  refine zq [11,19,5,3,4,32,14,1,2,5,10] ?_
  exact Ends.ret (res_list (rs := [.cell 10 70, .tmp 11]) rfl ⟨_, _, rfl, rv_cellK [_, _, _, _, _, _] rfl rfl rfl ⟨rfl, rfl, rfl, rfl, rfl, rfl, trivial⟩, ⟨_, _, rfl, rv_tmp rfl, rfl⟩⟩ rfl) ⟨by simp_all [derive, rightsOk, IntKind.bits], rfl⟩
 refine zq [4,22,1,2,5] ?_
 refine Wp.cond_dect rfl (fun h15 => ?_) (fun h15 => ?_)
 ·
  refine zq [3,4,6,8,0] ?_
  refine zC (tr_mask c.rights r) ?_
  refine zq [6,25,2,5,3,3,4,0,27,2,5] ?_
  refine Wp.cond_dect rfl (fun h16 => ?_) (fun h16 => ?_)
  ·
   refine zq [3,3,4,6,8,27,2,5] ?_
   refine Wp.cond_dect rfl (fun h17 => ?_) (fun h17 => ?_)
   ·
    refine zq [3,4,23,14,1,2,5,10,12,12,15,12] ?_
    exact Ends.ret (res_list (rs := [.cell 10 70, .tmp 11]) rfl ⟨_, _, rfl, rv_cellK [_, _, _, _, _, _] rfl rfl rfl ⟨rfl, rfl, rfl, rfl, rfl, rfl, trivial⟩, ⟨_, _, rfl, rv_tmp rfl, rfl⟩⟩ rfl) ⟨by simp_all [derive, rightsOk, IntKind.bits], rfl⟩
   refine zq [11,5,4,0,6,25,2,5,3,4,6,8] ?_
   refine Ops.pv (pv_shr rfl rfl (by omega) rfl) rfl ?_
   refine zq [27,2,5] ?_
   refine Wp.cond_dect rfl (fun h18 => ?_) (fun h18 => ?_)
   ·
    refine zq [3,4,23,14,1,2,5,10,15,12] ?_
    exact Ends.ret (res_list (rs := [.cell 10 70, .tmp 11]) rfl ⟨_, _, rfl, rv_cellK [_, _, _, _, _, _] rfl rfl rfl ⟨rfl, rfl, rfl, rfl, rfl, rfl, trivial⟩, ⟨_, _, rfl, rv_tmp rfl, rfl⟩⟩ rfl) ⟨by simp_all [derive, rightsOk, IntKind.bits], rfl⟩
   refine zq [11,19,5,3,4,32,14,1,2,5,10] ?_
   exact Ends.ret (res_list (rs := [.cell 10 70, .tmp 11]) rfl ⟨_, _, rfl, rv_cellK [_, _, _, _, _, _] rfl rfl rfl ⟨rfl, rfl, rfl, rfl, rfl, rfl, trivial⟩, ⟨_, _, rfl, rv_tmp rfl, rfl⟩⟩ rfl) ⟨by simp_all [derive, rightsOk, IntKind.bits], rfl⟩
  refine zq [11,5,3,4,6,8] ?_
  refine Ops.pv (pv_shr rfl rfl (by omega) rfl) rfl ?_
  refine zq [27,2,5] ?_
  refine Wp.cond_dect rfl (fun h19 => ?_) (fun h19 => ?_)
  ·
   refine zq [3,4,23,14,1,2,5,10,15,12] ?_
   exact Ends.ret (res_list (rs := [.cell 10 70, .tmp 11]) rfl ⟨_, _, rfl, rv_cellK [_, _, _, _, _, _] rfl rfl rfl ⟨rfl, rfl, rfl, rfl, rfl, rfl, trivial⟩, ⟨_, _, rfl, rv_tmp rfl, rfl⟩⟩ rfl) ⟨by simp_all [derive, rightsOk, IntKind.bits], rfl⟩
  refine zq [11,19,5,3,4,32,14,1,2,5,10] ?_
  exact Ends.ret (res_list (rs := [.cell 10 70, .tmp 11]) rfl ⟨_, _, rfl, rv_cellK [_, _, _, _, _, _] rfl rfl rfl ⟨rfl, rfl, rfl, rfl, rfl, rfl, trivial⟩, ⟨_, _, rfl, rv_tmp rfl, rfl⟩⟩ rfl) ⟨by simp_all [derive, rightsOk, IntKind.bits], rfl⟩
 refine zq [11,19,5,3,4,32,14,1,2,5,10] ?_
 exact Ends.ret (res_list (rs := [.cell 10 70, .tmp 11]) rfl ⟨_, _, rfl, rv_cellK [_, _, _, _, _, _] rfl rfl rfl ⟨rfl, rfl, rfl, rfl, rfl, rfl, trivial⟩, ⟨_, _, rfl, rv_tmp rfl, rfl⟩⟩ rfl) ⟨by simp_all [derive, rightsOk, IntKind.bits], rfl⟩
theorem tr_mNew  : Tr Tryz.prog 42 [] ([]) (fun v L' => ∃ cb, v = cpP cb ∧ CapsH 0 PS.new cb L') := by
 refine Tr.enter Tryz.func42 rfl Tryz.ntmps42 rfl (fun W F => ?_)
 refine Wp.app ?_
 refine zq [3,4,1,2,5,3,4] ?_
 refine zD sf_new ?_
 rintro _ Q1 ⟨sb1, rfl, hS1⟩
 refine Ops.app ?_
 skip
 refine zq [23] ?_
 refine zD tr_fNew ?_
 rintro _ R1 ⟨tb1, rfl, hT1⟩
 refine Ops.app ?_
 skip
 refine zq [23] ?_
 refine zB fun b1 => ?_
 refine zq [1,2,5,10] ?_
 exact Ends.ret (L' := cBlk b1 sb1 tb1 :: (Q1 ++ R1)) (res1 rfl rfl) ⟨b1, rfl, sb1, tb1, Q1, R1, hS1, hT1, rfl⟩
theorem tr_smNode (l : List DN) (sb : Nat) (Ls : Hp) (hS : StF l sb Ls) (x r : Int) : Tr Tryz.prog 122 [.agg #[stP sb], .int .i64 x, .int .i64 r] (Ls) (fun u L' => u = .int .i64 (dadd l x r).1 ∧ StF (dadd l x r).2 sb L') := by
 refine Tr.enter Tryz.func122 rfl Tryz.ntmps122 rfl (fun W F => ?_)
 refine Wp.app ?_
 refine Wr ?_
 refine zB fun b1 => ?_
 refine zq [1,2,5,3,4,6,8,0,0] ?_
 refine zD (sf_add hS x r) ?_
 rintro _ Q1 ⟨rfl, hS1⟩
 refine Ops.app ?_
 skip
 refine zq [1,2,5,10] ?_
 exact zr (L' := Q1) ⟨rfl, hS1⟩
theorem tr_mSource (n cb : Nat) (L : Hp) (p : PS) (hH : CapsH n p cb L) (so : SlotM) : TrR Tryz.prog 246 [cpP cb, slotV so] (L) (.tuple #[(mSource p so).1.v, .int .i64 (mSource p so).2]) := by
 obtain ⟨sb, tb, Ls, Lt, hS, hT, rfl⟩ := hH
 refine Tr.enter Tryz.func246 rfl Tryz.ntmps246 rfl (fun W F => ?_)
 refine Wp.app ?_
 refine Wr ?_
 refine zB fun b1 => ?_
 refine zA fun b2 => ?_
 refine zq [1,2,5] ?_
 apply Wp.cutB1 [(4, _)] (fun b3 => [(6, _), (7, _)]) _ ⟨rfl, trivial⟩
 ·
  intro KK hA0
  refine AnyH.start ((b1, .cells [.int .i64 so.1, .int .i64 so.2].toArray 68) :: cBlk cb sb tb :: []) 13 rfl ?_
  refine zd [0,1,1,3,2,0,3,0,4,2,5,10] ?_
  refine AnyH.two 6 10 (by kernel_rfl) ?_ ?_
  ·
   refine Turn.ef rfl rfl (ef_callr (sf_get hS so) rfl rfl) ?_ ?_
   ·
    rintro _ _ ⟨rfl, rfl⟩; infer_instance
   rintro _ _ ⟨rfl, rfl⟩
   refine zd [7,1,8,4,9,4] ?_
   refine AnyH.one 10 (by kernel_rfl) ?_
   refine Turn.ef rfl rfl (ef_allocK tyZ70 rfl) ?_ ?_
   ·
    rintro _ _ ⟨b3, rfl, rfl⟩; infer_instance
   rintro _ _ ⟨b3, rfl, rfl⟩
   refine zK 11 ?_
   refine zd [12,5] ?_
   refine AnyH.done (by kernel_rfl) ?_
   refine zq [49] ?_
   refine Goes.same (hA0 b3) ⟨rfl, rfl, rfl, trivial⟩
  refine Turn.ef rfl rfl (ef_allocK tyZ70 rfl) ?_ ?_
  ·
   rintro _ _ ⟨b4, rfl, rfl⟩; infer_instance
  rintro _ _ ⟨b4, rfl, rfl⟩
  refine AnyH.one 6 (by kernel_rfl) ?_
  refine Turn.ef rfl rfl (ef_callr (sf_get hS so) rfl rfl) ?_ ?_
  ·
   rintro _ _ ⟨rfl, rfl⟩; infer_instance
  rintro _ _ ⟨rfl, rfl⟩
  refine zd [7,1,8,4,9,4] ?_
  refine zK 11 ?_
  refine zd [12,5] ?_
  refine AnyH.done (by kernel_rfl) ?_
  refine zq [49] ?_
  refine Goes.back (hA0 b4) ⟨rfl, rfl, rfl, trivial⟩
 intro b3
 dsimp only [List.cons_append, List.nil_append]
 refine zq [3,3,4,0,22,0] ?_
 refine Ops.pvc rfl rfl (fun hg => pv_fieldAddr0 rfl rfl) rfl ?_
 refine Ops.pvc rfl rfl (fun hg => Pv.setE (t := 21) rfl (cv_pos hg) (pv_load rfl rfl rfl)) rfl ?_
 refine Ops.pvc rfl rfl (fun hg => Pv.setE (t := 21) rfl (cv_pos hg) (Pv.setE (t := 22) rfl (cv_pos hg) (pv_eql rfl rfl))) rfl ?_
 refine zq [46,2,5] ?_
 refine Wp.cond_dect rfl (fun h1 => ?_) (fun h1 => ?_)
 ·
  refine zq [4,1,2,5,3,4,32,0,14,1,2,5,10] ?_
  have he : mSource p so = ((dget p.l so).1, 3) := if_pos (by assumption)
  exact Ends.ret (res_list (rs := [.cell 4 70, .tmp 5]) rfl ⟨_, _, rfl, rv_cellK [_, _, _, _, _, _] rfl rfl rfl ⟨rfl, rfl, rfl, rfl, rfl, rfl, trivial⟩, ⟨_, _, rfl, rv_tmp rfl, rfl⟩⟩ rfl) ⟨by rw [he], rfl⟩
 refine zq [11,5,3,4,32,0,14,1,2,5,10] ?_
 have he : mSource p so = dget p.l so := if_neg (by assumption)
 exact Ends.ret (res_list (rs := [.cell 4 70, .tmp 5]) rfl ⟨_, _, rfl, rv_cellK [_, _, _, _, _, _] rfl rfl rfl ⟨rfl, rfl, rfl, rfl, rfl, rfl, trivial⟩, ⟨_, _, rfl, rv_tmp rfl, rfl⟩⟩ rfl) ⟨by rw [he], rfl⟩
theorem tr_mPlace (n cb : Nat) (L : Hp) (p : PS) (hH : CapsH n p cb L) (so : SlotM) : TrR Tryz.prog 247 [cpP cb, slotV so] (L) (.int .i64 (mPlace p so)) := by
 obtain ⟨sb, tb, Ls, Lt, hS, hT, rfl⟩ := hH
 refine Tr.enter Tryz.func247 rfl Tryz.ntmps247 rfl (fun W F => ?_)
 refine Wp.app ?_
 refine Wr ?_
 refine zB fun b1 => ?_
 refine zq [1,2,5] ?_
 apply Wp.cutB1 [] (fun b2 => [(5, _), (6, _)]) _ trivial
 ·
  intro KK hA0
  refine AnyH.start ((b1, .cells [.int .i64 so.1, .int .i64 so.2].toArray 68) :: cBlk cb sb tb :: []) 13 rfl ?_
  refine zd [0,1,1,3,2,0,3,0,4,2,5,10] ?_
  refine AnyH.two 6 10 (by kernel_rfl) ?_ ?_
  ·
   refine Turn.ef rfl rfl (ef_callr (sf_get hS so) rfl rfl) ?_ ?_
   ·
    rintro _ _ ⟨rfl, rfl⟩; infer_instance
   rintro _ _ ⟨rfl, rfl⟩
   refine zd [7,1,8,4,9,4] ?_
   refine AnyH.one 10 (by kernel_rfl) ?_
   refine Turn.ef rfl rfl (ef_allocK tyZ70 rfl) ?_ ?_
   ·
    rintro _ _ ⟨b2, rfl, rfl⟩; infer_instance
   rintro _ _ ⟨b2, rfl, rfl⟩
   refine zK 11 ?_
   refine zd [12,5] ?_
   refine AnyH.done (by kernel_rfl) ?_
   refine zq [49] ?_
   refine Goes.same (hA0 b2) ⟨rfl, rfl, trivial⟩
  refine Turn.ef rfl rfl (ef_allocK tyZ70 rfl) ?_ ?_
  ·
   rintro _ _ ⟨b3, rfl, rfl⟩; infer_instance
  rintro _ _ ⟨b3, rfl, rfl⟩
  refine AnyH.one 6 (by kernel_rfl) ?_
  refine Turn.ef rfl rfl (ef_callr (sf_get hS so) rfl rfl) ?_ ?_
  ·
   rintro _ _ ⟨rfl, rfl⟩; infer_instance
  rintro _ _ ⟨rfl, rfl⟩
  refine zd [7,1,8,4,9,4] ?_
  refine zK 11 ?_
  refine zd [12,5] ?_
  refine AnyH.done (by kernel_rfl) ?_
  refine zq [49] ?_
  refine Goes.back (hA0 b3) ⟨rfl, rfl, trivial⟩
 intro b2
 dsimp only [List.cons_append, List.nil_append]
 refine zq [3,3,4,0,22,0] ?_
 refine Ops.pvc rfl rfl (fun hg => pv_fieldAddr0 rfl rfl) rfl ?_
 refine Ops.pvc rfl rfl (fun hg => Pv.setE (t := 20) rfl (cv_pos hg) (pv_load rfl rfl rfl)) rfl ?_
 refine Ops.pvc rfl rfl (fun hg => Pv.setE (t := 20) rfl (cv_pos hg) (Pv.setE (t := 21) rfl (cv_pos hg) (pv_neq rfl rfl))) rfl ?_
 refine zq [46,2,5] ?_
 refine Wp.cond_dect rfl (fun h1 => ?_) (fun h1 => ?_)
 ·
  refine zq [4,1,2,5,3,4,0,1,2,5,10] ?_
  have he : mPlace p so = 4 := if_pos (by assumption)
  exact Ends.ret (res1 rfl rfl) ⟨by rw [he], rfl⟩
 refine zq [11,5,3,4,0,1,2,5,10] ?_
 have he : mPlace p so = (dget p.l so).2 := if_neg (by assumption)
 exact Ends.ret (res1 rfl rfl) ⟨by rw [he], rfl⟩
theorem tr_mBoth (n cb : Nat) (L : Hp) (p : PS) (hH : CapsH n p cb L) (so de : SlotM) : TrR Tryz.prog 244 [cpP cb, slotV so, slotV de] (L) (.tuple #[(mBoth p so de).1.v, .int .i64 (mBoth p so de).2]) := by
 refine Tr.enter Tryz.func244 rfl Tryz.ntmps244 rfl (fun W F => ?_)
 refine Wp.app ?_
 refine Wr ?_
 refine zB fun b1 => ?_
 refine zB fun b2 => ?_
 refine zA fun b3 => ?_
 refine zq [1,2,5,3,4,0,30] ?_
 refine zC (tr_mSource n cb L p hH so) ?_
 refine zq [0,7,7] ?_
 refine zA fun b4 => ?_
 refine zq [14,1,2,5,3,3,4,0,22,2,5] ?_
 refine Wp.cond_dect rfl (fun h1 => ?_) (fun h1 => ?_)
 ·
  refine zq [4,0,30] ?_
  refine zC (tr_mPlace n cb L p hH de) ?_
  refine zq [1,2,5,3,4,32,0,14,1,2,5,10] ?_
  have he : mBoth p so de = ((mSource p so).1, mPlace p de) := by unfold mBoth; rw [if_pos (by assumption)]
  exact Ends.ret (res_list (rs := [.cell 6 70, .tmp 7]) rfl ⟨_, _, rfl, rv_cellK [_, _, _, _, _, _] rfl rfl rfl ⟨rfl, rfl, rfl, rfl, rfl, rfl, trivial⟩, ⟨_, _, rfl, rv_tmp rfl, rfl⟩⟩ rfl) ⟨by rw [he], rfl⟩
 refine zq [11,5,3,4,32,0,14,1,2,5,10] ?_
 have he : mBoth p so de = ((mSource p so).1, (mSource p so).2) := by unfold mBoth; rw [if_neg (by assumption)]
 exact Ends.ret (res_list (rs := [.cell 6 70, .tmp 7]) rfl ⟨_, _, rfl, rv_cellK [_, _, _, _, _, _] rfl rfl rfl ⟨rfl, rfl, rfl, rfl, rfl, rfl, trivial⟩, ⟨_, _, rfl, rv_tmp rfl, rfl⟩⟩ rfl) ⟨by rw [he], rfl⟩
theorem tr_mPlant (n cb : Nat) (L : Hp) (p : PS) (hH : CapsH n p cb L) (so : SlotM) (c : CapM) : Tr Tryz.prog 65 [cpP cb, slotV so, c.v] (L) (fun u L' => u = .int .i64 (mPlant p so c).1 ∧ CapsH (n + 1) (mPlant p so c).2 cb L') := by
 obtain ⟨sb, tb, Ls, Lt, hS, hT, rfl⟩ := hH
 refine Tr.enter Tryz.func65 rfl Tryz.ntmps65 rfl (fun W F => ?_)
 refine Wp.app ?_
 refine Wr ?_
 refine zB fun b1 => ?_
 refine zB fun b2 => ?_
 refine zq [1,2,5,3] ?_
 refine AnyH.start ((b2, .cells c.cells.toArray 70) :: (b1, .cells [.int .i64 so.1, .int .i64 so.2].toArray 68) :: cBlk cb sb tb :: []) 9 rfl ?_
 refine zd [0,1,1,3,2,0,3,0,4,2,5,10,6,11] ?_
 refine AnyH.one 7 (by kernel_rfl) ?_
 refine Turn.ef rfl rfl (ef_call (sf_put hS so c) rfl rfl) ?_ ?_
 ·
  rintro _ _ ⟨_, Q1, ⟨rfl, hS2⟩, rfl, rfl⟩; infer_instance
 rintro _ _ ⟨_, Q1, ⟨rfl, hS2⟩, rfl, rfl⟩
 refine AnyH.app ?_
 skip
 refine zd [8,5] ?_
 refine AnyH.done (by kernel_rfl) ?_
 refine zq [5,3,3,4,0,22,2,5] ?_
 refine Wp.cond_dect rfl (fun h1 => ?_) (fun h1 => ?_)
 ·
  refine AnyH.start ((b1, .cells [.int .i64 so.1, .int .i64 so.2].toArray 68) :: cBlk cb sb tb :: []) 6 rfl ?_
  refine zd [0,1,1,3,2,0,3,2,4,10] ?_
  refine AnyH.one 5 (by kernel_rfl) ?_
  refine Turn.ef rfl rfl (ef_call (tr_fRoot hT so) rfl rfl) ?_ ?_
  ·
   rintro _ _ ⟨_, R1, ⟨rfl, hT2⟩, rfl, rfl⟩; infer_instance
  rintro _ _ ⟨_, R1, ⟨rfl, hT2⟩, rfl, rfl⟩
  refine AnyH.app ?_
  skip
  refine AnyH.done (by kernel_rfl) ?_
  refine zq [5,3,4,0,1,2,5,10] ?_
  have he : mPlant p so c = ((dput p.l so c).1, ⟨(dput p.l so c).2, (ftRoot p.F so).2⟩) := by unfold mPlant; rw [if_pos (by assumption)]
  rw [he]
  exact zr (L' := cBlk cb sb tb :: (Q1 ++ R1)) ⟨rfl, sb, tb, Q1, R1, hS2, hT2, rfl⟩
 refine zq [11,5,3,4,0,1,2,5,10] ?_
 have he : mPlant p so c = ((dput p.l so c).1, ⟨(dput p.l so c).2, p.F⟩) := by unfold mPlant; rw [if_neg (by assumption)]
 rw [he]
 exact zr (L' := cBlk cb sb tb :: (Q1 ++ Lt)) ⟨rfl, sb, tb, Q1, Lt, hS2, hT.more (by omega), rfl⟩
theorem tr_mChild (n cb : Nat) (L : Hp) (p : PS) (hH : CapsH n p cb L) (hn : n ≤ 2 ^ 19) (so de : SlotM) (c : CapM) : Tr Tryz.prog 228 [cpP cb, slotV so, slotV de, c.v] (L) (fun u L' => u = .int .i64 (mChild p so de c).1 ∧ CapsH (n + 1) (mChild p so de c).2 cb L') := by
 have hH0 := hH
 obtain ⟨sb, tb, Ls, Lt, hS, hT, rfl⟩ := hH
 refine Tr.enter Tryz.func228 rfl Tryz.ntmps228 rfl (fun W F => ?_)
 refine Wp.app ?_
 refine Wr ?_
 refine zB fun b1 => ?_
 refine zB fun b2 => ?_
 refine zB fun b3 => ?_
 refine zq [1,2,5,3,3,4,0,30,30] ?_
 refine zC (tr_mBoth n cb (cBlk cb sb tb :: (Ls ++ Lt)) p hH0 so de) ?_
 refine zq [0,7,7] ?_
 refine zA fun b4 => ?_
 refine zq [14,1,2,5,3,4,0,27,2,5] ?_
 refine Wp.cond_dect rfl (fun h1 => ?_) (fun h1 => ?_)
 ·
  refine zq [3,4,0,1,2,5,10,12] ?_
  have he : mChild p so de c = ((mBoth p so de).2, p) := by unfold mChild; rw [if_pos (by assumption)]
  rw [he]
  exact zr (L' := (cBlk cb sb tb :: (Ls ++ Lt))) ⟨rfl, sb, tb, Ls, Lt, hS, hT.more (by omega), rfl⟩
 refine zq [11,5,3] ?_
 refine AnyH.start ((b3, .cells c.cells.toArray 70) :: (b2, .cells [.int .i64 de.1, .int .i64 de.2].toArray 68) :: cBlk cb sb tb :: []) 9 rfl ?_
 refine zd [0,1,1,3,2,0,3,0,4,2,5,10,6,11] ?_
 refine AnyH.one 7 (by kernel_rfl) ?_
 refine Turn.ef rfl rfl (ef_call (sf_put hS de c) rfl rfl) ?_ ?_
 ·
  rintro _ _ ⟨_, Q1, ⟨rfl, hS2⟩, rfl, rfl⟩; infer_instance
 rintro _ _ ⟨_, Q1, ⟨rfl, hS2⟩, rfl, rfl⟩
 refine AnyH.app ?_
 skip
 refine zd [8,5] ?_
 refine AnyH.done (by kernel_rfl) ?_
 refine zq [5,3,3,4,0,22,2,5] ?_
 refine Wp.cond_dect rfl (fun h2 => ?_) (fun h2 => ?_)
 ·
  refine AnyH.start ((b2, .cells [.int .i64 de.1, .int .i64 de.2].toArray 68) :: (b1, .cells [.int .i64 so.1, .int .i64 so.2].toArray 68) :: cBlk cb sb tb :: []) 7 rfl ?_
  refine zd [0,1,1,3,2,0,3,2,4,10,5,10] ?_
  refine AnyH.one 6 (by kernel_rfl) ?_
  refine Turn.ef rfl rfl (ef_call (tr_fChild hT (by omega) so de) rfl rfl) ?_ ?_
  ·
   rintro _ _ ⟨_, R1, ⟨rfl, hT2⟩, rfl, rfl⟩; infer_instance
  rintro _ _ ⟨_, R1, ⟨rfl, hT2⟩, rfl, rfl⟩
  refine AnyH.app ?_
  skip
  refine AnyH.done (by kernel_rfl) ?_
  refine zq [5,3,4,0,1,2,5,10] ?_
  have he : mChild p so de c = ((dput p.l de c).1, ⟨(dput p.l de c).2, (ftChild p.F so de).2⟩) := by unfold mChild; rw [if_neg (by assumption), if_pos (by assumption)]
  rw [he]
  exact zr (L' := cBlk cb sb tb :: (Q1 ++ R1)) ⟨rfl, sb, tb, Q1, R1, hS2, hT2, rfl⟩
 refine zq [11,5,3,4,0,1,2,5,10] ?_
 have he : mChild p so de c = ((dput p.l de c).1, ⟨(dput p.l de c).2, p.F⟩) := by unfold mChild; rw [if_neg (by assumption), if_neg (by assumption)]
 rw [he]
 exact zr (L' := cBlk cb sb tb :: (Q1 ++ Lt)) ⟨rfl, sb, tb, Q1, Lt, hS2, hT.more (by omega), rfl⟩
theorem CapsH.more {n m cb : Nat} {L : Hp} {p : PS} (h : CapsH n p cb L) (hm : n ≤ m) : CapsH m p cb L := by
 obtain ⟨sb, tb, Ls, Lt, hS, hT, rfl⟩ := h
 exact ⟨sb, tb, Ls, Lt, hS, hT.more hm, rfl⟩
theorem tr_mMint (n cb : Nat) (L : Hp) (p : PS) (hH : CapsH n p cb L) (hn : n ≤ 2 ^ 19) (so de : SlotM) (r bd g k : Int) : Tr Tryz.prog 235 [cpP cb, slotV so, slotV de, .int .i64 r, .int .u64 bd, .int .u64 g, .int .i64 k] (L) (fun u L' => u = .int .i64 (mMint p so de r bd g k).1 ∧ CapsH (n + 1) (mMint p so de r bd g k).2 cb L') := by
 refine Tr.enter Tryz.func235 rfl Tryz.ntmps235 rfl (fun W F => ?_)
 refine Wp.app ?_
 refine Wr ?_
 refine zB fun b1 => ?_
 refine zB fun b2 => ?_
 refine zq [1,2,5,3,4,0,30,30] ?_
 refine zC (tr_mBoth n cb L p hH so de) ?_
 refine zq [0,7,7] ?_
 refine zA fun b3 => ?_
 refine zq [14,1,2,5,3,3,4,0,27,2,5] ?_
 refine Wp.cond_dect rfl (fun h1 => ?_) (fun h1 => ?_)
 ·
  refine zq [3,4,0,1,2,5,10,12] ?_
  have he : mMint p so de r bd g k = ((mBoth p so de).2, p) := by unfold mMint; rw [if_pos (by assumption)]
  rw [he]
  exact zr (L' := L) ⟨rfl, hH.more (by omega)⟩
 refine zq [11,5,3,4,32,0,0,0,0] ?_
 refine zC (tr_derive (mBoth p so de).1 r bd g k) ?_
 refine zq [0,7,7] ?_
 refine zA fun b4 => ?_
 refine zq [14,1,2,5,3,3,4,0,27,2,5] ?_
 refine Wp.cond_dect rfl (fun h2 => ?_) (fun h2 => ?_)
 ·
  refine zq [3,4,0,1,2,5,10,12] ?_
  have he : mMint p so de r bd g k = ((derive (mBoth p so de).1 r bd g k).2, p) := by unfold mMint; rw [if_neg (by assumption), if_pos (by assumption)]
  rw [he]
  exact zr (L' := L) ⟨rfl, hH.more (by omega)⟩
 refine zq [11,5,3,4,0,30,30,32] ?_
 refine zD (tr_mChild n cb L p hH hn so de (derive (mBoth p so de).1 r bd g k).1) ?_
 rintro _ Q1 ⟨rfl, hH2⟩
 refine Ops.app ?_
 skip
 refine zq [1,2,5,10] ?_
 have he : mMint p so de r bd g k = mChild p so de (derive (mBoth p so de).1 r bd g k).1 := by unfold mMint; rw [if_neg (by assumption), if_neg (by assumption)]
 rw [he]
 exact zr (L' := Q1) ⟨rfl, hH2⟩
theorem tr_mCopy (n cb : Nat) (L : Hp) (p : PS) (hH : CapsH n p cb L) (hn : n ≤ 2 ^ 19) (so de : SlotM) (r : Int) : Tr Tryz.prog 217 [cpP cb, slotV so, slotV de, .int .i64 r] (L) (fun u L' => u = .int .i64 (mCopy p so de r).1 ∧ CapsH (n + 1) (mCopy p so de r).2 cb L') := by
 have hH0 := hH
 obtain ⟨sb, tb, Ls, Lt, hS, hT, rfl⟩ := hH
 refine Tr.enter Tryz.func217 rfl Tryz.ntmps217 rfl (fun W F => ?_)
 refine Wp.app ?_
 refine Wr ?_
 refine zB fun b1 => ?_
 refine zB fun b2 => ?_
 refine zq [1,2,5] ?_
 apply Wp.cutB1 [(0, _), (3, _), (5, _), (6, _)] (fun b3 => [(9, _)]) _ ⟨rfl, rfl, rfl, rfl, trivial⟩
 ·
  intro KK hA0
  refine AnyH.start ((b1, .cells [.int .i64 so.1, .int .i64 so.2].toArray 68) :: cBlk cb sb tb :: []) 13 rfl ?_
  refine zd [0,1,1,3,2,0,3,0,4,2,5,10] ?_
  refine AnyH.two 6 10 (by kernel_rfl) ?_ ?_
  ·
   refine Turn.ef rfl rfl (ef_callr (sf_get hS so) rfl rfl) ?_ ?_
   ·
    rintro _ _ ⟨rfl, rfl⟩; infer_instance
   rintro _ _ ⟨rfl, rfl⟩
   refine zd [7,1,8,4,9,4] ?_
   refine AnyH.one 10 (by kernel_rfl) ?_
   refine Turn.ef rfl rfl (ef_allocK tyZ70 rfl) ?_ ?_
   ·
    rintro _ _ ⟨b3, rfl, rfl⟩; infer_instance
   rintro _ _ ⟨b3, rfl, rfl⟩
   refine zK 11 ?_
   refine zd [12,5] ?_
   refine AnyH.done (by kernel_rfl) ?_
   refine zq [49] ?_
   refine Goes.same (hA0 b3) ⟨rfl, rfl, rfl, rfl, rfl, trivial⟩
  refine Turn.ef rfl rfl (ef_allocK tyZ70 rfl) ?_ ?_
  ·
   rintro _ _ ⟨b4, rfl, rfl⟩; infer_instance
  rintro _ _ ⟨b4, rfl, rfl⟩
  refine AnyH.one 6 (by kernel_rfl) ?_
  refine Turn.ef rfl rfl (ef_callr (sf_get hS so) rfl rfl) ?_ ?_
  ·
   rintro _ _ ⟨rfl, rfl⟩; infer_instance
  rintro _ _ ⟨rfl, rfl⟩
  refine zd [7,1,8,4,9,4] ?_
  refine zK 11 ?_
  refine zd [12,5] ?_
  refine AnyH.done (by kernel_rfl) ?_
  refine zq [49] ?_
  refine Goes.back (hA0 b4) ⟨rfl, rfl, rfl, rfl, rfl, trivial⟩
 intro b3
 dsimp only [List.cons_append, List.nil_append]
 refine zq [3,4,0,30,30,0,6,8,6,8] ?_
 refine zD (tr_mMint n cb (cBlk cb sb tb :: (Ls ++ Lt)) p hH0 hn so de r 0 (dget p.l so).1.guard (dget p.l so).1.bits) ?_
 rintro _ Q1 ⟨rfl, hH2⟩
 refine Ops.app ?_
 skip
 refine zq [1,2,5,10] ?_
 exact zr (L' := Q1) ⟨rfl, hH2⟩
end Go.Proofs.YtipncceiekalfaaGreat
end
section
set_option linter.unusedVariables false
set_option linter.unusedSimpArgs false
namespace Go.Proofs.YtipncceiekalfaaGreat
open Go.SL
theorem tr_index (G : Hp) (a : Option Addr) (c : Nat) (l : List Int) (x : Int) (hv : View G 1 (.slice a l.length c) l.length (intsC l)) (hl : l.length ≤ 2 ^ 40) : TrR Tryz.prog 198 [.slice a l.length c, .int .i64 x] (G) (.int .i64 (idxM l x)) := by
 refine Tr.enter Tryz.func198 rfl Tryz.ntmps198 rfl (fun W F => ?_)
 refine Wp.app ?_
 refine zq [3,4,1,2,5,3,3,4,0] ?_
 refine Ops.pv (pv_len_slice (T := 54) rfl rfl) rfl ?_
 refine zq [0,2,5,20] ?_
 refine Wp.loop (σ := Nat) (fun i => [(0, .slice a l.length c), (1, .int .i64 x), (4, .int .i64 0), (7, .int .i64 l.length), (8, .int .i64 i)]) (fun _ => G ++ F) (fun i => i ≤ l.length ∧ ∀ j, j < i → l[j]? ≠ some x) (fun i => l.length - i) 0 ⟨Nat.zero_le _, fun j hj => absurd hj (Nat.not_lt_zero j)⟩ (by exact ⟨rfl, rfl, rfl, rfl, rfl, trivial⟩) (by intro w ho; exact ho) ?_
 rintro i K ⟨hi, hn⟩ hK
 refine zq [3,4,42,2,5,3] ?_
 refine Wp.cond_dect rfl (fun h1 => ?_) (fun h1 => ?_)
 ·
  obtain ⟨b, o, cap, cc, T, f, hv1, hbv, hr⟩ := hv.open (by omega)
  cases hv1
  obtain ⟨y, hy⟩ : ∃ y, l[i]? = some y := ⟨_, List.getElem?_eq_getElem (by omega)⟩
  have hny := ints_nth hr hy
  refine zq [11,5,3,20,3,4,0,1,2,5,3,4,0,0,0] ?_
  refine Ops.pv (pv_indexAddr (i := i) rfl rfl rfl (by omega)) rfl ?_
  refine Ops.pv (pv_load rfl rfl hny) rfl ?_
  refine zq [22,2,5] ?_
  refine Wp.cond_dect rfl (fun h2 => ?_) (fun h2 => ?_)
  ·
   refine zq [3,4,0,1,2,5,10,15,12,12,15,12] ?_
   exact Ends.ret (res1 rfl rfl) ⟨by rw [idx_hit (i := i) (by rw [hy]; congr 1; omega) hn], rfl⟩
  refine zq [11,19,5,4,52,0,2,49] ?_
  refine Goes.back (hK (i + 1) ⟨by omega, fun j hj => ?_⟩ (by omega)) ⟨rfl, rfl, rfl, rfl, rfl, trivial⟩
  rcases Nat.lt_succ_iff_lt_or_eq.1 hj with hj | rfl
  ·
   exact hn j hj
  rw [hy]; intro e; cases e; omega
 refine zq [41,16,16,40,5,3,4,1,2,5,10] ?_
 exact Ends.ret (res1 rfl rfl) ⟨by rw [idx_miss (fun j hj => hn j (by omega))], rfl⟩
theorem tr_contains (G : Hp) (a : Option Addr) (c : Nat) (l : List Int) (x : Int) (hv : View G 1 (.slice a l.length c) l.length (intsC l)) (hl : l.length ≤ 2 ^ 40) : TrR Tryz.prog 202 [.slice a l.length c, .int .i64 x] (G) (.bool (decide (0 ≤ idxM l x))) := by
 refine Tr.enter Tryz.func202 rfl Tryz.ntmps202 rfl (fun W F => ?_)
 refine Wp.app ?_
 refine zq [3,4,1,2,5,3,4,0,0] ?_
 refine zC (tr_index G a c l x hv hl) ?_
 refine zq [43,1,2,5,10] ?_
 exact zr ⟨rfl, rfl⟩
theorem tr_clone (G : Hp) (a : Option Addr) (c : Nat) (l : List Int) (hv : View G 1 (.slice a l.length c) l.length (intsC l)) (hl : l.length ≤ 2 ^ 40) : Tr Tryz.prog 151 [.slice a l.length c] (G) (fun v L' => ∃ H, Slc 3 1 v l.length (intsC l) H ∧ L' = H ++ G) := by
 refine Tr.enter Tryz.func151 rfl Tryz.ntmps151 rfl (fun W F => ?_)
 refine Wp.app ?_
 refine zq [3,4,1,2,5,3,3,4,0] ?_
 refine Ops.pv (pv_eql_slcnil rfl rfl) rfl ?_
 refine On ?_
 refine Wp.cond_t rfl (fun h1 => ?_) (fun h1 => ?_)
 ·
  obtain rfl := Option.isNone_iff_eq_none.1 h1
  obtain ⟨e0, e1⟩ := view_nil hv
  refine zq [3,4,1,2,5,10,12] ?_
  exact Ends.ret (L' := G) (res1 rfl rfl) ⟨[], by rw [e0, e1]; exact Slc.nil _ _, rfl⟩
 refine zq [11,5,3,4] ?_
 refine Ops.ef rfl (ef_buildSlice0 rfl) ?_
 rintro _ _ ⟨b1, rfl, rfl⟩
 refine zq [0] ?_
 refine Ops.ef rfl (ef_appendV (H := [(b1, .cells ([] : List Value).toArray 3)]) rfl (slc_empty 3 b1) rfl (hv.mono (by intro p hp; simp [hp])) (intsC_one l) (by omega) (by omega) rfl rfl) ?_
 rintro _ _ ⟨v1, H1, hs1, rfl, rfl⟩
 refine Ops.app ?_
 skip
 refine zq [1,2,5,10] ?_
 rw [Nat.zero_add, List.nil_append] at hs1
 exact Ends.ret (L' := H1 ++ G) (res1 rfl rfl) ⟨H1, hs1, rfl⟩
theorem tr_grow (n : Nat) (hn : n ≤ 2 ^ 40) : Tr Tryz.prog 237 [.slice none 0 0, .int .i64 n] ([]) (fun v L' => Slc 3 1 v 0 [] L') := by
 refine Tr.enter Tryz.func237 rfl Tryz.ntmps237 rfl (fun W F => ?_)
 refine Wp.app ?_
 refine zq [3,4,1,2,5,3,3,4,0] ?_
 refine Ops.pv ((pv_lss rfl rfl).fls (by omega)) rfl ?_
 refine zq [2,5,17,11,5,3,3,4,0,0] ?_
 refine Ops.pv (pv_cap_slice (T := 54) rfl rfl) rfl ?_
 refine zq [0] ?_
 refine Ops.pv (pv_len_slice (T := 54) rfl rfl) rfl ?_
 refine Ops.pv (pv_sub rfl rfl (w64 (i := (0 : Int) - 0) (by omega) (by omega))) rfl ?_
 refine Ops.pv (pv_sub rfl rfl (w64n (k := n) (by omega) (by omega))) rfl ?_
 refine zq [1,2,5,3,4,0,44,2,5] ?_
 refine Wp.cond_dect rfl (fun h1 => ?_) (fun h1 => ?_)
 ·
  refine zq [4,0,0] ?_
  refine Ops.pv (pv_cap_slice (T := 54) rfl rfl) rfl ?_
  refine Ops.pv (pv_sliceTo rfl ⟨_, rfl⟩ (Nat.le_refl 0)) rfl ?_
  refine zq [0] ?_
  refine Ops.ef rfl (ef_appendZ (sz := 1) (k := n) rfl rfl (by omega) (by omega) (by omega) rfl rfl (by decide)) ?_
  rintro _ _ ⟨b1, c1, cs1, hc1, hk1, rfl, rfl⟩
  refine zq [0] ?_
  refine Ops.pv (pv_len_slice (T := 54) rfl rfl) rfl ?_
  refine Ops.pv (pv_sliceTo (j := 0) rfl ⟨_, rfl⟩ (Nat.zero_le _)) rfl ?_
  refine zq [1,2,5,3,4,0,1,2,5,10] ?_
  exact zr (L' := [(b1, .cells (cs1 : List Value).toArray 3)]) ⟨rfl, .inr ⟨b1, [], cs1, c1, rfl, Nat.zero_le _, by omega, by simp⟩⟩
 refine zq [11,5,3,4,0,1,2,5,10] ?_
 exact Ends.ret (L' := []) (res1 rfl rfl) (Slc.nil _ _)
theorem tr_concat (G : Hp) (bx cx : Nat) (ss : List SV) (hv : ∀ s, s ∈ ss → View G 1 s.v s.l.length (intsC s.l)) (hl : (catM ss).length ≤ 2 ^ 40) (hs : ss.length ≤ 2 ^ 40) : Tr Tryz.prog 199 [.slice (some ⟨bx, 0, none⟩) ss.length cx] ((bx, .cells (ss.map SV.v).toArray 54) :: G) (fun v L' => ∃ H, Slc 3 1 v (catM ss).length (intsC (catM ss)) H ∧ L' = H ++ ((bx, .cells (ss.map SV.v).toArray 54) :: G)) := by
 refine Tr.enter Tryz.func199 rfl Tryz.ntmps199 rfl (fun W F => ?_)
 refine Wp.app ?_
 refine zq [3,4,1,2,5,3,4,1,2,5,3,3,4,0] ?_
 refine Ops.pv (pv_len_slice (T := 366) rfl rfl) rfl ?_
 refine zq [0,2,5,20] ?_
 refine Wp.loop (σ := Nat) (fun i => [(0, .slice (some ⟨bx, 0, none⟩) ss.length cx), (2, .slice none 0 0), (3, .int .i64 (catUpto ss i).length), (9, .slice (some ⟨bx, 0, none⟩) ss.length cx), (10, .int .i64 ss.length), (11, .int .i64 i)]) (fun _ => (bx, .cells (ss.map SV.v).toArray 54) :: (G ++ F)) (fun i => i ≤ ss.length) (fun i => ss.length - i) 0 (Nat.zero_le _) (by exact ⟨rfl, rfl, rfl, rfl, rfl, rfl, trivial⟩) (by intro w ho; exact ho) ?_
 intro i K hi hK
 refine zq [3,4,42,2,5,3] ?_
 refine Wp.cond_dect rfl (fun h1 => ?_) (fun h1 => ?_)
 ·
  obtain ⟨s, hsi⟩ : ∃ s, ss[i]? = some s := ⟨_, List.getElem?_eq_getElem (by omega)⟩
  have hcs := catUpto_succ hsi
  have hcl := catUpto_len ss (i + 1)
  have hcl2 : (catUpto ss (i + 1)).length = (catUpto ss i).length + s.l.length := by rw [hcs, List.length_append]
  refine zq [11,5,3,20,3,4] ?_
  refine Ops.pv (pv_indexAddr (i := i) rfl rfl rfl (by omega)) rfl ?_
  refine Ops.pv (pv_load rfl rfl (sv_nth hsi)) rfl ?_
  refine zq [1,2,5,3,4,0,0] ?_
  refine Ops.pv (pv_len_slice (T := 54) rfl rfl) rfl ?_
  refine Ops.pv (pv_add rfl rfl (w64n (k := (catUpto ss (i + 1)).length) (by omega) (by omega))) rfl ?_
  refine zq [1,2,5,3,4,0] ?_
  refine Ops.pv ((pv_lss rfl rfl).fls (by omega)) rfl ?_
  refine zq [2,5,17,11,19,5,4,52,0,2,49] ?_
  refine Goes.back (hK (i + 1) (by omega) (by omega)) ⟨rfl, rfl, rfl, rfl, rfl, rfl, trivial⟩
 obtain rfl : i = ss.length := by omega
 have hcall := catUpto_all ss
 refine zq [41,16,16,40,5,3,4,0] ?_
 rw [hcall]
 refine zD (tr_grow (catM ss).length hl) ?_
 rintro _ _ hg1
 refine Ops.app ?_
 skip
 refine zq [1,2,5,3,3,4,0] ?_
 refine Ops.pv (pv_len_slice (T := 366) rfl rfl) rfl ?_
 refine zq [0,2,5,20] ?_
 refine Wp.loop (σ := Nat × Value × Hp) (fun x => [(2, .slice none 0 0), (6, x.2.1), (25, .slice (some ⟨bx, 0, none⟩) ss.length cx), (26, .int .i64 ss.length), (27, .int .i64 x.1)]) (fun x => x.2.2 ++ ((bx, .cells (ss.map SV.v).toArray 54) :: (G ++ F))) (fun x => x.1 ≤ ss.length ∧ Slc 3 1 x.2.1 (catUpto ss x.1).length (intsC (catUpto ss x.1)) x.2.2) (fun x => ss.length - x.1) (0, _, _) ⟨Nat.zero_le _, hg1⟩ (by exact ⟨rfl, rfl, rfl, rfl, rfl, trivial⟩) (by intro w ho; exact ho) ?_
 rintro ⟨i, v, H⟩ K ⟨hi, hs2⟩ hK
 dsimp only at hi hs2 hK ⊢
 refine zq [3,4,42,2,5,3] ?_
 refine Wp.cond_dect rfl (fun h2 => ?_) (fun h2 => ?_)
 ·
  obtain ⟨s, hsi⟩ : ∃ s, ss[i]? = some s := ⟨_, List.getElem?_eq_getElem (by omega)⟩
  have hcs := catUpto_succ hsi
  have hcl := catUpto_len ss (i + 1)
  have hcl2 : (catUpto ss (i + 1)).length = (catUpto ss i).length + s.l.length := by rw [hcs, List.length_append]
  have hvs := hv s (List.mem_of_getElem? hsi)
  refine zq [11,5,3,20,3,4] ?_
  refine Ops.pv (pv_indexAddr (i := i) rfl rfl rfl (by omega)) rfl ?_
  refine Ops.pv (pv_load rfl rfl (sv_nth hsi)) rfl ?_
  refine zq [1,2,5,4,0,0] ?_
  refine Ops.ef rfl (ef_appendV (H := H) rfl hs2 rfl (hvs.mono (by intro p hp; simp [hp])) (intsC_one s.l) (by omega) (by omega) rfl rfl) ?_
  rintro _ _ ⟨v1, H1, hs1, rfl, rfl⟩
  refine Ops.app ?_
  skip
  refine zq [1,2,19,5,4,52,0,2,49] ?_
  refine Goes.back (hK (i + 1, v1, H1) ⟨by dsimp only; omega, ?_⟩ (by dsimp only; omega)) ⟨rfl, rfl, rfl, rfl, rfl, trivial⟩
  dsimp only; rw [hcs, List.length_append, intsC_app]; exact hs1
 obtain rfl : i = ss.length := by omega
 refine zq [41,16,16,40,5,3,4,0,1,2,5,10] ?_
 rw [catUpto_all] at hs2
 exact Ends.ret (L' := H ++ ((bx, .cells (ss.map SV.v).toArray 54) :: G)) (res1 rfl rfl) ⟨H, hs2, rfl⟩
theorem tr_concat2 (G : Hp) (bx cx : Nat) (a1 a2 : Option Addr) (c1 c2 : Nat) (l1 l2 : List Int) (hv1 : View G 1 (.slice a1 l1.length c1) l1.length (intsC l1)) (hv2 : View G 1 (.slice a2 l2.length c2) l2.length (intsC l2)) (hl : (l1 ++ l2).length ≤ 2 ^ 40) :
    Tr Tryz.prog 199 [.slice (some ⟨bx, 0, none⟩) 2 cx] ((bx, .cells [.slice a1 l1.length c1, .slice a2 l2.length c2].toArray 54) :: G) (fun v L' => ∃ H, Slc 3 1 v (l1 ++ l2).length (intsC (l1 ++ l2)) H ∧ L' = H ++ ((bx, .cells [.slice a1 l1.length c1, .slice a2 l2.length c2].toArray 54) :: G)) := by
  have e : catM [⟨a1, c1, l1⟩, ⟨a2, c2, l2⟩] = l1 ++ l2 := by simp [catM]
  have h := tr_concat G bx cx [⟨a1, c1, l1⟩, ⟨a2, c2, l2⟩] (forall_two (p := fun s => View G 1 s.v s.l.length (intsC s.l)) hv1 hv2) (by rw [e]; exact hl) (by simp)
  rw [e] at h
  exact h
end Go.Proofs.YtipncceiekalfaaGreat
end
section
set_option linter.unusedVariables false
set_option linter.unusedSimpArgs false
namespace Go.Proofs.YtipncceiekalfaaGreat
open Go.SL
def rightM (x : Int) : Bool := decide (0 ≤ x) && decide (x < 64)
def pushE (l : List Int) (x : Int) : Int := if rightM x = false then 1 else if 0 ≤ idxM l x then 4 else 0
def pushL (l : List Int) (x : Int) : List Int := if pushE l x = 0 then l ++ [x] else l
def popV (l : List Int) : Int := l.headD 0
def popB (l : List Int) : Bool := !l.isEmpty
def remB (l : List Int) (x : Int) : Bool := decide (0 ≤ idxM l x)
def remL (l : List Int) (x : Int) : List Int := if 0 ≤ idxM l x then l.take (idxM l x).toNat ++ l.drop ((idxM l x).toNat + 1) else l
theorem pushL_ok {l : List Int} {x : Int} (h1 : rightM x = true) (h2 : ¬ 0 ≤ idxM l x) : pushE l x = 0 ∧ pushL l x = l ++ [x] := by
 have : pushE l x = 0 := by unfold pushE; rw [if_neg (by simp [h1]), if_neg h2]
 exact ⟨this, by unfold pushL; rw [if_pos this]⟩
theorem pushL_range {l : List Int} {x : Int} (h1 : rightM x = false) : pushE l x = 1 ∧ pushL l x = l := by
 have : pushE l x = 1 := by unfold pushE; rw [if_pos h1]
 exact ⟨this, by unfold pushL; rw [if_neg (by omega)]⟩
theorem pushL_twice {l : List Int} {x : Int} (h1 : rightM x = true) (h2 : 0 ≤ idxM l x) : pushE l x = 4 ∧ pushL l x = l := by
 have : pushE l x = 4 := by unfold pushE; rw [if_neg (by simp [h1]), if_pos h2]
 exact ⟨this, by unfold pushL; rw [if_neg (by omega)]⟩
end Go.Proofs.YtipncceiekalfaaGreat
end
section
set_option linter.unusedVariables false
set_option linter.unusedSimpArgs false
namespace Go.Proofs.YtipncceiekalfaaGreat
open Go.SL
def bitsN (p : Nat → Bool) : Nat → Nat
  | 0 => 0
  | n + 1 => bitsN p n + if p n then 2 ^ n else 0
theorem bitsN_lt (p : Nat → Bool) : ∀ n, bitsN p n < 2 ^ n
  | 0 => by simp [bitsN]
  | n + 1 => by
    have := bitsN_lt p n
    simp only [bitsN, Nat.pow_succ]; split <;> omega
theorem bitsN_test (p : Nat → Bool) : ∀ n k, (bitsN p n).testBit k = (decide (k < n) && p k)
  | 0, k => by simp [bitsN]
  | n + 1, k => by
    have ih := bitsN_test p n k
    have hl := bitsN_lt p n
    simp only [bitsN]
    by_cases hp : p n
    · rw [if_pos hp, Nat.add_comm]
      by_cases e : k = n
      · subst e; rw [Nat.testBit_two_pow_add_eq, ih]; simp [hp]
      · rcases Nat.lt_or_gt_of_ne e with h | h
        · rw [Nat.testBit_two_pow_add_gt h, ih]; simp [h, Nat.lt_succ_of_lt h]
        · rw [Nat.testBit_lt_two_pow]
          · simp [show ¬ k < n + 1 by omega]
          · have h1 : 2 ^ (n + 1) ≤ 2 ^ k := Nat.pow_le_pow_right (by omega) (by omega)
            rw [Nat.pow_succ] at h1; omega
    · rw [if_neg hp, Nat.add_zero, ih]
      by_cases e : k = n
      · subst e; simp [hp]
      · have : (k < n + 1) ↔ k < n := by omega
        simp [this]
theorem bitsN_congr {p q : Nat → Bool} : ∀ {n}, (∀ k, k < n → p k = q k) → bitsN p n = bitsN q n
  | 0, _ => rfl
  | n + 1, h => by simp only [bitsN]; rw [bitsN_congr (fun k hk => h k (by omega)), h n (by omega)]
theorem bitsN_or {p : Nat → Bool} {k : Nat} (hk : k < 8) : bitsI .or .u64 ((bitsN p 8 : Nat) : Int) ((2 ^ k : Nat) : Int) = ((bitsN (fset p k true) 8 : Nat) : Int) := by
 have h1 := bitsN_lt p 8
 have h2 := bitsN_lt (fset p k true) 8
 have h3 : 2 ^ k < 2 ^ 8 := Nat.pow_lt_pow_right (by omega) hk
 have e : (BitVec.ofInt 64 ((bitsN p 8 : Nat) : Int) ||| BitVec.ofInt 64 ((2 ^ k : Nat) : Int)).toNat = bitsN (fset p k true) 8 := by
  rw [BitVec.ofInt_natCast, BitVec.ofInt_natCast, BitVec.toNat_or, BitVec.toNat_ofNat, BitVec.toNat_ofNat, Nat.mod_eq_of_lt (by omega), Nat.mod_eq_of_lt (by omega)]
  apply Nat.eq_of_testBit_eq
  intro i
  rw [Nat.testBit_or, bitsN_test, bitsN_test, Nat.testBit_two_pow]
  unfold fset
  by_cases e : i = k
  ·
   subst e; simp [hk]
  ·
   simp [e, Ne.symm e]
 show IntKind.u64.wrap ((BitVec.ofInt 64 ((bitsN p 8 : Nat) : Int) ||| BitVec.ofInt 64 ((2 ^ k : Nat) : Int)).toNat : Int) = _
 rw [e]; exact u64n rfl (by omega)
theorem bitsN_andNot {p : Nat → Bool} {k : Nat} (hk : k < 8) : bitsI .andNot .u64 ((bitsN p 8 : Nat) : Int) ((2 ^ k : Nat) : Int) = ((bitsN (fset p k false) 8 : Nat) : Int) := by
 have h1 := bitsN_lt p 8
 have h2 := bitsN_lt (fset p k false) 8
 have h3 : 2 ^ k < 2 ^ 8 := Nat.pow_lt_pow_right (by omega) hk
 have e : (BitVec.ofInt 64 ((bitsN p 8 : Nat) : Int) &&& ~~~ BitVec.ofInt 64 ((2 ^ k : Nat) : Int)).toNat = bitsN (fset p k false) 8 := by
  rw [BitVec.ofInt_natCast, BitVec.ofInt_natCast]
  apply Nat.eq_of_testBit_eq
  intro i
  rw [BitVec.testBit_toNat, BitVec.getLsbD_and, BitVec.getLsbD_not, BitVec.getLsbD_ofNat, BitVec.getLsbD_ofNat, bitsN_test, bitsN_test, Nat.testBit_two_pow]
  unfold fset
  by_cases e : i = k
  ·
   subst e; simp
  ·
   by_cases h : i < 8
   ·
    simp [e, Ne.symm e, h, show i < 64 by omega]
   ·
    simp [h]
 show IntKind.u64.wrap ((BitVec.ofInt 64 ((bitsN p 8 : Nat) : Int) &&& ~~~ BitVec.ofInt 64 ((2 ^ k : Nat) : Int)).toNat : Int) = _
 rw [e]; exact u64n rfl (by omega)
def hiM (p : Nat → Bool) : Nat → Int
  | 0 => -1
  | n + 1 => if p n then n else hiM p n
theorem hiM_congr {p q : Nat → Bool} : ∀ {n}, (∀ k, k < n → p k = q k) → hiM p n = hiM q n
  | 0, _ => rfl
  | n + 1, h => by simp only [hiM]; rw [hiM_congr (fun k hk => h k (by omega)), h n (by omega)]
theorem hiM_cut {p : Nat → Bool} {n : Nat} : ∀ {m}, n ≤ m → (∀ k, n ≤ k → k < m → p k = false) → hiM p m = hiM p n
  | 0, h, _ => by
    have : n = 0 := by omega
    rw [this]
  | m + 1, h, hp => by
    by_cases e : n = m + 1
    · subst e; rfl
    · simp only [hiM]; rw [hp m (by omega) (by omega), if_neg (by simp)]; exact hiM_cut (by omega) (fun k h1 h2 => hp k h1 (by omega))
theorem hiM_some {p : Nat → Bool} : ∀ {n} {k : Nat}, hiM p n = k → k < n ∧ p k = true ∧ ∀ j, k < j → j < n → p j = false
  | 0, k, h => by simp only [hiM] at h; omega
  | n + 1, k, h => by
    simp only [hiM] at h
    split at h
    · obtain rfl : n = k := by omega
      exact ⟨by omega, by assumption, fun j h1 h2 => by omega⟩
    · obtain ⟨h1, h2, h3⟩ := hiM_some h
      refine ⟨by omega, h2, fun j hj hj2 => ?_⟩
      by_cases e : j = n
      · subst e; simp_all
      · exact h3 j hj (by omega)
theorem hiM_bits (p : Nat → Bool) : hiM (fun k => (bitsN p 8).testBit k) 64 = hiM p 8 := by
 rw [hiM_cut (n := 8) (by omega) (fun k h1 h2 => by simp only [bitsN_test]; simp [show ¬ k < 8 by omega])]
 exact hiM_congr (fun k hk => by rw [bitsN_test]; simp [hk])
def oneC (e : Int × Int) : List Value := [.int .i64 e.1, .int .i64 e.2]
instance : Enc oneC 2 := ⟨fun _ => rfl, fun _ => rfl⟩
abbrev Ones := List (Int × Int)
def lvl (L : Ones) (k : Int) : List Int := (L.filter (fun e => decide (e.2 = k))).map (·.1)
def inR (L : Ones) (x : Int) : Bool := decide (x ∈ L.map (·.1))
def putE (L : Ones) (x k : Int) : Int := if (rightM x && decide (0 ≤ k) && decide (k < 8)) = false then 1 else if inR L x then 4 else 0
def putR (L : Ones) (x k : Int) : Ones := if putE L x k = 0 then L ++ [(x, k)] else L
def dropR (L : Ones) (x : Int) : Ones := L.filter (fun e => decide (e.1 ≠ x))
def has (L : Ones) (k : Nat) : Bool := !(lvl L k).isEmpty
abbrev levN (L : Ones) : Nat := bitsN (has L) 8
def nextI (L : Ones) : Int := hiM (has L) 8
def nextV (L : Ones) : Int := if nextI L < 0 then 0 else (lvl L (nextI L)).headD 0
def nextB (L : Ones) : Bool := decide (0 ≤ nextI L)
structure RdyW (L : Ones) : Prop where
  lev : ∀ e, e ∈ L → 0 ≤ e.2 ∧ e.2 < 8
  nd : (L.map (·.1)).Nodup
theorem RdyW.nil : RdyW [] := ⟨fun e h => (List.not_mem_nil h).elim, List.nodup_nil⟩
theorem lvl_len (L : Ones) (k : Int) : (lvl L k).length ≤ L.length := by unfold lvl; rw [List.length_map]; exact List.length_filter_le _ _
theorem lvl_mem {L : Ones} {k x : Int} : x ∈ lvl L k ↔ (x, k) ∈ L := by
 unfold lvl
 simp only [List.mem_map, List.mem_filter, decide_eq_true_eq]
 constructor
 ·
  rintro ⟨⟨a, b⟩, ⟨h1, h2⟩, h3⟩; simp only at h2 h3; subst h2; subst h3; exact h1
 ·
  intro h; exact ⟨(x, k), ⟨h, rfl⟩, rfl⟩
theorem lvl_nd {L : Ones} (h : RdyW L) (k : Int) : (lvl L k).Nodup := h.nd.sublist (List.filter_sublist.map _)
theorem inR_iff {L : Ones} (h : RdyW L) {x : Int} : inR L x = true ↔ ∃ k : Nat, k < 8 ∧ x ∈ lvl L k := by
 unfold inR
 rw [decide_eq_true_eq, List.mem_map]
 constructor
 ·
  rintro ⟨⟨a, b⟩, h1, rfl⟩
  have := h.lev _ h1
  exact ⟨b.toNat, by simp only at this; omega, lvl_mem.2 (by simp only at this ⊢; rw [Int.toNat_of_nonneg this.1]; exact h1)⟩
 ·
  rintro ⟨k, _, hk⟩; exact ⟨_, lvl_mem.1 hk, rfl⟩
theorem inR_false {L : Ones} (h : RdyW L) {x : Int} (hn : ∀ k : Nat, k < 8 → ¬ 0 ≤ idxM (lvl L k) x) : inR L x = false := by
 rw [← Bool.not_eq_true, inR_iff h]
 rintro ⟨k, hk, hm⟩
 exact hn k hk ((idx_mem _ _).2 hm)
theorem inR_true {L : Ones} (h : RdyW L) {x : Int} {k : Nat} (hk : k < 8) (hm : 0 ≤ idxM (lvl L k) x) : inR L x = true :=
  (inR_iff h).2 ⟨k, hk, (idx_mem _ _).1 hm⟩
theorem lvl_put (L : Ones) (x k j : Int) : lvl (L ++ [(x, k)]) j = if j = k then lvl L j ++ [x] else lvl L j := by
 unfold lvl
 rw [List.filter_append]
 by_cases h : j = k
 ·
  subst h; simp
 ·
  simp [h, Ne.symm h]
theorem lvl_drop (L : Ones) (x k : Int) : lvl (dropR L x) k = (lvl L k).filter (fun y => decide (y ≠ x)) := by
 unfold lvl dropR
 rw [List.filter_filter, List.filter_map, List.filter_filter]
 congr 1
 apply List.filter_congr
 intro e _
 exact Bool.and_comm _ _
theorem rem_filter {l : List Int} (hn : l.Nodup) (x : Int) : remL l x = l.filter (fun y => decide (y ≠ x)) := by
 induction l with
 | nil => simp [remL, idxM]
 | cons a l ih =>
  rw [List.nodup_cons] at hn
  by_cases h : a = x
  ·
   subst h
   have e : (l.filter fun y => decide (y ≠ a)) = l := by
    rw [List.filter_eq_self]; intro y hy; simp; rintro rfl; exact hn.1 hy
   rw [List.filter_cons_of_neg (by simp), e]
   simp [remL, idxM]
  ·
   rw [List.filter_cons_of_pos (by simp [h]), ← ih hn.2]
   unfold remL
   simp only [idxM, if_neg h]
   by_cases h2 : idxM l x < 0
   ·
    rw [if_pos h2, if_neg (by omega), if_neg (by omega)]
   ·
    rw [if_neg h2, if_pos (by omega), if_pos (by omega)]
    rw [show (idxM l x + 1).toNat = (idxM l x).toNat + 1 by omega]; simp
theorem rem_lvl {L : Ones} (h : RdyW L) (x k : Int) : remL (lvl L k) x = lvl (dropR L x) k := by rw [lvl_drop, rem_filter (lvl_nd h k)]
theorem drop_none {L : Ones} {x : Int} (h : inR L x = false) : dropR L x = L := by
 unfold dropR; rw [List.filter_eq_self]; intro e he
 have : x ∉ L.map (·.1) := by simpa [inR] using h
 simp; rintro rfl; exact this (List.mem_map.2 ⟨e, he, rfl⟩)
theorem RdyW.drop {L : Ones} (h : RdyW L) (x : Int) : RdyW (dropR L x) :=
  ⟨fun e he => h.lev e (List.mem_filter.1 he).1, h.nd.sublist (List.filter_sublist.map _)⟩
theorem dropR_len (L : Ones) (x : Int) : (dropR L x).length ≤ L.length := List.length_filter_le _ _
theorem putE_zero {L : Ones} {x k : Int} (h : putE L x k = 0) : rightM x = true ∧ 0 ≤ k ∧ k < 8 ∧ inR L x = false := by
 unfold putE at h
 split at h
 ·
  omega
 ·
  split at h
  ·
   omega
  ·
   rename_i h1 h2
   simp at h1 h2
   exact ⟨h1.1, h1.2.1, h1.2.2, h2⟩
theorem putR_ok {L : Ones} {x k : Int} (h : putE L x k = 0) : putR L x k = L ++ [(x, k)] := if_pos h
theorem RdyW.put {L : Ones} (h : RdyW L) (x k : Int) : RdyW (putR L x k) := by
 by_cases e : putE L x k = 0
 ·
  rw [putR_ok e]
  obtain ⟨h1, h2, h3, h4⟩ := putE_zero e
  refine ⟨fun e' he => ?_, ?_⟩
  ·
   rcases List.mem_append.1 he with he | he
   ·
    exact h.lev _ he
   ·
    obtain rfl := List.mem_singleton.1 he; exact ⟨h2, h3⟩
  ·
   rw [List.map_append, List.nodup_append]
   refine ⟨h.nd, by simp, ?_⟩
   intro a ha b hb
   simp at hb
   subst hb
   rintro rfl
   have : a ∉ L.map (·.1) := by simpa [inR] using h4
   exact this ha
 ·
  unfold putR; rw [if_neg e]; exact h
theorem has_put {L : Ones} {x : Int} {k : Nat} (j : Nat) : has (L ++ [(x, (k : Int))]) j = fset (has L) k true j := by
 unfold has fset
 rw [lvl_put]
 by_cases e : j = k
 ·
  subst e; simp
 ·
  rw [if_neg (by omega), if_neg e]
theorem nodup_key {α β : Type} : ∀ {L : List (α × β)} {a : α} {b c : β}, (L.map (·.1)).Nodup → (a, b) ∈ L → (a, c) ∈ L → b = c
  | [], _, _, _, _, h, _ => (List.not_mem_nil h).elim
  | x :: L, a, b, c, hn, h1, h2 => by
    rw [List.map_cons, List.nodup_cons] at hn
    rcases List.mem_cons.1 h1 with e1 | g1 <;> rcases List.mem_cons.1 h2 with e2 | g2
    · rw [← e1] at e2; exact (congrArg Prod.snd e2).symm
    · exact (hn.1 (List.mem_map.2 ⟨(a, c), g2, by rw [← e1]⟩)).elim
    · exact (hn.1 (List.mem_map.2 ⟨(a, b), g1, by rw [← e2]⟩)).elim
    · exact nodup_key hn.2 g1 g2
theorem lvl_drop_ne {L : Ones} (h : RdyW L) {x : Int} {k : Nat} (hk : 0 ≤ idxM (lvl L k) x) (j : Nat) (hj : j ≠ k) : lvl (dropR L x) j = lvl L j := by
 rw [lvl_drop, List.filter_eq_self]
 intro y hy
 have h1 := lvl_mem.1 ((idx_mem _ _).1 hk)
 have h2 := lvl_mem.1 hy
 simp only [decide_eq_true_eq]
 rintro rfl
 have := nodup_key h.nd h1 h2
 omega
theorem has_drop {L : Ones} (h : RdyW L) {x : Int} {k : Nat} (hk : 0 ≤ idxM (lvl L k) x) (j : Nat) : has (dropR L x) j = fset (has L) k (decide (0 < (remL (lvl L k) x).length)) j := by
 unfold fset
 by_cases e : j = k
 ·
  subst e
  rw [if_pos rfl, rem_lvl h]
  unfold has
  cases lvl (dropR L x) j <;> simp
 ·
  rw [if_neg e]; unfold has; rw [lvl_drop_ne h hk j e]
end Go.Proofs.YtipncceiekalfaaGreat
end
section
set_option linter.unusedVariables false
set_option linter.unusedSimpArgs false
namespace Go.Proofs.YtipncceiekalfaaGreat
open Go.SL
theorem set_same {c : List Value} {i : Nat} {v : Value} (h : nth c i = some v) : c.set i v = c := by
 apply List.ext_getElem?
 intro j
 rw [nth_eq] at h
 rw [List.getElem?_set]
 split
 ·
  rename_i e; subst e; rw [h]; simp [(List.getElem?_eq_some_iff.1 h).1]
 rfl
theorem tr_right (x : Int) : TrR Tryz.prog 201 [.int .i64 x] ([]) (.bool (rightM x)) := by
 refine Tr.enter Tryz.func201 rfl Tryz.ntmps201 rfl (fun W F => ?_)
 refine Wp.app ?_
 refine zq [3,4,1,2,5,3,4,0,43,0] ?_
 refine Ops.split (t := 5) rfl (fun h1 => ?_) (fun h1 => ?_)
 ·
  refine zq [21] ?_
  refine Ops.pvg ⟨_, _, rfl, rfl, rfl⟩ (pv_lss rfl rfl) rfl ?_
  refine zq [24,1,2,5,10] ?_
  exact Ends.ret (res1 rfl rfl) ⟨by simp only [rightM]; simp [*], rfl⟩
 refine zq [13,13,26,1,2,5,10] ?_
 exact Ends.ret (res1 rfl rfl) ⟨by simp only [rightM]; simp [*], rfl⟩
theorem tr_lpushG (lb off TT : Nat) (c0 : List Value) (v : Value) (H : Hp) (l : List Int) (x : Int) (hs : Slc 3 1 v l.length (intsC l) H) (hl : l.length ≤ 2 ^ 30) (hc0 : nth c0 off = some v) : Tr Tryz.prog 158 [.pointer (some ⟨lb, off, none⟩), .int .i64 x] ((lb, .cells c0.toArray TT) :: H) (fun u L' => u = .int .i64 (pushE l x) ∧ ∃ v' H', Slc 3 1 v' (pushL l x).length (intsC (pushL l x)) H' ∧ L' = (lb, .cells (c0.set off (v') : List Value).toArray TT) :: H') := by
 obtain ⟨a, c, rfl⟩ := hs.form
 have hv := hs.view
 have hset : ∀ v', SetL c0 (off + 0) [v'] (c0.set off v') := fun v' => SetL.set1 (by rw [nth_eq] at hc0; exact (List.getElem?_eq_some_iff.1 hc0).1)
 have hset0 : c0.set off (.slice a l.length c) = c0 := set_same hc0
 refine Tr.enter Tryz.func158 rfl Tryz.ntmps158 rfl (fun W F => ?_)
 refine Wp.app ?_
 refine zq [3,4,1,2,5,3,20,3,4,0] ?_
 refine zC (tr_right x) ?_
 refine zq [39,1,2,5] ?_
 refine Wp.cond_t rfl (fun h1 => ?_) (fun h1 => ?_)
 ·
  refine zq [3,4,1,2,5,10,15,12] ?_
  exact Ends.ret (L' := (lb, .cells c0.toArray TT) :: H) (res1 rfl rfl) ⟨by rw [(pushL_range (by simpa using h1)).1], _, H, by rw [(pushL_range (l := l) (by simpa using h1)).2]; exact hs, by rw [hset0]⟩
 refine zq [3,4,0,9,61] ?_
 refine Ops.pv (pv_load rfl rfl (by assumption)) rfl ?_
 refine zq [0] ?_
 refine zC (tr_contains H a c l x hv (by omega)) ?_
 refine zq [1,2,5] ?_
 refine Wp.cond_dect rfl (fun h2 => ?_) (fun h2 => ?_)
 ·
  refine zq [3,4,1,2,5,10,15,12] ?_
  exact Ends.ret (L' := (lb, .cells c0.toArray TT) :: H) (res1 rfl rfl) ⟨by rw [(pushL_twice (by simpa using h1) h2).1], _, H, by rw [(pushL_twice (by simpa using h1) h2).2]; exact hs, by rw [hset0]⟩
 refine zq [11,19,5,3,4,0,0,9,61] ?_
 refine Ops.pv (pv_load rfl rfl (by assumption)) rfl ?_
 refine zq [0] ?_
 refine Ops.ef rfl (ef_buildSlice1 (k := 1) rfl rfl rfl rfl rfl) ?_
 rintro _ _ ⟨b1, rfl, rfl⟩
 refine Ops.ef rfl (ef_append (H := H) (xs := [.int .i64 x]) rfl hs rfl ⟨rfl, trivial⟩ rfl rfl rfl (by omega) (by omega) rfl rfl) ?_
 rintro _ _ ⟨v1, H1, hs1, rfl, rfl⟩
 refine Ops.app ?_
 have ho1 := hs1.one
 have ho2 := hs1.cells1
 refine zq [9,61,25,2,5,3,4,1,2,5,10] ?_
 rw [show l.length + 1 = (pushL l x).length by rw [(pushL_ok (by simpa using h1) h2).2]; simp, show intsC l ++ [.int .i64 x] = intsC (pushL l x) by rw [(pushL_ok (by simpa using h1) h2).2, intsC_app]; rfl] at hs1
 exact Ends.ret (L' := (lb, .cells (c0.set off (v1) : List Value).toArray TT) :: H1) (res1 rfl rfl) ⟨by rw [(pushL_ok (by simpa using h1) h2).1], v1, H1, hs1, rfl⟩
theorem tr_lpopG (lb off TT : Nat) (c0 : List Value) (v : Value) (H : Hp) (l : List Int) (hs : Slc 3 1 v l.length (intsC l) H) (hl : l.length ≤ 2 ^ 30) (hc0 : nth c0 off = some v) : Tr Tryz.prog 222 [.pointer (some ⟨lb, off, none⟩)] ((lb, .cells c0.toArray TT) :: H) (fun u L' => u = .tuple #[.int .i64 (popV l), .bool (popB l)] ∧ ∃ v' H', Slc 3 1 v' (l.tail).length (intsC (l.tail)) H' ∧ L' = (lb, .cells (c0.set off (v') : List Value).toArray TT) :: H') := by
 obtain ⟨a, c, rfl⟩ := hs.form
 have hv := hs.view
 have hset : ∀ v', SetL c0 (off + 0) [v'] (c0.set off v') := fun v' => SetL.set1 (by rw [nth_eq] at hc0; exact (List.getElem?_eq_some_iff.1 hc0).1)
 have hset0 : c0.set off (.slice a l.length c) = c0 := set_same hc0
 refine Tr.enter Tryz.func222 rfl Tryz.ntmps222 rfl (fun W F => ?_)
 refine Wp.app ?_
 refine zq [3,4,1,1,2,5,3,3,4,0,9,61] ?_
 refine Ops.pv (pv_load rfl rfl (by assumption)) rfl ?_
 refine Ops.pv (pv_len_slice (T := 54) rfl rfl) rfl ?_
 refine zq [22,2,5] ?_
 refine Wp.cond_dect rfl (fun h1 => ?_) (fun h1 => ?_)
 ·
  obtain rfl : l = [] := List.eq_nil_of_length_eq_zero (by omega)
  refine zq [3,4,1,1,2,5,10,12] ?_
  exact zr (L' := (lb, .cells c0.toArray TT) :: H) ⟨rfl, _, H, hs, by rw [hset0]⟩
 obtain ⟨y, t, rfl⟩ : ∃ y t, l = y :: t := by cases l with | nil => exact absurd rfl h1 | cons y t => exact ⟨y, t, rfl⟩
 obtain ⟨b, o, cap, cc, T, f, hv1, hbv, hr⟩ := hv.open (by simp)
 cases hv1
 have hny := ints_nth (i := 0) hr rfl
 refine zq [11,5,3,4,0,9,61] ?_
 refine Ops.pv (pv_load rfl rfl (by assumption)) rfl ?_
 refine Ops.pv (pv_indexAddr (i := 0) rfl rfl rfl (by simp)) rfl ?_
 refine Ops.pv (pv_load rfl rfl hny) rfl ?_
 refine zq [1,2,5,3,4,0,0,9,61] ?_
 refine Ops.pv (pv_load rfl rfl (by assumption)) rfl ?_
 refine Ops.pv (pv_slice (i := 1) (j := t.length + 1) rfl ⟨_, rfl⟩ rfl (by omega) (by have := hv.2; obtain ⟨_, _, e, h, _⟩ := this; cases e; exact h)) rfl ?_
 refine zq [9,61,25,2,5,3,4,0,1,1,2,5,10] ?_
 exact zr (L' := (lb, .cells (c0.set off (.slice (if c = 1 then some ⟨b, o, none⟩ else (some ⟨b, o, none⟩ : Option Addr).map (·.add (1 * 1))) (t.length + 1 - 1) (c - 1)) : List Value).toArray TT) :: H) ⟨rfl, _, H, hs.tail, rfl⟩
theorem tr_lremoveG (lb off TT : Nat) (c0 : List Value) (v : Value) (H : Hp) (l : List Int) (x : Int) (hs : Slc 3 1 v l.length (intsC l) H) (hl : l.length ≤ 2 ^ 30) (hc0 : nth c0 off = some v) : Tr Tryz.prog 149 [.pointer (some ⟨lb, off, none⟩), .int .i64 x] ((lb, .cells c0.toArray TT) :: H) (fun u L' => u = .bool (remB l x) ∧ ∃ v' H', Slc 3 1 v' (remL l x).length (intsC (remL l x)) H' ∧ L' = (lb, .cells (c0.set off (v') : List Value).toArray TT) :: H') := by
 obtain ⟨a, c, rfl⟩ := hs.form
 have hv := hs.view
 have hset : ∀ v', SetL c0 (off + 0) [v'] (c0.set off v') := fun v' => SetL.set1 (by rw [nth_eq] at hc0; exact (List.getElem?_eq_some_iff.1 hc0).1)
 have hset0 : c0.set off (.slice a l.length c) = c0 := set_same hc0
 have hlc : l.length ≤ c := by obtain ⟨_, _, _, e, h, _⟩ := hv; cases e; exact h
 refine Tr.enter Tryz.func149 rfl Tryz.ntmps149 rfl (fun W F => ?_)
 refine Wp.app ?_
 refine zq [3,4,1,2,5,3,4,0,9,61] ?_
 refine Ops.pv (pv_load rfl rfl (by assumption)) rfl ?_
 refine zq [0] ?_
 refine zC (tr_index H a c l x hv (by omega)) ?_
 refine zq [1,2,5,3,3,4,0,42,2,5] ?_
 refine Wp.cond_dect rfl (fun h1 => ?_) (fun h1 => ?_)
 ·
  refine zq [3,4,1,2,5,10,12] ?_
  exact Ends.ret (L' := (lb, .cells c0.toArray TT) :: H) (res1 rfl rfl) ⟨by rw [show remB l x = false from decide_eq_false (by omega)], _, H, by rw [show remL l x = l from if_neg (by omega)]; exact hs, by rw [hset0]⟩
 obtain ⟨i, hi⟩ : ∃ i : Nat, idxM l x = i := ⟨(idxM l x).toNat, by omega⟩
 have hil : i < l.length := by have := idx_lt l x; omega
 rw [hi]
 have hA := view_part hv (i := 0) (j := i) (Nat.zero_le _) (by omega)
 have hB := view_part hv (i := i + 1) (j := l.length) (by omega) (Nat.le_refl _)
 have eA : (l.drop 0).take (i - 0) = l.take i := by simp
 have eB : (l.drop (i + 1)).take (l.length - (i + 1)) = l.drop (i + 1) := List.take_of_length_le (by simp)
 have lA := part_len (l := l) (i := 0) (j := i) (Nat.zero_le _) (by omega)
 have lB := part_len (l := l) (i := i + 1) (j := l.length) (by omega) (Nat.le_refl _)
 rw [eA] at hA lA
 rw [eB] at hB lB
 have hrem : remL l x = l.take i ++ l.drop (i + 1) := by unfold remL; rw [if_pos (by omega), hi, Int.toNat_natCast]
 have hrb : remB l x = true := decide_eq_true (by omega)
 refine zq [11,5,3] ?_
 refine AnyH.start H 19 rfl ?_
 refine zd [0,1,1,1,2,3,3,6,5,1,7,1,8,3,9,6,11,1] ?_
 refine Tk 12 rfl rfl (pv_add rfl rfl (w64n (k := i + 1) (by omega) (by omega))) rfl ?_
 refine AnyH.two 4 10 (by kernel_rfl) ?_ ?_
 ·
  refine Turn.ef rfl rfl (ef_pv (pv_load rfl rfl (by assumption)) rfl) ?_ ?_
  ·
   rintro _ _ ⟨rfl, rfl⟩; infer_instance
  rintro _ _ ⟨rfl, rfl⟩
  refine Tk 6 rfl rfl (pv_sliceL (i := 0) (j := i) rfl rfl ⟨_, rfl⟩ (Nat.zero_le _) (by omega) lA.symm) rfl ?_
  refine AnyH.one 10 (by kernel_rfl) ?_
  refine Turn.ef rfl rfl (ef_pv (pv_load rfl rfl (by assumption)) rfl) ?_ ?_
  ·
   rintro _ _ ⟨rfl, rfl⟩; infer_instance
  rintro _ _ ⟨rfl, rfl⟩
  refine Tk 13 rfl rfl (pv_sliceL (i := i + 1) (j := l.length) rfl ⟨_, rfl⟩ rfl (by omega) hlc lB.symm) rfl ?_
  refine AnyH.one 14 (by kernel_rfl) ?_
  refine Turn.ef rfl rfl (ef_buildSlice2 rfl rfl rfl rfl rfl rfl) ?_ ?_
  ·
   rintro _ _ ⟨b1, rfl, rfl⟩; infer_instance
  rintro _ _ ⟨b1, rfl, rfl⟩
  refine AnyH.one 15 (by kernel_rfl) ?_
  refine Turn.ef rfl rfl (ef_call (tr_concat2 H b1 2 (if c = 0 then a else a.map (·.add (0 * 1))) (if c = i + 1 then a else a.map (·.add ((i + 1) * 1))) (c - 0) (c - (i + 1)) (l.take i) (l.drop (i + 1)) hA hB (by simp; omega)) rfl rfl) ?_ ?_
  ·
   rintro _ _ ⟨_, _, ⟨H1, hs1, rfl⟩, rfl, rfl⟩; infer_instance
  rintro _ _ ⟨_, _, ⟨H1, hs1, rfl⟩, rfl, rfl⟩
  refine AnyH.app ?_
  have ho1 := hs1.one
  have ho2 := hs1.cells1
  refine zd [16,3,17,6] ?_
  refine z1 18 ?_
  refine AnyH.done (by kernel_rfl) ?_
  refine zq [5,3,4,1,2,5,10] ?_
  rw [← hrem] at hs1
  exact Ends.ret (L' := (lb, .cells (c0.set off _ : List Value).toArray TT) :: H1) (res1 rfl rfl) ⟨by rw [hrb], _, H1, hs1, rfl⟩
 refine Turn.ef rfl rfl (ef_pv (pv_load rfl rfl (by assumption)) rfl) ?_ ?_
 ·
  rintro _ _ ⟨rfl, rfl⟩; infer_instance
 rintro _ _ ⟨rfl, rfl⟩
 refine Tk 13 rfl rfl (pv_sliceL (i := i + 1) (j := l.length) rfl ⟨_, rfl⟩ rfl (by omega) hlc lB.symm) rfl ?_
 refine AnyH.one 4 (by kernel_rfl) ?_
 refine Turn.ef rfl rfl (ef_pv (pv_load rfl rfl (by assumption)) rfl) ?_ ?_
 ·
  rintro _ _ ⟨rfl, rfl⟩; infer_instance
 rintro _ _ ⟨rfl, rfl⟩
 refine Tk 6 rfl rfl (pv_sliceL (i := 0) (j := i) rfl rfl ⟨_, rfl⟩ (Nat.zero_le _) (by omega) lA.symm) rfl ?_
 refine AnyH.one 14 (by kernel_rfl) ?_
 refine Turn.ef rfl rfl (ef_buildSlice2 rfl rfl rfl rfl rfl rfl) ?_ ?_
 ·
  rintro _ _ ⟨b2, rfl, rfl⟩; infer_instance
 rintro _ _ ⟨b2, rfl, rfl⟩
 refine AnyH.one 15 (by kernel_rfl) ?_
 refine Turn.ef rfl rfl (ef_call (tr_concat2 H b2 2 (if c = 0 then a else a.map (·.add (0 * 1))) (if c = i + 1 then a else a.map (·.add ((i + 1) * 1))) (c - 0) (c - (i + 1)) (l.take i) (l.drop (i + 1)) hA hB (by simp; omega)) rfl rfl) ?_ ?_
 ·
  rintro _ _ ⟨_, _, ⟨H2, hs2, rfl⟩, rfl, rfl⟩; infer_instance
 rintro _ _ ⟨_, _, ⟨H2, hs2, rfl⟩, rfl, rfl⟩
 refine AnyH.app ?_
 have ho1 := hs2.one
 have ho2 := hs2.cells1
 refine zd [16,3,17,6] ?_
 refine z1 18 ?_
 refine AnyH.done (by kernel_rfl) ?_
 refine zq [5,3,4,1,2,5,10] ?_
 rw [← hrem] at hs2
 exact Ends.ret (L' := (lb, .cells (c0.set off _ : List Value).toArray TT) :: H2) (res1 rfl rfl) ⟨by rw [hrb], _, H2, hs2, rfl⟩
theorem tr_lpush (lb : Nat) (v : Value) (H : Hp) (l : List Int) (x : Int) (hs : Slc 3 1 v l.length (intsC l) H) (hl : l.length ≤ 2 ^ 30) : Tr Tryz.prog 158 [.pointer (some ⟨lb, 0, none⟩), .int .i64 x] ((lb, .cells [v].toArray 241) :: H) (fun u L' => u = .int .i64 (pushE l x) ∧ ∃ v' H', Slc 3 1 v' (pushL l x).length (intsC (pushL l x)) H' ∧ L' = (lb, .cells [v'].toArray 241) :: H') :=
  tr_lpushG lb 0 241 [v] v H l x hs hl rfl
theorem tr_lpop (lb : Nat) (v : Value) (H : Hp) (l : List Int) (hs : Slc 3 1 v l.length (intsC l) H) (hl : l.length ≤ 2 ^ 30) : Tr Tryz.prog 222 [.pointer (some ⟨lb, 0, none⟩)] ((lb, .cells [v].toArray 241) :: H) (fun u L' => u = .tuple #[.int .i64 (popV l), .bool (popB l)] ∧ ∃ v' H', Slc 3 1 v' (l.tail).length (intsC (l.tail)) H' ∧ L' = (lb, .cells [v'].toArray 241) :: H') :=
  tr_lpopG lb 0 241 [v] v H l hs hl rfl
theorem tr_lremove (lb : Nat) (v : Value) (H : Hp) (l : List Int) (x : Int) (hs : Slc 3 1 v l.length (intsC l) H) (hl : l.length ≤ 2 ^ 30) : Tr Tryz.prog 149 [.pointer (some ⟨lb, 0, none⟩), .int .i64 x] ((lb, .cells [v].toArray 241) :: H) (fun u L' => u = .bool (remB l x) ∧ ∃ v' H', Slc 3 1 v' (remL l x).length (intsC (remL l x)) H' ∧ L' = (lb, .cells [v'].toArray 241) :: H') :=
  tr_lremoveG lb 0 241 [v] v H l x hs hl rfl
theorem tr_listG (lb off TT : Nat) (c0 : List Value) (G : Hp) (a : Option Addr) (c : Nat) (l : List Int) (hv : View G 1 (.slice a l.length c) l.length (intsC l)) (hl : l.length ≤ 2 ^ 30) (hc0 : nth c0 off = some (.slice a l.length c)) : Tr Tryz.prog 91 [.pointer (some ⟨lb, off, none⟩)] ((lb, .cells c0.toArray TT) :: G) (fun u L' => ∃ H', Slc 3 1 u l.length (intsC l) H' ∧ L' = H' ++ ((lb, .cells c0.toArray TT) :: G)) := by
 refine Tr.enter Tryz.func91 rfl Tryz.ntmps91 rfl (fun W F => ?_)
 refine Wp.app ?_
 refine zq [3,4,1,2,5,3,4,0,9,61] ?_
 refine Ops.pv (pv_load rfl rfl (by assumption)) rfl ?_
 refine zD (tr_clone G a c l hv (by omega)) ?_
 rintro _ _ ⟨H1, hs1, rfl⟩
 refine Ops.app ?_
 skip
 refine zq [1,2,5,10] ?_
 exact Ends.ret (L' := H1 ++ ((lb, .cells c0.toArray TT) :: G)) (res1 rfl rfl) ⟨H1, hs1, rfl⟩
theorem tr_list (lb : Nat) (v : Value) (H : Hp) (l : List Int) (hs : Slc 3 1 v l.length (intsC l) H) (hl : l.length ≤ 2 ^ 30) : Tr Tryz.prog 91 [.pointer (some ⟨lb, 0, none⟩)] ((lb, .cells [v].toArray 241) :: H) (fun u L' => ∃ H', Slc 3 1 u l.length (intsC l) H' ∧ L' = H' ++ ((lb, .cells [v].toArray 241) :: H)) := by
 obtain ⟨a, c, rfl⟩ := hs.form
 exact tr_listG lb 0 241 [.slice a l.length c] H a c l hs.view hl rfl
end Go.Proofs.YtipncceiekalfaaGreat
end
section
set_option linter.unusedVariables false
set_option linter.unusedSimpArgs false
namespace Go.Proofs.YtipncceiekalfaaGreat
open Go.SL
def rdyC (vs : Nat → Value) (w : Nat) : List Value := (List.range 8).map vs ++ [.int .u64 (w : Int)]
theorem rdy_line {vs : Nat → Value} {w k : Nat} (hk : k < 8) : nth (rdyC vs w) (0 + k * 1) = some (vs k) := by
 rw [nth_eq, Nat.zero_add, Nat.mul_one]
 unfold rdyC
 rw [List.getElem?_append_left (by simp [hk]), List.getElem?_map, List.getElem?_range hk]; rfl
theorem rdy_set {vs : Nat → Value} {w k : Nat} {v : Value} (hk : k < 8) : (rdyC vs w).set (0 + k * 1) v = rdyC (fset vs k v) w := by
 rw [Nat.zero_add, Nat.mul_one]
 unfold rdyC
 rw [List.set_append_left _ _ (by simp [hk])]
 congr 1
 apply List.ext_getElem?
 intro j
 rw [List.getElem?_set, List.getElem?_map, List.getElem?_map, List.length_map, List.length_range]
 by_cases e : k = j
 ·
  subst e; rw [if_pos rfl, if_pos hk, List.getElem?_range hk, Option.map_some, fset_same]
 ·
  rw [if_neg e]
  by_cases h : j < 8
  ·
   rw [List.getElem?_range h, Option.map_some, Option.map_some, fset_ne (Ne.symm e)]
  ·
   rw [List.getElem?_eq_none (by simpa using h)]; rfl
theorem rdy_lev {vs : Nat → Value} {w : Nat} : nth (rdyC vs w) 8 = some (.int .u64 (w : Int)) := rfl
instance rdy_setL {vs : Nat → Value} {w w' : Nat} : SetL (rdyC vs w) 8 [.int .u64 (w' : Int)] (rdyC vs w') := by
  have h := SetL.set1 (l := rdyC vs w) (i := 8) (v := .int .u64 (w' : Int)) (by simp [rdyC])
  have e : (rdyC vs w).set 8 (.int .u64 (w' : Int)) = rdyC vs w' := by
    unfold rdyC; rw [List.set_append_right _ _ (by simp)]; rfl
  rw [e] at h; exact h
def RdyS (ls : Nat → List Int) (vs : Nat → Value) (h : Nat → Hp) : Prop := ∀ k, k < 8 → Slc 3 1 (vs k) (ls k).length (intsC (ls k)) (h k)
def RdyH (L : Ones) (rb : Nat) (H : Hp) : Prop := ∃ vs h, RdyS (fun k => lvl L k) vs h ∧ H = (rb, .cells (rdyC vs (levN L)).toArray 244) :: segs h 8
theorem RdyS.set {ls ls' : Nat → List Int} {vs : Nat → Value} {h : Nat → Hp} {k : Nat} {v : Value} {H : Hp} {l : List Int} (hs : RdyS ls vs h) (hv : Slc 3 1 v l.length (intsC l) H) (h1 : l = ls' k) (h2 : ∀ j, j ≠ k → ls' j = ls j) :
    RdyS ls' (fset vs k v) (fset h k H) := fun j hj => by
  by_cases e : j = k
  · subst e; rw [fset_same, fset_same, ← h1]; exact hv
  · rw [fset_ne e, fset_ne e, h2 j e]; exact hs j hj
theorem RdyS.view {ls : Nat → List Int} {vs : Nat → Value} {h : Nat → Hp} (hs : RdyS ls vs h) {k : Nat} (hk : k < 8) (w : Nat) : ∃ a c, vs k = .slice a (ls k).length c ∧ View (segs h 8) 1 (.slice a (ls k).length c) (ls k).length (intsC (ls k)) ∧ nth (rdyC vs w) (0 + k * 1) = some (.slice a (ls k).length c) := by
 obtain ⟨a, c, e⟩ := (hs k hk).form
 have h1 := (hs k hk).view
 have h2 := rdy_line (vs := vs) (w := w) hk
 rw [e] at h1 h2
 exact ⟨a, c, e, h1.mono (fun p hp => segs_mem hk hp), h2⟩
theorem put_all {L : Ones} (hW : RdyW L) {x : Int} {k : Nat} (h1 : rightM x = true) (hk : k < 8) (hn : ∀ j : Nat, j < 8 → ¬ 0 ≤ idxM (lvl L j) x) :
    pushE (lvl L k) x = putE L x k ∧ pushL (lvl L k) x = lvl (putR L x k) k ∧ (∀ j : Nat, j ≠ k → lvl (putR L x k) j = lvl L j) ∧
    bitsN (fset (has L) k (decide (0 < (pushL (lvl L k) x).length))) 8 = levN (putR L x k) := by
  obtain ⟨e1, e2⟩ := pushL_ok h1 (hn k hk)
  have hf := inR_false hW hn
  have e3 : putE L x k = 0 := by
    unfold putE; rw [if_neg (by simp [h1]; omega), hf]; rfl
  rw [e1, e2, e3, putR_ok e3]
  refine ⟨rfl, by rw [lvl_put, if_pos rfl], fun j hj => by rw [lvl_put, if_neg (by omega)], ?_⟩
  apply bitsN_congr
  intro j hj
  rw [has_put]; simp
theorem put_out {L : Ones} {x k : Int} (h : rightM x = false ∨ k < 0 ∨ 8 ≤ k) : putE L x k = 1 ∧ putR L x k = L := by
 have e : putE L x k = 1 := by
  unfold putE; rw [if_pos]; rcases h with h | h | h
  ·
   simp [h]
  ·
   simp; intro _ _; omega
  ·
   simp; intro _ _; omega
 exact ⟨e, by unfold putR; rw [if_neg (by omega)]⟩
theorem put_twice {L : Ones} {x k : Int} (h1 : rightM x = true) (h2 : 0 ≤ k) (h3 : k < 8) (h4 : inR L x = true) : putE L x k = 4 ∧ putR L x k = L := by
 have e : putE L x k = 4 := by unfold putE; rw [if_neg (by simp [h1, h2, h3]), if_pos h4]
 exact ⟨e, by unfold putR; rw [if_neg (by omega)]⟩
theorem lvl_out {L : Ones} (hW : RdyW L) {k : Int} (h : k < 0 ∨ 8 ≤ k) : lvl L k = [] := by
 apply List.eq_nil_iff_forall_not_mem.2
 intro x hx
 have := hW.lev _ (lvl_mem.1 hx)
 simp only at this; omega
theorem next_some {L : Ones} {k : Nat} (h : nextI L = k) : k < 8 ∧ ∃ y t, lvl L k = y :: t := by
 obtain ⟨h1, h2, _⟩ := hiM_some h
 refine ⟨h1, ?_⟩
 unfold has at h2
 cases e : lvl L k with
 | nil => rw [e] at h2; simp at h2
 | cons y t => exact ⟨y, t, rfl⟩
theorem drop_all {L : Ones} (hW : RdyW L) {x : Int} {k : Nat} (hk : k < 8) (h : 0 ≤ idxM (lvl L k) x) :
    inR L x = true ∧ remL (lvl L k) x = lvl (dropR L x) k ∧ (∀ j : Nat, j ≠ k → lvl (dropR L x) j = lvl L j) ∧ bitsN (fset (has L) k (decide (0 < (remL (lvl L k) x).length))) 8 = levN (dropR L x) :=
  ⟨inR_true hW hk h, rem_lvl hW x k, lvl_drop_ne hW h, bitsN_congr fun j _ => (has_drop hW h j).symm⟩
theorem rem_same {l : List Int} {x : Int} (h : remB l x = false) : remL l x = l := by
 have : ¬ 0 ≤ idxM l x := by simpa [remB] using h
 exact if_neg this
theorem levN_nil : levN [] = 0 := by decide
def DRdyH (L : Ones) (qb : Nat) (H : Hp) : Prop := ∃ v K, Slc 99999 2 v L.length (cel oneC L) K ∧ H = (qb, .cells [v].toArray 99999) :: K
theorem one_read {cc : List Value} {o i : Nat} {L : Ones} {e : Int × Int} (hr : Reads cc o (cel oneC L)) (h : L[i]? = some e) : nth cc (o + i * 2 + 0) = some (.int .i64 e.1) ∧ nth cc (o + i * 2 + 1) = some (.int .i64 e.2) := by
 obtain ⟨h1, h2, _⟩ := cel_reads hr h
 exact ⟨h1, h2⟩
end Go.Proofs.YtipncceiekalfaaGreat
end
section
set_option linter.unusedVariables false
set_option linter.unusedSimpArgs false
namespace Go.Proofs.YtipncceiekalfaaGreat
open Go.SL
theorem tr_high (w : Nat) (hw : w < 2 ^ 64) : TrR Tryz.prog 134 [.int .u64 w] ([]) (.int .i64 (hiM (fun k => w.testBit k) 64)) := by
 refine Tr.enter Tryz.func134 rfl Tryz.ntmps134 rfl (fun W F => ?_)
 refine Wp.app ?_
 refine zq [3,4,1,2,5,3,3,4,0,2,5,20] ?_
 refine Wp.loopK (σ := Nat) [(0, _)] (fun s => [(4, .int .i64 s)]) (fun s => F) (fun s => s ≤ 64 ∧ hiM (fun k => w.testBit k) 64 = hiM (fun k => w.testBit k) (64 - s)) (fun s => 64 - s) 0 ⟨Nat.zero_le _, rfl⟩ ⟨rfl, trivial⟩ ⟨rfl, trivial⟩ (by intro w ho; (try dsimp only [List.nil_append, List.cons_append]); exact Drop.own ho) ?_
 rintro i KK ⟨hi, hh⟩ hK
 dsimp only [List.cons_append, List.nil_append] at hK ⊢
 refine zq [3,4,42,2,5,3] ?_
 refine Wp.cond_dect rfl (fun h1 => ?_) (fun h1 => ?_)
 ·
  refine zq [11,5,3,20,3,4,0,1,2,5,3,4,0,0] ?_
  refine Ops.pv (pv_sub rfl rfl (w64n (k := 63 - i) (by omega) (by omega))) rfl ?_
  refine Ops.pv (pv_shr rfl rfl (by omega) (shrn (by omega))) rfl ?_
  refine Ops.pv (pv_and rfl rfl (and_mask (w / 2 ^ (63 - i)) 1 (Nat.lt_of_le_of_lt (Nat.div_le_self _ _) hw) (by omega))) rfl ?_
  refine zq [22,2,5] ?_
  refine Wp.cond_dect rfl (fun h2 => ?_) (fun h2 => ?_)
  ·
   refine zq [3,4,0] ?_
   refine Ops.pv (pv_sub rfl rfl (w64n (k := 63 - i) (by omega) (by omega))) rfl ?_
   refine zq [1,2,5,10,15,12,12,15,12] ?_
   have hb : w.testBit (63 - i) = true := by
    rw [Nat.testBit_eq_decide_div_mod_eq]; simp; omega
   have h5 : hiM (fun k => w.testBit k) (64 - i) = ((63 - i : Nat) : Int) := by
    rw [show 64 - i = (63 - i) + 1 by omega]; simp only [hiM]; rw [if_pos hb]
   rw [h5] at hh
   exact Ends.ret (res1 rfl rfl) ⟨by rw [hh], rfl⟩
  refine zq [11,19,5,4,52,0,2,49] ?_
  refine Goes.back (hK (i + 1) ⟨by omega, by
    have hb : w.testBit (63 - i) = false := by
     rw [Nat.testBit_eq_decide_div_mod_eq]; simp; omega
    rw [hh, show 64 - i = (63 - i) + 1 by omega]
    simp only [hiM]; rw [if_neg (by rw [hb]; simp), show 64 - (i + 1) = 63 - i by omega]⟩ (by omega)) ⟨rfl, rfl, trivial⟩
 refine zq [41,16,16,40,5,3,4,1,2,5,10] ?_
 obtain rfl : i = 64 := by omega
 exact Ends.ret (res1 rfl rfl) ⟨by rw [hh, Nat.sub_self]; rfl, rfl⟩
theorem tr_highB (p : Nat → Bool) : TrR Tryz.prog 134 [.int .u64 (bitsN p 8 : Nat)] [] (.int .i64 (hiM p 8)) :=
  (tr_high (bitsN p 8) (Nat.lt_of_lt_of_le (bitsN_lt p 8) (by decide))).eq (by rw [hiM_bits])
theorem tr_note (rb : Nat) (vs : Nat → Value) (p : Nat → Bool) (k : Nat) (hk : k < 8) (a : Option Addr) (n c : Nat) (hv : vs k = .slice a n c) : Tr Tryz.prog 204 [.pointer (some ⟨rb, 0, none⟩), .int .i64 k] ([(rb, .cells (rdyC vs (bitsN p 8)).toArray 244)]) (fun u L' => u = .tuple #[] ∧ L' = [(rb, .cells (rdyC vs (bitsN (fset p k (decide (0 < n))) 8)).toArray 244)]) := by
 have hline : nth (rdyC vs (bitsN (fset p k false) 8)) (0 + k * 1 + 0) = some (.slice a n c) := by rw [← hv]; exact rdy_line hk
 have hs1 : IntKind.u64.wrap (1 * 2 ^ (min (k : Int).toNat 64)) = ((2 ^ k : Nat) : Int) := shl1 (by omega)
 refine Tr.enter Tryz.func204 rfl Tryz.ntmps204 rfl (fun W F => ?_)
 refine Wp.app ?_
 refine Wp.seq ?_
 refine AnyH.start ([] : Hp) 10 rfl ?_
 refine zd [0,1,1,3,2,0,4,1] ?_
 refine Tk 5 rfl rfl (pv_shl rfl rfl (by omega) hs1) rfl ?_
 refine AnyH.one 3 (by kernel_rfl) ?_
 refine Turn.ef rfl rfl (ef_pv (pv_load rfl rfl rdy_lev) rfl) ?_ ?_
 ·
  rintro _ _ ⟨rfl, rfl⟩; infer_instance
 rintro _ _ ⟨rfl, rfl⟩
 refine Tk 6 rfl rfl (pv_andNot rfl rfl (bitsN_andNot hk)) rfl ?_
 refine zd [7,3,8,0] ?_
 refine z1 9 ?_
 refine AnyH.done (by kernel_rfl) ?_
 refine zq [5,3,4,0,0,9,6] ?_
 refine Ops.pv (pv_indexAddrA rfl rfl rfl (by omega)) rfl ?_
 refine zq [61] ?_
 refine Ops.pv (pv_load rfl rfl (by assumption)) rfl ?_
 refine Ops.pv (pv_len_slice (T := 54) rfl rfl) rfl ?_
 refine zq [44,2,5] ?_
 refine Wp.cond_dect rfl (fun h1 => ?_) (fun h1 => ?_)
 ·
  refine AnyH.start ([] : Hp) 10 rfl ?_
  refine zd [0,1,1,3,2,0,4,1] ?_
  refine Tk 5 rfl rfl (pv_shl rfl rfl (by omega) hs1) rfl ?_
  refine AnyH.one 3 (by kernel_rfl) ?_
  refine Turn.ef rfl rfl (ef_pv (pv_load rfl rfl rdy_lev) rfl) ?_ ?_
  ·
   rintro _ _ ⟨rfl, rfl⟩; infer_instance
  rintro _ _ ⟨rfl, rfl⟩
  refine Tk 6 rfl rfl (pv_or rfl rfl (bitsN_or hk)) rfl ?_
  refine zd [7,3,8,0] ?_
  refine z1 9 ?_
  refine AnyH.done (by kernel_rfl) ?_
  rw [fset_fset]
  exact zf (L' := [(rb, .cells (rdyC vs (bitsN (fset p k true) 8)).toArray 244)]) ⟨rfl, by rw [decide_eq_true (show 0 < n by omega)]⟩
 refine Wp.skip ?_
 exact zf (L' := [(rb, .cells (rdyC vs (bitsN (fset p k false) 8)).toArray 244)]) ⟨rfl, by rw [decide_eq_false (show ¬ 0 < n by omega)]⟩
theorem tr_newReady  : Tr Tryz.prog 94 [] ([]) (fun v L' => ∃ rb, v = .pointer (some ⟨rb, 0, none⟩) ∧ RdyH [] rb L') := by
 refine Tr.enter Tryz.func94 rfl Tryz.ntmps94 rfl (fun W F => ?_)
 refine Wp.app ?_
 refine zq [3,4,1,2,5,3,4,23] ?_
 refine zB fun b1 => ?_
 refine zq [1,2,5,10] ?_
 exact Ends.ret (L' := [(b1, .cells [.slice none 0 0, .slice none 0 0, .slice none 0 0, .slice none 0 0, .slice none 0 0, .slice none 0 0, .slice none 0 0, .slice none 0 0, .int .u64 0].toArray 244)]) (res1 rfl rfl) ⟨b1, rfl, fun _ => .slice none 0 0, fun _ => [], fun _ _ => Slc.nil _ _, by rw [levN_nil, segs_nil]; rfl⟩
theorem tr_rdyNext (rb : Nat) (H : Hp) (L : Ones) (hH : RdyH L rb H) (hW : RdyW L) (hl : L.length ≤ 2 ^ 20) : TrR Tryz.prog 74 [.pointer (some ⟨rb, 0, none⟩)] (H) (.tuple #[.int .i64 (nextV L), .bool (nextB L)]) := by
 obtain ⟨vs, h, hs, rfl⟩ := hH
 have hlv : ∀ k : Int, (lvl L k).length ≤ 2 ^ 20 := fun k => Nat.le_trans (lvl_len L k) hl
 refine Tr.enter Tryz.func74 rfl Tryz.ntmps74 rfl (fun W F => ?_)
 refine Wp.app ?_
 refine zq [3,4,1,1,2,5,3,4,0,9,6] ?_
 refine Ops.pv (pv_load rfl rfl rdy_lev) rfl ?_
 refine zC (tr_highB (has L)) ?_
 refine zq [1,2,5,3,3,4,0,42,2,5] ?_
 refine Wp.cond_dect rfl (fun h1 => ?_) (fun h1 => ?_)
 ·
  refine zq [3,4,1,1,2,5,10,12] ?_
  exact Ends.ret (res2 rfl rfl rfl) ⟨by rw [nextV, nextB, if_pos (by assumption), decide_eq_false (by unfold nextI at *; omega)], rfl⟩
 refine zq [11,5,3,4] ?_
 obtain ⟨k, hk0⟩ : ∃ k : Nat, nextI L = k := ⟨(nextI L).toNat, by unfold nextI; omega⟩
 have hnx : nextI L = k := hk0
 obtain ⟨hk, y, t, hyt⟩ := next_some hnx
 unfold nextI at hk0
 rw [hk0]
 obtain ⟨a, c, ea, hv, hline⟩ := hs.view hk (levN L)
 rw [hyt] at hv hline
 obtain ⟨b, o, cap, cc, T, f, hv1, hbv, hr⟩ := hv.open (by simp)
 cases hv1
 have hny := ints_nth (i := 0) hr rfl
 refine zq [0,0,9,6] ?_
 refine Ops.pv (pv_indexAddrA (i := k) rfl rfl rfl hk) rfl ?_
 refine zq [61] ?_
 refine Ops.pv (pv_load rfl rfl (by assumption)) rfl ?_
 refine Ops.pv (pv_indexAddr (i := 0) rfl rfl rfl (by first | omega | (simp; done) | (simp; omega))) rfl ?_
 refine Ops.pv (pv_load rfl rfl (by assumption)) rfl ?_
 refine zq [1,1,2,5,10] ?_
 exact Ends.ret (res2 rfl rfl rfl) ⟨by rw [nextV, nextB, hnx, if_neg (by omega), decide_eq_true (by omega), hyt]; rfl, rfl⟩
theorem tr_rdyList (rb : Nat) (H : Hp) (L : Ones) (hH : RdyH L rb H) (hW : RdyW L) (hl : L.length ≤ 2 ^ 20) (k : Int) : Tr Tryz.prog 203 [.pointer (some ⟨rb, 0, none⟩), .int .i64 k] (H) (fun u L' => ∃ H', Slc 3 1 u (lvl L k).length (intsC (lvl L k)) H' ∧ L' = H' ++ H) := by
 obtain ⟨vs, h, hs, rfl⟩ := hH
 have hlv : ∀ k : Int, (lvl L k).length ≤ 2 ^ 20 := fun k => Nat.le_trans (lvl_len L k) hl
 refine Tr.enter Tryz.func203 rfl Tryz.ntmps203 rfl (fun W F => ?_)
 refine Wp.app ?_
 refine zq [3,4,1,2,5,3,3,4,0,42,0] ?_
 refine Ops.split (t := 7) rfl (fun h1 => ?_) (fun h1 => ?_)
 ·
  refine zq [13,13,24,2,5,18,3,4,1,2,5,10,12] ?_
  exact Ends.ret (L' := (rb, .cells (rdyC vs (levN L)).toArray 244) :: segs h 8) (res1 rfl rfl) ⟨[], by rw [lvl_out hW (by omega)]; exact Slc.nil _ _, rfl⟩
 refine zq [21] ?_
 refine Ops.pvg ⟨_, _, rfl, rfl, rfl⟩ (pv_geq rfl rfl) rfl ?_
 refine zq [26,2,5] ?_
 refine Wp.cond_dect rfl (fun h2 => ?_) (fun h2 => ?_)
 ·
  refine zq [3,4,1,2,5,10,12] ?_
  exact Ends.ret (L' := (rb, .cells (rdyC vs (levN L)).toArray 244) :: segs h 8) (res1 rfl rfl) ⟨[], by rw [lvl_out hW (by omega)]; exact Slc.nil _ _, rfl⟩
 refine zq [11,5,3,4] ?_
 obtain ⟨k, rfl⟩ : ∃ n : Nat, k = n := ⟨k.toNat, by omega⟩
 obtain ⟨a, c, ea, hv, hline⟩ := hs.view (show k < 8 by omega) (levN L)
 refine zq [0,0,9,6] ?_
 refine Ops.pv (pv_indexAddrA rfl rfl rfl (by omega)) rfl ?_
 refine zD (tr_listG rb (0 + k * 1) 244 (rdyC vs (levN L)) (segs h 8) a c (lvl L k) hv (by have := hlv k; omega) hline) ?_
 rintro _ _ ⟨H1, hs1, rfl⟩
 refine Ops.app ?_
 skip
 refine zq [1,2,5,10] ?_
 exact Ends.ret (L' := H1 ++ ((rb, .cells (rdyC vs (levN L)).toArray 244) :: segs h 8)) (res1 rfl rfl) ⟨H1, hs1, rfl⟩
theorem tr_rdyPut (rb : Nat) (H : Hp) (L : Ones) (hH : RdyH L rb H) (hW : RdyW L) (hl : L.length ≤ 2 ^ 20) (x k : Int) : Tr Tryz.prog 162 [.pointer (some ⟨rb, 0, none⟩), .int .i64 x, .int .i64 k] (H) (fun u L' => u = .int .i64 (putE L x k) ∧ RdyH (putR L x k) rb L') := by
 obtain ⟨vs, h, hs, rfl⟩ := hH
 have hlv : ∀ k : Int, (lvl L k).length ≤ 2 ^ 20 := fun k => Nat.le_trans (lvl_len L k) hl
 refine Tr.enter Tryz.func162 rfl Tryz.ntmps162 rfl (fun W F => ?_)
 refine Wp.app ?_
 refine zq [3,4,1,2,5,3,3,4,0] ?_
 refine zC (tr_right x) ?_
 refine zq [39,0] ?_
 refine Ops.splitb (t := 12) rfl (fun h1 => ?_) (fun h1 => ?_)
 ·
  refine zq [13,13,24,0,13,13,24,2,5,18,3,4,1,2,5,10,12] ?_
  exact Ends.ret (res1 rfl rfl) ⟨by rw [(put_out (by simp_all <;> omega)).1], by rw [(put_out (L := L) (by simp_all <;> omega)).2]; exact ⟨vs, h, hs, rfl⟩⟩
 refine zq [21] ?_
 refine Ops.pvg ⟨_, _, rfl, rfl, rfl⟩ (pv_lss rfl rfl) rfl ?_
 refine zq [26,0] ?_
 refine Ops.split (t := 16) rfl (fun h2 => ?_) (fun h2 => ?_)
 ·
  refine zq [13,13,24,2,5,18,3,4,1,2,5,10,12] ?_
  exact Ends.ret (res1 rfl rfl) ⟨by rw [(put_out (by simp_all <;> omega)).1], by rw [(put_out (L := L) (by simp_all <;> omega)).2]; exact ⟨vs, h, hs, rfl⟩⟩
 refine zq [21] ?_
 refine Ops.pvg ⟨_, _, rfl, rfl, rfl⟩ (pv_geq rfl rfl) rfl ?_
 refine zq [26,2,5] ?_
 refine Wp.cond_dect rfl (fun h3 => ?_) (fun h3 => ?_)
 ·
  refine zq [3,4,1,2,5,10,12] ?_
  exact Ends.ret (res1 rfl rfl) ⟨by rw [(put_out (by simp_all <;> omega)).1], by rw [(put_out (L := L) (by simp_all <;> omega)).2]; exact ⟨vs, h, hs, rfl⟩⟩
 refine zq [11,5,3,3,4,0,2,5,20] ?_
 refine Wp.loopK (σ := Nat) [(0, _), (1, _), (2, _)] (fun s => [(20, .int .i64 s)]) (fun s => (rb, .cells (rdyC vs (levN L)).toArray 244) :: (segs h 8 ++ F)) (fun s => s ≤ 8 ∧ ∀ j : Nat, j < s → ¬ 0 ≤ idxM (lvl L j) x) (fun s => 8 - s) 0 ⟨Nat.zero_le _, fun j hj => absurd hj (Nat.not_lt_zero j)⟩ ⟨rfl, rfl, rfl, trivial⟩ ⟨rfl, trivial⟩ (by intro w ho; (try dsimp only [List.nil_append, List.cons_append]); exact Drop.own ho) ?_
 rintro i KK ⟨hi, hn⟩ hK
 dsimp only [List.cons_append, List.nil_append] at hK ⊢
 refine zq [3,4,42,2,5,3] ?_
 refine Wp.cond_dect rfl (fun h4 => ?_) (fun h4 => ?_)
 ·
  refine zq [11,5,3,20,3,4] ?_
  obtain ⟨a, c, ea, hv, hline⟩ := hs.view (show i < 8 by omega) (levN L)
  refine zq [0,1,2,5,3,4,0,0,9,6] ?_
  refine Ops.pv (pv_indexAddrA (i := i) rfl rfl rfl (by omega)) rfl ?_
  refine zq [61] ?_
  refine Ops.pv (pv_load rfl rfl hline) rfl ?_
  refine zq [0] ?_
  refine zC (tr_contains (segs h 8) a c (lvl L i) x hv (by have := hlv i; omega)) ?_
  refine On ?_
  refine Wp.cond_dect rfl (fun h5 => ?_) (fun h5 => ?_)
  ·
   refine zq [3,4,1,2,5,10,15,12,12,15,12] ?_
   obtain ⟨q1, q2⟩ := put_twice (L := L) (x := x) (k := k) (by simp_all) (by omega) (by omega) (inR_true hW (show i < 8 by omega) (by assumption))
   exact Ends.ret (res1 rfl rfl) ⟨by rw [q1], by rw [q2]; exact ⟨vs, h, hs, rfl⟩⟩
  refine zq [11,19,5,4,52,0,2,49] ?_
  refine Goes.back (hK (i + 1) ⟨by omega, fun j hj => ?_⟩ (by omega)) ⟨rfl, rfl, rfl, rfl, trivial⟩
  rcases Nat.lt_succ_iff_lt_or_eq.1 hj with hj | rfl
  ·
   exact hn j hj
  assumption
 refine zq [41,16,16,40,5,3,4] ?_
 obtain rfl : i = 8 := by omega
 obtain ⟨k, rfl⟩ : ∃ n : Nat, k = n := ⟨k.toNat, by omega⟩
 have hk8 : k < 8 := by omega
 have hr1 : rightM x = true := by simp_all
 obtain ⟨p1, p2, p3, p4⟩ := put_all hW hr1 hk8 hn
 refine Ops.openS h 8 k hk8 ?_
 refine zq [0,0,9,6] ?_
 refine Ops.pv (pv_indexAddrA (i := k) rfl rfl rfl hk8) rfl ?_
 refine zq [0] ?_
 refine zD (tr_lpushG rb (0 + k * 1) 244 (rdyC vs (levN L)) _ (h k) (lvl L k) x (hs k hk8) (by have := hlv k; omega) (rdy_line hk8)) ?_
 rintro _ _ ⟨rfl, v1, H1, hs1, rfl⟩
 refine Ops.app ?_
 rw [rdy_set hk8]
 obtain ⟨a1, c1, rfl⟩ := hs1.form
 refine zq [1,2,5,3,4,0,0] ?_
 refine zD (tr_note rb (fset vs k (.slice a1 (pushL (lvl L k) x).length c1)) (has L) k hk8 a1 _ c1 (fset_same _ _ _)) ?_
 rintro _ _ ⟨rfl, rfl⟩
 refine Ops.app ?_
 rw [p4]
 refine Ops.closeS h 8 k H1 hk8 ?_
 refine zq [2,5,3,4,0,1,2,5,10] ?_
 exact Ends.ret (L' := (rb, .cells (rdyC (fset vs k (.slice a1 (pushL (lvl L k) x).length c1)) (levN (putR L x k))).toArray 244) :: segs (fset h k H1) 8) (res1 rfl rfl) ⟨by rw [p1], _, _, hs.set hs1 p2 p3, rfl⟩
theorem tr_rdyDrop (rb : Nat) (H : Hp) (L : Ones) (hH : RdyH L rb H) (hW : RdyW L) (hl : L.length ≤ 2 ^ 20) (x : Int) : Tr Tryz.prog 161 [.pointer (some ⟨rb, 0, none⟩), .int .i64 x] (H) (fun u L' => u = .bool (inR L x) ∧ RdyH (dropR L x) rb L') := by
 obtain ⟨vs0, h0, hs0, rfl⟩ := hH
 have hlv : ∀ k : Int, (lvl L k).length ≤ 2 ^ 20 := fun k => Nat.le_trans (lvl_len L k) hl
 refine Tr.enter Tryz.func161 rfl Tryz.ntmps161 rfl (fun W F => ?_)
 refine Wp.app ?_
 refine zq [3,4,1,2,5,3,3,4,0,2,5,20] ?_
 refine Wp.loopK (σ := Nat × (Nat → Value) × (Nat → Hp)) [(0, _), (1, _)] (fun s => [(6, .int .i64 s.1)]) (fun s => (rb, .cells (rdyC s.2.1 (levN L)).toArray 244) :: (segs s.2.2 8 ++ F)) (fun s => s.1 ≤ 8 ∧ RdyS (fun k => lvl L k) s.2.1 s.2.2 ∧ ∀ j : Nat, j < s.1 → ¬ 0 ≤ idxM (lvl L j) x) (fun s => 8 - s.1) (0, vs0, h0) ⟨Nat.zero_le _, hs0, fun j hj => absurd hj (Nat.not_lt_zero j)⟩ ⟨rfl, rfl, trivial⟩ ⟨rfl, trivial⟩ (by intro w ho; (try dsimp only [List.nil_append, List.cons_append]); exact Drop.own ho) ?_
 rintro ⟨i, vs, h⟩ KK ⟨hi, hs, hn⟩ hK
 dsimp only [List.cons_append, List.nil_append] at hK ⊢
 dsimp only at hi hs hn ⊢
 refine zq [3,4,42,2,5,3] ?_
 refine Wp.cond_dect rfl (fun h1 => ?_) (fun h1 => ?_)
 ·
  refine zq [11,5,3,20,3,4,0,1,2,5,3,4] ?_
  have hi8 : i < 8 := by omega
  refine Ops.openS h 8 i hi8 ?_
  refine zq [0,0,9,6] ?_
  refine Ops.pv (pv_indexAddrA rfl rfl rfl (by omega)) rfl ?_
  refine zq [0] ?_
  refine zD (tr_lremoveG rb (0 + i * 1) 244 (rdyC vs (levN L)) _ (h i) (lvl L i) x (hs i hi8) (by have := hlv i; omega) (rdy_line hi8)) ?_
  rintro _ _ ⟨rfl, v1, H1, hs1, rfl⟩
  refine Ops.app ?_
  rw [rdy_set hi8]
  obtain ⟨a1, c1, rfl⟩ := hs1.form
  refine Ops.closeS h 8 i H1 hi8 ?_
  refine On ?_
  refine Wp.cond_t rfl (fun h2 => ?_) (fun h2 => ?_)
  ·
   have hix : 0 ≤ idxM (lvl L i) x := by simpa [remB] using h2
   obtain ⟨d1, d2, d3, d4⟩ := drop_all hW hi8 hix
   refine zq [3,4,0,0] ?_
   refine zD (tr_note rb (fset vs i (.slice a1 (remL (lvl L i) x).length c1)) (has L) i hi8 a1 _ c1 (fset_same _ _ _)) ?_
   rintro _ _ ⟨rfl, rfl⟩
   refine Ops.app ?_
   rw [d4]
   refine zq [2,5,3,4,1,2,5,10,15,12,12,15,12] ?_
   exact Ends.ret (L' := (rb, .cells (rdyC (fset vs i (.slice a1 (remL (lvl L i) x).length c1)) (levN (dropR L x))).toArray 244) :: segs (fset h i H1) 8) (res1 rfl rfl) ⟨by rw [d1], _, _, hs.set hs1 d2 d3, rfl⟩
  refine zq [11,19,5,4,52,0,2,49] ?_
  refine Goes.back (hK (i + 1, fset vs i (.slice a1 (remL (lvl L i) x).length c1), fset h i H1) ⟨by dsimp only; omega, hs.set hs1 (rem_same h2) (fun _ _ => rfl), fun j hj => ?_⟩ (by dsimp only; omega)) ⟨rfl, rfl, rfl, trivial⟩
  rcases Nat.lt_succ_iff_lt_or_eq.1 hj with hj | rfl
  ·
   exact hn j hj
  simpa [remB] using h2
 refine zq [41,16,16,40,5,3,4,1,2,5,10] ?_
 obtain rfl : i = 8 := by omega
 have hf := inR_false hW hn
 exact Ends.ret (res1 rfl rfl) ⟨by rw [hf], by rw [drop_none hf]; exact ⟨vs, h, hs, rfl⟩⟩
end Go.Proofs.YtipncceiekalfaaGreat
end
section
set_option linter.unusedVariables false
set_option linter.unusedSimpArgs false
namespace Go.Proofs.YtipncceiekalfaaGreat
open Go.SL
def levOf (M : Ones) (x : Int) : Option Int := (M.find? (fun e => decide (e.1 = x))).map (·.2)
theorem levOf_some {M : Ones} (hn : (M.map (·.1)).Nodup) {x k : Int} (h : (x, k) ∈ M) : levOf M x = some k := by
 unfold levOf
 cases e : M.find? (fun e => decide (e.1 = x)) with
 | none => have := List.find?_eq_none.1 e _ h; simp at this
 | some p =>
  have h1 := List.mem_of_find?_eq_some e
  have h2 := List.find?_some e
  simp at h2
  obtain ⟨a, b⟩ := p
  dsimp only at h2; subst h2
  rw [nodup_key hn h h1]; rfl
theorem levOf_none {M : Ones} {x : Int} (h : inR M x = false) : levOf M x = none := by
 unfold levOf
 rw [Option.map_eq_none_iff, List.find?_eq_none]
 intro e he
 have : x ∉ M.map (·.1) := by simpa [inR] using h
 simp; rintro rfl; exact this (List.mem_map.2 ⟨e, he, rfl⟩)
def findF (L : Nat → Ones) (x : Int) : Nat → Nat → Option (Nat × Int)
  | _, 0 => none
  | d, n + 1 => match levOf (L d) x with
    | some k => some (d, k)
    | none => findF L x (d + 1) n
def findM (L : Nat → Ones) (x : Int) : Option (Nat × Int) := findF L x 0 4
theorem findF_skip {L : Nat → Ones} {x : Int} : ∀ {n d m : Nat}, m ≤ n → (∀ j, d ≤ j → j < d + m → levOf (L j) x = none) → findF L x d n = findF L x (d + m) (n - m)
  | n, d, 0, _, _ => rfl
  | 0, d, m + 1, h, _ => by omega
  | n + 1, d, m + 1, h, hn => by
    simp only [findF, hn d (by omega) (by omega)]
    rw [findF_skip (m := m) (by omega) (fun j h1 h2 => hn j (by omega) (by omega))]
    rw [show d + 1 + m = d + (m + 1) by omega, show n - m = n + 1 - (m + 1) by omega]
theorem find_hit {L : Nat → Ones} {x k : Int} {d : Nat} (hd : d < 4) (hn : ∀ j, j < d → levOf (L j) x = none) (h : levOf (L d) x = some k) : findM L x = some (d, k) := by
 unfold findM
 rw [findF_skip (m := d) (by omega) (fun j h1 h2 => hn j (by omega)), show 4 - d = (3 - d) + 1 by omega]
 simp only [Nat.zero_add, findF, h]
theorem find_miss {L : Nat → Ones} {x : Int} (hn : ∀ j, j < 4 → levOf (L j) x = none) : findM L x = none := by
 unfold findM
 rw [findF_skip (m := 4) (Nat.le_refl _) (fun j h1 h2 => hn j (by omega))]; rfl
theorem findF_some {L : Nat → Ones} {x : Int} : ∀ {n d e : Nat} {k : Int}, findF L x d n = some (e, k) → d ≤ e ∧ e < d + n ∧ levOf (L e) x = some k
  | 0, _, _, _, h => by cases h
  | n + 1, d, e, k, h => by
    simp only [findF] at h
    split at h
    · cases h; exact ⟨Nat.le_refl _, by omega, by assumption⟩
    · obtain ⟨h1, h2, h3⟩ := findF_some h; exact ⟨by omega, by omega, h3⟩
theorem find_some {L : Nat → Ones} {x k : Int} {d : Nat} (h : findM L x = some (d, k)) : d < 4 ∧ levOf (L d) x = some k := by
 obtain ⟨_, h2, h3⟩ := findF_some h; exact ⟨by omega, h3⟩
def fdD (L : Nat → Ones) (x : Int) : Int := match findM L x with | some (d, _) => (d : Int) | none => 0
def fdK (L : Nat → Ones) (x : Int) : Int := match findM L x with | some (_, k) => k | none => 0
def fdB (L : Nat → Ones) (x : Int) : Bool := (findM L x).isSome
theorem fd_some {L : Nat → Ones} {x k : Int} {d : Nat} (h : findM L x = some (d, k)) : fdD L x = d ∧ fdK L x = k ∧ fdB L x = true := by unfold fdD fdK fdB; rw [h]; exact ⟨rfl, rfl, rfl⟩
theorem fd_none {L : Nat → Ones} {x : Int} (h : findM L x = none) : fdD L x = 0 ∧ fdK L x = 0 ∧ fdB L x = false := by unfold fdD fdK fdB; rw [h]; exact ⟨rfl, rfl, rfl⟩
def RdysW (L : Nat → Ones) : Prop := ∀ d, d < 4 → RdyW (L d)
def RdysL (L : Nat → Ones) (n : Nat) : Prop := ∀ d, d < 4 → (L d).length ≤ n
theorem RdysW.nil : RdysW (fun _ => []) := fun _ _ => RdyW.nil
theorem RdysL.mono {L : Nat → Ones} {n m : Nat} (h : RdysL L n) (hm : n ≤ m) : RdysL L m := fun d hd => Nat.le_trans (h d hd) hm
theorem RdysW.set {L : Nat → Ones} (h : RdysW L) {d : Nat} {M : Ones} (hM : RdyW M) : RdysW (fset L d M) := fun j hj => by
 by_cases e : j = d
 ·
  subst e; rw [fset_same]; exact hM
 ·
  rw [fset_ne e]; exact h j hj
theorem RdysL.set {L : Nat → Ones} {n : Nat} (h : RdysL L n) {d : Nat} {M : Ones} (hM : M.length ≤ n + 1) : RdysL (fset L d M) (n + 1) := fun j hj => by
 by_cases e : j = d
 ·
  subst e; rw [fset_same]; exact hM
 ·
  rw [fset_ne e]; exact Nat.le_succ_of_le (h j hj)
theorem lev_hit {M : Ones} (h : RdyW M) {x : Int} {k : Nat} (hk : 0 ≤ idxM (lvl M k) x) : levOf M x = some (k : Int) := levOf_some h.nd (lvl_mem.1 ((idx_mem _ _).1 hk))
theorem lev_miss {M : Ones} (h : RdyW M) {x : Int} (hn : ∀ k : Nat, k < 8 → ¬ 0 ≤ idxM (lvl M k) x) : levOf M x = none := levOf_none (inR_false h hn)
theorem drops_len {L : Nat → Ones} {n : Nat} (hl : RdysL L n) (d : Nat) (x : Int) : RdysL (fset L d (dropR (L d) x)) n := fun j hj => by
 by_cases e : j = d
 ·
  subst e; rw [fset_same]; exact Nat.le_trans (dropR_len _ _) (hl _ hj)
 ·
  rw [fset_ne e]; exact hl j hj
def domB (d : Int) : Bool := decide (0 ≤ d ∧ d < 4)
def spE (L : Nat → Ones) (x d k : Int) : Int := if rightM x = true ∧ (0 ≤ d ∧ d < 4) ∧ 0 ≤ k ∧ k < 8 then (if fdB L x then 4 else putE (L d.toNat) x k) else 1
def spL (L : Nat → Ones) (x d k : Int) : Nat → Ones := if spE L x d k = 0 then fset L d.toNat (putR (L d.toNat) x k) else L
def sdB (L : Nat → Ones) (x : Int) : Bool := match findM L x with | some (d, _) => inR (L d) x | none => false
def sdL (L : Nat → Ones) (x : Int) : Nat → Ones := match findM L x with | some (d, _) => fset L d (dropR (L d) x) | none => L
def syL (L : Nat → Ones) (x : Int) : Nat → Ones := match findM L x with | some (d, k) => fset L d (putR (dropR (L d) x) x k) | none => L
theorem sp_out {L : Nat → Ones} {x d k : Int} (h : ¬ (rightM x = true ∧ (0 ≤ d ∧ d < 4) ∧ 0 ≤ k ∧ k < 8)) : spE L x d k = 1 ∧ spL L x d k = L := by
 have e : spE L x d k = 1 := if_neg h
 exact ⟨e, by unfold spL; rw [if_neg (by omega)]⟩
theorem sp_twice {L : Nat → Ones} {x d k : Int} (h : rightM x = true ∧ (0 ≤ d ∧ d < 4) ∧ 0 ≤ k ∧ k < 8) (h2 : fdB L x = true) : spE L x d k = 4 ∧ spL L x d k = L := by
 have e : spE L x d k = 4 := by unfold spE; rw [if_pos h, if_pos h2]
 exact ⟨e, by unfold spL; rw [if_neg (by omega)]⟩
theorem putR_same {M : Ones} {x k : Int} (h : ¬ putE M x k = 0) : putR M x k = M := if_neg h
theorem fset_self {α : Type} (f : Nat → α) (i : Nat) : fset f i (f i) = f := by
 funext j; unfold fset; split
 ·
  rename_i h; rw [h]
 ·
  rfl
theorem sp_put {L : Nat → Ones} {x k : Int} {d : Nat} (h : rightM x = true ∧ (0 ≤ (d : Int) ∧ (d : Int) < 4) ∧ 0 ≤ k ∧ k < 8) (h2 : fdB L x = false) : spE L x d k = putE (L d) x k ∧ spL L x d k = fset L d (putR (L d) x k) := by
 have e : spE L x d k = putE (L d) x k := by unfold spE; rw [if_pos h, h2, Int.toNat_natCast]; rfl
 refine ⟨e, ?_⟩
 unfold spL
 rw [e, Int.toNat_natCast]
 by_cases h3 : putE (L d) x k = 0
 ·
  rw [if_pos h3]
 ·
  rw [if_neg h3, putR_same h3, fset_self]
theorem spW {L : Nat → Ones} (h : RdysW L) (x d k : Int) : RdysW (spL L x d k) := by
 unfold spL; split
 ·
  rename_i h1
  by_cases h2 : 0 ≤ d ∧ d < 4
  ·
   exact h.set ((h _ (by omega)).put x k)
  ·
   exfalso; unfold spE at h1; rw [if_neg (fun e => h2 e.2.1)] at h1; omega
 ·
  exact h
theorem sdW {L : Nat → Ones} (h : RdysW L) (x : Int) : RdysW (sdL L x) := by
 unfold sdL
 split
 ·
  rename_i d k e; exact h.set ((h _ (find_some e).1).drop x)
 ·
  exact h
theorem sdLen {L : Nat → Ones} {n : Nat} (h : RdysL L n) (x : Int) : RdysL (sdL L x) (n + 1) := by
 unfold sdL
 split
 ·
  rename_i d k e; exact h.set (Nat.le_succ_of_le (Nat.le_trans (dropR_len _ _) (h _ (find_some e).1)))
 ·
  exact h.mono (Nat.le_succ _)
theorem syW {L : Nat → Ones} (h : RdysW L) (x : Int) : RdysW (syL L x) := by
 unfold syL
 split
 ·
  rename_i d k e; exact h.set (((h _ (find_some e).1).drop x).put x k)
 ·
  exact h
def tmOk (t : Int × Int) : Prop := (0 ≤ t.1 ∧ t.1 < 4) ∧ 1 ≤ t.2 ∧ t.2 ≤ 1000
instance (t : Int × Int) : Decidable (tmOk t) := inferInstanceAs (Decidable (((0 ≤ t.1 ∧ t.1 < 4) ∧ 1 ≤ t.2 ∧ t.2 ≤ 1000)))
def tmsOk (T : Ones) : Prop := (1 ≤ T.length ∧ T.length ≤ 16) ∧ ∀ t, t ∈ T → tmOk t
instance (T : Ones) : Decidable (tmsOk T) := inferInstanceAs (Decidable ((1 ≤ T.length ∧ T.length ≤ 16) ∧ ∀ t, t ∈ T → tmOk t))
structure At (T : Ones) (e : Nat) (l : Int) : Prop where
  ok : tmsOk T
  lt : e < T.length
  pos : 1 ≤ l
  le : l ≤ (T[e]?.getD (0, 0)).2
def tkd (T : Ones) (e : Nat) : Int × Int := T[e]?.getD (0, 0)
theorem tkd_get {T : Ones} {e : Nat} (h : e < T.length) : T[e]? = some (tkd T e) := by unfold tkd; rw [List.getElem?_eq_getElem h]; rfl
theorem At.dom {T : Ones} {e : Nat} {l : Int} (h : At T e l) : tmOk (tkd T e) := h.ok.2 _ (List.mem_of_getElem? (tkd_get h.lt))
theorem At.start {T : Ones} (h : tmsOk T) : At T 0 (tkd T 0).2 := ⟨h, by have := h.1; omega, (h.2 _ (List.mem_of_getElem? (tkd_get (by have := h.1; omega)))).2.1, Int.le_refl _⟩
def nxE (T : Ones) (e : Nat) (l : Int) : Nat := if l - 1 > 0 then e else (e + 1) % T.length
def nxL (T : Ones) (e : Nat) (l : Int) : Int := if l - 1 > 0 then l - 1 else (tkd T ((e + 1) % T.length)).2
theorem At.next {T : Ones} {e : Nat} {l : Int} (h : At T e l) : At T (nxE T e l) (nxL T e l) := by
 unfold nxE nxL
 split
 ·
  exact ⟨h.ok, h.lt, by omega, by have := h.le; omega⟩
 ·
  have hm : (e + 1) % T.length < T.length := Nat.mod_lt _ (by have := h.lt; omega)
  exact ⟨h.ok, hm, (h.ok.2 _ (List.mem_of_getElem? (tkd_get hm))).2.1, Int.le_refl _⟩
end Go.Proofs.YtipncceiekalfaaGreat
end
