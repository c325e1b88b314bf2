/- Layer 7 in plain Lean: capabilities, nodes, stores, and how they lie in memory. No condition. -/
import Derived.Test.YtdodfnjmkpgdbaaSLT
set_option linter.unusedVariables false
set_option linter.unusedSimpArgs false
namespace Go.Proofs.Ytdodfnjmkpgdbaa
open Go.SL

structure CapM where
  kind : Int
  object : Int
  rights : Int
  badge : Int
  guard : Int
  bits : Int
deriving DecidableEq

abbrev CapM.zero : CapM := ⟨0, 0, 0, 0, 0, 0⟩
def CapM.nums (c : CapM) : List Int := [c.kind, c.object, c.rights, c.badge, c.guard, c.bits]
def capK : List IntKind := [.i64, .i64, .i64, .u64, .u64, .i64]
abbrev CapM.cells (c : CapM) : List Value := [.int .i64 c.kind, .int .i64 c.object, .int .i64 c.rights, .int .u64 c.badge, .int .u64 c.guard, .int .i64 c.bits]
abbrev CapM.v (c : CapM) : Value := .agg #[.int .i64 c.kind, .int .i64 c.object, .int .i64 c.rights, .int .u64 c.badge, .int .u64 c.guard, .int .i64 c.bits]
theorem CapM.ext_nums {a b : CapM} (h : a.nums = b.nums) : a = b := by
  cases a; cases b; simp [CapM.nums] at h; simp [h]

abbrev SlotM := Int × Int
abbrev slotV (s : SlotM) : Value := .agg #[.int .i64 s.1, .int .i64 s.2]

structure NodeM where
  blk : Nat
  radix : Nat
  caps : List CapM

def capsCells (l : List CapM) : List Value := l.flatMap CapM.cells
def NodeM.o (n : NodeM) : Obj := .cells (.int .i64 n.radix :: capsCells n.caps).toArray 91

structure StoreM where
  mb : Nat
  clk : Nat
  nodes : List (Int × NodeM × Nat)

def storeO (S : StoreM) : Obj := .cells [.map (some S.mb)].toArray 88
def nodeKV (l : List (Int × NodeM × Nat)) : List (Int × Value × Nat) := l.map fun e => (e.1, .pointer (some ⟨e.2.1.blk, 0, none⟩), e.2.2)
def StoreM.mapo (S : StoreM) : Obj := mapO encI (nodeKV S.nodes) S.clk
def nodesHp (l : List (Int × NodeM × Nat)) : Hp := l.map fun e => (e.2.1.blk, e.2.1.o)
def storeHp (sb : Nat) (S : StoreM) : Hp := (sb, storeO S) :: (S.mb, S.mapo) :: nodesHp S.nodes

def nget (id : Int) : List (Int × NodeM × Nat) → Option NodeM
  | [] => none
  | e :: l => if id = e.1 then some e.2.1 else nget id l

theorem mget_nodeKV (id : Int) : ∀ l, mget id (nodeKV l) = (nget id l).map fun n => .pointer (some ⟨n.blk, 0, none⟩)
  | [] => rfl
  | e :: l => by
    simp only [nodeKV, List.map_cons, mget, nget]
    split
    · rfl
    · exact mget_nodeKV id l

theorem nget_split {id : Int} {n : NodeM} : ∀ {l}, nget id l = some n → ∃ A t B, l = A ++ (id, n, t) :: B ∧ nget id A = none
  | [], h => by cases h
  | e :: l, h => by
    simp only [nget] at h
    split at h
    · rename_i hid
      cases h
      obtain ⟨i, m, t⟩ := e
      simp only at hid
      subst hid
      exact ⟨[], t, l, rfl, rfl⟩
    · rename_i hid
      obtain ⟨A, t, B, rfl, hA⟩ := nget_split h
      exact ⟨e :: A, t, B, rfl, by simp [nget, hid, hA]⟩

theorem reads_app {c : List Value} {off : Nat} {vs : List Value} (A B : List Value) (h : c = A ++ vs ++ B) (ho : A.length = off) : Reads c off vs := by
  subst h; subst ho
  induction vs generalizing A with
  | nil => trivial
  | cons v vs ih =>
    refine ⟨by rw [nth_eq]; simp, ?_⟩
    have := ih (A ++ [v])
    simpa using this

theorem capsCells_split {l : List CapM} {i : Nat} {c : CapM} (h : l[i]? = some c) : capsCells l = capsCells (l.take i) ++ c.cells ++ capsCells (l.drop (i + 1)) := by
  have hlt : i < l.length := by
    rcases Nat.lt_or_ge i l.length with h' | h'
    · exact h'
    · rw [List.getElem?_eq_none h'] at h; cases h
  have he : l[i] = c := by rw [List.getElem?_eq_getElem hlt] at h; exact Option.some.inj h
  conv => lhs; rw [← List.take_append_drop i l, List.drop_eq_getElem_cons hlt, he]
  simp [capsCells, List.flatMap_append]

theorem capsCells_len : ∀ l : List CapM, (capsCells l).length = 6 * l.length
  | [] => rfl
  | c :: l => by
    have ih := capsCells_len l
    have e : capsCells (c :: l) = c.cells ++ capsCells l := rfl
    rw [e, List.length_append, ih]
    simp [CapM.cells]; omega

theorem NodeM.reads {n : NodeM} {i : Nat} {c : CapM} (h : n.caps[i]? = some c) : Reads (.int .i64 n.radix :: capsCells n.caps) (1 + i * 6) c.cells := by
  have hlt : i < n.caps.length := by
    rcases Nat.lt_or_ge i n.caps.length with h' | h'
    · exact h'
    · rw [List.getElem?_eq_none h'] at h; cases h
  refine reads_app (.int .i64 n.radix :: capsCells (n.caps.take i)) (capsCells (n.caps.drop (i + 1))) ?_ ?_
  · rw [capsCells_split h]; simp
  · simp [capsCells_len, Nat.min_eq_left (Nat.le_of_lt hlt)]; omega

theorem sh_one {r : Nat} (h : r ≤ 4) : Value.int .i64 (IntKind.i64.wrap (1 * 2 ^ (min (r : Int).toNat IntKind.i64.bits))) = .int .i64 ((2 ^ r : Nat) : Int) := by
  match r, h with
  | 0, _ => rfl
  | 1, _ => rfl
  | 2, _ => rfl
  | 3, _ => rfl
  | 4, _ => rfl

instance {c : CapM} : LenIs c.cells 6 := ⟨rfl⟩

/-! ### Capabilities: what is wrong with one -/
def rightsOk (r : Int) : Bool := decide (bitsI .andNot .i64 r 7 = 0)
def fitsM (g n : Int) : Bool := decide (0 ≤ n) && (decide (n ≤ 16) && decide (g.fdiv (2 ^ (min n.toNat 64)) = 0))
def plainM (c : CapM) : CapM :=
  if c.kind = 0 ∨ c.kind = 10 then ⟨c.kind, 0, 0, 0, 0, 0⟩
  else if c.kind = 4 ∨ c.kind = 5 then ⟨c.kind, c.object, c.rights, c.badge, 0, 0⟩
  else if c.kind = 6 then ⟨c.kind, c.object, c.rights, 0, 0, 0⟩
  else if c.kind = 2 then ⟨c.kind, c.object, 0, 0, c.guard, c.bits⟩
  else ⟨c.kind, c.object, 0, 0, 0, 0⟩
def checkM (c : CapM) : Int :=
  if c.kind < 0 ∨ 11 < c.kind then 2
  else if plainM c ≠ c ∨ c.object < 0 ∨ c.object.fdiv (2 ^ 6) ≠ 0 ∨ rightsOk c.rights = false ∨ c.badge.fdiv (2 ^ 28) ≠ 0 ∨ fitsM c.guard c.bits = false then 10 else 0

section capops
variable {P : Program} {n : Nat} {D : List Deferred} {E : Env} {L : Hp} {d : Option Tmp} {ty : TypeId} {pos : String} {aft : Array Edge} {g : Option (Nat × Bool)} {T : TypeId} {x y : Operand} {yt : TypeId}
theorem nums_iff {a b : CapM} : a.nums = b.nums ↔ a = b := ⟨CapM.ext_nums, fun h => by rw [h]⟩
theorem pv_eql_cap {a b : CapM} [hT : NumTy P T capK] (hx : ev E x = some a.v) (hy : ev E y = some b.v) : Pv P n D E L ⟨d, .binOp .eql T x y yt, ty, pos, aft, g⟩ (.bool (decide (a = b))) := by
  have := pv_eql_nums (P := P) (n := n) (D := D) (L := L) (d := d) (ty := ty) (pos := pos) (aft := aft) (g := g) (T := T) (yt := yt) a.nums b.nums hx hy rfl rfl
  rwa [decide_eq_decide.2 (nums_iff (a := a) (b := b))] at this
theorem pv_neq_cap {a b : CapM} [hT : NumTy P T capK] (hx : ev E x = some a.v) (hy : ev E y = some b.v) : Pv P n D E L ⟨d, .binOp .neq T x y yt, ty, pos, aft, g⟩ (.bool (decide (a ≠ b))) := by
  have := pv_neq_nums (P := P) (n := n) (D := D) (L := L) (d := d) (ty := ty) (pos := pos) (aft := aft) (g := g) (T := T) (yt := yt) a.nums b.nums hx hy rfl rfl
  rwa [decide_eq_decide.2 (not_congr (nums_iff (a := a) (b := b)))] at this
theorem slot_iff {a b : SlotM} : [a.1, a.2] = [b.1, b.2] ↔ a = b := by
  obtain ⟨a1, a2⟩ := a; obtain ⟨b1, b2⟩ := b; simp
theorem pv_eql_slot {a b : SlotM} [hT : NumTy P T [.i64, .i64]] (hx : ev E x = some (slotV a)) (hy : ev E y = some (slotV b)) : Pv P n D E L ⟨d, .binOp .eql T x y yt, ty, pos, aft, g⟩ (.bool (decide (a = b))) := by
  have := pv_eql_nums (P := P) (n := n) (D := D) (L := L) (d := d) (ty := ty) (pos := pos) (aft := aft) (g := g) (T := T) (yt := yt) [a.1, a.2] [b.1, b.2] hx hy rfl rfl
  rwa [decide_eq_decide.2 (slot_iff (a := a) (b := b))] at this
theorem pv_neq_slot {a b : SlotM} [hT : NumTy P T [.i64, .i64]] (hx : ev E x = some (slotV a)) (hy : ev E y = some (slotV b)) : Pv P n D E L ⟨d, .binOp .neq T x y yt, ty, pos, aft, g⟩ (.bool (decide (a ≠ b))) := by
  have := pv_neq_nums (P := P) (n := n) (D := D) (L := L) (d := d) (ty := ty) (pos := pos) (aft := aft) (g := g) (T := T) (yt := yt) [a.1, a.2] [b.1, b.2] hx hy rfl rfl
  rwa [decide_eq_decide.2 (not_congr (slot_iff (a := a) (b := b)))] at this
end capops

/-! ### A store -/
def zeroCaps : List CapM := List.replicate 16 CapM.zero
structure NodeM.Wf (n : NodeM) : Prop where
  len : n.caps.length = 16
  lo : 1 ≤ n.radix
  hi : n.radix ≤ 4
def StoreM.Wf (S : StoreM) : Prop := ∀ id n, nget id S.nodes = some n → n.Wf ∧ 0 ≤ id ∧ id < 64
def NodeM.has (n : NodeM) (i : Int) : Prop := 0 ≤ i ∧ i < (2 ^ n.radix : Nat)
instance (n : NodeM) (i : Int) : Decidable (n.has i) := inferInstanceAs (Decidable (_ ∧ _))
def StoreM.cap? (S : StoreM) (s : SlotM) : Option CapM :=
  match nget s.1 S.nodes with
  | none => none
  | some n => if n.has s.2 then n.caps[s.2.toNat]? else none
def StoreM.addr (S : StoreM) (s : SlotM) : Option Addr :=
  match nget s.1 S.nodes with
  | none => none
  | some n => if n.has s.2 then some ⟨n.blk, 1 + s.2.toNat * 6, none⟩ else none

theorem NodeM.Wf.lt {n : NodeM} (h : n.Wf) {i : Int} (hi : n.has i) : i.toNat < 16 := by
  have h1 : (2 : Nat) ^ n.radix ≤ 2 ^ 4 := Nat.pow_le_pow_right (by omega) h.hi
  unfold NodeM.has at hi
  omega

instance {sb : Nat} {S : StoreM} : Blk (storeHp sb S) sb (.cells [.map (some S.mb)].toArray 88 (0, 0)) := ⟨List.mem_cons_self ..⟩
instance {sb : Nat} {S : StoreM} : Blk (storeHp sb S) S.mb (mapO encI (nodeKV S.nodes) S.clk) := ⟨List.mem_cons_of_mem _ (List.mem_cons_self ..)⟩

theorem nodesHp_mem {id : Int} {n : NodeM} {l : List (Int × NodeM × Nat)} (h : nget id l = some n) : (n.blk, n.o) ∈ nodesHp l := by
  obtain ⟨A, t, B, rfl, _⟩ := nget_split h
  simp [nodesHp]
theorem StoreM.blk {sb : Nat} {S : StoreM} {id : Int} {n : NodeM} (h : nget id S.nodes = some n) : Blk (storeHp sb S) n.blk (.cells (.int .i64 n.radix :: capsCells n.caps).toArray 91 (0, 0)) :=
  ⟨List.mem_cons_of_mem _ (List.mem_cons_of_mem _ (nodesHp_mem h))⟩

/-- Another node at an id that is there. -/
def nset (id : Int) (n' : NodeM) : List (Int × NodeM × Nat) → List (Int × NodeM × Nat)
  | [] => []
  | e :: l => if id = e.1 then (e.1, n', e.2.2) :: l else e :: nset id n' l
theorem nset_split {id : Int} {n n' : NodeM} : ∀ {A : List (Int × NodeM × Nat)} {t : Nat} {B}, nget id A = none → nset id n' (A ++ (id, n, t) :: B) = A ++ (id, n', t) :: B
  | [], t, B, _ => by simp [nset]
  | e :: A, t, B, h => by
    simp only [nget] at h
    split at h
    · cases h
    · rename_i hid
      simp only [List.cons_append, nset, hid, if_false]
      rw [nset_split h]
theorem nodeKV_nset {id : Int} {n n' : NodeM} (hb : n'.blk = n.blk) : ∀ {l}, nget id l = some n → nodeKV (nset id n' l) = nodeKV l
  | [], h => by cases h
  | e :: l, h => by
    simp only [nget] at h
    simp only [nset]
    split at h
    · rename_i hid; cases h; simp [hid, nodeKV, hb]
    · rename_i hid
      have := nodeKV_nset hb h
      simp only [hid, if_false, nodeKV, List.map_cons] at this ⊢
      rw [this]
def StoreM.setNode (S : StoreM) (id : Int) (n' : NodeM) : StoreM := { S with nodes := nset id n' S.nodes }
theorem StoreM.upd {sb : Nat} {S : StoreM} {id : Int} {n n' : NodeM} (h : nget id S.nodes = some n) (hb : n'.blk = n.blk) {o' : Obj} (ho : o' = n'.o) : Upd (storeHp sb S) n.blk o' (storeHp sb (S.setNode id n')) := by
  subst ho
  have hk := nodeKV_nset hb h
  obtain ⟨A, t, B, hl, hA⟩ := nget_split h
  refine ⟨(sb, storeO S) :: (S.mb, S.mapo) :: nodesHp A, nodesHp B, n.o, ?_, ?_⟩
  · simp [storeHp, hl, nodesHp]
  · have e1 : (S.setNode id n').nodes = A ++ (id, n', t) :: B := by simp only [StoreM.setNode]; rw [hl, nset_split hA]
    have e2 : (S.setNode id n').mapo = S.mapo := by simp only [StoreM.mapo]; rw [show (S.setNode id n').nodes = nset id n' S.nodes from rfl, hk]; rfl
    have e3 : storeO (S.setNode id n') = storeO S := rfl
    have e4 : (S.setNode id n').mb = S.mb := rfl
    simp only [storeHp, e1, e2, e3, e4, nodesHp, List.map_append, List.map_cons, hb]
    rfl

theorem setL_of {l l' vs : List Value} {i : Nat} (A B : List Value) (vs0 : List Value) (h : l = A ++ vs0 ++ B) (h' : l' = A ++ vs ++ B) (hi : A.length = i) (hv : vs0.length = vs.length) : SetL l i vs l' := by
  subst h; subst h'; subst hi
  refine ⟨by simp [hv], by simp [hv], fun j => ?_⟩
  by_cases h1 : j < A.length
  · rw [if_neg (by omega), List.append_assoc, List.append_assoc, List.getElem?_append_left h1, List.getElem?_append_left h1]
  · by_cases h2 : j < A.length + vs.length
    · rw [if_pos (by omega), List.append_assoc, List.getElem?_append_right (by omega), List.getElem?_append_left (by omega)]
    · rw [if_neg (by omega), List.getElem?_append_right (by simp; omega), List.getElem?_append_right (by simp; omega)]
      simp [hv]
theorem capsCells_set {l : List CapM} {i : Nat} {c c' : CapM} (h : l[i]? = some c) : capsCells (l.set i c') = capsCells (l.take i) ++ c'.cells ++ capsCells (l.drop (i + 1)) := by
  have hlt : i < l.length := by
    rcases Nat.lt_or_ge i l.length with h' | h'
    · exact h'
    · rw [List.getElem?_eq_none h'] at h; cases h
  rw [List.set_eq_take_append_cons_drop, if_pos hlt]
  simp [capsCells, List.flatMap_append]
theorem NodeM.setL {n : NodeM} {i : Nat} {c c' : CapM} (h : n.caps[i]? = some c) : SetL (.int .i64 n.radix :: capsCells n.caps) (1 + i * 6) c'.cells (.int .i64 n.radix :: capsCells (n.caps.set i c')) := by
  have hlt : i < n.caps.length := by
    rcases Nat.lt_or_ge i n.caps.length with h' | h'
    · exact h'
    · rw [List.getElem?_eq_none h'] at h; cases h
  refine setL_of (.int .i64 n.radix :: capsCells (n.caps.take i)) (capsCells (n.caps.drop (i + 1))) c.cells ?_ ?_ ?_ rfl
  · rw [capsCells_split h]; simp
  · rw [capsCells_set h]; simp
  · simp [capsCells_len, Nat.min_eq_left (Nat.le_of_lt hlt)]; omega

def NodeM.set (n : NodeM) (i : Nat) (c : CapM) : NodeM := { n with caps := n.caps.set i c }
def StoreM.setCap (S : StoreM) (s : SlotM) (c : CapM) : StoreM :=
  match nget s.1 S.nodes with
  | none => S
  | some n => S.setNode s.1 (n.set s.2.toNat c)

theorem StoreM.cap_some {S : StoreM} {s : SlotM} {c : CapM} (h : S.cap? s = some c) : ∃ n, nget s.1 S.nodes = some n ∧ n.has s.2 ∧ n.caps[s.2.toNat]? = some c ∧ S.addr s = some ⟨n.blk, 1 + s.2.toNat * 6, none⟩ := by
  unfold StoreM.cap? at h
  unfold StoreM.addr
  cases hn : nget s.1 S.nodes with
  | none => rw [hn] at h; cases h
  | some n =>
    rw [hn] at h
    simp only at h ⊢
    split at h
    · rename_i hh; exact ⟨n, rfl, hh, h, if_pos hh⟩
    · cases h
theorem StoreM.cap_none {S : StoreM} {s : SlotM} (hw : S.Wf) (h : S.cap? s = none) : S.addr s = none := by
  unfold StoreM.cap? at h
  unfold StoreM.addr
  cases hn : nget s.1 S.nodes with
  | none => rfl
  | some n =>
    rw [hn] at h
    simp only at h ⊢
    split at h
    · rename_i hh
      have h1 := (hw _ _ hn).1
      have h2 := h1.lt hh
      rw [List.getElem?_eq_none_iff] at h
      rw [h1.len] at h
      omega
    · rename_i hh; exact if_neg hh
theorem StoreM.setCap_eq {S : StoreM} {s : SlotM} {n : NodeM} (h : nget s.1 S.nodes = some n) (c : CapM) : S.setNode s.1 (n.set s.2.toNat c) = S.setCap s c := by
  unfold StoreM.setCap; rw [h]

/-- What Put answers, and leaves. -/
def StoreM.put (S : StoreM) (s : SlotM) (c : CapM) : Int × StoreM :=
  match S.cap? s with
  | none => (6, S)
  | some x => if checkM c ≠ 0 then (checkM c, S) else if c.kind = 0 then (3, S) else if x.kind ≠ 0 then (4, S) else (0, S.setCap s c)
def StoreM.take (S : StoreM) (s : SlotM) : CapM × Int × StoreM :=
  match S.cap? s with
  | none => (CapM.zero, 6, S)
  | some x => if x.kind = 0 then (CapM.zero, 3, S) else (x, 0, S.setCap s CapM.zero)
def StoreM.get (S : StoreM) (s : SlotM) : CapM × Int :=
  match S.cap? s with
  | none => (CapM.zero, 6)
  | some x => (x, 0)
def StoreM.radix (S : StoreM) (id : Int) : Int :=
  match nget id S.nodes with
  | none => 0
  | some n => n.radix

/-! ### A node that comes -/
theorem mput_new {id : Int} {v : Value} {t : Nat} : ∀ {l : List (Int × NodeM × Nat)}, nget id l = none → mput id v t (nodeKV l) = nodeKV l ++ [(id, v, t)]
  | [], _ => rfl
  | e :: l, h => by
    simp only [nget] at h
    split at h
    · cases h
    · rename_i hid
      have := mput_new (v := v) (t := t) h
      simp only [nodeKV, List.map_cons, mput, hid, if_false, List.cons_append] at this ⊢
      rw [this]
theorem mclk_new {id : Int} {cl : Nat} {l : List (Int × NodeM × Nat)} (h : nget id l = none) : mclk id (nodeKV l) cl = cl + 1 := by
  simp [mclk, mget_nodeKV, h]
def StoreM.addNode (S : StoreM) (id : Int) (b r : Nat) : StoreM := { S with nodes := S.nodes ++ [(id, ⟨b, r, zeroCaps⟩, S.clk)], clk := S.clk + 1 }
def storeMapU (sb : Nat) (S : StoreM) (o : Obj) : Hp := (sb, storeO S) :: (S.mb, o) :: nodesHp S.nodes
theorem StoreM.updMap {sb : Nat} {S : StoreM} {o : Obj} : Upd (storeHp sb S) S.mb o (storeMapU sb S o) := ⟨[(sb, storeO S)], nodesHp S.nodes, S.mapo, rfl, rfl⟩
theorem StoreM.add_perm {sb b r : Nat} {S : StoreM} {id : Int} {F : Hp} (h : nget id S.nodes = none) :
    ((b, .cells (.int .i64 (r : Int) :: capsCells zeroCaps).toArray 91) :: (storeMapU sb S (mapO encI (mput id (.pointer (some ⟨b, 0, none⟩)) S.clk (nodeKV S.nodes)) (mclk id (nodeKV S.nodes) S.clk)) ++ F)).Perm (storeHp sb (S.addNode id b r) ++ F) := by
  rw [mput_new h, mclk_new h]
  have e : storeHp sb (S.addNode id b r) = storeMapU sb S (mapO encI (nodeKV S.nodes ++ [(id, .pointer (some ⟨b, 0, none⟩), S.clk)]) (S.clk + 1)) ++ [(b, .cells (.int .i64 (r : Int) :: capsCells zeroCaps).toArray 91)] := by
    simp [storeHp, storeMapU, StoreM.addNode, StoreM.mapo, nodeKV, nodesHp, storeO, NodeM.o]
  rw [e, ← List.cons_append]
  exact (List.perm_append_singleton _ _).symm.append_right F
instance tyZNode : TyZ Try.prog 91 (.agg (.int .i64 0 :: capsCells zeroCaps).toArray) := ⟨by kernel_rfl⟩
instance tyZCaps : TyZ Try.prog 89 (.agg (capsCells zeroCaps).toArray) := ⟨by kernel_rfl⟩

theorem nget_app_none {id : Int} {l m : List (Int × NodeM × Nat)} (h : nget id l = none) : nget id (l ++ m) = nget id m := by
  induction l with
  | nil => rfl
  | cons e l ih =>
    simp only [nget] at h
    split at h
    · cases h
    · rename_i hid; simp [nget, hid, ih h]
theorem nget_app_some {id : Int} {n : NodeM} {l m : List (Int × NodeM × Nat)} (h : nget id l = some n) : nget id (l ++ m) = some n := by
  induction l with
  | nil => cases h
  | cons e l ih =>
    simp only [nget] at h
    simp only [List.cons_append, nget]
    split at h
    · rename_i hid; rw [if_pos hid]; exact h
    · rename_i hid; rw [if_neg hid]; exact ih h

end Go.Proofs.Ytdodfnjmkpgdbaa
