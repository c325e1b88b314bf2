/- Layer 7 in plain Lean, third part: dropping nodes, listing what is full, counting. No condition. -/
import Derived.Test.YtdodfnjmkpgdbaaM07c
import Derived.Test.YtdodfnjmkpgdbaaSX
set_option linter.unusedVariables false
set_option linter.unusedSimpArgs false
namespace Go.Proofs.Ytdodfnjmkpgdbaa
open Go.SL

/-! ### Lists of slots -/
abbrev slotCells (s : SlotM) : List Value := [.int .i64 s.1, .int .i64 s.2]
def slotsCells (l : List SlotM) : List Value := l.flatMap slotCells
theorem slotsCells_len (l : List SlotM) : (slotsCells l).length = l.length * 2 := by
  induction l with
  | nil => rfl
  | cons a l ih => simp [slotsCells] at ih ⊢; omega
theorem slotsCells_app (l m : List SlotM) : slotsCells (l ++ m) = slotsCells l ++ slotsCells m := by simp [slotsCells]
theorem slotsCells_flat (l : List SlotM) : slotsCells l = (l.map slotCells).flatten := by simp [slotsCells, List.flatMap_def]
theorem slots_reads {l : List SlotM} {i : Nat} {s : SlotM} (h : l[i]? = some s) : ((slotsCells l).drop (i * 2)).take 2 = slotCells s := by
  have hr := reads_flat (ls := l.map slotCells) (k := 2) (i := i) (x := slotCells s) (by rw [List.getElem?_map, h]; rfl) (by intro y hy; obtain ⟨q, _, rfl⟩ := List.mem_map.1 hy; rfl)
  rw [← slotsCells_flat] at hr
  rw [reads_iff] at hr
  have hlt := (List.getElem?_eq_some_iff.1 h).1
  have hl := slotsCells_len l
  apply List.ext_getElem?
  intro j
  rw [List.getElem?_take]
  by_cases hj : j < 2
  · rw [if_pos hj, List.getElem?_drop]
    match j, hj with
    | 0, _ => rw [hr 0 _ rfl]; rfl
    | 1, _ => rw [hr 1 _ rfl]; rfl
  · rw [if_neg hj, List.getElem?_eq_none (by simp; omega)]

/-! ### What is full -/
def nodeFull (id : Nat) (caps : List CapM) : Nat → List SlotM
  | 0 => []
  | j + 1 => nodeFull id caps j ++ (if (caps[j]?.getD CapM.zero).kind ≠ 0 then [((id : Int), (j : Int))] else [])
def full1 (S : StoreM) (id : Nat) : List SlotM :=
  match nget (id : Int) S.nodes with
  | none => []
  | some n => nodeFull id n.caps 16
def fullUpto (S : StoreM) : Nat → List SlotM
  | 0 => []
  | k + 1 => fullUpto S k ++ full1 S k
def fullM (S : StoreM) : List SlotM := fullUpto S 64
theorem nodeFull_len (id : Nat) (caps : List CapM) : ∀ j, (nodeFull id caps j).length ≤ j
  | 0 => Nat.le_refl _
  | j + 1 => by
    have := nodeFull_len id caps j
    unfold nodeFull
    rw [List.length_append]
    split <;> simp <;> omega
theorem full1_len (S : StoreM) (id : Nat) : (full1 S id).length ≤ 16 := by
  unfold full1
  split
  · simp
  · exact nodeFull_len _ _ _
theorem fullUpto_len (S : StoreM) : ∀ k, (fullUpto S k).length ≤ 16 * k
  | 0 => Nat.le_refl _
  | k + 1 => by
    have h1 := fullUpto_len S k
    have h2 := full1_len S k
    unfold fullUpto
    rw [List.length_append]; omega
theorem fullUpto_nil {S : StoreM} (h : S.nodes = []) : ∀ k, fullUpto S k = []
  | 0 => rfl
  | k + 1 => by simp [fullUpto, fullUpto_nil h k, full1, h, nget]
def nptr (S : StoreM) (id : Int) : Option Addr := (nget id S.nodes).map fun n => ⟨n.blk, 0, none⟩
theorem nptr_hm (S : StoreM) (id : Int) : (mget id (nodeKV S.nodes)).getD (.pointer none) = .pointer (nptr S id) := by
  rw [mget_nodeKV]; unfold nptr; cases nget id S.nodes <;> rfl
theorem nptr_some {S : StoreM} {id : Int} (h : (nptr S id).isSome = true) : ∃ n, nget id S.nodes = some n ∧ nptr S id = some ⟨n.blk, 0, none⟩ := by
  unfold nptr at h ⊢
  cases hn : nget id S.nodes with
  | none => rw [hn] at h; simp at h
  | some n => exact ⟨n, rfl, rfl⟩
theorem nptr_none {S : StoreM} {id : Int} (h : (nptr S id).isSome = false) : nget id S.nodes = none := by
  unfold nptr at h
  cases hn : nget id S.nodes with
  | none => rfl
  | some n => rw [hn] at h; simp at h
theorem NodeM.readsAll (n : NodeM) : Reads (.int .i64 n.radix :: capsCells n.caps) 1 (capsCells n.caps) := by
  have := @reads_split [.int .i64 n.radix] (capsCells n.caps) []
  simpa using this
theorem caps_reads {l : List CapM} {i : Nat} {c : CapM} (h : l[i]? = some c) : Reads (capsCells l) (i * 6) c.cells := by
  have := reads_flat (ls := l.map CapM.cells) (k := 6) (i := i) (x := c.cells) (by rw [List.getElem?_map, h]; rfl) (by intro y hy; obtain ⟨q, _, rfl⟩ := List.mem_map.1 hy; rfl)
  rwa [← List.flatMap_def] at this
theorem capsCells_nums (l : List CapM) : capsCells l = ((l.map CapM.nums).map (encK capK)).flatten := by
  rw [List.map_map, capsCells, List.flatMap_def]; rfl
theorem ev_caps (l : List CapM) : some (Value.agg (capsCells l).toArray) = some (.agg ((l.map CapM.nums).map (encK [.i64, .i64, .i64, .u64, .u64, .i64])).flatten.toArray) := by rw [capsCells_nums]; rfl
theorem zero_nums : (.agg (capsCells zeroCaps).toArray : Value) = .agg (((zeroCaps.map CapM.nums).map (encK capK)).flatten).toArray := by rw [capsCells_nums]

/-! ### A node that goes -/
def ndel (id : Int) : List (Int × NodeM × Nat) → List (Int × NodeM × Nat)
  | [] => []
  | e :: l => if id = e.1 then l else e :: ndel id l
theorem mdel_nodeKV (id : Int) : ∀ l, mdel id (nodeKV l) = nodeKV (ndel id l)
  | [] => rfl
  | e :: l => by
    simp only [nodeKV, List.map_cons, mdel, ndel]
    split
    · rfl
    · have := mdel_nodeKV id l
      simp only [nodeKV] at this
      rw [this]; rfl
def StoreM.delNode (S : StoreM) (id : Int) : StoreM := { S with nodes := ndel id S.nodes }
theorem StoreM.del_perm {sb : Nat} {S : StoreM} {id : Int} {n : NodeM} {F : Hp} (h : nget id S.nodes = some n) :
    (storeMapU sb S (mapO encI (mdel id (nodeKV S.nodes)) S.clk) ++ F).Perm ((n.blk, n.o) :: (storeHp sb (S.delNode id) ++ F)) := by
  rw [mdel_nodeKV]
  have hp : ∀ l, nget id l = some n → (nodesHp l).Perm ((n.blk, n.o) :: nodesHp (ndel id l)) := by
    intro l
    induction l with
    | nil => intro h; cases h
    | cons e l ih =>
      intro h
      simp only [nget] at h
      simp only [ndel]
      split at h
      · rename_i he; cases h; rw [if_pos he]; exact List.Perm.refl _
      · rename_i he
        rw [if_neg he]
        exact ((ih h).cons _).trans (List.Perm.swap _ _ _)
  have h1 := hp _ h
  have e : storeHp sb (S.delNode id) = (sb, storeO S) :: (S.mb, mapO encI (nodeKV (ndel id S.nodes)) S.clk) :: nodesHp (ndel id S.nodes) := rfl
  rw [e]
  unfold storeMapU
  have h2 := (((h1.cons (S.mb, mapO encI (nodeKV (ndel id S.nodes)) S.clk)).cons (sb, storeO S))).append_right F
  refine h2.trans ?_
  simp only [List.cons_append]
  exact ((List.Perm.swap _ _ _).cons _).trans (List.Perm.swap _ _ _)
/-- What Drop answers, and leaves. -/
def StoreM.drop (S : StoreM) (id : Int) : Int × StoreM :=
  match nget id S.nodes with
  | none => (3, S)
  | some n => if n.caps ≠ zeroCaps then (8, S) else (0, S.delNode id)
theorem drop_full {S : StoreM} {id : Int} {n : NodeM} (h : nget id S.nodes = some n) (hc : n.caps ≠ zeroCaps) : S.drop id = (8, S) := by
  unfold StoreM.drop; rw [h]; exact if_pos hc
theorem drop_empty {S : StoreM} {id : Int} {n : NodeM} (h : nget id S.nodes = some n) (hc : n.caps = zeroCaps) : S.drop id = (0, S.delNode id) := by
  unfold StoreM.drop; rw [h]; exact if_neg (fun e => e hc)
theorem nums_caps {l m : List CapM} : l.map CapM.nums ≠ m.map CapM.nums ↔ l ≠ m := by
  refine not_congr ⟨fun h => ?_, fun h => by rw [h]⟩
  exact List.map_inj_right (f := CapM.nums) (fun a b e => CapM.ext_nums e) |>.1 h

def StoreM.Uniq (S : StoreM) : Prop := (S.nodes.map Prod.fst).Nodup
theorem nget_notin {id : Int} : ∀ {l : List (Int × NodeM × Nat)}, id ∉ l.map Prod.fst → nget id l = none
  | [], _ => rfl
  | e :: l, h => by
    simp only [List.map_cons, List.mem_cons, not_or] at h
    simp only [nget]
    rw [if_neg h.1]; exact nget_notin h.2
theorem nget_none_notin {id : Int} : ∀ {l : List (Int × NodeM × Nat)}, nget id l = none → id ∉ l.map Prod.fst
  | [], _ => by simp
  | e :: l, h => by
    simp only [nget] at h
    split at h
    · cases h
    · rename_i he
      simp only [List.map_cons, List.mem_cons, not_or]
      exact ⟨he, nget_none_notin h⟩
theorem nget_ndel {id : Int} : ∀ {l : List (Int × NodeM × Nat)}, (l.map Prod.fst).Nodup → ∀ o, nget o (ndel id l) = if o = id then none else nget o l
  | [], _, o => by simp [ndel, nget]
  | e :: l, h, o => by
    simp only [List.map_cons, List.nodup_cons] at h
    simp only [ndel]
    by_cases he : id = e.1
    · rw [if_pos he]
      by_cases ho : o = id
      · rw [if_pos ho, ho, he]; exact nget_notin h.1
      · rw [if_neg ho]; simp only [nget]; rw [if_neg (by rw [← he]; exact ho)]
    · rw [if_neg he]
      simp only [nget]
      rw [nget_ndel h.2 o]
      by_cases ho : o = id
      · subst ho; simp [he]
      · simp [ho]
theorem ndel_sub {id : Int} : ∀ {l : List (Int × NodeM × Nat)}, (ndel id l).Sublist l
  | [] => List.Sublist.refl _
  | e :: l => by
    simp only [ndel]
    split
    · exact List.sublist_cons_self _ _
    · exact ndel_sub.cons_cons _
theorem ndel_uniq {S : StoreM} {id : Int} (h : S.Uniq) : (S.delNode id).Uniq := (ndel_sub.map Prod.fst).nodup h
theorem addNode_uniq {S : StoreM} {id : Int} {b r : Nat} (h : S.Uniq) (hn : nget id S.nodes = none) : (S.addNode id b r).Uniq := by
  unfold StoreM.Uniq StoreM.addNode
  rw [List.map_append]
  exact List.nodup_append.2 ⟨h, by simp, by simp; intro a t x hx e; exact nget_none_notin hn (List.mem_map.2 ⟨_, hx, e⟩)⟩
theorem nset_keys {id : Int} {n' : NodeM} : ∀ l : List (Int × NodeM × Nat), (nset id n' l).map Prod.fst = l.map Prod.fst
  | [] => rfl
  | e :: l => by
    simp only [nset]
    split
    · rfl
    · simp [nset_keys l]
theorem setCap_uniq {S : StoreM} {s : SlotM} {c : CapM} (h : S.Uniq) : (S.setCap s c).Uniq := by
  unfold StoreM.setCap
  split
  · exact h
  · unfold StoreM.Uniq StoreM.setNode; rw [nset_keys]; exact h

theorem slots_neq {l1 l2 : List SlotM} {i : Nat} {s1 s2 : SlotM} (h1 : l1[i]? = some s1) (h2 : l2[i]? = some s2) (hn : s1 ≠ s2) : ¬ l1 = l2 := fun e => by rw [e, h2] at h1; exact hn (Option.some.inj h1).symm
theorem slots_same {l1 l2 : List SlotM} (hl : l1.length = l2.length) (h : ∀ j, j < l1.length → l1[j]? = l2[j]?) : l1 = l2 := by
  apply List.ext_getElem?
  intro j
  rcases Nat.lt_or_ge j l1.length with h1 | h1
  · exact h j h1
  · rw [List.getElem?_eq_none h1, List.getElem?_eq_none (by omega)]
end Go.Proofs.Ytdodfnjmkpgdbaa
