/- RevokeDoes. Laid together by pack.py out of the texts in wip. -/
import Derived.Test.YtdodfnjmkpgdbaaGreatPRevokeDoes1
set_option linter.unusedVariables false
set_option linter.unusedSimpArgs false
set_option linter.unusedSectionVars false
section
set_option linter.unusedVariables false
set_option linter.unusedSimpArgs false
namespace Go.Proofs.YtdodfnjmkpgdbaaGreat
open Go.SL
abbrev slotCells (s : SlotM) : List Value := [.int .i64 s.1, .int .i64 s.2]
def slotsCells (l : List SlotM) : List Value := l.flatMap slotCells
theorem slotsCells_len (l : List SlotM) : (slotsCells l).length = l.length * 2 := by
 induction l with
 | nil => rfl
 | cons a l ih => simp [slotsCells] at ih ⊢; omega
theorem slotsCells_app (l m : List SlotM) : slotsCells (l ++ m) = slotsCells l ++ slotsCells m := by simp [slotsCells]
theorem slotsCells_flat (l : List SlotM) : slotsCells l = (l.map slotCells).flatten := by simp [slotsCells, List.flatMap_def]
theorem slots_reads {l : List SlotM} {i : Nat} {s : SlotM} (h : l[i]? = some s) : ((slotsCells l).drop (i * 2)).take 2 = slotCells s := by
 have hr := reads_flat (ls := l.map slotCells) (k := 2) (i := i) (x := slotCells s) (by rw [List.getElem?_map, h]; rfl) (by intro y hy; obtain ⟨q, _, rfl⟩ := List.mem_map.1 hy; rfl)
 rw [← slotsCells_flat] at hr
 rw [reads_iff] at hr
 have hlt := (List.getElem?_eq_some_iff.1 h).1
 have hl := slotsCells_len l
 apply List.ext_getElem?
 intro j
 rw [List.getElem?_take]
 by_cases hj : j < 2
 ·
  rw [if_pos hj, List.getElem?_drop]
  match j, hj with
  | 0, _ => rw [hr 0 _ rfl]; rfl
  | 1, _ => rw [hr 1 _ rfl]; rfl
 ·
  rw [if_neg hj, List.getElem?_eq_none (by simp; omega)]
def nodeFull (id : Nat) (caps : List CapM) : Nat → List SlotM
  | 0 => []
  | j + 1 => nodeFull id caps j ++ (if (caps[j]?.getD CapM.zero).kind ≠ 0 then [((id : Int), (j : Int))] else [])
def full1 (S : StoreM) (id : Nat) : List SlotM :=
  match nget (id : Int) S.nodes with
  | none => []
  | some n => nodeFull id n.caps 16
def fullUpto (S : StoreM) : Nat → List SlotM
  | 0 => []
  | k + 1 => fullUpto S k ++ full1 S k
def fullM (S : StoreM) : List SlotM := fullUpto S 64
theorem nodeFull_len (id : Nat) (caps : List CapM) : ∀ j, (nodeFull id caps j).length ≤ j
  | 0 => Nat.le_refl _
  | j + 1 => by
    have := nodeFull_len id caps j
    unfold nodeFull
    rw [List.length_append]
    split <;> simp <;> omega
theorem full1_len (S : StoreM) (id : Nat) : (full1 S id).length ≤ 16 := by
 unfold full1
 split
 ·
  simp
 ·
  exact nodeFull_len _ _ _
theorem fullUpto_len (S : StoreM) : ∀ k, (fullUpto S k).length ≤ 16 * k
  | 0 => Nat.le_refl _
  | k + 1 => by
    have h1 := fullUpto_len S k
    have h2 := full1_len S k
    unfold fullUpto
    rw [List.length_append]; omega
def nptr (S : StoreM) (id : Int) : Option Addr := (nget id S.nodes).map fun n => ⟨n.blk, 0, none⟩
theorem nptr_hm (S : StoreM) (id : Int) : (mget id (nodeKV S.nodes)).getD (.pointer none) = .pointer (nptr S id) := by
 rw [mget_nodeKV]; unfold nptr; cases nget id S.nodes <;> rfl
theorem nptr_some {S : StoreM} {id : Int} (h : (nptr S id).isSome = true) : ∃ n, nget id S.nodes = some n ∧ nptr S id = some ⟨n.blk, 0, none⟩ := by
 unfold nptr at h ⊢
 cases hn : nget id S.nodes with
 | none => rw [hn] at h; simp at h
 | some n => exact ⟨n, rfl, rfl⟩
theorem nptr_none {S : StoreM} {id : Int} (h : (nptr S id).isSome = false) : nget id S.nodes = none := by
 unfold nptr at h
 cases hn : nget id S.nodes with
 | none => rfl
 | some n => rw [hn] at h; simp at h
theorem NodeM.readsAll (n : NodeM) : Reads (.int .i64 n.radix :: capsCells n.caps) 1 (capsCells n.caps) := by
 have := @reads_split [.int .i64 n.radix] (capsCells n.caps) []
 simpa using this
theorem caps_reads {l : List CapM} {i : Nat} {c : CapM} (h : l[i]? = some c) : Reads (capsCells l) (i * 6) c.cells := by
 have := reads_flat (ls := l.map CapM.cells) (k := 6) (i := i) (x := c.cells) (by rw [List.getElem?_map, h]; rfl) (by intro y hy; obtain ⟨q, _, rfl⟩ := List.mem_map.1 hy; rfl)
 rwa [← List.flatMap_def] at this
theorem capsCells_nums (l : List CapM) : capsCells l = ((l.map CapM.nums).map (encK capK)).flatten := by
 rw [List.map_map, capsCells, List.flatMap_def]; rfl
theorem ev_caps (l : List CapM) : some (Value.agg (capsCells l).toArray) = some (.agg ((l.map CapM.nums).map (encK [.i64, .i64, .i64, .u64, .u64, .i64])).flatten.toArray) := by rw [capsCells_nums]; rfl
def ndel (id : Int) : List (Int × NodeM × Nat) → List (Int × NodeM × Nat)
  | [] => []
  | e :: l => if id = e.1 then l else e :: ndel id l
theorem mdel_nodeKV (id : Int) : ∀ l, mdel id (nodeKV l) = nodeKV (ndel id l)
  | [] => rfl
  | e :: l => by
    simp only [nodeKV, List.map_cons, mdel, ndel]
    split
    · rfl
    · have := mdel_nodeKV id l
      simp only [nodeKV] at this
      rw [this]; rfl
def StoreM.delNode (S : StoreM) (id : Int) : StoreM := { S with nodes := ndel id S.nodes }
theorem StoreM.del_perm {sb : Nat} {S : StoreM} {id : Int} {n : NodeM} {F : Hp} (h : nget id S.nodes = some n) :
    (storeMapU sb S (mapO encI (mdel id (nodeKV S.nodes)) S.clk) ++ F).Perm ((n.blk, n.o) :: (storeHp sb (S.delNode id) ++ F)) := by
  rw [mdel_nodeKV]
  have hp : ∀ l, nget id l = some n → (nodesHp l).Perm ((n.blk, n.o) :: nodesHp (ndel id l)) := by
    intro l
    induction l with
    | nil => intro h; cases h
    | cons e l ih =>
      intro h
      simp only [nget] at h
      simp only [ndel]
      split at h
      · rename_i he; cases h; rw [if_pos he]; exact List.Perm.refl _
      · rename_i he
        rw [if_neg he]
        exact ((ih h).cons _).trans (List.Perm.swap _ _ _)
  have h1 := hp _ h
  have e : storeHp sb (S.delNode id) = (sb, storeO S) :: (S.mb, mapO encI (nodeKV (ndel id S.nodes)) S.clk) :: nodesHp (ndel id S.nodes) := rfl
  rw [e]
  unfold storeMapU
  have h2 := (((h1.cons (S.mb, mapO encI (nodeKV (ndel id S.nodes)) S.clk)).cons (sb, storeO S))).append_right F
  refine h2.trans ?_
  simp only [List.cons_append]
  exact ((List.Perm.swap _ _ _).cons _).trans (List.Perm.swap _ _ _)
def StoreM.drop (S : StoreM) (id : Int) : Int × StoreM :=
  match nget id S.nodes with
  | none => (3, S)
  | some n => if n.caps ≠ zeroCaps then (8, S) else (0, S.delNode id)
theorem drop_full {S : StoreM} {id : Int} {n : NodeM} (h : nget id S.nodes = some n) (hc : n.caps ≠ zeroCaps) : S.drop id = (8, S) := by
 unfold StoreM.drop; rw [h]; exact if_pos hc
theorem drop_empty {S : StoreM} {id : Int} {n : NodeM} (h : nget id S.nodes = some n) (hc : n.caps = zeroCaps) : S.drop id = (0, S.delNode id) := by
 unfold StoreM.drop; rw [h]; exact if_neg (fun e => e hc)
theorem nums_caps {l m : List CapM} : l.map CapM.nums ≠ m.map CapM.nums ↔ l ≠ m := by
 refine not_congr ⟨fun h => ?_, fun h => by rw [h]⟩
 exact List.map_inj_right (f := CapM.nums) (fun a b e => CapM.ext_nums e) |>.1 h
def StoreM.Uniq (S : StoreM) : Prop := (S.nodes.map Prod.fst).Nodup
theorem nget_notin {id : Int} : ∀ {l : List (Int × NodeM × Nat)}, id ∉ l.map Prod.fst → nget id l = none
  | [], _ => rfl
  | e :: l, h => by
    simp only [List.map_cons, List.mem_cons, not_or] at h
    simp only [nget]
    rw [if_neg h.1]; exact nget_notin h.2
theorem nget_none_notin {id : Int} : ∀ {l : List (Int × NodeM × Nat)}, nget id l = none → id ∉ l.map Prod.fst
  | [], _ => by simp
  | e :: l, h => by
    simp only [nget] at h
    split at h
    · cases h
    · rename_i he
      simp only [List.map_cons, List.mem_cons, not_or]
      exact ⟨he, nget_none_notin h⟩
theorem nget_ndel {id : Int} : ∀ {l : List (Int × NodeM × Nat)}, (l.map Prod.fst).Nodup → ∀ o, nget o (ndel id l) = if o = id then none else nget o l
  | [], _, o => by simp [ndel, nget]
  | e :: l, h, o => by
    simp only [List.map_cons, List.nodup_cons] at h
    simp only [ndel]
    by_cases he : id = e.1
    · rw [if_pos he]
      by_cases ho : o = id
      · rw [if_pos ho, ho, he]; exact nget_notin h.1
      · rw [if_neg ho]; simp only [nget]; rw [if_neg (by rw [← he]; exact ho)]
    · rw [if_neg he]
      simp only [nget]
      rw [nget_ndel h.2 o]
      by_cases ho : o = id
      · subst ho; simp [he]
      · simp [ho]
theorem ndel_sub {id : Int} : ∀ {l : List (Int × NodeM × Nat)}, (ndel id l).Sublist l
  | [] => List.Sublist.refl _
  | e :: l => by
    simp only [ndel]
    split
    · exact List.sublist_cons_self _ _
    · exact ndel_sub.cons_cons _
theorem ndel_uniq {S : StoreM} {id : Int} (h : S.Uniq) : (S.delNode id).Uniq := (ndel_sub.map Prod.fst).nodup h
theorem addNode_uniq {S : StoreM} {id : Int} {b r : Nat} (h : S.Uniq) (hn : nget id S.nodes = none) : (S.addNode id b r).Uniq := by
 unfold StoreM.Uniq StoreM.addNode
 rw [List.map_append]
 exact List.nodup_append.2 ⟨h, by simp, by simp; intro a t x hx e; exact nget_none_notin hn (List.mem_map.2 ⟨_, hx, e⟩)⟩
theorem nset_keys {id : Int} {n' : NodeM} : ∀ l : List (Int × NodeM × Nat), (nset id n' l).map Prod.fst = l.map Prod.fst
  | [] => rfl
  | e :: l => by
    simp only [nset]
    split
    · rfl
    · simp [nset_keys l]
theorem setCap_uniq {S : StoreM} {s : SlotM} {c : CapM} (h : S.Uniq) : (S.setCap s c).Uniq := by
 unfold StoreM.setCap
 split
 ·
  exact h
 ·
  unfold StoreM.Uniq StoreM.setNode; rw [nset_keys]; exact h
theorem slots_neq {l1 l2 : List SlotM} {i : Nat} {s1 s2 : SlotM} (h1 : l1[i]? = some s1) (h2 : l2[i]? = some s2) (hn : s1 ≠ s2) : ¬ l1 = l2 := fun e => by rw [e, h2] at h1; exact hn (Option.some.inj h1).symm
theorem slots_same {l1 l2 : List SlotM} (hl : l1.length = l2.length) (h : ∀ j, j < l1.length → l1[j]? = l2[j]?) : l1 = l2 := by
 apply List.ext_getElem?
 intro j
 rcases Nat.lt_or_ge j l1.length with h1 | h1
 ·
  exact h j h1
 ·
  rw [List.getElem?_eq_none h1, List.getElem?_eq_none (by omega)]
end Go.Proofs.YtdodfnjmkpgdbaaGreat
end
section
set_option linter.unusedVariables false
set_option linter.unusedSimpArgs false
namespace Go.Proofs.YtdodfnjmkpgdbaaGreat
open Go.SL
def StoreM.Tidy (S : StoreM) : Prop := ∀ id n i c, nget id S.nodes = some n → n.caps[i]? = some c → c.kind ≠ 0 → i < 2 ^ n.radix ∧ checkM c = 0
theorem tidy_new {S : StoreM} (h : S.nodes = []) : S.Tidy := by intro id n i c hn; rw [h] at hn; cases hn
theorem tidy_add {S : StoreM} (hw : S.Tidy) {id : Int} (h : nget id S.nodes = none) (b r : Nat) : (S.addNode id b r).Tidy := by
 intro o n i c hn hc hk
 rw [addNode_nget h] at hn
 split at hn
 ·
  cases hn
  rw [List.eq_of_mem_replicate (List.mem_of_getElem? hc)] at hk
  exact absurd rfl hk
 ·
  exact hw o n i c hn hc hk
theorem mem_nodeFull {id : Nat} {caps : List CapM} : ∀ {j : Nat} {s : SlotM}, s ∈ nodeFull id caps j → ∃ i, i < j ∧ s = ((id : Int), (i : Int)) ∧ (caps[i]?.getD CapM.zero).kind ≠ 0
  | 0, s, h => by cases h
  | j + 1, s, h => by
    unfold nodeFull at h
    rcases List.mem_append.1 h with h | h
    · obtain ⟨i, hi, e⟩ := mem_nodeFull h
      exact ⟨i, by omega, e⟩
    · split at h
      · rename_i hk
        rw [List.mem_singleton] at h
        exact ⟨j, by omega, h, hk⟩
      · cases h
theorem mem_full {S : StoreM} : ∀ {k : Nat} {s : SlotM}, s ∈ fullUpto S k → ∃ id i n c, id < k ∧ s = (((id : Nat) : Int), ((i : Nat) : Int)) ∧ nget s.1 S.nodes = some n ∧ n.caps[i]? = some c ∧ c.kind ≠ 0
  | 0, s, h => by cases h
  | k + 1, s, h => by
    unfold fullUpto at h
    rcases List.mem_append.1 h with h | h
    · obtain ⟨id, i, n, c, h1, h2⟩ := mem_full h
      exact ⟨id, i, n, c, by omega, h2⟩
    · unfold full1 at h
      split at h
      · cases h
      · rename_i n hn
        obtain ⟨i, hi, rfl, hk⟩ := mem_nodeFull h
        cases hc : n.caps[i]? with
        | none => rw [hc] at hk; exact absurd rfl hk
        | some c => rw [hc] at hk; exact ⟨k, i, n, c, by omega, rfl, hn, hc, hk⟩
theorem full_cap {S : StoreM} (ht : S.Tidy) {s : SlotM} (h : s ∈ fullM S) : ∃ n c, nget s.1 S.nodes = some n ∧ n.caps[s.2.toNat]? = some c ∧ c.kind ≠ 0 ∧ checkM c = 0 ∧ S.addr s = some ⟨n.blk, 1 + s.2.toNat * 6, none⟩ ∧ S.get s = (c, 0) := by
 obtain ⟨id, i, n, c, _, rfl, hn, hc, hk⟩ := mem_full h
 obtain ⟨h1, h2⟩ := ht _ n i c hn hc hk
 have hh : n.has ((i : Nat) : Int) := ⟨by omega, by omega⟩
 refine ⟨n, c, hn, by simpa using hc, hk, h2, ?_, ?_⟩
 ·
  unfold StoreM.addr; rw [hn]; exact if_pos hh
 ·
  unfold StoreM.get StoreM.cap?; rw [hn]; dsimp only; rw [if_pos hh]; simp only [Int.toNat_natCast, hc]
def isKO (S : StoreM) (k o : Int) (s : SlotM) : Bool := decide ((S.get s).1.kind = k) && decide ((S.get s).1.object = o)
def cntUpto (S : StoreM) (k o : Int) (i : Nat) : Nat := ((fullM S).take i).countP (isKO S k o)
def countM (S : StoreM) (k o : Int) : Nat := (fullM S).countP (isKO S k o)
theorem cntUpto_succ {S : StoreM} {k o : Int} {i : Nat} {s : SlotM} (h : (fullM S)[i]? = some s) : cntUpto S k o (i + 1) = cntUpto S k o i + if isKO S k o s then 1 else 0 := by
 unfold cntUpto
 rw [List.take_add_one, h, List.countP_append]
 simp [List.countP_cons]
theorem cntUpto_zero (S : StoreM) (k o : Int) : cntUpto S k o 0 = 0 := by unfold cntUpto; simp
theorem cntUpto_all (S : StoreM) (k o : Int) : cntUpto S k o (fullM S).length = countM S k o := by unfold cntUpto countM; rw [List.take_length]
theorem cntUpto_le (S : StoreM) (k o : Int) (i : Nat) : cntUpto S k o i ≤ 1024 := by
 have h1 := List.countP_le_length (p := isKO S k o) (l := (fullM S).take i)
 have h2 := fullUpto_len S 64
 rw [List.length_take] at h1
 unfold cntUpto fullM at *
 omega
def lexlt (a b : SlotM) : Prop := a.1 < b.1 ∨ a.1 = b.1 ∧ a.2 < b.2
theorem nodeFull_sorted (id : Nat) (caps : List CapM) : ∀ j, (nodeFull id caps j).Pairwise lexlt
  | 0 => List.Pairwise.nil
  | j + 1 => by
    unfold nodeFull
    rw [List.pairwise_append]
    refine ⟨nodeFull_sorted id caps j, by split <;> simp, fun a ha b hb => ?_⟩
    obtain ⟨i, hi, rfl, _⟩ := mem_nodeFull ha
    split at hb
    · rw [List.mem_singleton] at hb; subst hb; exact .inr ⟨rfl, by dsimp only; omega⟩
    · cases hb
theorem full1_fst {S : StoreM} {id : Nat} {s : SlotM} (h : s ∈ full1 S id) : s.1 = (id : Int) := by
 unfold full1 at h
 split at h
 ·
  cases h
 ·
  obtain ⟨i, _, rfl, _⟩ := mem_nodeFull h; rfl
theorem fullUpto_sorted (S : StoreM) : ∀ k, (fullUpto S k).Pairwise lexlt
  | 0 => List.Pairwise.nil
  | k + 1 => by
    unfold fullUpto
    rw [List.pairwise_append]
    refine ⟨fullUpto_sorted S k, ?_, fun a ha b hb => ?_⟩
    · unfold full1; split
      · exact List.Pairwise.nil
      · exact nodeFull_sorted _ _ _
    · obtain ⟨id, i, n, c, hid, rfl, _⟩ := mem_full ha
      exact .inl (by rw [full1_fst hb]; dsimp only; omega)
theorem full_len (S : StoreM) : (fullM S).length ≤ 1024 := fullUpto_len S 64
attribute [irreducible] countM cntUpto
structure OpM where
  kind : Int
  slot : SlotM
  n : Int
  c : CapM
abbrev OpM.cells (o : OpM) : List Value := [.int .i64 o.kind, .int .i64 o.slot.1, .int .i64 o.slot.2, .int .i64 o.n, .int .i64 o.c.kind, .int .i64 o.c.object, .int .i64 o.c.rights, .int .u64 o.c.badge, .int .u64 o.c.guard, .int .i64 o.c.bits]
end Go.Proofs.YtdodfnjmkpgdbaaGreat
end
section
set_option linter.unusedVariables false
set_option linter.unusedSimpArgs false
namespace Go.Proofs.YtdodfnjmkpgdbaaGreat
open Go.SL
section maps
variable {κ : Type} [DecidableEq κ]
theorem mget_mput (k : κ) (v : Value) (t : Nat) : ∀ (l : List (κ × Value × Nat)) (o : κ), mget o (mput k v t l) = if o = k then some v else mget o l
  | [], o => by simp [mput, mget]
  | e :: l, o => by
    simp only [mput]
    by_cases hk : k = e.1
    · subst hk
      simp only [if_true, mget]
      by_cases ho : o = e.1
      · simp [ho]
      · simp [ho]
    · simp only [if_neg hk, mget]
      by_cases ho : o = e.1
      · have : o ≠ k := fun h => hk (h ▸ ho)
        simp [ho, Ne.symm hk]
      · simp only [if_neg ho, mget_mput k v t l o]
end maps
structure Four (S : StoreM) : Prop where
  wf : S.Wf
  tidy : S.Tidy
  rad : ∀ id : Int, S.radix id = if 0 ≤ id ∧ id < 4 then id + 1 else 0
end Go.Proofs.YtdodfnjmkpgdbaaGreat
end
section
set_option linter.unusedVariables false
set_option linter.unusedSimpArgs false
set_option linter.unusedSectionVars false
namespace Go.Proofs.YtdodfnjmkpgdbaaGreat
open Go.SL
structure InMap (S : StoreM) (M : List (SlotM × Value × Nat)) : Prop where
  nd : (M.map Prod.fst).Nodup
  zero : ∀ s, (S.get s).1.kind = 0 → (S.get s).1 = CapM.zero
  get : ∀ s, mget s M = if (S.get s).1.kind ≠ 0 then some (S.get s).1.v else none
theorem InMap.val {S : StoreM} {M : List (SlotM × Value × Nat)} (h : InMap S M) (s : SlotM) : (mget s M).getD CapM.zero.v = (S.get s).1.v := by
 rw [h.get]
 by_cases hk : (S.get s).1.kind ≠ 0
 ·
  rw [if_pos hk]; rfl
 ·
  rw [if_neg hk, h.zero s (by omega)]; rfl
theorem InMap.ok {S : StoreM} {M : List (SlotM × Value × Nat)} (h : InMap S M) (s : SlotM) : (mget s M).isSome = decide ((S.get s).1.kind ≠ 0) := by
 rw [h.get]
 by_cases hk : (S.get s).1.kind ≠ 0
 ·
  rw [if_pos hk, decide_eq_true hk]; rfl
 ·
  rw [if_neg hk, decide_eq_false hk]; rfl
theorem get_set {S : StoreM} {s : SlotM} {x : CapM} (h : S.cap? s = some x) (c : CapM) (t : SlotM) : (S.setCap s c).get t = if t = s then (c, 0) else S.get t := by
 unfold StoreM.get
 rw [setCap_cap h]
 by_cases ht : t = s
 ·
  rw [if_pos ht, if_pos ht]
 ·
  rw [if_neg ht, if_neg ht]
theorem Four.set {S : StoreM} (h : Four S) {s : SlotM} {x : CapM} (hx : S.cap? s = some x) {c : CapM} (hc : c.kind ≠ 0 → checkM c = 0) : Four (S.setCap s c) := by
 refine ⟨setCap_wf hx _ h.wf, ?_, fun id => by rw [setCap_radix hx]; exact h.rad id⟩
 intro o n i d hn hd hk
 obtain ⟨m, hm, hh, hmc, e⟩ := setCap_nget hx c o
 rw [e] at hn
 split at hn
 ·
  cases hn
  by_cases hi : i = s.2.toNat
  ·
   subst hi
   have hl := (List.getElem?_eq_some_iff.1 hmc).1
   simp only [NodeM.set, List.getElem?_set_self hl] at hd
   cases hd
   have := hh.1; have := hh.2
   exact ⟨by simp only [NodeM.set]; omega, hc hk⟩
  ·
   have : s.2.toNat ≠ i := fun e => hi e.symm
   simp only [NodeM.set, List.getElem?_set_ne this] at hd
   exact h.tidy _ m i d hm hd hk
 ·
  exact h.tidy o n i d hn hd hk
section take
variable {S : StoreM} {M : List (SlotM × Value × Nat)} (h : InMap S M) (hf : Four S) (s : SlotM)
include h hf
end take
section put
variable {S : StoreM} {M : List (SlotM × Value × Nat)} (h : InMap S M) (hf : Four S) (s : SlotM) (c : CapM)
include h hf
end put
end Go.Proofs.YtdodfnjmkpgdbaaGreat
end
section
set_option linter.unusedVariables false
set_option linter.unusedSimpArgs false
namespace Go.SL
theorem SubE.app : ∀ {A B E : Env}, SubE A E → SubE B E → SubE (A ++ B) E
  | [], _, _, _, h => h
  | (_, _) :: _, _, _, h, k => ⟨h.1, SubE.app h.2 k⟩
instance (priority := 1300) TakeS.nil {L : Hp} : TakeS L [] L := ⟨List.Perm.refl _⟩
section loop
variable {P : Program} {W : World} {Q : Exit → Act → World → Prop} {n : Nat} {D : List Deferred} {E : Env} {L : Hp}
theorem Wp.loopK {σ : Type} {c : Code} (K : Env) (V : σ → Env) (LI : σ → Hp) (I : σ → Prop) (μ : σ → Nat) (x0 : σ) (hI : I x0) (hK : SubE K E) (hE : SubE (V x0) E) (hL : ∀ w, Own W w L → Own W w (LI x0))
    (round : ∀ (x : σ) (G : Act → World → Prop), I x → (∀ y, I y → μ y < μ x → Goes W G n D (V y ++ K) (LI y)) → Wp P W (Exit.then G Q) n D c (V x ++ K) (LI x)) :
    Wp P W Q n D (.loop c) E L := Wp.loop (fun x => V x ++ K) LI I μ x0 hI (hE.app hK) hL round
end loop
def cv (p : Prop) [Decidable p] (v : Value) : Value := if p then v else undef
theorem cv_pos {p : Prop} [Decidable p] {v : Value} (h : p) : cv p v = v := if_pos h
section joins
variable {P : Program} {W : World} {ops : Array Oper} {Q : Exit → Act → World → Prop} {n : Nat} {D : List Deferred} {E : Env} {L : Hp} {rest : List Oper} {d : Nat} {op : Op} {ty : TypeId} {pos : String} {aft : Array Edge} {v : Value} {dd : Option Tmp} {g : Option (Nat × Bool)}
theorem Pv.setE {t : Nat} {u r : Value} {o : Oper} (hl : look t E = some u) (hu : u = v) (h : Pv P n D ((t, v) :: E) L o r) : Pv P n D E L o r := by
 unfold Pv at h ⊢
 intro a w hs hh
 exact h a w (hs.set hl hu) hh
theorem Ops.pvc {j t : Nat} {p : Prop} [Decidable p] (ht : (ops[j]?).bind (·.dst) = some t) (hl : look t E = some (.bool (decide p))) (hp : p → Pv P n D E L ⟨some d, op, ty, pos, aft, some (j, true)⟩ v) (hd : Nat.blt d n = true)
    (hn : Ops P W ops Q n D rest ((d, cv p v) :: E) L) : Ops P W ops Q n D (⟨some d, op, ty, pos, aft, some (j, true)⟩ :: rest) E L := by
  by_cases h : p
  · have hl' : look t E = some (.bool true) := by rw [hl, decide_eq_true h]
    rw [cv_pos h] at hn
    exact Ops.pvg ⟨t, true, ht, hl', rfl⟩ (hp h) hd hn
  · have hl' : look t E = some (.bool false) := by rw [hl, decide_eq_false h]
    rw [cv, if_neg h] at hn
    exact Ops.skipg ⟨t, false, ht, hl', rfl⟩ hd hn
theorem Ops.pvcn {j t : Nat} {p : Prop} [Decidable p] (ht : (ops[j]?).bind (·.dst) = some t) (hl : look t E = some (.bool (decide p))) (hp : ¬ p → Pv P n D E L ⟨some d, op, ty, pos, aft, some (j, false)⟩ v) (hd : Nat.blt d n = true)
    (hn : Ops P W ops Q n D rest ((d, cv (¬ p) v) :: E) L) : Ops P W ops Q n D (⟨some d, op, ty, pos, aft, some (j, false)⟩ :: rest) E L := by
  by_cases h : p
  · have hl' : look t E = some (.bool true) := by rw [hl, decide_eq_true h]
    rw [cv, if_neg (not_not_intro h)] at hn
    exact Ops.skipg ⟨t, true, ht, hl', rfl⟩ hd hn
  · have hl' : look t E = some (.bool false) := by rw [hl, decide_eq_false h]
    rw [cv_pos h] at hn
    exact Ops.pvg ⟨t, false, ht, hl', rfl⟩ (hp h) hd hn
theorem AnyH.takec {S : Hp} {fuel : Nat} {listed : Array Bool} {j t : Nat} {p : Prop} [Decidable p] (i : Nat) (hi : ops[i]? = some ⟨some d, op, ty, pos, aft, some (j, true)⟩) (hsel : Region.noSelect ops = true) (hf : Region.free .any ops listed i = true) (hr : (Region.ready .any ops listed).contains i = true)
    (hQ : PanicsFree Q) (ht : (ops[j]?).bind (·.dst) = some t) (hl : look t E = some (.bool (decide p))) [hS : HeldSub L S] (hp : p → Pv P n D E S ⟨some d, op, ty, pos, aft, some (j, true)⟩ v) (hd : Nat.blt d n = true)
    (hn : AnyH P W ops Q n D S fuel (listed.setIfInBounds i true) ((d, cv p v) :: E) L) : AnyH P W ops Q n D S (fuel + 1) listed E L := by
  by_cases h : p
  · have hl' : look t E = some (.bool true) := by rw [hl, decide_eq_true h]
    rw [cv_pos h] at hn
    exact AnyH.take i hi hsel hf hr hQ ⟨t, true, ht, hl', rfl⟩ (hp h) hd hn
  · have hl' : look t E = some (.bool false) := by rw [hl, decide_eq_false h]
    rw [cv, if_neg h] at hn
    exact AnyH.skip i hi hsel hf hr hQ ⟨t, false, ht, hl', rfl⟩ hd hn
theorem pv_pick_and {x y : Operand} {p q : Prop} [Decidable p] [Decidable q] (hc : ev E x = some (.bool (decide p))) (hy : ev E y = some (cv p (.bool (decide q)))) : Pv P n D E L ⟨dd, .pick x y (.const (.bool false)), ty, pos, aft, g⟩ (.bool (decide (p ∧ q))) := by
 by_cases h : p
 ·
  rw [cv_pos h] at hy
  rw [decide_eq_true h] at hc
  have e : decide (p ∧ q) = decide q := by simp [h]
  rw [e]; exact pv_pick_true hc hy
 ·
  rw [decide_eq_false h] at hc
  have e : decide (p ∧ q) = false := by simp [h]
  rw [e]; exact pv_pick_false hc rfl
theorem pv_pick_or {x y : Operand} {p q : Prop} [Decidable p] [Decidable q] (hc : ev E x = some (.bool (decide p))) (hy : ev E y = some (cv (¬ p) (.bool (decide q)))) : Pv P n D E L ⟨dd, .pick x (.const (.bool true)) y, ty, pos, aft, g⟩ (.bool (decide (p ∨ q))) := by
 by_cases h : p
 ·
  rw [decide_eq_true h] at hc
  have e : decide (p ∨ q) = true := by simp [h]
  rw [e]; exact pv_pick_true hc rfl
 ·
  rw [cv_pos h] at hy
  rw [decide_eq_false h] at hc
  have e : decide (p ∨ q) = decide q := by simp [h]
  rw [e]; exact pv_pick_false hc hy
end joins
def fset {α : Type} (f : Nat → α) (i : Nat) (a : α) : Nat → α := fun j => if j = i then a else f j
theorem fset_same {α : Type} (f : Nat → α) (i : Nat) (a : α) : fset f i a i = a := if_pos rfl
theorem fset_ne {α : Type} {f : Nat → α} {i j : Nat} {a : α} (h : j ≠ i) : fset f i a j = f j := if_neg h
theorem fset_fset {α : Type} (f : Nat → α) (i : Nat) (a b : α) : fset (fset f i a) i b = fset f i b := by
 funext j; unfold fset; split <;> rfl
def segs (h : Nat → Hp) (n : Nat) : Hp := (List.range n).flatMap h
theorem segs_succ (h : Nat → Hp) (n : Nat) : segs h (n + 1) = segs h n ++ h n := by
 unfold segs; rw [List.range_succ, List.flatMap_append]; simp
theorem segs_congr {h k : Nat → Hp} : ∀ {n : Nat}, (∀ i, i < n → h i = k i) → segs h n = segs k n
  | 0, _ => rfl
  | n + 1, e => by rw [segs_succ, segs_succ, segs_congr (fun i hi => e i (by omega)), e n (by omega)]
theorem segs_take {h : Nat → Hp} {i : Nat} : ∀ {n : Nat}, i < n → (segs h n).Perm (h i ++ segs (fset h i []) n)
  | 0, hi => by omega
  | n + 1, hi => by
    rw [segs_succ, segs_succ]
    by_cases e : i = n
    · subst e
      rw [fset_same, List.append_nil, segs_congr (h := fset h i []) (k := h) (fun j hj => fset_ne (by omega))]
      exact List.perm_append_comm
    · have ih := segs_take (h := h) (i := i) (n := n) (by omega)
      rw [fset_ne (show n ≠ i by omega), ← List.append_assoc]
      exact ih.append_right _
theorem segs_put {h : Nat → Hp} {i n : Nat} {H : Hp} (hi : i < n) : (H ++ segs (fset h i []) n).Perm (segs (fset h i H) n) := by
 have := segs_take (h := fset h i H) hi
 rw [fset_same, fset_fset] at this
 exact this.symm
theorem segs_mem {h : Nat → Hp} {i n : Nat} (hi : i < n) {p : Nat × Obj} (hp : p ∈ h i) : p ∈ segs h n :=
  (segs_take hi).mem_iff.2 (List.mem_append_left _ hp)
section segops
variable {P : Program} {W : World} {ops : Array Oper} {Q : Exit → Act → World → Prop} {n : Nat} {D : List Deferred} {E : Env} {L R R1 R2 : Hp} {rest : List Oper} {h : Nat → Hp} {m k : Nat} {H : Hp}
theorem Own.openS {w : World} (hk : k < m) (t : TakeS L (segs h m) R) (o : Own W w L) : Own W w (h k ++ (segs (fset h k []) m ++ R)) :=
  o.perm (t.perm.trans (by rw [← List.append_assoc]; exact (segs_take hk).append_right R))
theorem Own.closeS {w : World} (hk : k < m) (t : TakeS L (segs (fset h k []) m) R1) (u : Part R1 H R2) (o : Own W w L) : Own W w (segs (fset h k H) m ++ R2) :=
  o.perm (t.perm.trans ((List.Perm.append_left _ u.perm).trans (by
    rw [← List.append_assoc]
    exact (List.perm_append_comm.trans (segs_put hk)).append_right R2)))
theorem Ops.openS (h : Nat → Hp) (m k : Nat) (hk : k < m) [t : TakeS L (segs h m) R] (hn : Ops P W ops Q n D rest E (h k ++ (segs (fset h k []) m ++ R))) : Ops P W ops Q n D rest E L := Ops.heap (fun w o => o.openS hk t) hn
theorem Wp.openS {c : Code} (h : Nat → Hp) (m k : Nat) (hk : k < m) [t : TakeS L (segs h m) R] (hn : Wp P W Q n D c E (h k ++ (segs (fset h k []) m ++ R))) : Wp P W Q n D c E L := Wp.heap (fun w o => o.openS hk t) hn
theorem Ops.closeS (h : Nat → Hp) (m k : Nat) (H : Hp) (hk : k < m) [t : TakeS L (segs (fset h k []) m) R1] [u : Part R1 H R2] (hn : Ops P W ops Q n D rest E (segs (fset h k H) m ++ R2)) : Ops P W ops Q n D rest E L := Ops.heap (fun w o => o.closeS hk t u) hn
theorem Wp.closeS {c : Code} (h : Nat → Hp) (m k : Nat) (H : Hp) (hk : k < m) [t : TakeS L (segs (fset h k []) m) R1] [u : Part R1 H R2] (hn : Wp P W Q n D c E (segs (fset h k H) m ++ R2)) : Wp P W Q n D c E L := Wp.heap (fun w o => o.closeS hk t u) hn
theorem Ends.closeS {e : Exit} (h : Nat → Hp) (m k : Nat) (H : Hp) (hk : k < m) [t : TakeS L (segs (fset h k []) m) R1] [u : Part R1 H R2] (hn : Ends W Q n D e E (segs (fset h k H) m ++ R2)) : Ends W Q n D e E L := Ends.heap (fun w o => o.closeS hk t u) hn
theorem Goes.closeS {Kk : Act → World → Prop} (h : Nat → Hp) (m k : Nat) (H : Hp) (hk : k < m) [t : TakeS L (segs (fset h k []) m) R1] [u : Part R1 H R2] (hn : Goes W Kk n D E (segs (fset h k H) m ++ R2)) : Goes W Kk n D E L := by
 unfold Goes at hn ⊢
 exact fun a w hs ho => hn a w hs (ho.closeS hk t u)
end segops
theorem Tr.post {P : Program} {f : FuncId} {args : List Value} {L : Hp} {R R' : Value → Hp → Prop} (h : Tr P f args L R) (hr : ∀ v L1, R v L1 → ∃ L2, R' v L2 ∧ L1.Perm L2) : Tr P f args L R' := by
 unfold Tr at h ⊢
 intro W w F ho
 refine (h W w F ho).mono ?_
 rintro e w' ⟨v, L1, he, hR, ho'⟩
 obtain ⟨L2, h2, hp⟩ := hr v L1 hR
 exact ⟨v, L2, he, h2, ho'.perm (hp.append_right F)⟩
class Enc {α : Type} (f : α → List Value) (k : outParam Nat) : Prop where
  len : ∀ a, (f a).length = k
  one : ∀ a, (f a).all Value.oneCell' = true
def cel {α : Type} (f : α → List Value) (l : List α) : List Value := (l.map f).flatten
section cel
variable {α : Type} {f : α → List Value} {k : Nat}
theorem cel_cons (a : α) (l : List α) : cel f (a :: l) = f a ++ cel f l := by simp [cel]
theorem cel_app (l m : List α) : cel f (l ++ m) = cel f l ++ cel f m := by simp [cel]
theorem cel_one1 (a : α) : cel f [a] = f a := by simp [cel]
theorem cel_len [h : Enc f k] (l : List α) : (cel f l).length = l.length * k := by
 induction l with
 | nil => simp [cel]
 | cons a l ih => rw [cel_cons, List.length_append, h.len, ih, List.length_cons, Nat.add_mul, Nat.one_mul, Nat.add_comm]
theorem cel_one [h : Enc f k] (l : List α) : (cel f l).all Value.oneCell' = true := by
 induction l with
 | nil => rfl
 | cons a l ih => rw [cel_cons, List.all_append, h.one, ih]; rfl
theorem cel_take [h : Enc f k] : ∀ (l : List α) (i : Nat), (cel f l).take (i * k) = cel f (l.take i)
  | [], i => by simp [cel]
  | a :: l, 0 => by simp [cel]
  | a :: l, i + 1 => by
    rw [cel_cons, List.take_succ_cons, cel_cons, List.take_append, h.len, List.take_of_length_le (by rw [h.len, Nat.add_mul]; omega)]
    rw [show (i + 1) * k - k = i * k by rw [Nat.add_mul]; omega, cel_take l i]
theorem cel_drop [h : Enc f k] : ∀ (l : List α) (i : Nat), (cel f l).drop (i * k) = cel f (l.drop i)
  | [], i => by simp [cel]
  | a :: l, 0 => by simp [cel]
  | a :: l, i + 1 => by
    rw [cel_cons, List.drop_succ_cons, List.drop_append, h.len, List.drop_of_length_le (by rw [h.len, Nat.add_mul]; omega)]
    rw [show (i + 1) * k - k = i * k by rw [Nat.add_mul]; omega, cel_drop l i, List.nil_append]
theorem cel_slice [h : Enc f k] (l : List α) (i j : Nat) : ((cel f l).drop (i * k)).take (j * k) = cel f ((l.drop i).take j) := by rw [cel_drop, cel_take]
theorem cel_reads [h : Enc f k] {cc : List Value} {o i : Nat} {l : List α} {a : α} (hr : Reads cc o (cel f l)) (hi : l[i]? = some a) : Reads cc (o + i * k) (f a) := by
 have h1 := hr.sub (i := i * k) (l := 1 * k)
 rw [cel_slice] at h1
 have hlt := (List.getElem?_eq_some_iff.1 hi).1
 have e : (l.drop i).take 1 = [a] := by
  rw [List.drop_eq_getElem_cons hlt]; simp [(List.getElem?_eq_some_iff.1 hi).2]
 rw [e, cel_one1] at h1
 exact h1
theorem View.part [h : Enc f k] {G : Hp} {a : Option Addr} {c : Nat} {l : List α} (hv : View G k (.slice a l.length c) l.length (cel f l)) {i j : Nat} (h1 : i ≤ j) (h2 : j ≤ l.length) :
    View G k (.slice (if c = i then a else a.map (·.add (i * k))) ((l.drop i).take (j - i)).length (c - i)) ((l.drop i).take (j - i)).length (cel f ((l.drop i).take (j - i))) := by
  have hh := hv.slice h1 h2
  rw [cel_slice] at hh
  have e : ((l.drop i).take (j - i)).length = j - i := by rw [List.length_take, List.length_drop]; omega
  rw [e]; exact hh
end cel
theorem slc_empty' (T sz b : Nat) : Slc T sz (.slice (some ⟨b, 0, none⟩) 0 0) 0 [] [(b, .cells ([] : List Value).toArray T)] := ⟨by simp, .inr ⟨b, [], [], 0, rfl, Nat.le_refl _, by simp, rfl⟩⟩
theorem view_nil' {G : Hp} {sz n c : Nat} {cs : List Value} (h : View G sz (.slice none n c) n cs) : n = 0 ∧ cs = [] := by
 obtain ⟨hl, a, c', e, _, h4⟩ := h
 cases e
 rcases h4 with rfl | ⟨b, o, cc, T, f, e, _⟩
 ·
  exact ⟨rfl, List.eq_nil_of_length_eq_zero (by omega)⟩
 ·
  cases e
theorem fill_congr {f g : Nat → Option (Nat × Nat)} : ∀ {parts : List (Nat × Value)} {zs : Array Value}, (∀ p, p ∈ parts → f p.1 = g p.1) → Instr.fill f zs parts = Instr.fill g zs parts
  | [], _, _ => by simp [Instr.fill]
  | (i, v) :: parts, zs, h => by
    have h0 := h (i, v) (List.mem_cons_self ..)
    dsimp only at h0
    simp only [Instr.fill, h0]
    cases g i with
    | none => rfl
    | some ab =>
      obtain ⟨a, b⟩ := ab
      dsimp only
      split
      · rfl
      · exact fill_congr (fun p hp => h p (List.mem_cons_of_mem _ hp))
section buildn
variable {P : Program} {W : World} {n : Nat} {D : List Deferred} {E : Env} {L : Hp} {ty : TypeId} {pos : String} {aft : Array Edge} {g : Option (Nat × Bool)} {T : TypeId}
theorem ef_buildSliceN {d : Nat} {e m k : Nat} {zv : Value} {parts : List (Nat × Operand)} {vs : List (Nat × Value)} {cs : List Value} (zs : List Value) (pl : List (Nat × Nat)) [ht : TyD P T (.slice e)] [hk : TyS P e k] [hz : TyZ P e zv] (hx : evps E parts = some vs)
    (hzs : (Array.range (m * k)).map (fun i => zv.cells[i % zv.cells.size]!) = zs.toArray) (hpl : vs.all (fun p => decide (pl[p.1]? = some (p.1 * k, k))) = true) (h0 : Nat.ble 1 (m * k) = true) (hb : Nat.ble (m * k) 16777216 = true) (hd : Nat.blt d n = true) [hf : Fills pl zs vs cs] :
    Ef P W n D ⟨some d, .buildSlice T m parts.toArray, ty, pos, aft, g⟩ E L (fun E' L' => ∃ b, E' = (d, .slice (some ⟨b, 0, none⟩) m m) :: E ∧ L' = (b, .cells cs.toArray e) :: L) := by
  unfold Ef
  intro Q a w next hs ho hn
  have h1 : 1 ≤ m * k := Nat.le_of_ble_eq_true h0
  have h2 : m * k ≤ 16777216 := Nat.le_of_ble_eq_true hb
  have hfe := hf.eq
  have hfc : Instr.fill (fun i => some (i * k, k)) zs.toArray vs = some cs.toArray := by
    rw [← hfe]
    refine fill_congr fun p hp => ?_
    have := List.all_eq_true.1 hpl p hp
    simpa using (of_decide_eq_true this).symm
  have hm : (parts.toArray.map fun (i, x) => (i, a.eval x)) = vs.toArray := by rw [List.map_toArray, hs.evps hx]
  unfold Oper.wp
  have : (execOp a.eval ⟨some d, .buildSlice T m parts.toArray, ty, pos, aft, g⟩).run P w = .ok (.value (.slice (some ⟨w.heap.size, 0, none⟩) m m)) (w.alloc (.cells cs.toArray e)) := by
    have hb' : ¬ (m * k > 2 ^ 24) := by omega
    have hb0 : ¬ (m * k = 0) := by omega
    simp only [execOp, Instr.buildSlice, Sem.run_bind, TyD.run, TyS.run, Result.andThen_ok, Sem.run_ite, if_neg hb', if_neg hb0, TyZ.run, Sem.run_pure]
    rw [show (Array.map (fun (x : Nat × Operand) => (x.1, a.eval x.2)) parts.toArray) = vs.toArray from hm]
    simp only [hzs, hfc, newRow, run_newObj]
    rfl
  rw [this]
  exact hn _ _ _ _ ⟨_, rfl, rfl⟩ (hs.put hd) (ho.alloc _)
end buildn
theorem zeros_flat (zs : List Value) : ∀ r : Nat, (List.range (r * zs.length)).map (fun i => zs.toArray[i % zs.toArray.size]!) = (List.replicate r zs).flatten
  | 0 => by simp
  | r + 1 => by
    rw [Nat.add_mul, Nat.one_mul, List.range_add, List.map_append, zeros_flat zs r, List.replicate_succ', List.flatten_append]
    congr 1
    simp only [List.map_map, List.flatten_cons, List.flatten_nil, List.append_nil]
    apply List.ext_getElem
    · simp
    · intro j h1 h2
      simp [Nat.mod_eq_of_lt h2, h2]
section makes
variable {P : Program} {W : World} {n : Nat} {D : List Deferred} {E : Env} {L : Hp} {ty : TypeId} {pos : String} {aft : Array Edge} {g : Option (Nat × Bool)} {T : TypeId} {x y : Operand}
theorem ef_makeSlice {d : Nat} {e k bytes r : Nat} {zv : Value} (zs : List Value) [ht : TyD P T (.slice e)] [hk : TyS P e k] [hby : TyB P e bytes] [hz : TyZ P e zv] (hx : ev E x = some (.int .i64 (r : Int))) (hy : ev E y = some (.int .i64 (r : Int)))
    (hzs : zv.cells = zs.toArray) (hzl : zs.length = k) (hk1 : 1 ≤ k) (hr1 : 1 ≤ r) (hr : r ≤ 1048576) (hbd : bytes ≤ 1024) (hd : Nat.blt d n = true) :
    Ef P W n D ⟨some d, .makeSlice T x y, ty, pos, aft, g⟩ E L (fun E' L' => ∃ b, E' = (d, .slice (some ⟨b, 0, none⟩) r r) :: E ∧ L' = (b, .cells ((List.replicate r zs).flatten).toArray e) :: L) := by
  unfold Ef
  intro Q a w next hs ho hn
  obtain ⟨i, hi, hzi⟩ := Option.bind_eq_some_iff.1 hz.eq
  have hisz : i.size = k := by have := hk.eq; rw [hi] at this; simpa using this
  have hiby : i.bytes = bytes := by have := hby.eq; rw [hi] at this; simpa using this
  unfold Oper.wp
  have hbr : r * bytes ≤ 1048576 * 1024 := Nat.mul_le_mul hr hbd
  have hbr' : ((bytes * r : Nat) : Int) ≤ 1048576 * 1024 := by rw [Nat.mul_comm]; omega
  have wr : IntKind.i64.wrap (r : Int) = r := w64 (by omega) (by omega)
  have n1 : ¬ ((r : Int) < 0) := by omega
  have n2 : ¬ (281474976710656 < (bytes : Int) * (r : Int)) := by rw [Int.natCast_mul] at hbr'; omega
  have n5 : ¬ (140737488355328 < r * bytes) := by omega
  have hn0 : ¬ (r * k = 0) := by intro h0; rcases Nat.mul_eq_zero.1 h0 with h | h <;> omega
  have hrow : (Array.range (r * k)).map (fun i => zv.cells[i % zv.cells.size]!) = ((List.replicate r zs).flatten).toArray := by
    rw [← zeros_flat zs r, hzs, hzl]
    apply Array.ext'; simp
  have : (execOp a.eval ⟨some d, .makeSlice T x y, ty, pos, aft, g⟩).run P w = .ok (.value (.slice (some ⟨w.heap.size, 0, none⟩) r r)) (w.alloc (.cells ((List.replicate r zs).flatten).toArray e)) := by
    simp [execOp, Instr.makeSlice, hs.ev hx, hs.ev hy, run_underlying ht.eq, asInt, asIntOf, typeInfo, hi, sizeOf, zeroValue, hzi, wr, n1, n2, n5, hn0, hisz, hiby, newRow, askRoom, roomBytes, hrow]
  rw [this]
  exact hn _ _ _ _ ⟨_, rfl, rfl⟩ (hs.put hd) (ho.alloc _)
end makes
instance (priority := 1250) Part.assoc {L A B T R : Hp} [h : Part L (A ++ (B ++ T)) R] : Part L ((A ++ B) ++ T) R := ⟨by have := h.perm; rwa [← List.append_assoc A B T] at this⟩
theorem Wp.cutK {P : Program} {W : World} {Q : Exit → Act → World → Prop} {n : Nat} {D : List Deferred} {E : Env} {L : Hp} {x y : Code} {σ : Type} (KE : Env) (VE : σ → Env) (H : σ → Hp) (I : σ → Prop) (hK : SubE KE E)
    (hx : SubE KE E → ∀ KK : Act → World → Prop, (∀ s, I s → Goes W KK n D (VE s ++ KE) (H s)) → Wp P W (Exit.then KK Q) n D x E L) (hy : ∀ s, I s → Wp P W Q n D y (VE s ++ KE) (H s)) : Wp P W Q n D (.seq x y) E L := by
  refine Wp.seq (hx hK (fun a w => y.wp P Q a w) fun s hs => ?_)
  have h := hy s hs
  unfold Wp at h
  unfold Goes
  exact h
end Go.SL
end
section
set_option linter.unusedVariables false
set_option linter.unusedSimpArgs false
namespace Go.Proofs.YtdodfnjmkpgdbaaGreat
open Go.SL
def idxM : List Int → Int → Int
  | [], _ => -1
  | a :: l, x => if a = x then 0 else if idxM l x < 0 then -1 else idxM l x + 1
theorem idx_hit : ∀ {l : List Int} {i : Nat} {x : Int}, l[i]? = some x → (∀ j, j < i → l[j]? ≠ some x) → idxM l x = i
  | [], i, x, h, _ => by simp at h
  | a :: l, 0, x, h, _ => by simp at h; simp [idxM, h]
  | a :: l, i + 1, x, h, hn => by
    have h0 : a ≠ x := fun e => hn 0 (by omega) (by simp [e])
    have ih := idx_hit (l := l) (i := i) (x := x) (by simpa using h) (fun j hj => by have := hn (j + 1) (by omega); simpa using this)
    simp only [idxM, if_neg h0, ih]
    rw [if_neg (by omega)]; push_cast; rfl
theorem idx_miss : ∀ {l : List Int} {x : Int}, (∀ j, j < l.length → l[j]? ≠ some x) → idxM l x = -1
  | [], _, _ => rfl
  | a :: l, x, hn => by
    have h0 : a ≠ x := fun e => hn 0 (by simp) (by simp [e])
    have ih := idx_miss (l := l) (x := x) (fun j hj => by have := hn (j + 1) (by simpa using hj); simpa using this)
    simp only [idxM, if_neg h0, ih]; rfl
structure SV where
  a : Option Addr
  c : Nat
  l : List Int
abbrev SV.v (s : SV) : Value := .slice s.a s.l.length s.c
end Go.Proofs.YtdodfnjmkpgdbaaGreat
end
section
set_option linter.unusedVariables false
set_option linter.unusedSimpArgs false
namespace Go.Proofs.YtdodfnjmkpgdbaaGreat
open Go.SL
structure DN where
  id : Nat
  rad : Nat
  caps : List CapM
  cb : Nat
def dnC (d : DN) : List Value := [.int .i64 d.id, .int .i64 d.rad, .slice (some ⟨d.cb, 0, none⟩) d.caps.length d.caps.length]
instance : Enc dnC 3 := ⟨fun _ => rfl, fun _ => rfl⟩
def dIds (l : List DN) : List Int := l.map fun d => (d.id : Int)
theorem dIds_len (l : List DN) : (dIds l).length = l.length := by simp [dIds]
abbrev DN.o (d : DN) : Obj := .cells (capsCells d.caps).toArray 25
def dCaps (l : List DN) : Hp := l.map fun d => (d.cb, d.o)
theorem dCaps_app (l m : List DN) : dCaps (l ++ m) = dCaps l ++ dCaps m := by simp [dCaps]
abbrev dBlk (uT : Value) (qb : Nat) (v : Value) : Nat × Obj := (qb, .cells [v, uT].toArray 50)
def DstH (uT : Value) (l : List DN) (qb : Nat) (L : Hp) : Prop := ∃ v H, Slc 99 3 v l.length (cel dnC l) H ∧ L = dBlk uT qb v :: (H ++ dCaps l)
def dfind (l : List DN) (id : Int) : Option DN := l.find? fun d => decide ((d.id : Int) = id)
theorem dfind_cons (a : DN) (l : List DN) (id : Int) : dfind (a :: l) id = if (a.id : Int) = id then some a else dfind l id := by
 unfold dfind; rw [List.find?_cons]
 by_cases h : (a.id : Int) = id
 ·
  simp [h]
 ·
  simp [h]
theorem dfind_app (l m : List DN) (id : Int) : dfind (l ++ m) id = (dfind l id).or (dfind m id) := by unfold dfind; rw [List.find?_append]
theorem dfind_some {id : Int} {d : DN} : ∀ {l : List DN}, dfind l id = some d → ∃ i : Nat, idxM (dIds l) id = i ∧ l[i]? = some d ∧ (d.id : Int) = id
  | [], h => by cases h
  | a :: l, h => by
    rw [dfind_cons] at h
    split at h
    · rename_i e; cases h; exact ⟨0, by simp [dIds, idxM, e], rfl, e⟩
    · rename_i e
      obtain ⟨i, h1, h2, h3⟩ := dfind_some h
      refine ⟨i + 1, ?_, by simpa using h2, h3⟩
      show (if (a.id : Int) = id then 0 else if idxM (dIds l) id < 0 then -1 else idxM (dIds l) id + 1) = _
      rw [if_neg e, h1, if_neg (by omega)]; push_cast; rfl
theorem dfind_none {id : Int} : ∀ {l : List DN}, dfind l id = none → idxM (dIds l) id = -1
  | [], _ => rfl
  | a :: l, h => by
    rw [dfind_cons] at h
    split at h
    · cases h
    · rename_i e
      show (if (a.id : Int) = id then 0 else if idxM (dIds l) id < 0 then -1 else idxM (dIds l) id + 1) = _
      rw [if_neg e, dfind_none h]; rfl
theorem dids_idx {l : List DN} {i : Nat} {d : DN} (h : l[i]? = some d) : (dIds l)[i]? = some (d.id : Int) := by simp [dIds, h]
def dcap? (l : List DN) (s : SlotM) : Option CapM :=
  match dfind l s.1 with
  | none => none
  | some d => if 0 ≤ s.2 ∧ s.2 < d.caps.length then d.caps[s.2.toNat]? else none
def dget (l : List DN) (s : SlotM) : CapM × Int := match dcap? l s with | none => (CapM.zero, 6) | some x => (x, 0)
def dradix (l : List DN) (id : Int) : Int := match dfind l id with | none => 0 | some d => (d.rad : Int)
def dsetC (l : List DN) (s : SlotM) (c : CapM) : List DN := match dfind l s.1 with | none => l | some d => l.set (idxM (dIds l) s.1).toNat { d with caps := d.caps.set s.2.toNat c }
def dput (l : List DN) (s : SlotM) (c : CapM) : Int × List DN :=
  match dcap? l s with
  | none => (6, l)
  | some x => if checkM c ≠ 0 then (checkM c, l) else if c.kind = 0 then (3, l) else if x.kind ≠ 0 then (4, l) else (0, dsetC l s c)
def dtake (l : List DN) (s : SlotM) : CapM × Int × List DN :=
  match dcap? l s with
  | none => (CapM.zero, 6, l)
  | some x => if x.kind = 0 then (x, 3, l) else (x, 0, dsetC l s CapM.zero)
def dfull (l : List DN) : List SlotM := l.flatMap fun d => nodeFull d.id d.caps d.caps.length
def dcount (l : List DN) (k o : Int) : Nat := (dfull l).countP fun s => decide ((dget l s).1.kind = k) && decide ((dget l s).1.object = o)
def daddErr (l : List DN) (id r : Int) : Int := if id < 0 ∨ 64 ≤ id ∨ r < 1 ∨ 4 < r then 1 else if (dfind l id).isSome then 4 else 0
def dempty (d : DN) : Prop := ∀ c, c ∈ d.caps → c.kind = 0
def ddel (l : List DN) (id : Int) : List DN := l.eraseIdx (idxM (dIds l) id).toNat
theorem dcap_some {l : List DN} {s : SlotM} {c : CapM} (h : dcap? l s = some c) : ∃ d, dfind l s.1 = some d ∧ (0 ≤ s.2 ∧ s.2 < d.caps.length) ∧ d.caps[s.2.toNat]? = some c := by
 unfold dcap? at h
 split at h
 ·
  cases h
 ·
  rename_i d hd
  split at h
  ·
   rename_i hs; exact ⟨d, hd, hs, h⟩
  ·
   cases h
theorem dcap_none {l : List DN} {s : SlotM} {d : DN} (h : dcap? l s = none) (hd : dfind l s.1 = some d) : ¬ (0 ≤ s.2 ∧ s.2 < d.caps.length) := by
 unfold dcap? at h
 rw [hd] at h
 dsimp only at h
 intro hs
 rw [if_pos hs, List.getElem?_eq_none_iff] at h
 omega
def i64R (x : Int) : Prop := -9223372036854775808 ≤ x ∧ x < 9223372036854775808
def u64R (x : Int) : Prop := 0 ≤ x ∧ x < 18446744073709551616
structure CapM.Rg (c : CapM) : Prop where
  rights : i64R c.rights
  badge : u64R c.badge
  guard : u64R c.guard
theorem mask7 (x : BitVec 64) : (x &&& ~~~7#64) = 0#64 ↔ x.toNat < 8 := by
 have e7 : (x &&& 7#64).toNat = x.toNat % 8 := by
  rw [BitVec.toNat_and, show (7#64).toNat = 2 ^ 3 - 1 by rfl, Nat.and_two_pow_sub_one_eq_mod]
 have es : x = (x &&& 7#64) ||| (x &&& ~~~7#64) := by
  apply BitVec.eq_of_getLsbD_eq
  intro i hi
  simp only [BitVec.getLsbD_or, BitVec.getLsbD_and, BitVec.getLsbD_not, hi, decide_true, Bool.true_and]
  cases x.getLsbD i <;> cases (7#64).getLsbD i <;> rfl
 constructor
 ·
  intro h
  rw [h, BitVec.or_zero] at es
  rw [es, e7]; omega
 ·
  intro h
  have : x = x &&& 7#64 := by
   apply BitVec.eq_of_toNat_eq
   rw [e7]; omega
  rw [this, BitVec.and_assoc]
  have z : (7#64 &&& ~~~7#64) = 0#64 := by decide
  rw [z, BitVec.and_zero]
theorem rights_iff {r : Int} (h : i64R r) : rightsOk r = true ↔ 0 ≤ r ∧ r ≤ 7 := by
 have hx : (BitVec.ofInt 64 r).toNat = (r % 18446744073709551616).toNat := by rw [BitVec.toNat_ofInt]; rfl
 have hb := (BitVec.ofInt 64 r &&& ~~~BitVec.ofInt 64 7).isLt
 have hw : ∀ m : Nat, m < 2 ^ 64 → (IntKind.i64.wrap (m : Int) = 0 ↔ m = 0) := by
  intro m hm
  simp [IntKind.wrap, IntKind.signed, IntKind.bits]; omega
 have e : bitsI .andNot .i64 r 7 = IntKind.i64.wrap ((BitVec.ofInt 64 r &&& ~~~BitVec.ofInt 64 7).toNat : Int) := rfl
 unfold rightsOk
 rw [decide_eq_true_iff, e, hw _ hb]
 have z : (BitVec.ofInt 64 r &&& ~~~BitVec.ofInt 64 7).toNat = 0 ↔ (BitVec.ofInt 64 r &&& ~~~7#64) = 0#64 :=
  ⟨fun h => BitVec.eq_of_toNat_eq h, fun h => congrArg BitVec.toNat h⟩
 rw [z, mask7, hx]
 unfold i64R at h
 omega
def dOk (c : CapM) : Prop :=
  ((0 ≤ c.object ∧ c.object ≤ 63) ∧ (0 ≤ c.rights ∧ c.rights ≤ 7) ∧ c.badge < 268435456 ∧ ((0 ≤ c.bits ∧ c.bits ≤ 16) ∧ c.guard < 2 ^ c.bits.toNat)) ∧
    (c.kind = 0 ∨ c.kind = 10 → c.object = 0) ∧ (¬ ((c.kind = 4 ∨ c.kind = 5) ∨ c.kind = 6) → c.rights = 0) ∧ (¬ (c.kind = 4 ∨ c.kind = 5) → c.badge = 0) ∧ (c.kind ≠ 2 → c.bits = 0)
theorem fits_iff {g b : Int} (h : u64R g) : fitsM g b = true ↔ (0 ≤ b ∧ b ≤ 16) ∧ g < 2 ^ b.toNat := by
 unfold fitsM
 rw [Bool.and_eq_true, Bool.and_eq_true, decide_eq_true_iff, decide_eq_true_iff, decide_eq_true_iff]
 obtain ⟨m, rfl⟩ : ∃ m : Nat, g = m := ⟨g.toNat, by unfold u64R at h; omega⟩
 by_cases hb : 0 ≤ b ∧ b ≤ 16
 ·
  rw [show min b.toNat 64 = b.toNat by omega, fdiv_pow]
  have e : ((2 : Int) ^ b.toNat) = ((2 ^ b.toNat : Nat) : Int) := by norm_cast
  rw [e]
  have hp : 0 < 2 ^ b.toNat := Nat.two_pow_pos _
  constructor
  ·
   rintro ⟨h1, h2, h3⟩
   refine ⟨⟨h1, h2⟩, ?_⟩
   have : m / 2 ^ b.toNat = 0 := by omega
   have := (Nat.div_eq_zero_iff_lt hp).1 this
   omega
  ·
   rintro ⟨⟨h1, h2⟩, h3⟩
   refine ⟨h1, h2, ?_⟩
   rw [Nat.div_eq_of_lt (by omega)]; rfl
 ·
  constructor
  ·
   rintro ⟨h1, h2, h3⟩; exact absurd ⟨h1, h2⟩ hb
  ·
   rintro ⟨h1, _⟩; exact absurd h1 hb
theorem plain_iff (c : CapM) (hg : 0 ≤ c.guard) : plainM c = c ↔ (c.kind = 0 ∨ c.kind = 10 → c.object = 0) ∧ (¬ ((c.kind = 4 ∨ c.kind = 5) ∨ c.kind = 6) → c.rights = 0) ∧ (¬ (c.kind = 4 ∨ c.kind = 5) → c.badge = 0) ∧ (c.kind ≠ 2 → c.bits = 0 ∧ c.guard = 0) := by
 obtain ⟨k, o, r, b, g, n⟩ := c
 unfold plainM
 dsimp only at hg ⊢
 split
 ·
  simp only [CapM.mk.injEq, true_and, and_true]; omega
 ·
  split
  ·
   simp only [CapM.mk.injEq, true_and, and_true]; omega
  ·
   split
   ·
    simp only [CapM.mk.injEq, true_and, and_true]; omega
   ·
    split
    ·
     simp only [CapM.mk.injEq, true_and, and_true]; omega
    ·
     simp only [CapM.mk.injEq, true_and, and_true]; omega
theorem check_doc {c : CapM} (hr : c.Rg) (hk : 0 ≤ c.kind ∧ c.kind ≤ 11) [Decidable (dOk c)] : checkM c = if dOk c then 0 else 10 := by
 have h1 := rights_iff hr.rights
 have h2 := fits_iff (b := c.bits) hr.guard
 have h3 := plain_iff c hr.guard.1
 obtain ⟨m, hm⟩ : ∃ m : Nat, c.badge = m := ⟨c.badge.toNat, by have := hr.badge.1; omega⟩
 have h4 : c.badge.fdiv (2 ^ 28) = ((m / 2 ^ 28 : Nat) : Int) := by rw [hm, fdiv_pow]
 unfold checkM
 rw [if_neg (by omega), h4]
 have ho : (c.object < 0 ∨ c.object.fdiv (2 ^ 6) ≠ 0) ↔ ¬ (0 ≤ c.object ∧ c.object ≤ 63) := by
  by_cases h0 : c.object < 0
  ·
   constructor
   ·
    intro _; omega
   ·
    intro _; exact .inl h0
  ·
   obtain ⟨j, hj⟩ : ∃ j : Nat, c.object = j := ⟨c.object.toNat, by omega⟩
   rw [hj, fdiv_pow]; omega
 by_cases hd : dOk c
 ·
  rw [if_pos hd]
  obtain ⟨⟨d1, d2, d3, d4⟩, d5, d6, d7, d8⟩ := hd
  rw [if_neg]
  rintro (e | e | e | e | e | e)
  ·
   refine e (h3.2 ⟨d5, d6, d7, fun hk2 => ⟨d8 hk2, ?_⟩⟩)
   have hb := d8 hk2
   have := d4.2
   rw [hb] at this
   have := hr.guard.1
   simp at *; omega
  ·
   exact ho.1 (.inl e) d1
  ·
   exact ho.1 (.inr e) d1
  ·
   rw [h1.2 d2] at e; cases e
  ·
   omega
  ·
   rw [h2.2 d4] at e; cases e
 ·
  rw [if_neg hd, if_pos]
  by_cases q1 : plainM c = c
  ·
   refine .inr ?_
   obtain ⟨p1, p2, p3, p4⟩ := h3.1 q1
   by_cases q2 : 0 ≤ c.object ∧ c.object ≤ 63
   ·
    by_cases q3 : rightsOk c.rights = true
    ·
     by_cases q4 : m / 2 ^ 28 = 0
     ·
      by_cases q5 : fitsM c.guard c.bits = true
      ·
       exact absurd ⟨⟨q2, h1.1 q3, by omega, h2.1 q5⟩, p1, p2, p3, fun h => (p4 h).1⟩ hd
      ·
       exact .inr (.inr (.inr (.inr (by simpa using q5))))
     ·
      exact .inr (.inr (.inr (.inl (by omega))))
    ·
     exact .inr (.inr (.inl (by simpa using q3)))
   ·
    rcases ho.2 q2 with h | h
    ·
     exact .inl h
    ·
     exact .inr (.inl h)
  ·
   exact .inl q1
theorem check_ok {c : CapM} (hr : c.Rg) (hk : 0 ≤ c.kind ∧ c.kind ≤ 11) (h : dOk c) : checkM c = 0 := by
 haveI : Decidable (dOk c) := .isTrue h
 rw [check_doc hr hk, if_pos h]
theorem check_no {c : CapM} (hr : c.Rg) (hk : 0 ≤ c.kind ∧ c.kind ≤ 11) (h : ¬ dOk c) : checkM c = 10 := by
 haveI : Decidable (dOk c) := .isFalse h
 rw [check_doc hr hk, if_neg h]
theorem check_bad {c : CapM} (h : c.kind < 0 ∨ 11 < c.kind) : checkM c = 2 := by unfold checkM; rw [if_pos h]
theorem shlI {b : Int} (h : 0 ≤ b) (h2 : b ≤ 16) : IntKind.u64.wrap (1 * 2 ^ (min b.toNat 64)) = (2 : Int) ^ b.toNat := by
 obtain ⟨k, rfl⟩ : ∃ k : Nat, b = k := ⟨b.toNat, by omega⟩
 rw [shl1 (by omega), Int.toNat_natCast]; norm_cast
theorem d_lt {l : List DN} {i : Nat} {d : DN} (h : l[i]? = some d) : i < l.length := (List.getElem?_eq_some_iff.1 h).1
theorem dCaps_split {l : List DN} {i : Nat} {d : DN} (h : l[i]? = some d) : dCaps l = dCaps (l.take i) ++ (d.cb, d.o) :: dCaps (l.drop (i + 1)) := by
 have hlt := d_lt h
 have he : l[i] = d := by rw [List.getElem?_eq_getElem hlt] at h; exact Option.some.inj h
 conv => lhs; rw [← List.take_append_drop i l, List.drop_eq_getElem_cons hlt, he]
 simp [dCaps]
theorem dCaps_blk {l : List DN} {i : Nat} {d : DN} (h : l[i]? = some d) : Blk (dCaps l) d.cb (.cells (capsCells d.caps).toArray 25 (0, 0)) := ⟨by rw [dCaps_split h]; simp⟩
theorem dCaps_upd {l : List DN} {i : Nat} {d d' : DN} (h : l[i]? = some d) (hb : d'.cb = d.cb) {o : Obj} (ho : o = d'.o) : Upd (dCaps l) d.cb o (dCaps (l.set i d')) := by
 subst ho
 refine ⟨dCaps (l.take i), dCaps (l.drop (i + 1)), d.o, dCaps_split h, ?_⟩
 rw [List.set_eq_take_append_cons_drop, if_pos (d_lt h), dCaps_app]
 simp [dCaps, hb]
theorem cel_set {l : List DN} {i : Nat} {d d' : DN} (h : l[i]? = some d) (he : dnC d' = dnC d) : cel dnC (l.set i d') = cel dnC l := by
 have hlt := d_lt h
 have e0 : l[i] = d := by rw [List.getElem?_eq_getElem hlt] at h; exact Option.some.inj h
 rw [List.set_eq_take_append_cons_drop, if_pos hlt, cel_app, cel_cons, he]
 conv => rhs; rw [← List.take_append_drop i l, List.drop_eq_getElem_cons hlt, e0, cel_app, cel_cons]
theorem caps_setL {l : List CapM} {i : Nat} {c c' : CapM} (h : l[i]? = some c) : SetL (capsCells l) (0 + i * 6) c'.cells (capsCells (l.set i c')) := by
 have hlt : i < l.length := (List.getElem?_eq_some_iff.1 h).1
 refine setL_of (capsCells (l.take i)) (capsCells (l.drop (i + 1))) c.cells (capsCells_split h) (capsCells_set h) ?_ rfl
 simp [capsCells_len, Nat.min_eq_left (Nat.le_of_lt hlt)]; omega
theorem caps_reads0 {l : List CapM} {i : Nat} {c : CapM} (h : l[i]? = some c) : Reads (capsCells l) (0 + i * 6) c.cells := by rw [Nat.zero_add]; exact caps_reads h
theorem dnC_set (d : DN) (j : Nat) (c : CapM) : dnC { d with caps := d.caps.set j c } = dnC d := by simp [dnC]
theorem dsetC_eq {l : List DN} {s : SlotM} {d : DN} {i : Nat} (h : dfind l s.1 = some d) (hi : idxM (dIds l) s.1 = i) (c : CapM) : dsetC l s c = l.set i { d with caps := d.caps.set s.2.toNat c } := by
 unfold dsetC; rw [h, hi]; rfl
theorem dput_none {l : List DN} {s : SlotM} (h : dcap? l s = none) (c : CapM) : dput l s c = (6, l) := by unfold dput; rw [h]
theorem dput_some {l : List DN} {s : SlotM} {x : CapM} (h : dcap? l s = some x) (c : CapM) : dput l s c = if checkM c ≠ 0 then (checkM c, l) else if c.kind = 0 then (3, l) else if x.kind ≠ 0 then (4, l) else (0, dsetC l s c) := by unfold dput; rw [h]
theorem dtake_none {l : List DN} {s : SlotM} (h : dcap? l s = none) : dtake l s = (CapM.zero, 6, l) := by unfold dtake; rw [h]
theorem dtake_some {l : List DN} {s : SlotM} {x : CapM} (h : dcap? l s = some x) : dtake l s = if x.kind = 0 then (x, 3, l) else (x, 0, dsetC l s CapM.zero) := by unfold dtake; rw [h]
theorem dget_none {l : List DN} {s : SlotM} (h : dcap? l s = none) : dget l s = (CapM.zero, 6) := by unfold dget; rw [h]
theorem dget_some {l : List DN} {s : SlotM} {x : CapM} (h : dcap? l s = some x) : dget l s = (x, 0) := by unfold dget; rw [h]
theorem DstH.setC {uT : Value} {l : List DN} {qb i : Nat} {v : Value} {H : Hp} {s : SlotM} {d : DN} {c : CapM} (hs : Slc 99 3 v l.length (cel dnC l) H) (h : dfind l s.1 = some d) (hi : idxM (dIds l) s.1 = i) (hd : l[i]? = some d) :
    DstH uT (dsetC l s c) qb (dBlk uT qb v :: (H ++ dCaps (l.set i { d with caps := d.caps.set s.2.toNat c }))) := by
  rw [dsetC_eq h hi]
  exact ⟨v, H, by rw [List.length_set, cel_set hd (dnC_set d _ _)]; exact hs, rfl⟩
def dfullTo (l : List DN) (i : Nat) : List SlotM := dfull (l.take i)
theorem dfullTo_succ {l : List DN} {i : Nat} {d : DN} (h : l[i]? = some d) : dfullTo l (i + 1) = dfullTo l i ++ nodeFull d.id d.caps d.caps.length := by
 unfold dfullTo dfull
 rw [List.take_add_one, h, List.flatMap_append]; simp
theorem dfullTo_all (l : List DN) : dfullTo l l.length = dfull l := by unfold dfullTo; rw [List.take_length]
def dSmall (l : List DN) : Prop := ∀ d, d ∈ l → d.caps.length ≤ 16
theorem dfull_len {l : List DN} (h : dSmall l) : (dfull l).length ≤ l.length * 16 := by
 induction l with
 | nil => simp [dfull]
 | cons a l ih =>
  have h1 := nodeFull_len a.id a.caps a.caps.length
  have h2 := h a (List.mem_cons_self ..)
  have h3 := ih (fun d hd => h d (List.mem_cons_of_mem _ hd))
  have e : dfull (a :: l) = nodeFull a.id a.caps a.caps.length ++ dfull l := rfl
  rw [e, List.length_append, List.length_cons]; omega
theorem dfullTo_len {l : List DN} (h : dSmall l) (i : Nat) : (dfullTo l i).length ≤ l.length * 16 := by
 have h1 := dfull_len (l := l.take i) (fun d hd => h d (List.mem_of_mem_take hd))
 have h2 : (l.take i).length ≤ l.length := by rw [List.length_take]; omega
 unfold dfullTo
 have := Nat.mul_le_mul_right 16 h2
 omega
def dcntTo (l : List DN) (k o : Int) (i : Nat) : Nat := ((dfull l).take i).countP fun s => decide ((dget l s).1.kind = k) && decide ((dget l s).1.object = o)
theorem dcntTo_succ {l : List DN} {k o : Int} {i : Nat} {s : SlotM} (h : (dfull l)[i]? = some s) : dcntTo l k o (i + 1) = dcntTo l k o i + if (dget l s).1.kind = k ∧ (dget l s).1.object = o then 1 else 0 := by
 unfold dcntTo
 rw [List.take_add_one, h, List.countP_append]
 simp [List.countP_cons]
theorem dcntTo_all (l : List DN) (k o : Int) : dcntTo l k o (dfull l).length = dcount l k o := by unfold dcntTo dcount; rw [List.take_length]
theorem dcntTo_le {l : List DN} (k o : Int) (i : Nat) : dcntTo l k o i ≤ (dfull l).length := by
 unfold dcntTo
 exact Nat.le_trans List.countP_le_length (by rw [List.length_take]; omega)
theorem nodeFull_yes {id : Nat} {caps : List CapM} {j : Nat} {c : CapM} (h : caps[j]? = some c) (hk : c.kind ≠ 0) : nodeFull id caps (j + 1) = nodeFull id caps j ++ [((id : Int), (j : Int))] := by simp only [nodeFull, h, Option.getD_some]; rw [if_pos hk]
theorem nodeFull_no {id : Nat} {caps : List CapM} {j : Nat} {c : CapM} (h : caps[j]? = some c) (hk : ¬ c.kind ≠ 0) : nodeFull id caps (j + 1) = nodeFull id caps j := by simp only [nodeFull, h, Option.getD_some]; rw [if_neg hk, List.append_nil]
theorem replicate_caps (r : Nat) : (List.replicate r CapM.zero.cells).flatten = capsCells (List.replicate r CapM.zero) := by
 rw [capsCells, List.flatMap_def, List.map_replicate]
theorem dadd_perm {l : List DN} {n : Nat} {d : DN} {H F : Hp} : ((d.cb, d.o) :: (H ++ (dCaps l ++ F))).Perm (H ++ (dCaps (l.take n ++ d :: l.drop n) ++ F)) := by
 have e : dCaps (l.take n ++ d :: l.drop n) = dCaps (l.take n) ++ (d.cb, d.o) :: dCaps (l.drop n) := by simp [dCaps]
 have e2 : dCaps l = dCaps (l.take n) ++ dCaps (l.drop n) := by rw [← dCaps_app, List.take_append_drop]
 rw [e, e2]
 refine (List.perm_middle.symm.trans ?_)
 refine List.Perm.append_left H ?_
 rw [← List.cons_append]
 exact (List.perm_middle.symm).append_right F
theorem ddel_perm {l : List DN} {i : Nat} {d : DN} (h : l[i]? = some d) : (dCaps l).Perm ((d.cb, d.o) :: dCaps (l.eraseIdx i)) := by
 rw [dCaps_split h, List.eraseIdx_eq_take_drop_succ, dCaps_app]
 exact List.perm_middle
theorem sh1N {k : Nat} (h : k ≤ 4) : IntKind.i64.wrap (1 * 2 ^ (min (k : Int).toNat 64)) = ((2 ^ k : Nat) : Int) := by
 match k, h with
 | 0, _ => rfl
 | 1, _ => rfl
 | 2, _ => rfl
 | 3, _ => rfl
 | 4, _ => rfl
theorem pow4 {k : Nat} (h : k ≤ 4) : 1 ≤ 2 ^ k ∧ 2 ^ k ≤ 1048576 := by
 match k, h with
 | 0, _ => decide
 | 1, _ => decide
 | 2, _ => decide
 | 3, _ => decide
 | 4, _ => decide
def newN (m k cb : Nat) : DN := ⟨m, k, List.replicate (2 ^ k) CapM.zero, cb⟩
theorem newN_c (m k cb : Nat) : dnC (newN m k cb) = [.int .i64 m, .int .i64 k, .slice (some ⟨cb, 0, none⟩) (2 ^ k) (2 ^ k)] := by simp [dnC, newN]
def dPlace (l : List DN) (id : Int) (n : Nat) : Prop := n ≤ l.length ∧ (∀ j d, j < n → l[j]? = some d → (d.id : Int) < id) ∧ ∀ d, l[n]? = some d → ¬ (d.id : Int) < id
def DAdd (uT : Value) (l : List DN) (id r : Int) (qb : Nat) (v : Value) (L' : Hp) : Prop :=
  v = .int .i64 (daddErr l id r) ∧ ((daddErr l id r ≠ 0 ∧ DstH uT l qb L') ∨ (daddErr l id r = 0 ∧ ∃ n cb, dPlace l id n ∧ DstH uT (l.take n ++ newN id.toNat r.toNat cb :: l.drop n) qb L'))
theorem cel_ins {l : List DN} {n : Nat} (d : DN) : cel dnC (l.take n) ++ dnC d ++ cel dnC (l.drop n) = cel dnC (l.take n ++ d :: l.drop n) := by rw [cel_app, cel_cons, List.append_assoc]
theorem len_ins {l : List DN} {n : Nat} (d : DN) (h : n ≤ l.length) : (l.take n).length + 1 + (l.drop n).length = (l.take n ++ d :: l.drop n).length := by simp; omega
def DDrop (uT : Value) (l : List DN) (d : DN) (id : Int) (qb : Nat) (v : Value) (L' : Hp) : Prop :=
  (¬ dempty d ∧ v = .int .i64 8 ∧ DstH uT l qb L') ∨ (dempty d ∧ v = .int .i64 0 ∧ DstH uT (ddel l id) qb L')
theorem dempty_no {d : DN} {j : Nat} {c : CapM} (h : d.caps[j]? = some c) (hk : c.kind ≠ 0) : ¬ dempty d := fun e => hk (e c (List.mem_of_getElem? h))
theorem dempty_yes {d : DN} (h : ∀ j c, j < d.caps.length → d.caps[j]? = some c → c.kind = 0) : dempty d := fun c hc => by
 obtain ⟨j, hj⟩ := List.getElem?_of_mem hc
 exact h j c (List.getElem?_eq_some_iff.1 hj).1 hj
theorem ddel_len {l : List DN} {i : Nat} (h : i < l.length) : (l.take i).length + (l.drop (i + 1)).length = (l.eraseIdx i).length := by rw [List.length_eraseIdx]; simp [h]; omega
theorem ddel_cel {l : List DN} {i : Nat} : cel dnC (l.take i) ++ cel dnC (l.drop (i + 1)) = cel dnC (l.eraseIdx i) := by rw [List.eraseIdx_eq_take_drop_succ, cel_app]
theorem ddel_eq {l : List DN} {x : Int} {i : Nat} (h : idxM (dIds l) x = i) : ddel l x = l.eraseIdx i := by unfold ddel; rw [h]; rfl
end Go.Proofs.YtdodfnjmkpgdbaaGreat
end
section
set_option linter.unusedVariables false
set_option linter.unusedSimpArgs false
namespace Go.Proofs.YtdodfnjmkpgdbaaGreat
open Go.SL
def StoreM.Zero (S : StoreM) : Prop := ∀ (id : Int) (n : NodeM) (i : Nat) (c : CapM), nget id S.nodes = some n → n.caps[i]? = some c → c.kind = 0 → c = CapM.zero
def RelN (S : StoreM) (l : List DN) (id : Int) : Prop := (nget id S.nodes = none ∧ dfind l id = none) ∨ ∃ n d, nget id S.nodes = some n ∧ dfind l id = some d ∧ d.rad = n.radix ∧ d.caps = n.caps.take (2 ^ n.radix)
structure Rel (S : StoreM) (l : List DN) : Prop where
  wf : S.Wf
  tidy : S.Tidy
  uniq : S.Uniq
  zero : S.Zero
  srt : (dIds l).Pairwise (· < ·)
  lt : ∀ x, x ∈ dIds l → x < 64
  rel : ∀ id, RelN S l id
theorem rel_new {S : StoreM} (h : S.nodes = []) : Rel S [] :=
  ⟨wf_new h, tidy_new h, by unfold StoreM.Uniq; rw [h]; exact List.nodup_nil, (by intro id n i c hn; rw [h] at hn; cases hn), List.Pairwise.nil, by simp [dIds], fun id => .inl ⟨by rw [h]; rfl, rfl⟩⟩
theorem pow16 {r : Nat} (h : r ≤ 4) : 2 ^ r ≤ 16 := Nat.pow_le_pow_right (n := 2) (by omega) h
theorem dfind_self : ∀ {l : List DN}, (dIds l).Pairwise (· < ·) → ∀ {d : DN}, d ∈ l → dfind l d.id = some d
  | [], _, d, h => by cases h
  | a :: l, hs, d, h => by
    rw [dfind_cons]
    have hs' : (((a.id : Nat) : Int) :: dIds l).Pairwise (· < ·) := hs
    rw [List.pairwise_cons] at hs'
    rcases List.mem_cons.1 h with rfl | h
    · rw [if_pos rfl]
    · have := hs'.1 d.id (List.mem_map.2 ⟨d, h, rfl⟩)
      rw [if_neg (by omega)]
      exact dfind_self hs'.2 h
section
variable {S : StoreM} {l : List DN} (h : Rel S l)
include h
theorem rel_find {id : Int} {d : DN} (hd : dfind l id = some d) : ∃ n, nget id S.nodes = some n ∧ d.rad = n.radix ∧ d.caps = n.caps.take (2 ^ n.radix) ∧ d.caps.length = 2 ^ n.radix ∧ n.Wf := by
 rcases h.rel id with ⟨_, e⟩ | ⟨n, d', hn, e, hr, hc⟩
 ·
  rw [e] at hd; cases hd
 ·
  rw [e] at hd; cases hd
  have hw := (h.wf _ _ hn).1
  refine ⟨n, hn, hr, hc, ?_, hw⟩
  rw [hc, List.length_take, hw.len]
  have := pow16 hw.hi
  omega
theorem rel_cap (s : SlotM) : S.cap? s = dcap? l s := by
 unfold StoreM.cap? dcap?
 rcases h.rel s.1 with ⟨e1, e2⟩ | ⟨n, d, hn, e, hr, hc⟩
 ·
  rw [e1, e2]
 ·
  obtain ⟨n', hn', _, _, hl, hw⟩ := rel_find h e
  rw [hn] at hn'; cases hn'
  rw [hn, e]
  dsimp only
  by_cases hh : n.has s.2
  ·
   have hh2 := hh
   unfold NodeM.has at hh2
   rw [if_pos hh, if_pos (by rw [hl]; exact hh2), hc, List.getElem?_take, if_pos (by omega)]
  ·
   have hh2 := hh
   unfold NodeM.has at hh2
   rw [if_neg hh, if_neg (by rw [hl]; exact hh2)]
theorem rel_get (s : SlotM) : S.get s = dget l s := by unfold StoreM.get dget; rw [rel_cap h]; cases dcap? l s <;> rfl
theorem rel_radix (id : Int) : S.radix id = dradix l id := by
 unfold StoreM.radix dradix
 rcases h.rel id with ⟨e1, e2⟩ | ⟨n, d, hn, e, hr, hc⟩
 ·
  rw [e1, e2]
 ·
  rw [hn, e]; dsimp only; rw [hr]
theorem rel_small : dSmall l := fun d hd => by
 obtain ⟨n, hn, hr, hc, hl, hw⟩ := rel_find h (dfind_self h.srt hd)
 rw [hl]; exact pow16 hw.hi
end
theorem dIds_set {l : List DN} {i : Nat} {d d' : DN} (hd : l[i]? = some d) (he : d'.id = d.id) : dIds (l.set i d') = dIds l := by
 apply List.ext_getElem?
 intro j
 unfold dIds
 rw [List.getElem?_map, List.getElem?_map, List.getElem?_set]
 by_cases hij : i = j
 ·
  subst hij
  rw [if_pos rfl, if_pos (d_lt hd), hd]; simp [he]
 ·
  rw [if_neg hij]
theorem dfind_set {id : Int} {d d' : DN} (he : d'.id = d.id) (o : Int) : ∀ {l : List DN}, dfind l id = some d → dfind (l.set (idxM (dIds l) id).toNat d') o = if o = id then some d' else dfind l o
  | [], h => by cases h
  | a :: l, h => by
    have hcons : idxM (dIds (a :: l)) id = if (a.id : Int) = id then 0 else if idxM (dIds l) id < 0 then -1 else idxM (dIds l) id + 1 := rfl
    rw [dfind_cons] at h
    rw [hcons]
    by_cases e : (a.id : Int) = id
    · rw [if_pos e] at h ⊢
      cases h
      show dfind (d' :: l) o = _
      rw [dfind_cons, he, e, dfind_cons, e]
      by_cases ho : o = id
      · rw [if_pos ho.symm, if_pos ho]
      · rw [if_neg (Ne.symm ho), if_neg ho, if_neg (Ne.symm ho)]
    · rw [if_neg e] at h ⊢
      obtain ⟨i, hi, _, _⟩ := dfind_some h
      have ih := dfind_set he o h
      rw [hi] at ih ⊢
      rw [if_neg (by omega), show ((i : Int) + 1).toNat = i + 1 by omega, List.set_cons_succ, dfind_cons, dfind_cons, ← show (i : Int).toNat = i by omega, ih]
      by_cases ho : o = id
      · subst ho; simp [e]
      · simp [ho]
theorem rel_set {S : StoreM} {l : List DN} (h : Rel S l) {s : SlotM} {x : CapM} (hx : S.cap? s = some x) {c : CapM} (hc : c.kind ≠ 0 → checkM c = 0) (hz : c.kind = 0 → c = CapM.zero) : Rel (S.setCap s c) (dsetC l s c) := by
 have hx2 := hx
 rw [rel_cap h] at hx2
 obtain ⟨d, hd, hh, hxd⟩ := dcap_some hx2
 obtain ⟨i, hi, hid, hdid⟩ := dfind_some hd
 have hds := dsetC_eq hd hi c
 have hdi : dIds (dsetC l s c) = dIds l := by rw [hds]; exact dIds_set hid rfl
 obtain ⟨n, hn, hr, hcd, hl, hw⟩ := rel_find h hd
 have tz : ∀ o m i d, nget o (S.setCap s c).nodes = some m → m.caps[i]? = some d → (d.kind ≠ 0 → i < 2 ^ m.radix ∧ checkM d = 0) ∧ (d.kind = 0 → d = CapM.zero) := by
  intro o m i d hm hmd
  obtain ⟨m', hm', hh', hmc, e⟩ := setCap_nget hx c o
  rw [e] at hm
  split at hm
  ·
   cases hm
   by_cases hi : i = s.2.toNat
   ·
    subst hi
    have hl := (List.getElem?_eq_some_iff.1 hmc).1
    simp only [NodeM.set, List.getElem?_set_self hl] at hmd
    cases hmd
    have := hh'.1; have := hh'.2
    exact ⟨fun hk => ⟨by simp only [NodeM.set]; omega, hc hk⟩, hz⟩
   ·
    have : s.2.toNat ≠ i := fun e => hi e.symm
    simp only [NodeM.set, List.getElem?_set_ne this] at hmd
    exact ⟨fun hk => h.tidy _ m' i d hm' hmd hk, fun hk => h.zero _ m' i d hm' hmd hk⟩
  ·
   exact ⟨fun hk => h.tidy o m i d hm hmd hk, fun hk => h.zero o m i d hm hmd hk⟩
 refine ⟨setCap_wf hx _ h.wf, fun o m i d hm hmd hk => (tz o m i d hm hmd).1 hk, setCap_uniq h.uniq, fun o m i d hm hmd hk => (tz o m i d hm hmd).2 hk, by rw [hdi]; exact h.srt, by rw [hdi]; exact h.lt, fun o => ?_⟩
 obtain ⟨m, hm, _, _, e⟩ := setCap_nget hx c o
 rw [hn] at hm; cases hm
 have e2 : dfind (dsetC l s c) o = if o = s.1 then some { d with caps := d.caps.set s.2.toNat c } else dfind l o := by
  rw [hds, ← show (i : Int).toNat = i by omega, ← hi]; exact dfind_set (d := d) (d' := { d with caps := d.caps.set s.2.toNat c }) rfl o hd
 unfold RelN
 rw [e, e2]
 by_cases ho : o = s.1
 ·
  rw [if_pos ho, if_pos ho]
  refine .inr ⟨_, _, rfl, rfl, hr, ?_⟩
  show d.caps.set s.2.toNat c = (n.caps.set s.2.toNat c).take (2 ^ n.radix)
  rw [List.take_set, ← hcd]
 ·
  rw [if_neg ho, if_neg ho]; exact h.rel o
theorem rel_put {S : StoreM} {l : List DN} (h : Rel S l) (s : SlotM) (c : CapM) : (S.put s c).1 = (dput l s c).1 ∧ Rel (S.put s c).2 (dput l s c).2 := by
 unfold StoreM.put dput
 have e := rel_cap h s
 cases hx : S.cap? s with
 | none => rw [hx] at e; rw [← e]; exact ⟨rfl, h⟩
 | some x =>
  rw [hx] at e; rw [← e]
  dsimp only
  split
  ·
   exact ⟨rfl, h⟩
  ·
   rename_i h1
   split
   ·
    exact ⟨rfl, h⟩
   ·
    rename_i h2
    split
    ·
     exact ⟨rfl, h⟩
    ·
     exact ⟨rfl, rel_set h hx (fun _ => by omega) (fun hk => absurd hk h2)⟩
theorem rel_take {S : StoreM} {l : List DN} (h : Rel S l) (s : SlotM) : (S.take s).1 = (dtake l s).1 ∧ (S.take s).2.1 = (dtake l s).2.1 ∧ Rel (S.take s).2.2 (dtake l s).2.2 := by
 unfold StoreM.take dtake
 have e := rel_cap h s
 cases hx : S.cap? s with
 | none => rw [hx] at e; rw [← e]; exact ⟨rfl, rfl, h⟩
 | some x =>
  rw [hx] at e; rw [← e]
  dsimp only
  by_cases hk : x.kind = 0
  ·
   obtain ⟨n, hn, _, hc, _⟩ := S.cap_some hx
   rw [if_pos hk, if_pos hk]
   exact ⟨(h.zero _ n _ x hn hc hk).symm, rfl, h⟩
  ·
   rw [if_neg hk, if_neg hk]
   exact ⟨rfl, rfl, rel_set h hx (fun hk => absurd rfl hk) (fun _ => rfl)⟩
theorem addNode_zero {S : StoreM} (hz : S.Zero) {id : Int} (h : nget id S.nodes = none) (b r : Nat) : (S.addNode id b r).Zero := by
 intro o n i c hn hc hk
 rw [addNode_nget h] at hn
 split at hn
 ·
  cases hn; exact List.eq_of_mem_replicate (List.mem_of_getElem? hc)
 ·
  exact hz o n i c hn hc hk
theorem rel_addErr {S : StoreM} {l : List DN} (h : Rel S l) (id r : Int) : addErr S id r = daddErr l id r := by
 unfold addErr daddErr
 rcases h.rel id with ⟨e1, e2⟩ | ⟨n, d, hn, e, _, _⟩
 ·
  rw [e1, e2]; rfl
 ·
  rw [hn, e]; rfl
theorem rel_add {S : StoreM} {l : List DN} (h : Rel S l) {id r : Int} (he : addErr S id r = 0) {n : Nat} (hp : dPlace l id n) (b cb : Nat) : Rel (S.addNode id b r.toNat) (l.take n ++ newN id.toNat r.toNat cb :: l.drop n) := by
 unfold addErr at he
 split at he
 ·
  cases he
 rename_i hr
 have hn : nget id S.nodes = none := by
  cases e : nget id S.nodes with
  | none => rfl
  | some m => rw [e] at he; cases he
 have hd : dfind l id = none := by
  rcases h.rel id with ⟨_, e2⟩ | ⟨m, d, hm, _⟩
  ·
   exact e2
  ·
   rw [hn] at hm; cases hm
 obtain ⟨m, rfl⟩ : ∃ m : Nat, id = m := ⟨id.toNat, by omega⟩
 obtain ⟨k, rfl⟩ : ∃ k : Nat, r = k := ⟨r.toNat, by omega⟩
 rw [Int.toNat_natCast, Int.toNat_natCast]
 have hids : dIds (l.take n ++ newN m k cb :: l.drop n) = (dIds l).take n ++ (m : Int) :: (dIds l).drop n := by simp [dIds, newN, List.map_take, List.map_drop]
 have hne : ∀ d, d ∈ l → (d.id : Int) ≠ m := fun d hdm e => by
  have := dfind_self h.srt hdm
  rw [e, hd] at this; cases this
 have hlo : ∀ x, x ∈ (dIds l).take n → x < (m : Int) := by
  intro x hx
  obtain ⟨j, hj⟩ := List.getElem?_of_mem hx
  have hjn : j < n := by
   have := (List.getElem?_eq_some_iff.1 hj).1
   rw [List.length_take] at this; omega
  rw [List.getElem?_take, if_pos hjn] at hj
  unfold dIds at hj
  rw [List.getElem?_map] at hj
  obtain ⟨d, hdj, rfl⟩ := Option.map_eq_some_iff.1 hj
  exact hp.2.1 j d hjn hdj
 have hhi : ∀ x, x ∈ (dIds l).drop n → (m : Int) < x := by
  intro x hx
  rcases Nat.lt_or_ge n l.length with hlt | hge
  ·
   have hdn : l[n]? = some l[n] := List.getElem?_eq_getElem hlt
   have h1 := hp.2.2 _ hdn
   have h2 := hne _ (List.mem_of_getElem? hdn)
   have hs := h.srt.sublist (List.drop_sublist n (dIds l))
   have hc : (dIds l).drop n = (l[n].id : Int) :: (dIds l).drop (n + 1) := by
    rw [List.drop_eq_getElem_cons (by rw [dIds_len]; exact hlt)]; simp [dIds]
   rw [hc] at hs hx
   rw [List.pairwise_cons] at hs
   rcases List.mem_cons.1 hx with rfl | hx
   ·
    omega
   ·
    have := hs.1 x hx; omega
  ·
   rw [List.drop_of_length_le (by rw [dIds_len]; exact hge)] at hx; cases hx
 refine ⟨addNode_wf hn _ _ h.wf (by omega) (by omega) (by omega) (by omega), tidy_add h.tidy hn _ _, addNode_uniq h.uniq hn, addNode_zero h.zero hn _ _, ?_, ?_, fun o => ?_⟩
 ·
  rw [hids, List.pairwise_append, List.pairwise_cons]
  refine ⟨h.srt.sublist (List.take_sublist _ _), ⟨hhi, h.srt.sublist (List.drop_sublist _ _)⟩, fun a ha b hb => ?_⟩
  rcases List.mem_cons.1 hb with rfl | hb
  ·
   exact hlo a ha
  ·
   have := hlo a ha; have := hhi b hb; omega
 ·
  rw [hids]
  intro x hx
  rcases List.mem_append.1 hx with hx | hx
  ·
   exact h.lt x (List.mem_of_mem_take hx)
  ·
   rcases List.mem_cons.1 hx with rfl | hx
   ·
    omega
   ·
    exact h.lt x (List.mem_of_mem_drop hx)
 ·
  have ed : dfind (l.take n ++ newN m k cb :: l.drop n) o = if o = (m : Int) then some (newN m k cb) else dfind l o := by
   have e0 : dfind l o = (dfind (l.take n) o).or (dfind (l.drop n) o) := by rw [← dfind_app, List.take_append_drop]
   rw [dfind_app, dfind_cons]
   by_cases ho : o = (m : Int)
   ·
    subst ho
    have e1 : dfind (l.take n) (m : Int) = none := by
     rw [hd] at e0
     cases e : dfind (l.take n) (m : Int) with
     | none => rfl
     | some z => rw [e] at e0; cases e0
    rw [if_pos rfl, e1, if_pos (by simp [newN])]; rfl
   ·
    rw [if_neg ho, if_neg (by simp [newN]; omega), e0]
  unfold RelN
  rw [ed, addNode_nget hn]
  by_cases ho : o = (m : Int)
  ·
   rw [if_pos ho, if_pos ho]
   refine .inr ⟨_, _, rfl, rfl, rfl, ?_⟩
   show List.replicate (2 ^ k) CapM.zero = zeroCaps.take (2 ^ k)
   have := pow16 (r := k) (by omega)
   unfold zeroCaps
   rw [List.take_replicate, Nat.min_eq_left this]
  ·
   rw [if_neg ho, if_neg ho]; exact h.rel o
theorem dfind_del {id : Int} {d : DN} (o : Int) : ∀ {l : List DN}, (dIds l).Pairwise (· < ·) → dfind l id = some d → dfind (l.eraseIdx (idxM (dIds l) id).toNat) o = if o = id then none else dfind l o
  | [], _, h => by cases h
  | a :: l, hs, h => by
    have hcons : idxM (dIds (a :: l)) id = if (a.id : Int) = id then 0 else if idxM (dIds l) id < 0 then -1 else idxM (dIds l) id + 1 := rfl
    have hs' : (((a.id : Nat) : Int) :: dIds l).Pairwise (· < ·) := hs
    rw [List.pairwise_cons] at hs'
    rw [dfind_cons] at h
    rw [hcons]
    by_cases e : (a.id : Int) = id
    · rw [if_pos e] at h ⊢
      cases h
      show dfind l o = _
      rw [dfind_cons, e]
      by_cases ho : o = id
      · rw [if_pos ho, ho]
        cases hf : dfind l id with
        | none => rfl
        | some d =>
          obtain ⟨_, _, hi, hd⟩ := dfind_some hf
          have := hs'.1 d.id (List.mem_map.2 ⟨d, List.mem_of_getElem? hi, rfl⟩)
          omega
      · rw [if_neg ho, if_neg (Ne.symm ho)]
    · rw [if_neg e] at h ⊢
      obtain ⟨i, hi, _, _⟩ := dfind_some h
      have ih := dfind_del o hs'.2 h
      rw [hi] at ih ⊢
      rw [if_neg (by omega), show ((i : Int) + 1).toNat = i + 1 by omega, List.eraseIdx_cons_succ, dfind_cons, dfind_cons, ← show (i : Int).toNat = i by omega, ih]
      by_cases ho : o = id
      · subst ho; simp [e]
      · simp [ho]
theorem rel_del {S : StoreM} {l : List DN} (h : Rel S l) {id : Int} {d : DN} (hd : dfind l id = some d) : Rel (S.delNode id) (ddel l id) := by
 have hng : ∀ o, nget o (S.delNode id).nodes = if o = id then none else nget o S.nodes := nget_ndel h.uniq
 have hsome : ∀ {o n}, nget o (S.delNode id).nodes = some n → nget o S.nodes = some n := by
  intro o n hn
  rw [hng] at hn
  split at hn
  ·
   cases hn
  ·
   exact hn
 have hsub : (dIds (ddel l id)).Sublist (dIds l) := (List.eraseIdx_sublist _ _).map _
 refine ⟨fun o n hn => h.wf o n (hsome hn), fun o n i c hn => h.tidy o n i c (hsome hn), ndel_uniq h.uniq, fun o n i c hn => h.zero o n i c (hsome hn), h.srt.sublist hsub, fun x hx => h.lt x (hsub.subset hx), fun o => ?_⟩
 unfold RelN
 have e2 : dfind (ddel l id) o = if o = id then none else dfind l o := dfind_del o h.srt hd
 rw [hng, e2]
 by_cases ho : o = id
 ·
  rw [if_pos ho, if_pos ho]; exact .inl ⟨rfl, rfl⟩
 ·
  rw [if_neg ho, if_neg ho]; exact h.rel o
theorem rel_empty {S : StoreM} {l : List DN} (h : Rel S l) {id : Int} {d : DN} (hd : dfind l id = some d) : ∃ n, nget id S.nodes = some n ∧ (dempty d ↔ n.caps = zeroCaps) := by
 obtain ⟨n, hn, hr, hc, hl, hw⟩ := rel_find h hd
 refine ⟨n, hn, fun he => ?_, fun he c hcm => ?_⟩
 ·
  rw [zeroCaps, List.eq_replicate_iff]
  refine ⟨hw.len, fun c hcm => ?_⟩
  obtain ⟨j, hj⟩ := List.getElem?_of_mem hcm
  by_cases hk : c.kind = 0
  ·
   exact h.zero _ n j c hn hj hk
  ·
   have := (h.tidy _ n j c hn hj hk).1
   refine absurd (he c ?_) hk
   rw [hc]
   refine List.mem_of_getElem? (i := j) ?_
   rw [List.getElem?_take, if_pos this]; exact hj
 ·
  rw [hc, he] at hcm
  rw [List.eq_of_mem_replicate (List.mem_of_mem_take hcm)]
theorem rel_drop_none {S : StoreM} {l : List DN} (h : Rel S l) {id : Int} (hd : dfind l id = none) : S.drop id = (3, S) := by
 unfold StoreM.drop
 rcases h.rel id with ⟨e1, _⟩ | ⟨_, _, _, e, _⟩
 ·
  rw [e1]
 ·
  rw [hd] at e; cases e
theorem rel_drop_full {S : StoreM} {l : List DN} (h : Rel S l) {id : Int} {d : DN} (hd : dfind l id = some d) (he : ¬ dempty d) : S.drop id = (8, S) := by
 obtain ⟨n, hn, hi⟩ := rel_empty h hd
 exact drop_full hn (fun e => he (hi.2 e))
theorem rel_drop_empty {S : StoreM} {l : List DN} (h : Rel S l) {id : Int} {d : DN} (hd : dfind l id = some d) (he : dempty d) : S.drop id = (0, S.delNode id) := by
 obtain ⟨n, hn, hi⟩ := rel_empty h hd
 exact drop_empty hn (hi.1 he)
theorem nodeFull_take (id : Nat) (caps : List CapM) (m : Nat) : ∀ j, j ≤ m → nodeFull id (caps.take m) j = nodeFull id caps j
  | 0, _ => rfl
  | j + 1, h => by
    have e : (caps.take m)[j]? = caps[j]? := by rw [List.getElem?_take, if_pos (by omega)]
    unfold nodeFull
    rw [e, nodeFull_take id caps m j (by omega)]
theorem nodeFull_rest (id : Nat) (caps : List CapM) (m : Nat) (h : ∀ j, m ≤ j → (caps[j]?.getD CapM.zero).kind = 0) : ∀ k, nodeFull id caps (m + k) = nodeFull id caps m
  | 0 => rfl
  | k + 1 => by
    show nodeFull id caps (m + k) ++ _ = _
    rw [nodeFull_rest id caps m h k, if_neg (fun e => e (h (m + k) (by omega))), List.append_nil]
def dfull1 (l : List DN) (id : Nat) : List SlotM := match dfind l (id : Int) with | none => [] | some d => nodeFull d.id d.caps d.caps.length
theorem rel_full1 {S : StoreM} {l : List DN} (h : Rel S l) (id : Nat) : full1 S id = dfull1 l id := by
 unfold full1 dfull1
 rcases h.rel id with ⟨e1, e2⟩ | ⟨n, d, hn, e, hr, hc⟩
 ·
  rw [e1, e2]
 ·
  obtain ⟨n', hn', _, _, hl, hw⟩ := rel_find h e
  rw [hn] at hn'; cases hn'
  obtain ⟨_, _, _, hid⟩ := dfind_some e
  rw [hn, e]
  dsimp only
  have hid' : d.id = id := by omega
  have := pow16 hw.hi
  rw [hl, hc, hid', nodeFull_take _ _ _ _ (Nat.le_refl _)]
  obtain ⟨k, hk⟩ : ∃ k, 16 = 2 ^ n.radix + k := ⟨16 - 2 ^ n.radix, by omega⟩
  rw [hk]
  refine nodeFull_rest _ _ _ (fun j hj => ?_) k
  cases hcj : n.caps[j]? with
  | none => rfl
  | some c =>
   rw [Option.getD_some]
   by_cases hk : c.kind = 0
   ·
    exact hk
   ·
    have := (h.tidy _ n j c hn hcj hk).1; omega
theorem filter_succ {k : Nat} : ∀ {l : List DN}, (dIds l).Pairwise (· < ·) → l.filter (fun d => decide (d.id < k + 1)) = l.filter (fun d => decide (d.id < k)) ++ (dfind l (k : Int)).toList
  | [], _ => rfl
  | a :: l, hs => by
    have hs' : (((a.id : Nat) : Int) :: dIds l).Pairwise (· < ·) := hs
    rw [List.pairwise_cons] at hs'
    have ih := filter_succ (k := k) hs'.2
    have hall : ∀ d, d ∈ l → a.id < d.id := fun d hd => by have := hs'.1 d.id (List.mem_map.2 ⟨d, hd, rfl⟩); omega
    rw [dfind_cons]
    by_cases h1 : a.id < k
    · rw [List.filter_cons_of_pos (by simp; omega), List.filter_cons_of_pos (by simp; omega), ih, if_neg (by omega), List.cons_append]
    · have hn : l.filter (fun d => decide (d.id < k)) = [] := by rw [List.filter_eq_nil_iff]; intro d hd; have := hall d hd; simp; omega
      have hn2 : l.filter (fun d => decide (d.id < k + 1)) = [] := by rw [List.filter_eq_nil_iff]; intro d hd; have := hall d hd; simp; omega
      by_cases h2 : a.id = k
      · rw [List.filter_cons_of_pos (by simp; omega), List.filter_cons_of_neg (by simp; omega), hn, hn2, if_pos (by omega)]; rfl
      · have hf : dfind l (k : Int) = none := by
          cases e : dfind l (k : Int) with
          | none => rfl
          | some d =>
            obtain ⟨_, _, hi, hd⟩ := dfind_some e
            have := hall d (List.mem_of_getElem? hi); omega
        rw [List.filter_cons_of_neg (by simp; omega), List.filter_cons_of_neg (by simp; omega), hn, hn2, if_neg (by omega), hf]; rfl
theorem fullUpto_eq {S : StoreM} {l : List DN} (h : Rel S l) : ∀ k, fullUpto S k = dfull (l.filter fun d => decide (d.id < k))
  | 0 => by
    have : l.filter (fun d => decide (d.id < 0)) = [] := by rw [List.filter_eq_nil_iff]; intro d _; simp
    rw [this]; rfl
  | k + 1 => by
    unfold fullUpto
    rw [fullUpto_eq h k, filter_succ h.srt, rel_full1 h]
    unfold dfull dfull1
    rw [List.flatMap_append]
    congr 1
    cases dfind l (k : Int) with
    | none => rfl
    | some d => simp
theorem rel_full {S : StoreM} {l : List DN} (h : Rel S l) : fullM S = dfull l := by
 unfold fullM
 rw [fullUpto_eq h, List.filter_eq_self.2]
 intro d hd
 have := h.lt d.id (List.mem_map.2 ⟨d, hd, rfl⟩)
 simp; omega
theorem rel_count {S : StoreM} {l : List DN} (h : Rel S l) (k o : Int) : countM S k o = dcount l k o := by
 unfold countM dcount isKO
 rw [rel_full h]
 congr 1
 funext s
 rw [rel_get h]
theorem sorted_len : ∀ {l : List Int} {a b : Int}, l.Pairwise (· < ·) → (∀ x, x ∈ l → a ≤ x ∧ x < b) → a ≤ b → (l.length : Int) ≤ b - a
  | [], a, b, _, _, h => by simp; omega
  | x :: l, a, b, hs, hb, h => by
    rw [List.pairwise_cons] at hs
    have hx := hb x (List.mem_cons_self ..)
    have ih := sorted_len (a := x + 1) (b := b) hs.2 (fun y hy => ⟨by have := hs.1 y hy; omega, (hb y (List.mem_cons_of_mem _ hy)).2⟩) (by omega)
    rw [List.length_cons]; omega
theorem rel_len {S : StoreM} {l : List DN} (h : Rel S l) : l.length ≤ 64 := by
 have := sorted_len (a := 0) (b := 64) h.srt (fun x hx => ⟨by obtain ⟨d, _, rfl⟩ := List.mem_map.1 hx; omega, h.lt x hx⟩) (by omega)
 rw [dIds_len] at this; omega
theorem rel_len2 {S : StoreM} {l : List DN} (h : Rel S l) : l.length ≤ 2 ^ 20 := Nat.le_trans (rel_len h) (by decide)
def AddS (S : StoreM) (id r : Int) (S' : StoreM) : Prop := (addErr S id r ≠ 0 ∧ S' = S) ∨ (addErr S id r = 0 ∧ ∃ b, S' = S.addNode id b r.toNat)
end Go.Proofs.YtdodfnjmkpgdbaaGreat
end
section
set_option linter.unusedVariables false
set_option linter.unusedSimpArgs false
namespace Go.SL
def isC (L : Hp) (b : Nat) : Prop := ∃ c T, (b, Obj.cells c T (0, 0)) ∈ L
theorem isC.mono {L M : Hp} {b : Nat} (h : isC L b) (hm : ∀ p, p ∈ L → p ∈ M) : isC M b := by
 obtain ⟨c, T, h⟩ := h; exact ⟨c, T, hm _ h⟩
section ptrs
variable {P : Program} {n : Nat} {D : List Deferred} {E : Env} {L : Hp} {d : Option Tmp} {ty : TypeId} {pos : String} {aft : Array Edge} {g : Option (Nat × Bool)} {T : TypeId} {x y : Operand}
theorem run_eql_ptr {e k b1 b2 : Nat} {w : World} [h : TyD P T (.pointer e)] [hk : TyS P e k] (hk0 : k ≠ 0) (h1 : isC L b1) (h2 : isC L b2) (hh : Held L w) :
    (Op.equal T (.pointer (some ⟨b1, 0, none⟩)) (.pointer (some ⟨b2, 0, none⟩))).run P w = .ok (decide (b1 = b2)) w := by
  obtain ⟨c1, T1, h1⟩ := h1
  obtain ⟨c2, T2, h2⟩ := h2
  have e1 := hh _ h1
  have e2 := hh _ h2
  have key : ∀ d, (Op.equalIn (d + 1) T (.pointer (some ⟨b1, 0, none⟩)) (.pointer (some ⟨b2, 0, none⟩))).run P w = .ok (decide (b1 = b2)) w := fun d => by
    by_cases hb : b1 = b2
    · subst hb
      simp [Op.equalIn, TyD.run, TyS.run, hk0, run_sameAddr_same]
    · have hne : (⟨b1, 0, none⟩ : Addr) ≠ ⟨b2, 0, none⟩ := by intro e; cases e; exact hb rfl
      simp [Op.equalIn, TyD.run, TyS.run, hk0, run_sameAddr_other w hne e1 e2, hb]
  exact key 9999
theorem pv_eql_ptr {b1 b2 e k : Nat} {yt : TypeId} (hx : ev E x = some (.pointer (some ⟨b1, 0, none⟩))) (hy : ev E y = some (.pointer (some ⟨b2, 0, none⟩))) (h1 : isC L b1) (h2 : isC L b2) [h : TyD P T (.pointer e)] [hk : TyS P e k] (hk0 : k ≠ 0) :
    Pv P n D E L ⟨d, .binOp .eql T x y yt, ty, pos, aft, g⟩ (.bool (decide (b1 = b2))) := by
  unfold Pv
  intro a w hs hh
  simp [execOp, hs.ev hx, hs.ev hy, eqGuard, binOp, run_eql_ptr hk0 h1 h2 hh]
end ptrs
section nd
variable {P : Program} {W : World} {ops : Array Oper} {Q : Exit → Act → World → Prop} {n : Nat} {D : List Deferred} {E : Env} {L : Hp} {rest : List Oper}
theorem Ops.nd (h : (L.map Prod.fst).Nodup → Ops P W ops Q n D rest E L) : Ops P W ops Q n D rest E L := by
 unfold Ops at h ⊢
 exact fun a w hs ho => h ho.nd a w hs ho
theorem Wp.nd {c : Code} (h : (L.map Prod.fst).Nodup → Wp P W Q n D c E L) : Wp P W Q n D c E L := by
 unfold Wp at h ⊢
 exact fun a w hs ho => h ho.nd a w hs ho
theorem Ends.nd {e : Exit} (h : (L.map Prod.fst).Nodup → Ends W Q n D e E L) : Ends W Q n D e E L := by
 unfold Ends at h ⊢
 exact fun a w hs ho => h ho.nd a w hs ho
theorem Ops.ndD (M : Hp) [hd : Drop L M] (h : (M.map Prod.fst).Nodup → Ops P W ops Q n D rest E L) : Ops P W ops Q n D rest E L := by
 unfold Ops at h ⊢
 exact fun a w hs ho => h (hd.own ho).nd a w hs ho
end nd
def ptrE (b : Nat) : List Value := [.pointer (some ⟨b, 0, none⟩)]
instance : Enc ptrE 1 := ⟨fun _ => rfl, fun _ => rfl⟩
abbrev ptsC (l : List Nat) : List Value := cel ptrE l
theorem ptsC_app (l m : List Nat) : ptsC (l ++ m) = ptsC l ++ ptsC m := cel_app l m
theorem ptsC_one (l : List Nat) : (ptsC l).all Value.oneCell' = true := cel_one l
theorem pts_nth {cc : List Value} {o i : Nat} {l : List Nat} {x : Nat} (hr : Reads cc o (ptsC l)) (h : l[i]? = some x) : nth cc (o + i * 1) = some (.pointer (some ⟨x, 0, none⟩)) := (cel_reads (f := ptrE) hr h).1
structure SP where
  a : Option Addr
  c : Nat
  l : List Nat
abbrev SP.v (s : SP) : Value := .slice s.a s.l.length s.c
def catP (ss : List SP) : List Nat := ss.flatMap SP.l
def catPto (ss : List SP) (i : Nat) : List Nat := catP (ss.take i)
theorem catPto_succ {ss : List SP} {i : Nat} {s : SP} (h : ss[i]? = some s) : catPto ss (i + 1) = catPto ss i ++ s.l := by
 unfold catPto catP
 rw [List.take_add_one, h, List.flatMap_append]; simp
theorem catPto_all (ss : List SP) : catPto ss ss.length = catP ss := by unfold catPto; rw [List.take_length]
theorem catPto_len (ss : List SP) : ∀ i, (catPto ss i).length ≤ (catP ss).length := fun i => by
 unfold catPto catP
 have : ss.flatMap SP.l = (ss.take i).flatMap SP.l ++ (ss.drop i).flatMap SP.l := by rw [← List.flatMap_append, List.take_append_drop]
 rw [this, List.length_append]; omega
theorem sp_nth {ss : List SP} {i : Nat} {s : SP} (h : ss[i]? = some s) : nth (ss.map SP.v) (0 + i * 1) = some s.v := by
 rw [nth_eq, Nat.zero_add, Nat.mul_one, List.getElem?_map, h]; rfl
def idxN : List Nat → Nat → Int
  | [], _ => -1
  | a :: l, x => if a = x then 0 else if idxN l x < 0 then -1 else idxN l x + 1
theorem idxN_hit : ∀ {l : List Nat} {i : Nat} {x : Nat}, l[i]? = some x → (∀ j, j < i → l[j]? ≠ some x) → idxN l x = i
  | [], i, x, h, _ => by simp at h
  | a :: l, 0, x, h, _ => by simp at h; simp [idxN, h]
  | a :: l, i + 1, x, h, hn => by
    have h0 : a ≠ x := fun e => hn 0 (by omega) (by simp [e])
    have ih := idxN_hit (l := l) (i := i) (x := x) (by simpa using h) (fun j hj => by have := hn (j + 1) (by omega); simpa using this)
    simp only [idxN, if_neg h0, ih]
    rw [if_neg (by omega)]; push_cast; rfl
theorem idxN_miss : ∀ {l : List Nat} {x : Nat}, (∀ j, j < l.length → l[j]? ≠ some x) → idxN l x = -1
  | [], _, _ => rfl
  | a :: l, x, hn => by
    have h0 : a ≠ x := fun e => hn 0 (by simp) (by simp [e])
    have ih := idxN_miss (l := l) (x := x) (fun j hj => by have := hn (j + 1) (by simpa using hj); simpa using this)
    simp only [idxN, if_neg h0, ih]; rfl
theorem idxN_map (f : Nat → Nat) : ∀ {l : List Nat} {x : Nat}, (∀ a, a ∈ l → f a = f x → a = x) → idxN (l.map f) (f x) = idxN l x
  | [], _, _ => rfl
  | a :: l, x, h => by
    have ih := idxN_map f (l := l) (x := x) (fun b hb => h b (List.mem_cons_of_mem _ hb))
    simp only [List.map_cons, idxN, ih]
    by_cases e : a = x
    · rw [if_pos e, if_pos (by rw [e])]
    · rw [if_neg e, if_neg (fun e2 => e (h a (List.mem_cons_self ..) e2))]
end Go.SL
end
section
set_option linter.unusedVariables false
set_option linter.unusedSimpArgs false
set_option linter.unusedSectionVars false
namespace Go.Proofs.YtdodfnjmkpgdbaaGreat
inductive Fo (α : Type) where
  | nil : Fo α
  | cons (i : α) (c r : Fo α) : Fo α
namespace Fo
section
variable {α : Type}
def app : (Fo α) → (Fo α) → (Fo α)
  | .nil, g => g
  | .cons i c r, g => .cons i c (app r g)
def flat : (Fo α) → Nat → List (α × Nat)
  | .nil, _ => []
  | .cons i c r, d => (i, d) :: (flat c (d + 1) ++ flat r d)
def all : (Fo α) → List α
  | .nil => []
  | .cons i c r => i :: (all c ++ all r)
def roots : (Fo α) → List α
  | .nil => []
  | .cons i _ r => i :: roots r
def OkK (kids : α → List α) : (Fo α) → Prop
  | .nil => True
  | .cons i c r => kids i = roots c ∧ OkK kids c ∧ OkK kids r
def OkP (par : α → Option α) : (Fo α) → Option α → Prop
  | .nil, _ => True
  | .cons i c r, p => par i = p ∧ OkP par c (some i) ∧ OkP par r p
def one (y : α) : (Fo α) := .cons y .nil .nil
end
variable {α : Type} [DecidableEq α]
def sub (x : α) : (Fo α) → (Fo α)
  | .nil => .nil
  | .cons i c r => if i = x then c else if x ∈ all c then sub x c else sub x r
def parO (x : α) : (Fo α) → Option α → Option α
  | .nil, _ => none
  | .cons i c r, p => if i = x then p else if x ∈ all c then parO x c (some i) else parO x r p
def drop (x : α) : (Fo α) → (Fo α)
  | .nil => .nil
  | .cons i c r => if i = x then app c r else .cons i (drop x c) (drop x r)
def addc (x y : α) : (Fo α) → (Fo α)
  | .nil => .nil
  | .cons i c r => if i = x then .cons i (app c (.cons y .nil .nil)) r else .cons i (addc x y c) (addc x y r)
def dep (x : α) : (Fo α) → Nat
  | .nil => 0
  | .cons i c r => if i = x then 0 else if x ∈ all c then dep x c + 1 else dep x r
theorem all_app : ∀ f g : (Fo α), all (app f g) = all f ++ all g
  | .nil, g => rfl
  | .cons i c r, g => by simp [app, all, all_app r g]
theorem roots_app : ∀ f g : (Fo α), roots (app f g) = roots f ++ roots g
  | .nil, g => rfl
  | .cons i c r, g => by simp [app, roots, roots_app r g]
theorem flat_app (d : Nat) : ∀ f g : (Fo α), flat (app f g) d = flat f d ++ flat g d
  | .nil, g => rfl
  | .cons i c r, g => by simp [app, flat, flat_app d r g]
theorem flat_fst : ∀ (f : (Fo α)) (d : Nat), (flat f d).map Prod.fst = all f
  | .nil, _ => rfl
  | .cons i c r, d => by simp [flat, all, flat_fst c, flat_fst r]
theorem flat_ge : ∀ (f : (Fo α)) (d : Nat) (e : α × Nat), e ∈ flat f d → d ≤ e.2
  | .nil, _, _, h => by cases h
  | .cons i c r, d, e, h => by
    simp only [flat, List.mem_cons, List.mem_append] at h
    rcases h with rfl | h | h
    · exact Nat.le_refl _
    · have := flat_ge c (d + 1) e h; omega
    · exact flat_ge r d e h
theorem flat_eq : ∀ (f : (Fo α)) (d : Nat), ((flat f d).filter fun e => decide (e.2 = d)).map Prod.fst = roots f
  | .nil, _ => rfl
  | .cons i c r, d => by
    have h1 : (flat c (d + 1)).filter (fun e => decide (e.2 = d)) = [] := by
      rw [List.filter_eq_nil_iff]
      intro e he
      have := flat_ge c (d + 1) e he
      simp; omega
    simp [flat, roots, h1, flat_eq r d]
theorem flat_shift : ∀ (f : (Fo α)) (d : Nat), (flat f (d + 1)).map (fun e => (e.1, e.2 - 1)) = flat f d
  | .nil, _ => rfl
  | .cons i c r, d => by simp [flat, flat_shift c (d + 1), flat_shift r d]
theorem roots_sub_all : ∀ (f : (Fo α)) (x : α), x ∈ roots f → x ∈ all f
  | .nil, _, h => by cases h
  | .cons i c r, x, h => by
    simp only [roots, List.mem_cons, all, List.mem_append] at h ⊢
    rcases h with h | h
    · exact .inl h
    · exact .inr (.inr (roots_sub_all r x h))
theorem sub_all : ∀ (f : (Fo α)) (x z : α), z ∈ all (sub x f) → z ∈ all f
  | .nil, _, _, h => h
  | .cons i c r, x, z, h => by
    simp only [sub] at h
    simp only [all, List.mem_cons, List.mem_append]
    split at h
    · exact .inr (.inl h)
    · split at h
      · exact .inr (.inl (sub_all c x z h))
      · exact .inr (.inr (sub_all r x z h))
theorem sub_no : ∀ (f : (Fo α)) (x : α), x ∉ all f → sub x f = .nil
  | .nil, _, _ => rfl
  | .cons i c r, x, h => by
    simp only [all, List.mem_cons, List.mem_append, not_or] at h
    simp only [sub]
    rw [if_neg (Ne.symm h.1), if_neg h.2.1, sub_no r x h.2.2]
theorem parO_no : ∀ (f : (Fo α)) (x : α) (p : Option α), x ∉ all f → parO x f p = none
  | .nil, _, _, _ => rfl
  | .cons i c r, x, p, h => by
    simp only [all, List.mem_cons, List.mem_append, not_or] at h
    simp only [parO]
    rw [if_neg (Ne.symm h.1), if_neg h.2.1, parO_no r x p h.2.2]
theorem drop_no : ∀ (f : (Fo α)) (x : α), x ∉ all f → drop x f = f
  | .nil, _, _ => rfl
  | .cons i c r, x, h => by
    simp only [all, List.mem_cons, List.mem_append, not_or] at h
    simp only [drop]
    rw [if_neg (Ne.symm h.1), drop_no c x h.2.1, drop_no r x h.2.2]
theorem addc_no (y : α) : ∀ (f : (Fo α)) (x : α), x ∉ all f → addc x y f = f
  | .nil, _, _ => rfl
  | .cons i c r, x, h => by
    simp only [all, List.mem_cons, List.mem_append, not_or] at h
    simp only [addc]
    rw [if_neg (Ne.symm h.1), addc_no y c x h.2.1, addc_no y r x h.2.2]
def Nd {α : Type} (f : (Fo α)) : Prop := (all f).Nodup
theorem nd_cons {i : α} {c r : (Fo α)} (h : Nd (.cons i c r)) : i ∉ all c ∧ i ∉ all r ∧ Nd c ∧ Nd r ∧ ∀ z, z ∈ all c → z ∉ all r := by
 unfold Nd at h
 simp only [all, List.nodup_cons, List.mem_append, not_or, List.nodup_append] at h
 exact ⟨h.1.1, h.1.2, h.2.1, h.2.2.1, fun z h1 h2 => h.2.2.2 z h1 z h2 rfl⟩
theorem OkK.sub {kids : α → List α} : ∀ {f : (Fo α)} {x : α}, OkK kids f → x ∈ all f → kids x = roots (sub x f) ∧ OkK kids (sub x f)
  | .nil, _, _, h => by cases h
  | .cons i c r, x, ⟨h1, h2, h3⟩, h => by
    simp only [all, List.mem_cons, List.mem_append] at h
    simp only [Fo.sub]
    by_cases e : i = x
    · rw [if_pos e]; exact ⟨e ▸ h1, h2⟩
    · rw [if_neg e]
      by_cases e2 : x ∈ all c
      · rw [if_pos e2]; exact OkK.sub h2 e2
      · rw [if_neg e2]
        exact OkK.sub h3 (by rcases h with h | h | h; exact absurd h.symm e; exact absurd h e2; exact h)
theorem OkP.at {par : α → Option α} : ∀ {f : (Fo α)} {p : Option α} {x : α}, OkP par f p → x ∈ all f → par x = parO x f p
  | .nil, _, _, _, h => by cases h
  | .cons i c r, p, x, ⟨h1, h2, h3⟩, h => by
    simp only [all, List.mem_cons, List.mem_append] at h
    simp only [parO]
    by_cases e : i = x
    · rw [if_pos e]; exact e ▸ h1
    · rw [if_neg e]
      by_cases e2 : x ∈ all c
      · rw [if_pos e2]; exact OkP.at h2 e2
      · rw [if_neg e2]
        exact OkP.at h3 (by rcases h with h | h | h; exact absurd h.symm e; exact absurd h e2; exact h)
theorem OkK.congr {k k' : α → List α} : ∀ {f : (Fo α)}, (∀ z, z ∈ all f → k z = k' z) → OkK k f → OkK k' f
  | .nil, _, _ => trivial
  | .cons i c r, h, ⟨h1, h2, h3⟩ => ⟨by rw [← h i (by simp [all])]; exact h1, OkK.congr (fun z hz => h z (by simp [all, hz])) h2, OkK.congr (fun z hz => h z (by simp [all, hz])) h3⟩
theorem OkP.congr {k k' : α → Option α} : ∀ {f : (Fo α)} {p : Option α}, (∀ z, z ∈ all f → k z = k' z) → OkP k f p → OkP k' f p
  | .nil, _, _, _ => trivial
  | .cons i c r, p, h, ⟨h1, h2, h3⟩ => ⟨by rw [← h i (by simp [all])]; exact h1, OkP.congr (fun z hz => h z (by simp [all, hz])) h2, OkP.congr (fun z hz => h z (by simp [all, hz])) h3⟩
theorem OkK.app {k : α → List α} : ∀ {f g : (Fo α)}, OkK k f → OkK k g → OkK k (Fo.app f g)
  | .nil, _, _, h => h
  | .cons i c r, g, ⟨h1, h2, h3⟩, h => ⟨h1, h2, OkK.app h3 h⟩
theorem OkP.app {k : α → Option α} : ∀ {f g : (Fo α)} {p : Option α}, OkP k f p → OkP k g p → OkP k (Fo.app f g) p
  | .nil, _, _, _, h => h
  | .cons i c r, g, p, ⟨h1, h2, h3⟩, h => ⟨h1, h2, OkP.app h3 h⟩
theorem roots_addc {x y : α} : ∀ f : (Fo α), roots (addc x y f) = roots f
  | .nil => rfl
  | .cons i c r => by
    simp only [addc]
    split
    · rfl
    · simp [roots, roots_addc r]
theorem OkK.addc {k k' : α → List α} {x y : α} (hx : k' x = k x ++ [y]) (hy : k' y = []) : ∀ {f : (Fo α)}, Nd f → y ∉ all f → (∀ z, z ∈ all f → z ≠ x → k' z = k z) → OkK k f → OkK k' (Fo.addc x y f)
  | .nil, _, _, _, _ => trivial
  | .cons i c r, hn, hyf, h, ⟨h1, h2, h3⟩ => by
    obtain ⟨n1, n2, n3, n4, n5⟩ := nd_cons hn
    simp only [all, List.mem_cons, List.mem_append, not_or] at hyf
    simp only [Fo.addc]
    by_cases e : i = x
    · rw [if_pos e]
      subst e
      refine ⟨by rw [hx, h1, roots_app]; rfl, OkK.app (OkK.congr (fun z hz => (h z (by simp [all, hz]) (fun e => n1 (e ▸ hz))).symm) h2) ⟨hy, trivial, trivial⟩, OkK.congr (fun z hz => (h z (by simp [all, hz]) (fun e => n2 (e ▸ hz))).symm) h3⟩
    · rw [if_neg e]
      refine ⟨by rw [roots_addc, h i (by simp [all]) e, h1], OkK.addc hx hy n3 hyf.2.1 (fun z hz => h z (by simp [all, hz])) h2, OkK.addc hx hy n4 hyf.2.2 (fun z hz => h z (by simp [all, hz])) h3⟩
theorem OkP.addc {k : α → Option α} {x y : α} (hy : k y = some x) : ∀ {f : (Fo α)} {p : Option α}, OkP k f p → OkP k (Fo.addc x y f) p
  | .nil, _, _ => trivial
  | .cons i c r, p, ⟨h1, h2, h3⟩ => by
    simp only [Fo.addc]
    by_cases e : i = x
    · rw [if_pos e]
      exact ⟨h1, OkP.app h2 ⟨by rw [hy, e], trivial, trivial⟩, h3⟩
    · rw [if_neg e]
      exact ⟨h1, OkP.addc hy h2, OkP.addc hy h3⟩
def repl (x : α) (l : List α) : List α → List α
  | [] => []
  | a :: m => if a = x then l ++ m else a :: repl x l m
theorem repl_no {x : α} {l : List α} : ∀ {m : List α}, x ∉ m → repl x l m = m
  | [], _ => rfl
  | a :: m, h => by
    simp only [List.mem_cons, not_or] at h
    simp only [repl]; rw [if_neg (Ne.symm h.1), repl_no h.2]
theorem roots_drop {x : α} : ∀ {f : (Fo α)}, Nd f → roots (drop x f) = repl x (roots (sub x f)) (roots f)
  | .nil, _ => rfl
  | .cons i c r, hn => by
    obtain ⟨n1, n2, n3, n4, n5⟩ := nd_cons hn
    simp only [drop, sub, roots, repl]
    by_cases e : i = x
    · rw [if_pos e, if_pos e, if_pos e, roots_app]
    · rw [if_neg e, if_neg e, if_neg e]
      by_cases e2 : x ∈ all c
      · have h3 := n5 x e2
        rw [roots, drop_no r x h3, repl_no (fun hx => h3 (roots_sub_all r x hx))]
      · rw [if_neg e2, roots, roots_drop n4]
theorem parO_root : ∀ {f : (Fo α)} {x : α} {p : Option α}, Nd f → x ∈ roots f → parO x f p = p
  | .nil, _, _, _, h => by cases h
  | .cons i c r, x, p, hn, h => by
    obtain ⟨n1, n2, n3, n4, n5⟩ := nd_cons hn
    simp only [parO]
    by_cases e : i = x
    · rw [if_pos e]
    · rw [if_neg e]
      have hr : x ∈ roots r := by
        simp only [roots, List.mem_cons] at h
        rcases h with h | h
        · exact absurd h.symm e
        · exact h
      rw [if_neg (fun h2 => n5 x h2 (roots_sub_all r x hr)), parO_root n4 hr]
theorem parO_in : ∀ {f : (Fo α)} {x : α} {p : Option α}, Nd f → x ∈ all f → x ∉ roots f → ∃ j, parO x f p = some j ∧ j ∈ all f
  | .nil, _, _, _, h, _ => by cases h
  | .cons i c r, x, p, hn, h, hr => by
    obtain ⟨n1, n2, n3, n4, n5⟩ := nd_cons hn
    simp only [all, List.mem_cons, List.mem_append] at h
    simp only [roots, List.mem_cons, not_or] at hr
    simp only [parO]
    rw [if_neg (Ne.symm hr.1)]
    by_cases e2 : x ∈ all c
    · rw [if_pos e2]
      by_cases e3 : x ∈ roots c
      · exact ⟨i, parO_root n3 e3, by simp [all]⟩
      · obtain ⟨j, h1, h2⟩ := parO_in (p := some i) n3 e2 e3
        exact ⟨j, h1, by simp [all, h2]⟩
    · rw [if_neg e2]
      obtain ⟨j, h1, h2⟩ := parO_in (f := r) (p := p) n4 (by rcases h with h | h | h; exact absurd h hr.1; exact absurd h e2; exact h) hr.2
      exact ⟨j, h1, by simp [all, h2]⟩
theorem parO_mem {f : (Fo α)} {x : α} {p : Option α} {j : α} (hn : Nd f) (hx : x ∈ all f) (h : parO x f p = some j) : p = some j ∨ j ∈ all f := by
 by_cases hr : x ∈ roots f
 ·
  rw [parO_root hn hr] at h; exact .inl h
 ·
  obtain ⟨k, h1, h2⟩ := parO_in (p := p) hn hx hr
  rw [h1] at h; cases h; exact .inr h2
theorem all_drop {x : α} : ∀ {f : (Fo α)} {z : α}, Nd f → (z ∈ all (drop x f) ↔ z ∈ all f ∧ z ≠ x)
  | .nil, _, _ => by simp [drop, all]
  | .cons i c r, z, hn => by
    obtain ⟨n1, n2, n3, n4, n5⟩ := nd_cons hn
    simp only [drop]
    by_cases e : i = x
    · rw [if_pos e, all_app, List.mem_append]
      subst e
      simp only [all, List.mem_cons, List.mem_append]
      constructor
      · rintro (h | h)
        · exact ⟨.inr (.inl h), fun e => n1 (e ▸ h)⟩
        · exact ⟨.inr (.inr h), fun e => n2 (e ▸ h)⟩
      · rintro ⟨h | h | h, h2⟩
        · exact absurd h h2
        · exact .inl h
        · exact .inr h
    · rw [if_neg e]
      simp only [all, List.mem_cons, List.mem_append, all_drop n3, all_drop n4]
      constructor
      · rintro (h | h | h)
        · exact ⟨.inl h, fun e2 => e (h ▸ e2)⟩
        · exact ⟨.inr (.inl h.1), h.2⟩
        · exact ⟨.inr (.inr h.1), h.2⟩
      · rintro ⟨h | h | h, h2⟩
        · exact .inl h
        · exact .inr (.inl ⟨h, h2⟩)
        · exact .inr (.inr ⟨h, h2⟩)
theorem OkP.at_root {k k' : α → Option α} : ∀ {f : (Fo α)} {p q : Option α}, Nd f → (∀ z, z ∈ all f → k' z = if z ∈ roots f then q else k z) → OkP k f p → OkP k' f q
  | .nil, _, _, _, _, _ => trivial
  | .cons i c r, p, q, hn, h, ⟨h1, h2, h3⟩ => by
    obtain ⟨n1, n2, n3, n4, n5⟩ := nd_cons hn
    refine ⟨by rw [h i (by simp [all]), if_pos (by simp [roots])], OkP.congr (fun z hz => ?_) h2, OkP.at_root (k := k) (p := p) n4 (fun z hz => ?_) h3⟩
    · rw [h z (by simp [all, hz]), if_neg]
      simp only [roots, List.mem_cons, not_or]
      exact ⟨fun e => n1 (e ▸ hz), fun hr => n5 z hz (roots_sub_all r z hr)⟩
    · rw [h z (by simp [all, hz])]
      simp only [roots, List.mem_cons]
      have : z ≠ i := fun e => n2 (e ▸ hz)
      simp [this]
theorem OkP.drop {k k' : α → Option α} {x : α} : ∀ {f : (Fo α)} {p : Option α}, Nd f → x ∈ all f → (∀ z, z ∈ all f → z ≠ x → k' z = if z ∈ roots (Fo.sub x f) then parO x f p else k z) → OkP k f p → OkP k' (Fo.drop x f) p
  | .nil, _, _, hx, _, _ => by cases hx
  | .cons i c r, p, hn, hx, h, ⟨h1, h2, h3⟩ => by
    obtain ⟨n1, n2, n3, n4, n5⟩ := nd_cons hn
    simp only [Fo.drop]
    simp only [Fo.sub, parO] at h
    by_cases e : i = x
    · rw [if_pos e]
      subst e
      simp only [if_true] at h
      refine OkP.app (OkP.at_root (k := k) (p := some i) n3 (fun z hz => ?_) h2) (OkP.congr (fun z hz => ?_) h3)
      · exact h z (by simp [all, hz]) (fun e => n1 (e ▸ hz))
      · rw [h z (by simp [all, hz]) (fun e => n2 (e ▸ hz)), if_neg (fun hr => n5 z (roots_sub_all c z hr) hz)]
    · rw [if_neg e]
      simp only [if_neg e] at h
      by_cases e2 : x ∈ all c
      · simp only [if_pos e2] at h
        have hsub : ∀ z, z ∈ roots (Fo.sub x c) → z ∈ all c := fun z hz => sub_all c x z (roots_sub_all _ z hz)
        refine ⟨?_, OkP.drop n3 e2 (fun z hz hzx => h z (by simp [all, hz]) hzx) h2, ?_⟩
        · rw [h i (by simp [all]) e, if_neg (fun hz => n1 (hsub _ hz)), h1]
        · rw [drop_no r x (n5 x e2)]
          refine OkP.congr (fun z hz => ?_) h3
          rw [h z (by simp [all, hz]) (fun e => n5 x e2 (e ▸ hz)), if_neg (fun hr => n5 z (hsub z hr) hz)]
      · simp only [if_neg e2] at h
        have hxr : x ∈ all r := by
          simp only [all, List.mem_cons, List.mem_append] at hx
          rcases hx with hx | hx | hx
          · exact absurd hx.symm e
          · exact absurd hx e2
          · exact hx
        have hsub : ∀ z, z ∈ roots (Fo.sub x r) → z ∈ all r := fun z hz => sub_all r x z (roots_sub_all _ z hz)
        refine ⟨?_, ?_, OkP.drop n4 hxr (fun z hz hzx => h z (by simp [all, hz]) hzx) h3⟩
        · rw [h i (by simp [all]) e, if_neg (fun hz => n2 (hsub _ hz)), h1]
        · rw [drop_no c x e2]
          refine OkP.congr (fun z hz => ?_) h2
          rw [h z (by simp [all, hz]) (fun e => e2 (e ▸ hz)), if_neg (fun hr => n5 z hz (hsub z hr))]
theorem OkK.drop {k k' : α → List α} {x : α} : ∀ {f : (Fo α)} {p : Option α}, Nd f → (∀ j, p = some j → j ∉ all f) → x ∈ all f → (∀ z, z ∈ all f → z ≠ x → k' z = if parO x f p = some z then repl x (roots (Fo.sub x f)) (k z) else k z) → OkK k f → OkK k' (Fo.drop x f)
  | .nil, _, _, _, hx, _, _ => by cases hx
  | .cons i c r, p, hn, hp, hx, h, ⟨h1, h2, h3⟩ => by
    obtain ⟨n1, n2, n3, n4, n5⟩ := nd_cons hn
    have hp2 : ∀ j, p = some j → j ≠ i ∧ j ∉ all c ∧ j ∉ all r := fun j hj => by
      have := hp j hj
      simpa [all] using this
    simp only [Fo.drop]
    simp only [Fo.sub, parO] at h
    by_cases e : i = x
    · rw [if_pos e]
      subst e
      simp only [if_true] at h
      refine OkK.app (OkK.congr (fun z hz => ?_) h2) (OkK.congr (fun z hz => ?_) h3)
      · rw [h z (by simp [all, hz]) (fun e => n1 (e ▸ hz)), if_neg (fun hj => (hp2 z hj).2.1 hz)]
      · rw [h z (by simp [all, hz]) (fun e => n2 (e ▸ hz)), if_neg (fun hj => (hp2 z hj).2.2 hz)]
    · rw [if_neg e]
      simp only [if_neg e] at h
      by_cases e2 : x ∈ all c
      · simp only [if_pos e2] at h
        refine ⟨?_, OkK.drop (p := some i) n3 (fun j hj => by cases hj; exact n1) e2 (fun z hz hzx => h z (by simp [all, hz]) hzx) h2, ?_⟩
        · rw [h i (by simp [all]) e, roots_drop n3, h1]
          by_cases e3 : x ∈ roots c
          · rw [parO_root n3 e3, if_pos rfl]
          · rw [repl_no e3, if_neg]
            obtain ⟨j, hj, hjc⟩ := parO_in (p := some i) n3 e2 e3
            rw [hj]; intro e; cases e; exact n1 hjc
        · rw [drop_no r x (n5 x e2)]
          refine OkK.congr (fun z hz => ?_) h3
          rw [h z (by simp [all, hz]) (fun e => n5 x e2 (e ▸ hz)), if_neg]
          intro hj
          rcases parO_mem n3 e2 hj with hj | hj
          · cases hj; exact n2 hz
          · exact n5 z hj hz
      · simp only [if_neg e2] at h
        have hxr : x ∈ all r := by
          simp only [all, List.mem_cons, List.mem_append] at hx
          rcases hx with hx | hx | hx
          · exact absurd hx.symm e
          · exact absurd hx e2
          · exact hx
        refine ⟨?_, ?_, OkK.drop (p := p) n4 (fun j hj => (hp2 j hj).2.2) hxr (fun z hz hzx => h z (by simp [all, hz]) hzx) h3⟩
        · rw [h i (by simp [all]) e, drop_no c x e2, if_neg, h1]
          intro hj
          rcases parO_mem n4 hxr hj with hj | hj
          · exact (hp2 i hj).1 rfl
          · exact n2 hj
        · rw [drop_no c x e2]
          refine OkK.congr (fun z hz => ?_) h2
          rw [h z (by simp [all, hz]) (fun e => e2 (e ▸ hz)), if_neg]
          intro hj
          rcases parO_mem n4 hxr hj with hj | hj
          · exact (hp2 z hj).2.1 hz
          · exact n5 z hz hj
structure Cut (x y : α) (f : (Fo α)) (d : Nat) (p : Option α) (A : List (α × Nat)) (e : Nat) (B : List (α × Nat)) : Prop where
  row : flat f d = A ++ (x, e) :: (flat (sub x f) (e + 1) ++ B)
  behind : ∀ b, B.head? = some b → b.2 ≤ e
  child : flat (addc x y f) d = A ++ (x, e) :: (flat (sub x f) (e + 1) ++ (y, e + 1) :: B)
  gone : flat (drop x f) d = A ++ (flat (sub x f) e ++ B)
  deep : d ≤ e ∧ e = d + dep x f
  top : x ∈ roots f → e = d
  par : x ∉ roots f → ∃ j A1 A2, parO x f p = some j ∧ A = A1 ++ (j, e - 1) :: A2 ∧ (∀ a, a ∈ A2 → e ≤ a.2) ∧ d < e
  ahead : ∀ a, a ∈ A → d ≤ a.2
theorem flat_head {f : (Fo α)} {d : Nat} {b : α × Nat} (h : (flat f d).head? = some b) : b.2 = d := by
 cases f with
 | nil => cases h
 | cons i c r => simp [flat] at h; rw [← h]
theorem cut : ∀ {f : (Fo α)} {x y : α} {d : Nat} {p : Option α}, Nd f → x ∈ all f → ∃ A e B, Cut x y f d p A e B
  | .nil, _, _, _, _, _, h => by cases h
  | .cons i c r, x, y, d, p, hn, h => by
    obtain ⟨n1, n2, n3, n4, n5⟩ := nd_cons hn
    by_cases e : i = x
    · subst e
      refine ⟨[], d, flat r d, ?_⟩
      constructor
      · simp [flat, sub]
      · intro b hb; rw [flat_head hb]; exact Nat.le_refl _
      · simp [addc, flat, sub, flat_app]
      · simp [drop, sub, flat_app]
      · simp [dep]
      · intro _; rfl
      · intro hr; simp [roots] at hr
      · intro a ha; cases ha
    · by_cases e2 : x ∈ all c
      · have hxr := n5 x e2
        obtain ⟨A, e', B, h⟩ := cut (y := y) (d := d + 1) (p := some i) n3 e2
        have hs : sub x (.cons i c r) = sub x c := by simp [sub, e, e2]
        refine ⟨(i, d) :: A, e', B ++ flat r d, ?_⟩
        constructor
        · rw [hs]; simp [flat, h.row]
        · intro b hb
          cases B with
          | nil => rw [List.nil_append] at hb; rw [flat_head hb]; have := h.deep.1; omega
          | cons b2 B2 => exact h.behind b (by simpa using hb)
        · rw [hs]
          have : addc x y (.cons i c r) = .cons i (addc x y c) r := by simp [addc, e, addc_no y r x hxr]
          rw [this]; simp [flat, h.child]
        · rw [hs]
          have : drop x (.cons i c r) = .cons i (drop x c) r := by simp [drop, e, drop_no r x hxr]
          rw [this]; simp [flat, h.gone]
        · have := h.deep
          refine ⟨by omega, ?_⟩
          simp only [dep]; rw [if_neg e, if_pos e2]; omega
        · intro hr
          simp only [roots, List.mem_cons] at hr
          rcases hr with hr | hr
          · exact absurd hr.symm e
          · exact absurd (roots_sub_all r x hr) hxr
        · intro _
          have hd := h.deep
          have hp : parO x (.cons i c r) p = parO x c (some i) := by simp [parO, e, e2]
          rw [hp]
          by_cases e3 : x ∈ roots c
          · have := h.top e3
            exact ⟨i, [], A, parO_root n3 e3, by rw [this]; rfl, fun a ha => by rw [this]; exact h.ahead a ha, by omega⟩
          · obtain ⟨j, A1, A2, h1, h2, h3, h4⟩ := h.par e3
            exact ⟨j, (i, d) :: A1, A2, h1, by rw [h2]; rfl, h3, by omega⟩
        · intro a ha
          rcases List.mem_cons.1 ha with rfl | ha
          · exact Nat.le_refl _
          · have := h.ahead a ha; omega
      · have hxr : x ∈ all r := by
          simp only [all, List.mem_cons, List.mem_append] at h
          rcases h with h | h | h
          · exact absurd h.symm e
          · exact absurd h e2
          · exact h
        obtain ⟨A, e', B, h⟩ := cut (y := y) (d := d) (p := p) n4 hxr
        have hs : sub x (.cons i c r) = sub x r := by simp [sub, e, e2]
        refine ⟨(i, d) :: (flat c (d + 1) ++ A), e', B, ?_⟩
        constructor
        · rw [hs]; simp [flat, h.row]
        · exact h.behind
        · rw [hs]
          have : addc x y (.cons i c r) = .cons i c (addc x y r) := by simp [addc, e, addc_no y c x e2]
          rw [this]; simp [flat, h.child]
        · rw [hs]
          have : drop x (.cons i c r) = .cons i c (drop x r) := by simp [drop, e, drop_no c x e2]
          rw [this]; simp [flat, h.gone]
        · have := h.deep
          refine ⟨by omega, ?_⟩
          simp only [dep]; rw [if_neg e, if_neg e2]; omega
        · intro hr
          simp only [roots, List.mem_cons] at hr
          rcases hr with hr | hr
          · exact absurd hr.symm e
          · exact h.top hr
        · intro hr
          simp only [roots, List.mem_cons, not_or] at hr
          obtain ⟨j, A1, A2, h1, h2, h3, h4⟩ := h.par hr.2
          exact ⟨j, (i, d) :: (flat c (d + 1) ++ A1), A2, by simp [parO, e, e2, h1], by rw [h2]; simp, h3, h4⟩
        · intro a ha
          rcases List.mem_cons.1 ha with rfl | ha
          · exact Nat.le_refl _
          · rcases List.mem_append.1 ha with ha | ha
            · have := flat_ge c (d + 1) a ha; omega
            · exact h.ahead a ha
theorem all_addc {x y : α} : ∀ {f : (Fo α)} {z : α}, (z ∈ all (addc x y f) ↔ z ∈ all f ∨ (z = y ∧ x ∈ all f))
  | .nil, z => by simp [addc, all]
  | .cons i c r, z => by
    simp only [addc]
    by_cases e : i = x
    · rw [if_pos e]
      subst e
      simp only [all, all_app, List.mem_cons, List.mem_append, List.not_mem_nil, or_false, true_or, and_true, List.append_nil]
      constructor
      · rintro (h | (h | h) | h)
        · exact .inl (.inl h)
        · exact .inl (.inr (.inl h))
        · exact .inr h
        · exact .inl (.inr (.inr h))
      · rintro ((h | h | h) | h)
        · exact .inl h
        · exact .inr (.inl (.inl h))
        · exact .inr (.inr h)
        · exact .inr (.inl (.inr h))
    · rw [if_neg e]
      simp only [all, List.mem_cons, List.mem_append, all_addc (f := c), all_addc (f := r)]
      constructor
      · rintro (h | (h | h) | (h | h))
        · exact .inl (.inl h)
        · exact .inl (.inr (.inl h))
        · exact .inr ⟨h.1, .inr (.inl h.2)⟩
        · exact .inl (.inr (.inr h))
        · exact .inr ⟨h.1, .inr (.inr h.2)⟩
      · rintro ((h | h | h) | ⟨h, h2 | h2 | h2⟩)
        · exact .inl h
        · exact .inr (.inl (.inl h))
        · exact .inr (.inr (.inl h))
        · exact absurd h2.symm e
        · exact .inr (.inl (.inr ⟨h, h2⟩))
        · exact .inr (.inr (.inr ⟨h, h2⟩))
theorem nd_app {f g : (Fo α)} (h1 : Nd f) (h2 : Nd g) (h : ∀ z, z ∈ all f → z ∉ all g) : Nd (app f g) := by
 unfold Nd at *
 rw [all_app, List.nodup_append]
 exact ⟨h1, h2, fun a ha b hb e => h a ha (e ▸ hb)⟩
theorem nd_mk {i : α} {c r : (Fo α)} (h1 : i ∉ all c) (h2 : i ∉ all r) (h3 : Nd c) (h4 : Nd r) (h5 : ∀ z, z ∈ all c → z ∉ all r) : Nd (.cons i c r) := by
 unfold Nd at *
 simp only [all, List.nodup_cons, List.mem_append, not_or, List.nodup_append]
 exact ⟨⟨h1, h2⟩, h3, h4, fun a ha b hb e => h5 a ha (e ▸ hb)⟩
theorem nd_one (y : α) : Nd (one y) := by unfold Nd one; simp [all]
theorem nd_addc {x y : α} : ∀ {f : (Fo α)}, Nd f → y ∉ all f → Nd (addc x y f)
  | .nil, h, _ => h
  | .cons i c r, hn, hy => by
    obtain ⟨n1, n2, n3, n4, n5⟩ := nd_cons hn
    simp only [all, List.mem_cons, List.mem_append, not_or] at hy
    simp only [addc]
    by_cases e : i = x
    · rw [if_pos e]
      refine nd_mk ?_ n2 (nd_app n3 (nd_one y) ?_) n4 ?_
      · rw [all_app]; simp [all]; exact ⟨n1, Ne.symm hy.1⟩
      · intro z hz h; simp [one, all] at h; exact hy.2.1 (h ▸ hz)
      · intro z hz; rw [all_app] at hz; simp [all] at hz
        rcases hz with hz | hz
        · exact n5 z hz
        · exact hz ▸ hy.2.2
    · rw [if_neg e]
      refine nd_mk ?_ ?_ (nd_addc n3 hy.2.1) (nd_addc n4 hy.2.2) ?_
      · rw [all_addc]; rintro (h | h); exact n1 h; exact hy.1 h.1.symm
      · rw [all_addc]; rintro (h | h); exact n2 h; exact hy.1 h.1.symm
      · intro z hz hr
        rw [all_addc] at hz hr
        rcases hz with hz | hz <;> rcases hr with hr | hr
        · exact n5 z hz hr
        · exact hy.2.1 (hr.1 ▸ hz)
        · exact hy.2.2 (hz.1 ▸ hr)
        · exact n5 x hz.2 hr.2
theorem drop_sublist {x : α} : ∀ f : (Fo α), (all (drop x f)).Sublist (all f)
  | .nil => List.Sublist.refl _
  | .cons i c r => by
    simp only [drop]
    split
    · rw [all_app]; exact List.sublist_cons_self _ _
    · simp only [all]; exact ((drop_sublist c).append (drop_sublist r)).cons_cons _
theorem nd_drop {x : α} {f : (Fo α)} (h : Nd f) : Nd (drop x f) := (drop_sublist f).nodup h
theorem drop_len {x : α} : ∀ {f : (Fo α)}, Nd f → x ∈ all f → (all (drop x f)).length + 1 = (all f).length
  | .nil, _, h => by cases h
  | .cons i c r, hn, h => by
    obtain ⟨n1, n2, n3, n4, n5⟩ := nd_cons hn
    simp only [drop]
    by_cases e : i = x
    · rw [if_pos e, all_app]; simp [all]
    · rw [if_neg e]
      simp only [all, List.length_cons, List.length_append]
      by_cases e2 : x ∈ all c
      · have := drop_len n3 e2
        rw [drop_no r x (n5 x e2)]; omega
      · have hxr : x ∈ all r := by
          simp only [all, List.mem_cons, List.mem_append] at h
          rcases h with h | h | h
          · exact absurd h.symm e
          · exact absurd h e2
          · exact h
        have := drop_len n4 hxr
        rw [drop_no c x e2]; omega
theorem addc_len {x y : α} : ∀ {f : (Fo α)}, Nd f → x ∈ all f → (all (addc x y f)).length = (all f).length + 1
  | .nil, _, h => by cases h
  | .cons i c r, hn, h => by
    obtain ⟨n1, n2, n3, n4, n5⟩ := nd_cons hn
    simp only [addc]
    by_cases e : i = x
    · rw [if_pos e]; simp [all, all_app]; omega
    · rw [if_neg e]
      simp only [all, List.length_cons, List.length_append]
      by_cases e2 : x ∈ all c
      · have := addc_len (y := y) n3 e2
        rw [addc_no y r x (n5 x e2)]; omega
      · have hxr : x ∈ all r := by
          simp only [all, List.mem_cons, List.mem_append] at h
          rcases h with h | h | h
          · exact absurd h.symm e
          · exact absurd h e2
          · exact h
        have := addc_len (y := y) n4 hxr
        rw [addc_no y c x e2]; omega
theorem sub_self : ∀ {f : (Fo α)} {x : α}, Nd f → x ∉ all (sub x f)
  | .nil, _, _ => by simp [sub, all]
  | .cons i c r, x, hn => by
    obtain ⟨n1, n2, n3, n4, n5⟩ := nd_cons hn
    simp only [sub]
    by_cases e : i = x
    · rw [if_pos e]; exact e ▸ n1
    · rw [if_neg e]
      split
      · exact sub_self n3
      · exact sub_self n4
theorem parO_kid : ∀ {f : (Fo α)} {x j : α} {p : Option α}, Nd f → x ∈ all f → parO x f p = some j → (p = some j ∧ x ∈ roots f) ∨ (j ∈ all f ∧ x ∈ roots (sub j f))
  | .nil, _, _, _, _, h, _ => by cases h
  | .cons i c r, x, j, p, hn, h, hp => by
    obtain ⟨n1, n2, n3, n4, n5⟩ := nd_cons hn
    simp only [parO] at hp
    by_cases e : i = x
    · rw [if_pos e] at hp; exact .inl ⟨hp, by simp [roots, e]⟩
    · rw [if_neg e] at hp
      by_cases e2 : x ∈ all c
      · rw [if_pos e2] at hp
        rcases parO_kid n3 e2 hp with ⟨h1, h2⟩ | ⟨h1, h2⟩
        · cases h1; exact .inr ⟨by simp [all], by simp [sub, h2]⟩
        · refine .inr ⟨by simp [all, h1], ?_⟩
          have : i ≠ j := fun e => n1 (e ▸ h1)
          simp [sub, this, h1, h2]
      · rw [if_neg e2] at hp
        have hxr : x ∈ all r := by
          simp only [all, List.mem_cons, List.mem_append] at h
          rcases h with h | h | h
          · exact absurd h.symm e
          · exact absurd h e2
          · exact h
        rcases parO_kid n4 hxr hp with ⟨h1, h2⟩ | ⟨h1, h2⟩
        · exact .inl ⟨h1, by simp [roots, h2]⟩
        · refine .inr ⟨by simp [all, h1], ?_⟩
          have h3 : i ≠ j := fun e => n2 (e ▸ h1)
          have h4 : j ∉ all c := fun h => n5 j h h1
          simp [sub, h3, h4, h2]
end Fo
end Go.Proofs.YtdodfnjmkpgdbaaGreat
end
section
set_option linter.unusedVariables false
set_option linter.unusedSimpArgs false
namespace Go.Proofs.YtdodfnjmkpgdbaaGreat
open Go.SL
structure TreeM where
  n : Nat
  sl : Nat → SlotM
  par : Nat → Option Nat
  kids : Nat → List Nat
  M : List (SlotM × Nat × Nat)
def tget (s : SlotM) : List (SlotM × Nat × Nat) → Option Nat
  | [] => none
  | e :: l => if s = e.1 then some e.2.1 else tget s l
def tdel (s : SlotM) : List (SlotM × Nat × Nat) → List (SlotM × Nat × Nat)
  | [] => []
  | e :: l => if s = e.1 then l else e :: tdel s l
theorem tget_app {s : SlotM} : ∀ {l m : List (SlotM × Nat × Nat)}, tget s (l ++ m) = (tget s l).or (tget s m)
  | [], m => rfl
  | e :: l, m => by
    simp only [List.cons_append, tget]
    split
    · rfl
    · exact tget_app
theorem tget_notin {s : SlotM} : ∀ {l : List (SlotM × Nat × Nat)}, s ∉ l.map Prod.fst → tget s l = none
  | [], _ => rfl
  | e :: l, h => by
    simp only [List.map_cons, List.mem_cons, not_or] at h
    simp only [tget]; rw [if_neg h.1]; exact tget_notin h.2
theorem tget_none {s : SlotM} : ∀ {l : List (SlotM × Nat × Nat)}, tget s l = none → s ∉ l.map Prod.fst
  | [], _ => by simp
  | e :: l, h => by
    simp only [tget] at h
    split at h
    · cases h
    · rename_i he
      simp only [List.map_cons, List.mem_cons, not_or]
      exact ⟨he, tget_none h⟩
theorem tget_del {s : SlotM} : ∀ {l : List (SlotM × Nat × Nat)}, (l.map Prod.fst).Nodup → ∀ o, tget o (tdel s l) = if o = s then none else tget o l
  | [], _, o => by simp [tdel, tget]
  | e :: l, h, o => by
    simp only [List.map_cons, List.nodup_cons] at h
    simp only [tdel]
    by_cases he : s = e.1
    · rw [if_pos he]
      by_cases ho : o = s
      · rw [if_pos ho, ho, he]; exact tget_notin h.1
      · rw [if_neg ho]; simp only [tget]; rw [if_neg (by rw [← he]; exact ho)]
    · rw [if_neg he]
      simp only [tget]
      rw [tget_del h.2 o]
      by_cases ho : o = s
      · subst ho; simp [he]
      · simp [ho]
theorem tdel_sub {s : SlotM} : ∀ {l : List (SlotM × Nat × Nat)}, (tdel s l).Sublist l
  | [] => List.Sublist.refl _
  | e :: l => by
    simp only [tdel]
    split
    · exact List.sublist_cons_self _ _
    · exact tdel_sub.cons_cons _
theorem tdel_len {s : SlotM} {i : Nat} : ∀ {l : List (SlotM × Nat × Nat)}, tget s l = some i → (tdel s l).length + 1 = l.length
  | [], h => by cases h
  | e :: l, h => by
    simp only [tget] at h
    simp only [tdel]
    split at h
    · rename_i he; rw [if_pos he]; rfl
    · rename_i he; rw [if_neg he, List.length_cons, List.length_cons, tdel_len h]
def ptrO (blk : Nat → Nat) : Option Nat → Value
  | none => .pointer none
  | some j => .pointer (some ⟨blk j, 0, none⟩)
abbrev knC (blk : Nat → Nat) (T : TreeM) (kv : Nat → Value) (i : Nat) : List Value := [.int .i64 (T.sl i).1, .int .i64 (T.sl i).2, ptrO blk (T.par i), kv i]
abbrev knO (blk : Nat → Nat) (T : TreeM) (kv : Nat → Value) (i : Nat) : Obj := .cells (knC blk T kv i).toArray 134
def knS (blk : Nat → Nat) (T : TreeM) (kv : Nat → Value) (kH : Nat → Hp) (i : Nat) : Hp := (blk i, knO blk T kv i) :: kH i
def kvT (blk : Nat → Nat) (M : List (SlotM × Nat × Nat)) : List (SlotM × Value × Nat) := M.map fun e => (e.1, .pointer (some ⟨blk e.2.1, 0, none⟩), e.2.2)
def kidsOk (blk : Nat → Nat) (T : TreeM) (kv : Nat → Value) (kH : Nat → Hp) : Prop := ∀ i, i < T.n → Slc 130 1 (kv i) (T.kids i).length (ptsC ((T.kids i).map blk)) (kH i)
abbrev trBlk (tb mb : Nat) : Nat × Obj := (tb, .cells [.map (some mb)].toArray 123)
abbrev mpBlk (mb : Nat) (blk : Nat → Nat) (M : List (SlotM × Nat × Nat)) (clk : Nat) : Nat × Obj := (mb, mapO encS (kvT blk M) clk)
def TrH (T : TreeM) (tb : Nat) (L : Hp) : Prop := ∃ mb clk blk kv kH, kidsOk blk T kv kH ∧ L = trBlk tb mb :: mpBlk mb blk T.M clk :: segs (knS blk T kv kH) T.n
def tptr (blk : Nat → Nat) (M : List (SlotM × Nat × Nat)) (s : SlotM) : Option Addr := (tget s M).map fun i => ⟨blk i, 0, none⟩
theorem mget_kvT (blk : Nat → Nat) (s : SlotM) : ∀ M, mget s (kvT blk M) = (tget s M).map fun i => .pointer (some ⟨blk i, 0, none⟩)
  | [] => rfl
  | e :: l => by
    simp only [kvT, List.map_cons, mget, tget]
    split
    · rfl
    · exact mget_kvT blk s l
theorem tptr_hm (blk : Nat → Nat) (M : List (SlotM × Nat × Nat)) (s : SlotM) : (mget s (kvT blk M)).getD (.pointer none) = .pointer (tptr blk M s) := by
 rw [mget_kvT]; unfold tptr; cases tget s M <;> rfl
theorem tptr_is {blk : Nat → Nat} {M : List (SlotM × Nat × Nat)} {s : SlotM} : (tptr blk M s).isSome = (tget s M).isSome := by unfold tptr; cases tget s M <;> rfl
theorem tptr_some {blk : Nat → Nat} {M : List (SlotM × Nat × Nat)} {s : SlotM} {i : Nat} (h : tget s M = some i) : tptr blk M s = some ⟨blk i, 0, none⟩ := by unfold tptr; rw [h]; rfl
theorem tptr_no {blk : Nat → Nat} {M : List (SlotM × Nat × Nat)} {s : SlotM} (h : tget s M = none) : tptr blk M s = none := by unfold tptr; rw [h]; rfl
theorem kn_blk {blk : Nat → Nat} {T : TreeM} {kv : Nat → Value} {kH : Nat → Hp} {i n : Nat} (h : i < n) : Blk (segs (knS blk T kv kH) n) (blk i) (.cells [.int .i64 (T.sl i).1, .int .i64 (T.sl i).2, ptrO blk (T.par i), kv i].toArray 134 (0, 0)) := ⟨segs_mem h (List.mem_cons_self ..)⟩
theorem kn_view {blk : Nat → Nat} {T : TreeM} {kv : Nat → Value} {kH : Nat → Hp} {i : Nat} (hk : kidsOk blk T kv kH) (h : i < T.n) : View (segs (knS blk T kv kH) T.n) 1 (kv i) (T.kids i).length (ptsC ((T.kids i).map blk)) :=
  (hk i h).view.mono fun p hp => segs_mem h (List.mem_cons_of_mem _ hp)
theorem kn_isC {blk : Nat → Nat} {T : TreeM} {kv : Nat → Value} {kH : Nat → Hp} {i n : Nat} (h : i < n) : isC (segs (knS blk T kv kH) n) (blk i) := ⟨_, _, segs_mem h (List.mem_cons_self ..)⟩
theorem segs_split {h : Nat → Hp} {i : Nat} : ∀ {n : Nat}, i < n → ∃ A B, ∀ H, segs (fset h i H) n = A ++ (H ++ B)
  | 0, hi => by omega
  | n + 1, hi => by
    by_cases e : i = n
    · subst e
      refine ⟨segs h i, [], fun H => ?_⟩
      rw [segs_succ, fset_same, segs_congr (h := fset h i H) (k := h) (fun j hj => fset_ne (by omega)), List.append_nil]
    · obtain ⟨A, B, hAB⟩ := segs_split (h := h) (i := i) (n := n) (by omega)
      refine ⟨A, B ++ h n, fun H => ?_⟩
      rw [segs_succ, fset_ne (show n ≠ i by omega), hAB, List.append_assoc, List.append_assoc]
theorem fset_selfT {α : Type} {f : Nat → α} {i : Nat} : fset f i (f i) = f := by
 funext j; unfold fset; split
 ·
  rename_i h; rw [h]
 ·
  rfl
theorem segs_upd {h : Nat → Hp} {i n b : Nat} {o o' : Obj} {H : Hp} (hi : i < n) (hh : h i = (b, o) :: H) : Upd (segs h n) b o' (segs (fset h i ((b, o') :: H)) n) := by
 obtain ⟨A, B, hAB⟩ := segs_split (h := h) hi
 have e := hAB (h i)
 rw [fset_selfT] at e
 refine ⟨A, H ++ B, o, ?_, ?_⟩
 ·
  rw [e, hh]; rfl
 ·
  rw [hAB]; rfl
def TreeM.more (T : TreeM) (s : SlotM) (p : Option Nat) (t : Nat) : TreeM :=
  { n := T.n + 1, sl := fset T.sl T.n s, par := fset T.par T.n p,
    kids := match p with | none => fset T.kids T.n [] | some j => fset (fset T.kids T.n []) j (T.kids j ++ [T.n]),
    M := T.M ++ [(s, T.n, t)] }
theorem tput_new {s : SlotM} {v : Value} {t : Nat} {blk : Nat → Nat} : ∀ {M : List (SlotM × Nat × Nat)}, tget s M = none → mput s v t (kvT blk M) = kvT blk M ++ [(s, v, t)]
  | [], _ => rfl
  | e :: l, h => by
    simp only [tget] at h
    split at h
    · cases h
    · rename_i hid
      have := tput_new (v := v) (t := t) (blk := blk) h
      simp only [kvT, List.map_cons, mput, hid, if_false, List.cons_append] at this ⊢
      rw [this]
theorem tclk_new {s : SlotM} {cl : Nat} {blk : Nat → Nat} {M : List (SlotM × Nat × Nat)} (h : tget s M = none) : mclk s (kvT blk M) cl = cl + 1 := by
 simp [mclk, mget_kvT, h]
theorem tdel_kvT {s : SlotM} {blk : Nat → Nat} : ∀ M : List (SlotM × Nat × Nat), mdel s (kvT blk M) = kvT blk (tdel s M)
  | [] => rfl
  | e :: l => by
    simp only [kvT, List.map_cons, mdel, tdel]
    split
    · rfl
    · have := tdel_kvT (s := s) (blk := blk) l
      simp only [kvT] at this
      rw [this]; rfl
theorem kvT_congr {blk blk' : Nat → Nat} {M : List (SlotM × Nat × Nat)} (h : ∀ e, e ∈ M → blk' e.2.1 = blk e.2.1) : kvT blk' M = kvT blk M := List.map_congr_left fun e he => by rw [h e he]
theorem tget_mem {s : SlotM} {i : Nat} : ∀ {M : List (SlotM × Nat × Nat)}, tget s M = some i → ∃ t, (s, i, t) ∈ M
  | [], h => by cases h
  | e :: l, h => by
    simp only [tget] at h
    split at h
    · rename_i he; cases h; obtain ⟨a, b, c⟩ := e; dsimp only at he; subst he; exact ⟨c, List.mem_cons_self ..⟩
    · obtain ⟨t, ht⟩ := tget_mem h; exact ⟨t, List.mem_cons_of_mem _ ht⟩
structure TreeM.Ix (T : TreeM) : Prop where
  par : ∀ i j, i < T.n → T.par i = some j → j < T.n
  kids : ∀ i j, i < T.n → j ∈ T.kids i → j < T.n
  map : ∀ e, e ∈ T.M → e.2.1 < T.n
  small : ∀ i, i < T.n → (T.kids i).length ≤ T.n
theorem TreeM.Ix.get {T : TreeM} (h : T.Ix) {s : SlotM} {i : Nat} (hi : tget s T.M = some i) : i < T.n := by
 obtain ⟨t, ht⟩ := tget_mem hi; exact h.map _ ht
def tparS (T : TreeM) (s : SlotM) : SlotM := match (tget s T.M).bind T.par with | none => (0, 0) | some j => T.sl j
def tparB (T : TreeM) (s : SlotM) : Bool := ((tget s T.M).bind T.par).isSome
def tkids (T : TreeM) (s : SlotM) : List SlotM := match tget s T.M with | none => [] | some i => (T.kids i).map T.sl
def tkin (T : TreeM) (F : (Fo Nat)) (s : SlotM) : List SlotM := match tget s T.M with | none => [] | some i => (Fo.sub i F).all.map T.sl
structure TOk (T : TreeM) (F : (Fo Nat)) : Prop where
  nd : Fo.Nd F
  lt : ∀ i, i ∈ F.all → i < T.n
  par : Fo.OkP T.par F none
  kids : Fo.OkK T.kids F
  map : ∀ s i, tget s T.M = some i ↔ i ∈ F.all ∧ T.sl i = s
  uniq : (T.M.map Prod.fst).Nodup
  len : T.M.length = F.all.length
  ix : T.Ix
theorem TOk.mem {T : TreeM} {F : (Fo Nat)} (h : TOk T F) {s : SlotM} {i : Nat} (hi : tget s T.M = some i) : i ∈ F.all := ((h.map s i).1 hi).1
theorem TOk.sl {T : TreeM} {F : (Fo Nat)} (h : TOk T F) {s : SlotM} {i : Nat} (hi : tget s T.M = some i) : T.sl i = s := ((h.map s i).1 hi).2
theorem TOk.get {T : TreeM} {F : (Fo Nat)} (h : TOk T F) {i : Nat} (hi : i ∈ F.all) : tget (T.sl i) T.M = some i := (h.map _ i).2 ⟨hi, rfl⟩
theorem TOk.inj {T : TreeM} {F : (Fo Nat)} (h : TOk T F) {i j : Nat} (hi : i ∈ F.all) (hj : j ∈ F.all) (e : T.sl i = T.sl j) : i = j := by
 have h1 := h.get hi
 rw [e, h.get hj] at h1; exact (Option.some.inj h1).symm
theorem nodup_len : ∀ {n : Nat} {l : List Nat}, l.Nodup → (∀ x, x ∈ l → x < n) → l.length ≤ n
  | 0, l, _, hl => by cases l with
    | nil => exact Nat.le_refl _
    | cons a l => exact absurd (hl a (List.mem_cons_self ..)) (Nat.not_lt_zero a)
  | n + 1, l, hn, hl => by
    have h1 := nodup_len (n := n) (l := l.erase n) (hn.erase n) (fun x hx => by
      have h2 := (hn.mem_erase_iff.1 hx)
      have := hl x h2.2
      have := h2.1; omega)
    have h2 := List.length_erase (a := n) (l := l)
    split at h2 <;> omega
theorem TOk.all_len {T : TreeM} {F : (Fo Nat)} (h : TOk T F) : F.all.length ≤ T.n := nodup_len h.nd h.lt
theorem sub_len : ∀ (f : (Fo Nat)) (x : Nat), (Fo.sub x f).all.length ≤ f.all.length
  | .nil, _ => Nat.le_refl _
  | .cons i c r, x => by
    simp only [Fo.sub, Fo.all, List.length_cons, List.length_append]
    split
    · omega
    · split
      · have := sub_len c x; omega
      · have := sub_len r x; omega
theorem roots_len : ∀ f : (Fo Nat), f.roots.length ≤ f.all.length
  | .nil => Nat.le_refl _
  | .cons i c r => by
    have := roots_len r
    simp only [Fo.roots, Fo.all, List.length_cons, List.length_append]; omega
theorem kn_view2 {blk : Nat → Nat} {T : TreeM} {kv : Nat → Value} {kH : Nat → Hp} {i : Nat} (hk : kidsOk blk T kv kH) (h : i < T.n) : View (segs (knS blk T kv kH) T.n) 1 (kv i) ((T.kids i).map blk).length (ptsC ((T.kids i).map blk)) := by
 rw [List.length_map]; exact kn_view hk h
theorem kn_form {blk : Nat → Nat} {T : TreeM} {kv : Nat → Value} {kH : Nat → Hp} {i : Nat} (hk : kidsOk blk T kv kH) (h : i < T.n) : ∃ a c, kv i = .slice a ((T.kids i).map blk).length c := by
 rw [List.length_map]; exact (hk i h).form
theorem fo_cons {g : (Fo Nat)} {blk : Nat → Nat} (h : ((g.roots.map blk).length : Int) > 0) : ∃ q c r, g = .cons q c r := by
 cases g with
 | nil => simp [Fo.roots] at h
 | cons q c r => exact ⟨q, c, r, rfl⟩
theorem fo_nil {g : (Fo Nat)} {blk : Nat → Nat} (h : ¬ ((g.roots.map blk).length : Int) > 0) : g = .nil := by
 cases g with
 | nil => rfl
 | cons q c r => simp [Fo.roots] at h
theorem ptrO_congr {blk blk' : Nat → Nat} {p : Option Nat} (h : ∀ j, p = some j → blk' j = blk j) : ptrO blk' p = ptrO blk p := by
 cases p with
 | none => rfl
 | some j => simp only [ptrO, h j rfl]
section more
variable {T : TreeM} (hx : T.Ix) {blk : Nat → Nat} {kv : Nat → Value} {kH : Nat → Hp} {s : SlotM} {b t clk : Nat}
include hx
theorem more_kvT : kvT (fset blk T.n b) (T.M ++ [(s, T.n, t)]) = kvT blk T.M ++ [(s, .pointer (some ⟨b, 0, none⟩), t)] := by
 have e : kvT (fset blk T.n b) T.M = kvT blk T.M := kvT_congr fun e he => fset_ne (by have := hx.map e he; omega)
 have e2 : kvT (fset blk T.n b) (T.M ++ [(s, T.n, t)]) = kvT (fset blk T.n b) T.M ++ [(s, .pointer (some ⟨fset blk T.n b T.n, 0, none⟩), t)] := by simp [kvT]
 rw [e2, e, fset_same]
theorem more_kids {i : Nat} (hi : i < T.n) : (T.kids i).map (fset blk T.n b) = (T.kids i).map blk := List.map_congr_left fun j hj => fset_ne (by have := hx.kids i j hi hj; omega)
theorem more_root : segs (knS (fset blk T.n b) (T.more s none t) (fset kv T.n (.slice none 0 0)) (fset kH T.n [])) (T.n + 1) = segs (knS blk T kv kH) T.n ++ [(b, .cells [.int .i64 s.1, .int .i64 s.2, .pointer none, .slice none 0 0].toArray 134)] := by
 rw [segs_succ]
 congr 1
 ·
  refine segs_congr fun i hi => ?_
  have h1 : i ≠ T.n := by omega
  have h2 : ptrO (fset blk T.n b) (T.par i) = ptrO blk (T.par i) := ptrO_congr fun j hj => fset_ne (by have := hx.par i j hi hj; omega)
  simp only [knS, knO, knC, TreeM.more, fset_ne h1, h2]
 ·
  simp only [knS, knO, knC, TreeM.more, fset_same, ptrO]
theorem more_child {j : Nat} {v1 : Value} {H1 : Hp} (hj : j < T.n) : segs (knS (fset blk T.n b) (T.more s (some j) t) (fset (fset kv T.n (.slice none 0 0)) j v1) (fset (fset kH T.n []) j H1)) (T.n + 1) =
    segs (fset (knS blk T kv kH) j ((blk j, .cells [.int .i64 (T.sl j).1, .int .i64 (T.sl j).2, ptrO blk (T.par j), v1].toArray 134) :: H1)) T.n ++ [(b, .cells [.int .i64 s.1, .int .i64 s.2, .pointer (some ⟨blk j, 0, none⟩), .slice none 0 0].toArray 134)] := by
  have hjn : j ≠ T.n := by omega
  rw [segs_succ]
  congr 1
  · refine segs_congr fun i hi => ?_
    have h1 : i ≠ T.n := by omega
    have h2 : ptrO (fset blk T.n b) (T.par i) = ptrO blk (T.par i) := ptrO_congr fun j hj => fset_ne (by have := hx.par i j hi hj; omega)
    by_cases e : i = j
    · subst e
      simp only [knS, knO, knC, TreeM.more, fset_ne h1, h2, fset_same]
    · rw [fset_ne e]
      simp only [knS, knO, knC, TreeM.more, fset_ne h1, h2, fset_ne e]
  · simp only [knS, knO, knC, TreeM.more, fset_same, ptrO, fset_ne (Ne.symm hjn), fset_ne hjn]
theorem more_root_ok (hk : kidsOk blk T kv kH) : kidsOk (fset blk T.n b) (T.more s none t) (fset kv T.n (.slice none 0 0)) (fset kH T.n []) := by
 intro i hi
 simp only [TreeM.more] at hi ⊢
 by_cases e : i = T.n
 ·
  subst e; rw [fset_same, fset_same, fset_same]; exact Slc.nil _ _
 ·
  rw [fset_ne e, fset_ne e, fset_ne e, more_kids hx (by omega)]; exact hk i (by omega)
theorem more_child_ok (hk : kidsOk blk T kv kH) {j : Nat} {v1 : Value} {H1 : Hp} (hj : j < T.n) (hs : Slc 130 1 v1 ((T.kids j).length + 1) (ptsC ((T.kids j).map blk) ++ [.pointer (some ⟨b, 0, none⟩)]) H1) :
    kidsOk (fset blk T.n b) (T.more s (some j) t) (fset (fset kv T.n (.slice none 0 0)) j v1) (fset (fset kH T.n []) j H1) := by
  intro i hi
  simp only [TreeM.more] at hi ⊢
  by_cases e2 : i = j
  · subst e2
    rw [fset_same, fset_same, fset_same, List.map_append, more_kids hx hj, List.length_append, ptsC_app, List.map_singleton, fset_same]
    exact hs
  · rw [fset_ne e2, fset_ne e2, fset_ne e2]
    by_cases e : i = T.n
    · subst e; rw [fset_same, fset_same, fset_same]; exact Slc.nil _ _
    · rw [fset_ne e, fset_ne e, fset_ne e, more_kids hx (by omega)]; exact hk i (by omega)
end more
def TAdd (T : TreeM) (s : SlotM) (p : Option Nat) (e : Int) (T' : TreeM) : Prop := (∃ i, tget s T.M = some i ∧ e = 4 ∧ T' = T) ∨ (tget s T.M = none ∧ e = 0 ∧ ∃ t, T' = T.more s p t)
def TChild (T : TreeM) (o s : SlotM) (e : Int) (T' : TreeM) : Prop := (tget o T.M = none ∧ e = 3 ∧ T' = T) ∨ ∃ j, tget o T.M = some j ∧ TAdd T s (some j) e T'
def TreeM.moved (T : TreeM) (f s : SlotM) (i t : Nat) : TreeM := { T with sl := fset T.sl i s, M := tdel f T.M ++ [(s, i, t)] }
def TMove (T : TreeM) (f s : SlotM) (e : Int) (T' : TreeM) : Prop :=
  (tget f T.M = none ∧ e = 3 ∧ T' = T) ∨ ∃ i, tget f T.M = some i ∧ ((∃ j, tget s T.M = some j ∧ e = 4 ∧ T' = T) ∨ (tget s T.M = none ∧ e = 0 ∧ ∃ t, T' = T.moved f s i t))
theorem moved_segs {T : TreeM} {blk : Nat → Nat} {kv : Nat → Value} {kH : Nat → Hp} {f s : SlotM} {i t : Nat} :
    segs (fset (knS blk T kv kH) i ((blk i, .cells [.int .i64 s.1, .int .i64 s.2, ptrO blk (T.par i), kv i].toArray 134) :: kH i)) T.n = segs (knS blk (T.moved f s i t) kv kH) T.n := by
  refine segs_congr fun z hz => ?_
  by_cases e : z = i
  · subst e; rw [fset_same]; simp only [knS, knO, knC, TreeM.moved, fset_same]
  · rw [fset_ne e]; simp only [knS, knO, knC, TreeM.moved, fset_ne e]
theorem tdel_none {s f : SlotM} : ∀ {M : List (SlotM × Nat × Nat)}, tget s M = none → tget s (tdel f M) = none
  | [], _ => rfl
  | e :: l, h => by
    simp only [tget] at h
    split at h
    · cases h
    · rename_i he
      simp only [tdel]
      split
      · exact h
      · simp only [tget]; rw [if_neg he]; exact tdel_none h
def TreeM.dropK (T : TreeM) (x k : Nat) : TreeM := { T with par := fun z => if z ∈ (T.kids x).take k then T.par x else T.par z }
def TreeM.gone (T : TreeM) (s : SlotM) (x : Nat) : TreeM :=
  { T with par := fun z => if z ∈ T.kids x then T.par x else T.par z, kids := match T.par x with | none => T.kids | some j => fset T.kids j (Fo.repl x (T.kids x) (T.kids j)), M := tdel s T.M }
def TDrop (T : TreeM) (s : SlotM) (e : Int) (T' : TreeM) : Prop := (tget s T.M = none ∧ e = 3 ∧ T' = T) ∨ ∃ i, tget s T.M = some i ∧ e = 0 ∧ T' = T.gone s i
section drop
variable {T : TreeM} {blk : Nat → Nat} {kv : Nat → Value} {kH : Nat → Hp}
theorem dropK_zero (x : Nat) : T.dropK x 0 = T := by
 unfold TreeM.dropK; rw [List.take_zero]; simp
theorem dropK_par {x k : Nat} (h : x ∉ T.kids x) : (T.dropK x k).par x = T.par x := if_neg fun e => h (List.mem_of_mem_take e)
theorem dropK_succ {x k q : Nat} (hq : (T.kids x)[k]? = some q) :
    segs (fset (knS blk (T.dropK x k) kv kH) q ((blk q, .cells [.int .i64 (T.sl q).1, .int .i64 (T.sl q).2, ptrO blk (T.par x), kv q].toArray 134) :: kH q)) T.n = segs (knS blk (T.dropK x (k + 1)) kv kH) T.n := by
  have hm : ∀ z, z ∈ (T.kids x).take (k + 1) ↔ z ∈ (T.kids x).take k ∨ z = q := by
    intro z; rw [List.take_add_one, hq]; simp
  refine segs_congr fun z hz => ?_
  by_cases e : z = q
  · subst e
    rw [fset_same]
    have : (T.dropK x (k + 1)).par z = T.par x := if_pos ((hm z).2 (.inr rfl))
    simp only [knS, knO, knC, this]; rfl
  · rw [fset_ne e]
    have : (T.dropK x (k + 1)).par z = (T.dropK x k).par z := by
      unfold TreeM.dropK
      dsimp only
      by_cases h : z ∈ (T.kids x).take k
      · rw [if_pos h, if_pos ((hm z).2 (.inl h))]
      · rw [if_neg h, if_neg (fun h2 => by rcases (hm z).1 h2 with h2 | h2; exact h h2; exact e h2)]
    simp only [knS, knO, knC, this]; rfl
theorem gone_none {s : SlotM} {x : Nat} (hp : T.par x = none) : segs (knS blk (T.dropK x (T.kids x).length) kv kH) T.n = segs (knS blk (T.gone s x) kv kH) T.n := by
 refine segs_congr fun z hz => ?_
 simp only [knS, knO, knC, TreeM.dropK, TreeM.gone, List.take_length]
theorem gone_some {s : SlotM} {x j : Nat} (hp : T.par x = some j) {v1 : Value} {H1 : Hp} :
    segs (fset (knS blk (T.dropK x (T.kids x).length) kv kH) j ((blk j, .cells [.int .i64 (T.sl j).1, .int .i64 (T.sl j).2, ptrO blk ((T.dropK x (T.kids x).length).par j), v1].toArray 134) :: H1)) T.n = segs (knS blk (T.gone s x) (fset kv j v1) (fset kH j H1)) T.n := by
  refine segs_congr fun z hz => ?_
  by_cases e : z = j
  · subst e; rw [fset_same]; simp only [knS, knO, knC, TreeM.dropK, TreeM.gone, List.take_length, fset_same]
  · rw [fset_ne e]; simp only [knS, knO, knC, TreeM.dropK, TreeM.gone, List.take_length, fset_ne e]
theorem gone_none_ok {s : SlotM} {x : Nat} (hp : T.par x = none) (hk : kidsOk blk T kv kH) : kidsOk blk (T.gone s x) kv kH := by
 intro i hi; simp only [TreeM.gone, hp]; exact hk i hi
theorem gone_some_ok {s : SlotM} {x j : Nat} (hp : T.par x = some j) (hk : kidsOk blk T kv kH) {v1 : Value} {H1 : Hp} (hs : Slc 130 1 v1 (Fo.repl x (T.kids x) (T.kids j)).length (ptsC ((Fo.repl x (T.kids x) (T.kids j)).map blk)) H1) :
    kidsOk blk (T.gone s x) (fset kv j v1) (fset kH j H1) := by
  intro i hi
  simp only [TreeM.gone, hp]
  by_cases e : i = j
  · subst e; rw [fset_same, fset_same, fset_same]; exact hs
  · rw [fset_ne e, fset_ne e, fset_ne e]; exact hk i hi
end drop
theorem repl_at {x : Nat} {l : List Nat} : ∀ {m : List Nat}, x ∈ m → ∃ p : Nat, idxN m x = p ∧ m[p]? = some x ∧ Fo.repl x l m = m.take p ++ l ++ m.drop (p + 1)
  | [], h => by cases h
  | a :: m, h => by
    by_cases e : a = x
    · refine ⟨0, by simp [idxN, e], by simp [e], ?_⟩
      simp [Fo.repl, e]
    · have hm : x ∈ m := by
        rcases List.mem_cons.1 h with h | h
        · exact absurd h.symm e
        · exact h
      obtain ⟨p, h1, h2, h3⟩ := repl_at (l := l) hm
      refine ⟨p + 1, ?_, by simpa using h2, ?_⟩
      · simp only [idxN, if_neg e, h1]; rw [if_neg (by omega)]; push_cast; rfl
      · simp only [Fo.repl, if_neg e, h3]; simp
theorem segs_inj {h : Nat → Hp} {b : Nat → Nat} {o : Nat → Obj} {H : Nat → Hp} (hh : ∀ i, h i = (b i, o i) :: H i) : ∀ {n : Nat}, ((segs h n).map Prod.fst).Nodup → ∀ i j, i < n → j < n → b i = b j → i = j
  | 0, _, i, _, hi, _, _ => absurd hi (Nat.not_lt_zero i)
  | n + 1, hnd, i, j, hi, hj, e => by
    rw [segs_succ, List.map_append, List.nodup_append] at hnd
    have hlast : b n ∈ (h n).map Prod.fst := by rw [hh]; simp
    have hin : ∀ k, k < n → b k ∈ (segs h n).map Prod.fst := fun k hk => List.mem_map.2 ⟨(b k, o k), segs_mem hk (by rw [hh]; exact List.mem_cons_self ..), rfl⟩
    by_cases h1 : i = n
    · by_cases h2 : j = n
      · omega
      · subst h1; exact absurd e.symm (hnd.2.2 _ (hin j (by omega)) _ hlast)
    · by_cases h2 : j = n
      · subst h2; exact absurd e (hnd.2.2 _ (hin i (by omega)) _ hlast)
      · exact segs_inj hh hnd.1 i j (by omega) (by omega) e
theorem Own.swapSeg {W w : World} {h : Nat → Hp} {j n b : Nat} {o : Obj} {K0 K R : Hp} (hj : j < n) (ho : Own W w (K ++ (segs (fset h j ((b, o) :: K0)) n ++ R))) : Own W w (segs (fset h j ((b, o) :: K)) n ++ R) := by
 have e1 := segs_take (h := fset h j ((b, o) :: K0)) hj
 have e2 := segs_take (h := fset h j ((b, o) :: K)) hj
 rw [fset_same, fset_fset] at e1 e2
 have h1 := ho.perm (List.Perm.append_left K (e1.append_right R))
 have h1' : Own W w ((b, o) :: (K0 ++ (K ++ (segs (fset h j []) n ++ R)))) := by
  refine h1.perm ?_
  simp only [List.cons_append]
  refine List.perm_middle.trans (List.Perm.cons _ ?_)
  rw [List.append_assoc]
  exact List.perm_append_comm_assoc ..
 have h2 : Own W w ((b, o) :: (K ++ (segs (fset h j []) n ++ R))) := h1'.sublist ((List.sublist_append_right K0 _).cons_cons _)
 refine h2.perm ?_
 have := e2.symm.append_right R
 simp only [List.cons_append, List.append_assoc] at this
 exact this
end Go.Proofs.YtdodfnjmkpgdbaaGreat
end
section
set_option linter.unusedVariables false
set_option linter.unusedSimpArgs false
set_option linter.unusedSectionVars false
namespace Go.Proofs.YtdodfnjmkpgdbaaGreat
open Go.SL
theorem tok_new : TOk ⟨0, fun _ => (0, 0), fun _ => none, fun _ => [], []⟩ .nil where
  nd := List.nodup_nil
  lt := fun i h => by cases h
  par := trivial
  kids := trivial
  map := fun s i => by simp [tget, Fo.all]
  uniq := List.nodup_nil
  len := rfl
  ix := ⟨fun i j h => absurd h (Nat.not_lt_zero i), fun i j h => absurd h (Nat.not_lt_zero i), (fun e h => by cases h), fun i h => absurd h (Nat.not_lt_zero i)⟩
section
variable {T : TreeM} {F : (Fo Nat)} (h : TOk T F)
include h
theorem TOk.fresh : T.n ∉ F.all := fun e => absurd (h.lt _ e) (Nat.lt_irrefl _)
theorem TOk.kidsR {x : Nat} (hx : x ∈ F.all) : T.kids x = (Fo.sub x F).roots := (Fo.OkK.sub h.kids hx).1
theorem TOk.parO {x : Nat} (hx : x ∈ F.all) : T.par x = Fo.parO x F none := Fo.OkP.at h.par hx
theorem TOk.xk {s : SlotM} {x : Nat} (hx : tget s T.M = some x) : x ∉ T.kids x := by
 rw [h.kidsR (h.mem hx)]
 exact fun e => Fo.sub_self h.nd (Fo.roots_sub_all _ _ e)
theorem TOk.xj {s : SlotM} {x j : Nat} (hx : tget s T.M = some x) (hp : T.par x = some j) : x ∈ T.kids j ∧ j ∈ F.all := by
 rw [h.parO (h.mem hx)] at hp
 rcases Fo.parO_kid h.nd (h.mem hx) hp with ⟨e, _⟩ | ⟨e1, e2⟩
 ·
  cases e
 ·
  exact ⟨by rw [h.kidsR e1]; exact e2, e1⟩
theorem more_tget {s : SlotM} {p : Option Nat} {t : Nat} (hs : tget s T.M = none) (o : SlotM) : tget o (T.more s p t).M = if o = s then some T.n else tget o T.M := by
 show tget o (T.M ++ [(s, T.n, t)]) = _
 rw [tget_app]
 by_cases e : o = s
 ·
  rw [if_pos e, e, hs]; simp [tget]
 ·
  rw [if_neg e]
  have : tget o [(s, T.n, t)] = none := by simp [tget, e]
  rw [this]; cases tget o T.M <;> rfl
theorem more_map {s : SlotM} {p : Option Nat} {t : Nat} {F' : (Fo Nat)} (hs : tget s T.M = none) (hF : ∀ z, z ∈ F'.all ↔ z ∈ F.all ∨ z = T.n) (o : SlotM) (i : Nat) : tget o (T.more s p t).M = some i ↔ i ∈ F'.all ∧ (T.more s p t).sl i = o := by
 rw [more_tget h hs, hF]
 show _ ↔ _ ∧ fset T.sl T.n s i = o
 by_cases hi : i = T.n
 ·
  subst hi
  rw [fset_same]
  constructor
  ·
   intro e
   by_cases eo : o = s
   ·
    exact ⟨.inr rfl, eo.symm⟩
   ·
    rw [if_neg eo] at e; exact absurd (h.mem e) h.fresh
  ·
   rintro ⟨_, rfl⟩; rw [if_pos rfl]
 ·
  rw [fset_ne hi]
  constructor
  ·
   intro e
   by_cases eo : o = s
   ·
    rw [if_pos eo] at e; exact absurd (Option.some.inj e).symm hi
   ·
    rw [if_neg eo] at e; exact ⟨.inl (h.mem e), h.sl e⟩
  ·
   rintro ⟨hm, e⟩
   have hm' := hm.resolve_right hi
   have h1 := h.get hm'
   rw [e] at h1
   have : o ≠ s := fun eo => by rw [eo, hs] at h1; cases h1
   rw [if_neg this, h1]
theorem more_uniq {s : SlotM} {p : Option Nat} {t : Nat} (hs : tget s T.M = none) : ((T.more s p t).M.map Prod.fst).Nodup := by
 show ((T.M ++ [(s, T.n, t)]).map Prod.fst).Nodup
 rw [List.map_append]
 exact List.nodup_append.2 ⟨h.uniq, by simp, fun a ha b hb e => by simp at hb; subst hb; exact tget_none hs (e ▸ ha)⟩
theorem tok_root {s : SlotM} {t : Nat} (hs : tget s T.M = none) : TOk (T.more s none t) (F.app (.one T.n)) where
  nd := Fo.nd_app h.nd (Fo.nd_one _) fun z hz e => by simp [Fo.one, Fo.all] at e; exact h.fresh (e ▸ hz)
  lt := fun i hi => by
    rw [Fo.all_app] at hi; simp [Fo.one, Fo.all] at hi
    show i < T.n + 1
    rcases hi with hi | hi
    · have := h.lt i hi; omega
    · omega
  par := Fo.OkP.app (Fo.OkP.congr (fun z hz => (fset_ne (f := T.par) (i := T.n) (j := z) (a := none) (fun e => h.fresh (e ▸ hz))).symm) h.par) ⟨fset_same .., trivial, trivial⟩
  kids := Fo.OkK.app (Fo.OkK.congr (fun z hz => (fset_ne (f := T.kids) (i := T.n) (j := z) (a := []) (fun e => h.fresh (e ▸ hz))).symm) h.kids) ⟨fset_same .., trivial, trivial⟩
  map := more_map h hs (fun z => by rw [Fo.all_app]; simp [Fo.one, Fo.all])
  uniq := more_uniq h hs
  len := by
    show (T.M ++ [(s, T.n, t)]).length = _
    rw [Fo.all_app, List.length_append, List.length_append, h.len]; rfl
  ix := by
    refine ⟨fun i j hi hj => ?_, fun i j hi hj => ?_, fun e he => ?_, fun i hi => ?_⟩
    · change i < T.n + 1 at hi; change fset T.par T.n none i = some j at hj; show j < T.n + 1
      by_cases e : i = T.n
      · subst e; rw [fset_same] at hj; cases hj
      · rw [fset_ne e] at hj; have := h.ix.par i j (by omega) hj; omega
    · change i < T.n + 1 at hi; change j ∈ fset T.kids T.n [] i at hj; show j < T.n + 1
      by_cases e : i = T.n
      · subst e; rw [fset_same] at hj; cases hj
      · rw [fset_ne e] at hj; have := h.ix.kids i j (by omega) hj; omega
    · show e.2.1 < T.n + 1
      rcases List.mem_append.1 he with he | he
      · have := h.ix.map e he; omega
      · rw [List.mem_singleton] at he; subst he; exact Nat.lt_succ_self _
    · change i < T.n + 1 at hi; show (fset T.kids T.n [] i).length ≤ T.n + 1
      by_cases e : i = T.n
      · subst e; rw [fset_same]; exact Nat.zero_le _
      · rw [fset_ne e]; have := h.ix.small i (by omega); omega
theorem tok_child {s : SlotM} {t j : Nat} (hs : tget s T.M = none) (hj : j ∈ F.all) : TOk (T.more s (some j) t) (F.addc j T.n) where
  nd := Fo.nd_addc h.nd h.fresh
  lt := fun i hi => by
    rw [Fo.all_addc] at hi
    show i < T.n + 1
    rcases hi with hi | hi
    · have := h.lt i hi; omega
    · omega
  par := Fo.OkP.addc (fset_same ..) (Fo.OkP.congr (fun z hz => (fset_ne (f := T.par) (i := T.n) (j := z) (a := some j) (fun e => h.fresh (e ▸ hz))).symm) h.par)
  kids := by
    have hjn : j ≠ T.n := fun e => h.fresh (e ▸ hj)
    refine Fo.OkK.addc (k := T.kids) ?_ ?_ h.nd h.fresh (fun z hz hzj => ?_) h.kids
    · show fset (fset T.kids T.n []) j (T.kids j ++ [T.n]) j = _
      rw [fset_same]
    · show fset (fset T.kids T.n []) j (T.kids j ++ [T.n]) T.n = _
      rw [fset_ne (Ne.symm hjn), fset_same]
    · show fset (fset T.kids T.n []) j (T.kids j ++ [T.n]) z = _
      rw [fset_ne hzj, fset_ne (i := T.n) (j := z) (fun e => h.fresh (e ▸ hz))]
  map := more_map h hs (fun z => by rw [Fo.all_addc]; simp [hj])
  uniq := more_uniq h hs
  len := by
    show (T.M ++ [(s, T.n, t)]).length = _
    rw [Fo.addc_len h.nd hj, List.length_append, h.len]; rfl
  ix := by
    have hjn := h.lt j hj
    have hjne : j ≠ T.n := by omega
    refine ⟨fun i k hi hk => ?_, fun i k hi hk => ?_, fun e he => ?_, fun i hi => ?_⟩
    · change i < T.n + 1 at hi; change fset T.par T.n (some j) i = some k at hk; show k < T.n + 1
      by_cases e : i = T.n
      · subst e; rw [fset_same] at hk; cases hk; omega
      · rw [fset_ne e] at hk; have := h.ix.par i k (by omega) hk; omega
    · change i < T.n + 1 at hi; change k ∈ fset (fset T.kids T.n []) j (T.kids j ++ [T.n]) i at hk; show k < T.n + 1
      by_cases e2 : i = j
      · subst e2; rw [fset_same] at hk
        rcases List.mem_append.1 hk with hk | hk
        · have := h.ix.kids i k hjn hk; omega
        · rw [List.mem_singleton] at hk; omega
      · rw [fset_ne e2] at hk
        by_cases e : i = T.n
        · subst e; rw [fset_same] at hk; cases hk
        · rw [fset_ne e] at hk; have := h.ix.kids i k (by omega) hk; omega
    · show e.2.1 < T.n + 1
      rcases List.mem_append.1 he with he | he
      · have := h.ix.map e he; omega
      · rw [List.mem_singleton] at he; subst he; exact Nat.lt_succ_self _
    · change i < T.n + 1 at hi; show (fset (fset T.kids T.n []) j (T.kids j ++ [T.n]) i).length ≤ T.n + 1
      by_cases e2 : i = j
      · subst e2; rw [fset_same, List.length_append]; have := h.ix.small i hjn; simp; omega
      · rw [fset_ne e2]
        by_cases e : i = T.n
        · subst e; rw [fset_same]; exact Nat.zero_le _
        · rw [fset_ne e]; have := h.ix.small i (by omega); omega
theorem gone_parF {s : SlotM} {x : Nat} (hx : tget s T.M = some x) : Fo.OkP (T.gone s x).par (Fo.drop x F) none := by
 refine Fo.OkP.drop (k := T.par) h.nd (h.mem hx) (fun z hz hzx => ?_) h.par
 show (if z ∈ T.kids x then T.par x else T.par z) = _
 rw [h.kidsR (h.mem hx), h.parO (h.mem hx)]
theorem gone_kidsF {s : SlotM} {x : Nat} (hx : tget s T.M = some x) : Fo.OkK (T.gone s x).kids (Fo.drop x F) := by
 have hm := h.mem hx
 refine Fo.OkK.drop (k := T.kids) (p := none) h.nd (fun j hj => by cases hj) hm (fun z hz hzx => ?_) h.kids
 rw [← h.parO hm, ← h.kidsR hm]
 show (match T.par x with | none => T.kids | some j => fset T.kids j (Fo.repl x (T.kids x) (T.kids j))) z = _
 cases hp : T.par x with
 | none => simp
 | some j =>
  dsimp only
  by_cases e : z = j
  ·
   subst e; rw [fset_same, if_pos rfl]
  ·
   rw [fset_ne e, if_neg (fun e2 => e (Option.some.inj e2).symm)]
theorem tok_drop {s : SlotM} {x : Nat} (hx : tget s T.M = some x) : TOk (T.gone s x) (F.drop x) where
  nd := Fo.nd_drop h.nd
  lt := fun i hi => h.lt i ((Fo.all_drop h.nd).1 hi).1
  par := gone_parF h hx
  kids := gone_kidsF h hx
  map := fun o i => by
    show tget o (tdel s T.M) = some i ↔ i ∈ (F.drop x).all ∧ T.sl i = o
    rw [tget_del h.uniq, Fo.all_drop h.nd]
    by_cases e : o = s
    · rw [if_pos e]
      constructor
      · intro h2; cases h2
      · rintro ⟨⟨h1, h2⟩, h3⟩
        have := h.get h1
        rw [h3, e, hx] at this; exact absurd (Option.some.inj this).symm h2
    · rw [if_neg e, h.map]
      constructor
      · rintro ⟨h1, h2⟩
        refine ⟨⟨h1, fun e2 => e ?_⟩, h2⟩
        rw [← h2, e2, h.sl hx]
      · rintro ⟨⟨h1, _⟩, h2⟩; exact ⟨h1, h2⟩
  uniq := (tdel_sub.map Prod.fst).nodup h.uniq
  len := by
    have h1 := tdel_len hx
    have h2 := Fo.drop_len h.nd (h.mem hx)
    have h3 := h.len
    show (tdel s T.M).length = _
    omega
  ix := by
    have hxn := h.ix.get hx
    refine ⟨fun i j hi hj => ?_, fun i k hi hk => ?_, fun e he => h.ix.map e (tdel_sub.subset he), fun i hi => ?_⟩
    · change (if i ∈ T.kids x then T.par x else T.par i) = some j at hj
      split at hj
      · exact h.ix.par x j hxn hj
      · exact h.ix.par i j hi hj
    · change k ∈ (match T.par x with | none => T.kids | some j => fset T.kids j (Fo.repl x (T.kids x) (T.kids j))) i at hk
      cases hp : T.par x with
      | none => rw [hp] at hk; exact h.ix.kids i k hi hk
      | some j =>
        rw [hp] at hk
        dsimp only at hk
        by_cases e : i = j
        · subst e
          rw [fset_same] at hk
          obtain ⟨p, _, _, hr⟩ := repl_at (l := T.kids x) (h.xj hx hp).1
          rw [hr] at hk
          rcases List.mem_append.1 hk with hk | hk
          · rcases List.mem_append.1 hk with hk | hk
            · exact h.ix.kids i k hi (List.mem_of_mem_take hk)
            · exact h.ix.kids x k hxn hk
          · exact h.ix.kids i k hi (List.mem_of_mem_drop hk)
        · rw [fset_ne e] at hk; exact h.ix.kids i k hi hk
    · cases hp : T.par x with
      | none => simp only [TreeM.gone, hp]; exact h.ix.small i hi
      | some j =>
        by_cases e : i = j
        · subst e
          have hj := (h.xj hx hp).2
          have hne : i ≠ x := fun e => h.xk hx (e ▸ (h.xj hx hp).1)
          have hj2 : i ∈ (F.drop x).all := (Fo.all_drop h.nd).2 ⟨hj, hne⟩
          have := (Fo.OkK.sub (gone_kidsF h hx) hj2).1
          rw [this]
          have h1 := roots_len (Fo.sub i (F.drop x))
          have h2 := sub_len (F.drop x) i
          have h3 := (Fo.drop_sublist (x := x) F).length_le
          have h4 := h.all_len
          show _ ≤ T.n
          omega
        · simp only [TreeM.gone, hp]; rw [fset_ne e]; exact h.ix.small i hi
theorem moved_tget {o s : SlotM} {i t : Nat} (hs : tget s T.M = none) (q : SlotM) : tget q (T.moved o s i t).M = if q = s then some i else if q = o then none else tget q T.M := by
 show tget q (tdel o T.M ++ [(s, i, t)]) = _
 rw [tget_app, tget_del h.uniq]
 by_cases e : q = s
 ·
  rw [if_pos e, e, hs, ite_self]; simp [tget]
 ·
  rw [if_neg e]
  have : tget q [(s, i, t)] = none := by simp [tget, e]
  rw [this]
  split
  ·
   rfl
  ·
   cases tget q T.M <;> rfl
theorem tok_move {o s : SlotM} {i t : Nat} (ho : tget o T.M = some i) (hs : tget s T.M = none) : TOk (T.moved o s i t) F where
  nd := h.nd
  lt := h.lt
  par := h.par
  kids := h.kids
  map := fun q k => by
    rw [moved_tget h hs]
    show _ ↔ k ∈ F.all ∧ fset T.sl i s k = q
    by_cases e : k = i
    · subst e
      rw [fset_same]
      constructor
      · intro h2
        refine ⟨h.mem ho, ?_⟩
        by_cases eq : q = s
        · exact eq.symm
        · rw [if_neg eq] at h2
          split at h2
          · cases h2
          · rename_i hq
            exact absurd ((h.sl h2).symm.trans (h.sl ho)) hq
      · rintro ⟨_, rfl⟩; rw [if_pos rfl]
    · rw [fset_ne e]
      constructor
      · intro h2
        by_cases eq : q = s
        · rw [if_pos eq] at h2; exact absurd (Option.some.inj h2).symm e
        · rw [if_neg eq] at h2
          split at h2
          · cases h2
          · exact ⟨h.mem h2, h.sl h2⟩
      · rintro ⟨h1, h2⟩
        have h3 := h.get h1
        rw [h2] at h3
        have e1 : q ≠ s := fun eq => by rw [eq, hs] at h3; cases h3
        have e2 : q ≠ o := fun eq => by rw [eq, ho] at h3; exact e (Option.some.inj h3).symm
        rw [if_neg e1, if_neg e2, h3]
  uniq := by
    show ((tdel o T.M ++ [(s, i, t)]).map Prod.fst).Nodup
    rw [List.map_append]
    refine List.nodup_append.2 ⟨(tdel_sub.map Prod.fst).nodup h.uniq, by simp, fun a ha b hb e => ?_⟩
    simp at hb; subst hb
    exact tget_none hs (e ▸ (tdel_sub.map Prod.fst).subset ha)
  len := by
    have h1 := tdel_len ho
    have h3 := h.len
    show (tdel o T.M ++ [(s, i, t)]).length = _
    rw [List.length_append]; simp; omega
  ix := ⟨h.ix.par, h.ix.kids, fun e he => by
    rcases List.mem_append.1 he with he | he
    · exact h.ix.map e (tdel_sub.subset he)
    · rw [List.mem_singleton] at he; subst he; exact h.ix.get ho, h.ix.small⟩
end
end Go.Proofs.YtdodfnjmkpgdbaaGreat
end
section
set_option linter.unusedVariables false
set_option linter.unusedSimpArgs false
set_option linter.unusedSectionVars false
namespace Go.Proofs.YtdodfnjmkpgdbaaGreat
open Go.SL
namespace Fo
section
variable {α β : Type}
def map (g : α → β) : Fo α → Fo β
  | .nil => .nil
  | .cons i c r => .cons (g i) (map g c) (map g r)
theorem all_map (g : α → β) : ∀ f : Fo α, all (map g f) = (all f).map g
  | .nil => rfl
  | .cons i c r => by simp [map, all, all_map g c, all_map g r]
theorem roots_map (g : α → β) : ∀ f : Fo α, roots (map g f) = (roots f).map g
  | .nil => rfl
  | .cons i c r => by simp [map, roots, roots_map g r]
theorem map_app (g : α → β) : ∀ a b : Fo α, map g (app a b) = app (map g a) (map g b)
  | .nil, _ => rfl
  | .cons i c r, b => by simp [map, app, map_app g r b]
theorem map_congr {g h : α → β} : ∀ {f : Fo α}, (∀ z, z ∈ all f → g z = h z) → map g f = map h f
  | .nil, _ => rfl
  | .cons i c r, e => by
    simp only [map]
    rw [e i (by simp [all]), map_congr (f := c) (fun z hz => e z (by simp [all, hz])), map_congr (f := r) (fun z hz => e z (by simp [all, hz]))]
theorem map_map {γ : Type} (g : α → β) (h : β → γ) : ∀ f : Fo α, map h (map g f) = map (fun x => h (g x)) f
  | .nil => rfl
  | .cons i c r => by simp [map, map_map g h c, map_map g h r]
theorem flat_mapG (g : α → β) : ∀ (f : Fo α) (d : Nat), flat (map g f) d = (flat f d).map (fun e => (g e.1, e.2))
  | .nil, _ => rfl
  | .cons i c r, d => by simp [map, flat, flat_mapG g c, flat_mapG g r]
end
section
variable {α β : Type} [DecidableEq α] [DecidableEq β]
def Inj1 (g : α → β) (x : α) (f : Fo α) : Prop := ∀ z, z ∈ all f → g z = g x → z = x
theorem inj_c {g : α → β} {x i : α} {c r : Fo α} (h : Inj1 g x (.cons i c r)) : Inj1 g x c := fun z hz => h z (by simp [all, hz])
theorem inj_r {g : α → β} {x i : α} {c r : Fo α} (h : Inj1 g x (.cons i c r)) : Inj1 g x r := fun z hz => h z (by simp [all, hz])
theorem inj_i {g : α → β} {x i : α} {c r : Fo α} (h : Inj1 g x (.cons i c r)) : g i = g x ↔ i = x := ⟨h i (by simp [all]), fun e => by rw [e]⟩
theorem inj_mem {g : α → β} {x : α} {f : Fo α} (h : Inj1 g x f) : g x ∈ all (map g f) ↔ x ∈ all f := by
 rw [all_map, List.mem_map]
 exact ⟨fun ⟨z, hz, e⟩ => h z hz e ▸ hz, fun hx => ⟨x, hx, rfl⟩⟩
theorem sub_map {g : α → β} {x : α} : ∀ {f : Fo α}, Inj1 g x f → sub (g x) (map g f) = map g (sub x f)
  | .nil, _ => rfl
  | .cons i c r, h => by
    simp only [map, sub, inj_i h, inj_mem (inj_c h), sub_map (inj_c h), sub_map (inj_r h)]
    split
    · rfl
    · split <;> rfl
theorem parO_map {g : α → β} {x : α} : ∀ {f : Fo α} {p : Option α}, Inj1 g x f → parO (g x) (map g f) (p.map g) = (parO x f p).map g
  | .nil, _, _ => rfl
  | .cons i c r, p, h => by
    have h1 := parO_map (p := some i) (inj_c h)
    have h2 := parO_map (p := p) (inj_r h)
    simp only [Option.map_some] at h1
    simp only [map, parO, inj_i h, inj_mem (inj_c h), h1, h2]
    split
    · rfl
    · split <;> rfl
theorem drop_map {g : α → β} {x : α} : ∀ {f : Fo α}, Inj1 g x f → drop (g x) (map g f) = map g (drop x f)
  | .nil, _ => rfl
  | .cons i c r, h => by
    simp only [map, drop, inj_i h, drop_map (inj_c h), drop_map (inj_r h)]
    split
    · rw [map_app]
    · rfl
theorem addc_map {g : α → β} {x y : α} : ∀ {f : Fo α}, Inj1 g x f → addc (g x) (g y) (map g f) = map g (addc x y f)
  | .nil, _ => rfl
  | .cons i c r, h => by
    simp only [map, addc, inj_i h, addc_map (inj_c h), addc_map (inj_r h)]
    split
    · simp [map, map_app]
    · rfl
omit [DecidableEq α] [DecidableEq β] in
theorem nodup_map_on {g : α → β} : ∀ {l : List α}, l.Nodup → (∀ a b, a ∈ l → b ∈ l → g a = g b → a = b) → (l.map g).Nodup
  | [], _, _ => List.nodup_nil
  | a :: l, h, hi => by
    rw [List.nodup_cons] at h
    rw [List.map_cons, List.nodup_cons]
    refine ⟨fun hm => ?_, nodup_map_on h.2 fun x y hx hy => hi x y (List.mem_cons_of_mem _ hx) (List.mem_cons_of_mem _ hy)⟩
    obtain ⟨z, hz, e⟩ := List.mem_map.1 hm
    exact h.1 (hi z a (List.mem_cons_of_mem _ hz) (List.mem_cons_self ..) e ▸ hz)
theorem nd_map {g : α → β} {f : Fo α} (h : Nd f) (hi : ∀ a b, a ∈ all f → b ∈ all f → g a = g b → a = b) : Nd (map g f) := by
 unfold Nd at *
 rw [all_map]
 exact nodup_map_on h hi
end
end Fo
abbrev FoS := Fo SlotM
def ftRoot (F : FoS) (s : SlotM) : Int × FoS := if s ∈ F.all then (4, F) else (0, F.app (.one s))
def ftChild (F : FoS) (o s : SlotM) : Int × FoS := if o ∈ F.all then (if s ∈ F.all then (4, F) else (0, F.addc o s)) else (3, F)
def ftDrop (F : FoS) (s : SlotM) : Int × FoS := if s ∈ F.all then (0, F.drop s) else (3, F)
def ren (o s : SlotM) (z : SlotM) : SlotM := if z = o then s else z
def ftMove (F : FoS) (o s : SlotM) : Int × FoS := if o ∈ F.all then (if s ∈ F.all then (4, F) else (0, F.map (ren o s))) else (3, F)
def ftPar (F : FoS) (s : SlotM) : SlotM := (F.parO s none).getD (0, 0)
def ftParB (F : FoS) (s : SlotM) : Bool := (F.parO s none).isSome
def ftKids (F : FoS) (s : SlotM) : List SlotM := (F.sub s).roots
def ftKin (F : FoS) (s : SlotM) : List SlotM := (F.sub s).all
def TrF (n : Nat) (F : FoS) (tb : Nat) (L : Hp) : Prop := ∃ T G, TOk T G ∧ TrH T tb L ∧ T.n ≤ n ∧ F = G.map T.sl
section
variable {T : TreeM} {G : Fo Nat} (h : TOk T G)
include h
theorem TOk.inj1 {x : Nat} (hx : x ∈ G.all) : Fo.Inj1 T.sl x G := fun z hz e => h.inj hz hx e
theorem TOk.in_all {s : SlotM} : s ∈ (G.map T.sl).all ↔ ∃ i, tget s T.M = some i := by
 rw [Fo.all_map, List.mem_map]
 constructor
 ·
  rintro ⟨i, hi, rfl⟩; exact ⟨i, h.get hi⟩
 ·
  rintro ⟨i, hi⟩; exact ⟨i, h.mem hi, h.sl hi⟩
theorem TOk.out_all {s : SlotM} : tget s T.M = none ↔ s ∉ (G.map T.sl).all := by
 rw [h.in_all]; cases tget s T.M <;> simp
theorem TOk.ndS : Fo.Nd (G.map T.sl) := Fo.nd_map h.nd fun a b ha hb e => h.inj ha hb e
theorem TOk.parE {s : SlotM} : ((tget s T.M).bind T.par).map T.sl = (G.map T.sl).parO s none := by
 cases e : tget s T.M with
 | none => rw [Fo.parO_no _ _ _ (h.out_all.1 e)]; rfl
 | some i =>
  have := Fo.parO_map (g := T.sl) (p := none) (h.inj1 (h.mem e))
  rw [h.sl e] at this
  show (T.par i).map T.sl = _
  rw [h.parO (h.mem e), ← this]; rfl
theorem TOk.parS (s : SlotM) : tparS T s = ftPar (G.map T.sl) s := by
 unfold tparS ftPar
 rw [← h.parE]
 cases (tget s T.M).bind T.par <;> rfl
theorem TOk.parB (s : SlotM) : tparB T s = ftParB (G.map T.sl) s := by
 unfold tparB ftParB
 rw [← h.parE, Option.isSome_map]
theorem TOk.kidsS (s : SlotM) : tkids T s = ftKids (G.map T.sl) s := by
 unfold tkids ftKids
 cases e : tget s T.M with
 | none => rw [Fo.sub_no _ _ (h.out_all.1 e)]; rfl
 | some i =>
  have := Fo.sub_map (g := T.sl) (h.inj1 (h.mem e))
  rw [h.sl e] at this
  rw [this, Fo.roots_map]
  show List.map T.sl (T.kids i) = _
  rw [h.kidsR (h.mem e)]
theorem TOk.kinS (s : SlotM) : tkin T G s = ftKin (G.map T.sl) s := by
 unfold tkin ftKin
 cases e : tget s T.M with
 | none => rw [Fo.sub_no _ _ (h.out_all.1 e)]; rfl
 | some i =>
  have := Fo.sub_map (g := T.sl) (h.inj1 (h.mem e))
  rw [h.sl e] at this
  rw [this, Fo.all_map]
theorem more_mapS {s : SlotM} {p : Option Nat} {t : Nat} : G.map (T.more s p t).sl = G.map T.sl := Fo.map_congr fun z hz => fset_ne fun e => h.fresh (e ▸ hz)
theorem more_rootS {s : SlotM} {t : Nat} : (G.app (.one T.n)).map (T.more s none t).sl = (G.map T.sl).app (.one s) := by
 rw [Fo.map_app, more_mapS h]
 have : (T.more s none t).sl T.n = s := fset_same ..
 simp [Fo.one, Fo.map, this]
theorem more_childS {o s : SlotM} {j t : Nat} (hj : tget o T.M = some j) : (G.addc j T.n).map (T.more s (some j) t).sl = (G.map T.sl).addc o s := by
 have e1 : (T.more s (some j) t).sl T.n = s := fset_same ..
 have hjn : j ≠ T.n := fun e => h.fresh (e ▸ h.mem hj)
 have e2 : (T.more s (some j) t).sl j = o := (fset_ne (f := T.sl) (a := s) hjn).trans (h.sl hj)
 have hi : Fo.Inj1 (T.more s (some j) t).sl j G := fun z hz e => by
  have h1 : (T.more s (some j) t).sl z = T.sl z := fset_ne fun e => h.fresh (e ▸ hz)
  rw [h1, e2, ← h.sl hj] at e
  exact h.inj hz (h.mem hj) e
 have := Fo.addc_map (g := (T.more s (some j) t).sl) (y := T.n) hi
 rw [← this, e1, e2, more_mapS h]
theorem gone_S {s : SlotM} {i : Nat} (hi : tget s T.M = some i) : (G.drop i).map (T.gone s i).sl = (G.map T.sl).drop s := by
 have := Fo.drop_map (g := T.sl) (h.inj1 (h.mem hi))
 rw [h.sl hi] at this
 exact this.symm
theorem moved_S {o s : SlotM} {i t : Nat} (hi : tget o T.M = some i) : G.map (T.moved o s i t).sl = (G.map T.sl).map (ren o s) := by
 rw [Fo.map_map]
 refine Fo.map_congr fun z hz => ?_
 show fset T.sl i s z = _
 unfold ren
 by_cases e : z = i
 ·
  subst e; rw [fset_same, if_pos (h.sl hi)]
 ·
  rw [fset_ne e, if_neg]
  intro e2; exact e (h.inj hz (h.mem hi) (e2.trans (h.sl hi).symm))
end
theorem ftRoot_nd {F : FoS} {s : SlotM} (h : Fo.Nd F) : Fo.Nd (ftRoot F s).2 := by
 unfold ftRoot; split
 ·
  exact h
 ·
  rename_i hs; exact Fo.nd_app h (Fo.nd_one _) fun z hz e => by simp [Fo.one, Fo.all] at e; exact hs (e ▸ hz)
theorem ftChild_nd {F : FoS} {o s : SlotM} (h : Fo.Nd F) : Fo.Nd (ftChild F o s).2 := by
 unfold ftChild; split
 ·
  split
  ·
   exact h
  ·
   exact Fo.nd_addc h (by assumption)
 ·
  exact h
theorem ren_inj {o s : SlotM} {F : FoS} (hs : s ∉ F.all) : ∀ a b, a ∈ F.all → b ∈ F.all → ren o s a = ren o s b → a = b := by
 intro a b ha hb e
 unfold ren at e
 by_cases h1 : a = o <;> by_cases h2 : b = o
 ·
  rw [h1, h2]
 ·
  rw [if_pos h1, if_neg h2] at e; exact absurd (e ▸ hb) hs
 ·
  rw [if_neg h1, if_pos h2] at e; exact absurd (e ▸ ha) hs
 ·
  rw [if_neg h1, if_neg h2] at e; exact e
theorem ftMove_nd {F : FoS} {o s : SlotM} (h : Fo.Nd F) : Fo.Nd (ftMove F o s).2 := by
 unfold ftMove; split
 ·
  split
  ·
   exact h
  ·
   exact Fo.nd_map h (ren_inj (by assumption))
 ·
  exact h
theorem ftMove_len {F : FoS} {o s : SlotM} : (ftMove F o s).2.all.length = F.all.length := by
 unfold ftMove; split
 ·
  split
  ·
   rfl
  ·
   simp [Fo.all_map]
 ·
  rfl
end Go.Proofs.YtdodfnjmkpgdbaaGreat
end
section
set_option linter.unusedVariables false
set_option linter.unusedSimpArgs false
set_option linter.unusedSectionVars false
namespace Go.Proofs.YtdodfnjmkpgdbaaGreat
open Go.SL
def insAt (l : List DN) (id : Int) : Nat := (l.takeWhile fun d => decide ((d.id : Int) < id)).length
def dadd (l : List DN) (id r : Int) : Int × List DN := (daddErr l id r, if daddErr l id r = 0 then l.take (insAt l id) ++ newN id.toNat r.toNat 0 :: l.drop (insAt l id) else l)
def ddrop (l : List DN) (id : Int) : Int × List DN :=
  match dfind l id with
  | none => (3, l)
  | some d => if d.caps.all (fun c => decide (c.kind = 0)) then (0, ddel l id) else (8, l)
theorem insAt_place {id : Int} : ∀ l : List DN, dPlace l id (insAt l id)
  | [] => ⟨Nat.le_refl _, fun j d hj => absurd hj (Nat.not_lt_zero j), fun d hd => by cases hd⟩
  | a :: l => by
    obtain ⟨h1, h2, h3⟩ := insAt_place (id := id) l
    by_cases e : (a.id : Int) < id
    · have he : insAt (a :: l) id = insAt l id + 1 := by unfold insAt; rw [List.takeWhile_cons_of_pos (by simpa using e), List.length_cons]
      rw [he]
      refine ⟨by simpa using h1, fun j d hj hd => ?_, fun d hd => h3 d (by simpa using hd)⟩
      cases j with
      | zero => simp at hd; subst hd; exact e
      | succ j => exact h2 j d (by omega) (by simpa using hd)
    · have he : insAt (a :: l) id = 0 := by unfold insAt; rw [List.takeWhile_cons_of_neg (by simpa using e)]; rfl
      rw [he]
      exact ⟨Nat.zero_le _, fun j d hj => absurd hj (Nat.not_lt_zero j), fun d hd => by simp at hd; subst hd; exact e⟩
theorem dempty_all {d : DN} : dempty d ↔ d.caps.all (fun c => decide (c.kind = 0)) = true := by
 unfold dempty; rw [List.all_eq_true]
 exact ⟨fun h c hc => decide_eq_true (h c hc), fun h c hc => of_decide_eq_true (h c hc)⟩
def StF (l : List DN) (sb : Nat) (L : Hp) : Prop := ∃ S, Rel S l ∧ L = storeHp sb S
def maskM (a b : Int) : Int := if rightsOk a = true ∧ rightsOk b = true then bitsI .and .i64 a b else 0
def derive (c : CapM) (r badge g n : Int) : CapM × Int :=
  if checkM c ≠ 0 then (CapM.zero, checkM c)
  else if c.kind = 0 then (CapM.zero, 3)
  else if c.kind = 1 ∨ c.kind = 10 ∨ c.kind = 11 then (CapM.zero, 2)
  else if rightsOk r = false then (CapM.zero, 5)
  else if c.kind = 6 then ({ c with rights := maskM c.rights r }, 0)
  else if c.kind = 2 then (if fitsM g n = false then (CapM.zero, 10) else ({ c with guard := g, bits := n }, 0))
  else if c.kind = 4 ∨ c.kind = 5 then
    (if badge ≠ 0 ∧ c.badge ≠ 0 then (CapM.zero, 8)
     else if (if badge ≠ 0 then badge else c.badge).fdiv (2 ^ 28) ≠ 0 then (CapM.zero, 10)
     else ({ c with rights := maskM c.rights r, badge := if badge ≠ 0 then badge else c.badge }, 0))
  else (c, 0)
structure PS where
  l : List DN
  F : FoS
def mSource (p : PS) (s : SlotM) : CapM × Int := if (dget p.l s).2 = 0 ∧ (dget p.l s).1.kind = 0 then ((dget p.l s).1, 3) else dget p.l s
def mPlace (p : PS) (s : SlotM) : Int := if (dget p.l s).2 = 0 ∧ (dget p.l s).1.kind ≠ 0 then 4 else (dget p.l s).2
def mBoth (p : PS) (s d : SlotM) : CapM × Int := ((mSource p s).1, if (mSource p s).2 = 0 then mPlace p d else (mSource p s).2)
def mNode (p : PS) (id r : Int) : Int × PS := ((dadd p.l id r).1, ⟨(dadd p.l id r).2, p.F⟩)
def mClear (p : PS) (id : Int) : Int × PS := ((ddrop p.l id).1, ⟨(ddrop p.l id).2, p.F⟩)
def mPlant (p : PS) (s : SlotM) (c : CapM) : Int × PS := ((dput p.l s c).1, ⟨(dput p.l s c).2, if (dput p.l s c).1 = 0 then (ftRoot p.F s).2 else p.F⟩)
def mChild (p : PS) (o s : SlotM) (c : CapM) : Int × PS :=
  if (mBoth p o s).2 ≠ 0 then ((mBoth p o s).2, p) else ((dput p.l s c).1, ⟨(dput p.l s c).2, if (dput p.l s c).1 = 0 then (ftChild p.F o s).2 else p.F⟩)
def mMint (p : PS) (s d : SlotM) (r b g n : Int) : Int × PS :=
  if (mBoth p s d).2 ≠ 0 then ((mBoth p s d).2, p) else if (derive (mBoth p s d).1 r b g n).2 ≠ 0 then ((derive (mBoth p s d).1 r b g n).2, p) else mChild p s d (derive (mBoth p s d).1 r b g n).1
def mCopy (p : PS) (s d : SlotM) (r : Int) : Int × PS := mMint p s d r 0 (dget p.l s).1.guard (dget p.l s).1.bits
def mCarry (p : PS) (s d : SlotM) (c : CapM) : PS := ⟨(dput (dtake p.l s).2.2 d c).2, (ftMove p.F s d).2⟩
def mMove (p : PS) (s d : SlotM) : Int × PS := ((mBoth p s d).2, if (mBoth p s d).2 = 0 then mCarry p s d (mBoth p s d).1 else p)
def mMutate (p : PS) (s d : SlotM) (g n : Int) : Int × PS :=
  if (mBoth p s d).2 ≠ 0 then ((mBoth p s d).2, p) else if (mBoth p s d).1.kind ≠ 2 then (2, p)
  else ((derive (mBoth p s d).1 0 0 g n).2, if (derive (mBoth p s d).1 0 0 g n).2 = 0 then mCarry p s d (derive (mBoth p s d).1 0 0 g n).1 else p)
def mRotF (F : FoS) (d v s : SlotM) : FoS := (ftMove (ftMove (ftMove F v (-1, 0)).2 s v).2 (-1, 0) d).2
def mRotL (l : List DN) (d v s : SlotM) (x y : CapM) : List DN := (dput (dput (dtake (dtake l v).2.2 s).2.2 d x).2 v y).2
def mRotE (p : PS) (d s : SlotM) : Int := if (mSource p s).2 = 0 ∧ d ≠ s then mPlace p d else (mSource p s).2
def mRotate (p : PS) (d v s : SlotM) : Int × PS :=
  if v = d ∨ v = s then (10, p) else if (mSource p v).2 ≠ 0 then ((mSource p v).2, p) else if mRotE p d s ≠ 0 then (mRotE p d s, p)
  else (0, ⟨mRotL p.l d v s (mSource p v).1 (mSource p s).1, mRotF p.F d v s⟩)
def mTake (p : PS) (s : SlotM) : CapM × Int × PS := ((dtake p.l s).1, (dtake p.l s).2.1, ⟨(dtake p.l s).2.2, if (dtake p.l s).2.1 = 0 then (ftDrop p.F s).2 else p.F⟩)
abbrev cBlk (cb sb tb : Nat) : Nat × Obj := (cb, .cells [.pointer (some ⟨sb, 0, none⟩), .pointer (some ⟨tb, 0, none⟩)].toArray 42)
def CapsH (n : Nat) (p : PS) (cb : Nat) (L : Hp) : Prop := ∃ sb tb Ls Lt, StF p.l sb Ls ∧ TrF n p.F tb Lt ∧ L = cBlk cb sb tb :: (Ls ++ Lt)
def PS.new : PS := ⟨[], .nil⟩
end Go.Proofs.YtdodfnjmkpgdbaaGreat
end
section
set_option linter.unusedVariables false
set_option linter.unusedSimpArgs false
namespace Go.Proofs.YtdodfnjmkpgdbaaGreat
open Go.SL
def mask4 (a b : Nat) : Nat → Nat
  | 0 => 0
  | k + 1 => mask4 a b k + (if a / 2 ^ k % 2 = 1 ∧ b / 2 ^ k % 2 = 1 then 2 ^ k else 0)
theorem mask4_lt (a b : Nat) : ∀ k, mask4 a b k < 2 ^ k
  | 0 => by simp [mask4]
  | k + 1 => by
    have := mask4_lt a b k
    simp only [mask4, Nat.pow_succ]
    split <;> omega
def withinM (a b : Int) : Prop := (0 ≤ a ∧ a ≤ 7) ∧ (0 ≤ b ∧ b ≤ 7) ∧ (mask4 a.toNat b.toNat 3 : Int) = a
def weakM (a b : CapM) : Prop := checkM a = 0 ∧ checkM b = 0 ∧ a.kind = b.kind ∧ a.object = b.object ∧ withinM a.rights b.rights ∧ (b.badge = 0 ∨ a.badge = b.badge)
def d8 (P : Nat → Nat → Nat → Bool) : Bool := (List.range 8).all fun a => (List.range 8).all fun b => (List.range 8).all fun c => P a b c
theorem d8_at {P : Nat → Nat → Nat → Bool} (h : d8 P = true) {a b c : Nat} (ha : a < 8) (hb : b < 8) (hc : c < 8) : P a b c = true := by
 unfold d8 at h
 rw [List.all_eq_true] at h
 have h1 := h a (List.mem_range.2 ha)
 rw [List.all_eq_true] at h1
 have h2 := h1 b (List.mem_range.2 hb)
 rw [List.all_eq_true] at h2
 exact h2 c (List.mem_range.2 hc)
theorem mask_trans : d8 (fun a b c => !decide (mask4 a b 3 = a) || !decide (mask4 b c 3 = b) || decide (mask4 a c 3 = a)) = true := by decide
theorem mask_self : d8 (fun a _ _ => decide (mask4 a a 3 = a)) = true := by decide
theorem mask_in : d8 (fun a b _ => decide (mask4 (mask4 a b 3) a 3 = mask4 a b 3) && decide (mask4 a b 3 < 8)) = true := by decide
theorem withinM.trans {a b c : Int} (h : withinM a b) (k : withinM b c) : withinM a c := by
 obtain ⟨h1, h2, h3⟩ := h
 obtain ⟨k1, k2, k3⟩ := k
 refine ⟨h1, k2, ?_⟩
 have := d8_at mask_trans (a := a.toNat) (b := b.toNat) (c := c.toNat) (by omega) (by omega) (by omega)
 simp only [Bool.or_eq_true, Bool.not_eq_true', decide_eq_false_iff_not, decide_eq_true_iff] at this
 omega
theorem withinM.self {a : Int} (h : 0 ≤ a ∧ a ≤ 7) : withinM a a := by
 refine ⟨h, h, ?_⟩
 have := d8_at mask_self (a := a.toNat) (b := 0) (c := 0) (by omega) (by omega) (by omega)
 simp only [decide_eq_true_iff] at this
 omega
theorem weakM.trans {a b c : CapM} (h : weakM a b) (k : weakM b c) : weakM a c := by
 obtain ⟨h1, h2, h3, h4, h5, h6⟩ := h
 obtain ⟨k1, k2, k3, k4, k5, k6⟩ := k
 refine ⟨h1, k2, h3.trans k3, h4.trans k4, h5.trans k5, ?_⟩
 rcases k6 with k6 | k6
 ·
  exact .inl k6
 ·
  rcases h6 with h6 | h6
  ·
   exact .inl (k6 ▸ h6)
  ·
   exact .inr (h6.trans k6)
end Go.Proofs.YtdodfnjmkpgdbaaGreat
end
