/- Layer 7 in plain Lean, fourth part: counting, and the law that all counts together are all slots that are full. No condition. -/
import Derived.Test.YtdodfnjmkpgdbaaM07d
set_option linter.unusedVariables false
set_option linter.unusedSimpArgs false
namespace Go.Proofs.Ytdodfnjmkpgdbaa
open Go.SL

/-- Each node's slots behind its own are empty, and each capability that lies there was checked. -/
def StoreM.Tidy (S : StoreM) : Prop := ∀ id n i c, nget id S.nodes = some n → n.caps[i]? = some c → c.kind ≠ 0 → i < 2 ^ n.radix ∧ checkM c = 0

theorem check_kind {c : CapM} (h : checkM c = 0) : 0 ≤ c.kind ∧ c.kind ≤ 11 := by
  unfold checkM at h
  split at h
  · cases h
  · omega
theorem check_object {c : CapM} (h : checkM c = 0) : 0 ≤ c.object ∧ c.object < 64 := by
  unfold checkM at h
  split at h
  · cases h
  · split at h
    · cases h
    · rename_i h2
      simp only [not_or] at h2
      have h3 := h2.2.1
      have h4 := h2.2.2.1
      obtain ⟨k, hk⟩ : ∃ k : Nat, c.object = k := ⟨c.object.toNat, by omega⟩
      rw [hk] at h4 ⊢
      rw [show (6 : Nat) = 6 from rfl, fdiv_pow] at h4
      omega

theorem tidy_new {S : StoreM} (h : S.nodes = []) : S.Tidy := by intro id n i c hn; rw [h] at hn; cases hn
theorem tidy_add {S : StoreM} (hw : S.Tidy) {id : Int} (h : nget id S.nodes = none) (b r : Nat) : (S.addNode id b r).Tidy := by
  intro o n i c hn hc hk
  rw [addNode_nget h] at hn
  split at hn
  · cases hn
    rw [List.eq_of_mem_replicate (List.mem_of_getElem? hc)] at hk
    exact absurd rfl hk
  · exact hw o n i c hn hc hk
theorem tidy_put {S : StoreM} (hw : S.Tidy) (hf : S.Wf) (s : SlotM) (c : CapM) : (S.put s c).2.Tidy := by
  unfold StoreM.put
  cases hx : S.cap? s with
  | none => exact hw
  | some x =>
    dsimp only
    split
    · exact hw
    · split
      · exact hw
      · split
        · exact hw
        · intro o n i d hn hd hk
          obtain ⟨m, hm, hh, hmc, e⟩ := setCap_nget hx c o
          dsimp only at hn
          rw [e] at hn
          split at hn
          · cases hn
            by_cases hi : i = s.2.toNat
            · subst hi
              have hl := (List.getElem?_eq_some_iff.1 hmc).1
              simp only [NodeM.set, List.getElem?_set_self hl] at hd
              cases hd
              have := hh.1; have := hh.2
              exact ⟨by simp only [NodeM.set]; omega, by omega⟩
            · have : s.2.toNat ≠ i := fun e => hi e.symm
              simp only [NodeM.set, List.getElem?_set_ne this] at hd
              exact hw _ m i d hm hd hk
          · exact hw o n i d hn hd hk
theorem put_wf {S : StoreM} (hf : S.Wf) (s : SlotM) (c : CapM) : (S.put s c).2.Wf := by
  unfold StoreM.put
  cases hx : S.cap? s with
  | none => exact hf
  | some x =>
    dsimp only
    split
    · exact hf
    · split
      · exact hf
      · split
        · exact hf
        · exact setCap_wf hx c hf

/-! ### What lies in what is full -/
theorem mem_nodeFull {id : Nat} {caps : List CapM} : ∀ {j : Nat} {s : SlotM}, s ∈ nodeFull id caps j → ∃ i, i < j ∧ s = ((id : Int), (i : Int)) ∧ (caps[i]?.getD CapM.zero).kind ≠ 0
  | 0, s, h => by cases h
  | j + 1, s, h => by
    unfold nodeFull at h
    rcases List.mem_append.1 h with h | h
    · obtain ⟨i, hi, e⟩ := mem_nodeFull h
      exact ⟨i, by omega, e⟩
    · split at h
      · rename_i hk
        rw [List.mem_singleton] at h
        exact ⟨j, by omega, h, hk⟩
      · cases h
theorem mem_full {S : StoreM} : ∀ {k : Nat} {s : SlotM}, s ∈ fullUpto S k → ∃ id i n c, id < k ∧ s = (((id : Nat) : Int), ((i : Nat) : Int)) ∧ nget s.1 S.nodes = some n ∧ n.caps[i]? = some c ∧ c.kind ≠ 0
  | 0, s, h => by cases h
  | k + 1, s, h => by
    unfold fullUpto at h
    rcases List.mem_append.1 h with h | h
    · obtain ⟨id, i, n, c, h1, h2⟩ := mem_full h
      exact ⟨id, i, n, c, by omega, h2⟩
    · unfold full1 at h
      split at h
      · cases h
      · rename_i n hn
        obtain ⟨i, hi, rfl, hk⟩ := mem_nodeFull h
        cases hc : n.caps[i]? with
        | none => rw [hc] at hk; exact absurd rfl hk
        | some c => rw [hc] at hk; exact ⟨k, i, n, c, by omega, rfl, hn, hc, hk⟩
theorem full_cap {S : StoreM} (ht : S.Tidy) {s : SlotM} (h : s ∈ fullM S) : ∃ n c, nget s.1 S.nodes = some n ∧ n.caps[s.2.toNat]? = some c ∧ c.kind ≠ 0 ∧ checkM c = 0 ∧ S.addr s = some ⟨n.blk, 1 + s.2.toNat * 6, none⟩ ∧ S.get s = (c, 0) := by
  obtain ⟨id, i, n, c, _, rfl, hn, hc, hk⟩ := mem_full h
  obtain ⟨h1, h2⟩ := ht _ n i c hn hc hk
  have hh : n.has ((i : Nat) : Int) := ⟨by omega, by omega⟩
  refine ⟨n, c, hn, by simpa using hc, hk, h2, ?_, ?_⟩
  · unfold StoreM.addr; rw [hn]; exact if_pos hh
  · unfold StoreM.get StoreM.cap?; rw [hn]; dsimp only; rw [if_pos hh]; simp only [Int.toNat_natCast, hc]

/-! ### Counting -/
def isKO (S : StoreM) (k o : Int) (s : SlotM) : Bool := decide ((S.get s).1.kind = k) && decide ((S.get s).1.object = o)
def cntUpto (S : StoreM) (k o : Int) (i : Nat) : Nat := ((fullM S).take i).countP (isKO S k o)
def countM (S : StoreM) (k o : Int) : Nat := (fullM S).countP (isKO S k o)
theorem cntUpto_succ {S : StoreM} {k o : Int} {i : Nat} {s : SlotM} (h : (fullM S)[i]? = some s) : cntUpto S k o (i + 1) = cntUpto S k o i + if isKO S k o s then 1 else 0 := by
  unfold cntUpto
  rw [List.take_add_one, h, List.countP_append]
  simp [List.countP_cons]
theorem cntUpto_zero (S : StoreM) (k o : Int) : cntUpto S k o 0 = 0 := by unfold cntUpto; simp
theorem cntUpto_all (S : StoreM) (k o : Int) : cntUpto S k o (fullM S).length = countM S k o := by unfold cntUpto countM; rw [List.take_length]
theorem cntUpto_le (S : StoreM) (k o : Int) (i : Nat) : cntUpto S k o i ≤ 1024 := by
  have h1 := List.countP_le_length (p := isKO S k o) (l := (fullM S).take i)
  have h2 := fullUpto_len S 64
  rw [List.length_take] at h1
  unfold cntUpto fullM at *
  omega
theorem countM_le (S : StoreM) (k o : Int) : countM S k o ≤ 1024 := by rw [← cntUpto_all]; exact cntUpto_le _ _ _ _

/-- All counts of a kind, of objects below o. -/
def sumO (S : StoreM) (k : Nat) : Nat → Nat
  | 0 => 0
  | o + 1 => sumO S k o + countM S k o
def sumK (S : StoreM) : Nat → Nat
  | 0 => 0
  | k + 1 => sumK S k + sumO S k 64
theorem countP_split {α : Type} (p q r : α → Bool) (h : ∀ a, r a = (p a || q a)) (hd : ∀ a, ¬ (p a = true ∧ q a = true)) : ∀ l : List α, l.countP r = l.countP p + l.countP q
  | [] => rfl
  | a :: l => by
    rw [List.countP_cons, List.countP_cons, List.countP_cons, countP_split p q r h hd l, h a]
    have := hd a
    cases hp : p a <;> cases hq : q a <;> simp [hp, hq] at this ⊢ <;> omega
theorem sumO_eq (S : StoreM) (k : Nat) : ∀ o, sumO S k o = (fullM S).countP fun s => decide ((S.get s).1.kind = k) && decide (0 ≤ (S.get s).1.object ∧ (S.get s).1.object < (o : Int))
  | 0 => by
    unfold sumO
    rw [eq_comm, List.countP_eq_zero]
    intro s _; simp only [Bool.and_eq_true, decide_eq_true_eq]; omega
  | o + 1 => by
    unfold sumO
    rw [sumO_eq S k o, eq_comm]
    refine countP_split _ _ _ (fun s => ?_) (fun s => ?_) _
    · unfold isKO
      by_cases h1 : (S.get s).1.kind = k
      · simp only [h1, decide_true, Bool.true_and]
        rw [← Bool.decide_or]
        apply decide_eq_decide.2
        omega
      · simp [h1]
    · unfold isKO
      simp only [Bool.and_eq_true, decide_eq_true_eq]
      omega
theorem sumK_eq (S : StoreM) : ∀ k, sumK S k = (fullM S).countP fun s => decide (0 ≤ (S.get s).1.kind ∧ (S.get s).1.kind < (k : Int)) && decide (0 ≤ (S.get s).1.object ∧ (S.get s).1.object < (64 : Int))
  | 0 => by
    unfold sumK
    rw [eq_comm, List.countP_eq_zero]
    intro s _; simp only [Bool.and_eq_true, decide_eq_true_eq]; omega
  | k + 1 => by
    unfold sumK
    rw [sumK_eq S k, sumO_eq S k 64, eq_comm]
    refine countP_split _ _ _ (fun s => ?_) (fun s => ?_) _
    · by_cases h1 : 0 ≤ (S.get s).1.object ∧ (S.get s).1.object < (64 : Int)
      · have h2 : 0 ≤ (S.get s).1.object ∧ (S.get s).1.object < ((64 : Nat) : Int) := h1
        simp only [h1, h2, and_self, decide_true, Bool.and_true]
        rw [← Bool.decide_or]
        apply decide_eq_decide.2
        omega
      · have h2 : ¬ (0 ≤ (S.get s).1.object ∧ (S.get s).1.object < ((64 : Nat) : Int)) := h1
        simp only [h1, h2, decide_false, Bool.and_false, Bool.or_self]
    · simp only [Bool.and_eq_true, decide_eq_true_eq]
      omega
theorem sum_all {S : StoreM} (ht : S.Tidy) : sumK S 12 = (fullM S).length := by
  rw [sumK_eq, List.countP_eq_length]
  intro s hs
  obtain ⟨n, c, _, _, _, hc, _, hg⟩ := full_cap ht hs
  have h1 := check_kind hc
  have h2 := check_object hc
  rw [hg]
  simp only [Bool.and_eq_true, decide_eq_true_eq]
  omega
theorem count_null {S : StoreM} (ht : S.Tidy) (o : Int) : countM S 0 o = 0 := by
  unfold countM
  rw [List.countP_eq_zero]
  intro s hs
  obtain ⟨n, c, _, _, hk, _, _, hg⟩ := full_cap ht hs
  unfold isKO
  rw [hg]
  simp [hk]
theorem sumO_le (S : StoreM) (k o : Nat) : sumO S k o ≤ 1024 := by
  rw [sumO_eq]
  exact Nat.le_trans List.countP_le_length (fullUpto_len S 64)
theorem sumK_le (S : StoreM) (k : Nat) : sumK S k ≤ 1024 := by
  rw [sumK_eq]
  exact Nat.le_trans List.countP_le_length (fullUpto_len S 64)

/-! ### In order -/
def lexlt (a b : SlotM) : Prop := a.1 < b.1 ∨ a.1 = b.1 ∧ a.2 < b.2
theorem nodeFull_sorted (id : Nat) (caps : List CapM) : ∀ j, (nodeFull id caps j).Pairwise lexlt
  | 0 => List.Pairwise.nil
  | j + 1 => by
    unfold nodeFull
    rw [List.pairwise_append]
    refine ⟨nodeFull_sorted id caps j, by split <;> simp, fun a ha b hb => ?_⟩
    obtain ⟨i, hi, rfl, _⟩ := mem_nodeFull ha
    split at hb
    · rw [List.mem_singleton] at hb; subst hb; exact .inr ⟨rfl, by dsimp only; omega⟩
    · cases hb
theorem full1_fst {S : StoreM} {id : Nat} {s : SlotM} (h : s ∈ full1 S id) : s.1 = (id : Int) := by
  unfold full1 at h
  split at h
  · cases h
  · obtain ⟨i, _, rfl, _⟩ := mem_nodeFull h; rfl
theorem fullUpto_sorted (S : StoreM) : ∀ k, (fullUpto S k).Pairwise lexlt
  | 0 => List.Pairwise.nil
  | k + 1 => by
    unfold fullUpto
    rw [List.pairwise_append]
    refine ⟨fullUpto_sorted S k, ?_, fun a ha b hb => ?_⟩
    · unfold full1; split
      · exact List.Pairwise.nil
      · exact nodeFull_sorted _ _ _
    · obtain ⟨id, i, n, c, hid, rfl, _⟩ := mem_full ha
      exact .inl (by rw [full1_fst hb]; dsimp only; omega)
theorem full_lt {S : StoreM} {i j : Nat} {a b : SlotM} (h : i < j) (ha : (fullM S)[i]? = some a) (hb : (fullM S)[j]? = some b) : lexlt a b := by
  have := fullUpto_sorted S 64
  rw [List.pairwise_iff_getElem] at this
  obtain ⟨hi, rfl⟩ := List.getElem?_eq_some_iff.1 ha
  obtain ⟨hj, rfl⟩ := List.getElem?_eq_some_iff.1 hb
  exact this i j hi hj h

theorem full_len (S : StoreM) : (fullM S).length ≤ 1024 := fullUpto_len S 64
attribute [irreducible] countM cntUpto

/-! ### The arguments -/
structure OpM where
  kind : Int
  slot : SlotM
  n : Int
  c : CapM
abbrev OpM.cells (o : OpM) : List Value := [.int .i64 o.kind, .int .i64 o.slot.1, .int .i64 o.slot.2, .int .i64 o.n, .int .i64 o.c.kind, .int .i64 o.c.object, .int .i64 o.c.rights, .int .u64 o.c.badge, .int .u64 o.c.guard, .int .i64 o.c.bits]

end Go.Proofs.Ytdodfnjmkpgdbaa
