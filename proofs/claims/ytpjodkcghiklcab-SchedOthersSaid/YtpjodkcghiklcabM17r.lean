/- Layer 17 in plain Lean: who is ready, by levels, and the levels' bits. No condition. -/
import Derived.Test.YtpjodkcghiklcabM17
set_option linter.unusedVariables false
set_option linter.unusedSimpArgs false
namespace Go.Proofs.Ytpjodkcghiklcab
open Go.SL

/-! Bits of a word -/
def bitsN (p : Nat → Bool) : Nat → Nat
  | 0 => 0
  | n + 1 => bitsN p n + if p n then 2 ^ n else 0
theorem bitsN_lt (p : Nat → Bool) : ∀ n, bitsN p n < 2 ^ n
  | 0 => by simp [bitsN]
  | n + 1 => by
    have := bitsN_lt p n
    simp only [bitsN, Nat.pow_succ]; split <;> omega
theorem bitsN_test (p : Nat → Bool) : ∀ n k, (bitsN p n).testBit k = (decide (k < n) && p k)
  | 0, k => by simp [bitsN]
  | n + 1, k => by
    have ih := bitsN_test p n k
    have hl := bitsN_lt p n
    simp only [bitsN]
    by_cases hp : p n
    · rw [if_pos hp, Nat.add_comm]
      by_cases e : k = n
      · subst e; rw [Nat.testBit_two_pow_add_eq, ih]; simp [hp]
      · rcases Nat.lt_or_gt_of_ne e with h | h
        · rw [Nat.testBit_two_pow_add_gt h, ih]; simp [h, Nat.lt_succ_of_lt h]
        · rw [Nat.testBit_lt_two_pow]
          · simp [show ¬ k < n + 1 by omega]
          · have h1 : 2 ^ (n + 1) ≤ 2 ^ k := Nat.pow_le_pow_right (by omega) (by omega)
            rw [Nat.pow_succ] at h1; omega
    · rw [if_neg hp, Nat.add_zero, ih]
      by_cases e : k = n
      · subst e; simp [hp]
      · have : (k < n + 1) ↔ k < n := by omega
        simp [this]
theorem bitsN_congr {p q : Nat → Bool} : ∀ {n}, (∀ k, k < n → p k = q k) → bitsN p n = bitsN q n
  | 0, _ => rfl
  | n + 1, h => by simp only [bitsN]; rw [bitsN_congr (fun k hk => h k (by omega)), h n (by omega)]
theorem bitsN_or {p : Nat → Bool} {k : Nat} (hk : k < 8) : bitsI .or .u64 ((bitsN p 8 : Nat) : Int) ((2 ^ k : Nat) : Int) = ((bitsN (fset p k true) 8 : Nat) : Int) := by
  have h1 := bitsN_lt p 8
  have h2 := bitsN_lt (fset p k true) 8
  have h3 : 2 ^ k < 2 ^ 8 := Nat.pow_lt_pow_right (by omega) hk
  have e : (BitVec.ofInt 64 ((bitsN p 8 : Nat) : Int) ||| BitVec.ofInt 64 ((2 ^ k : Nat) : Int)).toNat = bitsN (fset p k true) 8 := by
    rw [BitVec.ofInt_natCast, BitVec.ofInt_natCast, BitVec.toNat_or, BitVec.toNat_ofNat, BitVec.toNat_ofNat, Nat.mod_eq_of_lt (by omega), Nat.mod_eq_of_lt (by omega)]
    apply Nat.eq_of_testBit_eq
    intro i
    rw [Nat.testBit_or, bitsN_test, bitsN_test, Nat.testBit_two_pow]
    unfold fset
    by_cases e : i = k
    · subst e; simp [hk]
    · simp [e, Ne.symm e]
  show IntKind.u64.wrap ((BitVec.ofInt 64 ((bitsN p 8 : Nat) : Int) ||| BitVec.ofInt 64 ((2 ^ k : Nat) : Int)).toNat : Int) = _
  rw [e]; exact u64n rfl (by omega)
theorem bitsN_andNot {p : Nat → Bool} {k : Nat} (hk : k < 8) : bitsI .andNot .u64 ((bitsN p 8 : Nat) : Int) ((2 ^ k : Nat) : Int) = ((bitsN (fset p k false) 8 : Nat) : Int) := by
  have h1 := bitsN_lt p 8
  have h2 := bitsN_lt (fset p k false) 8
  have h3 : 2 ^ k < 2 ^ 8 := Nat.pow_lt_pow_right (by omega) hk
  have e : (BitVec.ofInt 64 ((bitsN p 8 : Nat) : Int) &&& ~~~ BitVec.ofInt 64 ((2 ^ k : Nat) : Int)).toNat = bitsN (fset p k false) 8 := by
    rw [BitVec.ofInt_natCast, BitVec.ofInt_natCast]
    apply Nat.eq_of_testBit_eq
    intro i
    rw [BitVec.testBit_toNat, BitVec.getLsbD_and, BitVec.getLsbD_not, BitVec.getLsbD_ofNat, BitVec.getLsbD_ofNat, bitsN_test, bitsN_test, Nat.testBit_two_pow]
    unfold fset
    by_cases e : i = k
    · subst e; simp
    · by_cases h : i < 8
      · simp [e, Ne.symm e, h, show i < 64 by omega]
      · simp [h]
  show IntKind.u64.wrap ((BitVec.ofInt 64 ((bitsN p 8 : Nat) : Int) &&& ~~~ BitVec.ofInt 64 ((2 ^ k : Nat) : Int)).toNat : Int) = _
  rw [e]; exact u64n rfl (by omega)

/-- The highest place below n at which p holds; -1: none. -/
def hiM (p : Nat → Bool) : Nat → Int
  | 0 => -1
  | n + 1 => if p n then n else hiM p n
theorem hiM_ge (p : Nat → Bool) : ∀ n, -1 ≤ hiM p n ∧ hiM p n < n
  | 0 => by simp [hiM]
  | n + 1 => by have := hiM_ge p n; simp only [hiM]; split <;> omega
theorem hiM_congr {p q : Nat → Bool} : ∀ {n}, (∀ k, k < n → p k = q k) → hiM p n = hiM q n
  | 0, _ => rfl
  | n + 1, h => by simp only [hiM]; rw [hiM_congr (fun k hk => h k (by omega)), h n (by omega)]
theorem hiM_cut {p : Nat → Bool} {n : Nat} : ∀ {m}, n ≤ m → (∀ k, n ≤ k → k < m → p k = false) → hiM p m = hiM p n
  | 0, h, _ => by
    have : n = 0 := by omega
    rw [this]
  | m + 1, h, hp => by
    by_cases e : n = m + 1
    · subst e; rfl
    · simp only [hiM]; rw [hp m (by omega) (by omega), if_neg (by simp)]; exact hiM_cut (by omega) (fun k h1 h2 => hp k h1 (by omega))
theorem hiM_some {p : Nat → Bool} : ∀ {n} {k : Nat}, hiM p n = k → k < n ∧ p k = true ∧ ∀ j, k < j → j < n → p j = false
  | 0, k, h => by simp only [hiM] at h; omega
  | n + 1, k, h => by
    simp only [hiM] at h
    split at h
    · obtain rfl : n = k := by omega
      exact ⟨by omega, by assumption, fun j h1 h2 => by omega⟩
    · obtain ⟨h1, h2, h3⟩ := hiM_some h
      refine ⟨by omega, h2, fun j hj hj2 => ?_⟩
      by_cases e : j = n
      · subst e; simp_all
      · exact h3 j hj (by omega)
theorem hiM_none {p : Nat → Bool} : ∀ {n}, hiM p n < 0 → ∀ j, j < n → p j = false
  | 0, h, j, hj => by omega
  | n + 1, h, j, hj => by
    simp only [hiM] at h
    split at h
    · omega
    · by_cases e : j = n
      · subst e; simp_all
      · exact hiM_none h j (by omega)
theorem hiM_is {p : Nat → Bool} : ∀ {n} {k : Nat}, k < n → p k = true → (∀ j, k < j → j < n → p j = false) → hiM p n = k
  | 0, k, h, _, _ => by omega
  | n + 1, k, h, hp, hn => by
    simp only [hiM]
    by_cases e : k = n
    · subst e; rw [if_pos hp]
    · rw [hn n (by omega) (by omega), if_neg (by simp)]; exact hiM_is (by omega) hp (fun j h1 h2 => hn j h1 (by omega))
theorem hiM_bits (p : Nat → Bool) : hiM (fun k => (bitsN p 8).testBit k) 64 = hiM p 8 := by
  rw [hiM_cut (n := 8) (by omega) (fun k h1 h2 => by simp only [bitsN_test]; simp [show ¬ k < 8 by omega])]
  exact hiM_congr (fun k hk => by rw [bitsN_test]; simp [hk])

/-! Ids, each with its level, in the order in which they came -/
def oneC (e : Int × Int) : List Value := [.int .i64 e.1, .int .i64 e.2]
instance : Enc oneC 2 := ⟨fun _ => rfl, fun _ => rfl⟩
abbrev Ones := List (Int × Int)
def lvl (L : Ones) (k : Int) : List Int := (L.filter (fun e => decide (e.2 = k))).map (·.1)
def inR (L : Ones) (x : Int) : Bool := decide (x ∈ L.map (·.1))
def putE (L : Ones) (x k : Int) : Int := if (rightM x && decide (0 ≤ k) && decide (k < 8)) = false then 1 else if inR L x then 4 else 0
def putR (L : Ones) (x k : Int) : Ones := if putE L x k = 0 then L ++ [(x, k)] else L
def dropR (L : Ones) (x : Int) : Ones := L.filter (fun e => decide (e.1 ≠ x))
def has (L : Ones) (k : Nat) : Bool := !(lvl L k).isEmpty
abbrev levN (L : Ones) : Nat := bitsN (has L) 8
def nextI (L : Ones) : Int := hiM (has L) 8
def nextV (L : Ones) : Int := if nextI L < 0 then 0 else (lvl L (nextI L)).headD 0
def nextB (L : Ones) : Bool := decide (0 ≤ nextI L)
structure RdyW (L : Ones) : Prop where
  lev : ∀ e, e ∈ L → 0 ≤ e.2 ∧ e.2 < 8
  nd : (L.map (·.1)).Nodup
theorem RdyW.nil : RdyW [] := ⟨fun e h => (List.not_mem_nil h).elim, List.nodup_nil⟩
theorem lvl_len (L : Ones) (k : Int) : (lvl L k).length ≤ L.length := by unfold lvl; rw [List.length_map]; exact List.length_filter_le _ _
theorem lvl_mem {L : Ones} {k x : Int} : x ∈ lvl L k ↔ (x, k) ∈ L := by
  unfold lvl
  simp only [List.mem_map, List.mem_filter, decide_eq_true_eq]
  constructor
  · rintro ⟨⟨a, b⟩, ⟨h1, h2⟩, h3⟩; simp only at h2 h3; subst h2; subst h3; exact h1
  · intro h; exact ⟨(x, k), ⟨h, rfl⟩, rfl⟩
theorem lvl_nd {L : Ones} (h : RdyW L) (k : Int) : (lvl L k).Nodup := h.nd.sublist (List.filter_sublist.map _)
theorem inR_iff {L : Ones} (h : RdyW L) {x : Int} : inR L x = true ↔ ∃ k : Nat, k < 8 ∧ x ∈ lvl L k := by
  unfold inR
  rw [decide_eq_true_eq, List.mem_map]
  constructor
  · rintro ⟨⟨a, b⟩, h1, rfl⟩
    have := h.lev _ h1
    exact ⟨b.toNat, by simp only at this; omega, lvl_mem.2 (by simp only at this ⊢; rw [Int.toNat_of_nonneg this.1]; exact h1)⟩
  · rintro ⟨k, _, hk⟩; exact ⟨_, lvl_mem.1 hk, rfl⟩
theorem inR_false {L : Ones} (h : RdyW L) {x : Int} (hn : ∀ k : Nat, k < 8 → ¬ 0 ≤ idxM (lvl L k) x) : inR L x = false := by
  rw [← Bool.not_eq_true, inR_iff h]
  rintro ⟨k, hk, hm⟩
  exact hn k hk ((idx_mem _ _).2 hm)
theorem inR_true {L : Ones} (h : RdyW L) {x : Int} {k : Nat} (hk : k < 8) (hm : 0 ≤ idxM (lvl L k) x) : inR L x = true :=
  (inR_iff h).2 ⟨k, hk, (idx_mem _ _).1 hm⟩
theorem lvl_put (L : Ones) (x k j : Int) : lvl (L ++ [(x, k)]) j = if j = k then lvl L j ++ [x] else lvl L j := by
  unfold lvl
  rw [List.filter_append]
  by_cases h : j = k
  · subst h; simp
  · simp [h, Ne.symm h]
theorem lvl_drop (L : Ones) (x k : Int) : lvl (dropR L x) k = (lvl L k).filter (fun y => decide (y ≠ x)) := by
  unfold lvl dropR
  rw [List.filter_filter, List.filter_map, List.filter_filter]
  congr 1
  apply List.filter_congr
  intro e _
  exact Bool.and_comm _ _
theorem rem_filter {l : List Int} (hn : l.Nodup) (x : Int) : remL l x = l.filter (fun y => decide (y ≠ x)) := by
  induction l with
  | nil => simp [remL, idxM]
  | cons a l ih =>
    rw [List.nodup_cons] at hn
    by_cases h : a = x
    · subst h
      have e : (l.filter fun y => decide (y ≠ a)) = l := by
        rw [List.filter_eq_self]; intro y hy; simp; rintro rfl; exact hn.1 hy
      rw [List.filter_cons_of_neg (by simp), e]
      simp [remL, idxM]
    · rw [List.filter_cons_of_pos (by simp [h]), ← ih hn.2]
      unfold remL
      simp only [idxM, if_neg h]
      by_cases h2 : idxM l x < 0
      · rw [if_pos h2, if_neg (by omega), if_neg (by omega)]
      · rw [if_neg h2, if_pos (by omega), if_pos (by omega)]
        rw [show (idxM l x + 1).toNat = (idxM l x).toNat + 1 by omega]; simp
theorem rem_lvl {L : Ones} (h : RdyW L) (x k : Int) : remL (lvl L k) x = lvl (dropR L x) k := by rw [lvl_drop, rem_filter (lvl_nd h k)]
theorem drop_none {L : Ones} {x : Int} (h : inR L x = false) : dropR L x = L := by
  unfold dropR; rw [List.filter_eq_self]; intro e he
  have : x ∉ L.map (·.1) := by simpa [inR] using h
  simp; rintro rfl; exact this (List.mem_map.2 ⟨e, he, rfl⟩)
theorem RdyW.drop {L : Ones} (h : RdyW L) (x : Int) : RdyW (dropR L x) :=
  ⟨fun e he => h.lev e (List.mem_filter.1 he).1, h.nd.sublist (List.filter_sublist.map _)⟩
theorem dropR_len (L : Ones) (x : Int) : (dropR L x).length ≤ L.length := List.length_filter_le _ _
theorem putR_len (L : Ones) (x k : Int) : (putR L x k).length ≤ L.length + 1 := by unfold putR; split <;> simp
theorem putE_zero {L : Ones} {x k : Int} (h : putE L x k = 0) : rightM x = true ∧ 0 ≤ k ∧ k < 8 ∧ inR L x = false := by
  unfold putE at h
  split at h
  · omega
  · split at h
    · omega
    · rename_i h1 h2
      simp at h1 h2
      exact ⟨h1.1, h1.2.1, h1.2.2, h2⟩
theorem putR_ok {L : Ones} {x k : Int} (h : putE L x k = 0) : putR L x k = L ++ [(x, k)] := if_pos h
theorem RdyW.put {L : Ones} (h : RdyW L) (x k : Int) : RdyW (putR L x k) := by
  by_cases e : putE L x k = 0
  · rw [putR_ok e]
    obtain ⟨h1, h2, h3, h4⟩ := putE_zero e
    refine ⟨fun e' he => ?_, ?_⟩
    · rcases List.mem_append.1 he with he | he
      · exact h.lev _ he
      · obtain rfl := List.mem_singleton.1 he; exact ⟨h2, h3⟩
    · rw [List.map_append, List.nodup_append]
      refine ⟨h.nd, by simp, ?_⟩
      intro a ha b hb
      simp at hb
      subst hb
      rintro rfl
      have : a ∉ L.map (·.1) := by simpa [inR] using h4
      exact this ha
  · unfold putR; rw [if_neg e]; exact h
theorem has_put {L : Ones} {x : Int} {k : Nat} (j : Nat) : has (L ++ [(x, (k : Int))]) j = fset (has L) k true j := by
  unfold has fset
  rw [lvl_put]
  by_cases e : j = k
  · subst e; simp
  · rw [if_neg (by omega), if_neg e]
theorem nodup_key {α β : Type} : ∀ {L : List (α × β)} {a : α} {b c : β}, (L.map (·.1)).Nodup → (a, b) ∈ L → (a, c) ∈ L → b = c
  | [], _, _, _, _, h, _ => (List.not_mem_nil h).elim
  | x :: L, a, b, c, hn, h1, h2 => by
    rw [List.map_cons, List.nodup_cons] at hn
    rcases List.mem_cons.1 h1 with e1 | g1 <;> rcases List.mem_cons.1 h2 with e2 | g2
    · rw [← e1] at e2; exact (congrArg Prod.snd e2).symm
    · exact (hn.1 (List.mem_map.2 ⟨(a, c), g2, by rw [← e1]⟩)).elim
    · exact (hn.1 (List.mem_map.2 ⟨(a, b), g1, by rw [← e2]⟩)).elim
    · exact nodup_key hn.2 g1 g2
theorem lvl_drop_ne {L : Ones} (h : RdyW L) {x : Int} {k : Nat} (hk : 0 ≤ idxM (lvl L k) x) (j : Nat) (hj : j ≠ k) : lvl (dropR L x) j = lvl L j := by
  rw [lvl_drop, List.filter_eq_self]
  intro y hy
  have h1 := lvl_mem.1 ((idx_mem _ _).1 hk)
  have h2 := lvl_mem.1 hy
  simp only [decide_eq_true_eq]
  rintro rfl
  have := nodup_key h.nd h1 h2
  omega
theorem has_drop {L : Ones} (h : RdyW L) {x : Int} {k : Nat} (hk : 0 ≤ idxM (lvl L k) x) (j : Nat) : has (dropR L x) j = fset (has L) k (decide (0 < (remL (lvl L k) x).length)) j := by
  unfold fset
  by_cases e : j = k
  · subst e
    rw [if_pos rfl, rem_lvl h]
    unfold has
    cases lvl (dropR L x) j <;> simp
  · rw [if_neg e]; unfold has; rw [lvl_drop_ne h hk j e]
theorem take_drop_filter {L : Ones} (h : (L.map (·.1)).Nodup) {i : Nat} {x k : Int} (hi : L[i]? = some (x, k)) : L.take i ++ L.drop (i + 1) = dropR L x := by
  induction L generalizing i with
  | nil => simp at hi
  | cons a L ih =>
    rw [List.map_cons, List.nodup_cons] at h
    cases i with
    | zero =>
      simp at hi; subst hi
      have e : dropR L x = L := drop_none (by simpa [inR] using h.1)
      simp only [List.take_zero, List.nil_append, List.drop_succ_cons, List.drop_zero]
      unfold dropR at e ⊢
      rw [List.filter_cons_of_neg (by simp), e]
    | succ i =>
      have hi' : L[i]? = some (x, k) := by simpa using hi
      have hne : a.1 ≠ x := by
        intro e; apply h.1; rw [e]
        exact List.mem_map.2 ⟨_, List.mem_of_getElem? hi', rfl⟩
      rw [List.take_succ_cons, List.drop_succ_cons, List.cons_append, ih h.2 hi']
      unfold dropR
      rw [List.filter_cons_of_pos (by simp [hne])]
theorem inR_miss {L : Ones} {x : Int} (h : ∀ i, i < L.length → ∀ k, L[i]? ≠ some (x, k)) : inR L x = false := by
  unfold inR
  rw [decide_eq_false_iff_not, List.mem_map]
  rintro ⟨⟨a, b⟩, hm, rfl⟩
  obtain ⟨i, hi, e⟩ := List.mem_iff_getElem.1 hm
  exact h i hi b (by rw [List.getElem?_eq_getElem hi, e])
theorem inR_hit {L : Ones} {x k : Int} {i : Nat} (h : L[i]? = some (x, k)) : inR L x = true := by
  unfold inR
  rw [decide_eq_true_eq, List.mem_map]
  exact ⟨_, List.mem_of_getElem? h, rfl⟩

end Go.Proofs.Ytpjodkcghiklcab
