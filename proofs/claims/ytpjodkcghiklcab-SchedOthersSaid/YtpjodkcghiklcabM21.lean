/- Layer 21 in plain Lean: a schedule, and who is ready in which domain. No condition. -/
import Derived.Test.YtpjodkcghiklcabW17r
import Derived.Test.YtpjodkcghiklcabFL
set_option linter.unusedVariables false
set_option linter.unusedSimpArgs false
namespace Go.Proofs.Ytpjodkcghiklcab
open Go.SL

/-! Where one is -/
def levOf (M : Ones) (x : Int) : Option Int := (M.find? (fun e => decide (e.1 = x))).map (·.2)
theorem levOf_some {M : Ones} (hn : (M.map (·.1)).Nodup) {x k : Int} (h : (x, k) ∈ M) : levOf M x = some k := by
  unfold levOf
  cases e : M.find? (fun e => decide (e.1 = x)) with
  | none => have := List.find?_eq_none.1 e _ h; simp at this
  | some p =>
    have h1 := List.mem_of_find?_eq_some e
    have h2 := List.find?_some e
    simp at h2
    obtain ⟨a, b⟩ := p
    dsimp only at h2; subst h2
    rw [nodup_key hn h h1]; rfl
theorem levOf_none {M : Ones} {x : Int} (h : inR M x = false) : levOf M x = none := by
  unfold levOf
  rw [Option.map_eq_none_iff, List.find?_eq_none]
  intro e he
  have : x ∉ M.map (·.1) := by simpa [inR] using h
  simp; rintro rfl; exact this (List.mem_map.2 ⟨e, he, rfl⟩)
def findF (L : Nat → Ones) (x : Int) : Nat → Nat → Option (Nat × Int)
  | _, 0 => none
  | d, n + 1 => match levOf (L d) x with
    | some k => some (d, k)
    | none => findF L x (d + 1) n
def findM (L : Nat → Ones) (x : Int) : Option (Nat × Int) := findF L x 0 4
theorem findF_skip {L : Nat → Ones} {x : Int} : ∀ {n d m : Nat}, m ≤ n → (∀ j, d ≤ j → j < d + m → levOf (L j) x = none) → findF L x d n = findF L x (d + m) (n - m)
  | n, d, 0, _, _ => rfl
  | 0, d, m + 1, h, _ => by omega
  | n + 1, d, m + 1, h, hn => by
    simp only [findF, hn d (by omega) (by omega)]
    rw [findF_skip (m := m) (by omega) (fun j h1 h2 => hn j (by omega) (by omega))]
    rw [show d + 1 + m = d + (m + 1) by omega, show n - m = n + 1 - (m + 1) by omega]
theorem find_hit {L : Nat → Ones} {x k : Int} {d : Nat} (hd : d < 4) (hn : ∀ j, j < d → levOf (L j) x = none) (h : levOf (L d) x = some k) : findM L x = some (d, k) := by
  unfold findM
  rw [findF_skip (m := d) (by omega) (fun j h1 h2 => hn j (by omega)), show 4 - d = (3 - d) + 1 by omega]
  simp only [Nat.zero_add, findF, h]
theorem find_miss {L : Nat → Ones} {x : Int} (hn : ∀ j, j < 4 → levOf (L j) x = none) : findM L x = none := by
  unfold findM
  rw [findF_skip (m := 4) (Nat.le_refl _) (fun j h1 h2 => hn j (by omega))]; rfl
theorem findF_some {L : Nat → Ones} {x : Int} : ∀ {n d e : Nat} {k : Int}, findF L x d n = some (e, k) → d ≤ e ∧ e < d + n ∧ levOf (L e) x = some k
  | 0, _, _, _, h => by cases h
  | n + 1, d, e, k, h => by
    simp only [findF] at h
    split at h
    · cases h; exact ⟨Nat.le_refl _, by omega, by assumption⟩
    · obtain ⟨h1, h2, h3⟩ := findF_some h; exact ⟨by omega, by omega, h3⟩
theorem find_some {L : Nat → Ones} {x k : Int} {d : Nat} (h : findM L x = some (d, k)) : d < 4 ∧ levOf (L d) x = some k := by
  obtain ⟨_, h2, h3⟩ := findF_some h; exact ⟨by omega, h3⟩
def fdD (L : Nat → Ones) (x : Int) : Int := match findM L x with | some (d, _) => (d : Int) | none => 0
def fdK (L : Nat → Ones) (x : Int) : Int := match findM L x with | some (_, k) => k | none => 0
def fdB (L : Nat → Ones) (x : Int) : Bool := (findM L x).isSome
theorem fd_some {L : Nat → Ones} {x k : Int} {d : Nat} (h : findM L x = some (d, k)) : fdD L x = d ∧ fdK L x = k ∧ fdB L x = true := by unfold fdD fdK fdB; rw [h]; exact ⟨rfl, rfl, rfl⟩
theorem fd_none {L : Nat → Ones} {x : Int} (h : findM L x = none) : fdD L x = 0 ∧ fdK L x = 0 ∧ fdB L x = false := by unfold fdD fdK fdB; rw [h]; exact ⟨rfl, rfl, rfl⟩
/-- All domains are in order. -/
def RdysW (L : Nat → Ones) : Prop := ∀ d, d < 4 → RdyW (L d)
def RdysL (L : Nat → Ones) (n : Nat) : Prop := ∀ d, d < 4 → (L d).length ≤ n
theorem RdysW.nil : RdysW (fun _ => []) := fun _ _ => RdyW.nil
theorem RdysL.mono {L : Nat → Ones} {n m : Nat} (h : RdysL L n) (hm : n ≤ m) : RdysL L m := fun d hd => Nat.le_trans (h d hd) hm
theorem RdysW.set {L : Nat → Ones} (h : RdysW L) {d : Nat} {M : Ones} (hM : RdyW M) : RdysW (fset L d M) := fun j hj => by
  by_cases e : j = d
  · subst e; rw [fset_same]; exact hM
  · rw [fset_ne e]; exact h j hj
theorem RdysL.set {L : Nat → Ones} {n : Nat} (h : RdysL L n) {d : Nat} {M : Ones} (hM : M.length ≤ n + 1) : RdysL (fset L d M) (n + 1) := fun j hj => by
  by_cases e : j = d
  · subst e; rw [fset_same]; exact hM
  · rw [fset_ne e]; exact Nat.le_succ_of_le (h j hj)
theorem lev_hit {M : Ones} (h : RdyW M) {x : Int} {k : Nat} (hk : 0 ≤ idxM (lvl M k) x) : levOf M x = some (k : Int) := levOf_some h.nd (lvl_mem.1 ((idx_mem _ _).1 hk))
theorem lev_miss {M : Ones} (h : RdyW M) {x : Int} (hn : ∀ k : Nat, k < 8 → ¬ 0 ≤ idxM (lvl M k) x) : levOf M x = none := levOf_none (inR_false h hn)

theorem drops_len {L : Nat → Ones} {n : Nat} (hl : RdysL L n) (d : Nat) (x : Int) : RdysL (fset L d (dropR (L d) x)) n := fun j hj => by
  by_cases e : j = d
  · subst e; rw [fset_same]; exact Nat.le_trans (dropR_len _ _) (hl _ hj)
  · rw [fset_ne e]; exact hl j hj

/-! What is done with threads -/
def domB (d : Int) : Bool := decide (0 ≤ d ∧ d < 4)
def spE (L : Nat → Ones) (x d k : Int) : Int := if rightM x = true ∧ (0 ≤ d ∧ d < 4) ∧ 0 ≤ k ∧ k < 8 then (if fdB L x then 4 else putE (L d.toNat) x k) else 1
def spL (L : Nat → Ones) (x d k : Int) : Nat → Ones := if spE L x d k = 0 then fset L d.toNat (putR (L d.toNat) x k) else L
def sdB (L : Nat → Ones) (x : Int) : Bool := match findM L x with | some (d, _) => inR (L d) x | none => false
def sdL (L : Nat → Ones) (x : Int) : Nat → Ones := match findM L x with | some (d, _) => fset L d (dropR (L d) x) | none => L
def syL (L : Nat → Ones) (x : Int) : Nat → Ones := match findM L x with | some (d, k) => fset L d (putR (dropR (L d) x) x k) | none => L
theorem sp_out {L : Nat → Ones} {x d k : Int} (h : ¬ (rightM x = true ∧ (0 ≤ d ∧ d < 4) ∧ 0 ≤ k ∧ k < 8)) : spE L x d k = 1 ∧ spL L x d k = L := by
  have e : spE L x d k = 1 := if_neg h
  exact ⟨e, by unfold spL; rw [if_neg (by omega)]⟩
theorem sp_twice {L : Nat → Ones} {x d k : Int} (h : rightM x = true ∧ (0 ≤ d ∧ d < 4) ∧ 0 ≤ k ∧ k < 8) (h2 : fdB L x = true) : spE L x d k = 4 ∧ spL L x d k = L := by
  have e : spE L x d k = 4 := by unfold spE; rw [if_pos h, if_pos h2]
  exact ⟨e, by unfold spL; rw [if_neg (by omega)]⟩
theorem putR_same {M : Ones} {x k : Int} (h : ¬ putE M x k = 0) : putR M x k = M := if_neg h
theorem fset_self {α : Type} (f : Nat → α) (i : Nat) : fset f i (f i) = f := by
  funext j; unfold fset; split
  · rename_i h; rw [h]
  · rfl
theorem sp_put {L : Nat → Ones} {x k : Int} {d : Nat} (h : rightM x = true ∧ (0 ≤ (d : Int) ∧ (d : Int) < 4) ∧ 0 ≤ k ∧ k < 8) (h2 : fdB L x = false) : spE L x d k = putE (L d) x k ∧ spL L x d k = fset L d (putR (L d) x k) := by
  have e : spE L x d k = putE (L d) x k := by unfold spE; rw [if_pos h, h2, Int.toNat_natCast]; rfl
  refine ⟨e, ?_⟩
  unfold spL
  rw [e, Int.toNat_natCast]
  by_cases h3 : putE (L d) x k = 0
  · rw [if_pos h3]
  · rw [if_neg h3, putR_same h3, fset_self]
theorem spW {L : Nat → Ones} (h : RdysW L) (x d k : Int) : RdysW (spL L x d k) := by
  unfold spL; split
  · rename_i h1
    by_cases h2 : 0 ≤ d ∧ d < 4
    · exact h.set ((h _ (by omega)).put x k)
    · exfalso; unfold spE at h1; rw [if_neg (fun e => h2 e.2.1)] at h1; omega
  · exact h
theorem spLen {L : Nat → Ones} {n : Nat} (h : RdysL L n) (x d k : Int) : RdysL (spL L x d k) (n + 1) := by
  unfold spL; split
  · rename_i h1
    by_cases h2 : 0 ≤ d ∧ d < 4
    · exact h.set (Nat.le_trans (putR_len _ _ _) (Nat.succ_le_succ (h _ (by omega))))
    · exfalso; unfold spE at h1; rw [if_neg (fun e => h2 e.2.1)] at h1; omega
  · exact h.mono (Nat.le_succ _)
theorem sdW {L : Nat → Ones} (h : RdysW L) (x : Int) : RdysW (sdL L x) := by
  unfold sdL
  split
  · rename_i d k e; exact h.set ((h _ (find_some e).1).drop x)
  · exact h
theorem sdLen {L : Nat → Ones} {n : Nat} (h : RdysL L n) (x : Int) : RdysL (sdL L x) (n + 1) := by
  unfold sdL
  split
  · rename_i d k e; exact h.set (Nat.le_succ_of_le (Nat.le_trans (dropR_len _ _) (h _ (find_some e).1)))
  · exact h.mono (Nat.le_succ _)
theorem syW {L : Nat → Ones} (h : RdysW L) (x : Int) : RdysW (syL L x) := by
  unfold syL
  split
  · rename_i d k e; exact h.set (((h _ (find_some e).1).drop x).put x k)
  · exact h
theorem syLen {L : Nat → Ones} {n : Nat} (h : RdysL L n) (x : Int) : RdysL (syL L x) (n + 1) := by
  unfold syL
  split
  · rename_i d k e; exact h.set (Nat.le_trans (putR_len _ _ _) (Nat.succ_le_succ (Nat.le_trans (dropR_len _ _) (h _ (find_some e).1))))
  · exact h.mono (Nat.le_succ _)

/-! The schedule -/
def tmOk (t : Int × Int) : Prop := (0 ≤ t.1 ∧ t.1 < 4) ∧ 1 ≤ t.2 ∧ t.2 ≤ 1000
instance (t : Int × Int) : Decidable (tmOk t) := inferInstanceAs (Decidable (((0 ≤ t.1 ∧ t.1 < 4) ∧ 1 ≤ t.2 ∧ t.2 ≤ 1000)))
def tmsOk (T : Ones) : Prop := (1 ≤ T.length ∧ T.length ≤ 16) ∧ ∀ t, t ∈ T → tmOk t
instance (T : Ones) : Decidable (tmsOk T) := inferInstanceAs (Decidable ((1 ≤ T.length ∧ T.length ≤ 16) ∧ ∀ t, t ∈ T → tmOk t))
def newE (T : Ones) : Int := if tmsOk T then 0 else 1
/-- At which entry, and how many ticks are left. -/
structure At (T : Ones) (e : Nat) (l : Int) : Prop where
  ok : tmsOk T
  lt : e < T.length
  pos : 1 ≤ l
  le : l ≤ (T[e]?.getD (0, 0)).2
def tkd (T : Ones) (e : Nat) : Int × Int := T[e]?.getD (0, 0)
theorem tkd_get {T : Ones} {e : Nat} (h : e < T.length) : T[e]? = some (tkd T e) := by unfold tkd; rw [List.getElem?_eq_getElem h]; rfl
theorem At.dom {T : Ones} {e : Nat} {l : Int} (h : At T e l) : tmOk (tkd T e) := h.ok.2 _ (List.mem_of_getElem? (tkd_get h.lt))
theorem At.start {T : Ones} (h : tmsOk T) : At T 0 (tkd T 0).2 := ⟨h, by have := h.1; omega, (h.2 _ (List.mem_of_getElem? (tkd_get (by have := h.1; omega)))).2.1, Int.le_refl _⟩
def nxE (T : Ones) (e : Nat) (l : Int) : Nat := if l - 1 > 0 then e else (e + 1) % T.length
def nxL (T : Ones) (e : Nat) (l : Int) : Int := if l - 1 > 0 then l - 1 else (tkd T ((e + 1) % T.length)).2
def nxB (l : Int) : Bool := decide (¬ l - 1 > 0)
theorem At.next {T : Ones} {e : Nat} {l : Int} (h : At T e l) : At T (nxE T e l) (nxL T e l) := by
  unfold nxE nxL
  split
  · exact ⟨h.ok, h.lt, by omega, by have := h.le; omega⟩
  · have hm : (e + 1) % T.length < T.length := Nat.mod_lt _ (by have := h.lt; omega)
    exact ⟨h.ok, hm, (h.ok.2 _ (List.mem_of_getElem? (tkd_get hm))).2.1, Int.le_refl _⟩
/-- All ticks ahead of an entry. -/
def sumT (T : Ones) : Nat → Int
  | 0 => 0
  | n + 1 => sumT T n + (tkd T n).2
def posT (T : Ones) (e : Nat) (l : Int) : Int := sumT T e + ((tkd T e).2 - l)
theorem sumT_mono {T : Ones} (h : tmsOk T) : ∀ {n m : Nat}, n ≤ m → m ≤ T.length → sumT T n ≤ sumT T m
  | n, 0, h1, _ => by obtain rfl : n = 0 := by omega
                      exact Int.le_refl _
  | n, m + 1, h1, h2 => by
    by_cases e : n = m + 1
    · rw [e]; exact Int.le_refl _
    · have := sumT_mono h (n := n) (m := m) (by omega) (by omega)
      have := (h.2 _ (List.mem_of_getElem? (tkd_get (show m < T.length by omega)))).2.1
      simp only [sumT]; omega
theorem sumT_nonneg {T : Ones} (h : tmsOk T) {n : Nat} (hn : n ≤ T.length) : 0 ≤ sumT T n := sumT_mono h (Nat.zero_le n) hn
theorem sumT_le {T : Ones} (h : tmsOk T) : ∀ {n : Nat}, n ≤ T.length → sumT T n ≤ 1000 * n
  | 0, _ => by simp [sumT]
  | n + 1, hn => by
    have := sumT_le h (n := n) (by omega)
    have := (h.2 _ (List.mem_of_getElem? (tkd_get (show n < T.length by omega)))).2.2
    simp only [sumT]; push_cast; omega
theorem At.pos_ge {T : Ones} {e : Nat} {l : Int} (h : At T e l) : sumT T e ≤ posT T e l ∧ posT T e l < sumT T (e + 1) ∧ 0 ≤ posT T e l ∧ posT T e l < sumT T T.length := by
  have h1 := h.pos
  have h2 : l ≤ (tkd T e).2 := h.le
  have h3 := sumT_nonneg h.ok (n := e) (Nat.le_of_lt h.lt)
  have h4 := sumT_mono h.ok (n := e + 1) (m := T.length) h.lt (Nat.le_refl _)
  have h5 : sumT T (e + 1) = sumT T e + (tkd T e).2 := rfl
  unfold posT
  refine ⟨by omega, by omega, by omega, by omega⟩
theorem At.pos_next {T : Ones} {e : Nat} {l : Int} (h : At T e l) : posT T (nxE T e l) (nxL T e l) = (posT T e l + 1).tmod (sumT T T.length) := by
  have h0 := h.pos
  have hb : l ≤ (tkd T e).2 := h.le
  have hp := h.pos_ge
  have h5 : sumT T (e + 1) = sumT T e + (tkd T e).2 := rfl
  have hlt := h.lt
  rw [Int.tmod_eq_emod_of_nonneg (by omega)]
  unfold nxE nxL
  by_cases hl : l - 1 > 0
  · rw [if_pos hl, if_pos hl]
    have h4 := sumT_mono h.ok (n := e + 1) (m := T.length) h.lt (Nat.le_refl _)
    rw [Int.emod_eq_of_lt (by omega) (by unfold posT; omega)]
    unfold posT; omega
  · rw [if_neg hl, if_neg hl]
    have hl1 : l = 1 := by omega
    have he : posT T e l + 1 = sumT T (e + 1) := by unfold posT; omega
    rw [he]
    by_cases hw : e + 1 = T.length
    · rw [hw, Nat.mod_self, Int.emod_self]; unfold posT; simp [sumT]
    · rw [Nat.mod_eq_of_lt (by omega)]
      have h6 : sumT T (e + 1) < sumT T T.length := by
        have h7 := sumT_mono h.ok (n := e + 1 + 1) (m := T.length) (by omega) (Nat.le_refl _)
        have h8 := (h.ok.2 _ (List.mem_of_getElem? (tkd_get (show e + 1 < T.length by omega)))).2.1
        have h9 : sumT T (e + 1 + 1) = sumT T (e + 1) + (tkd T (e + 1)).2 := rfl
        omega
      rw [Int.emod_eq_of_lt (sumT_nonneg h.ok (by omega)) h6]
      unfold posT; omega

end Go.Proofs.Ytpjodkcghiklcab
