/- Layer 7 in plain Lean, sixth part: the map that is kept beside a store tells what lies there. No condition. -/
import Derived.Test.YtdodfnjmkpgdbaaM07f
set_option linter.unusedVariables false
set_option linter.unusedSimpArgs false
set_option linter.unusedSectionVars false
namespace Go.Proofs.Ytdodfnjmkpgdbaa
open Go.SL

structure InMap (S : StoreM) (M : List (SlotM × Value × Nat)) : Prop where
  nd : (M.map Prod.fst).Nodup
  zero : ∀ s, (S.get s).1.kind = 0 → (S.get s).1 = CapM.zero
  get : ∀ s, mget s M = if (S.get s).1.kind ≠ 0 then some (S.get s).1.v else none
theorem InMap.val {S : StoreM} {M : List (SlotM × Value × Nat)} (h : InMap S M) (s : SlotM) : (mget s M).getD CapM.zero.v = (S.get s).1.v := by
  rw [h.get]
  by_cases hk : (S.get s).1.kind ≠ 0
  · rw [if_pos hk]; rfl
  · rw [if_neg hk, h.zero s (by omega)]; rfl
theorem InMap.ok {S : StoreM} {M : List (SlotM × Value × Nat)} (h : InMap S M) (s : SlotM) : (mget s M).isSome = decide ((S.get s).1.kind ≠ 0) := by
  rw [h.get]
  by_cases hk : (S.get s).1.kind ≠ 0
  · rw [if_pos hk, decide_eq_true hk]; rfl
  · rw [if_neg hk, decide_eq_false hk]; rfl
theorem get_set {S : StoreM} {s : SlotM} {x : CapM} (h : S.cap? s = some x) (c : CapM) (t : SlotM) : (S.setCap s c).get t = if t = s then (c, 0) else S.get t := by
  unfold StoreM.get
  rw [setCap_cap h]
  by_cases ht : t = s
  · rw [if_pos ht, if_pos ht]
  · rw [if_neg ht, if_neg ht]
theorem get_cap {S : StoreM} {s : SlotM} {x : CapM} (h : S.cap? s = some x) : S.get s = (x, 0) := by unfold StoreM.get; rw [h]
theorem Four.set {S : StoreM} (h : Four S) {s : SlotM} {x : CapM} (hx : S.cap? s = some x) {c : CapM} (hc : c.kind ≠ 0 → checkM c = 0) : Four (S.setCap s c) := by
  refine ⟨setCap_wf hx _ h.wf, ?_, fun id => by rw [setCap_radix hx]; exact h.rad id⟩
  intro o n i d hn hd hk
  obtain ⟨m, hm, hh, hmc, e⟩ := setCap_nget hx c o
  rw [e] at hn
  split at hn
  · cases hn
    by_cases hi : i = s.2.toNat
    · subst hi
      have hl := (List.getElem?_eq_some_iff.1 hmc).1
      simp only [NodeM.set, List.getElem?_set_self hl] at hd
      cases hd
      have := hh.1; have := hh.2
      exact ⟨by simp only [NodeM.set]; omega, hc hk⟩
    · have : s.2.toNat ≠ i := fun e => hi e.symm
      simp only [NodeM.set, List.getElem?_set_ne this] at hd
      exact h.tidy _ m i d hm hd hk
  · exact h.tidy o n i d hn hd hk

/-! ### Taking -/
section take
variable {S : StoreM} {M : List (SlotM × Value × Nat)} (h : InMap S M) (hf : Four S) (s : SlotM)
include h hf
theorem take_ok : decide ((S.take s).2.1 = 0) = decide ((S.get s).1.kind ≠ 0) := by
  unfold StoreM.take StoreM.get
  cases hx : S.cap? s with
  | none => rfl
  | some x =>
    dsimp only
    by_cases hk : x.kind = 0
    · simp [hk]
    · simp [hk]
theorem take_val (hk : (S.get s).1.kind ≠ 0) : (S.take s).1 = (S.get s).1 := by
  unfold StoreM.take
  cases hx : S.cap? s with
  | none => unfold StoreM.get at hk; rw [hx] at hk; exact absurd rfl hk
  | some x =>
    rw [get_cap hx] at hk ⊢
    dsimp only at hk ⊢
    rw [if_neg hk]
theorem take_in : InMap (S.take s).2.2 (mdel s M) ∧ Four (S.take s).2.2 := by
  have hdel : ∀ t, mget t (mdel s M) = if t = s then none else mget t M := mget_mdel s M h.nd
  have hnd : ((mdel s M).map Prod.fst).Nodup := ((mdel_keys s M).map Prod.fst).nodup h.nd
  have hsame : (S.get s).1.kind = 0 → InMap S (mdel s M) := fun hk => ⟨hnd, h.zero, fun t => by
    rw [hdel]
    by_cases ht : t = s
    · rw [if_pos ht, ht, if_neg (by omega)]
    · rw [if_neg ht]; exact h.get t⟩
  unfold StoreM.take
  cases hx : S.cap? s with
  | none => exact ⟨hsame (by unfold StoreM.get; rw [hx]), hf⟩
  | some x =>
    dsimp only
    by_cases hk : x.kind = 0
    · rw [if_pos hk]; exact ⟨hsame (by rw [get_cap hx]; exact hk), hf⟩
    · rw [if_neg hk]
      refine ⟨⟨hnd, fun t ht => ?_, fun t => ?_⟩, hf.set hx (fun h0 => absurd rfl h0)⟩
      · dsimp only at ht ⊢
        rw [get_set hx] at ht ⊢
        by_cases e : t = s
        · rw [if_pos e]
        · rw [if_neg e] at ht ⊢; exact h.zero t ht
      · dsimp only
        rw [hdel, get_set hx]
        by_cases e : t = s
        · rw [if_pos e, if_pos e]; rfl
        · rw [if_neg e, if_neg e]; exact h.get t
end take

/-! ### Putting -/
section put
variable {S : StoreM} {M : List (SlotM × Value × Nat)} (h : InMap S M) (hf : Four S) (s : SlotM) (c : CapM)
include h hf
theorem put_fails (he : (S.put s c).1 ≠ 0) : (S.put s c).2 = S := by
  unfold StoreM.put at he ⊢
  cases hx : S.cap? s with
  | none => rfl
  | some x =>
    rw [hx] at he
    dsimp only at he ⊢
    split
    · rfl
    · rename_i h1
      rw [if_neg h1] at he
      split
      · rfl
      · rename_i h2
        rw [if_neg h2] at he
        split
        · rfl
        · rename_i h3
          rw [if_neg h3] at he
          exact absurd rfl he
theorem put_in (he : (S.put s c).1 = 0) (t : Nat) : (S.get s).1.kind = 0 ∧ InMap (S.put s c).2 (mput s c.v t M) ∧ Four (S.put s c).2 := by
  unfold StoreM.put at he ⊢
  cases hx : S.cap? s with
  | none => rw [hx] at he; cases he
  | some x =>
    rw [hx] at he
    dsimp only at he ⊢
    by_cases h1 : checkM c ≠ 0
    · rw [if_pos h1] at he; exact absurd he h1
    · rw [if_neg h1] at he ⊢
      by_cases h2 : c.kind = 0
      · rw [if_pos h2] at he; cases he
      · rw [if_neg h2] at he ⊢
        by_cases h3 : x.kind ≠ 0
        · rw [if_pos h3] at he; cases he
        · rw [if_neg h3]
          refine ⟨by rw [get_cap hx]; dsimp only; omega, ⟨(mput_keys s c.v t M h.nd).1, fun u hu => ?_, fun u => ?_⟩, hf.set hx (fun _ => by omega)⟩
          · dsimp only at hu ⊢
            rw [get_set hx] at hu ⊢
            by_cases e : u = s
            · rw [if_pos e] at hu; exact absurd hu h2
            · rw [if_neg e] at hu ⊢; exact h.zero u hu
          · dsimp only
            rw [mget_mput, get_set hx]
            by_cases e : u = s
            · rw [if_pos e, if_pos e, if_pos h2]
            · rw [if_neg e, if_neg e]; exact h.get u
end put

/-! ### Looking over all -/
theorem mem_rowM {k j : Nat} {s : SlotM} (h : s ∈ rowM k j) : s.1 = (k : Int) ∧ 0 ≤ s.2 ∧ s.2 < j := by
  unfold rowM at h
  obtain ⟨i, hi, rfl⟩ := List.mem_map.1 h
  rw [List.mem_range] at hi
  exact ⟨rfl, by dsimp only; omega, by dsimp only; omega⟩
theorem all_get {S : StoreM} (h : Four S) {s : SlotM} (hs : s ∈ allM) : (S.get s).2 = 0 := by
  have h1 : ∀ k, k ≤ 4 → s ∈ allUpto k → ∃ j : Nat, j < k ∧ s.1 = (j : Int) ∧ 0 ≤ s.2 ∧ s.2 < ((2 ^ (j + 1) : Nat) : Int) := by
    intro k
    induction k with
    | zero => intro _ h; cases h
    | succ k ih =>
      intro hk hm
      rcases List.mem_append.1 hm with hm | hm
      · obtain ⟨j, hj, h⟩ := ih (by omega) hm; exact ⟨j, by omega, h⟩
      · obtain ⟨a, b, c⟩ := mem_rowM hm; exact ⟨k, by omega, a, b, c⟩
  obtain ⟨j, hj, e1, e2, e3⟩ := h1 4 (Nat.le_refl _) hs
  have hr := h.rad s.1
  rw [if_pos (by omega), e1, show ((j : Int) + 1) = ((j + 1 : Nat) : Int) by omega] at hr
  obtain ⟨n, hn, hnr⟩ := radix_some hr (by omega)
  have hw := (h.wf _ _ hn).1
  have hh : n.has s.2 := ⟨e2, by rw [hnr]; exact e3⟩
  have hlt := hw.lt hh
  unfold StoreM.get StoreM.cap?
  rw [e1, hn]
  dsimp only
  rw [if_pos hh, List.getElem?_eq_getElem (by rw [hw.len]; exact hlt)]

/-! ### Laying the four nodes -/
theorem add_zeroes {S : StoreM} {id : Int} (h : nget id S.nodes = none) {b r : Nat} (hz : ∀ s, (S.get s).1 = CapM.zero) (s : SlotM) : ((S.addNode id b r).get s).1 = CapM.zero := by
  have := hz s
  unfold StoreM.get at this ⊢
  rw [addNode_cap h]
  by_cases e : s.1 = id
  · rw [if_pos e]; split <;> rename_i h1
    · rfl
    · split at h1
      · cases h1; rfl
      · cases h1
  · rw [if_neg e]; exact this
theorem shl2 {k : Nat} (hk : k < 4) : IntKind.i64.wrap (2 * 2 ^ (min (k : Int).toNat 64)) = ((2 ^ (k + 1) : Nat) : Int) := by
  match k, hk with
  | 0, _ => rfl
  | 1, _ => rfl
  | 2, _ => rfl
  | 3, _ => rfl
theorem allUpto_len {k : Nat} (hk : k ≤ 4) : (allUpto k).length ≤ 30 := by
  match k, hk with
  | 0, _ => decide
  | 1, _ => decide
  | 2, _ => decide
  | 3, _ => decide
  | 4, _ => decide
theorem pow_le16 {k : Nat} (hk : k < 4) : 2 ^ (k + 1) ≤ 16 := by
  match k, hk with
  | 0, _ => decide
  | 1, _ => decide
  | 2, _ => decide
  | 3, _ => decide
theorem four_of {S : StoreM} (hw : S.Wf) (ht : S.Tidy) (h : ∀ id : Int, S.radix id = if 0 ≤ id ∧ id < ((4 : Nat) : Int) then id + 1 else 0) : Four S := ⟨hw, ht, h⟩
theorem inmap_nil {S : StoreM} (h : ∀ s, (S.get s).1 = CapM.zero) : InMap S [] := ⟨List.nodup_nil, fun s _ => h s, fun s => by rw [h s]; rfl⟩
/-- How many of the first of all slots are full. -/
def cntAll (S : StoreM) (j : Nat) : Nat := (allM.take j).countP (isFull S)
theorem cntAll_zero (S : StoreM) : cntAll S 0 = 0 := by simp [cntAll]
theorem cntAll_succ {S : StoreM} {j : Nat} {s : SlotM} (h : allM[j]? = some s) : cntAll S (j + 1) = cntAll S j + if isFull S s then 1 else 0 := by
  unfold cntAll
  rw [List.take_add_one, h, List.countP_append]
  simp [List.countP_cons]
theorem cntAll_all {S : StoreM} (h : Four S) : cntAll S allM.length = (fullM S).length := by
  unfold cntAll
  rw [List.take_length, full_filter h, List.countP_eq_length_filter]
theorem allM_len : allM.length = 30 := by decide

end Go.Proofs.Ytdodfnjmkpgdbaa
