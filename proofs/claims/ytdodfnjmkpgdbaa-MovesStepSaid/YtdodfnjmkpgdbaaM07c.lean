/- Layer 7 in plain Lean, second part: what a store holds after a capability was laid into a slot, or a node added. No condition. -/
import Derived.Test.YtdodfnjmkpgdbaaW07
set_option linter.unusedVariables false
set_option linter.unusedSimpArgs false
namespace Go.Proofs.Ytdodfnjmkpgdbaa
open Go.SL

theorem nget_nset {id : Int} {n n' : NodeM} : ∀ {l : List (Int × NodeM × Nat)}, nget id l = some n → ∀ o, nget o (nset id n' l) = if o = id then some n' else nget o l
  | [], h, o => by cases h
  | e :: l, h, o => by
    simp only [nget] at h
    by_cases he : id = e.1
    · rw [if_pos he] at h
      subst he
      simp only [nset, nget, if_true]
      split <;> rfl
    · rw [if_neg he] at h
      have ih := nget_nset (n' := n') h o
      by_cases ho : o = e.1
      · have : o ≠ id := fun h' => he (h' ▸ ho)
        simp [nset, nget, he, ho, Ne.symm he]
      · simp [nset, nget, he, ho, ih]
section
variable {S : StoreM} {s : SlotM} {x : CapM} (h : S.cap? s = some x) (c : CapM)
include h
theorem setCap_nget (o : Int) : ∃ n, nget s.1 S.nodes = some n ∧ n.has s.2 ∧ n.caps[s.2.toNat]? = some x ∧ nget o (S.setCap s c).nodes = if o = s.1 then some (n.set s.2.toNat c) else nget o S.nodes := by
  obtain ⟨n, hn, hh, hc, _⟩ := S.cap_some h
  refine ⟨n, hn, hh, hc, ?_⟩
  rw [← S.setCap_eq hn]
  exact nget_nset hn o
theorem setCap_cap (t : SlotM) : (S.setCap s c).cap? t = if t = s then some c else S.cap? t := by
  obtain ⟨n, hn, hh, hc, e⟩ := setCap_nget h c t.1
  have hlt : s.2.toNat < n.caps.length := by
    rcases Nat.lt_or_ge s.2.toNat n.caps.length with h' | h'
    · exact h'
    · rw [List.getElem?_eq_none h'] at hc; cases hc
  unfold StoreM.cap?
  rw [e]
  by_cases h1 : t.1 = s.1
  · rw [if_pos h1, h1, hn]
    dsimp only
    have e0 : ∀ i, (n.set s.2.toNat c).has i ↔ n.has i := fun i => Iff.rfl
    by_cases h2 : t.2 = s.2
    · have hh' : (n.set s.2.toNat c).has s.2 := hh
      rw [if_pos (Prod.ext h1 h2), h2, if_pos hh']
      simp [NodeM.set, hlt]
    · rw [if_neg (fun e => h2 (congrArg Prod.snd e))]
      by_cases h3 : n.has t.2
      · have h4 : (n.set s.2.toNat c).has t.2 := h3
        rw [if_pos h3, if_pos h4]
        have : s.2.toNat ≠ t.2.toNat := by have a := hh.1; have b := h3.1; omega
        simp [NodeM.set, List.getElem?_set_ne this]
      · have h4 : ¬ (n.set s.2.toNat c).has t.2 := h3
        rw [if_neg h3, if_neg h4]
  · rw [if_neg h1, if_neg (fun e => h1 (congrArg Prod.fst e))]
theorem setCap_radix (o : Int) : (S.setCap s c).radix o = S.radix o := by
  obtain ⟨n, hn, hh, hc, e⟩ := setCap_nget h c o
  unfold StoreM.radix
  rw [e]
  by_cases h1 : o = s.1
  · rw [if_pos h1, h1, hn]; rfl
  · rw [if_neg h1]
theorem setCap_wf (hw : S.Wf) : (S.setCap s c).Wf := by
  intro o m hm
  obtain ⟨n, hn, hh, hc, e⟩ := setCap_nget h c o
  rw [e] at hm
  by_cases h1 : o = s.1
  · rw [if_pos h1] at hm; cases hm
    have := hw _ _ hn
    exact ⟨⟨by simpa [NodeM.set] using this.1.len, this.1.lo, this.1.hi⟩, by rw [h1]; exact this.2⟩
  · rw [if_neg h1] at hm; exact hw _ _ hm
end
theorem put_ok {S : StoreM} {s : SlotM} {c x : CapM} (h : S.cap? s = some x) (hx : x.kind = 0) (hc : checkM c = 0) (hk : c.kind ≠ 0) : S.put s c = (0, S.setCap s c) := by
  unfold StoreM.put; rw [h]; dsimp only; rw [if_neg (by omega), if_neg hk, if_neg (by omega)]
theorem tr_put_ok (sb : Nat) (S : StoreM) (s : SlotM) (c x : CapM) (hw : S.Wf) (h : S.cap? s = some x) (hx : x.kind = 0) (hc : checkM c = 0) (hk : c.kind ≠ 0) :
    Tr Try.prog 45 [.pointer (some ⟨sb, 0, none⟩), slotV s, c.v] (storeHp sb S) (fun v L' => v = .int .i64 0 ∧ L' = storeHp sb (S.setCap s c)) :=
  (tr_put sb S s c hw).mono fun v L' ⟨hv, hl⟩ => by rw [put_ok h hx hc hk] at hv hl; exact ⟨hv, hl⟩

section
variable {S : StoreM} {id : Int} (h : nget id S.nodes = none) (b r : Nat)
include h
theorem addNode_nget (o : Int) : nget o (S.addNode id b r).nodes = if o = id then some ⟨b, r, zeroCaps⟩ else nget o S.nodes := by
  unfold StoreM.addNode
  dsimp only
  by_cases ho : o = id
  · subst ho; rw [if_pos rfl, nget_app_none h]; simp [nget]
  · rw [if_neg ho]
    cases hn : nget o S.nodes with
    | none => rw [nget_app_none hn]; simp [nget, ho]
    | some n => exact nget_app_some hn
theorem addNode_cap (t : SlotM) : (S.addNode id b r).cap? t = if t.1 = id then (if 0 ≤ t.2 ∧ t.2 < (2 ^ r : Nat) ∧ t.2 < 16 then some CapM.zero else none) else S.cap? t := by
  unfold StoreM.cap?
  rw [addNode_nget h]
  by_cases ht : t.1 = id
  · rw [if_pos ht, if_pos ht]
    dsimp only
    by_cases h1 : 0 ≤ t.2 ∧ t.2 < (2 ^ r : Nat)
    · have h1' : NodeM.has ⟨b, r, zeroCaps⟩ t.2 := h1
      rw [if_pos h1']
      by_cases h2 : t.2 < 16
      · rw [if_pos ⟨h1.1, h1.2, h2⟩]
        unfold zeroCaps
        rw [List.getElem?_replicate, if_pos (by omega)]
      · rw [if_neg (by omega)]
        unfold zeroCaps
        rw [List.getElem?_replicate, if_neg (by omega)]
    · have h1' : ¬ NodeM.has ⟨b, r, zeroCaps⟩ t.2 := h1
      rw [if_neg h1', if_neg (by omega)]
  · rw [if_neg ht, if_neg ht]
theorem addNode_radix (o : Int) : (S.addNode id b r).radix o = if o = id then (r : Int) else S.radix o := by
  unfold StoreM.radix
  rw [addNode_nget h]
  by_cases ho : o = id
  · rw [if_pos ho, if_pos ho]
  · rw [if_neg ho, if_neg ho]
theorem addNode_wf (hw : S.Wf) (h0 : 0 ≤ id) (h1 : id < 64) (h2 : 1 ≤ r) (hr : r ≤ 4) : (S.addNode id b r).Wf := by
  intro o n hn
  rw [addNode_nget h] at hn
  split at hn
  · next h => cases hn; subst h; exact ⟨⟨by simp [zeroCaps], h2, hr⟩, h0, h1⟩
  · exact hw _ _ hn
theorem tr_add_ok (sb : Nat) (h0 : 0 ≤ id) (h1 : id < 64) (h2 : 1 ≤ r) (h3 : r ≤ 4) : Tr Try.prog 44 [.pointer (some ⟨sb, 0, none⟩), .int .i64 id, .int .i64 r] (storeHp sb S) (fun v L' => v = .int .i64 0 ∧ ∃ b, L' = storeHp sb (S.addNode id b r)) :=
  (tr_add sb S id r).mono fun v L' ⟨hv, hl⟩ => by
    have e : addErr S id r = 0 := by unfold addErr; rw [if_neg (by omega), h]; rfl
    rcases hl with ⟨hl, _⟩ | ⟨_, b, hl⟩
    · exact absurd e hl
    · exact ⟨by rw [hv, e], b, by simpa using hl⟩
end

theorem add_nodes0 {S : StoreM} (hS : S.nodes = []) {id : Int} {b r : Nat} : (S.addNode id b r).nodes = [(id, ⟨b, r, zeroCaps⟩, S.clk)] := by simp [StoreM.addNode, hS]
theorem wf_new {S : StoreM} (hS : S.nodes = []) : S.Wf := by intro o n h; rw [hS] at h; cases h
end Go.Proofs.Ytdodfnjmkpgdbaa
