/- Layer 21's laws in plain Lean: who is picked of one domain. No condition. -/
import Derived.Test.YtpjodkcghiklcabW21b
set_option linter.unusedVariables false
set_option linter.unusedSimpArgs false
namespace Go.Proofs.Ytpjodkcghiklcab
open Go.SL

/-- No id is in two domains; all ids are in range. -/
structure UniqL (L : Nat → Ones) : Prop where
  one : ∀ d d' x, d < 4 → d' < 4 → inR (L d) x = true → inR (L d') x = true → d = d'
  right : ∀ d, d < 4 → ∀ e, e ∈ L d → rightM e.1 = true
theorem UniqL.nil : UniqL (fun _ => []) := ⟨fun d d' x _ _ h => by simp [inR] at h, fun d _ e he => (List.not_mem_nil he).elim⟩
theorem inR_put {M : Ones} {x k y : Int} (h : inR (putR M x k) y = true) : inR M y = true ∨ (y = x ∧ putE M x k = 0) := by
  by_cases e0 : putE M x k = 0
  · rw [putR_ok e0] at h
    simp only [inR, List.map_append, List.mem_append, List.map_cons, List.map_nil, List.mem_singleton, decide_eq_true_eq] at h ⊢
    rcases h with h | h
    · exact .inl h
    · exact .inr ⟨h, e0⟩
  · rw [putR_same e0] at h; exact .inl h
theorem inR_dropR {M : Ones} {x y : Int} (h : inR (dropR M x) y = true) : inR M y = true ∧ y ≠ x := by
  unfold inR dropR at h
  rw [decide_eq_true_eq, List.mem_map] at h
  obtain ⟨e, he, rfl⟩ := h
  rw [List.mem_filter, decide_eq_true_eq] at he
  exact ⟨by unfold inR; rw [decide_eq_true_eq, List.mem_map]; exact ⟨e, he.1, rfl⟩, he.2⟩
theorem levOf_inR {M : Ones} {x : Int} : (levOf M x).isSome = inR M x := by
  by_cases h : inR M x = true
  · rw [h]
    unfold levOf
    simp only [inR, decide_eq_true_eq, List.mem_map] at h
    obtain ⟨e, he, rfl⟩ := h
    simp only [Option.isSome_map, List.find?_isSome]
    exact ⟨e, he, by simp⟩
  · have h' : inR M x = false := by simpa using h
    rw [h', levOf_none h']; rfl
theorem find_only {L : Nat → Ones} {x : Int} {dm : Nat} (hd : dm < 4) (h : ∀ d, d < 4 → d ≠ dm → levOf (L d) x = none) : findM L x = (levOf (L dm) x).map (fun k => (dm, k)) := by
  cases e : levOf (L dm) x with
  | none => exact find_miss (fun j hj => by by_cases ej : j = dm; (rw [ej]; exact e); exact h j hj ej)
  | some k => exact find_hit hd (fun j hj => h j (by omega) (by omega)) e
theorem UniqL.find {L : Nat → Ones} (hU : UniqL L) (hW : RdysW L) {d : Nat} (hd : d < 4) {x k : Int} (h : (x, k) ∈ L d) : findM L x = some (d, k) := by
  have hr : inR (L d) x = true := by unfold inR; exact decide_eq_true (List.mem_map.2 ⟨_, h, rfl⟩)
  rw [find_only hd (fun j hj hne => levOf_none (by
    cases e : inR (L j) x with
    | false => rfl
    | true => exact absurd (hU.one _ _ _ hj hd e hr) hne)), levOf_some (hW d hd).nd h]; rfl
theorem find_none_all {L : Nat → Ones} {x : Int} (h : fdB L x = false) : ∀ d, d < 4 → inR (L d) x = false := by
  intro d hd
  cases e : inR (L d) x with
  | false => rfl
  | true =>
    exfalso
    have h2 : ∀ j, j < 4 → levOf (L j) x = none := by
      intro j
      induction j using Nat.strongRecOn with
      | _ j ih =>
        intro hj
        cases e2 : levOf (L j) x with
        | none => rfl
        | some k =>
          have := find_hit hj (fun i hi => ih i hi (by omega)) e2
          unfold fdB at h; rw [this] at h; cases h
    have h3 := levOf_inR (M := L d) (x := x)
    rw [h2 d hd, e] at h3; cases h3
theorem sp_ok {L : Nat → Ones} {x d k : Int} (h : spE L x d k = 0) : (rightM x = true ∧ (0 ≤ d ∧ d < 4) ∧ 0 ≤ k ∧ k < 8) ∧ fdB L x = false ∧ spL L x d k = fset L d.toNat (L d.toNat ++ [(x, k)]) := by
  by_cases h1 : rightM x = true ∧ (0 ≤ d ∧ d < 4) ∧ 0 ≤ k ∧ k < 8
  · cases h2 : fdB L x with
    | true => rw [(sp_twice h1 h2).1] at h; omega
    | false =>
      refine ⟨h1, rfl, ?_⟩
      unfold spL; rw [if_pos h]
      have : putE (L d.toNat) x k = 0 := by
        unfold spE at h; rw [if_pos h1, h2] at h; exact h
      rw [putR_ok this]
  · rw [(sp_out h1).1] at h; omega
theorem UniqL.put {L : Nat → Ones} (hU : UniqL L) (x d k : Int) : UniqL (spL L x d k) := by
  by_cases h : spE L x d k = 0
  · obtain ⟨h1, h2, h3⟩ := sp_ok h
    have hno := find_none_all h2
    rw [h3]
    have hin : ∀ j y, j < 4 → inR (fset L d.toNat (L d.toNat ++ [(x, k)]) j) y = true → inR (L j) y = true ∨ (y = x ∧ j = d.toNat) := by
      intro j y hj hy
      by_cases e : j = d.toNat
      · subst e
        rw [fset_same] at hy
        unfold inR at hy ⊢
        rw [decide_eq_true_eq, List.map_append, List.mem_append] at hy
        rcases hy with hy | hy
        · exact .inl (decide_eq_true hy)
        · exact .inr ⟨by simpa using hy, rfl⟩
      · rw [fset_ne e] at hy; exact .inl hy
    refine ⟨fun a b y ha hb hya hyb => ?_, fun j hj e he => ?_⟩
    · rcases hin a y ha hya with h4 | ⟨rfl, h4⟩ <;> rcases hin b y hb hyb with h5 | ⟨h6, h5⟩
      · exact hU.one a b y ha hb h4 h5
      · subst h6; rw [hno a ha] at h4; cases h4
      · rw [hno b hb] at h5; cases h5
      · omega
    · by_cases ej : j = d.toNat
      · subst ej
        rw [fset_same] at he
        rcases List.mem_append.1 he with he | he
        · exact hU.right _ hj e he
        · rw [List.mem_singleton.1 he]; exact h1.1
      · rw [fset_ne ej] at he; exact hU.right _ hj e he
  · unfold spL; rw [if_neg h]; exact hU
theorem sp_other {L : Nat → Ones} {x d k : Int} {dm : Nat} (h : spE L x d k ≠ 0 ∨ d ≠ dm) (hd : dm < 4) : spL L x d k dm = L dm := by
  unfold spL
  by_cases h1 : spE L x d k = 0
  · rw [if_pos h1]
    have h2 := (sp_ok h1).1.2.1
    rcases h with h | h
    · exact absurd h1 h
    · rw [fset_ne (by omega)]
  · rw [if_neg h1]
theorem sp_here {L : Nat → Ones} {x k : Int} {dm : Nat} (h : spE L x (dm : Int) k = 0) : spL L x (dm : Int) k dm = L dm ++ [(x, k)] ∧ 0 ≤ k ∧ k < 8 := by
  obtain ⟨h1, _, h3⟩ := sp_ok h
  rw [h3, Int.toNat_natCast, fset_same]; exact ⟨rfl, h1.2.2⟩
/-- Nobody stands above 'top'. -/
def TopL (M : Ones) (top : Int) : Prop := (∀ e, e ∈ M → e.2 ≤ top) ∧ (M ≠ [] → lvl M top ≠ []) ∧ -1 ≤ top ∧ (M = [] → top = -1)
theorem TopL.nil : TopL [] (-1) := ⟨fun e he => (List.not_mem_nil he).elim, fun h => absurd rfl h, Int.le_refl _, fun _ => rfl⟩
theorem TopL.above {M : Ones} {top x k : Int} (h : TopL M top) (hk : top < k) : TopL (M ++ [(x, k)]) k ∧ lvl (M ++ [(x, k)]) k = [x] := by
  have h0 : lvl M k = [] := by
    apply List.eq_nil_iff_forall_not_mem.2
    intro y hy
    have := h.1 _ (lvl_mem.1 hy)
    simp only at this; omega
  have h1 : lvl (M ++ [(x, k)]) k = [x] := by rw [lvl_put, if_pos rfl, h0]; rfl
  refine ⟨⟨fun e he => ?_, fun _ => by rw [h1]; simp, by have := h.2.2.1; omega, fun e => by simp at e⟩, h1⟩
  rcases List.mem_append.1 he with he | he
  · have := h.1 e he; omega
  · rw [List.mem_singleton.1 he]; exact Int.le_refl _
theorem TopL.at_ {M : Ones} {top x : Int} (h : TopL M top) : TopL (M ++ [(x, top)]) top ∧ lvl (M ++ [(x, top)]) top = lvl M top ++ [x] := by
  have h1 : lvl (M ++ [(x, top)]) top = lvl M top ++ [x] := by rw [lvl_put, if_pos rfl]
  refine ⟨⟨fun e he => ?_, fun _ => by rw [h1]; simp, h.2.2.1, fun e => by simp at e⟩, h1⟩
  rcases List.mem_append.1 he with he | he
  · exact h.1 e he
  · rw [List.mem_singleton.1 he]; exact Int.le_refl _
theorem TopL.below {M : Ones} {top x k : Int} (h : TopL M top) (hk : k < top) (hk0 : 0 ≤ k) : TopL (M ++ [(x, k)]) top ∧ lvl (M ++ [(x, k)]) top = lvl M top := by
  have h1 : lvl (M ++ [(x, k)]) top = lvl M top := by rw [lvl_put, if_neg (by omega)]
  refine ⟨⟨fun e he => ?_, fun _ => ?_, h.2.2.1, fun e => by simp at e⟩, h1⟩
  · rcases List.mem_append.1 he with he | he
    · exact h.1 e he
    · rw [List.mem_singleton.1 he]; exact Int.le_of_lt hk
  · rw [h1]; exact h.2.1 (fun e => by have := h.2.2.2 e; omega)
theorem pick_top {M : Ones} (hW : RdyW M) {top y : Int} {t : List Int} (h : ∀ e, e ∈ M → e.2 ≤ top) (hy : lvl M top = y :: t) : nextV M = y ∧ nextB M = true := by
  have hm : (y, top) ∈ M := lvl_mem.1 (by rw [hy]; simp)
  have hq := hW.lev _ hm
  simp only at hq
  obtain ⟨q, rfl⟩ : ∃ q : Nat, top = q := ⟨top.toNat, by omega⟩
  have hn : nextI M = q := by
    refine hiM_is (by omega) (by unfold has; rw [hy]; rfl) (fun j hj hj8 => ?_)
    unfold has
    cases e : lvl M j with
    | nil => rfl
    | cons a s =>
      have := h _ (lvl_mem.1 (show a ∈ lvl M j by rw [e]; simp))
      simp only at this; omega
  refine ⟨?_, ?_⟩
  · unfold nextV; rw [hn, if_neg (by omega), hy]; rfl
  · unfold nextB; rw [hn]; exact decide_eq_true (by omega)
theorem pick_none {M : Ones} (h : M = []) : nextB M = false := by subst h; rfl
/-- Yielded, the first of the highest level stands last of it. -/
theorem yield_top {L : Nat → Ones} (hU : UniqL L) (hW : RdysW L) {dm : Nat} (hd : dm < 4) {top y : Int} {t : List Int} (h : ∀ e, e ∈ L dm → e.2 ≤ top) (hy : lvl (L dm) top = y :: t) :
    fdB L y = true ∧ syL L y dm = dropR (L dm) y ++ [(y, top)] ∧ lvl (syL L y dm) top = t ++ [y] ∧ (∀ e, e ∈ syL L y dm → e.2 ≤ top) ∧ UniqL (syL L y) ∧ (syL L y dm).length ≤ (L dm).length + 1 := by
  have hm : (y, top) ∈ L dm := lvl_mem.1 (by rw [hy]; simp)
  have hf := hU.find hW hd hm
  have hq := (hW dm hd).lev _ hm
  simp only at hq
  have hr := hU.right dm hd _ hm
  have hin : inR (dropR (L dm) y) y = false := by
    cases e : inR (dropR (L dm) y) y with
    | false => rfl
    | true => exact absurd rfl (inR_dropR e).2
  obtain ⟨p1, p2⟩ := put_new (L := dropR (L dm) y) hr hq.1 hq.2 hin
  have hs : syL L y = fset L dm (dropR (L dm) y ++ [(y, top)]) := by unfold syL; rw [hf]; dsimp only; rw [p2]
  have hs1 : syL L y dm = dropR (L dm) y ++ [(y, top)] := by rw [hs, fset_same]
  have hnd := lvl_nd (hW dm hd) top
  rw [hy, List.nodup_cons] at hnd
  have ht : (y :: t).filter (fun z => decide (z ≠ y)) = t := by
    rw [List.filter_cons_of_neg (by simp), List.filter_eq_self]
    intro z hz; simp; rintro rfl; exact hnd.1 hz
  refine ⟨by unfold fdB; rw [hf]; rfl, hs1, ?_, ?_, ?_, ?_⟩
  · rw [hs1, lvl_put, if_pos rfl, lvl_drop, hy, ht]
  · rw [hs1]; intro e he
    rcases List.mem_append.1 he with he | he
    · exact h e (List.mem_filter.1 he).1
    · rw [List.mem_singleton.1 he]; exact Int.le_refl _
  · rw [hs]
    have hsub : ∀ j z, j < 4 → inR (fset L dm (dropR (L dm) y ++ [(y, top)]) j) z = true → inR (L j) z = true := by
      intro j z hj hz
      by_cases e : j = dm
      · subst e
        rw [fset_same] at hz
        unfold inR at hz ⊢
        rw [decide_eq_true_eq, List.map_append, List.mem_append] at hz
        rcases hz with hz | hz
        · have hz' : inR (dropR (L j) y) z = true := decide_eq_true hz
          exact (inR_dropR hz').1
        · have : z = y := by simpa using hz
          subst this; exact decide_eq_true (List.mem_map.2 ⟨_, hm, rfl⟩)
      · rw [fset_ne e] at hz; exact hz
    refine ⟨fun a b z ha hb hza hzb => hU.one a b z ha hb (hsub a z ha hza) (hsub b z hb hzb), fun j hj e he => ?_⟩
    by_cases ej : j = dm
    · subst ej
      rw [fset_same] at he
      rcases List.mem_append.1 he with he | he
      · exact hU.right _ hj e (List.mem_filter.1 he).1
      · rw [List.mem_singleton.1 he]; exact hr
    · rw [fset_ne ej] at he; exact hU.right _ hj e he
  · rw [hs1, List.length_append]; have := dropR_len (L dm) y; simp; omega
theorem rot_step {J : List Int} {j : Nat} {y : Int} (h : J[j]? = some y) : J.drop j ++ J.take j = y :: (J.drop (j + 1) ++ J.take j) ∧ (J.drop (j + 1) ++ J.take j) ++ [y] = J.drop (j + 1) ++ J.take (j + 1) := by
  have hlt := (List.getElem?_eq_some_iff.1 h).1
  have e : J.drop j = y :: J.drop (j + 1) := by rw [List.drop_eq_getElem_cons hlt, (List.getElem?_eq_some_iff.1 h).2]
  refine ⟨by rw [e]; rfl, ?_⟩
  rw [List.append_assoc]; congr 1
  rw [List.take_add_one, h]; rfl
theorem pick_fin {M : Ones} (hW : RdyW M) {top : Int} {J : List Int} (h : ∀ e, e ∈ M → e.2 ≤ top) (hl : lvl M top = J) (hne : J ≠ [] ↔ M ≠ []) : nextB M = decide ((0 : Int) < (J.length : Nat)) := by
  cases J with
  | nil =>
    have : M = [] := Decidable.byContradiction fun h9 => (hne.2 h9) rfl
    rw [pick_none this]; rfl
  | cons y t => rw [(pick_top hW h hl).2]; simp
theorem one_ok (dm : Nat) (hd : dm < 4) (t : Int) (ht : 1 ≤ t ∧ t ≤ 1000) : tmsOk [((dm : Int), t)] := by
  refine ⟨⟨by simp, by simp⟩, fun x hx => ?_⟩
  rw [List.mem_singleton.1 hx]
  exact ⟨⟨by simp, by simp; omega⟩, ht⟩

/-! Others -/
structure OthL (A B : Nat → Ones) (dm : Nat) : Prop where
  same : A dm = B dm
  low : ∀ e, e ∈ A dm → e.1 < 32
  high : ∀ d, d < 4 → d ≠ dm → ∀ e, e ∈ A d → 32 ≤ e.1
  none : ∀ d, d < 4 → d ≠ dm → B d = []
theorem OthL.nil {dm : Nat} : OthL (fun _ => []) (fun _ => []) dm := ⟨rfl, fun e he => (List.not_mem_nil he).elim, fun d _ _ e he => (List.not_mem_nil he).elim, fun _ _ _ => rfl⟩
theorem levOf_not {M : Ones} {x : Int} (h : ∀ e, e ∈ M → e.1 ≠ x) : levOf M x = none := levOf_none (by
  unfold inR; rw [decide_eq_false_iff_not, List.mem_map]; rintro ⟨e, he, rfl⟩; exact h e he rfl)
theorem OthL.find {A B : Nat → Ones} {dm : Nat} (h : OthL A B dm) (hd : dm < 4) {x : Int} (hx : x < 32) : findM A x = (levOf (B dm) x).map (fun k => (dm, k)) ∧ findM B x = (levOf (B dm) x).map (fun k => (dm, k)) := by
  refine ⟨?_, find_only hd (fun d h1 h2 => by rw [h.none d h1 h2]; rfl)⟩
  rw [← h.same]
  exact find_only hd (fun d h1 h2 => levOf_not (fun e he => by have := h.high d h1 h2 e he; omega))
theorem OthL.fd {A B : Nat → Ones} {dm : Nat} (h : OthL A B dm) (hd : dm < 4) {x : Int} (hx : x < 32) : findM A x = findM B x := by
  obtain ⟨h1, h2⟩ := h.find hd hx; rw [h1, h2]
theorem mem_putR {M : Ones} {x k : Int} {e : Int × Int} (h : e ∈ putR M x k) : e ∈ M ∨ e = (x, k) := by
  unfold putR at h
  split at h
  · rcases List.mem_append.1 h with h | h
    · exact .inl h
    · exact .inr (List.mem_singleton.1 h)
  · exact .inl h
/-- The other domain's thread comes. -/
theorem OthL.other {A B : Nat → Ones} {dm : Nat} (h : OthL A B dm) {x k : Int} {d : Nat} (hx : 32 ≤ x) (hne : d ≠ dm) : OthL (spL A x d k) B dm := by
  unfold spL
  split
  · rename_i h1
    rw [(show (d : Int).toNat = d from Int.toNat_natCast d)]
    refine ⟨by rw [fset_ne (Ne.symm hne)]; exact h.same, by rw [fset_ne (Ne.symm hne)]; exact h.low, fun j hj hj2 e he => ?_, h.none⟩
    by_cases ej : j = d
    · subst ej
      rw [fset_same] at he
      rcases mem_putR he with he | rfl
      · exact h.high j hj hj2 e he
      · exact hx
    · rw [fset_ne ej] at he; exact h.high j hj hj2 e he
  · exact h
theorem OthL.put {A B : Nat → Ones} {dm : Nat} (h : OthL A B dm) (hd : dm < 4) {x k : Int} (hx : x < 32) : spE A x dm k = spE B x dm k ∧ OthL (spL A x dm k) (spL B x dm k) dm := by
  have hf : fdB A x = fdB B x := by unfold fdB; rw [h.fd hd hx]
  have he : spE A x dm k = spE B x dm k := by unfold spE; rw [hf, Int.toNat_natCast, h.same]
  refine ⟨he, ?_⟩
  unfold spL
  rw [he, Int.toNat_natCast]
  split
  · refine ⟨by rw [fset_same, fset_same, h.same], fun e hm => ?_, fun j hj hj2 e hm => ?_, fun j hj hj2 => ?_⟩
    · rw [fset_same] at hm
      rcases mem_putR hm with hm | rfl
      · exact h.low e hm
      · exact hx
    · rw [fset_ne hj2] at hm; exact h.high j hj hj2 e hm
    · rw [fset_ne hj2]; exact h.none j hj hj2
  · exact h
theorem OthL.drop {A B : Nat → Ones} {dm : Nat} (h : OthL A B dm) (hd : dm < 4) {x : Int} (hx : x < 32) : sdB A x = sdB B x ∧ OthL (sdL A x) (sdL B x) dm := by
  obtain ⟨h1, h2⟩ := h.find hd hx
  unfold sdB sdL
  rw [h1, h2]
  cases levOf (B dm) x with
  | none => exact ⟨rfl, h⟩
  | some k =>
    simp only [Option.map_some]
    refine ⟨by rw [h.same], by rw [fset_same, fset_same, h.same], fun e hm => ?_, fun j hj hj2 e hm => ?_, fun j hj hj2 => ?_⟩
    · rw [fset_same] at hm; exact h.low e (List.mem_filter.1 hm).1
    · rw [fset_ne hj2] at hm; exact h.high j hj hj2 e hm
    · rw [fset_ne hj2]; exact h.none j hj hj2
theorem OthL.yield {A B : Nat → Ones} {dm : Nat} (h : OthL A B dm) (hd : dm < 4) {x : Int} (hx : x < 32) : fdB A x = fdB B x ∧ OthL (syL A x) (syL B x) dm := by
  refine ⟨by unfold fdB; rw [h.fd hd hx], ?_⟩
  obtain ⟨h1, h2⟩ := h.find hd hx
  unfold syL
  rw [h1, h2]
  cases levOf (B dm) x with
  | none => exact h
  | some k =>
    simp only [Option.map_some]
    refine ⟨by rw [fset_same, fset_same, h.same], fun e hm => ?_, fun j hj hj2 e hm => ?_, fun j hj hj2 => ?_⟩
    · rw [fset_same] at hm
      rcases mem_putR hm with hm | rfl
      · exact h.low e (List.mem_filter.1 hm).1
      · exact hx
    · rw [fset_ne hj2] at hm; exact h.high j hj hj2 e hm
    · rw [fset_ne hj2]; exact h.none j hj hj2
/-- The other domain's thread leaves. -/
theorem OthL.away {A B : Nat → Ones} {dm : Nat} (h : OthL A B dm) {x : Int} (hx : 32 ≤ x) : OthL (sdL A x) B dm := by
  unfold sdL
  cases e : findM A x with
  | none => exact h
  | some p =>
    obtain ⟨d, k⟩ := p
    dsimp only
    obtain ⟨hd4, hlev⟩ := find_some e
    have hne : d ≠ dm := by
      rintro rfl
      have := levOf_inR (M := A d) (x := x)
      rw [hlev] at this
      have h2 : inR (A d) x = true := this.symm
      unfold inR at h2
      rw [decide_eq_true_eq, List.mem_map] at h2
      obtain ⟨e', he', rfl⟩ := h2
      have := h.low _ he'; omega
    refine ⟨by rw [fset_ne (Ne.symm hne)]; exact h.same, by rw [fset_ne (Ne.symm hne)]; exact h.low, fun j hj hj2 e' he => ?_, h.none⟩
    by_cases ej : j = d
    · subst ej
      rw [fset_same] at he; exact h.high j hj hj2 e' (List.mem_filter.1 he).1
    · rw [fset_ne ej] at he; exact h.high j hj hj2 e' he

end Go.Proofs.Ytpjodkcghiklcab
