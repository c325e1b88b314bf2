/- Layer 7 in plain Lean, eighth part: the program's store and the document's stay alike. No condition. -/
import Derived.Test.YtdodfnjmkpgdbaaM07s
set_option linter.unusedVariables false
set_option linter.unusedSimpArgs false
namespace Go.Proofs.Ytdodfnjmkpgdbaa
open Go.SL

def StoreM.Zero (S : StoreM) : Prop := ∀ (id : Int) (n : NodeM) (i : Nat) (c : CapM), nget id S.nodes = some n → n.caps[i]? = some c → c.kind = 0 → c = CapM.zero
def RelN (S : StoreM) (l : List DN) (id : Int) : Prop := (nget id S.nodes = none ∧ dfind l id = none) ∨ ∃ n d, nget id S.nodes = some n ∧ dfind l id = some d ∧ d.rad = n.radix ∧ d.caps = n.caps.take (2 ^ n.radix)
structure Rel (S : StoreM) (l : List DN) : Prop where
  wf : S.Wf
  tidy : S.Tidy
  uniq : S.Uniq
  zero : S.Zero
  srt : (dIds l).Pairwise (· < ·)
  lt : ∀ x, x ∈ dIds l → x < 64
  rel : ∀ id, RelN S l id
theorem rel_new {S : StoreM} (h : S.nodes = []) : Rel S [] :=
  ⟨wf_new h, tidy_new h, by unfold StoreM.Uniq; rw [h]; exact List.nodup_nil, (by intro id n i c hn; rw [h] at hn; cases hn), List.Pairwise.nil, by simp [dIds], fun id => .inl ⟨by rw [h]; rfl, rfl⟩⟩
theorem pow16 {r : Nat} (h : r ≤ 4) : 2 ^ r ≤ 16 := Nat.pow_le_pow_right (n := 2) (by omega) h
theorem dfind_self : ∀ {l : List DN}, (dIds l).Pairwise (· < ·) → ∀ {d : DN}, d ∈ l → dfind l d.id = some d
  | [], _, d, h => by cases h
  | a :: l, hs, d, h => by
    rw [dfind_cons]
    have hs' : (((a.id : Nat) : Int) :: dIds l).Pairwise (· < ·) := hs
    rw [List.pairwise_cons] at hs'
    rcases List.mem_cons.1 h with rfl | h
    · rw [if_pos rfl]
    · have := hs'.1 d.id (List.mem_map.2 ⟨d, h, rfl⟩)
      rw [if_neg (by omega)]
      exact dfind_self hs'.2 h
section
variable {S : StoreM} {l : List DN} (h : Rel S l)
include h
theorem rel_find {id : Int} {d : DN} (hd : dfind l id = some d) : ∃ n, nget id S.nodes = some n ∧ d.rad = n.radix ∧ d.caps = n.caps.take (2 ^ n.radix) ∧ d.caps.length = 2 ^ n.radix ∧ n.Wf := by
  rcases h.rel id with ⟨_, e⟩ | ⟨n, d', hn, e, hr, hc⟩
  · rw [e] at hd; cases hd
  · rw [e] at hd; cases hd
    have hw := (h.wf _ _ hn).1
    refine ⟨n, hn, hr, hc, ?_, hw⟩
    rw [hc, List.length_take, hw.len]
    have := pow16 hw.hi
    omega
theorem rel_cap (s : SlotM) : S.cap? s = dcap? l s := by
  unfold StoreM.cap? dcap?
  rcases h.rel s.1 with ⟨e1, e2⟩ | ⟨n, d, hn, e, hr, hc⟩
  · rw [e1, e2]
  · obtain ⟨n', hn', _, _, hl, hw⟩ := rel_find h e
    rw [hn] at hn'; cases hn'
    rw [hn, e]
    dsimp only
    by_cases hh : n.has s.2
    · have hh2 := hh
      unfold NodeM.has at hh2
      rw [if_pos hh, if_pos (by rw [hl]; exact hh2), hc, List.getElem?_take, if_pos (by omega)]
    · have hh2 := hh
      unfold NodeM.has at hh2
      rw [if_neg hh, if_neg (by rw [hl]; exact hh2)]
theorem rel_get (s : SlotM) : S.get s = dget l s := by unfold StoreM.get dget; rw [rel_cap h]; cases dcap? l s <;> rfl
theorem rel_radix (id : Int) : S.radix id = dradix l id := by
  unfold StoreM.radix dradix
  rcases h.rel id with ⟨e1, e2⟩ | ⟨n, d, hn, e, hr, hc⟩
  · rw [e1, e2]
  · rw [hn, e]; dsimp only; rw [hr]
theorem rel_small : dSmall l := fun d hd => by
  obtain ⟨n, hn, hr, hc, hl, hw⟩ := rel_find h (dfind_self h.srt hd)
  rw [hl]; exact pow16 hw.hi
end

/-! ### A slot that changes -/
theorem dIds_set {l : List DN} {i : Nat} {d d' : DN} (hd : l[i]? = some d) (he : d'.id = d.id) : dIds (l.set i d') = dIds l := by
  apply List.ext_getElem?
  intro j
  unfold dIds
  rw [List.getElem?_map, List.getElem?_map, List.getElem?_set]
  by_cases hij : i = j
  · subst hij
    rw [if_pos rfl, if_pos (d_lt hd), hd]; simp [he]
  · rw [if_neg hij]
theorem dfind_set {id : Int} {d d' : DN} (he : d'.id = d.id) (o : Int) : ∀ {l : List DN}, dfind l id = some d → dfind (l.set (idxM (dIds l) id).toNat d') o = if o = id then some d' else dfind l o
  | [], h => by cases h
  | a :: l, h => by
    have hcons : idxM (dIds (a :: l)) id = if (a.id : Int) = id then 0 else if idxM (dIds l) id < 0 then -1 else idxM (dIds l) id + 1 := rfl
    rw [dfind_cons] at h
    rw [hcons]
    by_cases e : (a.id : Int) = id
    · rw [if_pos e] at h ⊢
      cases h
      show dfind (d' :: l) o = _
      rw [dfind_cons, he, e, dfind_cons, e]
      by_cases ho : o = id
      · rw [if_pos ho.symm, if_pos ho]
      · rw [if_neg (Ne.symm ho), if_neg ho, if_neg (Ne.symm ho)]
    · rw [if_neg e] at h ⊢
      obtain ⟨i, hi, _, _⟩ := dfind_some h
      have ih := dfind_set he o h
      rw [hi] at ih ⊢
      rw [if_neg (by omega), show ((i : Int) + 1).toNat = i + 1 by omega, List.set_cons_succ, dfind_cons, dfind_cons, ← show (i : Int).toNat = i by omega, ih]
      by_cases ho : o = id
      · subst ho; simp [e]
      · simp [ho]
theorem rel_set {S : StoreM} {l : List DN} (h : Rel S l) {s : SlotM} {x : CapM} (hx : S.cap? s = some x) {c : CapM} (hc : c.kind ≠ 0 → checkM c = 0) (hz : c.kind = 0 → c = CapM.zero) : Rel (S.setCap s c) (dsetC l s c) := by
  have hx2 := hx
  rw [rel_cap h] at hx2
  obtain ⟨d, hd, hh, hxd⟩ := dcap_some hx2
  obtain ⟨i, hi, hid, hdid⟩ := dfind_some hd
  have hds := dsetC_eq hd hi c
  have hdi : dIds (dsetC l s c) = dIds l := by rw [hds]; exact dIds_set hid rfl
  obtain ⟨n, hn, hr, hcd, hl, hw⟩ := rel_find h hd
  have tz : ∀ o m i d, nget o (S.setCap s c).nodes = some m → m.caps[i]? = some d → (d.kind ≠ 0 → i < 2 ^ m.radix ∧ checkM d = 0) ∧ (d.kind = 0 → d = CapM.zero) := by
    intro o m i d hm hmd
    obtain ⟨m', hm', hh', hmc, e⟩ := setCap_nget hx c o
    rw [e] at hm
    split at hm
    · cases hm
      by_cases hi : i = s.2.toNat
      · subst hi
        have hl := (List.getElem?_eq_some_iff.1 hmc).1
        simp only [NodeM.set, List.getElem?_set_self hl] at hmd
        cases hmd
        have := hh'.1; have := hh'.2
        exact ⟨fun hk => ⟨by simp only [NodeM.set]; omega, hc hk⟩, hz⟩
      · have : s.2.toNat ≠ i := fun e => hi e.symm
        simp only [NodeM.set, List.getElem?_set_ne this] at hmd
        exact ⟨fun hk => h.tidy _ m' i d hm' hmd hk, fun hk => h.zero _ m' i d hm' hmd hk⟩
    · exact ⟨fun hk => h.tidy o m i d hm hmd hk, fun hk => h.zero o m i d hm hmd hk⟩
  refine ⟨setCap_wf hx _ h.wf, fun o m i d hm hmd hk => (tz o m i d hm hmd).1 hk, setCap_uniq h.uniq, fun o m i d hm hmd hk => (tz o m i d hm hmd).2 hk, by rw [hdi]; exact h.srt, by rw [hdi]; exact h.lt, fun o => ?_⟩
  obtain ⟨m, hm, _, _, e⟩ := setCap_nget hx c o
  rw [hn] at hm; cases hm
  have e2 : dfind (dsetC l s c) o = if o = s.1 then some { d with caps := d.caps.set s.2.toNat c } else dfind l o := by
    rw [hds, ← show (i : Int).toNat = i by omega, ← hi]; exact dfind_set (d := d) (d' := { d with caps := d.caps.set s.2.toNat c }) rfl o hd
  unfold RelN
  rw [e, e2]
  by_cases ho : o = s.1
  · rw [if_pos ho, if_pos ho]
    refine .inr ⟨_, _, rfl, rfl, hr, ?_⟩
    show d.caps.set s.2.toNat c = (n.caps.set s.2.toNat c).take (2 ^ n.radix)
    rw [List.take_set, ← hcd]
  · rw [if_neg ho, if_neg ho]; exact h.rel o
theorem rel_put {S : StoreM} {l : List DN} (h : Rel S l) (s : SlotM) (c : CapM) : (S.put s c).1 = (dput l s c).1 ∧ Rel (S.put s c).2 (dput l s c).2 := by
  unfold StoreM.put dput
  have e := rel_cap h s
  cases hx : S.cap? s with
  | none => rw [hx] at e; rw [← e]; exact ⟨rfl, h⟩
  | some x =>
    rw [hx] at e; rw [← e]
    dsimp only
    split
    · exact ⟨rfl, h⟩
    · rename_i h1
      split
      · exact ⟨rfl, h⟩
      · rename_i h2
        split
        · exact ⟨rfl, h⟩
        · exact ⟨rfl, rel_set h hx (fun _ => by omega) (fun hk => absurd hk h2)⟩
theorem rel_take {S : StoreM} {l : List DN} (h : Rel S l) (s : SlotM) : (S.take s).1 = (dtake l s).1 ∧ (S.take s).2.1 = (dtake l s).2.1 ∧ Rel (S.take s).2.2 (dtake l s).2.2 := by
  unfold StoreM.take dtake
  have e := rel_cap h s
  cases hx : S.cap? s with
  | none => rw [hx] at e; rw [← e]; exact ⟨rfl, rfl, h⟩
  | some x =>
    rw [hx] at e; rw [← e]
    dsimp only
    by_cases hk : x.kind = 0
    · obtain ⟨n, hn, _, hc, _⟩ := S.cap_some hx
      rw [if_pos hk, if_pos hk]
      exact ⟨(h.zero _ n _ x hn hc hk).symm, rfl, h⟩
    · rw [if_neg hk, if_neg hk]
      exact ⟨rfl, rfl, rel_set h hx (fun hk => absurd rfl hk) (fun _ => rfl)⟩

/-! ### A node that comes -/
theorem addNode_zero {S : StoreM} (hz : S.Zero) {id : Int} (h : nget id S.nodes = none) (b r : Nat) : (S.addNode id b r).Zero := by
  intro o n i c hn hc hk
  rw [addNode_nget h] at hn
  split at hn
  · cases hn; exact List.eq_of_mem_replicate (List.mem_of_getElem? hc)
  · exact hz o n i c hn hc hk
theorem rel_addErr {S : StoreM} {l : List DN} (h : Rel S l) (id r : Int) : addErr S id r = daddErr l id r := by
  unfold addErr daddErr
  rcases h.rel id with ⟨e1, e2⟩ | ⟨n, d, hn, e, _, _⟩
  · rw [e1, e2]; rfl
  · rw [hn, e]; rfl
theorem rel_add {S : StoreM} {l : List DN} (h : Rel S l) {id r : Int} (he : addErr S id r = 0) {n : Nat} (hp : dPlace l id n) (b cb : Nat) : Rel (S.addNode id b r.toNat) (l.take n ++ newN id.toNat r.toNat cb :: l.drop n) := by
  unfold addErr at he
  split at he
  · cases he
  rename_i hr
  have hn : nget id S.nodes = none := by
    cases e : nget id S.nodes with
    | none => rfl
    | some m => rw [e] at he; cases he
  have hd : dfind l id = none := by
    rcases h.rel id with ⟨_, e2⟩ | ⟨m, d, hm, _⟩
    · exact e2
    · rw [hn] at hm; cases hm
  obtain ⟨m, rfl⟩ : ∃ m : Nat, id = m := ⟨id.toNat, by omega⟩
  obtain ⟨k, rfl⟩ : ∃ k : Nat, r = k := ⟨r.toNat, by omega⟩
  rw [Int.toNat_natCast, Int.toNat_natCast]
  have hids : dIds (l.take n ++ newN m k cb :: l.drop n) = (dIds l).take n ++ (m : Int) :: (dIds l).drop n := by simp [dIds, newN, List.map_take, List.map_drop]
  have hne : ∀ d, d ∈ l → (d.id : Int) ≠ m := fun d hdm e => by
    have := dfind_self h.srt hdm
    rw [e, hd] at this; cases this
  have hlo : ∀ x, x ∈ (dIds l).take n → x < (m : Int) := by
    intro x hx
    obtain ⟨j, hj⟩ := List.getElem?_of_mem hx
    have hjn : j < n := by
      have := (List.getElem?_eq_some_iff.1 hj).1
      rw [List.length_take] at this; omega
    rw [List.getElem?_take, if_pos hjn] at hj
    unfold dIds at hj
    rw [List.getElem?_map] at hj
    obtain ⟨d, hdj, rfl⟩ := Option.map_eq_some_iff.1 hj
    exact hp.2.1 j d hjn hdj
  have hhi : ∀ x, x ∈ (dIds l).drop n → (m : Int) < x := by
    intro x hx
    rcases Nat.lt_or_ge n l.length with hlt | hge
    · have hdn : l[n]? = some l[n] := List.getElem?_eq_getElem hlt
      have h1 := hp.2.2 _ hdn
      have h2 := hne _ (List.mem_of_getElem? hdn)
      have hs := h.srt.sublist (List.drop_sublist n (dIds l))
      have hc : (dIds l).drop n = (l[n].id : Int) :: (dIds l).drop (n + 1) := by
        rw [List.drop_eq_getElem_cons (by rw [dIds_len]; exact hlt)]; simp [dIds]
      rw [hc] at hs hx
      rw [List.pairwise_cons] at hs
      rcases List.mem_cons.1 hx with rfl | hx
      · omega
      · have := hs.1 x hx; omega
    · rw [List.drop_of_length_le (by rw [dIds_len]; exact hge)] at hx; cases hx
  refine ⟨addNode_wf hn _ _ h.wf (by omega) (by omega) (by omega) (by omega), tidy_add h.tidy hn _ _, addNode_uniq h.uniq hn, addNode_zero h.zero hn _ _, ?_, ?_, fun o => ?_⟩
  · rw [hids, List.pairwise_append, List.pairwise_cons]
    refine ⟨h.srt.sublist (List.take_sublist _ _), ⟨hhi, h.srt.sublist (List.drop_sublist _ _)⟩, fun a ha b hb => ?_⟩
    rcases List.mem_cons.1 hb with rfl | hb
    · exact hlo a ha
    · have := hlo a ha; have := hhi b hb; omega
  · rw [hids]
    intro x hx
    rcases List.mem_append.1 hx with hx | hx
    · exact h.lt x (List.mem_of_mem_take hx)
    · rcases List.mem_cons.1 hx with rfl | hx
      · omega
      · exact h.lt x (List.mem_of_mem_drop hx)
  · have ed : dfind (l.take n ++ newN m k cb :: l.drop n) o = if o = (m : Int) then some (newN m k cb) else dfind l o := by
      have e0 : dfind l o = (dfind (l.take n) o).or (dfind (l.drop n) o) := by rw [← dfind_app, List.take_append_drop]
      rw [dfind_app, dfind_cons]
      by_cases ho : o = (m : Int)
      · subst ho
        have e1 : dfind (l.take n) (m : Int) = none := by
          rw [hd] at e0
          cases e : dfind (l.take n) (m : Int) with
          | none => rfl
          | some z => rw [e] at e0; cases e0
        rw [if_pos rfl, e1, if_pos (by simp [newN])]; rfl
      · rw [if_neg ho, if_neg (by simp [newN]; omega), e0]
    unfold RelN
    rw [ed, addNode_nget hn]
    by_cases ho : o = (m : Int)
    · rw [if_pos ho, if_pos ho]
      refine .inr ⟨_, _, rfl, rfl, rfl, ?_⟩
      show List.replicate (2 ^ k) CapM.zero = zeroCaps.take (2 ^ k)
      have := pow16 (r := k) (by omega)
      unfold zeroCaps
      rw [List.take_replicate, Nat.min_eq_left this]
    · rw [if_neg ho, if_neg ho]; exact h.rel o

/-! ### A node that goes -/
theorem dfind_del {id : Int} {d : DN} (o : Int) : ∀ {l : List DN}, (dIds l).Pairwise (· < ·) → dfind l id = some d → dfind (l.eraseIdx (idxM (dIds l) id).toNat) o = if o = id then none else dfind l o
  | [], _, h => by cases h
  | a :: l, hs, h => by
    have hcons : idxM (dIds (a :: l)) id = if (a.id : Int) = id then 0 else if idxM (dIds l) id < 0 then -1 else idxM (dIds l) id + 1 := rfl
    have hs' : (((a.id : Nat) : Int) :: dIds l).Pairwise (· < ·) := hs
    rw [List.pairwise_cons] at hs'
    rw [dfind_cons] at h
    rw [hcons]
    by_cases e : (a.id : Int) = id
    · rw [if_pos e] at h ⊢
      cases h
      show dfind l o = _
      rw [dfind_cons, e]
      by_cases ho : o = id
      · rw [if_pos ho, ho]
        cases hf : dfind l id with
        | none => rfl
        | some d =>
          obtain ⟨_, _, hi, hd⟩ := dfind_some hf
          have := hs'.1 d.id (List.mem_map.2 ⟨d, List.mem_of_getElem? hi, rfl⟩)
          omega
      · rw [if_neg ho, if_neg (Ne.symm ho)]
    · rw [if_neg e] at h ⊢
      obtain ⟨i, hi, _, _⟩ := dfind_some h
      have ih := dfind_del o hs'.2 h
      rw [hi] at ih ⊢
      rw [if_neg (by omega), show ((i : Int) + 1).toNat = i + 1 by omega, List.eraseIdx_cons_succ, dfind_cons, dfind_cons, ← show (i : Int).toNat = i by omega, ih]
      by_cases ho : o = id
      · subst ho; simp [e]
      · simp [ho]
theorem rel_del {S : StoreM} {l : List DN} (h : Rel S l) {id : Int} {d : DN} (hd : dfind l id = some d) : Rel (S.delNode id) (ddel l id) := by
  have hng : ∀ o, nget o (S.delNode id).nodes = if o = id then none else nget o S.nodes := nget_ndel h.uniq
  have hsome : ∀ {o n}, nget o (S.delNode id).nodes = some n → nget o S.nodes = some n := by
    intro o n hn
    rw [hng] at hn
    split at hn
    · cases hn
    · exact hn
  have hsub : (dIds (ddel l id)).Sublist (dIds l) := (List.eraseIdx_sublist _ _).map _
  refine ⟨fun o n hn => h.wf o n (hsome hn), fun o n i c hn => h.tidy o n i c (hsome hn), ndel_uniq h.uniq, fun o n i c hn => h.zero o n i c (hsome hn), h.srt.sublist hsub, fun x hx => h.lt x (hsub.subset hx), fun o => ?_⟩
  unfold RelN
  have e2 : dfind (ddel l id) o = if o = id then none else dfind l o := dfind_del o h.srt hd
  rw [hng, e2]
  by_cases ho : o = id
  · rw [if_pos ho, if_pos ho]; exact .inl ⟨rfl, rfl⟩
  · rw [if_neg ho, if_neg ho]; exact h.rel o
theorem rel_empty {S : StoreM} {l : List DN} (h : Rel S l) {id : Int} {d : DN} (hd : dfind l id = some d) : ∃ n, nget id S.nodes = some n ∧ (dempty d ↔ n.caps = zeroCaps) := by
  obtain ⟨n, hn, hr, hc, hl, hw⟩ := rel_find h hd
  refine ⟨n, hn, fun he => ?_, fun he c hcm => ?_⟩
  · rw [zeroCaps, List.eq_replicate_iff]
    refine ⟨hw.len, fun c hcm => ?_⟩
    obtain ⟨j, hj⟩ := List.getElem?_of_mem hcm
    by_cases hk : c.kind = 0
    · exact h.zero _ n j c hn hj hk
    · have := (h.tidy _ n j c hn hj hk).1
      refine absurd (he c ?_) hk
      rw [hc]
      refine List.mem_of_getElem? (i := j) ?_
      rw [List.getElem?_take, if_pos this]; exact hj
  · rw [hc, he] at hcm
    rw [List.eq_of_mem_replicate (List.mem_of_mem_take hcm)]
theorem rel_drop_none {S : StoreM} {l : List DN} (h : Rel S l) {id : Int} (hd : dfind l id = none) : S.drop id = (3, S) := by
  unfold StoreM.drop
  rcases h.rel id with ⟨e1, _⟩ | ⟨_, _, _, e, _⟩
  · rw [e1]
  · rw [hd] at e; cases e
theorem rel_drop_full {S : StoreM} {l : List DN} (h : Rel S l) {id : Int} {d : DN} (hd : dfind l id = some d) (he : ¬ dempty d) : S.drop id = (8, S) := by
  obtain ⟨n, hn, hi⟩ := rel_empty h hd
  exact drop_full hn (fun e => he (hi.2 e))
theorem rel_drop_empty {S : StoreM} {l : List DN} (h : Rel S l) {id : Int} {d : DN} (hd : dfind l id = some d) (he : dempty d) : S.drop id = (0, S.delNode id) := by
  obtain ⟨n, hn, hi⟩ := rel_empty h hd
  exact drop_empty hn (hi.1 he)

/-! ### What is full -/
theorem nodeFull_take (id : Nat) (caps : List CapM) (m : Nat) : ∀ j, j ≤ m → nodeFull id (caps.take m) j = nodeFull id caps j
  | 0, _ => rfl
  | j + 1, h => by
    have e : (caps.take m)[j]? = caps[j]? := by rw [List.getElem?_take, if_pos (by omega)]
    unfold nodeFull
    rw [e, nodeFull_take id caps m j (by omega)]
theorem nodeFull_rest (id : Nat) (caps : List CapM) (m : Nat) (h : ∀ j, m ≤ j → (caps[j]?.getD CapM.zero).kind = 0) : ∀ k, nodeFull id caps (m + k) = nodeFull id caps m
  | 0 => rfl
  | k + 1 => by
    show nodeFull id caps (m + k) ++ _ = _
    rw [nodeFull_rest id caps m h k, if_neg (fun e => e (h (m + k) (by omega))), List.append_nil]
def dfull1 (l : List DN) (id : Nat) : List SlotM := match dfind l (id : Int) with | none => [] | some d => nodeFull d.id d.caps d.caps.length
theorem rel_full1 {S : StoreM} {l : List DN} (h : Rel S l) (id : Nat) : full1 S id = dfull1 l id := by
  unfold full1 dfull1
  rcases h.rel id with ⟨e1, e2⟩ | ⟨n, d, hn, e, hr, hc⟩
  · rw [e1, e2]
  · obtain ⟨n', hn', _, _, hl, hw⟩ := rel_find h e
    rw [hn] at hn'; cases hn'
    obtain ⟨_, _, _, hid⟩ := dfind_some e
    rw [hn, e]
    dsimp only
    have hid' : d.id = id := by omega
    have := pow16 hw.hi
    rw [hl, hc, hid', nodeFull_take _ _ _ _ (Nat.le_refl _)]
    obtain ⟨k, hk⟩ : ∃ k, 16 = 2 ^ n.radix + k := ⟨16 - 2 ^ n.radix, by omega⟩
    rw [hk]
    refine nodeFull_rest _ _ _ (fun j hj => ?_) k
    cases hcj : n.caps[j]? with
    | none => rfl
    | some c =>
      rw [Option.getD_some]
      by_cases hk : c.kind = 0
      · exact hk
      · have := (h.tidy _ n j c hn hcj hk).1; omega
theorem filter_succ {k : Nat} : ∀ {l : List DN}, (dIds l).Pairwise (· < ·) → l.filter (fun d => decide (d.id < k + 1)) = l.filter (fun d => decide (d.id < k)) ++ (dfind l (k : Int)).toList
  | [], _ => rfl
  | a :: l, hs => by
    have hs' : (((a.id : Nat) : Int) :: dIds l).Pairwise (· < ·) := hs
    rw [List.pairwise_cons] at hs'
    have ih := filter_succ (k := k) hs'.2
    have hall : ∀ d, d ∈ l → a.id < d.id := fun d hd => by have := hs'.1 d.id (List.mem_map.2 ⟨d, hd, rfl⟩); omega
    rw [dfind_cons]
    by_cases h1 : a.id < k
    · rw [List.filter_cons_of_pos (by simp; omega), List.filter_cons_of_pos (by simp; omega), ih, if_neg (by omega), List.cons_append]
    · have hn : l.filter (fun d => decide (d.id < k)) = [] := by rw [List.filter_eq_nil_iff]; intro d hd; have := hall d hd; simp; omega
      have hn2 : l.filter (fun d => decide (d.id < k + 1)) = [] := by rw [List.filter_eq_nil_iff]; intro d hd; have := hall d hd; simp; omega
      by_cases h2 : a.id = k
      · rw [List.filter_cons_of_pos (by simp; omega), List.filter_cons_of_neg (by simp; omega), hn, hn2, if_pos (by omega)]; rfl
      · have hf : dfind l (k : Int) = none := by
          cases e : dfind l (k : Int) with
          | none => rfl
          | some d =>
            obtain ⟨_, _, hi, hd⟩ := dfind_some e
            have := hall d (List.mem_of_getElem? hi); omega
        rw [List.filter_cons_of_neg (by simp; omega), List.filter_cons_of_neg (by simp; omega), hn, hn2, if_neg (by omega), hf]; rfl
theorem fullUpto_eq {S : StoreM} {l : List DN} (h : Rel S l) : ∀ k, fullUpto S k = dfull (l.filter fun d => decide (d.id < k))
  | 0 => by
    have : l.filter (fun d => decide (d.id < 0)) = [] := by rw [List.filter_eq_nil_iff]; intro d _; simp
    rw [this]; rfl
  | k + 1 => by
    unfold fullUpto
    rw [fullUpto_eq h k, filter_succ h.srt, rel_full1 h]
    unfold dfull dfull1
    rw [List.flatMap_append]
    congr 1
    cases dfind l (k : Int) with
    | none => rfl
    | some d => simp
theorem rel_full {S : StoreM} {l : List DN} (h : Rel S l) : fullM S = dfull l := by
  unfold fullM
  rw [fullUpto_eq h, List.filter_eq_self.2]
  intro d hd
  have := h.lt d.id (List.mem_map.2 ⟨d, hd, rfl⟩)
  simp; omega
theorem rel_count {S : StoreM} {l : List DN} (h : Rel S l) (k o : Int) : countM S k o = dcount l k o := by
  unfold countM dcount isKO
  rw [rel_full h]
  congr 1
  funext s
  rw [rel_get h]

/-! ### As one -/
theorem sorted_len : ∀ {l : List Int} {a b : Int}, l.Pairwise (· < ·) → (∀ x, x ∈ l → a ≤ x ∧ x < b) → a ≤ b → (l.length : Int) ≤ b - a
  | [], a, b, _, _, h => by simp; omega
  | x :: l, a, b, hs, hb, h => by
    rw [List.pairwise_cons] at hs
    have hx := hb x (List.mem_cons_self ..)
    have ih := sorted_len (a := x + 1) (b := b) hs.2 (fun y hy => ⟨by have := hs.1 y hy; omega, (hb y (List.mem_cons_of_mem _ hy)).2⟩) (by omega)
    rw [List.length_cons]; omega
theorem rel_len {S : StoreM} {l : List DN} (h : Rel S l) : l.length ≤ 64 := by
  have := sorted_len (a := 0) (b := 64) h.srt (fun x hx => ⟨by obtain ⟨d, _, rfl⟩ := List.mem_map.1 hx; omega, h.lt x hx⟩) (by omega)
  rw [dIds_len] at this; omega
theorem rel_len2 {S : StoreM} {l : List DN} (h : Rel S l) : l.length ≤ 2 ^ 20 := Nat.le_trans (rel_len h) (by decide)
/-- A store after Add. -/
def AddS (S : StoreM) (id r : Int) (S' : StoreM) : Prop := (addErr S id r ≠ 0 ∧ S' = S) ∨ (addErr S id r = 0 ∧ ∃ b, S' = S.addNode id b r.toNat)
end Go.Proofs.Ytdodfnjmkpgdbaa
