/- Layer 10 in plain Lean, fourth part: what holds of a state, and is kept by every act. No condition. -/
import Derived.Test.YtdodfnjmkpgdbaaM10b
import Derived.Test.YtdodfnjmkpgdbaaM09k
import Derived.Test.YtdodfnjmkpgdbaaM07g
import Derived.Test.YtdodfnjmkpgdbaaM05
set_option linter.unusedVariables false
set_option linter.unusedSimpArgs false
set_option linter.unusedSectionVars false
namespace Go.Proofs.Ytdodfnjmkpgdbaa
open Go.SL

abbrev HasS (l : List DN) : Prop := ∃ S, Rel S l
theorem dget_le {l : List DN} {s : SlotM} (h : (dget l s).1.kind ≠ 0) : (dget l s).2 = 0 := by
  unfold dget at h ⊢
  cases e : dcap? l s with
  | none => rw [e] at h; exact absurd rfl h
  | some x => rfl
theorem dget_no {l : List DN} {s : SlotM} (h : (dget l s).2 ≠ 0) : dget l s = (CapM.zero, 6) := by
  unfold dget at h ⊢
  cases e : dcap? l s with
  | none => rfl
  | some x => rw [e] at h; exact absurd rfl h
theorem dget_cap {l : List DN} {s : SlotM} {x : CapM} (h : dget l s = (x, 0)) : dcap? l s = some x := by
  unfold dget at h
  cases e : dcap? l s with
  | none => rw [e] at h; have := congrArg Prod.snd h; simp at this
  | some y => rw [e] at h; exact congrArg some (congrArg Prod.fst h)
section
variable {l : List DN} (h : HasS l)
include h
theorem HasS.zero {s : SlotM} (hk : (dget l s).1.kind = 0) : (dget l s).1 = CapM.zero := by
  obtain ⟨S, hR⟩ := h
  unfold dget at hk ⊢
  cases e : dcap? l s with
  | none => rfl
  | some x =>
    rw [e] at hk
    rw [← rel_cap hR] at e
    obtain ⟨n, hn, _, hc, _⟩ := StoreM.cap_some e
    exact hR.zero _ n _ x hn hc hk
theorem HasS.check {s : SlotM} (hk : (dget l s).1.kind ≠ 0) : checkM (dget l s).1 = 0 := by
  obtain ⟨S, hR⟩ := h
  unfold dget at hk ⊢
  cases e : dcap? l s with
  | none => rw [e] at hk; exact absurd rfl hk
  | some x =>
    rw [e] at hk
    rw [← rel_cap hR] at e
    obtain ⟨n, hn, _, hc, _⟩ := StoreM.cap_some e
    exact (hR.tidy _ n _ x hn hc hk).2
theorem HasS.put (s : SlotM) (c : CapM) : HasS (dput l s c).2 := by
  obtain ⟨S, hR⟩ := h
  exact ⟨_, (rel_put hR s c).2⟩
theorem HasS.take (s : SlotM) : HasS (dtake l s).2.2 := by
  obtain ⟨S, hR⟩ := h
  exact ⟨_, (rel_take hR s).2.2⟩
theorem put_iff {s : SlotM} {c : CapM} : (dput l s c).1 = 0 ↔ (dget l s).2 = 0 ∧ (dget l s).1.kind = 0 ∧ checkM c = 0 ∧ c.kind ≠ 0 := by
  unfold dput dget
  cases e : dcap? l s with
  | none => simp
  | some x =>
    dsimp only
    by_cases h1 : checkM c = 0
    · by_cases h2 : c.kind = 0
      · simp [h1, h2]
      · by_cases h3 : x.kind = 0
        · simp [h1, h2, h3]
        · simp [h1, h2, h3]
    · simp [h1]
theorem put_get {s : SlotM} {c : CapM} (h0 : (dput l s c).1 = 0) (t : SlotM) : dget (dput l s c).2 t = if t = s then (c, 0) else dget l t := by
  obtain ⟨S, hR⟩ := h
  obtain ⟨h1, h2, h3, h4⟩ := (put_iff ⟨S, hR⟩).1 h0
  obtain ⟨e, hR2⟩ := rel_put hR s c
  rw [← rel_get hR2, ← rel_get hR]
  have hx : S.cap? s = some (dget l s).1 := by
    rw [rel_cap hR]
    refine dget_cap ?_
    rw [← h1]
  have : (S.put s c).2 = S.setCap s c := by
    unfold StoreM.put; rw [hx]; dsimp only
    rw [if_neg (by simp [h3]), if_neg h4, if_neg (by simp [h2])]
  rw [this, get_set hx]
theorem take_iff {s : SlotM} : (dtake l s).2.1 = 0 ↔ (dget l s).1.kind ≠ 0 := by
  unfold dtake dget
  cases e : dcap? l s with
  | none => simp
  | some x =>
    dsimp only
    by_cases h3 : x.kind = 0
    · simp [h3]
    · simp [h3]
theorem take_fst {s : SlotM} : (dtake l s).1 = (dget l s).1 := by
  unfold dtake dget
  cases e : dcap? l s with
  | none => rfl
  | some x =>
    dsimp only
    split <;> rfl
theorem take_get {s : SlotM} (h0 : (dget l s).1.kind ≠ 0) (t : SlotM) : dget (dtake l s).2.2 t = if t = s then (CapM.zero, 0) else dget l t := by
  obtain ⟨S, hR⟩ := h
  obtain ⟨e, e2, hR2⟩ := rel_take hR s
  rw [← rel_get hR2, ← rel_get hR]
  have hx : S.cap? s = some (dget l s).1 := by
    rw [rel_cap hR]
    refine dget_cap ?_
    rw [← dget_le h0]
  have : (S.take s).2.2 = S.setCap s CapM.zero := by
    unfold StoreM.take; rw [hx]; dsimp only
    rw [if_neg h0]
  rw [this, get_set hx]
theorem take_no {s : SlotM} (h0 : (dtake l s).2.1 ≠ 0) : (dtake l s).2.2 = l := by
  unfold dtake at h0 ⊢
  cases e : dcap? l s with
  | none => rfl
  | some x =>
    rw [e] at h0
    dsimp only at h0 ⊢
    split
    · rfl
    · rename_i hk; rw [if_neg hk] at h0; exact absurd rfl h0
theorem dput_err {s : SlotM} {c : CapM} (h0 : ¬ (dput l s c).1 = 0) : (dput l s c).2 = l := dput_no h0
theorem mem_dfull {s : SlotM} : s ∈ dfull l ↔ (dget l s).1.kind ≠ 0 := by
  obtain ⟨S, hR⟩ := h
  rw [← rel_full hR, ← rel_get hR]
  constructor
  · intro hm
    obtain ⟨n, c, _, _, hk, _, _, hg⟩ := full_cap hR.tidy hm
    rw [hg]; exact hk
  · intro hk
    unfold StoreM.get at hk
    cases e : S.cap? s with
    | none => rw [e] at hk; exact absurd rfl hk
    | some c =>
      rw [e] at hk
      obtain ⟨n, hn, hh, hc, _⟩ := StoreM.cap_some e
      have hw := hR.wf _ _ hn
      have hmem : ∀ k j : Nat, j < k → s ∈ full1 S j → s ∈ fullUpto S k := by
        intro k
        induction k with
        | zero => intro j hj; exact absurd hj (Nat.not_lt_zero j)
        | succ k ih =>
          intro j hj hm
          unfold fullUpto
          rw [List.mem_append]
          by_cases e2 : j = k
          · subst e2; exact .inr hm
          · exact .inl (ih j (by omega) hm)
      refine hmem 64 s.1.toNat (by omega) ?_
      unfold full1
      have e1 : ((s.1.toNat : Nat) : Int) = s.1 := by omega
      rw [e1, hn]
      dsimp only
      have hlt := hw.1.lt hh
      have hin : ∀ k, s.2.toNat < k → s ∈ nodeFull s.1.toNat n.caps k := by
        intro k
        induction k with
        | zero => intro hj; exact absurd hj (Nat.not_lt_zero _)
        | succ k ih =>
          intro hj
          unfold nodeFull
          rw [List.mem_append]
          by_cases e2 : s.2.toNat = k
          · right
            subst e2
            rw [hc, Option.getD_some, if_pos hk, List.mem_singleton]
            unfold NodeM.has at hh
            refine Prod.ext ?_ ?_ <;> dsimp only <;> omega
          · exact .inl (ih (by omega))
      exact hin 16 hlt
theorem dfull_sorted : (dfull l).Pairwise lexlt := by
  obtain ⟨S, hR⟩ := h
  rw [← rel_full hR]; exact fullUpto_sorted S 64
theorem dfull_nodup : (dfull l).Nodup := by
  refine (dfull_sorted h).imp ?_
  intro a b hab e
  subst e
  unfold lexlt at hab; omega
end
/-! ### A state -/
structure POk (p : PS) : Prop where
  rel : HasS p.l
  nd : Fo.Nd p.F
  on : ∀ s, s ∈ p.F.all ↔ (dget p.l s).1.kind ≠ 0
theorem src_ok {p : PS} {s : SlotM} (h : (mSource p s).2 = 0) : mSource p s = dget p.l s ∧ (dget p.l s).1.kind ≠ 0 ∧ (dget p.l s).2 = 0 := by
  unfold mSource at h ⊢
  split at h
  · cases h
  · rename_i hn
    rw [if_neg hn]
    exact ⟨rfl, fun e => hn ⟨h, e⟩, h⟩
theorem plc_ok {p : PS} {s : SlotM} (h : mPlace p s = 0) : (dget p.l s).1.kind = 0 ∧ (dget p.l s).2 = 0 := by
  unfold mPlace at h
  split at h
  · cases h
  · rename_i hn
    exact ⟨Decidable.byContradiction fun e => hn ⟨h, e⟩, h⟩
theorem both_ok {p : PS} {s d : SlotM} (h : (mBoth p s d).2 = 0) : (mBoth p s d).1 = (dget p.l s).1 ∧ (dget p.l s).1.kind ≠ 0 ∧ (dget p.l s).2 = 0 ∧ (dget p.l d).1.kind = 0 ∧ (dget p.l d).2 = 0 := by
  unfold mBoth at h ⊢
  dsimp only at h ⊢
  split at h
  · rename_i h1
    obtain ⟨e1, e2, e3⟩ := src_ok h1
    obtain ⟨e4, e5⟩ := plc_ok h
    exact ⟨by rw [e1], e2, e3, e4, e5⟩
  · rename_i h1; exact absurd h h1
theorem src_iff {p : PS} {s : SlotM} : (mSource p s).2 = 0 ↔ (dget p.l s).1.kind ≠ 0 := by
  refine ⟨fun h => (src_ok h).2.1, fun h => ?_⟩
  unfold mSource
  rw [if_neg (fun e => h e.2)]; exact dget_le h
/-- What is told of a state when slots went to others: each with what it held. -/
structure Went (p p' : PS) (σ : SlotM → SlotM) : Prop where
  inj : ∀ a b, a ∈ p.F.all → b ∈ p.F.all → σ a = σ b → a = b
  F : p'.F = p.F.map σ
  val : ∀ z, z ∈ p.F.all → (dget p'.l (σ z)).1 = (dget p.l z).1
  only : ∀ s, (dget p'.l s).1.kind ≠ 0 → ∃ z, z ∈ p.F.all ∧ s = σ z
theorem Went.ok {p p' : PS} {σ : SlotM → SlotM} (h : Went p p' σ) (hp : POk p) (hr : HasS p'.l) : POk p' where
  rel := hr
  nd := by rw [h.F]; exact Fo.nd_map hp.nd h.inj
  on := fun s => by
    rw [h.F, Fo.all_map, List.mem_map]
    constructor
    · rintro ⟨z, hz, rfl⟩
      rw [h.val z hz]; exact (hp.on z).1 hz
    · intro hk
      obtain ⟨z, hz, e⟩ := h.only s hk
      exact ⟨z, hz, e.symm⟩
/-- To empty one slot, and fill another one. -/
theorem carry_get {l : List DN} (h : HasS l) {s d : SlotM} {c : CapM} (hs : (dget l s).1.kind ≠ 0) (hd : (dget l d).1.kind = 0) (hd2 : (dget l d).2 = 0) (hc : checkM c = 0) (hk : c.kind ≠ 0) (t : SlotM) :
    dget (dput (dtake l s).2.2 d c).2 t = if t = d then (c, 0) else if t = s then (CapM.zero, 0) else dget l t := by
  have hsd : d ≠ s := fun e => hs (e ▸ hd)
  have hg := take_get h hs
  have h0 : (dput (dtake l s).2.2 d c).1 = 0 := (put_iff (h.take s)).2 ⟨by rw [hg, if_neg hsd]; exact hd2, by rw [hg, if_neg hsd]; exact hd, hc, hk⟩
  rw [put_get (h.take s) h0, hg]
theorem mv_all {F : FoS} {s d : SlotM} (hs : s ∈ F.all) (hd : d ∉ F.all) : (ftMove F s d).2 = F.map (ren s d) := by unfold ftMove; rw [if_pos hs, if_neg hd]
section
variable {p : PS} (hp : POk p)
include hp
theorem POk.out {s : SlotM} (h : (dget p.l s).1.kind = 0) : s ∉ p.F.all := fun e => (hp.on s).1 e h
theorem went_carry {s d : SlotM} (hs : (dget p.l s).1.kind ≠ 0) (hd : (dget p.l d).1.kind = 0) (hd2 : (dget p.l d).2 = 0) : Went p (mCarry p s d (dget p.l s).1) (ren s d) := by
  have hsa := (hp.on s).2 hs
  have hda := hp.out hd
  have hg := carry_get hp.rel hs hd hd2 (hp.rel.check hs) hs
  refine ⟨ren_inj hda, mv_all hsa hda, fun z hz => ?_, fun t ht => ?_⟩
  · show (dget (dput (dtake p.l s).2.2 d (dget p.l s).1).2 (ren s d z)).1 = _
    rw [hg]
    unfold ren
    by_cases e : z = s
    · rw [if_pos e, if_pos rfl, e]
    · rw [if_neg e, if_neg (fun e2 : z = d => hda (e2 ▸ hz)), if_neg e]
  · have ht' : (dget (dput (dtake p.l s).2.2 d (dget p.l s).1).2 t).1.kind ≠ 0 := ht
    rw [hg] at ht'
    by_cases e1 : t = d
    · exact ⟨s, hsa, by unfold ren; rw [if_pos rfl, e1]⟩
    · rw [if_neg e1] at ht'
      by_cases e2 : t = s
      · rw [if_pos e2] at ht'; exact absurd rfl ht'
      · rw [if_neg e2] at ht'
        exact ⟨t, (hp.on t).2 ht', by unfold ren; rw [if_neg e2]⟩
theorem mMove_ok {s d : SlotM} : (mMove p s d).2 = p ∨ Went p (mMove p s d).2 (ren s d) := by
  unfold mMove
  dsimp only
  split
  · rename_i h
    obtain ⟨e1, e2, e3, e4, e5⟩ := both_ok h
    rw [e1]; exact .inr (went_carry hp e2 e4 e5)
  · exact .inl rfl
end
theorem HasS.carry {l : List DN} (h : HasS l) (s d : SlotM) (c : CapM) : HasS (dput (dtake l s).2.2 d c).2 := (h.take s).put d c
theorem HasS.neg {l : List DN} (h : HasS l) {s : SlotM} (hs : (dget l s).1.kind ≠ 0) : 0 ≤ s.1 := by
  obtain ⟨S, hR⟩ := h
  rw [← rel_get hR] at hs
  unfold StoreM.get at hs
  cases e : S.cap? s with
  | none => rw [e] at hs; exact absurd rfl hs
  | some c =>
    obtain ⟨n, hn, _⟩ := StoreM.cap_some e
    exact (hR.wf _ _ hn).2.1
/-- Where a slot goes to when two are rotated. -/
def rotS (d v s : SlotM) (z : SlotM) : SlotM := if z = v then d else if z = s then v else z
theorem map_nd_ren {F : FoS} {s d : SlotM} {z : SlotM} (hd : d ∉ F.all) : z ∈ (F.map (ren s d)).all ↔ (z = d ∧ s ∈ F.all) ∨ (z ≠ s ∧ z ∈ F.all) := by
  rw [Fo.all_map, List.mem_map]
  unfold ren
  constructor
  · rintro ⟨y, hy, rfl⟩
    by_cases e : y = s
    · rw [if_pos e]; exact .inl ⟨rfl, e ▸ hy⟩
    · rw [if_neg e]; exact .inr ⟨e, hy⟩
  · rintro (⟨rfl, hs⟩ | ⟨h1, h2⟩)
    · exact ⟨s, hs, if_pos rfl⟩
    · exact ⟨z, h2, if_neg h1⟩
theorem rot_F {F : FoS} {d v s : SlotM} (hv : v ∈ F.all) (hs : s ∈ F.all) (hd : d = s ∨ d ∉ F.all) (ha : ((-1, 0) : SlotM) ∉ F.all) (hvs : v ≠ s) (hda : d ≠ (-1, 0)) : mRotF F d v s = F.map (rotS d v s) := by
  have hsa : s ≠ (-1, 0) := fun e => ha (e ▸ hs)
  have hva : v ≠ (-1, 0) := fun e => ha (e ▸ hv)
  have e1 : (ftMove F v (-1, 0)).2 = F.map (ren v (-1, 0)) := mv_all hv ha
  have m1 : s ∈ (F.map (ren v (-1, 0))).all := (map_nd_ren ha).2 (.inr ⟨Ne.symm hvs, hs⟩)
  have m2 : v ∉ (F.map (ren v (-1, 0))).all := fun h => by
    rcases (map_nd_ren ha).1 h with ⟨h, _⟩ | ⟨h, _⟩
    · exact hva h
    · exact h rfl
  have e2 := mv_all m1 m2
  have m3 : ((-1, 0) : SlotM) ∈ ((F.map (ren v (-1, 0))).map (ren s v)).all := (map_nd_ren m2).2 (.inr ⟨Ne.symm hsa, (map_nd_ren ha).2 (.inl ⟨rfl, hv⟩)⟩)
  have m4 : d ∉ ((F.map (ren v (-1, 0))).map (ren s v)).all := fun h => by
    have hdv : d ≠ v := by
      rcases hd with h | h
      · exact fun e => hvs (e.symm.trans h)
      · exact fun e => h (e ▸ hv)
    rcases (map_nd_ren m2).1 h with ⟨h, _⟩ | ⟨h, h2⟩
    · exact hdv h
    · rcases (map_nd_ren ha).1 h2 with ⟨h3, _⟩ | ⟨_, h3⟩
      · exact hda h3
      · rcases hd with h4 | h4
        · exact h h4
        · exact h4 h3
  have e3 := mv_all m3 m4
  unfold mRotF
  rw [e1, e2, e3, Fo.map_map, Fo.map_map]
  refine Fo.map_congr fun z hz => ?_
  have hza : z ≠ (-1, 0) := fun e => ha (e ▸ hz)
  unfold ren rotS
  by_cases h1 : z = v
  · subst h1; simp [Ne.symm hsa]
  · by_cases h2 : z = s
    · subst h2; simp [h1, hva]
    · simp [h1, h2, hza]
theorem rot_get {l : List DN} (h : HasS l) {d v s : SlotM} (hv : (dget l v).1.kind ≠ 0) (hs : (dget l s).1.kind ≠ 0) (hvs : v ≠ s) (hvd : v ≠ d) (hd : d = s ∨ ((dget l d).1.kind = 0 ∧ (dget l d).2 = 0)) (t : SlotM) :
    dget (mRotL l d v s (dget l v).1 (dget l s).1) t = if t = v then ((dget l s).1, 0) else if t = d then ((dget l v).1, 0) else if t = s then (CapM.zero, 0) else dget l t := by
  have g1 := take_get h hv
  have hs1 : (dget (dtake l v).2.2 s).1.kind ≠ 0 := by rw [g1, if_neg (Ne.symm hvs)]; exact hs
  have g2 := take_get (h.take v) hs1
  have hd1 : dget (dtake (dtake l v).2.2 s).2.2 d = (CapM.zero, 0) := by
    rw [g2]
    rcases hd with rfl | ⟨hd, hd2⟩
    · rw [if_pos rfl]
    · split
      · rfl
      · rw [g1, if_neg (Ne.symm hvd)]
        exact Prod.ext (h.zero hd) hd2
  have p1 : (dput (dtake (dtake l v).2.2 s).2.2 d (dget l v).1).1 = 0 := (put_iff ((h.take v).take s)).2 ⟨by rw [hd1], by rw [hd1], h.check hv, hv⟩
  have g3 := put_get ((h.take v).take s) p1
  have p2 : (dput (dput (dtake (dtake l v).2.2 s).2.2 d (dget l v).1).2 v (dget l s).1).1 = 0 := by
    refine (put_iff (((h.take v).take s).put d _)).2 ⟨?_, ?_, h.check hs, hs⟩
    · rw [g3, if_neg hvd, g2, if_neg hvs, g1, if_pos rfl]
    · rw [g3, if_neg hvd, g2, if_neg hvs, g1, if_pos rfl]
  unfold mRotL
  rw [put_get (((h.take v).take s).put d _) p2, g3, g2, g1]
  by_cases e1 : t = v
  · rw [if_pos e1, if_pos e1]
  · rw [if_neg e1, if_neg e1, if_neg e1]
theorem rotE_ok {p : PS} {d s : SlotM} (h : mRotE p d s = 0) : (dget p.l s).1.kind ≠ 0 ∧ mSource p s = dget p.l s ∧ (d = s ∨ ((dget p.l d).1.kind = 0 ∧ (dget p.l d).2 = 0)) := by
  unfold mRotE at h
  split at h
  · rename_i h1
    obtain ⟨e1, e2, e3⟩ := src_ok h1.1
    exact ⟨e2, e1, .inr (plc_ok h)⟩
  · rename_i h1
    obtain ⟨e1, e2, e3⟩ := src_ok h
    exact ⟨e2, e1, .inl (Decidable.byContradiction fun e => h1 ⟨h, e⟩)⟩
theorem rotS_inj {F : FoS} {d v s : SlotM} (hv : v ∈ F.all) (hs : s ∈ F.all) (hd : d = s ∨ d ∉ F.all) (hvs : v ≠ s) (hvd : v ≠ d) : ∀ a b, a ∈ F.all → b ∈ F.all → rotS d v s a = rotS d v s b → a = b := by
  intro a b ha hb e
  unfold rotS at e
  by_cases a1 : a = v <;> by_cases b1 : b = v
  · rw [a1, b1]
  · rw [if_pos a1, if_neg b1] at e
    by_cases b2 : b = s
    · rw [if_pos b2] at e; exact absurd e.symm hvd
    · rw [if_neg b2] at e
      rcases hd with h | h
      · exact absurd (e.symm.trans h) b2
      · exact absurd (e ▸ hb) h
  · rw [if_neg a1, if_pos b1] at e
    by_cases a2 : a = s
    · rw [if_pos a2] at e; exact absurd e hvd
    · rw [if_neg a2] at e
      rcases hd with h | h
      · exact absurd (e.trans h) a2
      · exact absurd (e ▸ ha) h
  · rw [if_neg a1, if_neg b1] at e
    by_cases a2 : a = s <;> by_cases b2 : b = s
    · rw [a2, b2]
    · rw [if_pos a2, if_neg b2] at e; exact absurd e.symm b1
    · rw [if_neg a2, if_pos b2] at e; exact absurd e a1
    · rw [if_neg a2, if_neg b2] at e; exact e
theorem mRotate_ok {p : PS} (hp : POk p) {d v s : SlotM} : (mRotate p d v s).2 = p ∨ (Went p (mRotate p d v s).2 (rotS d v s) ∧ HasS (mRotate p d v s).2.l) := by
  unfold mRotate
  split
  · exact .inl rfl
  · rename_i h1
    split
    · exact .inl rfl
    · rename_i h2
      split
      · exact .inl rfl
      · rename_i h3
        have hvd : v ≠ d := fun e => h1 (.inl e)
        have hvs : v ≠ s := fun e => h1 (.inr e)
        obtain ⟨ev, kv, _⟩ := src_ok (Decidable.not_not.1 h2)
        obtain ⟨ks, es, hd⟩ := rotE_ok (Decidable.not_not.1 h3)
        have hva := (hp.on v).2 kv
        have hsa := (hp.on s).2 ks
        have hda : d = s ∨ d ∉ p.F.all := hd.imp id fun h => hp.out h.1
        have haside : ((-1, 0) : SlotM) ∉ p.F.all := fun e => by
          have := hp.rel.neg ((hp.on _).1 e)
          exact absurd this (by decide)
        have hdn : d ≠ (-1, 0) := by
          rcases hd with h | ⟨_, h⟩
          · exact fun e => haside (e ▸ h ▸ hsa)
          · intro e
            obtain ⟨S, hR⟩ := hp.rel
            rw [e, ← rel_get hR] at h
            unfold StoreM.get at h
            cases e2 : S.cap? (-1, 0) with
            | none => rw [e2] at h; exact absurd h (by decide)
            | some c =>
              obtain ⟨n, hn, _⟩ := StoreM.cap_some e2
              have := (hR.wf _ _ hn).2.1
              exact absurd this (by decide)
        right
        rw [ev, es]
        have hg := rot_get hp.rel kv ks hvs hvd hd
        refine ⟨⟨rotS_inj hva hsa hda hvs hvd, rot_F hva hsa hda haside hvs hdn, fun z hz => ?_, fun t ht => ?_⟩, ?_⟩
        · show (dget (mRotL p.l d v s (dget p.l v).1 (dget p.l s).1) (rotS d v s z)).1 = _
          rw [hg]
          unfold rotS
          by_cases a1 : z = v
          · rw [if_pos a1, if_neg (Ne.symm hvd), if_pos rfl, a1]
          · by_cases a2 : z = s
            · rw [if_neg a1, if_pos a2, if_pos rfl, a2]
            · have hzd : z ≠ d := by
                rcases hda with h | h
                · exact fun e => a2 (e.trans h)
                · exact fun e => h (e ▸ hz)
              rw [if_neg a1, if_neg a2, if_neg a1, if_neg hzd, if_neg a2]
        · have ht' : (dget (mRotL p.l d v s (dget p.l v).1 (dget p.l s).1) t).1.kind ≠ 0 := ht
          rw [hg] at ht'
          by_cases b1 : t = v
          · exact ⟨s, hsa, by unfold rotS; rw [if_neg (Ne.symm hvs), if_pos rfl, b1]⟩
          · rw [if_neg b1] at ht'
            by_cases b2 : t = d
            · exact ⟨v, hva, by unfold rotS; rw [if_pos rfl, b2]⟩
            · rw [if_neg b2] at ht'
              by_cases b3 : t = s
              · rw [if_pos b3] at ht'; exact absurd rfl ht'
              · rw [if_neg b3] at ht'
                exact ⟨t, (hp.on t).2 ht', by unfold rotS; rw [if_neg b1, if_neg b3]⟩
        · exact (((hp.rel.take v).take s).put d _).put v _
end Go.Proofs.Ytdodfnjmkpgdbaa
