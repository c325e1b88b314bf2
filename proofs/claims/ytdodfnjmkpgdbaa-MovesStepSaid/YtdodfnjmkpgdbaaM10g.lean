/- Layer 10 in plain Lean, fifth part: what comes of a capability is weaker; what is full, in order. No condition. -/
import Derived.Test.YtdodfnjmkpgdbaaM10e
set_option linter.unusedVariables false
set_option linter.unusedSimpArgs false
set_option linter.unusedSectionVars false
namespace Go.Proofs.Ytdodfnjmkpgdbaa
open Go.SL

/-! ### Nodes that come -/
theorem hasS_nil : HasS [] := ⟨⟨0, 0, []⟩, rel_new rfl⟩
theorem HasS.add {l : List DN} (h : HasS l) (id r : Int) : HasS (dadd l id r).2 := by
  obtain ⟨S, hR⟩ := h
  unfold dadd
  dsimp only
  split
  · rename_i h0; exact ⟨_, rel_add hR (by rw [rel_addErr hR]; exact h0) (insAt_place l) 0 0⟩
  · exact ⟨S, hR⟩
theorem add_get {l : List DN} (h : HasS l) (id r : Int) (s : SlotM) : (dget (dadd l id r).2 s).1 = (dget l s).1 := by
  obtain ⟨S, hR⟩ := h
  unfold dadd
  dsimp only
  split
  · rename_i h0
    have h0' : addErr S id r = 0 := by rw [rel_addErr hR]; exact h0
    have hR2 := rel_add hR h0' (insAt_place l) 0 0
    rw [← rel_get hR2, ← rel_get hR]
    have hno : nget id S.nodes = none := by
      unfold addErr at h0'
      split at h0'
      · cases h0'
      · cases e : nget id S.nodes with
        | none => rfl
        | some n => rw [e] at h0'; simp at h0'
    unfold StoreM.get
    rw [addNode_cap hno]
    by_cases e : s.1 = id
    · rw [if_pos e]
      have : S.cap? s = none := by unfold StoreM.cap?; rw [e, hno]
      rw [this]
      split
      · rfl
      · rename_i x hx
        split at hx
        · cases hx; rfl
        · cases hx
    · rw [if_neg e]
  · rfl
def ps2 (r0 r1 : Int) : PS := ⟨(dadd (dadd PS.new.l 0 r0).2 1 r1).2, PS.new.F⟩
theorem ps2_ok (r0 r1 : Int) : POk (ps2 r0 r1) where
  rel := (hasS_nil.add 0 r0).add 1 r1
  nd := List.nodup_nil
  on := fun s => by
    show s ∈ ([] : List SlotM) ↔ (dget (dadd (dadd [] 0 r0).2 1 r1).2 s).1.kind ≠ 0
    rw [add_get (hasS_nil.add 0 r0), add_get hasS_nil]
    simp [dget, dcap?, dfind]

/-! ### The acts keep it -/
section
variable {p : PS} (hp : POk p)
include hp
theorem POk.plant (s : SlotM) (c : CapM) : POk (mPlant p s c).2 := by
  unfold mPlant
  dsimp only
  by_cases h0 : (dput p.l s c).1 = 0
  · rw [if_pos h0]
    obtain ⟨_, h2, _, h4⟩ := (put_iff hp.rel).1 h0
    have hs := hp.out h2
    have hg := put_get hp.rel h0
    have hF : (ftRoot p.F s).2 = p.F.app (.one s) := by unfold ftRoot; rw [if_neg hs]
    refine ⟨hp.rel.put s c, ftRoot_nd hp.nd, fun t => ?_⟩
    rw [hF]
    show t ∈ (p.F.app (.one s)).all ↔ (dget (dput p.l s c).2 t).1.kind ≠ 0
    rw [hg, Fo.all_app, List.mem_append]
    by_cases e : t = s
    · subst e; rw [if_pos rfl]; simp [Fo.one, Fo.all, h4]
    · rw [if_neg e, ← hp.on t]; simp [Fo.one, Fo.all, e]
  · rw [if_neg h0, dput_no h0]; exact hp
theorem child_F {o s : SlotM} (ho : (dget p.l o).1.kind ≠ 0) (hs : (dget p.l s).1.kind = 0) : (ftChild p.F o s).2 = p.F.addc o s := by
  unfold ftChild; rw [if_pos ((hp.on o).2 ho), if_neg (hp.out hs)]
theorem POk.child (o s : SlotM) (c : CapM) : POk (mChild p o s c).2 := by
  unfold mChild
  split
  · exact hp
  · rename_i hb
    obtain ⟨e1, e2, e3, e4, e5⟩ := both_ok (Decidable.not_not.1 hb)
    dsimp only
    by_cases h0 : (dput p.l s c).1 = 0
    · rw [if_pos h0]
      obtain ⟨_, h2, _, h4⟩ := (put_iff hp.rel).1 h0
      have hg := put_get hp.rel h0
      refine ⟨hp.rel.put s c, ftChild_nd hp.nd, fun t => ?_⟩
      rw [child_F hp e2 e4]
      show t ∈ (p.F.addc o s).all ↔ (dget (dput p.l s c).2 t).1.kind ≠ 0
      rw [hg, Fo.all_addc]
      by_cases e : t = s
      · subst e; rw [if_pos rfl]; simp [h4, (hp.on o).2 e2]
      · rw [if_neg e, ← hp.on t]; simp [e]
    · rw [if_neg h0, dput_no h0]; exact hp
theorem POk.mint (s d : SlotM) (r b g n : Int) : POk (mMint p s d r b g n).2 := by
  unfold mMint
  split
  · exact hp
  · split
    · exact hp
    · exact hp.child _ _ _
theorem POk.copy (s d : SlotM) (r : Int) : POk (mCopy p s d r).2 := hp.mint _ _ _ _ _ _
theorem POk.move (s d : SlotM) : POk (mMove p s d).2 := by
  rcases mMove_ok hp (s := s) (d := d) with h | h
  · rw [h]; exact hp
  · refine h.ok hp ?_
    unfold mMove
    dsimp only
    split
    · exact hp.rel.carry _ _ _
    · exact hp.rel
theorem POk.rotate (d v s : SlotM) : POk (mRotate p d v s).2 := by
  rcases mRotate_ok hp (d := d) (v := v) (s := s) with h | ⟨h, h2⟩
  · rw [h]; exact hp
  · exact h.ok hp h2
theorem take_F {s : SlotM} (h : (dget p.l s).1.kind ≠ 0) : (mTake p s).2.2 = ⟨(dtake p.l s).2.2, p.F.drop s⟩ := by
  unfold mTake
  rw [if_pos ((take_iff hp.rel).2 h)]
  unfold ftDrop
  rw [if_pos ((hp.on s).2 h)]
theorem take_noF {s : SlotM} (h : (dget p.l s).1.kind = 0) : (mTake p s).2.2 = p := by
  have h0 : ¬ (dtake p.l s).2.1 = 0 := fun e => (take_iff hp.rel).1 e h
  unfold mTake
  rw [if_neg h0, take_no hp.rel h0]
theorem POk.take (s : SlotM) : POk (mTake p s).2.2 := by
  by_cases h : (dget p.l s).1.kind = 0
  · rw [take_noF hp h]; exact hp
  · rw [take_F hp h]
    have hg := take_get hp.rel h
    refine ⟨hp.rel.take s, Fo.nd_drop hp.nd, fun t => ?_⟩
    show t ∈ (p.F.drop s).all ↔ (dget (dtake p.l s).2.2 t).1.kind ≠ 0
    rw [hg, Fo.all_drop hp.nd]
    by_cases e : t = s
    · subst e; rw [if_pos rfl]; simp
    · rw [if_neg e, ← hp.on t]; simp [e]
end

/-! ### What is full, in order -/
theorem lexlt_irrefl (a : SlotM) : ¬ lexlt a a := fun h => by unfold lexlt at h; omega
theorem lexlt_asymm {a b : SlotM} (h : lexlt a b) : ¬ lexlt b a := fun k => by unfold lexlt at h k; omega
theorem sorted_ext : ∀ {l m : List SlotM}, l.Pairwise lexlt → m.Pairwise lexlt → (∀ x, x ∈ l ↔ x ∈ m) → l = m
  | [], [], _, _, _ => rfl
  | [], b :: m, _, _, h => absurd ((h b).2 (List.mem_cons_self ..)) (by simp)
  | a :: l, [], _, _, h => absurd ((h a).1 (List.mem_cons_self ..)) (by simp)
  | a :: l, b :: m, hl, hm, h => by
    rw [List.pairwise_cons] at hl hm
    have e : a = b := by
      rcases List.mem_cons.1 ((h a).1 (List.mem_cons_self ..)) with e | ha
      · exact e
      · rcases List.mem_cons.1 ((h b).2 (List.mem_cons_self ..)) with e | hb
        · exact e.symm
        · exact absurd (hl.1 b hb) (lexlt_asymm (hm.1 a ha))
    subst e
    congr 1
    refine sorted_ext hl.2 hm.2 fun x => ?_
    have hx := h x
    simp only [List.mem_cons] at hx
    constructor
    · intro hxl
      rcases hx.1 (.inr hxl) with e | h2
      · exact absurd (e ▸ hl.1 x hxl) (lexlt_irrefl _)
      · exact h2
    · intro hxm
      rcases hx.2 (.inr hxm) with e | h2
      · exact absurd (e ▸ hm.1 x hxm) (lexlt_irrefl _)
      · exact h2
theorem dfull_take {l : List DN} (h : HasS l) {s : SlotM} (hk : (dget l s).1.kind ≠ 0) : dfull (dtake l s).2.2 = (dfull l).filter fun z => decide (z ≠ s) := by
  refine sorted_ext (dfull_sorted (h.take s)) ((dfull_sorted h).filter _) fun x => ?_
  rw [mem_dfull (h.take s), take_get h hk, List.mem_filter, mem_dfull h]
  by_cases e : x = s
  · subst e; rw [if_pos rfl]; simp
  · rw [if_neg e]; simp [e]
theorem filter_ne_len {l : List SlotM} (h : l.Nodup) {s : SlotM} (hs : s ∈ l) : (l.filter fun z => decide (z ≠ s)).length + 1 = l.length := by
  induction l with
  | nil => cases hs
  | cons a l ih =>
    rw [List.nodup_cons] at h
    by_cases e : a = s
    · subst e
      have : l.filter (fun z => decide (z ≠ a)) = l := List.filter_eq_self.2 fun z hz => decide_eq_true fun e => h.1 (e ▸ hz)
      rw [List.filter_cons, if_neg (by simp), this, List.length_cons]
    · rcases List.mem_cons.1 hs with h2 | h2
      · exact absurd h2.symm e
      · rw [List.filter_cons, if_pos (by simp [e]), List.length_cons, List.length_cons, ih h.2 h2]

/-! ### Weaker -/
theorem zero_rg : CapM.zero.Rg := ⟨by unfold i64R; decide, by unfold u64R; decide, by unfold u64R; decide⟩
structure WOk (p : PS) : Prop where
  ok : POk p
  rg : ∀ s, (dget p.l s).1.Rg
  weak : ∀ t x, x ∈ ftKin p.F t → weakM (dget p.l x).1 (dget p.l t).1
theorem kin_in {F : FoS} {t x : SlotM} (h : x ∈ ftKin F t) : t ∈ F.all ∧ x ∈ F.all := by
  refine ⟨Decidable.byContradiction fun e => ?_, Fo.sub_all F t x h⟩
  unfold ftKin at h
  rw [Fo.sub_no _ _ e] at h; cases h
theorem Went.wok {p p' : PS} {σ : SlotM → SlotM} (w : Went p p' σ) (h : WOk p) (hr : HasS p'.l) : WOk p' := by
  have hok := w.ok h.ok hr
  refine ⟨hok, fun s => ?_, fun t x hx => ?_⟩
  · by_cases hk : (dget p'.l s).1.kind = 0
    · rw [hr.zero hk]; exact zero_rg
    · obtain ⟨z, hz, rfl⟩ := w.only s hk
      rw [w.val z hz]; exact h.rg z
  · obtain ⟨ht, _⟩ := kin_in hx
    rw [w.F, Fo.all_map, List.mem_map] at ht
    obtain ⟨z, hz, rfl⟩ := ht
    have hi : Fo.Inj1 σ z p.F := fun y hy e => w.inj y z hy hz e
    unfold ftKin at hx
    rw [w.F, Fo.sub_map hi, Fo.all_map, List.mem_map] at hx
    obtain ⟨y, hy, rfl⟩ := hx
    rw [w.val z hz, w.val y (Fo.sub_all _ _ _ hy)]
    exact h.weak z y hy
theorem Fo.sub_addc_mem {α : Type} [DecidableEq α] {o s t x : α} : ∀ {f : Fo α}, Fo.Nd f → s ∉ f.all → x ∈ (Fo.sub t (f.addc o s)).all → x ∈ (Fo.sub t f).all ∨ (x = s ∧ (t = o ∨ o ∈ (Fo.sub t f).all))
  | .nil, _, _, h => .inl h
  | .cons i c r, hn, hs, h => by
    obtain ⟨n1, n2, n3, n4, n5⟩ := Fo.nd_cons hn
    simp only [Fo.all, List.mem_cons, List.mem_append, not_or] at hs
    have hsc : Fo.sub s c = .nil := Fo.sub_no _ _ hs.2.1
    have hsr : Fo.sub s r = .nil := Fo.sub_no _ _ hs.2.2
    simp only [Fo.addc] at h
    by_cases e : i = o
    · rw [if_pos e] at h
      subst e
      simp only [Fo.sub] at h ⊢
      by_cases e1 : i = t
      · rw [if_pos e1] at h ⊢
        rw [Fo.all_app, List.mem_append] at h
        rcases h with h | h
        · exact .inl h
        · simp [Fo.all] at h; exact .inr ⟨h, .inl e1.symm⟩
      · rw [if_neg e1] at h ⊢
        by_cases e2 : t ∈ c.all
        · rw [if_pos (by rw [Fo.all_app]; exact List.mem_append_left _ e2), Fo.sub_app, if_pos e2] at h
          rw [if_pos e2]; exact .inl h
        · rw [if_neg e2]
          by_cases e3 : t = s
          · subst e3
            rw [if_pos (by rw [Fo.all_app]; simp [Fo.all]), Fo.sub_app, if_neg e2] at h
            simp [Fo.sub, Fo.all] at h
          · rw [if_neg (by rw [Fo.all_app]; simp [Fo.all, e2, e3])] at h
            exact .inl h
    · rw [if_neg e] at h
      simp only [Fo.sub] at h ⊢
      by_cases e1 : i = t
      · rw [if_pos e1] at h ⊢
        rw [Fo.all_addc] at h
        rcases h with h | ⟨h, h2⟩
        · exact .inl h
        · exact .inr ⟨h, .inr h2⟩
      · rw [if_neg e1] at h ⊢
        by_cases e2 : t ∈ c.all
        · rw [if_pos (Fo.all_addc.2 (.inl e2))] at h
          rw [if_pos e2]
          exact Fo.sub_addc_mem n3 hs.2.1 h
        · rw [if_neg e2]
          by_cases e3 : t ∈ (c.addc o s).all
          · rw [if_pos e3] at h
            rcases Fo.all_addc.1 e3 with e4 | ⟨e4, e5⟩
            · exact absurd e4 e2
            · rcases Fo.sub_addc_mem n3 hs.2.1 h with h | ⟨_, h | h⟩
              · rw [e4, hsc] at h; cases h
              · exact absurd (h.symm ▸ e5) e2
              · rw [e4, hsc] at h; cases h
          · rw [if_neg e3] at h
            exact Fo.sub_addc_mem n4 hs.2.2 h
section
variable {p : PS} (h : WOk p)
include h
theorem WOk.plant (s : SlotM) {c : CapM} (hc : c.Rg) : WOk (mPlant p s c).2 := by
  have hok := h.ok.plant s c
  by_cases h0 : (dput p.l s c).1 = 0
  · have hs : s ∉ p.F.all := h.ok.out ((put_iff h.ok.rel).1 h0).2.1
    have hg := put_get h.ok.rel h0
    have he : (mPlant p s c).2 = ⟨(dput p.l s c).2, p.F.app (.one s)⟩ := by
      unfold mPlant ftRoot; rw [if_pos h0, if_neg hs]
    rw [he] at hok ⊢
    refine ⟨hok, fun t => ?_, fun t x hx => ?_⟩
    · show (dget (dput p.l s c).2 t).1.Rg
      rw [hg]; split
      · exact hc
      · exact h.rg t
    · have hx2 : x ∈ ftKin p.F t := by
        have hx' : x ∈ (Fo.sub t (p.F.app (.one s))).all := hx
        rw [Fo.sub_app] at hx'
        split at hx'
        · exact hx'
        · unfold Fo.one Fo.sub at hx'
          split at hx'
          · cases hx'
          · simp [Fo.sub, Fo.all] at hx'
      obtain ⟨ht, hxa⟩ := kin_in hx2
      show weakM (dget (dput p.l s c).2 x).1 (dget (dput p.l s c).2 t).1
      rw [hg, hg, if_neg (fun e : x = s => hs (e ▸ hxa)), if_neg (fun e : t = s => hs (e ▸ ht))]
      exact h.weak t x hx2
  · have : (mPlant p s c).2 = p := mPlant_no h0
    rw [this]; exact h
theorem WOk.child (o s : SlotM) {c : CapM} (hc : c.Rg) (hw : (dget p.l o).1.kind ≠ 0 → checkM c = 0 → weakM c (dget p.l o).1) : WOk (mChild p o s c).2 := by
  have hok := h.ok.child o s c
  by_cases hz : (mChild p o s c).1 = 0
  · unfold mChild at hz hok ⊢
    split at hz
    · rename_i hb; exact absurd hz hb
    · rename_i hb
      rw [if_neg hb] at hok ⊢
      obtain ⟨e1, e2, e3, e4, e5⟩ := both_ok (Decidable.not_not.1 hb)
      have h0 : (dput p.l s c).1 = 0 := hz
      have hs : s ∉ p.F.all := h.ok.out e4
      have hos : o ≠ s := fun e => e2 (e ▸ e4)
      have hg := put_get h.ok.rel h0
      have hwc := hw e2 ((put_iff h.ok.rel).1 h0).2.2.1
      dsimp only at hok ⊢
      rw [if_pos h0, child_F h.ok e2 e4] at hok ⊢
      refine ⟨hok, fun t => ?_, fun t x hx => ?_⟩
      · show (dget (dput p.l s c).2 t).1.Rg
        rw [hg]; split
        · exact hc
        · exact h.rg t
      · show weakM (dget (dput p.l s c).2 x).1 (dget (dput p.l s c).2 t).1
        have key : ∀ {t x : SlotM}, x ∈ ftKin p.F t → weakM (dget (dput p.l s c).2 x).1 (dget (dput p.l s c).2 t).1 := fun {t x} hx => by
          obtain ⟨ht, hxa⟩ := kin_in hx
          rw [hg, hg, if_neg (fun e : x = s => hs (e ▸ hxa)), if_neg (fun e : t = s => hs (e ▸ ht))]
          exact h.weak t x hx
        have hso : weakM (dget (dput p.l s c).2 s).1 (dget (dput p.l s c).2 o).1 := by
          rw [hg, hg, if_pos rfl, if_neg hos]; exact hwc
        rcases Fo.sub_addc_mem h.ok.nd hs hx with hx | ⟨rfl, rfl | hx⟩
        · exact key hx
        · exact hso
        · exact hso.trans (key hx)
  · rw [mChild_no hz]; exact h
theorem WOk.move (s d : SlotM) : WOk (mMove p s d).2 := by
  rcases mMove_ok h.ok (s := s) (d := d) with e | e
  · rw [e]; exact h
  · exact e.wok h (h.ok.move s d).rel
theorem WOk.rotate (d v s : SlotM) : WOk (mRotate p d v s).2 := by
  rcases mRotate_ok h.ok (d := d) (v := v) (s := s) with e | ⟨e, e2⟩
  · rw [e]; exact h
  · exact e.wok h e2
theorem WOk.take (s : SlotM) : WOk (mTake p s).2.2 := by
  by_cases hk : (dget p.l s).1.kind = 0
  · rw [take_noF h.ok hk]; exact h
  · have hok := h.ok.take s
    have hg := take_get h.ok.rel hk
    rw [take_F h.ok hk] at hok ⊢
    refine ⟨hok, fun t => ?_, fun t x hx => ?_⟩
    · show (dget (dtake p.l s).2.2 t).1.Rg
      rw [hg]; split
      · exact zero_rg
      · exact h.rg t
    · show weakM (dget (dtake p.l s).2.2 x).1 (dget (dtake p.l s).2.2 t).1
      obtain ⟨ht, hxa⟩ := kin_in hx
      have ht2 := (Fo.all_drop h.ok.nd).1 ht
      have hx2 := (Fo.all_drop h.ok.nd).1 hxa
      have hx3 : x ∈ ftKin p.F t := by
        have hx' : x ∈ (Fo.sub t (p.F.drop s)).all := hx
        rw [Fo.kin_drop h.ok.nd ht2.2] at hx'
        exact (List.mem_filter.1 hx').1
      rw [hg, hg, if_neg hx2.2, if_neg ht2.2]
      exact h.weak t x hx3
end
theorem ps2_wok (r0 r1 : Int) : WOk (ps2 r0 r1) := by
  have hok := ps2_ok r0 r1
  refine ⟨hok, fun s => ?_, fun t x hx => ?_⟩
  · have hk : (dget (ps2 r0 r1).l s).1.kind = 0 := Decidable.byContradiction fun e => by
      have := (hok.on s).2 e
      cases this
    rw [hok.rel.zero hk]; exact zero_rg
  · obtain ⟨ht, _⟩ := kin_in hx; cases ht

/-! ### What is derived is weaker -/
theorem and_mask4 : d8 (fun a b _ => decide (bitsI .and .i64 (a : Int) (b : Int) = (mask4 a b 3 : Nat))) = true := by kernel_rfl
theorem maskM_eq {a b : Int} (ha : 0 ≤ a ∧ a ≤ 7) (hb : 0 ≤ b ∧ b ≤ 7) (ha2 : rightsOk a = true) (hb2 : rightsOk b = true) : maskM a b = (mask4 a.toNat b.toNat 3 : Nat) := by
  unfold maskM
  rw [if_pos ⟨ha2, hb2⟩]
  have := d8_at and_mask4 (a := a.toNat) (b := b.toNat) (c := 0) (by omega) (by omega) (by omega)
  have e1 : ((a.toNat : Nat) : Int) = a := by omega
  have e2 : ((b.toNat : Nat) : Int) = b := by omega
  simp only [decide_eq_true_iff, e1, e2] at this
  exact this
theorem check_rights {c : CapM} (h : checkM c = 0) : rightsOk c.rights = true := by
  unfold checkM at h
  split at h
  · cases h
  · split at h
    · cases h
    · rename_i hn
      cases e : rightsOk c.rights
      · exact absurd (by simp [e]) hn
      · rfl
theorem mask_rg {a b : Int} (ha : 0 ≤ a ∧ a ≤ 7) (hb : 0 ≤ b ∧ b ≤ 7) (ha2 : rightsOk a = true) (hb2 : rightsOk b = true) : i64R (maskM a b) ∧ withinM (maskM a b) a := by
  rw [maskM_eq ha hb ha2 hb2]
  have := d8_at mask_in (a := a.toNat) (b := b.toNat) (c := 0) (by omega) (by omega) (by omega)
  simp only [Bool.and_eq_true, decide_eq_true_iff] at this
  refine ⟨by unfold i64R; omega, by omega, ha, ?_⟩
  rw [Int.toNat_natCast, this.1]
theorem derive_cases {c : CapM} {r bd g n : Int} (h : (derive c r bd g n).2 = 0) : checkM c = 0 ∧ ((c.kind = 6 ∧ rightsOk r = true ∧ derive c r bd g n = ({ c with rights := maskM c.rights r }, 0)) ∨ (c.kind = 2 ∧ fitsM g n = true ∧ derive c r bd g n = ({ c with guard := g, bits := n }, 0)) ∨
    ((c.kind = 4 ∨ c.kind = 5) ∧ rightsOk r = true ∧ ¬ (bd ≠ 0 ∧ c.badge ≠ 0) ∧ derive c r bd g n = ({ c with rights := maskM c.rights r, badge := if bd ≠ 0 then bd else c.badge }, 0)) ∨ derive c r bd g n = (c, 0)) := by
  have hck : checkM c = 0 := by
    unfold derive at h
    split at h
    · rename_i h1; exact absurd h h1
    · rename_i h1; exact Decidable.not_not.1 h1
  refine ⟨hck, ?_⟩
  unfold derive at h ⊢
  rw [if_neg (fun e => e hck)] at h ⊢
  by_cases h2 : c.kind = 0
  · rw [if_pos h2] at h; cases h
  rw [if_neg h2] at h ⊢
  by_cases h3 : c.kind = 1 ∨ c.kind = 10 ∨ c.kind = 11
  · rw [if_pos h3] at h; cases h
  rw [if_neg h3] at h ⊢
  by_cases h4 : rightsOk r = false
  · rw [if_pos h4] at h; cases h
  have h4' : rightsOk r = true := by cases e : rightsOk r; exact absurd e h4; rfl
  rw [if_neg h4] at h ⊢
  by_cases h5 : c.kind = 6
  · rw [if_pos h5]; exact .inl ⟨h5, h4', rfl⟩
  rw [if_neg h5] at h ⊢
  by_cases h6 : c.kind = 2
  · rw [if_pos h6] at h ⊢
    by_cases h7 : fitsM g n = false
    · rw [if_pos h7] at h; cases h
    · rw [if_neg h7]
      have h7' : fitsM g n = true := by cases e : fitsM g n; exact absurd e h7; rfl
      exact .inr (.inl ⟨h6, h7', rfl⟩)
  rw [if_neg h6] at h ⊢
  by_cases h8 : c.kind = 4 ∨ c.kind = 5
  · rw [if_pos h8] at h ⊢
    by_cases h9 : bd ≠ 0 ∧ c.badge ≠ 0
    · rw [if_pos h9] at h; cases h
    rw [if_neg h9] at h ⊢
    by_cases h10 : (if bd ≠ 0 then bd else c.badge).fdiv (2 ^ 28) ≠ 0
    · rw [if_pos h10] at h; cases h
    rw [if_neg h10]
    exact .inr (.inr (.inl ⟨h8, h4', h9, rfl⟩))
  · rw [if_neg h8]; exact .inr (.inr (.inr rfl))
theorem derive_rg {c : CapM} {r bd g n : Int} (hc : c.Rg) (hr : i64R r) (hb : u64R bd) (hg : u64R g) (h : (derive c r bd g n).2 = 0) : (derive c r bd g n).1.Rg := by
  obtain ⟨hck, h | h | h | h⟩ := derive_cases h
  · have hcr := check_rights hck
    rw [h.2.2]
    exact ⟨(mask_rg ((rights_iff hc.rights).1 hcr) ((rights_iff hr).1 h.2.1) hcr h.2.1).1, hc.badge, hc.guard⟩
  · rw [h.2.2]; exact ⟨hc.rights, hc.badge, hg⟩
  · have hcr := check_rights hck
    rw [h.2.2.2]
    refine ⟨(mask_rg ((rights_iff hc.rights).1 hcr) ((rights_iff hr).1 h.2.1) hcr h.2.1).1, ?_, hc.guard⟩
    dsimp only
    split
    · exact hb
    · exact hc.badge
  · rw [h]; exact hc
theorem derive_weak {c : CapM} {r bd g n : Int} (hc : c.Rg) (hr : i64R r) (h : (derive c r bd g n).2 = 0) (hk : checkM (derive c r bd g n).1 = 0) : weakM (derive c r bd g n).1 c := by
  obtain ⟨hck, h2⟩ := derive_cases h
  have hcr := check_rights hck
  have hc07 := (rights_iff hc.rights).1 hcr
  have h0 := withinM.self hc07
  refine ⟨hk, hck, ?_⟩
  rcases h2 with h | h | h | h
  · have hm := mask_rg hc07 ((rights_iff hr).1 h.2.1) hcr h.2.1
    rw [h.2.2]; exact ⟨rfl, rfl, hm.2, .inr rfl⟩
  · rw [h.2.2]; exact ⟨rfl, rfl, h0, .inr rfl⟩
  · have hm := mask_rg hc07 ((rights_iff hr).1 h.2.1) hcr h.2.1
    rw [h.2.2.2]
    refine ⟨rfl, rfl, hm.2, ?_⟩
    dsimp only
    by_cases hb : bd = 0
    · right; rw [if_neg (by simp [hb])]
    · left; exact Decidable.byContradiction fun e => h.2.2.1 ⟨hb, e⟩
  · rw [h]; exact ⟨rfl, rfl, h0, .inr rfl⟩
theorem WOk.mint {p : PS} (h : WOk p) (s d : SlotM) {r bd g n : Int} (hr : i64R r) (hb : u64R bd) (hg : u64R g) : WOk (mMint p s d r bd g n).2 := by
  unfold mMint
  split
  · exact h
  · rename_i hbo
    split
    · exact h
    · rename_i hd
      obtain ⟨e1, e2, _⟩ := both_ok (Decidable.not_not.1 hbo)
      have hd0 := Decidable.not_not.1 hd
      rw [e1] at hd0 ⊢
      exact h.child s d (derive_rg (h.rg s) hr hb hg hd0) fun _ hck => derive_weak (h.rg s) hr hd0 hck
theorem WOk.copy {p : PS} (h : WOk p) (s d : SlotM) {r : Int} (hr : i64R r) : WOk (mCopy p s d r).2 := h.mint s d hr (by unfold u64R; decide) (h.rg s).guard
end Go.Proofs.Ytdodfnjmkpgdbaa
