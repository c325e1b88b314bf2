/- RevokeDoes. Laid together by pack.py out of the texts in wip. -/
import Derived.Test.YtdodfnjmkpgdbaaGreatPRevokeDoes3
set_option linter.unusedVariables false
set_option linter.unusedSimpArgs false
set_option linter.unusedSectionVars false
section
set_option linter.unusedVariables false
set_option linter.unusedSimpArgs false
set_option linter.unusedSectionVars false
namespace Go.Proofs.YtdodfnjmkpgdbaaGreat
open Go.SL
theorem hasS_nil : HasS [] := ⟨⟨0, 0, []⟩, rel_new rfl⟩
theorem HasS.add {l : List DN} (h : HasS l) (id r : Int) : HasS (dadd l id r).2 := by
 obtain ⟨S, hR⟩ := h
 unfold dadd
 dsimp only
 split
 ·
  rename_i h0; exact ⟨_, rel_add hR (by rw [rel_addErr hR]; exact h0) (insAt_place l) 0 0⟩
 ·
  exact ⟨S, hR⟩
theorem aadd_get {l : List DN} (h : HasS l) (id r : Int) (s : SlotM) : (dget (dadd l id r).2 s).1 = (dget l s).1 := by
 obtain ⟨S, hR⟩ := h
 unfold dadd
 dsimp only
 split
 ·
  rename_i h0
  have h0' : addErr S id r = 0 := by rw [rel_addErr hR]; exact h0
  have hR2 := rel_add hR h0' (insAt_place l) 0 0
  rw [← rel_get hR2, ← rel_get hR]
  have hno : nget id S.nodes = none := by
   unfold addErr at h0'
   split at h0'
   ·
    cases h0'
   ·
    cases e : nget id S.nodes with
    | none => rfl
    | some n => rw [e] at h0'; simp at h0'
  unfold StoreM.get
  rw [addNode_cap hno]
  by_cases e : s.1 = id
  ·
   rw [if_pos e]
   have : S.cap? s = none := by unfold StoreM.cap?; rw [e, hno]
   rw [this]
   split
   ·
    rfl
   ·
    rename_i x hx
    split at hx
    ·
     cases hx; rfl
    ·
     cases hx
  ·
   rw [if_neg e]
 ·
  rfl
section
variable {p : PS} (hp : POk p)
include hp
theorem POk.plant (s : SlotM) (c : CapM) : POk (mPlant p s c).2 := by
 unfold mPlant
 dsimp only
 by_cases h0 : (dput p.l s c).1 = 0
 ·
  rw [if_pos h0]
  obtain ⟨_, h2, _, h4⟩ := (put_iff hp.rel).1 h0
  have hs := hp.out h2
  have hg := put_get hp.rel h0
  have hF : (ftRoot p.F s).2 = p.F.app (.one s) := by unfold ftRoot; rw [if_neg hs]
  refine ⟨hp.rel.put s c, ftRoot_nd hp.nd, fun t => ?_⟩
  rw [hF]
  show t ∈ (p.F.app (.one s)).all ↔ (dget (dput p.l s c).2 t).1.kind ≠ 0
  rw [hg, Fo.all_app, List.mem_append]
  by_cases e : t = s
  ·
   subst e; rw [if_pos rfl]; simp [Fo.one, Fo.all, h4]
  ·
   rw [if_neg e, ← hp.on t]; simp [Fo.one, Fo.all, e]
 ·
  rw [if_neg h0, dput_no h0]; exact hp
theorem child_F {o s : SlotM} (ho : (dget p.l o).1.kind ≠ 0) (hs : (dget p.l s).1.kind = 0) : (ftChild p.F o s).2 = p.F.addc o s := by
 unfold ftChild; rw [if_pos ((hp.on o).2 ho), if_neg (hp.out hs)]
theorem POk.child (o s : SlotM) (c : CapM) : POk (mChild p o s c).2 := by
 unfold mChild
 split
 ·
  exact hp
 ·
  rename_i hb
  obtain ⟨e1, e2, e3, e4, e5⟩ := both_ok (Decidable.not_not.1 hb)
  dsimp only
  by_cases h0 : (dput p.l s c).1 = 0
  ·
   rw [if_pos h0]
   obtain ⟨_, h2, _, h4⟩ := (put_iff hp.rel).1 h0
   have hg := put_get hp.rel h0
   refine ⟨hp.rel.put s c, ftChild_nd hp.nd, fun t => ?_⟩
   rw [child_F hp e2 e4]
   show t ∈ (p.F.addc o s).all ↔ (dget (dput p.l s c).2 t).1.kind ≠ 0
   rw [hg, Fo.all_addc]
   by_cases e : t = s
   ·
    subst e; rw [if_pos rfl]; simp [h4, (hp.on o).2 e2]
   ·
    rw [if_neg e, ← hp.on t]; simp [e]
  ·
   rw [if_neg h0, dput_no h0]; exact hp
theorem POk.mint (s d : SlotM) (r b g n : Int) : POk (mMint p s d r b g n).2 := by
 unfold mMint
 split
 ·
  exact hp
 ·
  split
  ·
   exact hp
  ·
   exact hp.child _ _ _
theorem POk.copy (s d : SlotM) (r : Int) : POk (mCopy p s d r).2 := hp.mint _ _ _ _ _ _
theorem POk.move (s d : SlotM) : POk (mMove p s d).2 := by
 rcases mMove_ok hp (s := s) (d := d) with h | h
 ·
  rw [h]; exact hp
 ·
  refine h.ok hp ?_
  unfold mMove
  dsimp only
  split
  ·
   exact hp.rel.carry _ _ _
  ·
   exact hp.rel
theorem POk.rotate (d v s : SlotM) : POk (mRotate p d v s).2 := by
 rcases mRotate_ok hp (d := d) (v := v) (s := s) with h | ⟨h, h2⟩
 ·
  rw [h]; exact hp
 ·
  exact h.ok hp h2
theorem take_F {s : SlotM} (h : (dget p.l s).1.kind ≠ 0) : (mTake p s).2.2 = ⟨(dtake p.l s).2.2, p.F.drop s⟩ := by
 unfold mTake
 rw [if_pos ((take_iff hp.rel).2 h)]
 unfold ftDrop
 rw [if_pos ((hp.on s).2 h)]
theorem take_noF {s : SlotM} (h : (dget p.l s).1.kind = 0) : (mTake p s).2.2 = p := by
 have h0 : ¬ (dtake p.l s).2.1 = 0 := fun e => (take_iff hp.rel).1 e h
 unfold mTake
 rw [if_neg h0, take_no hp.rel h0]
theorem POk.take (s : SlotM) : POk (mTake p s).2.2 := by
 by_cases h : (dget p.l s).1.kind = 0
 ·
  rw [take_noF hp h]; exact hp
 ·
  rw [take_F hp h]
  have hg := take_get hp.rel h
  refine ⟨hp.rel.take s, Fo.nd_drop hp.nd, fun t => ?_⟩
  show t ∈ (p.F.drop s).all ↔ (dget (dtake p.l s).2.2 t).1.kind ≠ 0
  rw [hg, Fo.all_drop hp.nd]
  by_cases e : t = s
  ·
   subst e; rw [if_pos rfl]; simp
  ·
   rw [if_neg e, ← hp.on t]; simp [e]
end
theorem lexlt_irrefl (a : SlotM) : ¬ lexlt a a := fun h => by unfold lexlt at h; omega
theorem lexlt_asymm {a b : SlotM} (h : lexlt a b) : ¬ lexlt b a := fun k => by unfold lexlt at h k; omega
theorem sorted_ext : ∀ {l m : List SlotM}, l.Pairwise lexlt → m.Pairwise lexlt → (∀ x, x ∈ l ↔ x ∈ m) → l = m
  | [], [], _, _, _ => rfl
  | [], b :: m, _, _, h => absurd ((h b).2 (List.mem_cons_self ..)) (by simp)
  | a :: l, [], _, _, h => absurd ((h a).1 (List.mem_cons_self ..)) (by simp)
  | a :: l, b :: m, hl, hm, h => by
    rw [List.pairwise_cons] at hl hm
    have e : a = b := by
      rcases List.mem_cons.1 ((h a).1 (List.mem_cons_self ..)) with e | ha
      · exact e
      · rcases List.mem_cons.1 ((h b).2 (List.mem_cons_self ..)) with e | hb
        · exact e.symm
        · exact absurd (hl.1 b hb) (lexlt_asymm (hm.1 a ha))
    subst e
    congr 1
    refine sorted_ext hl.2 hm.2 fun x => ?_
    have hx := h x
    simp only [List.mem_cons] at hx
    constructor
    · intro hxl
      rcases hx.1 (.inr hxl) with e | h2
      · exact absurd (e ▸ hl.1 x hxl) (lexlt_irrefl _)
      · exact h2
    · intro hxm
      rcases hx.2 (.inr hxm) with e | h2
      · exact absurd (e ▸ hm.1 x hxm) (lexlt_irrefl _)
      · exact h2
theorem filter_ne_len {l : List SlotM} (h : l.Nodup) {s : SlotM} (hs : s ∈ l) : (l.filter fun z => decide (z ≠ s)).length + 1 = l.length := by
 induction l with
 | nil => cases hs
 | cons a l ih =>
  rw [List.nodup_cons] at h
  by_cases e : a = s
  ·
   subst e
   have : l.filter (fun z => decide (z ≠ a)) = l := List.filter_eq_self.2 fun z hz => decide_eq_true fun e => h.1 (e ▸ hz)
   rw [List.filter_cons, if_neg (by simp), this, List.length_cons]
  ·
   rcases List.mem_cons.1 hs with h2 | h2
   ·
    exact absurd h2.symm e
   ·
    rw [List.filter_cons, if_pos (by simp [e]), List.length_cons, List.length_cons, ih h.2 h2]
theorem zero_rg : CapM.zero.Rg := ⟨by unfold i64R; decide, by unfold u64R; decide, by unfold u64R; decide⟩
structure WOk (p : PS) : Prop where
  ok : POk p
  rg : ∀ s, (dget p.l s).1.Rg
  weak : ∀ t x, x ∈ ftKin p.F t → weakM (dget p.l x).1 (dget p.l t).1
theorem kin_in {F : FoS} {t x : SlotM} (h : x ∈ ftKin F t) : t ∈ F.all ∧ x ∈ F.all := by
 refine ⟨Decidable.byContradiction fun e => ?_, Fo.sub_all F t x h⟩
 unfold ftKin at h
 rw [Fo.sub_no _ _ e] at h; cases h
theorem Went.wok {p p' : PS} {σ : SlotM → SlotM} (w : Went p p' σ) (h : WOk p) (hr : HasS p'.l) : WOk p' := by
 have hok := w.ok h.ok hr
 refine ⟨hok, fun s => ?_, fun t x hx => ?_⟩
 ·
  by_cases hk : (dget p'.l s).1.kind = 0
  ·
   rw [hr.zero hk]; exact zero_rg
  ·
   obtain ⟨z, hz, rfl⟩ := w.only s hk
   rw [w.val z hz]; exact h.rg z
 ·
  obtain ⟨ht, _⟩ := kin_in hx
  rw [w.F, Fo.all_map, List.mem_map] at ht
  obtain ⟨z, hz, rfl⟩ := ht
  have hi : Fo.Inj1 σ z p.F := fun y hy e => w.inj y z hy hz e
  unfold ftKin at hx
  rw [w.F, Fo.sub_map hi, Fo.all_map, List.mem_map] at hx
  obtain ⟨y, hy, rfl⟩ := hx
  rw [w.val z hz, w.val y (Fo.sub_all _ _ _ hy)]
  exact h.weak z y hy
theorem Fo.sub_addc_mem {α : Type} [DecidableEq α] {o s t x : α} : ∀ {f : Fo α}, Fo.Nd f → s ∉ f.all → x ∈ (Fo.sub t (f.addc o s)).all → x ∈ (Fo.sub t f).all ∨ (x = s ∧ (t = o ∨ o ∈ (Fo.sub t f).all))
  | .nil, _, _, h => .inl h
  | .cons i c r, hn, hs, h => by
    obtain ⟨n1, n2, n3, n4, n5⟩ := Fo.nd_cons hn
    simp only [Fo.all, List.mem_cons, List.mem_append, not_or] at hs
    have hsc : Fo.sub s c = .nil := Fo.sub_no _ _ hs.2.1
    have hsr : Fo.sub s r = .nil := Fo.sub_no _ _ hs.2.2
    simp only [Fo.addc] at h
    by_cases e : i = o
    · rw [if_pos e] at h
      subst e
      simp only [Fo.sub] at h ⊢
      by_cases e1 : i = t
      · rw [if_pos e1] at h ⊢
        rw [Fo.all_app, List.mem_append] at h
        rcases h with h | h
        · exact .inl h
        · simp [Fo.all] at h; exact .inr ⟨h, .inl e1.symm⟩
      · rw [if_neg e1] at h ⊢
        by_cases e2 : t ∈ c.all
        · rw [if_pos (by rw [Fo.all_app]; exact List.mem_append_left _ e2), Fo.sub_app, if_pos e2] at h
          rw [if_pos e2]; exact .inl h
        · rw [if_neg e2]
          by_cases e3 : t = s
          · subst e3
            rw [if_pos (by rw [Fo.all_app]; simp [Fo.all]), Fo.sub_app, if_neg e2] at h
            simp [Fo.sub, Fo.all] at h
          · rw [if_neg (by rw [Fo.all_app]; simp [Fo.all, e2, e3])] at h
            exact .inl h
    · rw [if_neg e] at h
      simp only [Fo.sub] at h ⊢
      by_cases e1 : i = t
      · rw [if_pos e1] at h ⊢
        rw [Fo.all_addc] at h
        rcases h with h | ⟨h, h2⟩
        · exact .inl h
        · exact .inr ⟨h, .inr h2⟩
      · rw [if_neg e1] at h ⊢
        by_cases e2 : t ∈ c.all
        · rw [if_pos (Fo.all_addc.2 (.inl e2))] at h
          rw [if_pos e2]
          exact Fo.sub_addc_mem n3 hs.2.1 h
        · rw [if_neg e2]
          by_cases e3 : t ∈ (c.addc o s).all
          · rw [if_pos e3] at h
            rcases Fo.all_addc.1 e3 with e4 | ⟨e4, e5⟩
            · exact absurd e4 e2
            · rcases Fo.sub_addc_mem n3 hs.2.1 h with h | ⟨_, h | h⟩
              · rw [e4, hsc] at h; cases h
              · exact absurd (h.symm ▸ e5) e2
              · rw [e4, hsc] at h; cases h
          · rw [if_neg e3] at h
            exact Fo.sub_addc_mem n4 hs.2.2 h
section
variable {p : PS} (h : WOk p)
include h
theorem WOk.plant (s : SlotM) {c : CapM} (hc : c.Rg) : WOk (mPlant p s c).2 := by
 have hok := h.ok.plant s c
 by_cases h0 : (dput p.l s c).1 = 0
 ·
  have hs : s ∉ p.F.all := h.ok.out ((put_iff h.ok.rel).1 h0).2.1
  have hg := put_get h.ok.rel h0
  have he : (mPlant p s c).2 = ⟨(dput p.l s c).2, p.F.app (.one s)⟩ := by
   unfold mPlant ftRoot; rw [if_pos h0, if_neg hs]
  rw [he] at hok ⊢
  refine ⟨hok, fun t => ?_, fun t x hx => ?_⟩
  ·
   show (dget (dput p.l s c).2 t).1.Rg
   rw [hg]; split
   ·
    exact hc
   ·
    exact h.rg t
  ·
   have hx2 : x ∈ ftKin p.F t := by
    have hx' : x ∈ (Fo.sub t (p.F.app (.one s))).all := hx
    rw [Fo.sub_app] at hx'
    split at hx'
    ·
     exact hx'
    ·
     unfold Fo.one Fo.sub at hx'
     split at hx'
     ·
      cases hx'
     ·
      simp [Fo.sub, Fo.all] at hx'
   obtain ⟨ht, hxa⟩ := kin_in hx2
   show weakM (dget (dput p.l s c).2 x).1 (dget (dput p.l s c).2 t).1
   rw [hg, hg, if_neg (fun e : x = s => hs (e ▸ hxa)), if_neg (fun e : t = s => hs (e ▸ ht))]
   exact h.weak t x hx2
 ·
  have : (mPlant p s c).2 = p := mPlant_no h0
  rw [this]; exact h
theorem WOk.child (o s : SlotM) {c : CapM} (hc : c.Rg) (hw : (dget p.l o).1.kind ≠ 0 → checkM c = 0 → weakM c (dget p.l o).1) : WOk (mChild p o s c).2 := by
 have hok := h.ok.child o s c
 by_cases hz : (mChild p o s c).1 = 0
 ·
  unfold mChild at hz hok ⊢
  split at hz
  ·
   rename_i hb; exact absurd hz hb
  ·
   rename_i hb
   rw [if_neg hb] at hok ⊢
   obtain ⟨e1, e2, e3, e4, e5⟩ := both_ok (Decidable.not_not.1 hb)
   have h0 : (dput p.l s c).1 = 0 := hz
   have hs : s ∉ p.F.all := h.ok.out e4
   have hos : o ≠ s := fun e => e2 (e ▸ e4)
   have hg := put_get h.ok.rel h0
   have hwc := hw e2 ((put_iff h.ok.rel).1 h0).2.2.1
   dsimp only at hok ⊢
   rw [if_pos h0, child_F h.ok e2 e4] at hok ⊢
   refine ⟨hok, fun t => ?_, fun t x hx => ?_⟩
   ·
    show (dget (dput p.l s c).2 t).1.Rg
    rw [hg]; split
    ·
     exact hc
    ·
     exact h.rg t
   ·
    show weakM (dget (dput p.l s c).2 x).1 (dget (dput p.l s c).2 t).1
    have key : ∀ {t x : SlotM}, x ∈ ftKin p.F t → weakM (dget (dput p.l s c).2 x).1 (dget (dput p.l s c).2 t).1 := fun {t x} hx => by
     obtain ⟨ht, hxa⟩ := kin_in hx
     rw [hg, hg, if_neg (fun e : x = s => hs (e ▸ hxa)), if_neg (fun e : t = s => hs (e ▸ ht))]
     exact h.weak t x hx
    have hso : weakM (dget (dput p.l s c).2 s).1 (dget (dput p.l s c).2 o).1 := by
     rw [hg, hg, if_pos rfl, if_neg hos]; exact hwc
    rcases Fo.sub_addc_mem h.ok.nd hs hx with hx | ⟨rfl, rfl | hx⟩
    ·
     exact key hx
    ·
     exact hso
    ·
     exact hso.trans (key hx)
 ·
  rw [mChild_no hz]; exact h
theorem WOk.move (s d : SlotM) : WOk (mMove p s d).2 := by
 rcases mMove_ok h.ok (s := s) (d := d) with e | e
 ·
  rw [e]; exact h
 ·
  exact e.wok h (h.ok.move s d).rel
theorem WOk.rotate (d v s : SlotM) : WOk (mRotate p d v s).2 := by
 rcases mRotate_ok h.ok (d := d) (v := v) (s := s) with e | ⟨e, e2⟩
 ·
  rw [e]; exact h
 ·
  exact e.wok h e2
theorem WOk.take (s : SlotM) : WOk (mTake p s).2.2 := by
 by_cases hk : (dget p.l s).1.kind = 0
 ·
  rw [take_noF h.ok hk]; exact h
 ·
  have hok := h.ok.take s
  have hg := take_get h.ok.rel hk
  rw [take_F h.ok hk] at hok ⊢
  refine ⟨hok, fun t => ?_, fun t x hx => ?_⟩
  ·
   show (dget (dtake p.l s).2.2 t).1.Rg
   rw [hg]; split
   ·
    exact zero_rg
   ·
    exact h.rg t
  ·
   show weakM (dget (dtake p.l s).2.2 x).1 (dget (dtake p.l s).2.2 t).1
   obtain ⟨ht, hxa⟩ := kin_in hx
   have ht2 := (Fo.all_drop h.ok.nd).1 ht
   have hx2 := (Fo.all_drop h.ok.nd).1 hxa
   have hx3 : x ∈ ftKin p.F t := by
    have hx' : x ∈ (Fo.sub t (p.F.drop s)).all := hx
    rw [Fo.kin_drop h.ok.nd ht2.2] at hx'
    exact (List.mem_filter.1 hx').1
   rw [hg, hg, if_neg hx2.2, if_neg ht2.2]
   exact h.weak t x hx3
end
theorem and_mask4 : d8 (fun a b _ => decide (bitsI .and .i64 (a : Int) (b : Int) = (mask4 a b 3 : Nat))) = true := by kernel_rfl
theorem maskM_eq {a b : Int} (ha : 0 ≤ a ∧ a ≤ 7) (hb : 0 ≤ b ∧ b ≤ 7) (ha2 : rightsOk a = true) (hb2 : rightsOk b = true) : maskM a b = (mask4 a.toNat b.toNat 3 : Nat) := by
 unfold maskM
 rw [if_pos ⟨ha2, hb2⟩]
 have := d8_at and_mask4 (a := a.toNat) (b := b.toNat) (c := 0) (by omega) (by omega) (by omega)
 have e1 : ((a.toNat : Nat) : Int) = a := by omega
 have e2 : ((b.toNat : Nat) : Int) = b := by omega
 simp only [decide_eq_true_iff, e1, e2] at this
 exact this
theorem check_rights {c : CapM} (h : checkM c = 0) : rightsOk c.rights = true := by
 unfold checkM at h
 split at h
 ·
  cases h
 ·
  split at h
  ·
   cases h
  ·
   rename_i hn
   cases e : rightsOk c.rights
   ·
    exact absurd (by simp [e]) hn
   ·
    rfl
theorem mask_rg {a b : Int} (ha : 0 ≤ a ∧ a ≤ 7) (hb : 0 ≤ b ∧ b ≤ 7) (ha2 : rightsOk a = true) (hb2 : rightsOk b = true) : i64R (maskM a b) ∧ withinM (maskM a b) a := by
 rw [maskM_eq ha hb ha2 hb2]
 have := d8_at mask_in (a := a.toNat) (b := b.toNat) (c := 0) (by omega) (by omega) (by omega)
 simp only [Bool.and_eq_true, decide_eq_true_iff] at this
 refine ⟨by unfold i64R; omega, by omega, ha, ?_⟩
 rw [Int.toNat_natCast, this.1]
theorem derive_cases {c : CapM} {r bd g n : Int} (h : (derive c r bd g n).2 = 0) : checkM c = 0 ∧ ((c.kind = 6 ∧ rightsOk r = true ∧ derive c r bd g n = ({ c with rights := maskM c.rights r }, 0)) ∨ (c.kind = 2 ∧ fitsM g n = true ∧ derive c r bd g n = ({ c with guard := g, bits := n }, 0)) ∨
    ((c.kind = 4 ∨ c.kind = 5) ∧ rightsOk r = true ∧ ¬ (bd ≠ 0 ∧ c.badge ≠ 0) ∧ derive c r bd g n = ({ c with rights := maskM c.rights r, badge := if bd ≠ 0 then bd else c.badge }, 0)) ∨ derive c r bd g n = (c, 0)) := by
  have hck : checkM c = 0 := by
    unfold derive at h
    split at h
    · rename_i h1; exact absurd h h1
    · rename_i h1; exact Decidable.not_not.1 h1
  refine ⟨hck, ?_⟩
  unfold derive at h ⊢
  rw [if_neg (fun e => e hck)] at h ⊢
  by_cases h2 : c.kind = 0
  · rw [if_pos h2] at h; cases h
  rw [if_neg h2] at h ⊢
  by_cases h3 : c.kind = 1 ∨ c.kind = 10 ∨ c.kind = 11
  · rw [if_pos h3] at h; cases h
  rw [if_neg h3] at h ⊢
  by_cases h4 : rightsOk r = false
  · rw [if_pos h4] at h; cases h
  have h4' : rightsOk r = true := by cases e : rightsOk r; exact absurd e h4; rfl
  rw [if_neg h4] at h ⊢
  by_cases h5 : c.kind = 6
  · rw [if_pos h5]; exact .inl ⟨h5, h4', rfl⟩
  rw [if_neg h5] at h ⊢
  by_cases h6 : c.kind = 2
  · rw [if_pos h6] at h ⊢
    by_cases h7 : fitsM g n = false
    · rw [if_pos h7] at h; cases h
    · rw [if_neg h7]
      have h7' : fitsM g n = true := by cases e : fitsM g n; exact absurd e h7; rfl
      exact .inr (.inl ⟨h6, h7', rfl⟩)
  rw [if_neg h6] at h ⊢
  by_cases h8 : c.kind = 4 ∨ c.kind = 5
  · rw [if_pos h8] at h ⊢
    by_cases h9 : bd ≠ 0 ∧ c.badge ≠ 0
    · rw [if_pos h9] at h; cases h
    rw [if_neg h9] at h ⊢
    by_cases h10 : (if bd ≠ 0 then bd else c.badge).fdiv (2 ^ 28) ≠ 0
    · rw [if_pos h10] at h; cases h
    rw [if_neg h10]
    exact .inr (.inr (.inl ⟨h8, h4', h9, rfl⟩))
  · rw [if_neg h8]; exact .inr (.inr (.inr rfl))
theorem derive_rg {c : CapM} {r bd g n : Int} (hc : c.Rg) (hr : i64R r) (hb : u64R bd) (hg : u64R g) (h : (derive c r bd g n).2 = 0) : (derive c r bd g n).1.Rg := by
 obtain ⟨hck, h | h | h | h⟩ := derive_cases h
 ·
  have hcr := check_rights hck
  rw [h.2.2]
  exact ⟨(mask_rg ((rights_iff hc.rights).1 hcr) ((rights_iff hr).1 h.2.1) hcr h.2.1).1, hc.badge, hc.guard⟩
 ·
  rw [h.2.2]; exact ⟨hc.rights, hc.badge, hg⟩
 ·
  have hcr := check_rights hck
  rw [h.2.2.2]
  refine ⟨(mask_rg ((rights_iff hc.rights).1 hcr) ((rights_iff hr).1 h.2.1) hcr h.2.1).1, ?_, hc.guard⟩
  dsimp only
  split
  ·
   exact hb
  ·
   exact hc.badge
 ·
  rw [h]; exact hc
theorem derive_weak {c : CapM} {r bd g n : Int} (hc : c.Rg) (hr : i64R r) (h : (derive c r bd g n).2 = 0) (hk : checkM (derive c r bd g n).1 = 0) : weakM (derive c r bd g n).1 c := by
 obtain ⟨hck, h2⟩ := derive_cases h
 have hcr := check_rights hck
 have hc07 := (rights_iff hc.rights).1 hcr
 have h0 := withinM.self hc07
 refine ⟨hk, hck, ?_⟩
 rcases h2 with h | h | h | h
 ·
  have hm := mask_rg hc07 ((rights_iff hr).1 h.2.1) hcr h.2.1
  rw [h.2.2]; exact ⟨rfl, rfl, hm.2, .inr rfl⟩
 ·
  rw [h.2.2]; exact ⟨rfl, rfl, h0, .inr rfl⟩
 ·
  have hm := mask_rg hc07 ((rights_iff hr).1 h.2.1) hcr h.2.1
  rw [h.2.2.2]
  refine ⟨rfl, rfl, hm.2, ?_⟩
  dsimp only
  by_cases hb : bd = 0
  ·
   right; rw [if_neg (by simp [hb])]
  ·
   left; exact Decidable.byContradiction fun e => h.2.2.1 ⟨hb, e⟩
 ·
  rw [h]; exact ⟨rfl, rfl, h0, .inr rfl⟩
theorem WOk.mint {p : PS} (h : WOk p) (s d : SlotM) {r bd g n : Int} (hr : i64R r) (hb : u64R bd) (hg : u64R g) : WOk (mMint p s d r bd g n).2 := by
 unfold mMint
 split
 ·
  exact h
 ·
  rename_i hbo
  split
  ·
   exact h
  ·
   rename_i hd
   obtain ⟨e1, e2, _⟩ := both_ok (Decidable.not_not.1 hbo)
   have hd0 := Decidable.not_not.1 hd
   rw [e1] at hd0 ⊢
   exact h.child s d (derive_rg (h.rg s) hr hb hg hd0) fun _ hck => derive_weak (h.rg s) hr hd0 hck
theorem WOk.copy {p : PS} (h : WOk p) (s d : SlotM) {r : Int} (hr : i64R r) : WOk (mCopy p s d r).2 := h.mint s d hr (by unfold u64R; decide) (h.rg s).guard
end Go.Proofs.YtdodfnjmkpgdbaaGreat
end
section
set_option linter.unusedVariables false
set_option linter.unusedSimpArgs false
namespace Go.Proofs.YtdodfnjmkpgdbaaGreat
open Go.SL
section
variable {S : StoreM} {p m l : Nat} {c : CapM}
end
structure PutM where
  slot : SlotM
  c : CapM
abbrev PutM.cells (o : PutM) : List Value := [.int .i64 o.slot.1, .int .i64 o.slot.2, .int .i64 o.c.kind, .int .i64 o.c.object, .int .i64 o.c.rights, .int .u64 o.c.badge, .int .u64 o.c.guard, .int .i64 o.c.bits]
end Go.Proofs.YtdodfnjmkpgdbaaGreat
end
section
set_option linter.unusedVariables false
set_option linter.unusedSimpArgs false
set_option linter.unusedSectionVars false
namespace Go.Proofs.YtdodfnjmkpgdbaaGreat
open Go.SL
section
variable {S S1 : StoreM} (hg : ∀ s, S.get s = S1.get s) (hr : ∀ id, S.radix id = S1.radix id)
include hg hr
end
theorem check_iff {c : CapM} : checkM c = 0 ↔ ¬ (c.kind < 0 ∨ 11 < c.kind) ∧ plainM c = c ∧ ¬ c.object < 0 ∧ c.object.fdiv (2 ^ 6) = 0 ∧ rightsOk c.rights = true ∧ c.badge.fdiv (2 ^ 28) = 0 ∧ fitsM c.guard c.bits = true := by
 unfold checkM
 by_cases h1 : c.kind < 0 ∨ 11 < c.kind
 ·
  rw [if_pos h1]; simp [h1]
 ·
  rw [if_neg h1]
  by_cases h2 : plainM c ≠ c ∨ c.object < 0 ∨ c.object.fdiv (2 ^ 6) ≠ 0 ∨ rightsOk c.rights = false ∨ c.badge.fdiv (2 ^ 28) ≠ 0 ∨ fitsM c.guard c.bits = false
  ·
   rw [if_pos h2]
   constructor
   ·
    intro h; cases h
   ·
    rintro ⟨_, a1, a2, a3, a4, a5, a6⟩
    rcases h2 with h | h | h | h | h | h
    ·
     exact absurd a1 h
    ·
     exact absurd h a2
    ·
     exact absurd a3 h
    ·
     rw [a4] at h; cases h
    ·
     exact absurd a5 h
    ·
     rw [a6] at h; cases h
  ·
   rw [if_neg h2]
   simp only [not_or] at h2
   obtain ⟨a1, a2, a3, a4, a5, a6⟩ := h2
   refine ⟨fun _ => ⟨h1, Decidable.not_not.1 a1, a2, Decidable.not_not.1 a3, ?_, Decidable.not_not.1 a5, ?_⟩, fun _ => rfl⟩
   ·
    cases e : rightsOk c.rights; exact absurd e a4; rfl
   ·
    cases e : fitsM c.guard c.bits; exact absurd e a6; rfl
theorem mask_ok {a b : Int} (ha : 0 ≤ a ∧ a ≤ 7) (hb : 0 ≤ b ∧ b ≤ 7) (ha2 : rightsOk a = true) (hb2 : rightsOk b = true) : rightsOk (maskM a b) = true := by
 have h := mask_rg ha hb ha2 hb2
 exact (rights_iff h.1).2 h.2.1
theorem derive_check {c : CapM} {r bd g n : Int} (hc : c.Rg) (hr : i64R r) (h : (derive c r bd g n).2 = 0) : checkM (derive c r bd g n).1 = 0 ∧ (derive c r bd g n).1.kind = c.kind := by
 obtain ⟨hck, h2⟩ := derive_cases h
 obtain ⟨k1, k2, k3, k4, k5, k6, k7⟩ := check_iff.1 hck
 have hcr := (rights_iff hc.rights).1 k5
 rcases h2 with ⟨e1, e2, e3⟩ | ⟨e1, e2, e3⟩ | ⟨e1, e2, e4, e3⟩ | e3
 ·
  rw [e3]
  refine ⟨check_iff.2 ⟨k1, ?_, k3, k4, mask_ok hcr ((rights_iff hr).1 e2) k5 e2, k6, k7⟩, rfl⟩
  obtain ⟨a, b, c', d, e, f⟩ := c
  simp only at e1 k2 ⊢
  subst e1
  simp [plainM] at k2 ⊢
  omega
 ·
  rw [e3]
  refine ⟨check_iff.2 ⟨k1, ?_, k3, k4, k5, k6, e2⟩, rfl⟩
  obtain ⟨a, b, c', d, e, f⟩ := c
  simp only at e1 k2 ⊢
  subst e1
  simp [plainM] at k2 ⊢
  omega
 ·
  have hb : (if bd ≠ 0 then bd else c.badge).fdiv (2 ^ 28) = 0 := by
   have h3 := h
   unfold derive at h3
   rw [if_neg (fun e => e hck), if_neg (by omega), if_neg (by omega), if_neg (by simp [e2]), if_neg (by omega), if_neg (by omega), if_pos e1, if_neg e4] at h3
   by_cases hx : (if bd ≠ 0 then bd else c.badge).fdiv (2 ^ 28) ≠ 0
   ·
    rw [if_pos hx] at h3; cases h3
   ·
    exact Decidable.not_not.1 hx
  rw [e3]
  refine ⟨check_iff.2 ⟨k1, ?_, k3, k4, mask_ok hcr ((rights_iff hr).1 e2) k5 e2, hb, k7⟩, rfl⟩
  obtain ⟨a, b, c', d, e, f⟩ := c
  simp only at e1 k2 ⊢
  rcases e1 with e1 | e1 <;> subst e1 <;> simp [plainM] at k2 ⊢ <;> omega
 ·
  rw [e3]; exact ⟨hck, rfl⟩
end Go.Proofs.YtdodfnjmkpgdbaaGreat
end
section
set_option linter.unusedVariables false
set_option linter.unusedSimpArgs false
set_option linter.unusedSectionVars false
namespace Go.Proofs.YtdodfnjmkpgdbaaGreat
open Go.SL
theorem PS.ext' {p q : PS} (h1 : p.l = q.l) (h2 : p.F = q.F) : p = q := by cases p; cases q; simp only at h1 h2; rw [h1, h2]
theorem dtake_set {l : List DN} {s : SlotM} (h : (dget l s).1.kind ≠ 0) : (dtake l s).2.2 = dsetC l s CapM.zero := by
 unfold dget at h
 unfold dtake
 cases e : dcap? l s with
 | none => rw [e] at h; exact absurd rfl h
 | some x => rw [e] at h; dsimp only at h ⊢; rw [if_neg h]
theorem dput_set {l : List DN} {s : SlotM} {c : CapM} (h : (dput l s c).1 = 0) : (dput l s c).2 = dsetC l s c := by
 unfold dput at h ⊢
 cases e : dcap? l s with
 | none => rw [e] at h; cases h
 | some x =>
  rw [e] at h
  dsimp only at h ⊢
  by_cases h1 : checkM c ≠ 0
  ·
   rw [if_pos h1] at h; exact absurd h h1
  ·
   rw [if_neg h1] at h ⊢
   by_cases h2 : c.kind = 0
   ·
    rw [if_pos h2] at h; cases h
   ·
    rw [if_neg h2] at h ⊢
    by_cases h3 : x.kind ≠ 0
    ·
     rw [if_pos h3] at h; cases h
    ·
     rw [if_neg h3]
theorem dset_comm {l : List DN} {s t : SlotM} {x y : CapM} {a b : DN} (h : s ≠ t) (hs : 0 ≤ s.2) (ht : 0 ≤ t.2) (e1 : dfind l s.1 = some a) (e2 : dfind l t.1 = some b) : dsetC (dsetC l s x) t y = dsetC (dsetC l t y) s x := by
 obtain ⟨i, hi, hdi, hidi⟩ := dfind_some e1
 obtain ⟨j, hj, hdj, hidj⟩ := dfind_some e2
 have s1 := dsetC_eq e1 hi x
 have s2 := dsetC_eq e2 hj y
 have f1 : ∀ o, dfind (l.set i { a with caps := a.caps.set s.2.toNat x }) o = if o = s.1 then some { a with caps := a.caps.set s.2.toNat x } else dfind l o := fun o => by
  have := dfind_set (d := a) (d' := { a with caps := a.caps.set s.2.toNat x }) rfl o e1
  rwa [hi, Int.toNat_natCast] at this
 have f2 : ∀ o, dfind (l.set j { b with caps := b.caps.set t.2.toNat y }) o = if o = t.1 then some { b with caps := b.caps.set t.2.toNat y } else dfind l o := fun o => by
  have := dfind_set (d := b) (d' := { b with caps := b.caps.set t.2.toNat y }) rfl o e2
  rwa [hj, Int.toNat_natCast] at this
 have i1 : dIds (l.set i { a with caps := a.caps.set s.2.toNat x }) = dIds l := dIds_set hdi rfl
 have i2 : dIds (l.set j { b with caps := b.caps.set t.2.toNat y }) = dIds l := dIds_set hdj rfl
 rw [s1, s2]
 by_cases hst : s.1 = t.1
 ·
  have hab : a = b := by rw [hst, e2] at e1; exact (Option.some.inj e1).symm
  subst hab
  have hij : i = j := by rw [hst, hj] at hi; omega
  subst hij
  have h2 : s.2.toNat ≠ t.2.toNat := fun e => h (Prod.ext hst (by omega))
  rw [dsetC_eq (d := { a with caps := a.caps.set s.2.toNat x }) (i := i) (by rw [f1, if_pos hst.symm]) (by rw [i1]; exact hj), dsetC_eq (d := { a with caps := a.caps.set t.2.toNat y }) (i := i) (by rw [f2, if_pos hst]) (by rw [i2]; exact hi)]
  rw [List.set_set, List.set_set]
  simp only [List.set_comm _ _ h2]
 ·
  have hij : i ≠ j := fun e => by
   subst e
   rw [hdi] at hdj
   have : a = b := Option.some.inj hdj
   rw [this] at hidi
   exact hst (hidi.symm.trans hidj)
  rw [dsetC_eq (d := b) (i := j) (by rw [f1, if_neg (Ne.symm hst)]; exact e2) (by rw [i1]; exact hj), dsetC_eq (d := a) (i := i) (by rw [f2, if_neg hst]; exact e1) (by rw [i2]; exact hi)]
  exact List.set_comm _ _ hij
theorem dget_node {l : List DN} {s : SlotM} (h : (dget l s).2 = 0) : 0 ≤ s.2 ∧ ∃ a, dfind l s.1 = some a := by
 unfold dget at h
 cases e : dcap? l s with
 | none => rw [e] at h; exact absurd h (by decide)
 | some x =>
  obtain ⟨d, hd, hh, _⟩ := dcap_some e
  exact ⟨hh.1, d, hd⟩
theorem rot_doc {p : PS} (hp : POk p) {d v s : SlotM} (hv : (dget p.l v).1.kind ≠ 0) (hs : (dget p.l s).1.kind ≠ 0) (hvs : v ≠ s) (hvd : v ≠ d) (hds : d ≠ s) (hd : (dget p.l d).1.kind = 0) (hd2 : (dget p.l d).2 = 0) :
    mCarry (mCarry p v d (dget p.l v).1) s v (dget p.l s).1 = ⟨mRotL p.l d v s (dget p.l v).1 (dget p.l s).1, mRotF p.F d v s⟩ := by
  have hva := (hp.on v).2 hv
  have hsa := (hp.on s).2 hs
  have hda := hp.out hd
  have haside : ((-1, 0) : SlotM) ∉ p.F.all := fun e => by
    have := hp.rel.neg ((hp.on _).1 e)
    exact absurd this (by decide)
  obtain ⟨n1, a, ea⟩ := dget_node hd2
  have hdn : d ≠ (-1, 0) := fun e => by
    obtain ⟨S, hR⟩ := hp.rel
    rw [e, ← rel_get hR] at hd2
    unfold StoreM.get at hd2
    cases e2 : S.cap? (-1, 0) with
    | none => rw [e2] at hd2; exact absurd hd2 (by decide)
    | some c =>
      obtain ⟨n, hn, _⟩ := StoreM.cap_some e2
      exact absurd (hR.wf _ _ hn).2.1 (by decide)
  have hF : (mCarry (mCarry p v d (dget p.l v).1) s v (dget p.l s).1).F = mRotF p.F d v s := by
    rw [rot_F hva hsa (.inr hda) haside hvs hdn]
    show (ftMove (ftMove p.F v d).2 s v).2 = _
    rw [mv_all hva hda]
    have m1 : s ∈ (p.F.map (ren v d)).all := (map_nd_ren hda).2 (.inr ⟨Ne.symm hvs, hsa⟩)
    have m2 : v ∉ (p.F.map (ren v d)).all := fun h => by
      rcases (map_nd_ren hda).1 h with ⟨h, _⟩ | ⟨h, _⟩
      · exact hvd h
      · exact h rfl
    rw [mv_all m1 m2, Fo.map_map]
    refine Fo.map_congr fun z hz => ?_
    have hzd : z ≠ d := fun e => hda (e ▸ hz)
    unfold ren rotS
    by_cases h1 : z = v
    · subst h1; simp [hds]
    · by_cases h2 : z = s
      · subst h2; simp [h1]
      · simp [h1, h2]
  have hl : (mCarry (mCarry p v d (dget p.l v).1) s v (dget p.l s).1).l = mRotL p.l d v s (dget p.l v).1 (dget p.l s).1 := by
    have g1 := take_get hp.rel hv
    have p1 : (dput (dtake p.l v).2.2 d (dget p.l v).1).1 = 0 := (put_iff (hp.rel.take v)).2 ⟨by rw [g1, if_neg (Ne.symm hvd)]; exact hd2, by rw [g1, if_neg (Ne.symm hvd)]; exact hd, hp.rel.check hv, hv⟩
    have g2 := put_get (hp.rel.take v) p1
    have k2 : (dget (dput (dtake p.l v).2.2 d (dget p.l v).1).2 s).1.kind ≠ 0 := by rw [g2, if_neg (Ne.symm hds), g1, if_neg (Ne.symm hvs)]; exact hs
    have k1 : (dget (dtake p.l v).2.2 s).1.kind ≠ 0 := by rw [g1, if_neg (Ne.symm hvs)]; exact hs
    have g3 := take_get (hp.rel.take v) k1
    have p2 : (dput (dtake (dtake p.l v).2.2 s).2.2 d (dget p.l v).1).1 = 0 := (put_iff ((hp.rel.take v).take s)).2 ⟨by rw [g3, if_neg hds, g1, if_neg (Ne.symm hvd)]; exact hd2, by rw [g3, if_neg hds, g1, if_neg (Ne.symm hvd)]; exact hd, hp.rel.check hv, hv⟩
    show (dput (dtake (dput (dtake p.l v).2.2 d (dget p.l v).1).2 s).2.2 v (dget p.l s).1).2 = (dput (dput (dtake (dtake p.l v).2.2 s).2.2 d (dget p.l v).1).2 v (dget p.l s).1).2
    rw [dtake_set k2, dput_set p1, dput_set p2, dtake_set k1]
    have hsz : (dget (dtake p.l v).2.2 s).2 = 0 := dget_le k1
    have hdz : (dget (dtake p.l v).2.2 d).2 = 0 := by rw [g1, if_neg (Ne.symm hvd)]; exact hd2
    obtain ⟨n2, b, eb⟩ := dget_node hsz
    obtain ⟨n3, c, ec⟩ := dget_node hdz
    rw [dset_comm hds n3 n2 ec eb]
  exact PS.ext' hl hF
end Go.Proofs.YtdodfnjmkpgdbaaGreat
end
section
set_option linter.unusedVariables false
set_option linter.unusedSimpArgs false
namespace Go.Proofs.YtdodfnjmkpgdbaaGreat
open Go.SL
abbrev KnM := SlotM × Int
def kmC (k : KnM) : List Value := [.int .i64 k.1.1, .int .i64 k.1.2, .int .i64 k.2]
instance : Enc kmC 3 := ⟨fun _ => rfl, fun _ => rfl⟩
abbrev dtBlk (uS : Value) (qb : Nat) (v : Value) : Nat × Obj := (qb, .cells [uS, v].toArray 50)
def DtrH (uS : Value) (l : List KnM) (qb : Nat) (L : Hp) : Prop := ∃ v H, Slc 105 3 v l.length (cel kmC l) H ∧ L = dtBlk uS qb v :: H
def idxK : List KnM → SlotM → Int
  | [], _ => -1
  | a :: l, s => if a.1 = s then 0 else if idxK l s < 0 then -1 else idxK l s + 1
theorem idxK_hit : ∀ {l : List KnM} {i : Nat} {k : KnM} {s : SlotM}, l[i]? = some k → k.1 = s → (∀ j k, j < i → l[j]? = some k → k.1 ≠ s) → idxK l s = i
  | [], i, k, s, h, _, _ => by simp at h
  | a :: l, 0, k, s, h, hs, _ => by simp at h; subst h; simp [idxK, hs]
  | a :: l, i + 1, k, s, h, hs, hn => by
    have h0 : a.1 ≠ s := hn 0 a (by omega) rfl
    have ih := idxK_hit (l := l) (i := i) (k := k) (s := s) (by simpa using h) hs (fun j k hj hk => hn (j + 1) k (by omega) (by simpa using hk))
    simp only [idxK, if_neg h0, ih]
    rw [if_neg (by omega)]; push_cast; rfl
theorem idxK_miss : ∀ {l : List KnM} {s : SlotM}, (∀ j k, j < l.length → l[j]? = some k → k.1 ≠ s) → idxK l s = -1
  | [], _, _ => rfl
  | a :: l, s, hn => by
    have h0 : a.1 ≠ s := hn 0 a (by simp) rfl
    have ih := idxK_miss (l := l) (s := s) (fun j k hj hk => hn (j + 1) k (by simpa using hj) (by simpa using hk))
    simp only [idxK, if_neg h0, ih]; rfl
structure DCut (l A : List KnM) (k : KnM) (C B : List KnM) : Prop where
  row : l = A ++ k :: (C ++ B)
  kin : ∀ c, c ∈ C → k.2 < c.2
  behind : ∀ b, B.head? = some b → b.2 ≤ k.2
theorem DCut.at {l A C B : List KnM} {k : KnM} (h : DCut l A k C B) : l[A.length]? = some k := by rw [h.row]; simp
theorem DCut.len {l A C B : List KnM} {k : KnM} (h : DCut l A k C B) : l.length = A.length + 1 + C.length + B.length := by rw [h.row]; simp; omega
theorem DCut.inC {l A C B : List KnM} {k : KnM} (h : DCut l A k C B) {i : Nat} {x : KnM} (h1 : A.length + 1 ≤ i) (h2 : i < A.length + 1 + C.length) (hx : l[i]? = some x) : k.2 < x.2 := by
 rw [h.row, List.getElem?_append_right (by omega), List.getElem?_cons, if_neg (by omega), List.getElem?_append_left (by omega)] at hx
 exact h.kin x (List.mem_of_getElem? hx)
theorem DCut.outC {l A C B : List KnM} {k : KnM} (h : DCut l A k C B) {x : KnM} (hx : l[A.length + 1 + C.length]? = some x) : x.2 ≤ k.2 := by
 rw [h.row, List.getElem?_append_right (by omega), List.getElem?_cons, if_neg (by omega), List.getElem?_append_right (by omega)] at hx
 rw [show A.length + 1 + C.length - A.length - 1 - C.length = 0 by omega] at hx
 exact h.behind x (by rw [List.head?_eq_getElem?]; exact hx)
theorem DCut.atC {l A C B : List KnM} {k : KnM} (h : DCut l A k C B) {j : Nat} (hj : j < C.length) : l[A.length + 1 + j]? = C[j]? := by
 rw [h.row, List.getElem?_append_right (by omega), List.getElem?_cons, if_neg (by omega), List.getElem?_append_left (by omega)]
 congr 1; omega
def dropTo (l : List KnM) (p e : Nat) : Nat → List KnM
  | 0 => []
  | i + 1 => dropTo l p e i ++ (if i = p then [] else match l[i]? with | none => [] | some x => [if p < i ∧ i < e then (x.1, x.2 - 1) else x])
def dec1 (c : KnM) : KnM := (c.1, c.2 - 1)
theorem dropTo_len (l : List KnM) (p e : Nat) : ∀ i, (dropTo l p e i).length ≤ i
  | 0 => Nat.le_refl _
  | i + 1 => by
    have := dropTo_len l p e i
    simp only [dropTo, List.length_append]
    split
    · simp; omega
    · split <;> simp <;> omega
section
variable {l A C B : List KnM} {k : KnM} (h : DCut l A k C B)
include h
theorem dropTo_A : ∀ i, i ≤ A.length → dropTo l A.length (A.length + 1 + C.length) i = A.take i
  | 0, _ => by simp [dropTo]
  | i + 1, hi => by
    have e : l[i]? = some A[i] := by rw [h.row, List.getElem?_append_left (by omega), List.getElem?_eq_getElem (by omega)]
    simp only [dropTo, e]
    rw [dropTo_A i (by omega), if_neg (by omega), if_neg (by omega), List.take_add_one, List.getElem?_eq_getElem (by omega)]; rfl
theorem dropTo_C : ∀ j, j ≤ C.length → dropTo l A.length (A.length + 1 + C.length) (A.length + 1 + j) = A ++ (C.take j).map dec1
  | 0, _ => by
    show dropTo l A.length (A.length + 1 + C.length) (A.length + 1) = _
    simp only [dropTo]
    rw [dropTo_A h _ (Nat.le_refl _)]; simp
  | j + 1, hj => by
    have e : l[A.length + 1 + j]? = some C[j] := by rw [h.atC (by omega), List.getElem?_eq_getElem (by omega)]
    show dropTo l A.length (A.length + 1 + C.length) (A.length + 1 + j + 1) = _
    simp only [dropTo, e]
    rw [dropTo_C j (by omega), if_neg (by omega), if_pos ⟨by omega, by omega⟩, List.take_add_one, List.getElem?_eq_getElem (by omega)]
    rw [List.map_append, ← List.append_assoc]; rfl
theorem dropTo_B : ∀ j, j ≤ B.length → dropTo l A.length (A.length + 1 + C.length) (A.length + 1 + C.length + j) = A ++ C.map dec1 ++ B.take j
  | 0, _ => by
    have := dropTo_C h C.length (Nat.le_refl _)
    rw [List.take_length] at this
    simpa using this
  | j + 1, hj => by
    have e : l[A.length + 1 + C.length + j]? = some B[j] := by
      rw [h.row, List.getElem?_append_right (by omega), List.getElem?_cons, if_neg (by omega), List.getElem?_append_right (by omega), ← List.getElem?_eq_getElem (by omega)]
      congr 1; omega
    show dropTo l A.length (A.length + 1 + C.length) (A.length + 1 + C.length + j + 1) = _
    simp only [dropTo, e]
    rw [dropTo_B j (by omega), if_neg (by omega), if_neg (by omega), List.take_add_one, List.getElem?_eq_getElem (by omega)]
    simp
theorem dropTo_all : dropTo l A.length (A.length + 1 + C.length) l.length = A ++ (C.map dec1 ++ B) := by
 rw [h.len, dropTo_B h _ (Nat.le_refl _), List.take_length, List.append_assoc]
end
theorem near_eq {A A1 A2 : List KnM} {j k d : KnM} {n : Nat} (ha : A = A1 ++ j :: A2) (h2 : ∀ a, a ∈ A2 → ¬ a.2 < k.2) (hj : j.2 < k.2) (hd : A[n]? = some d) (hdk : d.2 < k.2) (hn : ∀ i x, n + 1 ≤ i → i < A.length → A[i]? = some x → ¬ x.2 < k.2) : d = j := by
 have hlt := (List.getElem?_eq_some_iff.1 hd).1
 rcases Nat.lt_trichotomy n A1.length with h | h | h
 ·
  exact absurd hj (hn A1.length j (by omega) (by rw [ha]; simp) (by rw [ha]; simp))
 ·
  rw [ha, h] at hd; simpa using hd.symm
 ·
  rw [ha, List.getElem?_append_right (by omega), List.getElem?_cons, if_neg (by omega)] at hd
  exact absurd hdk (h2 d (List.mem_of_getElem? hd))
theorem slc_set {α : Type} {f : α → List Value} {k : Nat} [he : Enc f k] {T : TypeId} {v : Value} {l : List α} {H : Hp} (hs : Slc T k v l.length (cel f l) H) {i : Nat} {a : α} (hi : l[i]? = some a) (a' : α) (X w0 w Y : List Value) (hX : f a = X ++ w0 ++ Y) (hX' : f a' = X ++ w ++ Y) (hw : w0.length = w.length) :
    ∃ b o cap, ∃ cs0 cs1 : List Value, v = .slice (some ⟨b, o, none⟩) l.length cap ∧ H = [(b, .cells cs0.toArray T)] ∧ Reads cs0 o (cel f l) ∧ SetL cs0 (o + i * k + X.length) w cs1 ∧ Slc T k v (l.set i a').length (cel f (l.set i a')) [(b, .cells cs1.toArray T)] := by
  have hlt := (List.getElem?_eq_some_iff.1 hi).1
  have e0 : l[i] = a := (List.getElem?_eq_some_iff.1 hi).2
  have ec : cel f l = cel f (l.take i) ++ f a ++ cel f (l.drop (i + 1)) := by
    conv => lhs; rw [← List.take_append_drop i l, List.drop_eq_getElem_cons hlt, e0, cel_app, cel_cons]
    rw [List.append_assoc]
  have ec' : cel f (l.set i a') = cel f (l.take i) ++ f a' ++ cel f (l.drop (i + 1)) := by
    rw [List.set_eq_take_append_cons_drop, if_pos hlt, cel_app, cel_cons, List.append_assoc]
  obtain ⟨hl, ⟨_, h0, _⟩ | ⟨b, pre, spare, cap, rfl, hc, hsp, rfl⟩⟩ := hs
  · omega
  refine ⟨b, pre.length, cap, pre ++ cel f l ++ spare, pre ++ cel f (l.set i a') ++ spare, rfl, rfl, reads_split, ?_, ?_⟩
  · refine setL_of (pre ++ cel f (l.take i) ++ X) (Y ++ cel f (l.drop (i + 1)) ++ spare) w0 ?_ ?_ ?_ hw
    · rw [ec, hX]; simp
    · rw [ec', hX']; simp
    · rw [List.length_append, List.length_append, cel_len, List.length_take, Nat.min_eq_left (Nat.le_of_lt hlt)]
  · refine ⟨by rw [cel_len], .inr ⟨b, pre, spare, cap, by rw [List.length_set], by rw [List.length_set]; exact hc, by rw [List.length_set]; exact hsp, rfl⟩⟩
end Go.Proofs.YtdodfnjmkpgdbaaGreat
end
section
set_option linter.unusedVariables false
set_option linter.unusedSimpArgs false
set_option linter.unusedSectionVars false
namespace Go.Proofs.YtdodfnjmkpgdbaaGreat
open Go.SL
abbrev kr (e : SlotM × Nat) : KnM := (e.1, (e.2 : Int))
def rowF (F : FoS) : List KnM := (F.flat 0).map kr
theorem kr_fst (l : List (SlotM × Nat)) : (l.map kr).map Prod.fst = l.map Prod.fst := by rw [List.map_map]; rfl
theorem rowF_fst (F : FoS) : (rowF F).map Prod.fst = F.all := by unfold rowF; rw [kr_fst, Fo.flat_fst]
theorem rowF_len (F : FoS) : (rowF F).length = F.all.length := by rw [← rowF_fst F, List.length_map]
theorem idxK_notin {s : SlotM} : ∀ {l : List KnM}, s ∉ l.map Prod.fst → idxK l s = -1
  | [], _ => rfl
  | a :: l, h => by
    simp only [List.map_cons, List.mem_cons, not_or] at h
    simp only [idxK]; rw [if_neg (Ne.symm h.1), idxK_notin h.2]; rfl
theorem idxK_app {s : SlotM} {k : KnM} {R : List KnM} (hk : k.1 = s) : ∀ {A : List KnM}, s ∉ A.map Prod.fst → idxK (A ++ k :: R) s = A.length
  | [], _ => by simp [idxK, hk]
  | a :: A, h => by
    simp only [List.map_cons, List.mem_cons, not_or] at h
    have ih := idxK_app (R := R) hk h.2
    simp only [List.cons_append, idxK, ih]
    rw [if_neg (Ne.symm h.1), if_neg (by omega), List.length_cons]; push_cast; rfl
theorem dep_lt : ∀ {f : FoS} {x : SlotM}, x ∈ f.all → Fo.dep x f < f.all.length
  | .nil, _, h => by cases h
  | .cons i c r, x, h => by
    simp only [Fo.dep, Fo.all, List.length_cons, List.length_append]
    by_cases e : i = x
    · rw [if_pos e]; omega
    · rw [if_neg e]
      by_cases e2 : x ∈ c.all
      · rw [if_pos e2]; have := dep_lt e2; omega
      · rw [if_neg e2]
        have : x ∈ r.all := by
          simp only [Fo.all, List.mem_cons, List.mem_append] at h
          rcases h with h | h | h
          · exact absurd h.symm e
          · exact absurd h e2
          · exact h
        have := dep_lt this; omega
theorem flat_dep : ∀ {f : FoS} {d : Nat} {c : SlotM × Nat}, Fo.Nd f → c ∈ f.flat d → c.2 = d + Fo.dep c.1 f
  | .nil, _, _, _, h => by cases h
  | .cons i k r, d, c, hn, h => by
    obtain ⟨n1, n2, n3, n4, n5⟩ := Fo.nd_cons hn
    simp only [Fo.flat, List.mem_cons, List.mem_append] at h
    simp only [Fo.dep]
    rcases h with rfl | h | h
    · rw [if_pos rfl]; rfl
    · have hm : c.1 ∈ k.all := by rw [← Fo.flat_fst k (d + 1)]; exact List.mem_map.2 ⟨c, h, rfl⟩
      have := flat_dep n3 h
      rw [if_neg (fun e : i = c.1 => n1 (e ▸ hm)), if_pos hm]; omega
    · have hm : c.1 ∈ r.all := by rw [← Fo.flat_fst r d]; exact List.mem_map.2 ⟨c, h, rfl⟩
      have := flat_dep n4 h
      rw [if_neg (fun e : i = c.1 => n2 (e ▸ hm)), if_neg (fun e : c.1 ∈ k.all => n5 _ e hm)]; exact this
structure RCut (F : FoS) (x y : SlotM) (A : List KnM) (e : Nat) (B : List KnM) : Prop where
  cut : DCut (rowF F) A (x, (e : Int)) (((F.sub x).flat (e + 1)).map kr) B
  idx : idxK (rowF F) x = A.length
  small : e < F.all.length
  child : rowF (F.addc x y) = A ++ (x, (e : Int)) :: (((F.sub x).flat (e + 1)).map kr ++ (y, (e : Int) + 1) :: B)
  gone : rowF (F.drop x) = A ++ (((F.sub x).flat e).map kr ++ B)
  par : (F.parO x none = none ∧ e = 0 ∧ ∀ a, a ∈ A → ¬ a.2 < (e : Int)) ∨ ∃ j A1 A2, F.parO x none = some j ∧ A = A1 ++ (j, (e : Int) - 1) :: A2 ∧ ∀ a, a ∈ A2 → ¬ a.2 < (e : Int)
theorem row_cut {F : FoS} (hn : Fo.Nd F) {x : SlotM} (hx : x ∈ F.all) (y : SlotM) : ∃ A e B, RCut F x y A e B := by
 obtain ⟨A, e, B, h⟩ := Fo.cut (y := y) (d := 0) (p := none) hn hx
 have hrow : rowF F = A.map kr ++ (x, (e : Int)) :: (((F.sub x).flat (e + 1)).map kr ++ B.map kr) := by
  unfold rowF; rw [h.row]; simp
 refine ⟨A.map kr, e, B.map kr, ⟨hrow, ?_, ?_⟩, ?_, ?_, ?_, ?_, ?_⟩
 ·
  intro c hc
  obtain ⟨c', hc', rfl⟩ := List.mem_map.1 hc
  have := Fo.flat_ge _ _ _ hc'
  show (e : Int) < (c'.2 : Int)
  omega
 ·
  intro b hb
  rw [List.head?_map] at hb
  cases e2 : B.head? with
  | none => rw [e2] at hb; cases hb
  | some b' =>
   rw [e2] at hb; cases hb
   have := h.behind b' e2
   show (b'.2 : Int) ≤ (e : Int)
   omega
 ·
  rw [hrow]
  refine idxK_app rfl ?_
  have h1 : ((rowF F).map Prod.fst).Nodup := by rw [rowF_fst]; exact hn
  rw [hrow, List.map_append, List.map_cons, List.nodup_append] at h1
  exact fun hm => h1.2.2 _ hm _ (List.mem_cons_self ..) rfl
 ·
  have := h.deep.2; have := dep_lt hx; omega
 ·
  unfold rowF; rw [h.child]; simp
 ·
  unfold rowF; rw [h.gone]; simp
 ·
  by_cases hr : x ∈ F.roots
  ·
   have he := h.top hr
   exact .inl ⟨Fo.parO_root hn hr, he, fun a ha => by
    obtain ⟨c', hc', rfl⟩ := List.mem_map.1 ha
    show ¬ (c'.2 : Int) < (e : Int)
    omega⟩
  ·
   obtain ⟨j, A1, A2, h1, h2, h3, h4⟩ := h.par hr
   refine .inr ⟨j, A1.map kr, A2.map kr, h1, ?_, fun a ha => ?_⟩
   ·
    rw [h2]
    simp only [List.map_append, List.map_cons]
    rw [show kr (j, e - 1) = (j, (e : Int) - 1) by simp only [kr]; congr 1; omega]
   ·
    obtain ⟨c', hc', rfl⟩ := List.mem_map.1 ha
    have := h3 c' hc'
    show ¬ (c'.2 : Int) < (e : Int)
    omega
theorem rowF_root (F : FoS) (s : SlotM) : rowF (F.app (.one s)) = rowF F ++ [(s, 0)] := by
 unfold rowF; rw [Fo.flat_app]; simp [Fo.one, Fo.flat]
theorem rowF_out {F : FoS} {s : SlotM} (h : s ∉ F.all) : idxK (rowF F) s = -1 := idxK_notin (by rw [rowF_fst]; exact h)
theorem rowF_in {F : FoS} (hn : Fo.Nd F) {s : SlotM} : 0 ≤ idxK (rowF F) s ↔ s ∈ F.all := by
 by_cases h : s ∈ F.all
 ·
  obtain ⟨A, e, B, hc⟩ := row_cut hn h s
  rw [hc.idx]; simp [h]
 ·
  rw [rowF_out h]; simp [h]
theorem rowF_ren {F : FoS} {A C : List KnM} {o s : SlotM} {d : Int} (hn : Fo.Nd F) (hr : rowF F = A ++ (o, d) :: C) : rowF (F.map (ren o s)) = (rowF F).set A.length (s, d) := by
 have hnd : ((rowF F).map Prod.fst).Nodup := by rw [rowF_fst]; exact hn
 have e1 : rowF (F.map (ren o s)) = (rowF F).map fun k => (ren o s k.1, k.2) := by
  unfold rowF; rw [Fo.flat_mapG]; simp [List.map_map, Function.comp_def]
 have hid : ∀ l : List KnM, o ∉ l.map Prod.fst → l.map (fun k => (ren o s k.1, k.2)) = l := fun l hl => by
  conv => rhs; rw [← List.map_id l]
  refine List.map_congr_left fun k hk => ?_
  have : k.1 ≠ o := fun e => hl (List.mem_map.2 ⟨k, hk, e⟩)
  show (ren o s k.1, k.2) = k
  unfold ren; rw [if_neg this]
 rw [hr, List.map_append, List.map_cons, List.nodup_append, List.nodup_cons] at hnd
 rw [e1, hr, List.map_append, List.map_cons, hid A (fun hm => hnd.2.2 _ hm _ (List.mem_cons_self ..) rfl), hid C hnd.2.1.1]
 have : ren o s o = s := by unfold ren; rw [if_pos rfl]
 simp [this]
theorem kids_filter (f : FoS) (d : Nat) : ((f.flat d).map kr).filter (fun c => decide (c.2 = (d : Int))) = ((f.flat d).filter fun e => decide (e.2 = d)).map kr := by
 rw [List.filter_map]
 congr 1
 refine List.filter_congr fun e _ => ?_
 have : (((e.2 : Int)) = (d : Int)) ↔ e.2 = d := by omega
 simp [Function.comp_def, this]
def DtF (uS : Value) (F : FoS) (qb : Nat) (L : Hp) : Prop := DtrH uS (rowF F) qb L
end Go.Proofs.YtdodfnjmkpgdbaaGreat
end
section
set_option linter.unusedVariables false
set_option linter.unusedSimpArgs false
namespace Go.Proofs.YtdodfnjmkpgdbaaGreat
open Go.SL
theorem tr_dtat (uS : Value) (qb : Nat) (L : Hp) (l : List KnM) (hH : DtrH uS l qb L) (hl : l.length ≤ 2 ^ 20) (so : SlotM) : TrR Tryz.prog 60 [.pointer (some ⟨qb, 1, none⟩), slotV so] (L) (.int .i64 (idxK l so)) := by
 obtain ⟨v, H, hs, rfl⟩ := hH
 obtain ⟨a, c0, rfl⟩ := hs.form
 have hv := hs.view
 refine Tr.enter Tryz.func60 rfl Tryz.ntmps60 rfl (fun W F => ?_)
 refine Wp.app ?_
 refine Wr ?_
 refine Ops.ef rfl (ef_boxK rfl rfl) ?_
 rintro _ _ ⟨b1, rfl, rfl⟩
 refine Oa1 rfl rfl ?_
 refine On ?_
 refine Wp.seq ?_
 refine Wr ?_
 refine Oa1 rfl rfl ?_
 refine On ?_
 refine Wp.block ?_
 refine Wp.loopK (σ := Nat) [(0, _), (3, _)] (fun s => [(5, .int .i64 s)]) (fun s => (b1, .cells [.int .i64 so.1, .int .i64 so.2].toArray 31) :: dtBlk uS qb (.slice a l.length c0) :: (H ++ F)) (fun s => s ≤ l.length ∧ ∀ j k, j < s → l[j]? = some k → k.1 ≠ so) (fun s => l.length - s) 0 ⟨Nat.zero_le _, fun j k hj => absurd hj (Nat.not_lt_zero j)⟩ ⟨rfl, rfl, trivial⟩ ⟨rfl, trivial⟩ (by intro w ho; (try dsimp only [List.nil_append, List.cons_append]); exact Drop.own ho) ?_
 rintro i KK ⟨hi, hn⟩ hK
 dsimp only [List.cons_append, List.nil_append] at hK ⊢
 refine Wp.seq ?_
 refine Wr ?_
 refine Om1 rfl rfl ?_
 refine Om1 rfl rfl ?_
 refine Ops.pv (pv_nilCheck rfl) rfl ?_
 refine Ops.pv (pv_fieldAddr rfl rfl) rfl ?_
 refine Ol1 rfl rfl rfl rfl ?_
 refine Ops.pv (pv_len_slice (T := 46) rfl rfl) rfl ?_
 refine Ops.pv (pv_lss rfl rfl) rfl ?_
 refine On ?_
 refine Wp.cond_dect rfl (fun h1 => ?_) (fun h1 => ?_)
 ·
  obtain ⟨b, o, cap, cc, T, f, hv1, hbv, hr⟩ := hv.open (by omega)
  cases hv1
  obtain ⟨d, hd⟩ : ∃ d, l[i]? = some d := ⟨_, List.getElem?_eq_getElem (by omega)⟩
  obtain ⟨q0, q1, q2, _⟩ := cel_reads (f := kmC) hr hd
  refine Wp.skip ?_
  refine Ends.seq ?_
  refine Wp.seq ?_
  refine Wp.block ?_
  refine Wp.seq ?_
  refine AnyH.start ((b1, .cells [.int .i64 so.1, .int .i64 so.2].toArray 31) :: dtBlk uS qb (.slice (some ⟨b, o, none⟩) l.length c0) :: H) 10 rfl ?_
  refine Tk 0 rfl rfl (pv_move rfl) rfl ?_
  refine Tk 1 rfl rfl (pv_nilCheck rfl) rfl ?_
  refine Tk 2 rfl rfl (pv_fieldAddr rfl rfl) rfl ?_
  refine Tk 3 rfl rfl (pv_load rfl rfl rfl) rfl ?_
  refine Tk 4 rfl rfl (pv_move rfl) rfl ?_
  refine Tk 5 rfl rfl (pv_indexAddr (i := i) rfl rfl rfl (by omega)) rfl ?_
  refine Tk 6 rfl rfl (pv_fieldAddr rfl rfl) rfl ?_
  refine Tk 7 rfl rfl (pv_loadK [.int .i64 d.1.1, .int .i64 d.1.2] rfl rfl rfl ⟨q0, q1, trivial⟩) rfl ?_
  refine Tk 8 rfl rfl (pv_loadK [_, _] rfl rfl rfl ⟨rfl, rfl, trivial⟩) rfl ?_
  refine Tk 9 rfl rfl (pv_eql_slot (a := d.1) (b := so) rfl rfl) rfl ?_
  refine AnyH.done (by kernel_rfl) ?_
  refine Ends.seq ?_
  refine Wp.cond_dect rfl (fun h2 => ?_) (fun h2 => ?_)
  ·
   refine Wr ?_
   refine Om1 rfl rfl ?_
   refine Oa1 rfl rfl ?_
   refine On ?_
   refine Wp.ret ?_
   refine Ends.block_ret ?_
   refine Ends.then_ret ?_
   refine Ends.then_ret ?_
   refine Ends.block_ret ?_
   refine Ends.then_ret ?_
   exact Ends.ret (res1 rfl rfl) ⟨by rw [idxK_hit (i := i) hd (by assumption) hn], rfl⟩
  refine Wp.skip ?_
  refine Ends.block_normal ?_
  refine Ends.seq ?_
  refine Wp.region ?_
  refine Om1 rfl rfl ?_
  refine Ops.pv (pv_add rfl rfl (w64 (by omega) (by omega))) rfl ?_
  refine Oa1 rfl rfl ?_
  refine Ops.nil ?_
  refine Ends.goes ?_
  refine Goes.back (hK (i + 1) ⟨by omega, fun j k hj hk => ?_⟩ (by omega)) ⟨rfl, rfl, rfl, trivial⟩
  rcases Nat.lt_succ_iff_lt_or_eq.1 hj with hj | rfl
  ·
   exact hn j k hj hk
  rw [hd] at hk; cases hk; assumption
 refine Wp.exit ?_
 refine Ends.then_exit ?_
 refine Ends.then_exit ?_
 refine Ends.block_hit ?_
 refine Ends.seq ?_
 refine Wr ?_
 refine Oa1 rfl rfl ?_
 refine On ?_
 refine Wp.ret ?_
 exact Ends.ret (res1 rfl rfl) ⟨by rw [idxK_miss (fun j k hj hk => hn j k (by omega) hk)], rfl⟩
theorem tr_dtend (uS : Value) (qb : Nat) (L : Hp) (l : List KnM) (hH : DtrH uS l qb L) (hl : l.length ≤ 2 ^ 20) (A C B0 : List KnM) (k : KnM) (hc : DCut l A k C B0) : TrR Tryz.prog 61 [.pointer (some ⟨qb, 1, none⟩), .int .i64 A.length] (L) (.int .i64 ((A.length + 1 + C.length : Nat) : Int)) := by
 obtain ⟨v, H, hs, rfl⟩ := hH
 obtain ⟨a, c0, rfl⟩ := hs.form
 have hv := hs.view
 have hll := hc.len
 have hka := hc.at
 obtain ⟨b, o, cap, cc, T, f, hv1, hbv, hr⟩ := hv.open (by omega)
 cases hv1
 obtain ⟨z0, z1, z2, _⟩ := cel_reads (f := kmC) hr hka
 refine Tr.enter Tryz.func61 rfl Tryz.ntmps61 rfl (fun W F => ?_)
 refine Wp.app ?_
 refine Wr ?_
 refine Oa1 rfl rfl ?_
 refine On ?_
 refine Wr ?_
 refine Om1 rfl rfl ?_
 refine Ops.pv (pv_add rfl rfl (w64n (k := A.length + 1) (by omega) (by omega))) rfl ?_
 refine Oa1 rfl rfl ?_
 refine On ?_
 refine Wp.seq ?_
 refine Wp.block ?_
 refine Wp.loopK (σ := Nat) [(0, _), (1, _)] (fun s => [(5, .int .i64 s)]) (fun s => dtBlk uS qb (.slice (some ⟨b, o, none⟩) l.length c0) :: (H ++ F)) (fun s => A.length + 1 ≤ s ∧ s ≤ A.length + 1 + C.length) (fun s => A.length + 1 + C.length - s) (A.length + 1) ⟨Nat.le_refl _, by omega⟩ ⟨rfl, rfl, trivial⟩ ⟨rfl, trivial⟩ (by intro w ho; (try dsimp only [List.nil_append, List.cons_append]); exact Drop.own ho) ?_
 rintro i KK ⟨hi, hi2⟩ hK
 dsimp only [List.cons_append, List.nil_append] at hK ⊢
 refine Wp.seq ?_
 refine Wp.seq ?_
 refine AnyH.startL 26 rfl ?_
 refine Tk 0 rfl rfl (pv_move rfl) rfl ?_
 refine Tk 1 rfl rfl (pv_move rfl) rfl ?_
 refine Tk 2 rfl rfl (pv_nilCheck rfl) rfl ?_
 refine Tk 3 rfl rfl (pv_fieldAddr rfl rfl) rfl ?_
 refine Tk 4 rfl rfl (pv_load rfl rfl rfl) rfl ?_
 refine Tk 5 rfl rfl (pv_len_slice (T := 46) rfl rfl) rfl ?_
 refine Tk 6 rfl rfl (pv_lss rfl rfl) rfl ?_
 refine Tk 7 rfl rfl (pv_move rfl) rfl ?_
 refine AnyH.split (t := 15) rfl (fun h1 => ?_) (fun h1 => ?_)
 ·
  obtain ⟨d, hd⟩ : ∃ d, l[i]? = some d := ⟨_, List.getElem?_eq_getElem (by omega)⟩
  obtain ⟨q0, q1, q2, _⟩ := cel_reads (f := kmC) hr hd
  refine Tk 8 rfl ⟨_, _, rfl, rfl, rfl⟩ (pv_move rfl) rfl ?_
  refine Tk 9 rfl ⟨_, _, rfl, rfl, rfl⟩ (pv_nilCheck rfl) rfl ?_
  refine Tk 10 rfl ⟨_, _, rfl, rfl, rfl⟩ (pv_fieldAddr rfl rfl) rfl ?_
  refine Tk 11 rfl ⟨_, _, rfl, rfl, rfl⟩ (pv_load rfl rfl rfl) rfl ?_
  refine Tk 12 rfl ⟨_, _, rfl, rfl, rfl⟩ (pv_move rfl) rfl ?_
  refine Tk 13 rfl ⟨_, _, rfl, rfl, rfl⟩ (pv_indexAddr (i := i) rfl rfl rfl (by omega)) rfl ?_
  refine Tk 14 rfl ⟨_, _, rfl, rfl, rfl⟩ (pv_fieldAddr rfl rfl) rfl ?_
  refine Tk 15 rfl ⟨_, _, rfl, rfl, rfl⟩ (pv_load rfl rfl q2) rfl ?_
  refine Tk 16 rfl ⟨_, _, rfl, rfl, rfl⟩ (pv_move rfl) rfl ?_
  refine Tk 17 rfl ⟨_, _, rfl, rfl, rfl⟩ (pv_nilCheck rfl) rfl ?_
  refine Tk 18 rfl ⟨_, _, rfl, rfl, rfl⟩ (pv_fieldAddr rfl rfl) rfl ?_
  refine Tk 19 rfl ⟨_, _, rfl, rfl, rfl⟩ (pv_load rfl rfl rfl) rfl ?_
  refine Tk 20 rfl ⟨_, _, rfl, rfl, rfl⟩ (pv_move rfl) rfl ?_
  refine Tk 21 rfl ⟨_, _, rfl, rfl, rfl⟩ (pv_indexAddr (i := A.length) rfl rfl rfl (by omega)) rfl ?_
  refine Tk 22 rfl ⟨_, _, rfl, rfl, rfl⟩ (pv_fieldAddr rfl rfl) rfl ?_
  refine Tk 23 rfl ⟨_, _, rfl, rfl, rfl⟩ (pv_load rfl rfl z2) rfl ?_
  refine Tk 24 rfl ⟨_, _, rfl, rfl, rfl⟩ (pv_gtr rfl rfl) rfl ?_
  refine Tk 25 rfl rfl (pv_pick_true rfl rfl) rfl ?_
  refine AnyH.done (by kernel_rfl) ?_
  refine Ends.seq ?_
  refine Wp.cond_dect rfl (fun h2 => ?_) (fun h2 => ?_)
  ·
   refine Wp.skip ?_
   refine Ends.seq ?_
   refine Wp.block ?_
   refine Wp.region ?_
   refine Om1 rfl rfl ?_
   refine Ops.pv (pv_add rfl rfl (w64 (by omega) (by omega))) rfl ?_
   refine Oa1 rfl rfl ?_
   refine Ops.nil ?_
   refine Ends.block_normal ?_
   refine Ends.goes ?_
   have hlt : i < A.length + 1 + C.length := by
    rcases Nat.lt_or_ge i (A.length + 1 + C.length) with hlt | hge
    ·
     exact hlt
    ·
     exfalso
     have e : i = A.length + 1 + C.length := by omega
     rw [e] at hd
     have := hc.outC hd
     omega
   refine Goes.back (hK (i + 1) ⟨by omega, by omega⟩ (by omega)) ⟨rfl, rfl, rfl, trivial⟩
  refine Wp.exit ?_
  refine Ends.then_exit ?_
  refine Ends.then_exit ?_
  refine Ends.block_hit ?_
  refine Ends.seq ?_
  refine Wr ?_
  refine Om1 rfl rfl ?_
  refine Oa1 rfl rfl ?_
  refine On ?_
  refine Wp.ret ?_
  obtain rfl : i = A.length + 1 + C.length := by
   rcases Nat.lt_or_ge i (A.length + 1 + C.length) with hlt | hge
   ·
    exfalso; have := hc.inC hi hlt hd; omega
   ·
    omega
  exact Ends.ret (res1 rfl rfl) ⟨rfl, rfl⟩
 refine Ts 8 rfl ⟨_, _, rfl, rfl, rfl⟩ rfl ?_
 refine Ts 9 rfl ⟨_, _, rfl, rfl, rfl⟩ rfl ?_
 refine Ts 10 rfl ⟨_, _, rfl, rfl, rfl⟩ rfl ?_
 refine Ts 11 rfl ⟨_, _, rfl, rfl, rfl⟩ rfl ?_
 refine Ts 12 rfl ⟨_, _, rfl, rfl, rfl⟩ rfl ?_
 refine Ts 13 rfl ⟨_, _, rfl, rfl, rfl⟩ rfl ?_
 refine Ts 14 rfl ⟨_, _, rfl, rfl, rfl⟩ rfl ?_
 refine Ts 15 rfl ⟨_, _, rfl, rfl, rfl⟩ rfl ?_
 refine Ts 16 rfl ⟨_, _, rfl, rfl, rfl⟩ rfl ?_
 refine Ts 17 rfl ⟨_, _, rfl, rfl, rfl⟩ rfl ?_
 refine Ts 18 rfl ⟨_, _, rfl, rfl, rfl⟩ rfl ?_
 refine Ts 19 rfl ⟨_, _, rfl, rfl, rfl⟩ rfl ?_
 refine Ts 20 rfl ⟨_, _, rfl, rfl, rfl⟩ rfl ?_
 refine Ts 21 rfl ⟨_, _, rfl, rfl, rfl⟩ rfl ?_
 refine Ts 22 rfl ⟨_, _, rfl, rfl, rfl⟩ rfl ?_
 refine Ts 23 rfl ⟨_, _, rfl, rfl, rfl⟩ rfl ?_
 refine Ts 24 rfl ⟨_, _, rfl, rfl, rfl⟩ rfl ?_
 refine Tk 25 rfl rfl (pv_pick_false rfl rfl) rfl ?_
 refine AnyH.done (by kernel_rfl) ?_
 refine Ends.seq ?_
 refine Wp.cond_false rfl ?_
 refine Wp.exit ?_
 refine Ends.then_exit ?_
 refine Ends.then_exit ?_
 refine Ends.block_hit ?_
 refine Ends.seq ?_
 refine Wr ?_
 refine Om1 rfl rfl ?_
 refine Oa1 rfl rfl ?_
 refine On ?_
 refine Wp.ret ?_
 obtain rfl : i = A.length + 1 + C.length := by omega
 exact Ends.ret (res1 rfl rfl) ⟨rfl, rfl⟩
theorem tr_dtput (uS : Value) (qb : Nat) (L : Hp) (l : List KnM) (hH : DtrH uS l qb L) (hl : l.length ≤ 2 ^ 20) (n : Nat) (hn : n ≤ l.length) (k : KnM) : Tr Tryz.prog 114 [.pointer (some ⟨qb, 1, none⟩), .int .i64 n, .agg #[.int .i64 k.1.1, .int .i64 k.1.2, .int .i64 k.2]] (L) (fun u L' => u = .tuple #[] ∧ DtrH uS (l.take n ++ k :: l.drop n) qb L') := by
 obtain ⟨v, H, hs, rfl⟩ := hH
 obtain ⟨a, c0, rfl⟩ := hs.form
 have hv := hs.view
 have hlc : l.length ≤ c0 := by obtain ⟨_, _, _, e, h, _⟩ := hv; cases e; exact h
 have hA := hv.part (i := 0) (j := n) (Nat.zero_le _) hn
 have hB := hv.part (i := n) (j := l.length) hn (Nat.le_refl _)
 have eA : (l.drop 0).take (n - 0) = l.take n := by simp
 have eB : (l.drop n).take (l.length - n) = l.drop n := List.take_of_length_le (by simp)
 rw [eA] at hA
 rw [eB] at hB
 have lA : (l.take n).length = n := by rw [List.length_take]; omega
 have lB : (l.drop n).length = l.length - n := by simp
 refine Tr.enter Tryz.func114 rfl Tryz.ntmps114 rfl (fun W F => ?_)
 refine Wp.app ?_
 refine Wr ?_
 refine Ops.ef rfl (ef_boxK rfl rfl) ?_
 rintro _ _ ⟨b1, rfl, rfl⟩
 refine On ?_
 refine Wr ?_
 refine Ops.ef rfl (ef_buildSlice0 rfl) ?_
 rintro _ _ ⟨b2, rfl, rfl⟩
 refine Om1 rfl rfl ?_
 refine Ops.pv (pv_nilCheck rfl) rfl ?_
 refine Ops.pv (pv_fieldAddr rfl rfl) rfl ?_
 refine Ol1 rfl rfl rfl rfl ?_
 refine Om1 rfl rfl ?_
 refine Ops.pv (pv_sliceL (i := 0) (j := n) (r := (l.take n).length) rfl rfl ⟨_, rfl⟩ (Nat.zero_le _) (by omega) (by omega)) rfl ?_
 refine Ops.ef rfl (ef_appendV (H := [(b2, .cells ([] : List Value).toArray 105)]) rfl (slc_empty' 105 3 b2) rfl (hA.mono (by intro p hp; simp [hp])) (cel_one _) (by omega) (by omega) rfl rfl) ?_
 rintro _ _ ⟨u1, K1, hu1, rfl, rfl⟩
 refine Ops.app ?_
 rw [Nat.zero_add, List.nil_append] at hu1
 refine Oa1 rfl rfl ?_
 refine On ?_
 refine Wr ?_
 refine Om1 rfl rfl ?_
 refine Ops.pv (pv_loadK [_, _, _] rfl rfl rfl ⟨rfl, rfl, rfl, trivial⟩) rfl ?_
 refine Ops.ef rfl (ef_buildSlice1 (k := 3) rfl rfl rfl rfl rfl) ?_
 rintro _ _ ⟨b3, rfl, rfl⟩
 refine Ops.ef rfl (ef_append (H := K1) (xs := kmC k) rfl hu1 rfl ⟨rfl, rfl, rfl, trivial⟩ rfl rfl rfl (by omega) (by omega) rfl rfl) ?_
 rintro _ _ ⟨u2, K2, hu2, rfl, rfl⟩
 refine Ops.app ?_
 refine Oa1 rfl rfl ?_
 refine On ?_
 refine Wp.region ?_
 refine Om1 rfl rfl ?_
 refine Om1 rfl rfl ?_
 refine Om1 rfl rfl ?_
 refine Ops.pv (pv_nilCheck rfl) rfl ?_
 refine Ops.pv (pv_fieldAddr rfl rfl) rfl ?_
 refine Ol1 rfl rfl rfl rfl ?_
 refine Om1 rfl rfl ?_
 refine Ops.pv (pv_sliceL (i := n) (j := l.length) (r := (l.drop n).length) rfl ⟨_, rfl⟩ rfl hn hlc lB.symm) rfl ?_
 refine Ops.ef rfl (ef_appendV (H := K2) rfl hu2 rfl (hB.mono (by intro p hp; simp [hp])) (cel_one _) (by omega) (by omega) rfl rfl) ?_
 rintro _ _ ⟨u3, K3, hu3, rfl, rfl⟩
 refine Ops.app ?_
 have ho1 := hu3.one
 have ho2 := hu3.cells1
 refine Ops.pv (pv_nilCheck rfl) rfl ?_
 refine Ops.pv (pv_fieldAddr rfl rfl) rfl ?_
 refine Ops.ef rfl (ef_store1 rfl rfl (by first | rfl | assumption) (by first | rfl | assumption)) ?_
 rintro _ _ ⟨rfl, rfl⟩
 refine Ops.nil ?_
 have e1 : cel kmC (l.take n) ++ kmC k ++ cel kmC (l.drop n) = cel kmC (l.take n ++ k :: l.drop n) := by rw [cel_app, cel_cons, List.append_assoc]
 have e2 : (l.take n).length + 1 + (l.drop n).length = (l.take n ++ k :: l.drop n).length := by simp; omega
 rw [e1, e2] at hu3
 exact Ends.fin (L' := dtBlk uS qb u3 :: K3) (res0 rfl) ⟨rfl, _, _, hu3, rfl⟩
theorem tr_dtRoot (uS : Value) (qb : Nat) (L : Hp) (l : List KnM) (hH : DtrH uS l qb L) (hl : l.length ≤ 2 ^ 20) (so : SlotM) : Tr Tryz.prog 80 [.pointer (some ⟨qb, 1, none⟩), slotV so] (L) (fun u L' => (0 ≤ idxK l so ∧ u = .int .i64 4 ∧ DtrH uS l qb L') ∨ (¬ 0 ≤ idxK l so ∧ u = .int .i64 0 ∧ DtrH uS (l ++ [(so, 0)]) qb L')) := by
 obtain ⟨v, H, hs, rfl⟩ := hH
 obtain ⟨a, c0, rfl⟩ := hs.form
 have hv := hs.view
 refine Tr.enter Tryz.func80 rfl Tryz.ntmps80 rfl (fun W F => ?_)
 refine Wp.app ?_
 refine Wr ?_
 refine Ops.ef rfl (ef_boxK rfl rfl) ?_
 rintro _ _ ⟨b1, rfl, rfl⟩
 refine Oa1 rfl rfl ?_
 refine On ?_
 refine Wp.seq ?_
 refine Wr ?_
 refine Om1 rfl rfl ?_
 refine Ops.pv (pv_loadK [_, _] rfl rfl rfl ⟨rfl, rfl, trivial⟩) rfl ?_
 refine Ops.ef rfl (ef_callr (tr_dtat uS qb _ l ⟨_, H, hs, rfl⟩ hl so) rfl rfl) ?_
 rintro _ _ ⟨rfl, rfl⟩
 refine Ops.pv (pv_geq rfl rfl) rfl ?_
 refine On ?_
 refine Wp.cond_dect rfl (fun h1 => ?_) (fun h1 => ?_)
 ·
  refine Wr ?_
  refine Oa1 rfl rfl ?_
  refine On ?_
  refine Wp.ret ?_
  refine Ends.then_ret ?_
  exact Ends.ret (L' := dtBlk uS qb (.slice a l.length c0) :: H) (res1 rfl rfl) (.inl ⟨by assumption, rfl, _, H, hs, rfl⟩)
 refine Wp.skip ?_
 refine Ends.seq ?_
 refine Wp.seq ?_
 refine AnyH.start ((b1, .cells [.int .i64 so.1, .int .i64 so.2].toArray 31) :: []) 9 rfl ?_
 refine Tk 0 rfl rfl (pv_move rfl) rfl ?_
 refine Tk 1 rfl rfl (pv_move rfl) rfl ?_
 refine Tk 2 rfl rfl (pv_nilCheck rfl) rfl ?_
 refine Tk 3 rfl rfl (pv_fieldAddr rfl rfl) rfl ?_
 refine Tk 6 rfl rfl (pv_loadK [_, _] rfl rfl rfl ⟨rfl, rfl, trivial⟩) rfl ?_
 refine Tk 7 rfl rfl (pv_build rfl) rfl ?_
 refine AnyH.one 4 (by kernel_rfl) ?_
 refine Turn.ef rfl rfl (ef_pv (pv_load rfl rfl rfl) rfl) ?_ ?_
 ·
  rintro _ _ ⟨rfl, rfl⟩; infer_instance
 rintro _ _ ⟨rfl, rfl⟩
 refine Tk 5 rfl rfl (pv_len_slice (T := 46) rfl rfl) rfl ?_
 refine AnyH.one 8 (by kernel_rfl) ?_
 refine Turn.ef rfl rfl (ef_call (tr_dtput uS qb _ l ⟨_, H, hs, rfl⟩ hl l.length (Nat.le_refl _) (so, 0)) rfl rfl) ?_ ?_
 ·
  rintro _ _ ⟨_, Q1, ⟨rfl, hq1⟩, rfl, rfl⟩; infer_instance
 rintro _ _ ⟨_, Q1, ⟨rfl, hq1⟩, rfl, rfl⟩
 refine AnyH.app ?_
 skip
 refine AnyH.done (by kernel_rfl) ?_
 refine Ends.seq ?_
 refine Wr ?_
 refine Oa1 rfl rfl ?_
 refine On ?_
 refine Wp.ret ?_
 rw [List.take_length, List.drop_length] at hq1
 exact Ends.ret (L' := Q1) (res1 rfl rfl) (.inr ⟨by assumption, rfl, hq1⟩)
theorem tr_dtChild0 (uS : Value) (qb : Nat) (L : Hp) (l : List KnM) (hH : DtrH uS l qb L) (hl : l.length ≤ 2 ^ 20) (po so : SlotM) (ho : idxK l po = -1) : Tr Tryz.prog 85 [.pointer (some ⟨qb, 1, none⟩), slotV po, slotV so] (L) (fun u L' => u = .int .i64 3 ∧ DtrH uS l qb L') := by
 obtain ⟨v, H, hs, rfl⟩ := hH
 obtain ⟨a, c0, rfl⟩ := hs.form
 have hv := hs.view
 refine Tr.enter Tryz.func85 rfl Tryz.ntmps85 rfl (fun W F => ?_)
 refine Wp.app ?_
 refine Wr ?_
 refine Ops.ef rfl (ef_boxK rfl rfl) ?_
 rintro _ _ ⟨b1, rfl, rfl⟩
 refine Ops.ef rfl (ef_boxK rfl rfl) ?_
 rintro _ _ ⟨b2, rfl, rfl⟩
 refine Oa1 rfl rfl ?_
 refine On ?_
 refine Wr ?_
 refine Om1 rfl rfl ?_
 refine Ops.pv (pv_loadK [_, _] rfl rfl rfl ⟨rfl, rfl, trivial⟩) rfl ?_
 refine Ops.ef rfl (ef_callr ((tr_dtat uS qb _ l ⟨_, H, hs, rfl⟩ hl po).eq (by rw [ho])) rfl rfl) ?_
 rintro _ _ ⟨rfl, rfl⟩
 refine Oa1 rfl rfl ?_
 refine On ?_
 refine Wp.seq ?_
 refine Wp.block ?_
 refine Wr ?_
 refine Om1 rfl rfl ?_
 refine Ops.pv ((pv_lss rfl rfl).tru (by first | rfl | decide | omega | assumption | (simp; done) | (simp; omega))) rfl ?_
 refine Oa1 rfl rfl ?_
 refine On ?_
 refine Wp.cond_true rfl ?_
 refine Wr ?_
 refine Oa1 rfl rfl ?_
 refine On ?_
 refine Wp.ret ?_
 refine Ends.block_ret ?_
 refine Ends.then_ret ?_
 exact Ends.ret (L' := dtBlk uS qb (.slice a l.length c0) :: H) (res1 rfl rfl) ⟨rfl, _, H, hs, rfl⟩
theorem tr_dtChild1 (uS : Value) (qb : Nat) (L : Hp) (l : List KnM) (hH : DtrH uS l qb L) (hl : l.length ≤ 2 ^ 20) (po so : SlotM) (A C B0 : List KnM) (k : KnM) (hc : DCut l A k C B0) (ho : idxK l po = A.length) (h2 : 0 ≤ idxK l so) : Tr Tryz.prog 85 [.pointer (some ⟨qb, 1, none⟩), slotV po, slotV so] (L) (fun u L' => u = .int .i64 4 ∧ DtrH uS l qb L') := by
 obtain ⟨v, H, hs, rfl⟩ := hH
 obtain ⟨a, c0, rfl⟩ := hs.form
 have hv := hs.view
 refine Tr.enter Tryz.func85 rfl Tryz.ntmps85 rfl (fun W F => ?_)
 refine Wp.app ?_
 refine Wr ?_
 refine Ops.ef rfl (ef_boxK rfl rfl) ?_
 rintro _ _ ⟨b1, rfl, rfl⟩
 refine Ops.ef rfl (ef_boxK rfl rfl) ?_
 rintro _ _ ⟨b2, rfl, rfl⟩
 refine Oa1 rfl rfl ?_
 refine On ?_
 refine Wr ?_
 refine Om1 rfl rfl ?_
 refine Ops.pv (pv_loadK [_, _] rfl rfl rfl ⟨rfl, rfl, trivial⟩) rfl ?_
 refine Ops.ef rfl (ef_callr ((tr_dtat uS qb _ l ⟨_, H, hs, rfl⟩ hl po).eq (by rw [ho])) rfl rfl) ?_
 rintro _ _ ⟨rfl, rfl⟩
 refine Oa1 rfl rfl ?_
 refine On ?_
 refine Wp.seq ?_
 refine Wp.block ?_
 refine Wr ?_
 refine Om1 rfl rfl ?_
 refine Ops.pv ((pv_lss rfl rfl).fls (by first | exact fun h => h rfl | decide | omega | assumption)) rfl ?_
 refine Oa1 rfl rfl ?_
 refine On ?_
 refine Wp.cond_false rfl ?_
 refine Wr ?_
 refine Om1 rfl rfl ?_
 refine Ops.pv (pv_loadK [_, _] rfl rfl rfl ⟨rfl, rfl, trivial⟩) rfl ?_
 refine Ops.ef rfl (ef_callr (tr_dtat uS qb _ l ⟨_, H, hs, rfl⟩ hl so) rfl rfl) ?_
 rintro _ _ ⟨rfl, rfl⟩
 refine Ops.pv ((pv_geq rfl rfl).tru (by first | rfl | decide | omega | assumption | (simp; done) | (simp; omega))) rfl ?_
 refine Oa1 rfl rfl ?_
 refine On ?_
 refine Wp.cond_true rfl ?_
 refine Wr ?_
 refine Oa1 rfl rfl ?_
 refine On ?_
 refine Wp.ret ?_
 refine Ends.block_ret ?_
 refine Ends.then_ret ?_
 exact Ends.ret (L' := dtBlk uS qb (.slice a l.length c0) :: H) (res1 rfl rfl) ⟨rfl, _, H, hs, rfl⟩
theorem tr_dtChild2 (uS : Value) (qb : Nat) (L : Hp) (l : List KnM) (hH : DtrH uS l qb L) (hl : l.length ≤ 2 ^ 20) (po so : SlotM) (A C B0 : List KnM) (k : KnM) (hc : DCut l A k C B0) (ho : idxK l po = A.length) (h2 : ¬ 0 ≤ idxK l so) (hk2 : 0 ≤ k.2 ∧ k.2 ≤ 2 ^ 20) : Tr Tryz.prog 85 [.pointer (some ⟨qb, 1, none⟩), slotV po, slotV so] (L) (fun u L' => u = .int .i64 0 ∧ DtrH uS (A ++ k :: (C ++ (so, k.2 + 1) :: B0)) qb L') := by
 obtain ⟨v, H, hs, rfl⟩ := hH
 obtain ⟨a, c0, rfl⟩ := hs.form
 have hv := hs.view
 have hll := hc.len
 have hka := hc.at
 obtain ⟨b, o, cap, cc, T, f, hv1, hbv, hr⟩ := hv.open (by omega)
 cases hv1
 obtain ⟨z0, z1, z2, _⟩ := cel_reads (f := kmC) hr hka
 refine Tr.enter Tryz.func85 rfl Tryz.ntmps85 rfl (fun W F => ?_)
 refine Wp.app ?_
 refine Wr ?_
 refine Ops.ef rfl (ef_boxK rfl rfl) ?_
 rintro _ _ ⟨b1, rfl, rfl⟩
 refine Ops.ef rfl (ef_boxK rfl rfl) ?_
 rintro _ _ ⟨b2, rfl, rfl⟩
 refine Oa1 rfl rfl ?_
 refine On ?_
 refine Wr ?_
 refine Om1 rfl rfl ?_
 refine Ops.pv (pv_loadK [_, _] rfl rfl rfl ⟨rfl, rfl, trivial⟩) rfl ?_
 refine Ops.ef rfl (ef_callr ((tr_dtat uS qb _ l ⟨_, H, hs, rfl⟩ hl po).eq (by rw [ho])) rfl rfl) ?_
 rintro _ _ ⟨rfl, rfl⟩
 refine Oa1 rfl rfl ?_
 refine On ?_
 refine Wp.seq ?_
 refine Wp.block ?_
 refine Wr ?_
 refine Om1 rfl rfl ?_
 refine Ops.pv ((pv_lss rfl rfl).fls (by first | exact fun h => h rfl | decide | omega | assumption)) rfl ?_
 refine Oa1 rfl rfl ?_
 refine On ?_
 refine Wp.cond_false rfl ?_
 refine Wr ?_
 refine Om1 rfl rfl ?_
 refine Ops.pv (pv_loadK [_, _] rfl rfl rfl ⟨rfl, rfl, trivial⟩) rfl ?_
 refine Ops.ef rfl (ef_callr (tr_dtat uS qb _ l ⟨_, H, hs, rfl⟩ hl so) rfl rfl) ?_
 rintro _ _ ⟨rfl, rfl⟩
 refine Ops.pv ((pv_geq rfl rfl).fls (by first | exact fun h => h rfl | decide | omega | assumption)) rfl ?_
 refine Oa1 rfl rfl ?_
 refine On ?_
 refine Wp.cond_false rfl ?_
 refine Wp.skip ?_
 refine Ends.block_normal ?_
 refine Ends.seq ?_
 refine Wp.seq ?_
 refine AnyH.start ((b2, .cells [.int .i64 so.1, .int .i64 so.2].toArray 31) :: []) 16 rfl ?_
 refine Tk 0 rfl rfl (pv_move rfl) rfl ?_
 refine Tk 1 rfl rfl (pv_move rfl) rfl ?_
 refine Tk 2 rfl rfl (pv_move rfl) rfl ?_
 refine Tk 4 rfl rfl (pv_loadK [_, _] rfl rfl rfl ⟨rfl, rfl, trivial⟩) rfl ?_
 refine Tk 5 rfl rfl (pv_move rfl) rfl ?_
 refine Tk 6 rfl rfl (pv_nilCheck rfl) rfl ?_
 refine Tk 7 rfl rfl (pv_fieldAddr rfl rfl) rfl ?_
 refine Tk 9 rfl rfl (pv_move rfl) rfl ?_
 refine AnyH.two 3 8 (by kernel_rfl) ?_ ?_
 ·
  refine Turn.ef rfl rfl (ef_callr (tr_dtend uS qb _ l ⟨_, H, hs, rfl⟩ hl A C B0 k hc) rfl rfl) ?_ ?_
  ·
   rintro _ _ ⟨rfl, rfl⟩; infer_instance
  rintro _ _ ⟨rfl, rfl⟩
  refine AnyH.one 8 (by kernel_rfl) ?_
  refine Turn.ef rfl rfl (ef_pv (pv_load rfl rfl rfl) rfl) ?_ ?_
  ·
   rintro _ _ ⟨rfl, rfl⟩; infer_instance
  rintro _ _ ⟨rfl, rfl⟩
  refine Tk 10 rfl rfl (pv_indexAddr (i := A.length) rfl rfl rfl (by omega)) rfl ?_
  refine Tk 11 rfl rfl (pv_fieldAddr rfl rfl) rfl ?_
  refine AnyH.one 12 (by kernel_rfl) ?_
  refine Turn.ef rfl rfl (ef_pv (pv_load rfl rfl z2) rfl) ?_ ?_
  ·
   rintro _ _ ⟨rfl, rfl⟩; infer_instance
  rintro _ _ ⟨rfl, rfl⟩
  refine Tk 13 rfl rfl (pv_add rfl rfl (w64 (by omega) (by omega))) rfl ?_
  refine Tk 14 rfl rfl (pv_build rfl) rfl ?_
  refine AnyH.one 15 (by kernel_rfl) ?_
  refine Turn.ef rfl rfl (ef_call (tr_dtput uS qb _ l ⟨_, H, hs, rfl⟩ hl (A.length + 1 + C.length) (by omega) (so, k.2 + 1)) rfl rfl) ?_ ?_
  ·
   rintro _ _ ⟨_, Q1, ⟨rfl, hq1⟩, rfl, rfl⟩; infer_instance
  rintro _ _ ⟨_, Q1, ⟨rfl, hq1⟩, rfl, rfl⟩
  refine AnyH.app ?_
  skip
  refine AnyH.done (by kernel_rfl) ?_
  refine Ends.seq ?_
  refine Wr ?_
  refine Oa1 rfl rfl ?_
  refine On ?_
  refine Wp.ret ?_
  have e : l.take (A.length + 1 + C.length) ++ (so, k.2 + 1) :: l.drop (A.length + 1 + C.length) = A ++ k :: (C ++ (so, k.2 + 1) :: B0) := by
   have e0 : l = (A ++ k :: C) ++ B0 := by rw [hc.row]; simp
   have e1 : A.length + 1 + C.length = (A ++ k :: C).length := by simp; omega
   rw [e1, e0, List.take_left, List.drop_left]; simp
  rw [e] at hq1
  exact Ends.ret (L' := Q1) (res1 rfl rfl) ⟨rfl, hq1⟩
 refine Turn.ef rfl rfl (ef_pv (pv_load rfl rfl rfl) rfl) ?_ ?_
 ·
  rintro _ _ ⟨rfl, rfl⟩; infer_instance
 rintro _ _ ⟨rfl, rfl⟩
 refine Tk 10 rfl rfl (pv_indexAddr (i := A.length) rfl rfl rfl (by omega)) rfl ?_
 refine Tk 11 rfl rfl (pv_fieldAddr rfl rfl) rfl ?_
 refine AnyH.two 3 12 (by kernel_rfl) ?_ ?_
 ·
  refine Turn.ef rfl rfl (ef_callr (tr_dtend uS qb _ l ⟨_, H, hs, rfl⟩ hl A C B0 k hc) rfl rfl) ?_ ?_
  ·
   rintro _ _ ⟨rfl, rfl⟩; infer_instance
  rintro _ _ ⟨rfl, rfl⟩
  refine AnyH.one 12 (by kernel_rfl) ?_
  refine Turn.ef rfl rfl (ef_pv (pv_load rfl rfl z2) rfl) ?_ ?_
  ·
   rintro _ _ ⟨rfl, rfl⟩; infer_instance
  rintro _ _ ⟨rfl, rfl⟩
  refine Tk 13 rfl rfl (pv_add rfl rfl (w64 (by omega) (by omega))) rfl ?_
  refine Tk 14 rfl rfl (pv_build rfl) rfl ?_
  refine AnyH.one 15 (by kernel_rfl) ?_
  refine Turn.ef rfl rfl (ef_call (tr_dtput uS qb _ l ⟨_, H, hs, rfl⟩ hl (A.length + 1 + C.length) (by omega) (so, k.2 + 1)) rfl rfl) ?_ ?_
  ·
   rintro _ _ ⟨_, Q2, ⟨rfl, hq2⟩, rfl, rfl⟩; infer_instance
  rintro _ _ ⟨_, Q2, ⟨rfl, hq2⟩, rfl, rfl⟩
  refine AnyH.app ?_
  skip
  refine AnyH.done (by kernel_rfl) ?_
  refine Ends.seq ?_
  refine Wr ?_
  refine Oa1 rfl rfl ?_
  refine On ?_
  refine Wp.ret ?_
  have e : l.take (A.length + 1 + C.length) ++ (so, k.2 + 1) :: l.drop (A.length + 1 + C.length) = A ++ k :: (C ++ (so, k.2 + 1) :: B0) := by
   have e0 : l = (A ++ k :: C) ++ B0 := by rw [hc.row]; simp
   have e1 : A.length + 1 + C.length = (A ++ k :: C).length := by simp; omega
   rw [e1, e0, List.take_left, List.drop_left]; simp
  rw [e] at hq2
  exact Ends.ret (L' := Q2) (res1 rfl rfl) ⟨rfl, hq2⟩
 refine Turn.ef rfl rfl (ef_pv (pv_load rfl rfl z2) rfl) ?_ ?_
 ·
  rintro _ _ ⟨rfl, rfl⟩; infer_instance
 rintro _ _ ⟨rfl, rfl⟩
 refine Tk 13 rfl rfl (pv_add rfl rfl (w64 (by omega) (by omega))) rfl ?_
 refine Tk 14 rfl rfl (pv_build rfl) rfl ?_
 refine AnyH.one 3 (by kernel_rfl) ?_
 refine Turn.ef rfl rfl (ef_callr (tr_dtend uS qb _ l ⟨_, H, hs, rfl⟩ hl A C B0 k hc) rfl rfl) ?_ ?_
 ·
  rintro _ _ ⟨rfl, rfl⟩; infer_instance
 rintro _ _ ⟨rfl, rfl⟩
 refine AnyH.one 15 (by kernel_rfl) ?_
 refine Turn.ef rfl rfl (ef_call (tr_dtput uS qb _ l ⟨_, H, hs, rfl⟩ hl (A.length + 1 + C.length) (by omega) (so, k.2 + 1)) rfl rfl) ?_ ?_
 ·
  rintro _ _ ⟨_, Q3, ⟨rfl, hq3⟩, rfl, rfl⟩; infer_instance
 rintro _ _ ⟨_, Q3, ⟨rfl, hq3⟩, rfl, rfl⟩
 refine AnyH.app ?_
 skip
 refine AnyH.done (by kernel_rfl) ?_
 refine Ends.seq ?_
 refine Wr ?_
 refine Oa1 rfl rfl ?_
 refine On ?_
 refine Wp.ret ?_
 have e : l.take (A.length + 1 + C.length) ++ (so, k.2 + 1) :: l.drop (A.length + 1 + C.length) = A ++ k :: (C ++ (so, k.2 + 1) :: B0) := by
  have e0 : l = (A ++ k :: C) ++ B0 := by rw [hc.row]; simp
  have e1 : A.length + 1 + C.length = (A ++ k :: C).length := by simp; omega
  rw [e1, e0, List.take_left, List.drop_left]; simp
 rw [e] at hq3
 exact Ends.ret (L' := Q3) (res1 rfl rfl) ⟨rfl, hq3⟩
theorem tr_dtMove0 (uS : Value) (qb : Nat) (L : Hp) (l : List KnM) (hH : DtrH uS l qb L) (hl : l.length ≤ 2 ^ 20) (po so : SlotM) (ho : idxK l po = -1) : Tr Tryz.prog 95 [.pointer (some ⟨qb, 1, none⟩), slotV po, slotV so] (L) (fun u L' => u = .int .i64 3 ∧ DtrH uS l qb L') := by
 obtain ⟨v, H, hs, rfl⟩ := hH
 obtain ⟨a, c0, rfl⟩ := hs.form
 have hv := hs.view
 refine Tr.enter Tryz.func95 rfl Tryz.ntmps95 rfl (fun W F => ?_)
 refine Wp.app ?_
 refine Wr ?_
 refine Ops.ef rfl (ef_boxK rfl rfl) ?_
 rintro _ _ ⟨b1, rfl, rfl⟩
 refine Ops.ef rfl (ef_boxK rfl rfl) ?_
 rintro _ _ ⟨b2, rfl, rfl⟩
 refine Oa1 rfl rfl ?_
 refine On ?_
 refine Wr ?_
 refine Om1 rfl rfl ?_
 refine Ops.pv (pv_loadK [_, _] rfl rfl rfl ⟨rfl, rfl, trivial⟩) rfl ?_
 refine Ops.ef rfl (ef_callr ((tr_dtat uS qb _ l ⟨_, H, hs, rfl⟩ hl po).eq (by rw [ho])) rfl rfl) ?_
 rintro _ _ ⟨rfl, rfl⟩
 refine Oa1 rfl rfl ?_
 refine On ?_
 refine Wp.seq ?_
 refine Wp.block ?_
 refine Wr ?_
 refine Om1 rfl rfl ?_
 refine Ops.pv ((pv_lss rfl rfl).tru (by first | rfl | decide | omega | assumption | (simp; done) | (simp; omega))) rfl ?_
 refine Oa1 rfl rfl ?_
 refine On ?_
 refine Wp.cond_true rfl ?_
 refine Wr ?_
 refine Oa1 rfl rfl ?_
 refine On ?_
 refine Wp.ret ?_
 refine Ends.block_ret ?_
 refine Ends.then_ret ?_
 exact Ends.ret (L' := dtBlk uS qb (.slice a l.length c0) :: H) (res1 rfl rfl) ⟨rfl, _, H, hs, rfl⟩
theorem tr_dtMove1 (uS : Value) (qb : Nat) (L : Hp) (l : List KnM) (hH : DtrH uS l qb L) (hl : l.length ≤ 2 ^ 20) (po so : SlotM) (i : Nat) (k : KnM) (hi : l[i]? = some k) (ho : idxK l po = i) (h2 : 0 ≤ idxK l so) : Tr Tryz.prog 95 [.pointer (some ⟨qb, 1, none⟩), slotV po, slotV so] (L) (fun u L' => u = .int .i64 4 ∧ DtrH uS l qb L') := by
 obtain ⟨v, H, hs, rfl⟩ := hH
 obtain ⟨a, c0, rfl⟩ := hs.form
 have hv := hs.view
 refine Tr.enter Tryz.func95 rfl Tryz.ntmps95 rfl (fun W F => ?_)
 refine Wp.app ?_
 refine Wr ?_
 refine Ops.ef rfl (ef_boxK rfl rfl) ?_
 rintro _ _ ⟨b1, rfl, rfl⟩
 refine Ops.ef rfl (ef_boxK rfl rfl) ?_
 rintro _ _ ⟨b2, rfl, rfl⟩
 refine Oa1 rfl rfl ?_
 refine On ?_
 refine Wr ?_
 refine Om1 rfl rfl ?_
 refine Ops.pv (pv_loadK [_, _] rfl rfl rfl ⟨rfl, rfl, trivial⟩) rfl ?_
 refine Ops.ef rfl (ef_callr ((tr_dtat uS qb _ l ⟨_, H, hs, rfl⟩ hl po).eq (by rw [ho])) rfl rfl) ?_
 rintro _ _ ⟨rfl, rfl⟩
 refine Oa1 rfl rfl ?_
 refine On ?_
 refine Wp.seq ?_
 refine Wp.block ?_
 refine Wr ?_
 refine Om1 rfl rfl ?_
 refine Ops.pv ((pv_lss rfl rfl).fls (by first | exact fun h => h rfl | decide | omega | assumption)) rfl ?_
 refine Oa1 rfl rfl ?_
 refine On ?_
 refine Wp.cond_false rfl ?_
 refine Wr ?_
 refine Om1 rfl rfl ?_
 refine Ops.pv (pv_loadK [_, _] rfl rfl rfl ⟨rfl, rfl, trivial⟩) rfl ?_
 refine Ops.ef rfl (ef_callr (tr_dtat uS qb _ l ⟨_, H, hs, rfl⟩ hl so) rfl rfl) ?_
 rintro _ _ ⟨rfl, rfl⟩
 refine Ops.pv ((pv_geq rfl rfl).tru (by first | rfl | decide | omega | assumption | (simp; done) | (simp; omega))) rfl ?_
 refine Oa1 rfl rfl ?_
 refine On ?_
 refine Wp.cond_true rfl ?_
 refine Wr ?_
 refine Oa1 rfl rfl ?_
 refine On ?_
 refine Wp.ret ?_
 refine Ends.block_ret ?_
 refine Ends.then_ret ?_
 exact Ends.ret (L' := dtBlk uS qb (.slice a l.length c0) :: H) (res1 rfl rfl) ⟨rfl, _, H, hs, rfl⟩
theorem tr_dtMove2 (uS : Value) (qb : Nat) (L : Hp) (l : List KnM) (hH : DtrH uS l qb L) (hl : l.length ≤ 2 ^ 20) (po so : SlotM) (i : Nat) (k : KnM) (hi : l[i]? = some k) (ho : idxK l po = i) (h2 : ¬ 0 ≤ idxK l so) : Tr Tryz.prog 95 [.pointer (some ⟨qb, 1, none⟩), slotV po, slotV so] (L) (fun u L' => u = .int .i64 0 ∧ DtrH uS (l.set i (so, k.2)) qb L') := by
 obtain ⟨v, H, hs, rfl⟩ := hH
 have hlt := (List.getElem?_eq_some_iff.1 hi).1
 have hs0 := hs
 obtain ⟨b, o, cap, cs0, cs1, rfl, rfl, hr, hset, hs1⟩ := slc_set hs hi (so, k.2) [] [.int .i64 k.1.1, .int .i64 k.1.2] [.int .i64 so.1, .int .i64 so.2] [.int .i64 k.2] rfl rfl rfl
 obtain ⟨z0, z1, z2, _⟩ := cel_reads (f := kmC) hr hi
 refine Tr.enter Tryz.func95 rfl Tryz.ntmps95 rfl (fun W F => ?_)
 refine Wp.app ?_
 refine Wr ?_
 refine Ops.ef rfl (ef_boxK rfl rfl) ?_
 rintro _ _ ⟨b1, rfl, rfl⟩
 refine Ops.ef rfl (ef_boxK rfl rfl) ?_
 rintro _ _ ⟨b2, rfl, rfl⟩
 refine Oa1 rfl rfl ?_
 refine On ?_
 refine Wr ?_
 refine Om1 rfl rfl ?_
 refine Ops.pv (pv_loadK [_, _] rfl rfl rfl ⟨rfl, rfl, trivial⟩) rfl ?_
 refine Ops.ef rfl (ef_callr ((tr_dtat uS qb _ l ⟨_, _, hs0, rfl⟩ hl po).eq (by rw [ho])) rfl rfl) ?_
 rintro _ _ ⟨rfl, rfl⟩
 refine Oa1 rfl rfl ?_
 refine On ?_
 refine Wp.seq ?_
 refine Wp.block ?_
 refine Wr ?_
 refine Om1 rfl rfl ?_
 refine Ops.pv ((pv_lss rfl rfl).fls (by first | exact fun h => h rfl | decide | omega | assumption)) rfl ?_
 refine Oa1 rfl rfl ?_
 refine On ?_
 refine Wp.cond_false rfl ?_
 refine Wr ?_
 refine Om1 rfl rfl ?_
 refine Ops.pv (pv_loadK [_, _] rfl rfl rfl ⟨rfl, rfl, trivial⟩) rfl ?_
 refine Ops.ef rfl (ef_callr (tr_dtat uS qb _ l ⟨_, _, hs0, rfl⟩ hl so) rfl rfl) ?_
 rintro _ _ ⟨rfl, rfl⟩
 refine Ops.pv ((pv_geq rfl rfl).fls (by first | exact fun h => h rfl | decide | omega | assumption)) rfl ?_
 refine Oa1 rfl rfl ?_
 refine On ?_
 refine Wp.cond_false rfl ?_
 refine Wp.skip ?_
 refine Ends.block_normal ?_
 refine Ends.seq ?_
 refine Wp.seq ?_
 refine AnyH.start ((b2, .cells [.int .i64 so.1, .int .i64 so.2].toArray 31) :: dtBlk uS qb (.slice (some ⟨b, o, none⟩) l.length cap) :: []) 9 rfl ?_
 refine Tk 0 rfl rfl (pv_move rfl) rfl ?_
 refine Tk 1 rfl rfl (pv_nilCheck rfl) rfl ?_
 refine Tk 2 rfl rfl (pv_fieldAddr rfl rfl) rfl ?_
 refine Tk 3 rfl rfl (pv_load rfl rfl rfl) rfl ?_
 refine Tk 4 rfl rfl (pv_move rfl) rfl ?_
 refine Tk 5 rfl rfl (pv_loadK [_, _] rfl rfl rfl ⟨rfl, rfl, trivial⟩) rfl ?_
 refine Tk 6 rfl rfl (pv_indexAddr (i := i) rfl rfl rfl (by omega)) rfl ?_
 refine Tk 7 rfl rfl (pv_fieldAddr rfl rfl) rfl ?_
 refine AnyH.one 8 (by kernel_rfl) ?_
 refine Turn.ef rfl rfl (ef_storeK rfl rfl rfl rfl) ?_ ?_
 ·
  rintro _ _ ⟨rfl, rfl⟩; infer_instance
 rintro _ _ ⟨rfl, rfl⟩
 refine AnyH.done (by kernel_rfl) ?_
 refine Ends.seq ?_
 refine Wr ?_
 refine Oa1 rfl rfl ?_
 refine On ?_
 refine Wp.ret ?_
 exact Ends.ret (L' := dtBlk uS qb (.slice (some ⟨b, o, none⟩) l.length cap) :: [(b, .cells cs1.toArray 105)]) (res1 rfl rfl) ⟨rfl, _, _, hs1, rfl⟩
theorem tr_dtPar0 (uS : Value) (qb : Nat) (L : Hp) (l : List KnM) (hH : DtrH uS l qb L) (hl : l.length ≤ 2 ^ 20) (so : SlotM) (ho : idxK l so = -1) : TrR Tryz.prog 54 [.pointer (some ⟨qb, 1, none⟩), slotV so] (L) (.tuple #[slotV (0, 0), .bool false]) := by
 obtain ⟨v, H, hs, rfl⟩ := hH
 obtain ⟨a, c0, rfl⟩ := hs.form
 have hv := hs.view
 refine Tr.enter Tryz.func54 rfl Tryz.ntmps54 rfl (fun W F => ?_)
 refine Wp.app ?_
 refine Wr ?_
 refine Ops.ef rfl (ef_boxK rfl rfl) ?_
 rintro _ _ ⟨b1, rfl, rfl⟩
 refine Ops.ef rfl (ef_allocK tyZ31 rfl) ?_
 rintro _ _ ⟨b2, rfl, rfl⟩
 refine Oa1 rfl rfl ?_
 refine On ?_
 refine Wr ?_
 refine Om1 rfl rfl ?_
 refine Ops.pv (pv_loadK [_, _] rfl rfl rfl ⟨rfl, rfl, trivial⟩) rfl ?_
 refine Ops.ef rfl (ef_callr ((tr_dtat uS qb _ l ⟨_, H, hs, rfl⟩ hl so).eq (by rw [ho])) rfl rfl) ?_
 rintro _ _ ⟨rfl, rfl⟩
 refine Oa1 rfl rfl ?_
 refine On ?_
 refine Wp.seq ?_
 refine Wr ?_
 refine Om1 rfl rfl ?_
 refine Ops.pv ((pv_lss rfl rfl).tru (by first | rfl | decide | omega | assumption | (simp; done) | (simp; omega))) rfl ?_
 refine On ?_
 refine Wp.cond_true rfl ?_
 refine Wr ?_
 refine Ops.pv (pv_build rfl) rfl ?_
 refine Ops.ef rfl (ef_storeK rfl rfl rfl rfl) ?_
 rintro _ _ ⟨rfl, rfl⟩
 refine Oa1 rfl rfl ?_
 refine On ?_
 refine Wp.ret ?_
 refine Ends.then_ret ?_
 exact Ends.ret (res_list (rs := [.cell 4 31, .tmp 5]) rfl ⟨_, _, rfl, rv_cellK [_, _] rfl rfl rfl ⟨rfl, rfl, trivial⟩, ⟨_, _, rfl, rv_tmp rfl, rfl⟩⟩ rfl) ⟨rfl, rfl⟩
theorem tr_dtPar1 (uS : Value) (qb : Nat) (L : Hp) (l : List KnM) (hH : DtrH uS l qb L) (hl : l.length ≤ 2 ^ 20) (so : SlotM) (A C : List KnM) (k : KnM) (hrow : l = A ++ k :: C) (ho : idxK l so = A.length) (hno : ∀ a, a ∈ A → ¬ a.2 < k.2) : TrR Tryz.prog 54 [.pointer (some ⟨qb, 1, none⟩), slotV so] (L) (.tuple #[slotV (0, 0), .bool false]) := by
 obtain ⟨v, H, hs, rfl⟩ := hH
 obtain ⟨a, c0, rfl⟩ := hs.form
 have hv := hs.view
 have hll : l.length = A.length + 1 + C.length := by rw [hrow]; simp; omega
 have hka : l[A.length]? = some k := by rw [hrow]; simp
 obtain ⟨b, o, cap, cc, T, f, hv1, hbv, hr⟩ := hv.open (by omega)
 cases hv1
 obtain ⟨z0, z1, z2, _⟩ := cel_reads (f := kmC) hr hka
 refine Tr.enter Tryz.func54 rfl Tryz.ntmps54 rfl (fun W F => ?_)
 refine Wp.app ?_
 refine Wr ?_
 refine Ops.ef rfl (ef_boxK rfl rfl) ?_
 rintro _ _ ⟨b1, rfl, rfl⟩
 refine Ops.ef rfl (ef_allocK tyZ31 rfl) ?_
 rintro _ _ ⟨b2, rfl, rfl⟩
 refine Oa1 rfl rfl ?_
 refine On ?_
 refine Wr ?_
 refine Om1 rfl rfl ?_
 refine Ops.pv (pv_loadK [_, _] rfl rfl rfl ⟨rfl, rfl, trivial⟩) rfl ?_
 refine Ops.ef rfl (ef_callr ((tr_dtat uS qb _ l ⟨_, H, hs, rfl⟩ hl so).eq (by rw [ho])) rfl rfl) ?_
 rintro _ _ ⟨rfl, rfl⟩
 refine Oa1 rfl rfl ?_
 refine On ?_
 refine Wp.seq ?_
 refine Wr ?_
 refine Om1 rfl rfl ?_
 refine Ops.pv ((pv_lss rfl rfl).fls (by first | exact fun h => h rfl | decide | omega | assumption)) rfl ?_
 refine On ?_
 refine Wp.cond_false rfl ?_
 refine Wp.skip ?_
 refine Ends.seq ?_
 refine Wp.seq ?_
 refine Wr ?_
 refine Om1 rfl rfl ?_
 refine Ops.pv (pv_sub rfl rfl (w64 (by omega) (by omega))) rfl ?_
 refine Oa1 rfl rfl ?_
 refine On ?_
 refine Wp.block ?_
 refine Wp.loopK (σ := Nat) [(0, _), (4, _), (6, _)] (fun s => [(7, .int .i64 ((s : Int) - 1))]) (fun s => (b2, .cells [.int .i64 0, .int .i64 0].toArray 31) :: dtBlk uS qb (.slice (some ⟨b, o, none⟩) l.length c0) :: (H ++ F)) (fun s => s ≤ A.length ∧ ∀ j x, s ≤ j → j < A.length → l[j]? = some x → ¬ x.2 < k.2) (fun s => s) A.length ⟨Nat.le_refl _, fun j x h1 h2 => by omega⟩ ⟨rfl, rfl, rfl, trivial⟩ ⟨rfl, trivial⟩ (by intro w ho; (try dsimp only [List.nil_append, List.cons_append]); exact Drop.own ho) ?_
 rintro m KK ⟨hm, hn⟩ hK
 dsimp only [List.cons_append, List.nil_append] at hK ⊢
 refine Wp.seq ?_
 refine Wr ?_
 refine Om1 rfl rfl ?_
 refine Ops.pv (pv_geq rfl rfl) rfl ?_
 refine On ?_
 refine Wp.cond_dect rfl (fun h1 => ?_) (fun h1 => ?_)
 ·
  obtain ⟨n, rfl⟩ : ∃ n, m = n + 1 := ⟨m - 1, by omega⟩
  rw [show (((n + 1 : Nat) : Int) - 1) = (n : Int) by omega]
  obtain ⟨d, hd⟩ : ∃ d, l[n]? = some d := ⟨_, List.getElem?_eq_getElem (by omega)⟩
  obtain ⟨q0, q1, q2, _⟩ := cel_reads (f := kmC) hr hd
  refine Wp.skip ?_
  refine Ends.seq ?_
  refine Wp.seq ?_
  refine Wp.block ?_
  refine Wp.seq ?_
  refine AnyH.start (dtBlk uS qb (.slice (some ⟨b, o, none⟩) l.length c0) :: H) 17 rfl ?_
  refine Tk 0 rfl rfl (pv_move rfl) rfl ?_
  refine Tk 1 rfl rfl (pv_nilCheck rfl) rfl ?_
  refine Tk 2 rfl rfl (pv_fieldAddr rfl rfl) rfl ?_
  refine Tk 3 rfl rfl (pv_load rfl rfl rfl) rfl ?_
  refine Tk 4 rfl rfl (pv_move rfl) rfl ?_
  refine Tk 5 rfl rfl (pv_indexAddr (i := n) rfl rfl rfl (by omega)) rfl ?_
  refine Tk 6 rfl rfl (pv_fieldAddr rfl rfl) rfl ?_
  refine Tk 7 rfl rfl (pv_load rfl rfl q2) rfl ?_
  refine Tk 8 rfl rfl (pv_move rfl) rfl ?_
  refine Tk 9 rfl rfl (pv_nilCheck rfl) rfl ?_
  refine Tk 10 rfl rfl (pv_fieldAddr rfl rfl) rfl ?_
  refine Tk 11 rfl rfl (pv_load rfl rfl rfl) rfl ?_
  refine Tk 12 rfl rfl (pv_move rfl) rfl ?_
  refine Tk 13 rfl rfl (pv_indexAddr (i := A.length) rfl rfl rfl (by omega)) rfl ?_
  refine Tk 14 rfl rfl (pv_fieldAddr rfl rfl) rfl ?_
  refine Tk 15 rfl rfl (pv_load rfl rfl z2) rfl ?_
  refine Tk 16 rfl rfl (pv_lss rfl rfl) rfl ?_
  refine AnyH.done (by kernel_rfl) ?_
  refine Ends.seq ?_
  refine Wp.cond_dect rfl (fun h2 => ?_) (fun h2 => ?_)
  ·
   refine Wr ?_
   refine Om1 rfl rfl ?_
   refine Ops.pv (pv_nilCheck rfl) rfl ?_
   refine Ops.pv (pv_fieldAddr rfl rfl) rfl ?_
   refine Ol1 rfl rfl rfl rfl ?_
   refine Om1 rfl rfl ?_
   refine Ops.pv (pv_indexAddr (i := n) rfl rfl rfl (by omega)) rfl ?_
   refine Ops.pv (pv_fieldAddr rfl rfl) rfl ?_
   refine Ops.pv (pv_loadK [.int .i64 d.1.1, .int .i64 d.1.2] rfl rfl rfl ⟨q0, q1, trivial⟩) rfl ?_
   refine Ops.ef rfl (ef_storeK rfl rfl rfl rfl) ?_
   rintro _ _ ⟨rfl, rfl⟩
   refine Oa1 rfl rfl ?_
   refine On ?_
   refine Wp.ret ?_
   refine Ends.block_ret ?_
   refine Ends.then_ret ?_
   refine Ends.then_ret ?_
   refine Ends.block_ret ?_
   refine Ends.then_ret ?_
   exfalso
   have hdA : A[n]? = some d := by rw [hrow, List.getElem?_append_left (by omega)] at hd; exact hd
   exact hno d (List.mem_of_getElem? hdA) (by assumption)
  refine Wp.skip ?_
  refine Ends.block_normal ?_
  refine Ends.seq ?_
  refine Wp.region ?_
  refine Om1 rfl rfl ?_
  refine Ops.pv (pv_sub rfl rfl (w64 (by omega) (by omega))) rfl ?_
  refine Oa1 rfl rfl ?_
  refine Ops.nil ?_
  refine Ends.goes ?_
  refine Goes.back (hK n ⟨by omega, fun j x h1 h2 hx => ?_⟩ (by omega)) ⟨rfl, rfl, rfl, rfl, trivial⟩
  rcases Nat.lt_or_ge n j with h3 | h3
  ·
   exact hn j x h3 h2 hx
  obtain rfl : j = n := by omega
  rw [hd] at hx; cases hx; assumption
 refine Wp.exit ?_
 refine Ends.then_exit ?_
 refine Ends.then_exit ?_
 refine Ends.block_hit ?_
 refine Ends.seq ?_
 refine Wr ?_
 refine Ops.pv (pv_build rfl) rfl ?_
 refine Ops.ef rfl (ef_storeK rfl rfl rfl rfl) ?_
 rintro _ _ ⟨rfl, rfl⟩
 refine Oa1 rfl rfl ?_
 refine On ?_
 refine Wp.ret ?_
 exact Ends.ret (res_list (rs := [.cell 4 31, .tmp 5]) rfl ⟨_, _, rfl, rv_cellK [_, _] rfl rfl rfl ⟨rfl, rfl, trivial⟩, ⟨_, _, rfl, rv_tmp rfl, rfl⟩⟩ rfl) ⟨rfl, rfl⟩
theorem tr_dtPar2 (uS : Value) (qb : Nat) (L : Hp) (l : List KnM) (hH : DtrH uS l qb L) (hl : l.length ≤ 2 ^ 20) (so : SlotM) (A C : List KnM) (k : KnM) (hrow : l = A ++ k :: C) (ho : idxK l so = A.length) (A1 A2 : List KnM) (j : KnM) (hA : A = A1 ++ j :: A2) (hj : j.2 < k.2) (hno : ∀ a, a ∈ A2 → ¬ a.2 < k.2) : TrR Tryz.prog 54 [.pointer (some ⟨qb, 1, none⟩), slotV so] (L) (.tuple #[slotV j.1, .bool true]) := by
 obtain ⟨v, H, hs, rfl⟩ := hH
 obtain ⟨a, c0, rfl⟩ := hs.form
 have hv := hs.view
 have hll : l.length = A.length + 1 + C.length := by rw [hrow]; simp; omega
 have hka : l[A.length]? = some k := by rw [hrow]; simp
 obtain ⟨b, o, cap, cc, T, f, hv1, hbv, hr⟩ := hv.open (by omega)
 cases hv1
 obtain ⟨z0, z1, z2, _⟩ := cel_reads (f := kmC) hr hka
 refine Tr.enter Tryz.func54 rfl Tryz.ntmps54 rfl (fun W F => ?_)
 refine Wp.app ?_
 refine Wr ?_
 refine Ops.ef rfl (ef_boxK rfl rfl) ?_
 rintro _ _ ⟨b1, rfl, rfl⟩
 refine Ops.ef rfl (ef_allocK tyZ31 rfl) ?_
 rintro _ _ ⟨b2, rfl, rfl⟩
 refine Oa1 rfl rfl ?_
 refine On ?_
 refine Wr ?_
 refine Om1 rfl rfl ?_
 refine Ops.pv (pv_loadK [_, _] rfl rfl rfl ⟨rfl, rfl, trivial⟩) rfl ?_
 refine Ops.ef rfl (ef_callr ((tr_dtat uS qb _ l ⟨_, H, hs, rfl⟩ hl so).eq (by rw [ho])) rfl rfl) ?_
 rintro _ _ ⟨rfl, rfl⟩
 refine Oa1 rfl rfl ?_
 refine On ?_
 refine Wp.seq ?_
 refine Wr ?_
 refine Om1 rfl rfl ?_
 refine Ops.pv ((pv_lss rfl rfl).fls (by first | exact fun h => h rfl | decide | omega | assumption)) rfl ?_
 refine On ?_
 refine Wp.cond_false rfl ?_
 refine Wp.skip ?_
 refine Ends.seq ?_
 refine Wp.seq ?_
 refine Wr ?_
 refine Om1 rfl rfl ?_
 refine Ops.pv (pv_sub rfl rfl (w64 (by omega) (by omega))) rfl ?_
 refine Oa1 rfl rfl ?_
 refine On ?_
 refine Wp.block ?_
 refine Wp.loopK (σ := Nat) [(0, _), (4, _), (6, _)] (fun s => [(7, .int .i64 ((s : Int) - 1))]) (fun s => (b2, .cells [.int .i64 0, .int .i64 0].toArray 31) :: dtBlk uS qb (.slice (some ⟨b, o, none⟩) l.length c0) :: (H ++ F)) (fun s => s ≤ A.length ∧ ∀ j x, s ≤ j → j < A.length → l[j]? = some x → ¬ x.2 < k.2) (fun s => s) A.length ⟨Nat.le_refl _, fun j x h1 h2 => by omega⟩ ⟨rfl, rfl, rfl, trivial⟩ ⟨rfl, trivial⟩ (by intro w ho; (try dsimp only [List.nil_append, List.cons_append]); exact Drop.own ho) ?_
 rintro m KK ⟨hm, hn⟩ hK
 dsimp only [List.cons_append, List.nil_append] at hK ⊢
 refine Wp.seq ?_
 refine Wr ?_
 refine Om1 rfl rfl ?_
 refine Ops.pv (pv_geq rfl rfl) rfl ?_
 refine On ?_
 refine Wp.cond_dect rfl (fun h1 => ?_) (fun h1 => ?_)
 ·
  obtain ⟨n, rfl⟩ : ∃ n, m = n + 1 := ⟨m - 1, by omega⟩
  rw [show (((n + 1 : Nat) : Int) - 1) = (n : Int) by omega]
  obtain ⟨d, hd⟩ : ∃ d, l[n]? = some d := ⟨_, List.getElem?_eq_getElem (by omega)⟩
  obtain ⟨q0, q1, q2, _⟩ := cel_reads (f := kmC) hr hd
  refine Wp.skip ?_
  refine Ends.seq ?_
  refine Wp.seq ?_
  refine Wp.block ?_
  refine Wp.seq ?_
  refine AnyH.start (dtBlk uS qb (.slice (some ⟨b, o, none⟩) l.length c0) :: H) 17 rfl ?_
  refine Tk 0 rfl rfl (pv_move rfl) rfl ?_
  refine Tk 1 rfl rfl (pv_nilCheck rfl) rfl ?_
  refine Tk 2 rfl rfl (pv_fieldAddr rfl rfl) rfl ?_
  refine Tk 3 rfl rfl (pv_load rfl rfl rfl) rfl ?_
  refine Tk 4 rfl rfl (pv_move rfl) rfl ?_
  refine Tk 5 rfl rfl (pv_indexAddr (i := n) rfl rfl rfl (by omega)) rfl ?_
  refine Tk 6 rfl rfl (pv_fieldAddr rfl rfl) rfl ?_
  refine Tk 7 rfl rfl (pv_load rfl rfl q2) rfl ?_
  refine Tk 8 rfl rfl (pv_move rfl) rfl ?_
  refine Tk 9 rfl rfl (pv_nilCheck rfl) rfl ?_
  refine Tk 10 rfl rfl (pv_fieldAddr rfl rfl) rfl ?_
  refine Tk 11 rfl rfl (pv_load rfl rfl rfl) rfl ?_
  refine Tk 12 rfl rfl (pv_move rfl) rfl ?_
  refine Tk 13 rfl rfl (pv_indexAddr (i := A.length) rfl rfl rfl (by omega)) rfl ?_
  refine Tk 14 rfl rfl (pv_fieldAddr rfl rfl) rfl ?_
  refine Tk 15 rfl rfl (pv_load rfl rfl z2) rfl ?_
  refine Tk 16 rfl rfl (pv_lss rfl rfl) rfl ?_
  refine AnyH.done (by kernel_rfl) ?_
  refine Ends.seq ?_
  refine Wp.cond_dect rfl (fun h2 => ?_) (fun h2 => ?_)
  ·
   refine Wr ?_
   refine Om1 rfl rfl ?_
   refine Ops.pv (pv_nilCheck rfl) rfl ?_
   refine Ops.pv (pv_fieldAddr rfl rfl) rfl ?_
   refine Ol1 rfl rfl rfl rfl ?_
   refine Om1 rfl rfl ?_
   refine Ops.pv (pv_indexAddr (i := n) rfl rfl rfl (by omega)) rfl ?_
   refine Ops.pv (pv_fieldAddr rfl rfl) rfl ?_
   refine Ops.pv (pv_loadK [.int .i64 d.1.1, .int .i64 d.1.2] rfl rfl rfl ⟨q0, q1, trivial⟩) rfl ?_
   refine Ops.ef rfl (ef_storeK rfl rfl rfl rfl) ?_
   rintro _ _ ⟨rfl, rfl⟩
   refine Oa1 rfl rfl ?_
   refine On ?_
   refine Wp.ret ?_
   refine Ends.block_ret ?_
   refine Ends.then_ret ?_
   refine Ends.then_ret ?_
   refine Ends.block_ret ?_
   refine Ends.then_ret ?_
   have hlA : ∀ i x, i < A.length → A[i]? = some x → l[i]? = some x := fun i x hi hx => by rw [hrow, List.getElem?_append_left hi]; exact hx
   have hdA : A[n]? = some d := by rw [hrow, List.getElem?_append_left (by omega)] at hd; exact hd
   obtain rfl : d = j := near_eq hA hno hj hdA (by assumption) (fun i x h1 h2 hx => hn i x h1 h2 (hlA i x h2 hx))
   exact Ends.ret (res_list (rs := [.cell 4 31, .tmp 5]) rfl ⟨_, _, rfl, rv_cellK [_, _] rfl rfl rfl ⟨rfl, rfl, trivial⟩, ⟨_, _, rfl, rv_tmp rfl, rfl⟩⟩ rfl) ⟨rfl, rfl⟩
  refine Wp.skip ?_
  refine Ends.block_normal ?_
  refine Ends.seq ?_
  refine Wp.region ?_
  refine Om1 rfl rfl ?_
  refine Ops.pv (pv_sub rfl rfl (w64 (by omega) (by omega))) rfl ?_
  refine Oa1 rfl rfl ?_
  refine Ops.nil ?_
  refine Ends.goes ?_
  refine Goes.back (hK n ⟨by omega, fun j x h1 h2 hx => ?_⟩ (by omega)) ⟨rfl, rfl, rfl, rfl, trivial⟩
  rcases Nat.lt_or_ge n j with h3 | h3
  ·
   exact hn j x h3 h2 hx
  obtain rfl : j = n := by omega
  rw [hd] at hx; cases hx; assumption
 refine Wp.exit ?_
 refine Ends.then_exit ?_
 refine Ends.then_exit ?_
 refine Ends.block_hit ?_
 refine Ends.seq ?_
 refine Wr ?_
 refine Ops.pv (pv_build rfl) rfl ?_
 refine Ops.ef rfl (ef_storeK rfl rfl rfl rfl) ?_
 rintro _ _ ⟨rfl, rfl⟩
 refine Oa1 rfl rfl ?_
 refine On ?_
 refine Wp.ret ?_
 exfalso
 obtain rfl : m = 0 := by omega
 have hl1 : A1.length < A.length := by rw [hA]; simp
 exact hn A1.length j (Nat.zero_le _) hl1 (by rw [hrow, List.getElem?_append_left hl1, hA]; simp) hj
theorem tr_dtDrop0 (uS : Value) (qb : Nat) (L : Hp) (l : List KnM) (hH : DtrH uS l qb L) (hl : l.length ≤ 2 ^ 20) (so : SlotM) (ho : idxK l so = -1) : Tr Tryz.prog 97 [.pointer (some ⟨qb, 1, none⟩), slotV so] (L) (fun u L' => u = .int .i64 3 ∧ DtrH uS l qb L') := by
 obtain ⟨v, H, hs, rfl⟩ := hH
 obtain ⟨a, c0, rfl⟩ := hs.form
 have hv := hs.view
 refine Tr.enter Tryz.func97 rfl Tryz.ntmps97 rfl (fun W F => ?_)
 refine Wp.app ?_
 refine Wr ?_
 refine Ops.ef rfl (ef_boxK rfl rfl) ?_
 rintro _ _ ⟨b1, rfl, rfl⟩
 refine Oa1 rfl rfl ?_
 refine On ?_
 refine Wr ?_
 refine Om1 rfl rfl ?_
 refine Ops.pv (pv_loadK [_, _] rfl rfl rfl ⟨rfl, rfl, trivial⟩) rfl ?_
 refine Ops.ef rfl (ef_callr ((tr_dtat uS qb _ l ⟨_, H, hs, rfl⟩ hl so).eq (by rw [ho])) rfl rfl) ?_
 rintro _ _ ⟨rfl, rfl⟩
 refine Oa1 rfl rfl ?_
 refine On ?_
 refine Wp.seq ?_
 refine Wr ?_
 refine Om1 rfl rfl ?_
 refine Ops.pv ((pv_lss rfl rfl).tru (by first | rfl | decide | omega | assumption | (simp; done) | (simp; omega))) rfl ?_
 refine On ?_
 refine Wp.cond_true rfl ?_
 refine Wr ?_
 refine Oa1 rfl rfl ?_
 refine On ?_
 refine Wp.ret ?_
 refine Ends.then_ret ?_
 exact Ends.ret (L' := dtBlk uS qb (.slice a l.length c0) :: H) (res1 rfl rfl) ⟨rfl, _, H, hs, rfl⟩
set_option maxHeartbeats 2000000 in
theorem tr_dtDrop1 (uS : Value) (qb : Nat) (L : Hp) (l : List KnM) (hH : DtrH uS l qb L) (hl : l.length ≤ 2 ^ 20) (so : SlotM) (A C B0 : List KnM) (k : KnM) (hc : DCut l A k C B0) (ho : idxK l so = A.length) (hb : ∀ x, x ∈ l → 0 ≤ x.2 ∧ x.2 ≤ 2 ^ 20) : Tr Tryz.prog 97 [.pointer (some ⟨qb, 1, none⟩), slotV so] (L) (fun u L' => u = .int .i64 0 ∧ DtrH uS (A ++ (C.map dec1 ++ B0)) qb L') := by
 obtain ⟨v, H, hs, rfl⟩ := hH
 obtain ⟨a, c0, rfl⟩ := hs.form
 have hv := hs.view
 have hll := hc.len
 refine Tr.enter Tryz.func97 rfl Tryz.ntmps97 rfl (fun W F => ?_)
 refine Wp.app ?_
 refine Wr ?_
 refine Ops.ef rfl (ef_boxK rfl rfl) ?_
 rintro _ _ ⟨b1, rfl, rfl⟩
 refine Oa1 rfl rfl ?_
 refine On ?_
 refine Wr ?_
 refine Om1 rfl rfl ?_
 refine Ops.pv (pv_loadK [_, _] rfl rfl rfl ⟨rfl, rfl, trivial⟩) rfl ?_
 refine Ops.ef rfl (ef_callr ((tr_dtat uS qb _ l ⟨_, H, hs, rfl⟩ hl so).eq (by rw [ho])) rfl rfl) ?_
 rintro _ _ ⟨rfl, rfl⟩
 refine Oa1 rfl rfl ?_
 refine On ?_
 refine Wp.seq ?_
 refine Wr ?_
 refine Om1 rfl rfl ?_
 refine Ops.pv ((pv_lss rfl rfl).fls (by first | exact fun h => h rfl | decide | omega | assumption)) rfl ?_
 refine On ?_
 refine Wp.cond_false rfl ?_
 refine Wp.skip ?_
 refine Ends.seq ?_
 refine Wr ?_
 refine Om1 rfl rfl ?_
 refine Om1 rfl rfl ?_
 refine Ops.ef rfl (ef_callr (tr_dtend uS qb _ l ⟨_, H, hs, rfl⟩ hl A C B0 k hc) rfl rfl) ?_
 rintro _ _ ⟨rfl, rfl⟩
 refine Oa1 rfl rfl ?_
 refine On ?_
 refine Wr ?_
 refine Oa1 rfl rfl ?_
 refine On ?_
 refine Wp.seq ?_
 refine Wr ?_
 refine Oa1 rfl rfl ?_
 refine On ?_
 refine Wp.block ?_
 refine Wp.loopK (σ := Nat × Value × Hp) [(0, _), (5, _), (6, _)] (fun s => [(7, s.2.1), (8, .int .i64 s.1)]) (fun s => s.2.2 ++ (dtBlk uS qb (.slice a l.length c0) :: (H ++ F))) (fun s => s.1 ≤ l.length ∧ Slc 105 3 s.2.1 (dropTo l A.length (A.length + 1 + C.length) s.1).length (cel kmC (dropTo l A.length (A.length + 1 + C.length) s.1)) s.2.2) (fun s => l.length - s.1) (0, .slice none 0 0, []) ⟨Nat.zero_le _, Slc.nil _ _⟩ ⟨rfl, rfl, rfl, trivial⟩ ⟨rfl, rfl, trivial⟩ (by intro w ho; (try dsimp only [List.nil_append, List.cons_append]); exact Drop.own ho) ?_
 rintro ⟨i, u, K⟩ KK ⟨hi, hu⟩ hK
 dsimp only [List.cons_append, List.nil_append] at hK ⊢
 dsimp only at hi hu ⊢
 refine Wp.seq ?_
 refine Wr ?_
 refine Om1 rfl rfl ?_
 refine Om1 rfl rfl ?_
 refine Ops.pv (pv_nilCheck rfl) rfl ?_
 refine Ops.pv (pv_fieldAddr rfl rfl) rfl ?_
 refine Ol1 rfl rfl rfl rfl ?_
 refine Ops.pv (pv_len_slice (T := 46) rfl rfl) rfl ?_
 refine Ops.pv (pv_lss rfl rfl) rfl ?_
 refine On ?_
 refine Wp.cond_dect rfl (fun h1 => ?_) (fun h1 => ?_)
 ·
  obtain ⟨b, o, cap, cc, T, f, hv1, hbv, hr⟩ := hv.open (by omega)
  cases hv1
  obtain ⟨d, hd⟩ : ∃ d, l[i]? = some d := ⟨_, List.getElem?_eq_getElem (by omega)⟩
  have hdb := hb d (List.mem_of_getElem? hd)
  have hdt := dropTo_len l A.length (A.length + 1 + C.length) i
  obtain ⟨q0, q1, q2, _⟩ := cel_reads (f := kmC) hr hd
  refine Wp.skip ?_
  refine Ends.seq ?_
  refine Wp.seq ?_
  refine Wp.block ?_
  refine Wr ?_
  refine Om1 rfl rfl ?_
  refine Ops.pv (pv_nilCheck rfl) rfl ?_
  refine Ops.pv (pv_fieldAddr rfl rfl) rfl ?_
  refine Ol1 rfl rfl rfl rfl ?_
  refine Om1 rfl rfl ?_
  refine Ops.pv (pv_indexAddr (i := i) rfl rfl rfl (by omega)) rfl ?_
  refine Ops.pv (pv_loadK [.int .i64 d.1.1, .int .i64 d.1.2, .int .i64 d.2] rfl rfl rfl ⟨q0, q1, q2, trivial⟩) rfl ?_
  refine Ops.ef rfl (ef_allocK tyZ105 rfl) ?_
  rintro _ _ ⟨b2, rfl, rfl⟩
  refine Ops.ef rfl (ef_storeK rfl rfl rfl rfl) ?_
  rintro _ _ ⟨rfl, rfl⟩
  refine On ?_
  refine Wp.seq ?_
  refine Wr ?_
  refine Om1 rfl rfl ?_
  refine Om1 rfl rfl ?_
  refine Ops.pv (pv_gtr rfl rfl) rfl ?_
  refine Om1 rfl rfl ?_
  refine Ops.pvc rfl rfl (fun hg => pv_move rfl) rfl ?_
  refine Ops.pvc rfl rfl (fun hg => Pv.setE (t := 38) rfl (cv_pos hg) (pv_move rfl)) rfl ?_
  refine Ops.pvc rfl rfl (fun hg => Pv.setE (t := 38) rfl (cv_pos hg) (Pv.setE (t := 39) rfl (cv_pos hg) (pv_lss rfl rfl))) rfl ?_
  refine Ops.pv (pv_pick_and rfl rfl) rfl ?_
  refine On ?_
  refine Wp.cond_dect rfl (fun h2 => ?_) (fun h2 => ?_)
  ·
   refine Wp.region ?_
   refine Of1 rfl rfl rfl ?_
   refine Ol1 rfl rfl rfl rfl ?_
   refine Ops.pv (pv_sub rfl rfl (w64 (by omega) (by omega))) rfl ?_
   refine Of1 rfl rfl rfl ?_
   refine Ops.ef rfl (ef_store1 rfl rfl (by first | rfl | assumption) (by first | rfl | assumption)) ?_
   rintro _ _ ⟨rfl, rfl⟩
   refine On ?_
   refine Wr ?_
   refine Om1 rfl rfl ?_
   refine Om1 rfl rfl ?_
   refine Ops.pv (pv_neq rfl rfl) rfl ?_
   refine On ?_
   refine Wp.cond_dect rfl (fun h3 => ?_) (fun h3 => ?_)
   ·
    refine Wp.region ?_
    refine Om1 rfl rfl ?_
    refine Ops.pv (pv_loadK [_, _, _] rfl rfl rfl ⟨rfl, rfl, rfl, trivial⟩) rfl ?_
    refine Ops.ef rfl (ef_buildSlice1 (k := 3) rfl rfl rfl rfl rfl) ?_
    rintro _ _ ⟨b3, rfl, rfl⟩
    refine Ops.ef rfl (ef_append (H := K) (xs := kmC (d.1, d.2 - 1)) rfl hu rfl ⟨rfl, rfl, rfl, trivial⟩ rfl rfl rfl (by omega) (by omega) rfl rfl) ?_
    rintro _ _ ⟨u1, K1, hu1, rfl, rfl⟩
    refine Ops.app ?_
    refine Oa1 rfl rfl ?_
    refine Ops.nil ?_
    refine Ends.block_normal ?_
    refine Ends.seq ?_
    refine Wp.region ?_
    refine Om1 rfl rfl ?_
    refine Ops.pv (pv_add rfl rfl (w64 (by omega) (by omega))) rfl ?_
    refine Oa1 rfl rfl ?_
    refine Ops.nil ?_
    refine Ends.goes ?_
    have e : dropTo l A.length (A.length + 1 + C.length) (i + 1) = dropTo l A.length (A.length + 1 + C.length) i ++ [(d.1, d.2 - 1)] := by
     simp only [dropTo, hd]; rw [if_neg (by omega), if_pos ⟨by omega, by omega⟩]
    refine Goes.back (hK (i + 1, u1, K1) ⟨by dsimp only; omega, ?_⟩ (by dsimp only; omega)) ⟨rfl, rfl, rfl, rfl, rfl, trivial⟩
    dsimp only; rw [e, List.length_append, cel_app, cel_one1]; exact hu1
   refine Wp.skip ?_
   refine Ends.block_normal ?_
   refine Ends.seq ?_
   refine Wp.region ?_
   refine Om1 rfl rfl ?_
   refine Ops.pv (pv_add rfl rfl (w64 (by omega) (by omega))) rfl ?_
   refine Oa1 rfl rfl ?_
   refine Ops.nil ?_
   refine Ends.goes ?_
   refine Goes.back (hK (i + 1, u, K) (by exfalso; omega) (by exfalso; omega)) ⟨rfl, rfl, rfl, rfl, rfl, trivial⟩
  refine Wp.skip ?_
  refine Ends.seq ?_
  refine Wr ?_
  refine Om1 rfl rfl ?_
  refine Om1 rfl rfl ?_
  refine Ops.pv (pv_neq rfl rfl) rfl ?_
  refine On ?_
  refine Wp.cond_dect rfl (fun h4 => ?_) (fun h4 => ?_)
  ·
   refine Wp.region ?_
   refine Om1 rfl rfl ?_
   refine Ops.pv (pv_loadK [_, _, _] rfl rfl rfl ⟨rfl, rfl, rfl, trivial⟩) rfl ?_
   refine Ops.ef rfl (ef_buildSlice1 (k := 3) rfl rfl rfl rfl rfl) ?_
   rintro _ _ ⟨b4, rfl, rfl⟩
   refine Ops.ef rfl (ef_append (H := K) (xs := kmC d) rfl hu rfl ⟨rfl, rfl, rfl, trivial⟩ rfl rfl rfl (by omega) (by omega) rfl rfl) ?_
   rintro _ _ ⟨u2, K2, hu2, rfl, rfl⟩
   refine Ops.app ?_
   refine Oa1 rfl rfl ?_
   refine Ops.nil ?_
   refine Ends.block_normal ?_
   refine Ends.seq ?_
   refine Wp.region ?_
   refine Om1 rfl rfl ?_
   refine Ops.pv (pv_add rfl rfl (w64 (by omega) (by omega))) rfl ?_
   refine Oa1 rfl rfl ?_
   refine Ops.nil ?_
   refine Ends.goes ?_
   have e : dropTo l A.length (A.length + 1 + C.length) (i + 1) = dropTo l A.length (A.length + 1 + C.length) i ++ [d] := by
    simp only [dropTo, hd]; rw [if_neg (by omega), if_neg (by omega)]
   refine Goes.back (hK (i + 1, u2, K2) ⟨by dsimp only; omega, ?_⟩ (by dsimp only; omega)) ⟨rfl, rfl, rfl, rfl, rfl, trivial⟩
   dsimp only; rw [e, List.length_append, cel_app, cel_one1]; exact hu2
  refine Wp.skip ?_
  refine Ends.block_normal ?_
  refine Ends.seq ?_
  refine Wp.region ?_
  refine Om1 rfl rfl ?_
  refine Ops.pv (pv_add rfl rfl (w64 (by omega) (by omega))) rfl ?_
  refine Oa1 rfl rfl ?_
  refine Ops.nil ?_
  refine Ends.goes ?_
  have e : dropTo l A.length (A.length + 1 + C.length) (i + 1) = dropTo l A.length (A.length + 1 + C.length) i := by
   simp only [dropTo]; rw [if_pos (by omega), List.append_nil]
  refine Goes.back (hK (i + 1, u, K) ⟨by dsimp only; omega, ?_⟩ (by dsimp only; omega)) ⟨rfl, rfl, rfl, rfl, rfl, trivial⟩
  dsimp only; rw [e]; exact hu
 have ho1 := hu.one
 have ho2 := hu.cells1
 refine Wp.exit ?_
 refine Ends.then_exit ?_
 refine Ends.then_exit ?_
 refine Ends.block_hit ?_
 refine Ends.seq ?_
 refine Wr ?_
 refine Om1 rfl rfl ?_
 refine Om1 rfl rfl ?_
 refine Ops.pv (pv_nilCheck rfl) rfl ?_
 refine Ops.pv (pv_fieldAddr rfl rfl) rfl ?_
 refine Ops.ef rfl (ef_store1 rfl rfl (by first | rfl | assumption) (by first | rfl | assumption)) ?_
 rintro _ _ ⟨rfl, rfl⟩
 refine On ?_
 refine Wr ?_
 refine Oa1 rfl rfl ?_
 refine On ?_
 refine Wp.ret ?_
 obtain rfl : i = l.length := by omega
 rw [dropTo_all hc] at hu
 exact Ends.ret (L' := dtBlk uS qb u :: K) (res1 rfl rfl) ⟨rfl, u, K, hu, rfl⟩
set_option maxHeartbeats 2000000 in
theorem tr_dtKin1 (uS : Value) (qb : Nat) (L : Hp) (l : List KnM) (hH : DtrH uS l qb L) (hl : l.length ≤ 2 ^ 20) (so : SlotM) (A C B0 : List KnM) (k : KnM) (hc : DCut l A k C B0) (ho : idxK l so = A.length) : Tr Tryz.prog 15 [.pointer (some ⟨qb, 1, none⟩), slotV so] (L) (fun u L' => ∃ K, Slc 31 2 u ((C).map Prod.fst).length (slotsCells ((C).map Prod.fst)) K ∧ L' = K ++ L) := by
 obtain ⟨v, H, hs, rfl⟩ := hH
 obtain ⟨a, c0, rfl⟩ := hs.form
 have hv := hs.view
 have hll := hc.len
 have hka := hc.at
 obtain ⟨b, o, cap, cc, T, f, hv1, hbv, hr⟩ := hv.open (by omega)
 cases hv1
 obtain ⟨z0, z1, z2, _⟩ := cel_reads (f := kmC) hr hka
 refine Tr.enter Tryz.func15 rfl Tryz.ntmps15 rfl (fun W F => ?_)
 refine Wp.app ?_
 refine Wr ?_
 refine Ops.ef rfl (ef_boxK rfl rfl) ?_
 rintro _ _ ⟨b1, rfl, rfl⟩
 refine Oa1 rfl rfl ?_
 refine On ?_
 refine Wr ?_
 refine Oa1 rfl rfl ?_
 refine On ?_
 refine Wr ?_
 refine Om1 rfl rfl ?_
 refine Ops.pv (pv_loadK [_, _] rfl rfl rfl ⟨rfl, rfl, trivial⟩) rfl ?_
 refine Ops.ef rfl (ef_callr ((tr_dtat uS qb _ l ⟨_, H, hs, rfl⟩ hl so).eq (by rw [ho])) rfl rfl) ?_
 rintro _ _ ⟨rfl, rfl⟩
 refine Oa1 rfl rfl ?_
 refine On ?_
 refine Wp.seq ?_
 refine Wr ?_
 refine Om1 rfl rfl ?_
 refine Ops.pv ((pv_lss rfl rfl).fls (by first | exact fun h => h rfl | decide | omega | assumption)) rfl ?_
 refine On ?_
 refine Wp.cond_false rfl ?_
 refine Wp.skip ?_
 refine Ends.seq ?_
 refine Wp.seq ?_
 refine Wr ?_
 refine Om1 rfl rfl ?_
 refine Ops.pv (pv_add rfl rfl (w64n (k := A.length + 1 + 0) (by omega) (by omega))) rfl ?_
 refine Oa1 rfl rfl ?_
 refine On ?_
 refine Wp.block ?_
 refine Wp.loopK (σ := Nat × Value × Hp) [(0, _), (6, _)] (fun s => [(5, s.2.1), (7, .int .i64 ((A.length + 1 + s.1 : Nat) : Int))]) (fun s => s.2.2 ++ (dtBlk uS qb (.slice (some ⟨b, o, none⟩) l.length c0) :: (H ++ F))) (fun s => s.1 ≤ C.length ∧ Slc 31 2 s.2.1 ((C.take s.1).map Prod.fst).length (slotsCells ((C.take s.1).map Prod.fst)) s.2.2) (fun s => C.length - s.1) (0, .slice none 0 0, []) ⟨Nat.zero_le _, Slc.nil _ _⟩ ⟨rfl, rfl, trivial⟩ ⟨rfl, rfl, trivial⟩ (by intro w ho; (try dsimp only [List.nil_append, List.cons_append]); exact Drop.own ho) ?_
 rintro ⟨j, u, K⟩ KK ⟨hj, hu⟩ hK
 dsimp only [List.cons_append, List.nil_append] at hK ⊢
 dsimp only at hj hu ⊢
 refine Wp.seq ?_
 refine Wr ?_
 refine Om1 rfl rfl ?_
 refine Om1 rfl rfl ?_
 refine Om1 rfl rfl ?_
 refine Ops.ef rfl (ef_callr (tr_dtend uS qb _ l ⟨_, H, hs, rfl⟩ hl A C B0 k hc) rfl rfl) ?_
 rintro _ _ ⟨rfl, rfl⟩
 refine Ops.pv (pv_lss rfl rfl) rfl ?_
 refine On ?_
 refine Wp.cond_dect rfl (fun h1 => ?_) (fun h1 => ?_)
 ·
  obtain ⟨d, hdc⟩ : ∃ d, C[j]? = some d := ⟨_, List.getElem?_eq_getElem (by omega)⟩
  have hd : l[A.length + 1 + j]? = some d := by rw [hc.atC (by omega)]; exact hdc
  have hal : (((C.take j).map Prod.fst)).length ≤ j := by simp only [List.length_map]; exact Nat.le_trans (Nat.le_refl _) (List.length_take_le _ _)
  obtain ⟨q0, q1, q2, _⟩ := cel_reads (f := kmC) hr hd
  refine Wp.skip ?_
  refine Ends.seq ?_
  refine Wp.seq ?_
  refine Wp.block ?_
  refine Wp.region ?_
  refine Om1 rfl rfl ?_
  refine Om1 rfl rfl ?_
  refine Ops.pv (pv_nilCheck rfl) rfl ?_
  refine Ops.pv (pv_fieldAddr rfl rfl) rfl ?_
  refine Ol1 rfl rfl rfl rfl ?_
  refine Om1 rfl rfl ?_
  refine Ops.pv (pv_indexAddr (i := A.length + 1 + j) rfl rfl rfl (by omega)) rfl ?_
  refine Ops.pv (pv_fieldAddr rfl rfl) rfl ?_
  refine Ops.pv (pv_loadK (slotCells d.1) rfl rfl rfl ⟨q0, q1, trivial⟩) rfl ?_
  refine Ops.ef rfl (ef_buildSlice1 (k := 2) rfl rfl rfl rfl rfl) ?_
  rintro _ _ ⟨b2, rfl, rfl⟩
  refine Ops.ef rfl (ef_append (H := K) (xs := slotCells d.1) rfl hu rfl ⟨rfl, rfl, trivial⟩ rfl rfl rfl (by omega) (by omega) rfl rfl) ?_
  rintro _ _ ⟨u1, K1, hu1, rfl, rfl⟩
  refine Ops.app ?_
  refine Oa1 rfl rfl ?_
  refine Ops.nil ?_
  refine Ends.block_normal ?_
  refine Ends.seq ?_
  refine Wp.region ?_
  refine Om1 rfl rfl ?_
  refine Ops.pv (pv_add rfl rfl (w64n (k := A.length + 1 + (j + 1)) (by omega) (by omega))) rfl ?_
  refine Oa1 rfl rfl ?_
  refine Ops.nil ?_
  refine Ends.goes ?_
  refine Goes.back (hK (j + 1, u1, K1) ⟨by dsimp only; omega, ?_⟩ (by dsimp only; omega)) ⟨rfl, rfl, rfl, rfl, trivial⟩
  dsimp only; rw [List.take_add_one, hdc, List.map_append, List.length_append, slotsCells_app]; exact hu1
 refine Wp.exit ?_
 refine Ends.then_exit ?_
 refine Ends.then_exit ?_
 refine Ends.block_hit ?_
 refine Ends.seq ?_
 refine Wr ?_
 refine Om1 rfl rfl ?_
 refine Oa1 rfl rfl ?_
 refine On ?_
 refine Wp.ret ?_
 obtain rfl : j = C.length := by omega
 rw [List.take_length] at hu
 exact Ends.ret (L' := K ++ (dtBlk uS qb (.slice (some ⟨b, o, none⟩) l.length c0) :: H)) (res1 rfl rfl) ⟨K, hu, rfl⟩
set_option maxHeartbeats 2000000 in
theorem tr_dtKids1 (uS : Value) (qb : Nat) (L : Hp) (l : List KnM) (hH : DtrH uS l qb L) (hl : l.length ≤ 2 ^ 20) (so : SlotM) (A C B0 : List KnM) (k : KnM) (hc : DCut l A k C B0) (ho : idxK l so = A.length) (hk2 : 0 ≤ k.2 ∧ k.2 ≤ 2 ^ 20) : Tr Tryz.prog 56 [.pointer (some ⟨qb, 1, none⟩), slotV so] (L) (fun u L' => ∃ K, Slc 31 2 u (((C).filter fun c => decide (c.2 = k.2 + 1)).map Prod.fst).length (slotsCells (((C).filter fun c => decide (c.2 = k.2 + 1)).map Prod.fst)) K ∧ L' = K ++ L) := by
 obtain ⟨v, H, hs, rfl⟩ := hH
 obtain ⟨a, c0, rfl⟩ := hs.form
 have hv := hs.view
 have hll := hc.len
 have hka := hc.at
 obtain ⟨b, o, cap, cc, T, f, hv1, hbv, hr⟩ := hv.open (by omega)
 cases hv1
 obtain ⟨z0, z1, z2, _⟩ := cel_reads (f := kmC) hr hka
 refine Tr.enter Tryz.func56 rfl Tryz.ntmps56 rfl (fun W F => ?_)
 refine Wp.app ?_
 refine Wr ?_
 refine Ops.ef rfl (ef_boxK rfl rfl) ?_
 rintro _ _ ⟨b1, rfl, rfl⟩
 refine Oa1 rfl rfl ?_
 refine On ?_
 refine Wr ?_
 refine Oa1 rfl rfl ?_
 refine On ?_
 refine Wr ?_
 refine Om1 rfl rfl ?_
 refine Ops.pv (pv_loadK [_, _] rfl rfl rfl ⟨rfl, rfl, trivial⟩) rfl ?_
 refine Ops.ef rfl (ef_callr ((tr_dtat uS qb _ l ⟨_, H, hs, rfl⟩ hl so).eq (by rw [ho])) rfl rfl) ?_
 rintro _ _ ⟨rfl, rfl⟩
 refine Oa1 rfl rfl ?_
 refine On ?_
 refine Wp.seq ?_
 refine Wr ?_
 refine Om1 rfl rfl ?_
 refine Ops.pv ((pv_lss rfl rfl).fls (by first | exact fun h => h rfl | decide | omega | assumption)) rfl ?_
 refine On ?_
 refine Wp.cond_false rfl ?_
 refine Wp.skip ?_
 refine Ends.seq ?_
 refine Wp.seq ?_
 refine Wr ?_
 refine Om1 rfl rfl ?_
 refine Ops.pv (pv_add rfl rfl (w64n (k := A.length + 1 + 0) (by omega) (by omega))) rfl ?_
 refine Oa1 rfl rfl ?_
 refine On ?_
 refine Wp.block ?_
 refine Wp.loopK (σ := Nat × Value × Hp) [(0, _), (6, _)] (fun s => [(5, s.2.1), (7, .int .i64 ((A.length + 1 + s.1 : Nat) : Int))]) (fun s => s.2.2 ++ (dtBlk uS qb (.slice (some ⟨b, o, none⟩) l.length c0) :: (H ++ F))) (fun s => s.1 ≤ C.length ∧ Slc 31 2 s.2.1 (((C.take s.1).filter fun c => decide (c.2 = k.2 + 1)).map Prod.fst).length (slotsCells (((C.take s.1).filter fun c => decide (c.2 = k.2 + 1)).map Prod.fst)) s.2.2) (fun s => C.length - s.1) (0, .slice none 0 0, []) ⟨Nat.zero_le _, Slc.nil _ _⟩ ⟨rfl, rfl, trivial⟩ ⟨rfl, rfl, trivial⟩ (by intro w ho; (try dsimp only [List.nil_append, List.cons_append]); exact Drop.own ho) ?_
 rintro ⟨j, u, K⟩ KK ⟨hj, hu⟩ hK
 dsimp only [List.cons_append, List.nil_append] at hK ⊢
 dsimp only at hj hu ⊢
 refine Wp.seq ?_
 refine Wr ?_
 refine Om1 rfl rfl ?_
 refine Om1 rfl rfl ?_
 refine Om1 rfl rfl ?_
 refine Ops.ef rfl (ef_callr (tr_dtend uS qb _ l ⟨_, H, hs, rfl⟩ hl A C B0 k hc) rfl rfl) ?_
 rintro _ _ ⟨rfl, rfl⟩
 refine Ops.pv (pv_lss rfl rfl) rfl ?_
 refine On ?_
 refine Wp.cond_dect rfl (fun h1 => ?_) (fun h1 => ?_)
 ·
  obtain ⟨d, hdc⟩ : ∃ d, C[j]? = some d := ⟨_, List.getElem?_eq_getElem (by omega)⟩
  have hd : l[A.length + 1 + j]? = some d := by rw [hc.atC (by omega)]; exact hdc
  have hal : ((((C.take j).filter fun c => decide (c.2 = k.2 + 1)).map Prod.fst)).length ≤ j := by simp only [List.length_map]; exact Nat.le_trans (List.length_filter_le _ _) (List.length_take_le _ _)
  obtain ⟨q0, q1, q2, _⟩ := cel_reads (f := kmC) hr hd
  refine Wp.skip ?_
  refine Ends.seq ?_
  refine Wp.seq ?_
  refine Wp.block ?_
  refine Wp.seq ?_
  refine AnyH.start (dtBlk uS qb (.slice (some ⟨b, o, none⟩) l.length c0) :: H) 18 rfl ?_
  refine Tk 0 rfl rfl (pv_move rfl) rfl ?_
  refine Tk 1 rfl rfl (pv_nilCheck rfl) rfl ?_
  refine Tk 2 rfl rfl (pv_fieldAddr rfl rfl) rfl ?_
  refine Tk 3 rfl rfl (pv_load rfl rfl rfl) rfl ?_
  refine Tk 4 rfl rfl (pv_move rfl) rfl ?_
  refine Tk 5 rfl rfl (pv_indexAddr (i := A.length + 1 + j) rfl rfl rfl (by omega)) rfl ?_
  refine Tk 6 rfl rfl (pv_fieldAddr rfl rfl) rfl ?_
  refine Tk 7 rfl rfl (pv_load rfl rfl q2) rfl ?_
  refine Tk 8 rfl rfl (pv_move rfl) rfl ?_
  refine Tk 9 rfl rfl (pv_nilCheck rfl) rfl ?_
  refine Tk 10 rfl rfl (pv_fieldAddr rfl rfl) rfl ?_
  refine Tk 11 rfl rfl (pv_load rfl rfl rfl) rfl ?_
  refine Tk 12 rfl rfl (pv_move rfl) rfl ?_
  refine Tk 13 rfl rfl (pv_indexAddr (i := A.length) rfl rfl rfl (by omega)) rfl ?_
  refine Tk 14 rfl rfl (pv_fieldAddr rfl rfl) rfl ?_
  refine Tk 15 rfl rfl (pv_load rfl rfl z2) rfl ?_
  refine Tk 16 rfl rfl (pv_add rfl rfl (w64 (by omega) (by omega))) rfl ?_
  refine Tk 17 rfl rfl (pv_eql rfl rfl) rfl ?_
  refine AnyH.done (by kernel_rfl) ?_
  refine Ends.seq ?_
  refine Wp.cond_dect rfl (fun h2 => ?_) (fun h2 => ?_)
  ·
   refine Wp.region ?_
   refine Om1 rfl rfl ?_
   refine Om1 rfl rfl ?_
   refine Ops.pv (pv_nilCheck rfl) rfl ?_
   refine Ops.pv (pv_fieldAddr rfl rfl) rfl ?_
   refine Ol1 rfl rfl rfl rfl ?_
   refine Om1 rfl rfl ?_
   refine Ops.pv (pv_indexAddr (i := A.length + 1 + j) rfl rfl rfl (by omega)) rfl ?_
   refine Ops.pv (pv_fieldAddr rfl rfl) rfl ?_
   refine Ops.pv (pv_loadK (slotCells d.1) rfl rfl rfl ⟨q0, q1, trivial⟩) rfl ?_
   refine Ops.ef rfl (ef_buildSlice1 (k := 2) rfl rfl rfl rfl rfl) ?_
   rintro _ _ ⟨b2, rfl, rfl⟩
   refine Ops.ef rfl (ef_append (H := K) (xs := slotCells d.1) rfl hu rfl ⟨rfl, rfl, trivial⟩ rfl rfl rfl (by omega) (by omega) rfl rfl) ?_
   rintro _ _ ⟨u1, K1, hu1, rfl, rfl⟩
   refine Ops.app ?_
   refine Oa1 rfl rfl ?_
   refine Ops.nil ?_
   refine Ends.block_normal ?_
   refine Ends.seq ?_
   refine Wp.region ?_
   refine Om1 rfl rfl ?_
   refine Ops.pv (pv_add rfl rfl (w64n (k := A.length + 1 + (j + 1)) (by omega) (by omega))) rfl ?_
   refine Oa1 rfl rfl ?_
   refine Ops.nil ?_
   refine Ends.goes ?_
   have hy : decide (d.2 = k.2 + 1) = true := decide_eq_true (by assumption)
   have e : (List.filter (fun c : KnM => decide (c.2 = k.2 + 1)) (C.take (j + 1))) = List.filter (fun c : KnM => decide (c.2 = k.2 + 1)) (C.take j) ++ [d] := by
    rw [List.take_add_one, hdc, List.filter_append]; simp [hy]
   refine Goes.back (hK (j + 1, u1, K1) ⟨by dsimp only; omega, ?_⟩ (by dsimp only; omega)) ⟨rfl, rfl, rfl, rfl, trivial⟩
   dsimp only; rw [e, List.map_append, List.length_append, slotsCells_app]; exact hu1
  refine Wp.skip ?_
  refine Ends.block_normal ?_
  refine Ends.seq ?_
  refine Wp.region ?_
  refine Om1 rfl rfl ?_
  refine Ops.pv (pv_add rfl rfl (w64n (k := A.length + 1 + (j + 1)) (by omega) (by omega))) rfl ?_
  refine Oa1 rfl rfl ?_
  refine Ops.nil ?_
  refine Ends.goes ?_
  have hy : decide (d.2 = k.2 + 1) = false := decide_eq_false (by assumption)
  have e : (List.filter (fun c : KnM => decide (c.2 = k.2 + 1)) (C.take (j + 1))) = List.filter (fun c : KnM => decide (c.2 = k.2 + 1)) (C.take j) := by
   rw [List.take_add_one, hdc, List.filter_append]; simp; simpa using hy
  refine Goes.back (hK (j + 1, u, K) ⟨by dsimp only; omega, ?_⟩ (by dsimp only; omega)) ⟨rfl, rfl, rfl, rfl, trivial⟩
  dsimp only; rw [e]; exact hu
 refine Wp.exit ?_
 refine Ends.then_exit ?_
 refine Ends.then_exit ?_
 refine Ends.block_hit ?_
 refine Ends.seq ?_
 refine Wr ?_
 refine Om1 rfl rfl ?_
 refine Oa1 rfl rfl ?_
 refine On ?_
 refine Wp.ret ?_
 obtain rfl : j = C.length := by omega
 rw [List.take_length] at hu
 exact Ends.ret (L' := K ++ (dtBlk uS qb (.slice (some ⟨b, o, none⟩) l.length c0) :: H)) (res1 rfl rfl) ⟨K, hu, rfl⟩
theorem tr_dtKin0 (uS : Value) (qb : Nat) (L : Hp) (l : List KnM) (hH : DtrH uS l qb L) (hl : l.length ≤ 2 ^ 20) (so : SlotM) (ho : idxK l so = -1) : Tr Tryz.prog 15 [.pointer (some ⟨qb, 1, none⟩), slotV so] (L) (fun u L' => u = .slice none 0 0 ∧ L' = L) := by
 obtain ⟨v, H, hs, rfl⟩ := hH
 obtain ⟨a, c0, rfl⟩ := hs.form
 have hv := hs.view
 refine Tr.enter Tryz.func15 rfl Tryz.ntmps15 rfl (fun W F => ?_)
 refine Wp.app ?_
 refine Wr ?_
 refine Ops.ef rfl (ef_boxK rfl rfl) ?_
 rintro _ _ ⟨b1, rfl, rfl⟩
 refine Oa1 rfl rfl ?_
 refine On ?_
 refine Wr ?_
 refine Oa1 rfl rfl ?_
 refine On ?_
 refine Wr ?_
 refine Om1 rfl rfl ?_
 refine Ops.pv (pv_loadK [_, _] rfl rfl rfl ⟨rfl, rfl, trivial⟩) rfl ?_
 refine Ops.ef rfl (ef_callr ((tr_dtat uS qb _ l ⟨_, H, hs, rfl⟩ hl so).eq (by rw [ho])) rfl rfl) ?_
 rintro _ _ ⟨rfl, rfl⟩
 refine Oa1 rfl rfl ?_
 refine On ?_
 refine Wp.seq ?_
 refine Wr ?_
 refine Om1 rfl rfl ?_
 refine Ops.pv ((pv_lss rfl rfl).tru (by first | rfl | decide | omega | assumption | (simp; done) | (simp; omega))) rfl ?_
 refine On ?_
 refine Wp.cond_true rfl ?_
 refine Wr ?_
 refine Oa1 rfl rfl ?_
 refine On ?_
 refine Wp.ret ?_
 refine Ends.then_ret ?_
 exact Ends.ret (L' := dtBlk uS qb (.slice a l.length c0) :: H) (res1 rfl rfl) ⟨rfl, rfl⟩
theorem tr_dtKids0 (uS : Value) (qb : Nat) (L : Hp) (l : List KnM) (hH : DtrH uS l qb L) (hl : l.length ≤ 2 ^ 20) (so : SlotM) (ho : idxK l so = -1) : Tr Tryz.prog 56 [.pointer (some ⟨qb, 1, none⟩), slotV so] (L) (fun u L' => u = .slice none 0 0 ∧ L' = L) := by
 obtain ⟨v, H, hs, rfl⟩ := hH
 obtain ⟨a, c0, rfl⟩ := hs.form
 have hv := hs.view
 refine Tr.enter Tryz.func56 rfl Tryz.ntmps56 rfl (fun W F => ?_)
 refine Wp.app ?_
 refine Wr ?_
 refine Ops.ef rfl (ef_boxK rfl rfl) ?_
 rintro _ _ ⟨b1, rfl, rfl⟩
 refine Oa1 rfl rfl ?_
 refine On ?_
 refine Wr ?_
 refine Oa1 rfl rfl ?_
 refine On ?_
 refine Wr ?_
 refine Om1 rfl rfl ?_
 refine Ops.pv (pv_loadK [_, _] rfl rfl rfl ⟨rfl, rfl, trivial⟩) rfl ?_
 refine Ops.ef rfl (ef_callr ((tr_dtat uS qb _ l ⟨_, H, hs, rfl⟩ hl so).eq (by rw [ho])) rfl rfl) ?_
 rintro _ _ ⟨rfl, rfl⟩
 refine Oa1 rfl rfl ?_
 refine On ?_
 refine Wp.seq ?_
 refine Wr ?_
 refine Om1 rfl rfl ?_
 refine Ops.pv ((pv_lss rfl rfl).tru (by first | rfl | decide | omega | assumption | (simp; done) | (simp; omega))) rfl ?_
 refine On ?_
 refine Wp.cond_true rfl ?_
 refine Wr ?_
 refine Oa1 rfl rfl ?_
 refine On ?_
 refine Wp.ret ?_
 refine Ends.then_ret ?_
 exact Ends.ret (L' := dtBlk uS qb (.slice a l.length c0) :: H) (res1 rfl rfl) ⟨rfl, rfl⟩
end Go.Proofs.YtdodfnjmkpgdbaaGreat
end
section
set_option linter.unusedVariables false
set_option linter.unusedSimpArgs false
set_option linter.unusedSectionVars false
namespace Go.Proofs.YtdodfnjmkpgdbaaGreat
open Go.SL
abbrev dtQ (qb : Nat) : Value := .pointer (some ⟨qb, 1, none⟩)
section
variable {uS : Value} {F : FoS} {qb : Nat} {L : Hp} (hH : DtF uS F qb L) (hn : Fo.Nd F) (hl : F.all.length ≤ 2 ^ 20)
include hH hn hl
theorem tr_gRoot (s : SlotM) : Tr Tryz.prog 80 [dtQ qb, slotV s] L (fun u L' => u = .int .i64 (ftRoot F s).1 ∧ DtF uS (ftRoot F s).2 qb L') := by
 refine (tr_dtRoot uS qb L _ hH (by rw [rowF_len]; exact hl) s).mono ?_
 rintro u L' (⟨h, rfl, h2⟩ | ⟨h, rfl, h2⟩)
 ·
  unfold ftRoot; rw [if_pos ((rowF_in hn).1 h)]; exact ⟨rfl, h2⟩
 unfold ftRoot; rw [if_neg (fun e => h ((rowF_in hn).2 e))]; exact ⟨rfl, by unfold DtF; rw [rowF_root]; exact h2⟩
theorem tr_gChild (o s : SlotM) : Tr Tryz.prog 85 [dtQ qb, slotV o, slotV s] L (fun u L' => u = .int .i64 (ftChild F o s).1 ∧ DtF uS (ftChild F o s).2 qb L') := by
 have hl' : (rowF F).length ≤ 2 ^ 20 := by rw [rowF_len]; exact hl
 unfold ftChild
 by_cases ho : o ∈ F.all
 ·
  rw [if_pos ho]
  obtain ⟨A, e, B, hc⟩ := row_cut hn ho s
  by_cases hs : s ∈ F.all
  ·
   rw [if_pos hs]
   exact tr_dtChild1 uS qb L _ hH hl' o s A _ B _ hc.cut hc.idx ((rowF_in hn).2 hs)
  rw [if_neg hs]
  refine (tr_dtChild2 uS qb L _ hH hl' o s A _ B _ hc.cut hc.idx (fun e => hs ((rowF_in hn).1 e)) ⟨by dsimp only; omega, by have := hc.small; dsimp only; omega⟩).mono ?_
  rintro u L' ⟨rfl, h2⟩
  exact ⟨rfl, by unfold DtF; rw [hc.child]; exact h2⟩
 rw [if_neg ho]
 exact tr_dtChild0 uS qb L _ hH hl' o s (rowF_out ho)
theorem tr_gDrop (s : SlotM) : Tr Tryz.prog 97 [dtQ qb, slotV s] L (fun u L' => u = .int .i64 (ftDrop F s).1 ∧ DtF uS (ftDrop F s).2 qb L') := by
 have hl' : (rowF F).length ≤ 2 ^ 20 := by rw [rowF_len]; exact hl
 unfold ftDrop
 by_cases ho : s ∈ F.all
 ·
  rw [if_pos ho]
  obtain ⟨A, e, B, hc⟩ := row_cut hn ho s
  refine (tr_dtDrop1 uS qb L _ hH hl' s A _ B _ hc.cut hc.idx (fun x hx => ?_)).mono ?_
  ·
   obtain ⟨c, hc', rfl⟩ := List.mem_map.1 hx
   have h1 : c.1 ∈ F.all := by rw [← Fo.flat_fst F 0]; exact List.mem_map.2 ⟨c, hc', rfl⟩
   obtain ⟨A', e', B', hx'⟩ := row_cut hn h1 s
   have h2 := flat_dep hn hc'
   have := dep_lt h1
   show 0 ≤ (c.2 : Int) ∧ (c.2 : Int) ≤ 2 ^ 20
   omega
  rintro u L' ⟨rfl, h2⟩
  refine ⟨rfl, ?_⟩
  unfold DtF
  rw [hc.gone, ← Fo.flat_shift]
  have e1 : (((F.sub s).flat (e + 1)).map kr).map dec1 = (((F.sub s).flat (e + 1)).map fun e => (e.1, e.2 - 1)).map kr := by
   rw [List.map_map, List.map_map]
   refine List.map_congr_left fun c hc' => ?_
   have := Fo.flat_ge _ _ _ hc'
   show (c.1, (c.2 : Int) - 1) = (c.1, ((c.2 - 1 : Nat) : Int))
   congr 1; omega
  rw [← e1]; exact h2
 rw [if_neg ho]
 exact tr_dtDrop0 uS qb L _ hH hl' s (rowF_out ho)
theorem tr_gMove (o s : SlotM) : Tr Tryz.prog 95 [dtQ qb, slotV o, slotV s] L (fun u L' => u = .int .i64 (ftMove F o s).1 ∧ DtF uS (ftMove F o s).2 qb L') := by
 have hl' : (rowF F).length ≤ 2 ^ 20 := by rw [rowF_len]; exact hl
 unfold ftMove
 by_cases ho : o ∈ F.all
 ·
  rw [if_pos ho]
  obtain ⟨A, e, B, hc⟩ := row_cut hn ho s
  by_cases hs : s ∈ F.all
  ·
   rw [if_pos hs]
   exact tr_dtMove1 uS qb L _ hH hl' o s A.length _ hc.cut.at hc.idx ((rowF_in hn).2 hs)
  rw [if_neg hs]
  refine (tr_dtMove2 uS qb L _ hH hl' o s A.length _ hc.cut.at hc.idx (fun e => hs ((rowF_in hn).1 e))).mono ?_
  rintro u L' ⟨rfl, h2⟩
  exact ⟨rfl, by unfold DtF; rw [rowF_ren hn hc.cut.row]; exact h2⟩
 rw [if_neg ho]
 exact tr_dtMove0 uS qb L _ hH hl' o s (rowF_out ho)
theorem tr_gPar (s : SlotM) : TrR Tryz.prog 54 [dtQ qb, slotV s] L (.tuple #[slotV (ftPar F s), .bool (ftParB F s)]) := by
 have hl' : (rowF F).length ≤ 2 ^ 20 := by rw [rowF_len]; exact hl
 unfold ftPar ftParB
 by_cases ho : s ∈ F.all
 ·
  obtain ⟨A, e, B, hc⟩ := row_cut hn ho s
  rcases hc.par with ⟨h1, h2, h3⟩ | ⟨j, A1, A2, h1, h2, h3⟩
  ·
   rw [h1]
   exact tr_dtPar1 uS qb L _ hH hl' s A _ _ hc.cut.row hc.idx h3
  rw [h1]
  exact tr_dtPar2 uS qb L _ hH hl' s A _ _ hc.cut.row hc.idx A1 A2 _ h2 (by dsimp only; omega) h3
 rw [Fo.parO_no _ _ _ ho]
 exact tr_dtPar0 uS qb L _ hH hl' s (rowF_out ho)
theorem tr_gKin (s : SlotM) : Tr Tryz.prog 15 [dtQ qb, slotV s] L (fun u L' => ∃ K, Slc 31 2 u (ftKin F s).length (slotsCells (ftKin F s)) K ∧ L' = K ++ L) := by
 have hl' : (rowF F).length ≤ 2 ^ 20 := by rw [rowF_len]; exact hl
 unfold ftKin
 by_cases ho : s ∈ F.all
 ·
  obtain ⟨A, e, B, hc⟩ := row_cut hn ho s
  have := tr_dtKin1 uS qb L _ hH hl' s A _ B _ hc.cut hc.idx
  rw [kr_fst, Fo.flat_fst] at this
  exact this
 rw [Fo.sub_no _ _ ho]
 exact (tr_dtKin0 uS qb L _ hH hl' s (rowF_out ho)).mono fun u L' ⟨hu, e⟩ => ⟨[], by rw [hu]; exact Slc.nil _ _, e⟩
theorem tr_gKids (s : SlotM) : Tr Tryz.prog 56 [dtQ qb, slotV s] L (fun u L' => ∃ K, Slc 31 2 u (ftKids F s).length (slotsCells (ftKids F s)) K ∧ L' = K ++ L) := by
 have hl' : (rowF F).length ≤ 2 ^ 20 := by rw [rowF_len]; exact hl
 unfold ftKids
 by_cases ho : s ∈ F.all
 ·
  obtain ⟨A, e, B, hc⟩ := row_cut hn ho s
  have := tr_dtKids1 uS qb L _ hH hl' s A _ B _ hc.cut hc.idx ⟨by dsimp only; omega, by have := hc.small; dsimp only; omega⟩
  have e1 : (((F.sub s).flat (e + 1)).map kr).filter (fun c => decide (c.2 = (e : Int) + 1)) = (((F.sub s).flat (e + 1)).filter fun c => decide (c.2 = e + 1)).map kr := by
   have := kids_filter (F.sub s) (e + 1)
   rw [← this]
   refine List.filter_congr fun c _ => ?_
   push_cast; rfl
  simp only [e1, kr_fst, Fo.flat_eq] at this
  exact this
 rw [Fo.sub_no _ _ ho]
 exact (tr_dtKids0 uS qb L _ hH hl' s (rowF_out ho)).mono fun u L' ⟨hu, e⟩ => ⟨[], by rw [hu]; exact Slc.nil _ _, e⟩
end
end Go.Proofs.YtdodfnjmkpgdbaaGreat
end
section
set_option linter.unusedVariables false
set_option linter.unusedSimpArgs false
namespace Go.Proofs.YtdodfnjmkpgdbaaGreat
open Go.SL
abbrev dcBlk (qb : Nat) (v w : Value) : Nat × Obj := (qb, .cells [v, w].toArray 50)
def DcH (p : PS) (qb : Nat) (L : Hp) : Prop := ∃ S l2 v H w K, Rel S p.l ∧ Rel S l2 ∧ Slc 99 3 v l2.length (cel dnC l2) H ∧ Slc 105 3 w (rowF p.F).length (cel kmC (rowF p.F)) K ∧ L = dcBlk qb v w :: (H ++ (dCaps l2 ++ K))
set_option maxHeartbeats 8000000 in
theorem tr_dderive (c : CapM) (r bd g n : Int) (hc : c.Rg) (hr : i64R r) (hb : u64R bd) (hg : u64R g) : TrR Tryz.prog 87 [c.v, .int .i64 r, .int .u64 bd, .int .u64 g, .int .i64 n] ([]) (.tuple #[(derive c r bd g n).1.v, .int .i64 (derive c r bd g n).2]) := by
 have hri := rights_iff hr
 have hfi := fits_iff (b := n) hg
 refine Tr.enter Tryz.func87 rfl Tryz.ntmps87 rfl (fun W F => ?_)
 refine Wp.app ?_
 refine Wr ?_
 refine Ops.ef rfl (ef_boxK rfl rfl) ?_
 rintro _ _ ⟨b1, rfl, rfl⟩
 refine Ops.ef rfl (ef_allocK tyZ25 rfl) ?_
 rintro _ _ ⟨b2, rfl, rfl⟩
 refine Oa1 rfl rfl ?_
 refine On ?_
 refine Wr ?_
 refine Ops.pv (pv_loadK [_, _, _, _, _, _] rfl rfl rfl ⟨rfl, rfl, rfl, rfl, rfl, rfl, trivial⟩) rfl ?_
 refine Ops.ef rfl (ef_callr (tr_dcheck c hc) rfl rfl) ?_
 rintro _ _ ⟨rfl, rfl⟩
 refine Oa1 rfl rfl ?_
 refine On ?_
 refine Wp.seq ?_
 refine Wp.block ?_
 refine Wr ?_
 refine Om1 rfl rfl ?_
 refine Ops.pv (pv_neq rfl rfl) rfl ?_
 refine Oa1 rfl rfl ?_
 refine On ?_
 refine Wp.cond_dect rfl (fun h1 => ?_) (fun h1 => ?_)
 ·
  refine Wr ?_
  refine Ops.pv (pv_build rfl) rfl ?_
  refine Om1 rfl rfl ?_
  refine Ops.ef rfl (ef_storeK rfl rfl rfl rfl) ?_
  rintro _ _ ⟨rfl, rfl⟩
  refine Oa1 rfl rfl ?_
  refine On ?_
  refine Wp.ret ?_
  refine Ends.block_ret ?_
  refine Ends.then_ret ?_
  have he : derive c r bd g n = (CapM.zero, checkM c) := by
   unfold derive
   rw [if_pos (by assumption)]
  exact Ends.ret (res_list (rs := [.cell 10 25, .tmp 11]) rfl ⟨_, _, rfl, rv_cellK [_, _, _, _, _, _] rfl rfl rfl ⟨rfl, rfl, rfl, rfl, rfl, rfl, trivial⟩, ⟨_, _, rfl, rv_tmp rfl, rfl⟩⟩ rfl) ⟨by rw [he], rfl⟩
 have hck : checkM c = 0 := by omega
 have hcr := (rights_iff hc.rights).1 (check_rights hck)
 obtain ⟨_, _, _, _, _, hcb, _⟩ := check_iff.1 hck
 refine Wr ?_
 refine Of1 rfl rfl rfl ?_
 refine Ol1 rfl rfl rfl rfl ?_
 refine Ops.pv (pv_eql rfl rfl) rfl ?_
 refine Oa1 rfl rfl ?_
 refine On ?_
 refine Wp.cond_dect rfl (fun h2 => ?_) (fun h2 => ?_)
 ·
  refine Wr ?_
  refine Ops.pv (pv_build rfl) rfl ?_
  refine Ops.ef rfl (ef_storeK rfl rfl rfl rfl) ?_
  rintro _ _ ⟨rfl, rfl⟩
  refine Oa1 rfl rfl ?_
  refine On ?_
  refine Wp.ret ?_
  refine Ends.block_ret ?_
  refine Ends.then_ret ?_
  have he : derive c r bd g n = (CapM.zero, 3) := by
   unfold derive
   rw [if_neg (fun e => e hck), if_pos (by assumption)]
  exact Ends.ret (res_list (rs := [.cell 10 25, .tmp 11]) rfl ⟨_, _, rfl, rv_cellK [_, _, _, _, _, _] rfl rfl rfl ⟨rfl, rfl, rfl, rfl, rfl, rfl, trivial⟩, ⟨_, _, rfl, rv_tmp rfl, rfl⟩⟩ rfl) ⟨by rw [he], rfl⟩
 refine Wr ?_
 refine Of1 rfl rfl rfl ?_
 refine Ol1 rfl rfl rfl rfl ?_
 refine Ops.pv (pv_eql rfl rfl) rfl ?_
 refine Om1 rfl rfl ?_
 refine Ops.pvcn rfl rfl (fun hg => pv_fieldAddr0 rfl rfl) rfl ?_
 refine Ops.pvcn rfl rfl (fun hg => Pv.setE (t := 30) rfl (cv_pos hg) (pv_load rfl rfl rfl)) rfl ?_
 refine Ops.pvcn rfl rfl (fun hg => Pv.setE (t := 30) rfl (cv_pos hg) (Pv.setE (t := 31) rfl (cv_pos hg) (pv_eql rfl rfl))) rfl ?_
 refine Ops.pv (pv_pick_or rfl rfl) rfl ?_
 refine Om1 rfl rfl ?_
 refine Ops.pvcn rfl rfl (fun hg => pv_fieldAddr0 rfl rfl) rfl ?_
 refine Ops.pvcn rfl rfl (fun hg => Pv.setE (t := 35) rfl (cv_pos hg) (pv_load rfl rfl rfl)) rfl ?_
 refine Ops.pvcn rfl rfl (fun hg => Pv.setE (t := 35) rfl (cv_pos hg) (Pv.setE (t := 36) rfl (cv_pos hg) (pv_eql rfl rfl))) rfl ?_
 refine Ops.pv (pv_pick_or rfl rfl) rfl ?_
 refine Oa1 rfl rfl ?_
 refine On ?_
 refine Wp.cond_dect rfl (fun h3 => ?_) (fun h3 => ?_)
 ·
  refine Wr ?_
  refine Ops.pv (pv_build rfl) rfl ?_
  refine Ops.ef rfl (ef_storeK rfl rfl rfl rfl) ?_
  rintro _ _ ⟨rfl, rfl⟩
  refine Oa1 rfl rfl ?_
  refine On ?_
  refine Wp.ret ?_
  refine Ends.block_ret ?_
  refine Ends.then_ret ?_
  have he : derive c r bd g n = (CapM.zero, 2) := by
   unfold derive
   rw [if_neg (fun e => e hck), if_neg (by omega), if_pos (by omega)]
  exact Ends.ret (res_list (rs := [.cell 10 25, .tmp 11]) rfl ⟨_, _, rfl, rv_cellK [_, _, _, _, _, _] rfl rfl rfl ⟨rfl, rfl, rfl, rfl, rfl, rfl, trivial⟩, ⟨_, _, rfl, rv_tmp rfl, rfl⟩⟩ rfl) ⟨by rw [he], rfl⟩
 refine Wr ?_
 refine Om1 rfl rfl ?_
 refine Ops.ef rfl (ef_callr (tr_check4 r) rfl rfl) ?_
 rintro _ _ ⟨rfl, rfl⟩
 refine Ops.pv (pv_not_dec rfl) rfl ?_
 refine Oa1 rfl rfl ?_
 refine On ?_
 refine Wp.cond_dect rfl (fun h4 => ?_) (fun h4 => ?_)
 ·
  refine Wr ?_
  refine Ops.pv (pv_build rfl) rfl ?_
  refine Ops.ef rfl (ef_storeK rfl rfl rfl rfl) ?_
  rintro _ _ ⟨rfl, rfl⟩
  refine Oa1 rfl rfl ?_
  refine On ?_
  refine Wp.ret ?_
  refine Ends.block_ret ?_
  refine Ends.then_ret ?_
  have hf : rightsOk r = false := by
   cases e : rightsOk r
   ·
    rfl
   ·
    have := hri.1 e; exfalso; omega
  have he : derive c r bd g n = (CapM.zero, 5) := by
   unfold derive
   rw [if_neg (fun e => e hck), if_neg (by omega), if_neg (by omega), if_pos hf]
  exact Ends.ret (res_list (rs := [.cell 10 25, .tmp 11]) rfl ⟨_, _, rfl, rv_cellK [_, _, _, _, _, _] rfl rfl rfl ⟨rfl, rfl, rfl, rfl, rfl, rfl, trivial⟩, ⟨_, _, rfl, rv_tmp rfl, rfl⟩⟩ rfl) ⟨by rw [he], rfl⟩
 refine Wp.skip ?_
 refine Ends.block_normal ?_
 refine Ends.seq ?_
 refine Wp.seq ?_
 refine Wr ?_
 refine Of1 rfl rfl rfl ?_
 refine Ol1 rfl rfl rfl rfl ?_
 refine Ops.ef rfl (ef_callr (tr_righted c.kind) rfl rfl) ?_
 rintro _ _ ⟨rfl, rfl⟩
 refine On ?_
 refine Wp.cond_dect rfl (fun h5 => ?_) (fun h5 => ?_)
 ·
  refine Wp.region ?_
  refine Of1 rfl rfl rfl ?_
  refine Ol1 rfl rfl rfl rfl ?_
  refine Om1 rfl rfl ?_
  refine Ops.ef rfl (ef_callr ((tr_mask4I c.rights r hcr (by omega)).eq (r' := .int .i64 (maskM c.rights r)) (by rw [maskM_eq hcr (by omega) ((rights_iff hc.rights).2 hcr) (hri.2 (by omega))])) rfl rfl) ?_
  rintro _ _ ⟨rfl, rfl⟩
  refine Of1 rfl rfl rfl ?_
  refine Ops.ef rfl (ef_store1 rfl rfl (by first | rfl | assumption) (by first | rfl | assumption)) ?_
  rintro _ _ ⟨rfl, rfl⟩
  refine On ?_
  refine Wp.seq ?_
  refine Wr ?_
  refine Of1 rfl rfl rfl ?_
  refine Ol1 rfl rfl rfl rfl ?_
  refine Ops.ef rfl (ef_callr (tr_badged c.kind) rfl rfl) ?_
  rintro _ _ ⟨rfl, rfl⟩
  refine Om1 rfl rfl ?_
  refine Ops.split (t := 56) rfl (fun h6 => ?_) (fun h6 => ?_)
  ·
   refine Ops.pvg ⟨_, _, rfl, rfl, rfl⟩ (pv_move rfl) rfl ?_
   refine Ops.pvg ⟨_, _, rfl, rfl, rfl⟩ (pv_neq rfl rfl) rfl ?_
   refine Ops.pv (pv_pick_true rfl rfl) rfl ?_
   refine On ?_
   refine Wp.cond_dect rfl (fun h7 => ?_) (fun h7 => ?_)
   ·
    refine Wp.seq ?_
    refine Wr ?_
    refine Of1 rfl rfl rfl ?_
    refine Ol1 rfl rfl rfl rfl ?_
    refine Ops.pv (pv_neq rfl rfl) rfl ?_
    refine On ?_
    refine Wp.cond_dect rfl (fun h8 => ?_) (fun h8 => ?_)
    ·
     refine Wr ?_
     refine Ops.pv (pv_build rfl) rfl ?_
     refine Ops.ef rfl (ef_storeK rfl rfl rfl rfl) ?_
     rintro _ _ ⟨rfl, rfl⟩
     refine Oa1 rfl rfl ?_
     refine On ?_
     refine Wp.ret ?_
     refine Ends.then_ret ?_
     refine Ends.then_ret ?_
     have he : derive c r bd g n = (CapM.zero, 8) := by
      unfold derive
      rw [if_neg (fun e => e hck), if_neg (by omega), if_neg (by omega), if_neg (by simp [hri.2 (by omega)]), if_neg (by omega), if_neg (by omega), if_pos (by omega), if_pos (by omega)]
     exact Ends.ret (res_list (rs := [.cell 10 25, .tmp 11]) rfl ⟨_, _, rfl, rv_cellK [_, _, _, _, _, _] rfl rfl rfl ⟨rfl, rfl, rfl, rfl, rfl, rfl, trivial⟩, ⟨_, _, rfl, rv_tmp rfl, rfl⟩⟩ rfl) ⟨by rw [he], rfl⟩
    refine Wp.skip ?_
    refine Ends.seq ?_
    refine Wp.seq ?_
    refine Wr ?_
    refine Om1 rfl rfl ?_
    refine Ops.pv (pv_geq rfl rfl) rfl ?_
    refine On ?_
    refine Wp.cond_dect rfl (fun h9 => ?_) (fun h9 => ?_)
    ·
     refine Wr ?_
     refine Ops.pv (pv_build rfl) rfl ?_
     refine Ops.ef rfl (ef_storeK rfl rfl rfl rfl) ?_
     rintro _ _ ⟨rfl, rfl⟩
     refine Oa1 rfl rfl ?_
     refine On ?_
     refine Wp.ret ?_
     refine Ends.then_ret ?_
     refine Ends.then_ret ?_
     have hzb : bd.fdiv (2 ^ 28) ≠ 0 ↔ bd ≥ 268435456 := by
      obtain ⟨m, rfl⟩ : ∃ m : Nat, bd = m := ⟨bd.toNat, by unfold u64R at hb; omega⟩
      rw [show ((2 : Int) ^ 28) = ((2 ^ 28 : Nat) : Int) by norm_cast, Int.fdiv_eq_ediv_of_nonneg _ (Int.natCast_nonneg _)]; omega
     have hbx : (if bd ≠ 0 then bd else c.badge) = bd := if_pos (by omega)
     have he : derive c r bd g n = (CapM.zero, 10) := by
      unfold derive
      rw [if_neg (fun e => e hck), if_neg (by omega), if_neg (by omega), if_neg (by simp [hri.2 (by omega)]), if_neg (by omega), if_neg (by omega), if_pos (by omega), if_neg (by omega), hbx, if_pos (hzb.2 (by omega))]
     exact Ends.ret (res_list (rs := [.cell 10 25, .tmp 11]) rfl ⟨_, _, rfl, rv_cellK [_, _, _, _, _, _] rfl rfl rfl ⟨rfl, rfl, rfl, rfl, rfl, rfl, trivial⟩, ⟨_, _, rfl, rv_tmp rfl, rfl⟩⟩ rfl) ⟨by rw [he], rfl⟩
    refine Wp.skip ?_
    refine Ends.seq ?_
    refine Wp.region ?_
    refine Om1 rfl rfl ?_
    refine Of1 rfl rfl rfl ?_
    refine Ops.ef rfl (ef_store1 rfl rfl (by first | rfl | assumption) (by first | rfl | assumption)) ?_
    rintro _ _ ⟨rfl, rfl⟩
    refine On ?_
    refine Wp.seq ?_
    refine Wr ?_
    refine Of1 rfl rfl rfl ?_
    refine Ol1 rfl rfl rfl rfl ?_
    refine Ops.pv (pv_eql rfl rfl) rfl ?_
    refine On ?_
    refine Wp.cond_dect rfl (fun h10 => ?_) (fun h10 => ?_)
    ·
     refine Wp.seq ?_
     refine Wr ?_
     refine Om1 rfl rfl ?_
     refine Om1 rfl rfl ?_
     refine Ops.ef rfl (ef_callr (tr_guarded g n) rfl rfl) ?_
     rintro _ _ ⟨rfl, rfl⟩
     refine Ops.pv (pv_not_dec rfl) rfl ?_
     refine On ?_
     refine Wp.cond_dect rfl (fun h11 => ?_) (fun h11 => ?_)
     ·
      refine Wr ?_
      refine Ops.pv (pv_build rfl) rfl ?_
      refine Ops.ef rfl (ef_storeK rfl rfl rfl rfl) ?_
      rintro _ _ ⟨rfl, rfl⟩
      refine Oa1 rfl rfl ?_
      refine On ?_
      refine Wp.ret ?_
      refine Ends.then_ret ?_
      refine Ends.then_ret ?_
      exfalso; omega
     refine Wp.skip ?_
     refine Ends.seq ?_
     refine Wr ?_
     refine Om1 rfl rfl ?_
     refine Of1 rfl rfl rfl ?_
     refine Ops.ef rfl (ef_store1 rfl rfl (by first | rfl | assumption) (by first | rfl | assumption)) ?_
     rintro _ _ ⟨rfl, rfl⟩
     refine On ?_
     refine Wp.region ?_
     refine Om1 rfl rfl ?_
     refine Of1 rfl rfl rfl ?_
     refine Ops.ef rfl (ef_store1 rfl rfl (by first | rfl | assumption) (by first | rfl | assumption)) ?_
     rintro _ _ ⟨rfl, rfl⟩
     refine On ?_
     refine Wr ?_
     refine Ops.pv (pv_loadK [_, _, _, _, _, _] rfl rfl rfl ⟨rfl, rfl, rfl, rfl, rfl, rfl, trivial⟩) rfl ?_
     refine Ops.ef rfl (ef_storeK rfl rfl rfl rfl) ?_
     rintro _ _ ⟨rfl, rfl⟩
     refine Oa1 rfl rfl ?_
     refine On ?_
     refine Wp.ret ?_
     exfalso; omega
    refine Wp.skip ?_
    refine Ends.seq ?_
    refine Wr ?_
    refine Ops.pv (pv_loadK [_, _, _, _, _, _] rfl rfl rfl ⟨rfl, rfl, rfl, rfl, rfl, rfl, trivial⟩) rfl ?_
    refine Ops.ef rfl (ef_storeK rfl rfl rfl rfl) ?_
    rintro _ _ ⟨rfl, rfl⟩
    refine Oa1 rfl rfl ?_
    refine On ?_
    refine Wp.ret ?_
    have hzb : bd.fdiv (2 ^ 28) ≠ 0 ↔ bd ≥ 268435456 := by
     obtain ⟨m, rfl⟩ : ∃ m : Nat, bd = m := ⟨bd.toNat, by unfold u64R at hb; omega⟩
     rw [show ((2 : Int) ^ 28) = ((2 ^ 28 : Nat) : Int) by norm_cast, Int.fdiv_eq_ediv_of_nonneg _ (Int.natCast_nonneg _)]; omega
    have hbx : (if bd ≠ 0 then bd else c.badge) = bd := if_pos (by omega)
    have he : derive c r bd g n = ({ c with rights := maskM c.rights r, badge := bd }, 0) := by
     unfold derive
     rw [if_neg (fun e => e hck), if_neg (by omega), if_neg (by omega), if_neg (by simp [hri.2 (by omega)]), if_neg (by omega), if_neg (by omega), if_pos (by omega), if_neg (by omega), hbx, if_neg (fun e => absurd (hzb.1 e) (by omega))]
    exact Ends.ret (res_list (rs := [.cell 10 25, .tmp 11]) rfl ⟨_, _, rfl, rv_cellK [_, _, _, _, _, _] rfl rfl rfl ⟨rfl, rfl, rfl, rfl, rfl, rfl, trivial⟩, ⟨_, _, rfl, rv_tmp rfl, rfl⟩⟩ rfl) ⟨by rw [he], rfl⟩
   refine Wp.skip ?_
   refine Ends.seq ?_
   refine Wp.seq ?_
   refine Wr ?_
   refine Of1 rfl rfl rfl ?_
   refine Ol1 rfl rfl rfl rfl ?_
   refine Ops.pv (pv_eql rfl rfl) rfl ?_
   refine On ?_
   refine Wp.cond_dect rfl (fun h12 => ?_) (fun h12 => ?_)
   ·
    refine Wp.seq ?_
    refine Wr ?_
    refine Om1 rfl rfl ?_
    refine Om1 rfl rfl ?_
    refine Ops.ef rfl (ef_callr (tr_guarded g n) rfl rfl) ?_
    rintro _ _ ⟨rfl, rfl⟩
    refine Ops.pv (pv_not_dec rfl) rfl ?_
    refine On ?_
    refine Wp.cond_dect rfl (fun h13 => ?_) (fun h13 => ?_)
    ·
     refine Wr ?_
     refine Ops.pv (pv_build rfl) rfl ?_
     refine Ops.ef rfl (ef_storeK rfl rfl rfl rfl) ?_
     rintro _ _ ⟨rfl, rfl⟩
     refine Oa1 rfl rfl ?_
     refine On ?_
     refine Wp.ret ?_
     refine Ends.then_ret ?_
     refine Ends.then_ret ?_
     exfalso; omega
    refine Wp.skip ?_
    refine Ends.seq ?_
    refine Wr ?_
    refine Om1 rfl rfl ?_
    refine Of1 rfl rfl rfl ?_
    refine Ops.ef rfl (ef_store1 rfl rfl (by first | rfl | assumption) (by first | rfl | assumption)) ?_
    rintro _ _ ⟨rfl, rfl⟩
    refine On ?_
    refine Wp.region ?_
    refine Om1 rfl rfl ?_
    refine Of1 rfl rfl rfl ?_
    refine Ops.ef rfl (ef_store1 rfl rfl (by first | rfl | assumption) (by first | rfl | assumption)) ?_
    rintro _ _ ⟨rfl, rfl⟩
    refine On ?_
    refine Wr ?_
    refine Ops.pv (pv_loadK [_, _, _, _, _, _] rfl rfl rfl ⟨rfl, rfl, rfl, rfl, rfl, rfl, trivial⟩) rfl ?_
    refine Ops.ef rfl (ef_storeK rfl rfl rfl rfl) ?_
    rintro _ _ ⟨rfl, rfl⟩
    refine Oa1 rfl rfl ?_
    refine On ?_
    refine Wp.ret ?_
    exfalso; omega
   refine Wp.skip ?_
   refine Ends.seq ?_
   refine Wr ?_
   refine Ops.pv (pv_loadK [_, _, _, _, _, _] rfl rfl rfl ⟨rfl, rfl, rfl, rfl, rfl, rfl, trivial⟩) rfl ?_
   refine Ops.ef rfl (ef_storeK rfl rfl rfl rfl) ?_
   rintro _ _ ⟨rfl, rfl⟩
   refine Oa1 rfl rfl ?_
   refine On ?_
   refine Wp.ret ?_
   have hbx : ¬ c.kind = 6 → (if bd ≠ 0 then bd else c.badge) = c.badge := fun h6 => if_neg (by omega)
   have he : derive c r bd g n = ({ c with rights := maskM c.rights r }, 0) := by
    unfold derive
    rw [if_neg (fun e => e hck), if_neg (by omega), if_neg (by omega), if_neg (by simp [hri.2 (by omega)])]
    by_cases h6 : c.kind = 6
    ·
     rw [if_pos h6]
    ·
     rw [if_neg h6, if_neg (by omega), if_pos (by omega), if_neg (by omega), hbx h6, if_neg (fun e => e hcb)]
   exact Ends.ret (res_list (rs := [.cell 10 25, .tmp 11]) rfl ⟨_, _, rfl, rv_cellK [_, _, _, _, _, _] rfl rfl rfl ⟨rfl, rfl, rfl, rfl, rfl, rfl, trivial⟩, ⟨_, _, rfl, rv_tmp rfl, rfl⟩⟩ rfl) ⟨by rw [he], rfl⟩
  refine Os1 rfl rfl rfl rfl ?_
  refine Os1 rfl rfl rfl rfl ?_
  refine Ops.pv (pv_pick_false rfl rfl) rfl ?_
  refine On ?_
  refine Wp.cond_false rfl ?_
  refine Wp.skip ?_
  refine Ends.seq ?_
  refine Wp.seq ?_
  refine Wr ?_
  refine Of1 rfl rfl rfl ?_
  refine Ol1 rfl rfl rfl rfl ?_
  refine Ops.pv (pv_eql rfl rfl) rfl ?_
  refine On ?_
  refine Wp.cond_dect rfl (fun h14 => ?_) (fun h14 => ?_)
  ·
   refine Wp.seq ?_
   refine Wr ?_
   refine Om1 rfl rfl ?_
   refine Om1 rfl rfl ?_
   refine Ops.ef rfl (ef_callr (tr_guarded g n) rfl rfl) ?_
   rintro _ _ ⟨rfl, rfl⟩
   refine Ops.pv (pv_not_dec rfl) rfl ?_
   refine On ?_
   refine Wp.cond_dect rfl (fun h15 => ?_) (fun h15 => ?_)
   ·
    refine Wr ?_
    refine Ops.pv (pv_build rfl) rfl ?_
    refine Ops.ef rfl (ef_storeK rfl rfl rfl rfl) ?_
    rintro _ _ ⟨rfl, rfl⟩
    refine Oa1 rfl rfl ?_
    refine On ?_
    refine Wp.ret ?_
    refine Ends.then_ret ?_
    refine Ends.then_ret ?_
    exfalso; omega
   refine Wp.skip ?_
   refine Ends.seq ?_
   refine Wr ?_
   refine Om1 rfl rfl ?_
   refine Of1 rfl rfl rfl ?_
   refine Ops.ef rfl (ef_store1 rfl rfl (by first | rfl | assumption) (by first | rfl | assumption)) ?_
   rintro _ _ ⟨rfl, rfl⟩
   refine On ?_
   refine Wp.region ?_
   refine Om1 rfl rfl ?_
   refine Of1 rfl rfl rfl ?_
   refine Ops.ef rfl (ef_store1 rfl rfl (by first | rfl | assumption) (by first | rfl | assumption)) ?_
   rintro _ _ ⟨rfl, rfl⟩
   refine On ?_
   refine Wr ?_
   refine Ops.pv (pv_loadK [_, _, _, _, _, _] rfl rfl rfl ⟨rfl, rfl, rfl, rfl, rfl, rfl, trivial⟩) rfl ?_
   refine Ops.ef rfl (ef_storeK rfl rfl rfl rfl) ?_
   rintro _ _ ⟨rfl, rfl⟩
   refine Oa1 rfl rfl ?_
   refine On ?_
   refine Wp.ret ?_
   exfalso; omega
  refine Wp.skip ?_
  refine Ends.seq ?_
  refine Wr ?_
  refine Ops.pv (pv_loadK [_, _, _, _, _, _] rfl rfl rfl ⟨rfl, rfl, rfl, rfl, rfl, rfl, trivial⟩) rfl ?_
  refine Ops.ef rfl (ef_storeK rfl rfl rfl rfl) ?_
  rintro _ _ ⟨rfl, rfl⟩
  refine Oa1 rfl rfl ?_
  refine On ?_
  refine Wp.ret ?_
  have hbx : ¬ c.kind = 6 → (if bd ≠ 0 then bd else c.badge) = c.badge := fun h6 => if_neg (by omega)
  have he : derive c r bd g n = ({ c with rights := maskM c.rights r }, 0) := by
   unfold derive
   rw [if_neg (fun e => e hck), if_neg (by omega), if_neg (by omega), if_neg (by simp [hri.2 (by omega)])]
   by_cases h6 : c.kind = 6
   ·
    rw [if_pos h6]
   ·
    rw [if_neg h6, if_neg (by omega), if_pos (by omega), if_neg (by omega), hbx h6, if_neg (fun e => e hcb)]
  exact Ends.ret (res_list (rs := [.cell 10 25, .tmp 11]) rfl ⟨_, _, rfl, rv_cellK [_, _, _, _, _, _] rfl rfl rfl ⟨rfl, rfl, rfl, rfl, rfl, rfl, trivial⟩, ⟨_, _, rfl, rv_tmp rfl, rfl⟩⟩ rfl) ⟨by rw [he], rfl⟩
 refine Wp.skip ?_
 refine Ends.seq ?_
 refine Wp.seq ?_
 refine Wr ?_
 refine Of1 rfl rfl rfl ?_
 refine Ol1 rfl rfl rfl rfl ?_
 refine Ops.ef rfl (ef_callr (tr_badged c.kind) rfl rfl) ?_
 rintro _ _ ⟨rfl, rfl⟩
 refine Om1 rfl rfl ?_
 refine Ops.split (t := 56) rfl (fun h16 => ?_) (fun h16 => ?_)
 ·
  refine Ops.pvg ⟨_, _, rfl, rfl, rfl⟩ (pv_move rfl) rfl ?_
  refine Ops.pvg ⟨_, _, rfl, rfl, rfl⟩ (pv_neq rfl rfl) rfl ?_
  refine Ops.pv (pv_pick_true rfl rfl) rfl ?_
  refine On ?_
  refine Wp.cond_dect rfl (fun h17 => ?_) (fun h17 => ?_)
  ·
   refine Wp.seq ?_
   refine Wr ?_
   refine Of1 rfl rfl rfl ?_
   refine Ol1 rfl rfl rfl rfl ?_
   refine Ops.pv (pv_neq rfl rfl) rfl ?_
   refine On ?_
   refine Wp.cond_dect rfl (fun h18 => ?_) (fun h18 => ?_)
   ·
    refine Wr ?_
    refine Ops.pv (pv_build rfl) rfl ?_
    refine Ops.ef rfl (ef_storeK rfl rfl rfl rfl) ?_
    rintro _ _ ⟨rfl, rfl⟩
    refine Oa1 rfl rfl ?_
    refine On ?_
    refine Wp.ret ?_
    refine Ends.then_ret ?_
    refine Ends.then_ret ?_
    exfalso; omega
   refine Wp.skip ?_
   refine Ends.seq ?_
   refine Wp.seq ?_
   refine Wr ?_
   refine Om1 rfl rfl ?_
   refine Ops.pv (pv_geq rfl rfl) rfl ?_
   refine On ?_
   refine Wp.cond_dect rfl (fun h19 => ?_) (fun h19 => ?_)
   ·
    refine Wr ?_
    refine Ops.pv (pv_build rfl) rfl ?_
    refine Ops.ef rfl (ef_storeK rfl rfl rfl rfl) ?_
    rintro _ _ ⟨rfl, rfl⟩
    refine Oa1 rfl rfl ?_
    refine On ?_
    refine Wp.ret ?_
    refine Ends.then_ret ?_
    refine Ends.then_ret ?_
    exfalso; omega
   refine Wp.skip ?_
   refine Ends.seq ?_
   refine Wp.region ?_
   refine Om1 rfl rfl ?_
   refine Of1 rfl rfl rfl ?_
   refine Ops.ef rfl (ef_store1 rfl rfl (by first | rfl | assumption) (by first | rfl | assumption)) ?_
   rintro _ _ ⟨rfl, rfl⟩
   refine On ?_
   refine Wp.seq ?_
   refine Wr ?_
   refine Of1 rfl rfl rfl ?_
   refine Ol1 rfl rfl rfl rfl ?_
   refine Ops.pv (pv_eql rfl rfl) rfl ?_
   refine On ?_
   refine Wp.cond_dect rfl (fun h20 => ?_) (fun h20 => ?_)
   ·
    refine Wp.seq ?_
    refine Wr ?_
    refine Om1 rfl rfl ?_
    refine Om1 rfl rfl ?_
    refine Ops.ef rfl (ef_callr (tr_guarded g n) rfl rfl) ?_
    rintro _ _ ⟨rfl, rfl⟩
    refine Ops.pv (pv_not_dec rfl) rfl ?_
    refine On ?_
    refine Wp.cond_dect rfl (fun h21 => ?_) (fun h21 => ?_)
    ·
     refine Wr ?_
     refine Ops.pv (pv_build rfl) rfl ?_
     refine Ops.ef rfl (ef_storeK rfl rfl rfl rfl) ?_
     rintro _ _ ⟨rfl, rfl⟩
     refine Oa1 rfl rfl ?_
     refine On ?_
     refine Wp.ret ?_
     refine Ends.then_ret ?_
     refine Ends.then_ret ?_
     exfalso; omega
    refine Wp.skip ?_
    refine Ends.seq ?_
    refine Wr ?_
    refine Om1 rfl rfl ?_
    refine Of1 rfl rfl rfl ?_
    refine Ops.ef rfl (ef_store1 rfl rfl (by first | rfl | assumption) (by first | rfl | assumption)) ?_
    rintro _ _ ⟨rfl, rfl⟩
    refine On ?_
    refine Wp.region ?_
    refine Om1 rfl rfl ?_
    refine Of1 rfl rfl rfl ?_
    refine Ops.ef rfl (ef_store1 rfl rfl (by first | rfl | assumption) (by first | rfl | assumption)) ?_
    rintro _ _ ⟨rfl, rfl⟩
    refine On ?_
    refine Wr ?_
    refine Ops.pv (pv_loadK [_, _, _, _, _, _] rfl rfl rfl ⟨rfl, rfl, rfl, rfl, rfl, rfl, trivial⟩) rfl ?_
    refine Ops.ef rfl (ef_storeK rfl rfl rfl rfl) ?_
    rintro _ _ ⟨rfl, rfl⟩
    refine Oa1 rfl rfl ?_
    refine On ?_
    refine Wp.ret ?_
    exfalso; omega
   refine Wp.skip ?_
   refine Ends.seq ?_
   refine Wr ?_
   refine Ops.pv (pv_loadK [_, _, _, _, _, _] rfl rfl rfl ⟨rfl, rfl, rfl, rfl, rfl, rfl, trivial⟩) rfl ?_
   refine Ops.ef rfl (ef_storeK rfl rfl rfl rfl) ?_
   rintro _ _ ⟨rfl, rfl⟩
   refine Oa1 rfl rfl ?_
   refine On ?_
   refine Wp.ret ?_
   exfalso; omega
  refine Wp.skip ?_
  refine Ends.seq ?_
  refine Wp.seq ?_
  refine Wr ?_
  refine Of1 rfl rfl rfl ?_
  refine Ol1 rfl rfl rfl rfl ?_
  refine Ops.pv (pv_eql rfl rfl) rfl ?_
  refine On ?_
  refine Wp.cond_dect rfl (fun h22 => ?_) (fun h22 => ?_)
  ·
   refine Wp.seq ?_
   refine Wr ?_
   refine Om1 rfl rfl ?_
   refine Om1 rfl rfl ?_
   refine Ops.ef rfl (ef_callr (tr_guarded g n) rfl rfl) ?_
   rintro _ _ ⟨rfl, rfl⟩
   refine Ops.pv (pv_not_dec rfl) rfl ?_
   refine On ?_
   refine Wp.cond_dect rfl (fun h23 => ?_) (fun h23 => ?_)
   ·
    refine Wr ?_
    refine Ops.pv (pv_build rfl) rfl ?_
    refine Ops.ef rfl (ef_storeK rfl rfl rfl rfl) ?_
    rintro _ _ ⟨rfl, rfl⟩
    refine Oa1 rfl rfl ?_
    refine On ?_
    refine Wp.ret ?_
    refine Ends.then_ret ?_
    refine Ends.then_ret ?_
    have hf : fitsM g n = false := by
     cases e : fitsM g n
     ·
      rfl
     ·
      have := hfi.1 e; exfalso; omega
    have he : derive c r bd g n = (CapM.zero, 10) := by
     unfold derive
     rw [if_neg (fun e => e hck), if_neg (by omega), if_neg (by omega), if_neg (by simp [hri.2 (by omega)]), if_neg (by omega), if_pos (by omega), if_pos hf]
    exact Ends.ret (res_list (rs := [.cell 10 25, .tmp 11]) rfl ⟨_, _, rfl, rv_cellK [_, _, _, _, _, _] rfl rfl rfl ⟨rfl, rfl, rfl, rfl, rfl, rfl, trivial⟩, ⟨_, _, rfl, rv_tmp rfl, rfl⟩⟩ rfl) ⟨by rw [he], rfl⟩
   refine Wp.skip ?_
   refine Ends.seq ?_
   refine Wr ?_
   refine Om1 rfl rfl ?_
   refine Of1 rfl rfl rfl ?_
   refine Ops.ef rfl (ef_store1 rfl rfl (by first | rfl | assumption) (by first | rfl | assumption)) ?_
   rintro _ _ ⟨rfl, rfl⟩
   refine On ?_
   refine Wp.region ?_
   refine Om1 rfl rfl ?_
   refine Of1 rfl rfl rfl ?_
   refine Ops.ef rfl (ef_store1 rfl rfl (by first | rfl | assumption) (by first | rfl | assumption)) ?_
   rintro _ _ ⟨rfl, rfl⟩
   refine On ?_
   refine Wr ?_
   refine Ops.pv (pv_loadK [_, _, _, _, _, _] rfl rfl rfl ⟨rfl, rfl, rfl, rfl, rfl, rfl, trivial⟩) rfl ?_
   refine Ops.ef rfl (ef_storeK rfl rfl rfl rfl) ?_
   rintro _ _ ⟨rfl, rfl⟩
   refine Oa1 rfl rfl ?_
   refine On ?_
   refine Wp.ret ?_
   have he : derive c r bd g n = ({ c with guard := g, bits := n }, 0) := by
    unfold derive
    rw [if_neg (fun e => e hck), if_neg (by omega), if_neg (by omega), if_neg (by simp [hri.2 (by omega)]), if_neg (by omega), if_pos (by omega), if_neg (by simp [hfi.2 (by omega)])]
   exact Ends.ret (res_list (rs := [.cell 10 25, .tmp 11]) rfl ⟨_, _, rfl, rv_cellK [_, _, _, _, _, _] rfl rfl rfl ⟨rfl, rfl, rfl, rfl, rfl, rfl, trivial⟩, ⟨_, _, rfl, rv_tmp rfl, rfl⟩⟩ rfl) ⟨by rw [he], rfl⟩
  refine Wp.skip ?_
  refine Ends.seq ?_
  refine Wr ?_
  refine Ops.pv (pv_loadK [_, _, _, _, _, _] rfl rfl rfl ⟨rfl, rfl, rfl, rfl, rfl, rfl, trivial⟩) rfl ?_
  refine Ops.ef rfl (ef_storeK rfl rfl rfl rfl) ?_
  rintro _ _ ⟨rfl, rfl⟩
  refine Oa1 rfl rfl ?_
  refine On ?_
  refine Wp.ret ?_
  have he : derive c r bd g n = (c, 0) := by
   unfold derive
   rw [if_neg (fun e => e hck), if_neg (by omega), if_neg (by omega), if_neg (by simp [hri.2 (by omega)]), if_neg (by omega), if_neg (by omega), if_neg (by omega)]
  exact Ends.ret (res_list (rs := [.cell 10 25, .tmp 11]) rfl ⟨_, _, rfl, rv_cellK [_, _, _, _, _, _] rfl rfl rfl ⟨rfl, rfl, rfl, rfl, rfl, rfl, trivial⟩, ⟨_, _, rfl, rv_tmp rfl, rfl⟩⟩ rfl) ⟨by rw [he], rfl⟩
 refine Os1 rfl rfl rfl rfl ?_
 refine Os1 rfl rfl rfl rfl ?_
 refine Ops.pv (pv_pick_false rfl rfl) rfl ?_
 refine On ?_
 refine Wp.cond_false rfl ?_
 refine Wp.skip ?_
 refine Ends.seq ?_
 refine Wp.seq ?_
 refine Wr ?_
 refine Of1 rfl rfl rfl ?_
 refine Ol1 rfl rfl rfl rfl ?_
 refine Ops.pv (pv_eql rfl rfl) rfl ?_
 refine On ?_
 refine Wp.cond_dect rfl (fun h24 => ?_) (fun h24 => ?_)
 ·
  refine Wp.seq ?_
  refine Wr ?_
  refine Om1 rfl rfl ?_
  refine Om1 rfl rfl ?_
  refine Ops.ef rfl (ef_callr (tr_guarded g n) rfl rfl) ?_
  rintro _ _ ⟨rfl, rfl⟩
  refine Ops.pv (pv_not_dec rfl) rfl ?_
  refine On ?_
  refine Wp.cond_dect rfl (fun h25 => ?_) (fun h25 => ?_)
  ·
   refine Wr ?_
   refine Ops.pv (pv_build rfl) rfl ?_
   refine Ops.ef rfl (ef_storeK rfl rfl rfl rfl) ?_
   rintro _ _ ⟨rfl, rfl⟩
   refine Oa1 rfl rfl ?_
   refine On ?_
   refine Wp.ret ?_
   refine Ends.then_ret ?_
   refine Ends.then_ret ?_
   have hf : fitsM g n = false := by
    cases e : fitsM g n
    ·
     rfl
    ·
     have := hfi.1 e; exfalso; omega
   have he : derive c r bd g n = (CapM.zero, 10) := by
    unfold derive
    rw [if_neg (fun e => e hck), if_neg (by omega), if_neg (by omega), if_neg (by simp [hri.2 (by omega)]), if_neg (by omega), if_pos (by omega), if_pos hf]
   exact Ends.ret (res_list (rs := [.cell 10 25, .tmp 11]) rfl ⟨_, _, rfl, rv_cellK [_, _, _, _, _, _] rfl rfl rfl ⟨rfl, rfl, rfl, rfl, rfl, rfl, trivial⟩, ⟨_, _, rfl, rv_tmp rfl, rfl⟩⟩ rfl) ⟨by rw [he], rfl⟩
  refine Wp.skip ?_
  refine Ends.seq ?_
  refine Wr ?_
  refine Om1 rfl rfl ?_
  refine Of1 rfl rfl rfl ?_
  refine Ops.ef rfl (ef_store1 rfl rfl (by first | rfl | assumption) (by first | rfl | assumption)) ?_
  rintro _ _ ⟨rfl, rfl⟩
  refine On ?_
  refine Wp.region ?_
  refine Om1 rfl rfl ?_
  refine Of1 rfl rfl rfl ?_
  refine Ops.ef rfl (ef_store1 rfl rfl (by first | rfl | assumption) (by first | rfl | assumption)) ?_
  rintro _ _ ⟨rfl, rfl⟩
  refine On ?_
  refine Wr ?_
  refine Ops.pv (pv_loadK [_, _, _, _, _, _] rfl rfl rfl ⟨rfl, rfl, rfl, rfl, rfl, rfl, trivial⟩) rfl ?_
  refine Ops.ef rfl (ef_storeK rfl rfl rfl rfl) ?_
  rintro _ _ ⟨rfl, rfl⟩
  refine Oa1 rfl rfl ?_
  refine On ?_
  refine Wp.ret ?_
  have he : derive c r bd g n = ({ c with guard := g, bits := n }, 0) := by
   unfold derive
   rw [if_neg (fun e => e hck), if_neg (by omega), if_neg (by omega), if_neg (by simp [hri.2 (by omega)]), if_neg (by omega), if_pos (by omega), if_neg (by simp [hfi.2 (by omega)])]
  exact Ends.ret (res_list (rs := [.cell 10 25, .tmp 11]) rfl ⟨_, _, rfl, rv_cellK [_, _, _, _, _, _] rfl rfl rfl ⟨rfl, rfl, rfl, rfl, rfl, rfl, trivial⟩, ⟨_, _, rfl, rv_tmp rfl, rfl⟩⟩ rfl) ⟨by rw [he], rfl⟩
 refine Wp.skip ?_
 refine Ends.seq ?_
 refine Wr ?_
 refine Ops.pv (pv_loadK [_, _, _, _, _, _] rfl rfl rfl ⟨rfl, rfl, rfl, rfl, rfl, rfl, trivial⟩) rfl ?_
 refine Ops.ef rfl (ef_storeK rfl rfl rfl rfl) ?_
 rintro _ _ ⟨rfl, rfl⟩
 refine Oa1 rfl rfl ?_
 refine On ?_
 refine Wp.ret ?_
 have he : derive c r bd g n = (c, 0) := by
  unfold derive
  rw [if_neg (fun e => e hck), if_neg (by omega), if_neg (by omega), if_neg (by simp [hri.2 (by omega)]), if_neg (by omega), if_neg (by omega), if_neg (by omega)]
 exact Ends.ret (res_list (rs := [.cell 10 25, .tmp 11]) rfl ⟨_, _, rfl, rv_cellK [_, _, _, _, _, _] rfl rfl rfl ⟨rfl, rfl, rfl, rfl, rfl, rfl, trivial⟩, ⟨_, _, rfl, rv_tmp rfl, rfl⟩⟩ rfl) ⟨by rw [he], rfl⟩
theorem tr_dcNew  : Tr Tryz.prog 6 [] ([]) (fun v L' => ∃ qb, v = .pointer (some ⟨qb, 0, none⟩) ∧ DcH PS.new qb L') := by
 refine Tr.enter Tryz.func6 rfl Tryz.ntmps6 rfl (fun W F => ?_)
 refine Wp.app ?_
 refine Wr ?_
 refine Oa1 rfl rfl ?_
 refine On ?_
 refine Wr ?_
 refine Ops.pv (pv_build rfl) rfl ?_
 refine Ops.ef rfl (ef_boxK rfl rfl) ?_
 rintro _ _ ⟨b1, rfl, rfl⟩
 refine Oa1 rfl rfl ?_
 refine On ?_
 refine Wp.ret ?_
 exact Ends.ret (L' := [(b1, .cells [.slice none 0 0, .slice none 0 0].toArray 50)]) (res1 rfl rfl) ⟨b1, rfl, ⟨0, 0, []⟩, [], .slice none 0 0, [], .slice none 0 0, [], rel_new rfl, rel_new rfl, Slc.nil _ _, Slc.nil _ _, rfl⟩
theorem tr_dSource (qb : Nat) (L : Hp) (p : PS) (hH : DcH p qb L) (so : SlotM) : TrR Tryz.prog 83 [.pointer (some ⟨qb, 0, none⟩), slotV so] (L) (.tuple #[(mSource p so).1.v, .int .i64 (mSource p so).2]) := by
 obtain ⟨S0, l0, v0, H0, w0, K0, hR0, hQ0, hs0, ht0, rfl⟩ := hH
 refine Tr.enter Tryz.func83 rfl Tryz.ntmps83 rfl (fun W F => ?_)
 refine Wp.app ?_
 refine Wr ?_
 refine Ops.ef rfl (ef_boxK rfl rfl) ?_
 rintro _ _ ⟨b1, rfl, rfl⟩
 refine Ops.ef rfl (ef_allocK tyZ25 rfl) ?_
 rintro _ _ ⟨b2, rfl, rfl⟩
 refine Oa1 rfl rfl ?_
 refine On ?_
 refine Wp.seq ?_
 refine AnyH.start ((b1, .cells [.int .i64 so.1, .int .i64 so.2].toArray 31) :: []) 11 rfl ?_
 refine Tk 0 rfl rfl (pv_move rfl) rfl ?_
 refine Tk 1 rfl rfl (pv_nilCheck rfl) rfl ?_
 refine Tk 2 rfl rfl (pv_fieldAddr0 rfl rfl) rfl ?_
 refine Tk 3 rfl rfl (pv_loadK [_, _] rfl rfl rfl ⟨rfl, rfl, trivial⟩) rfl ?_
 refine AnyH.two 4 8 (by kernel_rfl) ?_ ?_
 ·
  refine Turn.ef rfl rfl (ef_callr (dsf_get (uT := w0) ⟨S0, l0, hR0, hQ0, v0, H0, hs0, rfl⟩ so) rfl rfl) ?_ ?_
  ·
   rintro _ _ ⟨rfl, rfl⟩; infer_instance
  rintro _ _ ⟨rfl, rfl⟩
  refine Tk 5 rfl rfl (pv_move rfl) rfl ?_
  refine Tk 6 rfl rfl (pv_extract rfl rfl) rfl ?_
  refine Tk 7 rfl rfl (pv_extract rfl rfl) rfl ?_
  refine AnyH.one 8 (by kernel_rfl) ?_
  refine Turn.ef rfl rfl (ef_allocK tyZ25 rfl) ?_ ?_
  ·
   rintro _ _ ⟨b3, rfl, rfl⟩; infer_instance
  rintro _ _ ⟨b3, rfl, rfl⟩
  refine AnyH.one 9 (by kernel_rfl) ?_
  refine Turn.ef rfl rfl (ef_storeK rfl rfl rfl rfl) ?_ ?_
  ·
   rintro _ _ ⟨rfl, rfl⟩; infer_instance
  rintro _ _ ⟨rfl, rfl⟩
  refine Tk 10 rfl rfl (pv_assign rfl) rfl ?_
  refine AnyH.done (by kernel_rfl) ?_
  refine Ends.seq ?_
  refine Wp.seq ?_
  refine Wr ?_
  refine Om1 rfl rfl ?_
  refine Ops.pv (pv_eql rfl rfl) rfl ?_
  refine Om1 rfl rfl ?_
  refine Ops.pvc rfl rfl (fun hg => pv_fieldAddr0 rfl rfl) rfl ?_
  refine Ops.pvc rfl rfl (fun hg => Pv.setE (t := 19) rfl (cv_pos hg) (pv_load rfl rfl rfl)) rfl ?_
  refine Ops.pvc rfl rfl (fun hg => Pv.setE (t := 19) rfl (cv_pos hg) (Pv.setE (t := 20) rfl (cv_pos hg) (pv_eql rfl rfl))) rfl ?_
  refine Ops.pv (pv_pick_and rfl rfl) rfl ?_
  refine On ?_
  refine Wp.cond_dect rfl (fun h1 => ?_) (fun h1 => ?_)
  ·
   refine Wp.region ?_
   refine Oa1 rfl rfl ?_
   refine On ?_
   refine Wr ?_
   refine Ops.pv (pv_loadK [_, _, _, _, _, _] rfl rfl rfl ⟨rfl, rfl, rfl, rfl, rfl, rfl, trivial⟩) rfl ?_
   refine Om1 rfl rfl ?_
   refine Ops.ef rfl (ef_storeK rfl rfl rfl rfl) ?_
   rintro _ _ ⟨rfl, rfl⟩
   refine Oa1 rfl rfl ?_
   refine On ?_
   refine Wp.ret ?_
   have he : mSource p so = ((dget p.l so).1, 3) := if_pos (by assumption)
   exact Ends.ret (res_list (rs := [.cell 4 25, .tmp 5]) rfl ⟨_, _, rfl, rv_cellK [_, _, _, _, _, _] rfl rfl rfl ⟨rfl, rfl, rfl, rfl, rfl, rfl, trivial⟩, ⟨_, _, rfl, rv_tmp rfl, rfl⟩⟩ rfl) ⟨by rw [he], rfl⟩
  refine Wp.skip ?_
  refine Ends.seq ?_
  refine Wr ?_
  refine Ops.pv (pv_loadK [_, _, _, _, _, _] rfl rfl rfl ⟨rfl, rfl, rfl, rfl, rfl, rfl, trivial⟩) rfl ?_
  refine Om1 rfl rfl ?_
  refine Ops.ef rfl (ef_storeK rfl rfl rfl rfl) ?_
  rintro _ _ ⟨rfl, rfl⟩
  refine Oa1 rfl rfl ?_
  refine On ?_
  refine Wp.ret ?_
  have he : mSource p so = dget p.l so := if_neg (by assumption)
  exact Ends.ret (res_list (rs := [.cell 4 25, .tmp 5]) rfl ⟨_, _, rfl, rv_cellK [_, _, _, _, _, _] rfl rfl rfl ⟨rfl, rfl, rfl, rfl, rfl, rfl, trivial⟩, ⟨_, _, rfl, rv_tmp rfl, rfl⟩⟩ rfl) ⟨by rw [he], rfl⟩
 refine Turn.ef rfl rfl (ef_allocK tyZ25 rfl) ?_ ?_
 ·
  rintro _ _ ⟨b4, rfl, rfl⟩; infer_instance
 rintro _ _ ⟨b4, rfl, rfl⟩
 refine AnyH.one 4 (by kernel_rfl) ?_
 refine Turn.ef rfl rfl (ef_callr (dsf_get (uT := w0) ⟨S0, l0, hR0, hQ0, v0, H0, hs0, rfl⟩ so) rfl rfl) ?_ ?_
 ·
  rintro _ _ ⟨rfl, rfl⟩; infer_instance
 rintro _ _ ⟨rfl, rfl⟩
 refine Tk 5 rfl rfl (pv_move rfl) rfl ?_
 refine Tk 6 rfl rfl (pv_extract rfl rfl) rfl ?_
 refine Tk 7 rfl rfl (pv_extract rfl rfl) rfl ?_
 refine AnyH.one 9 (by kernel_rfl) ?_
 refine Turn.ef rfl rfl (ef_storeK rfl rfl rfl rfl) ?_ ?_
 ·
  rintro _ _ ⟨rfl, rfl⟩; infer_instance
 rintro _ _ ⟨rfl, rfl⟩
 refine Tk 10 rfl rfl (pv_assign rfl) rfl ?_
 refine AnyH.done (by kernel_rfl) ?_
 refine Ends.seq ?_
 refine Wp.seq ?_
 refine Wr ?_
 refine Om1 rfl rfl ?_
 refine Ops.pv (pv_eql rfl rfl) rfl ?_
 refine Om1 rfl rfl ?_
 refine Ops.pvc rfl rfl (fun hg => pv_fieldAddr0 rfl rfl) rfl ?_
 refine Ops.pvc rfl rfl (fun hg => Pv.setE (t := 19) rfl (cv_pos hg) (pv_load rfl rfl rfl)) rfl ?_
 refine Ops.pvc rfl rfl (fun hg => Pv.setE (t := 19) rfl (cv_pos hg) (Pv.setE (t := 20) rfl (cv_pos hg) (pv_eql rfl rfl))) rfl ?_
 refine Ops.pv (pv_pick_and rfl rfl) rfl ?_
 refine On ?_
 refine Wp.cond_dect rfl (fun h2 => ?_) (fun h2 => ?_)
 ·
  refine Wp.region ?_
  refine Oa1 rfl rfl ?_
  refine On ?_
  refine Wr ?_
  refine Ops.pv (pv_loadK [_, _, _, _, _, _] rfl rfl rfl ⟨rfl, rfl, rfl, rfl, rfl, rfl, trivial⟩) rfl ?_
  refine Om1 rfl rfl ?_
  refine Ops.ef rfl (ef_storeK rfl rfl rfl rfl) ?_
  rintro _ _ ⟨rfl, rfl⟩
  refine Oa1 rfl rfl ?_
  refine On ?_
  refine Wp.ret ?_
  have he : mSource p so = ((dget p.l so).1, 3) := if_pos (by assumption)
  exact Ends.ret (res_list (rs := [.cell 4 25, .tmp 5]) rfl ⟨_, _, rfl, rv_cellK [_, _, _, _, _, _] rfl rfl rfl ⟨rfl, rfl, rfl, rfl, rfl, rfl, trivial⟩, ⟨_, _, rfl, rv_tmp rfl, rfl⟩⟩ rfl) ⟨by rw [he], rfl⟩
 refine Wp.skip ?_
 refine Ends.seq ?_
 refine Wr ?_
 refine Ops.pv (pv_loadK [_, _, _, _, _, _] rfl rfl rfl ⟨rfl, rfl, rfl, rfl, rfl, rfl, trivial⟩) rfl ?_
 refine Om1 rfl rfl ?_
 refine Ops.ef rfl (ef_storeK rfl rfl rfl rfl) ?_
 rintro _ _ ⟨rfl, rfl⟩
 refine Oa1 rfl rfl ?_
 refine On ?_
 refine Wp.ret ?_
 have he : mSource p so = dget p.l so := if_neg (by assumption)
 exact Ends.ret (res_list (rs := [.cell 4 25, .tmp 5]) rfl ⟨_, _, rfl, rv_cellK [_, _, _, _, _, _] rfl rfl rfl ⟨rfl, rfl, rfl, rfl, rfl, rfl, trivial⟩, ⟨_, _, rfl, rv_tmp rfl, rfl⟩⟩ rfl) ⟨by rw [he], rfl⟩
theorem tr_dPlace (qb : Nat) (L : Hp) (p : PS) (hH : DcH p qb L) (so : SlotM) : TrR Tryz.prog 84 [.pointer (some ⟨qb, 0, none⟩), slotV so] (L) (.int .i64 (mPlace p so)) := by
 obtain ⟨S0, l0, v0, H0, w0, K0, hR0, hQ0, hs0, ht0, rfl⟩ := hH
 refine Tr.enter Tryz.func84 rfl Tryz.ntmps84 rfl (fun W F => ?_)
 refine Wp.app ?_
 refine Wr ?_
 refine Ops.ef rfl (ef_boxK rfl rfl) ?_
 rintro _ _ ⟨b1, rfl, rfl⟩
 refine Oa1 rfl rfl ?_
 refine On ?_
 refine Wp.seq ?_
 refine AnyH.start ((b1, .cells [.int .i64 so.1, .int .i64 so.2].toArray 31) :: []) 11 rfl ?_
 refine Tk 0 rfl rfl (pv_move rfl) rfl ?_
 refine Tk 1 rfl rfl (pv_nilCheck rfl) rfl ?_
 refine Tk 2 rfl rfl (pv_fieldAddr0 rfl rfl) rfl ?_
 refine Tk 3 rfl rfl (pv_loadK [_, _] rfl rfl rfl ⟨rfl, rfl, trivial⟩) rfl ?_
 refine AnyH.two 4 8 (by kernel_rfl) ?_ ?_
 ·
  refine Turn.ef rfl rfl (ef_callr (dsf_get (uT := w0) ⟨S0, l0, hR0, hQ0, v0, H0, hs0, rfl⟩ so) rfl rfl) ?_ ?_
  ·
   rintro _ _ ⟨rfl, rfl⟩; infer_instance
  rintro _ _ ⟨rfl, rfl⟩
  refine Tk 5 rfl rfl (pv_move rfl) rfl ?_
  refine Tk 6 rfl rfl (pv_extract rfl rfl) rfl ?_
  refine Tk 7 rfl rfl (pv_extract rfl rfl) rfl ?_
  refine AnyH.one 8 (by kernel_rfl) ?_
  refine Turn.ef rfl rfl (ef_allocK tyZ25 rfl) ?_ ?_
  ·
   rintro _ _ ⟨b2, rfl, rfl⟩; infer_instance
  rintro _ _ ⟨b2, rfl, rfl⟩
  refine AnyH.one 9 (by kernel_rfl) ?_
  refine Turn.ef rfl rfl (ef_storeK rfl rfl rfl rfl) ?_ ?_
  ·
   rintro _ _ ⟨rfl, rfl⟩; infer_instance
  rintro _ _ ⟨rfl, rfl⟩
  refine Tk 10 rfl rfl (pv_assign rfl) rfl ?_
  refine AnyH.done (by kernel_rfl) ?_
  refine Ends.seq ?_
  refine Wp.seq ?_
  refine Wr ?_
  refine Om1 rfl rfl ?_
  refine Ops.pv (pv_eql rfl rfl) rfl ?_
  refine Om1 rfl rfl ?_
  refine Ops.pvc rfl rfl (fun hg => pv_fieldAddr0 rfl rfl) rfl ?_
  refine Ops.pvc rfl rfl (fun hg => Pv.setE (t := 18) rfl (cv_pos hg) (pv_load rfl rfl rfl)) rfl ?_
  refine Ops.pvc rfl rfl (fun hg => Pv.setE (t := 18) rfl (cv_pos hg) (Pv.setE (t := 19) rfl (cv_pos hg) (pv_neq rfl rfl))) rfl ?_
  refine Ops.pv (pv_pick_and rfl rfl) rfl ?_
  refine On ?_
  refine Wp.cond_dect rfl (fun h1 => ?_) (fun h1 => ?_)
  ·
   refine Wp.region ?_
   refine Oa1 rfl rfl ?_
   refine On ?_
   refine Wr ?_
   refine Om1 rfl rfl ?_
   refine Oa1 rfl rfl ?_
   refine On ?_
   refine Wp.ret ?_
   have he : mPlace p so = 4 := if_pos (by assumption)
   exact Ends.ret (res1 rfl rfl) ⟨by rw [he], rfl⟩
  refine Wp.skip ?_
  refine Ends.seq ?_
  refine Wr ?_
  refine Om1 rfl rfl ?_
  refine Oa1 rfl rfl ?_
  refine On ?_
  refine Wp.ret ?_
  have he : mPlace p so = (dget p.l so).2 := if_neg (by assumption)
  exact Ends.ret (res1 rfl rfl) ⟨by rw [he], rfl⟩
 refine Turn.ef rfl rfl (ef_allocK tyZ25 rfl) ?_ ?_
 ·
  rintro _ _ ⟨b3, rfl, rfl⟩; infer_instance
 rintro _ _ ⟨b3, rfl, rfl⟩
 refine AnyH.one 4 (by kernel_rfl) ?_
 refine Turn.ef rfl rfl (ef_callr (dsf_get (uT := w0) ⟨S0, l0, hR0, hQ0, v0, H0, hs0, rfl⟩ so) rfl rfl) ?_ ?_
 ·
  rintro _ _ ⟨rfl, rfl⟩; infer_instance
 rintro _ _ ⟨rfl, rfl⟩
 refine Tk 5 rfl rfl (pv_move rfl) rfl ?_
 refine Tk 6 rfl rfl (pv_extract rfl rfl) rfl ?_
 refine Tk 7 rfl rfl (pv_extract rfl rfl) rfl ?_
 refine AnyH.one 9 (by kernel_rfl) ?_
 refine Turn.ef rfl rfl (ef_storeK rfl rfl rfl rfl) ?_ ?_
 ·
  rintro _ _ ⟨rfl, rfl⟩; infer_instance
 rintro _ _ ⟨rfl, rfl⟩
 refine Tk 10 rfl rfl (pv_assign rfl) rfl ?_
 refine AnyH.done (by kernel_rfl) ?_
 refine Ends.seq ?_
 refine Wp.seq ?_
 refine Wr ?_
 refine Om1 rfl rfl ?_
 refine Ops.pv (pv_eql rfl rfl) rfl ?_
 refine Om1 rfl rfl ?_
 refine Ops.pvc rfl rfl (fun hg => pv_fieldAddr0 rfl rfl) rfl ?_
 refine Ops.pvc rfl rfl (fun hg => Pv.setE (t := 18) rfl (cv_pos hg) (pv_load rfl rfl rfl)) rfl ?_
 refine Ops.pvc rfl rfl (fun hg => Pv.setE (t := 18) rfl (cv_pos hg) (Pv.setE (t := 19) rfl (cv_pos hg) (pv_neq rfl rfl))) rfl ?_
 refine Ops.pv (pv_pick_and rfl rfl) rfl ?_
 refine On ?_
 refine Wp.cond_dect rfl (fun h2 => ?_) (fun h2 => ?_)
 ·
  refine Wp.region ?_
  refine Oa1 rfl rfl ?_
  refine On ?_
  refine Wr ?_
  refine Om1 rfl rfl ?_
  refine Oa1 rfl rfl ?_
  refine On ?_
  refine Wp.ret ?_
  have he : mPlace p so = 4 := if_pos (by assumption)
  exact Ends.ret (res1 rfl rfl) ⟨by rw [he], rfl⟩
 refine Wp.skip ?_
 refine Ends.seq ?_
 refine Wr ?_
 refine Om1 rfl rfl ?_
 refine Oa1 rfl rfl ?_
 refine On ?_
 refine Wp.ret ?_
 have he : mPlace p so = (dget p.l so).2 := if_neg (by assumption)
 exact Ends.ret (res1 rfl rfl) ⟨by rw [he], rfl⟩
theorem tr_dPlant (qb : Nat) (L : Hp) (p : PS) (hH : DcH p qb L) (hok : POk p) (hl : p.F.all.length ≤ 2 ^ 20) (so : SlotM) (c : CapM) (hc : c.Rg) : Tr Tryz.prog 34 [.pointer (some ⟨qb, 0, none⟩), slotV so, c.v] (L) (fun u L' => u = .int .i64 (mPlant p so c).1 ∧ DcH (mPlant p so c).2 qb L') := by
 obtain ⟨S0, l0, v0, H0, w0, K0, hR0, hQ0, hs0, ht0, rfl⟩ := hH
 refine Tr.enter Tryz.func34 rfl Tryz.ntmps34 rfl (fun W F => ?_)
 refine Wp.app ?_
 refine Wr ?_
 refine Ops.ef rfl (ef_boxK rfl rfl) ?_
 rintro _ _ ⟨b1, rfl, rfl⟩
 refine Ops.ef rfl (ef_boxK rfl rfl) ?_
 rintro _ _ ⟨b2, rfl, rfl⟩
 refine Oa1 rfl rfl ?_
 refine On ?_
 refine Wp.seq ?_
 refine AnyH.start ((b2, .cells c.cells.toArray 25) :: (b1, .cells [.int .i64 so.1, .int .i64 so.2].toArray 31) :: []) 7 rfl ?_
 refine Tk 0 rfl rfl (pv_move rfl) rfl ?_
 refine Tk 1 rfl rfl (pv_nilCheck rfl) rfl ?_
 refine Tk 2 rfl rfl (pv_fieldAddr0 rfl rfl) rfl ?_
 refine Tk 3 rfl rfl (pv_loadK [_, _] rfl rfl rfl ⟨rfl, rfl, trivial⟩) rfl ?_
 refine Tk 4 rfl rfl (pv_loadK [_, _, _, _, _, _] rfl rfl rfl ⟨rfl, rfl, rfl, rfl, rfl, rfl, trivial⟩) rfl ?_
 refine AnyH.one 5 (by kernel_rfl) ?_
 refine Turn.ef rfl rfl (ef_call (dsf_put (uT := w0) ⟨S0, l0, hR0, hQ0, v0, H0, hs0, rfl⟩ so c hc) rfl rfl) ?_ ?_
 ·
  rintro _ _ ⟨_, _, ⟨rfl, S1, l1, hR1, hQ1, v1, H1, hs1, rfl⟩, rfl, rfl⟩; infer_instance
 rintro _ _ ⟨_, _, ⟨rfl, S1, l1, hR1, hQ1, v1, H1, hs1, rfl⟩, rfl, rfl⟩
 refine AnyH.app ?_
 refine Tk 6 rfl rfl (pv_assign rfl) rfl ?_
 refine AnyH.done (by kernel_rfl) ?_
 refine Ends.seq ?_
 refine Wp.seq ?_
 refine Wr ?_
 refine Om1 rfl rfl ?_
 refine Ops.pv (pv_eql rfl rfl) rfl ?_
 refine On ?_
 refine Wp.cond_dect rfl (fun h1 => ?_) (fun h1 => ?_)
 ·
  refine AnyH.start ((b1, .cells [.int .i64 so.1, .int .i64 so.2].toArray 31) :: []) 5 rfl ?_
  refine Tk 0 rfl rfl (pv_move rfl) rfl ?_
  refine Tk 1 rfl rfl (pv_nilCheck rfl) rfl ?_
  refine Tk 2 rfl rfl (pv_fieldAddr0 rfl rfl) rfl ?_
  refine Tk 3 rfl rfl (pv_loadK [_, _] rfl rfl rfl ⟨rfl, rfl, trivial⟩) rfl ?_
  refine AnyH.one 4 (by kernel_rfl) ?_
  refine Turn.ef rfl rfl (ef_call (tr_gRoot (uS := v1) (F := p.F) ⟨w0, K0, ht0, rfl⟩ hok.nd hl so) rfl rfl) ?_ ?_
  ·
   rintro _ _ ⟨_, _, ⟨rfl, w1, K1, ht1, rfl⟩, rfl, rfl⟩; infer_instance
  rintro _ _ ⟨_, _, ⟨rfl, w1, K1, ht1, rfl⟩, rfl, rfl⟩
  refine AnyH.app ?_
  refine AnyH.done (by kernel_rfl) ?_
  refine Ends.seq ?_
  refine Wr ?_
  refine Om1 rfl rfl ?_
  refine Oa1 rfl rfl ?_
  refine On ?_
  refine Wp.ret ?_
  have he : mPlant p so c = ((dput p.l so c).1, ⟨(dput p.l so c).2, (ftRoot p.F so).2⟩) := by unfold mPlant; rw [if_pos (by assumption)]
  rw [he]
  exact Ends.ret (L' := dcBlk qb v1 w1 :: (H1 ++ (dCaps l1 ++ K1))) (res1 rfl rfl) ⟨rfl, S1, l1, v1, H1, w1, K1, hR1, hQ1, hs1, ht1, rfl⟩
 refine Wp.skip ?_
 refine Ends.seq ?_
 refine Wr ?_
 refine Om1 rfl rfl ?_
 refine Oa1 rfl rfl ?_
 refine On ?_
 refine Wp.ret ?_
 have he : mPlant p so c = ((dput p.l so c).1, ⟨(dput p.l so c).2, p.F⟩) := by unfold mPlant; rw [if_neg (by assumption)]
 rw [he]
 exact Ends.ret (L' := dcBlk qb v1 w0 :: (H1 ++ (dCaps l1 ++ K0))) (res1 rfl rfl) ⟨rfl, S1, l1, v1, H1, w0, K0, hR1, hQ1, hs1, ht0, rfl⟩
theorem tr_dChild (qb : Nat) (L : Hp) (p : PS) (hH : DcH p qb L) (hok : POk p) (hl : p.F.all.length ≤ 2 ^ 20) (so de : SlotM) (c : CapM) (hc : c.Rg) : Tr Tryz.prog 36 [.pointer (some ⟨qb, 0, none⟩), slotV so, slotV de, c.v] (L) (fun u L' => u = .int .i64 (mChild p so de c).1 ∧ DcH (mChild p so de c).2 qb L') := by
 have hH0 := hH
 obtain ⟨S0, l0, v0, H0, w0, K0, hR0, hQ0, hs0, ht0, rfl⟩ := hH
 refine Tr.enter Tryz.func36 rfl Tryz.ntmps36 rfl (fun W F => ?_)
 refine Wp.app ?_
 refine Wr ?_
 refine Ops.ef rfl (ef_boxK rfl rfl) ?_
 rintro _ _ ⟨b1, rfl, rfl⟩
 refine Ops.ef rfl (ef_boxK rfl rfl) ?_
 rintro _ _ ⟨b2, rfl, rfl⟩
 refine Ops.ef rfl (ef_boxK rfl rfl) ?_
 rintro _ _ ⟨b3, rfl, rfl⟩
 refine Oa1 rfl rfl ?_
 refine On ?_
 refine Wr ?_
 refine Om1 rfl rfl ?_
 refine Ops.pv (pv_loadK [_, _] rfl rfl rfl ⟨rfl, rfl, trivial⟩) rfl ?_
 refine Ops.ef rfl (ef_callr (tr_dSource qb (dcBlk qb v0 w0 :: (H0 ++ (dCaps l0 ++ K0))) p hH0 so) rfl rfl) ?_
 rintro _ _ ⟨rfl, rfl⟩
 refine Om1 rfl rfl ?_
 refine Ops.pv (pv_extract rfl rfl) rfl ?_
 refine Ops.pv (pv_extract rfl rfl) rfl ?_
 refine Ops.ef rfl (ef_allocK tyZ25 rfl) ?_
 rintro _ _ ⟨b4, rfl, rfl⟩
 refine Ops.ef rfl (ef_storeK rfl rfl rfl rfl) ?_
 rintro _ _ ⟨rfl, rfl⟩
 refine Oa1 rfl rfl ?_
 refine On ?_
 refine Wp.seq ?_
 refine Wr ?_
 refine Om1 rfl rfl ?_
 refine Ops.pv (pv_eql rfl rfl) rfl ?_
 refine On ?_
 refine Wp.cond_dect rfl (fun h1 => ?_) (fun h1 => ?_)
 ·
  refine Wp.region ?_
  refine Om1 rfl rfl ?_
  refine Ops.pv (pv_loadK [_, _] rfl rfl rfl ⟨rfl, rfl, trivial⟩) rfl ?_
  refine Ops.ef rfl (ef_callr (tr_dPlace qb (dcBlk qb v0 w0 :: (H0 ++ (dCaps l0 ++ K0))) p hH0 de) rfl rfl) ?_
  rintro _ _ ⟨rfl, rfl⟩
  refine Oa1 rfl rfl ?_
  refine On ?_
  refine Wp.seq ?_
  refine Wr ?_
  refine Om1 rfl rfl ?_
  refine Ops.pv (pv_eql rfl rfl) rfl ?_
  refine On ?_
  refine Wp.cond_dect rfl (fun h2 => ?_) (fun h2 => ?_)
  ·
   refine AnyH.start ((b3, .cells c.cells.toArray 25) :: (b2, .cells [.int .i64 de.1, .int .i64 de.2].toArray 31) :: []) 7 rfl ?_
   refine Tk 0 rfl rfl (pv_move rfl) rfl ?_
   refine Tk 1 rfl rfl (pv_nilCheck rfl) rfl ?_
   refine Tk 2 rfl rfl (pv_fieldAddr0 rfl rfl) rfl ?_
   refine Tk 3 rfl rfl (pv_loadK [_, _] rfl rfl rfl ⟨rfl, rfl, trivial⟩) rfl ?_
   refine Tk 4 rfl rfl (pv_loadK [_, _, _, _, _, _] rfl rfl rfl ⟨rfl, rfl, rfl, rfl, rfl, rfl, trivial⟩) rfl ?_
   refine AnyH.one 5 (by kernel_rfl) ?_
   refine Turn.ef rfl rfl (ef_call (dsf_put (uT := w0) ⟨S0, l0, hR0, hQ0, v0, H0, hs0, rfl⟩ de c hc) rfl rfl) ?_ ?_
   ·
    rintro _ _ ⟨_, _, ⟨rfl, S1, l1, hR1, hQ1, v1, H1, hs1, rfl⟩, rfl, rfl⟩; infer_instance
   rintro _ _ ⟨_, _, ⟨rfl, S1, l1, hR1, hQ1, v1, H1, hs1, rfl⟩, rfl, rfl⟩
   refine AnyH.app ?_
   refine Tk 6 rfl rfl (pv_assign rfl) rfl ?_
   refine AnyH.done (by kernel_rfl) ?_
   refine Ends.seq ?_
   refine Wp.seq ?_
   refine Wr ?_
   refine Om1 rfl rfl ?_
   refine Ops.pv (pv_eql rfl rfl) rfl ?_
   refine On ?_
   refine Wp.cond_dect rfl (fun h3 => ?_) (fun h3 => ?_)
   ·
    refine AnyH.start ((b2, .cells [.int .i64 de.1, .int .i64 de.2].toArray 31) :: (b1, .cells [.int .i64 so.1, .int .i64 so.2].toArray 31) :: []) 6 rfl ?_
    refine Tk 0 rfl rfl (pv_move rfl) rfl ?_
    refine Tk 1 rfl rfl (pv_nilCheck rfl) rfl ?_
    refine Tk 2 rfl rfl (pv_fieldAddr0 rfl rfl) rfl ?_
    refine Tk 3 rfl rfl (pv_loadK [_, _] rfl rfl rfl ⟨rfl, rfl, trivial⟩) rfl ?_
    refine Tk 4 rfl rfl (pv_loadK [_, _] rfl rfl rfl ⟨rfl, rfl, trivial⟩) rfl ?_
    refine AnyH.one 5 (by kernel_rfl) ?_
    refine Turn.ef rfl rfl (ef_call (tr_gChild (uS := v1) (F := p.F) ⟨w0, K0, ht0, rfl⟩ hok.nd hl so de) rfl rfl) ?_ ?_
    ·
     rintro _ _ ⟨_, _, ⟨rfl, w1, K1, ht1, rfl⟩, rfl, rfl⟩; infer_instance
    rintro _ _ ⟨_, _, ⟨rfl, w1, K1, ht1, rfl⟩, rfl, rfl⟩
    refine AnyH.app ?_
    refine AnyH.done (by kernel_rfl) ?_
    refine Ends.seq ?_
    refine Wr ?_
    refine Om1 rfl rfl ?_
    refine Oa1 rfl rfl ?_
    refine On ?_
    refine Wp.ret ?_
    have hb : mBoth p so de = ((mSource p so).1, mPlace p de) := by unfold mBoth; rw [if_pos (by assumption)]
    have hb0 : (mBoth p so de).2 = 0 := by rw [hb]; assumption
    have he : mChild p so de c = ((dput p.l de c).1, ⟨(dput p.l de c).2, (ftChild p.F so de).2⟩) := by unfold mChild; rw [if_neg (fun e => e hb0), if_pos (by assumption)]
    rw [he]
    exact Ends.ret (L' := dcBlk qb v1 w1 :: (H1 ++ (dCaps l1 ++ K1))) (res1 rfl rfl) ⟨rfl, S1, l1, v1, H1, w1, K1, hR1, hQ1, hs1, ht1, rfl⟩
   refine Wp.skip ?_
   refine Ends.seq ?_
   refine Wr ?_
   refine Om1 rfl rfl ?_
   refine Oa1 rfl rfl ?_
   refine On ?_
   refine Wp.ret ?_
   have hb : mBoth p so de = ((mSource p so).1, mPlace p de) := by unfold mBoth; rw [if_pos (by assumption)]
   have hb0 : (mBoth p so de).2 = 0 := by rw [hb]; assumption
   have he : mChild p so de c = ((dput p.l de c).1, ⟨(dput p.l de c).2, p.F⟩) := by unfold mChild; rw [if_neg (fun e => e hb0), if_neg (by assumption)]
   rw [he]
   exact Ends.ret (L' := dcBlk qb v1 w0 :: (H1 ++ (dCaps l1 ++ K0))) (res1 rfl rfl) ⟨rfl, S1, l1, v1, H1, w0, K0, hR1, hQ1, hs1, ht0, rfl⟩
  refine Wp.skip ?_
  refine Ends.seq ?_
  refine Wp.seq ?_
  refine Wr ?_
  refine Om1 rfl rfl ?_
  refine Ops.pv (pv_eql rfl rfl) rfl ?_
  refine On ?_
  refine Wp.cond_dect rfl (fun h4 => (by contradiction)) (fun h4 => ?_)
  refine Wp.skip ?_
  refine Ends.seq ?_
  refine Wr ?_
  refine Om1 rfl rfl ?_
  refine Oa1 rfl rfl ?_
  refine On ?_
  refine Wp.ret ?_
  have hb : mBoth p so de = ((mSource p so).1, mPlace p de) := by unfold mBoth; rw [if_pos (by assumption)]
  have he : mChild p so de c = (mPlace p de, p) := by unfold mChild; rw [hb, if_pos (by assumption)]
  rw [he]
  exact Ends.ret (L' := (dcBlk qb v0 w0 :: (H0 ++ (dCaps l0 ++ K0)))) (res1 rfl rfl) ⟨rfl, S0, l0, v0, H0, w0, K0, hR0, hQ0, hs0, ht0, rfl⟩
 refine Wp.skip ?_
 refine Ends.seq ?_
 refine Wp.seq ?_
 refine Wr ?_
 refine Om1 rfl rfl ?_
 refine Ops.pv (pv_eql rfl rfl) rfl ?_
 refine On ?_
 refine Wp.cond_dect rfl (fun h5 => (by contradiction)) (fun h5 => ?_)
 refine Wp.skip ?_
 refine Ends.seq ?_
 refine Wp.seq ?_
 refine Wr ?_
 refine Om1 rfl rfl ?_
 refine Ops.pv (pv_eql rfl rfl) rfl ?_
 refine On ?_
 refine Wp.cond_dect rfl (fun h6 => (by contradiction)) (fun h6 => ?_)
 refine Wp.skip ?_
 refine Ends.seq ?_
 refine Wr ?_
 refine Om1 rfl rfl ?_
 refine Oa1 rfl rfl ?_
 refine On ?_
 refine Wp.ret ?_
 have hb : mBoth p so de = ((mSource p so).1, (mSource p so).2) := by unfold mBoth; rw [if_neg (by assumption)]
 have he : mChild p so de c = ((mSource p so).2, p) := by unfold mChild; rw [hb, if_pos (by assumption)]
 rw [he]
 exact Ends.ret (L' := (dcBlk qb v0 w0 :: (H0 ++ (dCaps l0 ++ K0)))) (res1 rfl rfl) ⟨rfl, S0, l0, v0, H0, w0, K0, hR0, hQ0, hs0, ht0, rfl⟩
theorem tr_dMint (qb : Nat) (L : Hp) (p : PS) (hH : DcH p qb L) (hok : POk p) (hl : p.F.all.length ≤ 2 ^ 20) (hrg : ∀ s, (dget p.l s).1.Rg) (so de : SlotM) (r bd g k : Int) (hr : i64R r) (hb : u64R bd) (hg : u64R g) : Tr Tryz.prog 40 [.pointer (some ⟨qb, 0, none⟩), slotV so, slotV de, .int .i64 r, .int .u64 bd, .int .u64 g, .int .i64 k] (L) (fun u L' => u = .int .i64 (mMint p so de r bd g k).1 ∧ DcH (mMint p so de r bd g k).2 qb L') := by
 have hH0 := hH
 obtain ⟨S0, l0, v0, H0, w0, K0, hR0, hQ0, hs0, ht0, rfl⟩ := hH
 have hsrg : (mSource p so).1.Rg := by unfold mSource; split <;> exact hrg so
 refine Tr.enter Tryz.func40 rfl Tryz.ntmps40 rfl (fun W F => ?_)
 refine Wp.app ?_
 refine Wr ?_
 refine Ops.ef rfl (ef_boxK rfl rfl) ?_
 rintro _ _ ⟨b1, rfl, rfl⟩
 refine Ops.ef rfl (ef_boxK rfl rfl) ?_
 rintro _ _ ⟨b2, rfl, rfl⟩
 refine Oa1 rfl rfl ?_
 refine On ?_
 refine Wr ?_
 refine Om1 rfl rfl ?_
 refine Ops.pv (pv_loadK [_, _] rfl rfl rfl ⟨rfl, rfl, trivial⟩) rfl ?_
 refine Ops.ef rfl (ef_callr (tr_dSource qb (dcBlk qb v0 w0 :: (H0 ++ (dCaps l0 ++ K0))) p hH0 so) rfl rfl) ?_
 rintro _ _ ⟨rfl, rfl⟩
 refine Om1 rfl rfl ?_
 refine Ops.pv (pv_extract rfl rfl) rfl ?_
 refine Ops.pv (pv_extract rfl rfl) rfl ?_
 refine Ops.ef rfl (ef_allocK tyZ25 rfl) ?_
 rintro _ _ ⟨b3, rfl, rfl⟩
 refine Ops.ef rfl (ef_storeK rfl rfl rfl rfl) ?_
 rintro _ _ ⟨rfl, rfl⟩
 refine Oa1 rfl rfl ?_
 refine On ?_
 refine Wp.seq ?_
 refine Wr ?_
 refine Om1 rfl rfl ?_
 refine Ops.pv (pv_eql rfl rfl) rfl ?_
 refine On ?_
 refine Wp.cond_dect rfl (fun h1 => ?_) (fun h1 => ?_)
 ·
  refine Wp.region ?_
  refine Om1 rfl rfl ?_
  refine Ops.pv (pv_loadK [_, _] rfl rfl rfl ⟨rfl, rfl, trivial⟩) rfl ?_
  refine Ops.ef rfl (ef_callr (tr_dPlace qb (dcBlk qb v0 w0 :: (H0 ++ (dCaps l0 ++ K0))) p hH0 de) rfl rfl) ?_
  rintro _ _ ⟨rfl, rfl⟩
  refine Oa1 rfl rfl ?_
  refine On ?_
  refine Wp.seq ?_
  refine Wr ?_
  refine Om1 rfl rfl ?_
  refine Ops.pv (pv_neq rfl rfl) rfl ?_
  refine On ?_
  refine Wp.cond_dect rfl (fun h2 => ?_) (fun h2 => ?_)
  ·
   refine Wr ?_
   refine Om1 rfl rfl ?_
   refine Oa1 rfl rfl ?_
   refine On ?_
   refine Wp.ret ?_
   refine Ends.then_ret ?_
   have hbo : mBoth p so de = ((mSource p so).1, mPlace p de) := by unfold mBoth; rw [if_pos (by assumption)]
   have he : mMint p so de r bd g k = (mPlace p de, p) := by unfold mMint; rw [hbo, if_pos (by assumption)]
   rw [he]
   exact Ends.ret (L' := (dcBlk qb v0 w0 :: (H0 ++ (dCaps l0 ++ K0)))) (res1 rfl rfl) ⟨rfl, S0, l0, v0, H0, w0, K0, hR0, hQ0, hs0, ht0, rfl⟩
  refine Wp.skip ?_
  refine Ends.seq ?_
  refine Wr ?_
  refine Ops.pv (pv_loadK [_, _, _, _, _, _] rfl rfl rfl ⟨rfl, rfl, rfl, rfl, rfl, rfl, trivial⟩) rfl ?_
  refine Om1 rfl rfl ?_
  refine Om1 rfl rfl ?_
  refine Om1 rfl rfl ?_
  refine Om1 rfl rfl ?_
  refine Ops.ef rfl (ef_callr (tr_dderive (mSource p so).1 r bd g k hsrg hr hb hg) rfl rfl) ?_
  rintro _ _ ⟨rfl, rfl⟩
  refine Om1 rfl rfl ?_
  refine Ops.pv (pv_extract rfl rfl) rfl ?_
  refine Ops.pv (pv_extract rfl rfl) rfl ?_
  refine Ops.ef rfl (ef_allocK tyZ25 rfl) ?_
  rintro _ _ ⟨b4, rfl, rfl⟩
  refine Ops.ef rfl (ef_storeK rfl rfl rfl rfl) ?_
  rintro _ _ ⟨rfl, rfl⟩
  refine Oa1 rfl rfl ?_
  refine On ?_
  refine Wp.seq ?_
  refine Wr ?_
  refine Om1 rfl rfl ?_
  refine Ops.pv (pv_neq rfl rfl) rfl ?_
  refine On ?_
  refine Wp.cond_dect rfl (fun h3 => ?_) (fun h3 => ?_)
  ·
   refine Wr ?_
   refine Om1 rfl rfl ?_
   refine Oa1 rfl rfl ?_
   refine On ?_
   refine Wp.ret ?_
   refine Ends.then_ret ?_
   have hbo : mBoth p so de = ((mSource p so).1, mPlace p de) := by unfold mBoth; rw [if_pos (by assumption)]
   have he : mMint p so de r bd g k = ((derive (mSource p so).1 r bd g k).2, p) := by unfold mMint; rw [hbo, if_neg (by assumption), if_pos (by assumption)]
   rw [he]
   exact Ends.ret (L' := (dcBlk qb v0 w0 :: (H0 ++ (dCaps l0 ++ K0)))) (res1 rfl rfl) ⟨rfl, S0, l0, v0, H0, w0, K0, hR0, hQ0, hs0, ht0, rfl⟩
  have hd0 : (derive (mSource p so).1 r bd g k).2 = 0 := Decidable.not_not.1 (by assumption)
  have hyg := derive_rg hsrg hr hb hg hd0
  refine Wp.skip ?_
  refine Ends.seq ?_
  refine Wp.seq ?_
  refine AnyH.start ((b4, .cells (derive (mSource p so).1 r bd g k).1.cells.toArray 25) :: (b2, .cells [.int .i64 de.1, .int .i64 de.2].toArray 31) :: []) 6 rfl ?_
  refine Tk 0 rfl rfl (pv_move rfl) rfl ?_
  refine Tk 1 rfl rfl (pv_nilCheck rfl) rfl ?_
  refine Tk 2 rfl rfl (pv_fieldAddr0 rfl rfl) rfl ?_
  refine Tk 3 rfl rfl (pv_loadK [_, _] rfl rfl rfl ⟨rfl, rfl, trivial⟩) rfl ?_
  refine Tk 4 rfl rfl (pv_loadK [_, _, _, _, _, _] rfl rfl rfl ⟨rfl, rfl, rfl, rfl, rfl, rfl, trivial⟩) rfl ?_
  refine AnyH.one 5 (by kernel_rfl) ?_
  refine Turn.ef rfl rfl (ef_call (dsf_put (uT := w0) ⟨S0, l0, hR0, hQ0, v0, H0, hs0, rfl⟩ de (derive (mSource p so).1 r bd g k).1 hyg) rfl rfl) ?_ ?_
  ·
   rintro _ _ ⟨_, _, ⟨rfl, S1, l1, hR1, hQ1, v1, H1, hs1, rfl⟩, rfl, rfl⟩; infer_instance
  rintro _ _ ⟨_, _, ⟨rfl, S1, l1, hR1, hQ1, v1, H1, hs1, rfl⟩, rfl, rfl⟩
  refine AnyH.app ?_
  refine AnyH.done (by kernel_rfl) ?_
  refine Ends.seq ?_
  refine Wp.seq ?_
  refine AnyH.start ((b2, .cells [.int .i64 de.1, .int .i64 de.2].toArray 31) :: (b1, .cells [.int .i64 so.1, .int .i64 so.2].toArray 31) :: []) 6 rfl ?_
  refine Tk 0 rfl rfl (pv_move rfl) rfl ?_
  refine Tk 1 rfl rfl (pv_nilCheck rfl) rfl ?_
  refine Tk 2 rfl rfl (pv_fieldAddr0 rfl rfl) rfl ?_
  refine Tk 3 rfl rfl (pv_loadK [_, _] rfl rfl rfl ⟨rfl, rfl, trivial⟩) rfl ?_
  refine Tk 4 rfl rfl (pv_loadK [_, _] rfl rfl rfl ⟨rfl, rfl, trivial⟩) rfl ?_
  refine AnyH.one 5 (by kernel_rfl) ?_
  refine Turn.ef rfl rfl (ef_call (tr_gChild (uS := v1) (F := p.F) ⟨w0, K0, ht0, rfl⟩ hok.nd hl so de) rfl rfl) ?_ ?_
  ·
   rintro _ _ ⟨_, _, ⟨rfl, w1, K1, ht1, rfl⟩, rfl, rfl⟩; infer_instance
  rintro _ _ ⟨_, _, ⟨rfl, w1, K1, ht1, rfl⟩, rfl, rfl⟩
  refine AnyH.app ?_
  refine AnyH.done (by kernel_rfl) ?_
  refine Ends.seq ?_
  refine Wr ?_
  refine Oa1 rfl rfl ?_
  refine On ?_
  refine Wp.ret ?_
  have hbo : mBoth p so de = ((mSource p so).1, mPlace p de) := by unfold mBoth; rw [if_pos (by assumption)]
  have hb0 : (mBoth p so de).2 = 0 := by rw [hbo]; exact Decidable.not_not.1 (by assumption)
  obtain ⟨e1, e2, e3, e4, e5⟩ := both_ok hb0
  have hm1 : (mSource p so).1 = (dget p.l so).1 := by rw [hbo] at e1; exact e1
  have hyc := derive_check hsrg hr hd0
  have hp0 : (dput p.l de (derive (mSource p so).1 r bd g k).1).1 = 0 := (put_iff hok.rel).2 ⟨e5, e4, hyc.1, by rw [hyc.2, hm1]; exact e2⟩
  have he : mMint p so de r bd g k = (0, ⟨(dput p.l de (derive (mSource p so).1 r bd g k).1).2, (ftChild p.F so de).2⟩) := by unfold mMint mChild; rw [hbo, if_neg (by assumption), if_neg (by assumption), if_neg (by assumption), if_pos hp0, hp0]
  rw [he]
  exact Ends.ret (L' := dcBlk qb v1 w1 :: (H1 ++ (dCaps l1 ++ K1))) (res1 rfl rfl) ⟨rfl, S1, l1, v1, H1, w1, K1, hR1, hQ1, hs1, ht1, rfl⟩
 refine Wp.skip ?_
 refine Ends.seq ?_
 refine Wp.seq ?_
 refine Wr ?_
 refine Om1 rfl rfl ?_
 refine Ops.pv (pv_neq rfl rfl) rfl ?_
 refine On ?_
 refine Wp.cond_dect rfl (fun h4 => ?_) (fun h4 => by contradiction)
 refine Wr ?_
 refine Om1 rfl rfl ?_
 refine Oa1 rfl rfl ?_
 refine On ?_
 refine Wp.ret ?_
 refine Ends.then_ret ?_
 have hbo : mBoth p so de = ((mSource p so).1, (mSource p so).2) := by unfold mBoth; rw [if_neg (by assumption)]
 have he : mMint p so de r bd g k = ((mSource p so).2, p) := by unfold mMint; rw [hbo, if_pos (by assumption)]
 rw [he]
 exact Ends.ret (L' := (dcBlk qb v0 w0 :: (H0 ++ (dCaps l0 ++ K0)))) (res1 rfl rfl) ⟨rfl, S0, l0, v0, H0, w0, K0, hR0, hQ0, hs0, ht0, rfl⟩
theorem tr_dCopy (qb : Nat) (L : Hp) (p : PS) (hH : DcH p qb L) (hok : POk p) (hl : p.F.all.length ≤ 2 ^ 20) (hrg : ∀ s, (dget p.l s).1.Rg) (so de : SlotM) (r : Int) (hr : i64R r) : Tr Tryz.prog 38 [.pointer (some ⟨qb, 0, none⟩), slotV so, slotV de, .int .i64 r] (L) (fun u L' => u = .int .i64 (mCopy p so de r).1 ∧ DcH (mCopy p so de r).2 qb L') := by
 have hH0 := hH
 obtain ⟨S0, l0, v0, H0, w0, K0, hR0, hQ0, hs0, ht0, rfl⟩ := hH
 refine Tr.enter Tryz.func38 rfl Tryz.ntmps38 rfl (fun W F => ?_)
 refine Wp.app ?_
 refine Wr ?_
 refine Ops.ef rfl (ef_boxK rfl rfl) ?_
 rintro _ _ ⟨b1, rfl, rfl⟩
 refine Ops.ef rfl (ef_boxK rfl rfl) ?_
 rintro _ _ ⟨b2, rfl, rfl⟩
 refine Oa1 rfl rfl ?_
 refine On ?_
 refine Wp.seq ?_
 refine AnyH.start ((b1, .cells [.int .i64 so.1, .int .i64 so.2].toArray 31) :: []) 11 rfl ?_
 refine Tk 0 rfl rfl (pv_move rfl) rfl ?_
 refine Tk 1 rfl rfl (pv_nilCheck rfl) rfl ?_
 refine Tk 2 rfl rfl (pv_fieldAddr0 rfl rfl) rfl ?_
 refine Tk 3 rfl rfl (pv_loadK [_, _] rfl rfl rfl ⟨rfl, rfl, trivial⟩) rfl ?_
 refine AnyH.two 4 8 (by kernel_rfl) ?_ ?_
 ·
  refine Turn.ef rfl rfl (ef_callr (dsf_get (uT := w0) ⟨S0, l0, hR0, hQ0, v0, H0, hs0, rfl⟩ so) rfl rfl) ?_ ?_
  ·
   rintro _ _ ⟨rfl, rfl⟩; infer_instance
  rintro _ _ ⟨rfl, rfl⟩
  refine Tk 5 rfl rfl (pv_move rfl) rfl ?_
  refine Tk 6 rfl rfl (pv_extract rfl rfl) rfl ?_
  refine Tk 7 rfl rfl (pv_extract rfl rfl) rfl ?_
  refine AnyH.one 8 (by kernel_rfl) ?_
  refine Turn.ef rfl rfl (ef_allocK tyZ25 rfl) ?_ ?_
  ·
   rintro _ _ ⟨b3, rfl, rfl⟩; infer_instance
  rintro _ _ ⟨b3, rfl, rfl⟩
  refine AnyH.one 9 (by kernel_rfl) ?_
  refine Turn.ef rfl rfl (ef_storeK rfl rfl rfl rfl) ?_ ?_
  ·
   rintro _ _ ⟨rfl, rfl⟩; infer_instance
  rintro _ _ ⟨rfl, rfl⟩
  refine Tk 10 rfl rfl (pv_assign rfl) rfl ?_
  refine AnyH.done (by kernel_rfl) ?_
  refine Ends.seq ?_
  refine Wr ?_
  refine Om1 rfl rfl ?_
  refine Ops.pv (pv_loadK [_, _] rfl rfl rfl ⟨rfl, rfl, trivial⟩) rfl ?_
  refine Ops.pv (pv_loadK [_, _] rfl rfl rfl ⟨rfl, rfl, trivial⟩) rfl ?_
  refine Om1 rfl rfl ?_
  refine Of1 rfl rfl rfl ?_
  refine Ol1 rfl rfl rfl rfl ?_
  refine Of1 rfl rfl rfl ?_
  refine Ol1 rfl rfl rfl rfl ?_
  refine Ops.ef rfl (ef_call (tr_dMint qb (dcBlk qb v0 w0 :: (H0 ++ (dCaps l0 ++ K0))) p hH0 hok hl hrg so de r 0 (dget p.l so).1.guard (dget p.l so).1.bits hr (by unfold u64R; decide) (hrg so).guard) rfl rfl) ?_
  rintro _ _ ⟨_, Q1, ⟨rfl, hH2⟩, rfl, rfl⟩
  refine Ops.app ?_
  skip
  refine Oa1 rfl rfl ?_
  refine On ?_
  refine Wp.ret ?_
  exact Ends.ret (L' := Q1) (res1 rfl rfl) ⟨rfl, hH2⟩
 refine Turn.ef rfl rfl (ef_allocK tyZ25 rfl) ?_ ?_
 ·
  rintro _ _ ⟨b4, rfl, rfl⟩; infer_instance
 rintro _ _ ⟨b4, rfl, rfl⟩
 refine AnyH.one 4 (by kernel_rfl) ?_
 refine Turn.ef rfl rfl (ef_callr (dsf_get (uT := w0) ⟨S0, l0, hR0, hQ0, v0, H0, hs0, rfl⟩ so) rfl rfl) ?_ ?_
 ·
  rintro _ _ ⟨rfl, rfl⟩; infer_instance
 rintro _ _ ⟨rfl, rfl⟩
 refine Tk 5 rfl rfl (pv_move rfl) rfl ?_
 refine Tk 6 rfl rfl (pv_extract rfl rfl) rfl ?_
 refine Tk 7 rfl rfl (pv_extract rfl rfl) rfl ?_
 refine AnyH.one 9 (by kernel_rfl) ?_
 refine Turn.ef rfl rfl (ef_storeK rfl rfl rfl rfl) ?_ ?_
 ·
  rintro _ _ ⟨rfl, rfl⟩; infer_instance
 rintro _ _ ⟨rfl, rfl⟩
 refine Tk 10 rfl rfl (pv_assign rfl) rfl ?_
 refine AnyH.done (by kernel_rfl) ?_
 refine Ends.seq ?_
 refine Wr ?_
 refine Om1 rfl rfl ?_
 refine Ops.pv (pv_loadK [_, _] rfl rfl rfl ⟨rfl, rfl, trivial⟩) rfl ?_
 refine Ops.pv (pv_loadK [_, _] rfl rfl rfl ⟨rfl, rfl, trivial⟩) rfl ?_
 refine Om1 rfl rfl ?_
 refine Of1 rfl rfl rfl ?_
 refine Ol1 rfl rfl rfl rfl ?_
 refine Of1 rfl rfl rfl ?_
 refine Ol1 rfl rfl rfl rfl ?_
 refine Ops.ef rfl (ef_call (tr_dMint qb (dcBlk qb v0 w0 :: (H0 ++ (dCaps l0 ++ K0))) p hH0 hok hl hrg so de r 0 (dget p.l so).1.guard (dget p.l so).1.bits hr (by unfold u64R; decide) (hrg so).guard) rfl rfl) ?_
 rintro _ _ ⟨_, Q2, ⟨rfl, hH2⟩, rfl, rfl⟩
 refine Ops.app ?_
 skip
 refine Oa1 rfl rfl ?_
 refine On ?_
 refine Wp.ret ?_
 exact Ends.ret (L' := Q2) (res1 rfl rfl) ⟨rfl, hH2⟩
theorem tr_dCarry (qb : Nat) (L : Hp) (p : PS) (hH : DcH p qb L) (hok : POk p) (hl : p.F.all.length ≤ 2 ^ 20) (so de : SlotM) (c : CapM) (hc : c.Rg) : Tr Tryz.prog 89 [.pointer (some ⟨qb, 0, none⟩), slotV so, slotV de, c.v] (L) (fun u L' => u = .tuple #[] ∧ DcH (mCarry p so de c) qb L') := by
 obtain ⟨S0, l0, v0, H0, w0, K0, hR0, hQ0, hs0, ht0, rfl⟩ := hH
 refine Tr.enter Tryz.func89 rfl Tryz.ntmps89 rfl (fun W F => ?_)
 refine Wp.app ?_
 refine Wr ?_
 refine Ops.ef rfl (ef_boxK rfl rfl) ?_
 rintro _ _ ⟨b1, rfl, rfl⟩
 refine Ops.ef rfl (ef_boxK rfl rfl) ?_
 rintro _ _ ⟨b2, rfl, rfl⟩
 refine Ops.ef rfl (ef_boxK rfl rfl) ?_
 rintro _ _ ⟨b3, rfl, rfl⟩
 refine On ?_
 refine Wp.seq ?_
 refine AnyH.start ((b1, .cells [.int .i64 so.1, .int .i64 so.2].toArray 31) :: []) 5 rfl ?_
 refine Tk 0 rfl rfl (pv_move rfl) rfl ?_
 refine Tk 1 rfl rfl (pv_nilCheck rfl) rfl ?_
 refine Tk 2 rfl rfl (pv_fieldAddr0 rfl rfl) rfl ?_
 refine Tk 3 rfl rfl (pv_loadK [_, _] rfl rfl rfl ⟨rfl, rfl, trivial⟩) rfl ?_
 refine AnyH.one 4 (by kernel_rfl) ?_
 refine Turn.ef rfl rfl (ef_call (dsf_take (uT := w0) ⟨S0, l0, hR0, hQ0, v0, H0, hs0, rfl⟩ so) rfl rfl) ?_ ?_
 ·
  rintro _ _ ⟨_, _, ⟨rfl, S1, l1, hR1, hQ1, v1, H1, hs1, rfl⟩, rfl, rfl⟩; infer_instance
 rintro _ _ ⟨_, _, ⟨rfl, S1, l1, hR1, hQ1, v1, H1, hs1, rfl⟩, rfl, rfl⟩
 refine AnyH.app ?_
 refine AnyH.done (by kernel_rfl) ?_
 refine Ends.seq ?_
 refine Wp.seq ?_
 refine AnyH.start ((b3, .cells c.cells.toArray 25) :: (b2, .cells [.int .i64 de.1, .int .i64 de.2].toArray 31) :: []) 6 rfl ?_
 refine Tk 0 rfl rfl (pv_move rfl) rfl ?_
 refine Tk 1 rfl rfl (pv_nilCheck rfl) rfl ?_
 refine Tk 2 rfl rfl (pv_fieldAddr0 rfl rfl) rfl ?_
 refine Tk 3 rfl rfl (pv_loadK [_, _] rfl rfl rfl ⟨rfl, rfl, trivial⟩) rfl ?_
 refine Tk 4 rfl rfl (pv_loadK [_, _, _, _, _, _] rfl rfl rfl ⟨rfl, rfl, rfl, rfl, rfl, rfl, trivial⟩) rfl ?_
 refine AnyH.one 5 (by kernel_rfl) ?_
 refine Turn.ef rfl rfl (ef_call (dsf_put (uT := w0) ⟨S1, l1, hR1, hQ1, v1, H1, hs1, rfl⟩ de c hc) rfl rfl) ?_ ?_
 ·
  rintro _ _ ⟨_, _, ⟨rfl, S2, l2, hR2, hQ2, v2, H2, hs2, rfl⟩, rfl, rfl⟩; infer_instance
 rintro _ _ ⟨_, _, ⟨rfl, S2, l2, hR2, hQ2, v2, H2, hs2, rfl⟩, rfl, rfl⟩
 refine AnyH.app ?_
 refine AnyH.done (by kernel_rfl) ?_
 refine Ends.seq ?_
 refine AnyH.start ((b2, .cells [.int .i64 de.1, .int .i64 de.2].toArray 31) :: (b1, .cells [.int .i64 so.1, .int .i64 so.2].toArray 31) :: []) 6 rfl ?_
 refine Tk 0 rfl rfl (pv_move rfl) rfl ?_
 refine Tk 1 rfl rfl (pv_nilCheck rfl) rfl ?_
 refine Tk 2 rfl rfl (pv_fieldAddr0 rfl rfl) rfl ?_
 refine Tk 3 rfl rfl (pv_loadK [_, _] rfl rfl rfl ⟨rfl, rfl, trivial⟩) rfl ?_
 refine Tk 4 rfl rfl (pv_loadK [_, _] rfl rfl rfl ⟨rfl, rfl, trivial⟩) rfl ?_
 refine AnyH.one 5 (by kernel_rfl) ?_
 refine Turn.ef rfl rfl (ef_call (tr_gMove (uS := v2) (F := p.F) ⟨w0, K0, ht0, rfl⟩ hok.nd hl so de) rfl rfl) ?_ ?_
 ·
  rintro _ _ ⟨_, _, ⟨rfl, w1, K1, ht1, rfl⟩, rfl, rfl⟩; infer_instance
 rintro _ _ ⟨_, _, ⟨rfl, w1, K1, ht1, rfl⟩, rfl, rfl⟩
 refine AnyH.app ?_
 refine AnyH.done (by kernel_rfl) ?_
 exact Ends.fin (L' := dcBlk qb v2 w1 :: (H2 ++ (dCaps l2 ++ K1))) (res0 rfl) ⟨rfl, S2, l2, v2, H2, w1, K1, hR2, hQ2, hs2, ht1, rfl⟩
theorem tr_dMove (qb : Nat) (L : Hp) (p : PS) (hH : DcH p qb L) (hok : POk p) (hl : p.F.all.length ≤ 2 ^ 20) (hrg : ∀ s, (dget p.l s).1.Rg) (so de : SlotM) : Tr Tryz.prog 42 [.pointer (some ⟨qb, 0, none⟩), slotV so, slotV de] (L) (fun u L' => u = .int .i64 (mMove p so de).1 ∧ DcH (mMove p so de).2 qb L') := by
 have hH0 := hH
 obtain ⟨S0, l0, v0, H0, w0, K0, hR0, hQ0, hs0, ht0, rfl⟩ := hH
 have hsrg : (mSource p so).1.Rg := by unfold mSource; split <;> exact hrg so
 refine Tr.enter Tryz.func42 rfl Tryz.ntmps42 rfl (fun W F => ?_)
 refine Wp.app ?_
 refine Wr ?_
 refine Ops.ef rfl (ef_boxK rfl rfl) ?_
 rintro _ _ ⟨b1, rfl, rfl⟩
 refine Ops.ef rfl (ef_boxK rfl rfl) ?_
 rintro _ _ ⟨b2, rfl, rfl⟩
 refine Oa1 rfl rfl ?_
 refine On ?_
 refine Wr ?_
 refine Om1 rfl rfl ?_
 refine Ops.pv (pv_loadK [_, _] rfl rfl rfl ⟨rfl, rfl, trivial⟩) rfl ?_
 refine Ops.ef rfl (ef_callr (tr_dSource qb (dcBlk qb v0 w0 :: (H0 ++ (dCaps l0 ++ K0))) p hH0 so) rfl rfl) ?_
 rintro _ _ ⟨rfl, rfl⟩
 refine Om1 rfl rfl ?_
 refine Ops.pv (pv_extract rfl rfl) rfl ?_
 refine Ops.pv (pv_extract rfl rfl) rfl ?_
 refine Ops.ef rfl (ef_allocK tyZ25 rfl) ?_
 rintro _ _ ⟨b3, rfl, rfl⟩
 refine Ops.ef rfl (ef_storeK rfl rfl rfl rfl) ?_
 rintro _ _ ⟨rfl, rfl⟩
 refine Oa1 rfl rfl ?_
 refine On ?_
 refine Wp.seq ?_
 refine Wr ?_
 refine Om1 rfl rfl ?_
 refine Ops.pv (pv_eql rfl rfl) rfl ?_
 refine On ?_
 refine Wp.cond_dect rfl (fun h1 => ?_) (fun h1 => ?_)
 ·
  refine Wp.region ?_
  refine Om1 rfl rfl ?_
  refine Ops.pv (pv_loadK [_, _] rfl rfl rfl ⟨rfl, rfl, trivial⟩) rfl ?_
  refine Ops.ef rfl (ef_callr (tr_dPlace qb (dcBlk qb v0 w0 :: (H0 ++ (dCaps l0 ++ K0))) p hH0 de) rfl rfl) ?_
  rintro _ _ ⟨rfl, rfl⟩
  refine Oa1 rfl rfl ?_
  refine On ?_
  refine Wp.seq ?_
  refine Wr ?_
  refine Om1 rfl rfl ?_
  refine Ops.pv (pv_eql rfl rfl) rfl ?_
  refine On ?_
  refine Wp.cond_dect rfl (fun h2 => ?_) (fun h2 => ?_)
  ·
   refine Wp.region ?_
   refine Om1 rfl rfl ?_
   refine Ops.pv (pv_loadK [_, _] rfl rfl rfl ⟨rfl, rfl, trivial⟩) rfl ?_
   refine Ops.pv (pv_loadK [_, _] rfl rfl rfl ⟨rfl, rfl, trivial⟩) rfl ?_
   refine Ops.pv (pv_loadK [_, _, _, _, _, _] rfl rfl rfl ⟨rfl, rfl, rfl, rfl, rfl, rfl, trivial⟩) rfl ?_
   refine Ops.ef rfl (ef_call (tr_dCarry qb (dcBlk qb v0 w0 :: (H0 ++ (dCaps l0 ++ K0))) p hH0 hok hl so de (mSource p so).1 hsrg) rfl rfl) ?_
   rintro _ _ ⟨_, Q1, ⟨rfl, hH2⟩, rfl, rfl⟩
   refine Ops.app ?_
   skip
   refine On ?_
   refine Wr ?_
   refine Om1 rfl rfl ?_
   refine Oa1 rfl rfl ?_
   refine On ?_
   refine Wp.ret ?_
   have hb : mBoth p so de = ((mSource p so).1, mPlace p de) := by unfold mBoth; rw [if_pos (by assumption)]
   have hb0 : (mBoth p so de).2 = 0 := by rw [hb]; assumption
   have he : mMove p so de = (mPlace p de, mCarry p so de (mSource p so).1) := by unfold mMove; rw [hb, if_pos (by assumption)]
   rw [he]
   exact Ends.ret (L' := Q1) (res1 rfl rfl) ⟨rfl, hH2⟩
  refine Wp.skip ?_
  refine Ends.seq ?_
  refine Wr ?_
  refine Om1 rfl rfl ?_
  refine Oa1 rfl rfl ?_
  refine On ?_
  refine Wp.ret ?_
  have hb : mBoth p so de = ((mSource p so).1, mPlace p de) := by unfold mBoth; rw [if_pos (by assumption)]
  have he : mMove p so de = (mPlace p de, p) := by unfold mMove; rw [hb, if_neg (by assumption)]
  rw [he]
  exact Ends.ret (L' := (dcBlk qb v0 w0 :: (H0 ++ (dCaps l0 ++ K0)))) (res1 rfl rfl) ⟨rfl, S0, l0, v0, H0, w0, K0, hR0, hQ0, hs0, ht0, rfl⟩
 refine Wp.skip ?_
 refine Ends.seq ?_
 refine Wp.seq ?_
 refine Wr ?_
 refine Om1 rfl rfl ?_
 refine Ops.pv (pv_eql rfl rfl) rfl ?_
 refine On ?_
 refine Wp.cond_dect rfl (fun h3 => (by contradiction)) (fun h3 => ?_)
 refine Wp.skip ?_
 refine Ends.seq ?_
 refine Wr ?_
 refine Om1 rfl rfl ?_
 refine Oa1 rfl rfl ?_
 refine On ?_
 refine Wp.ret ?_
 have hb : mBoth p so de = ((mSource p so).1, (mSource p so).2) := by unfold mBoth; rw [if_neg (by assumption)]
 have he : mMove p so de = ((mSource p so).2, p) := by unfold mMove; rw [hb, if_neg (by assumption)]
 rw [he]
 exact Ends.ret (L' := (dcBlk qb v0 w0 :: (H0 ++ (dCaps l0 ++ K0)))) (res1 rfl rfl) ⟨rfl, S0, l0, v0, H0, w0, K0, hR0, hQ0, hs0, ht0, rfl⟩
theorem tr_dMutate (qb : Nat) (L : Hp) (p : PS) (hH : DcH p qb L) (hok : POk p) (hl : p.F.all.length ≤ 2 ^ 20) (hrg : ∀ s, (dget p.l s).1.Rg) (so de : SlotM) (g k : Int) (hg : u64R g) : Tr Tryz.prog 44 [.pointer (some ⟨qb, 0, none⟩), slotV so, slotV de, .int .u64 g, .int .i64 k] (L) (fun u L' => u = .int .i64 (mMutate p so de g k).1 ∧ DcH (mMutate p so de g k).2 qb L') := by
 have hH0 := hH
 obtain ⟨S0, l0, v0, H0, w0, K0, hR0, hQ0, hs0, ht0, rfl⟩ := hH
 have hsrg : (mSource p so).1.Rg := by unfold mSource; split <;> exact hrg so
 have hfi := fits_iff (b := k) hg
 refine Tr.enter Tryz.func44 rfl Tryz.ntmps44 rfl (fun W F => ?_)
 refine Wp.app ?_
 refine Wr ?_
 refine Ops.ef rfl (ef_boxK rfl rfl) ?_
 rintro _ _ ⟨b1, rfl, rfl⟩
 refine Ops.ef rfl (ef_boxK rfl rfl) ?_
 rintro _ _ ⟨b2, rfl, rfl⟩
 refine Oa1 rfl rfl ?_
 refine On ?_
 refine Wr ?_
 refine Om1 rfl rfl ?_
 refine Ops.pv (pv_loadK [_, _] rfl rfl rfl ⟨rfl, rfl, trivial⟩) rfl ?_
 refine Ops.ef rfl (ef_callr (tr_dSource qb (dcBlk qb v0 w0 :: (H0 ++ (dCaps l0 ++ K0))) p hH0 so) rfl rfl) ?_
 rintro _ _ ⟨rfl, rfl⟩
 refine Om1 rfl rfl ?_
 refine Ops.pv (pv_extract rfl rfl) rfl ?_
 refine Ops.pv (pv_extract rfl rfl) rfl ?_
 refine Ops.ef rfl (ef_allocK tyZ25 rfl) ?_
 rintro _ _ ⟨b3, rfl, rfl⟩
 refine Ops.ef rfl (ef_storeK rfl rfl rfl rfl) ?_
 rintro _ _ ⟨rfl, rfl⟩
 refine Oa1 rfl rfl ?_
 refine On ?_
 refine Wp.seq ?_
 refine Wr ?_
 refine Om1 rfl rfl ?_
 refine Ops.pv (pv_eql rfl rfl) rfl ?_
 refine On ?_
 refine Wp.cond_dect rfl (fun h1 => ?_) (fun h1 => ?_)
 ·
  refine Wp.region ?_
  refine Om1 rfl rfl ?_
  refine Ops.pv (pv_loadK [_, _] rfl rfl rfl ⟨rfl, rfl, trivial⟩) rfl ?_
  refine Ops.ef rfl (ef_callr (tr_dPlace qb (dcBlk qb v0 w0 :: (H0 ++ (dCaps l0 ++ K0))) p hH0 de) rfl rfl) ?_
  rintro _ _ ⟨rfl, rfl⟩
  refine Oa1 rfl rfl ?_
  refine On ?_
  refine Wp.seq ?_
  refine Wp.block ?_
  refine Wr ?_
  refine Om1 rfl rfl ?_
  refine Ops.pv (pv_neq rfl rfl) rfl ?_
  refine Oa1 rfl rfl ?_
  refine On ?_
  refine Wp.cond_dect rfl (fun h2 => ?_) (fun h2 => ?_)
  ·
   refine Wr ?_
   refine Om1 rfl rfl ?_
   refine Oa1 rfl rfl ?_
   refine On ?_
   refine Wp.ret ?_
   refine Ends.block_ret ?_
   refine Ends.then_ret ?_
   have hb : mBoth p so de = ((mSource p so).1, mPlace p de) := by unfold mBoth; rw [if_pos (by assumption)]
   have he : mMutate p so de g k = (mPlace p de, p) := by unfold mMutate; rw [hb, if_pos (by assumption)]
   rw [he]
   exact Ends.ret (L' := (dcBlk qb v0 w0 :: (H0 ++ (dCaps l0 ++ K0)))) (res1 rfl rfl) ⟨rfl, S0, l0, v0, H0, w0, K0, hR0, hQ0, hs0, ht0, rfl⟩
  refine Wr ?_
  refine Of1 rfl rfl rfl ?_
  refine Ol1 rfl rfl rfl rfl ?_
  refine Ops.pv (pv_neq rfl rfl) rfl ?_
  refine Oa1 rfl rfl ?_
  refine On ?_
  refine Wp.cond_dect rfl (fun h3 => ?_) (fun h3 => ?_)
  ·
   refine Wr ?_
   refine Oa1 rfl rfl ?_
   refine On ?_
   refine Wp.ret ?_
   refine Ends.block_ret ?_
   refine Ends.then_ret ?_
   have hb : mBoth p so de = ((mSource p so).1, mPlace p de) := by unfold mBoth; rw [if_pos (by assumption)]
   have he : mMutate p so de g k = (2, p) := by unfold mMutate; rw [hb, if_neg (by assumption), if_pos (by assumption)]
   rw [he]
   exact Ends.ret (L' := (dcBlk qb v0 w0 :: (H0 ++ (dCaps l0 ++ K0)))) (res1 rfl rfl) ⟨rfl, S0, l0, v0, H0, w0, K0, hR0, hQ0, hs0, ht0, rfl⟩
  have hbo : mBoth p so de = ((mSource p so).1, mPlace p de) := by unfold mBoth; rw [if_pos (by assumption)]
  have hb0 : (mBoth p so de).2 = 0 := by rw [hbo]; exact Decidable.not_not.1 (by assumption)
  obtain ⟨e1, e2, e3, e4, e5⟩ := both_ok hb0
  have hm1 : (mSource p so).1 = (dget p.l so).1 := by rw [hbo] at e1; exact e1
  have hck : checkM (mSource p so).1 = 0 := by rw [hm1]; exact hok.rel.check e2
  have hkn : (mSource p so).1.kind = 2 := Decidable.not_not.1 (by assumption)
  have hdn : derive (mSource p so).1 0 0 g k = if fitsM g k = false then (CapM.zero, 10) else (({ (mSource p so).1 with guard := g, bits := k } : CapM), 0) := by unfold derive; rw [if_neg (fun e => e hck), if_neg (by omega), if_neg (by omega), if_neg (by decide), if_neg (by omega), if_pos hkn]
  refine Wr ?_
  refine Om1 rfl rfl ?_
  refine Ops.pv (pv_lss rfl rfl) rfl ?_
  refine Om1 rfl rfl ?_
  refine Ops.pvcn rfl rfl (fun hg => pv_move rfl) rfl ?_
  refine Ops.pvcn rfl rfl (fun hg => Pv.setE (t := 36) rfl (cv_pos hg) (pv_gtr rfl rfl)) rfl ?_
  refine Ops.pv (pv_pick_or rfl rfl) rfl ?_
  refine Om1 rfl rfl ?_
  refine Ops.pvcn rfl rfl (fun hg => pv_move rfl) rfl ?_
  refine Ops.pvcn rfl rfl (fun hg => Pv.setE (t := 40) rfl (cv_pos hg) (pv_move rfl)) rfl ?_
  refine Ops.pvcn rfl rfl (fun hg => Pv.setE (t := 40) rfl (cv_pos hg) (Pv.setE (t := 41) rfl (cv_pos hg) (pv_shl rfl rfl (by omega) (shlI (by omega) (by omega))))) rfl ?_
  refine Ops.pvcn rfl rfl (fun hg => Pv.setE (t := 40) rfl (cv_pos hg) (Pv.setE (t := 41) rfl (cv_pos hg) (Pv.setE (t := 42) rfl (cv_pos hg) (pv_geq rfl rfl)))) rfl ?_
  refine Ops.pv (pv_pick_or rfl rfl) rfl ?_
  refine Oa1 rfl rfl ?_
  refine On ?_
  refine Wp.cond_dect rfl (fun h4 => ?_) (fun h4 => ?_)
  ·
   refine Wr ?_
   refine Oa1 rfl rfl ?_
   refine On ?_
   refine Wp.ret ?_
   refine Ends.block_ret ?_
   refine Ends.then_ret ?_
   have hf : fitsM g k = false := by cases e : fitsM g k; rfl; have := hfi.1 e; exfalso; omega
   rw [if_pos hf] at hdn
   have he : mMutate p so de g k = (10, p) := by unfold mMutate; rw [hbo, if_neg (by assumption), if_neg (by assumption), hdn, if_neg (by decide)]
   rw [he]
   exact Ends.ret (L' := (dcBlk qb v0 w0 :: (H0 ++ (dCaps l0 ++ K0)))) (res1 rfl rfl) ⟨rfl, S0, l0, v0, H0, w0, K0, hR0, hQ0, hs0, ht0, rfl⟩
  refine Wp.skip ?_
  refine Ends.block_normal ?_
  refine Ends.seq ?_
  refine Wr ?_
  refine Om1 rfl rfl ?_
  refine Of1 rfl rfl rfl ?_
  refine Ops.ef rfl (ef_store1 rfl rfl (by first | rfl | assumption) (by first | rfl | assumption)) ?_
  rintro _ _ ⟨rfl, rfl⟩
  refine On ?_
  refine Wr ?_
  refine Om1 rfl rfl ?_
  refine Of1 rfl rfl rfl ?_
  refine Ops.ef rfl (ef_store1 rfl rfl (by first | rfl | assumption) (by first | rfl | assumption)) ?_
  rintro _ _ ⟨rfl, rfl⟩
  refine On ?_
  refine Wr ?_
  refine Om1 rfl rfl ?_
  refine Ops.pv (pv_loadK [_, _] rfl rfl rfl ⟨rfl, rfl, trivial⟩) rfl ?_
  refine Ops.pv (pv_loadK [_, _] rfl rfl rfl ⟨rfl, rfl, trivial⟩) rfl ?_
  refine Ops.pv (pv_loadK [_, _, _, _, _, _] rfl rfl rfl ⟨rfl, rfl, rfl, rfl, rfl, rfl, trivial⟩) rfl ?_
  refine Ops.ef rfl (ef_call (tr_dCarry qb (dcBlk qb v0 w0 :: (H0 ++ (dCaps l0 ++ K0))) p hH0 hok hl so de ({ (mSource p so).1 with guard := g, bits := k } : CapM) ⟨hsrg.rights, hsrg.badge, hg⟩) rfl rfl) ?_
  rintro _ _ ⟨_, Q1, ⟨rfl, hH2⟩, rfl, rfl⟩
  refine Ops.app ?_
  skip
  refine On ?_
  refine Wr ?_
  refine Oa1 rfl rfl ?_
  refine On ?_
  refine Wp.ret ?_
  have hf : fitsM g k = true := hfi.2 (by omega)
  rw [if_neg (by simp [hf])] at hdn
  have he : mMutate p so de g k = (0, mCarry p so de ({ (mSource p so).1 with guard := g, bits := k } : CapM)) := by unfold mMutate; rw [hbo, if_neg (by assumption), if_neg (by assumption), hdn, if_pos rfl]
  rw [he]
  exact Ends.ret (L' := Q1) (res1 rfl rfl) ⟨rfl, hH2⟩
 refine Wp.skip ?_
 refine Ends.seq ?_
 refine Wp.seq ?_
 refine Wp.block ?_
 refine Wr ?_
 refine Om1 rfl rfl ?_
 refine Ops.pv (pv_neq rfl rfl) rfl ?_
 refine Oa1 rfl rfl ?_
 refine On ?_
 refine Wp.cond_dect rfl (fun h5 => ?_) (fun h5 => by contradiction)
 refine Wr ?_
 refine Om1 rfl rfl ?_
 refine Oa1 rfl rfl ?_
 refine On ?_
 refine Wp.ret ?_
 refine Ends.block_ret ?_
 refine Ends.then_ret ?_
 have hb : mBoth p so de = ((mSource p so).1, (mSource p so).2) := by unfold mBoth; rw [if_neg (by assumption)]
 have he : mMutate p so de g k = ((mSource p so).2, p) := by unfold mMutate; rw [hb, if_pos (by assumption)]
 rw [he]
 exact Ends.ret (L' := (dcBlk qb v0 w0 :: (H0 ++ (dCaps l0 ++ K0)))) (res1 rfl rfl) ⟨rfl, S0, l0, v0, H0, w0, K0, hR0, hQ0, hs0, ht0, rfl⟩
theorem tr_dTake (qb : Nat) (L : Hp) (p : PS) (hH : DcH p qb L) (hok : POk p) (hl : p.F.all.length ≤ 2 ^ 20) (so : SlotM) : Tr Tryz.prog 48 [.pointer (some ⟨qb, 0, none⟩), slotV so] (L) (fun u L' => u = .tuple #[(mTake p so).1.v, .int .i64 (mTake p so).2.1] ∧ DcH (mTake p so).2.2 qb L') := by
 obtain ⟨S0, l0, v0, H0, w0, K0, hR0, hQ0, hs0, ht0, rfl⟩ := hH
 refine Tr.enter Tryz.func48 rfl Tryz.ntmps48 rfl (fun W F => ?_)
 refine Wp.app ?_
 refine Wr ?_
 refine Ops.ef rfl (ef_boxK rfl rfl) ?_
 rintro _ _ ⟨b1, rfl, rfl⟩
 refine Ops.ef rfl (ef_allocK tyZ25 rfl) ?_
 rintro _ _ ⟨b2, rfl, rfl⟩
 refine Oa1 rfl rfl ?_
 refine On ?_
 refine Wp.seq ?_
 refine AnyH.start ((b1, .cells [.int .i64 so.1, .int .i64 so.2].toArray 31) :: []) 11 rfl ?_
 refine Tk 0 rfl rfl (pv_move rfl) rfl ?_
 refine Tk 1 rfl rfl (pv_nilCheck rfl) rfl ?_
 refine Tk 2 rfl rfl (pv_fieldAddr0 rfl rfl) rfl ?_
 refine Tk 3 rfl rfl (pv_loadK [_, _] rfl rfl rfl ⟨rfl, rfl, trivial⟩) rfl ?_
 refine AnyH.two 4 8 (by kernel_rfl) ?_ ?_
 ·
  refine Turn.ef rfl rfl (ef_call (dsf_take (uT := w0) ⟨S0, l0, hR0, hQ0, v0, H0, hs0, rfl⟩ so) rfl rfl) ?_ ?_
  ·
   rintro _ _ ⟨_, _, ⟨rfl, S1, l1, hR1, hQ1, v1, H1, hs1, rfl⟩, rfl, rfl⟩; infer_instance
  rintro _ _ ⟨_, _, ⟨rfl, S1, l1, hR1, hQ1, v1, H1, hs1, rfl⟩, rfl, rfl⟩
  refine AnyH.app ?_
  refine Tk 5 rfl rfl (pv_move rfl) rfl ?_
  refine Tk 6 rfl rfl (pv_extract rfl rfl) rfl ?_
  refine Tk 7 rfl rfl (pv_extract rfl rfl) rfl ?_
  refine AnyH.one 8 (by kernel_rfl) ?_
  refine Turn.ef rfl rfl (ef_allocK tyZ25 rfl) ?_ ?_
  ·
   rintro _ _ ⟨b3, rfl, rfl⟩; infer_instance
  rintro _ _ ⟨b3, rfl, rfl⟩
  refine AnyH.one 9 (by kernel_rfl) ?_
  refine Turn.ef rfl rfl (ef_storeK rfl rfl rfl rfl) ?_ ?_
  ·
   rintro _ _ ⟨rfl, rfl⟩; infer_instance
  rintro _ _ ⟨rfl, rfl⟩
  refine Tk 10 rfl rfl (pv_assign rfl) rfl ?_
  refine AnyH.done (by kernel_rfl) ?_
  refine Ends.seq ?_
  refine Wp.seq ?_
  refine Wr ?_
  refine Om1 rfl rfl ?_
  refine Ops.pv (pv_eql rfl rfl) rfl ?_
  refine On ?_
  refine Wp.cond_dect rfl (fun h1 => ?_) (fun h1 => ?_)
  ·
   refine AnyH.start ((b1, .cells [.int .i64 so.1, .int .i64 so.2].toArray 31) :: []) 5 rfl ?_
   refine Tk 0 rfl rfl (pv_move rfl) rfl ?_
   refine Tk 1 rfl rfl (pv_nilCheck rfl) rfl ?_
   refine Tk 2 rfl rfl (pv_fieldAddr0 rfl rfl) rfl ?_
   refine Tk 3 rfl rfl (pv_loadK [_, _] rfl rfl rfl ⟨rfl, rfl, trivial⟩) rfl ?_
   refine AnyH.one 4 (by kernel_rfl) ?_
   refine Turn.ef rfl rfl (ef_call (tr_gDrop (uS := v1) (F := p.F) ⟨w0, K0, ht0, rfl⟩ hok.nd hl so) rfl rfl) ?_ ?_
   ·
    rintro _ _ ⟨_, _, ⟨rfl, w1, K1, ht1, rfl⟩, rfl, rfl⟩; infer_instance
   rintro _ _ ⟨_, _, ⟨rfl, w1, K1, ht1, rfl⟩, rfl, rfl⟩
   refine AnyH.app ?_
   refine AnyH.done (by kernel_rfl) ?_
   refine Ends.seq ?_
   refine Wr ?_
   refine Ops.pv (pv_loadK [_, _, _, _, _, _] rfl rfl rfl ⟨rfl, rfl, rfl, rfl, rfl, rfl, trivial⟩) rfl ?_
   refine Om1 rfl rfl ?_
   refine Ops.ef rfl (ef_storeK rfl rfl rfl rfl) ?_
   rintro _ _ ⟨rfl, rfl⟩
   refine Oa1 rfl rfl ?_
   refine On ?_
   refine Wp.ret ?_
   have he : mTake p so = ((dtake p.l so).1, (dtake p.l so).2.1, ⟨(dtake p.l so).2.2, (ftDrop p.F so).2⟩) := by unfold mTake; rw [if_pos (by assumption)]
   rw [he]
   exact Ends.ret (L' := dcBlk qb v1 w1 :: (H1 ++ (dCaps l1 ++ K1))) (res_list (rs := [.cell 4 25, .tmp 5]) rfl ⟨_, _, rfl, rv_cellK [_, _, _, _, _, _] rfl rfl rfl ⟨rfl, rfl, rfl, rfl, rfl, rfl, trivial⟩, ⟨_, _, rfl, rv_tmp rfl, rfl⟩⟩ rfl) ⟨rfl, S1, l1, v1, H1, w1, K1, hR1, hQ1, hs1, ht1, rfl⟩
  refine Wp.skip ?_
  refine Ends.seq ?_
  refine Wr ?_
  refine Ops.pv (pv_loadK [_, _, _, _, _, _] rfl rfl rfl ⟨rfl, rfl, rfl, rfl, rfl, rfl, trivial⟩) rfl ?_
  refine Om1 rfl rfl ?_
  refine Ops.ef rfl (ef_storeK rfl rfl rfl rfl) ?_
  rintro _ _ ⟨rfl, rfl⟩
  refine Oa1 rfl rfl ?_
  refine On ?_
  refine Wp.ret ?_
  have he : mTake p so = ((dtake p.l so).1, (dtake p.l so).2.1, ⟨(dtake p.l so).2.2, p.F⟩) := by unfold mTake; rw [if_neg (by assumption)]
  rw [he]
  exact Ends.ret (L' := dcBlk qb v1 w0 :: (H1 ++ (dCaps l1 ++ K0))) (res_list (rs := [.cell 4 25, .tmp 5]) rfl ⟨_, _, rfl, rv_cellK [_, _, _, _, _, _] rfl rfl rfl ⟨rfl, rfl, rfl, rfl, rfl, rfl, trivial⟩, ⟨_, _, rfl, rv_tmp rfl, rfl⟩⟩ rfl) ⟨rfl, S1, l1, v1, H1, w0, K0, hR1, hQ1, hs1, ht0, rfl⟩
 refine Turn.ef rfl rfl (ef_allocK tyZ25 rfl) ?_ ?_
 ·
  rintro _ _ ⟨b4, rfl, rfl⟩; infer_instance
 rintro _ _ ⟨b4, rfl, rfl⟩
 refine AnyH.one 4 (by kernel_rfl) ?_
 refine Turn.ef rfl rfl (ef_call (dsf_take (uT := w0) ⟨S0, l0, hR0, hQ0, v0, H0, hs0, rfl⟩ so) rfl rfl) ?_ ?_
 ·
  rintro _ _ ⟨_, _, ⟨rfl, S2, l2, hR2, hQ2, v2, H2, hs2, rfl⟩, rfl, rfl⟩; infer_instance
 rintro _ _ ⟨_, _, ⟨rfl, S2, l2, hR2, hQ2, v2, H2, hs2, rfl⟩, rfl, rfl⟩
 refine AnyH.app ?_
 refine Tk 5 rfl rfl (pv_move rfl) rfl ?_
 refine Tk 6 rfl rfl (pv_extract rfl rfl) rfl ?_
 refine Tk 7 rfl rfl (pv_extract rfl rfl) rfl ?_
 refine AnyH.one 9 (by kernel_rfl) ?_
 refine Turn.ef rfl rfl (ef_storeK rfl rfl rfl rfl) ?_ ?_
 ·
  rintro _ _ ⟨rfl, rfl⟩; infer_instance
 rintro _ _ ⟨rfl, rfl⟩
 refine Tk 10 rfl rfl (pv_assign rfl) rfl ?_
 refine AnyH.done (by kernel_rfl) ?_
 refine Ends.seq ?_
 refine Wp.seq ?_
 refine Wr ?_
 refine Om1 rfl rfl ?_
 refine Ops.pv (pv_eql rfl rfl) rfl ?_
 refine On ?_
 refine Wp.cond_dect rfl (fun h2 => ?_) (fun h2 => ?_)
 ·
  refine AnyH.start ((b1, .cells [.int .i64 so.1, .int .i64 so.2].toArray 31) :: []) 5 rfl ?_
  refine Tk 0 rfl rfl (pv_move rfl) rfl ?_
  refine Tk 1 rfl rfl (pv_nilCheck rfl) rfl ?_
  refine Tk 2 rfl rfl (pv_fieldAddr0 rfl rfl) rfl ?_
  refine Tk 3 rfl rfl (pv_loadK [_, _] rfl rfl rfl ⟨rfl, rfl, trivial⟩) rfl ?_
  refine AnyH.one 4 (by kernel_rfl) ?_
  refine Turn.ef rfl rfl (ef_call (tr_gDrop (uS := v2) (F := p.F) ⟨w0, K0, ht0, rfl⟩ hok.nd hl so) rfl rfl) ?_ ?_
  ·
   rintro _ _ ⟨_, _, ⟨rfl, w2, K2, ht2, rfl⟩, rfl, rfl⟩; infer_instance
  rintro _ _ ⟨_, _, ⟨rfl, w2, K2, ht2, rfl⟩, rfl, rfl⟩
  refine AnyH.app ?_
  refine AnyH.done (by kernel_rfl) ?_
  refine Ends.seq ?_
  refine Wr ?_
  refine Ops.pv (pv_loadK [_, _, _, _, _, _] rfl rfl rfl ⟨rfl, rfl, rfl, rfl, rfl, rfl, trivial⟩) rfl ?_
  refine Om1 rfl rfl ?_
  refine Ops.ef rfl (ef_storeK rfl rfl rfl rfl) ?_
  rintro _ _ ⟨rfl, rfl⟩
  refine Oa1 rfl rfl ?_
  refine On ?_
  refine Wp.ret ?_
  have he : mTake p so = ((dtake p.l so).1, (dtake p.l so).2.1, ⟨(dtake p.l so).2.2, (ftDrop p.F so).2⟩) := by unfold mTake; rw [if_pos (by assumption)]
  rw [he]
  exact Ends.ret (L' := dcBlk qb v2 w2 :: (H2 ++ (dCaps l2 ++ K2))) (res_list (rs := [.cell 4 25, .tmp 5]) rfl ⟨_, _, rfl, rv_cellK [_, _, _, _, _, _] rfl rfl rfl ⟨rfl, rfl, rfl, rfl, rfl, rfl, trivial⟩, ⟨_, _, rfl, rv_tmp rfl, rfl⟩⟩ rfl) ⟨rfl, S2, l2, v2, H2, w2, K2, hR2, hQ2, hs2, ht2, rfl⟩
 refine Wp.skip ?_
 refine Ends.seq ?_
 refine Wr ?_
 refine Ops.pv (pv_loadK [_, _, _, _, _, _] rfl rfl rfl ⟨rfl, rfl, rfl, rfl, rfl, rfl, trivial⟩) rfl ?_
 refine Om1 rfl rfl ?_
 refine Ops.ef rfl (ef_storeK rfl rfl rfl rfl) ?_
 rintro _ _ ⟨rfl, rfl⟩
 refine Oa1 rfl rfl ?_
 refine On ?_
 refine Wp.ret ?_
 have he : mTake p so = ((dtake p.l so).1, (dtake p.l so).2.1, ⟨(dtake p.l so).2.2, p.F⟩) := by unfold mTake; rw [if_neg (by assumption)]
 rw [he]
 exact Ends.ret (L' := dcBlk qb v2 w0 :: (H2 ++ (dCaps l2 ++ K0))) (res_list (rs := [.cell 4 25, .tmp 5]) rfl ⟨_, _, rfl, rv_cellK [_, _, _, _, _, _] rfl rfl rfl ⟨rfl, rfl, rfl, rfl, rfl, rfl, trivial⟩, ⟨_, _, rfl, rv_tmp rfl, rfl⟩⟩ rfl) ⟨rfl, S2, l2, v2, H2, w0, K0, hR2, hQ2, hs2, ht0, rfl⟩
end Go.Proofs.YtdodfnjmkpgdbaaGreat
end
section
set_option linter.unusedVariables false
set_option linter.unusedSimpArgs false
set_option linter.unusedSectionVars false
namespace Go.Proofs.YtdodfnjmkpgdbaaGreat
open Go.SL
theorem HasS.drop {l : List DN} (h : HasS l) (id : Int) : HasS (ddrop l id).2 := by
 obtain ⟨S, hR⟩ := h
 unfold ddrop
 cases e : dfind l id with
 | none => exact ⟨S, hR⟩
 | some d =>
  dsimp only
  split
  ·
   exact ⟨_, rel_del hR e⟩
  ·
   exact ⟨S, hR⟩
theorem drop_get {l : List DN} (h : HasS l) (id : Int) (s : SlotM) : (dget (ddrop l id).2 s).1 = (dget l s).1 := by
 obtain ⟨S, hR⟩ := h
 unfold ddrop
 cases e : dfind l id with
 | none => rfl
 | some d =>
  dsimp only
  split
  ·
   rename_i ha
   by_cases hs : s.1 = id
   ·
    have e1 : (dget l s).1.kind = 0 := by
     unfold dget
     cases e2 : dcap? l s with
     | none => rfl
     | some x =>
      obtain ⟨d', hd', _, hx⟩ := dcap_some e2
      rw [hs, e] at hd'; cases hd'
      exact of_decide_eq_true (List.all_eq_true.1 ha x (List.mem_of_getElem? hx))
    rw [HasS.zero ⟨S, hR⟩ e1]
    have e3 : dfind (ddel l id) s.1 = none := by
     have := dfind_del s.1 hR.srt e
     rw [if_pos hs] at this; exact this
    unfold dget dcap?
    rw [e3]
   ·
    have e3 : dfind (ddel l id) s.1 = dfind l s.1 := by
     have := dfind_del s.1 hR.srt e
     rw [if_neg hs] at this; exact this
    unfold dget dcap?
    rw [e3]
  ·
   rfl
theorem POk.same {p : PS} (hp : POk p) {l : List DN} (hl : HasS l) (hg : ∀ s, (dget l s).1 = (dget p.l s).1) : POk ⟨l, p.F⟩ := ⟨hl, hp.nd, fun s => by rw [hg]; exact hp.on s⟩
theorem POk.node {p : PS} (hp : POk p) (id r : Int) : POk (mNode p id r).2 := hp.same (hp.rel.add id r) (aadd_get hp.rel id r)
theorem POk.clear {p : PS} (hp : POk p) (id : Int) : POk (mClear p id).2 := hp.same (hp.rel.drop id) (drop_get hp.rel id)
theorem WOk.same {p : PS} (hp : WOk p) {l : List DN} (hl : HasS l) (hg : ∀ s, (dget l s).1 = (dget p.l s).1) : WOk ⟨l, p.F⟩ := ⟨hp.ok.same hl hg, fun s => by rw [hg]; exact hp.rg s, fun t x hx => by rw [hg, hg]; exact hp.weak t x hx⟩
theorem WOk.clear {p : PS} (hp : WOk p) (id : Int) : WOk (mClear p id).2 := hp.same (hp.ok.rel.drop id) (drop_get hp.ok.rel id)
theorem WOk.node {p : PS} (hp : WOk p) (id r : Int) : WOk (mNode p id r).2 := hp.same (hp.ok.rel.add id r) (aadd_get hp.ok.rel id r)
theorem POk.carry {p : PS} (hp : POk p) {s d : SlotM} {c : CapM} (hs : (dget p.l s).1.kind ≠ 0) (hd : (dget p.l d).1.kind = 0) (hd2 : (dget p.l d).2 = 0) (hc : checkM c = 0) (hk : c.kind ≠ 0) : POk (mCarry p s d c) := by
 have hg := carry_get hp.rel hs hd hd2 hc hk
 have hF := mv_all ((hp.on s).2 hs) (hp.out hd)
 refine ⟨hp.rel.carry s d c, ?_, fun t => ?_⟩
 ·
  show Fo.Nd (ftMove p.F s d).2
  exact ftMove_nd hp.nd
 ·
  show t ∈ (ftMove p.F s d).2.all ↔ (dget (dput (dtake p.l s).2.2 d c).2 t).1.kind ≠ 0
  rw [hF, map_nd_ren (hp.out hd), hg]
  have hds : d ≠ s := fun e => hs (e ▸ hd)
  by_cases e1 : t = d
  ·
   subst e1; rw [if_pos rfl]; simp [hk, (hp.on s).2 hs]
  ·
   rw [if_neg e1]
   by_cases e2 : t = s
   ·
    subst e2; rw [if_pos rfl]; simp [e1]
   ·
    rw [if_neg e2, ← hp.on t]; simp [e1, e2]
theorem carry_len {p : PS} (s d : SlotM) (c : CapM) : (mCarry p s d c).F.all.length = p.F.all.length := ftMove_len
end Go.Proofs.YtdodfnjmkpgdbaaGreat
end
section
set_option linter.unusedVariables false
set_option linter.unusedSimpArgs false
namespace Go.Proofs.YtdodfnjmkpgdbaaGreat
open Go.SL
theorem wfI {n : Int} (h : (Lit.int .i64 n).wf = true) : i64R n := by
 have h1 : IntKind.i64.min = -9223372036854775808 := by decide
 have h2 : IntKind.i64.max = 9223372036854775807 := by decide
 simp [Lit.wf, h1, h2] at h
 unfold i64R; omega
theorem wfU {n : Int} (h : (Lit.int .u64 n).wf = true) : u64R n := by
 have h1 : IntKind.u64.min = 0 := by decide
 have h2 : IntKind.u64.max = 18446744073709551615 := by decide
 simp [Lit.wf, h1, h2] at h
 unfold u64R; omega
structure OpC.Rg (o : OpC) : Prop where
  c : o.c.Rg
  rights : i64R o.rights
  badge : u64R o.badge
  guard : u64R o.guard
end Go.Proofs.YtdodfnjmkpgdbaaGreat
end
section
set_option linter.unusedVariables false
set_option linter.unusedSimpArgs false
set_option linter.unusedSectionVars false
namespace Go.Proofs.YtdodfnjmkpgdbaaGreat
open Go.SL
structure ROk (p : PS) : Prop where
  ok : POk p
  rg : ∀ s, (dget p.l s).1.Rg
theorem ROk.new : ROk PS.new := by
 refine ⟨⟨hasS_nil, List.nodup_nil, fun s => ?_⟩, fun s => ?_⟩
 ·
  show s ∈ ([] : List SlotM) ↔ _
  simp [PS.new, dget, dcap?, dfind]
 ·
  simp only [PS.new, dget, dcap?, dfind]; exact zero_rg
theorem rg_put {l : List DN} (h : HasS l) (hr : ∀ s, (dget l s).1.Rg) (s : SlotM) {c : CapM} (hc : c.Rg) (t : SlotM) : (dget (dput l s c).2 t).1.Rg := by
 by_cases h0 : (dput l s c).1 = 0
 ·
  rw [put_get h h0]; split
  ·
   exact hc
  ·
   exact hr t
 ·
  rw [dput_no h0]; exact hr t
theorem rg_take {l : List DN} (h : HasS l) (hr : ∀ s, (dget l s).1.Rg) (s : SlotM) (t : SlotM) : (dget (dtake l s).2.2 t).1.Rg := by
 by_cases h0 : (dget l s).1.kind = 0
 ·
  rw [take_no h (fun e => (take_iff h).1 e h0)]; exact hr t
 ·
  rw [take_get h h0]; split
  ·
   exact zero_rg
  ·
   exact hr t
section
variable {p : PS} (h : ROk p)
include h
theorem ROk.node (id r : Int) : ROk (mNode p id r).2 := ⟨h.ok.node id r, fun s => by
 show (dget (dadd p.l id r).2 s).1.Rg
 rw [aadd_get h.ok.rel]; exact h.rg s⟩
theorem ROk.clear (id : Int) : ROk (mClear p id).2 := ⟨h.ok.clear id, fun s => by
 show (dget (ddrop p.l id).2 s).1.Rg
 rw [drop_get h.ok.rel]; exact h.rg s⟩
theorem ROk.plant (s : SlotM) {c : CapM} (hc : c.Rg) : ROk (mPlant p s c).2 := ⟨h.ok.plant s c, rg_put h.ok.rel h.rg s hc⟩
theorem ROk.child (o s : SlotM) {c : CapM} (hc : c.Rg) : ROk (mChild p o s c).2 := by
 refine ⟨h.ok.child o s c, fun t => ?_⟩
 unfold mChild
 split
 ·
  exact h.rg t
 ·
  exact rg_put h.ok.rel h.rg s hc t
theorem ROk.mint (s d : SlotM) {r bd g n : Int} (hr : i64R r) (hb : u64R bd) (hg : u64R g) : ROk (mMint p s d r bd g n).2 := by
 unfold mMint
 split
 ·
  exact h
 ·
  rename_i hbo
  split
  ·
   exact h
  ·
   rename_i hd
   obtain ⟨e1, e2, _⟩ := both_ok (Decidable.not_not.1 hbo)
   have hd0 := Decidable.not_not.1 hd
   rw [e1] at hd0 ⊢
   exact h.child s d (derive_rg (h.rg s) hr hb hg hd0)
theorem ROk.copy (s d : SlotM) {r : Int} (hr : i64R r) : ROk (mCopy p s d r).2 := h.mint s d hr (by unfold u64R; decide) (h.rg s).guard
theorem ROk.carry {s d : SlotM} {c : CapM} (hc : c.Rg) (hok : POk (mCarry p s d c)) : ROk (mCarry p s d c) := ⟨hok, rg_put (h.ok.rel.take s) (rg_take h.ok.rel h.rg s) d hc⟩
theorem ROk.move (s d : SlotM) : ROk (mMove p s d).2 := by
 have hok := h.ok.move s d
 unfold mMove at hok ⊢
 dsimp only at hok ⊢
 split
 ·
  rename_i hb
  rw [if_pos hb] at hok
  exact h.carry (by rw [(both_ok hb).1]; exact h.rg s) hok
 ·
  exact h
theorem ROk.mutate (s d : SlotM) {g n : Int} (hg : u64R g) : ROk (mMutate p s d g n).2 := by
 unfold mMutate
 split
 ·
  exact h
 ·
  rename_i hbo
  split
  ·
   exact h
  ·
   dsimp only
   split
   ·
    rename_i hd
    obtain ⟨e1, e2, e3, e4, e5⟩ := both_ok (Decidable.not_not.1 hbo)
    rw [e1] at hd ⊢
    have h0 : i64R 0 := by unfold i64R; decide
    have hy := derive_check (h.rg s) h0 hd
    exact h.carry (derive_rg (h.rg s) h0 (by unfold u64R; decide) hg hd) (h.ok.carry e2 e4 e5 hy.1 (by rw [hy.2]; exact e2))
   ·
    exact h
theorem ROk.rotate (d v s : SlotM) : ROk (mRotate p d v s).2 := by
 refine ⟨h.ok.rotate d v s, fun t => ?_⟩
 rcases mRotate_ok h.ok (d := d) (v := v) (s := s) with e | ⟨e, e2⟩
 ·
  rw [e]; exact h.rg t
 ·
  by_cases hk : (dget (mRotate p d v s).2.l t).1.kind = 0
  ·
   rw [e2.zero hk]; exact zero_rg
  ·
   obtain ⟨z, hz, rfl⟩ := e.only t hk
   rw [e.val z hz]; exact h.rg z
theorem ROk.take (s : SlotM) : ROk (mTake p s).2.2 := ⟨h.ok.take s, rg_take h.ok.rel h.rg s⟩
end
def actZ (p : PS) (o : OpC) : PS :=
  if o.kind = 0 then (mNode p o.a.1 o.n).2 else if o.kind = 1 then (mClear p o.a.1).2 else if o.kind = 2 then (mPlant p o.a o.c).2 else if o.kind = 3 then (mChild p o.a o.b o.c).2
  else if o.kind = 4 then (mCopy p o.a o.b o.rights).2 else if o.kind = 5 then (mMint p o.a o.b o.rights o.badge o.guard o.bits).2 else if o.kind = 6 then (mMove p o.a o.b).2
  else if o.kind = 7 then (mMutate p o.a o.b o.guard o.bits).2 else if o.kind = 8 then (mRotate p o.a o.b o.d).2 else if o.kind = 9 then (mTake p o.a).2.2 else p
theorem actZ_ok {p : PS} (h : ROk p) {o : OpC} (ho : o.Rg) : ROk (actZ p o) := by
 unfold actZ
 repeat' split
 ·
  exact h.node _ _
 ·
  exact h.clear _
 ·
  exact h.plant _ ho.c
 ·
  exact h.child _ _ ho.c
 ·
  exact h.copy _ _ ho.rights
 ·
  exact h.mint _ _ ho.rights ho.badge ho.guard
 ·
  exact h.move _ _
 ·
  exact h.mutate _ _ ho.guard
 ·
  exact h.rotate _ _ _
 ·
  exact h.take _
 ·
  exact h
end Go.Proofs.YtdodfnjmkpgdbaaGreat
end
section
set_option linter.unusedVariables false
set_option linter.unusedSimpArgs false
set_option linter.unusedSectionVars false
namespace Go.Proofs.YtdodfnjmkpgdbaaGreat
open Go.SL
abbrev stP (sb : Nat) : Value := .pointer (some ⟨sb, 0, none⟩)
theorem sf_new : Tr Tryz.prog 27 [] [] (fun v L' => ∃ sb, v = stP sb ∧ StF [] sb L') :=
  tr_slotsNew.mono fun v L' ⟨sb, S, hv, hl, hS⟩ => ⟨sb, hv, S, rel_new hS, hl⟩
section
variable {l : List DN} {sb : Nat} {L : Hp} (hH : StF l sb L)
include hH
theorem StF.len : l.length ≤ 64 := by obtain ⟨S, hR, _⟩ := hH; exact rel_len hR
theorem sf_get (s : SlotM) : TrR Tryz.prog 51 [stP sb, slotV s] L (.tuple #[(dget l s).1.v, .int .i64 (dget l s).2]) := by
 obtain ⟨S, hR, rfl⟩ := hH
 exact (tr_get sb S s hR.wf).eq (by rw [rel_get hR])
theorem sf_radix (x : Int) : TrR Tryz.prog 9 [stP sb, .int .i64 x] L (.int .i64 (dradix l x)) := by
 obtain ⟨S, hR, rfl⟩ := hH
 exact (tr_radix sb S x).eq (by rw [rel_radix hR])
theorem sf_count (k o : Int) : TrR Tryz.prog 11 [stP sb, .int .i64 k, .int .i64 o] L (.int .i64 (dcount l k o)) := by
 obtain ⟨S, hR, rfl⟩ := hH
 exact (tr_count sb S k o hR.wf hR.tidy).eq (by rw [rel_count hR])
theorem sf_full : Tr Tryz.prog 50 [stP sb] L (fun u L' => ∃ K, Slc 31 2 u (dfull l).length (slotsCells (dfull l)) K ∧ L' = K ++ L) := by
 obtain ⟨S, hR, rfl⟩ := hH
 rw [← rel_full hR]; exact tr_full sb S hR.wf
theorem sf_put (s : SlotM) (c : CapM) : Tr Tryz.prog 77 [stP sb, slotV s, c.v] L (fun u L' => u = .int .i64 (dput l s c).1 ∧ StF (dput l s c).2 sb L') := by
 obtain ⟨S, hR, rfl⟩ := hH
 obtain ⟨e, h2⟩ := rel_put hR s c
 exact (tr_put sb S s c hR.wf).mono fun v L' ⟨hv, hl⟩ => ⟨by rw [hv, e], _, h2, hl⟩
theorem sf_take (s : SlotM) : Tr Tryz.prog 92 [stP sb, slotV s] L (fun u L' => u = .tuple #[(dtake l s).1.v, .int .i64 (dtake l s).2.1] ∧ StF (dtake l s).2.2 sb L') := by
 obtain ⟨S, hR, rfl⟩ := hH
 obtain ⟨e, e2, h2⟩ := rel_take hR s
 exact (tr_take sb S s hR.wf).mono fun v L' ⟨hv, hl⟩ => ⟨by rw [hv, e, e2], _, h2, hl⟩
theorem sf_add (id r : Int) : Tr Tryz.prog 75 [stP sb, .int .i64 id, .int .i64 r] L (fun u L' => u = .int .i64 (dadd l id r).1 ∧ StF (dadd l id r).2 sb L') := by
 obtain ⟨S, hR, rfl⟩ := hH
 have e := rel_addErr hR id r
 refine (tr_add sb S id r).mono fun v L' ⟨hv, hl⟩ => ⟨by rw [hv, e]; rfl, ?_⟩
 rcases hl with ⟨h0, hl⟩ | ⟨h0, b, hl⟩
 ·
  exact ⟨S, by unfold dadd; rw [if_neg (by rw [← e]; exact h0)]; exact hR, hl⟩
 exact ⟨_, by unfold dadd; rw [if_pos (by rw [← e]; exact h0)]; exact rel_add hR h0 (insAt_place l) b 0, hl⟩
theorem sf_drop (id : Int) : Tr Tryz.prog 76 [stP sb, .int .i64 id] L (fun u L' => u = .int .i64 (ddrop l id).1 ∧ StF (ddrop l id).2 sb L') := by
 obtain ⟨S, hR, rfl⟩ := hH
 refine (tr_sdrop sb S id hR.wf).mono fun v L' ⟨hv, hl⟩ => ?_
 unfold ddrop
 cases h : dfind l id with
 | none =>
  rw [rel_drop_none hR h] at hv hl
  exact ⟨hv, S, hR, hl⟩
 | some d =>
  dsimp only
  by_cases hd : dempty d
  ·
   rw [rel_drop_empty hR h hd] at hv hl
   rw [if_pos (dempty_all.1 hd)]
   exact ⟨hv, _, rel_del hR h, hl⟩
  ·
   rw [rel_drop_full hR h hd] at hv hl
   rw [if_neg (fun e => hd (dempty_all.2 e))]
   exact ⟨hv, S, hR, hl⟩
end
end Go.Proofs.YtdodfnjmkpgdbaaGreat
end
section
set_option linter.unusedVariables false
set_option linter.unusedSimpArgs false
namespace Go.Proofs.YtdodfnjmkpgdbaaGreat
open Go.SL
theorem tr_index (G : Hp) (a : Option Addr) (c : Nat) (l : List Nat) (x : Nat) (hv : View G 1 (.slice a l.length c) l.length (ptsC l)) (hl : l.length ≤ 2 ^ 40) (hcl : ∀ b, b ∈ l → isC G b) (hcx : isC G x) : TrR Tryz.prog 124 [.slice a l.length c, .pointer (some ⟨x, 0, none⟩)] (G) (.int .i64 (idxN l x)) := by
 refine Tr.enter Tryz.func124 rfl Tryz.ntmps124 rfl (fun W F => ?_)
 refine Wp.app ?_
 refine Wr ?_
 refine Oa1 rfl rfl ?_
 refine On ?_
 refine Wp.seq ?_
 refine Wr ?_
 refine Om1 rfl rfl ?_
 refine Ops.pv (pv_len_slice (T := 131) rfl rfl) rfl ?_
 refine Om1 rfl rfl ?_
 refine On ?_
 refine Wp.block ?_
 refine Wp.loop (σ := Nat) (fun i => [(0, .slice a l.length c), (1, .pointer (some ⟨x, 0, none⟩)), (4, .int .i64 0), (7, .int .i64 l.length), (8, .int .i64 i)]) (fun _ => G ++ F) (fun i => i ≤ l.length ∧ ∀ j, j < i → l[j]? ≠ some x) (fun i => l.length - i) 0 ⟨Nat.zero_le _, fun j hj => absurd hj (Nat.not_lt_zero j)⟩ (by exact ⟨rfl, rfl, rfl, rfl, rfl, trivial⟩) (by intro w ho; exact ho) ?_
 rintro i K ⟨hi, hn⟩ hK
 refine Wr ?_
 refine Ops.pv (pv_lss rfl rfl) rfl ?_
 refine On ?_
 refine Wp.seq ?_
 refine Wp.cond_dect rfl (fun h1 => ?_) (fun h1 => ?_)
 ·
  obtain ⟨b, o, cap, cc, T, f, hv1, hbv, hr⟩ := hv.open (by omega)
  cases hv1
  obtain ⟨y, hy⟩ : ∃ y, l[i]? = some y := ⟨_, List.getElem?_eq_getElem (by omega)⟩
  have hny := pts_nth hr hy
  have hcy := (hcl y (List.mem_of_getElem? hy)).mono (M := G ++ F) (fun p hp => List.mem_append_left _ hp)
  have hcx2 := hcx.mono (M := G ++ F) (fun p hp => List.mem_append_left _ hp)
  refine Wp.skip ?_
  refine Ends.seq ?_
  refine Wp.seq ?_
  refine Wp.block ?_
  refine Wr ?_
  refine Om1 rfl rfl ?_
  refine Oa1 rfl rfl ?_
  refine On ?_
  refine Wr ?_
  refine Om1 rfl rfl ?_
  refine Om1 rfl rfl ?_
  refine Om1 rfl rfl ?_
  refine Ops.pv (pv_indexAddr (i := i) rfl rfl rfl (by omega)) rfl ?_
  refine Ops.pv (pv_load rfl rfl hny) rfl ?_
  refine Ops.pv (pv_eql_ptr rfl rfl hcx2 hcy (by decide)) rfl ?_
  refine On ?_
  refine Wp.cond_dect rfl (fun h2 => ?_) (fun h2 => ?_)
  ·
   refine Wr ?_
   refine Om1 rfl rfl ?_
   refine Oa1 rfl rfl ?_
   refine On ?_
   refine Wp.ret ?_
   refine Ends.block_ret ?_
   refine Ends.then_ret ?_
   refine Ends.then_ret ?_
   refine Ends.block_ret ?_
   refine Ends.then_ret ?_
   exact Ends.ret (res1 rfl rfl) ⟨by rw [idxN_hit (i := i) (by rw [hy]; congr 1; omega) hn], rfl⟩
  refine Wp.skip ?_
  refine Ends.block_normal ?_
  refine Ends.seq ?_
  refine Wp.region ?_
  refine Ops.pv (pv_add rfl rfl (w64 (by omega) (by omega))) rfl ?_
  refine Om1 rfl rfl ?_
  refine Ops.nil ?_
  refine Ends.goes ?_
  refine Goes.back (hK (i + 1) ⟨by omega, fun j hj => ?_⟩ (by omega)) ⟨rfl, rfl, rfl, rfl, rfl, trivial⟩
  rcases Nat.lt_succ_iff_lt_or_eq.1 hj with hj | rfl
  ·
   exact hn j hj
  rw [hy]; intro e; cases e; omega
 refine Wp.exit ?_
 refine Ends.then_exit ?_
 refine Ends.then_exit ?_
 refine Ends.block_hit ?_
 refine Ends.seq ?_
 refine Wr ?_
 refine Oa1 rfl rfl ?_
 refine On ?_
 refine Wp.ret ?_
 exact Ends.ret (res1 rfl rfl) ⟨by rw [idxN_miss (fun j hj => hn j (by omega))], rfl⟩
theorem tr_clone (G : Hp) (a : Option Addr) (c : Nat) (l : List Nat) (hv : View G 1 (.slice a l.length c) l.length (ptsC l)) (hl : l.length ≤ 2 ^ 40) : Tr Tryz.prog 102 [.slice a l.length c] (G) (fun v L' => ∃ H, Slc 130 1 v l.length (ptsC l) H ∧ L' = H ++ G) := by
 refine Tr.enter Tryz.func102 rfl Tryz.ntmps102 rfl (fun W F => ?_)
 refine Wp.app ?_
 refine Wr ?_
 refine Oa1 rfl rfl ?_
 refine On ?_
 refine Wp.seq ?_
 refine Wr ?_
 refine Om1 rfl rfl ?_
 refine Ops.pv (pv_eql_slcnil rfl rfl) rfl ?_
 refine On ?_
 refine Wp.cond_t rfl (fun h1 => ?_) (fun h1 => ?_)
 ·
  obtain rfl := Option.isNone_iff_eq_none.1 h1
  obtain ⟨e0, e1⟩ := view_nil' hv
  refine Wr ?_
  refine Oa1 rfl rfl ?_
  refine On ?_
  refine Wp.ret ?_
  refine Ends.then_ret ?_
  exact Ends.ret (L' := G) (res1 rfl rfl) ⟨[], by rw [e0, e1]; exact Slc.nil _ _, rfl⟩
 refine Wp.skip ?_
 refine Ends.seq ?_
 refine Wr ?_
 refine Ops.ef rfl (ef_buildSlice0 rfl) ?_
 rintro _ _ ⟨b1, rfl, rfl⟩
 refine Om1 rfl rfl ?_
 refine Ops.ef rfl (ef_appendV (H := [(b1, .cells ([] : List Value).toArray 130)]) rfl (slc_empty' 130 1 b1) rfl (hv.mono (by intro p hp; simp [hp])) (ptsC_one l) (by omega) (by omega) rfl rfl) ?_
 rintro _ _ ⟨v1, H1, hs1, rfl, rfl⟩
 refine Ops.app ?_
 skip
 refine Oa1 rfl rfl ?_
 refine On ?_
 refine Wp.ret ?_
 rw [Nat.zero_add, List.nil_append] at hs1
 exact Ends.ret (L' := H1 ++ G) (res1 rfl rfl) ⟨H1, hs1, rfl⟩
theorem tr_grow (n : Nat) (hn : n ≤ 2 ^ 40) : Tr Tryz.prog 125 [.slice none 0 0, .int .i64 n] ([]) (fun v L' => Slc 130 1 v 0 [] L') := by
 refine Tr.enter Tryz.func125 rfl Tryz.ntmps125 rfl (fun W F => ?_)
 refine Wp.app ?_
 refine Wr ?_
 refine Oa1 rfl rfl ?_
 refine On ?_
 refine Wp.seq ?_
 refine Wr ?_
 refine Om1 rfl rfl ?_
 refine Ops.pv ((pv_lss rfl rfl).fls (by omega)) rfl ?_
 refine On ?_
 refine Wp.cond_false rfl ?_
 refine Wp.skip ?_
 refine Ends.seq ?_
 refine Wp.seq ?_
 refine Wr ?_
 refine Om1 rfl rfl ?_
 refine Om1 rfl rfl ?_
 refine Ops.pv (pv_cap_slice (T := 131) rfl rfl) rfl ?_
 refine Om1 rfl rfl ?_
 refine Ops.pv (pv_len_slice (T := 131) rfl rfl) rfl ?_
 refine Ops.pv (pv_sub rfl rfl (w64 (i := (0 : Int) - 0) (by omega) (by omega))) rfl ?_
 refine Ops.pv (pv_sub rfl rfl (w64n (k := n) (by omega) (by omega))) rfl ?_
 refine Oa1 rfl rfl ?_
 refine On ?_
 refine Wr ?_
 refine Om1 rfl rfl ?_
 refine Ops.pv (pv_gtr rfl rfl) rfl ?_
 refine On ?_
 refine Wp.cond_dect rfl (fun h1 => ?_) (fun h1 => ?_)
 ·
  refine Wp.region ?_
  refine Om1 rfl rfl ?_
  refine Om1 rfl rfl ?_
  refine Ops.pv (pv_cap_slice (T := 131) rfl rfl) rfl ?_
  refine Ops.pv (pv_sliceTo rfl ⟨_, rfl⟩ (Nat.le_refl 0)) rfl ?_
  refine Om1 rfl rfl ?_
  refine Ops.ef rfl (ef_appendZ (sz := 1) (k := n) rfl rfl (by omega) (by omega) (by omega) rfl rfl (by decide)) ?_
  rintro _ _ ⟨b1, c1, cs1, hc1, hk1, rfl, rfl⟩
  refine Om1 rfl rfl ?_
  refine Ops.pv (pv_len_slice (T := 131) rfl rfl) rfl ?_
  refine Ops.pv (pv_sliceTo (j := 0) rfl ⟨_, rfl⟩ (Nat.zero_le _)) rfl ?_
  refine Oa1 rfl rfl ?_
  refine On ?_
  refine Wr ?_
  refine Om1 rfl rfl ?_
  refine Oa1 rfl rfl ?_
  refine On ?_
  refine Wp.ret ?_
  exact Ends.ret (L' := [(b1, .cells (cs1 : List Value).toArray 130)]) (res1 rfl rfl) ⟨rfl, .inr ⟨b1, [], cs1, c1, rfl, Nat.zero_le _, by omega, by simp⟩⟩
 refine Wp.skip ?_
 refine Ends.seq ?_
 refine Wr ?_
 refine Om1 rfl rfl ?_
 refine Oa1 rfl rfl ?_
 refine On ?_
 refine Wp.ret ?_
 exact Ends.ret (L' := []) (res1 rfl rfl) (Slc.nil _ _)
theorem tr_concat (G : Hp) (bx cx : Nat) (ss : List SP) (hv : ∀ s, s ∈ ss → View G 1 s.v s.l.length (ptsC s.l)) (hl : (catP ss).length ≤ 2 ^ 40) (hs : ss.length ≤ 2 ^ 40) : Tr Tryz.prog 103 [.slice (some ⟨bx, 0, none⟩) ss.length cx] ((bx, .cells (ss.map SP.v).toArray 131) :: G) (fun v L' => ∃ H, Slc 130 1 v (catP ss).length (ptsC (catP ss)) H ∧ L' = H ++ ((bx, .cells (ss.map SP.v).toArray 131) :: G)) := by
 refine Tr.enter Tryz.func103 rfl Tryz.ntmps103 rfl (fun W F => ?_)
 refine Wp.app ?_
 refine Wr ?_
 refine Oa1 rfl rfl ?_
 refine On ?_
 refine Wr ?_
 refine Oa1 rfl rfl ?_
 refine On ?_
 refine Wp.seq ?_
 refine Wr ?_
 refine Om1 rfl rfl ?_
 refine Ops.pv (pv_len_slice (T := 151) rfl rfl) rfl ?_
 refine Om1 rfl rfl ?_
 refine On ?_
 refine Wp.block ?_
 refine Wp.loop (σ := Nat) (fun i => [(0, .slice (some ⟨bx, 0, none⟩) ss.length cx), (2, .slice none 0 0), (3, .int .i64 (catPto ss i).length), (9, .slice (some ⟨bx, 0, none⟩) ss.length cx), (10, .int .i64 ss.length), (11, .int .i64 i)]) (fun _ => (bx, .cells (ss.map SP.v).toArray 131) :: (G ++ F)) (fun i => i ≤ ss.length) (fun i => ss.length - i) 0 (Nat.zero_le _) (by exact ⟨rfl, rfl, rfl, rfl, rfl, rfl, trivial⟩) (by intro w ho; exact ho) ?_
 intro i K hi hK
 refine Wr ?_
 refine Ops.pv (pv_lss rfl rfl) rfl ?_
 refine On ?_
 refine Wp.seq ?_
 refine Wp.cond_dect rfl (fun h1 => ?_) (fun h1 => ?_)
 ·
  obtain ⟨s, hsi⟩ : ∃ s, ss[i]? = some s := ⟨_, List.getElem?_eq_getElem (by omega)⟩
  have hcs := catPto_succ hsi
  have hcl := catPto_len ss (i + 1)
  have hcl2 : (catPto ss (i + 1)).length = (catPto ss i).length + s.l.length := by rw [hcs, List.length_append]
  refine Wp.skip ?_
  refine Ends.seq ?_
  refine Wp.seq ?_
  refine Wp.block ?_
  refine Wr ?_
  refine Ops.pv (pv_indexAddr (i := i) rfl rfl rfl (by omega)) rfl ?_
  refine Ops.pv (pv_load rfl rfl (sp_nth hsi)) rfl ?_
  refine Oa1 rfl rfl ?_
  refine On ?_
  refine Wr ?_
  refine Om1 rfl rfl ?_
  refine Om1 rfl rfl ?_
  refine Ops.pv (pv_len_slice (T := 131) rfl rfl) rfl ?_
  refine Ops.pv (pv_add rfl rfl (w64n (k := (catPto ss (i + 1)).length) (by omega) (by omega))) rfl ?_
  refine Oa1 rfl rfl ?_
  refine On ?_
  refine Wr ?_
  refine Om1 rfl rfl ?_
  refine Ops.pv ((pv_lss rfl rfl).fls (by omega)) rfl ?_
  refine On ?_
  refine Wp.cond_false rfl ?_
  refine Wp.skip ?_
  refine Ends.block_normal ?_
  refine Ends.seq ?_
  refine Wp.region ?_
  refine Ops.pv (pv_add rfl rfl (w64 (by omega) (by omega))) rfl ?_
  refine Om1 rfl rfl ?_
  refine Ops.nil ?_
  refine Ends.goes ?_
  refine Goes.back (hK (i + 1) (by omega) (by omega)) ⟨rfl, rfl, rfl, rfl, rfl, rfl, trivial⟩
 obtain rfl : i = ss.length := by omega
 have hcall := catPto_all ss
 refine Wp.exit ?_
 refine Ends.then_exit ?_
 refine Ends.then_exit ?_
 refine Ends.block_hit ?_
 refine Ends.seq ?_
 refine Wr ?_
 refine Om1 rfl rfl ?_
 rw [hcall]
 refine Ops.ef rfl (ef_call (tr_grow (catP ss).length hl) rfl rfl) ?_
 rintro _ _ ⟨_, _, hg1, rfl, rfl⟩
 refine Ops.app ?_
 skip
 refine Oa1 rfl rfl ?_
 refine On ?_
 refine Wp.seq ?_
 refine Wr ?_
 refine Om1 rfl rfl ?_
 refine Ops.pv (pv_len_slice (T := 151) rfl rfl) rfl ?_
 refine Om1 rfl rfl ?_
 refine On ?_
 refine Wp.block ?_
 refine Wp.loop (σ := Nat × Value × Hp) (fun x => [(2, .slice none 0 0), (6, x.2.1), (25, .slice (some ⟨bx, 0, none⟩) ss.length cx), (26, .int .i64 ss.length), (27, .int .i64 x.1)]) (fun x => x.2.2 ++ ((bx, .cells (ss.map SP.v).toArray 131) :: (G ++ F))) (fun x => x.1 ≤ ss.length ∧ Slc 130 1 x.2.1 (catPto ss x.1).length (ptsC (catPto ss x.1)) x.2.2) (fun x => ss.length - x.1) (0, _, _) ⟨Nat.zero_le _, hg1⟩ (by exact ⟨rfl, rfl, rfl, rfl, rfl, trivial⟩) (by intro w ho; exact ho) ?_
 rintro ⟨i, v, H⟩ K ⟨hi, hs2⟩ hK
 dsimp only at hi hs2 hK ⊢
 refine Wr ?_
 refine Ops.pv (pv_lss rfl rfl) rfl ?_
 refine On ?_
 refine Wp.seq ?_
 refine Wp.cond_dect rfl (fun h2 => ?_) (fun h2 => ?_)
 ·
  obtain ⟨s, hsi⟩ : ∃ s, ss[i]? = some s := ⟨_, List.getElem?_eq_getElem (by omega)⟩
  have hcs := catPto_succ hsi
  have hcl := catPto_len ss (i + 1)
  have hcl2 : (catPto ss (i + 1)).length = (catPto ss i).length + s.l.length := by rw [hcs, List.length_append]
  have hvs := hv s (List.mem_of_getElem? hsi)
  refine Wp.skip ?_
  refine Ends.seq ?_
  refine Wp.seq ?_
  refine Wp.block ?_
  refine Wr ?_
  refine Ops.pv (pv_indexAddr (i := i) rfl rfl rfl (by omega)) rfl ?_
  refine Ops.pv (pv_load rfl rfl (sp_nth hsi)) rfl ?_
  refine Oa1 rfl rfl ?_
  refine On ?_
  refine Wp.region ?_
  refine Om1 rfl rfl ?_
  refine Om1 rfl rfl ?_
  refine Ops.ef rfl (ef_appendV (H := H) rfl hs2 rfl (hvs.mono (by intro p hp; simp [hp])) (ptsC_one s.l) (by omega) (by omega) rfl rfl) ?_
  rintro _ _ ⟨v1, H1, hs1, rfl, rfl⟩
  refine Ops.app ?_
  skip
  refine Oa1 rfl rfl ?_
  refine Ops.nil ?_
  refine Ends.block_normal ?_
  refine Ends.seq ?_
  refine Wp.region ?_
  refine Ops.pv (pv_add rfl rfl (w64 (by omega) (by omega))) rfl ?_
  refine Om1 rfl rfl ?_
  refine Ops.nil ?_
  refine Ends.goes ?_
  refine Goes.back (hK (i + 1, v1, H1) ⟨by dsimp only; omega, ?_⟩ (by dsimp only; omega)) ⟨rfl, rfl, rfl, rfl, rfl, trivial⟩
  dsimp only; rw [hcs, List.length_append, ptsC_app]; exact hs1
 obtain rfl : i = ss.length := by omega
 refine Wp.exit ?_
 refine Ends.then_exit ?_
 refine Ends.then_exit ?_
 refine Ends.block_hit ?_
 refine Ends.seq ?_
 refine Wr ?_
 refine Om1 rfl rfl ?_
 refine Oa1 rfl rfl ?_
 refine On ?_
 refine Wp.ret ?_
 rw [catPto_all] at hs2
 exact Ends.ret (L' := H ++ ((bx, .cells (ss.map SP.v).toArray 131) :: G)) (res1 rfl rfl) ⟨H, hs2, rfl⟩
theorem tr_concat2 (G : Hp) (bx cx : Nat) (a1 a2 : Option Addr) (c1 c2 : Nat) (l1 l2 : List Nat) (hv1 : View G 1 (.slice a1 l1.length c1) l1.length (ptsC l1)) (hv2 : View G 1 (.slice a2 l2.length c2) l2.length (ptsC l2)) (hl : (l1 ++ l2).length ≤ 2 ^ 40) :
    Tr Tryz.prog 103 [.slice (some ⟨bx, 0, none⟩) 2 cx] ((bx, .cells [.slice a1 l1.length c1, .slice a2 l2.length c2].toArray 131) :: G) (fun v L' => ∃ H, Slc 130 1 v (l1 ++ l2).length (ptsC (l1 ++ l2)) H ∧ L' = H ++ ((bx, .cells [.slice a1 l1.length c1, .slice a2 l2.length c2].toArray 131) :: G)) := by
  have e : catP [⟨a1, c1, l1⟩, ⟨a2, c2, l2⟩] = l1 ++ l2 := by simp [catP]
  have h := tr_concat G bx cx [⟨a1, c1, l1⟩, ⟨a2, c2, l2⟩] (by intro s hs; simp only [List.mem_cons, List.not_mem_nil, or_false] at hs; rcases hs with rfl | rfl <;> assumption) (by rw [e]; exact hl) (by simp)
  rw [e] at h
  exact h
theorem tr_concat3 (G : Hp) (bx cx : Nat) (a1 a2 a3 : Option Addr) (c1 c2 c3 : Nat) (l1 l2 l3 : List Nat) (hv1 : View G 1 (.slice a1 l1.length c1) l1.length (ptsC l1)) (hv2 : View G 1 (.slice a2 l2.length c2) l2.length (ptsC l2)) (hv3 : View G 1 (.slice a3 l3.length c3) l3.length (ptsC l3)) (hl : (l1 ++ l2 ++ l3).length ≤ 2 ^ 40) :
    Tr Tryz.prog 103 [.slice (some ⟨bx, 0, none⟩) 3 cx] ((bx, .cells [.slice a1 l1.length c1, .slice a2 l2.length c2, .slice a3 l3.length c3].toArray 131) :: G) (fun v L' => ∃ H, Slc 130 1 v (l1 ++ l2 ++ l3).length (ptsC (l1 ++ l2 ++ l3)) H ∧ L' = H ++ ((bx, .cells [.slice a1 l1.length c1, .slice a2 l2.length c2, .slice a3 l3.length c3].toArray 131) :: G)) := by
  have e : catP [⟨a1, c1, l1⟩, ⟨a2, c2, l2⟩, ⟨a3, c3, l3⟩] = l1 ++ l2 ++ l3 := by simp [catP]
  have h := tr_concat G bx cx [⟨a1, c1, l1⟩, ⟨a2, c2, l2⟩, ⟨a3, c3, l3⟩] (by intro s hs; simp only [List.mem_cons, List.not_mem_nil, or_false] at hs; rcases hs with rfl | rfl | rfl <;> assumption) (by rw [e]; exact hl) (by simp)
  rw [e] at h
  exact h
end Go.Proofs.YtdodfnjmkpgdbaaGreat
end
