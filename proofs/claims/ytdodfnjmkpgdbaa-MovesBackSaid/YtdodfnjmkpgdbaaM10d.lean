/- Layer 10 in plain Lean, third part: the states that MovesBack goes through. No condition. -/
import Derived.Test.YtdodfnjmkpgdbaaM10b
set_option linter.unusedVariables false
set_option linter.unusedSimpArgs false
set_option linter.unusedSectionVars false
namespace Go.Proofs.Ytdodfnjmkpgdbaa
open Go.SL

/-- One node of eight slots. -/
def L8 (c : List CapM) : List DN := [⟨0, 3, c, 0⟩]
abbrev zc : CapM := CapM.zero
section
variable {c : List CapM} {i : Int} {x z : CapM} (h0 : 0 ≤ i) (hx : c[i.toNat]? = some x)
include h0 hx
theorem l8_dcap : dcap? (L8 c) (0, i) = some x := by
  have hl := (List.getElem?_eq_some_iff.1 hx).1
  have h1 : 0 ≤ i ∧ i < c.length := ⟨h0, by omega⟩
  have e : dfind (L8 c) (0, i).1 = some ⟨0, 3, c, 0⟩ := by unfold dfind L8; simp
  unfold dcap?
  rw [e]
  dsimp only
  rw [if_pos h1]; exact hx
theorem l8_dget : dget (L8 c) (0, i) = (x, 0) := by unfold dget; rw [l8_dcap h0 hx]
theorem l8_dset : dsetC (L8 c) (0, i) z = L8 (c.set i.toNat z) := by
  have e : dfind (L8 c) (0, i).1 = some ⟨0, 3, c, 0⟩ := by unfold dfind L8; simp
  rw [dsetC_eq (i := 0) e (by unfold L8 dIds; simp [idxM])]
  rfl
theorem l8_dput (hk : x.kind = 0) (hz : checkM z = 0) (hzk : z.kind ≠ 0) : dput (L8 c) (0, i) z = (0, L8 (c.set i.toNat z)) := by
  unfold dput
  rw [l8_dcap h0 hx]
  dsimp only
  rw [if_neg (by simp [hz]), if_neg hzk, if_neg (by simp [hk]), l8_dset h0 hx]
theorem l8_dputE (hk : x.kind = 0) (h : (dput (L8 c) (0, i) z).1 = 0) : checkM z = 0 ∧ z.kind ≠ 0 := by
  unfold dput at h
  rw [l8_dcap h0 hx] at h
  dsimp only at h
  split at h
  · rename_i h1; exact absurd h h1
  · rename_i h1
    split at h
    · cases h
    · rename_i h2; exact ⟨by simpa using h1, h2⟩
theorem l8_dtake (hk : x.kind ≠ 0) : dtake (L8 c) (0, i) = (x, 0, L8 (c.set i.toNat CapM.zero)) := by
  unfold dtake
  rw [l8_dcap h0 hx]
  dsimp only
  rw [if_neg hk, l8_dset h0 hx]
end
/-- Slots 0, 1, 2, 5, 6 hold these. -/
def q8 (a b w f g : CapM) (F : FoS) : PS := ⟨L8 [a, b, w, zc, zc, f, g, zc], F⟩
section
variable {a b w f g x y : CapM} {F K : FoS}
theorem q8_new : (mNode PS.new 0 3).2 = q8 zc zc zc zc zc .nil := by kernel_rfl
theorem q8_get0 : dget (q8 a b w f g F).l (0, 0) = (a, 0) := l8_dget (by decide) rfl
theorem q8_get1 : dget (q8 a b w f g F).l (0, 1) = (b, 0) := l8_dget (by decide) rfl
theorem q8_get2 : dget (q8 a b w f g F).l (0, 2) = (w, 0) := l8_dget (by decide) rfl
theorem q8_get5 : dget (q8 a b w f g F).l (0, 5) = (f, 0) := l8_dget (by decide) rfl
theorem q8_get6 : dget (q8 a b w f g F).l (0, 6) = (g, 0) := l8_dget (by decide) rfl
theorem src_of {p : PS} {s : SlotM} (h : dget p.l s = (x, 0)) (hk : x.kind ≠ 0) : mSource p s = (x, 0) := by unfold mSource; rw [h, if_neg (fun e => hk e.2)]
theorem plc_of {p : PS} {s : SlotM} (h : dget p.l s = (x, 0)) (hk : x.kind = 0) : mPlace p s = 0 := by unfold mPlace; rw [h, if_neg (fun e => e.2 hk)]
theorem both_of {p : PS} {s d : SlotM} (h : dget p.l s = (x, 0)) (hk : x.kind ≠ 0) (h2 : dget p.l d = (y, 0)) (hk2 : y.kind = 0) : mBoth p s d = (x, 0) := by
  unfold mBoth; rw [src_of h hk, plc_of h2 hk2]; rfl
theorem mb_plant1 (h : (mPlant (q8 zc zc zc zc zc .nil) (0, 0) x).1 = 0) : checkM x = 0 ∧ x.kind ≠ 0 ∧ mPlant (q8 zc zc zc zc zc .nil) (0, 0) x = (0, q8 x zc zc zc zc (.one (0, 0))) := by
  have h1 := l8_dputE (c := [zc, zc, zc, zc, zc, zc, zc, zc]) (i := 0) (x := zc) (by decide) rfl rfl h
  refine ⟨h1.1, h1.2, ?_⟩
  have e := l8_dput (c := [zc, zc, zc, zc, zc, zc, zc, zc]) (i := 0) (x := zc) (by decide) rfl rfl h1.1 h1.2
  unfold mPlant q8
  rw [e]; rfl
theorem mb_plant2 (h : (mPlant (q8 x zc zc zc zc (.one (0, 0))) (0, 1) y).1 = 0) : checkM y = 0 ∧ y.kind ≠ 0 ∧ mPlant (q8 x zc zc zc zc (.one (0, 0))) (0, 1) y = (0, q8 x y zc zc zc (.cons (0, 0) .nil (.one (0, 1)))) := by
  have h1 := l8_dputE (c := [x, zc, zc, zc, zc, zc, zc, zc]) (i := 1) (x := zc) (by decide) rfl rfl h
  refine ⟨h1.1, h1.2, ?_⟩
  have e := l8_dput (c := [x, zc, zc, zc, zc, zc, zc, zc]) (i := 1) (x := zc) (by decide) rfl rfl h1.1 h1.2
  unfold mPlant q8
  rw [e]; rfl
/-- What a copy into slot 2 leaves. -/
theorem mb_copy (hx : x.kind ≠ 0) (r : Int) : ∃ w K, (K = .nil ∨ K = .one (0, 2)) ∧ (mCopy (q8 x y zc zc zc (.cons (0, 0) .nil (.one (0, 1)))) (0, 0) (0, 2) r).2 = q8 x y w zc zc (.cons (0, 0) K (.one (0, 1))) := by
  by_cases h : (mCopy (q8 x y zc zc zc (.cons (0, 0) .nil (.one (0, 1)))) (0, 0) (0, 2) r).1 = 0
  · have hb : mBoth (q8 x y zc zc zc (.cons (0, 0) .nil (.one (0, 1)))) (0, 0) (0, 2) = (x, 0) := both_of q8_get0 hx q8_get2 rfl
    have hg : (dget (q8 x y zc zc zc (.cons (0, 0) .nil (.one (0, 1)))).l (0, 0)) = (x, 0) := q8_get0
    unfold mCopy mMint at h ⊢
    rw [hg, hb] at h ⊢
    dsimp only at h ⊢
    rw [if_neg (by simp)] at h ⊢
    by_cases hd : (derive x r 0 x.guard x.bits).2 ≠ 0
    · rw [if_pos hd] at h; exact absurd h hd
    · rw [if_neg hd] at h ⊢
      unfold mChild at h ⊢
      rw [hb] at h ⊢
      rw [if_neg (by simp)] at h ⊢
      dsimp only at h ⊢
      have h1 := l8_dputE (c := [x, y, zc, zc, zc, zc, zc, zc]) (i := 2) (x := zc) (by decide) rfl rfl h
      have e := l8_dput (c := [x, y, zc, zc, zc, zc, zc, zc]) (i := 2) (x := zc) (by decide) rfl rfl h1.1 h1.2
      refine ⟨(derive x r 0 x.guard x.bits).1, .one (0, 2), .inr rfl, ?_⟩
      unfold q8
      rw [e]; rfl
  · exact ⟨zc, .nil, .inl rfl, mCopy_no h⟩
theorem mb_kin (s : SlotM) : ftKin (.cons s K F) s = K.all := by unfold ftKin Fo.sub; rw [if_pos rfl]
variable (hx : x.kind ≠ 0) (hcx : checkM x = 0) (hK : K = .nil ∨ K = .one (0, 2))
include hx hcx hK
theorem mb_move1 : mMove (q8 x y w zc zc (.cons (0, 0) K (.one (0, 1)))) (0, 0) (0, 5) = (0, q8 zc y w x zc (.cons (0, 5) K (.one (0, 1)))) := by
  have hb : mBoth (q8 x y w zc zc (.cons (0, 0) K (.one (0, 1)))) (0, 0) (0, 5) = (x, 0) := both_of q8_get0 hx q8_get5 rfl
  unfold mMove mCarry
  rw [hb]
  dsimp only
  have e1 := l8_dtake (c := [x, y, w, zc, zc, zc, zc, zc]) (i := 0) (x := x) (by decide) rfl hx
  have e2 := l8_dput (c := [zc, y, w, zc, zc, zc, zc, zc]) (i := 5) (x := zc) (by decide) rfl rfl hcx hx
  unfold q8
  rw [if_pos rfl, e1]
  show (0, (⟨(dput (L8 [zc, y, w, zc, zc, zc, zc, zc]) (0, 5) x).2, _⟩ : PS)) = _
  rw [e2]
  rcases hK with rfl | rfl <;> rfl
theorem mb_move2 : mMove (q8 zc y w x zc (.cons (0, 5) K (.one (0, 1)))) (0, 5) (0, 0) = (0, q8 x y w zc zc (.cons (0, 0) K (.one (0, 1)))) := by
  have hb : mBoth (q8 zc y w x zc (.cons (0, 5) K (.one (0, 1)))) (0, 5) (0, 0) = (x, 0) := both_of q8_get5 hx q8_get0 rfl
  unfold mMove mCarry
  rw [hb]
  dsimp only
  have e1 := l8_dtake (c := [zc, y, w, zc, zc, x, zc, zc]) (i := 5) (x := x) (by decide) rfl hx
  have e2 := l8_dput (c := [zc, y, w, zc, zc, zc, zc, zc]) (i := 0) (x := zc) (by decide) rfl rfl hcx hx
  unfold q8
  rw [if_pos rfl, e1]
  show (0, (⟨(dput (L8 [zc, y, w, zc, zc, zc, zc, zc]) (0, 0) x).2, _⟩ : PS)) = _
  rw [e2]
  rcases hK with rfl | rfl <;> rfl
variable (hy : y.kind ≠ 0) (hcy : checkM y = 0)
include hy hcy
theorem mb_rot1 : mRotate (q8 x y w zc zc (.cons (0, 0) K (.one (0, 1)))) (0, 0) (0, 1) (0, 0) = (0, q8 y x w zc zc (.cons (0, 1) K (.one (0, 0)))) := by
  have s1 : mSource (q8 x y w zc zc (.cons (0, 0) K (.one (0, 1)))) (0, 1) = (y, 0) := src_of q8_get1 hy
  have s0 : mSource (q8 x y w zc zc (.cons (0, 0) K (.one (0, 1)))) (0, 0) = (x, 0) := src_of q8_get0 hx
  unfold mRotate mRotE
  rw [s1, s0, if_neg (by decide), if_neg (by simp), if_neg (by simp)]
  have e1 := l8_dtake (c := [x, y, w, zc, zc, zc, zc, zc]) (i := 1) (x := y) (by decide) rfl hy
  have e2 := l8_dtake (c := [x, zc, w, zc, zc, zc, zc, zc]) (i := 0) (x := x) (by decide) rfl hx
  have e3 := l8_dput (c := [zc, zc, w, zc, zc, zc, zc, zc]) (i := 0) (x := zc) (by decide) rfl rfl hcy hy
  have e4 := l8_dput (c := [y, zc, w, zc, zc, zc, zc, zc]) (i := 1) (x := zc) (by decide) rfl rfl hcx hx
  unfold mRotL q8
  dsimp only
  rw [e1]
  show (0, (⟨(dput (dput (dtake (L8 [x, zc, w, zc, zc, zc, zc, zc]) (0, 0)).2.2 (0, 0) y).2 (0, 1) x).2, _⟩ : PS)) = _
  rw [e2]
  show (0, (⟨(dput (dput (L8 [zc, zc, w, zc, zc, zc, zc, zc]) (0, 0) y).2 (0, 1) x).2, _⟩ : PS)) = _
  rw [e3]
  show (0, (⟨(dput (L8 [y, zc, w, zc, zc, zc, zc, zc]) (0, 1) x).2, _⟩ : PS)) = _
  rw [e4]
  rcases hK with rfl | rfl <;> rfl
theorem mb_rot2 : mRotate (q8 y x w zc zc (.cons (0, 1) K (.one (0, 0)))) (0, 6) (0, 0) (0, 1) = (0, q8 x zc w zc y (.cons (0, 0) K (.one (0, 6)))) := by
  have s0 : mSource (q8 y x w zc zc (.cons (0, 1) K (.one (0, 0)))) (0, 0) = (y, 0) := src_of q8_get0 hy
  have s1 : mSource (q8 y x w zc zc (.cons (0, 1) K (.one (0, 0)))) (0, 1) = (x, 0) := src_of q8_get1 hx
  have p6 : mPlace (q8 y x w zc zc (.cons (0, 1) K (.one (0, 0)))) (0, 6) = 0 := plc_of q8_get6 rfl
  unfold mRotate mRotE
  rw [s1, s0, p6, if_neg (by decide), if_neg (by simp), if_neg (by simp)]
  have e1 := l8_dtake (c := [y, x, w, zc, zc, zc, zc, zc]) (i := 0) (x := y) (by decide) rfl hy
  have e2 := l8_dtake (c := [zc, x, w, zc, zc, zc, zc, zc]) (i := 1) (x := x) (by decide) rfl hx
  have e3 := l8_dput (c := [zc, zc, w, zc, zc, zc, zc, zc]) (i := 6) (x := zc) (by decide) rfl rfl hcy hy
  have e4 := l8_dput (c := [zc, zc, w, zc, zc, zc, y, zc]) (i := 0) (x := zc) (by decide) rfl rfl hcx hx
  unfold mRotL q8
  dsimp only
  rw [e1]
  show (0, (⟨(dput (dput (dtake (L8 [zc, x, w, zc, zc, zc, zc, zc]) (0, 1)).2.2 (0, 6) y).2 (0, 0) x).2, _⟩ : PS)) = _
  rw [e2]
  show (0, (⟨(dput (dput (L8 [zc, zc, w, zc, zc, zc, zc, zc]) (0, 6) y).2 (0, 0) x).2, _⟩ : PS)) = _
  rw [e3]
  show (0, (⟨(dput (L8 [zc, zc, w, zc, zc, zc, y, zc]) (0, 0) x).2, _⟩ : PS)) = _
  rw [e4]
  rcases hK with rfl | rfl <;> rfl
end
theorem as_cap {cs : Array Value} (h : FlatV [some .i64, some .i64, some .i64, some .u64, some .u64, some .i64] cs.toList) : ∃ c : CapM, cs = c.cells.toArray ∧ (fun _ => True) c := by
  obtain ⟨cs⟩ := cs
  dsimp only at h
  obtain ⟨a0, l, rfl, _, h⟩ := h.int
  obtain ⟨a1, l, rfl, _, h⟩ := h.int
  obtain ⟨a2, l, rfl, _, h⟩ := h.int
  obtain ⟨a3, l, rfl, _, h⟩ := h.int
  obtain ⟨a4, l, rfl, _, h⟩ := h.int
  obtain ⟨a5, l, rfl, _, h⟩ := h.int
  obtain rfl := h.nil
  exact ⟨⟨a0, a1, a2, a3, a4, a5⟩, rfl, trivial⟩
end Go.Proofs.Ytdodfnjmkpgdbaa
