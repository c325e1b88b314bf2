/- Layer 10 in plain Lean, second part: what its laws ask first, and what is refused. No condition. -/
import Derived.Test.YtdodfnjmkpgdbaaM10
import Derived.Test.YtdodfnjmkpgdbaaM07o
import Derived.KernelRfl
set_option linter.unusedVariables false
set_option linter.unusedSimpArgs false
set_option linter.unusedSectionVars false
namespace Go.Proofs.Ytdodfnjmkpgdbaa
open Go.SL

/-! ### The states that 'works' goes through -/
def wc0 : CapM := ⟨4, 4, 7, 0, 0, 0⟩
def wk1 : PS := (mNode PS.new 0 3).2
def wk2 : PS := (mPlant wk1 (0, 0) wc0).2
def wk3 : PS := (mMint wk2 (0, 0) (0, 1) 1 7 0 0).2
def wk4 : PS := (mCopy wk3 (0, 1) (0, 2) 7).2
def wk5 : PS := (mMove wk4 (0, 0) (0, 3)).2
theorem wke1 : mNode PS.new 0 3 = (0, wk1) := by kernel_rfl
theorem wke2 : mPlant wk1 (0, 0) wc0 = (0, wk2) := by kernel_rfl
theorem wke3 : mMint wk2 (0, 0) (0, 1) 1 7 0 0 = (0, wk3) := by kernel_rfl
theorem wke4 : mCopy wk3 (0, 1) (0, 2) 7 = (0, wk4) := by kernel_rfl
theorem wke5 : mMove wk4 (0, 0) (0, 3) = (0, wk5) := by kernel_rfl
theorem wkd1 : (dadd PS.new.l 0 3).1 = 0 := by kernel_rfl
theorem wkk4 : ftKin wk4.F (0, 0) = [(0, 1), (0, 2)] := by kernel_rfl
theorem wkk5 : ftKin wk5.F (0, 3) = [(0, 1), (0, 2)] := by kernel_rfl
theorem wkg5 : dget wk5.l (0, 2) = (⟨4, 4, 1, 7, 0, 0⟩, 0) := by kernel_rfl
theorem wke6 : mCopy wk5 (0, 0) (0, 4) 7 = (3, wk5) := by kernel_rfl
theorem wke7 : mCopy wk5 (0, 1) (0, 2) 7 = (4, wk5) := by kernel_rfl
theorem wke8 : mRotate wk5 (0, 1) (0, 1) (0, 2) = (10, wk5) := by kernel_rfl

theorem sub_lenS : ∀ (f : FoS) (x : SlotM), (Fo.sub x f).all.length ≤ f.all.length
  | .nil, _ => Nat.le_refl _
  | .cons i c r, x => by
    simp only [Fo.sub, Fo.all, List.length_cons, List.length_append]
    split
    · omega
    · split
      · have := sub_lenS c x; omega
      · have := sub_lenS r x; omega

/-! ### What is refused -/
theorem dput_no {l : List DN} {s : SlotM} {c : CapM} (h : (dput l s c).1 ≠ 0) : (dput l s c).2 = l := by
  unfold dput at h ⊢
  split
  · rfl
  · rename_i hx
    rw [hx] at h
    dsimp only at h
    split
    · rfl
    · rename_i h1
      rw [if_neg h1] at h
      split
      · rfl
      · rename_i h2
        rw [if_neg h2] at h
        split
        · rfl
        · rename_i h3
          rw [if_neg h3] at h
          exact absurd rfl h
theorem mPlant_no {p : PS} {s : SlotM} {c : CapM} (h : (mPlant p s c).1 ≠ 0) : (mPlant p s c).2 = p := by
  unfold mPlant at h ⊢
  dsimp only at h ⊢
  rw [if_neg h, dput_no h]
theorem mChild_no {p : PS} {o s : SlotM} {c : CapM} (h : (mChild p o s c).1 ≠ 0) : (mChild p o s c).2 = p := by
  unfold mChild at h ⊢
  split
  · rfl
  · rename_i hb
    rw [if_neg hb] at h
    dsimp only at h ⊢
    rw [if_neg h, dput_no h]
theorem mMint_no {p : PS} {s d : SlotM} {r b g n : Int} (h : (mMint p s d r b g n).1 ≠ 0) : (mMint p s d r b g n).2 = p := by
  unfold mMint at h ⊢
  split
  · rfl
  · rename_i hb
    rw [if_neg hb] at h
    split
    · rfl
    · rename_i hd
      rw [if_neg hd] at h
      exact mChild_no h
theorem mCopy_no {p : PS} {s d : SlotM} {r : Int} (h : (mCopy p s d r).1 ≠ 0) : (mCopy p s d r).2 = p := mMint_no h
theorem mMove_no {p : PS} {s d : SlotM} (h : (mMove p s d).1 ≠ 0) : (mMove p s d).2 = p := by
  unfold mMove at h ⊢
  exact if_neg h
theorem mMutate_no {p : PS} {s d : SlotM} {g n : Int} (h : (mMutate p s d g n).1 ≠ 0) : (mMutate p s d g n).2 = p := by
  unfold mMutate at h ⊢
  split
  · rfl
  · rename_i hb
    rw [if_neg hb] at h
    split
    · rfl
    · rename_i hd
      rw [if_neg hd] at h
      exact if_neg h
theorem mRotate_no {p : PS} {d v s : SlotM} (h : (mRotate p d v s).1 ≠ 0) : (mRotate p d v s).2 = p := by
  unfold mRotate at h ⊢
  split
  · rfl
  · rename_i h1
    rw [if_neg h1] at h
    split
    · rfl
    · rename_i h2
      rw [if_neg h2] at h
      split
      · rfl
      · rename_i h3
        rw [if_neg h3] at h
        exact absurd rfl h

theorem StF.full_len {l : List DN} {sb : Nat} {L : Hp} (h : StF l sb L) : (dfull l).length ≤ 2 ^ 40 := by
  obtain ⟨S, hR, _⟩ := h
  have h1 := dfull_len (rel_small hR)
  have h2 := rel_len hR
  omega
theorem TrF.kin_len {n : Nat} {F : FoS} {tb : Nat} {L : Hp} (h : TrF n F tb L) (s : SlotM) (hn : n ≤ 2 ^ 20) : (ftKin F s).length ≤ 2 ^ 40 := by
  obtain ⟨T, G, hT, _, h2, rfl⟩ := h
  have h1 := hT.all_len
  have h3 : (ftKin (G.map T.sl) s).length ≤ (G.map T.sl).all.length := sub_lenS _ _
  rw [Fo.all_map, List.length_map] at h3
  omega
/-! ### The acts of its laws -/
structure OpC where
  kind : Int
  a : SlotM
  b : SlotM
  d : SlotM
  c : CapM
  n : Int
  rights : Int
  badge : Int
  guard : Int
  bits : Int
abbrev OpC.cells (o : OpC) : List Value := [.int .i64 o.kind, .int .i64 o.a.1, .int .i64 o.a.2, .int .i64 o.b.1, .int .i64 o.b.2, .int .i64 o.d.1, .int .i64 o.d.2, .int .i64 o.c.kind, .int .i64 o.c.object, .int .i64 o.c.rights, .int .u64 o.c.badge, .int .u64 o.c.guard, .int .i64 o.c.bits, .int .i64 o.n, .int .i64 o.rights, .int .u64 o.badge, .int .u64 o.guard, .int .i64 o.bits]
/-- What an act leaves that is no node's. -/
def actP (p : PS) (o : OpC) : Int × PS :=
  if o.kind = 2 then mPlant p o.a o.c else if o.kind = 3 then mChild p o.a o.b o.c else if o.kind = 4 then mCopy p o.a o.b o.rights
  else if o.kind = 5 then mMint p o.a o.b o.rights o.badge o.guard o.bits else if o.kind = 6 then mMove p o.a o.b else if o.kind = 7 then mMutate p o.a o.b o.guard o.bits
  else if o.kind = 8 then mRotate p o.a o.b o.d else (0, p)
theorem actP_no {p : PS} {o : OpC} (h : (actP p o).1 ≠ 0) : (actP p o).2 = p := by
  unfold actP at h ⊢
  repeat' split at h
  all_goals simp_all [mPlant_no, mChild_no, mCopy_no, mMint_no, mMove_no, mMutate_no, mRotate_no]
theorem as_opc {x : List Value} (h : FlatV [some .i64, some .i64, some .i64, some .i64, some .i64, some .i64, some .i64, some .i64, some .i64, some .i64, some .u64, some .u64, some .i64, some .i64, some .i64, some .u64, some .u64, some .i64] x) : ∃ o : OpC, x = o.cells ∧ True := by
  obtain ⟨a0, l, rfl, _, h⟩ := h.int
  obtain ⟨a1, l, rfl, _, h⟩ := h.int
  obtain ⟨a2, l, rfl, _, h⟩ := h.int
  obtain ⟨a3, l, rfl, _, h⟩ := h.int
  obtain ⟨a4, l, rfl, _, h⟩ := h.int
  obtain ⟨a5, l, rfl, _, h⟩ := h.int
  obtain ⟨a6, l, rfl, _, h⟩ := h.int
  obtain ⟨a7, l, rfl, _, h⟩ := h.int
  obtain ⟨a8, l, rfl, _, h⟩ := h.int
  obtain ⟨a9, l, rfl, _, h⟩ := h.int
  obtain ⟨a10, l, rfl, _, h⟩ := h.int
  obtain ⟨a11, l, rfl, _, h⟩ := h.int
  obtain ⟨a12, l, rfl, _, h⟩ := h.int
  obtain ⟨a13, l, rfl, _, h⟩ := h.int
  obtain ⟨a14, l, rfl, _, h⟩ := h.int
  obtain ⟨a15, l, rfl, _, h⟩ := h.int
  obtain ⟨a16, l, rfl, _, h⟩ := h.int
  obtain ⟨a17, l, rfl, _, h⟩ := h.int
  obtain rfl := h.nil
  exact ⟨⟨a0, (a1, a2), (a3, a4), (a5, a6), ⟨a7, a8, a9, a10, a11, a12⟩, a13, a14, a15, a16, a17⟩, rfl, trivial⟩
theorem as_opcs {els : List (List Value)} (h : ∀ x, x ∈ els → FlatV [some .i64, some .i64, some .i64, some .i64, some .i64, some .i64, some .i64, some .i64, some .i64, some .i64, some .u64, some .u64, some .i64, some .i64, some .i64, some .u64, some .u64, some .i64] x) : ∃ l : List OpC, els = l.map OpC.cells ∧ ∀ o, o ∈ l → (fun _ => True) o :=
  map_of fun x hx => as_opc (h x hx)
end Go.Proofs.Ytdodfnjmkpgdbaa
