/- Layer 10 in plain Lean: a store and a forest of slots; what the acts answer and leave. No condition. -/
import Derived.Test.YtdodfnjmkpgdbaaM07t
import Derived.Test.YtdodfnjmkpgdbaaM09g
set_option linter.unusedVariables false
set_option linter.unusedSimpArgs false
set_option linter.unusedSectionVars false
namespace Go.Proofs.Ytdodfnjmkpgdbaa
open Go.SL

/-! ### The store, as a row of nodes -/
def insAt (l : List DN) (id : Int) : Nat := (l.takeWhile fun d => decide ((d.id : Int) < id)).length
def dadd (l : List DN) (id r : Int) : Int × List DN := (daddErr l id r, if daddErr l id r = 0 then l.take (insAt l id) ++ newN id.toNat r.toNat 0 :: l.drop (insAt l id) else l)
def ddrop (l : List DN) (id : Int) : Int × List DN :=
  match dfind l id with
  | none => (3, l)
  | some d => if d.caps.all (fun c => decide (c.kind = 0)) then (0, ddel l id) else (8, l)
theorem insAt_place {id : Int} : ∀ l : List DN, dPlace l id (insAt l id)
  | [] => ⟨Nat.le_refl _, fun j d hj => absurd hj (Nat.not_lt_zero j), fun d hd => by cases hd⟩
  | a :: l => by
    obtain ⟨h1, h2, h3⟩ := insAt_place (id := id) l
    by_cases e : (a.id : Int) < id
    · have he : insAt (a :: l) id = insAt l id + 1 := by unfold insAt; rw [List.takeWhile_cons_of_pos (by simpa using e), List.length_cons]
      rw [he]
      refine ⟨by simpa using h1, fun j d hj hd => ?_, fun d hd => h3 d (by simpa using hd)⟩
      cases j with
      | zero => simp at hd; subst hd; exact e
      | succ j => exact h2 j d (by omega) (by simpa using hd)
    · have he : insAt (a :: l) id = 0 := by unfold insAt; rw [List.takeWhile_cons_of_neg (by simpa using e)]; rfl
      rw [he]
      exact ⟨Nat.zero_le _, fun j d hj => absurd hj (Nat.not_lt_zero j), fun d hd => by simp at hd; subst hd; exact e⟩
theorem dempty_all {d : DN} : dempty d ↔ d.caps.all (fun c => decide (c.kind = 0)) = true := by
  unfold dempty; rw [List.all_eq_true]
  exact ⟨fun h c hc => decide_eq_true (h c hc), fun h c hc => of_decide_eq_true (h c hc)⟩
/-- The program's store at sb is the row l. -/
def StF (l : List DN) (sb : Nat) (L : Hp) : Prop := ∃ S, Rel S l ∧ L = storeHp sb S

/-! ### Capabilities made of others -/
def maskM (a b : Int) : Int := if rightsOk a = true ∧ rightsOk b = true then bitsI .and .i64 a b else 0
def derive (c : CapM) (r badge g n : Int) : CapM × Int :=
  if checkM c ≠ 0 then (CapM.zero, checkM c)
  else if c.kind = 0 then (CapM.zero, 3)
  else if c.kind = 1 ∨ c.kind = 10 ∨ c.kind = 11 then (CapM.zero, 2)
  else if rightsOk r = false then (CapM.zero, 5)
  else if c.kind = 6 then ({ c with rights := maskM c.rights r }, 0)
  else if c.kind = 2 then (if fitsM g n = false then (CapM.zero, 10) else ({ c with guard := g, bits := n }, 0))
  else if c.kind = 4 ∨ c.kind = 5 then
    (if badge ≠ 0 ∧ c.badge ≠ 0 then (CapM.zero, 8)
     else if (if badge ≠ 0 then badge else c.badge).fdiv (2 ^ 28) ≠ 0 then (CapM.zero, 10)
     else ({ c with rights := maskM c.rights r, badge := if badge ≠ 0 then badge else c.badge }, 0))
  else (c, 0)

/-! ### What the acts answer, and leave -/
structure PS where
  l : List DN
  F : FoS
def mSource (p : PS) (s : SlotM) : CapM × Int := if (dget p.l s).2 = 0 ∧ (dget p.l s).1.kind = 0 then ((dget p.l s).1, 3) else dget p.l s
def mPlace (p : PS) (s : SlotM) : Int := if (dget p.l s).2 = 0 ∧ (dget p.l s).1.kind ≠ 0 then 4 else (dget p.l s).2
def mBoth (p : PS) (s d : SlotM) : CapM × Int := ((mSource p s).1, if (mSource p s).2 = 0 then mPlace p d else (mSource p s).2)
def mNode (p : PS) (id r : Int) : Int × PS := ((dadd p.l id r).1, ⟨(dadd p.l id r).2, p.F⟩)
def mClear (p : PS) (id : Int) : Int × PS := ((ddrop p.l id).1, ⟨(ddrop p.l id).2, p.F⟩)
def mPlant (p : PS) (s : SlotM) (c : CapM) : Int × PS := ((dput p.l s c).1, ⟨(dput p.l s c).2, if (dput p.l s c).1 = 0 then (ftRoot p.F s).2 else p.F⟩)
def mChild (p : PS) (o s : SlotM) (c : CapM) : Int × PS :=
  if (mBoth p o s).2 ≠ 0 then ((mBoth p o s).2, p) else ((dput p.l s c).1, ⟨(dput p.l s c).2, if (dput p.l s c).1 = 0 then (ftChild p.F o s).2 else p.F⟩)
def mMint (p : PS) (s d : SlotM) (r b g n : Int) : Int × PS :=
  if (mBoth p s d).2 ≠ 0 then ((mBoth p s d).2, p) else if (derive (mBoth p s d).1 r b g n).2 ≠ 0 then ((derive (mBoth p s d).1 r b g n).2, p) else mChild p s d (derive (mBoth p s d).1 r b g n).1
def mCopy (p : PS) (s d : SlotM) (r : Int) : Int × PS := mMint p s d r 0 (dget p.l s).1.guard (dget p.l s).1.bits
def mCarry (p : PS) (s d : SlotM) (c : CapM) : PS := ⟨(dput (dtake p.l s).2.2 d c).2, (ftMove p.F s d).2⟩
def mMove (p : PS) (s d : SlotM) : Int × PS := ((mBoth p s d).2, if (mBoth p s d).2 = 0 then mCarry p s d (mBoth p s d).1 else p)
def mMutate (p : PS) (s d : SlotM) (g n : Int) : Int × PS :=
  if (mBoth p s d).2 ≠ 0 then ((mBoth p s d).2, p) else if (mBoth p s d).1.kind ≠ 2 then (2, p)
  else ((derive (mBoth p s d).1 0 0 g n).2, if (derive (mBoth p s d).1 0 0 g n).2 = 0 then mCarry p s d (derive (mBoth p s d).1 0 0 g n).1 else p)
def mRotF (F : FoS) (d v s : SlotM) : FoS := (ftMove (ftMove (ftMove F v (-1, 0)).2 s v).2 (-1, 0) d).2
def mRotL (l : List DN) (d v s : SlotM) (x y : CapM) : List DN := (dput (dput (dtake (dtake l v).2.2 s).2.2 d x).2 v y).2
def mRotE (p : PS) (d s : SlotM) : Int := if (mSource p s).2 = 0 ∧ d ≠ s then mPlace p d else (mSource p s).2
def mRotate (p : PS) (d v s : SlotM) : Int × PS :=
  if v = d ∨ v = s then (10, p) else if (mSource p v).2 ≠ 0 then ((mSource p v).2, p) else if mRotE p d s ≠ 0 then (mRotE p d s, p)
  else (0, ⟨mRotL p.l d v s (mSource p v).1 (mSource p s).1, mRotF p.F d v s⟩)
def mTake (p : PS) (s : SlotM) : CapM × Int × PS := ((dtake p.l s).1, (dtake p.l s).2.1, ⟨(dtake p.l s).2.2, if (dtake p.l s).2.1 = 0 then (ftDrop p.F s).2 else p.F⟩)

/-! ### In memory -/
abbrev cBlk (cb sb tb : Nat) : Nat × Obj := (cb, .cells [.pointer (some ⟨sb, 0, none⟩), .pointer (some ⟨tb, 0, none⟩)].toArray 35)
def CapsH (n : Nat) (p : PS) (cb : Nat) (L : Hp) : Prop := ∃ sb tb Ls Lt, StF p.l sb Ls ∧ TrF n p.F tb Lt ∧ L = cBlk cb sb tb :: (Ls ++ Lt)
def PS.new : PS := ⟨[], .nil⟩
end Go.Proofs.Ytdodfnjmkpgdbaa
