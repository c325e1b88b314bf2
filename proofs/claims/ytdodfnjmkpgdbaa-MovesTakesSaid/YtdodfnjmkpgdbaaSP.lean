/- The engine, more: pointers compared, blocks that differ. It holds for every program; no condition. -/
import Derived.Test.YtdodfnjmkpgdbaaSY
import Derived.LaidEql
set_option linter.unusedVariables false
set_option linter.unusedSimpArgs false
namespace Go.SL

/-- A block of plain cells. -/
def isC (L : Hp) (b : Nat) : Prop := ∃ c T, (b, Obj.cells c T (0, 0)) ∈ L
theorem isC.mono {L M : Hp} {b : Nat} (h : isC L b) (hm : ∀ p, p ∈ L → p ∈ M) : isC M b := by
  obtain ⟨c, T, h⟩ := h; exact ⟨c, T, hm _ h⟩
section ptrs
variable {P : Program} {n : Nat} {D : List Deferred} {E : Env} {L : Hp} {d : Option Tmp} {ty : TypeId} {pos : String} {aft : Array Edge} {g : Option (Nat × Bool)} {T : TypeId} {x y : Operand}
theorem run_eql_ptr {e k b1 b2 : Nat} {w : World} [h : TyD P T (.pointer e)] [hk : TyS P e k] (hk0 : k ≠ 0) (h1 : isC L b1) (h2 : isC L b2) (hh : Held L w) :
    (Op.equal T (.pointer (some ⟨b1, 0, none⟩)) (.pointer (some ⟨b2, 0, none⟩))).run P w = .ok (decide (b1 = b2)) w := by
  obtain ⟨c1, T1, h1⟩ := h1
  obtain ⟨c2, T2, h2⟩ := h2
  have e1 := hh _ h1
  have e2 := hh _ h2
  have key : ∀ d, (Op.equalIn (d + 1) T (.pointer (some ⟨b1, 0, none⟩)) (.pointer (some ⟨b2, 0, none⟩))).run P w = .ok (decide (b1 = b2)) w := fun d => by
    by_cases hb : b1 = b2
    · subst hb
      simp [Op.equalIn, TyD.run, TyS.run, hk0, run_sameAddr_same]
    · have hne : (⟨b1, 0, none⟩ : Addr) ≠ ⟨b2, 0, none⟩ := by intro e; cases e; exact hb rfl
      simp [Op.equalIn, TyD.run, TyS.run, hk0, run_sameAddr_other w hne e1 e2, hb]
  exact key 9999
theorem pv_eql_ptr {b1 b2 e k : Nat} {yt : TypeId} (hx : ev E x = some (.pointer (some ⟨b1, 0, none⟩))) (hy : ev E y = some (.pointer (some ⟨b2, 0, none⟩))) (h1 : isC L b1) (h2 : isC L b2) [h : TyD P T (.pointer e)] [hk : TyS P e k] (hk0 : k ≠ 0) :
    Pv P n D E L ⟨d, .binOp .eql T x y yt, ty, pos, aft, g⟩ (.bool (decide (b1 = b2))) := by
  unfold Pv
  intro a w hs hh
  simp [execOp, hs.ev hx, hs.ev hy, eqGuard, binOp, run_eql_ptr hk0 h1 h2 hh]
end ptrs
section nd
variable {P : Program} {W : World} {ops : Array Oper} {Q : Exit → Act → World → Prop} {n : Nat} {D : List Deferred} {E : Env} {L : Hp} {rest : List Oper}
theorem Ops.nd (h : (L.map Prod.fst).Nodup → Ops P W ops Q n D rest E L) : Ops P W ops Q n D rest E L := by
  unfold Ops at h ⊢
  exact fun a w hs ho => h ho.nd a w hs ho
theorem Wp.nd {c : Code} (h : (L.map Prod.fst).Nodup → Wp P W Q n D c E L) : Wp P W Q n D c E L := by
  unfold Wp at h ⊢
  exact fun a w hs ho => h ho.nd a w hs ho
theorem Ends.nd {e : Exit} (h : (L.map Prod.fst).Nodup → Ends W Q n D e E L) : Ends W Q n D e E L := by
  unfold Ends at h ⊢
  exact fun a w hs ho => h ho.nd a w hs ho
theorem Ops.ndD (M : Hp) [hd : Drop L M] (h : (M.map Prod.fst).Nodup → Ops P W ops Q n D rest E L) : Ops P W ops Q n D rest E L := by
  unfold Ops at h ⊢
  exact fun a w hs ho => h (hd.own ho).nd a w hs ho
end nd

/-! ### Slices of pointers -/
def ptrE (b : Nat) : List Value := [.pointer (some ⟨b, 0, none⟩)]
instance : Enc ptrE 1 := ⟨fun _ => rfl, fun _ => rfl⟩
abbrev ptsC (l : List Nat) : List Value := cel ptrE l
theorem ptsC_app (l m : List Nat) : ptsC (l ++ m) = ptsC l ++ ptsC m := cel_app l m
theorem ptsC_one (l : List Nat) : (ptsC l).all Value.oneCell' = true := cel_one l
theorem pts_nth {cc : List Value} {o i : Nat} {l : List Nat} {x : Nat} (hr : Reads cc o (ptsC l)) (h : l[i]? = some x) : nth cc (o + i * 1) = some (.pointer (some ⟨x, 0, none⟩)) := (cel_reads (f := ptrE) hr h).1
/-- A slice of pointers, as a value. -/
structure SP where
  a : Option Addr
  c : Nat
  l : List Nat
abbrev SP.v (s : SP) : Value := .slice s.a s.l.length s.c
def catP (ss : List SP) : List Nat := ss.flatMap SP.l
def catPto (ss : List SP) (i : Nat) : List Nat := catP (ss.take i)
theorem catPto_succ {ss : List SP} {i : Nat} {s : SP} (h : ss[i]? = some s) : catPto ss (i + 1) = catPto ss i ++ s.l := by
  unfold catPto catP
  rw [List.take_add_one, h, List.flatMap_append]; simp
theorem catPto_all (ss : List SP) : catPto ss ss.length = catP ss := by unfold catPto; rw [List.take_length]
theorem catPto_len (ss : List SP) : ∀ i, (catPto ss i).length ≤ (catP ss).length := fun i => by
  unfold catPto catP
  have : ss.flatMap SP.l = (ss.take i).flatMap SP.l ++ (ss.drop i).flatMap SP.l := by rw [← List.flatMap_append, List.take_append_drop]
  rw [this, List.length_append]; omega
theorem sp_nth {ss : List SP} {i : Nat} {s : SP} (h : ss[i]? = some s) : nth (ss.map SP.v) (0 + i * 1) = some s.v := by
  rw [nth_eq, Nat.zero_add, Nat.mul_one, List.getElem?_map, h]; rfl
/-- Where x stands; -1: nowhere. -/
def idxN : List Nat → Nat → Int
  | [], _ => -1
  | a :: l, x => if a = x then 0 else if idxN l x < 0 then -1 else idxN l x + 1
theorem idxN_hit : ∀ {l : List Nat} {i : Nat} {x : Nat}, l[i]? = some x → (∀ j, j < i → l[j]? ≠ some x) → idxN l x = i
  | [], i, x, h, _ => by simp at h
  | a :: l, 0, x, h, _ => by simp at h; simp [idxN, h]
  | a :: l, i + 1, x, h, hn => by
    have h0 : a ≠ x := fun e => hn 0 (by omega) (by simp [e])
    have ih := idxN_hit (l := l) (i := i) (x := x) (by simpa using h) (fun j hj => by have := hn (j + 1) (by omega); simpa using this)
    simp only [idxN, if_neg h0, ih]
    rw [if_neg (by omega)]; push_cast; rfl
theorem idxN_miss : ∀ {l : List Nat} {x : Nat}, (∀ j, j < l.length → l[j]? ≠ some x) → idxN l x = -1
  | [], _, _ => rfl
  | a :: l, x, hn => by
    have h0 : a ≠ x := fun e => hn 0 (by simp) (by simp [e])
    have ih := idxN_miss (l := l) (x := x) (fun j hj => by have := hn (j + 1) (by simpa using hj); simpa using this)
    simp only [idxN, if_neg h0, ih]; rfl
theorem idxN_map (f : Nat → Nat) : ∀ {l : List Nat} {x : Nat}, (∀ a, a ∈ l → f a = f x → a = x) → idxN (l.map f) (f x) = idxN l x
  | [], _, _ => rfl
  | a :: l, x, h => by
    have ih := idxN_map f (l := l) (x := x) (fun b hb => h b (List.mem_cons_of_mem _ hb))
    simp only [List.map_cons, idxN, ih]
    by_cases e : a = x
    · rw [if_pos e, if_pos (by rw [e])]
    · rw [if_neg e, if_neg (fun e2 => e (h a (List.mem_cons_self ..) e2))]
end Go.SL
