/- The engine, more: arrays of structs compared, slices of slices, capacities, views of slices. It holds for every program; no condition. -/
import Derived.Test.YtpoamckpdpkpoaaSL
import Derived.ChangeKeysEq
import Derived.Laws.Cover3
set_option linter.unusedVariables false
set_option linter.unusedSimpArgs false
namespace Go.SL

/-! ### Arrays of structs of whole numbers -/
theorem reads_iff {c : List Value} {off : Nat} {vs : List Value} : Reads c off vs ↔ ∀ j v, vs[j]? = some v → c[off + j]? = some v := by
  constructor
  · exact Reads.at_
  · revert off
    induction vs with
    | nil => intro off _; trivial
    | cons v vs ih =>
      intro off h
      refine ⟨by rw [nth_eq]; exact h 0 v rfl, ih fun j u hu => ?_⟩
      have := h (j + 1) u (by simpa using hu)
      rwa [show off + (j + 1) = off + 1 + j by omega] at this
theorem reads_split {A x B : List Value} : Reads (A ++ x ++ B) A.length x := by
  rw [reads_iff]
  intro j v hv
  have hj := (List.getElem?_eq_some_iff.1 hv).1
  rw [List.append_assoc, List.getElem?_append_right (by omega), show A.length + j - A.length = j by omega, List.getElem?_append_left hj, hv]
theorem reads_flat {ls : List (List Value)} {k i : Nat} {x : List Value} (h : ls[i]? = some x) (hk : ∀ y, y ∈ ls → y.length = k) : Reads ls.flatten (i * k) x := by
  have hlt := (List.getElem?_eq_some_iff.1 h).1
  have e : ls = ls.take i ++ x :: ls.drop (i + 1) := by
    have := (List.getElem?_eq_some_iff.1 h).2
    rw [← this, ← List.drop_eq_getElem_cons hlt, List.take_append_drop]
  have hl : (ls.take i).flatten.length = i * k := by
    have hgen : ∀ (m : List (List Value)), (∀ y, y ∈ m → y.length = k) → m.flatten.length = m.length * k := by
      intro m
      induction m with
      | nil => intro _; simp
      | cons a m ih =>
        intro hm
        rw [List.flatten_cons, List.length_append, hm a (List.mem_cons_self ..), ih (fun y hy => hm y (List.mem_cons_of_mem _ hy)), List.length_cons, Nat.add_mul, Nat.one_mul, Nat.add_comm]
    rw [hgen _ (fun y hy => hk y (List.mem_of_mem_take hy)), List.length_take, Nat.min_eq_left (Nat.le_of_lt hlt)]
  have e2 : ls.flatten = (ls.take i).flatten ++ x ++ (ls.drop (i + 1)).flatten := by
    conv => lhs; rw [e]
    simp
  rw [e2, ← hl]
  exact reads_split

theorem run_eqItems_nums {P : Program} (d : Nat) (w : World) {e k : Nat} {ks : List IntKind} {dsc : TypeDesc} [hT : NumTy P e ks] [he : TyD P e dsc] [hk : TyS P e k] (hd : aggD dsc = true) (hkl : ks.length = k) (X Y : List Value) (a b : Nat → List Int) :
    ∀ is : List Nat, (∀ i, i ∈ is → (a i).length = k ∧ (b i).length = k ∧ (encK ks (a i)).length = k ∧ (encK ks (b i)).length = k ∧ Reads X (i * k) (encK ks (a i)) ∧ Reads Y (i * k) (encK ks (b i))) →
      (Op.eqItems (d + 2) e k X.toArray Y.toArray is).run P w = .ok (decide (∀ i, i ∈ is → a i = b i)) w
  | [], _ => by simp [Op.eqItems]
  | i :: is, h => by
    obtain ⟨h1, h2, h1', h2', h3, h4⟩ := h i (List.mem_cons_self ..)
    have ih := run_eqItems_nums (P := P) (e := e) (k := k) (ks := ks) d w hd hkl X Y a b is (fun j hj => h j (List.mem_cons_of_mem _ hj))
    have px : (part e X.toArray (i * k)).run P w = .ok (.agg (encK ks (a i)).toArray) w := by
      have hc' := h3.extract h1'
      simp only [List.extract_toArray, List.extract_eq_take_drop, Nat.add_sub_cancel_left] at hc'
      have hc' := List.toArray_inj hc'
      simp [part, TyD.agg, TyS.run, hd, hc']
    have py : (part e Y.toArray (i * k)).run P w = .ok (.agg (encK ks (b i)).toArray) w := by
      have hc' := h4.extract h2'
      simp only [List.extract_toArray, List.extract_eq_take_drop, Nat.add_sub_cancel_left] at hc'
      have hc' := List.toArray_inj hc'
      simp [part, TyD.agg, TyS.run, hd, hc']
    simp only [Op.eqItems, Sem.run_bind, px, py, Result.andThen_ok, hT.eq d w (a i) (b i) (by rw [hkl, h1]) (by rw [hkl, h2])]
    by_cases hab : a i = b i
    · simp [hab, ih]
    · simp [hab]

theorem encK_len : ∀ (ks : List IntKind) (xs : List Int), xs.length = ks.length → (encK ks xs).length = ks.length
  | [], [], _ => rfl
  | k :: ks, x :: xs, h => by simp [encK, encK_len ks xs (by simpa using h)]
  | [], _ :: _, h => by simp at h
  | _ :: _, [], h => by simp at h

section pv
variable {P : Program} {n : Nat} {D : List Deferred} {E : Env} {L : Hp} {d : Option Tmp} {ty : TypeId} {pos : String} {aft : Array Edge} {g : Option (Nat × Bool)} {T : TypeId} {x y z : Operand} {v u : Value}

theorem run_eq_arr {e k m : Nat} {ks : List IntKind} {dsc : TypeDesc} (w : World) [hA : TyD P T (.array m e)] [hT : NumTy P e ks] [he : TyD P e dsc] [hk : TyS P e k] (hd : aggD dsc = true) (hkl : ks.length = k) (xs ys : List (List Int)) (hlx : xs.length = m) (hly : ys.length = m)
    (hx : ∀ q, q ∈ xs → q.length = k) (hy : ∀ q, q ∈ ys → q.length = k) :
    (Op.equalIn 10000 T (.agg (xs.map (encK ks)).flatten.toArray) (.agg (ys.map (encK ks)).flatten.toArray)).run P w = .ok (decide (xs = ys)) w := by
  obtain ⟨i, hi, hsz⟩ := Option.map_eq_some_iff.1 hk.eq
  have hc : P.cellsOf e = k := by simp [Program.cellsOf, hi, hsz]
  rw [show (10000 : Nat) = 9999 + 1 from rfl, run_equalIn_array w 9999 _ _ hA.eq hi, hc]
  have key : ∀ (zs : List (List Int)), zs.length = m → (∀ q, q ∈ zs → q.length = k) → ∀ i, i ∈ List.range m → (zs[i]?.getD []).length = k ∧ (encK ks (zs[i]?.getD [])).length = k ∧ Reads (zs.map (encK ks)).flatten (i * k) (encK ks (zs[i]?.getD [])) := by
    intro zs hl hq i hi
    rw [List.mem_range] at hi
    have e1 : zs[i]? = some (zs[i]'(by omega)) := List.getElem?_eq_getElem (by omega)
    rw [e1, Option.getD_some]
    have hlen : (zs[i]'(by omega)).length = k := hq _ (List.getElem_mem _)
    refine ⟨hlen, by rw [encK_len ks _ (by rw [hlen, hkl]), hkl], reads_flat (by rw [List.getElem?_map, e1]; rfl) ?_⟩
    intro y hy
    obtain ⟨q, hq', rfl⟩ := List.mem_map.1 hy
    rw [encK_len ks _ (by rw [hq q hq', hkl]), hkl]
  have := run_eqItems_nums (P := P) 9997 w (e := e) (k := k) (ks := ks) hd hkl (xs.map (encK ks)).flatten (ys.map (encK ks)).flatten (fun i => xs[i]?.getD []) (fun i => ys[i]?.getD []) (List.range m)
    (fun i hi => ⟨(key xs hlx hx i hi).1, (key ys hly hy i hi).1, (key xs hlx hx i hi).2.1, (key ys hly hy i hi).2.1, (key xs hlx hx i hi).2.2, (key ys hly hy i hi).2.2⟩)
  rw [this]
  congr 1
  apply decide_eq_decide.2
  constructor
  · intro h
    apply List.ext_getElem?
    intro i
    by_cases hi : i < m
    · have := h i (List.mem_range.2 hi)
      rw [List.getElem?_eq_getElem (by omega), List.getElem?_eq_getElem (by omega)] at this ⊢
      simpa using this
    · rw [List.getElem?_eq_none (by omega), List.getElem?_eq_none (by omega)]
  · intro h i _; rw [h]
theorem pv_eql_arr {e k m : Nat} {ks : List IntKind} {dsc : TypeDesc} {yt : TypeId} (xs ys : List (List Int)) [hA : TyD P T (.array m e)] [hT : NumTy P e ks] [he : TyD P e dsc] [hk : TyS P e k]
    (hx : ev E x = some (.agg (xs.map (encK ks)).flatten.toArray)) (hy : ev E y = some (.agg (ys.map (encK ks)).flatten.toArray)) (hd : aggD dsc = true) (hkl : ks.length = k) (hlx : xs.length = m) (hly : ys.length = m)
    (hx' : ∀ q, q ∈ xs → q.length = k) (hy' : ∀ q, q ∈ ys → q.length = k) (hg : P.eqGuardType P.depth T = false) : Pv P n D E L ⟨d, .binOp .eql T x y yt, ty, pos, aft, g⟩ (.bool (decide (xs = ys))) := by
  unfold Pv; intro a w hs _
  have := run_eq_arr (P := P) (T := T) w hd hkl xs ys hlx hly hx' hy'
  simp only [execOp, hs.ev hx, hs.ev hy, Sem.run_bind, run_eqGuard_agg (P := P) w .eql T x y _ _ hg, run_eql_struct, Result.andThen_ok, this, Sem.run_pure]
theorem pv_neq_arr {e k m : Nat} {ks : List IntKind} {dsc : TypeDesc} {yt : TypeId} (xs ys : List (List Int)) [hA : TyD P T (.array m e)] [hT : NumTy P e ks] [he : TyD P e dsc] [hk : TyS P e k]
    (hx : ev E x = some (.agg (xs.map (encK ks)).flatten.toArray)) (hy : ev E y = some (.agg (ys.map (encK ks)).flatten.toArray)) (hd : aggD dsc = true) (hkl : ks.length = k) (hlx : xs.length = m) (hly : ys.length = m)
    (hx' : ∀ q, q ∈ xs → q.length = k) (hy' : ∀ q, q ∈ ys → q.length = k) (hg : P.eqGuardType P.depth T = false) : Pv P n D E L ⟨d, .binOp .neq T x y yt, ty, pos, aft, g⟩ (.bool (decide (xs ≠ ys))) := by
  unfold Pv; intro a w hs _
  have := run_eq_arr (P := P) (T := T) w hd hkl xs ys hlx hly hx' hy'
  simp only [execOp, hs.ev hx, hs.ev hy, Sem.run_bind, run_eqGuard_agg (P := P) w .neq T x y _ _ hg, run_neq_struct, Result.andThen_ok, this, Sem.run_pure]
  simp

/-! ### Slices of slices, capacities, nil -/
def evO (E : Env) (o : Option Operand) (d : Nat) (i : Nat) : Prop :=
  match o with
  | none => i = d
  | some o => ∃ k, ev E o = some (.int k (i : Int))
theorem pv_slice {a : Option Addr} {m c i j e k : Nat} {lo hi : Option Operand} (hx : ev E x = some (.slice a m c)) (hlo : evO E lo 0 i) (hhi : evO E hi m j) (h1 : i ≤ j) (h2 : j ≤ c) [ht : TyD P T (.slice e)] [hk : TyS P e k] :
    Pv P n D E L ⟨d, .slice T x lo hi none, ty, pos, aft, g⟩ (.slice (if c = i then a else a.map (·.add (i * k))) (j - i) (c - i)) := by
  unfold Pv; intro A w hs _
  have g1 : (Int.ofNat i).toNat = i := rfl
  cases lo with
  | none =>
    obtain rfl : i = 0 := hlo
    cases hi with
    | none =>
      obtain rfl : j = m := hhi
      simp [execOp, hs.ev hx, Instr.sliceAt, Instr.slice, Instr.sliceBounds, TyD.run, TyS.run]
    | some o =>
      obtain ⟨kk, ho⟩ := hhi
      have h3 : (0 : Int) ≤ (j : Int) ∧ (j : Int) ≤ (c : Int) := by omega
      simp [execOp, hs.ev hx, hs.ev ho, Instr.sliceAt, Instr.slice, Instr.sliceBounds, Instr.sliceBound, asIntOf, TyD.run, TyS.run, h3, h2]
  | some o =>
    obtain ⟨kk, ho⟩ := hlo
    cases hi with
    | none =>
      obtain rfl : j = m := hhi
      simp [execOp, hs.ev hx, hs.ev ho, Instr.sliceAt, Instr.slice, Instr.sliceBounds, Instr.sliceBound, asIntOf, TyD.run, TyS.run, h1]
    | some o' =>
      obtain ⟨kk', ho'⟩ := hhi
      simp [execOp, hs.ev hx, hs.ev ho, hs.ev ho', Instr.sliceAt, Instr.slice, Instr.sliceBounds, Instr.sliceBound, asIntOf, TyD.run, TyS.run, h1, h2]
theorem pv_cap_slice {e : TypeId} {ats : Array TypeId} {p : Option Addr} {m c : Nat} (hx : ev E x = some (.slice p m c)) (h0 : ats[0]? = some T) [hT : TyD P T (.slice e)] :
    Pv P n D E L ⟨d, .call { callee := .builtin .cap, args := #[x], argTypes := ats }, ty, pos, aft, g⟩ (.int .i64 c) := by
  unfold Pv; intro a w hs hh
  rw [BigFrame.execOp_builtin]
  simp only [BigFrame.builtin_cap, List.map_toArray, List.map_cons, List.map_nil, hs.ev hx, Builtin.cap_, h0, List.getElem?_toArray, List.getElem?_cons_zero, Sem.run_bind, TyD.run, Result.andThen_ok, Sem.run_pure, goInt]
theorem pv_eql_slcnil {e : TypeId} {p : Option Addr} {m c : Nat} {yt : TypeId} (hx : ev E x = some (.slice p m c)) (hy : ev E y = some (.slice none 0 0)) [h : TyD P T (.slice e)] :
    Pv P n D E L ⟨d, .binOp .eql T x y yt, ty, pos, aft, g⟩ (.bool p.isNone) := by
  unfold Pv; intro a w hs _
  have h1 : (Op.equalIn 10000 T (.slice p m c) (.slice none 0 0)).run P w = .ok p.isNone w := by
    exact Go.run_equalIn_slice_nil w 9999 T e p m c h.eq
  simp [execOp, hs.ev hx, hs.ev hy, eqGuard, binOp, Op.equal, Op.maxDepth, h1]
theorem pv_neq_slcnil {e : TypeId} {p : Option Addr} {m c : Nat} {yt : TypeId} (hx : ev E x = some (.slice p m c)) (hy : ev E y = some (.slice none 0 0)) [h : TyD P T (.slice e)] :
    Pv P n D E L ⟨d, .binOp .neq T x y yt, ty, pos, aft, g⟩ (.bool p.isSome) := by
  unfold Pv; intro a w hs _
  have h1 : (Op.equalIn 10000 T (.slice p m c) (.slice none 0 0)).run P w = .ok p.isNone w := by
    exact Go.run_equalIn_slice_nil w 9999 T e p m c h.eq
  simp [execOp, hs.ev hx, hs.ev hy, eqGuard, binOp, Op.equal, Op.maxDepth, h1]
end pv

/-! ### Views: what can be read through a slice -/
def View (G : Hp) (sz : Nat) (v : Value) (n : Nat) (cs : List Value) : Prop :=
  cs.length = n * sz ∧ ∃ a c, v = .slice a n c ∧ n ≤ c ∧ (n = 0 ∨ ∃ b o, ∃ cc : List Value, ∃ T f, a = some ⟨b, o, none⟩ ∧ (b, Obj.cells cc.toArray T f) ∈ G ∧ Reads cc o cs)
theorem View.nil (G : Hp) (sz : Nat) : View G sz (.slice none 0 0) 0 [] := ⟨by simp, none, 0, rfl, Nat.le_refl _, .inl rfl⟩
theorem View.mono {G G' : Hp} {sz : Nat} {v : Value} {n : Nat} {cs : List Value} (h : View G sz v n cs) (hg : ∀ p, p ∈ G → p ∈ G') : View G' sz v n cs := by
  obtain ⟨h1, a, c, h2, h3, h4⟩ := h
  refine ⟨h1, a, c, h2, h3, h4.imp id ?_⟩
  rintro ⟨b, o, cc, T, f, e, hm, hr⟩
  exact ⟨b, o, cc, T, f, e, hg _ hm, hr⟩
theorem Slc.view {T : TypeId} {sz : Nat} {v : Value} {n : Nat} {cs : List Value} {H : Hp} (h : Slc T sz v n cs H) : View H sz v n cs := by
  obtain ⟨hl, ⟨rfl, rfl, rfl⟩ | ⟨b, pre, spare, cap, rfl, hc, _, rfl⟩⟩ := h
  · exact ⟨hl, none, 0, rfl, Nat.le_refl _, .inl rfl⟩
  · exact ⟨hl, _, cap, rfl, hc, .inr ⟨b, pre.length, _, T, (0, 0), rfl, List.mem_cons_self .., reads_split⟩⟩
theorem Reads.sub {c : List Value} {off i l : Nat} {vs : List Value} (h : Reads c off vs) : Reads c (off + i) ((vs.drop i).take l) := by
  rw [reads_iff] at h ⊢
  intro j v hv
  rw [List.getElem?_take] at hv
  split at hv
  · rw [List.getElem?_drop] at hv
    rw [show off + i + j = off + (i + j) by omega]
    exact h _ v hv
  · cases hv
/-- An element of a view. -/
theorem View.elem {G : Hp} {sz : Nat} {v : Value} {n : Nat} {cs : List Value} (h : View G sz v n cs) {i : Nat} (hi : i < n) :
    ∃ b o cap, ∃ cc : List Value, ∃ T f, v = .slice (some ⟨b, o, none⟩) n cap ∧ Blk G b (.cells cc.toArray T f) ∧ Reads cc (o + i * sz) ((cs.drop (i * sz)).take sz) := by
  obtain ⟨h1, a, c, h2, h3, h4⟩ := h
  rcases h4 with h4 | ⟨b, o, cc, T, f, rfl, hm, hr⟩
  · omega
  · exact ⟨b, o, c, cc, T, f, h2, ⟨hm⟩, hr.sub⟩
theorem View.open {G : Hp} {sz : Nat} {v : Value} {n : Nat} {cs : List Value} (h : View G sz v n cs) (hn : 0 < n) :
    ∃ b o cap, ∃ cc : List Value, ∃ T f, v = .slice (some ⟨b, o, none⟩) n cap ∧ Blk G b (.cells cc.toArray T f) ∧ Reads cc o cs := by
  obtain ⟨h1, a, c, h2, h3, h4⟩ := h
  rcases h4 with h4 | ⟨b, o, cc, T, f, rfl, hm, hr⟩
  · omega
  · exact ⟨b, o, c, cc, T, f, h2, ⟨hm⟩, hr⟩
/-- What is behind 'v[i:j]'. -/
theorem View.slice {G : Hp} {sz : Nat} {a : Option Addr} {n c : Nat} {cs : List Value} (h : View G sz (.slice a n c) n cs) {i j : Nat} (h1 : i ≤ j) (h2 : j ≤ n) :
    View G sz (.slice (if c = i then a else a.map (·.add (i * sz))) (j - i) (c - i)) (j - i) ((cs.drop (i * sz)).take ((j - i) * sz)) := by
  obtain ⟨hl, a', c', e, h3, h4⟩ := h
  cases e
  refine ⟨?_, _, _, rfl, by omega, ?_⟩
  · rw [List.length_take, List.length_drop, hl, ← Nat.sub_mul]
    exact Nat.min_eq_left (Nat.mul_le_mul_right _ (by omega))
  · by_cases hz : j - i = 0
    · exact .inl hz
    · right
      rcases h4 with h4 | ⟨b, o, cc, T, f, rfl, hm, hr⟩
      · omega
      · refine ⟨b, o + i * sz, cc, T, f, ?_, hm, hr.sub⟩
        rw [if_neg (by omega)]
        unfold Addr.add
        by_cases hi : i * sz = 0
        · simp [hi]
        · simp [hi]
end Go.SL
