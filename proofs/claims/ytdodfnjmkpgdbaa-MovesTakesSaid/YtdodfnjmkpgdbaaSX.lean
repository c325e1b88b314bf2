/- The engine, more: arrays of structs compared, slices of slices, capacities, views of slices. It holds for every program; no condition. -/
import Derived.Test.YtdodfnjmkpgdbaaSL
import Derived.ChangeKeysEq
import Derived.Laws.Cover3
set_option linter.unusedVariables false
set_option linter.unusedSimpArgs false
namespace Go.SL

/-! ### Arrays of structs of whole numbers -/
theorem reads_iff {c : List Value} {off : Nat} {vs : List Value} : Reads c off vs ↔ ∀ j v, vs[j]? = some v → c[off + j]? = some v := by
  constructor
  · exact Reads.at_
  · revert off
    induction vs with
    | nil => intro off _; trivial
    | cons v vs ih =>
      intro off h
      refine ⟨by rw [nth_eq]; exact h 0 v rfl, ih fun j u hu => ?_⟩
      have := h (j + 1) u (by simpa using hu)
      rwa [show off + (j + 1) = off + 1 + j by omega] at this
theorem reads_split {A x B : List Value} : Reads (A ++ x ++ B) A.length x := by
  rw [reads_iff]
  intro j v hv
  have hj := (List.getElem?_eq_some_iff.1 hv).1
  rw [List.append_assoc, List.getElem?_append_right (by omega), show A.length + j - A.length = j by omega, List.getElem?_append_left hj, hv]
theorem reads_flat {ls : List (List Value)} {k i : Nat} {x : List Value} (h : ls[i]? = some x) (hk : ∀ y, y ∈ ls → y.length = k) : Reads ls.flatten (i * k) x := by
  have hlt := (List.getElem?_eq_some_iff.1 h).1
  have e : ls = ls.take i ++ x :: ls.drop (i + 1) := by
    have := (List.getElem?_eq_some_iff.1 h).2
    rw [← this, ← List.drop_eq_getElem_cons hlt, List.take_append_drop]
  have hl : (ls.take i).flatten.length = i * k := by
    have hgen : ∀ (m : List (List Value)), (∀ y, y ∈ m → y.length = k) → m.flatten.length = m.length * k := by
      intro m
      induction m with
      | nil => intro _; simp
      | cons a m ih =>
        intro hm
        rw [List.flatten_cons, List.length_append, hm a (List.mem_cons_self ..), ih (fun y hy => hm y (List.mem_cons_of_mem _ hy)), List.length_cons, Nat.add_mul, Nat.one_mul, Nat.add_comm]
    rw [hgen _ (fun y hy => hk y (List.mem_of_mem_take hy)), List.length_take, Nat.min_eq_left (Nat.le_of_lt hlt)]
  have e2 : ls.flatten = (ls.take i).flatten ++ x ++ (ls.drop (i + 1)).flatten := by
    conv => lhs; rw [e]
    simp
  rw [e2, ← hl]
  exact reads_split

theorem run_eqItems_nums {P : Program} (d : Nat) (w : World) {e k : Nat} {ks : List IntKind} {dsc : TypeDesc} [hT : NumTy P e ks] [he : TyD P e dsc] [hk : TyS P e k] (hd : aggD dsc = true) (hkl : ks.length = k) (X Y : List Value) (a b : Nat → List Int) :
    ∀ is : List Nat, (∀ i, i ∈ is → (a i).length = k ∧ (b i).length = k ∧ (encK ks (a i)).length = k ∧ (encK ks (b i)).length = k ∧ Reads X (i * k) (encK ks (a i)) ∧ Reads Y (i * k) (encK ks (b i))) →
      (Op.eqItems (d + 2) e k X.toArray Y.toArray is).run P w = .ok (decide (∀ i, i ∈ is → a i = b i)) w
  | [], _ => by simp [Op.eqItems]
  | i :: is, h => by
    obtain ⟨h1, h2, h1', h2', h3, h4⟩ := h i (List.mem_cons_self ..)
    have ih := run_eqItems_nums (P := P) (e := e) (k := k) (ks := ks) d w hd hkl X Y a b is (fun j hj => h j (List.mem_cons_of_mem _ hj))
    have px : (part e X.toArray (i * k)).run P w = .ok (.agg (encK ks (a i)).toArray) w := by
      have hc' := h3.extract h1'
      simp only [List.extract_toArray, List.extract_eq_take_drop, Nat.add_sub_cancel_left] at hc'
      have hc' := List.toArray_inj hc'
      simp [part, TyD.agg, TyS.run, hd, hc']
    have py : (part e Y.toArray (i * k)).run P w = .ok (.agg (encK ks (b i)).toArray) w := by
      have hc' := h4.extract h2'
      simp only [List.extract_toArray, List.extract_eq_take_drop, Nat.add_sub_cancel_left] at hc'
      have hc' := List.toArray_inj hc'
      simp [part, TyD.agg, TyS.run, hd, hc']
    simp only [Op.eqItems, Sem.run_bind, px, py, Result.andThen_ok, hT.eq d w (a i) (b i) (by rw [hkl, h1]) (by rw [hkl, h2])]
    by_cases hab : a i = b i
    · simp [hab, ih]
    · simp [hab]

theorem encK_len : ∀ (ks : List IntKind) (xs : List Int), xs.length = ks.length → (encK ks xs).length = ks.length
  | [], [], _ => rfl
  | k :: ks, x :: xs, h => by simp [encK, encK_len ks xs (by simpa using h)]
  | [], _ :: _, h => by simp at h
  | _ :: _, [], h => by simp at h

section pv
variable {P : Program} {n : Nat} {D : List Deferred} {E : Env} {L : Hp} {d : Option Tmp} {ty : TypeId} {pos : String} {aft : Array Edge} {g : Option (Nat × Bool)} {T : TypeId} {x y z : Operand} {v u : Value}

theorem run_eq_arr {e k m : Nat} {ks : List IntKind} {dsc : TypeDesc} (w : World) [hA : TyD P T (.array m e)] [hT : NumTy P e ks] [he : TyD P e dsc] [hk : TyS P e k] (hd : aggD dsc = true) (hkl : ks.length = k) (xs ys : List (List Int)) (hlx : xs.length = m) (hly : ys.length = m)
    (hx : ∀ q, q ∈ xs → q.length = k) (hy : ∀ q, q ∈ ys → q.length = k) :
    (Op.equalIn 10000 T (.agg (xs.map (encK ks)).flatten.toArray) (.agg (ys.map (encK ks)).flatten.toArray)).run P w = .ok (decide (xs = ys)) w := by
  obtain ⟨i, hi, hsz⟩ := Option.map_eq_some_iff.1 hk.eq
  have hc : P.cellsOf e = k := by simp [Program.cellsOf, hi, hsz]
  rw [show (10000 : Nat) = 9999 + 1 from rfl, run_equalIn_array w 9999 _ _ hA.eq hi, hc]
  have key : ∀ (zs : List (List Int)), zs.length = m → (∀ q, q ∈ zs → q.length = k) → ∀ i, i ∈ List.range m → (zs[i]?.getD []).length = k ∧ (encK ks (zs[i]?.getD [])).length = k ∧ Reads (zs.map (encK ks)).flatten (i * k) (encK ks (zs[i]?.getD [])) := by
    intro zs hl hq i hi
    rw [List.mem_range] at hi
    have e1 : zs[i]? = some (zs[i]'(by omega)) := List.getElem?_eq_getElem (by omega)
    rw [e1, Option.getD_some]
    have hlen : (zs[i]'(by omega)).length = k := hq _ (List.getElem_mem _)
    refine ⟨hlen, by rw [encK_len ks _ (by rw [hlen, hkl]), hkl], reads_flat (by rw [List.getElem?_map, e1]; rfl) ?_⟩
    intro y hy
    obtain ⟨q, hq', rfl⟩ := List.mem_map.1 hy
    rw [encK_len ks _ (by rw [hq q hq', hkl]), hkl]
  have := run_eqItems_nums (P := P) 9997 w (e := e) (k := k) (ks := ks) hd hkl (xs.map (encK ks)).flatten (ys.map (encK ks)).flatten (fun i => xs[i]?.getD []) (fun i => ys[i]?.getD []) (List.range m)
    (fun i hi => ⟨(key xs hlx hx i hi).1, (key ys hly hy i hi).1, (key xs hlx hx i hi).2.1, (key ys hly hy i hi).2.1, (key xs hlx hx i hi).2.2, (key ys hly hy i hi).2.2⟩)
  rw [this]
  congr 1
  apply decide_eq_decide.2
  constructor
  · intro h
    apply List.ext_getElem?
    intro i
    by_cases hi : i < m
    · have := h i (List.mem_range.2 hi)
      rw [List.getElem?_eq_getElem (by omega), List.getElem?_eq_getElem (by omega)] at this ⊢
      simpa using this
    · rw [List.getElem?_eq_none (by omega), List.getElem?_eq_none (by omega)]
  · intro h i _; rw [h]
theorem pv_eql_arr {e k m : Nat} {ks : List IntKind} {dsc : TypeDesc} {yt : TypeId} (xs ys : List (List Int)) [hA : TyD P T (.array m e)] [hT : NumTy P e ks] [he : TyD P e dsc] [hk : TyS P e k]
    (hx : ev E x = some (.agg (xs.map (encK ks)).flatten.toArray)) (hy : ev E y = some (.agg (ys.map (encK ks)).flatten.toArray)) (hd : aggD dsc = true) (hkl : ks.length = k) (hlx : xs.length = m) (hly : ys.length = m)
    (hx' : ∀ q, q ∈ xs → q.length = k) (hy' : ∀ q, q ∈ ys → q.length = k) (hg : P.eqGuardType P.depth T = false) : Pv P n D E L ⟨d, .binOp .eql T x y yt, ty, pos, aft, g⟩ (.bool (decide (xs = ys))) := by
  unfold Pv; intro a w hs _
  have := run_eq_arr (P := P) (T := T) w hd hkl xs ys hlx hly hx' hy'
  simp only [execOp, hs.ev hx, hs.ev hy, Sem.run_bind, run_eqGuard_agg (P := P) w .eql T x y _ _ hg, run_eql_struct, Result.andThen_ok, this, Sem.run_pure]
theorem pv_neq_arr {e k m : Nat} {ks : List IntKind} {dsc : TypeDesc} {yt : TypeId} (xs ys : List (List Int)) [hA : TyD P T (.array m e)] [hT : NumTy P e ks] [he : TyD P e dsc] [hk : TyS P e k]
    (hx : ev E x = some (.agg (xs.map (encK ks)).flatten.toArray)) (hy : ev E y = some (.agg (ys.map (encK ks)).flatten.toArray)) (hd : aggD dsc = true) (hkl : ks.length = k) (hlx : xs.length = m) (hly : ys.length = m)
    (hx' : ∀ q, q ∈ xs → q.length = k) (hy' : ∀ q, q ∈ ys → q.length = k) (hg : P.eqGuardType P.depth T = false) : Pv P n D E L ⟨d, .binOp .neq T x y yt, ty, pos, aft, g⟩ (.bool (decide (xs ≠ ys))) := by
  unfold Pv; intro a w hs _
  have := run_eq_arr (P := P) (T := T) w hd hkl xs ys hlx hly hx' hy'
  simp only [execOp, hs.ev hx, hs.ev hy, Sem.run_bind, run_eqGuard_agg (P := P) w .neq T x y _ _ hg, run_neq_struct, Result.andThen_ok, this, Sem.run_pure]
  simp

/-! ### Slices of slices, capacities, nil -/
def evO (E : Env) (o : Option Operand) (d : Nat) (i : Nat) : Prop :=
  match o with
  | none => i = d
  | some o => ∃ k, ev E o = some (.int k (i : Int))
theorem pv_slice {a : Option Addr} {m c i j e k : Nat} {lo hi : Option Operand} (hx : ev E x = some (.slice a m c)) (hlo : evO E lo 0 i) (hhi : evO E hi m j) (h1 : i ≤ j) (h2 : j ≤ c) [ht : TyD P T (.slice e)] [hk : TyS P e k] :
    Pv P n D E L ⟨d, .slice T x lo hi none, ty, pos, aft, g⟩ (.slice (if c = i then a else a.map (·.add (i * k))) (j - i) (c - i)) := by
  unfold Pv; intro A w hs _
  have g1 : (Int.ofNat i).toNat = i := rfl
  cases lo with
  | none =>
    obtain rfl : i = 0 := hlo
    cases hi with
    | none =>
      obtain rfl : j = m := hhi
      simp [execOp, hs.ev hx, Instr.sliceAt, Instr.slice, Instr.sliceBounds, TyD.run, TyS.run]
    | some o =>
      obtain ⟨kk, ho⟩ := hhi
      have h3 : (0 : Int) ≤ (j : Int) ∧ (j : Int) ≤ (c : Int) := by omega
      simp [execOp, hs.ev hx, hs.ev ho, Instr.sliceAt, Instr.slice, Instr.sliceBounds, Instr.sliceBound, asIntOf, TyD.run, TyS.run, h3, h2]
  | some o =>
    obtain ⟨kk, ho⟩ := hlo
    cases hi with
    | none =>
      obtain rfl : j = m := hhi
      simp [execOp, hs.ev hx, hs.ev ho, Instr.sliceAt, Instr.slice, Instr.sliceBounds, Instr.sliceBound, asIntOf, TyD.run, TyS.run, h1]
    | some o' =>
      obtain ⟨kk', ho'⟩ := hhi
      simp [execOp, hs.ev hx, hs.ev ho, hs.ev ho', Instr.sliceAt, Instr.slice, Instr.sliceBounds, Instr.sliceBound, asIntOf, TyD.run, TyS.run, h1, h2]
theorem pv_sliceL {a : Option Addr} {m c i j e k r : Nat} {lo hi : Option Operand} (hx : ev E x = some (.slice a m c)) (hlo : evO E lo 0 i) (hhi : evO E hi m j) (h1 : i ≤ j) (h2 : j ≤ c) (hr : j - i = r) [ht : TyD P T (.slice e)] [hk : TyS P e k] :
    Pv P n D E L ⟨d, .slice T x lo hi none, ty, pos, aft, g⟩ (.slice (if c = i then a else a.map (·.add (i * k))) r (c - i)) := by
  subst hr; exact pv_slice hx hlo hhi h1 h2
theorem pv_sliceTo {a : Option Addr} {m c j e k : Nat} {hi : Option Operand} (hx : ev E x = some (.slice a m c)) (hhi : evO E hi m j) (h2 : j ≤ c) [ht : TyD P T (.slice e)] [hk : TyS P e k] :
    Pv P n D E L ⟨d, .slice T x none hi none, ty, pos, aft, g⟩ (.slice a j c) := by
  have := pv_slice (P := P) (n := n) (D := D) (E := E) (L := L) (d := d) (ty := ty) (pos := pos) (aft := aft) (g := g) (T := T) (x := x) (lo := none) (hi := hi) (i := 0) (j := j) hx rfl hhi (Nat.zero_le _) h2
  have e1 : (if c = 0 then a else a.map (·.add (0 * k))) = a := by
    rw [Nat.zero_mul]; split
    · rfl
    · cases a <;> rfl
  rw [e1, Nat.sub_zero, Nat.sub_zero] at this
  exact this
theorem pv_eql_bool {b c : Bool} {yt : TypeId} (hx : ev E x = some (.bool b)) (hy : ev E y = some (.bool c)) [h : TyD P T .bool] :
    Pv P n D E L ⟨d, .binOp .eql T x y yt, ty, pos, aft, g⟩ (.bool (b == c)) := by
  unfold Pv; intro a w hs _
  have h1 : (Op.equalIn 10000 T (.bool b) (.bool c)).run P w = .ok (b == c) w := run_equalIn_bool' w 9999 T b c h.eq
  simp [execOp, hs.ev hx, hs.ev hy, eqGuard, binOp, Op.equal, Op.maxDepth, h1]
theorem pv_neq_bool {b c : Bool} {yt : TypeId} (hx : ev E x = some (.bool b)) (hy : ev E y = some (.bool c)) [h : TyD P T .bool] :
    Pv P n D E L ⟨d, .binOp .neq T x y yt, ty, pos, aft, g⟩ (.bool (!(b == c))) := by
  unfold Pv; intro a w hs _
  have h1 : (Op.equalIn 10000 T (.bool b) (.bool c)).run P w = .ok (b == c) w := run_equalIn_bool' w 9999 T b c h.eq
  simp [execOp, hs.ev hx, hs.ev hy, eqGuard, binOp, Op.equal, Op.maxDepth, h1]
theorem pv_cap_slice {e : TypeId} {ats : Array TypeId} {p : Option Addr} {m c : Nat} (hx : ev E x = some (.slice p m c)) (h0 : ats[0]? = some T) [hT : TyD P T (.slice e)] :
    Pv P n D E L ⟨d, .call { callee := .builtin .cap, args := #[x], argTypes := ats }, ty, pos, aft, g⟩ (.int .i64 c) := by
  unfold Pv; intro a w hs hh
  rw [BigFrame.execOp_builtin]
  simp only [BigFrame.builtin_cap, List.map_toArray, List.map_cons, List.map_nil, hs.ev hx, Builtin.cap_, h0, List.getElem?_toArray, List.getElem?_cons_zero, Sem.run_bind, TyD.run, Result.andThen_ok, Sem.run_pure, goInt]
theorem pv_eql_slcnil {e : TypeId} {p : Option Addr} {m c : Nat} {yt : TypeId} (hx : ev E x = some (.slice p m c)) (hy : ev E y = some (.slice none 0 0)) [h : TyD P T (.slice e)] :
    Pv P n D E L ⟨d, .binOp .eql T x y yt, ty, pos, aft, g⟩ (.bool p.isNone) := by
  unfold Pv; intro a w hs _
  have h1 : (Op.equalIn 10000 T (.slice p m c) (.slice none 0 0)).run P w = .ok p.isNone w := by
    exact Go.run_equalIn_slice_nil w 9999 T e p m c h.eq
  simp [execOp, hs.ev hx, hs.ev hy, eqGuard, binOp, Op.equal, Op.maxDepth, h1]
theorem pv_neq_slcnil {e : TypeId} {p : Option Addr} {m c : Nat} {yt : TypeId} (hx : ev E x = some (.slice p m c)) (hy : ev E y = some (.slice none 0 0)) [h : TyD P T (.slice e)] :
    Pv P n D E L ⟨d, .binOp .neq T x y yt, ty, pos, aft, g⟩ (.bool p.isSome) := by
  unfold Pv; intro a w hs _
  have h1 : (Op.equalIn 10000 T (.slice p m c) (.slice none 0 0)).run P w = .ok p.isNone w := by
    exact Go.run_equalIn_slice_nil w 9999 T e p m c h.eq
  simp [execOp, hs.ev hx, hs.ev hy, eqGuard, binOp, Op.equal, Op.maxDepth, h1]
end pv

/-! ### Views: what can be read through a slice -/
def View (G : Hp) (sz : Nat) (v : Value) (n : Nat) (cs : List Value) : Prop :=
  cs.length = n * sz ∧ ∃ a c, v = .slice a n c ∧ n ≤ c ∧ (n = 0 ∨ ∃ b o, ∃ cc : List Value, ∃ T f, a = some ⟨b, o, none⟩ ∧ (b, Obj.cells cc.toArray T f) ∈ G ∧ Reads cc o cs)
theorem View.nil (G : Hp) (sz : Nat) : View G sz (.slice none 0 0) 0 [] := ⟨by simp, none, 0, rfl, Nat.le_refl _, .inl rfl⟩
theorem View.mono {G G' : Hp} {sz : Nat} {v : Value} {n : Nat} {cs : List Value} (h : View G sz v n cs) (hg : ∀ p, p ∈ G → p ∈ G') : View G' sz v n cs := by
  obtain ⟨h1, a, c, h2, h3, h4⟩ := h
  refine ⟨h1, a, c, h2, h3, h4.imp id ?_⟩
  rintro ⟨b, o, cc, T, f, e, hm, hr⟩
  exact ⟨b, o, cc, T, f, e, hg _ hm, hr⟩
theorem Slc.view {T : TypeId} {sz : Nat} {v : Value} {n : Nat} {cs : List Value} {H : Hp} (h : Slc T sz v n cs H) : View H sz v n cs := by
  obtain ⟨hl, ⟨rfl, rfl, rfl⟩ | ⟨b, pre, spare, cap, rfl, hc, _, rfl⟩⟩ := h
  · exact ⟨hl, none, 0, rfl, Nat.le_refl _, .inl rfl⟩
  · exact ⟨hl, _, cap, rfl, hc, .inr ⟨b, pre.length, _, T, (0, 0), rfl, List.mem_cons_self .., reads_split⟩⟩
theorem Reads.sub {c : List Value} {off i l : Nat} {vs : List Value} (h : Reads c off vs) : Reads c (off + i) ((vs.drop i).take l) := by
  rw [reads_iff] at h ⊢
  intro j v hv
  rw [List.getElem?_take] at hv
  split at hv
  · rw [List.getElem?_drop] at hv
    rw [show off + i + j = off + (i + j) by omega]
    exact h _ v hv
  · cases hv
/-- An element of a view. -/
theorem View.elem {G : Hp} {sz : Nat} {v : Value} {n : Nat} {cs : List Value} (h : View G sz v n cs) {i : Nat} (hi : i < n) :
    ∃ b o cap, ∃ cc : List Value, ∃ T f, v = .slice (some ⟨b, o, none⟩) n cap ∧ Blk G b (.cells cc.toArray T f) ∧ Reads cc (o + i * sz) ((cs.drop (i * sz)).take sz) := by
  obtain ⟨h1, a, c, h2, h3, h4⟩ := h
  rcases h4 with h4 | ⟨b, o, cc, T, f, rfl, hm, hr⟩
  · omega
  · exact ⟨b, o, c, cc, T, f, h2, ⟨hm⟩, hr.sub⟩
theorem View.open {G : Hp} {sz : Nat} {v : Value} {n : Nat} {cs : List Value} (h : View G sz v n cs) (hn : 0 < n) :
    ∃ b o cap, ∃ cc : List Value, ∃ T f, v = .slice (some ⟨b, o, none⟩) n cap ∧ Blk G b (.cells cc.toArray T f) ∧ Reads cc o cs := by
  obtain ⟨h1, a, c, h2, h3, h4⟩ := h
  rcases h4 with h4 | ⟨b, o, cc, T, f, rfl, hm, hr⟩
  · omega
  · exact ⟨b, o, c, cc, T, f, h2, ⟨hm⟩, hr⟩
/-- What is behind 'v[i:j]'. -/
theorem View.slice {G : Hp} {sz : Nat} {a : Option Addr} {n c : Nat} {cs : List Value} (h : View G sz (.slice a n c) n cs) {i j : Nat} (h1 : i ≤ j) (h2 : j ≤ n) :
    View G sz (.slice (if c = i then a else a.map (·.add (i * sz))) (j - i) (c - i)) (j - i) ((cs.drop (i * sz)).take ((j - i) * sz)) := by
  obtain ⟨hl, a', c', e, h3, h4⟩ := h
  cases e
  refine ⟨?_, _, _, rfl, by omega, ?_⟩
  · rw [List.length_take, List.length_drop, hl, ← Nat.sub_mul]
    exact Nat.min_eq_left (Nat.mul_le_mul_right _ (by omega))
  · by_cases hz : j - i = 0
    · exact .inl hz
    · right
      rcases h4 with h4 | ⟨b, o, cc, T, f, rfl, hm, hr⟩
      · omega
      · refine ⟨b, o + i * sz, cc, T, f, ?_, hm, hr.sub⟩
        rw [if_neg (by omega)]
        unfold Addr.add
        by_cases hi : i * sz = 0
        · simp [hi]
        · simp [hi]

/-! ### Appends: of what a view shows, and of zeros -/
theorem run_append_none {P : Program} (w : World) (t ty e : TypeId) (sz : Nat) [ht : TyD P t (.slice e)] [hk : TyS P e sz] (base : Option Addr) (m cap : Nat) (hm : m ≤ cap) (a : Option Addr) (c : Nat) :
    (Builtin.append_ #[t, t] ty #[.slice base m cap, .slice a 0 c]).run P w = .ok (.slice base m cap) w := by
  cases base <;> cases a <;> simp [Builtin.append_, TyD.run, TyS.run, Builtin.lenOf, hm, Builtin.firstCells, loadCells, loadCellsFrom, storeCells]
theorem run_append_make {P : Program} (w : World) (t u ty e : TypeId) (i : TypeInfo) (z : Value) (ht : P.underlying t = some (.slice e)) (hu : P.underlying u = some (.int .i64)) (hi : P.info? e = some i) (hz : i.zero = some z)
    (n : Nat) (h0 : 0 < n) (h63 : (n : Int) ≤ 9223372036854775807) (h48 : n * i.bytes ≤ 281474976710656) (hs0 : 0 < i.size) :
    (Builtin.append_ #[t, u] ty #[.slice none 0 0, .int .i64 n]).run P w =
      .ok (.slice (some ⟨w.heap.size, 0, none⟩) n (grownCap w n 0 e)) (w.drew.alloc (.cells (Builtin.zeroCells z.cells n ++ Builtin.zeroCells z.cells (grownCap w n 0 e - n)) e)) := by
  have hn : n ≠ 0 := by omega
  have h63' : ¬ (9223372036854775807 < (n : Int)) := by omega
  have h48' : ¬ (281474976710656 < Builtin.nextslicecap n 0 * i.bytes) := by rw [nextslicecap_zero h0]; omega
  have hw : IntKind.i64.wrap (n : Int) = n := w64 (by omega) (by omega)
  have h48'' : ¬ ((281474976710656 : Int) < (n : Int) * (i.bytes : Int)) := by
    have : ((n * i.bytes : Nat) : Int) ≤ 281474976710656 := by omega
    rw [Int.natCast_mul] at this; omega
  have hneg : ¬ ((n : Int) < 0) := by omega
  have hs0' : i.size ≠ 0 := by omega
  have hn2 : n * i.size ≠ 0 := Nat.mul_ne_zero hn hs0'
  simp [Builtin.append_, run_underlying ht, run_underlying hu, sizeOf, typeInfo, zeroValue, hi, hz, Builtin.lenOf, asInt, asIntOf, hw, hneg, h48'', hn, h63', h48', hs0', hn2, Question.forced, run_firstCells_none, newRow, grownCap]

section app
variable {P : Program} {W : World} {n : Nat} {D : List Deferred} {E : Env} {L : Hp} {ty : TypeId} {pos : String} {aft : Array Edge} {g : Option (Nat × Bool)} {T : TypeId} {x y z : Operand} {v u : Value}
theorem Slc.cap {T : TypeId} {sz : Nat} {v : Value} {n : Nat} {cs : List Value} {H : Hp} (h : Slc T sz v n cs H) : ∃ a c, v = .slice a n c ∧ n ≤ c := by
  rcases h.2 with ⟨rfl, rfl, _⟩ | ⟨b, pre, spare, cap, rfl, hc, _⟩
  · exact ⟨none, 0, rfl, Nat.le_refl _⟩
  · exact ⟨_, cap, rfl, hc⟩
theorem ef_appendV {d : Nat} {t e sz bytes : Nat} {zv : Value} {m k : Nat} {cs xs : List Value} {H R : Hp} (hx : ev E x = some v) (hs' : Slc e sz v m cs H) (hy : ev E y = some u) (hv : View L sz u k xs)
    (h1 : xs.all Value.oneCell' = true) (hbd : (m + k) * bytes ≤ 140737488355328) (hmk : m + k ≤ 9223372036854775807) (hd : Nat.blt d n = true)
    [ht : TyD P t (.slice e)] [hsz : TyS P e sz] [hby : TyB P e bytes] [hz : TyZ P e zv] (hzs : zv.cells.size = sz) [hp : Part L H R] :
    Ef P W n D ⟨some d, .call { callee := .builtin .append, args := #[x, y], argTypes := #[t, t] }, ty, pos, aft, g⟩ E L
      (fun E' L' => ∃ v' H', Slc e sz v' (m + k) (cs ++ xs) H' ∧ E' = (d, v') :: E ∧ L' = H' ++ R) := by
  obtain ⟨hl, a, c, rfl, hkc, h4⟩ := hv
  rcases h4 with rfl | ⟨b, o, cc, T, f, rfl, hm, hr⟩
  · obtain rfl : xs = [] := List.eq_nil_of_length_eq_zero (by omega)
    unfold Ef
    intro Q A w next hs ho hn
    obtain ⟨base, cap, rfl, hmc⟩ := hs'.cap
    have hr := run_append_none (P := P) w t ty e sz base m cap hmc a c
    unfold Oper.wp
    rw [BigFrame.execOp_builtin]
    simp only [BigFrame.builtin_append, List.map_toArray, List.map_cons, List.map_nil, hs.ev hx, hs.ev hy, Sem.run_bind, hr, Result.andThen_ok, Sem.run_pure]
    exact hn _ _ _ _ ⟨.slice base m cap, H, by simpa using hs', rfl, rfl⟩ (hs.put hd) (ho.part hp)
  · by_cases hk : k = 0
    · subst hk
      obtain rfl : xs = [] := List.eq_nil_of_length_eq_zero (by omega)
      unfold Ef
      intro Q A w next hs ho hn
      obtain ⟨base, cap, rfl, hmc⟩ := hs'.cap
      have hr := run_append_none (P := P) w t ty e sz base m cap hmc (some ⟨b, o, none⟩) c
      unfold Oper.wp
      rw [BigFrame.execOp_builtin]
      simp only [BigFrame.builtin_append, List.map_toArray, List.map_cons, List.map_nil, hs.ev hx, hs.ev hy, Sem.run_bind, hr, Result.andThen_ok, Sem.run_pure]
      exact hn _ _ _ _ ⟨.slice base m cap, H, by simpa using hs', rfl, rfl⟩ (hs.put hd) (ho.part hp)
    · have hb : Blk L b (.cells cc.toArray T f) := ⟨hm⟩
      exact ef_append hx hs' hy hr hl h1 (Nat.ble_eq_true_of_le (by omega)) hbd hmk hd hzs
theorem ef_appendZ {d : Nat} {t tu e sz bytes : Nat} {zv : Value} {k : Nat} (hx : ev E x = some (.slice none 0 0)) (hy : ev E y = some (.int .i64 (k : Int))) (hk0 : 0 < k) (hbd : k * bytes ≤ 140737488355328) (hmk : k ≤ 9223372036854775807) (hd : Nat.blt d n = true)
    [ht : TyD P t (.slice e)] [hu : TyD P tu (.int .i64)] [hsz : TyS P e sz] [hby : TyB P e bytes] [hz : TyZ P e zv] (hzs : zv.cells.size = sz) (hs0 : 0 < sz) :
    Ef P W n D ⟨some d, .call { callee := .builtin .append, args := #[x, y], argTypes := #[t, tu] }, ty, pos, aft, g⟩ E L
      (fun E' L' => ∃ b c cs, cs.length = c * sz ∧ k ≤ c ∧ E' = (d, .slice (some ⟨b, 0, none⟩) k c) :: E ∧ L' = (b, .cells (cs : List Value).toArray e) :: L) := by
  unfold Ef
  intro Q A w next hs ho hn
  obtain ⟨i, hi, hzi⟩ := Option.bind_eq_some_iff.1 hz.eq
  have hisz : i.size = sz := by have := hsz.eq; rw [hi] at this; simpa using this
  have hiby : i.bytes = bytes := by have := hby.eq; rw [hi] at this; simpa using this
  have hr := run_append_make (P := P) w t tu ty e i zv ht.eq hu.eq hi hzi k hk0 (by omega) (by rw [hiby]; omega) (by omega)
  unfold Oper.wp
  rw [BigFrame.execOp_builtin]
  simp only [BigFrame.builtin_append, List.map_toArray, List.map_cons, List.map_nil, hs.ev hx, hs.ev hy, Sem.run_bind, hr, Result.andThen_ok, Sem.run_pure]
  have hg := grownCap_ge w k 0 e
  refine hn _ _ _ _ ⟨w.heap.size, grownCap w k 0 e, (Builtin.zeroCells zv.cells k ++ Builtin.zeroCells zv.cells (grownCap w k 0 e - k)).toList, ?_, hg, rfl, rfl⟩ (hs.put hd) ?_
  · rw [Array.toList_append, List.length_append, zeroCells_len, zeroCells_len, hzs, ← Nat.add_mul]
    congr 1; omega
  · have := (ho.drew).alloc (.cells (Builtin.zeroCells zv.cells k ++ Builtin.zeroCells zv.cells (grownCap w k 0 e - k)) e)
    rw [Array.toArray_toList]; exact this
end app

section turns
variable {P : Program} {W : World} {n : Nat} {D : List Deferred} {E : Env} {L : Hp} {ty : TypeId} {pos : String} {aft : Array Edge} {g : Option (Nat × Bool)} {T : TypeId} {x y z : Operand} {v u : Value}
/-- A quiet operation at its turn. -/
theorem ef_pv {d : Nat} {op : Op} (h : Pv P n D E L ⟨some d, op, ty, pos, aft, g⟩ v) (hd : Nat.blt d n = true) : Ef P W n D ⟨some d, op, ty, pos, aft, g⟩ E L (fun E' L' => E' = (d, v) :: E ∧ L' = L) := by
  unfold Pv at h
  unfold Ef
  intro Q a w next hs ho hn
  unfold Oper.wp
  rw [h a w hs ho.held]
  exact hn _ _ _ _ ⟨rfl, rfl⟩ (hs.put hd) ho
theorem ef_buildSlice2 {d : Nat} {e : Nat} {zv : Value} [ht : TyD P T (.slice e)] [hk : TyS P e 1] [hz : TyZ P e zv] (hzs : zv.cells.size = 1) (hx : ev E x = some v) (hy : ev E y = some u) (hv : v.cells = #[v]) (hu : u.cells = #[u]) (hd : Nat.blt d n = true) :
    Ef P W n D ⟨some d, .buildSlice T 2 #[(0, x), (1, y)], ty, pos, aft, g⟩ E L (fun E' L' => ∃ b, E' = (d, .slice (some ⟨b, 0, none⟩) 2 2) :: E ∧ L' = (b, .cells ([v, u] : List Value).toArray e) :: L) := by
  unfold Ef
  intro Q a w next hs ho hn
  unfold Oper.wp
  have : (execOp a.eval ⟨some d, .buildSlice T 2 #[(0, x), (1, y)], ty, pos, aft, g⟩).run P w = .ok (.value (.slice (some ⟨w.heap.size, 0, none⟩) 2 2)) (w.alloc (.cells ([v, u] : List Value).toArray e)) := by
    have hfo : Instr.fill (fun i => some (i * 1, 1)) ((Array.range (2 * 1)).map (fun i => zv.cells[i % zv.cells.size]!)) [(0, v), (1, u)] = some #[v, u] := by
      obtain ⟨p, q, hpq⟩ : ∃ p q, (Array.range (2 * 1)).map (fun i => zv.cells[i % zv.cells.size]!) = #[p, q] := ⟨zv.cells[0 % zv.cells.size]!, zv.cells[1 % zv.cells.size]!, by apply Array.ext'; simp [Array.range]⟩
      rw [hpq]
      simp [Instr.fill, hv, hu]
    have hb : ¬ (2 * 1 > 2 ^ 24) := by omega
    have hb0 : ¬ (2 * 1 = 0) := by omega
    simp only [execOp, Instr.buildSlice, Sem.run_bind, TyD.run, TyS.run, Result.andThen_ok, Sem.run_ite, if_neg hb, if_neg hb0, TyZ.run, Sem.run_pure, List.map_toArray, List.map_cons, List.map_nil, hs.ev hx, hs.ev hy, hfo, newRow, run_newObj]
    rfl
  rw [this]
  exact hn _ _ _ _ ⟨_, rfl, rfl⟩ (hs.put hd) (ho.alloc _)
end turns

/-- A slice without its first element. -/
theorem Slc.tail {T : TypeId} {a : Option Addr} {n c : Nat} {x : Value} {cs : List Value} {H : Hp} (h : Slc T 1 (.slice a (n + 1) c) (n + 1) (x :: cs) H) :
    Slc T 1 (.slice (if c = 1 then a else a.map (·.add (1 * 1))) n (c - 1)) n cs H := by
  obtain ⟨hl, ⟨e, _, _⟩ | ⟨b, pre, spare, cap, e, hc, hsp, rfl⟩⟩ := h
  · cases e
  · cases e
    have hl' : cs.length = n * 1 := by simp at hl; omega
    refine ⟨hl', .inr ?_⟩
    by_cases h1 : c = 1
    · subst h1
      obtain rfl : n = 0 := by omega
      obtain rfl : cs = [] := List.eq_nil_of_length_eq_zero (by omega)
      exact ⟨b, pre, x :: spare, 0, rfl, Nat.le_refl _, by simp, by simp⟩
    · refine ⟨b, pre ++ [x], spare, c - 1, ?_, by omega, by rw [show c - 1 - n = c - (n + 1) by omega]; exact hsp, by simp⟩
      rw [if_neg h1]
      simp [Addr.add]
theorem Slc.one {T : TypeId} {sz : Nat} {v : Value} {n : Nat} {cs : List Value} {H : Hp} (h : Slc T sz v n cs H) : v.oneCell' = true := by
  obtain ⟨a, c, rfl⟩ := h.form; rfl
theorem Slc.cells1 {T : TypeId} {sz : Nat} {v : Value} {n : Nat} {cs : List Value} {H : Hp} (h : Slc T sz v n cs H) : v.cells = #[v] := by
  obtain ⟨a, c, rfl⟩ := h.form; rfl
instance (priority := 700) SegIn.appL {S T L : Hp} [h : SegIn T S] : SegIn (T ++ L) S := ⟨fun p hp => List.mem_append_left _ (h.sub p hp)⟩
theorem Pv.is {P : Program} {n : Nat} {D : List Deferred} {E : Env} {L : Hp} {o : Oper} {v u : Value} (h : Pv P n D E L o v) (e : v = u) : Pv P n D E L o u := e ▸ h
end Go.SL
