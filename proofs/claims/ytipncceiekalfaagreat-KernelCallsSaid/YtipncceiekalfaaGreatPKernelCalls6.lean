/- KernelCalls. Laid together by pack.py out of the texts in wip. -/
import Derived.Test.YtipncceiekalfaaGreatPKernelCalls5
set_option linter.unusedVariables false
set_option linter.unusedSimpArgs false
set_option linter.unusedSectionVars false
section
set_option linter.unusedVariables false
set_option linter.unusedSimpArgs false
set_option linter.unusedSectionVars false
namespace Go.Proofs.YtipncceiekalfaaGreat
open Go.SL
def irqL (ch : Nat → Nat) (i j : Nat) : List Value := if j < i then [.chan (some (ch j)), .int .i64 (-1), .bool true] else [.chan none, .int .i64 0, .bool false]
def irqC (ch : Nat → Nat) (i : Nat) : List Value := irqL ch i 0 ++ (irqL ch i 1 ++ (irqL ch i 2 ++ (irqL ch i 3 ++ (irqL ch i 4 ++ (irqL ch i 5 ++ (irqL ch i 6 ++ irqL ch i 7))))))
theorem irqC_set (ch : Nat → Nat) (b : Nat) {i : Nat} (h : i < 8) : SetL (irqC ch i) (i * 3) [.chan (some b), .int .i64 (-1), .bool true] (irqC (fset ch i b) (i + 1)) := by
 match i, h with
 | 0, _ => exact (inferInstance : SetL [.chan none, .int .i64 0, .bool false, .chan none, .int .i64 0, .bool false, .chan none, .int .i64 0, .bool false, .chan none, .int .i64 0, .bool false, .chan none, .int .i64 0, .bool false, .chan none, .int .i64 0, .bool false, .chan none, .int .i64 0, .bool false, .chan none, .int .i64 0, .bool false] 0 [.chan (some b), .int .i64 (-1), .bool true] _)
 | 1, _ => exact (inferInstance : SetL [.chan (some (ch 0)), .int .i64 (-1), .bool true, .chan none, .int .i64 0, .bool false, .chan none, .int .i64 0, .bool false, .chan none, .int .i64 0, .bool false, .chan none, .int .i64 0, .bool false, .chan none, .int .i64 0, .bool false, .chan none, .int .i64 0, .bool false, .chan none, .int .i64 0, .bool false] 3 [.chan (some b), .int .i64 (-1), .bool true] _)
 | 2, _ => exact (inferInstance : SetL [.chan (some (ch 0)), .int .i64 (-1), .bool true, .chan (some (ch 1)), .int .i64 (-1), .bool true, .chan none, .int .i64 0, .bool false, .chan none, .int .i64 0, .bool false, .chan none, .int .i64 0, .bool false, .chan none, .int .i64 0, .bool false, .chan none, .int .i64 0, .bool false, .chan none, .int .i64 0, .bool false] 6 [.chan (some b), .int .i64 (-1), .bool true] _)
 | 3, _ => exact (inferInstance : SetL [.chan (some (ch 0)), .int .i64 (-1), .bool true, .chan (some (ch 1)), .int .i64 (-1), .bool true, .chan (some (ch 2)), .int .i64 (-1), .bool true, .chan none, .int .i64 0, .bool false, .chan none, .int .i64 0, .bool false, .chan none, .int .i64 0, .bool false, .chan none, .int .i64 0, .bool false, .chan none, .int .i64 0, .bool false] 9 [.chan (some b), .int .i64 (-1), .bool true] _)
 | 4, _ => exact (inferInstance : SetL [.chan (some (ch 0)), .int .i64 (-1), .bool true, .chan (some (ch 1)), .int .i64 (-1), .bool true, .chan (some (ch 2)), .int .i64 (-1), .bool true, .chan (some (ch 3)), .int .i64 (-1), .bool true, .chan none, .int .i64 0, .bool false, .chan none, .int .i64 0, .bool false, .chan none, .int .i64 0, .bool false, .chan none, .int .i64 0, .bool false] 12 [.chan (some b), .int .i64 (-1), .bool true] _)
 | 5, _ => exact (inferInstance : SetL [.chan (some (ch 0)), .int .i64 (-1), .bool true, .chan (some (ch 1)), .int .i64 (-1), .bool true, .chan (some (ch 2)), .int .i64 (-1), .bool true, .chan (some (ch 3)), .int .i64 (-1), .bool true, .chan (some (ch 4)), .int .i64 (-1), .bool true, .chan none, .int .i64 0, .bool false, .chan none, .int .i64 0, .bool false, .chan none, .int .i64 0, .bool false] 15 [.chan (some b), .int .i64 (-1), .bool true] _)
 | 6, _ => exact (inferInstance : SetL [.chan (some (ch 0)), .int .i64 (-1), .bool true, .chan (some (ch 1)), .int .i64 (-1), .bool true, .chan (some (ch 2)), .int .i64 (-1), .bool true, .chan (some (ch 3)), .int .i64 (-1), .bool true, .chan (some (ch 4)), .int .i64 (-1), .bool true, .chan (some (ch 5)), .int .i64 (-1), .bool true, .chan none, .int .i64 0, .bool false, .chan none, .int .i64 0, .bool false] 18 [.chan (some b), .int .i64 (-1), .bool true] _)
 | 7, _ => exact (inferInstance : SetL [.chan (some (ch 0)), .int .i64 (-1), .bool true, .chan (some (ch 1)), .int .i64 (-1), .bool true, .chan (some (ch 2)), .int .i64 (-1), .bool true, .chan (some (ch 3)), .int .i64 (-1), .bool true, .chan (some (ch 4)), .int .i64 (-1), .bool true, .chan (some (ch 5)), .int .i64 (-1), .bool true, .chan (some (ch 6)), .int .i64 (-1), .bool true, .chan none, .int .i64 0, .bool false] 21 [.chan (some b), .int .i64 (-1), .bool true] _)
instance : TyZ Tryz.prog 209 (.agg [.chan none, .int .i64 0, .bool false, .chan none, .int .i64 0, .bool false, .chan none, .int .i64 0, .bool false, .chan none, .int .i64 0, .bool false, .chan none, .int .i64 0, .bool false, .chan none, .int .i64 0, .bool false, .chan none, .int .i64 0, .bool false, .chan none, .int .i64 0, .bool false].toArray) := ⟨by kernel_rfl⟩
instance : TyD Tryz.prog 204 (.chan .both 225) := ⟨by kernel_rfl⟩
instance {x : Option Nat} : Cells (.chan x) [.chan x] := ⟨rfl⟩
instance : TyZ Tryz.prog 206 (.agg [.chan none, .int .i64 0, .bool false].toArray) := ⟨by kernel_rfl⟩
def chS (ch : Nat → Nat) (i : Nat) : Hp := segs (fun j => [(ch j, chO false)]) i
theorem chS_more (ch : Nat → Nat) (b i : Nat) : chS (fset ch i b) (i + 1) = chS ch i ++ [(b, chO false)] := by
 unfold chS
 rw [segs_succ, fset_same]
 congr 1
 exact segs_congr (fun j hj => by rw [fset_ne (by omega)])
set_option maxHeartbeats 4000000 in
theorem tr_qNew  : Tr Tryz.prog 43 [] ([]) (fun u L' => ∃ ib, u = .pointer (some ⟨ib, 0, none⟩) ∧ IrqH (List.replicate 8 LineM.new) ib L') := by
 refine Tr.enter Tryz.func43 rfl Tryz.ntmps43 rfl (fun W F => ?_)
 refine Wp.app ?_
 refine zq [3,4,1,2,5,3,4,23] ?_
 refine zB fun b1 => ?_
 refine zq [1,2,5,3,3,4] ?_
 refine Ops.heap (L' := (b1, .cells (irqC (fun _ => 0) 0).toArray 209) :: (chS (fun _ => 0) 0 ++ F)) (fun w ho => ho) ?_
 refine zq [0,2,5,20] ?_
 refine Wp.loopK (σ := Nat × (Nat → Nat)) [(1, _)] (fun s => [(5, .int .i64 s.1)]) (fun s => (b1, .cells (irqC s.2 s.1).toArray 209) :: (chS s.2 s.1 ++ F)) (fun s => s.1 ≤ 8) (fun s => 8 - s.1) (0, fun _ => 0) (Nat.zero_le _) ⟨rfl, trivial⟩ ⟨rfl, trivial⟩ (by intro w ho; (try dsimp only [List.nil_append, List.cons_append]); exact Drop.own ho) ?_
 rintro ⟨i, ch⟩ KK hi hK
 dsimp only [List.cons_append, List.nil_append] at hK ⊢
 dsimp only at hi ⊢
 refine zq [3,4,42,2,5,3] ?_
 refine Wp.cond_dect rfl (fun h1 => ?_) (fun h1 => ?_)
 ·
  have hi8 : i < 8 := by omega
  haveI hset := fun b => irqC_set ch b hi8
  refine zq [11,5,3,20,3,4,0,1,2,5] ?_
  refine AnyH.start [] 8 rfl ?_
  refine zd [0,1,1,1,4,3,5,0] ?_
  refine AnyH.one 2 (by kernel_rfl) ?_
  refine Turn.ef rfl rfl (ef_makeChan (k := 1) rfl (by decide) (by decide) rfl) ?_ ?_
  ·
   rintro _ _ ⟨b2, rfl, rfl⟩; infer_instance
  rintro _ _ ⟨b2, rfl, rfl⟩
  refine zd [3,9] ?_
  refine Tk 6 rfl rfl (pv_indexAddrN (i := i) (o2 := i * 3) rfl rfl (by omega) (by omega) (by omega)) rfl ?_
  refine zK 7 ?_
  refine AnyH.done (by kernel_rfl) ?_
  refine zq [19,5,4] ?_
  refine Ops.heap (L' := (b1, .cells (irqC (fset ch i b2) (i + 1)).toArray 209) :: (chS (fset ch i b2) (i + 1) ++ F)) (fun w ho => by rw [chS_more, List.append_assoc]; have h2 : Own W w ((b1, .cells (irqC (fset ch i b2) (i + 1)).toArray 209) :: (chS ch i ++ ((b2, .chan 1 #[] false 0 0 false) :: F))) := Drop.own ho; exact h2) ?_
  refine Ops.pv (pv_add rfl rfl (w64n (k := i + 1) (by omega) (by omega))) rfl ?_
  refine zq [0,2,49] ?_
  refine Goes.back (hK (i + 1, fset ch i b2) (by dsimp only; omega) (by dsimp only; omega)) ⟨rfl, rfl, trivial⟩
 obtain rfl : i = 8 := by omega
 refine zq [41,16,16,40,5,3,4,0,1,2,5,10] ?_
 exact Ends.ret (L' := (b1, .cells (irqC ch 8).toArray 209) :: chS ch 8) (res1 rfl rfl) ⟨b1, rfl, ch, rfl⟩
theorem tr_kTlbNew  : Tr Tryz.prog 44 [] ([]) (fun u L' => ∃ tb, u = .pointer (some ⟨tb, 0, none⟩) ∧ TlbH [] tb L') := by
 refine Tr.enter Tryz.func44 rfl Tryz.ntmps44 rfl (fun W F => ?_)
 refine Wp.app ?_
 refine zq [3,4,1,2,5,3,4,23] ?_
 refine zB fun b1 => ?_
 refine zq [1,2,5,10] ?_
 exact Ends.ret (L' := (b1, .cells [.slice none 0 0].toArray 212) :: []) (res1 rfl rfl) ⟨b1, rfl, _, [], Slc.nil _ _, rfl⟩
instance : TyZ Tryz.prog 93 (.agg [.pointer none, .pointer none, .map none, .pointer none, .bool false, .int .i64 0, .int .u64 0, .bool false, .int .i64 0, .int .u64 0, .bool false, .int .i64 0, .int .u64 0, .bool false, .int .i64 0, .int .u64 0, .bool false, .int .i64 0, .int .u64 0, .bool false, .int .i64 0, .int .u64 0, .bool false, .int .i64 0, .int .u64 0, .bool false, .int .i64 0, .int .u64 0, .pointer none, .pointer none].toArray) := ⟨by kernel_rfl⟩
theorem tr_sNewY (G : Hp) (a : Option Addr) (c : Nat) (T : Ones) (hv : View G 2 (.slice a T.length c) T.length (cel oneC T)) (hl : T.length ≤ 2 ^ 30) (hT : tmsOk T) : Tr Tryz.prog 41 [.slice a T.length c] (G) (fun u L' => ∃ sb H, u = .tuple #[.pointer (some ⟨sb, 0, none⟩), .int .i64 0] ∧ SchH T 0 (tkd T 0).2 (fun _ => []) sb H ∧ L' = H ++ G) :=
  (tr_sNew G a c T hv hl).mono (by
    rintro v L' (⟨_, h⟩ | ⟨h, _⟩)
    · exact h
    · exact absurd hT h)
def Kn.new (n : Nat) (T : Ones) : Kn := ⟨List.replicate n 0, PS.new, 0, [], [], 0, fun _ => .zero, List.replicate 8 .new, T, 0, (tkd T 0).2, fun _ => [], []⟩
set_option maxHeartbeats 4000000 in
theorem tr_kNew (G : Hp) (n : Nat) (hn1 : 64 ≤ n) (hn2 : n ≤ 65536) (a : Option Addr) (c : Nat) (T : Ones) (hv : View G 2 (.slice a T.length c) T.length (cel oneC T)) (hl : T.length ≤ 2 ^ 30) (hT : tmsOk T) (ad : Nat → Ad) : Tr Tryz.prog 22 [.int .i64 n, .slice a T.length c] (G) (fun u L' => ∃ kb A L1, u = .tuple #[.pointer (some ⟨kb, 0, none⟩), .int .i64 0] ∧ KH (Kn.new n T) A ad kb L1 ∧ L' = L1 ++ G) := by
 refine Tr.enter Tryz.func22 rfl Tryz.ntmps22 rfl (fun W F => ?_)
 refine Wp.app ?_
 refine zq [3,4,1,1,2,5,3,4,0] ?_
 refine zD (tr_memNew n hn1 hn2) ?_
 rintro _ _ ⟨mb1, wb1, rfl, rfl⟩
 refine Ops.app ?_
 refine zq [0,7,7,1,1,2,5,3,3,4,0,67,2,5,17,11,5,3,4,0] ?_
 refine zD (tr_sNewY G a c T hv hl hT) ?_
 rintro _ _ ⟨sb1, Hs1, rfl, hs1, rfl⟩
 refine Ops.app ?_
 refine zq [0,7,7,1,1,2,5,3,3,4,0,67,2,5,17,11,5,3,4,0] ?_
 refine zD tr_mNew ?_
 rintro _ C1 ⟨cb1, rfl, hc1⟩
 refine Ops.app ?_
 refine Ops.ef rfl (ef_makeMap rfl rfl) ?_
 rintro _ _ ⟨b1, rfl, rfl⟩
 refine zD tr_qNew ?_
 rintro _ Q1 ⟨ib1, rfl, hq1⟩
 refine Ops.app ?_
 refine zq [0] ?_
 refine zD tr_kTlbNew ?_
 rintro _ Z1 ⟨tb1, rfl, ht1⟩
 refine Ops.app ?_
 refine zq [23] ?_
 refine zB fun b2 => ?_
 refine zq [1,1,2,5,10] ?_
 exact Ends.ret (L' := (b2, kerO ⟨mb1, wb1, cb1, b1, ib1, sb1, tb1⟩ (fun _ => .zero)) :: (b1, .map #[] 0) :: (mb1, .cells [.slice (some ⟨wb1, 0, none⟩) n n].toArray 193) :: (wb1, .cells (wordsC (List.replicate n 0)).toArray 22) :: (Q1 ++ (C1 ++ (Hs1 ++ (Z1 ++ G))))) (res2 rfl rfl rfl) ⟨b2, ⟨mb1, wb1, cb1, b1, ib1, sb1, tb1⟩, _, rfl, ⟨Q1, C1, Hs1, Z1, [], hq1, hc1, hs1, ht1, ⟨fun _ => [], fun i en h => by simp [Kn.new] at h, rfl⟩, rfl⟩, by simp [mapO, entsL, kvM, Kn.new]⟩
end Go.Proofs.YtipncceiekalfaaGreat
end
section
set_option linter.unusedVariables false
set_option linter.unusedSimpArgs false
set_option linter.unusedSectionVars false
namespace Go.Proofs.YtipncceiekalfaaGreat
open Go.SL
theorem KW.new {n : Nat} (h1 : 64 ≤ n) (h2 : n ≤ 65536) {T : Ones} (hT : tmsOk T) : KW (Kn.new n T) :=
  ⟨by simp [Kn.new]; exact ⟨h1, h2⟩, WdOk.new n, by simp [Kn.new], fun e h => by simp [Kn.new] at h, by simp [Kn.new], At.start hT, RdysW.nil, fun d hd => N64.nil, fun i en h => by simp [Kn.new] at h, fun x h => by simp [Kn.new] at h, by simp [Kn.new]⟩
theorem fresh_ok (kd : Int) : ThOk (freshT kd) := by
 unfold freshT
 repeat' split
 all_goals first
  | trivial
  | exact ⟨⟨⟨by decide, by decide, by decide, by decide, by decide, by decide, by decide, RegsM.zero_ok⟩, by decide⟩, .inl rfl⟩
  | exact N64.nil
  | exact ⟨N64.nil, by decide⟩
theorem KW.made {k : Kn} (h : KW k) {n kd size : Int} {q : Int × Int} (hc : createE k n kd q size = 0) : KW (k.made n kd q size) := by
 obtain ⟨f1, f2, f3, f4, f5, f6⟩ := create_facts hc
 have hl : (if kd ≠ 1 then memZero k.ws q.1 (pw q.2) else k.ws).length = k.ws.length := by split; exact memZero_len ..; rfl
 refine ⟨by unfold Kn.made; dsimp only; rw [hl]; exact h.len, ?_, h.nk, ?_, ⟨h.q.1, ?_⟩, h.at_, h.rw, h.rr, ?_, h.tk⟩
 ·
  unfold Kn.made; dsimp only; split
  ·
   exact h.wok.zero _ _
  ·
   exact h.wok
 ·
  intro e he
  unfold Kn.made at he ⊢
  dsimp only at he ⊢
  rw [List.length_append, List.length_singleton]
  rcases List.mem_append.1 he with he | he
  ·
   have := h.mp e he; omega
  ·
   simp at he; subst he; dsimp only; omega
 ·
  unfold Kn.made
  dsimp only
  rw [List.map_append, List.nodup_append]
  refine ⟨h.q.2, by simp, fun a ha b hb => ?_⟩
  simp at hb; subst hb
  obtain ⟨e, he, rfl⟩ := List.mem_map.1 ha
  have := (h.mp e he).2.2.2; omega
 ·
  intro i en hi
  unfold Kn.made at hi
  dsimp only at hi
  rcases Nat.lt_or_ge i k.ar.length with hlt | hge
  ·
   rw [List.getElem?_append_left hlt] at hi; exact h.ths i en hi
  ·
   rw [List.getElem?_append_right hge] at hi
   have h0 : i - k.ar.length = 0 := by have := lt_of_some hi; simp at this; omega
   rw [h0] at hi; simp at hi; subst hi; exact fresh_ok kd
theorem KW.plant {k : Kn} (h : KW k) (s : SlotM) (c : CapM) (hn : k.nk < 2 ^ 18) : KW (k.plant s c).2 := by
 unfold Kn.plant
 split
 ·
  exact h
 ·
  exact ⟨h.len, h.wok, by dsimp only; omega, h.mp, h.q, h.at_, h.rw, h.rr, h.ths, h.tk⟩
theorem KW.setW {k : Kn} (h : KW k) {ws : List Int} (hl : ws.length = k.ws.length) (hw : WdOk ws) : KW { k with ws := ws } :=
  ⟨by dsimp only; rw [hl]; exact h.len, hw, h.nk, h.mp, h.q, h.at_, h.rw, h.rr, h.ths, h.tk⟩
theorem table_ok {ws : List Int} (h : WdOk ws) (d a t : Int) : WdOk (tableW ws d a t) := by
 unfold tableW; split
 ·
  exact h
 ·
  exact applyW_ok h _ (setF_u64 _ _)
theorem smap_ok {ws : List Int} (h : WdOk ws) (d a t : Int) (wr : Bool) : WdOk (smapW ws d a t wr) := by
 unfold smapW; split
 ·
  exact h
 ·
  exact applyW_ok h _ (setF_u64 _ _)
end Go.Proofs.YtipncceiekalfaaGreat
end
section
set_option linter.unusedVariables false
set_option linter.unusedSimpArgs false
set_option linter.unusedSectionVars false
namespace Go.Proofs.YtipncceiekalfaaGreat
open Go.SL
abbrev rootM : CapM := ⟨2, 0, 0, 0, 0, 12⟩
def one0 : Kn := Kn.new 256 [(0, 3)]
def one1 : Kn := one0.made 0 2 (0, 5) 4
def one2 : Kn := one1.made 1 8 (32, 4) 0
def one3 : Kn := one2.made 2 7 (48, 4) 0
def one4 : Kn := one3.made 3 6 (64, 4) 0
def one5 : Kn := one4.made 4 3 (80, 4) 0
def mapK (k : Kn) (n into a : Int) (wr : Bool) : Kn := k.map n into a wr
def one6 : Kn := mapK one5 2 1 0 false
def one7 : Kn := mapK one6 3 1 0 true
def one8 : Kn := (one7.plant (0, 15) rootM).2
def pokeW (ws : List Int) (at_ : Int) : List Int → List Int
  | [] => ws
  | v :: l => pokeW (memPut ws at_ v) (at_ + 1) l
theorem pokeW_len : ∀ (l : List Int) (ws : List Int) (a : Int), (pokeW ws a l).length = ws.length
  | [], _, _ => rfl
  | v :: l, ws, a => by show (pokeW (memPut ws a v) (a + 1) l).length = _; rw [pokeW_len l, memPut_len]
theorem pokeW_ok : ∀ (l : List Int) {ws : List Int} (a : Int), WdOk ws → (∀ x, x ∈ l → U64 x) → WdOk (pokeW ws a l)
  | [], _, _, h, _ => h
  | v :: l, ws, a, h, hl => pokeW_ok l (a + 1) (h.put a (hl v (List.mem_cons_self ..))) (fun x hx => hl x (List.mem_cons_of_mem _ hx))
theorem pokeW_snoc : ∀ (l : List Int) (ws : List Int) (a v : Int), pokeW ws a (l ++ [v]) = memPut (pokeW ws a l) (a + l.length) v
  | [], ws, a, v => by show memPut ws a v = _; simp [pokeW]
  | x :: l, ws, a, v => by
    show pokeW (memPut ws a x) (a + 1) (l ++ [v]) = memPut (pokeW (memPut ws a x) (a + 1) l) _ v
    rw [pokeW_snoc l, List.length_cons]
    congr 1
    push_cast; omega
def oneP (code : List Int) : Kn := { one8 with ws := pokeW one8.ws 64 (code.take 16) }
def oneS (code : List Int) : Kn := { oneP code with ar := setA (oneP code).ar 4 (.thr ⟨0, 0, 0, false, -1, 1, 0, 0, .zero⟩ rootM 1 (-1)) }
def oneK (code : List Int) : Kn := (oneS code).start 4
theorem one_c1 : createE one0 0 2 (0, 5) 4 = 0 := by decide +kernel
theorem one_c2 : createE one1 1 8 (32, 4) 0 = 0 := by decide +kernel
theorem one_c3 : createE one2 2 7 (48, 4) 0 = 0 := by decide +kernel
theorem one_c4 : createE one3 3 6 (64, 4) 0 = 0 := by decide +kernel
theorem one_c5 : createE one4 4 3 (80, 4) 0 = 0 := by decide +kernel
theorem one_p8 : (one7.plant (0, 15) rootM).1 = 0 := by decide +kernel
def yieldF (k : Kn) (n : Int) (i : Nat) (c : Int) : Kn × Bool := if c = 7 then (({ k with L := syL k.L n } : Kn).tell i 0, false) else (k, false)
def codeN (op a b imm : Nat) : Nat := op + 32 * a + 256 * b + 2048 * imm
abbrev workC : List Int := [((codeN 1 0 0 7 : Nat) : Int), ((codeN 16 0 0 7 : Nat) : Int), 0]
def work0 : Kn := oneK workC
def work1 : Kn := (work0.step yieldF).1
def work2 : Kn := (work1.step yieldF).1
def work3 : Kn := (work2.step yieldF).1
theorem work_r1 : (work0.step yieldF).2 = true ∧ (thrT work1 4).regs.r0 = 7 ∧ (thrT work1 4).pc = 1 := by decide +kernel
theorem work_r2 : (thrT work2 4).regs.r0 = 0 ∧ (thrT work2 4).pc = 2 := by decide +kernel
theorem work_r3 : (work3.thr 4).isSome = true ∧ (thrT work3 4).st = 0 := by decide +kernel
theorem work_r5 : work3.free 0 = false ∧ (work3.plant (0, 1) ⟨4, 9, 0, 0, 0, 0⟩).1 = 3 := by decide +kernel
theorem work_b : (work1.step yieldF).2 = true ∧ (work2.step yieldF).2 = true := by decide +kernel
end Go.Proofs.YtipncceiekalfaaGreat
end
section
set_option linter.unusedVariables false
set_option linter.unusedSimpArgs false
set_option linter.unusedSectionVars false
namespace Go.Proofs.YtipncceiekalfaaGreat
open Go.SL
theorem tr_lCode (op a b imm : Nat) (h1o : op < 32) (h2a : a < 8) (h3b : b < 8) (h4i : imm < 4096) : TrR Tryz.prog 10 [.int .i64 op, .int .i64 a, .int .i64 b, .int .i64 imm] ([]) (.int .u64 (codeN op a b imm : Nat)) := by
 have e1 : (op : Int).tmod 32 = (op : Nat) := by rw [Int.tmod_eq_emod_of_nonneg (by omega)]; omega
 have e2 : (a : Int).tmod 8 = (a : Nat) := by rw [Int.tmod_eq_emod_of_nonneg (by omega)]; omega
 have e3 : (b : Int).tmod 8 = (b : Nat) := by rw [Int.tmod_eq_emod_of_nonneg (by omega)]; omega
 have e4 : (imm : Int).tmod 4096 = (imm : Nat) := by rw [Int.tmod_eq_emod_of_nonneg (by omega)]; omega
 refine Tr.enter Tryz.func10 rfl Tryz.ntmps10 rfl (fun W F => ?_)
 refine Wp.app ?_
 refine zq [3,4,1,2,5,3,4,0] ?_
 refine Ops.pv (pv_rem rfl rfl (by decide) e1) rfl ?_
 refine zq [0] ?_
 refine Ops.pv (pv_rem rfl rfl (by decide) e2) rfl ?_
 refine Ops.pv (pv_mul rfl rfl (w64n (k := 32 * a) (by omega) (by omega))) rfl ?_
 refine Ops.pv (pv_add rfl rfl (w64n (k := op + 32 * a) (by omega) (by omega))) rfl ?_
 refine zq [0] ?_
 refine Ops.pv (pv_rem rfl rfl (by decide) e3) rfl ?_
 refine Ops.pv (pv_mul rfl rfl (w64n (k := 256 * b) (by omega) (by omega))) rfl ?_
 refine Ops.pv (pv_add rfl rfl (w64n (k := op + 32 * a + 256 * b) (by omega) (by omega))) rfl ?_
 refine zq [0] ?_
 refine Ops.pv (pv_rem rfl rfl (by decide) e4) rfl ?_
 refine Ops.pv (pv_mul rfl rfl (w64n (k := 2048 * imm) (by omega) (by omega))) rfl ?_
 refine Ops.pv (pv_add rfl rfl (w64n (k := codeN op a b imm) (by unfold codeN; omega) (by unfold codeN; omega))) rfl ?_
 refine Ops.pv (pv_conv rfl (u64n (k := codeN op a b imm) rfl (by unfold codeN; omega))) rfl ?_
 refine zq [1,2,5,10] ?_
 exact zr ⟨rfl, rfl⟩
theorem tr_lSys (n : Nat) (hn : n < 4096) : TrR Tryz.prog 17 [.int .i64 n] ([]) (.int .u64 (codeN 16 0 0 n : Nat)) := by
 refine Tr.enter Tryz.func17 rfl Tryz.ntmps17 rfl (fun W F => ?_)
 refine Wp.app ?_
 refine zq [3,4,1,2,5,3,4,0] ?_
 refine zC (tr_lCode 16 0 0 n (by decide) (by decide) (by decide) hn) ?_
 refine zq [1,2,5,10] ?_
 exact zr ⟨rfl, rfl⟩
theorem tr_lState (k : Kn) (A : KA) (ad : Nat → Ad) (kb : Nat) (L : Hp) (hK : KH k A ad kb L) (hw : KW k) (n : Int) : TrR Tryz.prog 14 [pV kb, .int .i64 n] (L) (.int .i64 (thrT k n).st) := by
 refine Tr.enter Tryz.func14 rfl Tryz.ntmps14 rfl (fun W F => ?_)
 refine Wp.app ?_
 refine zq [3,4,1,2,5,3,4,0,0] ?_
 refine zC (tr_kThread k A ad kb L hK hw n) ?_
 refine zq [0,7,7] ?_
 refine zA fun b1 => ?_
 refine zq [14,1,2,5,3,4,6,8,1,2,5,10] ?_
 exact zr ⟨rfl, rfl⟩
theorem tr_to (G : Hp) (a : Option Addr) (c : Nat) (T : Ones) (hv : View G 2 (.slice a T.length c) T.length (cel oneC T)) (hl : T.length ≤ 2 ^ 30) : Tr Tryz.prog 23 [.slice a T.length c] (G) (fun u L' => ∃ H, Slc 132 2 u T.length (cel oneC T) H ∧ L' = H ++ G) := by
 refine Tr.enter Tryz.func23 rfl Tryz.ntmps23 rfl (fun W F => ?_)
 refine Wp.app ?_
 refine zq [3,4,1,2,5,3,4,1,2,5,3,3,4,1,2,5,20] ?_
 refine Wp.loopK (σ := Nat × Value × Hp) [(0, _)] (fun s => [(3, s.2.1), (4, .int .i64 s.1)]) (fun s => s.2.2 ++ (G ++ F)) (fun s => s.1 ≤ T.length ∧ Slc 132 2 s.2.1 (T.take s.1).length (cel oneC (T.take s.1)) s.2.2) (fun s => T.length - s.1) (0, .slice none 0 0, []) ⟨Nat.zero_le _, Slc.nil _ _⟩ ⟨rfl, trivial⟩ ⟨rfl, rfl, trivial⟩ (by intro w ho; (try dsimp only [List.nil_append, List.cons_append]); exact Drop.own ho) ?_
 rintro ⟨i, w, H⟩ KK ⟨hi, hs⟩ hK
 dsimp only [List.cons_append, List.nil_append] at hK ⊢
 dsimp only at hi hs ⊢
 refine zq [3,3,4,0,0] ?_
 refine Ops.pv (pv_len_slice (T := 60) rfl rfl) rfl ?_
 refine zq [42,2,5] ?_
 refine Wp.cond_dect rfl (fun h1 => ?_) (fun h1 => ?_)
 ·
  obtain ⟨b, o, cap, cc, T0, f, hv1, hbv, hr⟩ := hv.open (by omega)
  cases hv1
  obtain ⟨q0, q1⟩ := one_read hr (tkd_get (show i < T.length by omega))
  have htt : T.take (i + 1) = T.take i ++ [tkd T i] := by rw [List.take_add_one, tkd_get (show i < T.length by omega)]; rfl
  have htl : (T.take i).length ≤ T.length := by simp; omega
  refine zq [11,5,3,20] ?_
  refine AnyH.start G 15 rfl ?_
  refine zd [0,1,1,1,2,1] ?_
  refine Tk 3 rfl rfl (pv_indexAddr rfl rfl rfl (by omega)) rfl ?_
  refine zd [4,6] ?_
  refine Tk 5 rfl rfl (pv_load rfl rfl (by assumption)) rfl ?_
  refine zd [6,1,7,1] ?_
  refine Tk 8 rfl rfl (pv_indexAddr rfl rfl rfl (by omega)) rfl ?_
  refine zd [9,6] ?_
  refine Tk 10 rfl rfl (pv_load rfl rfl (by assumption)) rfl ?_
  refine zd [11,9] ?_
  refine AnyH.one 12 (by kernel_rfl) ?_
  refine Turn.ef rfl rfl (ef_buildSlice1 (k := 2) rfl rfl rfl rfl rfl) ?_ ?_
  ·
   rintro _ _ ⟨b1, rfl, rfl⟩; infer_instance
  rintro _ _ ⟨b1, rfl, rfl⟩
  refine AnyH.one 13 (by kernel_rfl) ?_
  refine Turn.ef rfl rfl (ef_append (H := H) (xs := [.int .i64 (tkd T i).1, .int .i64 (tkd T i).2]) rfl hs rfl ⟨rfl, rfl, trivial⟩ rfl rfl rfl (by omega) (by omega) rfl rfl) ?_ ?_
  ·
   rintro _ _ ⟨v1, H1, hs1, rfl, rfl⟩; infer_instance
  rintro _ _ ⟨v1, H1, hs1, rfl, rfl⟩
  refine AnyH.app ?_
  skip
  refine zd [14,5] ?_
  refine AnyH.done (by kernel_rfl) ?_
  refine zq [19,5,4,0,52,1,2,49] ?_
  refine Goes.back (hK (i + 1, v1, H1) ⟨by dsimp only; omega, by dsimp only; rw [htt, List.length_append, cel_app, cel_one1]; exact hs1⟩ (by dsimp only; omega)) ⟨rfl, rfl, rfl, trivial⟩
 refine zq [41,16,16,40,5,3,4,0,1,2,5,10] ?_
 obtain rfl : i = T.length := by omega
 rw [List.take_length] at hs
 exact Ends.ret (L' := H ++ G) (res1 rfl rfl) ⟨H, hs, rfl⟩
theorem one_w0 : KW one0 := KW.new (by decide) (by decide) (by decide)
theorem one_w1 : KW one1 := one_w0.made one_c1
theorem one_w2 : KW one2 := one_w1.made one_c2
theorem one_w3 : KW one3 := one_w2.made one_c3
theorem one_w4 : KW one4 := one_w3.made one_c4
theorem one_w5 : KW one5 := one_w4.made one_c5
def one6M : Kn := { one5 with ws := tableW one5.ws 32 0 48, ar := setA one5.ar 2 (.page 7 true 1 0) }
def one7M : Kn := { one6M with ws := smapW one6M.ws 32 0 64 true, ar := setA one6M.ar 3 (.page 6 true 1 0) }
theorem one6_e : one6 = one6M := by kernel_rfl
theorem one7_e : one7 = one7M := by kernel_rfl
set_option maxRecDepth 20000 in
theorem one_w6 : KW one6 := by
 rw [one6_e]
 exact (one_w5.setW (ws := tableW one5.ws 32 0 48) (table_len ..) (table_ok one_w5.wok _ _ _)).setA (i := 2) (th := .page 7 true 1 0) trivial
set_option maxRecDepth 20000 in
theorem one_w7 : KW one7 := by
 rw [one7_e]
 have h6 : KW one6M := one_w6
 exact (h6.setW (ws := smapW one6M.ws 32 0 64 true) (smap_len ..) (smap_ok h6.wok _ _ _ _)).setA (i := 3) (th := .page 6 true 1 0) trivial
theorem one_w8 : KW one8 := one_w7.plant _ _ (by decide +kernel)
theorem tr_one6 {A : KA} {ad : Nat → Ad} {kb : Nat} {L : Hp} (hK : KH one5 A ad kb L) : Tr Tryz.prog 29 [pV kb, .int .i64 2, .int .i64 1, .int .i64 0, .bool false] L (fun u L' => u = .int .i64 0 ∧ KH one6 A ad kb L') := by
 have h := tr_kMapTable one5 A ad kb L hK one_w5 2 1 (i := 2) (j := 1) (q := 7) (s0 := -1) (a0 := 0) (sp := (48, 4)) (en := ⟨.spc, (32, 4)⟩) (by decide +kernel) (by kernel_rfl) (by decide +kernel) (by kernel_rfl) rfl 0 (by decide) false rfl
 have e0 : tableE one5.ws 32 0 48 = 0 := by decide +kernel
 refine h.mono ?_
 rintro v L' ⟨rfl, h2⟩
 refine ⟨congrArg _ e0, ?_⟩
 rw [if_pos e0] at h2
 rw [one6_e]
 exact h2
theorem tr_one7 {A : KA} {ad : Nat → Ad} {kb : Nat} {L : Hp} (hK : KH one6 A ad kb L) : Tr Tryz.prog 29 [pV kb, .int .i64 3, .int .i64 1, .int .i64 0, .bool true] L (fun u L' => u = .int .i64 0 ∧ KH one7 A ad kb L') := by
 have h := tr_kMapFrame one6 A ad kb L hK one_w6 3 1 (i := 3) (j := 1) (q := 6) (s0 := -1) (a0 := 0) (sp := (64, 4)) (en := ⟨.spc, (32, 4)⟩) (by decide +kernel) (by kernel_rfl) (by decide +kernel) (by kernel_rfl) rfl 0 (by decide) true (by decide)
 have e0 : smapE one6.ws 32 0 64 true = 0 := by decide +kernel
 refine h.mono ?_
 rintro v L' ⟨rfl, h2⟩
 refine ⟨congrArg _ e0, ?_⟩
 rw [if_pos e0] at h2
 rw [one7_e]
 rw [one6_e] at h2
 exact h2
theorem tr_one8 {A : KA} {ad : Nat → Ad} {kb : Nat} {L : Hp} (hK : KH one7 A ad kb L) : Tr Tryz.prog 28 [pV kb, slotV (0, 15), rootM.v] L (fun u L' => u = .int .i64 0 ∧ KH one8 A ad kb L') :=
  (tr_kPlant one7 A ad kb L hK one_w7 (0, 15) rootM).mono (by
    rintro v L' ⟨rfl, h2⟩
    exact ⟨by rw [one_p8], h2⟩)
theorem one_wP {code : List Int} (h : ∀ x, x ∈ code → U64 x) : KW (oneP code) := one_w8.setW (pokeW_len ..) (pokeW_ok _ _ one_w8.wok (fun x hx => h x (List.mem_of_mem_take hx)))
theorem new_w {lvl dom : Int} (h1 : I64 lvl) (h2 : I64 dom) {pc : Int} (h3 : 0 ≤ pc ∧ pc ≤ 4095) {r : RegsM} (hr : r.Ok) : ThW ⟨0, 0, 0, false, -1, lvl, dom, pc, r⟩ :=
  ⟨⟨show I64 0 by decide, show I64 0 by decide, show U64 0 by decide, show I64 (-1) by decide, h1, h2, by unfold I64; dsimp only; omega, hr⟩, h3⟩
theorem one_wS {code : List Int} (h : ∀ x, x ∈ code → U64 x) : KW (oneS code) := (one_wP h).setA ⟨new_w (by decide) (by decide) (by decide) RegsM.zero_ok, .inr (by decide)⟩
theorem tr_oneS {code : List Int} (h : ∀ x, x ∈ code → U64 x) {A : KA} {ad : Nat → Ad} {kb : Nat} {L : Hp} (hK : KH (oneP code) A ad kb L) : Tr Tryz.prog 30 [pV kb, .int .i64 4, .int .i64 1, .int .i64 0, .int .i64 0, rootM.v, .int .i64 1, RegsM.zero.v] L (fun u L' => u = .int .i64 0 ∧ KH (oneS code) A ad kb L') :=
  tr_kSetup (oneP code) A ad kb L hK (one_wP h) 4 (i := 4) (t := ⟨0, 0, 0, false, -1, 0, 0, 0, .zero⟩) (c := .zero) (s := -1) (b := -1) (sp := (80, 4)) (by kernel_rfl) (by kernel_rfl) 1 0 0 rootM 1 .zero (by decide +kernel) (by decide) rfl rfl (by kernel_rfl) (by decide) (by kernel_rfl)
theorem tr_oneK {code : List Int} (h : ∀ x, x ∈ code → U64 x) {A : KA} {ad : Nat → Ad} {kb : Nat} {L : Hp} (hK : KH (oneS code) A ad kb L) : Tr Tryz.prog 31 [pV kb, .int .i64 4] L (fun u L' => u = .int .i64 0 ∧ KH (oneK code) A ad kb L') :=
  (tr_kStart (oneS code) A ad kb L hK (one_wS h) 4).mono (by
    rintro v L' ⟨rfl, h2⟩
    exact ⟨by rw [show (oneS code).startE 4 = 0 by kernel_rfl], h2⟩)
theorem poke_in {code : List Int} (i : Nat) (h : i < 16) : memPutE (pokeW one8.ws 64 (code.take i)) (64 + (i : Int)) = 0 := by
 unfold memPutE
 have hl : one8.ws.length = 256 := by decide +kernel
 rw [if_pos (by unfold memIn; rw [pokeW_len, hl]; omega)]
theorem KH_ww {k : Kn} {w1 w2 : List Int} {A : KA} {ad : Nat → Ad} {kb : Nat} {L : Hp} (h : KH ({ ({ k with ws := w1 } : Kn) with ws := w2 } : Kn) A ad kb L) : KH ({ k with ws := w2 } : Kn) A ad kb L := h
theorem poke_0 (code : List Int) : ({ one8 with ws := pokeW one8.ws 64 (code.take 0) } : Kn) = one8 := by
 have h : ∀ k : Kn, ({ k with ws := pokeW k.ws 64 (code.take 0) } : Kn) = k := fun k => by cases k; rfl
 exact h one8
theorem poke_more {code : List Int} {i : Nat} {x : Int} (hx : code[i]? = some x) : memPut (pokeW one8.ws 64 (code.take i)) (64 + (i : Int)) x = pokeW one8.ws 64 (code.take (i + 1)) := by
 have hl : (code.take i).length = i := by have := lt_of_some hx; simp; omega
 rw [List.take_add_one, hx]
 show _ = pokeW one8.ws 64 (code.take i ++ [x])
 rw [pokeW_snoc, hl]
theorem one_wI {code : List Int} (h : ∀ x, x ∈ code → U64 x) (i : Nat) : KW ({ one8 with ws := pokeW one8.ws 64 (code.take i) } : Kn) := one_w8.setW (pokeW_len ..) (pokeW_ok _ _ one_w8.wok (fun x hx => h x (List.mem_of_mem_take hx)))
set_option maxHeartbeats 16000000 in
theorem tr_lOne (G : Hp) (a : Option Addr) (cc : Nat) (code : List Int) (hv : View G 1 (.slice a code.length cc) code.length (wordsC code)) (h16 : code.length ≤ 16) (hu : ∀ x, x ∈ code → U64 x) : Tr Tryz.prog 26 [.slice a code.length cc] (G) (fun u L' => ∃ kb A ad L1, u = .tuple #[pV kb, .bool true] ∧ KH (oneK code) A ad kb L1 ∧ L' = L1 ++ G) := by
 refine Tr.enter Tryz.func26 rfl Tryz.ntmps26 rfl (fun W F => ?_)
 refine Wp.app ?_
 refine zq [3,4,1,1,2,5,3,4,23] ?_
 refine Ops.ef rfl (ef_buildSlice1 (k := 2) rfl rfl rfl rfl rfl) ?_
 rintro _ _ ⟨b1, rfl, rfl⟩
 refine zD (tr_to [(b1, .cells [.int .i64 0, .int .i64 3].toArray 79)] (some ⟨b1, 0, none⟩) 1 [(0, 3)] ⟨rfl, _, _, rfl, by decide, .inr ⟨b1, 0, _, 79, _, rfl, List.mem_cons_self .., ⟨rfl, rfl, trivial⟩⟩⟩ (by decide)) ?_
 rintro _ _ ⟨H1, hs1, rfl⟩
 refine Ops.app ?_
 obtain ⟨sp, sq, rfl⟩ := hs1.form
 refine zD (tr_kNew H1 256 (by decide) (by decide) sp sq [(0, 3)] hs1.view (by decide) (by decide) (fun _ => ⟨0, 0, 0⟩)) ?_
 rintro _ _ ⟨kb1, A1, M1, rfl, hk1, rfl⟩
 refine Ops.app ?_
 refine zq [0,7,7,1,1,2,5,3,3,4,0,67,0,21] ?_
 refine Ops.pvg ⟨_, _, rfl, rfl, rfl⟩ (pv_eql_nil rfl rfl) rfl ?_
 refine zq [26,2,5,17,11,5,3,4,23] ?_
 refine zA fun b2 => ?_
 refine zq [14,2,5,3,4,0,23] ?_
 refine zD (tr_kCreateZ one0 A1 _ kb1 _ hk1 one_w0 0 2 (0, 5) 4 (by decide) one_c1 (by decide)) ?_
 rintro _ J1 ⟨rfl, ad1, hk2⟩
 refine Ops.app ?_
 refine zq [66,0,21,56] ?_
 refine Ops.efg ⟨_, _, rfl, rfl, rfl⟩ (ef_call (tr_kCreateZ one1 A1 _ kb1 _ hk2 one_w1 1 8 (32, 4) 0 (by decide) one_c2 (by decide)) rfl rfl) ?_
 rintro _ _ ⟨_, J2, ⟨rfl, ad2, hk3⟩, rfl, rfl⟩
 refine Ops.app ?_
 refine zq [69,24,0,21,56] ?_
 refine Ops.efg ⟨_, _, rfl, rfl, rfl⟩ (ef_call (tr_kCreateZ one2 A1 _ kb1 _ hk3 one_w2 2 7 (48, 4) 0 (by decide) one_c3 (by decide)) rfl rfl) ?_
 rintro _ _ ⟨_, J3, ⟨rfl, ad3, hk4⟩, rfl, rfl⟩
 refine Ops.app ?_
 refine zq [69,24,0,21,56] ?_
 refine Ops.efg ⟨_, _, rfl, rfl, rfl⟩ (ef_call (tr_kCreateZ one3 A1 _ kb1 _ hk4 one_w3 3 6 (64, 4) 0 (by decide) one_c4 (by decide)) rfl rfl) ?_
 rintro _ _ ⟨_, J4, ⟨rfl, ad4, hk5⟩, rfl, rfl⟩
 refine Ops.app ?_
 refine zq [69,24,0,21,56] ?_
 refine Ops.efg ⟨_, _, rfl, rfl, rfl⟩ (ef_call (tr_kCreateZ one4 A1 _ kb1 _ hk5 one_w4 4 3 (80, 4) 0 (by decide) one_c5 (by decide)) rfl rfl) ?_
 rintro _ _ ⟨_, J5, ⟨rfl, ad5, hk6⟩, rfl, rfl⟩
 refine Ops.app ?_
 refine zq [69,24,1,2,5,3,4,0,0,21] ?_
 refine Ops.efg ⟨_, _, rfl, rfl, rfl⟩ (ef_call (tr_one6 hk6) rfl rfl) ?_
 rintro _ _ ⟨_, J6, ⟨rfl, hk7⟩, rfl, rfl⟩
 refine Ops.app ?_
 refine zq [69,24,0,21] ?_
 refine Ops.efg ⟨_, _, rfl, rfl, rfl⟩ (ef_call (tr_one7 hk7) rfl rfl) ?_
 rintro _ _ ⟨_, J7, ⟨rfl, hk8⟩, rfl, rfl⟩
 refine Ops.app ?_
 refine zq [69,24,0,21,56] ?_
 refine Ops.pvg ⟨_, _, rfl, rfl, rfl⟩ (pv_loadK [_, _, _, _, _, _] rfl rfl rfl ⟨rfl, rfl, rfl, rfl, rfl, rfl, trivial⟩) rfl ?_
 refine Ops.efg ⟨_, _, rfl, rfl, rfl⟩ (ef_call (tr_one8 hk8) rfl rfl) ?_
 rintro _ _ ⟨_, J8, ⟨rfl, hk9⟩, rfl, rfl⟩
 refine Ops.app ?_
 refine zq [69,24,1,2,5,3,3,4,1,2,5,20] ?_
 refine Wp.loopK (σ := Nat × Hp) [(0, _), (4, _), (6, _)] (fun s => [(7, .bool true), (8, .int .i64 s.1)]) (fun s => (b2, .cells rootM.cells.toArray 70) :: (s.2 ++ (G ++ F))) (fun s => (s.1 ≤ code.length ∧ s.1 ≤ 16) ∧ KH { one8 with ws := pokeW one8.ws 64 (code.take s.1) } A1 ad5 kb1 s.2) (fun s => code.length - s.1) (0, J8) ⟨⟨Nat.zero_le _, Nat.zero_le _⟩, by rw [show code.take (0, J8).1 = code.take 0 from rfl, poke_0 code]; exact hk9⟩ ⟨rfl, rfl, rfl, trivial⟩ ⟨rfl, rfl, trivial⟩ (by intro w ho; (try dsimp only [List.nil_append, List.cons_append]); exact Drop.own ho) ?_
 rintro ⟨i, M⟩ KK ⟨hi, hI⟩ hK
 dsimp only [List.cons_append, List.nil_append] at hK ⊢
 dsimp only at hi hI ⊢
 refine zq [3,3,4,0,0] ?_
 refine Ops.pv (pv_len_slice (T := 25) rfl rfl) rfl ?_
 refine zq [42,0] ?_
 refine Ops.pvc rfl rfl (fun hg => pv_move rfl) rfl ?_
 refine Ops.pvc rfl rfl (fun hg => Pv.setE (t := 75) rfl (cv_pos hg) (pv_lss rfl rfl)) rfl ?_
 refine zq [46,2,5] ?_
 refine Wp.cond_dect rfl (fun h1 => ?_) (fun h1 => ?_)
 ·
  obtain ⟨x, hx⟩ : ∃ x, code[i]? = some x := ⟨_, List.getElem?_eq_getElem (by omega)⟩
  obtain ⟨b, o, cap, cs, T0, f, hv1, hbv, hr⟩ := hv.open (by omega)
  cases hv1
  have hny : nth cs (o + i * 1) = some (.int .u64 x) := by rw [nth_eq, Nat.mul_one]; exact hr.at_ i _ (by simp [wordsC, hx])
  refine zq [11,5,3,20,4,0,0,21,21] ?_
  refine Ops.pvg ⟨_, _, rfl, rfl, rfl⟩ (pv_add rfl rfl (w64 (by omega) (by omega))) rfl ?_
  refine zq [21,21] ?_
  refine Ops.pvg ⟨_, _, rfl, rfl, rfl⟩ (pv_indexAddr (i := i) rfl rfl rfl (by omega)) rfl ?_
  refine Ops.pvg ⟨_, _, rfl, rfl, rfl⟩ (pv_load rfl rfl hny) rfl ?_
  refine Ops.efg ⟨_, _, rfl, rfl, rfl⟩ (ef_call (tr_kPoke ({ one8 with ws := pokeW one8.ws 64 (code.take i) } : Kn) A1 ad5 kb1 _ hI (one_wI hu i) (64 + (i : Int)) x) rfl rfl) ?_
  rintro _ _ ⟨_, J9, ⟨rfl, hk10⟩, rfl, rfl⟩
  refine Ops.app ?_
  rw [show memPutE (({ one8 with ws := pokeW one8.ws 64 (code.take i) } : Kn)).ws (64 + (i : Int)) = 0 from poke_in i (by omega)]
  refine zq [69,24,1,2,19,5,4,0] ?_
  refine Ops.pv (pv_add rfl rfl (w64n (k := i + 1) (by omega) (by omega))) rfl ?_
  refine zq [1,2,49] ?_
  refine Goes.back (hK (i + 1, J9) ⟨⟨by dsimp only; omega, by dsimp only; omega⟩, by have h9 := KH_ww hk10; dsimp only at h9 ⊢; rw [poke_more hx] at h9; exact h9⟩ (by dsimp only; omega)) ⟨rfl, rfl, rfl, rfl, rfl, trivial⟩
 have hfin : KH (oneP code) A1 ad5 kb1 M := by have e : code.take i = code.take 16 := by { rw [List.take_of_length_le (by omega), List.take_of_length_le (by omega)] }; rw [e] at hI; exact hI
 refine zq [41,16,16,40,5,3,4,0,0,0,21] ?_
 refine Ops.pvg ⟨_, _, rfl, rfl, rfl⟩ (pv_loadK [_, _, _, _, _, _] rfl rfl rfl ⟨rfl, rfl, rfl, rfl, rfl, rfl, trivial⟩) rfl ?_
 refine Ops.pvg ⟨_, _, rfl, rfl, rfl⟩ (pv_build_arr0 rfl) rfl ?_
 refine Ops.efg ⟨_, _, rfl, rfl, rfl⟩ (ef_call (tr_oneS hu hfin) rfl rfl) ?_
 rintro _ _ ⟨_, J10, ⟨rfl, hk11⟩, rfl, rfl⟩
 refine Ops.app ?_
 refine zq [69,24,0,21] ?_
 refine Ops.efg ⟨_, _, rfl, rfl, rfl⟩ (ef_call (tr_oneK hu hk11) rfl rfl) ?_
 rintro _ _ ⟨_, J11, ⟨rfl, hk12⟩, rfl, rfl⟩
 refine Ops.app ?_
 refine zq [69,24,1,1,2,5,10] ?_
 exact Ends.ret (L' := J11 ++ G) (res2 rfl rfl rfl) ⟨_, _, _, _, rfl, hk12, rfl⟩
theorem putE_ne {ws : List Int} {a v : Int} (h : memPutE ws a ≠ 0) : memPut ws a v = ws := by
 unfold memPutE at h; unfold memPut
 by_cases hc : memIn ws a 1
 ·
  rw [if_pos hc] at h; exact absurd rfl h
 rw [if_neg hc]
theorem tr_kRunY (k : Kn) (A : KA) (ad : Nat → Ad) (kb : Nat) (L : Hp) (hK : KH k A ad kb L) (hw : KW k) {i : Nat} {t : ThrM} {c : CapM} {s b : Int} {sp : Int × Int} (he : k.ar[i]? = some ⟨.thr t c s b, sp⟩) (hs : s = -1 ∨ ∃ j, k.ix s = some j) (n : Int) (hr : k.tl.length ≤ 6) (h3 : ¬ badI k t s → (effI k t s).asks = 3 → (effI k t s).val = 7) :
    Tr Tryz.prog 34 [pV kb, .int .i64 n, pV (ad i).tb] L (fun u L' => u = .bool (k.run (fun k' c => yieldF k' n i c) i t s).2 ∧ KH (k.run (fun k' c => yieldF k' n i c) i t s).1 A ad kb L') := by
  have htw := (hw.ths i _ he).1
  have he1 : (k.atK s t.pc).ar[i]? = some ⟨.thr t c s b, sp⟩ := he
  have hw1 := hw.atK s t.pc (by omega)
  by_cases hb : badI k t s
  · have e : k.run (fun k' c => yieldF k' n i c) i t s = (k.atK s t.pc, false) := by unfold Kn.run; simp only [if_pos hb]
    rw [e]; exact tr_kRunBad k A ad kb L hK hw he hs n hr hb
  generalize hx : effI k t s = x at *
  by_cases h4 : x.asks = 4
  · have e : k.run (fun k' c => yieldF k' n i c) i t s = (k.atK s t.pc, false) := by unfold Kn.run; simp only [if_neg hb, hx, if_pos h4]
    rw [e]; exact tr_kRunEnd k A ad kb L hK hw he hs n hr hb x hx h4
  by_cases h1 : x.asks = 1
  · by_cases hv : ((k.atK s t.pc).loadR s x.at_).2 = 0
    · have e : k.run (fun k' c => yieldF k' n i c) i t s = (((k.atK s t.pc).atK s x.at_).setI i (doneT { x with regs := x.regs.set ((k.atK s t.pc).loadR s x.at_).1 x.reg.toNat }), true) := by unfold Kn.run; simp only [if_neg hb, hx, if_neg h4, if_pos h1, hv, ne_eq, not_true_eq_false, if_false]
      rw [e]; exact tr_kRunRead k A ad kb L hK hw he hs n hr hb x hx h1 hv
    · have e : k.run (fun k' c => yieldF k' n i c) i t s = ((k.atK s t.pc).atK s x.at_, false) := by unfold Kn.run; simp only [if_neg hb, hx, if_neg h4, if_pos h1, ne_eq, hv, not_false_eq_true, if_true]
      rw [e]; exact tr_kRunReadN k A ad kb L hK hw he hs n hr hb x hx h1 hv
  by_cases h2 : x.asks = 2
  · by_cases hv : ((k.atK s t.pc).atR s x.at_ true).2 = 0
    · by_cases hm : memPutE (k.atK s t.pc).ws ((k.atK s t.pc).atR s x.at_ true).1 = 0
      · have e : k.run (fun k' c => yieldF k' n i c) i t s = (({ (k.atK s t.pc).atK s x.at_ with ws := memPut (k.atK s t.pc).ws ((k.atK s t.pc).atR s x.at_ true).1 x.val } : Kn).setI i (doneT x), true) := by unfold Kn.run; simp only [if_neg hb, hx, if_neg h4, if_neg h1, if_pos h2, hv, hm, ne_eq, not_true_eq_false, if_false]
        rw [e]; exact tr_kRunWrite k A ad kb L hK hw he hs n hr hb x hx h2 hv hm
      · have e : k.run (fun k' c => yieldF k' n i c) i t s = ((k.atK s t.pc).atK s x.at_, false) := by unfold Kn.run; simp only [if_neg hb, hx, if_neg h4, if_neg h1, if_pos h2, hv, ne_eq, not_true_eq_false, if_false, hm, not_false_eq_true, if_true]
        rw [e]
        have h := tr_kRunWriteB k A ad kb L hK hw he hs n hr hb x hx h2 hv hm
        rw [show memPut ((k.atK s t.pc).atK s x.at_).ws ((k.atK s t.pc).atR s x.at_ true).1 x.val = ((k.atK s t.pc).atK s x.at_).ws from putE_ne hm] at h
        exact h
    · have e : k.run (fun k' c => yieldF k' n i c) i t s = ((k.atK s t.pc).atK s x.at_, false) := by unfold Kn.run; simp only [if_neg hb, hx, if_neg h4, if_neg h1, if_pos h2, ne_eq, hv, not_false_eq_true, if_true]
      rw [e]; exact tr_kRunWriteN k A ad kb L hK hw he hs n hr hb x hx h2 hv
  by_cases h5 : x.asks = 3
  · have e : k.run (fun k' c => yieldF k' n i c) i t s = (({ (k.atK s t.pc).setI i (doneT x) with L := syL ((k.atK s t.pc).setI i (doneT x)).L n } : Kn).tell i 0, true) := by
      unfold Kn.run; simp only [if_neg hb, hx, if_neg h4, if_neg h1, if_neg h2, if_pos h5, yieldF, h3 hb h5, if_true, Bool.false_eq_true, if_false]
    rw [e]
    have hxo : x.Ok := by rw [← hx]; exact run_ok (unpI_ok (Decidable.of_not_not (fun h => hb (.inr h)))) htw.wf.regs htw.pc
    refine tr_kRunCall k A ad kb L hK hw he hs n hr hb x hx h5 _ (fun L2 hK2 => ?_)
    rw [h3 hb h5]
    exact tr_cYield _ A ad kb L2 hK2 (hw1.setI i (fun t ht => done_w ht hxo)).1 n (setI_get he1 (doneT x))
  · have e : k.run (fun k' c => yieldF k' n i c) i t s = ((k.atK s t.pc).setI i (doneT x), true) := by unfold Kn.run; simp only [if_neg hb, hx, if_neg h4, if_neg h1, if_neg h2, if_neg h5]
    rw [e]; exact tr_kRunPlain k A ad kb L hK hw he hs n hr hb x hx ⟨h4, h1, h2, h5⟩
theorem atK_kp (k : Kn) (s a : Int) : Kp k (k.atK s a) := ⟨rfl, fun i t c s b sp h => ⟨t, h⟩⟩
theorem Kp.ws {k : Kn} {ws : List Int} : Kp k { k with ws := ws } := ⟨rfl, fun i t c s b sp h => ⟨t, h⟩⟩
theorem Kp.sl {k : Kn} {L : Nat → Ones} : Kp k { k with L := L } := ⟨rfl, fun i t c s b sp h => ⟨t, h⟩⟩
theorem run_kw {k : Kn} (hw : KW k) {i : Nat} {t : ThrM} {c : CapM} {s b : Int} {sp : Int × Int} (he : k.ar[i]? = some ⟨.thr t c s b, sp⟩) (n : Int) (hr : k.tl.length ≤ 6) :
    KW (k.run (fun k' c => yieldF k' n i c) i t s).1 ∧ Kp k (k.run (fun k' c => yieldF k' n i c) i t s).1 := by
  have htw := (hw.ths i _ he).1
  have hw1 := hw.atK s t.pc (by omega)
  have hl1 := atK_len s t.pc (k := k) (by omega)
  have hw2 := fun a => hw1.atK s a (by omega)
  have k1 := atK_kp k s t.pc
  have k2 := fun a => k1.trans (atK_kp (k.atK s t.pc) s a)
  unfold Kn.run
  dsimp only
  split
  · exact ⟨hw1, k1⟩
  · rename_i hb
    have hxo : (effI k t s).Ok := run_ok (unpI_ok (Decidable.of_not_not (fun h => hb (.inr h)))) htw.wf.regs htw.pc
    have hd : ∀ u, ThW u → ThW (doneT (effI k t s) u) := fun u hu => done_w hu hxo
    split
    · exact ⟨hw1, k1⟩
    · split
      · split
        · exact ⟨hw2 _, k2 _⟩
        · have h := (hw2 (effI k t s).at_).setI i (f := doneT { effI k t s with regs := (effI k t s).regs.set ((k.atK s t.pc).loadR s (effI k t s).at_).1 (effI k t s).reg.toNat }) (fun u hu => done_w hu ⟨hxo.regs.set (load_u64 hw1 _ _) _, hxo.pc, hxo.at_, hxo.reg, hxo.val⟩)
          exact ⟨h.1, (k2 _).trans h.2⟩
      · split
        · split
          · exact ⟨hw2 _, k2 _⟩
          · split
            · exact ⟨hw2 _, k2 _⟩
            · have h := ((hw2 (effI k t s).at_).setM ((k.atK s t.pc).atR s (effI k t s).at_ true).1 hxo.val).setI i hd
              exact ⟨h.1, ((k2 _).trans Kp.ws).trans h.2⟩
        · split
          · have h := hw1.setI i hd
            unfold yieldF
            split
            · have h2 := (h.1.setL (syW h.1.rw n) (syR h.1.rr n)).setI i (f := fun t => { t with regs := ansR t.regs 0 }) (fun u hu => hu.regs (ans_ok hu.wf.regs (by decide)))
              simp only [Bool.false_eq_true, if_false]
              exact ⟨h2.1, ((k1.trans h.2).trans Kp.sl).trans h2.2⟩
            · simp only [Bool.false_eq_true, if_false]
              exact ⟨h.1, k1.trans h.2⟩
          · have h := hw1.setI i hd
            exact ⟨h.1, k1.trans h.2⟩
structure StY (k : Kn) : Prop where
  kw : KW k
  tl : k.tl.length ≤ 6
  cur : k.curB = true → (k.thr k.cur).isSome = true
  sp : ∀ x, k.thr k.cur = some x → x.2.2.1 = -1 ∨ (k.ix x.2.2.1).isSome = true
  c3 : ∀ x, k.thr k.cur = some x → ¬ badI k x.1 x.2.2.1 → (effI k x.1 x.2.2.1).asks = 3 → (effI k x.1 x.2.2.1).val = 7
theorem step_yes {k : Kn} {F : Kn → Int → Nat → Int → Kn × Bool} (hB : k.curB = true) {i : Nat} {x : ThrM × CapM × Int × Int} (hi : k.ix k.cur = some i) (hx : k.thr k.cur = some x) :
    k.step F = (if (k.run (fun k' c => F k' k.cur i c) i x.1 x.2.2.1).2 = true then (k.run (fun k' c => F k' k.cur i c) i x.1 x.2.2.1).1 else (k.run (fun k' c => F k' k.cur i c) i x.1 x.2.2.1).1.halt k.cur, true) := by
  unfold Kn.step; rw [if_pos hB, hi, hx]
theorem tr_kStepY (k : Kn) (A : KA) (ad : Nat → Ad) (kb : Nat) (L : Hp) (hK : KH k A ad kb L) (h : StY k) : Tr Tryz.prog 12 [pV kb] L (fun u L' => u = .bool (k.step yieldF).2 ∧ KH (k.step yieldF).1 A ad kb L') := by
 cases hB : k.curB with
 | false =>
  have e : k.step yieldF = (k, false) := by unfold Kn.step; rw [hB]; rfl
  rw [e]
  exact (tr_kStepN k A ad kb L hK h.kw hB).mono (fun v L' hv => ⟨hv.1, by rw [hv.2]; exact hK⟩)
 | true =>
  obtain ⟨x, hx⟩ := Option.isSome_iff_exists.1 (h.cur hB)
  obtain ⟨i, sp, hi, he⟩ := thr_ex hx
  have hs : x.2.2.1 = -1 ∨ ∃ j, k.ix x.2.2.1 = some j := (h.sp x hx).imp id (fun q => Option.isSome_iff_exists.1 q)
  rw [step_yes hB hi hx]
  have hrun : ∀ L2, KH k A ad kb L2 → _ := fun L2 hK2 => tr_kRunY k A ad kb L2 hK2 h.kw he hs k.cur h.tl (h.c3 x hx)
  obtain ⟨hwq, hkp⟩ := run_kw h.kw he k.cur h.tl
  cases hq : (k.run (fun k' c => yieldF k' k.cur i c) i x.1 x.2.2.1).2 with
  | true =>
   rw [if_pos rfl]
   rw [hq] at hrun
   exact tr_kStepT k A ad kb L hK h.kw hB hi he _ hrun
  | false =>
   rw [if_neg (by decide)]
   rw [hq] at hrun
   obtain ⟨t', ht'⟩ := hkp.th i _ _ _ _ _ he
   exact tr_kStepF k A ad kb L hK h.kw hB hi he _ hrun hwq (by rw [hkp.ix]; exact hi) ht'
theorem step_kw {k : Kn} (h : StY k) : KW (k.step yieldF).1 ∧ Kp k (k.step yieldF).1 := by
 cases hB : k.curB with
 | false =>
  have e : k.step yieldF = (k, false) := by unfold Kn.step; rw [hB]; rfl
  rw [e]; exact ⟨h.kw, Kp.refl _⟩
 | true =>
  obtain ⟨x, hx⟩ := Option.isSome_iff_exists.1 (h.cur hB)
  obtain ⟨i, sp, hi, he⟩ := thr_ex hx
  rw [step_yes hB hi hx]
  obtain ⟨hwq, hkp⟩ := run_kw h.kw he k.cur h.tl
  dsimp only
  split
  ·
   exact ⟨hwq, hkp⟩
  ·
   obtain ⟨h1, h2⟩ := hwq.halt k.cur
   exact ⟨h1, hkp.trans h2⟩
def stB (k : Kn) : Bool := match k.thr k.cur with
  | none => !k.curB
  | some x => (decide (x.2.2.1 = -1) || (k.ix x.2.2.1).isSome) && (decide (badI k x.1 x.2.2.1) || decide ((effI k x.1 x.2.2.1).asks ≠ 3) || decide ((effI k x.1 x.2.2.1).val = 7))
theorem StY.of {k : Kn} (hw : KW k) (ht : k.tl.length ≤ 6) (hb : stB k = true) : StY k := by
 cases hx : k.thr k.cur with
 | none =>
  unfold stB at hb; rw [hx] at hb
  refine ⟨hw, ht, fun h => ?_, fun x h => ?_, fun x h => ?_⟩
  ·
   rw [h] at hb; cases hb
  ·
   rw [hx] at h; cases h
  ·
   rw [hx] at h; cases h
 | some x =>
  unfold stB at hb; rw [hx] at hb
  simp only [Bool.and_eq_true, Bool.or_eq_true, decide_eq_true_eq] at hb
  refine ⟨hw, ht, fun h => by rw [hx]; rfl, fun y h => ?_, fun y h h1 h2 => ?_⟩
  ·
   rw [hx] at h; cases h; exact hb.1
  ·
   rw [hx] at h; cases h
   rcases hb.2 with (h3 | h3) | h3
   ·
    exact absurd h3 h1
   ·
    exact absurd h2 h3
   ·
    exact h3
theorem tr_kStepB {k : Kn} (h : StY k) {b : Bool} (hb : (k.step yieldF).2 = b) {A : KA} {ad : Nat → Ad} {kb : Nat} {L : Hp} (hK : KH k A ad kb L) : Tr Tryz.prog 12 [pV kb] L (fun u L' => u = .bool b ∧ KH (k.step yieldF).1 A ad kb L') := by
 subst hb; exact tr_kStepY k A ad kb L hK h
theorem one_wK {code : List Int} (h : ∀ x, x ∈ code → U64 x) : KW (oneK code) := by
 have e : oneK code = (oneS code).be 4 (startTM ⟨0, 0, 0, false, -1, 1, 0, 0, .zero⟩).1 := by kernel_rfl
 rw [e]
 exact ((one_wS h).be 4 (x := (startTM ⟨0, 0, 0, false, -1, 1, 0, 0, .zero⟩).1) (by
  rw [show startTM ⟨0, 0, 0, false, -1, 1, 0, 0, .zero⟩ = (⟨1, 0, 0, false, -1, 1, 0, 0, .zero⟩, 0) by decide +kernel]
  exact ⟨⟨by decide, by decide, by decide, by decide, by decide, by decide, by decide, RegsM.zero_ok⟩, by decide⟩)).1
theorem work_u : ∀ x, x ∈ workC → U64 x := by
 intro x hx
 simp only [List.mem_cons, List.not_mem_nil, or_false] at hx
 rcases hx with rfl | rfl | rfl <;> decide
theorem work_s0 : StY work0 := StY.of (one_wK work_u) (by decide +kernel) (by decide +kernel)
theorem work_s1 : StY work1 := StY.of (step_kw work_s0).1 (by decide +kernel) (by decide +kernel)
theorem work_s2 : StY work2 := StY.of (step_kw work_s1).1 (by decide +kernel) (by decide +kernel)
theorem work_s3 : StY work3 := StY.of (step_kw work_s2).1 (by decide +kernel) (by decide +kernel)
end Go.Proofs.YtipncceiekalfaaGreat
end
section
set_option linter.unusedVariables false
set_option linter.unusedSimpArgs false
set_option linter.unusedSectionVars false
namespace Go.Proofs.YtipncceiekalfaaGreat
open Go.SL
section
variable {k : Kn} {A : KA} {ad : Nat → Ad} {kb : Nat} {L : Hp} (hK : KH k A ad kb L)
include hK
theorem KH.isK (hw : KW k) (n kd : Int) : TrR Tryz.prog 67 [pV kb, .int .i64 n, .int .i64 kd] L (.bool (k.isK n kd)) := hK.objs fun E hE => tr_is k A ad kb E hE hw n kd
theorem KH.gPageY {n : Int} {i : Nat} {q : Int} {m : Bool} {s a : Int} {sp : Int × Int} (hi : k.ix n = some i) (he : k.ar[i]? = some ⟨.page q m s a, sp⟩) : TrR Tryz.prog 66 [pV kb, .int .i64 n] L (.tuple #[pV (ad i).tb, .bool true]) := hK.objs fun E hE => tr_getPageY k A ad kb E hE n hi he
theorem KH.gPageF (hw : KW k) {n : Int} (hn : gIs k n 110 = false) : TrR Tryz.prog 66 [pV kb, .int .i64 n] L (.tuple #[.pointer none, .bool false]) := hK.objs fun E hE => tr_getPageF k A ad kb E hE hw n hn
theorem KH.taken (hw : KW k) (kd : Int) (q : Int × Int) : TrR Tryz.prog 61 [pV kb, .int .i64 kd, slotV q] L (.bool (k.taken kd q)) := hK.objs fun E hE => tr_kTaken k A ad kb E hE hw kd q
end
theorem page_ex {k : Kn} {n : Int} {x : Int × Bool × Int × Int} (h : k.page n = some x) : ∃ i sp, k.ix n = some i ∧ k.ar[i]? = some ⟨.page x.1 x.2.1 x.2.2.1 x.2.2.2, sp⟩ := by
 unfold Kn.page Kn.en at h
 cases hi : k.ix n with
 | none => rw [hi] at h; cases h
 | some i =>
  rw [hi, Option.bind_some] at h
  split at h
  ·
   rename_i q m s a sp he; cases h; exact ⟨i, sp, rfl, he⟩
  ·
   cases h
theorem page_is {k : Kn} (hw : KW k) (n : Int) : gIs k n 110 = (k.page n).isSome := by
 cases hi : k.ix n with
 | none => rw [gIs_none hi]; unfold Kn.page Kn.en; rw [hi]; rfl
 | some i =>
  obtain ⟨⟨th, sp⟩, he⟩ := hw.en hi
  rw [gIs_some hi he]; unfold Kn.page Kn.en; rw [hi, Option.bind_some, he]
  cases th <;> rfl
theorem page_eq {k : Kn} {n : Int} {i : Nat} {q : Int} {m : Bool} {s a : Int} {sp : Int × Int} (hi : k.ix n = some i) (he : k.ar[i]? = some ⟨.page q m s a, sp⟩) : k.page n = some (q, m, s, a) := by
 unfold Kn.page Kn.en; rw [hi, Option.bind_some, he]
theorem isK_ex {k : Kn} {n kd : Int} (h : k.isK n kd = true) : ∃ i en, k.ix n = some i ∧ k.ar[i]? = some en ∧ en.th.kind = kd := by
 unfold Kn.isK Kn.en at h
 cases hi : k.ix n with
 | none => rw [hi] at h; cases h
 | some i =>
  rw [hi, Option.bind_some] at h
  cases he : k.ar[i]? with
  | none => rw [he] at h; cases h
  | some en => rw [he] at h; exact ⟨i, en, rfl, he, of_decide_eq_true h⟩
theorem apply_no {ws : List Int} {a : Int} {f : Int → Int × Int} (h : applyE ws a f ≠ 0) : applyW ws a f = ws := by
 unfold applyE at h; unfold applyW
 split
 ·
  rfl
 rename_i h1; rw [if_neg h1] at h; exact putE_ne h
theorem table_no {ws : List Int} {d a t : Int} (h : tableE ws d a t ≠ 0) : tableW ws d a t = ws := by
 unfold tableE at h; unfold tableW
 split
 ·
  rfl
 rename_i h1; rw [if_neg h1] at h; exact apply_no h
theorem smap_no {ws : List Int} {d a t : Int} {wr : Bool} (h : smapE ws d a t wr ≠ 0) : smapW ws d a t wr = ws := by
 unfold smapE at h; unfold smapW
 split
 ·
  rfl
 rename_i h1; rw [if_neg h1] at h; exact apply_no h
theorem mapE_none {k : Kn} {n into a : Int} {wr : Bool} (h : k.page n = none) : mapE k n into a wr = 3 := by unfold mapE; rw [h]
theorem mapE_spc {k : Kn} {n into a : Int} {wr : Bool} {x : Int × Bool × Int × Int} (h : k.page n = some x) (h2 : k.isK into 8 = false) : mapE k n into a wr = 3 := by unfold mapE; rw [h]; dsimp only; rw [if_pos h2]
theorem mapE_twice {k : Kn} {n into a : Int} {wr : Bool} {x : Int × Bool × Int × Int} (h : k.page n = some x) (h2 : k.isK into 8 = true) (h3 : x.2.1 = true) : mapE k n into a wr = 4 := by unfold mapE; rw [h]; dsimp only; rw [if_neg (by rw [h2]; decide), if_pos h3]
theorem mapE_go {k : Kn} {n into a : Int} {wr : Bool} {x : Int × Bool × Int × Int} (h : k.page n = some x) (h2 : k.isK into 8 = true) (h3 : x.2.1 = false) : mapE k n into a wr = if x.1 = 7 then tableE k.ws (spcAt k into) a (spcAt k n) else smapE k.ws (spcAt k into) a (spcAt k n) wr := by unfold mapE; rw [h]; dsimp only; rw [if_neg (by rw [h2]; decide), if_neg (by rw [h3]; decide)]
theorem map_no {k : Kn} {n into a : Int} {wr : Bool} (h : mapE k n into a wr ≠ 0) : k.map n into a wr = k := by
 unfold Kn.map
 split
 ·
  rw [if_pos h]
 rfl
theorem tr_kMapN (k : Kn) (A : KA) (ad : Nat → Ad) (kb : Nat) (L : Hp) (hK : KH k A ad kb L) (hx : KX k) (n into a : Int) (ha : I64 a) (wr : Bool) (hn : k.page n = none) : TrR Tryz.prog 29 [pV kb, .int .i64 n, .int .i64 into, .int .i64 a, .bool wr] (L) (.int .i64 3) := by
 have hw := hx.kw
 have hg := page_is hw n
 rw [hn] at hg
 refine Tr.enter Tryz.func29 rfl Tryz.ntmps29 rfl (fun W F => ?_)
 refine Wp.app ?_
 refine zq [3,4,1,2,5,3,4,0,0] ?_
 refine zC (hK.gPageF hw hg) ?_
 refine zq [0,7,7,1,1,2,5,3,20,3,4,0,0] ?_
 refine zC (hK.isK hw into 8) ?_
 refine zq [39,0] ?_
 refine Ops.splitb (t := 27) rfl (fun h1 => ?_) (fun h1 => ?_)
 ·
  refine zq [13,13,24,1,2,5,18,3,4,1,2,5,10,15,12] ?_
  exact zr ⟨rfl, rfl⟩
 refine zq [21,54,26,1,2,5] ?_
 refine Wp.cond_t rfl (fun h2 => ?_) (fun h2 => (by exfalso; simp_all))
 refine zq [3,4,1,2,5,10,15,12] ?_
 exact zr ⟨rfl, rfl⟩
theorem tr_kMapB (k : Kn) (A : KA) (ad : Nat → Ad) (kb : Nat) (L : Hp) (hK : KH k A ad kb L) (hx : KX k) (n into a : Int) (ha : I64 a) (wr : Bool) {i : Nat} {q s0 a0 : Int} {m : Bool} {sp : Int × Int} (hi : k.ix n = some i) (he : k.ar[i]? = some ⟨.page q m s0 a0, sp⟩) (hbad : k.isK into 8 = false ∨ m = true) : TrR Tryz.prog 29 [pV kb, .int .i64 n, .int .i64 into, .int .i64 a, .bool wr] (L) (.int .i64 (mapE k n into a wr)) := by
 have hw := hx.kw
 haveI : Blk L (ad i).tb (pageO q m s0 a0) := hK.tb he
 have hp := page_eq hi he
 refine Tr.enter Tryz.func29 rfl Tryz.ntmps29 rfl (fun W F => ?_)
 refine Wp.app ?_
 refine zq [3,4,1,2,5,3,4,0,0] ?_
 refine zC (hK.gPageY hi he) ?_
 refine zq [0,7,7,1,1,2,5,3,20,3,4,0,0] ?_
 refine zC (hK.isK hw into 8) ?_
 refine zq [39,0] ?_
 refine Ops.splitb (t := 27) rfl (fun h1 => ?_) (fun h1 => ?_)
 ·
  refine zq [13,13,24,1,2,5,18,3,4,1,2,5,10,15,12] ?_
  exact Ends.ret (res1 rfl rfl) ⟨by rw [mapE_spc hp (by simp_all)], rfl⟩
 refine zq [21,54,26,1,2,5] ?_
 refine Wp.cond_t rfl (fun h2 => ?_) (fun h2 => ?_)
 ·
  refine zq [3,4,1,2,5,10,15,12] ?_
  exact Ends.ret (res1 rfl rfl) ⟨by rw [mapE_spc hp (by simp_all)], rfl⟩
 refine zq [3,4,0,9,6,8,1,2,5] ?_
 refine Wp.cond_t rfl (fun h3 => ?_) (fun h3 => (by exfalso; simp_all))
 refine zq [3,4,1,2,5,10,15,12] ?_
 exact Ends.ret (res1 rfl rfl) ⟨by rw [mapE_twice hp (by simp_all) (by assumption)], rfl⟩
theorem tr_kMap (k : Kn) (A : KA) (ad : Nat → Ad) (kb : Nat) (L : Hp) (hK : KH k A ad kb L) (hx : KX k) (n into a : Int) (ha : I64 a) (wr : Bool) : Tr Tryz.prog 29 [pV kb, .int .i64 n, .int .i64 into, .int .i64 a, .bool wr] L (fun u L' => u = .int .i64 (mapE k n into a wr) ∧ KH (k.map n into a wr) A ad kb L') := by
 cases hp : k.page n with
 | none =>
  have e := mapE_none (into := into) (a := a) (wr := wr) hp
  rw [map_no (by rw [e]; decide), e]
  exact Tr.mono (tr_kMapN k A ad kb L hK hx n into a ha wr hp) (fun v L' h => ⟨h.1, by rw [h.2]; exact hK⟩)
 | some x =>
  obtain ⟨q, m, s0, a0⟩ := x
  obtain ⟨i, sp, hi, he⟩ := page_ex hp
  dsimp only at he
  by_cases hb : k.isK into 8 = false ∨ m = true
  ·
   have e : mapE k n into a wr ≠ 0 := by
    cases h2 : k.isK into 8 with
    | false => rw [mapE_spc hp h2]; decide
    | true => rw [mapE_twice hp h2 (by simp_all)]; decide
   rw [map_no e]
   exact Tr.mono (tr_kMapB k A ad kb L hK hx n into a ha wr hi he hb) (fun v L' h => ⟨h.1, by rw [h.2]; exact hK⟩)
  ·
   simp only [not_or, Bool.not_eq_false, Bool.not_eq_true] at hb
   obtain ⟨h8, hm⟩ := hb
   subst hm
   obtain ⟨j, en, hj, hej, hk8⟩ := isK_ex h8
   have eg := mapE_go (a := a) (wr := wr) hp h8 rfl
   rw [spcAt_eq hj hej, spcAt_eq hi he] at eg
   by_cases h7 : q = 7
   ·
    rw [if_pos h7] at eg
    refine (tr_kMapTable k A ad kb L hK hx.kw n into hi he hj hej hk8 a ha wr h7).mono ?_
    rintro v L' ⟨rfl, h2⟩
    refine ⟨by rw [eg], ?_⟩
    by_cases h0 : tableE k.ws en.sp.1 a sp.1 = 0
    ·
     rw [if_pos h0] at h2
     unfold Kn.map; rw [hi, hp]; dsimp only
     rw [if_neg (by rw [eg, h0]; decide), if_pos h7, spcAt_eq hj hej, spcAt_eq hi he]; exact h2
    ·
     rw [if_neg h0, table_no h0] at h2
     rw [map_no (by rw [eg]; exact h0)]; exact h2
   ·
    rw [if_neg h7] at eg
    refine (tr_kMapFrame k A ad kb L hK hx.kw n into hi he hj hej hk8 a ha wr h7).mono ?_
    rintro v L' ⟨rfl, h2⟩
    refine ⟨by rw [eg], ?_⟩
    by_cases h0 : smapE k.ws en.sp.1 a sp.1 wr = 0
    ·
     rw [if_pos h0] at h2
     unfold Kn.map; rw [hi, hp]; dsimp only
     rw [if_neg (by rw [eg, h0]; decide), if_neg h7, spcAt_eq hj hej, spcAt_eq hi he]; exact h2
    ·
     rw [if_neg h0, smap_no h0] at h2
     rw [map_no (by rw [eg]; exact h0)]; exact h2
theorem setup_none {k : Kn} {n lvl dom pc : Int} {root : CapM} {space : Int} (h : k.thr n = none) : setupE k n lvl dom pc root space = 3 := by unfold setupE; rw [h]
theorem setup_no {k : Kn} {n lvl dom pc : Int} {root : CapM} {space : Int} {r : RegsM} (h : setupE k n lvl dom pc root space ≠ 0) : k.setup n lvl dom pc root space r = k := if_pos h
section
variable {k : Kn} {n lvl dom pc : Int} {root : CapM} {space : Int} {i : Nat} {t : ThrM} {c : CapM} {s b : Int} {sp : Int × Int} (hi : k.ix n = some i) (he : k.ar[i]? = some ⟨.thr t c s b, sp⟩)
include hi he
theorem setup_eq : setupE k n lvl dom pc root space = if (newTM lvl dom).2 ≠ 0 then (newTM lvl dom).2 else if pc < 0 ∨ pc ≥ 4096 then 1 else if t.st ≠ 0 then 8 else if root.kind ≠ 2 ∨ k.named root = false ∨ (space ≠ -1 ∧ k.isK space 8 = false) then 2 else 0 := by
 unfold setupE; rw [thr_eq hi he]
theorem setup_yes (h0 : setupE k n lvl dom pc root space = 0) (r : RegsM) : k.setup n lvl dom pc root space r = { k with ar := setA k.ar i (.thr ⟨0, 0, 0, false, t.caller, lvl, dom, pc, r⟩ root space b) } := by
 unfold Kn.setup; rw [if_neg (fun h => h h0), hi, thr_eq hi he]; rfl
end
theorem newTM_yes {lvl dom : Int} (h : (newTM lvl dom).2 = 0) : newTM lvl dom = (newT lvl dom, 0) := by
 unfold newTM at *
 split
 ·
  rfl
 rename_i h1; rw [if_neg h1] at h; cases h
theorem tr_kSetupN (k : Kn) (A : KA) (ad : Nat → Ad) (kb : Nat) (L : Hp) (hK : KH k A ad kb L) (hx : KX k) (n lvl dom pc : Int) (root : CapM) (space : Int) (r : RegsM) (hn : k.thr n = none) : TrR Tryz.prog 30 [pV kb, .int .i64 n, .int .i64 lvl, .int .i64 dom, .int .i64 pc, root.v, .int .i64 space, r.v] (L) (.int .i64 3) := by
 refine Tr.enter Tryz.func30 rfl Tryz.ntmps30 rfl (fun W F => ?_)
 refine Wp.app ?_
 refine Wr ?_
 refine zB fun b1 => ?_
 refine zB fun b2 => ?_
 refine zq [1,2,5,3,4,0,0] ?_
 refine zC (hK.gThrZ hx.kw hn) ?_
 refine zq [0,7,7,1,1,2,5,3,3,4,0,39,2,5,18,3,4,1,2,5,10,12] ?_
 exact zr ⟨rfl, rfl⟩
set_option maxHeartbeats 32000000 in
theorem tr_kSetupS (k : Kn) (A : KA) (ad : Nat → Ad) (kb : Nat) (L : Hp) (hK : KH k A ad kb L) (hx : KX k) (n lvl dom pc : Int) (root : CapM) (space : Int) (r : RegsM) {i : Nat} {t : ThrM} {c : CapM} {s b : Int} {sp : Int × Int} (hi : k.ix n = some i) (he : k.ar[i]? = some ⟨.thr t c s b, sp⟩) : Tr Tryz.prog 30 [pV kb, .int .i64 n, .int .i64 lvl, .int .i64 dom, .int .i64 pc, root.v, .int .i64 space, r.v] (L) (fun u L' => u = .int .i64 (setupE k n lvl dom pc root space) ∧ KH (k.setup n lvl dom pc root space r) A ad kb L') := by
 have hw := hx.kw
 haveI := hK.thr he
 haveI := hK.kblk
 refine Tr.enter Tryz.func30 rfl Tryz.ntmps30 rfl (fun W F => ?_)
 refine Wp.app ?_
 refine Wr ?_
 refine zB fun b1 => ?_
 refine zB fun b2 => ?_
 refine zq [1,2,5,3,4,0,0] ?_
 refine zC (hK.gThrY hi he) ?_
 refine zq [0,7,7,1,1,2,5,3,3,4,0,39,2,5,17,11,5,3,4,0,0] ?_
 refine zC (tr_tNew lvl dom) ?_
 refine zq [0,7,7] ?_
 refine zA fun b3 => ?_
 refine zq [14,1,2,5,3,20,3,4,0,27,1,2,5] ?_
 refine Wp.cond_dect rfl (fun h1 => ?_) (fun h1 => ?_)
 ·
  have h35 : (newTM lvl dom).2 ≠ 0 := by assumption
  refine zq [3,4,0,1,2,5,10,15,12] ?_
  have e0 : setupE k n lvl dom pc root space = (newTM lvl dom).2 := by rw [setup_eq hi he, if_pos h35]
  rw [setup_no (by rw [e0]; exact h35), e0]
  exact zr (L' := L) ⟨rfl, hK⟩
 have h35 : ¬ (newTM lvl dom).2 ≠ 0 := by assumption
 have h1n : (newTM lvl dom).2 = 0 := by omega
 rw [newTM_yes h1n]
 dsimp only [newT]
 refine zq [3,4,0,42,0] ?_
 refine Ops.pvcn rfl rfl (fun hg => pv_move rfl) rfl ?_
 refine Ops.pvcn rfl rfl (fun hg => Pv.setE (t := 43) rfl (cv_pos hg) (pv_geq rfl rfl)) rfl ?_
 refine zq [47,1,2,5] ?_
 refine Wp.cond_dect rfl (fun h2 => ?_) (fun h2 => ?_)
 ·
  have h39 : pc < 0 ∨ pc ≥ 4096 := by omega
  refine zq [3,4,1,2,5,10,15,12] ?_
  have e0 : setupE k n lvl dom pc root space = 1 := by rw [setup_eq hi he, if_neg h35, if_pos h39]
  rw [setup_no (by rw [e0]; exact (by decide)), e0]
  exact zr (L' := L) ⟨rfl, hK⟩
 have h39 : ¬ (pc < 0 ∨ pc ≥ 4096) := by omega
 refine zq [3,4,0,9,6,6,8,27,1,2,5] ?_
 refine Wp.cond_dect rfl (fun h3 => ?_) (fun h3 => ?_)
 ·
  have h46 : t.st ≠ 0 := by assumption
  refine zq [3,4,1,2,5,10,15,12] ?_
  have e0 : setupE k n lvl dom pc root space = 8 := by rw [setup_eq hi he, if_neg h35, if_neg h39, if_pos h46]
  rw [setup_no (by rw [e0]; exact (by decide)), e0]
  exact zr (L' := L) ⟨rfl, hK⟩
 have h46 : ¬ t.st ≠ 0 := by assumption
 refine zq [3,4,6,8,27,0] ?_
 refine Ops.split (t := 57) rfl (fun h4 => ?_) (fun h4 => ?_)
 ·
  refine zq [13,13,13,13,24,0,13,13,13] ?_
  refine Ops.skipu rfl rfl rfl ?_
  refine Ops.skipu rfl rfl rfl ?_
  refine Ops.skipu rfl rfl rfl ?_
  refine Ops.skipu rfl rfl rfl ?_
  refine zq [13,24,1,2,5,18,3,4,1,2,5,10,15,12] ?_
  have h53 : root.kind ≠ 2 ∨ k.named root = false ∨ (space ≠ -1 ∧ k.isK space 8 = false) := by simp_all
  have e0 : setupE k n lvl dom pc root space = 2 := by rw [setup_eq hi he, if_neg h35, if_neg h39, if_neg h46, if_pos h53]
  rw [setup_no (by rw [e0]; exact (by decide)), e0]
  exact zr (L' := L) ⟨rfl, hK⟩
 refine zq [21] ?_
 refine Ops.pvg ⟨_, _, rfl, rfl, rfl⟩ (pv_loadK [_, _, _, _, _, _] rfl rfl rfl ⟨rfl, rfl, rfl, rfl, rfl, rfl, trivial⟩) rfl ?_
 refine Ops.efg ⟨_, _, rfl, rfl, rfl⟩ (ef_callr (tr_kNamed k A ad kb _ hK hw root) rfl rfl) ?_
 rintro _ _ ⟨rfl, rfl⟩
 refine zq [54,26,0] ?_
 refine Ops.splitb (t := 63) rfl (fun h5 => ?_) (fun h5 => ?_)
 ·
  refine zq [13,13,13] ?_
  refine Ops.skipu rfl rfl rfl ?_
  refine Ops.skipu rfl rfl rfl ?_
  refine Ops.skipu rfl rfl rfl ?_
  refine Ops.skipu rfl rfl rfl ?_
  refine zq [13,24,1,2,5,18,3,4,1,2,5,10,15,12] ?_
  have h53 : root.kind ≠ 2 ∨ k.named root = false ∨ (space ≠ -1 ∧ k.isK space 8 = false) := by simp_all
  have e0 : setupE k n lvl dom pc root space = 2 := by rw [setup_eq hi he, if_neg h35, if_neg h39, if_neg h46, if_pos h53]
  rw [setup_no (by rw [e0]; exact (by decide)), e0]
  exact zr (L' := L) ⟨rfl, hK⟩
 refine zq [21] ?_
 refine Ops.pvg ⟨_, _, rfl, rfl, rfl⟩ (pv_neq rfl rfl) rfl ?_
 refine zq [21] ?_
 refine Ops.split (t := 66) rfl (fun h6 => ?_) (fun h6 => ?_)
 ·
  refine zq [21,21] ?_
  refine Ops.efg ⟨_, _, rfl, rfl, rfl⟩ (ef_callr (hK.isK hw space 8) rfl rfl) ?_
  rintro _ _ ⟨rfl, rfl⟩
  refine zq [54] ?_
  refine Ops.pvg ⟨_, _, rfl, rfl, rfl⟩ (pv_pick_true rfl rfl) rfl ?_
  refine zq [26,1,2,5] ?_
  refine Wp.cond_t rfl (fun h7 => ?_) (fun h7 => ?_)
  ·
   refine zq [3,4,1,2,5,10,15,12] ?_
   have h53 : root.kind ≠ 2 ∨ k.named root = false ∨ (space ≠ -1 ∧ k.isK space 8 = false) := by simp_all
   have e0 : setupE k n lvl dom pc root space = 2 := by rw [setup_eq hi he, if_neg h35, if_neg h39, if_neg h46, if_pos h53]
   rw [setup_no (by rw [e0]; exact (by decide)), e0]
   exact zr (L' := L) ⟨rfl, hK⟩
  refine zq [11,19,5,3] ?_
  refine AnyH.start [((ad i).tb, thrO t c s b), (b2, .cells r.cells.toArray 33)] 13 rfl ?_
  refine zd [0,1,1,12,2,1,3,3,4,0,5,0,6,2,7,0] ?_
  refine z1 8 ?_
  refine zd [9,0] ?_
  refine zK 10 ?_
  refine zd [11,0] ?_
  refine z1 12 ?_
  refine AnyH.done (by kernel_rfl) ?_
  refine zq [5,3] ?_
  obtain ⟨G, R, rfl, hU, hB, hP, hEb⟩ := hK.thrU he
  haveI := hU; haveI := hB; haveI := hP
  refine AnyH.start [(b3, .cells [.int .i64 0, .int .i64 0, .int .u64 0, .bool false, .int .i64 t.caller, .int .i64 lvl, .int .i64 dom, .int .i64 pc, .int .u64 r.r0, .int .u64 r.r1, .int .u64 r.r2, .int .u64 r.r3, .int .u64 r.r4, .int .u64 r.r5, .int .u64 r.r6, .int .u64 r.r7].toArray 35), (b1, .cells root.cells.toArray 70)] 15 rfl ?_
  refine zd [0,1,1,1,2,1,3,13,4,11,5,1,6,3,7,0] ?_
  refine zK 8 ?_
  refine zd [9,3,10,0] ?_
  refine zK 11 ?_
  refine zd [12,3,13,0] ?_
  refine z1 14 ?_
  refine AnyH.done (by kernel_rfl) ?_
  refine zq [5,3,4,1,2,5,10] ?_
  have h53 : ¬ (root.kind ≠ 2 ∨ k.named root = false ∨ (space ≠ -1 ∧ k.isK space 8 = false)) := by simp_all
  have h0 : setupE k n lvl dom pc root space = 0 := by rw [setup_eq hi he, if_neg h35, if_neg h39, if_neg h46, if_neg h53]
  rw [setup_yes hi he h0, h0]
  exact zr (L' := G (thrO ⟨0, 0, 0, false, t.caller, lvl, dom, pc, r⟩ root space b)) ⟨rfl, hEb ⟨0, 0, 0, false, t.caller, lvl, dom, pc, r⟩ root space b⟩
 refine zq [13,13,13,13] ?_
 refine Ops.pvg ⟨_, _, rfl, rfl, rfl⟩ (pv_pick_false rfl rfl) rfl ?_
 refine zq [26,1,2,5,17,11,19,5,3] ?_
 refine AnyH.start [((ad i).tb, thrO t c s b), (b2, .cells r.cells.toArray 33)] 13 rfl ?_
 refine zd [0,1,1,12,2,1,3,3,4,0,5,0,6,2,7,0] ?_
 refine z1 8 ?_
 refine zd [9,0] ?_
 refine zK 10 ?_
 refine zd [11,0] ?_
 refine z1 12 ?_
 refine AnyH.done (by kernel_rfl) ?_
 refine zq [5,3] ?_
 obtain ⟨G, R, rfl, hU, hB, hP, hEb⟩ := hK.thrU he
 haveI := hU; haveI := hB; haveI := hP
 refine AnyH.start [(b3, .cells [.int .i64 0, .int .i64 0, .int .u64 0, .bool false, .int .i64 t.caller, .int .i64 lvl, .int .i64 dom, .int .i64 pc, .int .u64 r.r0, .int .u64 r.r1, .int .u64 r.r2, .int .u64 r.r3, .int .u64 r.r4, .int .u64 r.r5, .int .u64 r.r6, .int .u64 r.r7].toArray 35), (b1, .cells root.cells.toArray 70)] 15 rfl ?_
 refine zd [0,1,1,1,2,1,3,13,4,11,5,1,6,3,7,0] ?_
 refine zK 8 ?_
 refine zd [9,3,10,0] ?_
 refine zK 11 ?_
 refine zd [12,3,13,0] ?_
 refine z1 14 ?_
 refine AnyH.done (by kernel_rfl) ?_
 refine zq [5,3,4,1,2,5,10] ?_
 have h53 : ¬ (root.kind ≠ 2 ∨ k.named root = false ∨ (space ≠ -1 ∧ k.isK space 8 = false)) := by simp_all
 have h0 : setupE k n lvl dom pc root space = 0 := by rw [setup_eq hi he, if_neg h35, if_neg h39, if_neg h46, if_neg h53]
 rw [setup_yes hi he h0, h0]
 exact zr (L' := G (thrO ⟨0, 0, 0, false, t.caller, lvl, dom, pc, r⟩ root space b)) ⟨rfl, hEb ⟨0, 0, 0, false, t.caller, lvl, dom, pc, r⟩ root space b⟩
theorem tr_kSetupA (k : Kn) (A : KA) (ad : Nat → Ad) (kb : Nat) (L : Hp) (hK : KH k A ad kb L) (hx : KX k) (n lvl dom pc : Int) (root : CapM) (space : Int) (r : RegsM) : Tr Tryz.prog 30 [pV kb, .int .i64 n, .int .i64 lvl, .int .i64 dom, .int .i64 pc, root.v, .int .i64 space, r.v] L (fun u L' => u = .int .i64 (setupE k n lvl dom pc root space) ∧ KH (k.setup n lvl dom pc root space r) A ad kb L') := by
 cases hz : k.thr n with
 | none =>
  rw [setup_no (by rw [setup_none hz]; decide), setup_none hz]
  exact Tr.mono (tr_kSetupN k A ad kb L hK hx n lvl dom pc root space r hz) (fun v L' h => ⟨h.1, by rw [h.2]; exact hK⟩)
 | some x =>
  obtain ⟨i, sp, hi, he⟩ := thr_ex hz
  exact tr_kSetupS k A ad kb L hK hx n lvl dom pc root space r hi he
end Go.Proofs.YtipncceiekalfaaGreat
end
section
set_option linter.unusedVariables false
set_option linter.unusedSimpArgs false
set_option linter.unusedSectionVars false
namespace Go.Proofs.YtipncceiekalfaaGreat
open Go.SL
def Kn.waitW (k : Kn) (n : Int) : Int := match k.en n with
  | some ⟨.ep S, _⟩ => IntKind.u64.wrap (stW S)
  | some ⟨.nt S, _⟩ => S.w
  | _ => 0
def Kn.waitL (k : Kn) (n : Int) : List Int := match k.en n with
  | some ⟨.ep S, _⟩ => S.l
  | some ⟨.nt S, _⟩ => S.l
  | _ => []
theorem en_eq {k : Kn} {n : Int} {i : Nat} {en : En} (hi : k.ix n = some i) (he : k.ar[i]? = some en) : k.en n = some en := by unfold Kn.en; rw [hi, Option.bind_some, he]
structure ObjM where
  kind : Int
  sp : Int × Int
  used : Int
  mapped : Bool
  space : Int
  at_ : Int
abbrev ObjM.v (x : ObjM) : Value := .agg #[.int .i64 x.kind, .int .i64 x.sp.1, .int .i64 x.sp.2, .int .i64 x.used, .bool x.mapped, .int .i64 x.space, .int .i64 x.at_]
abbrev ObjM.cells (x : ObjM) : List Value := [.int .i64 x.kind, .int .i64 x.sp.1, .int .i64 x.sp.2, .int .i64 x.used, .bool x.mapped, .int .i64 x.space, .int .i64 x.at_]
def En.obj (en : En) : ObjM := match en.th with
  | .unt u => ⟨1, en.sp, u, false, -1, 0⟩
  | .page q m s a => ⟨q, en.sp, 0, m, s, a⟩
  | th => ⟨th.kind, en.sp, 0, false, -1, 0⟩
def Kn.obj (k : Kn) (n : Int) : ObjM := match k.en n with
  | some en => en.obj
  | none => ⟨0, (0, 0), 0, false, 0, 0⟩
theorem tr_kObjectZ (k : Kn) (A : KA) (ad : Nat → Ad) (kb : Nat) (L : Hp) (hK : KH k A ad kb L) (hw : KW k) (n : Int) (hi : k.ix n = none) : TrR Tryz.prog 18 [pV kb, .int .i64 n] (L) (.tuple #[(⟨0, (0, 0), 0, false, 0, 0⟩ : ObjM).v, .bool false]) := by
 haveI := hK.kblk
 haveI := hK.oblk
 refine Tr.enter Tryz.func18 rfl Tryz.ntmps18 rfl (fun W F => ?_)
 refine Wp.app ?_
 refine Wr ?_
 refine zA fun b1 => ?_
 refine zq [1,2,5,3,4,0,9,6,8,0] ?_
 refine Ops.pv (pv_lookup_i (r := .pointer none) n rfl rfl ((kv_get k ad n).trans (by rw [hi]; rfl))) rfl ?_
 refine zq [1,2,5,3,3,4,0,59,2,5,18,3,4,23,14,1,2,5,10,12] ?_
 exact Ends.ret (res_list (rs := [.cell 4 44, .tmp 5]) rfl ⟨_, _, rfl, rv_cellK [_, _, _, _, _, _, _] rfl rfl rfl ⟨rfl, rfl, rfl, rfl, rfl, rfl, rfl, trivial⟩, ⟨_, _, rfl, rv_tmp rfl, rfl⟩⟩ rfl) ⟨rfl, rfl⟩
set_option maxHeartbeats 2000000 in
theorem tr_kObjectUnt (k : Kn) (A : KA) (ad : Nat → Ad) (kb : Nat) (L : Hp) (hK : KH k A ad kb L) (hw : KW k) (n : Int) {i : Nat} {u : Int} {sp : Int × Int} (hi : k.ix n = some i) (he : k.ar[i]? = some ⟨.unt u, sp⟩) : TrR Tryz.prog 18 [pV kb, .int .i64 n] (L) (.tuple #[(En.obj ⟨.unt u, sp⟩).v, .bool true]) := by
 haveI := hK.kblk
 haveI := hK.oblk
 haveI : Blk L (ad i).ob (objO 107 (ad i).tb sp) := hK.ob he
 haveI : Blk L (ad i).tb (.cells [.int .i64 u].toArray 109) := hK.tb he
 haveI := me_Unt
 refine Tr.enter Tryz.func18 rfl Tryz.ntmps18 rfl (fun W F => ?_)
 refine Wp.app ?_
 refine Wr ?_
 refine zA fun b1 => ?_
 refine zq [1,2,5,3,4,0,9,6,8,0] ?_
 refine Ops.pv (pv_lookup_i (r := pV (ad i).ob) n rfl rfl ((kv_get k ad n).trans (by rw [hi]; rfl))) rfl ?_
 refine zq [1,2,5,3,3,4,0,59,2,5,17,11,5] ?_
 apply Wp.cutB1 [(4, _), (6, _)] (fun b2 => [(7, _)]) _ ⟨rfl, rfl, trivial⟩
 ·
  intro KK hA0
  refine AnyH.start [((ad i).ob, objO 107 (ad i).tb sp)] 12 rfl ?_
  refine zd [0,1,1,3,2,0,3,2,5,1,6,3,7,0,8,10] ?_
  refine AnyH.two 4 10 (by kernel_rfl) ?_ ?_
  ·
   refine Turn.ef rfl rfl (ef_invr (tr_kindUnt (ad i).tb) rfl rfl) ?_ ?_
   ·
    rintro _ _ ⟨rfl, rfl⟩; infer_instance
   rintro _ _ ⟨rfl, rfl⟩
   refine zd [9,9] ?_
   refine AnyH.one 10 (by kernel_rfl) ?_
   refine Turn.ef rfl rfl (ef_allocK tyZ44 rfl) ?_ ?_
   ·
    rintro _ _ ⟨b2, rfl, rfl⟩; infer_instance
   rintro _ _ ⟨b2, rfl, rfl⟩
   refine zK 11 ?_
   refine AnyH.done (by kernel_rfl) ?_
   refine zq [49] ?_
   refine Goes.same (hA0 b2) ⟨rfl, rfl, rfl, trivial⟩
  refine Turn.ef rfl rfl (ef_allocK tyZ44 rfl) ?_ ?_
  ·
   rintro _ _ ⟨b3, rfl, rfl⟩; infer_instance
  rintro _ _ ⟨b3, rfl, rfl⟩
  refine AnyH.one 4 (by kernel_rfl) ?_
  refine Turn.ef rfl rfl (ef_invr (tr_kindUnt (ad i).tb) rfl rfl) ?_ ?_
  ·
   rintro _ _ ⟨rfl, rfl⟩; infer_instance
  rintro _ _ ⟨rfl, rfl⟩
  refine zd [9,9] ?_
  refine zK 11 ?_
  refine AnyH.done (by kernel_rfl) ?_
  refine zq [49] ?_
  refine Goes.back (hA0 b3) ⟨rfl, rfl, rfl, trivial⟩
 intro b2
 dsimp only [List.cons_append, List.nil_append]
 refine zq [3,3,4,0,9,6,8,2,5,20,3,4] ?_
 refine Ops.pv (pv_assert rfl rfl) rfl ?_
 refine zq [7,7,2,5,18,3,4,1,2,5,4,0,9,6,8,6,25,2,19,5,3,4,36,14,1,2,5,10] ?_
 exact Ends.ret (res_list (rs := [.cell 4 44, .tmp 5]) rfl ⟨_, _, rfl, rv_cellK [_, _, _, _, _, _, _] rfl rfl rfl ⟨rfl, rfl, rfl, rfl, rfl, rfl, rfl, trivial⟩, ⟨_, _, rfl, rv_tmp rfl, rfl⟩⟩ rfl) ⟨rfl, rfl⟩
set_option maxHeartbeats 2000000 in
theorem tr_kObjectNode (k : Kn) (A : KA) (ad : Nat → Ad) (kb : Nat) (L : Hp) (hK : KH k A ad kb L) (hw : KW k) (n : Int) {i : Nat}  {sp : Int × Int} (hi : k.ix n = some i) (he : k.ar[i]? = some ⟨.node, sp⟩) : TrR Tryz.prog 18 [pV kb, .int .i64 n] (L) (.tuple #[(En.obj ⟨.node, sp⟩).v, .bool true]) := by
 haveI := hK.kblk
 haveI := hK.oblk
 haveI : Blk L (ad i).ob (objO 224 (ad i).tb sp) := hK.ob he
 haveI : Blk L (ad i).tb (.cells [].toArray 226) := hK.tb he
 haveI := me_Node
 refine Tr.enter Tryz.func18 rfl Tryz.ntmps18 rfl (fun W F => ?_)
 refine Wp.app ?_
 refine Wr ?_
 refine zA fun b1 => ?_
 refine zq [1,2,5,3,4,0,9,6,8,0] ?_
 refine Ops.pv (pv_lookup_i (r := pV (ad i).ob) n rfl rfl ((kv_get k ad n).trans (by rw [hi]; rfl))) rfl ?_
 refine zq [1,2,5,3,3,4,0,59,2,5,17,11,5] ?_
 apply Wp.cutB1 [(4, _), (6, _)] (fun b2 => [(7, _)]) _ ⟨rfl, rfl, trivial⟩
 ·
  intro KK hA0
  refine AnyH.start [((ad i).ob, objO 224 (ad i).tb sp)] 12 rfl ?_
  refine zd [0,1,1,3,2,0,3,2,5,1,6,3,7,0,8,10] ?_
  refine AnyH.two 4 10 (by kernel_rfl) ?_ ?_
  ·
   refine Turn.ef rfl rfl (ef_invr (tr_kindNode (ad i).tb) rfl rfl) ?_ ?_
   ·
    rintro _ _ ⟨rfl, rfl⟩; infer_instance
   rintro _ _ ⟨rfl, rfl⟩
   refine zd [9,9] ?_
   refine AnyH.one 10 (by kernel_rfl) ?_
   refine Turn.ef rfl rfl (ef_allocK tyZ44 rfl) ?_ ?_
   ·
    rintro _ _ ⟨b2, rfl, rfl⟩; infer_instance
   rintro _ _ ⟨b2, rfl, rfl⟩
   refine zK 11 ?_
   refine AnyH.done (by kernel_rfl) ?_
   refine zq [49] ?_
   refine Goes.same (hA0 b2) ⟨rfl, rfl, rfl, trivial⟩
  refine Turn.ef rfl rfl (ef_allocK tyZ44 rfl) ?_ ?_
  ·
   rintro _ _ ⟨b3, rfl, rfl⟩; infer_instance
  rintro _ _ ⟨b3, rfl, rfl⟩
  refine AnyH.one 4 (by kernel_rfl) ?_
  refine Turn.ef rfl rfl (ef_invr (tr_kindNode (ad i).tb) rfl rfl) ?_ ?_
  ·
   rintro _ _ ⟨rfl, rfl⟩; infer_instance
  rintro _ _ ⟨rfl, rfl⟩
  refine zd [9,9] ?_
  refine zK 11 ?_
  refine AnyH.done (by kernel_rfl) ?_
  refine zq [49] ?_
  refine Goes.back (hA0 b3) ⟨rfl, rfl, rfl, trivial⟩
 intro b2
 dsimp only [List.cons_append, List.nil_append]
 refine zq [3,3,4,0,9,6,8,2,5,20,3,4] ?_
 refine Ops.pv (pv_assert rfl rfl) rfl ?_
 refine zq [7,7,2,5,17,3,4] ?_
 refine Ops.pv (pv_assert rfl rfl) rfl ?_
 refine zq [7,7,2,5,17,11,19,5,3,4,36,14,1,2,5,10] ?_
 exact Ends.ret (res_list (rs := [.cell 4 44, .tmp 5]) rfl ⟨_, _, rfl, rv_cellK [_, _, _, _, _, _, _] rfl rfl rfl ⟨rfl, rfl, rfl, rfl, rfl, rfl, rfl, trivial⟩, ⟨_, _, rfl, rv_tmp rfl, rfl⟩⟩ rfl) ⟨rfl, rfl⟩
set_option maxHeartbeats 2000000 in
theorem tr_kObjectThr (k : Kn) (A : KA) (ad : Nat → Ad) (kb : Nat) (L : Hp) (hK : KH k A ad kb L) (hw : KW k) (n : Int) {i : Nat} {t : ThrM} {c : CapM} {s b : Int} {sp : Int × Int} (hi : k.ix n = some i) (he : k.ar[i]? = some ⟨.thr t c s b, sp⟩) : TrR Tryz.prog 18 [pV kb, .int .i64 n] (L) (.tuple #[(En.obj ⟨.thr t c s b, sp⟩).v, .bool true]) := by
 haveI := hK.kblk
 haveI := hK.oblk
 haveI : Blk L (ad i).ob (objO 94 (ad i).tb sp) := hK.ob he
 haveI : Blk L (ad i).tb (thrO t c s b) := hK.tb he
 haveI := me_Thr
 refine Tr.enter Tryz.func18 rfl Tryz.ntmps18 rfl (fun W F => ?_)
 refine Wp.app ?_
 refine Wr ?_
 refine zA fun b1 => ?_
 refine zq [1,2,5,3,4,0,9,6,8,0] ?_
 refine Ops.pv (pv_lookup_i (r := pV (ad i).ob) n rfl rfl ((kv_get k ad n).trans (by rw [hi]; rfl))) rfl ?_
 refine zq [1,2,5,3,3,4,0,59,2,5,17,11,5] ?_
 apply Wp.cutB1 [(4, _), (6, _)] (fun b2 => [(7, _)]) _ ⟨rfl, rfl, trivial⟩
 ·
  intro KK hA0
  refine AnyH.start [((ad i).ob, objO 94 (ad i).tb sp)] 12 rfl ?_
  refine zd [0,1,1,3,2,0,3,2,5,1,6,3,7,0,8,10] ?_
  refine AnyH.two 4 10 (by kernel_rfl) ?_ ?_
  ·
   refine Turn.ef rfl rfl (ef_invr (tr_kindThr (ad i).tb) rfl rfl) ?_ ?_
   ·
    rintro _ _ ⟨rfl, rfl⟩; infer_instance
   rintro _ _ ⟨rfl, rfl⟩
   refine zd [9,9] ?_
   refine AnyH.one 10 (by kernel_rfl) ?_
   refine Turn.ef rfl rfl (ef_allocK tyZ44 rfl) ?_ ?_
   ·
    rintro _ _ ⟨b2, rfl, rfl⟩; infer_instance
   rintro _ _ ⟨b2, rfl, rfl⟩
   refine zK 11 ?_
   refine AnyH.done (by kernel_rfl) ?_
   refine zq [49] ?_
   refine Goes.same (hA0 b2) ⟨rfl, rfl, rfl, trivial⟩
  refine Turn.ef rfl rfl (ef_allocK tyZ44 rfl) ?_ ?_
  ·
   rintro _ _ ⟨b3, rfl, rfl⟩; infer_instance
  rintro _ _ ⟨b3, rfl, rfl⟩
  refine AnyH.one 4 (by kernel_rfl) ?_
  refine Turn.ef rfl rfl (ef_invr (tr_kindThr (ad i).tb) rfl rfl) ?_ ?_
  ·
   rintro _ _ ⟨rfl, rfl⟩; infer_instance
  rintro _ _ ⟨rfl, rfl⟩
  refine zd [9,9] ?_
  refine zK 11 ?_
  refine AnyH.done (by kernel_rfl) ?_
  refine zq [49] ?_
  refine Goes.back (hA0 b3) ⟨rfl, rfl, rfl, trivial⟩
 intro b2
 dsimp only [List.cons_append, List.nil_append]
 refine zq [3,3,4,0,9,6,8,2,5,20,3,4] ?_
 refine Ops.pv (pv_assert rfl rfl) rfl ?_
 refine zq [7,7,2,5,17,3,4] ?_
 refine Ops.pv (pv_assert rfl rfl) rfl ?_
 refine zq [7,7,2,5,17,11,19,5,3,4,36,14,1,2,5,10] ?_
 exact Ends.ret (res_list (rs := [.cell 4 44, .tmp 5]) rfl ⟨_, _, rfl, rv_cellK [_, _, _, _, _, _, _] rfl rfl rfl ⟨rfl, rfl, rfl, rfl, rfl, rfl, rfl, trivial⟩, ⟨_, _, rfl, rv_tmp rfl, rfl⟩⟩ rfl) ⟨rfl, rfl⟩
set_option maxHeartbeats 2000000 in
theorem tr_kObjectEp (k : Kn) (A : KA) (ad : Nat → Ad) (kb : Nat) (L : Hp) (hK : KH k A ad kb L) (hw : KW k) (n : Int) {i : Nat} {S : Ep} {sp : Int × Int} (hi : k.ix n = some i) (he : k.ar[i]? = some ⟨.ep S, sp⟩) : TrR Tryz.prog 18 [pV kb, .int .i64 n] (L) (.tuple #[(En.obj ⟨.ep S, sp⟩).v, .bool true]) := by
 haveI := hK.kblk
 haveI := hK.oblk
 haveI : Blk L (ad i).ob (objO 114 (ad i).tb sp) := hK.ob he
 haveI : Blk L (ad i).tb (.cells [.pointer (some ⟨(ad i).nb, 0, none⟩)].toArray 119) := hK.tb he
 haveI := me_Ep
 refine Tr.enter Tryz.func18 rfl Tryz.ntmps18 rfl (fun W F => ?_)
 refine Wp.app ?_
 refine Wr ?_
 refine zA fun b1 => ?_
 refine zq [1,2,5,3,4,0,9,6,8,0] ?_
 refine Ops.pv (pv_lookup_i (r := pV (ad i).ob) n rfl rfl ((kv_get k ad n).trans (by rw [hi]; rfl))) rfl ?_
 refine zq [1,2,5,3,3,4,0,59,2,5,17,11,5] ?_
 apply Wp.cutB1 [(4, _), (6, _)] (fun b2 => [(7, _)]) _ ⟨rfl, rfl, trivial⟩
 ·
  intro KK hA0
  refine AnyH.start [((ad i).ob, objO 114 (ad i).tb sp)] 12 rfl ?_
  refine zd [0,1,1,3,2,0,3,2,5,1,6,3,7,0,8,10] ?_
  refine AnyH.two 4 10 (by kernel_rfl) ?_ ?_
  ·
   refine Turn.ef rfl rfl (ef_invr (tr_kindEp (ad i).tb) rfl rfl) ?_ ?_
   ·
    rintro _ _ ⟨rfl, rfl⟩; infer_instance
   rintro _ _ ⟨rfl, rfl⟩
   refine zd [9,9] ?_
   refine AnyH.one 10 (by kernel_rfl) ?_
   refine Turn.ef rfl rfl (ef_allocK tyZ44 rfl) ?_ ?_
   ·
    rintro _ _ ⟨b2, rfl, rfl⟩; infer_instance
   rintro _ _ ⟨b2, rfl, rfl⟩
   refine zK 11 ?_
   refine AnyH.done (by kernel_rfl) ?_
   refine zq [49] ?_
   refine Goes.same (hA0 b2) ⟨rfl, rfl, rfl, trivial⟩
  refine Turn.ef rfl rfl (ef_allocK tyZ44 rfl) ?_ ?_
  ·
   rintro _ _ ⟨b3, rfl, rfl⟩; infer_instance
  rintro _ _ ⟨b3, rfl, rfl⟩
  refine AnyH.one 4 (by kernel_rfl) ?_
  refine Turn.ef rfl rfl (ef_invr (tr_kindEp (ad i).tb) rfl rfl) ?_ ?_
  ·
   rintro _ _ ⟨rfl, rfl⟩; infer_instance
  rintro _ _ ⟨rfl, rfl⟩
  refine zd [9,9] ?_
  refine zK 11 ?_
  refine AnyH.done (by kernel_rfl) ?_
  refine zq [49] ?_
  refine Goes.back (hA0 b3) ⟨rfl, rfl, rfl, trivial⟩
 intro b2
 dsimp only [List.cons_append, List.nil_append]
 refine zq [3,3,4,0,9,6,8,2,5,20,3,4] ?_
 refine Ops.pv (pv_assert rfl rfl) rfl ?_
 refine zq [7,7,2,5,17,3,4] ?_
 refine Ops.pv (pv_assert rfl rfl) rfl ?_
 refine zq [7,7,2,5,17,11,19,5,3,4,36,14,1,2,5,10] ?_
 exact Ends.ret (res_list (rs := [.cell 4 44, .tmp 5]) rfl ⟨_, _, rfl, rv_cellK [_, _, _, _, _, _, _] rfl rfl rfl ⟨rfl, rfl, rfl, rfl, rfl, rfl, rfl, trivial⟩, ⟨_, _, rfl, rv_tmp rfl, rfl⟩⟩ rfl) ⟨rfl, rfl⟩
set_option maxHeartbeats 2000000 in
theorem tr_kObjectNt (k : Kn) (A : KA) (ad : Nat → Ad) (kb : Nat) (L : Hp) (hK : KH k A ad kb L) (hw : KW k) (n : Int) {i : Nat} {S : Nt} {sp : Int × Int} (hi : k.ix n = some i) (he : k.ar[i]? = some ⟨.nt S, sp⟩) : TrR Tryz.prog 18 [pV kb, .int .i64 n] (L) (.tuple #[(En.obj ⟨.nt S, sp⟩).v, .bool true]) := by
 haveI := hK.kblk
 haveI := hK.oblk
 haveI : Blk L (ad i).ob (objO 120 (ad i).tb sp) := hK.ob he
 haveI : Blk L (ad i).tb (.cells [.pointer (some ⟨(ad i).nb, 0, none⟩)].toArray 124) := hK.tb he
 haveI := me_Nt
 refine Tr.enter Tryz.func18 rfl Tryz.ntmps18 rfl (fun W F => ?_)
 refine Wp.app ?_
 refine Wr ?_
 refine zA fun b1 => ?_
 refine zq [1,2,5,3,4,0,9,6,8,0] ?_
 refine Ops.pv (pv_lookup_i (r := pV (ad i).ob) n rfl rfl ((kv_get k ad n).trans (by rw [hi]; rfl))) rfl ?_
 refine zq [1,2,5,3,3,4,0,59,2,5,17,11,5] ?_
 apply Wp.cutB1 [(4, _), (6, _)] (fun b2 => [(7, _)]) _ ⟨rfl, rfl, trivial⟩
 ·
  intro KK hA0
  refine AnyH.start [((ad i).ob, objO 120 (ad i).tb sp)] 12 rfl ?_
  refine zd [0,1,1,3,2,0,3,2,5,1,6,3,7,0,8,10] ?_
  refine AnyH.two 4 10 (by kernel_rfl) ?_ ?_
  ·
   refine Turn.ef rfl rfl (ef_invr (tr_kindNt (ad i).tb) rfl rfl) ?_ ?_
   ·
    rintro _ _ ⟨rfl, rfl⟩; infer_instance
   rintro _ _ ⟨rfl, rfl⟩
   refine zd [9,9] ?_
   refine AnyH.one 10 (by kernel_rfl) ?_
   refine Turn.ef rfl rfl (ef_allocK tyZ44 rfl) ?_ ?_
   ·
    rintro _ _ ⟨b2, rfl, rfl⟩; infer_instance
   rintro _ _ ⟨b2, rfl, rfl⟩
   refine zK 11 ?_
   refine AnyH.done (by kernel_rfl) ?_
   refine zq [49] ?_
   refine Goes.same (hA0 b2) ⟨rfl, rfl, rfl, trivial⟩
  refine Turn.ef rfl rfl (ef_allocK tyZ44 rfl) ?_ ?_
  ·
   rintro _ _ ⟨b3, rfl, rfl⟩; infer_instance
  rintro _ _ ⟨b3, rfl, rfl⟩
  refine AnyH.one 4 (by kernel_rfl) ?_
  refine Turn.ef rfl rfl (ef_invr (tr_kindNt (ad i).tb) rfl rfl) ?_ ?_
  ·
   rintro _ _ ⟨rfl, rfl⟩; infer_instance
  rintro _ _ ⟨rfl, rfl⟩
  refine zd [9,9] ?_
  refine zK 11 ?_
  refine AnyH.done (by kernel_rfl) ?_
  refine zq [49] ?_
  refine Goes.back (hA0 b3) ⟨rfl, rfl, rfl, trivial⟩
 intro b2
 dsimp only [List.cons_append, List.nil_append]
 refine zq [3,3,4,0,9,6,8,2,5,20,3,4] ?_
 refine Ops.pv (pv_assert rfl rfl) rfl ?_
 refine zq [7,7,2,5,17,3,4] ?_
 refine Ops.pv (pv_assert rfl rfl) rfl ?_
 refine zq [7,7,2,5,17,11,19,5,3,4,36,14,1,2,5,10] ?_
 exact Ends.ret (res_list (rs := [.cell 4 44, .tmp 5]) rfl ⟨_, _, rfl, rv_cellK [_, _, _, _, _, _, _] rfl rfl rfl ⟨rfl, rfl, rfl, rfl, rfl, rfl, rfl, trivial⟩, ⟨_, _, rfl, rv_tmp rfl, rfl⟩⟩ rfl) ⟨rfl, rfl⟩
set_option maxHeartbeats 2000000 in
theorem tr_kObjectPage (k : Kn) (A : KA) (ad : Nat → Ad) (kb : Nat) (L : Hp) (hK : KH k A ad kb L) (hw : KW k) (n : Int) {i : Nat} {q : Int} {m : Bool} {s a : Int} {sp : Int × Int} (hi : k.ix n = some i) (he : k.ar[i]? = some ⟨.page q m s a, sp⟩) : TrR Tryz.prog 18 [pV kb, .int .i64 n] (L) (.tuple #[(En.obj ⟨.page q m s a, sp⟩).v, .bool true]) := by
 haveI := hK.kblk
 haveI := hK.oblk
 haveI : Blk L (ad i).ob (objO 110 (ad i).tb sp) := hK.ob he
 haveI : Blk L (ad i).tb (pageO q m s a) := hK.tb he
 haveI := me_Page
 refine Tr.enter Tryz.func18 rfl Tryz.ntmps18 rfl (fun W F => ?_)
 refine Wp.app ?_
 refine Wr ?_
 refine zA fun b1 => ?_
 refine zq [1,2,5,3,4,0,9,6,8,0] ?_
 refine Ops.pv (pv_lookup_i (r := pV (ad i).ob) n rfl rfl ((kv_get k ad n).trans (by rw [hi]; rfl))) rfl ?_
 refine zq [1,2,5,3,3,4,0,59,2,5,17,11,5] ?_
 apply Wp.cutB1 [(4, _), (6, _)] (fun b2 => [(7, _)]) _ ⟨rfl, rfl, trivial⟩
 ·
  intro KK hA0
  refine AnyH.start [((ad i).ob, objO 110 (ad i).tb sp)] 12 rfl ?_
  refine zd [0,1,1,3,2,0,3,2,5,1,6,3,7,0,8,10] ?_
  refine AnyH.two 4 10 (by kernel_rfl) ?_ ?_
  ·
   refine Turn.ef rfl rfl (ef_invr (tr_kindPage (ad i).tb q m s a) rfl rfl) ?_ ?_
   ·
    rintro _ _ ⟨rfl, rfl⟩; infer_instance
   rintro _ _ ⟨rfl, rfl⟩
   refine zd [9,9] ?_
   refine AnyH.one 10 (by kernel_rfl) ?_
   refine Turn.ef rfl rfl (ef_allocK tyZ44 rfl) ?_ ?_
   ·
    rintro _ _ ⟨b2, rfl, rfl⟩; infer_instance
   rintro _ _ ⟨b2, rfl, rfl⟩
   refine zK 11 ?_
   refine AnyH.done (by kernel_rfl) ?_
   refine zq [49] ?_
   refine Goes.same (hA0 b2) ⟨rfl, rfl, rfl, trivial⟩
  refine Turn.ef rfl rfl (ef_allocK tyZ44 rfl) ?_ ?_
  ·
   rintro _ _ ⟨b3, rfl, rfl⟩; infer_instance
  rintro _ _ ⟨b3, rfl, rfl⟩
  refine AnyH.one 4 (by kernel_rfl) ?_
  refine Turn.ef rfl rfl (ef_invr (tr_kindPage (ad i).tb q m s a) rfl rfl) ?_ ?_
  ·
   rintro _ _ ⟨rfl, rfl⟩; infer_instance
  rintro _ _ ⟨rfl, rfl⟩
  refine zd [9,9] ?_
  refine zK 11 ?_
  refine AnyH.done (by kernel_rfl) ?_
  refine zq [49] ?_
  refine Goes.back (hA0 b3) ⟨rfl, rfl, rfl, trivial⟩
 intro b2
 dsimp only [List.cons_append, List.nil_append]
 refine zq [3,3,4,0,9,6,8,2,5,20,3,4] ?_
 refine Ops.pv (pv_assert rfl rfl) rfl ?_
 refine zq [7,7,2,5,17,3,4] ?_
 refine Ops.pv (pv_assert rfl rfl) rfl ?_
 refine zq [7,7,2,5,18,3,4,1,2,5] ?_
 refine AnyH.start [((ad i).tb, pageO q m s a)] 18 rfl ?_
 refine zd [0,1,1,3,2,0,3,2,4,1,5,3,6,0,7,2,8,1,9,3,10,0,11,2,12,0] ?_
 refine z1 13 ?_
 refine zd [14,0] ?_
 refine z1 15 ?_
 refine zd [16,0] ?_
 refine z1 17 ?_
 refine AnyH.done (by kernel_rfl) ?_
 refine zq [19,5,3,4,36,14,1,2,5,10] ?_
 exact Ends.ret (res_list (rs := [.cell 4 44, .tmp 5]) rfl ⟨_, _, rfl, rv_cellK [_, _, _, _, _, _, _] rfl rfl rfl ⟨rfl, rfl, rfl, rfl, rfl, rfl, rfl, trivial⟩, ⟨_, _, rfl, rv_tmp rfl, rfl⟩⟩ rfl) ⟨rfl, rfl⟩
set_option maxHeartbeats 2000000 in
theorem tr_kObjectSpc (k : Kn) (A : KA) (ad : Nat → Ad) (kb : Nat) (L : Hp) (hK : KH k A ad kb L) (hw : KW k) (n : Int) {i : Nat}  {sp : Int × Int} (hi : k.ix n = some i) (he : k.ar[i]? = some ⟨.spc, sp⟩) : TrR Tryz.prog 18 [pV kb, .int .i64 n] (L) (.tuple #[(En.obj ⟨.spc, sp⟩).v, .bool true]) := by
 haveI := hK.kblk
 haveI := hK.oblk
 haveI : Blk L (ad i).ob (objO 229 (ad i).tb sp) := hK.ob he
 haveI : Blk L (ad i).tb (.cells [].toArray 230) := hK.tb he
 haveI := me_Spc
 refine Tr.enter Tryz.func18 rfl Tryz.ntmps18 rfl (fun W F => ?_)
 refine Wp.app ?_
 refine Wr ?_
 refine zA fun b1 => ?_
 refine zq [1,2,5,3,4,0,9,6,8,0] ?_
 refine Ops.pv (pv_lookup_i (r := pV (ad i).ob) n rfl rfl ((kv_get k ad n).trans (by rw [hi]; rfl))) rfl ?_
 refine zq [1,2,5,3,3,4,0,59,2,5,17,11,5] ?_
 apply Wp.cutB1 [(4, _), (6, _)] (fun b2 => [(7, _)]) _ ⟨rfl, rfl, trivial⟩
 ·
  intro KK hA0
  refine AnyH.start [((ad i).ob, objO 229 (ad i).tb sp)] 12 rfl ?_
  refine zd [0,1,1,3,2,0,3,2,5,1,6,3,7,0,8,10] ?_
  refine AnyH.two 4 10 (by kernel_rfl) ?_ ?_
  ·
   refine Turn.ef rfl rfl (ef_invr (tr_kindSpc (ad i).tb) rfl rfl) ?_ ?_
   ·
    rintro _ _ ⟨rfl, rfl⟩; infer_instance
   rintro _ _ ⟨rfl, rfl⟩
   refine zd [9,9] ?_
   refine AnyH.one 10 (by kernel_rfl) ?_
   refine Turn.ef rfl rfl (ef_allocK tyZ44 rfl) ?_ ?_
   ·
    rintro _ _ ⟨b2, rfl, rfl⟩; infer_instance
   rintro _ _ ⟨b2, rfl, rfl⟩
   refine zK 11 ?_
   refine AnyH.done (by kernel_rfl) ?_
   refine zq [49] ?_
   refine Goes.same (hA0 b2) ⟨rfl, rfl, rfl, trivial⟩
  refine Turn.ef rfl rfl (ef_allocK tyZ44 rfl) ?_ ?_
  ·
   rintro _ _ ⟨b3, rfl, rfl⟩; infer_instance
  rintro _ _ ⟨b3, rfl, rfl⟩
  refine AnyH.one 4 (by kernel_rfl) ?_
  refine Turn.ef rfl rfl (ef_invr (tr_kindSpc (ad i).tb) rfl rfl) ?_ ?_
  ·
   rintro _ _ ⟨rfl, rfl⟩; infer_instance
  rintro _ _ ⟨rfl, rfl⟩
  refine zd [9,9] ?_
  refine zK 11 ?_
  refine AnyH.done (by kernel_rfl) ?_
  refine zq [49] ?_
  refine Goes.back (hA0 b3) ⟨rfl, rfl, rfl, trivial⟩
 intro b2
 dsimp only [List.cons_append, List.nil_append]
 refine zq [3,3,4,0,9,6,8,2,5,20,3,4] ?_
 refine Ops.pv (pv_assert rfl rfl) rfl ?_
 refine zq [7,7,2,5,17,3,4] ?_
 refine Ops.pv (pv_assert rfl rfl) rfl ?_
 refine zq [7,7,2,5,17,11,19,5,3,4,36,14,1,2,5,10] ?_
 exact Ends.ret (res_list (rs := [.cell 4 44, .tmp 5]) rfl ⟨_, _, rfl, rv_cellK [_, _, _, _, _, _, _] rfl rfl rfl ⟨rfl, rfl, rfl, rfl, rfl, rfl, rfl, trivial⟩, ⟨_, _, rfl, rv_tmp rfl, rfl⟩⟩ rfl) ⟨rfl, rfl⟩
theorem tr_kObject (k : Kn) (A : KA) (ad : Nat → Ad) (kb : Nat) (L : Hp) (hK : KH k A ad kb L) (hw : KW k) (n : Int) : TrR Tryz.prog 18 [pV kb, .int .i64 n] L (.tuple #[(k.obj n).v, .bool (k.en n).isSome]) := by
 cases hi : k.ix n with
 | none =>
  have e0 : k.en n = none := by unfold Kn.en; rw [hi]; rfl
  have e1 : k.obj n = ⟨0, (0, 0), 0, false, 0, 0⟩ := by unfold Kn.obj; rw [e0]
  rw [e0, e1]; exact tr_kObjectZ k A ad kb L hK hw n hi
 | some i =>
  obtain ⟨⟨th, sp⟩, he⟩ := hw.en hi
  have e0 := en_eq hi he
  have e1 : k.obj n = (⟨th, sp⟩ : En).obj := by unfold Kn.obj; rw [e0]
  rw [e0, e1]
  cases th with
  | unt u => exact tr_kObjectUnt k A ad kb L hK hw n hi he
  | node => exact tr_kObjectNode k A ad kb L hK hw n hi he
  | thr t c s d => exact tr_kObjectThr k A ad kb L hK hw n hi he
  | ep S => exact tr_kObjectEp k A ad kb L hK hw n hi he
  | nt S => exact tr_kObjectNt k A ad kb L hK hw n hi he
  | page q m s a => exact tr_kObjectPage k A ad kb L hK hw n hi he
  | spc => exact tr_kObjectSpc k A ad kb L hK hw n hi he
end Go.Proofs.YtipncceiekalfaaGreat
end
section
set_option linter.unusedVariables false
set_option linter.unusedSimpArgs false
set_option linter.unusedSectionVars false
namespace Go.Proofs.YtipncceiekalfaaGreat
open Go.SL
theorem tr_kCreateT (k : Kn) (A : KA) (ad : Nat → Ad) (kb : Nat) (L : Hp) (hK : KH k A ad kb L) (hw : KW k) (n kd : Int) (q : Int × Int) (size : Int) (hn : 0 ≤ n ∧ n < 64) (hf : k.free n = false) : TrR Tryz.prog 27 [pV kb, .int .i64 n, .int .i64 kd, slotV q, .int .i64 size] (L) (.int .i64 4) := by
 refine Tr.enter Tryz.func27 rfl Tryz.ntmps27 rfl (fun W F => ?_)
 refine Wp.app ?_
 refine Wr ?_
 refine zB fun b1 => ?_
 refine zq [1,2,5,3,20,3,4,0,42,0] ?_
 refine Ops.pvcn rfl rfl (fun hg => pv_move rfl) rfl ?_
 refine Ops.pvcn rfl rfl (fun hg => Pv.setE (t := 17) rfl (cv_pos hg) (pv_geq rfl rfl)) rfl ?_
 refine zq [47,1,2,5] ?_
 refine Wp.cond_t rfl (fun h1 => (by exfalso; first | (simp_all; done) | (simp_all; omega) | omega)) (fun h1 => ?_)
 refine zq [3,4,0,0] ?_
 refine zC ((tr_kFree k A ad kb L hK hw n).eq (r' := .bool false) (by rw [hf])) ?_
 refine zq [39,1,2,5,18,3,4,1,2,5,10,15,12] ?_
 exact zr ⟨rfl, rfl⟩
theorem tr_w0 {A : KA} {ad : Nat → Ad} {kb : Nat} {L : Hp} (hK : KH work0 A ad kb L) : Tr Tryz.prog 12 [pV kb] L (fun u L' => u = .bool true ∧ KH work1 A ad kb L') := by
 have h := tr_kStepB work_s0 work_r1.1 hK
 unfold work1
 exact h
theorem tr_w1 {A : KA} {ad : Nat → Ad} {kb : Nat} {L : Hp} (hK : KH work1 A ad kb L) : Tr Tryz.prog 12 [pV kb] L (fun u L' => u = .bool true ∧ KH work2 A ad kb L') := by
 have h := tr_kStepB work_s1 work_b.1 hK
 unfold work2
 exact h
theorem tr_w2 {A : KA} {ad : Nat → Ad} {kb : Nat} {L : Hp} (hK : KH work2 A ad kb L) : Tr Tryz.prog 12 [pV kb] L (fun u L' => u = .bool true ∧ KH work3 A ad kb L') := by
 have h := tr_kStepB work_s2 work_b.2 hK
 unfold work3
 exact h
theorem work_c3 : work3.curB = false := by decide +kernel
attribute [local irreducible] work1 work2 work3
set_option maxHeartbeats 16000000 in
theorem tr_kworks  : TrR Tryz.prog 9 [] ([]) (.bool true) := by
 obtain ⟨ra, r1, r2⟩ := work_r1
 obtain ⟨r3, r4⟩ := work_r2
 obtain ⟨rb, r5⟩ := work_r3
 obtain ⟨rc, rd⟩ := work_b
 obtain ⟨r6, r7⟩ := work_r5
 refine Tr.enter Tryz.func9 rfl Tryz.ntmps9 rfl (fun W F => ?_)
 refine Wp.app ?_
 refine zq [3,4,1,2,5,3,4] ?_
 refine zC (tr_lCode 1 0 0 7 (by decide) (by decide) (by decide) (by decide)) ?_
 refine zC (tr_lCode 16 0 0 7 (by decide) (by decide) (by decide) (by decide)) ?_
 refine Ops.ef rfl (ef_buildSliceN [.int .u64 0, .int .u64 0, .int .u64 0] [(0, 1), (1, 1), (2, 1)] rfl (by kernel_rfl) (by first | decide | rfl) rfl rfl rfl) ?_
 rintro _ _ ⟨b1, rfl, rfl⟩
 refine zD (tr_lOne [(b1, .cells [.int .u64 (codeN 1 0 0 7 : Nat), .int .u64 (codeN 16 0 0 7 : Nat), .int .u64 0].toArray 22)] (some ⟨b1, 0, none⟩) 3 workC ⟨rfl, _, _, rfl, by decide, .inr ⟨b1, 0, _, 22, _, rfl, List.mem_cons_self .., ⟨rfl, rfl, rfl, trivial⟩⟩⟩ (by decide) work_u) ?_
 rintro _ _ ⟨kb1, A1, ad1, M1, rfl, hk1, rfl⟩
 refine Ops.app ?_
 refine zq [0,7,7,1,1,2,5,3,3,4,0,39,0,21] ?_
 refine Ops.efg ⟨_, _, rfl, rfl, rfl⟩ (ef_call (tr_w0 hk1) rfl rfl) ?_
 rintro _ _ ⟨_, J1, ⟨rfl, hk2⟩, rfl, rfl⟩
 refine Ops.app ?_
 refine zq [54,26,2,5,17,11,5,3,4,0] ?_
 refine zC (tr_kThread work1 A1 ad1 kb1 _ hk2 work_s1.kw 4) ?_
 refine zq [0,7,7] ?_
 refine zA fun b2 => ?_
 refine zq [14,1,2,5,3,4,0] ?_
 refine zD (tr_w1 hk2) ?_
 rintro _ J2 ⟨rfl, hk3⟩
 refine Ops.app ?_
 refine zq [2,5,3,4,0] ?_
 refine zC (tr_kThread work2 A1 ad1 kb1 _ hk3 work_s2.kw 4) ?_
 refine zq [0,7,7] ?_
 refine zA fun b3 => ?_
 refine zq [14,1,2,5,3,4,0] ?_
 refine zD (tr_w2 hk3) ?_
 rintro _ J3 ⟨rfl, hk4⟩
 refine Ops.app ?_
 refine zq [2,5,3,4,0] ?_
 refine zC ((tr_kThread work3 A1 ad1 kb1 _ hk4 work_s3.kw 4).eq (r' := .tuple #[(thrT work3 4).v, .bool true]) (by rw [rb])) ?_
 refine zq [0,7,7] ?_
 refine zA fun b4 => ?_
 refine zq [14,1,2,5,3,4,6] ?_
 refine Ops.pv (pv_indexAddrA (i := 0) rfl rfl rfl (by decide)) rfl ?_
 refine zq [8,66,0,50,51,69,24,0,50] ?_
 refine Ops.pvg ⟨_, _, rfl, rfl, rfl⟩ (pv_indexAddrA (i := 0) rfl rfl rfl (by decide)) rfl ?_
 refine zq [51,69,24,0,50,51,69,24,0,21,24,0,50,51,69,24,0,21] ?_
 refine Ops.efg ⟨_, _, rfl, rfl, rfl⟩ (ef_callr (tr_kStepN work3 A1 ad1 kb1 _ hk4 work_s3.kw work_c3) rfl rfl) ?_
 rintro _ _ ⟨rfl, rfl⟩
 refine zq [54,24,0,21,56] ?_
 refine Ops.efg ⟨_, _, rfl, rfl, rfl⟩ (ef_callr (tr_kCreateT work3 A1 ad1 kb1 _ hk4 work_s3.kw 0 2 (0, 0) 1 (by decide) r6) rfl rfl) ?_
 rintro _ _ ⟨rfl, rfl⟩
 refine zq [69,24,0,21,56,56] ?_
 refine Ops.efg ⟨_, _, rfl, rfl, rfl⟩ (ef_call (tr_kPlant work3 A1 ad1 kb1 _ hk4 work_s3.kw (0, 1) ⟨4, 9, 0, 0, 0, 0⟩) rfl rfl) ?_
 rintro _ _ ⟨_, J4, ⟨rfl, hk5⟩, rfl, rfl⟩
 refine Ops.app ?_
 rw [r7]
 refine zq [69,24,1,2,5,10] ?_
 exact zr ⟨rfl, rfl⟩
end Go.Proofs.YtipncceiekalfaaGreat
end
section
set_option linter.unusedVariables false
set_option linter.unusedSimpArgs false
set_option linter.unusedSectionVars false
namespace Go.Proofs.YtipncceiekalfaaGreat
open Go.SL
def callF1 (k : Kn) (n : Int) (i : Nat) (c : Int) : Kn × Bool := (k.call n i c, false)
theorem KX.atK {k : Kn} (h : KX k) (s a : Int) (hr : k.tl.length ≤ 7) : KX (k.atK s a) ∧ Kq 0 k (k.atK s a) := ⟨⟨h.kw.atK s a hr, h.rok⟩, atK_kp k s a, Nat.le_refl _⟩
theorem KX.setM {k : Kn} (h : KX k) (a : Int) {v : Int} (hv : U64 v) : KX { k with ws := memPut k.ws a v } ∧ Kq 0 k { k with ws := memPut k.ws a v } := ⟨⟨h.kw.setM a hv, h.rok⟩, Kp.ws, Nat.le_refl _⟩
theorem run_bad {k : Kn} {i : Nat} {t : ThrM} {s : Int} {F : Kn → Int → Kn × Bool} (hb : badI k t s) : k.run F i t s = (k.atK s t.pc, false) := by unfold Kn.run; simp only [if_pos hb]
section
variable {k : Kn} {i : Nat} {t : ThrM} {s : Int} {F : Kn → Int → Kn × Bool} (hb : ¬ badI k t s) {x : EffM} (hx : effI k t s = x)
include hb hx
theorem run_end (h4 : x.asks = 4) : k.run F i t s = (k.atK s t.pc, false) := by unfold Kn.run; simp only [if_neg hb, hx, if_pos h4]
theorem run_read (h1 : x.asks = 1) (hv : ((k.atK s t.pc).loadR s x.at_).2 = 0) : k.run F i t s = (((k.atK s t.pc).atK s x.at_).setI i (doneT { x with regs := x.regs.set ((k.atK s t.pc).loadR s x.at_).1 x.reg.toNat }), true) := by
 unfold Kn.run; simp only [if_neg hb, hx, h1, show ¬ (1 : Int) = 4 by decide, if_false, if_true, hv, ne_eq, not_true_eq_false]
theorem run_readN (h1 : x.asks = 1) (hv : ¬ ((k.atK s t.pc).loadR s x.at_).2 = 0) : k.run F i t s = ((k.atK s t.pc).atK s x.at_, false) := by
 unfold Kn.run; simp only [if_neg hb, hx, h1, show ¬ (1 : Int) = 4 by decide, if_false, if_true, ne_eq, hv, not_false_eq_true]
theorem run_write (h1 : x.asks = 2) (hv : ((k.atK s t.pc).atR s x.at_ true).2 = 0) (hm : memPutE (k.atK s t.pc).ws ((k.atK s t.pc).atR s x.at_ true).1 = 0) : k.run F i t s = (({ (k.atK s t.pc).atK s x.at_ with ws := memPut (k.atK s t.pc).ws ((k.atK s t.pc).atR s x.at_ true).1 x.val } : Kn).setI i (doneT x), true) := by
 unfold Kn.run; simp only [if_neg hb, hx, h1, show ¬ (2 : Int) = 4 by decide, show ¬ (2 : Int) = 1 by decide, if_false, if_true, hv, hm, ne_eq, not_true_eq_false]
theorem run_writeB (h1 : x.asks = 2) (hv : ((k.atK s t.pc).atR s x.at_ true).2 = 0) (hm : ¬ memPutE (k.atK s t.pc).ws ((k.atK s t.pc).atR s x.at_ true).1 = 0) : k.run F i t s = ((k.atK s t.pc).atK s x.at_, false) := by
 unfold Kn.run; simp only [if_neg hb, hx, h1, show ¬ (2 : Int) = 4 by decide, show ¬ (2 : Int) = 1 by decide, if_false, if_true, hv, hm, ne_eq, not_true_eq_false, not_false_eq_true]
theorem run_writeN (h1 : x.asks = 2) (hv : ¬ ((k.atK s t.pc).atR s x.at_ true).2 = 0) : k.run F i t s = ((k.atK s t.pc).atK s x.at_, false) := by
 unfold Kn.run; simp only [if_neg hb, hx, h1, show ¬ (2 : Int) = 4 by decide, show ¬ (2 : Int) = 1 by decide, if_false, if_true, hv, ne_eq, not_false_eq_true]
theorem run_call (h1 : x.asks = 3) : k.run F i t s = (if (F ((k.atK s t.pc).setI i (doneT x)) x.val).2 = true then (F ((k.atK s t.pc).setI i (doneT x)) x.val).1.setI i (fun u => { u with pc := t.pc }) else (F ((k.atK s t.pc).setI i (doneT x)) x.val).1, true) := by
 unfold Kn.run; simp only [if_neg hb, hx, h1, show ¬ (3 : Int) = 4 by decide, show ¬ (3 : Int) = 1 by decide, show ¬ (3 : Int) = 2 by decide, if_false, if_true]
theorem run_plain (h : x.asks ≠ 4 ∧ x.asks ≠ 1 ∧ x.asks ≠ 2 ∧ x.asks ≠ 3) : k.run F i t s = ((k.atK s t.pc).setI i (doneT x), true) := by
 unfold Kn.run; simp only [if_neg hb, hx, if_neg h.1, if_neg h.2.1, if_neg h.2.2.1, if_neg h.2.2.2]
end
section
variable (k : Kn) (A : KA) (ad : Nat → Ad) (kb : Nat) (L : Hp) (hK : KH k A ad kb L) (hx : KX k) (hn : k.nk < 2 ^ 18) {i : Nat} {t : ThrM} {c : CapM} {s b : Int} {sp : Int × Int} (he : k.ar[i]? = some ⟨.thr t c s b, sp⟩) (n : Int) (hi : k.ix n = some i) (hr : k.tl.length ≤ 6)
  (h3 : ¬ badI k t s → (effI k t s).asks = 3 → (effI k t s).val ≠ 11 ∧ callOkB ((k.atK s t.pc).setI i (doneT (effI k t s))) n i (effI k t s).val = true)
include hK hx hn he hi hr h3 in
theorem tr_kRunC (hs : s = -1 ∨ ∃ j, k.ix s = some j) : Tr Tryz.prog 34 [pV kb, .int .i64 n, pV (ad i).tb] L (fun u L' => u = .bool (k.run (fun k' c => callF1 k' n i c) i t s).2 ∧ KH (k.run (fun k' c => callF1 k' n i c) i t s).1 A ad kb L') := by
 have hw := hx.kw
 have htw := (hw.ths i _ he).1
 have he1 : (k.atK s t.pc).ar[i]? = some ⟨.thr t c s b, sp⟩ := he
 by_cases hb : badI k t s
 ·
  rw [run_bad hb]; exact tr_kRunBad k A ad kb L hK hw he hs n hr hb
 generalize hx0 : effI k t s = x at *
 by_cases h4 : x.asks = 4
 ·
  rw [run_end hb hx0 h4]; exact tr_kRunEnd k A ad kb L hK hw he hs n hr hb x hx0 h4
 by_cases h1 : x.asks = 1
 ·
  by_cases hv : ((k.atK s t.pc).loadR s x.at_).2 = 0
  ·
   rw [run_read hb hx0 h1 hv]; exact tr_kRunRead k A ad kb L hK hw he hs n hr hb x hx0 h1 hv
  ·
   rw [run_readN hb hx0 h1 hv]; exact tr_kRunReadN k A ad kb L hK hw he hs n hr hb x hx0 h1 hv
 by_cases h2 : x.asks = 2
 ·
  by_cases hv : ((k.atK s t.pc).atR s x.at_ true).2 = 0
  ·
   by_cases hm : memPutE (k.atK s t.pc).ws ((k.atK s t.pc).atR s x.at_ true).1 = 0
   ·
    rw [run_write hb hx0 h2 hv hm]; exact tr_kRunWrite k A ad kb L hK hw he hs n hr hb x hx0 h2 hv hm
   ·
    rw [run_writeB hb hx0 h2 hv hm]
    have h := tr_kRunWriteB k A ad kb L hK hw he hs n hr hb x hx0 h2 hv hm
    rw [show memPut ((k.atK s t.pc).atK s x.at_).ws ((k.atK s t.pc).atR s x.at_ true).1 x.val = ((k.atK s t.pc).atK s x.at_).ws from putE_ne hm] at h
    exact h
  ·
   rw [run_writeN hb hx0 h2 hv]; exact tr_kRunWriteN k A ad kb L hK hw he hs n hr hb x hx0 h2 hv
 by_cases h5 : x.asks = 3
 ·
  rw [run_call hb hx0 h5]
  obtain ⟨h11, hok⟩ := h3 hb h5
  have hxo : x.Ok := by rw [← hx0]; exact run_ok (unpI_ok (Decidable.of_not_not (fun h => hb (.inr h)))) htw.wf.regs htw.pc
  obtain ⟨hx1, q1⟩ := hx.atK s t.pc (by omega)
  obtain ⟨hx2, q2⟩ := hx1.setI i (f := doneT x) (fun t ht => done_w ht hxo)
  refine tr_kRunCall k A ad kb L hK hw he hs n hr hb x hx0 h5 _ (fun L2 hK2 => ?_)
  have he2 := setI_get he1 (doneT x)
  have h := tr_cCall _ A ad kb L2 hK2 hx2 (by have := q1.nk; have := q2.nk; omega) he2 n (((q1.trans q2).kp.ix n).trans hi) x.val (CallOk.of he2 hok) k 0 (by decide) (fun e => absurd e h11)
  refine h.mono ?_
  rintro v L' ⟨rfl, hk⟩
  rw [if_neg h11] at hk
  exact ⟨by rw [decide_eq_false (fun e => h11 e.1)], hk⟩
 ·
  rw [run_plain hb hx0 ⟨h4, h1, h2, h5⟩]; exact tr_kRunPlain k A ad kb L hK hw he hs n hr hb x hx0 ⟨h4, h1, h2, h5⟩
include hx hn he hi hr in
theorem run_kx : KX (k.run (fun k' c => callF1 k' n i c) i t s).1 ∧ Kq 1 k (k.run (fun k' c => callF1 k' n i c) i t s).1 := by
 have htw := (hx.kw.ths i _ he).1
 obtain ⟨hx1, q1⟩ := hx.atK s t.pc (by omega)
 have hl1 := atK_len s t.pc (k := k) (by omega)
 have hx2 := fun a => hx1.atK s a (by omega)
 by_cases hb : badI k t s
 ·
  rw [run_bad hb]; exact ⟨hx1, q1.le (by omega)⟩
 have hxo : (effI k t s).Ok := run_ok (unpI_ok (Decidable.of_not_not (fun h => hb (.inr h)))) htw.wf.regs htw.pc
 generalize hx0 : effI k t s = x at *
 have hd : ∀ u, ThW u → ThW (doneT x u) := fun u hu => done_w hu hxo
 by_cases h4 : x.asks = 4
 ·
  rw [run_end hb hx0 h4]; exact ⟨hx1, q1.le (by omega)⟩
 by_cases h1 : x.asks = 1
 ·
  by_cases hv : ((k.atK s t.pc).loadR s x.at_).2 = 0
  ·
   rw [run_read hb hx0 h1 hv]
   obtain ⟨a, b⟩ := (hx2 x.at_).1.setI i (f := doneT { x with regs := x.regs.set ((k.atK s t.pc).loadR s x.at_).1 x.reg.toNat }) (fun u hu => done_w hu ⟨hxo.regs.set (load_u64 hx1.kw _ _) _, hxo.pc, hxo.at_, hxo.reg, hxo.val⟩)
   exact ⟨a, ((q1.trans (hx2 x.at_).2).trans b).le (by omega)⟩
  ·
   rw [run_readN hb hx0 h1 hv]; exact ⟨(hx2 _).1, (q1.trans (hx2 _).2).le (by omega)⟩
 by_cases h2 : x.asks = 2
 ·
  by_cases hv : ((k.atK s t.pc).atR s x.at_ true).2 = 0
  ·
   by_cases hm : memPutE (k.atK s t.pc).ws ((k.atK s t.pc).atR s x.at_ true).1 = 0
   ·
    rw [run_write hb hx0 h2 hv hm]
    obtain ⟨a, b⟩ := (hx2 x.at_).1.setM ((k.atK s t.pc).atR s x.at_ true).1 hxo.val
    obtain ⟨a2, b2⟩ := a.setI i hd
    exact ⟨a2, (((q1.trans (hx2 x.at_).2).trans b).trans b2).le (by omega)⟩
   ·
    rw [run_writeB hb hx0 h2 hv hm]; exact ⟨(hx2 _).1, (q1.trans (hx2 _).2).le (by omega)⟩
  ·
   rw [run_writeN hb hx0 h2 hv]; exact ⟨(hx2 _).1, (q1.trans (hx2 _).2).le (by omega)⟩
 by_cases h5 : x.asks = 3
 ·
  rw [run_call hb hx0 h5]
  obtain ⟨a, b⟩ := hx1.setI i hd
  have hI : I64 n := ix_i64 hx hi
  obtain ⟨a2, b2⟩ := a.call (by have := q1.nk; have := b.nk; omega) n hI i x.val
  exact ⟨a2, ((q1.trans b).trans b2).le (by omega)⟩
 ·
  rw [run_plain hb hx0 ⟨h4, h1, h2, h5⟩]
  obtain ⟨a, b⟩ := hx1.setI i hd
  exact ⟨a, (q1.trans b).le (by omega)⟩
end
structure StC (k : Kn) : Prop where
  kx : KX k
  nk : k.nk < 2 ^ 18
  tl : k.tl.length ≤ 6
  cur : k.curB = true → (k.thr k.cur).isSome = true
  sp : ∀ x, k.thr k.cur = some x → x.2.2.1 = -1 ∨ (k.ix x.2.2.1).isSome = true
  c3 : ∀ i x, k.ix k.cur = some i → k.thr k.cur = some x → ¬ badI k x.1 x.2.2.1 → (effI k x.1 x.2.2.1).asks = 3 → (effI k x.1 x.2.2.1).val ≠ 11 ∧ callOkB ((k.atK x.2.2.1 x.1.pc).setI i (doneT (effI k x.1 x.2.2.1))) k.cur i (effI k x.1 x.2.2.1).val = true
theorem step_no {k : Kn} {F : Kn → Int → Nat → Int → Kn × Bool} (hB : k.curB = false) : k.step F = (k, false) := by unfold Kn.step; rw [hB]; rfl
theorem tr_kStepC (k : Kn) (A : KA) (ad : Nat → Ad) (kb : Nat) (L : Hp) (hK : KH k A ad kb L) (h : StC k) : Tr Tryz.prog 12 [pV kb] L (fun u L' => u = .bool (k.step callF1).2 ∧ KH (k.step callF1).1 A ad kb L') := by
 cases hB : k.curB with
 | false =>
  rw [step_no hB]
  exact (tr_kStepN k A ad kb L hK h.kx.kw hB).mono (fun v L' hv => ⟨hv.1, by rw [hv.2]; exact hK⟩)
 | true =>
  obtain ⟨x, hx⟩ := Option.isSome_iff_exists.1 (h.cur hB)
  obtain ⟨i, sp, hi, he⟩ := thr_ex hx
  have hs : x.2.2.1 = -1 ∨ ∃ j, k.ix x.2.2.1 = some j := (h.sp x hx).imp id (fun q => Option.isSome_iff_exists.1 q)
  rw [step_yes hB hi hx]
  have hrun : ∀ L2, KH k A ad kb L2 → _ := fun L2 hK2 => tr_kRunC k A ad kb L2 hK2 h.kx h.nk he k.cur hi h.tl (h.c3 i x hi hx) hs
  obtain ⟨hwq, hkp⟩ := run_kx k h.kx h.nk he k.cur hi h.tl
  cases hq : (k.run (fun k' c => callF1 k' k.cur i c) i x.1 x.2.2.1).2 with
  | true =>
   rw [if_pos rfl]
   rw [hq] at hrun
   exact tr_kStepT k A ad kb L hK h.kx.kw hB hi he _ hrun
  | false =>
   rw [if_neg (by decide)]
   rw [hq] at hrun
   obtain ⟨t', ht'⟩ := hkp.kp.th i _ _ _ _ _ he
   exact tr_kStepF k A ad kb L hK h.kx.kw hB hi he _ hrun hwq.kw (by rw [hkp.kp.ix]; exact hi) ht'
theorem step_kx {k : Kn} (h : StC k) : KX (k.step callF1).1 ∧ Kq 1 k (k.step callF1).1 := by
 cases hB : k.curB with
 | false => rw [step_no hB]; exact ⟨h.kx, (Kq.refl k).le (by omega)⟩
 | true =>
  obtain ⟨x, hx⟩ := Option.isSome_iff_exists.1 (h.cur hB)
  obtain ⟨i, sp, hi, he⟩ := thr_ex hx
  rw [step_yes hB hi hx]
  obtain ⟨hwq, hkp⟩ := run_kx k h.kx h.nk he k.cur hi h.tl
  dsimp only
  split
  ·
   exact ⟨hwq, hkp⟩
  ·
   obtain ⟨h1, h2⟩ := hwq.halt k.cur
   exact ⟨h1, (hkp.trans h2).le (by omega)⟩
def stcB (k : Kn) : Bool := match k.ix k.cur, k.thr k.cur with
  | some i, some x => (decide (x.2.2.1 = -1) || (k.ix x.2.2.1).isSome) && (decide (badI k x.1 x.2.2.1) || decide ((effI k x.1 x.2.2.1).asks ≠ 3) || (decide ((effI k x.1 x.2.2.1).val ≠ 11) && callOkB ((k.atK x.2.2.1 x.1.pc).setI i (doneT (effI k x.1 x.2.2.1))) k.cur i (effI k x.1 x.2.2.1).val))
  | _, _ => !k.curB
theorem StC.of {k : Kn} (hx : KX k) (hn : k.nk < 2 ^ 18) (ht : k.tl.length ≤ 6) (hb : stcB k = true) : StC k := by
 cases hq : k.thr k.cur with
 | none =>
  have hb2 : k.curB = false := by
   unfold stcB at hb; rw [hq] at hb
   split at hb
   ·
    rename_i h1; cases h1
   ·
    simpa using hb
  exact ⟨hx, hn, ht, fun h => (by rw [hb2] at h; cases h), fun x h => (by rw [hq] at h; cases h), fun i x _ h => (by rw [hq] at h; cases h)⟩
 | some x =>
  obtain ⟨i, sp, hi, he⟩ := thr_ex hq
  unfold stcB at hb; rw [hi, hq] at hb
  simp only [Bool.and_eq_true, Bool.or_eq_true, decide_eq_true_eq] at hb
  refine ⟨hx, hn, ht, fun h => by rw [hq]; rfl, fun y h => ?_, fun i2 y h0 h h1 h2 => ?_⟩
  ·
   rw [hq] at h; cases h; exact hb.1
  ·
   rw [hq] at h; cases h
   rw [hi] at h0; cases h0
   rcases hb.2 with (h3 | h3) | h3
   ·
    exact absurd h3 h1
   ·
    exact absurd h2 h3
   ·
    exact h3
theorem tr_kStepD {k : Kn} (h : StC k) {b : Bool} (hb : (k.step callF1).2 = b) {A : KA} {ad : Nat → Ad} {kb : Nat} {L : Hp} (hK : KH k A ad kb L) : Tr Tryz.prog 12 [pV kb] L (fun u L' => u = .bool b ∧ KH (k.step callF1).1 A ad kb L') := by
 subst hb; exact tr_kStepC k A ad kb L hK h
end Go.Proofs.YtipncceiekalfaaGreat
end
section
set_option linter.unusedVariables false
set_option linter.unusedSimpArgs false
set_option linter.unusedSectionVars false
namespace Go.Proofs.YtipncceiekalfaaGreat
open Go.SL
section
variable {k : Kn} (h : KX k)
include h
theorem KX.made {n kd size : Int} {q : Int × Int} (hc : createE k n kd q size = 0) : KX (k.made n kd q size) := by
 refine ⟨h.kw.made hc, ?_⟩
 show ROk (freshP k.p n kd size)
 unfold freshP
 split
 ·
  exact h.rok.node _ _
 ·
  exact h.rok
theorem KX.plant (s : SlotM) {c : CapM} (hc : c.Rg) (hn : k.nk < 2 ^ 18) : KX (k.plant s c).2 := by
 refine ⟨h.kw.plant s c hn, ?_⟩
 unfold Kn.plant
 split
 ·
  exact h.rok
 ·
  exact h.rok.plant s hc
theorem KX.setW {ws : List Int} (hl : ws.length = k.ws.length) (hw : WdOk ws) : KX { k with ws := ws } := ⟨h.kw.setW hl hw, h.rok⟩
theorem KX.map (n into a : Int) (wr : Bool) : KX (k.map n into a wr) := by
 unfold Kn.map
 split
 ·
  split
  ·
   exact h
  ·
   rename_i i x hi hp _
   refine ⟨?_, h.rok⟩
   have hw2 : KW { k with ws := if x.1 = 7 then tableW k.ws (spcAt k into) a (spcAt k n) else smapW k.ws (spcAt k into) a (spcAt k n) wr } := by
    split
    ·
     exact h.kw.setW (table_len ..) (table_ok h.kw.wok _ _ _)
    ·
     exact h.kw.setW (smap_len ..) (smap_ok h.kw.wok _ _ _ _)
   exact hw2.setA (i := i) (th := .page x.1 true into a) trivial
 ·
  exact h
theorem KX.setup (n lvl dom : Int) {pc : Int} (root : CapM) (space : Int) {r : RegsM} (hr : r.Ok) : KX (k.setup n lvl dom pc root space r) := by
 unfold Kn.setup
 split
 ·
  exact h
 ·
  rename_i h0
  split
  ·
   rename_i i x hi hx
   obtain ⟨i2, sp, hi2, he⟩ := thr_ex hx
   have e0 := setup_eq (lvl := lvl) (dom := dom) (pc := pc) (root := root) (space := space) hi2 he
   rw [Decidable.not_not.1 h0] at e0
   have hth := (h.kw.ths _ _ he).1
   refine ⟨h.kw.setA ?_, h.rok⟩
   by_cases a1 : (newTM lvl dom).2 ≠ 0
   ·
    rw [if_pos a1] at e0; exact absurd e0.symm a1
   rw [if_neg a1] at e0
   have a2 : ¬ (pc < 0 ∨ pc ≥ 4096) := fun a2 => by rw [if_pos a2] at e0; cases e0
   rw [if_neg a2] at e0
   have a3 : ¬ x.1.st ≠ 0 := fun a3 => by rw [if_pos a3] at e0; cases e0
   rw [if_neg a3] at e0
   have a4 : ¬ (root.kind ≠ 2 ∨ k.named root = false ∨ (space ≠ -1 ∧ k.isK space 8 = false)) := fun a4 => by rw [if_pos a4] at e0; cases e0
   have a5 : chkT (newT lvl dom) = 0 := by
    unfold newTM at a1
    split at a1
    ·
     assumption
    ·
     exact absurd (by decide) a1
   have a6 : (0 ≤ lvl ∧ lvl ≤ 7) ∧ (0 ≤ dom ∧ dom ≤ 3) := by
    unfold chkT at a5
    split at a5
    ·
     cases a5
    ·
     split at a5
     ·
      cases a5
     ·
      split at a5
      ·
       cases a5
      ·
       rename_i b3
       simp only [not_or, Decidable.not_not, newT] at b3
       exact ⟨b3.1, b3.2.1⟩
   refine ⟨⟨⟨(by decide : I64 0), (by decide : I64 0), (by decide : U64 0), hth.wf.caller, by unfold I64; dsimp only [newT]; omega, by unfold I64; dsimp only [newT]; omega, by unfold I64; dsimp only; omega, hr⟩, by dsimp only; omega⟩, ?_⟩
   by_cases b1 : space = -1
   ·
    exact .inl b1
   ·
    right
    have b2 : k.isK space 8 = true := by
     cases hb : k.isK space 8 with
     | true => rfl
     | false => exact absurd (.inr (.inr ⟨b1, hb⟩)) a4
    obtain ⟨j, en, hj, _, _⟩ := isK_ex b2
    exact h.kw.num hj
  ·
   exact h
theorem start_w {t : ThrM} (ht : ThW t) (h0 : (startTM t).2 = 0) : ThW (startTM t).1 := by
 unfold startTM at *
 split
 ·
  exact ht.still (by decide : I64 1)
 ·
  rename_i h1; rw [if_neg h1] at h0; exact absurd h0 h1
theorem KX.start (n : Int) : KX (k.start n) ∧ Kq 0 k (k.start n) := by
 refine h.of ?_ ?_
 ·
  unfold Kn.start
  split
  ·
   exact ⟨h.kw, Kp.refl _⟩
  ·
   rename_i x hx
   split
   ·
    rename_i h0
    exact h.kw.be n (start_w h (h.kw.thrW hx) h0)
   ·
    exact ⟨h.kw, Kp.refl _⟩
 ·
  unfold Kn.start
  split
  ·
   exact ⟨rfl, rfl⟩
  ·
   split
   ·
    exact be_pn ..
   ·
    exact ⟨rfl, rfl⟩
end
def regsOf (l : List Int) : RegsM := ⟨l.getD 0 0, l.getD 1 0, l.getD 2 0, l.getD 3 0, l.getD 4 0, l.getD 5 0, l.getD 6 0, l.getD 7 0⟩
theorem regsOf_get (l : List Int) {i : Nat} (h : i < 8) : (regsOf l).get i = l.getD i 0 := by
 match i, h with
 | 0, _ | 1, _ | 2, _ | 3, _ | 4, _ | 5, _ | 6, _ | 7, _ => rfl
theorem RegsM.ext_get {a b : RegsM} (h : ∀ i, i < 8 → a.get i = b.get i) : a = b := by
 obtain ⟨a0, a1, a2, a3, a4, a5, a6, a7⟩ := a
 obtain ⟨b0, b1, b2, b3, b4, b5, b6, b7⟩ := b
 have h0 := h 0 (by omega); have h1 := h 1 (by omega); have h2 := h 2 (by omega); have h3 := h 3 (by omega)
 have h4 := h 4 (by omega); have h5 := h 5 (by omega); have h6 := h 6 (by omega); have h7 := h 7 (by omega)
 simp only [RegsM.get] at *
 subst h0 h1 h2 h3 h4 h5 h6 h7; rfl
theorem RegsM.get_set (r : RegsM) (v : Int) {i j : Nat} (hi : i < 8) (hj : j < 8) : (r.set v i).get j = if j = i then v else r.get j := by
 match i, hi, j, hj with
 | 0, _, 0, _ | 0, _, 1, _ | 0, _, 2, _ | 0, _, 3, _ | 0, _, 4, _ | 0, _, 5, _ | 0, _, 6, _ | 0, _, 7, _ => rfl
 | 1, _, 0, _ | 1, _, 1, _ | 1, _, 2, _ | 1, _, 3, _ | 1, _, 4, _ | 1, _, 5, _ | 1, _, 6, _ | 1, _, 7, _ => rfl
 | 2, _, 0, _ | 2, _, 1, _ | 2, _, 2, _ | 2, _, 3, _ | 2, _, 4, _ | 2, _, 5, _ | 2, _, 6, _ | 2, _, 7, _ => rfl
 | 3, _, 0, _ | 3, _, 1, _ | 3, _, 2, _ | 3, _, 3, _ | 3, _, 4, _ | 3, _, 5, _ | 3, _, 6, _ | 3, _, 7, _ => rfl
 | 4, _, 0, _ | 4, _, 1, _ | 4, _, 2, _ | 4, _, 3, _ | 4, _, 4, _ | 4, _, 5, _ | 4, _, 6, _ | 4, _, 7, _ => rfl
 | 5, _, 0, _ | 5, _, 1, _ | 5, _, 2, _ | 5, _, 3, _ | 5, _, 4, _ | 5, _, 5, _ | 5, _, 6, _ | 5, _, 7, _ => rfl
 | 6, _, 0, _ | 6, _, 1, _ | 6, _, 2, _ | 6, _, 3, _ | 6, _, 4, _ | 6, _, 5, _ | 6, _, 6, _ | 6, _, 7, _ => rfl
 | 7, _, 0, _ | 7, _, 1, _ | 7, _, 2, _ | 7, _, 3, _ | 7, _, 4, _ | 7, _, 5, _ | 7, _, 6, _ | 7, _, 7, _ => rfl
theorem regs_more {l : List Int} {j : Nat} {x : Int} (h : j < 8) (hx : l[j]? = some x) : (regsOf (l.take j)).set x j = regsOf (l.take (j + 1)) := by
 refine RegsM.ext_get (fun i hi => ?_)
 rw [RegsM.get_set _ _ h hi, regsOf_get _ hi, regsOf_get _ hi]
 simp only [List.getD_eq_getElem?_getD, List.getElem?_take]
 by_cases e : i = j
 ·
  subst e; rw [if_pos rfl, if_pos (by omega), hx]; rfl
 ·
  rw [if_neg e]
  by_cases e2 : i < j
  ·
   rw [if_pos e2, if_pos (by omega)]
  ·
   rw [if_neg e2, if_neg (by omega)]
theorem regs_all {l : List Int} {j : Nat} (h : j ≤ l.length ∧ j ≤ 8) (h2 : ¬ (j < l.length ∧ j < 8)) : regsOf (l.take j) = regsOf l := by
 refine RegsM.ext_get (fun i hi => ?_)
 rw [regsOf_get _ hi, regsOf_get _ hi]
 simp only [List.getD_eq_getElem?_getD, List.getElem?_take]
 by_cases e2 : i < j
 ·
  rw [if_pos e2]
 ·
  rw [if_neg e2, List.getElem?_eq_none (by omega)]
theorem regsOf_ok {l : List Int} (h : ∀ x, x ∈ l → U64 x) : (regsOf l).Ok := by
 have g : ∀ i, U64 (l.getD i 0) := fun i => by
  rw [List.getD_eq_getElem?_getD]
  cases hx : l[i]? with
  | none => decide
  | some x => exact h x (List.mem_of_getElem? hx)
 exact ⟨g 0, g 1, g 2, g 3, g 4, g 5, g 6, g 7⟩
def two0 : Kn := Kn.new 512 [(0, 3)]
def two1 : Kn := two0.made 0 2 (0, 5) 4
def two2 : Kn := two1.made 10 4 (200, 1) 0
def two3 : Kn := two2.made 11 5 (202, 1) 0
theorem two_c1 : createE two0 0 2 (0, 5) 4 = 0 := by decide +kernel
theorem two_c2 : createE two1 10 4 (200, 1) 0 = 0 := by decide +kernel
theorem two_c3 : createE two2 11 5 (202, 1) 0 = 0 := by decide +kernel
theorem new_kx {n : Nat} (h1 : 64 ≤ n) (h2 : n ≤ 65536) {T : Ones} (hT : tmsOk T) : KX (Kn.new n T) := ⟨KW.new h1 h2 hT, ROk.new⟩
theorem two_x0 : KX two0 := new_kx (by decide) (by decide) (by decide)
theorem two_x1 : KX two1 := two_x0.made two_c1
theorem two_x2 : KX two2 := two_x1.made two_c2
theorem two_x3 : KX two3 := two_x2.made two_c3
def epC (rights badge : Int) : CapM := ⟨4, 10, rights, badge, 0, 0⟩
def ntC (badge : Int) : CapM := ⟨5, 11, 3, badge, 0, 0⟩
def two4 (rights badge : Int) : Kn := (two3.plant (0, 1) (epC rights badge)).2
def two5 (rights badge : Int) : Kn := ((two4 rights badge).plant (0, 2) (ntC badge)).2
def rnd1 (k : Kn) (i : Nat) : Kn := k.made (1 + 5 * (i : Int)) 8 (32 + 64 * (i : Int), 4) 0
def rnd2 (k : Kn) (i : Nat) : Kn := (rnd1 k i).made (1 + 5 * (i : Int) + 1) 7 (32 + 64 * (i : Int) + 16, 4) 0
def rnd3 (k : Kn) (i : Nat) : Kn := (rnd2 k i).made (1 + 5 * (i : Int) + 2) 6 (32 + 64 * (i : Int) + 32, 4) 0
def rnd4 (k : Kn) (i : Nat) : Kn := (rnd3 k i).made (1 + 5 * (i : Int) + 3) 3 (32 + 64 * (i : Int) + 48, 4) 0
def rnd5 (k : Kn) (i : Nat) : Kn := (rnd4 k i).map (1 + 5 * (i : Int) + 1) (1 + 5 * (i : Int)) 0 false
def rnd6 (k : Kn) (i : Nat) : Kn := (rnd5 k i).map (1 + 5 * (i : Int) + 2) (1 + 5 * (i : Int)) 0 true
def rndP (k : Kn) (i : Nat) (code : List Int) (j : Nat) : Kn := { rnd6 k i with ws := pokeW (rnd6 k i).ws (32 + 64 * (i : Int) + 32) (code.take j) }
def rndS (k : Kn) (i : Nat) (code : List Int) (r : List Int) : Kn := (rndP k i code 16).setup (1 + 5 * (i : Int) + 3) (2 - (i : Int)) 0 0 rootM (1 + 5 * (i : Int)) (regsOf r)
def rnd (k : Kn) (i : Nat) (code : List Int) (r : List Int) : Kn := (rndS k i code r).start (1 + 5 * (i : Int) + 3)
structure RndOk (k : Kn) (i : Nat) (code : List Int) (r : List Int) : Prop where
  c1 : createE k (1 + 5 * (i : Int)) 8 (32 + 64 * (i : Int), 4) 0 = 0
  c2 : createE (rnd1 k i) (1 + 5 * (i : Int) + 1) 7 (32 + 64 * (i : Int) + 16, 4) 0 = 0
  c3 : createE (rnd2 k i) (1 + 5 * (i : Int) + 2) 6 (32 + 64 * (i : Int) + 32, 4) 0 = 0
  c4 : createE (rnd3 k i) (1 + 5 * (i : Int) + 3) 3 (32 + 64 * (i : Int) + 48, 4) 0 = 0
  m5 : mapE (rnd4 k i) (1 + 5 * (i : Int) + 1) (1 + 5 * (i : Int)) 0 false = 0
  m6 : mapE (rnd5 k i) (1 + 5 * (i : Int) + 2) (1 + 5 * (i : Int)) 0 true = 0
  s8 : setupE (rndP k i code 16) (1 + 5 * (i : Int) + 3) (2 - (i : Int)) 0 0 rootM (1 + 5 * (i : Int)) = 0
  s9 : (rndS k i code r).startE (1 + 5 * (i : Int) + 3) = 0
def rndB (k : Kn) (i : Nat) (code : List Int) (r : List Int) : Bool :=
  decide (createE k (1 + 5 * (i : Int)) 8 (32 + 64 * (i : Int), 4) 0 = 0) && decide (createE (rnd1 k i) (1 + 5 * (i : Int) + 1) 7 (32 + 64 * (i : Int) + 16, 4) 0 = 0) &&
  decide (createE (rnd2 k i) (1 + 5 * (i : Int) + 2) 6 (32 + 64 * (i : Int) + 32, 4) 0 = 0) && decide (createE (rnd3 k i) (1 + 5 * (i : Int) + 3) 3 (32 + 64 * (i : Int) + 48, 4) 0 = 0) &&
  decide (mapE (rnd4 k i) (1 + 5 * (i : Int) + 1) (1 + 5 * (i : Int)) 0 false = 0) && decide (mapE (rnd5 k i) (1 + 5 * (i : Int) + 2) (1 + 5 * (i : Int)) 0 true = 0) &&
  decide (setupE (rndP k i code 16) (1 + 5 * (i : Int) + 3) (2 - (i : Int)) 0 0 rootM (1 + 5 * (i : Int)) = 0) && decide ((rndS k i code r).startE (1 + 5 * (i : Int) + 3) = 0)
theorem RndOk.of {k : Kn} {i : Nat} {code r : List Int} (h : rndB k i code r = true) : RndOk k i code r := by
 unfold rndB at h
 simp only [Bool.and_eq_true, decide_eq_true_eq] at h
 obtain ⟨⟨⟨⟨⟨⟨⟨h1, h2⟩, h3⟩, h4⟩, h5⟩, h6⟩, h7⟩, h8⟩ := h
 exact ⟨h1, h2, h3, h4, h5, h6, h7, h8⟩
section
variable {k : Kn} {i : Nat} {code r : List Int} (h : RndOk k i code r) (hx : KX k) (hc : ∀ x, x ∈ code → U64 x) (hr : ∀ x, x ∈ r → U64 x)
include h hx
theorem RndOk.x1 : KX (rnd1 k i) := hx.made h.c1
theorem RndOk.x2 : KX (rnd2 k i) := (h.x1 hx).made h.c2
theorem RndOk.x3 : KX (rnd3 k i) := (h.x2 hx).made h.c3
theorem RndOk.x4 : KX (rnd4 k i) := (h.x3 hx).made h.c4
theorem RndOk.x5 : KX (rnd5 k i) := (h.x4 hx).map _ _ _ _
theorem RndOk.x6 : KX (rnd6 k i) := (h.x5 hx).map _ _ _ _
include hc
theorem RndOk.xP (j : Nat) : KX (rndP k i code j) := (h.x6 hx).setW (pokeW_len ..) (pokeW_ok _ _ (h.x6 hx).kw.wok (fun x hx => hc x (List.mem_of_mem_take hx)))
include hr
theorem RndOk.xS : KX (rndS k i code r) := (h.xP hx hc 16).setup _ _ _ _ _ (regsOf_ok hr)
theorem RndOk.x9 : KX (rnd k i code r) := ((h.xS hx hc hr).start _).1
end
theorem rnd6_len (k : Kn) (i : Nat) : (rnd6 k i).ws.length = k.ws.length := by
 have hm : ∀ (k : Kn) (n kd : Int) (q : Int × Int) (size : Int), (k.made n kd q size).ws.length = k.ws.length := fun k n kd q size => by
  unfold Kn.made; dsimp only; split
  ·
   exact memZero_len ..
  ·
   rfl
 have hp : ∀ (k : Kn) (n into a : Int) (wr : Bool), (k.map n into a wr).ws.length = k.ws.length := fun k n into a wr => by
  unfold Kn.map
  split
  ·
   split
   ·
    rfl
   ·
    dsimp only
    split
    ·
     exact table_len ..
    ·
     exact smap_len ..
  ·
   rfl
 unfold rnd6 rnd5 rnd4 rnd3 rnd2 rnd1
 rw [hp, hp, hm, hm, hm, hm]
theorem rndP_in {k : Kn} {i : Nat} (hl : k.ws.length = 512) (hi : i < 2) (code : List Int) {j : Nat} (h : j < 16) : memPutE (rndP k i code j).ws (32 + 64 * (i : Int) + 32 + (j : Int)) = 0 := by
 unfold memPutE rndP
 rw [if_pos (by unfold memIn; dsimp only; rw [pokeW_len, rnd6_len, hl]; omega)]
theorem rndP_0 (k : Kn) (i : Nat) (code : List Int) : rndP k i code 0 = rnd6 k i := by
 unfold rndP
 have h : ∀ k : Kn, ({ k with ws := pokeW k.ws (32 + 64 * (i : Int) + 32) (code.take 0) } : Kn) = k := fun k => by cases k; rfl
 exact h _
theorem rndP_more {k : Kn} {i : Nat} {code : List Int} {j : Nat} {x : Int} (hx : code[j]? = some x) : ({ rndP k i code j with ws := memPut (rndP k i code j).ws (32 + 64 * (i : Int) + 32 + (j : Int)) x } : Kn) = rndP k i code (j + 1) := by
 unfold rndP
 dsimp only
 have hl : (code.take j).length = j := by have := lt_of_some hx; simp; omega
 rw [List.take_add_one, hx]
 show _ = ({ rnd6 k i with ws := pokeW (rnd6 k i).ws (32 + 64 * (i : Int) + 32) (code.take j ++ [x]) } : Kn)
 rw [pokeW_snoc, hl]
theorem rndP_all {k : Kn} {i : Nat} {code : List Int} {j : Nat} (h : j ≤ code.length ∧ j ≤ 16) (h2 : ¬ (j < code.length ∧ j < 16)) : rndP k i code j = rndP k i code 16 := by
 unfold rndP
 have e : code.take j = code.take 16 := by
  by_cases h3 : j = 16
  ·
   rw [h3]
  ·
   rw [List.take_of_length_le (by omega), List.take_of_length_le (by omega)]
 rw [e]
theorem setup_ws (k : Kn) (n lvl dom pc : Int) (root : CapM) (space : Int) (r : RegsM) : (k.setup n lvl dom pc root space r).ws = k.ws := by
 unfold Kn.setup; split
 ·
  rfl
 ·
  split <;> rfl
theorem setThr_ws (k : Kn) (n : Int) (f : ThrM → ThrM) : (k.setThr n f).ws = k.ws := by
 unfold Kn.setThr Kn.setI; split
 ·
  split <;> rfl
 ·
  rfl
theorem start_ws (k : Kn) (n : Int) : (k.start n).ws = k.ws := by
 unfold Kn.start; split
 ·
  rfl
 ·
  split
  ·
   unfold Kn.be; exact setThr_ws ..
  ·
   rfl
theorem rnd_len (k : Kn) (i : Nat) (code r : List Int) : (rnd k i code r).ws.length = k.ws.length := by
 unfold rnd rndS
 rw [start_ws, setup_ws]
 unfold rndP; dsimp only; rw [pokeW_len, rnd6_len]
def twoA (a r : List Int) (rights badge : Int) : Kn := rnd (two5 rights badge) 0 a r
def twoB (a b r s : List Int) (rights badge : Int) : Kn := rnd (twoA a r rights badge) 1 b s
structure TwoOk (a b r s : List Int) (rights badge : Int) : Prop where
  p4 : (two3.plant (0, 1) (epC rights badge)).1 = 0
  p5 : ((two4 rights badge).plant (0, 2) (ntC badge)).1 = 0
  ra : RndOk (two5 rights badge) 0 a r
  rb : RndOk (twoA a r rights badge) 1 b s
def twoS (a b r s : List Int) (rights badge : Int) : Nat → Kn
  | 0 => two5 rights badge
  | 1 => twoA a r rights badge
  | _ => twoB a b r s rights badge
theorem two_x5 {rights badge : Int} (h1 : i64R rights) (h2 : u64R badge) : KX (two5 rights badge) := by
 have h3 : KX (two4 rights badge) := two_x3.plant _ ⟨h1, h2, (by unfold u64R; decide : u64R 0)⟩ (by decide +kernel)
 have hn : (two4 rights badge).nk < 2 ^ 18 := by
  unfold two4 Kn.plant
  have : two3.nk = 0 := by decide +kernel
  split
  ·
   show two3.nk < 2 ^ 18
   omega
  ·
   dsimp only; omega
 exact h3.plant _ ⟨(by unfold i64R; decide : i64R 3), h2, (by unfold u64R; decide : u64R 0)⟩ hn
theorem two5_len (rights badge : Int) : (two5 rights badge).ws.length = 512 := by
 have hp : ∀ (k : Kn) (s : SlotM) (c : CapM), (k.plant s c).2.ws = k.ws := fun k s c => by unfold Kn.plant; split <;> rfl
 unfold two5 two4
 rw [hp, hp]; decide +kernel
theorem twoA_len (a r : List Int) (rights badge : Int) : (twoA a r rights badge).ws.length = 512 := by unfold twoA; rw [rnd_len, two5_len]
end Go.Proofs.YtipncceiekalfaaGreat
end
section
set_option linter.unusedVariables false
set_option linter.unusedSimpArgs false
set_option linter.unusedSectionVars false
namespace Go.Proofs.YtipncceiekalfaaGreat
open Go.SL
section
variable (k : Kn) (A : KA) (ad : Nat → Ad) (kb : Nat) (L : Hp) (hK : KH k A ad kb L) (hx : KX k)
include hK hx
theorem tr_kMapOk (n into a : Int) (ha : I64 a) (wr : Bool) (h : mapE k n into a wr = 0) : Tr Tryz.prog 29 [pV kb, .int .i64 n, .int .i64 into, .int .i64 a, .bool wr] L (fun u L' => u = .int .i64 0 ∧ KH (k.map n into a wr) A ad kb L') :=
  (tr_kMap k A ad kb L hK hx n into a ha wr).mono (fun v L' h2 => ⟨by rw [h2.1, h], h2.2⟩)
theorem tr_kSetupOk (n lvl dom pc : Int) (root : CapM) (space : Int) (r : RegsM) (h : setupE k n lvl dom pc root space = 0) : Tr Tryz.prog 30 [pV kb, .int .i64 n, .int .i64 lvl, .int .i64 dom, .int .i64 pc, root.v, .int .i64 space, r.v] L (fun u L' => u = .int .i64 0 ∧ KH (k.setup n lvl dom pc root space r) A ad kb L') :=
  (tr_kSetupA k A ad kb L hK hx n lvl dom pc root space r).mono (fun v L' h2 => ⟨by rw [h2.1, h], h2.2⟩)
theorem tr_kStartOk (n : Int) (h : k.startE n = 0) : Tr Tryz.prog 31 [pV kb, .int .i64 n] L (fun u L' => u = .int .i64 0 ∧ KH (k.start n) A ad kb L') :=
  (tr_kStart k A ad kb L hK hx.kw n).mono (fun v L' h2 => ⟨by rw [h2.1, h], h2.2⟩)
theorem tr_kPlantOk (s : SlotM) (c : CapM) (h : (k.plant s c).1 = 0) : Tr Tryz.prog 28 [pV kb, slotV s, c.v] L (fun u L' => u = .int .i64 0 ∧ KH (k.plant s c).2 A ad kb L') :=
  (tr_kPlant k A ad kb L hK hx.kw s c).mono (fun v L' h2 => ⟨by rw [h2.1, h], h2.2⟩)
theorem tr_kPokeOk (a v : Int) (h : memPutE k.ws a = 0) : Tr Tryz.prog 20 [pV kb, .int .i64 a, .int .u64 v] L (fun u L' => u = .int .i64 0 ∧ KH { k with ws := memPut k.ws a v } A ad kb L') :=
  (tr_kPoke k A ad kb L hK hx.kw a v).mono (fun v L' h2 => ⟨by rw [h2.1, h], h2.2⟩)
end
def clT (a b : List Int) (i : Nat) : List Int := if i = 1 then b else a
theorem twoS_ok {a b r s : List Int} {rights badge : Int} (H : TwoOk a b r s rights badge) {i : Nat} (hi : i < 2) : RndOk (twoS a b r s rights badge i) i (clT a b i) (clT r s i) := by
 match i, hi with
 | 0, _ => exact H.ra
 | 1, _ => exact H.rb
theorem twoS_next (a b r s : List Int) (rights badge : Int) {i : Nat} (hi : i < 2) : rnd (twoS a b r s rights badge i) i (clT a b i) (clT r s i) = twoS a b r s rights badge (i + 1) := by
 match i, hi with
 | 0, _ => rfl
 | 1, _ => rfl
theorem twoS_len (a b r s : List Int) (rights badge : Int) {i : Nat} (hi : i < 2) : (twoS a b r s rights badge i).ws.length = 512 := by
 match i, hi with
 | 0, _ => exact two5_len ..
 | 1, _ => exact twoA_len ..
theorem twoS_kx {a b r s : List Int} {rights badge : Int} (H : TwoOk a b r s rights badge) (h1 : i64R rights) (h2 : u64R badge) (ha : ∀ x, x ∈ a → U64 x) (hr : ∀ x, x ∈ r → U64 x) {i : Nat} (hi : i < 2) : KX (twoS a b r s rights badge i) := by
 match i, hi with
 | 0, _ => exact two_x5 h1 h2
 | 1, _ => exact H.ra.x9 (two_x5 h1 h2) ha hr
theorem two_kx {a b r s : List Int} {rights badge : Int} (H : TwoOk a b r s rights badge) (h1 : i64R rights) (h2 : u64R badge) (ha : ∀ x, x ∈ a → U64 x) (hb : ∀ x, x ∈ b → U64 x) (hr : ∀ x, x ∈ r → U64 x) (hs : ∀ x, x ∈ s → U64 x) : KX (twoB a b r s rights badge) :=
  H.rb.x9 (H.ra.x9 (two_x5 h1 h2) ha hr) hb hs
attribute [local irreducible] twoS
set_option maxHeartbeats 64000000 in
theorem tr_lTwo (G : Hp) (a_xa : Option Addr) (c_xa : Nat) (xa : List Int) (hvxa : View G 1 (.slice a_xa xa.length c_xa) xa.length (wordsC xa)) (hlxa : xa.length ≤ 2 ^ 45) (huxa : ∀ x, x ∈ xa → U64 x) (a_xb : Option Addr) (c_xb : Nat) (xb : List Int) (hvxb : View G 1 (.slice a_xb xb.length c_xb) xb.length (wordsC xb)) (hlxb : xb.length ≤ 2 ^ 45) (huxb : ∀ x, x ∈ xb → U64 x) (a_xr : Option Addr) (c_xr : Nat) (xr : List Int) (hvxr : View G 1 (.slice a_xr xr.length c_xr) xr.length (wordsC xr)) (hlxr : xr.length ≤ 2 ^ 45) (huxr : ∀ x, x ∈ xr → U64 x) (a_xs : Option Addr) (c_xs : Nat) (xs : List Int) (hvxs : View G 1 (.slice a_xs xs.length c_xs) xs.length (wordsC xs)) (hlxs : xs.length ≤ 2 ^ 45) (huxs : ∀ x, x ∈ xs → U64 x) (rights badge : Int) (hri : i64R rights) (hba : u64R badge) (H : TwoOk xa xb xr xs rights badge) : Tr Tryz.prog 11 [.slice a_xa xa.length c_xa, .slice a_xb xb.length c_xb, .slice a_xr xr.length c_xr, .slice a_xs xs.length c_xs, .int .i64 rights, .int .u64 badge] (G) (fun u L' => ∃ kb A ad L1, u = .tuple #[pV kb, .bool true] ∧ KH (twoB xa xb xr xs rights badge) A ad kb L1 ∧ L' = L1 ++ G) := by
 have hx4 : KX (two4 rights badge) := two_x3.plant _ ⟨hri, hba, (by unfold u64R; decide : u64R 0)⟩ (by decide +kernel)
 refine Tr.enter Tryz.func11 rfl Tryz.ntmps11 rfl (fun W F => ?_)
 refine Wp.app ?_
 refine zq [3,4,1,1,2,5,3,4,23] ?_
 refine Ops.ef rfl (ef_buildSlice1 (k := 2) rfl rfl rfl rfl rfl) ?_
 rintro _ _ ⟨b1, rfl, rfl⟩
 refine zD (tr_to [(b1, .cells [.int .i64 0, .int .i64 3].toArray 79)] (some ⟨b1, 0, none⟩) 1 [(0, 3)] ⟨rfl, _, _, rfl, by decide, .inr ⟨b1, 0, _, 79, _, rfl, List.mem_cons_self .., ⟨rfl, rfl, trivial⟩⟩⟩ (by decide)) ?_
 rintro _ _ ⟨H1, hs1, rfl⟩
 refine Ops.app ?_
 obtain ⟨sp, sq, rfl⟩ := hs1.form
 refine zD (tr_kNew H1 512 (by decide) (by decide) sp sq [(0, 3)] hs1.view (by decide) (by decide) (fun _ => ⟨0, 0, 0⟩)) ?_
 rintro _ _ ⟨kb1, A1, M1, rfl, hk1, rfl⟩
 refine Ops.app ?_
 refine zq [0,7,7,1,1,2,5,3,3,4,0,67,0,21] ?_
 refine Ops.pvg ⟨_, _, rfl, rfl, rfl⟩ (pv_eql_nil rfl rfl) rfl ?_
 refine zq [26,2,5,17,11,5,3,4,23] ?_
 refine zA fun b2 => ?_
 refine zq [14,2,5,3,4,0,23] ?_
 refine zD (tr_kCreateZ two0 A1 _ kb1 _ hk1 two_x0.kw 0 2 (0, 5) 4 (by decide) two_c1 (by decide)) ?_
 rintro _ J1 ⟨rfl, ad1, hk2⟩
 refine Ops.app ?_
 refine zq [66,0,21,56] ?_
 refine Ops.efg ⟨_, _, rfl, rfl, rfl⟩ (ef_call (tr_kCreateZ two1 A1 _ kb1 _ hk2 two_x1.kw 10 4 (200, 1) 0 (by decide) two_c2 (by decide)) rfl rfl) ?_
 rintro _ _ ⟨_, J2, ⟨rfl, ad2, hk3⟩, rfl, rfl⟩
 refine Ops.app ?_
 refine zq [69,24,0,21,56] ?_
 refine Ops.efg ⟨_, _, rfl, rfl, rfl⟩ (ef_call (tr_kCreateZ two2 A1 _ kb1 _ hk3 two_x2.kw 11 5 (202, 1) 0 (by decide) two_c3 (by decide)) rfl rfl) ?_
 rintro _ _ ⟨_, J3, ⟨rfl, ad3, hk4⟩, rfl, rfl⟩
 refine Ops.app ?_
 refine zq [69,24,1,2,5,3,4,0,0,21,56,21,21,56] ?_
 refine Ops.efg ⟨_, _, rfl, rfl, rfl⟩ (ef_call (tr_kPlantOk two3 A1 _ kb1 _ hk4 two_x3 (0, 1) (epC rights badge) H.p4) rfl rfl) ?_
 rintro _ _ ⟨_, J4, ⟨rfl, hk5⟩, rfl, rfl⟩
 refine Ops.app ?_
 refine zq [69,24,0,21,56,21,56] ?_
 refine Ops.efg ⟨_, _, rfl, rfl, rfl⟩ (ef_call (tr_kPlantOk (two4 rights badge) A1 _ kb1 _ hk5 hx4 (0, 2) (ntC badge) H.p5) rfl rfl) ?_
 rintro _ _ ⟨_, J5, ⟨rfl, hk6⟩, rfl, rfl⟩
 refine Ops.app ?_
 refine zq [69,24,1,2,5,3,3,4,1,2,5,20] ?_
 refine Wp.loopK (σ := Nat × (Nat → Ad) × Hp) [(0, _), (1, _), (2, _), (3, _), (14, _), (16, _)] (fun s => [(17, .bool true), (18, .int .i64 s.1)]) (fun s => (b2, .cells rootM.cells.toArray 70) :: (s.2.2 ++ (G ++ F))) (fun s => s.1 ≤ 2 ∧ KH (twoS xa xb xr xs rights badge s.1) A1 s.2.1 kb1 s.2.2) (fun s => 2 - s.1) (0, ad3, J5) ⟨Nat.zero_le _, by unfold twoS; exact hk6⟩ ⟨rfl, rfl, rfl, rfl, rfl, rfl, trivial⟩ ⟨rfl, rfl, trivial⟩ (by intro w ho; (try dsimp only [List.nil_append, List.cons_append]); exact Drop.own ho) ?_
 rintro ⟨i, ad, M⟩ KK ⟨hi, hI⟩ hK
 dsimp only [List.cons_append, List.nil_append] at hK ⊢
 dsimp only at hi hI ⊢
 refine zq [3,3,4,0,42,2,5] ?_
 refine Wp.cond_dect rfl (fun h1 => ?_) (fun h1 => ?_)
 ·
  have hi2 : i < 2 := by omega
  have hR := twoS_ok H hi2
  have hxi := twoS_kx H hri hba huxa huxr hi2
  refine zq [11,5,3,20,3,4,0] ?_
  refine Ops.pv (pv_mul rfl rfl (w64 (by omega) (by omega))) rfl ?_
  refine zq [52,0] ?_
  refine Ops.pv (pv_mul rfl rfl (w64 (by omega) (by omega))) rfl ?_
  refine zq [52,1,1,2,5,3,4,0,0,21,21,21,56] ?_
  refine Ops.efg ⟨_, _, rfl, rfl, rfl⟩ (ef_call (tr_kCreateZ (twoS xa xb xr xs rights badge i) A1 ad kb1 _ hI hxi.kw (1 + 5 * (i : Int)) 8 (32 + 64 * (i : Int), 4) 0 (by decide) hR.c1 (by decide)) rfl rfl) ?_
  rintro _ _ ⟨_, J6, ⟨rfl, ad4, hk7⟩, rfl, rfl⟩
  refine Ops.app ?_
  refine zq [69,24,0,21,21] ?_
  refine Ops.pvg ⟨_, _, rfl, rfl, rfl⟩ (pv_add rfl rfl (w64 (by omega) (by omega))) rfl ?_
  refine zq [21] ?_
  refine Ops.pvg ⟨_, _, rfl, rfl, rfl⟩ (pv_add rfl rfl (w64 (by omega) (by omega))) rfl ?_
  refine zq [56] ?_
  refine Ops.efg ⟨_, _, rfl, rfl, rfl⟩ (ef_call (tr_kCreateZ (rnd1 (twoS xa xb xr xs rights badge i) i) A1 _ kb1 _ hk7 (hR.x1 hxi).kw (1 + 5 * (i : Int) + 1) 7 (32 + 64 * (i : Int) + 16, 4) 0 (by decide) hR.c2 (by decide)) rfl rfl) ?_
  rintro _ _ ⟨_, J7, ⟨rfl, ad5, hk8⟩, rfl, rfl⟩
  refine Ops.app ?_
  refine zq [69,24,0,21,21] ?_
  refine Ops.pvg ⟨_, _, rfl, rfl, rfl⟩ (pv_add rfl rfl (w64 (by omega) (by omega))) rfl ?_
  refine zq [21] ?_
  refine Ops.pvg ⟨_, _, rfl, rfl, rfl⟩ (pv_add rfl rfl (w64 (by omega) (by omega))) rfl ?_
  refine zq [56] ?_
  refine Ops.efg ⟨_, _, rfl, rfl, rfl⟩ (ef_call (tr_kCreateZ (rnd2 (twoS xa xb xr xs rights badge i) i) A1 _ kb1 _ hk8 (hR.x2 hxi).kw (1 + 5 * (i : Int) + 2) 6 (32 + 64 * (i : Int) + 32, 4) 0 (by decide) hR.c3 (by decide)) rfl rfl) ?_
  rintro _ _ ⟨_, J8, ⟨rfl, ad6, hk9⟩, rfl, rfl⟩
  refine Ops.app ?_
  refine zq [69,24,0,21,21] ?_
  refine Ops.pvg ⟨_, _, rfl, rfl, rfl⟩ (pv_add rfl rfl (w64 (by omega) (by omega))) rfl ?_
  refine zq [21] ?_
  refine Ops.pvg ⟨_, _, rfl, rfl, rfl⟩ (pv_add rfl rfl (w64 (by omega) (by omega))) rfl ?_
  refine zq [56] ?_
  refine Ops.efg ⟨_, _, rfl, rfl, rfl⟩ (ef_call (tr_kCreateZ (rnd3 (twoS xa xb xr xs rights badge i) i) A1 _ kb1 _ hk9 (hR.x3 hxi).kw (1 + 5 * (i : Int) + 3) 3 (32 + 64 * (i : Int) + 48, 4) 0 (by decide) hR.c4 (by decide)) rfl rfl) ?_
  rintro _ _ ⟨_, J9, ⟨rfl, ad7, hk10⟩, rfl, rfl⟩
  refine Ops.app ?_
  refine zq [69,24,1,2,5,3,4,0,0,21,21] ?_
  refine Ops.pvg ⟨_, _, rfl, rfl, rfl⟩ (pv_add rfl rfl (w64 (by omega) (by omega))) rfl ?_
  refine zq [21] ?_
  refine Ops.efg ⟨_, _, rfl, rfl, rfl⟩ (ef_call (tr_kMapOk (rnd4 (twoS xa xb xr xs rights badge i) i) A1 _ kb1 _ hk10 (hR.x4 hxi) (1 + 5 * (i : Int) + 1) (1 + 5 * (i : Int)) 0 (by decide) false hR.m5) rfl rfl) ?_
  rintro _ _ ⟨_, J10, ⟨rfl, hk11⟩, rfl, rfl⟩
  refine Ops.app ?_
  refine zq [69,24,0,21,21] ?_
  refine Ops.pvg ⟨_, _, rfl, rfl, rfl⟩ (pv_add rfl rfl (w64 (by omega) (by omega))) rfl ?_
  refine zq [21] ?_
  refine Ops.efg ⟨_, _, rfl, rfl, rfl⟩ (ef_call (tr_kMapOk (rnd5 (twoS xa xb xr xs rights badge i) i) A1 _ kb1 _ hk11 (hR.x5 hxi) (1 + 5 * (i : Int) + 2) (1 + 5 * (i : Int)) 0 (by decide) true hR.m6) rfl rfl) ?_
  rintro _ _ ⟨_, J11, ⟨rfl, hk12⟩, rfl, rfl⟩
  refine Ops.app ?_
  have hk6 := hk12
  refine zq [69,24,1,2,5,3,4,0,0,1,1,2,5,3,3,4,0,22,2,5] ?_
  refine Wp.cond_dect rfl (fun h2 => ?_) (fun h2 => ?_)
  ·
   have hi1 : i = 1 := by omega
   have hRi := hR
   rw [show clT xa xb i = xb from if_pos hi1, show clT xr xs i = xs from if_pos hi1] at hRi
   have hnx := twoS_next xa xb xr xs rights badge hi2
   rw [show clT xa xb i = xb from if_pos hi1, show clT xr xs i = xs from if_pos hi1] at hnx
   refine zq [4,0,0,1,1,2,5,3,3,4,1,2,5,20] ?_
   refine Wp.loopK (σ := Nat × Hp) [(0, _), (1, _), (2, _), (3, _), (14, _), (16, _), (18, _), (19, _), (20, _), (21, _), (22, _)] (fun s => [(17, .bool true), (23, .int .i64 s.1)]) (fun s => (b2, .cells rootM.cells.toArray 70) :: (s.2 ++ (G ++ F))) (fun s => (s.1 ≤ (xb).length ∧ s.1 ≤ 16) ∧ KH (rndP (twoS xa xb xr xs rights badge i) i xb s.1) A1 ad7 kb1 s.2) (fun s => (xb).length - s.1) (0, J11) ⟨⟨Nat.zero_le _, Nat.zero_le _⟩, by dsimp only; rw [rndP_0]; exact hk6⟩ ⟨rfl, rfl, rfl, rfl, rfl, rfl, rfl, rfl, rfl, rfl, rfl, trivial⟩ ⟨rfl, rfl, trivial⟩ (by intro w ho; (try dsimp only [List.nil_append, List.cons_append]); exact Drop.own ho) ?_
   rintro ⟨j, M⟩ KK ⟨hj, hP⟩ hK1
   dsimp only [List.cons_append, List.nil_append] at hK1 ⊢
   dsimp only at hj hP ⊢
   refine zq [3,3,4,0,0] ?_
   refine Ops.pv (pv_len_slice (T := 25) rfl rfl) rfl ?_
   refine zq [42,0] ?_
   refine Ops.pvc rfl rfl (fun hg => pv_move rfl) rfl ?_
   refine Ops.pvc rfl rfl (fun hg => Pv.setE (t := 152) rfl (cv_pos hg) (pv_lss rfl rfl)) rfl ?_
   refine zq [46,2,5] ?_
   refine Wp.cond_dect rfl (fun h3 => ?_) (fun h3 => ?_)
   ·
    obtain ⟨x, hx1⟩ : ∃ x, xb[j]? = some x := ⟨_, List.getElem?_eq_getElem (by omega)⟩
    obtain ⟨b1, o1, cap1, cs1, T1, f1, hv11, hb1, hr1⟩ := (hvxb).open (by omega)
    cases hv11
    have hny1 : nth cs1 (o1 + j * 1) = some (.int .u64 x) := by rw [nth_eq, Nat.mul_one]; exact hr1.at_ j _ (by simp [wordsC, hx1])
    refine zq [11,5,3,20,4,0,0,21,21] ?_
    refine Ops.pvg ⟨_, _, rfl, rfl, rfl⟩ (pv_add rfl rfl (w64 (by omega) (by omega))) rfl ?_
    refine zq [21] ?_
    refine Ops.pvg ⟨_, _, rfl, rfl, rfl⟩ (pv_add rfl rfl (w64 (by omega) (by omega))) rfl ?_
    refine zq [21,21] ?_
    refine Ops.pvg ⟨_, _, rfl, rfl, rfl⟩ (pv_indexAddr (i := j) rfl rfl rfl (by omega)) rfl ?_
    refine Ops.pvg ⟨_, _, rfl, rfl, rfl⟩ (pv_load rfl rfl hny1) rfl ?_
    refine Ops.efg ⟨_, _, rfl, rfl, rfl⟩ (ef_call (tr_kPokeOk (rndP (twoS xa xb xr xs rights badge i) i xb j) A1 _ kb1 _ hP (hRi.xP hxi huxb j) (32 + 64 * (i : Int) + 32 + (j : Int)) x (rndP_in (twoS_len xa xb xr xs rights badge hi2) hi2 xb (by omega))) rfl rfl) ?_
    rintro _ _ ⟨_, J12, ⟨rfl, hk13⟩, rfl, rfl⟩
    refine Ops.app ?_
    rw [rndP_more hx1] at hk13
    refine zq [69,24,1,2,19,5,4,0] ?_
    refine Ops.pv (pv_add rfl rfl (w64n (k := j + 1) (by omega) (by omega))) rfl ?_
    refine zq [1,2,49] ?_
    refine Goes.back (hK1 (j + 1, J12) ⟨⟨by dsimp only; omega, by dsimp only; omega⟩, hk13⟩ (by dsimp only; omega)) ⟨rfl, rfl, rfl, rfl, rfl, rfl, rfl, rfl, rfl, rfl, rfl, rfl, rfl, trivial⟩
   have hfin : KH (rndP (twoS xa xb xr xs rights badge i) i xb 16) A1 ad7 kb1 M := by rw [← rndP_all hj (by omega)]; exact hP
   refine zq [41,16,16,40,5,3,4] ?_
   refine zA fun b3 => ?_
   refine zq [2,5,3,3,4,1,2,5,20] ?_
   refine Wp.loopK (σ := Nat) [(0, _), (1, _), (2, _), (3, _), (14, _), (16, _), (17, _), (18, _), (19, _), (22, _), (24, _)] (fun s => [(25, .int .i64 s)]) (fun s => (b3, .cells (regsOf ((xs).take s)).cells.toArray 33) :: (b2, .cells rootM.cells.toArray 70) :: (M ++ (G ++ F))) (fun s => s ≤ (xs).length ∧ s ≤ 8) (fun s => (xs).length - s) 0 ⟨Nat.zero_le _, Nat.zero_le _⟩ ⟨rfl, rfl, rfl, rfl, rfl, rfl, rfl, rfl, rfl, rfl, rfl, trivial⟩ ⟨rfl, trivial⟩ (by intro w ho; (have hz : regsOf ((xs).take 0) = RegsM.zero := rfl; rw [hz]; exact Drop.own ho)) ?_
   rintro j KK hj2 hK1
   dsimp only [List.cons_append, List.nil_append] at hK1 ⊢
   refine zq [3,3,4,0,0] ?_
   refine Ops.pv (pv_len_slice (T := 25) rfl rfl) rfl ?_
   refine zq [42,0] ?_
   refine Ops.pvc rfl rfl (fun hg => pv_move rfl) rfl ?_
   refine Ops.pvc rfl rfl (fun hg => Pv.setE (t := 176) rfl (cv_pos hg) (pv_lss rfl rfl)) rfl ?_
   refine zq [46,2,5] ?_
   refine Wp.cond_dect rfl (fun h4 => ?_) (fun h4 => ?_)
   ·
    obtain ⟨x, hx2⟩ : ∃ x, xs[j]? = some x := ⟨_, List.getElem?_eq_getElem (by omega)⟩
    obtain ⟨b2, o2, cap2, cs2, T2, f2, hv12, hb2, hr2⟩ := (hvxs).open (by omega)
    cases hv12
    have hny2 : nth cs2 (o2 + j * 1) = some (.int .u64 x) := by rw [nth_eq, Nat.mul_one]; exact hr2.at_ j _ (by simp [wordsC, hx2])
    haveI hset : SetL (regsOf ((xs).take j)).cells (0 + j * 1) [.int .u64 x] ((regsOf ((xs).take j)).set x j).cells := by rw [Nat.zero_add, Nat.mul_one]; exact RegsM.setc (by omega)
    refine zq [11,5,3,20,4,0,0,0] ?_
    refine Ops.pv (pv_indexAddr (i := j) rfl rfl rfl (by omega)) rfl ?_
    refine Ops.pv (pv_load rfl rfl hny2) rfl ?_
    refine Ops.pv (pv_indexAddrA rfl rfl rfl (by omega)) rfl ?_
    refine zq [25,2,19,5,4,0] ?_
    refine Ops.pv (pv_add rfl rfl (w64n (k := j + 1) (by omega) (by omega))) rfl ?_
    refine zq [1,2,49] ?_
    rw [regs_more (by omega) hx2]
    refine Goes.back (hK1 (j + 1) ⟨by omega, by omega⟩ (by omega)) ⟨rfl, rfl, rfl, rfl, rfl, rfl, rfl, rfl, rfl, rfl, rfl, rfl, trivial⟩
   rw [regs_all hj2 (by omega)]
   refine zq [41,16,16,40,5,4,0,0,21,21] ?_
   refine Ops.pvg ⟨_, _, rfl, rfl, rfl⟩ (pv_add rfl rfl (w64 (by omega) (by omega))) rfl ?_
   refine zq [21] ?_
   refine Ops.pvg ⟨_, _, rfl, rfl, rfl⟩ (pv_sub rfl rfl (w64 (by omega) (by omega))) rfl ?_
   refine Ops.pvg ⟨_, _, rfl, rfl, rfl⟩ (pv_loadK [_, _, _, _, _, _] rfl rfl rfl ⟨rfl, rfl, rfl, rfl, rfl, rfl, trivial⟩) rfl ?_
   refine zq [21] ?_
   refine Ops.pvg ⟨_, _, rfl, rfl, rfl⟩ (pv_loadK [_, _, _, _, _, _, _, _] rfl rfl rfl ⟨rfl, rfl, rfl, rfl, rfl, rfl, rfl, rfl, trivial⟩) rfl ?_
   refine Ops.efg ⟨_, _, rfl, rfl, rfl⟩ (ef_call (tr_kSetupOk (rndP (twoS xa xb xr xs rights badge i) i xb 16) A1 _ kb1 _ hfin (hRi.xP hxi huxb 16) (1 + 5 * (i : Int) + 3) (2 - (i : Int)) 0 0 rootM (1 + 5 * (i : Int)) (regsOf xs) hRi.s8) rfl rfl) ?_
   rintro _ _ ⟨_, J13, ⟨rfl, hk14⟩, rfl, rfl⟩
   refine Ops.app ?_
   refine zq [69,24,0,21,21] ?_
   refine Ops.pvg ⟨_, _, rfl, rfl, rfl⟩ (pv_add rfl rfl (w64 (by omega) (by omega))) rfl ?_
   refine Ops.efg ⟨_, _, rfl, rfl, rfl⟩ (ef_call (tr_kStartOk (rndS (twoS xa xb xr xs rights badge i) i xb xs) A1 _ kb1 _ hk14 (hRi.xS hxi huxb huxs) (1 + 5 * (i : Int) + 3) hRi.s9) rfl rfl) ?_
   rintro _ _ ⟨_, J14, ⟨rfl, hk15⟩, rfl, rfl⟩
   refine Ops.app ?_
   refine zq [69,24,1,2,19,5,4,0] ?_
   refine Ops.pv (pv_add rfl rfl (w64n (k := i + 1) (by omega) (by omega))) rfl ?_
   refine zq [1,2,49] ?_
   refine Goes.back (hK (i + 1, ad7, J14) ⟨by dsimp only; omega, by dsimp only; rw [← hnx]; exact hk15⟩ (by dsimp only; omega)) ⟨rfl, rfl, rfl, rfl, rfl, rfl, rfl, rfl, trivial⟩
  have hi1 : ¬ i = 1 := by omega
  have hRi := hR
  rw [show clT xa xb i = xa from if_neg hi1, show clT xr xs i = xr from if_neg hi1] at hRi
  have hnx := twoS_next xa xb xr xs rights badge hi2
  rw [show clT xa xb i = xa from if_neg hi1, show clT xr xs i = xr from if_neg hi1] at hnx
  refine zq [11,5,3,3,4,1,2,5,20] ?_
  refine Wp.loopK (σ := Nat × Hp) [(0, _), (1, _), (2, _), (3, _), (14, _), (16, _), (18, _), (19, _), (20, _), (21, _), (22, _)] (fun s => [(17, .bool true), (23, .int .i64 s.1)]) (fun s => (b2, .cells rootM.cells.toArray 70) :: (s.2 ++ (G ++ F))) (fun s => (s.1 ≤ (xa).length ∧ s.1 ≤ 16) ∧ KH (rndP (twoS xa xb xr xs rights badge i) i xa s.1) A1 ad7 kb1 s.2) (fun s => (xa).length - s.1) (0, J11) ⟨⟨Nat.zero_le _, Nat.zero_le _⟩, by dsimp only; rw [rndP_0]; exact hk6⟩ ⟨rfl, rfl, rfl, rfl, rfl, rfl, rfl, rfl, rfl, rfl, rfl, trivial⟩ ⟨rfl, rfl, trivial⟩ (by intro w ho; (try dsimp only [List.nil_append, List.cons_append]); exact Drop.own ho) ?_
  rintro ⟨j, M⟩ KK ⟨hj, hP⟩ hK1
  dsimp only [List.cons_append, List.nil_append] at hK1 ⊢
  dsimp only at hj hP ⊢
  refine zq [3,3,4,0,0] ?_
  refine Ops.pv (pv_len_slice (T := 25) rfl rfl) rfl ?_
  refine zq [42,0] ?_
  refine Ops.pvc rfl rfl (fun hg => pv_move rfl) rfl ?_
  refine Ops.pvc rfl rfl (fun hg => Pv.setE (t := 152) rfl (cv_pos hg) (pv_lss rfl rfl)) rfl ?_
  refine zq [46,2,5] ?_
  refine Wp.cond_dect rfl (fun h5 => ?_) (fun h5 => ?_)
  ·
   obtain ⟨x, hx1⟩ : ∃ x, xa[j]? = some x := ⟨_, List.getElem?_eq_getElem (by omega)⟩
   obtain ⟨b1, o1, cap1, cs1, T1, f1, hv11, hb1, hr1⟩ := (hvxa).open (by omega)
   cases hv11
   have hny1 : nth cs1 (o1 + j * 1) = some (.int .u64 x) := by rw [nth_eq, Nat.mul_one]; exact hr1.at_ j _ (by simp [wordsC, hx1])
   refine zq [11,5,3,20,4,0,0,21,21] ?_
   refine Ops.pvg ⟨_, _, rfl, rfl, rfl⟩ (pv_add rfl rfl (w64 (by omega) (by omega))) rfl ?_
   refine zq [21] ?_
   refine Ops.pvg ⟨_, _, rfl, rfl, rfl⟩ (pv_add rfl rfl (w64 (by omega) (by omega))) rfl ?_
   refine zq [21,21] ?_
   refine Ops.pvg ⟨_, _, rfl, rfl, rfl⟩ (pv_indexAddr (i := j) rfl rfl rfl (by omega)) rfl ?_
   refine Ops.pvg ⟨_, _, rfl, rfl, rfl⟩ (pv_load rfl rfl hny1) rfl ?_
   refine Ops.efg ⟨_, _, rfl, rfl, rfl⟩ (ef_call (tr_kPokeOk (rndP (twoS xa xb xr xs rights badge i) i xa j) A1 _ kb1 _ hP (hRi.xP hxi huxa j) (32 + 64 * (i : Int) + 32 + (j : Int)) x (rndP_in (twoS_len xa xb xr xs rights badge hi2) hi2 xa (by omega))) rfl rfl) ?_
   rintro _ _ ⟨_, J15, ⟨rfl, hk16⟩, rfl, rfl⟩
   refine Ops.app ?_
   rw [rndP_more hx1] at hk16
   refine zq [69,24,1,2,19,5,4,0] ?_
   refine Ops.pv (pv_add rfl rfl (w64n (k := j + 1) (by omega) (by omega))) rfl ?_
   refine zq [1,2,49] ?_
   refine Goes.back (hK1 (j + 1, J15) ⟨⟨by dsimp only; omega, by dsimp only; omega⟩, hk16⟩ (by dsimp only; omega)) ⟨rfl, rfl, rfl, rfl, rfl, rfl, rfl, rfl, rfl, rfl, rfl, rfl, rfl, trivial⟩
  have hfin : KH (rndP (twoS xa xb xr xs rights badge i) i xa 16) A1 ad7 kb1 M := by rw [← rndP_all hj (by omega)]; exact hP
  refine zq [41,16,16,40,5,3,4] ?_
  refine zA fun b4 => ?_
  refine zq [2,5,3,3,4,1,2,5,20] ?_
  refine Wp.loopK (σ := Nat) [(0, _), (1, _), (2, _), (3, _), (14, _), (16, _), (17, _), (18, _), (19, _), (22, _), (24, _)] (fun s => [(25, .int .i64 s)]) (fun s => (b4, .cells (regsOf ((xr).take s)).cells.toArray 33) :: (b2, .cells rootM.cells.toArray 70) :: (M ++ (G ++ F))) (fun s => s ≤ (xr).length ∧ s ≤ 8) (fun s => (xr).length - s) 0 ⟨Nat.zero_le _, Nat.zero_le _⟩ ⟨rfl, rfl, rfl, rfl, rfl, rfl, rfl, rfl, rfl, rfl, rfl, trivial⟩ ⟨rfl, trivial⟩ (by intro w ho; (have hz : regsOf ((xr).take 0) = RegsM.zero := rfl; rw [hz]; exact Drop.own ho)) ?_
  rintro j KK hj2 hK1
  dsimp only [List.cons_append, List.nil_append] at hK1 ⊢
  refine zq [3,3,4,0,0] ?_
  refine Ops.pv (pv_len_slice (T := 25) rfl rfl) rfl ?_
  refine zq [42,0] ?_
  refine Ops.pvc rfl rfl (fun hg => pv_move rfl) rfl ?_
  refine Ops.pvc rfl rfl (fun hg => Pv.setE (t := 176) rfl (cv_pos hg) (pv_lss rfl rfl)) rfl ?_
  refine zq [46,2,5] ?_
  refine Wp.cond_dect rfl (fun h6 => ?_) (fun h6 => ?_)
  ·
   obtain ⟨x, hx2⟩ : ∃ x, xr[j]? = some x := ⟨_, List.getElem?_eq_getElem (by omega)⟩
   obtain ⟨b2, o2, cap2, cs2, T2, f2, hv12, hb2, hr2⟩ := (hvxr).open (by omega)
   cases hv12
   have hny2 : nth cs2 (o2 + j * 1) = some (.int .u64 x) := by rw [nth_eq, Nat.mul_one]; exact hr2.at_ j _ (by simp [wordsC, hx2])
   haveI hset : SetL (regsOf ((xr).take j)).cells (0 + j * 1) [.int .u64 x] ((regsOf ((xr).take j)).set x j).cells := by rw [Nat.zero_add, Nat.mul_one]; exact RegsM.setc (by omega)
   refine zq [11,5,3,20,4,0,0,0] ?_
   refine Ops.pv (pv_indexAddr (i := j) rfl rfl rfl (by omega)) rfl ?_
   refine Ops.pv (pv_load rfl rfl hny2) rfl ?_
   refine Ops.pv (pv_indexAddrA rfl rfl rfl (by omega)) rfl ?_
   refine zq [25,2,19,5,4,0] ?_
   refine Ops.pv (pv_add rfl rfl (w64n (k := j + 1) (by omega) (by omega))) rfl ?_
   refine zq [1,2,49] ?_
   rw [regs_more (by omega) hx2]
   refine Goes.back (hK1 (j + 1) ⟨by omega, by omega⟩ (by omega)) ⟨rfl, rfl, rfl, rfl, rfl, rfl, rfl, rfl, rfl, rfl, rfl, rfl, trivial⟩
  rw [regs_all hj2 (by omega)]
  refine zq [41,16,16,40,5,4,0,0,21,21] ?_
  refine Ops.pvg ⟨_, _, rfl, rfl, rfl⟩ (pv_add rfl rfl (w64 (by omega) (by omega))) rfl ?_
  refine zq [21] ?_
  refine Ops.pvg ⟨_, _, rfl, rfl, rfl⟩ (pv_sub rfl rfl (w64 (by omega) (by omega))) rfl ?_
  refine Ops.pvg ⟨_, _, rfl, rfl, rfl⟩ (pv_loadK [_, _, _, _, _, _] rfl rfl rfl ⟨rfl, rfl, rfl, rfl, rfl, rfl, trivial⟩) rfl ?_
  refine zq [21] ?_
  refine Ops.pvg ⟨_, _, rfl, rfl, rfl⟩ (pv_loadK [_, _, _, _, _, _, _, _] rfl rfl rfl ⟨rfl, rfl, rfl, rfl, rfl, rfl, rfl, rfl, trivial⟩) rfl ?_
  refine Ops.efg ⟨_, _, rfl, rfl, rfl⟩ (ef_call (tr_kSetupOk (rndP (twoS xa xb xr xs rights badge i) i xa 16) A1 _ kb1 _ hfin (hRi.xP hxi huxa 16) (1 + 5 * (i : Int) + 3) (2 - (i : Int)) 0 0 rootM (1 + 5 * (i : Int)) (regsOf xr) hRi.s8) rfl rfl) ?_
  rintro _ _ ⟨_, J16, ⟨rfl, hk17⟩, rfl, rfl⟩
  refine Ops.app ?_
  refine zq [69,24,0,21,21] ?_
  refine Ops.pvg ⟨_, _, rfl, rfl, rfl⟩ (pv_add rfl rfl (w64 (by omega) (by omega))) rfl ?_
  refine Ops.efg ⟨_, _, rfl, rfl, rfl⟩ (ef_call (tr_kStartOk (rndS (twoS xa xb xr xs rights badge i) i xa xr) A1 _ kb1 _ hk17 (hRi.xS hxi huxa huxr) (1 + 5 * (i : Int) + 3) hRi.s9) rfl rfl) ?_
  rintro _ _ ⟨_, J17, ⟨rfl, hk18⟩, rfl, rfl⟩
  refine Ops.app ?_
  refine zq [69,24,1,2,19,5,4,0] ?_
  refine Ops.pv (pv_add rfl rfl (w64n (k := i + 1) (by omega) (by omega))) rfl ?_
  refine zq [1,2,49] ?_
  refine Goes.back (hK (i + 1, ad7, J17) ⟨by dsimp only; omega, by dsimp only; rw [← hnx]; exact hk18⟩ (by dsimp only; omega)) ⟨rfl, rfl, rfl, rfl, rfl, rfl, rfl, rfl, trivial⟩
 obtain rfl : i = 2 := by omega
 refine zq [41,16,16,40,5,3,4,0,0,1,1,2,5,10] ?_
 exact Ends.ret (L' := M ++ G) (res2 rfl rfl rfl) ⟨_, _, _, _, rfl, by unfold twoS at hI; exact hI, rfl⟩
end Go.Proofs.YtipncceiekalfaaGreat
end
section
set_option linter.unusedVariables false
set_option linter.unusedSimpArgs false
set_option linter.unusedSectionVars false
namespace Go.Proofs.YtipncceiekalfaaGreat
open Go.SL
theorem step_at {k : Kn} {F : Kn → Int → Nat → Int → Kn × Bool} {n : Int} {i : Nat} {t : ThrM} {c : CapM} {s b : Int} (hB : k.curB = true) (hn : k.cur = n) (hi : k.ix n = some i) (hq : k.thr n = some (t, c, s, b)) :
    k.step F = (if (k.run (fun k' c => F k' n i c) i t s).2 = true then (k.run (fun k' c => F k' n i c) i t s).1 else (k.run (fun k' c => F k' n i c) i t s).1.halt n, true) := by
  subst hn; exact step_yes hB hi hq
theorem step_go {k : Kn} {F : Kn → Int → Nat → Int → Kn × Bool} {n : Int} {i : Nat} {t : ThrM} {c : CapM} {s b : Int} (hB : k.curB = true) (hn : k.cur = n) (hi : k.ix n = some i) (hq : k.thr n = some (t, c, s, b)) {k' : Kn} (hr : k.run (fun k' c => F k' n i c) i t s = (k', true)) :
    k.step F = (k', true) := by rw [step_at hB hn hi hq, hr]; rfl
theorem StC.at_ {k : Kn} (hx : KX k) (hk : k.nk < 2 ^ 18) (ht : k.tl.length ≤ 6) {n : Int} {i : Nat} {t : ThrM} {c : CapM} {s b : Int} (hn : k.cur = n) (hi : k.ix n = some i) (hq : k.thr n = some (t, c, s, b)) (hs : s = -1 ∨ (k.ix s).isSome = true)
    (hc : ¬ badI k t s → (effI k t s).asks = 3 → (effI k t s).val ≠ 11 ∧ callOkB ((k.atK s t.pc).setI i (doneT (effI k t s))) n i (effI k t s).val = true) : StC k := by
  subst hn
  refine ⟨hx, hk, ht, fun _ => by rw [hq]; rfl, fun x h => ?_, fun i2 x h0 h h1 h2 => ?_⟩
  · rw [hq] at h; cases h; exact hs
  · rw [hq] at h; cases h
    rw [hi] at h0; cases h0
    exact hc h1 h2
theorem fetch_ok {k : Kn} {t : ThrM} {s w : Int} {ins : InsM} (hf : k.loadR s t.pc = (w, 0)) (hu : unpM w.toNat = (ins, 0)) : ¬ badI k t s ∧ effI k t s = runM ins t.regs t.pc := by
 unfold badI effI; rw [hf]; dsimp only; rw [hu]; exact ⟨by simp, rfl⟩
theorem unp_code {op a b imm : Nat} (h1 : op ≤ 17) (h2 : a < 8) (h3 : b < 8) (h4 : imm < 4096) : unpM ((codeN op a b imm : Nat) : Int).toNat = (⟨op, a, b, imm⟩, 0) := by
 rw [Int.toNat_natCast]
 unfold unpM codeN
 have h5 : insOk (op + 32 * a + 256 * b + 2048 * imm) := by unfold insOk; omega
 rw [if_pos h5]
 unfold decM
 have e1 : (op + 32 * a + 256 * b + 2048 * imm) % 32 = op := by omega
 have e2 : (op + 32 * a + 256 * b + 2048 * imm) / 32 % 8 = a := by omega
 have e3 : (op + 32 * a + 256 * b + 2048 * imm) / 256 % 8 = b := by omega
 have e4 : (op + 32 * a + 256 * b + 2048 * imm) / 2048 % 4096 = imm := by omega
 rw [e1, e2, e3, e4]
theorem code_u64 {op a b imm : Nat} (h1 : op < 32) (h2 : a < 8) (h3 : b < 8) (h4 : imm < 4096) : U64 ((codeN op a b imm : Nat) : Int) := by unfold U64 codeN; omega
abbrev fltB : List Int := [((codeN 1 1 0 3 : Nat) : Int), 0]
theorem pair_u {x y : Int} (hx : U64 x) (hy : U64 y) : ∀ z, z ∈ [x, y] → U64 z := by
 intro z hz
 simp only [List.mem_cons, List.not_mem_nil, or_false] at hz
 rcases hz with rfl | rfl <;> assumption
abbrev fA (x : Int) : Kn := twoB [x, 0] fltB [] [] 3 0
section
variable (x : Int)
abbrev fB (x : Int) : Kn := (fA x).atK 1 0
end
def fC (x : Int) : Kn := (fB x).halt 4
attribute [local irreducible] fC twoB Kn.halt Kn.atK Kn.step Kn.run
attribute [local semireducible] fC twoB Kn.halt Kn.atK Kn.step Kn.run
def fJ (x : Int) (a : Int) : Kn := (fB x).setI 6 (doneT ⟨.zero, a, 0, 0, 0, 0⟩)
section
variable (x a : Int)
def fD (x a : Int) : Kn := (fJ x a).halt 4
end
abbrev gA (x : Int) : Kn := twoB [x] fltB [] [] 3 0
def gC (x : Int) : Kn := ((gA x).atK 1 0).halt 4
section
variable (x : Int)
end
attribute [local irreducible] fC fD gC fJ twoB Kn.halt Kn.atK Kn.step Kn.run
end Go.Proofs.YtipncceiekalfaaGreat
end
section
set_option linter.unusedVariables false
set_option linter.unusedSimpArgs false
set_option linter.unusedSectionVars false
namespace Go.Proofs.YtipncceiekalfaaGreat
open Go.SL
def capOn (k : Kn) (s : SlotM) (c : CapM) : Kn := { k with p := ⟨dsetC k.p.l s c, (ftRoot k.p.F s).2⟩, nk := k.nk + 1 }
theorem plant_on {k : Kn} {s : SlotM} {c : CapM} (hn : k.named c = true) (hc : checkM c = 0) (h0 : c.kind ≠ 0) {x : CapM} (hx : dcap? k.p.l s = some x) (hx0 : x.kind = 0) : k.plant s c = (0, capOn k s c) := by
 have hd : dput k.p.l s c = (0, dsetC k.p.l s c) := by unfold dput; rw [hx]; simp only; rw [if_neg (by rw [hc]; decide), if_neg h0, if_neg (by rw [hx0]; decide)]
 unfold Kn.plant mPlant capOn
 rw [if_neg (by rw [hn]; decide), hd]
 rfl
def two4' (rights badge : Int) : Kn := capOn two3 (0, 1) (epC rights badge)
def two5' (rights badge : Int) : Kn := capOn (two4' rights badge) (0, 2) (ntC badge)
theorem check_pt {kd o r b : Int} (h : (kd = 4 ∧ o = 10) ∨ (kd = 5 ∧ o = 11)) (hr : rightsOk r = true) (hb : 0 ≤ b ∧ b < 268435456) : checkM ⟨kd, o, r, b, 0, 0⟩ = 0 := by
 have e1 : b.fdiv (2 ^ 28) = 0 := by rw [Int.fdiv_eq_ediv_of_nonneg _ (by decide)]; omega
 have e2 : ∀ o : Int, o = 10 ∨ o = 11 → o.fdiv (2 ^ 6) = 0 := fun o h => by rcases h with rfl | rfl <;> decide
 have e3 : plainM ⟨kd, o, r, b, 0, 0⟩ = ⟨kd, o, r, b, 0, 0⟩ := by rcases h with ⟨rfl, rfl⟩ | ⟨rfl, rfl⟩ <;> rfl
 unfold checkM
 rw [if_neg (by dsimp only; omega), if_neg]
 rw [e3]; dsimp only
 rintro (h1 | h1 | h1 | h1 | h1 | h1)
 ·
  exact h1 rfl
 ·
  omega
 ·
  exact h1 (e2 o (by omega))
 ·
  rw [hr] at h1; cases h1
 ·
  exact h1 e1
 ·
  exact absurd h1 (by decide)
section
variable {r b : Int} (hr : rightsOk r = true) (hb : 0 ≤ b ∧ b < 268435456)
include hr hb
theorem two_p4 : two3.plant (0, 1) (epC r b) = (0, two4' r b) := plant_on (x := CapM.zero) (by kernel_rfl) (check_pt (.inl ⟨rfl, rfl⟩) hr hb) (show (4 : Int) ≠ 0 by decide) (by kernel_rfl) rfl
theorem two_e4 : two4 r b = two4' r b := by unfold two4; rw [two_p4 hr hb]
theorem two_p5 : (two4' r b).plant (0, 2) (ntC b) = (0, two5' r b) := plant_on (x := CapM.zero) (by kernel_rfl) (check_pt (.inr ⟨rfl, rfl⟩) (by decide) hb) (show (5 : Int) ≠ 0 by decide) (by kernel_rfl) rfl
theorem two_e5 : two5 r b = two5' r b := by unfold two5; rw [two_e4 hr hb, two_p5 hr hb]
end
def twoA' (a r : List Int) (rights badge : Int) : Kn := rnd (two5' rights badge) 0 a r
def twoB' (a b r s : List Int) (rights badge : Int) : Kn := rnd (twoA' a r rights badge) 1 b s
theorem two_eB {a b r s : List Int} {rights badge : Int} (hr : rightsOk rights = true) (hb : 0 ≤ badge ∧ badge < 268435456) : twoB a b r s rights badge = twoB' a b r s rights badge := by unfold twoB twoA; rw [two_e5 hr hb]; rfl
theorem TwoOk.of {a b r s : List Int} {rights badge : Int} (hr : rightsOk rights = true) (hb : 0 ≤ badge ∧ badge < 268435456) (h1 : rndB (two5' rights badge) 0 a r = true) (h2 : rndB (twoA' a r rights badge) 1 b s = true) : TwoOk a b r s rights badge := by
 refine ⟨by rw [two_p4 hr hb], by rw [two_e4 hr hb, two_p5 hr hb], ?_, ?_⟩
 ·
  rw [two_e5 hr hb]; exact RndOk.of h1
 ·
  unfold twoA; rw [two_e5 hr hb]; exact RndOk.of h2
abbrev sysN (n : Nat) : Int := ((codeN 16 0 0 n : Nat) : Int)
theorem sys_u {n : Nat} (h : n < 4096) : U64 (sysN n) := code_u64 (by decide) (by decide) (by decide) h
theorem Two.kx {a b r s : List Int} {rights badge : Int} (H : TwoOk a b r s rights badge) (hr : rightsOk rights = true) (hr2 : 0 ≤ rights ∧ rights < 8) (hb : 0 ≤ badge ∧ badge < 268435456) (h1 : ∀ x, x ∈ a → U64 x) (h2 : ∀ x, x ∈ b → U64 x) (h3 : ∀ x, x ∈ r → U64 x) (h4 : ∀ x, x ∈ s → U64 x) : KX (twoB' a b r s rights badge) := by
 rw [← two_eB hr hb]; exact two_kx H (by unfold i64R; omega) (by unfold u64R; omega) h1 h2 h3 h4
abbrev siR : List Int := [5, 5, 5, 5, 5, 5, 5, 2]
def siA (b : Int) : Kn := twoB' [sysN 9, 0] [sysN 8, 0] siR siR 3 b
def siB (b : Int) : Kn := ((siA b).step callF1).1
def siC (b : Int) : Kn := ((siB b).step callF1).1
def snA (b : Int) : Kn := twoB' [sysN 8, 0] [sysN 10, 0] siR siR 3 b
def snB (b : Int) : Kn := ((snA b).step callF1).1
def snW (b w : Int) : Kn := (snB b).setNt 2 ⟨w, [], []⟩
def snC (b w : Int) : Kn := ((snW b w).step callF1).1
def snD (b w : Int) : Kn := ((snC b w).step callF1).1
section
variable (b : Int)
end
section
variable (n : Nat)
end
attribute [local irreducible] siA siB siC snA snB snC snD snW twoB twoB' Kn.step
end Go.Proofs.YtipncceiekalfaaGreat
end
section
set_option linter.unusedVariables false
set_option linter.unusedSimpArgs false
set_option linter.unusedSectionVars false
namespace Go.Proofs.YtipncceiekalfaaGreat
open Go.SL
section
variable {k : Kn} {n : Int} {i : Nat} {t : ThrM} {c : CapM} {s b : Int} (hth : k.thI i = some (t, c, s, b)) {X : CapM}
include hth
theorem send_one {wt calls : Bool} {j : Nat} {S : Ep} (hw : k.withR c t.regs.r7 4 2 = (X, 0)) (h : infE t.regs.r0.toNat = 0) (hE : k.epI X.object = some (j, S)) (hm : meetB S n 1 = false) :
    k.send n i wt calls = if wt = true then (k.setEp j (meetS S n 1 wt)).wait i n 2 X.object X.badge calls else (k.setEp j (meetS S n 1 wt)).tell i 0 := by
  unfold Kn.send; rw [hth]; dsimp only; rw [hw]; dsimp only; rw [if_neg (by decide), if_neg (by rw [h]; decide)]; rw [hE]; dsimp only; rw [hm]; rfl
theorem recv_go {wt : Bool} (hw : k.withR c t.regs.r7 4 1 = (X, 0)) (hb : (k.orphan i).ntI b = none) : k.recv n i wt = (k.orphan i).recv1 n i wt X.object := by
 unfold Kn.recv; rw [hth]; dsimp only; rw [hw]; dsimp only; rw [if_neg (by decide)]; rw [hb]
theorem callOk_send {v : Int} (hv : v = 0 ∨ v = 1 ∨ v = 2) (h : (k.withR c t.regs.r7 4 2).2 = 0 → epOkB k n (k.withR c t.regs.r7 4 2).1.object 1 = true) : callOkB k n i v = true := by
 unfold callOkB; rw [hth]; dsimp only
 have a1 : ¬ (v = 3 ∨ v = 4 ∨ (v = 6 ∧ t.caller = -1)) := by omega
 have a2 : ¬ (v = 6 ∧ t.caller ≠ -1) := by omega
 have a3 : ¬ v = 8 := by omega
 have a4 : ¬ (v = 9 ∨ v = 10) := by omega
 rw [decide_eq_true a1, decide_eq_true a2, decide_eq_true a3, decide_eq_true a4]
 by_cases h0 : (k.withR c t.regs.r7 4 2).2 = 0
 ·
  rw [h h0]; simp
 ·
  rw [decide_eq_true h0]; simp
theorem callOk_recv {v : Int} (hv : v = 3 ∨ v = 4) (h : (k.withR c t.regs.r7 4 1).2 = 0 → epOkB (k.orphan i) n (k.withR c t.regs.r7 4 1).1.object 2 = true) : callOkB k n i v = true := by
 have hr : recvOkB k n i = true := by
  unfold recvOkB; rw [hth]; dsimp only
  by_cases h0 : (k.withR c t.regs.r7 4 1).2 = 0
  ·
   rw [h h0]; simp
  ·
   rw [decide_eq_true h0]; simp
 unfold callOkB; rw [hth]; dsimp only
 have a1 : ¬ (v = 0 ∨ v = 1 ∨ v = 2) := by omega
 have a2 : ¬ (v = 6 ∧ t.caller ≠ -1) := by omega
 have a3 : ¬ v = 8 := by omega
 have a4 : ¬ (v = 9 ∨ v = 10) := by omega
 rw [decide_eq_true a1, decide_eq_true a2, decide_eq_true a3, decide_eq_true a4, hr]; simp
end
theorem with_eq {k : Kn} {c : CapM} {p kind right : Int} {s : SlotM} {X : CapM} (h : k.find c p = (s, X, 0)) (hk : X.kind = kind) : k.withR c p kind right = if wthR right X.rights = false then (.zero, 5) else (X, 0) := by
 unfold Kn.withR; rw [h]; dsimp only; rw [if_neg (by decide), if_neg (by rw [hk]; exact fun h => h rfl)]
theorem step_call {k : Kn} {n : Int} {i : Nat} {t : ThrM} {c : CapM} {s b : Int} {x : EffM} (hB : k.curB = true) (hn : k.cur = n) (hi : k.ix n = some i) (hq : k.thr n = some (t, c, s, b)) (f1 : ¬ badI k t s) (f2 : effI k t s = x) (h3 : x.asks = 3) :
    k.step callF1 = (((k.atK s t.pc).setI i (doneT x)).call n i x.val, true) := by
  refine step_go hB hn hi hq ?_
  rw [run_call f1 f2 h3]
  rfl
def rndT (k : Kn) (i : Nat) (code : List Int) (r : RegsM) : Kn := ((rndP k i code 16).setup (1 + 5 * (i : Int) + 3) (2 - (i : Int)) 0 0 rootM (1 + 5 * (i : Int)) r).start (1 + 5 * (i : Int) + 3)
def twoR (a b : List Int) (r s : RegsM) (rights badge : Int) : Kn := rndT (rndT (two5' rights badge) 0 a r) 1 b s
abbrev rlT (g : RegsM) (pc : Int) : ThrM := ⟨1, 0, 0, false, -1, 2, 0, pc, g⟩
def rlA (a : Nat) (g : RegsM) (rights : Int) : Kn := twoR [sysN a, 0] [0] g (regsOf []) rights 0
def rlB (a : Nat) (g : RegsM) (rights : Int) : Kn := ((rlA a g rights).atK 1 0).setI 6 (doneT ⟨g, 1, 3, 0, 0, (a : Int)⟩)
section
variable (a : Nat) (l : List Int) (g : RegsM) (r : Int)
variable (x0 x1 x2 x3 x4 x5 x6 : Int)
end
attribute [local irreducible] rlA rlB Kn.step Kn.tell Kn.send Kn.recv Kn.recv1 Kn.wait Kn.setEp Kn.orphan
end Go.Proofs.YtipncceiekalfaaGreat
end
section
set_option linter.unusedVariables false
set_option linter.unusedSimpArgs false
set_option linter.unusedSectionVars false
namespace Go.Proofs.YtipncceiekalfaaGreat
open Go.SL
theorem carry_eq {f t : RegsM} {b : Int} {n : Nat} (h : infE f.r0.toNat = 0) (hn : infLen f.r0.toNat = n) : carryM f t b = (carryR f t n b, 0) := by unfold carryM; rw [if_pos h, hn]
theorem carryK_no {k : Kn} {fr to : ThrM} {cf ct : CapM} {may : Int} (h : infCap fr.regs.r0.toNat = false) : k.carryK fr to cf ct may = k := by unfold Kn.carryK Kn.carryB; rw [h]; rfl
theorem recv1_meet {k : Kn} {n : Int} {i : Nat} {wt : Bool} {on : Int} {j : Nat} {S : Ep} {v : Int} (hE : k.epI on = some (j, S)) (hm : meetB S n 2 = true) (hv : meetV S n 2 = v) : k.recv1 n i wt on = (k.setEp j (meetS S n 2 wt)).meet i v on := by
 unfold Kn.recv1; rw [hE]; dsimp only; rw [hm, if_pos rfl, hv]
section
variable {k : Kn} {i j : Nat} {m on : Int} {t f : ThrM} {c cf : CapM} {s b sf bf : Int} (h1 : k.thI i = some (t, c, s, b)) (h2 : k.ix m = some j) (h3 : k.thI j = some (f, cf, sf, bf)) (hc : infCap f.regs.r0.toNat = false)
include h1 h2 h3 hc
theorem meet_call (h4 : f.calls = true) : k.meet i m on = ((k.setI i (fun u => { u with regs := (carryM f.regs t.regs f.badge).1 })).setI j (fun u => { stopT u with st := 4 })).setI i (fun u => { u with caller := m }) := by
 unfold Kn.meet; rw [h1]; dsimp only; rw [h2]; dsimp only; rw [h3]; dsimp only; rw [carryK_no hc, if_neg (by rw [h4]; decide)]
end
theorem with_ok {k : Kn} {c : CapM} {p kind right : Int} {s : SlotM} {X : CapM} (h : k.find c p = (s, X, 0)) (hk : X.kind = kind) (hr : wthR right X.rights = true) : k.withR c p kind right = (X, 0) := by
 rw [with_eq h hk, hr]; rfl
abbrev mReg (w m1 m2 m3 m4 : Int) : List Int := [w, m1, m2, m3, m4, 0, 0, 1]
abbrev mRg (w m1 m2 m3 m4 : Int) : RegsM := ⟨w, m1, m2, m3, m4, 0, 0, 1⟩
abbrev tReg : List Int := [7, 7, 7, 7, 7, 7, 7, 1]
abbrev tRg : RegsM := ⟨7, 7, 7, 7, 7, 7, 7, 1⟩
abbrev lo9 (g : RegsM) (pc : Int) : ThrM := ⟨1, 0, 0, false, -1, 1, 0, pc, g⟩
section
variable (w m1 m2 m3 m4 b : Int)
def msA : Kn := twoB' [sysN 0, 0] [sysN 3, 0] (mReg w m1 m2 m3 m4) tReg 3 b
def msB : Kn := ((msA w m1 m2 m3 m4 b).atK 1 0).setI 6 (doneT ⟨mRg w m1 m2 m3 m4, 1, 3, 0, 0, 0⟩)
def msC : Kn := ((msB w m1 m2 m3 m4 b).setEp 1 ⟨1, [4]⟩).be 4 ⟨2, 10, b, false, -1, 2, 0, 1, mRg w m1 m2 m3 m4⟩
def msD : Kn := ((msC w m1 m2 m3 m4 b).atK 6 0).setI 10 (doneT ⟨tRg, 1, 3, 0, 0, 3⟩)
def msE (g : RegsM) : Kn := ((msD w m1 m2 m3 m4 b).setEp 1 ⟨1, []⟩).setI 10 (fun u => { u with regs := g })
def msF (g : RegsM) : Kn := (msE w m1 m2 m3 m4 b g).be 4 ⟨1, 0, 0, false, -1, 2, 0, 1, ⟨0, m1, m2, m3, m4, 0, 0, 1⟩⟩
def mrA : Kn := twoB' [sysN 3, 0] [sysN 0, 0] tReg (mReg w m1 m2 m3 m4) 3 b
def mrB : Kn := ((mrA w m1 m2 m3 m4 b).step callF1).1
def mrC : Kn := ((mrB w m1 m2 m3 m4 b).atK 6 0).setI 10 (doneT ⟨mRg w m1 m2 m3 m4, 1, 3, 0, 0, 0⟩)
def mrD : Kn := (mrC w m1 m2 m3 m4 b).setEp 1 (meetS ⟨2, [4]⟩ 9 1 true)
def mrE (g : RegsM) : Kn := ((mrD w m1 m2 m3 m4 b).wake 4 g).tell 10 0
end
theorem mReg_u {w m1 m2 m3 m4 : Int} (hw : U64 w) (h1 : U64 m1) (h2 : U64 m2) (h3 : U64 m3) (h4 : U64 m4) : ∀ x, x ∈ mReg w m1 m2 m3 m4 → U64 x := by
 intro x hx; simp only [List.mem_cons, List.not_mem_nil, or_false] at hx
 rcases hx with rfl | rfl | rfl | rfl | rfl | rfl | rfl | rfl <;> first | assumption | decide
attribute [local irreducible] msA msB msC msD msE msF mrA mrB mrC mrD mrE twoB' twoB Kn.step Kn.tell Kn.send Kn.recv Kn.recv1 Kn.wait Kn.setEp Kn.orphan Kn.meet Kn.excuse Kn.wake Kn.be Kn.setI Kn.atK
section
variable {w m1 m2 m3 m4 b : Int} {n : Nat} (hi : infE w.toNat = 0) (hn : infLen w.toNat = n) (hc : infCap w.toNat = false) (hb : 0 ≤ b ∧ b < 268435456) (hw : U64 w) (h1 : U64 m1) (h2 : U64 m2) (h3 : U64 m3) (h4 : U64 m4)
include hi hn hc hb hw h1 h2 h3 h4
end
end Go.Proofs.YtipncceiekalfaaGreat
end
section
set_option linter.unusedVariables false
set_option linter.unusedSimpArgs false
set_option linter.unusedSectionVars false
namespace Go.Proofs.YtipncceiekalfaaGreat
open Go.SL
abbrev srvC : List Int := [sysN 3, ((codeN 11 0 6 8 : Nat) : Int), ((codeN 11 1 6 9 : Nat) : Int), sysN 5, ((codeN 2 3 0 0 : Nat) : Int), sysN 5]
abbrev srvR : List Int := [0, 0, 0, 0, 0, 0, 0, 1]
abbrev srvG : RegsM := ⟨0, 0, 0, 0, 0, 0, 0, 1⟩
theorem srvC_u : ∀ x, x ∈ srvC → U64 x := by
 intro x hx; simp only [List.mem_cons, List.not_mem_nil, or_false] at hx
 rcases hx with rfl | rfl | rfl | rfl | rfl | rfl <;> exact code_u64 (by decide) (by decide) (by decide) (by decide)
theorem srvR_u : ∀ x, x ∈ srvR → U64 x := by
 intro x hx; simp only [List.mem_cons, List.not_mem_nil, or_false] at hx
 rcases hx with rfl | rfl | rfl | rfl | rfl | rfl | rfl | rfl <;> decide
section
variable (w m1 m2 m3 m4 v : Int)
def clA : Kn := twoB' [sysN 2, 0] srvC (mReg w m1 m2 m3 m4) srvR 3 0
def clP : Kn := { clA w m1 m2 m3 m4 with ws := memPut (memPut (clA w m1 m2 m3 m4).ws 136 81) 137 v }
def clB : Kn := ((clP w m1 m2 m3 m4 v).atK 1 0).setI 6 (doneT ⟨mRg w m1 m2 m3 m4, 1, 3, 0, 0, 2⟩)
def clC : Kn := ((clB w m1 m2 m3 m4 v).setEp 1 ⟨1, [4]⟩).wait 6 4 2 10 0 true
def clD : Kn := ((clC w m1 m2 m3 m4 v).atK 6 0).setI 10 (doneT ⟨srvG, 1, 3, 0, 0, 3⟩)
def clE (g1 g2 g3 g4 : Int) : Kn := (((((clD w m1 m2 m3 m4 v).setEp 1 ⟨1, []⟩).setI 10 (fun u => { u with regs := mRg w g1 g2 g3 g4 })).setI 6 (fun u => { stopT u with st := 4 })).setI 10 (fun u => { u with caller := 4 }))
theorem clA_o : rndB (two5' 3 0) 0 [sysN 2, 0] (mReg w m1 m2 m3 m4) = true ∧ rndB (twoA' [sysN 2, 0] (mReg w m1 m2 m3 m4) 3 0) 1 srvC srvR = true ∧ (clA w m1 m2 m3 m4).ws.length = 512 ∧ ((clA w m1 m2 m3 m4).obj 8).sp.1 = 128 := ⟨by kernel_rfl, by kernel_rfl, by kernel_rfl, by kernel_rfl⟩
theorem clP_1 : (clP w m1 m2 m3 m4 v).curB = true ∧ (clP w m1 m2 m3 m4 v).cur = 4 ∧ (clP w m1 m2 m3 m4 v).ix 4 = some 6 ∧ (clP w m1 m2 m3 m4 v).thr 4 = some (rlT (mRg w m1 m2 m3 m4) 0, rootM, 1, -1) ∧ (clP w m1 m2 m3 m4 v).nk = 2 ∧ (clP w m1 m2 m3 m4 v).tl = [] ∧ ((clP w m1 m2 m3 m4 v).ix 1).isSome = true ∧ (clP w m1 m2 m3 m4 v).loadR 1 0 = (sysN 2, 0) :=
  ⟨by kernel_rfl, by kernel_rfl, by kernel_rfl, by kernel_rfl, by kernel_rfl, by kernel_rfl, by kernel_rfl, by kernel_rfl⟩
theorem clB_1 : (clB w m1 m2 m3 m4 v).thI 6 = some (rlT (mRg w m1 m2 m3 m4) 1, rootM, 1, -1) ∧ (clB w m1 m2 m3 m4 v).find rootM 1 = ((0, 1), epC 3 0, 0) ∧ (clB w m1 m2 m3 m4 v).epI 10 = some (1, ⟨0, []⟩) ∧ epOkB (clB w m1 m2 m3 m4 v) 4 10 1 = true := ⟨by kernel_rfl, by kernel_rfl, by kernel_rfl, by kernel_rfl⟩
theorem clC_1 : (clC w m1 m2 m3 m4 v).curB = true ∧ (clC w m1 m2 m3 m4 v).cur = 9 ∧ (clC w m1 m2 m3 m4 v).ix 9 = some 10 ∧ (clC w m1 m2 m3 m4 v).thr 9 = some (lo9 srvG 0, rootM, 6, -1) ∧ (clC w m1 m2 m3 m4 v).nk = 2 ∧ (clC w m1 m2 m3 m4 v).tl.length = 1 ∧ ((clC w m1 m2 m3 m4 v).ix 6).isSome = true ∧ (clC w m1 m2 m3 m4 v).loadR 6 0 = (sysN 3, 0) ∧ (thrT (clC w m1 m2 m3 m4 v) 4).st = 2 :=
  ⟨by kernel_rfl, by kernel_rfl, by kernel_rfl, by kernel_rfl, by kernel_rfl, by kernel_rfl, by kernel_rfl, by kernel_rfl, by kernel_rfl⟩
theorem clD_1 : (clD w m1 m2 m3 m4 v).thI 10 = some (lo9 srvG 1, rootM, 6, -1) ∧ (clD w m1 m2 m3 m4 v).find rootM 1 = ((0, 1), epC 3 0, 0) ∧ (clD w m1 m2 m3 m4 v).orphan 10 = clD w m1 m2 m3 m4 v ∧ (clD w m1 m2 m3 m4 v).ntI (-1) = none ∧ (clD w m1 m2 m3 m4 v).epI 10 = some (1, ⟨1, [4]⟩) ∧ epOkB (clD w m1 m2 m3 m4 v) 9 10 2 = true :=
  ⟨by kernel_rfl, by kernel_rfl, by kernel_rfl, by kernel_rfl, by kernel_rfl, by kernel_rfl⟩
theorem clD_2 : ((clD w m1 m2 m3 m4 v).setEp 1 ⟨1, []⟩).thI 10 = some (lo9 srvG 1, rootM, 6, -1) ∧ ((clD w m1 m2 m3 m4 v).setEp 1 ⟨1, []⟩).ix 4 = some 6 ∧ ((clD w m1 m2 m3 m4 v).setEp 1 ⟨1, []⟩).thI 6 = some (⟨2, 10, 0, true, -1, 2, 0, 1, mRg w m1 m2 m3 m4⟩, rootM, 1, -1) := ⟨by kernel_rfl, by kernel_rfl, by kernel_rfl⟩
variable (g1 g2 g3 g4 : Int)
def clF : Kn := ((clE w m1 m2 m3 m4 v g1 g2 g3 g4).step callF1).1
def clG : Kn := ((clF w m1 m2 m3 m4 v g1 g2 g3 g4).step callF1).1
def clH : Kn := ((clG w m1 m2 m3 m4 v g1 g2 g3 g4).step callF1).1
def clI : Kn := ((clH w m1 m2 m3 m4 v g1 g2 g3 g4).step callF1).1
def clJ : Kn := ((clI w m1 m2 m3 m4 v g1 g2 g3 g4).step callF1).1
def clK : Kn := ((clJ w m1 m2 m3 m4 v g1 g2 g3 g4).step callF1).1
theorem clE_1 : stcB (clE w m1 m2 m3 m4 v g1 g2 g3 g4) = true ∧ (clE w m1 m2 m3 m4 v g1 g2 g3 g4).nk = 2 ∧ (clE w m1 m2 m3 m4 v g1 g2 g3 g4).tl.length = 2 ∧ ((clE w m1 m2 m3 m4 v g1 g2 g3 g4).step callF1).2 = true ∧ (thrT (clE w m1 m2 m3 m4 v g1 g2 g3 g4) 4).st = 4 ∧ (thrT (clE w m1 m2 m3 m4 v g1 g2 g3 g4) 9).caller = 4 ∧ (thrT (clE w m1 m2 m3 m4 v g1 g2 g3 g4) 9).regs.r0 = w :=
  ⟨by kernel_rfl, by kernel_rfl, by kernel_rfl, by kernel_rfl, by kernel_rfl, by kernel_rfl, by kernel_rfl⟩
theorem clF_1 : stcB (clF w m1 m2 m3 m4 v g1 g2 g3 g4) = true ∧ (clF w m1 m2 m3 m4 v g1 g2 g3 g4).nk = 2 ∧ (clF w m1 m2 m3 m4 v g1 g2 g3 g4).tl.length = 2 ∧ ((clF w m1 m2 m3 m4 v g1 g2 g3 g4).step callF1).2 = true := ⟨by kernel_rfl, by kernel_rfl, by kernel_rfl, by kernel_rfl⟩
theorem clG_1 : stcB (clG w m1 m2 m3 m4 v g1 g2 g3 g4) = true ∧ (clG w m1 m2 m3 m4 v g1 g2 g3 g4).nk = 2 ∧ (clG w m1 m2 m3 m4 v g1 g2 g3 g4).tl.length = 2 ∧ ((clG w m1 m2 m3 m4 v g1 g2 g3 g4).step callF1).2 = true := ⟨by kernel_rfl, by kernel_rfl, by kernel_rfl, by kernel_rfl⟩
theorem clH_1 : stcB (clH w m1 m2 m3 m4 v g1 g2 g3 g4) = true ∧ (clH w m1 m2 m3 m4 v g1 g2 g3 g4).nk = 2 ∧ (clH w m1 m2 m3 m4 v g1 g2 g3 g4).tl.length = 2 ∧ (thrT (clH w m1 m2 m3 m4 v g1 g2 g3 g4) 4).st = 1 ∧ (thrT (clH w m1 m2 m3 m4 v g1 g2 g3 g4) 4).regs.r0 = 81 ∧ (thrT (clH w m1 m2 m3 m4 v g1 g2 g3 g4) 4).regs.r1 = v ∧ (thrT (clH w m1 m2 m3 m4 v g1 g2 g3 g4) 4).regs.r5 = 0 ∧ (thrT (clH w m1 m2 m3 m4 v g1 g2 g3 g4) 9).caller = -1 ∧ (thrT (clH w m1 m2 m3 m4 v g1 g2 g3 g4) 9).regs.r0 = 0 :=
  ⟨by kernel_rfl, by kernel_rfl, by kernel_rfl, by kernel_rfl, by kernel_rfl, by kernel_rfl, by kernel_rfl, by kernel_rfl, by kernel_rfl⟩
theorem clI_1 : stcB (clI w m1 m2 m3 m4 v g1 g2 g3 g4) = true ∧ (clI w m1 m2 m3 m4 v g1 g2 g3 g4).nk = 2 ∧ (clI w m1 m2 m3 m4 v g1 g2 g3 g4).tl.length = 2 := ⟨by kernel_rfl, by kernel_rfl, by kernel_rfl⟩
theorem clJ_1 : stcB (clJ w m1 m2 m3 m4 v g1 g2 g3 g4) = true ∧ (clJ w m1 m2 m3 m4 v g1 g2 g3 g4).nk = 2 ∧ (clJ w m1 m2 m3 m4 v g1 g2 g3 g4).tl.length = 2 := ⟨by kernel_rfl, by kernel_rfl, by kernel_rfl⟩
theorem clK_1 : (thrT (clK w m1 m2 m3 m4 v g1 g2 g3 g4) 4).st = 0 ∧ (thrT (clK w m1 m2 m3 m4 v g1 g2 g3 g4) 9).pc = 6 ∧ (thrT (clK w m1 m2 m3 m4 v g1 g2 g3 g4) 9).regs.r0 = 8 ∧ (thrT (clK w m1 m2 m3 m4 v g1 g2 g3 g4) 9).regs.r3 = 0 := ⟨by kernel_rfl, by kernel_rfl, by kernel_rfl, by kernel_rfl⟩
end
def stN (k : Kn) : Nat → Kn
  | 0 => k
  | i + 1 => ((stN k i).step callF1).1
structure ClOk (k0 : Kn) (w v : Int) : Prop where
  s0 : StC k0
  b0 : (k0.step callF1).2 = true
  t1 : (thrT (stN k0 1) 4).st = 2
  s1 : StC (stN k0 1)
  b1 : ((stN k0 1).step callF1).2 = true
  t2 : (thrT (stN k0 2) 4).st = 4
  c2 : (thrT (stN k0 2) 9).caller = 4
  r2 : (thrT (stN k0 2) 9).regs.r0 = w
  n : ∀ i, i < 3 → StC (stN k0 (2 + i)) ∧ ((stN k0 (2 + i)).step callF1).2 = true
  m : ∀ i, i < 4 → KX (stN k0 (5 + i)) ∧ (i < 3 → StC (stN k0 (5 + i)))
  e1 : (thrT (stN k0 5) 4).st = 1
  e2 : (thrT (stN k0 5) 4).regs.r0 = 81
  e3 : (thrT (stN k0 5) 4).regs.r1 = v
  e4 : (thrT (stN k0 5) 4).regs.r5 = 0
  e5 : (thrT (stN k0 5) 9).caller = -1
  e6 : (thrT (stN k0 5) 9).regs.r0 = 0
  f1 : (thrT (stN k0 8) 4).st = 0
  f2 : (thrT (stN k0 8) 9).pc = 6
  f3 : (thrT (stN k0 8) 9).regs.r0 = 8
  f4 : (thrT (stN k0 8) 9).regs.r3 = 0
abbrev clTw (w m1 m2 m3 m4 : Int) : Kn := twoB [sysN 2, 0] srvC (mReg w m1 m2 m3 m4) srvR 3 0
attribute [local irreducible] clA clP clB clC clD clE clF clG clH clI clJ clK twoB' twoB Kn.step Kn.tell Kn.send Kn.recv Kn.recv1 Kn.wait Kn.setEp Kn.orphan Kn.meet Kn.excuse Kn.wake Kn.be Kn.setI Kn.atK memPut
section
variable {w m1 m2 m3 m4 v : Int} {n : Nat} (hi : infE w.toNat = 0) (hn : infLen w.toNat = n) (hc : infCap w.toNat = false) (hw : U64 w) (h1 : U64 m1) (h2 : U64 m2) (h3 : U64 m3) (h4 : U64 m4) (hv : U64 v)
include hw h1 h2 h3 h4
theorem cl_two : TwoOk [sysN 2, 0] srvC (mReg w m1 m2 m3 m4) srvR 3 0 := TwoOk.of (by decide) (by decide) (clA_o w m1 m2 m3 m4).1 (clA_o w m1 m2 m3 m4).2.1
omit hw h1 h2 h3 h4 in
theorem clTw_eq : clTw w m1 m2 m3 m4 = clA w m1 m2 m3 m4 := by unfold clA; exact two_eB (by decide) (by decide)
theorem cl_kx : KX (clTw w m1 m2 m3 m4) := two_kx (cl_two hw h1 h2 h3 h4) (by unfold i64R; decide) (by unfold u64R; decide) (pair_u (sys_u (by decide)) (by decide)) srvC_u (mReg_u hw h1 h2 h3 h4) srvR_u
omit hw h1 h2 h3 h4 in
theorem cl_obj : ((clTw w m1 m2 m3 m4).obj 8).sp.1 = 128 ∧ (clTw w m1 m2 m3 m4).ws.length = 512 := by rw [clTw_eq]; exact ⟨(clA_o w m1 m2 m3 m4).2.2.2, (clA_o w m1 m2 m3 m4).2.2.1⟩
include hv in
theorem clP_kx : KX (clP w m1 m2 m3 m4 v) := by
 have h := cl_kx hw h1 h2 h3 h4
 rw [clTw_eq] at h
 have a := (h.setM 136 (v := 81) (by decide)).1
 have b := (a.setM 137 hv).1
 unfold clP; exact b
include hi hn hc hv
theorem cl_ok : ClOk (clP w m1 m2 m3 m4 v) w v := by
 have hk := clP_kx hw h1 h2 h3 h4 hv
 obtain ⟨a1, a2, a3, a4, a5, a6, a7, a8⟩ := clP_1 w m1 m2 m3 m4 v
 obtain ⟨b1, b2, b3, b4⟩ := clB_1 w m1 m2 m3 m4 v
 obtain ⟨c1, c2, c3, c4, c5, c6, c7, c8, c9⟩ := clC_1 w m1 m2 m3 m4 v
 obtain ⟨d1, d2, d3, d4, d5, d6⟩ := clD_1 w m1 m2 m3 m4 v
 obtain ⟨d7, d8, d9⟩ := clD_2 w m1 m2 m3 m4 v
 obtain ⟨p1, p2⟩ := fetch_ok (t := rlT (mRg w m1 m2 m3 m4) 0) (s := 1) a8 (unp_code (by decide) (by decide) (by decide) (by decide))
 rw [show runM ⟨16, 0, 0, 2⟩ (rlT (mRg w m1 m2 m3 m4) 0).regs (rlT (mRg w m1 m2 m3 m4) 0).pc = ⟨mRg w m1 m2 m3 m4, 1, 3, 0, 0, 2⟩ from rfl] at p2
 have eB : ((clP w m1 m2 m3 m4 v).atK 1 0).setI 6 (doneT ⟨mRg w m1 m2 m3 m4, 1, 3, 0, 0, 2⟩) = clB w m1 m2 m3 m4 v := by unfold clB; rfl
 have w2 := with_ok (right := 2) b2 (show (epC 3 0).kind = 4 from rfl) (show wthR 2 3 = true by decide)
 have hs := step_call a1 a2 a3 a4 p1 p2 rfl
 dsimp only at hs
 rw [eB] at hs
 have hsend : (clB w m1 m2 m3 m4 v).call 4 6 2 = clC w m1 m2 m3 m4 v := by
  show (clB w m1 m2 m3 m4 v).send 4 6 true true = _
  rw [send_one b1 w2 hi b3 (by decide), if_pos rfl]
  unfold clC; rfl
 rw [hsend] at hs
 have hco : callOkB (clB w m1 m2 m3 m4 v) 4 6 2 = true := callOk_send b1 (.inr (.inr rfl)) (fun _ => by
  show epOkB _ 4 ((clB w m1 m2 m3 m4 v).withR rootM 1 4 2).1.object 1 = true
  rw [w2]; exact b4)
 have h0 : StC (clP w m1 m2 m3 m4 v) := StC.at_ hk (by rw [a5]; decide) (by rw [a6]; decide) a2 a3 a4 (.inr a7) (fun _ _ => by
  rw [p2]; dsimp only; rw [eB]; exact ⟨by decide, hco⟩)
 obtain ⟨k1, _⟩ := step_kx h0
 rw [hs] at k1
 obtain ⟨q1, q2⟩ := fetch_ok (t := lo9 srvG 0) (s := 6) c8 (unp_code (by decide) (by decide) (by decide) (by decide))
 rw [show runM ⟨16, 0, 0, 3⟩ (lo9 srvG 0).regs (lo9 srvG 0).pc = ⟨srvG, 1, 3, 0, 0, 3⟩ from rfl] at q2
 have eD : ((clC w m1 m2 m3 m4 v).atK 6 0).setI 10 (doneT ⟨srvG, 1, 3, 0, 0, 3⟩) = clD w m1 m2 m3 m4 v := by unfold clD; rfl
 have v1 := with_ok (right := 1) d2 (show (epC 3 0).kind = 4 from rfl) (show wthR 1 3 = true by decide)
 have hs2 := step_call c1 c2 c3 c4 q1 q2 rfl
 dsimp only at hs2
 rw [eD] at hs2
 obtain ⟨g1, g2, g3, g4, eg⟩ : ∃ g1 g2 g3 g4, carryR (mRg w m1 m2 m3 m4) srvG n 0 = mRg w g1 g2 g3 g4 := ⟨_, _, _, _, rfl⟩
 have hrecv : (clD w m1 m2 m3 m4 v).call 9 10 3 = clE w m1 m2 m3 m4 v g1 g2 g3 g4 := by
  show (clD w m1 m2 m3 m4 v).recv 9 10 true = _
  rw [recv_go d1 v1 (by rw [d3]; exact d4), d3]
  show (clD w m1 m2 m3 m4 v).recv1 9 10 true 10 = _
  rw [recv1_meet (v := 4) d5 (by decide) (by decide), show meetS ⟨1, [4]⟩ 9 2 true = (⟨1, []⟩ : Ep) from rfl, meet_call d7 d8 d9 hc rfl, carry_eq hi hn]
  show (((((clD w m1 m2 m3 m4 v).setEp 1 ⟨1, []⟩).setI 10 (fun u => { u with regs := carryR (mRg w m1 m2 m3 m4) srvG n 0 })).setI 6 (fun u => { stopT u with st := 4 })).setI 10 (fun u => { u with caller := 4 })) = _
  rw [eg]; unfold clE; rfl
 rw [hrecv] at hs2
 have hco2 : callOkB (clD w m1 m2 m3 m4 v) 9 10 3 = true := callOk_recv d1 (.inl rfl) (fun _ => by
  show epOkB _ 9 ((clD w m1 m2 m3 m4 v).withR rootM 1 4 1).1.object 2 = true
  rw [v1, d3]; exact d6)
 have hC : StC (clC w m1 m2 m3 m4 v) := StC.at_ k1 (by rw [c5]; decide) (by rw [c6]; decide) c2 c3 c4 (.inr c7) (fun _ _ => by
  rw [q2]; dsimp only; rw [eD]; exact ⟨by decide, hco2⟩)
 obtain ⟨k2, _⟩ := step_kx hC
 rw [hs2] at k2
 obtain ⟨x1, x2, x3, x4, x5, x6, x7⟩ := clE_1 w m1 m2 m3 m4 v g1 g2 g3 g4
 obtain ⟨y1, y2, y3, y4⟩ := clF_1 w m1 m2 m3 m4 v g1 g2 g3 g4
 obtain ⟨z1, z2, z3, z4⟩ := clG_1 w m1 m2 m3 m4 v g1 g2 g3 g4
 obtain ⟨t1, t2, t3, t4, t5, t6, t7, t8, t9⟩ := clH_1 w m1 m2 m3 m4 v g1 g2 g3 g4
 obtain ⟨i1, i2, i3⟩ := clI_1 w m1 m2 m3 m4 v g1 g2 g3 g4
 obtain ⟨j1, j2, j3⟩ := clJ_1 w m1 m2 m3 m4 v g1 g2 g3 g4
 obtain ⟨l1, l2, l3, l4⟩ := clK_1 w m1 m2 m3 m4 v g1 g2 g3 g4
 have hE : StC (clE w m1 m2 m3 m4 v g1 g2 g3 g4) := StC.of k2 (by rw [x2]; decide) (by rw [x3]; decide) x1
 have eF : ((clE w m1 m2 m3 m4 v g1 g2 g3 g4).step callF1).1 = clF w m1 m2 m3 m4 v g1 g2 g3 g4 := by unfold clF; rfl
 have hF : StC (clF w m1 m2 m3 m4 v g1 g2 g3 g4) := StC.of (by have := (step_kx hE).1; rwa [eF] at this) (by rw [y2]; decide) (by rw [y3]; decide) y1
 have eG : ((clF w m1 m2 m3 m4 v g1 g2 g3 g4).step callF1).1 = clG w m1 m2 m3 m4 v g1 g2 g3 g4 := by unfold clG; rfl
 have hG : StC (clG w m1 m2 m3 m4 v g1 g2 g3 g4) := StC.of (by have := (step_kx hF).1; rwa [eG] at this) (by rw [z2]; decide) (by rw [z3]; decide) z1
 have eH : ((clG w m1 m2 m3 m4 v g1 g2 g3 g4).step callF1).1 = clH w m1 m2 m3 m4 v g1 g2 g3 g4 := by unfold clH; rfl
 have hH : StC (clH w m1 m2 m3 m4 v g1 g2 g3 g4) := StC.of (by have := (step_kx hG).1; rwa [eH] at this) (by rw [t2]; decide) (by rw [t3]; decide) t1
 have eI : ((clH w m1 m2 m3 m4 v g1 g2 g3 g4).step callF1).1 = clI w m1 m2 m3 m4 v g1 g2 g3 g4 := by unfold clI; rfl
 have hI : StC (clI w m1 m2 m3 m4 v g1 g2 g3 g4) := StC.of (by have := (step_kx hH).1; rwa [eI] at this) (by rw [i2]; decide) (by rw [i3]; decide) i1
 have eJ : ((clI w m1 m2 m3 m4 v g1 g2 g3 g4).step callF1).1 = clJ w m1 m2 m3 m4 v g1 g2 g3 g4 := by unfold clJ; rfl
 have hJ : StC (clJ w m1 m2 m3 m4 v g1 g2 g3 g4) := StC.of (by have := (step_kx hI).1; rwa [eJ] at this) (by rw [j2]; decide) (by rw [j3]; decide) j1
 have eK : ((clJ w m1 m2 m3 m4 v g1 g2 g3 g4).step callF1).1 = clK w m1 m2 m3 m4 v g1 g2 g3 g4 := by unfold clK; rfl
 have hK : KX (clK w m1 m2 m3 m4 v g1 g2 g3 g4) := by have := (step_kx hJ).1; rwa [eK] at this
 have n1 : stN (clP w m1 m2 m3 m4 v) 1 = clC w m1 m2 m3 m4 v := by show ((clP w m1 m2 m3 m4 v).step callF1).1 = _; rw [hs]
 have n2 : stN (clP w m1 m2 m3 m4 v) 2 = clE w m1 m2 m3 m4 v g1 g2 g3 g4 := by show ((stN (clP w m1 m2 m3 m4 v) 1).step callF1).1 = _; rw [n1, hs2]
 have n3 : stN (clP w m1 m2 m3 m4 v) 3 = clF w m1 m2 m3 m4 v g1 g2 g3 g4 := by show ((stN (clP w m1 m2 m3 m4 v) 2).step callF1).1 = _; rw [n2, eF]
 have n4 : stN (clP w m1 m2 m3 m4 v) 4 = clG w m1 m2 m3 m4 v g1 g2 g3 g4 := by show ((stN (clP w m1 m2 m3 m4 v) 3).step callF1).1 = _; rw [n3, eG]
 have n5 : stN (clP w m1 m2 m3 m4 v) 5 = clH w m1 m2 m3 m4 v g1 g2 g3 g4 := by show ((stN (clP w m1 m2 m3 m4 v) 4).step callF1).1 = _; rw [n4, eH]
 have n6 : stN (clP w m1 m2 m3 m4 v) 6 = clI w m1 m2 m3 m4 v g1 g2 g3 g4 := by show ((stN (clP w m1 m2 m3 m4 v) 5).step callF1).1 = _; rw [n5, eI]
 have n7 : stN (clP w m1 m2 m3 m4 v) 7 = clJ w m1 m2 m3 m4 v g1 g2 g3 g4 := by show ((stN (clP w m1 m2 m3 m4 v) 6).step callF1).1 = _; rw [n6, eJ]
 have n8 : stN (clP w m1 m2 m3 m4 v) 8 = clK w m1 m2 m3 m4 v g1 g2 g3 g4 := by show ((stN (clP w m1 m2 m3 m4 v) 7).step callF1).1 = _; rw [n7, eK]
 refine ⟨h0, by rw [hs], by rw [n1]; exact c9, by rw [n1]; exact hC, by rw [n1, hs2], by rw [n2]; exact x5, by rw [n2]; exact x6, by rw [n2]; exact x7, fun i h => ?_, fun i h => ?_, by rw [n5]; exact t4, by rw [n5]; exact t5, by rw [n5]; exact t6, by rw [n5]; exact t7, by rw [n5]; exact t8, by rw [n5]; exact t9, by rw [n8]; exact l1, by rw [n8]; exact l2, by rw [n8]; exact l3, by rw [n8]; exact l4⟩
 ·
  match i, h with
  | 0, _ => rw [show 2 + 0 = 2 from rfl, n2]; exact ⟨hE, x4⟩
  | 1, _ => rw [show 2 + 1 = 3 from rfl, n3]; exact ⟨hF, y4⟩
  | 2, _ => rw [show 2 + 2 = 4 from rfl, n4]; exact ⟨hG, z4⟩
 ·
  match i, h with
  | 0, _ => rw [show 5 + 0 = 5 from rfl, n5]; exact ⟨hH.kx, fun _ => hH⟩
  | 1, _ => rw [show 5 + 1 = 6 from rfl, n6]; exact ⟨hI.kx, fun _ => hI⟩
  | 2, _ => rw [show 5 + 2 = 7 from rfl, n7]; exact ⟨hJ.kx, fun _ => hJ⟩
  | 3, _ => rw [show 5 + 3 = 8 from rfl, n8]; exact ⟨hK, fun h => absurd h (by decide)⟩
end
end Go.Proofs.YtipncceiekalfaaGreat
end
section
set_option linter.unusedVariables false
set_option linter.unusedSimpArgs false
set_option linter.unusedSectionVars false
namespace Go.Proofs.YtipncceiekalfaaGreat
open Go.SL
theorem view_two {b : Nat} {x y : Int} {T : Nat} {G : Hp} (h : (b, Obj.cells [.int .u64 x, .int .u64 y].toArray T) ∈ G) : View G 1 (.slice (some ⟨b, 0, none⟩) 2 2) 2 (wordsC [x, y]) := ⟨rfl, _, _, rfl, by decide, .inr ⟨b, 0, _, T, _, rfl, h, ⟨rfl, rfl, trivial⟩⟩⟩
attribute [local irreducible] thrT twoB Kn.step Kn.cur Kn.curB
end Go.Proofs.YtipncceiekalfaaGreat
end
section
set_option linter.unusedVariables false
set_option linter.unusedSimpArgs false
set_option linter.unusedSectionVars false
namespace Go.Proofs.YtipncceiekalfaaGreat
open Go.SL
theorem view_eight {b : Nat} {x0 x1 x2 x3 x4 x5 x6 x7 : Int} {T : Nat} {G : Hp} (h : (b, Obj.cells (wordsC [x0, x1, x2, x3, x4, x5, x6, x7]).toArray T) ∈ G) : View G 1 (.slice (some ⟨b, 0, none⟩) 8 8) 8 (wordsC [x0, x1, x2, x3, x4, x5, x6, x7]) :=
  ⟨rfl, _, _, rfl, by decide, .inr ⟨b, 0, _, T, _, rfl, h, ⟨rfl, rfl, rfl, rfl, rfl, rfl, rfl, rfl, trivial⟩⟩⟩
attribute [local irreducible] thrT twoB Kn.step Kn.cur Kn.curB Kn.waitW Kn.waitL
end Go.Proofs.YtipncceiekalfaaGreat
end
section
set_option linter.unusedVariables false
set_option linter.unusedSimpArgs false
set_option linter.unusedSectionVars false
namespace Go.Proofs.YtipncceiekalfaaGreat
open Go.SL
theorem pv_min {P : Program} {n : Nat} {D : List Deferred} {E : Env} {L : Hp} {d : Option Tmp} {ty : TypeId} {pos : String} {aft : Array Edge} {g : Option (Nat × Bool)} {x y : Operand} {k : IntKind} {i j : Int} {ats : Array TypeId} (hx : ev E x = some (.int k i)) (hy : ev E y = some (.int k j)) {r : Int} (hr : (if j < i then j else i) = r) :
    Pv P n D E L ⟨d, .call { callee := .builtin .min, args := #[x, y], argTypes := ats }, ty, pos, aft, g⟩ (.int k r) := by
  unfold Pv
  intro a w hs _
  rw [BigFrame.execOp_builtin]
  simp only [BigFrame.builtin_min, List.map_toArray, List.map_cons, List.map_nil, hs.ev hx, hs.ev hy, Builtin.min_, List.foldlM_cons, List.foldlM_nil, Builtin.min2, hr, Sem.run_bind, Sem.run_pure, Result.andThen_ok]
def mG (ws : List Int) (i j : Nat) : Int := if j < i then ws.getD j 0 else 0
def mL (w : Int) (ws : List Int) (i : Nat) : List Int := [w, mG ws i 0, mG ws i 1, mG ws i 2, mG ws i 3, 0, 0, 1]
abbrev mW (lab : Nat) (ws : List Int) : Int := (packInf (lab % 1000) (min ws.length 4) false : Nat)
def msgL (lab : Nat) (ws : List Int) : List Int := [mW lab ws, ws.getD 0 0, ws.getD 1 0, ws.getD 2 0, ws.getD 3 0, 0, 0, 1]
theorem mL_set {w x : Int} {ws : List Int} {i : Nat} (h : i < 4) (hx : ws[i]? = some x) : (mL w ws i).set (i + 1) x = mL w ws (i + 1) := by
 have e : x = ws.getD i 0 := by rw [List.getD_eq_getElem?_getD, hx]; rfl
 subst e
 match i, h with
 | 0, _ | 1, _ | 2, _ | 3, _ => simp [mL, mG]
theorem mL_all (lab : Nat) (ws : List Int) : mL (mW lab ws) ws (min ws.length 4) = msgL lab ws := by
 have g : ∀ j, j < 4 → mG ws (min ws.length 4) j = ws.getD j 0 := fun j hj => by
  unfold mG; split
  ·
   rfl
  ·
   rw [List.getD_eq_getElem?_getD, List.getElem?_eq_none (by omega)]; rfl
 unfold mL msgL; rw [g 0 (by omega), g 1 (by omega), g 2 (by omega), g 3 (by omega)]
theorem mL_cell {w x : Int} {ws : List Int} {i : Nat} (h : i < 4) (hx : ws[i]? = some x) : SetL (wordsC (mL w ws i)) (0 + (i + 1) * 1) [.int .u64 x] (wordsC (mL w ws (i + 1))) := by
 rw [← mL_set h hx]
 have := word_set (ws := mL w ws i) (a := i + 1) (v := x) (by unfold mL; simp only [List.length_cons, List.length_nil]; omega)
 rw [Nat.zero_mul, Nat.add_zero] at this
 rw [show 0 + (i + 1) * 1 = i + 1 by omega]; exact this
attribute [local irreducible] packInf
theorem tr_lMessage (G : Hp) (lab : Nat) (hl : lab < 2 ^ 64) (aw : Option Addr) (cw : Nat) (ws : List Int) (hv : View G 1 (.slice aw ws.length cw) ws.length (wordsC ws)) (hn : ws.length ≤ 9223372036854775807) : Tr Tryz.prog 16 [.int .u64 lab, .slice aw ws.length cw] (G) (fun u L' => ∃ b, u = .slice (some ⟨b, 0, none⟩) 8 8 ∧ L' = (b, .cells (wordsC (msgL lab ws)).toArray 22) :: G) := by
 obtain ⟨n, hnn⟩ : ∃ n, n = min ws.length 4 := ⟨_, rfl⟩
 have hn4 : n ≤ 4 := by omega
 have he : gPackE (lab % 1000) n = 0 := by unfold gPackE; rw [if_neg (by omega), if_pos (by omega)]
 have hp : (gPackV (lab % 1000) n false : Int) = mW lab ws := by unfold gPackV mW; rw [he, if_pos rfl, hnn]
 refine Tr.enter Tryz.func16 rfl Tryz.ntmps16 rfl (fun W F => ?_)
 refine Wp.app ?_
 refine zq [3,4,1,2,5,3,4,0] ?_
 refine Ops.pv (pv_len_slice (T := 25) rfl rfl) rfl ?_
 refine Ops.pv (pv_min rfl rfl (r := (n : Int)) (by rw [hnn]; split <;> omega)) rfl ?_
 refine zq [1,2,5,3,4,0] ?_
 refine Ops.pv (pv_rem rfl rfl (by decide) (tmod_nat (b := 1000) rfl)) rfl ?_
 refine zq [0,23] ?_
 refine zC ((tr_gPack (lab % 1000) n false (by omega) (by omega)).eq (r' := .tuple #[.int .u64 (mW lab ws), .int .i64 (gPackE (lab % 1000) n)]) (by rw [hp])) ?_
 refine zq [0,7,7,1,1,2,5,3,4,0] ?_
 refine Ops.ef rfl (ef_buildSliceN [.int .u64 0, .int .u64 0, .int .u64 0, .int .u64 0, .int .u64 0, .int .u64 0, .int .u64 0, .int .u64 0] [(0, 1), (1, 1), (2, 1), (3, 1), (4, 1), (5, 1), (6, 1), (7, 1)] rfl (by kernel_rfl) (by first | decide | rfl) rfl rfl rfl) ?_
 rintro _ _ ⟨b1, rfl, rfl⟩
 refine zq [1,2,5,3,3,4,1,2,5,20] ?_
 refine Wp.loopK (σ := Nat) [(1, _), (5, _), (8, _)] (fun s => [(9, .int .i64 s)]) (fun s => (b1, .cells (wordsC (mL (mW lab ws) ws s)).toArray 22) :: (G ++ F)) (fun s => s ≤ n) (fun s => n - s) 0 (Nat.zero_le _) ⟨rfl, rfl, rfl, trivial⟩ ⟨rfl, trivial⟩ (by intro w ho; (have hz : wordsC (mL (mW lab ws) ws 0) = [.int .u64 (mW lab ws), .int .u64 0, .int .u64 0, .int .u64 0, .int .u64 0, .int .u64 0, .int .u64 0, .int .u64 1] := rfl; rw [hz]; exact Drop.own ho)) ?_
 rintro i KK hi hK
 dsimp only [List.cons_append, List.nil_append] at hK ⊢
 refine zq [3,3,4,0,0,42,2,5] ?_
 refine Wp.cond_dect rfl (fun h1 => ?_) (fun h1 => ?_)
 ·
  obtain ⟨x, hx1⟩ : ∃ x, ws[i]? = some x := ⟨_, List.getElem?_eq_getElem (by omega)⟩
  obtain ⟨bw, ow, capw, csw, Tw, fw, hv1, hbw, hr1⟩ := hv.open (by omega)
  cases hv1
  have hny : nth csw (ow + i * 1) = some (.int .u64 x) := by rw [nth_eq, Nat.mul_one]; exact hr1.at_ i _ (by simp [wordsC, hx1])
  haveI := mL_cell (w := mW lab ws) (by omega : i < 4) hx1
  refine zq [11,5,3,20,4,0,0] ?_
  refine Ops.pv (pv_add rfl rfl (w64n (k := i + 1) (by omega) (by omega))) rfl ?_
  refine zq [0,0] ?_
  refine Ops.pv (pv_indexAddr (i := i) rfl rfl rfl (by omega)) rfl ?_
  refine Ops.pv (pv_load rfl rfl hny) rfl ?_
  refine Ops.pv (pv_indexAddr (i := i + 1) rfl rfl rfl (by omega)) rfl ?_
  refine zq [25,2,19,5,4,0] ?_
  refine Ops.pv (pv_add rfl rfl (w64n (k := i + 1) (by omega) (by omega))) rfl ?_
  refine zq [1,2,49] ?_
  refine Goes.back (hK (i + 1) (by omega) (by omega)) ⟨rfl, rfl, rfl, rfl, trivial⟩
 obtain rfl : i = n := by omega
 rw [hnn, mL_all]
 refine zq [41,16,16,40,5,3,4,0,1,2,5,10] ?_
 exact Ends.ret (res1 rfl rfl) ⟨b1, rfl, rfl⟩
end Go.Proofs.YtipncceiekalfaaGreat
end
section
set_option linter.unusedVariables false
set_option linter.unusedSimpArgs false
set_option linter.unusedSectionVars false
namespace Go.Proofs.YtipncceiekalfaaGreat
open Go.SL
theorem mW_inf (lab : Nat) (ws : List Int) : infE (mW lab ws).toNat = 0 ∧ infLen (mW lab ws).toNat = min ws.length 4 ∧ infCap (mW lab ws).toNat = false ∧ U64 (mW lab ws) := by
 have e : (mW lab ws).toNat = lab % 1000 * 16 + min ws.length 4 := by unfold mW packInf; rw [Int.toNat_natCast]; simp
 have h4 : min ws.length 4 ≤ 4 := Nat.min_le_right _ _
 have hE : infE (mW lab ws).toNat = 0 := by unfold infE; rw [e, if_pos (by omega)]
 refine ⟨hE, ?_, ?_, ?_⟩
 ·
  unfold infLen; rw [if_pos hE, e]; omega
 ·
  unfold infCap; rw [e]; refine decide_eq_false ?_; rintro ⟨_, h⟩; omega
 unfold mW packInf U64; simp only [Bool.false_eq_true, if_false]; omega
theorem getD_u {l : List Int} (h : ∀ x, x ∈ l → U64 x) (j : Nat) : U64 (l.getD j 0) := by
 rw [List.getD_eq_getElem?_getD]
 cases hx : l[j]? with
 | none => decide
 | some x => exact h x (List.mem_of_getElem? hx)
theorem view_msg {b : Nat} {lab : Nat} {ws : List Int} {T : Nat} {G : Hp} (h : (b, Obj.cells (wordsC (msgL lab ws)).toArray T) ∈ G) : View G 1 (.slice (some ⟨b, 0, none⟩) 8 8) 8 (wordsC (msgL lab ws)) :=
  ⟨rfl, _, _, rfl, by decide, .inr ⟨b, 0, _, T, _, rfl, h, ⟨rfl, rfl, rfl, rfl, rfl, rfl, rfl, rfl, trivial⟩⟩⟩
section
variable {ws : List Int} (hu : ∀ x, x ∈ ws → U64 x) (lab : Nat) {b : Int} (hb : 0 ≤ b ∧ b < 268435456)
include hu hb
omit hb in
theorem msgL_u : ∀ x, x ∈ msgL lab ws → U64 x := mReg_u (mW_inf lab ws).2.2.2 (getD_u hu 0) (getD_u hu 1) (getD_u hu 2) (getD_u hu 3)
end
attribute [local irreducible] thrT twoB Kn.step Kn.cur Kn.curB Kn.waitW Kn.waitL
end Go.Proofs.YtipncceiekalfaaGreat
end
section
set_option linter.unusedVariables false
set_option linter.unusedSimpArgs false
set_option linter.unusedSectionVars false
namespace Go.Proofs.YtipncceiekalfaaGreat
open Go.SL
theorem view_six {b : Nat} {x0 x1 x2 x3 x4 x5 : Int} {T : Nat} {G : Hp} (h : (b, Obj.cells (wordsC [x0, x1, x2, x3, x4, x5]).toArray T) ∈ G) : View G 1 (.slice (some ⟨b, 0, none⟩) 6 6) 6 (wordsC [x0, x1, x2, x3, x4, x5]) :=
  ⟨rfl, _, _, rfl, by decide, .inr ⟨b, 0, _, T, _, rfl, h, ⟨rfl, rfl, rfl, rfl, rfl, rfl, trivial⟩⟩⟩
abbrev clM (ws : List Int) : Kn := twoB [sysN 2, 0] srvC (msgL 1 ws) srvR 3 0
abbrev clQ (ws : List Int) (v : Int) : Kn := { clM ws with ws := memPut (memPut (clM ws).ws 136 81) 137 v }
theorem clQ_eq (ws : List Int) (v : Int) : clQ ws v = clP (mW 1 ws) (ws.getD 0 0) (ws.getD 1 0) (ws.getD 2 0) (ws.getD 3 0) v := by
 have e : clM ws = clA (mW 1 ws) (ws.getD 0 0) (ws.getD 1 0) (ws.getD 2 0) (ws.getD 3 0) := clTw_eq
 have := congrArg (fun k : Kn => ({ k with ws := memPut (memPut k.ws 136 81) 137 v } : Kn)) e
 unfold clP; exact this
section
variable {ws : List Int} (hu : ∀ x, x ∈ ws → U64 x)
include hu
theorem cl_first : TwoOk [sysN 2, 0] srvC (msgL 1 ws) srvR 3 0 ∧ KX (clM ws) ∧ ((clM ws).obj 8).sp.1 = 128 ∧ (clM ws).ws.length = 512 := by
 obtain ⟨i1, i2, i3, i4⟩ := mW_inf 1 ws
 have e : clM ws = clTw (mW 1 ws) (ws.getD 0 0) (ws.getD 1 0) (ws.getD 2 0) (ws.getD 3 0) := rfl
 have h := cl_obj (w := mW 1 ws) (m1 := ws.getD 0 0) (m2 := ws.getD 1 0) (m3 := ws.getD 2 0) (m4 := ws.getD 3 0)
 rw [← e] at h
 have h2 := cl_kx i4 (getD_u hu 0) (getD_u hu 1) (getD_u hu 2) (getD_u hu 3)
 rw [← e] at h2
 exact ⟨cl_two i4 (getD_u hu 0) (getD_u hu 1) (getD_u hu 2) (getD_u hu 3), h2, h⟩
theorem cl_rest {v : Int} (hv : U64 v) : ClOk (clQ ws v) (mW 1 ws) v := by
 obtain ⟨i1, i2, i3, i4⟩ := mW_inf 1 ws
 rw [clQ_eq]; exact cl_ok i1 i2 i3 i4 (getD_u hu 0) (getD_u hu 1) (getD_u hu 2) (getD_u hu 3) hv
end
theorem poke_ok {l : List Int} (h : l.length = 512) {a : Int} (ha : 0 ≤ a ∧ a < 512) : memPutE l a = 0 := by unfold memPutE; rw [if_pos (by unfold memIn; omega)]
theorem putL_len (l : List Int) (a v : Int) : (memPut l a v).length = l.length := by unfold memPut; split <;> simp
attribute [local irreducible] thrT twoB Kn.step Kn.cur Kn.curB Kn.obj memPut
theorem tr_stepN {k0 : Kn} {i : Nat} (h : StC (stN k0 i)) {b : Bool} (hb : ((stN k0 i).step callF1).2 = b) {A : KA} {ad : Nat → Ad} {kb : Nat} {L : Hp} (hK : KH (stN k0 i) A ad kb L) : Tr Tryz.prog 12 [pV kb] L (fun u L' => u = .bool b ∧ KH (stN k0 (i + 1)) A ad kb L') := tr_kStepD h hb hK
set_option maxHeartbeats 64000000 in
theorem tr_kernelCalls (G : Hp) (aw : Option Addr) (cw : Nat) (ws : List Int) (hv : View G 1 (.slice aw ws.length cw) ws.length (wordsC ws)) (hn : ws.length ≤ 9223372036854775807) (hu : ∀ x, x ∈ ws → U64 x) (ax : Option Addr) (cx : Nat) (xs : List Int) (hvx : View G 1 (.slice ax xs.length cx) xs.length (wordsC xs)) (hux : ∀ x, x ∈ xs → U64 x) : TrR Tryz.prog 4 [.slice aw ws.length cw, .slice ax xs.length cx] (G) (.bool true) := by
 have HM := cl_first hu
 obtain ⟨vv, hvv⟩ : ∃ v, v = xs.getD 0 0 := ⟨_, rfl⟩
 have HC := cl_rest hu (v := vv) (by rw [hvv]; exact getD_u hux 0)
 refine Tr.enter Tryz.func4 rfl Tryz.ntmps4 rfl (fun W F => ?_)
 refine Wp.app ?_
 refine zq [3,4,1,2,5,3,3,4] ?_
 refine zC (tr_kworks) ?_
 refine zq [39,2,5,17,11,5,3,4,0] ?_
 refine zD (tr_lMessage G 1 (by decide) aw cw ws hv hn) ?_
 rintro _ _ ⟨b1, rfl, rfl⟩
 refine Ops.app ?_
 refine zq [1,2,5,3,4] ?_
 refine zC (tr_lSys 3 (by decide)) ?_
 refine zC (tr_lCode 11 0 6 8 (by decide) (by decide) (by decide) (by decide)) ?_
 refine zC (tr_lCode 11 1 6 9 (by decide) (by decide) (by decide) (by decide)) ?_
 refine zC (tr_lSys 5 (by decide)) ?_
 refine zC (tr_lCode 2 3 0 0 (by decide) (by decide) (by decide) (by decide)) ?_
 refine zC (tr_lSys 5 (by decide)) ?_
 refine Ops.ef rfl (ef_buildSliceN [.int .u64 0, .int .u64 0, .int .u64 0, .int .u64 0, .int .u64 0, .int .u64 0] [(0, 1), (1, 1), (2, 1), (3, 1), (4, 1), (5, 1)] rfl (by kernel_rfl) (by first | decide | rfl) rfl rfl rfl) ?_
 rintro _ _ ⟨b2, rfl, rfl⟩
 refine zq [1,2,5,3,4] ?_
 refine zC (tr_lSys 2 (by decide)) ?_
 refine Ops.ef rfl (ef_buildSlice2 rfl rfl rfl rfl rfl rfl) ?_
 rintro _ _ ⟨b3, rfl, rfl⟩
 refine zq [0,0] ?_
 refine Ops.ef rfl (ef_buildSliceN [.int .u64 0, .int .u64 0, .int .u64 0, .int .u64 0, .int .u64 0, .int .u64 0, .int .u64 0, .int .u64 0] [(0, 1), (1, 1), (2, 1), (3, 1), (4, 1), (5, 1), (6, 1), (7, 1)] rfl (by kernel_rfl) (by first | decide | rfl) rfl rfl rfl) ?_
 rintro _ _ ⟨b4, rfl, rfl⟩
 refine zD (tr_lTwo [(b3, .cells [.int .u64 (sysN 2), .int .u64 0].toArray 22), (b2, .cells [.int .u64 (sysN 3), .int .u64 (((codeN 11 0 6 8 : Nat) : Int)), .int .u64 (((codeN 11 1 6 9 : Nat) : Int)), .int .u64 (sysN 5), .int .u64 (((codeN 2 3 0 0 : Nat) : Int)), .int .u64 (sysN 5)].toArray 22), (b1, .cells (wordsC (msgL 1 ws)).toArray 22), (b4, .cells [.int .u64 0, .int .u64 0, .int .u64 0, .int .u64 0, .int .u64 0, .int .u64 0, .int .u64 0, .int .u64 1].toArray 22)] (some ⟨b3, 0, none⟩) 2 [sysN 2, 0] (view_two (List.mem_cons_self ..)) (by simp) (pair_u (sys_u (by decide)) (by decide)) (some ⟨b2, 0, none⟩) 6 srvC (view_six (List.mem_cons_of_mem _ (List.mem_cons_self ..))) (by simp) srvC_u (some ⟨b1, 0, none⟩) 8 (msgL 1 ws) (view_msg (List.mem_cons_of_mem _ (List.mem_cons_of_mem _ (List.mem_cons_self ..)))) (show 8 ≤ 2 ^ 45 by decide) (msgL_u hu 1) (some ⟨b4, 0, none⟩) 8 srvR (view_eight (List.mem_cons_of_mem _ (List.mem_cons_of_mem _ (List.mem_cons_of_mem _ (List.mem_cons_self ..))))) (by decide) srvR_u 3 0 (by unfold i64R; decide) (by unfold u64R; decide) HM.1) ?_
 rintro _ _ ⟨kb1, A1, ad1, M1, rfl, hk1, rfl⟩
 refine Ops.app ?_
 refine zq [0,7,7,1,1,2,5,3,3,4,0,39,2,5,17,11,5,3,4,1,2,5] ?_
 refine Wp.cutK (σ := Unit) [(5, _), (7, _)] (fun s => [(9, .int .u64 vv)]) (fun s => (b1, .cells (wordsC (msgL 1 ws)).toArray 22) :: (M1 ++ (G ++ F))) (fun s => True) ⟨rfl, rfl, trivial⟩ (fun _ KK hC0 => ?_) ?_
 ·
  dsimp only [List.cons_append, List.nil_append] at hC0
  refine zq [3,4,0] ?_
  refine Ops.pv (pv_len_slice (T := 25) rfl rfl) rfl ?_
  refine zq [44,2,5] ?_
  refine Wp.cond_dect rfl (fun h1 => ?_) (fun h1 => ?_)
  ·
   obtain ⟨bw, ow, capw, csw, Tw, fw, hv1, hbw, hr1⟩ := hvx.open (by omega)
   cases hv1
   have hny : nth csw (ow + 0 * 1) = some (.int .u64 vv) := by rw [nth_eq, Nat.mul_one]; exact hr1.at_ 0 _ (by rw [hvv]; unfold wordsC; rw [List.getElem?_map, List.getD_eq_getElem?_getD, List.getElem?_eq_getElem (by omega)]; rfl)
   refine zq [4,0] ?_
   refine Ops.pv (pv_indexAddr (i := 0) rfl rfl rfl (by omega)) rfl ?_
   refine Ops.pv (pv_load rfl rfl hny) rfl ?_
   refine zq [1,2,49] ?_
   refine Goes.back (hC0 () trivial) ⟨rfl, rfl, rfl, trivial⟩
  obtain rfl : vv = 0 := by rw [hvv, List.getD_eq_getElem?_getD, List.getElem?_eq_none (by omega)]; rfl
  refine zq [11,49] ?_
  refine Goes.back (hC0 () trivial) ⟨rfl, rfl, rfl, trivial⟩
 rintro _ _
 dsimp only [List.cons_append, List.nil_append] at ⊢
 refine zq [3,4,0] ?_
 refine zC (tr_kObject _ _ _ _ _ hk1 HM.2.1.kw 8) ?_
 refine zq [0,7,7] ?_
 refine zA fun b5 => ?_
 refine zq [14,1,2,5,3,4,23] ?_
 refine zC ((tr_gPack 5 1 false (by decide) (by decide)).eq (r' := .tuple #[.int .u64 81, .int .i64 0]) rfl) ?_
 refine zq [0,7,7,1,1,2,5,3,4,0,6,61,8] ?_
 refine Ops.pv (pv_add (r := 136) rfl rfl (by rw [HM.2.2.1]; decide)) rfl ?_
 refine zq [0] ?_
 refine zD (tr_kPokeOk _ _ _ _ _ hk1 HM.2.1 136 81 (poke_ok HM.2.2.2 (by decide))) ?_
 rintro _ J1 ⟨rfl, hk2⟩
 refine Ops.app ?_
 refine zq [2,5,3,4,0,6,61,8] ?_
 refine Ops.pv (pv_add (r := 137) rfl rfl (by rw [HM.2.2.1]; decide)) rfl ?_
 refine zq [0] ?_
 refine zD (tr_kPokeOk _ _ _ _ _ hk2 (HM.2.1.setM 136 (by decide)).1 137 vv (poke_ok ((putL_len _ _ _).trans HM.2.2.2) (by decide))) ?_
 rintro _ J2 ⟨rfl, hk3⟩
 refine Ops.app ?_
 refine zq [2,5,3,3,4,0] ?_
 refine zD (tr_stepN (k0 := (clQ ws vv)) (i := 0) (HC.s0) (HC.b0) hk3) ?_
 rintro _ J3 ⟨rfl, hk4⟩
 refine Ops.app ?_
 refine zq [39,0,21] ?_
 refine Ops.efg ⟨_, _, rfl, rfl, rfl⟩ (ef_callr ((tr_lState _ _ _ _ _ hk4 HC.s1.kx.kw 4).eq (r' := .int .i64 2) (by rw [HC.t1])) rfl rfl) ?_
 rintro _ _ ⟨rfl, rfl⟩
 refine zq [71,26,0,21] ?_
 refine Ops.efg ⟨_, _, rfl, rfl, rfl⟩ (ef_call (tr_stepN (k0 := (clQ ws vv)) (i := 1) (HC.s1) (HC.b1) hk4) rfl rfl) ?_
 rintro _ _ ⟨_, J4, ⟨rfl, hk5⟩, rfl, rfl⟩
 refine Ops.app ?_
 refine zq [54,26,0,21] ?_
 refine Ops.efg ⟨_, _, rfl, rfl, rfl⟩ (ef_callr ((tr_lState _ _ _ _ _ hk5 (HC.n 0 (by decide)).1.kx.kw 4).eq (r' := .int .i64 4) (congrArg (Value.int .i64) HC.t2)) rfl rfl) ?_
 rintro _ _ ⟨rfl, rfl⟩
 refine zq [71,26,2,5,17,11,5,3,4,0] ?_
 refine zC (tr_kThread _ _ _ _ _ hk5 (HC.n 0 (by decide)).1.kx.kw 9) ?_
 refine zq [0,7,7] ?_
 refine zA fun b6 => ?_
 refine zq [14,1,2,5,3,3] ?_
 refine AnyH.start [(b6, .cells (thrT (stN (clQ ws vv) 2) 9).cells.toArray 35), (b1, .cells (wordsC (msgL 1 ws)).toArray 22)] 12 rfl ?_
 refine zd [0,0,1,2] ?_
 refine Tk 2 rfl rfl ((pv_neq rfl rfl).fls (fun h => h HC.c2)) rfl ?_
 refine zd [3,1] ?_
 refine Tk 4 rfl ⟨_, _, rfl, rfl, rfl⟩ (pv_fieldAddr0 rfl rfl) rfl ?_
 refine Tk 5 rfl ⟨_, _, rfl, rfl, rfl⟩ (pv_indexAddrA (i := 0) rfl rfl rfl (by decide)) rfl ?_
 refine Tk 6 rfl ⟨_, _, rfl, rfl, rfl⟩ (pv_load rfl rfl rfl) rfl ?_
 refine Tk 7 rfl ⟨_, _, rfl, rfl, rfl⟩ (pv_move rfl) rfl ?_
 refine Tk 8 rfl ⟨_, _, rfl, rfl, rfl⟩ (pv_indexAddr (i := 0) rfl rfl rfl (by first | omega | (simp; done) | (simp; omega))) rfl ?_
 refine Tk 9 rfl ⟨_, _, rfl, rfl, rfl⟩ (pv_load rfl rfl rfl) rfl ?_
 refine Tk 10 rfl ⟨_, _, rfl, rfl, rfl⟩ ((pv_neq rfl rfl).fls (fun h => h HC.r2)) rfl ?_
 refine Tk 11 rfl rfl (pv_pick_false rfl rfl) rfl ?_
 refine AnyH.done (by kernel_rfl) ?_
 refine zq [5,17,11,5,3,3,4,1,2,5,20] ?_
 refine Wp.loopK (σ := Nat × Hp) [(7, _), (9, _), (12, _), (14, _)] (fun s => [(16, .int .i64 s.1)]) (fun s => (b6, .cells (thrT (stN (clQ ws vv) 2) 9).cells.toArray 35) :: (s.2 ++ (G ++ F))) (fun s => s.1 ≤ 3 ∧ KH (stN (clQ ws vv) (2 + s.1)) A1 ad1 kb1 s.2) (fun s => 3 - s.1) (0, J4) ⟨Nat.zero_le _, hk5⟩ ⟨rfl, rfl, rfl, rfl, trivial⟩ ⟨rfl, trivial⟩ (by intro w ho; (try dsimp only [List.nil_append, List.cons_append]); exact Drop.own ho) ?_
 rintro ⟨i, M⟩ KK ⟨hi, hk9⟩ hK
 dsimp only [List.cons_append, List.nil_append] at hK ⊢
 dsimp only at hi hk9 ⊢
 refine zq [3,3,4,0,42,2,5] ?_
 refine Wp.cond_dect rfl (fun h2 => ?_) (fun h2 => ?_)
 ·
  refine zq [11,5,3,20,3,4,0] ?_
  refine zD (tr_stepN (k0 := (clQ ws vv)) (i := 2 + i) ((HC.n i (by omega)).1) ((HC.n i (by omega)).2) hk9) ?_
  rintro _ J5 ⟨rfl, hk6⟩
  refine Ops.app ?_
  refine zq [39,2,5,17,11,19,5,4,0] ?_
  refine Ops.pv (pv_add rfl rfl (w64n (k := i + 1) (by omega) (by omega))) rfl ?_
  refine zq [1,2,49] ?_
  refine Goes.back (hK (i + 1, J5) ⟨by dsimp only; omega, hk6⟩ (by dsimp only; omega)) ⟨rfl, rfl, rfl, rfl, rfl, trivial⟩
 obtain rfl : i = 3 := by omega
 refine zq [41,16,16,40,5,3,4,0] ?_
 refine zC (tr_kThread _ _ _ _ _ hk9 (HC.m 0 (by decide)).1.kw 4) ?_
 refine zq [0,7,7] ?_
 refine zA fun b7 => ?_
 refine zq [14,1,2,5,3,4,0] ?_
 refine zC (tr_kThread _ _ _ _ _ hk9 (HC.m 0 (by decide)).1.kw 9) ?_
 refine zq [0,7,7,14,2,5,3,3,4,6,8] ?_
 refine Ops.pv ((pv_neq rfl rfl).fls (fun h => h HC.e1)) rfl ?_
 refine zq [0,50] ?_
 refine Ops.pvg ⟨_, _, rfl, rfl, rfl⟩ (pv_indexAddrA (i := 0) rfl rfl rfl (by decide)) rfl ?_
 refine zq [51,21] ?_
 refine Ops.pvg ⟨_, _, rfl, rfl, rfl⟩ ((pv_neq rfl rfl).fls (fun h => h HC.e2)) rfl ?_
 refine zq [26,0,50] ?_
 refine Ops.pvg ⟨_, _, rfl, rfl, rfl⟩ (pv_indexAddrA (i := 1) rfl rfl rfl (by first | omega | (simp; done) | (simp; omega))) rfl ?_
 refine zq [51,21] ?_
 refine Ops.pvg ⟨_, _, rfl, rfl, rfl⟩ ((pv_neq rfl rfl).fls (fun h => h HC.e3)) rfl ?_
 refine zq [26,0,50] ?_
 refine Ops.pvg ⟨_, _, rfl, rfl, rfl⟩ (pv_indexAddrA (i := 5) rfl rfl rfl (by first | omega | (simp; done) | (simp; omega))) rfl ?_
 refine zq [51] ?_
 refine Ops.pvg ⟨_, _, rfl, rfl, rfl⟩ ((pv_neq rfl rfl).fls (fun h => h HC.e4)) rfl ?_
 refine zq [26,0,50,51] ?_
 refine Ops.pvg ⟨_, _, rfl, rfl, rfl⟩ ((pv_neq rfl rfl).fls (fun h => h HC.e5)) rfl ?_
 refine zq [26,0,50] ?_
 refine Ops.pvg ⟨_, _, rfl, rfl, rfl⟩ (pv_indexAddrA (i := 0) rfl rfl rfl (by decide)) rfl ?_
 refine zq [51] ?_
 refine Ops.pvg ⟨_, _, rfl, rfl, rfl⟩ ((pv_neq rfl rfl).fls (fun h => h HC.e6)) rfl ?_
 refine zq [26,2,5,17,11,5,3,3,4,1,2,5,20] ?_
 refine Wp.loopK (σ := Nat × Hp) [(7, _), (14, _)] (fun s => [(19, .int .i64 s.1)]) (fun s => (b6, .cells (thrT (stN (clQ ws vv) (2 + 3)) 9).cells.toArray 35) :: (s.2 ++ (G ++ F))) (fun s => s.1 ≤ 3 ∧ KH (stN (clQ ws vv) (5 + s.1)) A1 ad1 kb1 s.2) (fun s => 3 - s.1) (0, M) ⟨Nat.zero_le _, hk9⟩ ⟨rfl, rfl, trivial⟩ ⟨rfl, trivial⟩ (by intro w ho; (try dsimp only [List.nil_append, List.cons_append]); exact Drop.own ho) ?_
 rintro ⟨j, M2⟩ KK ⟨hj, hk8⟩ hK
 dsimp only [List.cons_append, List.nil_append] at hK ⊢
 dsimp only at hj hk8 ⊢
 refine zq [3,3,4,0,42,2,5] ?_
 refine Wp.cond_dect rfl (fun h3 => ?_) (fun h3 => ?_)
 ·
  refine zq [11,5,3,20,4,0] ?_
  refine zD (tr_stepN (k0 := (clQ ws vv)) (i := 5 + j) ((HC.m j (by omega)).2 (by omega)) (rfl) hk8) ?_
  rintro _ J6 ⟨rfl, hk7⟩
  refine Ops.app ?_
  refine zq [2,19,5,4,0] ?_
  refine Ops.pv (pv_add rfl rfl (w64n (k := j + 1) (by omega) (by omega))) rfl ?_
  refine zq [1,2,49] ?_
  refine Goes.back (hK (j + 1, J6) ⟨by dsimp only; omega, hk7⟩ (by dsimp only; omega)) ⟨rfl, rfl, rfl, trivial⟩
 obtain rfl : j = 3 := by omega
 refine zq [41,16,16,40,5,3,4,0] ?_
 refine zC (tr_kThread _ _ _ _ _ hk8 (HC.m 3 (by decide)).1.kw 9) ?_
 refine zq [0,7,7,14,2,5,3,4,0] ?_
 refine zC ((tr_lState _ _ _ _ _ hk8 (HC.m 3 (by decide)).1.kw 4).eq (r' := .int .i64 0) (congrArg (Value.int .i64) HC.f1)) ?_
 refine zq [66,0,50,51] ?_
 refine Ops.pvg ⟨_, _, rfl, rfl, rfl⟩ ((pv_eql rfl rfl).tru HC.f2) rfl ?_
 refine zq [24,0,50] ?_
 refine Ops.pvg ⟨_, _, rfl, rfl, rfl⟩ (pv_indexAddrA (i := 0) rfl rfl rfl (by decide)) rfl ?_
 refine zq [51] ?_
 refine Ops.pvg ⟨_, _, rfl, rfl, rfl⟩ ((pv_eql rfl rfl).tru HC.f3) rfl ?_
 refine zq [24,0,50] ?_
 refine Ops.pvg ⟨_, _, rfl, rfl, rfl⟩ (pv_indexAddrA (i := 3) rfl rfl rfl (by first | omega | (simp; done) | (simp; omega))) rfl ?_
 refine zq [51] ?_
 refine Ops.pvg ⟨_, _, rfl, rfl, rfl⟩ ((pv_eql rfl rfl).tru HC.f4) rfl ?_
 refine zq [24,1,2,5,10] ?_
 exact zr ⟨rfl, rfl⟩
end Go.Proofs.YtipncceiekalfaaGreat
end
section
set_option linter.unusedVariables false
namespace Go.Proofs.YtipncceiekalfaaGreat
open Go.SL Go.RowKit Go.ChangeShapes Go.WideShapes Go.Deep
instance : Enc (fun x : Int => [Value.int .u64 x]) 1 := ⟨fun _ => rfl, fun _ => rfl⟩
theorem as_words {els : List (List Value)} (h : ∀ x, x ∈ els → FlatV [some .u64] x) : ∃ l : List Int, els = l.map (fun x => [Value.int .u64 x]) ∧ ∀ o, o ∈ l → (fun x : Int => U64 x) o :=
  map_of fun x hx => by
    obtain ⟨a, l, rfl, hw, h⟩ := (h x hx).int
    obtain rfl := h.nil
    obtain ⟨n, rfl, hn⟩ := lit_u64 hw
    exact ⟨n, rfl, by unfold U64; omega⟩
theorem cel_words (l : List Int) : cel (fun x : Int => [Value.int .u64 x]) l = wordsC l := by
 unfold cel wordsC
 induction l with
 | nil => rfl
 | cons x l ih => simp only [List.map_cons, List.flatten_cons, ih]; rfl
theorem words_view {G : Hp} (hnd : (G.map Prod.fst).Nodup) {a : Option Addr} {c : Nat} {l : List Int} (ha : ArgS G 1 a (l.map (fun x => [Value.int .u64 x]))) (hc : l.length ≤ c) : View G 1 (.slice a l.length c) l.length (wordsC l) := by
 rw [← cel_words]; exact argS_view hnd ha hc
theorem slice_sized {P : Program} {H : Type} {enc : TypeId × Value → H} {w : World} {held : Bool} {t e : TypeId} {a : Option Addr} {n c : Nat} {d : DataW H} {p : List MemPlace} {ts : List TypeId} {ds : List (DataW H)} {j : Nat} (hu : P.underlying t = some (.slice e))
    (h : DataW.Trod enc P w 0 (fun _ => true) held t (.slice a n c) d p) (hs : (DataW.weightsEach P ts ds).all (· ≤ reachBytes) = true) (ht : ts[j]? = some t) (hd : ds[j]? = some d) : n * P.bytesOf e ≤ reachBytes := by
  obtain ⟨fuel, h⟩ := h
  rcases open_slice hu h with ⟨hcs, _⟩ | ⟨a2, len, cap, m, k, D, Pl, hcs, hb, hl, hm, hmm, hx, hi⟩
  · simp [Value.cells] at hcs
    obtain ⟨_, rfl, _⟩ := hcs
    rw [Nat.zero_mul]; exact Nat.zero_le _
  · simp [Value.cells] at hcs
    obtain ⟨_, rfl, _⟩ := hcs
    have e := (Prod.mk.inj hx).1
    rw [e] at hd
    have := sized_slice hs ht hd hu
    rw [List.length_map, List.length_range] at this
    exact Nat.le_trans (Nat.mul_le_mul_right _ (Nat.le_add_right _ _)) this
end Go.Proofs.YtipncceiekalfaaGreat
end
