/- BootBytes. Laid together by pack.py out of the texts in wip. -/
import Derived.Test.YtkldjadpoknejaaPBootBytes2
set_option linter.unusedVariables false
set_option linter.unusedSimpArgs false
set_option linter.unusedSectionVars false
section
set_option linter.unusedVariables false
set_option linter.unusedSimpArgs false
set_option linter.unusedSectionVars false
namespace Go.Proofs.Ytkldjadpoknejaa
open Go.SL
theorem tr_elW1 (cp : Nat) (k : Nat) (left : List UInt8) (bs : List UInt8) (pa : Option Addr) (ca : Nat) (Kb : Hp) (hb : Slc 5 1 (.slice pa bs.length ca) bs.length (bC bs) Kb) (hl : bs.length ≤ 2 ^ 38) (eb off : Nat) (cc : List Value) (Te : TypeId) (e : El fsO) (hx : Lies cc off (cE fsO e)) :
    TrE Try.prog 35 [.pointer (some ⟨eb, off, none⟩), .pointer (some ⟨cp, 0, none⟩)] ((cp, .cells [kP k].toArray 78) :: ((k, .cells [.bool false, .pointer (some ⟨k, 1, none⟩), .slice pa bs.length ca, sV left].toArray 84) :: (Kb ++ [(eb, .cells cc.toArray Te)]))) (fun u L' => u = .tuple #[] ∧ okE fsO e.1 ∧ ∃ pa' ca' Kb', Slc 5 1 (.slice pa' (bs ++ encE fsO e.1).length ca') (bs ++ encE fsO e.1).length (bC (bs ++ encE fsO e.1)) Kb' ∧ L' = (cp, .cells [kP k].toArray 78) :: ((k, .cells [.bool false, .pointer (some ⟨k, 1, none⟩), .slice pa' (bs ++ encE fsO e.1).length ca', sV left].toArray 84) :: (Kb' ++ [(eb, .cells cc.toArray Te)]))) (fun c L' => c = badC ∧ ¬ okE fsO e.1 ∧ L' = []) := by
  obtain ⟨a0, a1, a2, he⟩ := El.three rfl e
  unfold cE at hx
  have hr := e.rg
  rw [he] at hx hr ⊢
  exact tr_allW1 cp k left bs pa ca Kb hb hl eb off cc Te a0 a1 a2 hr hx
theorem tr_elR1 (cp : Nat) (k : Nat) (adr bv : Value) (left : List UInt8) (hl : left.length ≤ 2 ^ 40) (h1b : bv.oneCell' = true) (h1a : adr.oneCell' = true) (eb off : Nat) (cc : List Value) (Te : TypeId) (hx : Lies cc off (cE fsO (zEl fsO))) :
    TrE Try.prog 35 [.pointer (some ⟨eb, off, none⟩), .pointer (some ⟨cp, 0, none⟩)] ((cp, .cells [kP k].toArray 78) :: ((k, .cells [.bool true, adr, bv, sV left].toArray 84) :: [(eb, .cells cc.toArray Te)])) (fun u L' => u = .tuple #[] ∧ ∃ e' left', rdE fsO left = some (e', left') ∧ L' = (cp, .cells [kP k].toArray 78) :: ((k, .cells [.bool true, adr, bv, sV left'].toArray 84) :: [(eb, .cells (setAt cc off (cE fsO (mkEl fsO e'))).toArray Te)])) (fun c L' => c = badC ∧ rdE fsO left = none ∧ L' = []) :=
  (tr_allR1 cp k adr bv left hl h1b h1a eb off cc Te hx).mono (fun u L' h => by obtain ⟨hu, e', l', h1, h2⟩ := h; exact ⟨hu, e', l', h1, by rw [rdE_cE h1]; exact h2⟩) (fun c L' h => h)
set_option maxHeartbeats 8000000 in
theorem tr_listW1 (cp : Nat) (k : Nat) (left : List UInt8) (bs : List UInt8) (pa : Option Addr) (ca : Nat) (Kb : Hp) (hb : Slc 5 1 (.slice pa bs.length ca) bs.length (bC bs) Kb) (hl : bs.length ≤ 2 ^ 37) (d o : Nat) (dc : List Value) (Td : TypeId) (v : Value) (hv : nth dc o = some v) (L : List (El fsO)) (H : Hp) (hs : Slc 54 3 v L.length (cel (cE fsO) L) H) : TrE Try.prog 34 [kP k, .pointer (some ⟨d, o, none⟩), .int .i64 64, .func (.func 35) #[] #[.pointer (some ⟨cp, 0, none⟩)]] ((cp, .cells [kP k].toArray 78) :: ((k, .cells [.bool false, .pointer (some ⟨k, 1, none⟩), .slice pa bs.length ca, sV left].toArray 84) :: (Kb ++ ((d, .cells dc.toArray Td) :: H)))) (fun u L' => u = .tuple #[] ∧ okL fsO 64 L ∧ ∃ pa' ca' Kb', Slc 5 1 (.slice pa' (bs ++ encL fsO L).length ca') (bs ++ encL fsO L).length (bC (bs ++ encL fsO L)) Kb' ∧ L' = (cp, .cells [kP k].toArray 78) :: ((k, .cells [.bool false, .pointer (some ⟨k, 1, none⟩), .slice pa' (bs ++ encL fsO L).length ca', sV left].toArray 84) :: (Kb' ++ ((d, .cells dc.toArray Td) :: H)))) (fun c L' => c = badC ∧ ¬ okL fsO 64 L ∧ L' = []) := by
 obtain ⟨sa, sc, rfl⟩ := hs.form
 have hw : widE fsO ≤ 20 := by decide
 have hll : L.length ≤ 64 → L.length < 9223372036854775807 := fun h => by omega
 refine TrE.enter Try.func34 rfl Try.ntmps34 rfl (fun W F => ?_)
 refine Wp.app ?_
 refine Wr ?_
 refine Om1 rfl rfl ?_
 refine Ops.pv (pv_nilCheck rfl) rfl ?_
 refine Ops.pv (pv_load rfl rfl hv) rfl ?_
 refine Ops.pv (pv_len_slice (T := 32) rfl rfl) rfl ?_
 refine Ops.ef rfl (ef_alloc1 tyZ3 rfl rfl) ?_
 rintro _ _ ⟨b1, rfl, rfl⟩
 refine Ops.ef rfl (ef_store1 rfl rfl (by first | rfl | assumption) (by first | rfl | assumption)) ?_
 rintro _ _ ⟨rfl, rfl⟩
 refine On ?_
 refine Wp.seq ?_
 refine Wr ?_
 refine Ol1 rfl rfl rfl rfl ?_
 refine Om1 rfl rfl ?_
 refine Ops.pv (pv_gtr rfl rfl) rfl ?_
 refine On ?_
 refine Wp.cond_dect rfl (fun h1 => ?_) (fun h1 => ?_)
 ·
  refine Wp.region ?_
  refine Ops.pv (pv_build rfl) rfl ?_
  refine Ops.pv (pv_iface rfl rfl) rfl ?_
  exact Ops.panic rfl ⟨[], ⟨rfl, fun ho => by have := ho.1; omega, rfl⟩, inferInstance⟩
 have hmost : L.length ≤ 64 := by omega
 refine Wp.skip ?_
 refine Ends.seq ?_
 refine Wr ?_
 refine Om1 rfl rfl ?_
 refine Ops.ef rfl (ef_buildSlice1 (k := 1) rfl rfl rfl rfl rfl) ?_
 rintro _ _ ⟨b2, rfl, rfl⟩
 refine Ops.efx rfl (efx_call (tr_twoW k left bs pa ca Kb hb b2 120 [.pointer (some ⟨b1, 0, none⟩)] b1 0 [.int .i64 (L.length : Int)] 3 [(L.length : Int)] rfl (one_hcc rfl) (by intro y hy; simp only [List.mem_cons, List.not_mem_nil, or_false] at hy; unfold RgI; omega) (by simp) (by simp) (by simp only [List.length_cons, List.length_nil]; omega)) rfl rfl) ?_ ?_
 ·
  rintro _ _ ⟨_, ⟨rfl, hno, rfl⟩, rfl⟩
  exact ⟨[], ⟨rfl, fun ho => hno (by intro y hy; simp only [List.mem_cons, List.not_mem_nil, or_false] at hy; omega), rfl⟩, inferInstance⟩
 rintro _ _ ⟨_, _, ⟨rfl, hok1, pa1, ca1, Kb1, hs1, rfl⟩, rfl, rfl⟩
 refine Ops.app ?_
 rw [encT1 (by omega)] at hs1 ⊢
 refine On ?_
 refine Wp.seq ?_
 refine Wr ?_
 refine Ol1 rfl rfl rfl rfl ?_
 refine Om1 rfl rfl ?_
 refine Ops.pv (pv_gtr rfl rfl) rfl ?_
 refine On ?_
 refine Wp.cond_dect rfl (fun h2 => by omega) (fun h2 => ?_)
 refine Wp.skip ?_
 refine Ends.seq ?_
 refine Wp.seq ?_
 refine Wr ?_
 refine Om1 rfl rfl ?_
 refine Ops.pv (pv_nilCheck rfl) rfl ?_
 refine Of1 rfl rfl rfl ?_
 refine Ol1 rfl rfl rfl rfl ?_
 refine On ?_
 refine Wp.cond_false rfl ?_
 refine Wp.skip ?_
 refine Ends.seq ?_
 refine Wr ?_
 refine Ol1 rfl rfl rfl rfl ?_
 refine Om1 rfl rfl ?_
 refine On ?_
 refine Wp.block ?_
 refine Wp.loopK (σ := Nat × List UInt8 × Option Addr × Nat × Hp) [(0, _), (1, _), (3, _), (33, _)] (fun s => [(34, .int .i64 s.1)]) (fun s => (cp, .cells [kP k].toArray 78) :: ((k, .cells [.bool false, .pointer (some ⟨k, 1, none⟩), .slice s.2.2.1 s.2.1.length s.2.2.2.1, sV left].toArray 84) :: (s.2.2.2.2 ++ ((d, .cells dc.toArray Td) :: (H ++ ((b1, .cells [.int .i64 L.length].toArray 3) :: F)))))) (fun s => s.1 ≤ L.length ∧ s.2.1 = bs ++ leB 2 L.length ++ encI fsO (L.take s.1) ∧ s.2.1.length = bs.length + 2 + s.1 * widE fsO ∧ (∀ e, e ∈ L.take s.1 → okE fsO e.1) ∧ Slc 5 1 (.slice s.2.2.1 s.2.1.length s.2.2.2.1) s.2.1.length (bC s.2.1) s.2.2.2.2) (fun s => L.length - s.1) (0, bs ++ leB 2 L.length, pa1, ca1, Kb1) ⟨Nat.zero_le _, by simp [encI], by simp [leB_len], by intro x hx; simp at hx, hs1⟩ ⟨rfl, rfl, rfl, rfl, trivial⟩ ⟨rfl, trivial⟩ (by intro w ho; (try dsimp only [List.nil_append, List.cons_append]); exact Drop.own ho) ?_
 rintro ⟨i, b9, pi, ci, Ki⟩ KK ⟨hi, he9, hel, hok, hsi⟩ hK
 dsimp only [List.cons_append, List.nil_append] at hK ⊢
 dsimp only at hi he9 hel hok hsi ⊢
 have hwi : i * widE fsO ≤ i * 20 := Nat.mul_le_mul_left _ hw
 refine Wr ?_
 refine Ops.pv (pv_lss rfl rfl) rfl ?_
 refine On ?_
 refine Wp.seq ?_
 refine Wp.cond_dect rfl (fun h3 => ?_) (fun h3 => ?_)
 ·
  obtain ⟨e, he⟩ : ∃ e, L[i]? = some e := ⟨_, List.getElem?_eq_getElem (by omega)⟩
  obtain ⟨eb, eo, cc, cap, hva, rfl, hx, _⟩ := slc_el hs he (by decide)
  cases hva
  refine Wp.skip ?_
  refine Ends.seq ?_
  refine Wp.seq ?_
  refine Wp.block ?_
  refine Wr ?_
  refine Om1 rfl rfl ?_
  refine Oa1 rfl rfl ?_
  refine On ?_
  refine Wp.seq ?_
  refine Wr ?_
  refine Om1 rfl rfl ?_
  refine Ops.pv (pv_nilCheck rfl) rfl ?_
  refine Of1 rfl rfl rfl ?_
  refine Ol1 rfl rfl rfl rfl ?_
  refine On ?_
  refine Wp.cond_false rfl ?_
  refine Wp.skip ?_
  refine Ends.seq ?_
  refine Wp.region ?_
  refine Om1 rfl rfl ?_
  refine Om1 rfl rfl ?_
  refine Ops.pv (pv_nilCheck rfl) rfl ?_
  refine Ops.pv (pv_load rfl rfl hv) rfl ?_
  refine Om1 rfl rfl ?_
  refine Ops.pv (pv_indexAddr (i := i) rfl rfl rfl (by omega)) rfl ?_
  refine Ops.efx rfl (efx_callf rfl rfl (tr_elW1 cp k left b9 pi ci Ki hsi (by omega) eb (eo + i * 3) cc 54 e hx) rfl) ?_ ?_
  ·
   rintro _ _ ⟨_, ⟨rfl, hno, rfl⟩, rfl⟩
   exact ⟨[], ⟨rfl, fun ho => hno (ho.2 e (List.mem_of_getElem? he)), rfl⟩, inferInstance⟩
  rintro _ _ ⟨_, _, ⟨rfl, hoke, pa3, ca3, Kb3, hs3, rfl⟩, rfl, rfl⟩
  refine Ops.app ?_
  refine Ops.nil ?_
  refine Ends.block_normal ?_
  refine Ends.seq ?_
  refine Wp.region ?_
  refine Ops.pv (pv_add rfl rfl (w64n (k := i + 1) (by omega) (by omega))) rfl ?_
  refine Om1 rfl rfl ?_
  refine Ops.nil ?_
  refine Ends.goes ?_
  refine Goes.back (hK (i + 1, b9 ++ encE fsO e.1, pa3, ca3, Kb3) ⟨by dsimp only; omega, by dsimp only; rw [encI_take he, he9, List.append_assoc], by dsimp only; rw [List.length_append, encE_len e.len, hel, Nat.add_mul]; omega, all_take he hok hoke, hs3⟩ (by dsimp only; omega)) ⟨rfl, rfl, rfl, rfl, rfl, trivial⟩
 obtain rfl : i = L.length := by omega
 refine Wp.exit ?_
 refine Ends.then_exit ?_
 refine Ends.then_exit ?_
 refine Ends.block_hit ?_
 rw [List.take_length] at he9 hok
 have hbe : bs ++ encL fsO L = b9 := by rw [he9, encL, List.append_assoc]
 rw [hbe]
 exact Ends.finE (L' := (cp, .cells [kP k].toArray 78) :: ((k, .cells [.bool false, .pointer (some ⟨k, 1, none⟩), .slice pi b9.length ci, sV left].toArray 84) :: (Ki ++ ((d, .cells dc.toArray Td) :: H)))) (res0 rfl) ⟨rfl, ⟨hmost, hok⟩, pi, ci, Ki, hsi, rfl⟩
theorem tr_elW2 (cp : Nat) (k : Nat) (left : List UInt8) (bs : List UInt8) (pa : Option Addr) (ca : Nat) (Kb : Hp) (hb : Slc 5 1 (.slice pa bs.length ca) bs.length (bC bs) Kb) (hl : bs.length ≤ 2 ^ 38) (eb off : Nat) (cc : List Value) (Te : TypeId) (e : El fsP) (hx : Lies cc off (cE fsP e)) :
    TrE Try.prog 38 [.pointer (some ⟨eb, off, none⟩), .pointer (some ⟨cp, 0, none⟩)] ((cp, .cells [kP k].toArray 78) :: ((k, .cells [.bool false, .pointer (some ⟨k, 1, none⟩), .slice pa bs.length ca, sV left].toArray 84) :: (Kb ++ [(eb, .cells cc.toArray Te)]))) (fun u L' => u = .tuple #[] ∧ okE fsP e.1 ∧ ∃ pa' ca' Kb', Slc 5 1 (.slice pa' (bs ++ encE fsP e.1).length ca') (bs ++ encE fsP e.1).length (bC (bs ++ encE fsP e.1)) Kb' ∧ L' = (cp, .cells [kP k].toArray 78) :: ((k, .cells [.bool false, .pointer (some ⟨k, 1, none⟩), .slice pa' (bs ++ encE fsP e.1).length ca', sV left].toArray 84) :: (Kb' ++ [(eb, .cells cc.toArray Te)]))) (fun c L' => c = badC ∧ ¬ okE fsP e.1 ∧ L' = []) := by
  obtain ⟨a0, a1, a2, a3, a4, a5, a6, a7, he⟩ := El.eight rfl e
  unfold cE at hx
  have hr := e.rg
  rw [he] at hx hr ⊢
  exact tr_allW2 cp k left bs pa ca Kb hb hl eb off cc Te a0 a1 a2 a3 a4 a5 a6 a7 hr hx
theorem tr_elR2 (cp : Nat) (k : Nat) (adr bv : Value) (left : List UInt8) (hl : left.length ≤ 2 ^ 40) (h1b : bv.oneCell' = true) (h1a : adr.oneCell' = true) (eb off : Nat) (cc : List Value) (Te : TypeId) (hx : Lies cc off (cE fsP (zEl fsP))) :
    TrE Try.prog 38 [.pointer (some ⟨eb, off, none⟩), .pointer (some ⟨cp, 0, none⟩)] ((cp, .cells [kP k].toArray 78) :: ((k, .cells [.bool true, adr, bv, sV left].toArray 84) :: [(eb, .cells cc.toArray Te)])) (fun u L' => u = .tuple #[] ∧ ∃ e' left', rdE fsP left = some (e', left') ∧ L' = (cp, .cells [kP k].toArray 78) :: ((k, .cells [.bool true, adr, bv, sV left'].toArray 84) :: [(eb, .cells (setAt cc off (cE fsP (mkEl fsP e'))).toArray Te)])) (fun c L' => c = badC ∧ rdE fsP left = none ∧ L' = []) :=
  (tr_allR2 cp k adr bv left hl h1b h1a eb off cc Te hx).mono (fun u L' h => by obtain ⟨hu, e', l', h1, h2⟩ := h; exact ⟨hu, e', l', h1, by rw [rdE_cE h1]; exact h2⟩) (fun c L' h => h)
set_option maxHeartbeats 8000000 in
theorem tr_listW2 (cp : Nat) (k : Nat) (left : List UInt8) (bs : List UInt8) (pa : Option Addr) (ca : Nat) (Kb : Hp) (hb : Slc 5 1 (.slice pa bs.length ca) bs.length (bC bs) Kb) (hl : bs.length ≤ 2 ^ 37) (d o : Nat) (dc : List Value) (Td : TypeId) (v : Value) (hv : nth dc o = some v) (L : List (El fsP)) (H : Hp) (hs : Slc 62 8 v L.length (cel (cE fsP) L) H) : TrE Try.prog 37 [kP k, .pointer (some ⟨d, o, none⟩), .int .i64 256, .func (.func 38) #[] #[.pointer (some ⟨cp, 0, none⟩)]] ((cp, .cells [kP k].toArray 78) :: ((k, .cells [.bool false, .pointer (some ⟨k, 1, none⟩), .slice pa bs.length ca, sV left].toArray 84) :: (Kb ++ ((d, .cells dc.toArray Td) :: H)))) (fun u L' => u = .tuple #[] ∧ okL fsP 256 L ∧ ∃ pa' ca' Kb', Slc 5 1 (.slice pa' (bs ++ encL fsP L).length ca') (bs ++ encL fsP L).length (bC (bs ++ encL fsP L)) Kb' ∧ L' = (cp, .cells [kP k].toArray 78) :: ((k, .cells [.bool false, .pointer (some ⟨k, 1, none⟩), .slice pa' (bs ++ encL fsP L).length ca', sV left].toArray 84) :: (Kb' ++ ((d, .cells dc.toArray Td) :: H)))) (fun c L' => c = badC ∧ ¬ okL fsP 256 L ∧ L' = []) := by
 obtain ⟨sa, sc, rfl⟩ := hs.form
 have hw : widE fsP ≤ 20 := by decide
 have hll : L.length ≤ 256 → L.length < 9223372036854775807 := fun h => by omega
 refine TrE.enter Try.func37 rfl Try.ntmps37 rfl (fun W F => ?_)
 refine Wp.app ?_
 refine Wr ?_
 refine Om1 rfl rfl ?_
 refine Ops.pv (pv_nilCheck rfl) rfl ?_
 refine Ops.pv (pv_load rfl rfl hv) rfl ?_
 refine Ops.pv (pv_len_slice (T := 33) rfl rfl) rfl ?_
 refine Ops.ef rfl (ef_alloc1 tyZ3 rfl rfl) ?_
 rintro _ _ ⟨b1, rfl, rfl⟩
 refine Ops.ef rfl (ef_store1 rfl rfl (by first | rfl | assumption) (by first | rfl | assumption)) ?_
 rintro _ _ ⟨rfl, rfl⟩
 refine On ?_
 refine Wp.seq ?_
 refine Wr ?_
 refine Ol1 rfl rfl rfl rfl ?_
 refine Om1 rfl rfl ?_
 refine Ops.pv (pv_gtr rfl rfl) rfl ?_
 refine On ?_
 refine Wp.cond_dect rfl (fun h1 => ?_) (fun h1 => ?_)
 ·
  refine Wp.region ?_
  refine Ops.pv (pv_build rfl) rfl ?_
  refine Ops.pv (pv_iface rfl rfl) rfl ?_
  exact Ops.panic rfl ⟨[], ⟨rfl, fun ho => by have := ho.1; omega, rfl⟩, inferInstance⟩
 have hmost : L.length ≤ 256 := by omega
 refine Wp.skip ?_
 refine Ends.seq ?_
 refine Wr ?_
 refine Om1 rfl rfl ?_
 refine Ops.ef rfl (ef_buildSlice1 (k := 1) rfl rfl rfl rfl rfl) ?_
 rintro _ _ ⟨b2, rfl, rfl⟩
 refine Ops.efx rfl (efx_call (tr_twoW k left bs pa ca Kb hb b2 120 [.pointer (some ⟨b1, 0, none⟩)] b1 0 [.int .i64 (L.length : Int)] 3 [(L.length : Int)] rfl (one_hcc rfl) (by intro y hy; simp only [List.mem_cons, List.not_mem_nil, or_false] at hy; unfold RgI; omega) (by simp) (by simp) (by simp only [List.length_cons, List.length_nil]; omega)) rfl rfl) ?_ ?_
 ·
  rintro _ _ ⟨_, ⟨rfl, hno, rfl⟩, rfl⟩
  exact ⟨[], ⟨rfl, fun ho => hno (by intro y hy; simp only [List.mem_cons, List.not_mem_nil, or_false] at hy; omega), rfl⟩, inferInstance⟩
 rintro _ _ ⟨_, _, ⟨rfl, hok1, pa1, ca1, Kb1, hs1, rfl⟩, rfl, rfl⟩
 refine Ops.app ?_
 rw [encT1 (by omega)] at hs1 ⊢
 refine On ?_
 refine Wp.seq ?_
 refine Wr ?_
 refine Ol1 rfl rfl rfl rfl ?_
 refine Om1 rfl rfl ?_
 refine Ops.pv (pv_gtr rfl rfl) rfl ?_
 refine On ?_
 refine Wp.cond_dect rfl (fun h2 => by omega) (fun h2 => ?_)
 refine Wp.skip ?_
 refine Ends.seq ?_
 refine Wp.seq ?_
 refine Wr ?_
 refine Om1 rfl rfl ?_
 refine Ops.pv (pv_nilCheck rfl) rfl ?_
 refine Of1 rfl rfl rfl ?_
 refine Ol1 rfl rfl rfl rfl ?_
 refine On ?_
 refine Wp.cond_false rfl ?_
 refine Wp.skip ?_
 refine Ends.seq ?_
 refine Wr ?_
 refine Ol1 rfl rfl rfl rfl ?_
 refine Om1 rfl rfl ?_
 refine On ?_
 refine Wp.block ?_
 refine Wp.loopK (σ := Nat × List UInt8 × Option Addr × Nat × Hp) [(0, _), (1, _), (3, _), (33, _)] (fun s => [(34, .int .i64 s.1)]) (fun s => (cp, .cells [kP k].toArray 78) :: ((k, .cells [.bool false, .pointer (some ⟨k, 1, none⟩), .slice s.2.2.1 s.2.1.length s.2.2.2.1, sV left].toArray 84) :: (s.2.2.2.2 ++ ((d, .cells dc.toArray Td) :: (H ++ ((b1, .cells [.int .i64 L.length].toArray 3) :: F)))))) (fun s => s.1 ≤ L.length ∧ s.2.1 = bs ++ leB 2 L.length ++ encI fsP (L.take s.1) ∧ s.2.1.length = bs.length + 2 + s.1 * widE fsP ∧ (∀ e, e ∈ L.take s.1 → okE fsP e.1) ∧ Slc 5 1 (.slice s.2.2.1 s.2.1.length s.2.2.2.1) s.2.1.length (bC s.2.1) s.2.2.2.2) (fun s => L.length - s.1) (0, bs ++ leB 2 L.length, pa1, ca1, Kb1) ⟨Nat.zero_le _, by simp [encI], by simp [leB_len], by intro x hx; simp at hx, hs1⟩ ⟨rfl, rfl, rfl, rfl, trivial⟩ ⟨rfl, trivial⟩ (by intro w ho; (try dsimp only [List.nil_append, List.cons_append]); exact Drop.own ho) ?_
 rintro ⟨i, b9, pi, ci, Ki⟩ KK ⟨hi, he9, hel, hok, hsi⟩ hK
 dsimp only [List.cons_append, List.nil_append] at hK ⊢
 dsimp only at hi he9 hel hok hsi ⊢
 have hwi : i * widE fsP ≤ i * 20 := Nat.mul_le_mul_left _ hw
 refine Wr ?_
 refine Ops.pv (pv_lss rfl rfl) rfl ?_
 refine On ?_
 refine Wp.seq ?_
 refine Wp.cond_dect rfl (fun h3 => ?_) (fun h3 => ?_)
 ·
  obtain ⟨e, he⟩ : ∃ e, L[i]? = some e := ⟨_, List.getElem?_eq_getElem (by omega)⟩
  obtain ⟨eb, eo, cc, cap, hva, rfl, hx, _⟩ := slc_el hs he (by decide)
  cases hva
  refine Wp.skip ?_
  refine Ends.seq ?_
  refine Wp.seq ?_
  refine Wp.block ?_
  refine Wr ?_
  refine Om1 rfl rfl ?_
  refine Oa1 rfl rfl ?_
  refine On ?_
  refine Wp.seq ?_
  refine Wr ?_
  refine Om1 rfl rfl ?_
  refine Ops.pv (pv_nilCheck rfl) rfl ?_
  refine Of1 rfl rfl rfl ?_
  refine Ol1 rfl rfl rfl rfl ?_
  refine On ?_
  refine Wp.cond_false rfl ?_
  refine Wp.skip ?_
  refine Ends.seq ?_
  refine Wp.region ?_
  refine Om1 rfl rfl ?_
  refine Om1 rfl rfl ?_
  refine Ops.pv (pv_nilCheck rfl) rfl ?_
  refine Ops.pv (pv_load rfl rfl hv) rfl ?_
  refine Om1 rfl rfl ?_
  refine Ops.pv (pv_indexAddr (i := i) rfl rfl rfl (by omega)) rfl ?_
  refine Ops.efx rfl (efx_callf rfl rfl (tr_elW2 cp k left b9 pi ci Ki hsi (by omega) eb (eo + i * 8) cc 62 e hx) rfl) ?_ ?_
  ·
   rintro _ _ ⟨_, ⟨rfl, hno, rfl⟩, rfl⟩
   exact ⟨[], ⟨rfl, fun ho => hno (ho.2 e (List.mem_of_getElem? he)), rfl⟩, inferInstance⟩
  rintro _ _ ⟨_, _, ⟨rfl, hoke, pa3, ca3, Kb3, hs3, rfl⟩, rfl, rfl⟩
  refine Ops.app ?_
  refine Ops.nil ?_
  refine Ends.block_normal ?_
  refine Ends.seq ?_
  refine Wp.region ?_
  refine Ops.pv (pv_add rfl rfl (w64n (k := i + 1) (by omega) (by omega))) rfl ?_
  refine Om1 rfl rfl ?_
  refine Ops.nil ?_
  refine Ends.goes ?_
  refine Goes.back (hK (i + 1, b9 ++ encE fsP e.1, pa3, ca3, Kb3) ⟨by dsimp only; omega, by dsimp only; rw [encI_take he, he9, List.append_assoc], by dsimp only; rw [List.length_append, encE_len e.len, hel, Nat.add_mul]; omega, all_take he hok hoke, hs3⟩ (by dsimp only; omega)) ⟨rfl, rfl, rfl, rfl, rfl, trivial⟩
 obtain rfl : i = L.length := by omega
 refine Wp.exit ?_
 refine Ends.then_exit ?_
 refine Ends.then_exit ?_
 refine Ends.block_hit ?_
 rw [List.take_length] at he9 hok
 have hbe : bs ++ encL fsP L = b9 := by rw [he9, encL, List.append_assoc]
 rw [hbe]
 exact Ends.finE (L' := (cp, .cells [kP k].toArray 78) :: ((k, .cells [.bool false, .pointer (some ⟨k, 1, none⟩), .slice pi b9.length ci, sV left].toArray 84) :: (Ki ++ ((d, .cells dc.toArray Td) :: H)))) (res0 rfl) ⟨rfl, ⟨hmost, hok⟩, pi, ci, Ki, hsi, rfl⟩
theorem tr_elW3 (cp : Nat) (k : Nat) (left : List UInt8) (bs : List UInt8) (pa : Option Addr) (ca : Nat) (Kb : Hp) (hb : Slc 5 1 (.slice pa bs.length ca) bs.length (bC bs) Kb) (hl : bs.length ≤ 2 ^ 38) (eb off : Nat) (cc : List Value) (Te : TypeId) (e : El fsM) (hx : Lies cc off (cE fsM e)) :
    TrE Try.prog 41 [.pointer (some ⟨eb, off, none⟩), .pointer (some ⟨cp, 0, none⟩)] ((cp, .cells [kP k].toArray 78) :: ((k, .cells [.bool false, .pointer (some ⟨k, 1, none⟩), .slice pa bs.length ca, sV left].toArray 84) :: (Kb ++ [(eb, .cells cc.toArray Te)]))) (fun u L' => u = .tuple #[] ∧ okE fsM e.1 ∧ ∃ pa' ca' Kb', Slc 5 1 (.slice pa' (bs ++ encE fsM e.1).length ca') (bs ++ encE fsM e.1).length (bC (bs ++ encE fsM e.1)) Kb' ∧ L' = (cp, .cells [kP k].toArray 78) :: ((k, .cells [.bool false, .pointer (some ⟨k, 1, none⟩), .slice pa' (bs ++ encE fsM e.1).length ca', sV left].toArray 84) :: (Kb' ++ [(eb, .cells cc.toArray Te)]))) (fun c L' => c = badC ∧ ¬ okE fsM e.1 ∧ L' = []) := by
  obtain ⟨a0, a1, a2, a3, he⟩ := El.four rfl e
  unfold cE at hx
  have hr := e.rg
  rw [he] at hx hr ⊢
  exact tr_allW3 cp k left bs pa ca Kb hb hl eb off cc Te a0 a1 a2 a3 hr hx
theorem tr_elR3 (cp : Nat) (k : Nat) (adr bv : Value) (left : List UInt8) (hl : left.length ≤ 2 ^ 40) (h1b : bv.oneCell' = true) (h1a : adr.oneCell' = true) (eb off : Nat) (cc : List Value) (Te : TypeId) (hx : Lies cc off (cE fsM (zEl fsM))) :
    TrE Try.prog 41 [.pointer (some ⟨eb, off, none⟩), .pointer (some ⟨cp, 0, none⟩)] ((cp, .cells [kP k].toArray 78) :: ((k, .cells [.bool true, adr, bv, sV left].toArray 84) :: [(eb, .cells cc.toArray Te)])) (fun u L' => u = .tuple #[] ∧ ∃ e' left', rdE fsM left = some (e', left') ∧ L' = (cp, .cells [kP k].toArray 78) :: ((k, .cells [.bool true, adr, bv, sV left'].toArray 84) :: [(eb, .cells (setAt cc off (cE fsM (mkEl fsM e'))).toArray Te)])) (fun c L' => c = badC ∧ rdE fsM left = none ∧ L' = []) :=
  (tr_allR3 cp k adr bv left hl h1b h1a eb off cc Te hx).mono (fun u L' h => by obtain ⟨hu, e', l', h1, h2⟩ := h; exact ⟨hu, e', l', h1, by rw [rdE_cE h1]; exact h2⟩) (fun c L' h => h)
set_option maxHeartbeats 8000000 in
theorem tr_listW3 (cp : Nat) (k : Nat) (left : List UInt8) (bs : List UInt8) (pa : Option Addr) (ca : Nat) (Kb : Hp) (hb : Slc 5 1 (.slice pa bs.length ca) bs.length (bC bs) Kb) (hl : bs.length ≤ 2 ^ 37) (d o : Nat) (dc : List Value) (Td : TypeId) (v : Value) (hv : nth dc o = some v) (L : List (El fsM)) (H : Hp) (hs : Slc 65 4 v L.length (cel (cE fsM) L) H) : TrE Try.prog 40 [kP k, .pointer (some ⟨d, o, none⟩), .int .i64 64, .func (.func 41) #[] #[.pointer (some ⟨cp, 0, none⟩)]] ((cp, .cells [kP k].toArray 78) :: ((k, .cells [.bool false, .pointer (some ⟨k, 1, none⟩), .slice pa bs.length ca, sV left].toArray 84) :: (Kb ++ ((d, .cells dc.toArray Td) :: H)))) (fun u L' => u = .tuple #[] ∧ okL fsM 64 L ∧ ∃ pa' ca' Kb', Slc 5 1 (.slice pa' (bs ++ encL fsM L).length ca') (bs ++ encL fsM L).length (bC (bs ++ encL fsM L)) Kb' ∧ L' = (cp, .cells [kP k].toArray 78) :: ((k, .cells [.bool false, .pointer (some ⟨k, 1, none⟩), .slice pa' (bs ++ encL fsM L).length ca', sV left].toArray 84) :: (Kb' ++ ((d, .cells dc.toArray Td) :: H)))) (fun c L' => c = badC ∧ ¬ okL fsM 64 L ∧ L' = []) := by
 obtain ⟨sa, sc, rfl⟩ := hs.form
 have hw : widE fsM ≤ 20 := by decide
 have hll : L.length ≤ 64 → L.length < 9223372036854775807 := fun h => by omega
 refine TrE.enter Try.func40 rfl Try.ntmps40 rfl (fun W F => ?_)
 refine Wp.app ?_
 refine Wr ?_
 refine Om1 rfl rfl ?_
 refine Ops.pv (pv_nilCheck rfl) rfl ?_
 refine Ops.pv (pv_load rfl rfl hv) rfl ?_
 refine Ops.pv (pv_len_slice (T := 34) rfl rfl) rfl ?_
 refine Ops.ef rfl (ef_alloc1 tyZ3 rfl rfl) ?_
 rintro _ _ ⟨b1, rfl, rfl⟩
 refine Ops.ef rfl (ef_store1 rfl rfl (by first | rfl | assumption) (by first | rfl | assumption)) ?_
 rintro _ _ ⟨rfl, rfl⟩
 refine On ?_
 refine Wp.seq ?_
 refine Wr ?_
 refine Ol1 rfl rfl rfl rfl ?_
 refine Om1 rfl rfl ?_
 refine Ops.pv (pv_gtr rfl rfl) rfl ?_
 refine On ?_
 refine Wp.cond_dect rfl (fun h1 => ?_) (fun h1 => ?_)
 ·
  refine Wp.region ?_
  refine Ops.pv (pv_build rfl) rfl ?_
  refine Ops.pv (pv_iface rfl rfl) rfl ?_
  exact Ops.panic rfl ⟨[], ⟨rfl, fun ho => by have := ho.1; omega, rfl⟩, inferInstance⟩
 have hmost : L.length ≤ 64 := by omega
 refine Wp.skip ?_
 refine Ends.seq ?_
 refine Wr ?_
 refine Om1 rfl rfl ?_
 refine Ops.ef rfl (ef_buildSlice1 (k := 1) rfl rfl rfl rfl rfl) ?_
 rintro _ _ ⟨b2, rfl, rfl⟩
 refine Ops.efx rfl (efx_call (tr_twoW k left bs pa ca Kb hb b2 120 [.pointer (some ⟨b1, 0, none⟩)] b1 0 [.int .i64 (L.length : Int)] 3 [(L.length : Int)] rfl (one_hcc rfl) (by intro y hy; simp only [List.mem_cons, List.not_mem_nil, or_false] at hy; unfold RgI; omega) (by simp) (by simp) (by simp only [List.length_cons, List.length_nil]; omega)) rfl rfl) ?_ ?_
 ·
  rintro _ _ ⟨_, ⟨rfl, hno, rfl⟩, rfl⟩
  exact ⟨[], ⟨rfl, fun ho => hno (by intro y hy; simp only [List.mem_cons, List.not_mem_nil, or_false] at hy; omega), rfl⟩, inferInstance⟩
 rintro _ _ ⟨_, _, ⟨rfl, hok1, pa1, ca1, Kb1, hs1, rfl⟩, rfl, rfl⟩
 refine Ops.app ?_
 rw [encT1 (by omega)] at hs1 ⊢
 refine On ?_
 refine Wp.seq ?_
 refine Wr ?_
 refine Ol1 rfl rfl rfl rfl ?_
 refine Om1 rfl rfl ?_
 refine Ops.pv (pv_gtr rfl rfl) rfl ?_
 refine On ?_
 refine Wp.cond_dect rfl (fun h2 => by omega) (fun h2 => ?_)
 refine Wp.skip ?_
 refine Ends.seq ?_
 refine Wp.seq ?_
 refine Wr ?_
 refine Om1 rfl rfl ?_
 refine Ops.pv (pv_nilCheck rfl) rfl ?_
 refine Of1 rfl rfl rfl ?_
 refine Ol1 rfl rfl rfl rfl ?_
 refine On ?_
 refine Wp.cond_false rfl ?_
 refine Wp.skip ?_
 refine Ends.seq ?_
 refine Wr ?_
 refine Ol1 rfl rfl rfl rfl ?_
 refine Om1 rfl rfl ?_
 refine On ?_
 refine Wp.block ?_
 refine Wp.loopK (σ := Nat × List UInt8 × Option Addr × Nat × Hp) [(0, _), (1, _), (3, _), (33, _)] (fun s => [(34, .int .i64 s.1)]) (fun s => (cp, .cells [kP k].toArray 78) :: ((k, .cells [.bool false, .pointer (some ⟨k, 1, none⟩), .slice s.2.2.1 s.2.1.length s.2.2.2.1, sV left].toArray 84) :: (s.2.2.2.2 ++ ((d, .cells dc.toArray Td) :: (H ++ ((b1, .cells [.int .i64 L.length].toArray 3) :: F)))))) (fun s => s.1 ≤ L.length ∧ s.2.1 = bs ++ leB 2 L.length ++ encI fsM (L.take s.1) ∧ s.2.1.length = bs.length + 2 + s.1 * widE fsM ∧ (∀ e, e ∈ L.take s.1 → okE fsM e.1) ∧ Slc 5 1 (.slice s.2.2.1 s.2.1.length s.2.2.2.1) s.2.1.length (bC s.2.1) s.2.2.2.2) (fun s => L.length - s.1) (0, bs ++ leB 2 L.length, pa1, ca1, Kb1) ⟨Nat.zero_le _, by simp [encI], by simp [leB_len], by intro x hx; simp at hx, hs1⟩ ⟨rfl, rfl, rfl, rfl, trivial⟩ ⟨rfl, trivial⟩ (by intro w ho; (try dsimp only [List.nil_append, List.cons_append]); exact Drop.own ho) ?_
 rintro ⟨i, b9, pi, ci, Ki⟩ KK ⟨hi, he9, hel, hok, hsi⟩ hK
 dsimp only [List.cons_append, List.nil_append] at hK ⊢
 dsimp only at hi he9 hel hok hsi ⊢
 have hwi : i * widE fsM ≤ i * 20 := Nat.mul_le_mul_left _ hw
 refine Wr ?_
 refine Ops.pv (pv_lss rfl rfl) rfl ?_
 refine On ?_
 refine Wp.seq ?_
 refine Wp.cond_dect rfl (fun h3 => ?_) (fun h3 => ?_)
 ·
  obtain ⟨e, he⟩ : ∃ e, L[i]? = some e := ⟨_, List.getElem?_eq_getElem (by omega)⟩
  obtain ⟨eb, eo, cc, cap, hva, rfl, hx, _⟩ := slc_el hs he (by decide)
  cases hva
  refine Wp.skip ?_
  refine Ends.seq ?_
  refine Wp.seq ?_
  refine Wp.block ?_
  refine Wr ?_
  refine Om1 rfl rfl ?_
  refine Oa1 rfl rfl ?_
  refine On ?_
  refine Wp.seq ?_
  refine Wr ?_
  refine Om1 rfl rfl ?_
  refine Ops.pv (pv_nilCheck rfl) rfl ?_
  refine Of1 rfl rfl rfl ?_
  refine Ol1 rfl rfl rfl rfl ?_
  refine On ?_
  refine Wp.cond_false rfl ?_
  refine Wp.skip ?_
  refine Ends.seq ?_
  refine Wp.region ?_
  refine Om1 rfl rfl ?_
  refine Om1 rfl rfl ?_
  refine Ops.pv (pv_nilCheck rfl) rfl ?_
  refine Ops.pv (pv_load rfl rfl hv) rfl ?_
  refine Om1 rfl rfl ?_
  refine Ops.pv (pv_indexAddr (i := i) rfl rfl rfl (by omega)) rfl ?_
  refine Ops.efx rfl (efx_callf rfl rfl (tr_elW3 cp k left b9 pi ci Ki hsi (by omega) eb (eo + i * 4) cc 65 e hx) rfl) ?_ ?_
  ·
   rintro _ _ ⟨_, ⟨rfl, hno, rfl⟩, rfl⟩
   exact ⟨[], ⟨rfl, fun ho => hno (ho.2 e (List.mem_of_getElem? he)), rfl⟩, inferInstance⟩
  rintro _ _ ⟨_, _, ⟨rfl, hoke, pa3, ca3, Kb3, hs3, rfl⟩, rfl, rfl⟩
  refine Ops.app ?_
  refine Ops.nil ?_
  refine Ends.block_normal ?_
  refine Ends.seq ?_
  refine Wp.region ?_
  refine Ops.pv (pv_add rfl rfl (w64n (k := i + 1) (by omega) (by omega))) rfl ?_
  refine Om1 rfl rfl ?_
  refine Ops.nil ?_
  refine Ends.goes ?_
  refine Goes.back (hK (i + 1, b9 ++ encE fsM e.1, pa3, ca3, Kb3) ⟨by dsimp only; omega, by dsimp only; rw [encI_take he, he9, List.append_assoc], by dsimp only; rw [List.length_append, encE_len e.len, hel, Nat.add_mul]; omega, all_take he hok hoke, hs3⟩ (by dsimp only; omega)) ⟨rfl, rfl, rfl, rfl, rfl, trivial⟩
 obtain rfl : i = L.length := by omega
 refine Wp.exit ?_
 refine Ends.then_exit ?_
 refine Ends.then_exit ?_
 refine Ends.block_hit ?_
 rw [List.take_length] at he9 hok
 have hbe : bs ++ encL fsM L = b9 := by rw [he9, encL, List.append_assoc]
 rw [hbe]
 exact Ends.finE (L' := (cp, .cells [kP k].toArray 78) :: ((k, .cells [.bool false, .pointer (some ⟨k, 1, none⟩), .slice pi b9.length ci, sV left].toArray 84) :: (Ki ++ ((d, .cells dc.toArray Td) :: H)))) (res0 rfl) ⟨rfl, ⟨hmost, hok⟩, pi, ci, Ki, hsi, rfl⟩
theorem tr_elW4 (cp : Nat) (k : Nat) (left : List UInt8) (bs : List UInt8) (pa : Option Addr) (ca : Nat) (Kb : Hp) (hb : Slc 5 1 (.slice pa bs.length ca) bs.length (bC bs) Kb) (hl : bs.length ≤ 2 ^ 38) (eb off : Nat) (cc : List Value) (Te : TypeId) (e : El fsF) (hx : Lies cc off (cE fsF e)) :
    TrE Try.prog 44 [.pointer (some ⟨eb, off, none⟩), .pointer (some ⟨cp, 0, none⟩)] ((cp, .cells [kP k].toArray 78) :: ((k, .cells [.bool false, .pointer (some ⟨k, 1, none⟩), .slice pa bs.length ca, sV left].toArray 84) :: (Kb ++ [(eb, .cells cc.toArray Te)]))) (fun u L' => u = .tuple #[] ∧ okE fsF e.1 ∧ ∃ pa' ca' Kb', Slc 5 1 (.slice pa' (bs ++ encE fsF e.1).length ca') (bs ++ encE fsF e.1).length (bC (bs ++ encE fsF e.1)) Kb' ∧ L' = (cp, .cells [kP k].toArray 78) :: ((k, .cells [.bool false, .pointer (some ⟨k, 1, none⟩), .slice pa' (bs ++ encE fsF e.1).length ca', sV left].toArray 84) :: (Kb' ++ [(eb, .cells cc.toArray Te)]))) (fun c L' => c = badC ∧ ¬ okE fsF e.1 ∧ L' = []) := by
  obtain ⟨a0, a1, a2, he⟩ := El.three rfl e
  unfold cE at hx
  have hr := e.rg
  rw [he] at hx hr ⊢
  exact tr_allW4 cp k left bs pa ca Kb hb hl eb off cc Te a0 a1 a2 hr hx
theorem tr_elR4 (cp : Nat) (k : Nat) (adr bv : Value) (left : List UInt8) (hl : left.length ≤ 2 ^ 40) (h1b : bv.oneCell' = true) (h1a : adr.oneCell' = true) (eb off : Nat) (cc : List Value) (Te : TypeId) (hx : Lies cc off (cE fsF (zEl fsF))) :
    TrE Try.prog 44 [.pointer (some ⟨eb, off, none⟩), .pointer (some ⟨cp, 0, none⟩)] ((cp, .cells [kP k].toArray 78) :: ((k, .cells [.bool true, adr, bv, sV left].toArray 84) :: [(eb, .cells cc.toArray Te)])) (fun u L' => u = .tuple #[] ∧ ∃ e' left', rdE fsF left = some (e', left') ∧ L' = (cp, .cells [kP k].toArray 78) :: ((k, .cells [.bool true, adr, bv, sV left'].toArray 84) :: [(eb, .cells (setAt cc off (cE fsF (mkEl fsF e'))).toArray Te)])) (fun c L' => c = badC ∧ rdE fsF left = none ∧ L' = []) :=
  (tr_allR4 cp k adr bv left hl h1b h1a eb off cc Te hx).mono (fun u L' h => by obtain ⟨hu, e', l', h1, h2⟩ := h; exact ⟨hu, e', l', h1, by rw [rdE_cE h1]; exact h2⟩) (fun c L' h => h)
set_option maxHeartbeats 8000000 in
theorem tr_listW4 (cp : Nat) (k : Nat) (left : List UInt8) (bs : List UInt8) (pa : Option Addr) (ca : Nat) (Kb : Hp) (hb : Slc 5 1 (.slice pa bs.length ca) bs.length (bC bs) Kb) (hl : bs.length ≤ 2 ^ 37) (d o : Nat) (dc : List Value) (Td : TypeId) (v : Value) (hv : nth dc o = some v) (L : List (El fsF)) (H : Hp) (hs : Slc 68 3 v L.length (cel (cE fsF) L) H) : TrE Try.prog 43 [kP k, .pointer (some ⟨d, o, none⟩), .int .i64 512, .func (.func 44) #[] #[.pointer (some ⟨cp, 0, none⟩)]] ((cp, .cells [kP k].toArray 78) :: ((k, .cells [.bool false, .pointer (some ⟨k, 1, none⟩), .slice pa bs.length ca, sV left].toArray 84) :: (Kb ++ ((d, .cells dc.toArray Td) :: H)))) (fun u L' => u = .tuple #[] ∧ okL fsF 512 L ∧ ∃ pa' ca' Kb', Slc 5 1 (.slice pa' (bs ++ encL fsF L).length ca') (bs ++ encL fsF L).length (bC (bs ++ encL fsF L)) Kb' ∧ L' = (cp, .cells [kP k].toArray 78) :: ((k, .cells [.bool false, .pointer (some ⟨k, 1, none⟩), .slice pa' (bs ++ encL fsF L).length ca', sV left].toArray 84) :: (Kb' ++ ((d, .cells dc.toArray Td) :: H)))) (fun c L' => c = badC ∧ ¬ okL fsF 512 L ∧ L' = []) := by
 obtain ⟨sa, sc, rfl⟩ := hs.form
 have hw : widE fsF ≤ 20 := by decide
 have hll : L.length ≤ 512 → L.length < 9223372036854775807 := fun h => by omega
 refine TrE.enter Try.func43 rfl Try.ntmps43 rfl (fun W F => ?_)
 refine Wp.app ?_
 refine Wr ?_
 refine Om1 rfl rfl ?_
 refine Ops.pv (pv_nilCheck rfl) rfl ?_
 refine Ops.pv (pv_load rfl rfl hv) rfl ?_
 refine Ops.pv (pv_len_slice (T := 35) rfl rfl) rfl ?_
 refine Ops.ef rfl (ef_alloc1 tyZ3 rfl rfl) ?_
 rintro _ _ ⟨b1, rfl, rfl⟩
 refine Ops.ef rfl (ef_store1 rfl rfl (by first | rfl | assumption) (by first | rfl | assumption)) ?_
 rintro _ _ ⟨rfl, rfl⟩
 refine On ?_
 refine Wp.seq ?_
 refine Wr ?_
 refine Ol1 rfl rfl rfl rfl ?_
 refine Om1 rfl rfl ?_
 refine Ops.pv (pv_gtr rfl rfl) rfl ?_
 refine On ?_
 refine Wp.cond_dect rfl (fun h1 => ?_) (fun h1 => ?_)
 ·
  refine Wp.region ?_
  refine Ops.pv (pv_build rfl) rfl ?_
  refine Ops.pv (pv_iface rfl rfl) rfl ?_
  exact Ops.panic rfl ⟨[], ⟨rfl, fun ho => by have := ho.1; omega, rfl⟩, inferInstance⟩
 have hmost : L.length ≤ 512 := by omega
 refine Wp.skip ?_
 refine Ends.seq ?_
 refine Wr ?_
 refine Om1 rfl rfl ?_
 refine Ops.ef rfl (ef_buildSlice1 (k := 1) rfl rfl rfl rfl rfl) ?_
 rintro _ _ ⟨b2, rfl, rfl⟩
 refine Ops.efx rfl (efx_call (tr_twoW k left bs pa ca Kb hb b2 120 [.pointer (some ⟨b1, 0, none⟩)] b1 0 [.int .i64 (L.length : Int)] 3 [(L.length : Int)] rfl (one_hcc rfl) (by intro y hy; simp only [List.mem_cons, List.not_mem_nil, or_false] at hy; unfold RgI; omega) (by simp) (by simp) (by simp only [List.length_cons, List.length_nil]; omega)) rfl rfl) ?_ ?_
 ·
  rintro _ _ ⟨_, ⟨rfl, hno, rfl⟩, rfl⟩
  exact ⟨[], ⟨rfl, fun ho => hno (by intro y hy; simp only [List.mem_cons, List.not_mem_nil, or_false] at hy; omega), rfl⟩, inferInstance⟩
 rintro _ _ ⟨_, _, ⟨rfl, hok1, pa1, ca1, Kb1, hs1, rfl⟩, rfl, rfl⟩
 refine Ops.app ?_
 rw [encT1 (by omega)] at hs1 ⊢
 refine On ?_
 refine Wp.seq ?_
 refine Wr ?_
 refine Ol1 rfl rfl rfl rfl ?_
 refine Om1 rfl rfl ?_
 refine Ops.pv (pv_gtr rfl rfl) rfl ?_
 refine On ?_
 refine Wp.cond_dect rfl (fun h2 => by omega) (fun h2 => ?_)
 refine Wp.skip ?_
 refine Ends.seq ?_
 refine Wp.seq ?_
 refine Wr ?_
 refine Om1 rfl rfl ?_
 refine Ops.pv (pv_nilCheck rfl) rfl ?_
 refine Of1 rfl rfl rfl ?_
 refine Ol1 rfl rfl rfl rfl ?_
 refine On ?_
 refine Wp.cond_false rfl ?_
 refine Wp.skip ?_
 refine Ends.seq ?_
 refine Wr ?_
 refine Ol1 rfl rfl rfl rfl ?_
 refine Om1 rfl rfl ?_
 refine On ?_
 refine Wp.block ?_
 refine Wp.loopK (σ := Nat × List UInt8 × Option Addr × Nat × Hp) [(0, _), (1, _), (3, _), (33, _)] (fun s => [(34, .int .i64 s.1)]) (fun s => (cp, .cells [kP k].toArray 78) :: ((k, .cells [.bool false, .pointer (some ⟨k, 1, none⟩), .slice s.2.2.1 s.2.1.length s.2.2.2.1, sV left].toArray 84) :: (s.2.2.2.2 ++ ((d, .cells dc.toArray Td) :: (H ++ ((b1, .cells [.int .i64 L.length].toArray 3) :: F)))))) (fun s => s.1 ≤ L.length ∧ s.2.1 = bs ++ leB 2 L.length ++ encI fsF (L.take s.1) ∧ s.2.1.length = bs.length + 2 + s.1 * widE fsF ∧ (∀ e, e ∈ L.take s.1 → okE fsF e.1) ∧ Slc 5 1 (.slice s.2.2.1 s.2.1.length s.2.2.2.1) s.2.1.length (bC s.2.1) s.2.2.2.2) (fun s => L.length - s.1) (0, bs ++ leB 2 L.length, pa1, ca1, Kb1) ⟨Nat.zero_le _, by simp [encI], by simp [leB_len], by intro x hx; simp at hx, hs1⟩ ⟨rfl, rfl, rfl, rfl, trivial⟩ ⟨rfl, trivial⟩ (by intro w ho; (try dsimp only [List.nil_append, List.cons_append]); exact Drop.own ho) ?_
 rintro ⟨i, b9, pi, ci, Ki⟩ KK ⟨hi, he9, hel, hok, hsi⟩ hK
 dsimp only [List.cons_append, List.nil_append] at hK ⊢
 dsimp only at hi he9 hel hok hsi ⊢
 have hwi : i * widE fsF ≤ i * 20 := Nat.mul_le_mul_left _ hw
 refine Wr ?_
 refine Ops.pv (pv_lss rfl rfl) rfl ?_
 refine On ?_
 refine Wp.seq ?_
 refine Wp.cond_dect rfl (fun h3 => ?_) (fun h3 => ?_)
 ·
  obtain ⟨e, he⟩ : ∃ e, L[i]? = some e := ⟨_, List.getElem?_eq_getElem (by omega)⟩
  obtain ⟨eb, eo, cc, cap, hva, rfl, hx, _⟩ := slc_el hs he (by decide)
  cases hva
  refine Wp.skip ?_
  refine Ends.seq ?_
  refine Wp.seq ?_
  refine Wp.block ?_
  refine Wr ?_
  refine Om1 rfl rfl ?_
  refine Oa1 rfl rfl ?_
  refine On ?_
  refine Wp.seq ?_
  refine Wr ?_
  refine Om1 rfl rfl ?_
  refine Ops.pv (pv_nilCheck rfl) rfl ?_
  refine Of1 rfl rfl rfl ?_
  refine Ol1 rfl rfl rfl rfl ?_
  refine On ?_
  refine Wp.cond_false rfl ?_
  refine Wp.skip ?_
  refine Ends.seq ?_
  refine Wp.region ?_
  refine Om1 rfl rfl ?_
  refine Om1 rfl rfl ?_
  refine Ops.pv (pv_nilCheck rfl) rfl ?_
  refine Ops.pv (pv_load rfl rfl hv) rfl ?_
  refine Om1 rfl rfl ?_
  refine Ops.pv (pv_indexAddr (i := i) rfl rfl rfl (by omega)) rfl ?_
  refine Ops.efx rfl (efx_callf rfl rfl (tr_elW4 cp k left b9 pi ci Ki hsi (by omega) eb (eo + i * 3) cc 68 e hx) rfl) ?_ ?_
  ·
   rintro _ _ ⟨_, ⟨rfl, hno, rfl⟩, rfl⟩
   exact ⟨[], ⟨rfl, fun ho => hno (ho.2 e (List.mem_of_getElem? he)), rfl⟩, inferInstance⟩
  rintro _ _ ⟨_, _, ⟨rfl, hoke, pa3, ca3, Kb3, hs3, rfl⟩, rfl, rfl⟩
  refine Ops.app ?_
  refine Ops.nil ?_
  refine Ends.block_normal ?_
  refine Ends.seq ?_
  refine Wp.region ?_
  refine Ops.pv (pv_add rfl rfl (w64n (k := i + 1) (by omega) (by omega))) rfl ?_
  refine Om1 rfl rfl ?_
  refine Ops.nil ?_
  refine Ends.goes ?_
  refine Goes.back (hK (i + 1, b9 ++ encE fsF e.1, pa3, ca3, Kb3) ⟨by dsimp only; omega, by dsimp only; rw [encI_take he, he9, List.append_assoc], by dsimp only; rw [List.length_append, encE_len e.len, hel, Nat.add_mul]; omega, all_take he hok hoke, hs3⟩ (by dsimp only; omega)) ⟨rfl, rfl, rfl, rfl, rfl, trivial⟩
 obtain rfl : i = L.length := by omega
 refine Wp.exit ?_
 refine Ends.then_exit ?_
 refine Ends.then_exit ?_
 refine Ends.block_hit ?_
 rw [List.take_length] at he9 hok
 have hbe : bs ++ encL fsF L = b9 := by rw [he9, encL, List.append_assoc]
 rw [hbe]
 exact Ends.finE (L' := (cp, .cells [kP k].toArray 78) :: ((k, .cells [.bool false, .pointer (some ⟨k, 1, none⟩), .slice pi b9.length ci, sV left].toArray 84) :: (Ki ++ ((d, .cells dc.toArray Td) :: H)))) (res0 rfl) ⟨rfl, ⟨hmost, hok⟩, pi, ci, Ki, hsi, rfl⟩
theorem tr_elW5 (cp : Nat) (k : Nat) (left : List UInt8) (bs : List UInt8) (pa : Option Addr) (ca : Nat) (Kb : Hp) (hb : Slc 5 1 (.slice pa bs.length ca) bs.length (bC bs) Kb) (hl : bs.length ≤ 2 ^ 38) (eb off : Nat) (cc : List Value) (Te : TypeId) (e : El fsT) (hx : Lies cc off (cE fsT e)) :
    TrE Try.prog 46 [.pointer (some ⟨eb, off, none⟩), .pointer (some ⟨cp, 0, none⟩)] ((cp, .cells [kP k].toArray 78) :: ((k, .cells [.bool false, .pointer (some ⟨k, 1, none⟩), .slice pa bs.length ca, sV left].toArray 84) :: (Kb ++ [(eb, .cells cc.toArray Te)]))) (fun u L' => u = .tuple #[] ∧ okE fsT e.1 ∧ ∃ pa' ca' Kb', Slc 5 1 (.slice pa' (bs ++ encE fsT e.1).length ca') (bs ++ encE fsT e.1).length (bC (bs ++ encE fsT e.1)) Kb' ∧ L' = (cp, .cells [kP k].toArray 78) :: ((k, .cells [.bool false, .pointer (some ⟨k, 1, none⟩), .slice pa' (bs ++ encE fsT e.1).length ca', sV left].toArray 84) :: (Kb' ++ [(eb, .cells cc.toArray Te)]))) (fun c L' => c = badC ∧ ¬ okE fsT e.1 ∧ L' = []) := by
  obtain ⟨a0, a1, a2, a3, a4, a5, a6, a7, he⟩ := El.eight rfl e
  unfold cE at hx
  have hr := e.rg
  rw [he] at hx hr ⊢
  exact tr_allW5 cp k left bs pa ca Kb hb hl eb off cc Te a0 a1 a2 a3 a4 a5 a6 a7 hr hx
theorem tr_elR5 (cp : Nat) (k : Nat) (adr bv : Value) (left : List UInt8) (hl : left.length ≤ 2 ^ 40) (h1b : bv.oneCell' = true) (h1a : adr.oneCell' = true) (eb off : Nat) (cc : List Value) (Te : TypeId) (hx : Lies cc off (cE fsT (zEl fsT))) :
    TrE Try.prog 46 [.pointer (some ⟨eb, off, none⟩), .pointer (some ⟨cp, 0, none⟩)] ((cp, .cells [kP k].toArray 78) :: ((k, .cells [.bool true, adr, bv, sV left].toArray 84) :: [(eb, .cells cc.toArray Te)])) (fun u L' => u = .tuple #[] ∧ ∃ e' left', rdE fsT left = some (e', left') ∧ L' = (cp, .cells [kP k].toArray 78) :: ((k, .cells [.bool true, adr, bv, sV left'].toArray 84) :: [(eb, .cells (setAt cc off (cE fsT (mkEl fsT e'))).toArray Te)])) (fun c L' => c = badC ∧ rdE fsT left = none ∧ L' = []) :=
  (tr_allR5 cp k adr bv left hl h1b h1a eb off cc Te hx).mono (fun u L' h => by obtain ⟨hu, e', l', h1, h2⟩ := h; exact ⟨hu, e', l', h1, by rw [rdE_cE h1]; exact h2⟩) (fun c L' h => h)
set_option maxHeartbeats 8000000 in
theorem tr_listW5 (cp : Nat) (k : Nat) (left : List UInt8) (bs : List UInt8) (pa : Option Addr) (ca : Nat) (Kb : Hp) (hb : Slc 5 1 (.slice pa bs.length ca) bs.length (bC bs) Kb) (hl : bs.length ≤ 2 ^ 37) (d o : Nat) (dc : List Value) (Td : TypeId) (v : Value) (hv : nth dc o = some v) (L : List (El fsT)) (H : Hp) (hs : Slc 71 8 v L.length (cel (cE fsT) L) H) : TrE Try.prog 45 [kP k, .pointer (some ⟨d, o, none⟩), .int .i64 64, .func (.func 46) #[] #[.pointer (some ⟨cp, 0, none⟩)]] ((cp, .cells [kP k].toArray 78) :: ((k, .cells [.bool false, .pointer (some ⟨k, 1, none⟩), .slice pa bs.length ca, sV left].toArray 84) :: (Kb ++ ((d, .cells dc.toArray Td) :: H)))) (fun u L' => u = .tuple #[] ∧ okL fsT 64 L ∧ ∃ pa' ca' Kb', Slc 5 1 (.slice pa' (bs ++ encL fsT L).length ca') (bs ++ encL fsT L).length (bC (bs ++ encL fsT L)) Kb' ∧ L' = (cp, .cells [kP k].toArray 78) :: ((k, .cells [.bool false, .pointer (some ⟨k, 1, none⟩), .slice pa' (bs ++ encL fsT L).length ca', sV left].toArray 84) :: (Kb' ++ ((d, .cells dc.toArray Td) :: H)))) (fun c L' => c = badC ∧ ¬ okL fsT 64 L ∧ L' = []) := by
 obtain ⟨sa, sc, rfl⟩ := hs.form
 have hw : widE fsT ≤ 20 := by decide
 have hll : L.length ≤ 64 → L.length < 9223372036854775807 := fun h => by omega
 refine TrE.enter Try.func45 rfl Try.ntmps45 rfl (fun W F => ?_)
 refine Wp.app ?_
 refine Wr ?_
 refine Om1 rfl rfl ?_
 refine Ops.pv (pv_nilCheck rfl) rfl ?_
 refine Ops.pv (pv_load rfl rfl hv) rfl ?_
 refine Ops.pv (pv_len_slice (T := 36) rfl rfl) rfl ?_
 refine Ops.ef rfl (ef_alloc1 tyZ3 rfl rfl) ?_
 rintro _ _ ⟨b1, rfl, rfl⟩
 refine Ops.ef rfl (ef_store1 rfl rfl (by first | rfl | assumption) (by first | rfl | assumption)) ?_
 rintro _ _ ⟨rfl, rfl⟩
 refine On ?_
 refine Wp.seq ?_
 refine Wr ?_
 refine Ol1 rfl rfl rfl rfl ?_
 refine Om1 rfl rfl ?_
 refine Ops.pv (pv_gtr rfl rfl) rfl ?_
 refine On ?_
 refine Wp.cond_dect rfl (fun h1 => ?_) (fun h1 => ?_)
 ·
  refine Wp.region ?_
  refine Ops.pv (pv_build rfl) rfl ?_
  refine Ops.pv (pv_iface rfl rfl) rfl ?_
  exact Ops.panic rfl ⟨[], ⟨rfl, fun ho => by have := ho.1; omega, rfl⟩, inferInstance⟩
 have hmost : L.length ≤ 64 := by omega
 refine Wp.skip ?_
 refine Ends.seq ?_
 refine Wr ?_
 refine Om1 rfl rfl ?_
 refine Ops.ef rfl (ef_buildSlice1 (k := 1) rfl rfl rfl rfl rfl) ?_
 rintro _ _ ⟨b2, rfl, rfl⟩
 refine Ops.efx rfl (efx_call (tr_twoW k left bs pa ca Kb hb b2 120 [.pointer (some ⟨b1, 0, none⟩)] b1 0 [.int .i64 (L.length : Int)] 3 [(L.length : Int)] rfl (one_hcc rfl) (by intro y hy; simp only [List.mem_cons, List.not_mem_nil, or_false] at hy; unfold RgI; omega) (by simp) (by simp) (by simp only [List.length_cons, List.length_nil]; omega)) rfl rfl) ?_ ?_
 ·
  rintro _ _ ⟨_, ⟨rfl, hno, rfl⟩, rfl⟩
  exact ⟨[], ⟨rfl, fun ho => hno (by intro y hy; simp only [List.mem_cons, List.not_mem_nil, or_false] at hy; omega), rfl⟩, inferInstance⟩
 rintro _ _ ⟨_, _, ⟨rfl, hok1, pa1, ca1, Kb1, hs1, rfl⟩, rfl, rfl⟩
 refine Ops.app ?_
 rw [encT1 (by omega)] at hs1 ⊢
 refine On ?_
 refine Wp.seq ?_
 refine Wr ?_
 refine Ol1 rfl rfl rfl rfl ?_
 refine Om1 rfl rfl ?_
 refine Ops.pv (pv_gtr rfl rfl) rfl ?_
 refine On ?_
 refine Wp.cond_dect rfl (fun h2 => by omega) (fun h2 => ?_)
 refine Wp.skip ?_
 refine Ends.seq ?_
 refine Wp.seq ?_
 refine Wr ?_
 refine Om1 rfl rfl ?_
 refine Ops.pv (pv_nilCheck rfl) rfl ?_
 refine Of1 rfl rfl rfl ?_
 refine Ol1 rfl rfl rfl rfl ?_
 refine On ?_
 refine Wp.cond_false rfl ?_
 refine Wp.skip ?_
 refine Ends.seq ?_
 refine Wr ?_
 refine Ol1 rfl rfl rfl rfl ?_
 refine Om1 rfl rfl ?_
 refine On ?_
 refine Wp.block ?_
 refine Wp.loopK (σ := Nat × List UInt8 × Option Addr × Nat × Hp) [(0, _), (1, _), (3, _), (33, _)] (fun s => [(34, .int .i64 s.1)]) (fun s => (cp, .cells [kP k].toArray 78) :: ((k, .cells [.bool false, .pointer (some ⟨k, 1, none⟩), .slice s.2.2.1 s.2.1.length s.2.2.2.1, sV left].toArray 84) :: (s.2.2.2.2 ++ ((d, .cells dc.toArray Td) :: (H ++ ((b1, .cells [.int .i64 L.length].toArray 3) :: F)))))) (fun s => s.1 ≤ L.length ∧ s.2.1 = bs ++ leB 2 L.length ++ encI fsT (L.take s.1) ∧ s.2.1.length = bs.length + 2 + s.1 * widE fsT ∧ (∀ e, e ∈ L.take s.1 → okE fsT e.1) ∧ Slc 5 1 (.slice s.2.2.1 s.2.1.length s.2.2.2.1) s.2.1.length (bC s.2.1) s.2.2.2.2) (fun s => L.length - s.1) (0, bs ++ leB 2 L.length, pa1, ca1, Kb1) ⟨Nat.zero_le _, by simp [encI], by simp [leB_len], by intro x hx; simp at hx, hs1⟩ ⟨rfl, rfl, rfl, rfl, trivial⟩ ⟨rfl, trivial⟩ (by intro w ho; (try dsimp only [List.nil_append, List.cons_append]); exact Drop.own ho) ?_
 rintro ⟨i, b9, pi, ci, Ki⟩ KK ⟨hi, he9, hel, hok, hsi⟩ hK
 dsimp only [List.cons_append, List.nil_append] at hK ⊢
 dsimp only at hi he9 hel hok hsi ⊢
 have hwi : i * widE fsT ≤ i * 20 := Nat.mul_le_mul_left _ hw
 refine Wr ?_
 refine Ops.pv (pv_lss rfl rfl) rfl ?_
 refine On ?_
 refine Wp.seq ?_
 refine Wp.cond_dect rfl (fun h3 => ?_) (fun h3 => ?_)
 ·
  obtain ⟨e, he⟩ : ∃ e, L[i]? = some e := ⟨_, List.getElem?_eq_getElem (by omega)⟩
  obtain ⟨eb, eo, cc, cap, hva, rfl, hx, _⟩ := slc_el hs he (by decide)
  cases hva
  refine Wp.skip ?_
  refine Ends.seq ?_
  refine Wp.seq ?_
  refine Wp.block ?_
  refine Wr ?_
  refine Om1 rfl rfl ?_
  refine Oa1 rfl rfl ?_
  refine On ?_
  refine Wp.seq ?_
  refine Wr ?_
  refine Om1 rfl rfl ?_
  refine Ops.pv (pv_nilCheck rfl) rfl ?_
  refine Of1 rfl rfl rfl ?_
  refine Ol1 rfl rfl rfl rfl ?_
  refine On ?_
  refine Wp.cond_false rfl ?_
  refine Wp.skip ?_
  refine Ends.seq ?_
  refine Wp.region ?_
  refine Om1 rfl rfl ?_
  refine Om1 rfl rfl ?_
  refine Ops.pv (pv_nilCheck rfl) rfl ?_
  refine Ops.pv (pv_load rfl rfl hv) rfl ?_
  refine Om1 rfl rfl ?_
  refine Ops.pv (pv_indexAddr (i := i) rfl rfl rfl (by omega)) rfl ?_
  refine Ops.efx rfl (efx_callf rfl rfl (tr_elW5 cp k left b9 pi ci Ki hsi (by omega) eb (eo + i * 8) cc 71 e hx) rfl) ?_ ?_
  ·
   rintro _ _ ⟨_, ⟨rfl, hno, rfl⟩, rfl⟩
   exact ⟨[], ⟨rfl, fun ho => hno (ho.2 e (List.mem_of_getElem? he)), rfl⟩, inferInstance⟩
  rintro _ _ ⟨_, _, ⟨rfl, hoke, pa3, ca3, Kb3, hs3, rfl⟩, rfl, rfl⟩
  refine Ops.app ?_
  refine Ops.nil ?_
  refine Ends.block_normal ?_
  refine Ends.seq ?_
  refine Wp.region ?_
  refine Ops.pv (pv_add rfl rfl (w64n (k := i + 1) (by omega) (by omega))) rfl ?_
  refine Om1 rfl rfl ?_
  refine Ops.nil ?_
  refine Ends.goes ?_
  refine Goes.back (hK (i + 1, b9 ++ encE fsT e.1, pa3, ca3, Kb3) ⟨by dsimp only; omega, by dsimp only; rw [encI_take he, he9, List.append_assoc], by dsimp only; rw [List.length_append, encE_len e.len, hel, Nat.add_mul]; omega, all_take he hok hoke, hs3⟩ (by dsimp only; omega)) ⟨rfl, rfl, rfl, rfl, rfl, trivial⟩
 obtain rfl : i = L.length := by omega
 refine Wp.exit ?_
 refine Ends.then_exit ?_
 refine Ends.then_exit ?_
 refine Ends.block_hit ?_
 rw [List.take_length] at he9 hok
 have hbe : bs ++ encL fsT L = b9 := by rw [he9, encL, List.append_assoc]
 rw [hbe]
 exact Ends.finE (L' := (cp, .cells [kP k].toArray 78) :: ((k, .cells [.bool false, .pointer (some ⟨k, 1, none⟩), .slice pi b9.length ci, sV left].toArray 84) :: (Ki ++ ((d, .cells dc.toArray Td) :: H)))) (res0 rfl) ⟨rfl, ⟨hmost, hok⟩, pi, ci, Ki, hsi, rfl⟩
theorem tr_elW6 (cp : Nat) (k : Nat) (left : List UInt8) (bs : List UInt8) (pa : Option Addr) (ca : Nat) (Kb : Hp) (hb : Slc 5 1 (.slice pa bs.length ca) bs.length (bC bs) Kb) (hl : bs.length ≤ 2 ^ 38) (eb off : Nat) (cc : List Value) (Te : TypeId) (e : El fsW) (hx : Lies cc off (cE fsW e)) :
    TrE Try.prog 48 [.pointer (some ⟨eb, off, none⟩), .pointer (some ⟨cp, 0, none⟩)] ((cp, .cells [kP k].toArray 78) :: ((k, .cells [.bool false, .pointer (some ⟨k, 1, none⟩), .slice pa bs.length ca, sV left].toArray 84) :: (Kb ++ [(eb, .cells cc.toArray Te)]))) (fun u L' => u = .tuple #[] ∧ okE fsW e.1 ∧ ∃ pa' ca' Kb', Slc 5 1 (.slice pa' (bs ++ encE fsW e.1).length ca') (bs ++ encE fsW e.1).length (bC (bs ++ encE fsW e.1)) Kb' ∧ L' = (cp, .cells [kP k].toArray 78) :: ((k, .cells [.bool false, .pointer (some ⟨k, 1, none⟩), .slice pa' (bs ++ encE fsW e.1).length ca', sV left].toArray 84) :: (Kb' ++ [(eb, .cells cc.toArray Te)]))) (fun c L' => c = badC ∧ ¬ okE fsW e.1 ∧ L' = []) := by
  obtain ⟨a0, a1, a2, a3, he⟩ := El.four rfl e
  unfold cE at hx
  have hr := e.rg
  rw [he] at hx hr ⊢
  exact tr_allW6 cp k left bs pa ca Kb hb hl eb off cc Te a0 a1 a2 a3 hr hx
theorem tr_elR6 (cp : Nat) (k : Nat) (adr bv : Value) (left : List UInt8) (hl : left.length ≤ 2 ^ 40) (h1b : bv.oneCell' = true) (h1a : adr.oneCell' = true) (eb off : Nat) (cc : List Value) (Te : TypeId) (hx : Lies cc off (cE fsW (zEl fsW))) :
    TrE Try.prog 48 [.pointer (some ⟨eb, off, none⟩), .pointer (some ⟨cp, 0, none⟩)] ((cp, .cells [kP k].toArray 78) :: ((k, .cells [.bool true, adr, bv, sV left].toArray 84) :: [(eb, .cells cc.toArray Te)])) (fun u L' => u = .tuple #[] ∧ ∃ e' left', rdE fsW left = some (e', left') ∧ L' = (cp, .cells [kP k].toArray 78) :: ((k, .cells [.bool true, adr, bv, sV left'].toArray 84) :: [(eb, .cells (setAt cc off (cE fsW (mkEl fsW e'))).toArray Te)])) (fun c L' => c = badC ∧ rdE fsW left = none ∧ L' = []) :=
  (tr_allR6 cp k adr bv left hl h1b h1a eb off cc Te hx).mono (fun u L' h => by obtain ⟨hu, e', l', h1, h2⟩ := h; exact ⟨hu, e', l', h1, by rw [rdE_cE h1]; exact h2⟩) (fun c L' h => h)
set_option maxHeartbeats 8000000 in
theorem tr_listW6 (cp : Nat) (k : Nat) (left : List UInt8) (bs : List UInt8) (pa : Option Addr) (ca : Nat) (Kb : Hp) (hb : Slc 5 1 (.slice pa bs.length ca) bs.length (bC bs) Kb) (hl : bs.length ≤ 2 ^ 37) (d o : Nat) (dc : List Value) (Td : TypeId) (v : Value) (hv : nth dc o = some v) (L : List (El fsW)) (H : Hp) (hs : Slc 74 4 v L.length (cel (cE fsW) L) H) : TrE Try.prog 47 [kP k, .pointer (some ⟨d, o, none⟩), .int .i64 8, .func (.func 48) #[] #[.pointer (some ⟨cp, 0, none⟩)]] ((cp, .cells [kP k].toArray 78) :: ((k, .cells [.bool false, .pointer (some ⟨k, 1, none⟩), .slice pa bs.length ca, sV left].toArray 84) :: (Kb ++ ((d, .cells dc.toArray Td) :: H)))) (fun u L' => u = .tuple #[] ∧ okL fsW 8 L ∧ ∃ pa' ca' Kb', Slc 5 1 (.slice pa' (bs ++ encL fsW L).length ca') (bs ++ encL fsW L).length (bC (bs ++ encL fsW L)) Kb' ∧ L' = (cp, .cells [kP k].toArray 78) :: ((k, .cells [.bool false, .pointer (some ⟨k, 1, none⟩), .slice pa' (bs ++ encL fsW L).length ca', sV left].toArray 84) :: (Kb' ++ ((d, .cells dc.toArray Td) :: H)))) (fun c L' => c = badC ∧ ¬ okL fsW 8 L ∧ L' = []) := by
 obtain ⟨sa, sc, rfl⟩ := hs.form
 have hw : widE fsW ≤ 20 := by decide
 have hll : L.length ≤ 8 → L.length < 9223372036854775807 := fun h => by omega
 refine TrE.enter Try.func47 rfl Try.ntmps47 rfl (fun W F => ?_)
 refine Wp.app ?_
 refine Wr ?_
 refine Om1 rfl rfl ?_
 refine Ops.pv (pv_nilCheck rfl) rfl ?_
 refine Ops.pv (pv_load rfl rfl hv) rfl ?_
 refine Ops.pv (pv_len_slice (T := 37) rfl rfl) rfl ?_
 refine Ops.ef rfl (ef_alloc1 tyZ3 rfl rfl) ?_
 rintro _ _ ⟨b1, rfl, rfl⟩
 refine Ops.ef rfl (ef_store1 rfl rfl (by first | rfl | assumption) (by first | rfl | assumption)) ?_
 rintro _ _ ⟨rfl, rfl⟩
 refine On ?_
 refine Wp.seq ?_
 refine Wr ?_
 refine Ol1 rfl rfl rfl rfl ?_
 refine Om1 rfl rfl ?_
 refine Ops.pv (pv_gtr rfl rfl) rfl ?_
 refine On ?_
 refine Wp.cond_dect rfl (fun h1 => ?_) (fun h1 => ?_)
 ·
  refine Wp.region ?_
  refine Ops.pv (pv_build rfl) rfl ?_
  refine Ops.pv (pv_iface rfl rfl) rfl ?_
  exact Ops.panic rfl ⟨[], ⟨rfl, fun ho => by have := ho.1; omega, rfl⟩, inferInstance⟩
 have hmost : L.length ≤ 8 := by omega
 refine Wp.skip ?_
 refine Ends.seq ?_
 refine Wr ?_
 refine Om1 rfl rfl ?_
 refine Ops.ef rfl (ef_buildSlice1 (k := 1) rfl rfl rfl rfl rfl) ?_
 rintro _ _ ⟨b2, rfl, rfl⟩
 refine Ops.efx rfl (efx_call (tr_twoW k left bs pa ca Kb hb b2 120 [.pointer (some ⟨b1, 0, none⟩)] b1 0 [.int .i64 (L.length : Int)] 3 [(L.length : Int)] rfl (one_hcc rfl) (by intro y hy; simp only [List.mem_cons, List.not_mem_nil, or_false] at hy; unfold RgI; omega) (by simp) (by simp) (by simp only [List.length_cons, List.length_nil]; omega)) rfl rfl) ?_ ?_
 ·
  rintro _ _ ⟨_, ⟨rfl, hno, rfl⟩, rfl⟩
  exact ⟨[], ⟨rfl, fun ho => hno (by intro y hy; simp only [List.mem_cons, List.not_mem_nil, or_false] at hy; omega), rfl⟩, inferInstance⟩
 rintro _ _ ⟨_, _, ⟨rfl, hok1, pa1, ca1, Kb1, hs1, rfl⟩, rfl, rfl⟩
 refine Ops.app ?_
 rw [encT1 (by omega)] at hs1 ⊢
 refine On ?_
 refine Wp.seq ?_
 refine Wr ?_
 refine Ol1 rfl rfl rfl rfl ?_
 refine Om1 rfl rfl ?_
 refine Ops.pv (pv_gtr rfl rfl) rfl ?_
 refine On ?_
 refine Wp.cond_dect rfl (fun h2 => by omega) (fun h2 => ?_)
 refine Wp.skip ?_
 refine Ends.seq ?_
 refine Wp.seq ?_
 refine Wr ?_
 refine Om1 rfl rfl ?_
 refine Ops.pv (pv_nilCheck rfl) rfl ?_
 refine Of1 rfl rfl rfl ?_
 refine Ol1 rfl rfl rfl rfl ?_
 refine On ?_
 refine Wp.cond_false rfl ?_
 refine Wp.skip ?_
 refine Ends.seq ?_
 refine Wr ?_
 refine Ol1 rfl rfl rfl rfl ?_
 refine Om1 rfl rfl ?_
 refine On ?_
 refine Wp.block ?_
 refine Wp.loopK (σ := Nat × List UInt8 × Option Addr × Nat × Hp) [(0, _), (1, _), (3, _), (33, _)] (fun s => [(34, .int .i64 s.1)]) (fun s => (cp, .cells [kP k].toArray 78) :: ((k, .cells [.bool false, .pointer (some ⟨k, 1, none⟩), .slice s.2.2.1 s.2.1.length s.2.2.2.1, sV left].toArray 84) :: (s.2.2.2.2 ++ ((d, .cells dc.toArray Td) :: (H ++ ((b1, .cells [.int .i64 L.length].toArray 3) :: F)))))) (fun s => s.1 ≤ L.length ∧ s.2.1 = bs ++ leB 2 L.length ++ encI fsW (L.take s.1) ∧ s.2.1.length = bs.length + 2 + s.1 * widE fsW ∧ (∀ e, e ∈ L.take s.1 → okE fsW e.1) ∧ Slc 5 1 (.slice s.2.2.1 s.2.1.length s.2.2.2.1) s.2.1.length (bC s.2.1) s.2.2.2.2) (fun s => L.length - s.1) (0, bs ++ leB 2 L.length, pa1, ca1, Kb1) ⟨Nat.zero_le _, by simp [encI], by simp [leB_len], by intro x hx; simp at hx, hs1⟩ ⟨rfl, rfl, rfl, rfl, trivial⟩ ⟨rfl, trivial⟩ (by intro w ho; (try dsimp only [List.nil_append, List.cons_append]); exact Drop.own ho) ?_
 rintro ⟨i, b9, pi, ci, Ki⟩ KK ⟨hi, he9, hel, hok, hsi⟩ hK
 dsimp only [List.cons_append, List.nil_append] at hK ⊢
 dsimp only at hi he9 hel hok hsi ⊢
 have hwi : i * widE fsW ≤ i * 20 := Nat.mul_le_mul_left _ hw
 refine Wr ?_
 refine Ops.pv (pv_lss rfl rfl) rfl ?_
 refine On ?_
 refine Wp.seq ?_
 refine Wp.cond_dect rfl (fun h3 => ?_) (fun h3 => ?_)
 ·
  obtain ⟨e, he⟩ : ∃ e, L[i]? = some e := ⟨_, List.getElem?_eq_getElem (by omega)⟩
  obtain ⟨eb, eo, cc, cap, hva, rfl, hx, _⟩ := slc_el hs he (by decide)
  cases hva
  refine Wp.skip ?_
  refine Ends.seq ?_
  refine Wp.seq ?_
  refine Wp.block ?_
  refine Wr ?_
  refine Om1 rfl rfl ?_
  refine Oa1 rfl rfl ?_
  refine On ?_
  refine Wp.seq ?_
  refine Wr ?_
  refine Om1 rfl rfl ?_
  refine Ops.pv (pv_nilCheck rfl) rfl ?_
  refine Of1 rfl rfl rfl ?_
  refine Ol1 rfl rfl rfl rfl ?_
  refine On ?_
  refine Wp.cond_false rfl ?_
  refine Wp.skip ?_
  refine Ends.seq ?_
  refine Wp.region ?_
  refine Om1 rfl rfl ?_
  refine Om1 rfl rfl ?_
  refine Ops.pv (pv_nilCheck rfl) rfl ?_
  refine Ops.pv (pv_load rfl rfl hv) rfl ?_
  refine Om1 rfl rfl ?_
  refine Ops.pv (pv_indexAddr (i := i) rfl rfl rfl (by omega)) rfl ?_
  refine Ops.efx rfl (efx_callf rfl rfl (tr_elW6 cp k left b9 pi ci Ki hsi (by omega) eb (eo + i * 4) cc 74 e hx) rfl) ?_ ?_
  ·
   rintro _ _ ⟨_, ⟨rfl, hno, rfl⟩, rfl⟩
   exact ⟨[], ⟨rfl, fun ho => hno (ho.2 e (List.mem_of_getElem? he)), rfl⟩, inferInstance⟩
  rintro _ _ ⟨_, _, ⟨rfl, hoke, pa3, ca3, Kb3, hs3, rfl⟩, rfl, rfl⟩
  refine Ops.app ?_
  refine Ops.nil ?_
  refine Ends.block_normal ?_
  refine Ends.seq ?_
  refine Wp.region ?_
  refine Ops.pv (pv_add rfl rfl (w64n (k := i + 1) (by omega) (by omega))) rfl ?_
  refine Om1 rfl rfl ?_
  refine Ops.nil ?_
  refine Ends.goes ?_
  refine Goes.back (hK (i + 1, b9 ++ encE fsW e.1, pa3, ca3, Kb3) ⟨by dsimp only; omega, by dsimp only; rw [encI_take he, he9, List.append_assoc], by dsimp only; rw [List.length_append, encE_len e.len, hel, Nat.add_mul]; omega, all_take he hok hoke, hs3⟩ (by dsimp only; omega)) ⟨rfl, rfl, rfl, rfl, rfl, trivial⟩
 obtain rfl : i = L.length := by omega
 refine Wp.exit ?_
 refine Ends.then_exit ?_
 refine Ends.then_exit ?_
 refine Ends.block_hit ?_
 rw [List.take_length] at he9 hok
 have hbe : bs ++ encL fsW L = b9 := by rw [he9, encL, List.append_assoc]
 rw [hbe]
 exact Ends.finE (L' := (cp, .cells [kP k].toArray 78) :: ((k, .cells [.bool false, .pointer (some ⟨k, 1, none⟩), .slice pi b9.length ci, sV left].toArray 84) :: (Ki ++ ((d, .cells dc.toArray Td) :: H)))) (res0 rfl) ⟨rfl, ⟨hmost, hok⟩, pi, ci, Ki, hsi, rfl⟩
theorem tr_elW7 (cp : Nat) (k : Nat) (left : List UInt8) (bs : List UInt8) (pa : Option Addr) (ca : Nat) (Kb : Hp) (hb : Slc 5 1 (.slice pa bs.length ca) bs.length (bC bs) Kb) (hl : bs.length ≤ 2 ^ 38) (eb off : Nat) (cc : List Value) (Te : TypeId) (e : El fsS) (hx : Lies cc off (cE fsS e)) :
    TrE Try.prog 50 [.pointer (some ⟨eb, off, none⟩), .pointer (some ⟨cp, 0, none⟩)] ((cp, .cells [kP k].toArray 78) :: ((k, .cells [.bool false, .pointer (some ⟨k, 1, none⟩), .slice pa bs.length ca, sV left].toArray 84) :: (Kb ++ [(eb, .cells cc.toArray Te)]))) (fun u L' => u = .tuple #[] ∧ okE fsS e.1 ∧ ∃ pa' ca' Kb', Slc 5 1 (.slice pa' (bs ++ encE fsS e.1).length ca') (bs ++ encE fsS e.1).length (bC (bs ++ encE fsS e.1)) Kb' ∧ L' = (cp, .cells [kP k].toArray 78) :: ((k, .cells [.bool false, .pointer (some ⟨k, 1, none⟩), .slice pa' (bs ++ encE fsS e.1).length ca', sV left].toArray 84) :: (Kb' ++ [(eb, .cells cc.toArray Te)]))) (fun c L' => c = badC ∧ ¬ okE fsS e.1 ∧ L' = []) := by
  obtain ⟨a0, a1, he⟩ := El.two rfl e
  unfold cE at hx
  have hr := e.rg
  rw [he] at hx hr ⊢
  exact tr_allW7 cp k left bs pa ca Kb hb hl eb off cc Te a0 a1 hr hx
theorem tr_elR7 (cp : Nat) (k : Nat) (adr bv : Value) (left : List UInt8) (hl : left.length ≤ 2 ^ 40) (h1b : bv.oneCell' = true) (h1a : adr.oneCell' = true) (eb off : Nat) (cc : List Value) (Te : TypeId) (hx : Lies cc off (cE fsS (zEl fsS))) :
    TrE Try.prog 50 [.pointer (some ⟨eb, off, none⟩), .pointer (some ⟨cp, 0, none⟩)] ((cp, .cells [kP k].toArray 78) :: ((k, .cells [.bool true, adr, bv, sV left].toArray 84) :: [(eb, .cells cc.toArray Te)])) (fun u L' => u = .tuple #[] ∧ ∃ e' left', rdE fsS left = some (e', left') ∧ L' = (cp, .cells [kP k].toArray 78) :: ((k, .cells [.bool true, adr, bv, sV left'].toArray 84) :: [(eb, .cells (setAt cc off (cE fsS (mkEl fsS e'))).toArray Te)])) (fun c L' => c = badC ∧ rdE fsS left = none ∧ L' = []) :=
  (tr_allR7 cp k adr bv left hl h1b h1a eb off cc Te hx).mono (fun u L' h => by obtain ⟨hu, e', l', h1, h2⟩ := h; exact ⟨hu, e', l', h1, by rw [rdE_cE h1]; exact h2⟩) (fun c L' h => h)
set_option maxHeartbeats 8000000 in
theorem tr_listW7 (cp : Nat) (k : Nat) (left : List UInt8) (bs : List UInt8) (pa : Option Addr) (ca : Nat) (Kb : Hp) (hb : Slc 5 1 (.slice pa bs.length ca) bs.length (bC bs) Kb) (hl : bs.length ≤ 2 ^ 37) (d o : Nat) (dc : List Value) (Td : TypeId) (v : Value) (hv : nth dc o = some v) (L : List (El fsS)) (H : Hp) (hs : Slc 77 2 v L.length (cel (cE fsS) L) H) : TrE Try.prog 49 [kP k, .pointer (some ⟨d, o, none⟩), .int .i64 16, .func (.func 50) #[] #[.pointer (some ⟨cp, 0, none⟩)]] ((cp, .cells [kP k].toArray 78) :: ((k, .cells [.bool false, .pointer (some ⟨k, 1, none⟩), .slice pa bs.length ca, sV left].toArray 84) :: (Kb ++ ((d, .cells dc.toArray Td) :: H)))) (fun u L' => u = .tuple #[] ∧ okL fsS 16 L ∧ ∃ pa' ca' Kb', Slc 5 1 (.slice pa' (bs ++ encL fsS L).length ca') (bs ++ encL fsS L).length (bC (bs ++ encL fsS L)) Kb' ∧ L' = (cp, .cells [kP k].toArray 78) :: ((k, .cells [.bool false, .pointer (some ⟨k, 1, none⟩), .slice pa' (bs ++ encL fsS L).length ca', sV left].toArray 84) :: (Kb' ++ ((d, .cells dc.toArray Td) :: H)))) (fun c L' => c = badC ∧ ¬ okL fsS 16 L ∧ L' = []) := by
 obtain ⟨sa, sc, rfl⟩ := hs.form
 have hw : widE fsS ≤ 20 := by decide
 have hll : L.length ≤ 16 → L.length < 9223372036854775807 := fun h => by omega
 refine TrE.enter Try.func49 rfl Try.ntmps49 rfl (fun W F => ?_)
 refine Wp.app ?_
 refine Wr ?_
 refine Om1 rfl rfl ?_
 refine Ops.pv (pv_nilCheck rfl) rfl ?_
 refine Ops.pv (pv_load rfl rfl hv) rfl ?_
 refine Ops.pv (pv_len_slice (T := 38) rfl rfl) rfl ?_
 refine Ops.ef rfl (ef_alloc1 tyZ3 rfl rfl) ?_
 rintro _ _ ⟨b1, rfl, rfl⟩
 refine Ops.ef rfl (ef_store1 rfl rfl (by first | rfl | assumption) (by first | rfl | assumption)) ?_
 rintro _ _ ⟨rfl, rfl⟩
 refine On ?_
 refine Wp.seq ?_
 refine Wr ?_
 refine Ol1 rfl rfl rfl rfl ?_
 refine Om1 rfl rfl ?_
 refine Ops.pv (pv_gtr rfl rfl) rfl ?_
 refine On ?_
 refine Wp.cond_dect rfl (fun h1 => ?_) (fun h1 => ?_)
 ·
  refine Wp.region ?_
  refine Ops.pv (pv_build rfl) rfl ?_
  refine Ops.pv (pv_iface rfl rfl) rfl ?_
  exact Ops.panic rfl ⟨[], ⟨rfl, fun ho => by have := ho.1; omega, rfl⟩, inferInstance⟩
 have hmost : L.length ≤ 16 := by omega
 refine Wp.skip ?_
 refine Ends.seq ?_
 refine Wr ?_
 refine Om1 rfl rfl ?_
 refine Ops.ef rfl (ef_buildSlice1 (k := 1) rfl rfl rfl rfl rfl) ?_
 rintro _ _ ⟨b2, rfl, rfl⟩
 refine Ops.efx rfl (efx_call (tr_twoW k left bs pa ca Kb hb b2 120 [.pointer (some ⟨b1, 0, none⟩)] b1 0 [.int .i64 (L.length : Int)] 3 [(L.length : Int)] rfl (one_hcc rfl) (by intro y hy; simp only [List.mem_cons, List.not_mem_nil, or_false] at hy; unfold RgI; omega) (by simp) (by simp) (by simp only [List.length_cons, List.length_nil]; omega)) rfl rfl) ?_ ?_
 ·
  rintro _ _ ⟨_, ⟨rfl, hno, rfl⟩, rfl⟩
  exact ⟨[], ⟨rfl, fun ho => hno (by intro y hy; simp only [List.mem_cons, List.not_mem_nil, or_false] at hy; omega), rfl⟩, inferInstance⟩
 rintro _ _ ⟨_, _, ⟨rfl, hok1, pa1, ca1, Kb1, hs1, rfl⟩, rfl, rfl⟩
 refine Ops.app ?_
 rw [encT1 (by omega)] at hs1 ⊢
 refine On ?_
 refine Wp.seq ?_
 refine Wr ?_
 refine Ol1 rfl rfl rfl rfl ?_
 refine Om1 rfl rfl ?_
 refine Ops.pv (pv_gtr rfl rfl) rfl ?_
 refine On ?_
 refine Wp.cond_dect rfl (fun h2 => by omega) (fun h2 => ?_)
 refine Wp.skip ?_
 refine Ends.seq ?_
 refine Wp.seq ?_
 refine Wr ?_
 refine Om1 rfl rfl ?_
 refine Ops.pv (pv_nilCheck rfl) rfl ?_
 refine Of1 rfl rfl rfl ?_
 refine Ol1 rfl rfl rfl rfl ?_
 refine On ?_
 refine Wp.cond_false rfl ?_
 refine Wp.skip ?_
 refine Ends.seq ?_
 refine Wr ?_
 refine Ol1 rfl rfl rfl rfl ?_
 refine Om1 rfl rfl ?_
 refine On ?_
 refine Wp.block ?_
 refine Wp.loopK (σ := Nat × List UInt8 × Option Addr × Nat × Hp) [(0, _), (1, _), (3, _), (33, _)] (fun s => [(34, .int .i64 s.1)]) (fun s => (cp, .cells [kP k].toArray 78) :: ((k, .cells [.bool false, .pointer (some ⟨k, 1, none⟩), .slice s.2.2.1 s.2.1.length s.2.2.2.1, sV left].toArray 84) :: (s.2.2.2.2 ++ ((d, .cells dc.toArray Td) :: (H ++ ((b1, .cells [.int .i64 L.length].toArray 3) :: F)))))) (fun s => s.1 ≤ L.length ∧ s.2.1 = bs ++ leB 2 L.length ++ encI fsS (L.take s.1) ∧ s.2.1.length = bs.length + 2 + s.1 * widE fsS ∧ (∀ e, e ∈ L.take s.1 → okE fsS e.1) ∧ Slc 5 1 (.slice s.2.2.1 s.2.1.length s.2.2.2.1) s.2.1.length (bC s.2.1) s.2.2.2.2) (fun s => L.length - s.1) (0, bs ++ leB 2 L.length, pa1, ca1, Kb1) ⟨Nat.zero_le _, by simp [encI], by simp [leB_len], by intro x hx; simp at hx, hs1⟩ ⟨rfl, rfl, rfl, rfl, trivial⟩ ⟨rfl, trivial⟩ (by intro w ho; (try dsimp only [List.nil_append, List.cons_append]); exact Drop.own ho) ?_
 rintro ⟨i, b9, pi, ci, Ki⟩ KK ⟨hi, he9, hel, hok, hsi⟩ hK
 dsimp only [List.cons_append, List.nil_append] at hK ⊢
 dsimp only at hi he9 hel hok hsi ⊢
 have hwi : i * widE fsS ≤ i * 20 := Nat.mul_le_mul_left _ hw
 refine Wr ?_
 refine Ops.pv (pv_lss rfl rfl) rfl ?_
 refine On ?_
 refine Wp.seq ?_
 refine Wp.cond_dect rfl (fun h3 => ?_) (fun h3 => ?_)
 ·
  obtain ⟨e, he⟩ : ∃ e, L[i]? = some e := ⟨_, List.getElem?_eq_getElem (by omega)⟩
  obtain ⟨eb, eo, cc, cap, hva, rfl, hx, _⟩ := slc_el hs he (by decide)
  cases hva
  refine Wp.skip ?_
  refine Ends.seq ?_
  refine Wp.seq ?_
  refine Wp.block ?_
  refine Wr ?_
  refine Om1 rfl rfl ?_
  refine Oa1 rfl rfl ?_
  refine On ?_
  refine Wp.seq ?_
  refine Wr ?_
  refine Om1 rfl rfl ?_
  refine Ops.pv (pv_nilCheck rfl) rfl ?_
  refine Of1 rfl rfl rfl ?_
  refine Ol1 rfl rfl rfl rfl ?_
  refine On ?_
  refine Wp.cond_false rfl ?_
  refine Wp.skip ?_
  refine Ends.seq ?_
  refine Wp.region ?_
  refine Om1 rfl rfl ?_
  refine Om1 rfl rfl ?_
  refine Ops.pv (pv_nilCheck rfl) rfl ?_
  refine Ops.pv (pv_load rfl rfl hv) rfl ?_
  refine Om1 rfl rfl ?_
  refine Ops.pv (pv_indexAddr (i := i) rfl rfl rfl (by omega)) rfl ?_
  refine Ops.efx rfl (efx_callf rfl rfl (tr_elW7 cp k left b9 pi ci Ki hsi (by omega) eb (eo + i * 2) cc 77 e hx) rfl) ?_ ?_
  ·
   rintro _ _ ⟨_, ⟨rfl, hno, rfl⟩, rfl⟩
   exact ⟨[], ⟨rfl, fun ho => hno (ho.2 e (List.mem_of_getElem? he)), rfl⟩, inferInstance⟩
  rintro _ _ ⟨_, _, ⟨rfl, hoke, pa3, ca3, Kb3, hs3, rfl⟩, rfl, rfl⟩
  refine Ops.app ?_
  refine Ops.nil ?_
  refine Ends.block_normal ?_
  refine Ends.seq ?_
  refine Wp.region ?_
  refine Ops.pv (pv_add rfl rfl (w64n (k := i + 1) (by omega) (by omega))) rfl ?_
  refine Om1 rfl rfl ?_
  refine Ops.nil ?_
  refine Ends.goes ?_
  refine Goes.back (hK (i + 1, b9 ++ encE fsS e.1, pa3, ca3, Kb3) ⟨by dsimp only; omega, by dsimp only; rw [encI_take he, he9, List.append_assoc], by dsimp only; rw [List.length_append, encE_len e.len, hel, Nat.add_mul]; omega, all_take he hok hoke, hs3⟩ (by dsimp only; omega)) ⟨rfl, rfl, rfl, rfl, rfl, trivial⟩
 obtain rfl : i = L.length := by omega
 refine Wp.exit ?_
 refine Ends.then_exit ?_
 refine Ends.then_exit ?_
 refine Ends.block_hit ?_
 rw [List.take_length] at he9 hok
 have hbe : bs ++ encL fsS L = b9 := by rw [he9, encL, List.append_assoc]
 rw [hbe]
 exact Ends.finE (L' := (cp, .cells [kP k].toArray 78) :: ((k, .cells [.bool false, .pointer (some ⟨k, 1, none⟩), .slice pi b9.length ci, sV left].toArray 84) :: (Ki ++ ((d, .cells dc.toArray Td) :: H)))) (res0 rfl) ⟨rfl, ⟨hmost, hok⟩, pi, ci, Ki, hsi, rfl⟩
set_option maxHeartbeats 8000000 in
theorem tr_listR1 (cp : Nat) (k : Nat) (adr bv : Value) (left : List UInt8) (hl : left.length ≤ 2 ^ 40) (h1b : bv.oneCell' = true) (h1a : adr.oneCell' = true) (d o : Nat) (dc : List Value) (Td : TypeId) (hv : nth dc o = some (.slice none 0 0)) : TrE Try.prog 34 [kP k, .pointer (some ⟨d, o, none⟩), .int .i64 64, .func (.func 35) #[] #[.pointer (some ⟨cp, 0, none⟩)]] ((cp, .cells [kP k].toArray 78) :: ((k, .cells [.bool true, adr, bv, sV left].toArray 84) :: [(d, .cells dc.toArray Td)])) (fun u L' => u = .tuple #[] ∧ ∃ (L : List (El fsO)) (left' : List UInt8) (v : Value) (H : Hp), rdL fsO 64 left = some (L, left') ∧ Slc 54 3 v L.length (cel (cE fsO) L) H ∧ L' = (cp, .cells [kP k].toArray 78) :: ((k, .cells [.bool true, adr, bv, sV left'].toArray 84) :: ((d, .cells (dc.set o v).toArray Td) :: H))) (fun c L' => c = badC ∧ rdL fsO 64 left = none ∧ L' = []) := by
 refine TrE.enter Try.func34 rfl Try.ntmps34 rfl (fun W F => ?_)
 refine Wp.app ?_
 refine Wr ?_
 refine Om1 rfl rfl ?_
 refine Ops.pv (pv_nilCheck rfl) rfl ?_
 refine Ops.pv (pv_load rfl rfl hv) rfl ?_
 refine Ops.pv (pv_len_slice (T := 32) rfl rfl) rfl ?_
 refine Ops.ef rfl (ef_alloc1 tyZ3 rfl rfl) ?_
 rintro _ _ ⟨b1, rfl, rfl⟩
 refine Ops.ef rfl (ef_store1 rfl rfl (by first | rfl | assumption) (by first | rfl | assumption)) ?_
 rintro _ _ ⟨rfl, rfl⟩
 refine On ?_
 refine Wp.seq ?_
 refine Wr ?_
 refine Ol1 rfl rfl rfl rfl ?_
 refine Om1 rfl rfl ?_
 refine Ops.pv ((pv_gtr rfl rfl).fls (by first | exact fun h => h rfl | decide | omega | assumption)) rfl ?_
 refine On ?_
 refine Wp.cond_false rfl ?_
 refine Wp.skip ?_
 refine Ends.seq ?_
 refine Wr ?_
 refine Om1 rfl rfl ?_
 refine Ops.ef rfl (ef_buildSlice1 (k := 1) rfl rfl rfl rfl rfl) ?_
 rintro _ _ ⟨b2, rfl, rfl⟩
 refine Ops.efx rfl (efx_call (tr_twoR k adr bv left hl h1b h1a b2 120 [.pointer (some ⟨b1, 0, none⟩)] b1 0 [.int .i64 0] 3 [0] rfl (one_hcc rfl) (by intro y hy; simp only [List.mem_cons, List.not_mem_nil, or_false] at hy; unfold RgI; omega) (by simp) (by simp)) rfl rfl) ?_ ?_
 ·
  rintro _ _ ⟨_, ⟨rfl, hno, rfl⟩, rfl⟩
  exact ⟨[], ⟨rfl, by have h3 : left.length < 2 := hno; unfold rdL; rw [if_pos h3], rfl⟩, inferInstance⟩
 rintro _ _ ⟨_, _, ⟨rfl, hl2, rfl⟩, rfl, rfl⟩
 refine Ops.app ?_
 rw [show setAt [.int .i64 0] 0 (intC (rdTw ([0] : List Int).length left)) = [.int .i64 ((leV (left.take 2) : Nat) : Int)] from rfl, show left.drop (2 * ([0] : List Int).length) = left.drop 2 from rfl]
 have hl3 : 2 ≤ left.length := hl2
 have hc2 := leV2 left
 refine On ?_
 refine Wp.seq ?_
 refine Wr ?_
 refine Ol1 rfl rfl rfl rfl ?_
 refine Om1 rfl rfl ?_
 refine Ops.pv (pv_gtr rfl rfl) rfl ?_
 refine On ?_
 refine Wp.cond_dect rfl (fun h1 => ?_) (fun h1 => ?_)
 ·
  refine Wp.region ?_
  refine Ops.pv (pv_build rfl) rfl ?_
  refine Ops.pv (pv_iface rfl rfl) rfl ?_
  exact Ops.panic rfl ⟨[], ⟨rfl, by unfold rdL; rw [if_neg (by omega), if_pos (by omega)], rfl⟩, inferInstance⟩
 have hmost : leV (left.take 2) ≤ 64 := by omega
 refine Wp.skip ?_
 refine Ends.seq ?_
 refine Wp.seq ?_
 refine Wr ?_
 refine Om1 rfl rfl ?_
 refine Ops.pv (pv_nilCheck rfl) rfl ?_
 refine Of1 rfl rfl rfl ?_
 refine Ol1 rfl rfl rfl rfl ?_
 refine On ?_
 refine Wp.cond_true rfl ?_
 refine Wp.region ?_
 refine Om1 rfl rfl ?_
 refine Ops.pv (pv_nilCheck rfl) rfl ?_
 refine Ops.ef rfl (ef_store1 (hset := setL_set (nth_lt hv)) rfl rfl rfl rfl) ?_
 rintro _ _ ⟨rfl, rfl⟩
 refine On ?_
 refine Wr ?_
 refine Ol1 rfl rfl rfl rfl ?_
 refine Om1 rfl rfl ?_
 refine On ?_
 refine Wp.block ?_
 refine Wp.loopK (σ := Nat × List UInt8 × List (El fsO) × Value × Hp) [(0, _), (1, _), (3, _), (33, _)] (fun s => [(34, .int .i64 s.1)]) (fun s => (cp, .cells [kP k].toArray 78) :: ((k, .cells [.bool true, adr, bv, sV s.2.1].toArray 84) :: ((d, .cells (dc.set o s.2.2.2.1).toArray Td) :: (s.2.2.2.2 ++ ((b1, .cells [.int .i64 ((leV (left.take 2) : Nat) : Int)].toArray 3) :: F))))) (fun s => s.1 ≤ leV (left.take 2) ∧ rdI fsO s.1 (left.drop 2) = some (s.2.2.1, s.2.1) ∧ s.2.1.length ≤ left.length ∧ Slc 54 3 s.2.2.2.1 s.2.2.1.length (cel (cE fsO) s.2.2.1) s.2.2.2.2) (fun s => leV (left.take 2) - s.1) (0, left.drop 2, [], .slice none 0 0, []) ⟨Nat.zero_le _, rfl, by dsimp only; rw [List.length_drop]; omega, Slc.nil 54 3⟩ ⟨rfl, rfl, rfl, rfl, trivial⟩ ⟨rfl, trivial⟩ (by intro w ho; (try dsimp only [List.nil_append, List.cons_append]); exact Drop.own ho) ?_
 rintro ⟨i, lf, l, vs, Hs⟩ KK ⟨hi, hr, hlf, hs⟩ hK
 dsimp only [List.cons_append, List.nil_append] at hK ⊢
 dsimp only at hi hr hlf hs ⊢
 refine Wr ?_
 refine Ops.pv (pv_lss rfl rfl) rfl ?_
 refine On ?_
 refine Wp.seq ?_
 refine Wp.cond_dect rfl (fun h2 => ?_) (fun h2 => ?_)
 ·
  obtain rfl : i = l.length := (rdI_len hr).1.symm
  refine Wp.skip ?_
  refine Ends.seq ?_
  refine Wp.seq ?_
  refine Wp.block ?_
  refine Wr ?_
  refine Om1 rfl rfl ?_
  refine Oa1 rfl rfl ?_
  refine On ?_
  refine Wp.seq ?_
  refine Wr ?_
  refine Om1 rfl rfl ?_
  refine Ops.pv (pv_nilCheck rfl) rfl ?_
  refine Of1 rfl rfl rfl ?_
  refine Ol1 rfl rfl rfl rfl ?_
  refine On ?_
  refine Wp.cond_true rfl ?_
  refine AnyH.start ([] : Hp) 11 rfl ?_
  refine Tk 0 rfl rfl (pv_move rfl) rfl ?_
  refine Tk 1 rfl rfl (pv_move rfl) rfl ?_
  refine Tk 2 rfl rfl (pv_nilCheck rfl) rfl ?_
  refine AnyH.two 3 4 (by kernel_rfl) ?_ ?_
  ·
   refine Turn.ef rfl rfl (ef_pv (pv_load rfl rfl (nth_set (nth_lt hv))) rfl) ?_ ?_
   ·
    rintro _ _ ⟨rfl, rfl⟩; infer_instance
   rintro _ _ ⟨rfl, rfl⟩
   refine AnyH.one 4 (by kernel_rfl) ?_
   refine Turn.ef rfl rfl (ef_allocK tyZ54 rfl) ?_ ?_
   ·
    rintro _ _ ⟨b3, rfl, rfl⟩; infer_instance
   rintro _ _ ⟨b3, rfl, rfl⟩
   refine Tk 5 rfl rfl (pv_nilCheck rfl) rfl ?_
   refine AnyH.one 6 (by kernel_rfl) ?_
   refine Turn.ef rfl rfl (ef_pv (pv_loadK [_, _, _] rfl rfl rfl ⟨rfl, rfl, rfl, trivial⟩) rfl) ?_ ?_
   ·
    rintro _ _ ⟨rfl, rfl⟩; infer_instance
   rintro _ _ ⟨rfl, rfl⟩
   refine AnyH.one 7 (by kernel_rfl) ?_
   refine Turn.ef rfl rfl (ef_buildSlice1 (k := 3) rfl rfl rfl rfl rfl) ?_ ?_
   ·
    rintro _ _ ⟨b4, rfl, rfl⟩; infer_instance
   rintro _ _ ⟨b4, rfl, rfl⟩
   refine AnyH.one 8 (by kernel_rfl) ?_
   refine Turn.ef rfl rfl (ef_append (H := Hs) (xs := [.int .i64 0, .int .i64 0, .int .i64 0]) rfl hs rfl ⟨rfl, rfl, rfl, trivial⟩ rfl rfl rfl (by omega) (by omega) rfl rfl) ?_ ?_
   ·
    rintro _ _ ⟨v1, H1, hs1, rfl, rfl⟩; infer_instance
   rintro _ _ ⟨v1, H1, hs1, rfl, rfl⟩
   refine AnyH.app ?_
   have hs2 : Slc 54 3 v1 (l.length + 1) (cel (cE fsO) (l ++ [zEl fsO])) H1 := by rw [cel_app, cel_one1]; exact hs1
   obtain ⟨eb, eo, cc, cap, rfl, rfl, hx, hset⟩ := slc_el (i := l.length) (a := zEl fsO) hs2 (by simp) (by decide)
   refine Tk 9 rfl rfl (pv_nilCheck rfl) rfl ?_
   refine AnyH.one 10 (by kernel_rfl) ?_
   refine Turn.ef rfl rfl (ef_store1 (hset := setL_set2 (nth_lt hv)) rfl rfl rfl rfl) ?_ ?_
   ·
    rintro _ _ ⟨rfl, rfl⟩; infer_instance
   rintro _ _ ⟨rfl, rfl⟩
   refine AnyH.done (by kernel_rfl) ?_
   refine Ends.seq ?_
   refine Wp.region ?_
   refine Om1 rfl rfl ?_
   refine Om1 rfl rfl ?_
   refine Ops.pv (pv_nilCheck rfl) rfl ?_
   refine Ops.pv (pv_load rfl rfl (nth_set (nth_lt hv))) rfl ?_
   refine Om1 rfl rfl ?_
   refine Ops.pv (pv_indexAddr (i := l.length) rfl rfl rfl (by omega)) rfl ?_
   refine Ops.efx rfl (efx_callf rfl rfl (tr_elR1 cp k adr bv lf (by omega) h1b h1a eb (eo + l.length * 3) cc 54 hx) rfl) ?_ ?_
   ·
    rintro _ _ ⟨_, ⟨rfl, hno, rfl⟩, rfl⟩
    exact ⟨[], ⟨rfl, by unfold rdL; rw [if_neg (by omega), if_neg (by omega)]; exact rdI_up (rdI_none hr hno) (by omega), rfl⟩, inferInstance⟩
   rintro _ _ ⟨_, _, ⟨rfl, e9, lf2, he9, rfl⟩, rfl, rfl⟩
   refine Ops.app ?_
   refine Ops.nil ?_
   refine Ends.block_normal ?_
   refine Ends.seq ?_
   refine Wp.region ?_
   refine Ops.pv (pv_add rfl rfl (w64n (k := l.length + 1) (by omega) (by omega))) rfl ?_
   refine Om1 rfl rfl ?_
   refine Ops.nil ?_
   refine Ends.goes ?_
   refine Goes.back (hK (l.length + 1, lf2, l ++ [mkEl fsO e9], .slice (some ⟨eb, eo, none⟩) (l.length + 1) cap, [(eb, .cells (setAt cc (eo + l.length * 3) (cE fsO (mkEl fsO e9))).toArray 54)]) ⟨by dsimp only; omega, rdI_some hr he9, by have := (rdI_len (rdI_some hr he9)).2; rw [List.length_drop] at this; dsimp only; omega, by have := hset (mkEl fsO e9); rw [List.set_append_right _ _ (Nat.le_refl _), Nat.sub_self, List.set_cons_zero] at this; rw [List.length_append]; exact this⟩ (by dsimp only; omega)) ⟨rfl, rfl, rfl, rfl, rfl, trivial⟩
  refine Turn.ef rfl rfl (ef_allocK tyZ54 rfl) ?_ ?_
  ·
   rintro _ _ ⟨b5, rfl, rfl⟩; infer_instance
  rintro _ _ ⟨b5, rfl, rfl⟩
  refine Tk 5 rfl rfl (pv_nilCheck rfl) rfl ?_
  refine AnyH.two 3 6 (by kernel_rfl) ?_ ?_
  ·
   refine Turn.ef rfl rfl (ef_pv (pv_load rfl rfl (nth_set (nth_lt hv))) rfl) ?_ ?_
   ·
    rintro _ _ ⟨rfl, rfl⟩; infer_instance
   rintro _ _ ⟨rfl, rfl⟩
   refine AnyH.one 6 (by kernel_rfl) ?_
   refine Turn.ef rfl rfl (ef_pv (pv_loadK [_, _, _] rfl rfl rfl ⟨rfl, rfl, rfl, trivial⟩) rfl) ?_ ?_
   ·
    rintro _ _ ⟨rfl, rfl⟩; infer_instance
   rintro _ _ ⟨rfl, rfl⟩
   refine AnyH.one 7 (by kernel_rfl) ?_
   refine Turn.ef rfl rfl (ef_buildSlice1 (k := 3) rfl rfl rfl rfl rfl) ?_ ?_
   ·
    rintro _ _ ⟨b6, rfl, rfl⟩; infer_instance
   rintro _ _ ⟨b6, rfl, rfl⟩
   refine AnyH.one 8 (by kernel_rfl) ?_
   refine Turn.ef rfl rfl (ef_append (H := Hs) (xs := [.int .i64 0, .int .i64 0, .int .i64 0]) rfl hs rfl ⟨rfl, rfl, rfl, trivial⟩ rfl rfl rfl (by omega) (by omega) rfl rfl) ?_ ?_
   ·
    rintro _ _ ⟨v2, H2, hs2, rfl, rfl⟩; infer_instance
   rintro _ _ ⟨v2, H2, hs2, rfl, rfl⟩
   refine AnyH.app ?_
   have hs2 : Slc 54 3 v2 (l.length + 1) (cel (cE fsO) (l ++ [zEl fsO])) H2 := by rw [cel_app, cel_one1]; exact hs2
   obtain ⟨eb, eo, cc, cap, rfl, rfl, hx, hset⟩ := slc_el (i := l.length) (a := zEl fsO) hs2 (by simp) (by decide)
   refine Tk 9 rfl rfl (pv_nilCheck rfl) rfl ?_
   refine AnyH.one 10 (by kernel_rfl) ?_
   refine Turn.ef rfl rfl (ef_store1 (hset := setL_set2 (nth_lt hv)) rfl rfl rfl rfl) ?_ ?_
   ·
    rintro _ _ ⟨rfl, rfl⟩; infer_instance
   rintro _ _ ⟨rfl, rfl⟩
   refine AnyH.done (by kernel_rfl) ?_
   refine Ends.seq ?_
   refine Wp.region ?_
   refine Om1 rfl rfl ?_
   refine Om1 rfl rfl ?_
   refine Ops.pv (pv_nilCheck rfl) rfl ?_
   refine Ops.pv (pv_load rfl rfl (nth_set (nth_lt hv))) rfl ?_
   refine Om1 rfl rfl ?_
   refine Ops.pv (pv_indexAddr (i := l.length) rfl rfl rfl (by omega)) rfl ?_
   refine Ops.efx rfl (efx_callf rfl rfl (tr_elR1 cp k adr bv lf (by omega) h1b h1a eb (eo + l.length * 3) cc 54 hx) rfl) ?_ ?_
   ·
    rintro _ _ ⟨_, ⟨rfl, hno, rfl⟩, rfl⟩
    exact ⟨[], ⟨rfl, by unfold rdL; rw [if_neg (by omega), if_neg (by omega)]; exact rdI_up (rdI_none hr hno) (by omega), rfl⟩, inferInstance⟩
   rintro _ _ ⟨_, _, ⟨rfl, e9, lf2, he9, rfl⟩, rfl, rfl⟩
   refine Ops.app ?_
   refine Ops.nil ?_
   refine Ends.block_normal ?_
   refine Ends.seq ?_
   refine Wp.region ?_
   refine Ops.pv (pv_add rfl rfl (w64n (k := l.length + 1) (by omega) (by omega))) rfl ?_
   refine Om1 rfl rfl ?_
   refine Ops.nil ?_
   refine Ends.goes ?_
   refine Goes.back (hK (l.length + 1, lf2, l ++ [mkEl fsO e9], .slice (some ⟨eb, eo, none⟩) (l.length + 1) cap, [(eb, .cells (setAt cc (eo + l.length * 3) (cE fsO (mkEl fsO e9))).toArray 54)]) ⟨by dsimp only; omega, rdI_some hr he9, by have := (rdI_len (rdI_some hr he9)).2; rw [List.length_drop] at this; dsimp only; omega, by have := hset (mkEl fsO e9); rw [List.set_append_right _ _ (Nat.le_refl _), Nat.sub_self, List.set_cons_zero] at this; rw [List.length_append]; exact this⟩ (by dsimp only; omega)) ⟨rfl, rfl, rfl, rfl, rfl, trivial⟩
  refine Turn.ef rfl rfl (ef_pv (pv_loadK [_, _, _] rfl rfl rfl ⟨rfl, rfl, rfl, trivial⟩) rfl) ?_ ?_
  ·
   rintro _ _ ⟨rfl, rfl⟩; infer_instance
  rintro _ _ ⟨rfl, rfl⟩
  refine AnyH.two 3 7 (by kernel_rfl) ?_ ?_
  ·
   refine Turn.ef rfl rfl (ef_pv (pv_load rfl rfl (nth_set (nth_lt hv))) rfl) ?_ ?_
   ·
    rintro _ _ ⟨rfl, rfl⟩; infer_instance
   rintro _ _ ⟨rfl, rfl⟩
   refine AnyH.one 7 (by kernel_rfl) ?_
   refine Turn.ef rfl rfl (ef_buildSlice1 (k := 3) rfl rfl rfl rfl rfl) ?_ ?_
   ·
    rintro _ _ ⟨b7, rfl, rfl⟩; infer_instance
   rintro _ _ ⟨b7, rfl, rfl⟩
   refine AnyH.one 8 (by kernel_rfl) ?_
   refine Turn.ef rfl rfl (ef_append (H := Hs) (xs := [.int .i64 0, .int .i64 0, .int .i64 0]) rfl hs rfl ⟨rfl, rfl, rfl, trivial⟩ rfl rfl rfl (by omega) (by omega) rfl rfl) ?_ ?_
   ·
    rintro _ _ ⟨v3, H3, hs3, rfl, rfl⟩; infer_instance
   rintro _ _ ⟨v3, H3, hs3, rfl, rfl⟩
   refine AnyH.app ?_
   have hs2 : Slc 54 3 v3 (l.length + 1) (cel (cE fsO) (l ++ [zEl fsO])) H3 := by rw [cel_app, cel_one1]; exact hs3
   obtain ⟨eb, eo, cc, cap, rfl, rfl, hx, hset⟩ := slc_el (i := l.length) (a := zEl fsO) hs2 (by simp) (by decide)
   refine Tk 9 rfl rfl (pv_nilCheck rfl) rfl ?_
   refine AnyH.one 10 (by kernel_rfl) ?_
   refine Turn.ef rfl rfl (ef_store1 (hset := setL_set2 (nth_lt hv)) rfl rfl rfl rfl) ?_ ?_
   ·
    rintro _ _ ⟨rfl, rfl⟩; infer_instance
   rintro _ _ ⟨rfl, rfl⟩
   refine AnyH.done (by kernel_rfl) ?_
   refine Ends.seq ?_
   refine Wp.region ?_
   refine Om1 rfl rfl ?_
   refine Om1 rfl rfl ?_
   refine Ops.pv (pv_nilCheck rfl) rfl ?_
   refine Ops.pv (pv_load rfl rfl (nth_set (nth_lt hv))) rfl ?_
   refine Om1 rfl rfl ?_
   refine Ops.pv (pv_indexAddr (i := l.length) rfl rfl rfl (by omega)) rfl ?_
   refine Ops.efx rfl (efx_callf rfl rfl (tr_elR1 cp k adr bv lf (by omega) h1b h1a eb (eo + l.length * 3) cc 54 hx) rfl) ?_ ?_
   ·
    rintro _ _ ⟨_, ⟨rfl, hno, rfl⟩, rfl⟩
    exact ⟨[], ⟨rfl, by unfold rdL; rw [if_neg (by omega), if_neg (by omega)]; exact rdI_up (rdI_none hr hno) (by omega), rfl⟩, inferInstance⟩
   rintro _ _ ⟨_, _, ⟨rfl, e9, lf2, he9, rfl⟩, rfl, rfl⟩
   refine Ops.app ?_
   refine Ops.nil ?_
   refine Ends.block_normal ?_
   refine Ends.seq ?_
   refine Wp.region ?_
   refine Ops.pv (pv_add rfl rfl (w64n (k := l.length + 1) (by omega) (by omega))) rfl ?_
   refine Om1 rfl rfl ?_
   refine Ops.nil ?_
   refine Ends.goes ?_
   refine Goes.back (hK (l.length + 1, lf2, l ++ [mkEl fsO e9], .slice (some ⟨eb, eo, none⟩) (l.length + 1) cap, [(eb, .cells (setAt cc (eo + l.length * 3) (cE fsO (mkEl fsO e9))).toArray 54)]) ⟨by dsimp only; omega, rdI_some hr he9, by have := (rdI_len (rdI_some hr he9)).2; rw [List.length_drop] at this; dsimp only; omega, by have := hset (mkEl fsO e9); rw [List.set_append_right _ _ (Nat.le_refl _), Nat.sub_self, List.set_cons_zero] at this; rw [List.length_append]; exact this⟩ (by dsimp only; omega)) ⟨rfl, rfl, rfl, rfl, rfl, trivial⟩
  refine Turn.ef rfl rfl (ef_buildSlice1 (k := 3) rfl rfl rfl rfl rfl) ?_ ?_
  ·
   rintro _ _ ⟨b8, rfl, rfl⟩; infer_instance
  rintro _ _ ⟨b8, rfl, rfl⟩
  refine AnyH.one 3 (by kernel_rfl) ?_
  refine Turn.ef rfl rfl (ef_pv (pv_load rfl rfl (nth_set (nth_lt hv))) rfl) ?_ ?_
  ·
   rintro _ _ ⟨rfl, rfl⟩; infer_instance
  rintro _ _ ⟨rfl, rfl⟩
  refine AnyH.one 8 (by kernel_rfl) ?_
  refine Turn.ef rfl rfl (ef_append (H := Hs) (xs := [.int .i64 0, .int .i64 0, .int .i64 0]) rfl hs rfl ⟨rfl, rfl, rfl, trivial⟩ rfl rfl rfl (by omega) (by omega) rfl rfl) ?_ ?_
  ·
   rintro _ _ ⟨v4, H4, hs4, rfl, rfl⟩; infer_instance
  rintro _ _ ⟨v4, H4, hs4, rfl, rfl⟩
  refine AnyH.app ?_
  have hs2 : Slc 54 3 v4 (l.length + 1) (cel (cE fsO) (l ++ [zEl fsO])) H4 := by rw [cel_app, cel_one1]; exact hs4
  obtain ⟨eb, eo, cc, cap, rfl, rfl, hx, hset⟩ := slc_el (i := l.length) (a := zEl fsO) hs2 (by simp) (by decide)
  refine Tk 9 rfl rfl (pv_nilCheck rfl) rfl ?_
  refine AnyH.one 10 (by kernel_rfl) ?_
  refine Turn.ef rfl rfl (ef_store1 (hset := setL_set2 (nth_lt hv)) rfl rfl rfl rfl) ?_ ?_
  ·
   rintro _ _ ⟨rfl, rfl⟩; infer_instance
  rintro _ _ ⟨rfl, rfl⟩
  refine AnyH.done (by kernel_rfl) ?_
  refine Ends.seq ?_
  refine Wp.region ?_
  refine Om1 rfl rfl ?_
  refine Om1 rfl rfl ?_
  refine Ops.pv (pv_nilCheck rfl) rfl ?_
  refine Ops.pv (pv_load rfl rfl (nth_set (nth_lt hv))) rfl ?_
  refine Om1 rfl rfl ?_
  refine Ops.pv (pv_indexAddr (i := l.length) rfl rfl rfl (by omega)) rfl ?_
  refine Ops.efx rfl (efx_callf rfl rfl (tr_elR1 cp k adr bv lf (by omega) h1b h1a eb (eo + l.length * 3) cc 54 hx) rfl) ?_ ?_
  ·
   rintro _ _ ⟨_, ⟨rfl, hno, rfl⟩, rfl⟩
   exact ⟨[], ⟨rfl, by unfold rdL; rw [if_neg (by omega), if_neg (by omega)]; exact rdI_up (rdI_none hr hno) (by omega), rfl⟩, inferInstance⟩
  rintro _ _ ⟨_, _, ⟨rfl, e9, lf2, he9, rfl⟩, rfl, rfl⟩
  refine Ops.app ?_
  refine Ops.nil ?_
  refine Ends.block_normal ?_
  refine Ends.seq ?_
  refine Wp.region ?_
  refine Ops.pv (pv_add rfl rfl (w64n (k := l.length + 1) (by omega) (by omega))) rfl ?_
  refine Om1 rfl rfl ?_
  refine Ops.nil ?_
  refine Ends.goes ?_
  refine Goes.back (hK (l.length + 1, lf2, l ++ [mkEl fsO e9], .slice (some ⟨eb, eo, none⟩) (l.length + 1) cap, [(eb, .cells (setAt cc (eo + l.length * 3) (cE fsO (mkEl fsO e9))).toArray 54)]) ⟨by dsimp only; omega, rdI_some hr he9, by have := (rdI_len (rdI_some hr he9)).2; rw [List.length_drop] at this; dsimp only; omega, by have := hset (mkEl fsO e9); rw [List.set_append_right _ _ (Nat.le_refl _), Nat.sub_self, List.set_cons_zero] at this; rw [List.length_append]; exact this⟩ (by dsimp only; omega)) ⟨rfl, rfl, rfl, rfl, rfl, trivial⟩
 obtain rfl : i = leV (left.take 2) := by omega
 refine Wp.exit ?_
 refine Ends.then_exit ?_
 refine Ends.then_exit ?_
 refine Ends.block_hit ?_
 have hL : rdL fsO 64 left = some (l, lf) := by unfold rdL; rw [if_neg (by omega), if_neg (by omega)]; exact hr
 exact Ends.finE (L' := (cp, .cells [kP k].toArray 78) :: ((k, .cells [.bool true, adr, bv, sV lf].toArray 84) :: ((d, .cells (dc.set o vs).toArray Td) :: Hs))) (res0 rfl) ⟨rfl, l, lf, vs, Hs, hL, hs, rfl⟩
set_option maxHeartbeats 8000000 in
theorem tr_listR2 (cp : Nat) (k : Nat) (adr bv : Value) (left : List UInt8) (hl : left.length ≤ 2 ^ 40) (h1b : bv.oneCell' = true) (h1a : adr.oneCell' = true) (d o : Nat) (dc : List Value) (Td : TypeId) (hv : nth dc o = some (.slice none 0 0)) : TrE Try.prog 37 [kP k, .pointer (some ⟨d, o, none⟩), .int .i64 256, .func (.func 38) #[] #[.pointer (some ⟨cp, 0, none⟩)]] ((cp, .cells [kP k].toArray 78) :: ((k, .cells [.bool true, adr, bv, sV left].toArray 84) :: [(d, .cells dc.toArray Td)])) (fun u L' => u = .tuple #[] ∧ ∃ (L : List (El fsP)) (left' : List UInt8) (v : Value) (H : Hp), rdL fsP 256 left = some (L, left') ∧ Slc 62 8 v L.length (cel (cE fsP) L) H ∧ L' = (cp, .cells [kP k].toArray 78) :: ((k, .cells [.bool true, adr, bv, sV left'].toArray 84) :: ((d, .cells (dc.set o v).toArray Td) :: H))) (fun c L' => c = badC ∧ rdL fsP 256 left = none ∧ L' = []) := by
 refine TrE.enter Try.func37 rfl Try.ntmps37 rfl (fun W F => ?_)
 refine Wp.app ?_
 refine Wr ?_
 refine Om1 rfl rfl ?_
 refine Ops.pv (pv_nilCheck rfl) rfl ?_
 refine Ops.pv (pv_load rfl rfl hv) rfl ?_
 refine Ops.pv (pv_len_slice (T := 33) rfl rfl) rfl ?_
 refine Ops.ef rfl (ef_alloc1 tyZ3 rfl rfl) ?_
 rintro _ _ ⟨b1, rfl, rfl⟩
 refine Ops.ef rfl (ef_store1 rfl rfl (by first | rfl | assumption) (by first | rfl | assumption)) ?_
 rintro _ _ ⟨rfl, rfl⟩
 refine On ?_
 refine Wp.seq ?_
 refine Wr ?_
 refine Ol1 rfl rfl rfl rfl ?_
 refine Om1 rfl rfl ?_
 refine Ops.pv ((pv_gtr rfl rfl).fls (by first | exact fun h => h rfl | decide | omega | assumption)) rfl ?_
 refine On ?_
 refine Wp.cond_false rfl ?_
 refine Wp.skip ?_
 refine Ends.seq ?_
 refine Wr ?_
 refine Om1 rfl rfl ?_
 refine Ops.ef rfl (ef_buildSlice1 (k := 1) rfl rfl rfl rfl rfl) ?_
 rintro _ _ ⟨b2, rfl, rfl⟩
 refine Ops.efx rfl (efx_call (tr_twoR k adr bv left hl h1b h1a b2 120 [.pointer (some ⟨b1, 0, none⟩)] b1 0 [.int .i64 0] 3 [0] rfl (one_hcc rfl) (by intro y hy; simp only [List.mem_cons, List.not_mem_nil, or_false] at hy; unfold RgI; omega) (by simp) (by simp)) rfl rfl) ?_ ?_
 ·
  rintro _ _ ⟨_, ⟨rfl, hno, rfl⟩, rfl⟩
  exact ⟨[], ⟨rfl, by have h3 : left.length < 2 := hno; unfold rdL; rw [if_pos h3], rfl⟩, inferInstance⟩
 rintro _ _ ⟨_, _, ⟨rfl, hl2, rfl⟩, rfl, rfl⟩
 refine Ops.app ?_
 rw [show setAt [.int .i64 0] 0 (intC (rdTw ([0] : List Int).length left)) = [.int .i64 ((leV (left.take 2) : Nat) : Int)] from rfl, show left.drop (2 * ([0] : List Int).length) = left.drop 2 from rfl]
 have hl3 : 2 ≤ left.length := hl2
 have hc2 := leV2 left
 refine On ?_
 refine Wp.seq ?_
 refine Wr ?_
 refine Ol1 rfl rfl rfl rfl ?_
 refine Om1 rfl rfl ?_
 refine Ops.pv (pv_gtr rfl rfl) rfl ?_
 refine On ?_
 refine Wp.cond_dect rfl (fun h1 => ?_) (fun h1 => ?_)
 ·
  refine Wp.region ?_
  refine Ops.pv (pv_build rfl) rfl ?_
  refine Ops.pv (pv_iface rfl rfl) rfl ?_
  exact Ops.panic rfl ⟨[], ⟨rfl, by unfold rdL; rw [if_neg (by omega), if_pos (by omega)], rfl⟩, inferInstance⟩
 have hmost : leV (left.take 2) ≤ 256 := by omega
 refine Wp.skip ?_
 refine Ends.seq ?_
 refine Wp.seq ?_
 refine Wr ?_
 refine Om1 rfl rfl ?_
 refine Ops.pv (pv_nilCheck rfl) rfl ?_
 refine Of1 rfl rfl rfl ?_
 refine Ol1 rfl rfl rfl rfl ?_
 refine On ?_
 refine Wp.cond_true rfl ?_
 refine Wp.region ?_
 refine Om1 rfl rfl ?_
 refine Ops.pv (pv_nilCheck rfl) rfl ?_
 refine Ops.ef rfl (ef_store1 (hset := setL_set (nth_lt hv)) rfl rfl rfl rfl) ?_
 rintro _ _ ⟨rfl, rfl⟩
 refine On ?_
 refine Wr ?_
 refine Ol1 rfl rfl rfl rfl ?_
 refine Om1 rfl rfl ?_
 refine On ?_
 refine Wp.block ?_
 refine Wp.loopK (σ := Nat × List UInt8 × List (El fsP) × Value × Hp) [(0, _), (1, _), (3, _), (33, _)] (fun s => [(34, .int .i64 s.1)]) (fun s => (cp, .cells [kP k].toArray 78) :: ((k, .cells [.bool true, adr, bv, sV s.2.1].toArray 84) :: ((d, .cells (dc.set o s.2.2.2.1).toArray Td) :: (s.2.2.2.2 ++ ((b1, .cells [.int .i64 ((leV (left.take 2) : Nat) : Int)].toArray 3) :: F))))) (fun s => s.1 ≤ leV (left.take 2) ∧ rdI fsP s.1 (left.drop 2) = some (s.2.2.1, s.2.1) ∧ s.2.1.length ≤ left.length ∧ Slc 62 8 s.2.2.2.1 s.2.2.1.length (cel (cE fsP) s.2.2.1) s.2.2.2.2) (fun s => leV (left.take 2) - s.1) (0, left.drop 2, [], .slice none 0 0, []) ⟨Nat.zero_le _, rfl, by dsimp only; rw [List.length_drop]; omega, Slc.nil 62 8⟩ ⟨rfl, rfl, rfl, rfl, trivial⟩ ⟨rfl, trivial⟩ (by intro w ho; (try dsimp only [List.nil_append, List.cons_append]); exact Drop.own ho) ?_
 rintro ⟨i, lf, l, vs, Hs⟩ KK ⟨hi, hr, hlf, hs⟩ hK
 dsimp only [List.cons_append, List.nil_append] at hK ⊢
 dsimp only at hi hr hlf hs ⊢
 refine Wr ?_
 refine Ops.pv (pv_lss rfl rfl) rfl ?_
 refine On ?_
 refine Wp.seq ?_
 refine Wp.cond_dect rfl (fun h2 => ?_) (fun h2 => ?_)
 ·
  obtain rfl : i = l.length := (rdI_len hr).1.symm
  refine Wp.skip ?_
  refine Ends.seq ?_
  refine Wp.seq ?_
  refine Wp.block ?_
  refine Wr ?_
  refine Om1 rfl rfl ?_
  refine Oa1 rfl rfl ?_
  refine On ?_
  refine Wp.seq ?_
  refine Wr ?_
  refine Om1 rfl rfl ?_
  refine Ops.pv (pv_nilCheck rfl) rfl ?_
  refine Of1 rfl rfl rfl ?_
  refine Ol1 rfl rfl rfl rfl ?_
  refine On ?_
  refine Wp.cond_true rfl ?_
  refine AnyH.start ([] : Hp) 11 rfl ?_
  refine Tk 0 rfl rfl (pv_move rfl) rfl ?_
  refine Tk 1 rfl rfl (pv_move rfl) rfl ?_
  refine Tk 2 rfl rfl (pv_nilCheck rfl) rfl ?_
  refine AnyH.two 3 4 (by kernel_rfl) ?_ ?_
  ·
   refine Turn.ef rfl rfl (ef_pv (pv_load rfl rfl (nth_set (nth_lt hv))) rfl) ?_ ?_
   ·
    rintro _ _ ⟨rfl, rfl⟩; infer_instance
   rintro _ _ ⟨rfl, rfl⟩
   refine AnyH.one 4 (by kernel_rfl) ?_
   refine Turn.ef rfl rfl (ef_allocK tyZ62 rfl) ?_ ?_
   ·
    rintro _ _ ⟨b3, rfl, rfl⟩; infer_instance
   rintro _ _ ⟨b3, rfl, rfl⟩
   refine Tk 5 rfl rfl (pv_nilCheck rfl) rfl ?_
   refine AnyH.one 6 (by kernel_rfl) ?_
   refine Turn.ef rfl rfl (ef_pv (pv_loadK [_, _, _, _, _, _, _, _] rfl rfl rfl ⟨rfl, rfl, rfl, rfl, rfl, rfl, rfl, rfl, trivial⟩) rfl) ?_ ?_
   ·
    rintro _ _ ⟨rfl, rfl⟩; infer_instance
   rintro _ _ ⟨rfl, rfl⟩
   refine AnyH.one 7 (by kernel_rfl) ?_
   refine Turn.ef rfl rfl (ef_buildSlice1 (k := 8) rfl rfl rfl rfl rfl) ?_ ?_
   ·
    rintro _ _ ⟨b4, rfl, rfl⟩; infer_instance
   rintro _ _ ⟨b4, rfl, rfl⟩
   refine AnyH.one 8 (by kernel_rfl) ?_
   refine Turn.ef rfl rfl (ef_append (H := Hs) (xs := [.int .i64 0, .int .i64 0, .int .i64 0, .int .i64 0, .int .i64 0, .int .u64 0, .int .u64 0, .int .i64 0]) rfl hs rfl ⟨rfl, rfl, rfl, rfl, rfl, rfl, rfl, rfl, trivial⟩ rfl rfl rfl (by omega) (by omega) rfl rfl) ?_ ?_
   ·
    rintro _ _ ⟨v1, H1, hs1, rfl, rfl⟩; infer_instance
   rintro _ _ ⟨v1, H1, hs1, rfl, rfl⟩
   refine AnyH.app ?_
   have hs2 : Slc 62 8 v1 (l.length + 1) (cel (cE fsP) (l ++ [zEl fsP])) H1 := by rw [cel_app, cel_one1]; exact hs1
   obtain ⟨eb, eo, cc, cap, rfl, rfl, hx, hset⟩ := slc_el (i := l.length) (a := zEl fsP) hs2 (by simp) (by decide)
   refine Tk 9 rfl rfl (pv_nilCheck rfl) rfl ?_
   refine AnyH.one 10 (by kernel_rfl) ?_
   refine Turn.ef rfl rfl (ef_store1 (hset := setL_set2 (nth_lt hv)) rfl rfl rfl rfl) ?_ ?_
   ·
    rintro _ _ ⟨rfl, rfl⟩; infer_instance
   rintro _ _ ⟨rfl, rfl⟩
   refine AnyH.done (by kernel_rfl) ?_
   refine Ends.seq ?_
   refine Wp.region ?_
   refine Om1 rfl rfl ?_
   refine Om1 rfl rfl ?_
   refine Ops.pv (pv_nilCheck rfl) rfl ?_
   refine Ops.pv (pv_load rfl rfl (nth_set (nth_lt hv))) rfl ?_
   refine Om1 rfl rfl ?_
   refine Ops.pv (pv_indexAddr (i := l.length) rfl rfl rfl (by omega)) rfl ?_
   refine Ops.efx rfl (efx_callf rfl rfl (tr_elR2 cp k adr bv lf (by omega) h1b h1a eb (eo + l.length * 8) cc 62 hx) rfl) ?_ ?_
   ·
    rintro _ _ ⟨_, ⟨rfl, hno, rfl⟩, rfl⟩
    exact ⟨[], ⟨rfl, by unfold rdL; rw [if_neg (by omega), if_neg (by omega)]; exact rdI_up (rdI_none hr hno) (by omega), rfl⟩, inferInstance⟩
   rintro _ _ ⟨_, _, ⟨rfl, e9, lf2, he9, rfl⟩, rfl, rfl⟩
   refine Ops.app ?_
   refine Ops.nil ?_
   refine Ends.block_normal ?_
   refine Ends.seq ?_
   refine Wp.region ?_
   refine Ops.pv (pv_add rfl rfl (w64n (k := l.length + 1) (by omega) (by omega))) rfl ?_
   refine Om1 rfl rfl ?_
   refine Ops.nil ?_
   refine Ends.goes ?_
   refine Goes.back (hK (l.length + 1, lf2, l ++ [mkEl fsP e9], .slice (some ⟨eb, eo, none⟩) (l.length + 1) cap, [(eb, .cells (setAt cc (eo + l.length * 8) (cE fsP (mkEl fsP e9))).toArray 62)]) ⟨by dsimp only; omega, rdI_some hr he9, by have := (rdI_len (rdI_some hr he9)).2; rw [List.length_drop] at this; dsimp only; omega, by have := hset (mkEl fsP e9); rw [List.set_append_right _ _ (Nat.le_refl _), Nat.sub_self, List.set_cons_zero] at this; rw [List.length_append]; exact this⟩ (by dsimp only; omega)) ⟨rfl, rfl, rfl, rfl, rfl, trivial⟩
  refine Turn.ef rfl rfl (ef_allocK tyZ62 rfl) ?_ ?_
  ·
   rintro _ _ ⟨b5, rfl, rfl⟩; infer_instance
  rintro _ _ ⟨b5, rfl, rfl⟩
  refine Tk 5 rfl rfl (pv_nilCheck rfl) rfl ?_
  refine AnyH.two 3 6 (by kernel_rfl) ?_ ?_
  ·
   refine Turn.ef rfl rfl (ef_pv (pv_load rfl rfl (nth_set (nth_lt hv))) rfl) ?_ ?_
   ·
    rintro _ _ ⟨rfl, rfl⟩; infer_instance
   rintro _ _ ⟨rfl, rfl⟩
   refine AnyH.one 6 (by kernel_rfl) ?_
   refine Turn.ef rfl rfl (ef_pv (pv_loadK [_, _, _, _, _, _, _, _] rfl rfl rfl ⟨rfl, rfl, rfl, rfl, rfl, rfl, rfl, rfl, trivial⟩) rfl) ?_ ?_
   ·
    rintro _ _ ⟨rfl, rfl⟩; infer_instance
   rintro _ _ ⟨rfl, rfl⟩
   refine AnyH.one 7 (by kernel_rfl) ?_
   refine Turn.ef rfl rfl (ef_buildSlice1 (k := 8) rfl rfl rfl rfl rfl) ?_ ?_
   ·
    rintro _ _ ⟨b6, rfl, rfl⟩; infer_instance
   rintro _ _ ⟨b6, rfl, rfl⟩
   refine AnyH.one 8 (by kernel_rfl) ?_
   refine Turn.ef rfl rfl (ef_append (H := Hs) (xs := [.int .i64 0, .int .i64 0, .int .i64 0, .int .i64 0, .int .i64 0, .int .u64 0, .int .u64 0, .int .i64 0]) rfl hs rfl ⟨rfl, rfl, rfl, rfl, rfl, rfl, rfl, rfl, trivial⟩ rfl rfl rfl (by omega) (by omega) rfl rfl) ?_ ?_
   ·
    rintro _ _ ⟨v2, H2, hs2, rfl, rfl⟩; infer_instance
   rintro _ _ ⟨v2, H2, hs2, rfl, rfl⟩
   refine AnyH.app ?_
   have hs2 : Slc 62 8 v2 (l.length + 1) (cel (cE fsP) (l ++ [zEl fsP])) H2 := by rw [cel_app, cel_one1]; exact hs2
   obtain ⟨eb, eo, cc, cap, rfl, rfl, hx, hset⟩ := slc_el (i := l.length) (a := zEl fsP) hs2 (by simp) (by decide)
   refine Tk 9 rfl rfl (pv_nilCheck rfl) rfl ?_
   refine AnyH.one 10 (by kernel_rfl) ?_
   refine Turn.ef rfl rfl (ef_store1 (hset := setL_set2 (nth_lt hv)) rfl rfl rfl rfl) ?_ ?_
   ·
    rintro _ _ ⟨rfl, rfl⟩; infer_instance
   rintro _ _ ⟨rfl, rfl⟩
   refine AnyH.done (by kernel_rfl) ?_
   refine Ends.seq ?_
   refine Wp.region ?_
   refine Om1 rfl rfl ?_
   refine Om1 rfl rfl ?_
   refine Ops.pv (pv_nilCheck rfl) rfl ?_
   refine Ops.pv (pv_load rfl rfl (nth_set (nth_lt hv))) rfl ?_
   refine Om1 rfl rfl ?_
   refine Ops.pv (pv_indexAddr (i := l.length) rfl rfl rfl (by omega)) rfl ?_
   refine Ops.efx rfl (efx_callf rfl rfl (tr_elR2 cp k adr bv lf (by omega) h1b h1a eb (eo + l.length * 8) cc 62 hx) rfl) ?_ ?_
   ·
    rintro _ _ ⟨_, ⟨rfl, hno, rfl⟩, rfl⟩
    exact ⟨[], ⟨rfl, by unfold rdL; rw [if_neg (by omega), if_neg (by omega)]; exact rdI_up (rdI_none hr hno) (by omega), rfl⟩, inferInstance⟩
   rintro _ _ ⟨_, _, ⟨rfl, e9, lf2, he9, rfl⟩, rfl, rfl⟩
   refine Ops.app ?_
   refine Ops.nil ?_
   refine Ends.block_normal ?_
   refine Ends.seq ?_
   refine Wp.region ?_
   refine Ops.pv (pv_add rfl rfl (w64n (k := l.length + 1) (by omega) (by omega))) rfl ?_
   refine Om1 rfl rfl ?_
   refine Ops.nil ?_
   refine Ends.goes ?_
   refine Goes.back (hK (l.length + 1, lf2, l ++ [mkEl fsP e9], .slice (some ⟨eb, eo, none⟩) (l.length + 1) cap, [(eb, .cells (setAt cc (eo + l.length * 8) (cE fsP (mkEl fsP e9))).toArray 62)]) ⟨by dsimp only; omega, rdI_some hr he9, by have := (rdI_len (rdI_some hr he9)).2; rw [List.length_drop] at this; dsimp only; omega, by have := hset (mkEl fsP e9); rw [List.set_append_right _ _ (Nat.le_refl _), Nat.sub_self, List.set_cons_zero] at this; rw [List.length_append]; exact this⟩ (by dsimp only; omega)) ⟨rfl, rfl, rfl, rfl, rfl, trivial⟩
  refine Turn.ef rfl rfl (ef_pv (pv_loadK [_, _, _, _, _, _, _, _] rfl rfl rfl ⟨rfl, rfl, rfl, rfl, rfl, rfl, rfl, rfl, trivial⟩) rfl) ?_ ?_
  ·
   rintro _ _ ⟨rfl, rfl⟩; infer_instance
  rintro _ _ ⟨rfl, rfl⟩
  refine AnyH.two 3 7 (by kernel_rfl) ?_ ?_
  ·
   refine Turn.ef rfl rfl (ef_pv (pv_load rfl rfl (nth_set (nth_lt hv))) rfl) ?_ ?_
   ·
    rintro _ _ ⟨rfl, rfl⟩; infer_instance
   rintro _ _ ⟨rfl, rfl⟩
   refine AnyH.one 7 (by kernel_rfl) ?_
   refine Turn.ef rfl rfl (ef_buildSlice1 (k := 8) rfl rfl rfl rfl rfl) ?_ ?_
   ·
    rintro _ _ ⟨b7, rfl, rfl⟩; infer_instance
   rintro _ _ ⟨b7, rfl, rfl⟩
   refine AnyH.one 8 (by kernel_rfl) ?_
   refine Turn.ef rfl rfl (ef_append (H := Hs) (xs := [.int .i64 0, .int .i64 0, .int .i64 0, .int .i64 0, .int .i64 0, .int .u64 0, .int .u64 0, .int .i64 0]) rfl hs rfl ⟨rfl, rfl, rfl, rfl, rfl, rfl, rfl, rfl, trivial⟩ rfl rfl rfl (by omega) (by omega) rfl rfl) ?_ ?_
   ·
    rintro _ _ ⟨v3, H3, hs3, rfl, rfl⟩; infer_instance
   rintro _ _ ⟨v3, H3, hs3, rfl, rfl⟩
   refine AnyH.app ?_
   have hs2 : Slc 62 8 v3 (l.length + 1) (cel (cE fsP) (l ++ [zEl fsP])) H3 := by rw [cel_app, cel_one1]; exact hs3
   obtain ⟨eb, eo, cc, cap, rfl, rfl, hx, hset⟩ := slc_el (i := l.length) (a := zEl fsP) hs2 (by simp) (by decide)
   refine Tk 9 rfl rfl (pv_nilCheck rfl) rfl ?_
   refine AnyH.one 10 (by kernel_rfl) ?_
   refine Turn.ef rfl rfl (ef_store1 (hset := setL_set2 (nth_lt hv)) rfl rfl rfl rfl) ?_ ?_
   ·
    rintro _ _ ⟨rfl, rfl⟩; infer_instance
   rintro _ _ ⟨rfl, rfl⟩
   refine AnyH.done (by kernel_rfl) ?_
   refine Ends.seq ?_
   refine Wp.region ?_
   refine Om1 rfl rfl ?_
   refine Om1 rfl rfl ?_
   refine Ops.pv (pv_nilCheck rfl) rfl ?_
   refine Ops.pv (pv_load rfl rfl (nth_set (nth_lt hv))) rfl ?_
   refine Om1 rfl rfl ?_
   refine Ops.pv (pv_indexAddr (i := l.length) rfl rfl rfl (by omega)) rfl ?_
   refine Ops.efx rfl (efx_callf rfl rfl (tr_elR2 cp k adr bv lf (by omega) h1b h1a eb (eo + l.length * 8) cc 62 hx) rfl) ?_ ?_
   ·
    rintro _ _ ⟨_, ⟨rfl, hno, rfl⟩, rfl⟩
    exact ⟨[], ⟨rfl, by unfold rdL; rw [if_neg (by omega), if_neg (by omega)]; exact rdI_up (rdI_none hr hno) (by omega), rfl⟩, inferInstance⟩
   rintro _ _ ⟨_, _, ⟨rfl, e9, lf2, he9, rfl⟩, rfl, rfl⟩
   refine Ops.app ?_
   refine Ops.nil ?_
   refine Ends.block_normal ?_
   refine Ends.seq ?_
   refine Wp.region ?_
   refine Ops.pv (pv_add rfl rfl (w64n (k := l.length + 1) (by omega) (by omega))) rfl ?_
   refine Om1 rfl rfl ?_
   refine Ops.nil ?_
   refine Ends.goes ?_
   refine Goes.back (hK (l.length + 1, lf2, l ++ [mkEl fsP e9], .slice (some ⟨eb, eo, none⟩) (l.length + 1) cap, [(eb, .cells (setAt cc (eo + l.length * 8) (cE fsP (mkEl fsP e9))).toArray 62)]) ⟨by dsimp only; omega, rdI_some hr he9, by have := (rdI_len (rdI_some hr he9)).2; rw [List.length_drop] at this; dsimp only; omega, by have := hset (mkEl fsP e9); rw [List.set_append_right _ _ (Nat.le_refl _), Nat.sub_self, List.set_cons_zero] at this; rw [List.length_append]; exact this⟩ (by dsimp only; omega)) ⟨rfl, rfl, rfl, rfl, rfl, trivial⟩
  refine Turn.ef rfl rfl (ef_buildSlice1 (k := 8) rfl rfl rfl rfl rfl) ?_ ?_
  ·
   rintro _ _ ⟨b8, rfl, rfl⟩; infer_instance
  rintro _ _ ⟨b8, rfl, rfl⟩
  refine AnyH.one 3 (by kernel_rfl) ?_
  refine Turn.ef rfl rfl (ef_pv (pv_load rfl rfl (nth_set (nth_lt hv))) rfl) ?_ ?_
  ·
   rintro _ _ ⟨rfl, rfl⟩; infer_instance
  rintro _ _ ⟨rfl, rfl⟩
  refine AnyH.one 8 (by kernel_rfl) ?_
  refine Turn.ef rfl rfl (ef_append (H := Hs) (xs := [.int .i64 0, .int .i64 0, .int .i64 0, .int .i64 0, .int .i64 0, .int .u64 0, .int .u64 0, .int .i64 0]) rfl hs rfl ⟨rfl, rfl, rfl, rfl, rfl, rfl, rfl, rfl, trivial⟩ rfl rfl rfl (by omega) (by omega) rfl rfl) ?_ ?_
  ·
   rintro _ _ ⟨v4, H4, hs4, rfl, rfl⟩; infer_instance
  rintro _ _ ⟨v4, H4, hs4, rfl, rfl⟩
  refine AnyH.app ?_
  have hs2 : Slc 62 8 v4 (l.length + 1) (cel (cE fsP) (l ++ [zEl fsP])) H4 := by rw [cel_app, cel_one1]; exact hs4
  obtain ⟨eb, eo, cc, cap, rfl, rfl, hx, hset⟩ := slc_el (i := l.length) (a := zEl fsP) hs2 (by simp) (by decide)
  refine Tk 9 rfl rfl (pv_nilCheck rfl) rfl ?_
  refine AnyH.one 10 (by kernel_rfl) ?_
  refine Turn.ef rfl rfl (ef_store1 (hset := setL_set2 (nth_lt hv)) rfl rfl rfl rfl) ?_ ?_
  ·
   rintro _ _ ⟨rfl, rfl⟩; infer_instance
  rintro _ _ ⟨rfl, rfl⟩
  refine AnyH.done (by kernel_rfl) ?_
  refine Ends.seq ?_
  refine Wp.region ?_
  refine Om1 rfl rfl ?_
  refine Om1 rfl rfl ?_
  refine Ops.pv (pv_nilCheck rfl) rfl ?_
  refine Ops.pv (pv_load rfl rfl (nth_set (nth_lt hv))) rfl ?_
  refine Om1 rfl rfl ?_
  refine Ops.pv (pv_indexAddr (i := l.length) rfl rfl rfl (by omega)) rfl ?_
  refine Ops.efx rfl (efx_callf rfl rfl (tr_elR2 cp k adr bv lf (by omega) h1b h1a eb (eo + l.length * 8) cc 62 hx) rfl) ?_ ?_
  ·
   rintro _ _ ⟨_, ⟨rfl, hno, rfl⟩, rfl⟩
   exact ⟨[], ⟨rfl, by unfold rdL; rw [if_neg (by omega), if_neg (by omega)]; exact rdI_up (rdI_none hr hno) (by omega), rfl⟩, inferInstance⟩
  rintro _ _ ⟨_, _, ⟨rfl, e9, lf2, he9, rfl⟩, rfl, rfl⟩
  refine Ops.app ?_
  refine Ops.nil ?_
  refine Ends.block_normal ?_
  refine Ends.seq ?_
  refine Wp.region ?_
  refine Ops.pv (pv_add rfl rfl (w64n (k := l.length + 1) (by omega) (by omega))) rfl ?_
  refine Om1 rfl rfl ?_
  refine Ops.nil ?_
  refine Ends.goes ?_
  refine Goes.back (hK (l.length + 1, lf2, l ++ [mkEl fsP e9], .slice (some ⟨eb, eo, none⟩) (l.length + 1) cap, [(eb, .cells (setAt cc (eo + l.length * 8) (cE fsP (mkEl fsP e9))).toArray 62)]) ⟨by dsimp only; omega, rdI_some hr he9, by have := (rdI_len (rdI_some hr he9)).2; rw [List.length_drop] at this; dsimp only; omega, by have := hset (mkEl fsP e9); rw [List.set_append_right _ _ (Nat.le_refl _), Nat.sub_self, List.set_cons_zero] at this; rw [List.length_append]; exact this⟩ (by dsimp only; omega)) ⟨rfl, rfl, rfl, rfl, rfl, trivial⟩
 obtain rfl : i = leV (left.take 2) := by omega
 refine Wp.exit ?_
 refine Ends.then_exit ?_
 refine Ends.then_exit ?_
 refine Ends.block_hit ?_
 have hL : rdL fsP 256 left = some (l, lf) := by unfold rdL; rw [if_neg (by omega), if_neg (by omega)]; exact hr
 exact Ends.finE (L' := (cp, .cells [kP k].toArray 78) :: ((k, .cells [.bool true, adr, bv, sV lf].toArray 84) :: ((d, .cells (dc.set o vs).toArray Td) :: Hs))) (res0 rfl) ⟨rfl, l, lf, vs, Hs, hL, hs, rfl⟩
set_option maxHeartbeats 8000000 in
theorem tr_listR3 (cp : Nat) (k : Nat) (adr bv : Value) (left : List UInt8) (hl : left.length ≤ 2 ^ 40) (h1b : bv.oneCell' = true) (h1a : adr.oneCell' = true) (d o : Nat) (dc : List Value) (Td : TypeId) (hv : nth dc o = some (.slice none 0 0)) : TrE Try.prog 40 [kP k, .pointer (some ⟨d, o, none⟩), .int .i64 64, .func (.func 41) #[] #[.pointer (some ⟨cp, 0, none⟩)]] ((cp, .cells [kP k].toArray 78) :: ((k, .cells [.bool true, adr, bv, sV left].toArray 84) :: [(d, .cells dc.toArray Td)])) (fun u L' => u = .tuple #[] ∧ ∃ (L : List (El fsM)) (left' : List UInt8) (v : Value) (H : Hp), rdL fsM 64 left = some (L, left') ∧ Slc 65 4 v L.length (cel (cE fsM) L) H ∧ L' = (cp, .cells [kP k].toArray 78) :: ((k, .cells [.bool true, adr, bv, sV left'].toArray 84) :: ((d, .cells (dc.set o v).toArray Td) :: H))) (fun c L' => c = badC ∧ rdL fsM 64 left = none ∧ L' = []) := by
 refine TrE.enter Try.func40 rfl Try.ntmps40 rfl (fun W F => ?_)
 refine Wp.app ?_
 refine Wr ?_
 refine Om1 rfl rfl ?_
 refine Ops.pv (pv_nilCheck rfl) rfl ?_
 refine Ops.pv (pv_load rfl rfl hv) rfl ?_
 refine Ops.pv (pv_len_slice (T := 34) rfl rfl) rfl ?_
 refine Ops.ef rfl (ef_alloc1 tyZ3 rfl rfl) ?_
 rintro _ _ ⟨b1, rfl, rfl⟩
 refine Ops.ef rfl (ef_store1 rfl rfl (by first | rfl | assumption) (by first | rfl | assumption)) ?_
 rintro _ _ ⟨rfl, rfl⟩
 refine On ?_
 refine Wp.seq ?_
 refine Wr ?_
 refine Ol1 rfl rfl rfl rfl ?_
 refine Om1 rfl rfl ?_
 refine Ops.pv ((pv_gtr rfl rfl).fls (by first | exact fun h => h rfl | decide | omega | assumption)) rfl ?_
 refine On ?_
 refine Wp.cond_false rfl ?_
 refine Wp.skip ?_
 refine Ends.seq ?_
 refine Wr ?_
 refine Om1 rfl rfl ?_
 refine Ops.ef rfl (ef_buildSlice1 (k := 1) rfl rfl rfl rfl rfl) ?_
 rintro _ _ ⟨b2, rfl, rfl⟩
 refine Ops.efx rfl (efx_call (tr_twoR k adr bv left hl h1b h1a b2 120 [.pointer (some ⟨b1, 0, none⟩)] b1 0 [.int .i64 0] 3 [0] rfl (one_hcc rfl) (by intro y hy; simp only [List.mem_cons, List.not_mem_nil, or_false] at hy; unfold RgI; omega) (by simp) (by simp)) rfl rfl) ?_ ?_
 ·
  rintro _ _ ⟨_, ⟨rfl, hno, rfl⟩, rfl⟩
  exact ⟨[], ⟨rfl, by have h3 : left.length < 2 := hno; unfold rdL; rw [if_pos h3], rfl⟩, inferInstance⟩
 rintro _ _ ⟨_, _, ⟨rfl, hl2, rfl⟩, rfl, rfl⟩
 refine Ops.app ?_
 rw [show setAt [.int .i64 0] 0 (intC (rdTw ([0] : List Int).length left)) = [.int .i64 ((leV (left.take 2) : Nat) : Int)] from rfl, show left.drop (2 * ([0] : List Int).length) = left.drop 2 from rfl]
 have hl3 : 2 ≤ left.length := hl2
 have hc2 := leV2 left
 refine On ?_
 refine Wp.seq ?_
 refine Wr ?_
 refine Ol1 rfl rfl rfl rfl ?_
 refine Om1 rfl rfl ?_
 refine Ops.pv (pv_gtr rfl rfl) rfl ?_
 refine On ?_
 refine Wp.cond_dect rfl (fun h1 => ?_) (fun h1 => ?_)
 ·
  refine Wp.region ?_
  refine Ops.pv (pv_build rfl) rfl ?_
  refine Ops.pv (pv_iface rfl rfl) rfl ?_
  exact Ops.panic rfl ⟨[], ⟨rfl, by unfold rdL; rw [if_neg (by omega), if_pos (by omega)], rfl⟩, inferInstance⟩
 have hmost : leV (left.take 2) ≤ 64 := by omega
 refine Wp.skip ?_
 refine Ends.seq ?_
 refine Wp.seq ?_
 refine Wr ?_
 refine Om1 rfl rfl ?_
 refine Ops.pv (pv_nilCheck rfl) rfl ?_
 refine Of1 rfl rfl rfl ?_
 refine Ol1 rfl rfl rfl rfl ?_
 refine On ?_
 refine Wp.cond_true rfl ?_
 refine Wp.region ?_
 refine Om1 rfl rfl ?_
 refine Ops.pv (pv_nilCheck rfl) rfl ?_
 refine Ops.ef rfl (ef_store1 (hset := setL_set (nth_lt hv)) rfl rfl rfl rfl) ?_
 rintro _ _ ⟨rfl, rfl⟩
 refine On ?_
 refine Wr ?_
 refine Ol1 rfl rfl rfl rfl ?_
 refine Om1 rfl rfl ?_
 refine On ?_
 refine Wp.block ?_
 refine Wp.loopK (σ := Nat × List UInt8 × List (El fsM) × Value × Hp) [(0, _), (1, _), (3, _), (33, _)] (fun s => [(34, .int .i64 s.1)]) (fun s => (cp, .cells [kP k].toArray 78) :: ((k, .cells [.bool true, adr, bv, sV s.2.1].toArray 84) :: ((d, .cells (dc.set o s.2.2.2.1).toArray Td) :: (s.2.2.2.2 ++ ((b1, .cells [.int .i64 ((leV (left.take 2) : Nat) : Int)].toArray 3) :: F))))) (fun s => s.1 ≤ leV (left.take 2) ∧ rdI fsM s.1 (left.drop 2) = some (s.2.2.1, s.2.1) ∧ s.2.1.length ≤ left.length ∧ Slc 65 4 s.2.2.2.1 s.2.2.1.length (cel (cE fsM) s.2.2.1) s.2.2.2.2) (fun s => leV (left.take 2) - s.1) (0, left.drop 2, [], .slice none 0 0, []) ⟨Nat.zero_le _, rfl, by dsimp only; rw [List.length_drop]; omega, Slc.nil 65 4⟩ ⟨rfl, rfl, rfl, rfl, trivial⟩ ⟨rfl, trivial⟩ (by intro w ho; (try dsimp only [List.nil_append, List.cons_append]); exact Drop.own ho) ?_
 rintro ⟨i, lf, l, vs, Hs⟩ KK ⟨hi, hr, hlf, hs⟩ hK
 dsimp only [List.cons_append, List.nil_append] at hK ⊢
 dsimp only at hi hr hlf hs ⊢
 refine Wr ?_
 refine Ops.pv (pv_lss rfl rfl) rfl ?_
 refine On ?_
 refine Wp.seq ?_
 refine Wp.cond_dect rfl (fun h2 => ?_) (fun h2 => ?_)
 ·
  obtain rfl : i = l.length := (rdI_len hr).1.symm
  refine Wp.skip ?_
  refine Ends.seq ?_
  refine Wp.seq ?_
  refine Wp.block ?_
  refine Wr ?_
  refine Om1 rfl rfl ?_
  refine Oa1 rfl rfl ?_
  refine On ?_
  refine Wp.seq ?_
  refine Wr ?_
  refine Om1 rfl rfl ?_
  refine Ops.pv (pv_nilCheck rfl) rfl ?_
  refine Of1 rfl rfl rfl ?_
  refine Ol1 rfl rfl rfl rfl ?_
  refine On ?_
  refine Wp.cond_true rfl ?_
  refine AnyH.start ([] : Hp) 11 rfl ?_
  refine Tk 0 rfl rfl (pv_move rfl) rfl ?_
  refine Tk 1 rfl rfl (pv_move rfl) rfl ?_
  refine Tk 2 rfl rfl (pv_nilCheck rfl) rfl ?_
  refine AnyH.two 3 4 (by kernel_rfl) ?_ ?_
  ·
   refine Turn.ef rfl rfl (ef_pv (pv_load rfl rfl (nth_set (nth_lt hv))) rfl) ?_ ?_
   ·
    rintro _ _ ⟨rfl, rfl⟩; infer_instance
   rintro _ _ ⟨rfl, rfl⟩
   refine AnyH.one 4 (by kernel_rfl) ?_
   refine Turn.ef rfl rfl (ef_allocK tyZ65 rfl) ?_ ?_
   ·
    rintro _ _ ⟨b3, rfl, rfl⟩; infer_instance
   rintro _ _ ⟨b3, rfl, rfl⟩
   refine Tk 5 rfl rfl (pv_nilCheck rfl) rfl ?_
   refine AnyH.one 6 (by kernel_rfl) ?_
   refine Turn.ef rfl rfl (ef_pv (pv_loadK [_, _, _, _] rfl rfl rfl ⟨rfl, rfl, rfl, rfl, trivial⟩) rfl) ?_ ?_
   ·
    rintro _ _ ⟨rfl, rfl⟩; infer_instance
   rintro _ _ ⟨rfl, rfl⟩
   refine AnyH.one 7 (by kernel_rfl) ?_
   refine Turn.ef rfl rfl (ef_buildSlice1 (k := 4) rfl rfl rfl rfl rfl) ?_ ?_
   ·
    rintro _ _ ⟨b4, rfl, rfl⟩; infer_instance
   rintro _ _ ⟨b4, rfl, rfl⟩
   refine AnyH.one 8 (by kernel_rfl) ?_
   refine Turn.ef rfl rfl (ef_append (H := Hs) (xs := [.int .i64 0, .int .i64 0, .int .i64 0, .bool false]) rfl hs rfl ⟨rfl, rfl, rfl, rfl, trivial⟩ rfl rfl rfl (by omega) (by omega) rfl rfl) ?_ ?_
   ·
    rintro _ _ ⟨v1, H1, hs1, rfl, rfl⟩; infer_instance
   rintro _ _ ⟨v1, H1, hs1, rfl, rfl⟩
   refine AnyH.app ?_
   have hs2 : Slc 65 4 v1 (l.length + 1) (cel (cE fsM) (l ++ [zEl fsM])) H1 := by rw [cel_app, cel_one1]; exact hs1
   obtain ⟨eb, eo, cc, cap, rfl, rfl, hx, hset⟩ := slc_el (i := l.length) (a := zEl fsM) hs2 (by simp) (by decide)
   refine Tk 9 rfl rfl (pv_nilCheck rfl) rfl ?_
   refine AnyH.one 10 (by kernel_rfl) ?_
   refine Turn.ef rfl rfl (ef_store1 (hset := setL_set2 (nth_lt hv)) rfl rfl rfl rfl) ?_ ?_
   ·
    rintro _ _ ⟨rfl, rfl⟩; infer_instance
   rintro _ _ ⟨rfl, rfl⟩
   refine AnyH.done (by kernel_rfl) ?_
   refine Ends.seq ?_
   refine Wp.region ?_
   refine Om1 rfl rfl ?_
   refine Om1 rfl rfl ?_
   refine Ops.pv (pv_nilCheck rfl) rfl ?_
   refine Ops.pv (pv_load rfl rfl (nth_set (nth_lt hv))) rfl ?_
   refine Om1 rfl rfl ?_
   refine Ops.pv (pv_indexAddr (i := l.length) rfl rfl rfl (by omega)) rfl ?_
   refine Ops.efx rfl (efx_callf rfl rfl (tr_elR3 cp k adr bv lf (by omega) h1b h1a eb (eo + l.length * 4) cc 65 hx) rfl) ?_ ?_
   ·
    rintro _ _ ⟨_, ⟨rfl, hno, rfl⟩, rfl⟩
    exact ⟨[], ⟨rfl, by unfold rdL; rw [if_neg (by omega), if_neg (by omega)]; exact rdI_up (rdI_none hr hno) (by omega), rfl⟩, inferInstance⟩
   rintro _ _ ⟨_, _, ⟨rfl, e9, lf2, he9, rfl⟩, rfl, rfl⟩
   refine Ops.app ?_
   refine Ops.nil ?_
   refine Ends.block_normal ?_
   refine Ends.seq ?_
   refine Wp.region ?_
   refine Ops.pv (pv_add rfl rfl (w64n (k := l.length + 1) (by omega) (by omega))) rfl ?_
   refine Om1 rfl rfl ?_
   refine Ops.nil ?_
   refine Ends.goes ?_
   refine Goes.back (hK (l.length + 1, lf2, l ++ [mkEl fsM e9], .slice (some ⟨eb, eo, none⟩) (l.length + 1) cap, [(eb, .cells (setAt cc (eo + l.length * 4) (cE fsM (mkEl fsM e9))).toArray 65)]) ⟨by dsimp only; omega, rdI_some hr he9, by have := (rdI_len (rdI_some hr he9)).2; rw [List.length_drop] at this; dsimp only; omega, by have := hset (mkEl fsM e9); rw [List.set_append_right _ _ (Nat.le_refl _), Nat.sub_self, List.set_cons_zero] at this; rw [List.length_append]; exact this⟩ (by dsimp only; omega)) ⟨rfl, rfl, rfl, rfl, rfl, trivial⟩
  refine Turn.ef rfl rfl (ef_allocK tyZ65 rfl) ?_ ?_
  ·
   rintro _ _ ⟨b5, rfl, rfl⟩; infer_instance
  rintro _ _ ⟨b5, rfl, rfl⟩
  refine Tk 5 rfl rfl (pv_nilCheck rfl) rfl ?_
  refine AnyH.two 3 6 (by kernel_rfl) ?_ ?_
  ·
   refine Turn.ef rfl rfl (ef_pv (pv_load rfl rfl (nth_set (nth_lt hv))) rfl) ?_ ?_
   ·
    rintro _ _ ⟨rfl, rfl⟩; infer_instance
   rintro _ _ ⟨rfl, rfl⟩
   refine AnyH.one 6 (by kernel_rfl) ?_
   refine Turn.ef rfl rfl (ef_pv (pv_loadK [_, _, _, _] rfl rfl rfl ⟨rfl, rfl, rfl, rfl, trivial⟩) rfl) ?_ ?_
   ·
    rintro _ _ ⟨rfl, rfl⟩; infer_instance
   rintro _ _ ⟨rfl, rfl⟩
   refine AnyH.one 7 (by kernel_rfl) ?_
   refine Turn.ef rfl rfl (ef_buildSlice1 (k := 4) rfl rfl rfl rfl rfl) ?_ ?_
   ·
    rintro _ _ ⟨b6, rfl, rfl⟩; infer_instance
   rintro _ _ ⟨b6, rfl, rfl⟩
   refine AnyH.one 8 (by kernel_rfl) ?_
   refine Turn.ef rfl rfl (ef_append (H := Hs) (xs := [.int .i64 0, .int .i64 0, .int .i64 0, .bool false]) rfl hs rfl ⟨rfl, rfl, rfl, rfl, trivial⟩ rfl rfl rfl (by omega) (by omega) rfl rfl) ?_ ?_
   ·
    rintro _ _ ⟨v2, H2, hs2, rfl, rfl⟩; infer_instance
   rintro _ _ ⟨v2, H2, hs2, rfl, rfl⟩
   refine AnyH.app ?_
   have hs2 : Slc 65 4 v2 (l.length + 1) (cel (cE fsM) (l ++ [zEl fsM])) H2 := by rw [cel_app, cel_one1]; exact hs2
   obtain ⟨eb, eo, cc, cap, rfl, rfl, hx, hset⟩ := slc_el (i := l.length) (a := zEl fsM) hs2 (by simp) (by decide)
   refine Tk 9 rfl rfl (pv_nilCheck rfl) rfl ?_
   refine AnyH.one 10 (by kernel_rfl) ?_
   refine Turn.ef rfl rfl (ef_store1 (hset := setL_set2 (nth_lt hv)) rfl rfl rfl rfl) ?_ ?_
   ·
    rintro _ _ ⟨rfl, rfl⟩; infer_instance
   rintro _ _ ⟨rfl, rfl⟩
   refine AnyH.done (by kernel_rfl) ?_
   refine Ends.seq ?_
   refine Wp.region ?_
   refine Om1 rfl rfl ?_
   refine Om1 rfl rfl ?_
   refine Ops.pv (pv_nilCheck rfl) rfl ?_
   refine Ops.pv (pv_load rfl rfl (nth_set (nth_lt hv))) rfl ?_
   refine Om1 rfl rfl ?_
   refine Ops.pv (pv_indexAddr (i := l.length) rfl rfl rfl (by omega)) rfl ?_
   refine Ops.efx rfl (efx_callf rfl rfl (tr_elR3 cp k adr bv lf (by omega) h1b h1a eb (eo + l.length * 4) cc 65 hx) rfl) ?_ ?_
   ·
    rintro _ _ ⟨_, ⟨rfl, hno, rfl⟩, rfl⟩
    exact ⟨[], ⟨rfl, by unfold rdL; rw [if_neg (by omega), if_neg (by omega)]; exact rdI_up (rdI_none hr hno) (by omega), rfl⟩, inferInstance⟩
   rintro _ _ ⟨_, _, ⟨rfl, e9, lf2, he9, rfl⟩, rfl, rfl⟩
   refine Ops.app ?_
   refine Ops.nil ?_
   refine Ends.block_normal ?_
   refine Ends.seq ?_
   refine Wp.region ?_
   refine Ops.pv (pv_add rfl rfl (w64n (k := l.length + 1) (by omega) (by omega))) rfl ?_
   refine Om1 rfl rfl ?_
   refine Ops.nil ?_
   refine Ends.goes ?_
   refine Goes.back (hK (l.length + 1, lf2, l ++ [mkEl fsM e9], .slice (some ⟨eb, eo, none⟩) (l.length + 1) cap, [(eb, .cells (setAt cc (eo + l.length * 4) (cE fsM (mkEl fsM e9))).toArray 65)]) ⟨by dsimp only; omega, rdI_some hr he9, by have := (rdI_len (rdI_some hr he9)).2; rw [List.length_drop] at this; dsimp only; omega, by have := hset (mkEl fsM e9); rw [List.set_append_right _ _ (Nat.le_refl _), Nat.sub_self, List.set_cons_zero] at this; rw [List.length_append]; exact this⟩ (by dsimp only; omega)) ⟨rfl, rfl, rfl, rfl, rfl, trivial⟩
  refine Turn.ef rfl rfl (ef_pv (pv_loadK [_, _, _, _] rfl rfl rfl ⟨rfl, rfl, rfl, rfl, trivial⟩) rfl) ?_ ?_
  ·
   rintro _ _ ⟨rfl, rfl⟩; infer_instance
  rintro _ _ ⟨rfl, rfl⟩
  refine AnyH.two 3 7 (by kernel_rfl) ?_ ?_
  ·
   refine Turn.ef rfl rfl (ef_pv (pv_load rfl rfl (nth_set (nth_lt hv))) rfl) ?_ ?_
   ·
    rintro _ _ ⟨rfl, rfl⟩; infer_instance
   rintro _ _ ⟨rfl, rfl⟩
   refine AnyH.one 7 (by kernel_rfl) ?_
   refine Turn.ef rfl rfl (ef_buildSlice1 (k := 4) rfl rfl rfl rfl rfl) ?_ ?_
   ·
    rintro _ _ ⟨b7, rfl, rfl⟩; infer_instance
   rintro _ _ ⟨b7, rfl, rfl⟩
   refine AnyH.one 8 (by kernel_rfl) ?_
   refine Turn.ef rfl rfl (ef_append (H := Hs) (xs := [.int .i64 0, .int .i64 0, .int .i64 0, .bool false]) rfl hs rfl ⟨rfl, rfl, rfl, rfl, trivial⟩ rfl rfl rfl (by omega) (by omega) rfl rfl) ?_ ?_
   ·
    rintro _ _ ⟨v3, H3, hs3, rfl, rfl⟩; infer_instance
   rintro _ _ ⟨v3, H3, hs3, rfl, rfl⟩
   refine AnyH.app ?_
   have hs2 : Slc 65 4 v3 (l.length + 1) (cel (cE fsM) (l ++ [zEl fsM])) H3 := by rw [cel_app, cel_one1]; exact hs3
   obtain ⟨eb, eo, cc, cap, rfl, rfl, hx, hset⟩ := slc_el (i := l.length) (a := zEl fsM) hs2 (by simp) (by decide)
   refine Tk 9 rfl rfl (pv_nilCheck rfl) rfl ?_
   refine AnyH.one 10 (by kernel_rfl) ?_
   refine Turn.ef rfl rfl (ef_store1 (hset := setL_set2 (nth_lt hv)) rfl rfl rfl rfl) ?_ ?_
   ·
    rintro _ _ ⟨rfl, rfl⟩; infer_instance
   rintro _ _ ⟨rfl, rfl⟩
   refine AnyH.done (by kernel_rfl) ?_
   refine Ends.seq ?_
   refine Wp.region ?_
   refine Om1 rfl rfl ?_
   refine Om1 rfl rfl ?_
   refine Ops.pv (pv_nilCheck rfl) rfl ?_
   refine Ops.pv (pv_load rfl rfl (nth_set (nth_lt hv))) rfl ?_
   refine Om1 rfl rfl ?_
   refine Ops.pv (pv_indexAddr (i := l.length) rfl rfl rfl (by omega)) rfl ?_
   refine Ops.efx rfl (efx_callf rfl rfl (tr_elR3 cp k adr bv lf (by omega) h1b h1a eb (eo + l.length * 4) cc 65 hx) rfl) ?_ ?_
   ·
    rintro _ _ ⟨_, ⟨rfl, hno, rfl⟩, rfl⟩
    exact ⟨[], ⟨rfl, by unfold rdL; rw [if_neg (by omega), if_neg (by omega)]; exact rdI_up (rdI_none hr hno) (by omega), rfl⟩, inferInstance⟩
   rintro _ _ ⟨_, _, ⟨rfl, e9, lf2, he9, rfl⟩, rfl, rfl⟩
   refine Ops.app ?_
   refine Ops.nil ?_
   refine Ends.block_normal ?_
   refine Ends.seq ?_
   refine Wp.region ?_
   refine Ops.pv (pv_add rfl rfl (w64n (k := l.length + 1) (by omega) (by omega))) rfl ?_
   refine Om1 rfl rfl ?_
   refine Ops.nil ?_
   refine Ends.goes ?_
   refine Goes.back (hK (l.length + 1, lf2, l ++ [mkEl fsM e9], .slice (some ⟨eb, eo, none⟩) (l.length + 1) cap, [(eb, .cells (setAt cc (eo + l.length * 4) (cE fsM (mkEl fsM e9))).toArray 65)]) ⟨by dsimp only; omega, rdI_some hr he9, by have := (rdI_len (rdI_some hr he9)).2; rw [List.length_drop] at this; dsimp only; omega, by have := hset (mkEl fsM e9); rw [List.set_append_right _ _ (Nat.le_refl _), Nat.sub_self, List.set_cons_zero] at this; rw [List.length_append]; exact this⟩ (by dsimp only; omega)) ⟨rfl, rfl, rfl, rfl, rfl, trivial⟩
  refine Turn.ef rfl rfl (ef_buildSlice1 (k := 4) rfl rfl rfl rfl rfl) ?_ ?_
  ·
   rintro _ _ ⟨b8, rfl, rfl⟩; infer_instance
  rintro _ _ ⟨b8, rfl, rfl⟩
  refine AnyH.one 3 (by kernel_rfl) ?_
  refine Turn.ef rfl rfl (ef_pv (pv_load rfl rfl (nth_set (nth_lt hv))) rfl) ?_ ?_
  ·
   rintro _ _ ⟨rfl, rfl⟩; infer_instance
  rintro _ _ ⟨rfl, rfl⟩
  refine AnyH.one 8 (by kernel_rfl) ?_
  refine Turn.ef rfl rfl (ef_append (H := Hs) (xs := [.int .i64 0, .int .i64 0, .int .i64 0, .bool false]) rfl hs rfl ⟨rfl, rfl, rfl, rfl, trivial⟩ rfl rfl rfl (by omega) (by omega) rfl rfl) ?_ ?_
  ·
   rintro _ _ ⟨v4, H4, hs4, rfl, rfl⟩; infer_instance
  rintro _ _ ⟨v4, H4, hs4, rfl, rfl⟩
  refine AnyH.app ?_
  have hs2 : Slc 65 4 v4 (l.length + 1) (cel (cE fsM) (l ++ [zEl fsM])) H4 := by rw [cel_app, cel_one1]; exact hs4
  obtain ⟨eb, eo, cc, cap, rfl, rfl, hx, hset⟩ := slc_el (i := l.length) (a := zEl fsM) hs2 (by simp) (by decide)
  refine Tk 9 rfl rfl (pv_nilCheck rfl) rfl ?_
  refine AnyH.one 10 (by kernel_rfl) ?_
  refine Turn.ef rfl rfl (ef_store1 (hset := setL_set2 (nth_lt hv)) rfl rfl rfl rfl) ?_ ?_
  ·
   rintro _ _ ⟨rfl, rfl⟩; infer_instance
  rintro _ _ ⟨rfl, rfl⟩
  refine AnyH.done (by kernel_rfl) ?_
  refine Ends.seq ?_
  refine Wp.region ?_
  refine Om1 rfl rfl ?_
  refine Om1 rfl rfl ?_
  refine Ops.pv (pv_nilCheck rfl) rfl ?_
  refine Ops.pv (pv_load rfl rfl (nth_set (nth_lt hv))) rfl ?_
  refine Om1 rfl rfl ?_
  refine Ops.pv (pv_indexAddr (i := l.length) rfl rfl rfl (by omega)) rfl ?_
  refine Ops.efx rfl (efx_callf rfl rfl (tr_elR3 cp k adr bv lf (by omega) h1b h1a eb (eo + l.length * 4) cc 65 hx) rfl) ?_ ?_
  ·
   rintro _ _ ⟨_, ⟨rfl, hno, rfl⟩, rfl⟩
   exact ⟨[], ⟨rfl, by unfold rdL; rw [if_neg (by omega), if_neg (by omega)]; exact rdI_up (rdI_none hr hno) (by omega), rfl⟩, inferInstance⟩
  rintro _ _ ⟨_, _, ⟨rfl, e9, lf2, he9, rfl⟩, rfl, rfl⟩
  refine Ops.app ?_
  refine Ops.nil ?_
  refine Ends.block_normal ?_
  refine Ends.seq ?_
  refine Wp.region ?_
  refine Ops.pv (pv_add rfl rfl (w64n (k := l.length + 1) (by omega) (by omega))) rfl ?_
  refine Om1 rfl rfl ?_
  refine Ops.nil ?_
  refine Ends.goes ?_
  refine Goes.back (hK (l.length + 1, lf2, l ++ [mkEl fsM e9], .slice (some ⟨eb, eo, none⟩) (l.length + 1) cap, [(eb, .cells (setAt cc (eo + l.length * 4) (cE fsM (mkEl fsM e9))).toArray 65)]) ⟨by dsimp only; omega, rdI_some hr he9, by have := (rdI_len (rdI_some hr he9)).2; rw [List.length_drop] at this; dsimp only; omega, by have := hset (mkEl fsM e9); rw [List.set_append_right _ _ (Nat.le_refl _), Nat.sub_self, List.set_cons_zero] at this; rw [List.length_append]; exact this⟩ (by dsimp only; omega)) ⟨rfl, rfl, rfl, rfl, rfl, trivial⟩
 obtain rfl : i = leV (left.take 2) := by omega
 refine Wp.exit ?_
 refine Ends.then_exit ?_
 refine Ends.then_exit ?_
 refine Ends.block_hit ?_
 have hL : rdL fsM 64 left = some (l, lf) := by unfold rdL; rw [if_neg (by omega), if_neg (by omega)]; exact hr
 exact Ends.finE (L' := (cp, .cells [kP k].toArray 78) :: ((k, .cells [.bool true, adr, bv, sV lf].toArray 84) :: ((d, .cells (dc.set o vs).toArray Td) :: Hs))) (res0 rfl) ⟨rfl, l, lf, vs, Hs, hL, hs, rfl⟩
set_option maxHeartbeats 8000000 in
theorem tr_listR4 (cp : Nat) (k : Nat) (adr bv : Value) (left : List UInt8) (hl : left.length ≤ 2 ^ 40) (h1b : bv.oneCell' = true) (h1a : adr.oneCell' = true) (d o : Nat) (dc : List Value) (Td : TypeId) (hv : nth dc o = some (.slice none 0 0)) : TrE Try.prog 43 [kP k, .pointer (some ⟨d, o, none⟩), .int .i64 512, .func (.func 44) #[] #[.pointer (some ⟨cp, 0, none⟩)]] ((cp, .cells [kP k].toArray 78) :: ((k, .cells [.bool true, adr, bv, sV left].toArray 84) :: [(d, .cells dc.toArray Td)])) (fun u L' => u = .tuple #[] ∧ ∃ (L : List (El fsF)) (left' : List UInt8) (v : Value) (H : Hp), rdL fsF 512 left = some (L, left') ∧ Slc 68 3 v L.length (cel (cE fsF) L) H ∧ L' = (cp, .cells [kP k].toArray 78) :: ((k, .cells [.bool true, adr, bv, sV left'].toArray 84) :: ((d, .cells (dc.set o v).toArray Td) :: H))) (fun c L' => c = badC ∧ rdL fsF 512 left = none ∧ L' = []) := by
 refine TrE.enter Try.func43 rfl Try.ntmps43 rfl (fun W F => ?_)
 refine Wp.app ?_
 refine Wr ?_
 refine Om1 rfl rfl ?_
 refine Ops.pv (pv_nilCheck rfl) rfl ?_
 refine Ops.pv (pv_load rfl rfl hv) rfl ?_
 refine Ops.pv (pv_len_slice (T := 35) rfl rfl) rfl ?_
 refine Ops.ef rfl (ef_alloc1 tyZ3 rfl rfl) ?_
 rintro _ _ ⟨b1, rfl, rfl⟩
 refine Ops.ef rfl (ef_store1 rfl rfl (by first | rfl | assumption) (by first | rfl | assumption)) ?_
 rintro _ _ ⟨rfl, rfl⟩
 refine On ?_
 refine Wp.seq ?_
 refine Wr ?_
 refine Ol1 rfl rfl rfl rfl ?_
 refine Om1 rfl rfl ?_
 refine Ops.pv ((pv_gtr rfl rfl).fls (by first | exact fun h => h rfl | decide | omega | assumption)) rfl ?_
 refine On ?_
 refine Wp.cond_false rfl ?_
 refine Wp.skip ?_
 refine Ends.seq ?_
 refine Wr ?_
 refine Om1 rfl rfl ?_
 refine Ops.ef rfl (ef_buildSlice1 (k := 1) rfl rfl rfl rfl rfl) ?_
 rintro _ _ ⟨b2, rfl, rfl⟩
 refine Ops.efx rfl (efx_call (tr_twoR k adr bv left hl h1b h1a b2 120 [.pointer (some ⟨b1, 0, none⟩)] b1 0 [.int .i64 0] 3 [0] rfl (one_hcc rfl) (by intro y hy; simp only [List.mem_cons, List.not_mem_nil, or_false] at hy; unfold RgI; omega) (by simp) (by simp)) rfl rfl) ?_ ?_
 ·
  rintro _ _ ⟨_, ⟨rfl, hno, rfl⟩, rfl⟩
  exact ⟨[], ⟨rfl, by have h3 : left.length < 2 := hno; unfold rdL; rw [if_pos h3], rfl⟩, inferInstance⟩
 rintro _ _ ⟨_, _, ⟨rfl, hl2, rfl⟩, rfl, rfl⟩
 refine Ops.app ?_
 rw [show setAt [.int .i64 0] 0 (intC (rdTw ([0] : List Int).length left)) = [.int .i64 ((leV (left.take 2) : Nat) : Int)] from rfl, show left.drop (2 * ([0] : List Int).length) = left.drop 2 from rfl]
 have hl3 : 2 ≤ left.length := hl2
 have hc2 := leV2 left
 refine On ?_
 refine Wp.seq ?_
 refine Wr ?_
 refine Ol1 rfl rfl rfl rfl ?_
 refine Om1 rfl rfl ?_
 refine Ops.pv (pv_gtr rfl rfl) rfl ?_
 refine On ?_
 refine Wp.cond_dect rfl (fun h1 => ?_) (fun h1 => ?_)
 ·
  refine Wp.region ?_
  refine Ops.pv (pv_build rfl) rfl ?_
  refine Ops.pv (pv_iface rfl rfl) rfl ?_
  exact Ops.panic rfl ⟨[], ⟨rfl, by unfold rdL; rw [if_neg (by omega), if_pos (by omega)], rfl⟩, inferInstance⟩
 have hmost : leV (left.take 2) ≤ 512 := by omega
 refine Wp.skip ?_
 refine Ends.seq ?_
 refine Wp.seq ?_
 refine Wr ?_
 refine Om1 rfl rfl ?_
 refine Ops.pv (pv_nilCheck rfl) rfl ?_
 refine Of1 rfl rfl rfl ?_
 refine Ol1 rfl rfl rfl rfl ?_
 refine On ?_
 refine Wp.cond_true rfl ?_
 refine Wp.region ?_
 refine Om1 rfl rfl ?_
 refine Ops.pv (pv_nilCheck rfl) rfl ?_
 refine Ops.ef rfl (ef_store1 (hset := setL_set (nth_lt hv)) rfl rfl rfl rfl) ?_
 rintro _ _ ⟨rfl, rfl⟩
 refine On ?_
 refine Wr ?_
 refine Ol1 rfl rfl rfl rfl ?_
 refine Om1 rfl rfl ?_
 refine On ?_
 refine Wp.block ?_
 refine Wp.loopK (σ := Nat × List UInt8 × List (El fsF) × Value × Hp) [(0, _), (1, _), (3, _), (33, _)] (fun s => [(34, .int .i64 s.1)]) (fun s => (cp, .cells [kP k].toArray 78) :: ((k, .cells [.bool true, adr, bv, sV s.2.1].toArray 84) :: ((d, .cells (dc.set o s.2.2.2.1).toArray Td) :: (s.2.2.2.2 ++ ((b1, .cells [.int .i64 ((leV (left.take 2) : Nat) : Int)].toArray 3) :: F))))) (fun s => s.1 ≤ leV (left.take 2) ∧ rdI fsF s.1 (left.drop 2) = some (s.2.2.1, s.2.1) ∧ s.2.1.length ≤ left.length ∧ Slc 68 3 s.2.2.2.1 s.2.2.1.length (cel (cE fsF) s.2.2.1) s.2.2.2.2) (fun s => leV (left.take 2) - s.1) (0, left.drop 2, [], .slice none 0 0, []) ⟨Nat.zero_le _, rfl, by dsimp only; rw [List.length_drop]; omega, Slc.nil 68 3⟩ ⟨rfl, rfl, rfl, rfl, trivial⟩ ⟨rfl, trivial⟩ (by intro w ho; (try dsimp only [List.nil_append, List.cons_append]); exact Drop.own ho) ?_
 rintro ⟨i, lf, l, vs, Hs⟩ KK ⟨hi, hr, hlf, hs⟩ hK
 dsimp only [List.cons_append, List.nil_append] at hK ⊢
 dsimp only at hi hr hlf hs ⊢
 refine Wr ?_
 refine Ops.pv (pv_lss rfl rfl) rfl ?_
 refine On ?_
 refine Wp.seq ?_
 refine Wp.cond_dect rfl (fun h2 => ?_) (fun h2 => ?_)
 ·
  obtain rfl : i = l.length := (rdI_len hr).1.symm
  refine Wp.skip ?_
  refine Ends.seq ?_
  refine Wp.seq ?_
  refine Wp.block ?_
  refine Wr ?_
  refine Om1 rfl rfl ?_
  refine Oa1 rfl rfl ?_
  refine On ?_
  refine Wp.seq ?_
  refine Wr ?_
  refine Om1 rfl rfl ?_
  refine Ops.pv (pv_nilCheck rfl) rfl ?_
  refine Of1 rfl rfl rfl ?_
  refine Ol1 rfl rfl rfl rfl ?_
  refine On ?_
  refine Wp.cond_true rfl ?_
  refine AnyH.start ([] : Hp) 11 rfl ?_
  refine Tk 0 rfl rfl (pv_move rfl) rfl ?_
  refine Tk 1 rfl rfl (pv_move rfl) rfl ?_
  refine Tk 2 rfl rfl (pv_nilCheck rfl) rfl ?_
  refine AnyH.two 3 4 (by kernel_rfl) ?_ ?_
  ·
   refine Turn.ef rfl rfl (ef_pv (pv_load rfl rfl (nth_set (nth_lt hv))) rfl) ?_ ?_
   ·
    rintro _ _ ⟨rfl, rfl⟩; infer_instance
   rintro _ _ ⟨rfl, rfl⟩
   refine AnyH.one 4 (by kernel_rfl) ?_
   refine Turn.ef rfl rfl (ef_allocK tyZ68 rfl) ?_ ?_
   ·
    rintro _ _ ⟨b3, rfl, rfl⟩; infer_instance
   rintro _ _ ⟨b3, rfl, rfl⟩
   refine Tk 5 rfl rfl (pv_nilCheck rfl) rfl ?_
   refine AnyH.one 6 (by kernel_rfl) ?_
   refine Turn.ef rfl rfl (ef_pv (pv_loadK [_, _, _] rfl rfl rfl ⟨rfl, rfl, rfl, trivial⟩) rfl) ?_ ?_
   ·
    rintro _ _ ⟨rfl, rfl⟩; infer_instance
   rintro _ _ ⟨rfl, rfl⟩
   refine AnyH.one 7 (by kernel_rfl) ?_
   refine Turn.ef rfl rfl (ef_buildSlice1 (k := 3) rfl rfl rfl rfl rfl) ?_ ?_
   ·
    rintro _ _ ⟨b4, rfl, rfl⟩; infer_instance
   rintro _ _ ⟨b4, rfl, rfl⟩
   refine AnyH.one 8 (by kernel_rfl) ?_
   refine Turn.ef rfl rfl (ef_append (H := Hs) (xs := [.int .i64 0, .int .i64 0, .int .u64 0]) rfl hs rfl ⟨rfl, rfl, rfl, trivial⟩ rfl rfl rfl (by omega) (by omega) rfl rfl) ?_ ?_
   ·
    rintro _ _ ⟨v1, H1, hs1, rfl, rfl⟩; infer_instance
   rintro _ _ ⟨v1, H1, hs1, rfl, rfl⟩
   refine AnyH.app ?_
   have hs2 : Slc 68 3 v1 (l.length + 1) (cel (cE fsF) (l ++ [zEl fsF])) H1 := by rw [cel_app, cel_one1]; exact hs1
   obtain ⟨eb, eo, cc, cap, rfl, rfl, hx, hset⟩ := slc_el (i := l.length) (a := zEl fsF) hs2 (by simp) (by decide)
   refine Tk 9 rfl rfl (pv_nilCheck rfl) rfl ?_
   refine AnyH.one 10 (by kernel_rfl) ?_
   refine Turn.ef rfl rfl (ef_store1 (hset := setL_set2 (nth_lt hv)) rfl rfl rfl rfl) ?_ ?_
   ·
    rintro _ _ ⟨rfl, rfl⟩; infer_instance
   rintro _ _ ⟨rfl, rfl⟩
   refine AnyH.done (by kernel_rfl) ?_
   refine Ends.seq ?_
   refine Wp.region ?_
   refine Om1 rfl rfl ?_
   refine Om1 rfl rfl ?_
   refine Ops.pv (pv_nilCheck rfl) rfl ?_
   refine Ops.pv (pv_load rfl rfl (nth_set (nth_lt hv))) rfl ?_
   refine Om1 rfl rfl ?_
   refine Ops.pv (pv_indexAddr (i := l.length) rfl rfl rfl (by omega)) rfl ?_
   refine Ops.efx rfl (efx_callf rfl rfl (tr_elR4 cp k adr bv lf (by omega) h1b h1a eb (eo + l.length * 3) cc 68 hx) rfl) ?_ ?_
   ·
    rintro _ _ ⟨_, ⟨rfl, hno, rfl⟩, rfl⟩
    exact ⟨[], ⟨rfl, by unfold rdL; rw [if_neg (by omega), if_neg (by omega)]; exact rdI_up (rdI_none hr hno) (by omega), rfl⟩, inferInstance⟩
   rintro _ _ ⟨_, _, ⟨rfl, e9, lf2, he9, rfl⟩, rfl, rfl⟩
   refine Ops.app ?_
   refine Ops.nil ?_
   refine Ends.block_normal ?_
   refine Ends.seq ?_
   refine Wp.region ?_
   refine Ops.pv (pv_add rfl rfl (w64n (k := l.length + 1) (by omega) (by omega))) rfl ?_
   refine Om1 rfl rfl ?_
   refine Ops.nil ?_
   refine Ends.goes ?_
   refine Goes.back (hK (l.length + 1, lf2, l ++ [mkEl fsF e9], .slice (some ⟨eb, eo, none⟩) (l.length + 1) cap, [(eb, .cells (setAt cc (eo + l.length * 3) (cE fsF (mkEl fsF e9))).toArray 68)]) ⟨by dsimp only; omega, rdI_some hr he9, by have := (rdI_len (rdI_some hr he9)).2; rw [List.length_drop] at this; dsimp only; omega, by have := hset (mkEl fsF e9); rw [List.set_append_right _ _ (Nat.le_refl _), Nat.sub_self, List.set_cons_zero] at this; rw [List.length_append]; exact this⟩ (by dsimp only; omega)) ⟨rfl, rfl, rfl, rfl, rfl, trivial⟩
  refine Turn.ef rfl rfl (ef_allocK tyZ68 rfl) ?_ ?_
  ·
   rintro _ _ ⟨b5, rfl, rfl⟩; infer_instance
  rintro _ _ ⟨b5, rfl, rfl⟩
  refine Tk 5 rfl rfl (pv_nilCheck rfl) rfl ?_
  refine AnyH.two 3 6 (by kernel_rfl) ?_ ?_
  ·
   refine Turn.ef rfl rfl (ef_pv (pv_load rfl rfl (nth_set (nth_lt hv))) rfl) ?_ ?_
   ·
    rintro _ _ ⟨rfl, rfl⟩; infer_instance
   rintro _ _ ⟨rfl, rfl⟩
   refine AnyH.one 6 (by kernel_rfl) ?_
   refine Turn.ef rfl rfl (ef_pv (pv_loadK [_, _, _] rfl rfl rfl ⟨rfl, rfl, rfl, trivial⟩) rfl) ?_ ?_
   ·
    rintro _ _ ⟨rfl, rfl⟩; infer_instance
   rintro _ _ ⟨rfl, rfl⟩
   refine AnyH.one 7 (by kernel_rfl) ?_
   refine Turn.ef rfl rfl (ef_buildSlice1 (k := 3) rfl rfl rfl rfl rfl) ?_ ?_
   ·
    rintro _ _ ⟨b6, rfl, rfl⟩; infer_instance
   rintro _ _ ⟨b6, rfl, rfl⟩
   refine AnyH.one 8 (by kernel_rfl) ?_
   refine Turn.ef rfl rfl (ef_append (H := Hs) (xs := [.int .i64 0, .int .i64 0, .int .u64 0]) rfl hs rfl ⟨rfl, rfl, rfl, trivial⟩ rfl rfl rfl (by omega) (by omega) rfl rfl) ?_ ?_
   ·
    rintro _ _ ⟨v2, H2, hs2, rfl, rfl⟩; infer_instance
   rintro _ _ ⟨v2, H2, hs2, rfl, rfl⟩
   refine AnyH.app ?_
   have hs2 : Slc 68 3 v2 (l.length + 1) (cel (cE fsF) (l ++ [zEl fsF])) H2 := by rw [cel_app, cel_one1]; exact hs2
   obtain ⟨eb, eo, cc, cap, rfl, rfl, hx, hset⟩ := slc_el (i := l.length) (a := zEl fsF) hs2 (by simp) (by decide)
   refine Tk 9 rfl rfl (pv_nilCheck rfl) rfl ?_
   refine AnyH.one 10 (by kernel_rfl) ?_
   refine Turn.ef rfl rfl (ef_store1 (hset := setL_set2 (nth_lt hv)) rfl rfl rfl rfl) ?_ ?_
   ·
    rintro _ _ ⟨rfl, rfl⟩; infer_instance
   rintro _ _ ⟨rfl, rfl⟩
   refine AnyH.done (by kernel_rfl) ?_
   refine Ends.seq ?_
   refine Wp.region ?_
   refine Om1 rfl rfl ?_
   refine Om1 rfl rfl ?_
   refine Ops.pv (pv_nilCheck rfl) rfl ?_
   refine Ops.pv (pv_load rfl rfl (nth_set (nth_lt hv))) rfl ?_
   refine Om1 rfl rfl ?_
   refine Ops.pv (pv_indexAddr (i := l.length) rfl rfl rfl (by omega)) rfl ?_
   refine Ops.efx rfl (efx_callf rfl rfl (tr_elR4 cp k adr bv lf (by omega) h1b h1a eb (eo + l.length * 3) cc 68 hx) rfl) ?_ ?_
   ·
    rintro _ _ ⟨_, ⟨rfl, hno, rfl⟩, rfl⟩
    exact ⟨[], ⟨rfl, by unfold rdL; rw [if_neg (by omega), if_neg (by omega)]; exact rdI_up (rdI_none hr hno) (by omega), rfl⟩, inferInstance⟩
   rintro _ _ ⟨_, _, ⟨rfl, e9, lf2, he9, rfl⟩, rfl, rfl⟩
   refine Ops.app ?_
   refine Ops.nil ?_
   refine Ends.block_normal ?_
   refine Ends.seq ?_
   refine Wp.region ?_
   refine Ops.pv (pv_add rfl rfl (w64n (k := l.length + 1) (by omega) (by omega))) rfl ?_
   refine Om1 rfl rfl ?_
   refine Ops.nil ?_
   refine Ends.goes ?_
   refine Goes.back (hK (l.length + 1, lf2, l ++ [mkEl fsF e9], .slice (some ⟨eb, eo, none⟩) (l.length + 1) cap, [(eb, .cells (setAt cc (eo + l.length * 3) (cE fsF (mkEl fsF e9))).toArray 68)]) ⟨by dsimp only; omega, rdI_some hr he9, by have := (rdI_len (rdI_some hr he9)).2; rw [List.length_drop] at this; dsimp only; omega, by have := hset (mkEl fsF e9); rw [List.set_append_right _ _ (Nat.le_refl _), Nat.sub_self, List.set_cons_zero] at this; rw [List.length_append]; exact this⟩ (by dsimp only; omega)) ⟨rfl, rfl, rfl, rfl, rfl, trivial⟩
  refine Turn.ef rfl rfl (ef_pv (pv_loadK [_, _, _] rfl rfl rfl ⟨rfl, rfl, rfl, trivial⟩) rfl) ?_ ?_
  ·
   rintro _ _ ⟨rfl, rfl⟩; infer_instance
  rintro _ _ ⟨rfl, rfl⟩
  refine AnyH.two 3 7 (by kernel_rfl) ?_ ?_
  ·
   refine Turn.ef rfl rfl (ef_pv (pv_load rfl rfl (nth_set (nth_lt hv))) rfl) ?_ ?_
   ·
    rintro _ _ ⟨rfl, rfl⟩; infer_instance
   rintro _ _ ⟨rfl, rfl⟩
   refine AnyH.one 7 (by kernel_rfl) ?_
   refine Turn.ef rfl rfl (ef_buildSlice1 (k := 3) rfl rfl rfl rfl rfl) ?_ ?_
   ·
    rintro _ _ ⟨b7, rfl, rfl⟩; infer_instance
   rintro _ _ ⟨b7, rfl, rfl⟩
   refine AnyH.one 8 (by kernel_rfl) ?_
   refine Turn.ef rfl rfl (ef_append (H := Hs) (xs := [.int .i64 0, .int .i64 0, .int .u64 0]) rfl hs rfl ⟨rfl, rfl, rfl, trivial⟩ rfl rfl rfl (by omega) (by omega) rfl rfl) ?_ ?_
   ·
    rintro _ _ ⟨v3, H3, hs3, rfl, rfl⟩; infer_instance
   rintro _ _ ⟨v3, H3, hs3, rfl, rfl⟩
   refine AnyH.app ?_
   have hs2 : Slc 68 3 v3 (l.length + 1) (cel (cE fsF) (l ++ [zEl fsF])) H3 := by rw [cel_app, cel_one1]; exact hs3
   obtain ⟨eb, eo, cc, cap, rfl, rfl, hx, hset⟩ := slc_el (i := l.length) (a := zEl fsF) hs2 (by simp) (by decide)
   refine Tk 9 rfl rfl (pv_nilCheck rfl) rfl ?_
   refine AnyH.one 10 (by kernel_rfl) ?_
   refine Turn.ef rfl rfl (ef_store1 (hset := setL_set2 (nth_lt hv)) rfl rfl rfl rfl) ?_ ?_
   ·
    rintro _ _ ⟨rfl, rfl⟩; infer_instance
   rintro _ _ ⟨rfl, rfl⟩
   refine AnyH.done (by kernel_rfl) ?_
   refine Ends.seq ?_
   refine Wp.region ?_
   refine Om1 rfl rfl ?_
   refine Om1 rfl rfl ?_
   refine Ops.pv (pv_nilCheck rfl) rfl ?_
   refine Ops.pv (pv_load rfl rfl (nth_set (nth_lt hv))) rfl ?_
   refine Om1 rfl rfl ?_
   refine Ops.pv (pv_indexAddr (i := l.length) rfl rfl rfl (by omega)) rfl ?_
   refine Ops.efx rfl (efx_callf rfl rfl (tr_elR4 cp k adr bv lf (by omega) h1b h1a eb (eo + l.length * 3) cc 68 hx) rfl) ?_ ?_
   ·
    rintro _ _ ⟨_, ⟨rfl, hno, rfl⟩, rfl⟩
    exact ⟨[], ⟨rfl, by unfold rdL; rw [if_neg (by omega), if_neg (by omega)]; exact rdI_up (rdI_none hr hno) (by omega), rfl⟩, inferInstance⟩
   rintro _ _ ⟨_, _, ⟨rfl, e9, lf2, he9, rfl⟩, rfl, rfl⟩
   refine Ops.app ?_
   refine Ops.nil ?_
   refine Ends.block_normal ?_
   refine Ends.seq ?_
   refine Wp.region ?_
   refine Ops.pv (pv_add rfl rfl (w64n (k := l.length + 1) (by omega) (by omega))) rfl ?_
   refine Om1 rfl rfl ?_
   refine Ops.nil ?_
   refine Ends.goes ?_
   refine Goes.back (hK (l.length + 1, lf2, l ++ [mkEl fsF e9], .slice (some ⟨eb, eo, none⟩) (l.length + 1) cap, [(eb, .cells (setAt cc (eo + l.length * 3) (cE fsF (mkEl fsF e9))).toArray 68)]) ⟨by dsimp only; omega, rdI_some hr he9, by have := (rdI_len (rdI_some hr he9)).2; rw [List.length_drop] at this; dsimp only; omega, by have := hset (mkEl fsF e9); rw [List.set_append_right _ _ (Nat.le_refl _), Nat.sub_self, List.set_cons_zero] at this; rw [List.length_append]; exact this⟩ (by dsimp only; omega)) ⟨rfl, rfl, rfl, rfl, rfl, trivial⟩
  refine Turn.ef rfl rfl (ef_buildSlice1 (k := 3) rfl rfl rfl rfl rfl) ?_ ?_
  ·
   rintro _ _ ⟨b8, rfl, rfl⟩; infer_instance
  rintro _ _ ⟨b8, rfl, rfl⟩
  refine AnyH.one 3 (by kernel_rfl) ?_
  refine Turn.ef rfl rfl (ef_pv (pv_load rfl rfl (nth_set (nth_lt hv))) rfl) ?_ ?_
  ·
   rintro _ _ ⟨rfl, rfl⟩; infer_instance
  rintro _ _ ⟨rfl, rfl⟩
  refine AnyH.one 8 (by kernel_rfl) ?_
  refine Turn.ef rfl rfl (ef_append (H := Hs) (xs := [.int .i64 0, .int .i64 0, .int .u64 0]) rfl hs rfl ⟨rfl, rfl, rfl, trivial⟩ rfl rfl rfl (by omega) (by omega) rfl rfl) ?_ ?_
  ·
   rintro _ _ ⟨v4, H4, hs4, rfl, rfl⟩; infer_instance
  rintro _ _ ⟨v4, H4, hs4, rfl, rfl⟩
  refine AnyH.app ?_
  have hs2 : Slc 68 3 v4 (l.length + 1) (cel (cE fsF) (l ++ [zEl fsF])) H4 := by rw [cel_app, cel_one1]; exact hs4
  obtain ⟨eb, eo, cc, cap, rfl, rfl, hx, hset⟩ := slc_el (i := l.length) (a := zEl fsF) hs2 (by simp) (by decide)
  refine Tk 9 rfl rfl (pv_nilCheck rfl) rfl ?_
  refine AnyH.one 10 (by kernel_rfl) ?_
  refine Turn.ef rfl rfl (ef_store1 (hset := setL_set2 (nth_lt hv)) rfl rfl rfl rfl) ?_ ?_
  ·
   rintro _ _ ⟨rfl, rfl⟩; infer_instance
  rintro _ _ ⟨rfl, rfl⟩
  refine AnyH.done (by kernel_rfl) ?_
  refine Ends.seq ?_
  refine Wp.region ?_
  refine Om1 rfl rfl ?_
  refine Om1 rfl rfl ?_
  refine Ops.pv (pv_nilCheck rfl) rfl ?_
  refine Ops.pv (pv_load rfl rfl (nth_set (nth_lt hv))) rfl ?_
  refine Om1 rfl rfl ?_
  refine Ops.pv (pv_indexAddr (i := l.length) rfl rfl rfl (by omega)) rfl ?_
  refine Ops.efx rfl (efx_callf rfl rfl (tr_elR4 cp k adr bv lf (by omega) h1b h1a eb (eo + l.length * 3) cc 68 hx) rfl) ?_ ?_
  ·
   rintro _ _ ⟨_, ⟨rfl, hno, rfl⟩, rfl⟩
   exact ⟨[], ⟨rfl, by unfold rdL; rw [if_neg (by omega), if_neg (by omega)]; exact rdI_up (rdI_none hr hno) (by omega), rfl⟩, inferInstance⟩
  rintro _ _ ⟨_, _, ⟨rfl, e9, lf2, he9, rfl⟩, rfl, rfl⟩
  refine Ops.app ?_
  refine Ops.nil ?_
  refine Ends.block_normal ?_
  refine Ends.seq ?_
  refine Wp.region ?_
  refine Ops.pv (pv_add rfl rfl (w64n (k := l.length + 1) (by omega) (by omega))) rfl ?_
  refine Om1 rfl rfl ?_
  refine Ops.nil ?_
  refine Ends.goes ?_
  refine Goes.back (hK (l.length + 1, lf2, l ++ [mkEl fsF e9], .slice (some ⟨eb, eo, none⟩) (l.length + 1) cap, [(eb, .cells (setAt cc (eo + l.length * 3) (cE fsF (mkEl fsF e9))).toArray 68)]) ⟨by dsimp only; omega, rdI_some hr he9, by have := (rdI_len (rdI_some hr he9)).2; rw [List.length_drop] at this; dsimp only; omega, by have := hset (mkEl fsF e9); rw [List.set_append_right _ _ (Nat.le_refl _), Nat.sub_self, List.set_cons_zero] at this; rw [List.length_append]; exact this⟩ (by dsimp only; omega)) ⟨rfl, rfl, rfl, rfl, rfl, trivial⟩
 obtain rfl : i = leV (left.take 2) := by omega
 refine Wp.exit ?_
 refine Ends.then_exit ?_
 refine Ends.then_exit ?_
 refine Ends.block_hit ?_
 have hL : rdL fsF 512 left = some (l, lf) := by unfold rdL; rw [if_neg (by omega), if_neg (by omega)]; exact hr
 exact Ends.finE (L' := (cp, .cells [kP k].toArray 78) :: ((k, .cells [.bool true, adr, bv, sV lf].toArray 84) :: ((d, .cells (dc.set o vs).toArray Td) :: Hs))) (res0 rfl) ⟨rfl, l, lf, vs, Hs, hL, hs, rfl⟩
set_option maxHeartbeats 8000000 in
theorem tr_listR5 (cp : Nat) (k : Nat) (adr bv : Value) (left : List UInt8) (hl : left.length ≤ 2 ^ 40) (h1b : bv.oneCell' = true) (h1a : adr.oneCell' = true) (d o : Nat) (dc : List Value) (Td : TypeId) (hv : nth dc o = some (.slice none 0 0)) : TrE Try.prog 45 [kP k, .pointer (some ⟨d, o, none⟩), .int .i64 64, .func (.func 46) #[] #[.pointer (some ⟨cp, 0, none⟩)]] ((cp, .cells [kP k].toArray 78) :: ((k, .cells [.bool true, adr, bv, sV left].toArray 84) :: [(d, .cells dc.toArray Td)])) (fun u L' => u = .tuple #[] ∧ ∃ (L : List (El fsT)) (left' : List UInt8) (v : Value) (H : Hp), rdL fsT 64 left = some (L, left') ∧ Slc 71 8 v L.length (cel (cE fsT) L) H ∧ L' = (cp, .cells [kP k].toArray 78) :: ((k, .cells [.bool true, adr, bv, sV left'].toArray 84) :: ((d, .cells (dc.set o v).toArray Td) :: H))) (fun c L' => c = badC ∧ rdL fsT 64 left = none ∧ L' = []) := by
 refine TrE.enter Try.func45 rfl Try.ntmps45 rfl (fun W F => ?_)
 refine Wp.app ?_
 refine Wr ?_
 refine Om1 rfl rfl ?_
 refine Ops.pv (pv_nilCheck rfl) rfl ?_
 refine Ops.pv (pv_load rfl rfl hv) rfl ?_
 refine Ops.pv (pv_len_slice (T := 36) rfl rfl) rfl ?_
 refine Ops.ef rfl (ef_alloc1 tyZ3 rfl rfl) ?_
 rintro _ _ ⟨b1, rfl, rfl⟩
 refine Ops.ef rfl (ef_store1 rfl rfl (by first | rfl | assumption) (by first | rfl | assumption)) ?_
 rintro _ _ ⟨rfl, rfl⟩
 refine On ?_
 refine Wp.seq ?_
 refine Wr ?_
 refine Ol1 rfl rfl rfl rfl ?_
 refine Om1 rfl rfl ?_
 refine Ops.pv ((pv_gtr rfl rfl).fls (by first | exact fun h => h rfl | decide | omega | assumption)) rfl ?_
 refine On ?_
 refine Wp.cond_false rfl ?_
 refine Wp.skip ?_
 refine Ends.seq ?_
 refine Wr ?_
 refine Om1 rfl rfl ?_
 refine Ops.ef rfl (ef_buildSlice1 (k := 1) rfl rfl rfl rfl rfl) ?_
 rintro _ _ ⟨b2, rfl, rfl⟩
 refine Ops.efx rfl (efx_call (tr_twoR k adr bv left hl h1b h1a b2 120 [.pointer (some ⟨b1, 0, none⟩)] b1 0 [.int .i64 0] 3 [0] rfl (one_hcc rfl) (by intro y hy; simp only [List.mem_cons, List.not_mem_nil, or_false] at hy; unfold RgI; omega) (by simp) (by simp)) rfl rfl) ?_ ?_
 ·
  rintro _ _ ⟨_, ⟨rfl, hno, rfl⟩, rfl⟩
  exact ⟨[], ⟨rfl, by have h3 : left.length < 2 := hno; unfold rdL; rw [if_pos h3], rfl⟩, inferInstance⟩
 rintro _ _ ⟨_, _, ⟨rfl, hl2, rfl⟩, rfl, rfl⟩
 refine Ops.app ?_
 rw [show setAt [.int .i64 0] 0 (intC (rdTw ([0] : List Int).length left)) = [.int .i64 ((leV (left.take 2) : Nat) : Int)] from rfl, show left.drop (2 * ([0] : List Int).length) = left.drop 2 from rfl]
 have hl3 : 2 ≤ left.length := hl2
 have hc2 := leV2 left
 refine On ?_
 refine Wp.seq ?_
 refine Wr ?_
 refine Ol1 rfl rfl rfl rfl ?_
 refine Om1 rfl rfl ?_
 refine Ops.pv (pv_gtr rfl rfl) rfl ?_
 refine On ?_
 refine Wp.cond_dect rfl (fun h1 => ?_) (fun h1 => ?_)
 ·
  refine Wp.region ?_
  refine Ops.pv (pv_build rfl) rfl ?_
  refine Ops.pv (pv_iface rfl rfl) rfl ?_
  exact Ops.panic rfl ⟨[], ⟨rfl, by unfold rdL; rw [if_neg (by omega), if_pos (by omega)], rfl⟩, inferInstance⟩
 have hmost : leV (left.take 2) ≤ 64 := by omega
 refine Wp.skip ?_
 refine Ends.seq ?_
 refine Wp.seq ?_
 refine Wr ?_
 refine Om1 rfl rfl ?_
 refine Ops.pv (pv_nilCheck rfl) rfl ?_
 refine Of1 rfl rfl rfl ?_
 refine Ol1 rfl rfl rfl rfl ?_
 refine On ?_
 refine Wp.cond_true rfl ?_
 refine Wp.region ?_
 refine Om1 rfl rfl ?_
 refine Ops.pv (pv_nilCheck rfl) rfl ?_
 refine Ops.ef rfl (ef_store1 (hset := setL_set (nth_lt hv)) rfl rfl rfl rfl) ?_
 rintro _ _ ⟨rfl, rfl⟩
 refine On ?_
 refine Wr ?_
 refine Ol1 rfl rfl rfl rfl ?_
 refine Om1 rfl rfl ?_
 refine On ?_
 refine Wp.block ?_
 refine Wp.loopK (σ := Nat × List UInt8 × List (El fsT) × Value × Hp) [(0, _), (1, _), (3, _), (33, _)] (fun s => [(34, .int .i64 s.1)]) (fun s => (cp, .cells [kP k].toArray 78) :: ((k, .cells [.bool true, adr, bv, sV s.2.1].toArray 84) :: ((d, .cells (dc.set o s.2.2.2.1).toArray Td) :: (s.2.2.2.2 ++ ((b1, .cells [.int .i64 ((leV (left.take 2) : Nat) : Int)].toArray 3) :: F))))) (fun s => s.1 ≤ leV (left.take 2) ∧ rdI fsT s.1 (left.drop 2) = some (s.2.2.1, s.2.1) ∧ s.2.1.length ≤ left.length ∧ Slc 71 8 s.2.2.2.1 s.2.2.1.length (cel (cE fsT) s.2.2.1) s.2.2.2.2) (fun s => leV (left.take 2) - s.1) (0, left.drop 2, [], .slice none 0 0, []) ⟨Nat.zero_le _, rfl, by dsimp only; rw [List.length_drop]; omega, Slc.nil 71 8⟩ ⟨rfl, rfl, rfl, rfl, trivial⟩ ⟨rfl, trivial⟩ (by intro w ho; (try dsimp only [List.nil_append, List.cons_append]); exact Drop.own ho) ?_
 rintro ⟨i, lf, l, vs, Hs⟩ KK ⟨hi, hr, hlf, hs⟩ hK
 dsimp only [List.cons_append, List.nil_append] at hK ⊢
 dsimp only at hi hr hlf hs ⊢
 refine Wr ?_
 refine Ops.pv (pv_lss rfl rfl) rfl ?_
 refine On ?_
 refine Wp.seq ?_
 refine Wp.cond_dect rfl (fun h2 => ?_) (fun h2 => ?_)
 ·
  obtain rfl : i = l.length := (rdI_len hr).1.symm
  refine Wp.skip ?_
  refine Ends.seq ?_
  refine Wp.seq ?_
  refine Wp.block ?_
  refine Wr ?_
  refine Om1 rfl rfl ?_
  refine Oa1 rfl rfl ?_
  refine On ?_
  refine Wp.seq ?_
  refine Wr ?_
  refine Om1 rfl rfl ?_
  refine Ops.pv (pv_nilCheck rfl) rfl ?_
  refine Of1 rfl rfl rfl ?_
  refine Ol1 rfl rfl rfl rfl ?_
  refine On ?_
  refine Wp.cond_true rfl ?_
  refine AnyH.start ([] : Hp) 11 rfl ?_
  refine Tk 0 rfl rfl (pv_move rfl) rfl ?_
  refine Tk 1 rfl rfl (pv_move rfl) rfl ?_
  refine Tk 2 rfl rfl (pv_nilCheck rfl) rfl ?_
  refine AnyH.two 3 4 (by kernel_rfl) ?_ ?_
  ·
   refine Turn.ef rfl rfl (ef_pv (pv_load rfl rfl (nth_set (nth_lt hv))) rfl) ?_ ?_
   ·
    rintro _ _ ⟨rfl, rfl⟩; infer_instance
   rintro _ _ ⟨rfl, rfl⟩
   refine AnyH.one 4 (by kernel_rfl) ?_
   refine Turn.ef rfl rfl (ef_allocK tyZ71 rfl) ?_ ?_
   ·
    rintro _ _ ⟨b3, rfl, rfl⟩; infer_instance
   rintro _ _ ⟨b3, rfl, rfl⟩
   refine Tk 5 rfl rfl (pv_nilCheck rfl) rfl ?_
   refine AnyH.one 6 (by kernel_rfl) ?_
   refine Turn.ef rfl rfl (ef_pv (pv_loadK [_, _, _, _, _, _, _, _] rfl rfl rfl ⟨rfl, rfl, rfl, rfl, rfl, rfl, rfl, rfl, trivial⟩) rfl) ?_ ?_
   ·
    rintro _ _ ⟨rfl, rfl⟩; infer_instance
   rintro _ _ ⟨rfl, rfl⟩
   refine AnyH.one 7 (by kernel_rfl) ?_
   refine Turn.ef rfl rfl (ef_buildSlice1 (k := 8) rfl rfl rfl rfl rfl) ?_ ?_
   ·
    rintro _ _ ⟨b4, rfl, rfl⟩; infer_instance
   rintro _ _ ⟨b4, rfl, rfl⟩
   refine AnyH.one 8 (by kernel_rfl) ?_
   refine Turn.ef rfl rfl (ef_append (H := Hs) (xs := [.int .i64 0, .int .i64 0, .int .i64 0, .int .i64 0, .int .i64 0, .int .u64 0, .int .i64 0, .int .i64 0]) rfl hs rfl ⟨rfl, rfl, rfl, rfl, rfl, rfl, rfl, rfl, trivial⟩ rfl rfl rfl (by omega) (by omega) rfl rfl) ?_ ?_
   ·
    rintro _ _ ⟨v1, H1, hs1, rfl, rfl⟩; infer_instance
   rintro _ _ ⟨v1, H1, hs1, rfl, rfl⟩
   refine AnyH.app ?_
   have hs2 : Slc 71 8 v1 (l.length + 1) (cel (cE fsT) (l ++ [zEl fsT])) H1 := by rw [cel_app, cel_one1]; exact hs1
   obtain ⟨eb, eo, cc, cap, rfl, rfl, hx, hset⟩ := slc_el (i := l.length) (a := zEl fsT) hs2 (by simp) (by decide)
   refine Tk 9 rfl rfl (pv_nilCheck rfl) rfl ?_
   refine AnyH.one 10 (by kernel_rfl) ?_
   refine Turn.ef rfl rfl (ef_store1 (hset := setL_set2 (nth_lt hv)) rfl rfl rfl rfl) ?_ ?_
   ·
    rintro _ _ ⟨rfl, rfl⟩; infer_instance
   rintro _ _ ⟨rfl, rfl⟩
   refine AnyH.done (by kernel_rfl) ?_
   refine Ends.seq ?_
   refine Wp.region ?_
   refine Om1 rfl rfl ?_
   refine Om1 rfl rfl ?_
   refine Ops.pv (pv_nilCheck rfl) rfl ?_
   refine Ops.pv (pv_load rfl rfl (nth_set (nth_lt hv))) rfl ?_
   refine Om1 rfl rfl ?_
   refine Ops.pv (pv_indexAddr (i := l.length) rfl rfl rfl (by omega)) rfl ?_
   refine Ops.efx rfl (efx_callf rfl rfl (tr_elR5 cp k adr bv lf (by omega) h1b h1a eb (eo + l.length * 8) cc 71 hx) rfl) ?_ ?_
   ·
    rintro _ _ ⟨_, ⟨rfl, hno, rfl⟩, rfl⟩
    exact ⟨[], ⟨rfl, by unfold rdL; rw [if_neg (by omega), if_neg (by omega)]; exact rdI_up (rdI_none hr hno) (by omega), rfl⟩, inferInstance⟩
   rintro _ _ ⟨_, _, ⟨rfl, e9, lf2, he9, rfl⟩, rfl, rfl⟩
   refine Ops.app ?_
   refine Ops.nil ?_
   refine Ends.block_normal ?_
   refine Ends.seq ?_
   refine Wp.region ?_
   refine Ops.pv (pv_add rfl rfl (w64n (k := l.length + 1) (by omega) (by omega))) rfl ?_
   refine Om1 rfl rfl ?_
   refine Ops.nil ?_
   refine Ends.goes ?_
   refine Goes.back (hK (l.length + 1, lf2, l ++ [mkEl fsT e9], .slice (some ⟨eb, eo, none⟩) (l.length + 1) cap, [(eb, .cells (setAt cc (eo + l.length * 8) (cE fsT (mkEl fsT e9))).toArray 71)]) ⟨by dsimp only; omega, rdI_some hr he9, by have := (rdI_len (rdI_some hr he9)).2; rw [List.length_drop] at this; dsimp only; omega, by have := hset (mkEl fsT e9); rw [List.set_append_right _ _ (Nat.le_refl _), Nat.sub_self, List.set_cons_zero] at this; rw [List.length_append]; exact this⟩ (by dsimp only; omega)) ⟨rfl, rfl, rfl, rfl, rfl, trivial⟩
  refine Turn.ef rfl rfl (ef_allocK tyZ71 rfl) ?_ ?_
  ·
   rintro _ _ ⟨b5, rfl, rfl⟩; infer_instance
  rintro _ _ ⟨b5, rfl, rfl⟩
  refine Tk 5 rfl rfl (pv_nilCheck rfl) rfl ?_
  refine AnyH.two 3 6 (by kernel_rfl) ?_ ?_
  ·
   refine Turn.ef rfl rfl (ef_pv (pv_load rfl rfl (nth_set (nth_lt hv))) rfl) ?_ ?_
   ·
    rintro _ _ ⟨rfl, rfl⟩; infer_instance
   rintro _ _ ⟨rfl, rfl⟩
   refine AnyH.one 6 (by kernel_rfl) ?_
   refine Turn.ef rfl rfl (ef_pv (pv_loadK [_, _, _, _, _, _, _, _] rfl rfl rfl ⟨rfl, rfl, rfl, rfl, rfl, rfl, rfl, rfl, trivial⟩) rfl) ?_ ?_
   ·
    rintro _ _ ⟨rfl, rfl⟩; infer_instance
   rintro _ _ ⟨rfl, rfl⟩
   refine AnyH.one 7 (by kernel_rfl) ?_
   refine Turn.ef rfl rfl (ef_buildSlice1 (k := 8) rfl rfl rfl rfl rfl) ?_ ?_
   ·
    rintro _ _ ⟨b6, rfl, rfl⟩; infer_instance
   rintro _ _ ⟨b6, rfl, rfl⟩
   refine AnyH.one 8 (by kernel_rfl) ?_
   refine Turn.ef rfl rfl (ef_append (H := Hs) (xs := [.int .i64 0, .int .i64 0, .int .i64 0, .int .i64 0, .int .i64 0, .int .u64 0, .int .i64 0, .int .i64 0]) rfl hs rfl ⟨rfl, rfl, rfl, rfl, rfl, rfl, rfl, rfl, trivial⟩ rfl rfl rfl (by omega) (by omega) rfl rfl) ?_ ?_
   ·
    rintro _ _ ⟨v2, H2, hs2, rfl, rfl⟩; infer_instance
   rintro _ _ ⟨v2, H2, hs2, rfl, rfl⟩
   refine AnyH.app ?_
   have hs2 : Slc 71 8 v2 (l.length + 1) (cel (cE fsT) (l ++ [zEl fsT])) H2 := by rw [cel_app, cel_one1]; exact hs2
   obtain ⟨eb, eo, cc, cap, rfl, rfl, hx, hset⟩ := slc_el (i := l.length) (a := zEl fsT) hs2 (by simp) (by decide)
   refine Tk 9 rfl rfl (pv_nilCheck rfl) rfl ?_
   refine AnyH.one 10 (by kernel_rfl) ?_
   refine Turn.ef rfl rfl (ef_store1 (hset := setL_set2 (nth_lt hv)) rfl rfl rfl rfl) ?_ ?_
   ·
    rintro _ _ ⟨rfl, rfl⟩; infer_instance
   rintro _ _ ⟨rfl, rfl⟩
   refine AnyH.done (by kernel_rfl) ?_
   refine Ends.seq ?_
   refine Wp.region ?_
   refine Om1 rfl rfl ?_
   refine Om1 rfl rfl ?_
   refine Ops.pv (pv_nilCheck rfl) rfl ?_
   refine Ops.pv (pv_load rfl rfl (nth_set (nth_lt hv))) rfl ?_
   refine Om1 rfl rfl ?_
   refine Ops.pv (pv_indexAddr (i := l.length) rfl rfl rfl (by omega)) rfl ?_
   refine Ops.efx rfl (efx_callf rfl rfl (tr_elR5 cp k adr bv lf (by omega) h1b h1a eb (eo + l.length * 8) cc 71 hx) rfl) ?_ ?_
   ·
    rintro _ _ ⟨_, ⟨rfl, hno, rfl⟩, rfl⟩
    exact ⟨[], ⟨rfl, by unfold rdL; rw [if_neg (by omega), if_neg (by omega)]; exact rdI_up (rdI_none hr hno) (by omega), rfl⟩, inferInstance⟩
   rintro _ _ ⟨_, _, ⟨rfl, e9, lf2, he9, rfl⟩, rfl, rfl⟩
   refine Ops.app ?_
   refine Ops.nil ?_
   refine Ends.block_normal ?_
   refine Ends.seq ?_
   refine Wp.region ?_
   refine Ops.pv (pv_add rfl rfl (w64n (k := l.length + 1) (by omega) (by omega))) rfl ?_
   refine Om1 rfl rfl ?_
   refine Ops.nil ?_
   refine Ends.goes ?_
   refine Goes.back (hK (l.length + 1, lf2, l ++ [mkEl fsT e9], .slice (some ⟨eb, eo, none⟩) (l.length + 1) cap, [(eb, .cells (setAt cc (eo + l.length * 8) (cE fsT (mkEl fsT e9))).toArray 71)]) ⟨by dsimp only; omega, rdI_some hr he9, by have := (rdI_len (rdI_some hr he9)).2; rw [List.length_drop] at this; dsimp only; omega, by have := hset (mkEl fsT e9); rw [List.set_append_right _ _ (Nat.le_refl _), Nat.sub_self, List.set_cons_zero] at this; rw [List.length_append]; exact this⟩ (by dsimp only; omega)) ⟨rfl, rfl, rfl, rfl, rfl, trivial⟩
  refine Turn.ef rfl rfl (ef_pv (pv_loadK [_, _, _, _, _, _, _, _] rfl rfl rfl ⟨rfl, rfl, rfl, rfl, rfl, rfl, rfl, rfl, trivial⟩) rfl) ?_ ?_
  ·
   rintro _ _ ⟨rfl, rfl⟩; infer_instance
  rintro _ _ ⟨rfl, rfl⟩
  refine AnyH.two 3 7 (by kernel_rfl) ?_ ?_
  ·
   refine Turn.ef rfl rfl (ef_pv (pv_load rfl rfl (nth_set (nth_lt hv))) rfl) ?_ ?_
   ·
    rintro _ _ ⟨rfl, rfl⟩; infer_instance
   rintro _ _ ⟨rfl, rfl⟩
   refine AnyH.one 7 (by kernel_rfl) ?_
   refine Turn.ef rfl rfl (ef_buildSlice1 (k := 8) rfl rfl rfl rfl rfl) ?_ ?_
   ·
    rintro _ _ ⟨b7, rfl, rfl⟩; infer_instance
   rintro _ _ ⟨b7, rfl, rfl⟩
   refine AnyH.one 8 (by kernel_rfl) ?_
   refine Turn.ef rfl rfl (ef_append (H := Hs) (xs := [.int .i64 0, .int .i64 0, .int .i64 0, .int .i64 0, .int .i64 0, .int .u64 0, .int .i64 0, .int .i64 0]) rfl hs rfl ⟨rfl, rfl, rfl, rfl, rfl, rfl, rfl, rfl, trivial⟩ rfl rfl rfl (by omega) (by omega) rfl rfl) ?_ ?_
   ·
    rintro _ _ ⟨v3, H3, hs3, rfl, rfl⟩; infer_instance
   rintro _ _ ⟨v3, H3, hs3, rfl, rfl⟩
   refine AnyH.app ?_
   have hs2 : Slc 71 8 v3 (l.length + 1) (cel (cE fsT) (l ++ [zEl fsT])) H3 := by rw [cel_app, cel_one1]; exact hs3
   obtain ⟨eb, eo, cc, cap, rfl, rfl, hx, hset⟩ := slc_el (i := l.length) (a := zEl fsT) hs2 (by simp) (by decide)
   refine Tk 9 rfl rfl (pv_nilCheck rfl) rfl ?_
   refine AnyH.one 10 (by kernel_rfl) ?_
   refine Turn.ef rfl rfl (ef_store1 (hset := setL_set2 (nth_lt hv)) rfl rfl rfl rfl) ?_ ?_
   ·
    rintro _ _ ⟨rfl, rfl⟩; infer_instance
   rintro _ _ ⟨rfl, rfl⟩
   refine AnyH.done (by kernel_rfl) ?_
   refine Ends.seq ?_
   refine Wp.region ?_
   refine Om1 rfl rfl ?_
   refine Om1 rfl rfl ?_
   refine Ops.pv (pv_nilCheck rfl) rfl ?_
   refine Ops.pv (pv_load rfl rfl (nth_set (nth_lt hv))) rfl ?_
   refine Om1 rfl rfl ?_
   refine Ops.pv (pv_indexAddr (i := l.length) rfl rfl rfl (by omega)) rfl ?_
   refine Ops.efx rfl (efx_callf rfl rfl (tr_elR5 cp k adr bv lf (by omega) h1b h1a eb (eo + l.length * 8) cc 71 hx) rfl) ?_ ?_
   ·
    rintro _ _ ⟨_, ⟨rfl, hno, rfl⟩, rfl⟩
    exact ⟨[], ⟨rfl, by unfold rdL; rw [if_neg (by omega), if_neg (by omega)]; exact rdI_up (rdI_none hr hno) (by omega), rfl⟩, inferInstance⟩
   rintro _ _ ⟨_, _, ⟨rfl, e9, lf2, he9, rfl⟩, rfl, rfl⟩
   refine Ops.app ?_
   refine Ops.nil ?_
   refine Ends.block_normal ?_
   refine Ends.seq ?_
   refine Wp.region ?_
   refine Ops.pv (pv_add rfl rfl (w64n (k := l.length + 1) (by omega) (by omega))) rfl ?_
   refine Om1 rfl rfl ?_
   refine Ops.nil ?_
   refine Ends.goes ?_
   refine Goes.back (hK (l.length + 1, lf2, l ++ [mkEl fsT e9], .slice (some ⟨eb, eo, none⟩) (l.length + 1) cap, [(eb, .cells (setAt cc (eo + l.length * 8) (cE fsT (mkEl fsT e9))).toArray 71)]) ⟨by dsimp only; omega, rdI_some hr he9, by have := (rdI_len (rdI_some hr he9)).2; rw [List.length_drop] at this; dsimp only; omega, by have := hset (mkEl fsT e9); rw [List.set_append_right _ _ (Nat.le_refl _), Nat.sub_self, List.set_cons_zero] at this; rw [List.length_append]; exact this⟩ (by dsimp only; omega)) ⟨rfl, rfl, rfl, rfl, rfl, trivial⟩
  refine Turn.ef rfl rfl (ef_buildSlice1 (k := 8) rfl rfl rfl rfl rfl) ?_ ?_
  ·
   rintro _ _ ⟨b8, rfl, rfl⟩; infer_instance
  rintro _ _ ⟨b8, rfl, rfl⟩
  refine AnyH.one 3 (by kernel_rfl) ?_
  refine Turn.ef rfl rfl (ef_pv (pv_load rfl rfl (nth_set (nth_lt hv))) rfl) ?_ ?_
  ·
   rintro _ _ ⟨rfl, rfl⟩; infer_instance
  rintro _ _ ⟨rfl, rfl⟩
  refine AnyH.one 8 (by kernel_rfl) ?_
  refine Turn.ef rfl rfl (ef_append (H := Hs) (xs := [.int .i64 0, .int .i64 0, .int .i64 0, .int .i64 0, .int .i64 0, .int .u64 0, .int .i64 0, .int .i64 0]) rfl hs rfl ⟨rfl, rfl, rfl, rfl, rfl, rfl, rfl, rfl, trivial⟩ rfl rfl rfl (by omega) (by omega) rfl rfl) ?_ ?_
  ·
   rintro _ _ ⟨v4, H4, hs4, rfl, rfl⟩; infer_instance
  rintro _ _ ⟨v4, H4, hs4, rfl, rfl⟩
  refine AnyH.app ?_
  have hs2 : Slc 71 8 v4 (l.length + 1) (cel (cE fsT) (l ++ [zEl fsT])) H4 := by rw [cel_app, cel_one1]; exact hs4
  obtain ⟨eb, eo, cc, cap, rfl, rfl, hx, hset⟩ := slc_el (i := l.length) (a := zEl fsT) hs2 (by simp) (by decide)
  refine Tk 9 rfl rfl (pv_nilCheck rfl) rfl ?_
  refine AnyH.one 10 (by kernel_rfl) ?_
  refine Turn.ef rfl rfl (ef_store1 (hset := setL_set2 (nth_lt hv)) rfl rfl rfl rfl) ?_ ?_
  ·
   rintro _ _ ⟨rfl, rfl⟩; infer_instance
  rintro _ _ ⟨rfl, rfl⟩
  refine AnyH.done (by kernel_rfl) ?_
  refine Ends.seq ?_
  refine Wp.region ?_
  refine Om1 rfl rfl ?_
  refine Om1 rfl rfl ?_
  refine Ops.pv (pv_nilCheck rfl) rfl ?_
  refine Ops.pv (pv_load rfl rfl (nth_set (nth_lt hv))) rfl ?_
  refine Om1 rfl rfl ?_
  refine Ops.pv (pv_indexAddr (i := l.length) rfl rfl rfl (by omega)) rfl ?_
  refine Ops.efx rfl (efx_callf rfl rfl (tr_elR5 cp k adr bv lf (by omega) h1b h1a eb (eo + l.length * 8) cc 71 hx) rfl) ?_ ?_
  ·
   rintro _ _ ⟨_, ⟨rfl, hno, rfl⟩, rfl⟩
   exact ⟨[], ⟨rfl, by unfold rdL; rw [if_neg (by omega), if_neg (by omega)]; exact rdI_up (rdI_none hr hno) (by omega), rfl⟩, inferInstance⟩
  rintro _ _ ⟨_, _, ⟨rfl, e9, lf2, he9, rfl⟩, rfl, rfl⟩
  refine Ops.app ?_
  refine Ops.nil ?_
  refine Ends.block_normal ?_
  refine Ends.seq ?_
  refine Wp.region ?_
  refine Ops.pv (pv_add rfl rfl (w64n (k := l.length + 1) (by omega) (by omega))) rfl ?_
  refine Om1 rfl rfl ?_
  refine Ops.nil ?_
  refine Ends.goes ?_
  refine Goes.back (hK (l.length + 1, lf2, l ++ [mkEl fsT e9], .slice (some ⟨eb, eo, none⟩) (l.length + 1) cap, [(eb, .cells (setAt cc (eo + l.length * 8) (cE fsT (mkEl fsT e9))).toArray 71)]) ⟨by dsimp only; omega, rdI_some hr he9, by have := (rdI_len (rdI_some hr he9)).2; rw [List.length_drop] at this; dsimp only; omega, by have := hset (mkEl fsT e9); rw [List.set_append_right _ _ (Nat.le_refl _), Nat.sub_self, List.set_cons_zero] at this; rw [List.length_append]; exact this⟩ (by dsimp only; omega)) ⟨rfl, rfl, rfl, rfl, rfl, trivial⟩
 obtain rfl : i = leV (left.take 2) := by omega
 refine Wp.exit ?_
 refine Ends.then_exit ?_
 refine Ends.then_exit ?_
 refine Ends.block_hit ?_
 have hL : rdL fsT 64 left = some (l, lf) := by unfold rdL; rw [if_neg (by omega), if_neg (by omega)]; exact hr
 exact Ends.finE (L' := (cp, .cells [kP k].toArray 78) :: ((k, .cells [.bool true, adr, bv, sV lf].toArray 84) :: ((d, .cells (dc.set o vs).toArray Td) :: Hs))) (res0 rfl) ⟨rfl, l, lf, vs, Hs, hL, hs, rfl⟩
set_option maxHeartbeats 8000000 in
theorem tr_listR6 (cp : Nat) (k : Nat) (adr bv : Value) (left : List UInt8) (hl : left.length ≤ 2 ^ 40) (h1b : bv.oneCell' = true) (h1a : adr.oneCell' = true) (d o : Nat) (dc : List Value) (Td : TypeId) (hv : nth dc o = some (.slice none 0 0)) : TrE Try.prog 47 [kP k, .pointer (some ⟨d, o, none⟩), .int .i64 8, .func (.func 48) #[] #[.pointer (some ⟨cp, 0, none⟩)]] ((cp, .cells [kP k].toArray 78) :: ((k, .cells [.bool true, adr, bv, sV left].toArray 84) :: [(d, .cells dc.toArray Td)])) (fun u L' => u = .tuple #[] ∧ ∃ (L : List (El fsW)) (left' : List UInt8) (v : Value) (H : Hp), rdL fsW 8 left = some (L, left') ∧ Slc 74 4 v L.length (cel (cE fsW) L) H ∧ L' = (cp, .cells [kP k].toArray 78) :: ((k, .cells [.bool true, adr, bv, sV left'].toArray 84) :: ((d, .cells (dc.set o v).toArray Td) :: H))) (fun c L' => c = badC ∧ rdL fsW 8 left = none ∧ L' = []) := by
 refine TrE.enter Try.func47 rfl Try.ntmps47 rfl (fun W F => ?_)
 refine Wp.app ?_
 refine Wr ?_
 refine Om1 rfl rfl ?_
 refine Ops.pv (pv_nilCheck rfl) rfl ?_
 refine Ops.pv (pv_load rfl rfl hv) rfl ?_
 refine Ops.pv (pv_len_slice (T := 37) rfl rfl) rfl ?_
 refine Ops.ef rfl (ef_alloc1 tyZ3 rfl rfl) ?_
 rintro _ _ ⟨b1, rfl, rfl⟩
 refine Ops.ef rfl (ef_store1 rfl rfl (by first | rfl | assumption) (by first | rfl | assumption)) ?_
 rintro _ _ ⟨rfl, rfl⟩
 refine On ?_
 refine Wp.seq ?_
 refine Wr ?_
 refine Ol1 rfl rfl rfl rfl ?_
 refine Om1 rfl rfl ?_
 refine Ops.pv ((pv_gtr rfl rfl).fls (by first | exact fun h => h rfl | decide | omega | assumption)) rfl ?_
 refine On ?_
 refine Wp.cond_false rfl ?_
 refine Wp.skip ?_
 refine Ends.seq ?_
 refine Wr ?_
 refine Om1 rfl rfl ?_
 refine Ops.ef rfl (ef_buildSlice1 (k := 1) rfl rfl rfl rfl rfl) ?_
 rintro _ _ ⟨b2, rfl, rfl⟩
 refine Ops.efx rfl (efx_call (tr_twoR k adr bv left hl h1b h1a b2 120 [.pointer (some ⟨b1, 0, none⟩)] b1 0 [.int .i64 0] 3 [0] rfl (one_hcc rfl) (by intro y hy; simp only [List.mem_cons, List.not_mem_nil, or_false] at hy; unfold RgI; omega) (by simp) (by simp)) rfl rfl) ?_ ?_
 ·
  rintro _ _ ⟨_, ⟨rfl, hno, rfl⟩, rfl⟩
  exact ⟨[], ⟨rfl, by have h3 : left.length < 2 := hno; unfold rdL; rw [if_pos h3], rfl⟩, inferInstance⟩
 rintro _ _ ⟨_, _, ⟨rfl, hl2, rfl⟩, rfl, rfl⟩
 refine Ops.app ?_
 rw [show setAt [.int .i64 0] 0 (intC (rdTw ([0] : List Int).length left)) = [.int .i64 ((leV (left.take 2) : Nat) : Int)] from rfl, show left.drop (2 * ([0] : List Int).length) = left.drop 2 from rfl]
 have hl3 : 2 ≤ left.length := hl2
 have hc2 := leV2 left
 refine On ?_
 refine Wp.seq ?_
 refine Wr ?_
 refine Ol1 rfl rfl rfl rfl ?_
 refine Om1 rfl rfl ?_
 refine Ops.pv (pv_gtr rfl rfl) rfl ?_
 refine On ?_
 refine Wp.cond_dect rfl (fun h1 => ?_) (fun h1 => ?_)
 ·
  refine Wp.region ?_
  refine Ops.pv (pv_build rfl) rfl ?_
  refine Ops.pv (pv_iface rfl rfl) rfl ?_
  exact Ops.panic rfl ⟨[], ⟨rfl, by unfold rdL; rw [if_neg (by omega), if_pos (by omega)], rfl⟩, inferInstance⟩
 have hmost : leV (left.take 2) ≤ 8 := by omega
 refine Wp.skip ?_
 refine Ends.seq ?_
 refine Wp.seq ?_
 refine Wr ?_
 refine Om1 rfl rfl ?_
 refine Ops.pv (pv_nilCheck rfl) rfl ?_
 refine Of1 rfl rfl rfl ?_
 refine Ol1 rfl rfl rfl rfl ?_
 refine On ?_
 refine Wp.cond_true rfl ?_
 refine Wp.region ?_
 refine Om1 rfl rfl ?_
 refine Ops.pv (pv_nilCheck rfl) rfl ?_
 refine Ops.ef rfl (ef_store1 (hset := setL_set (nth_lt hv)) rfl rfl rfl rfl) ?_
 rintro _ _ ⟨rfl, rfl⟩
 refine On ?_
 refine Wr ?_
 refine Ol1 rfl rfl rfl rfl ?_
 refine Om1 rfl rfl ?_
 refine On ?_
 refine Wp.block ?_
 refine Wp.loopK (σ := Nat × List UInt8 × List (El fsW) × Value × Hp) [(0, _), (1, _), (3, _), (33, _)] (fun s => [(34, .int .i64 s.1)]) (fun s => (cp, .cells [kP k].toArray 78) :: ((k, .cells [.bool true, adr, bv, sV s.2.1].toArray 84) :: ((d, .cells (dc.set o s.2.2.2.1).toArray Td) :: (s.2.2.2.2 ++ ((b1, .cells [.int .i64 ((leV (left.take 2) : Nat) : Int)].toArray 3) :: F))))) (fun s => s.1 ≤ leV (left.take 2) ∧ rdI fsW s.1 (left.drop 2) = some (s.2.2.1, s.2.1) ∧ s.2.1.length ≤ left.length ∧ Slc 74 4 s.2.2.2.1 s.2.2.1.length (cel (cE fsW) s.2.2.1) s.2.2.2.2) (fun s => leV (left.take 2) - s.1) (0, left.drop 2, [], .slice none 0 0, []) ⟨Nat.zero_le _, rfl, by dsimp only; rw [List.length_drop]; omega, Slc.nil 74 4⟩ ⟨rfl, rfl, rfl, rfl, trivial⟩ ⟨rfl, trivial⟩ (by intro w ho; (try dsimp only [List.nil_append, List.cons_append]); exact Drop.own ho) ?_
 rintro ⟨i, lf, l, vs, Hs⟩ KK ⟨hi, hr, hlf, hs⟩ hK
 dsimp only [List.cons_append, List.nil_append] at hK ⊢
 dsimp only at hi hr hlf hs ⊢
 refine Wr ?_
 refine Ops.pv (pv_lss rfl rfl) rfl ?_
 refine On ?_
 refine Wp.seq ?_
 refine Wp.cond_dect rfl (fun h2 => ?_) (fun h2 => ?_)
 ·
  obtain rfl : i = l.length := (rdI_len hr).1.symm
  refine Wp.skip ?_
  refine Ends.seq ?_
  refine Wp.seq ?_
  refine Wp.block ?_
  refine Wr ?_
  refine Om1 rfl rfl ?_
  refine Oa1 rfl rfl ?_
  refine On ?_
  refine Wp.seq ?_
  refine Wr ?_
  refine Om1 rfl rfl ?_
  refine Ops.pv (pv_nilCheck rfl) rfl ?_
  refine Of1 rfl rfl rfl ?_
  refine Ol1 rfl rfl rfl rfl ?_
  refine On ?_
  refine Wp.cond_true rfl ?_
  refine AnyH.start ([] : Hp) 11 rfl ?_
  refine Tk 0 rfl rfl (pv_move rfl) rfl ?_
  refine Tk 1 rfl rfl (pv_move rfl) rfl ?_
  refine Tk 2 rfl rfl (pv_nilCheck rfl) rfl ?_
  refine AnyH.two 3 4 (by kernel_rfl) ?_ ?_
  ·
   refine Turn.ef rfl rfl (ef_pv (pv_load rfl rfl (nth_set (nth_lt hv))) rfl) ?_ ?_
   ·
    rintro _ _ ⟨rfl, rfl⟩; infer_instance
   rintro _ _ ⟨rfl, rfl⟩
   refine AnyH.one 4 (by kernel_rfl) ?_
   refine Turn.ef rfl rfl (ef_allocK tyZ74 rfl) ?_ ?_
   ·
    rintro _ _ ⟨b3, rfl, rfl⟩; infer_instance
   rintro _ _ ⟨b3, rfl, rfl⟩
   refine Tk 5 rfl rfl (pv_nilCheck rfl) rfl ?_
   refine AnyH.one 6 (by kernel_rfl) ?_
   refine Turn.ef rfl rfl (ef_pv (pv_loadK [_, _, _, _] rfl rfl rfl ⟨rfl, rfl, rfl, rfl, trivial⟩) rfl) ?_ ?_
   ·
    rintro _ _ ⟨rfl, rfl⟩; infer_instance
   rintro _ _ ⟨rfl, rfl⟩
   refine AnyH.one 7 (by kernel_rfl) ?_
   refine Turn.ef rfl rfl (ef_buildSlice1 (k := 4) rfl rfl rfl rfl rfl) ?_ ?_
   ·
    rintro _ _ ⟨b4, rfl, rfl⟩; infer_instance
   rintro _ _ ⟨b4, rfl, rfl⟩
   refine AnyH.one 8 (by kernel_rfl) ?_
   refine Turn.ef rfl rfl (ef_append (H := Hs) (xs := [.int .i64 0, .int .i64 0, .int .i64 0, .int .u64 0]) rfl hs rfl ⟨rfl, rfl, rfl, rfl, trivial⟩ rfl rfl rfl (by omega) (by omega) rfl rfl) ?_ ?_
   ·
    rintro _ _ ⟨v1, H1, hs1, rfl, rfl⟩; infer_instance
   rintro _ _ ⟨v1, H1, hs1, rfl, rfl⟩
   refine AnyH.app ?_
   have hs2 : Slc 74 4 v1 (l.length + 1) (cel (cE fsW) (l ++ [zEl fsW])) H1 := by rw [cel_app, cel_one1]; exact hs1
   obtain ⟨eb, eo, cc, cap, rfl, rfl, hx, hset⟩ := slc_el (i := l.length) (a := zEl fsW) hs2 (by simp) (by decide)
   refine Tk 9 rfl rfl (pv_nilCheck rfl) rfl ?_
   refine AnyH.one 10 (by kernel_rfl) ?_
   refine Turn.ef rfl rfl (ef_store1 (hset := setL_set2 (nth_lt hv)) rfl rfl rfl rfl) ?_ ?_
   ·
    rintro _ _ ⟨rfl, rfl⟩; infer_instance
   rintro _ _ ⟨rfl, rfl⟩
   refine AnyH.done (by kernel_rfl) ?_
   refine Ends.seq ?_
   refine Wp.region ?_
   refine Om1 rfl rfl ?_
   refine Om1 rfl rfl ?_
   refine Ops.pv (pv_nilCheck rfl) rfl ?_
   refine Ops.pv (pv_load rfl rfl (nth_set (nth_lt hv))) rfl ?_
   refine Om1 rfl rfl ?_
   refine Ops.pv (pv_indexAddr (i := l.length) rfl rfl rfl (by omega)) rfl ?_
   refine Ops.efx rfl (efx_callf rfl rfl (tr_elR6 cp k adr bv lf (by omega) h1b h1a eb (eo + l.length * 4) cc 74 hx) rfl) ?_ ?_
   ·
    rintro _ _ ⟨_, ⟨rfl, hno, rfl⟩, rfl⟩
    exact ⟨[], ⟨rfl, by unfold rdL; rw [if_neg (by omega), if_neg (by omega)]; exact rdI_up (rdI_none hr hno) (by omega), rfl⟩, inferInstance⟩
   rintro _ _ ⟨_, _, ⟨rfl, e9, lf2, he9, rfl⟩, rfl, rfl⟩
   refine Ops.app ?_
   refine Ops.nil ?_
   refine Ends.block_normal ?_
   refine Ends.seq ?_
   refine Wp.region ?_
   refine Ops.pv (pv_add rfl rfl (w64n (k := l.length + 1) (by omega) (by omega))) rfl ?_
   refine Om1 rfl rfl ?_
   refine Ops.nil ?_
   refine Ends.goes ?_
   refine Goes.back (hK (l.length + 1, lf2, l ++ [mkEl fsW e9], .slice (some ⟨eb, eo, none⟩) (l.length + 1) cap, [(eb, .cells (setAt cc (eo + l.length * 4) (cE fsW (mkEl fsW e9))).toArray 74)]) ⟨by dsimp only; omega, rdI_some hr he9, by have := (rdI_len (rdI_some hr he9)).2; rw [List.length_drop] at this; dsimp only; omega, by have := hset (mkEl fsW e9); rw [List.set_append_right _ _ (Nat.le_refl _), Nat.sub_self, List.set_cons_zero] at this; rw [List.length_append]; exact this⟩ (by dsimp only; omega)) ⟨rfl, rfl, rfl, rfl, rfl, trivial⟩
  refine Turn.ef rfl rfl (ef_allocK tyZ74 rfl) ?_ ?_
  ·
   rintro _ _ ⟨b5, rfl, rfl⟩; infer_instance
  rintro _ _ ⟨b5, rfl, rfl⟩
  refine Tk 5 rfl rfl (pv_nilCheck rfl) rfl ?_
  refine AnyH.two 3 6 (by kernel_rfl) ?_ ?_
  ·
   refine Turn.ef rfl rfl (ef_pv (pv_load rfl rfl (nth_set (nth_lt hv))) rfl) ?_ ?_
   ·
    rintro _ _ ⟨rfl, rfl⟩; infer_instance
   rintro _ _ ⟨rfl, rfl⟩
   refine AnyH.one 6 (by kernel_rfl) ?_
   refine Turn.ef rfl rfl (ef_pv (pv_loadK [_, _, _, _] rfl rfl rfl ⟨rfl, rfl, rfl, rfl, trivial⟩) rfl) ?_ ?_
   ·
    rintro _ _ ⟨rfl, rfl⟩; infer_instance
   rintro _ _ ⟨rfl, rfl⟩
   refine AnyH.one 7 (by kernel_rfl) ?_
   refine Turn.ef rfl rfl (ef_buildSlice1 (k := 4) rfl rfl rfl rfl rfl) ?_ ?_
   ·
    rintro _ _ ⟨b6, rfl, rfl⟩; infer_instance
   rintro _ _ ⟨b6, rfl, rfl⟩
   refine AnyH.one 8 (by kernel_rfl) ?_
   refine Turn.ef rfl rfl (ef_append (H := Hs) (xs := [.int .i64 0, .int .i64 0, .int .i64 0, .int .u64 0]) rfl hs rfl ⟨rfl, rfl, rfl, rfl, trivial⟩ rfl rfl rfl (by omega) (by omega) rfl rfl) ?_ ?_
   ·
    rintro _ _ ⟨v2, H2, hs2, rfl, rfl⟩; infer_instance
   rintro _ _ ⟨v2, H2, hs2, rfl, rfl⟩
   refine AnyH.app ?_
   have hs2 : Slc 74 4 v2 (l.length + 1) (cel (cE fsW) (l ++ [zEl fsW])) H2 := by rw [cel_app, cel_one1]; exact hs2
   obtain ⟨eb, eo, cc, cap, rfl, rfl, hx, hset⟩ := slc_el (i := l.length) (a := zEl fsW) hs2 (by simp) (by decide)
   refine Tk 9 rfl rfl (pv_nilCheck rfl) rfl ?_
   refine AnyH.one 10 (by kernel_rfl) ?_
   refine Turn.ef rfl rfl (ef_store1 (hset := setL_set2 (nth_lt hv)) rfl rfl rfl rfl) ?_ ?_
   ·
    rintro _ _ ⟨rfl, rfl⟩; infer_instance
   rintro _ _ ⟨rfl, rfl⟩
   refine AnyH.done (by kernel_rfl) ?_
   refine Ends.seq ?_
   refine Wp.region ?_
   refine Om1 rfl rfl ?_
   refine Om1 rfl rfl ?_
   refine Ops.pv (pv_nilCheck rfl) rfl ?_
   refine Ops.pv (pv_load rfl rfl (nth_set (nth_lt hv))) rfl ?_
   refine Om1 rfl rfl ?_
   refine Ops.pv (pv_indexAddr (i := l.length) rfl rfl rfl (by omega)) rfl ?_
   refine Ops.efx rfl (efx_callf rfl rfl (tr_elR6 cp k adr bv lf (by omega) h1b h1a eb (eo + l.length * 4) cc 74 hx) rfl) ?_ ?_
   ·
    rintro _ _ ⟨_, ⟨rfl, hno, rfl⟩, rfl⟩
    exact ⟨[], ⟨rfl, by unfold rdL; rw [if_neg (by omega), if_neg (by omega)]; exact rdI_up (rdI_none hr hno) (by omega), rfl⟩, inferInstance⟩
   rintro _ _ ⟨_, _, ⟨rfl, e9, lf2, he9, rfl⟩, rfl, rfl⟩
   refine Ops.app ?_
   refine Ops.nil ?_
   refine Ends.block_normal ?_
   refine Ends.seq ?_
   refine Wp.region ?_
   refine Ops.pv (pv_add rfl rfl (w64n (k := l.length + 1) (by omega) (by omega))) rfl ?_
   refine Om1 rfl rfl ?_
   refine Ops.nil ?_
   refine Ends.goes ?_
   refine Goes.back (hK (l.length + 1, lf2, l ++ [mkEl fsW e9], .slice (some ⟨eb, eo, none⟩) (l.length + 1) cap, [(eb, .cells (setAt cc (eo + l.length * 4) (cE fsW (mkEl fsW e9))).toArray 74)]) ⟨by dsimp only; omega, rdI_some hr he9, by have := (rdI_len (rdI_some hr he9)).2; rw [List.length_drop] at this; dsimp only; omega, by have := hset (mkEl fsW e9); rw [List.set_append_right _ _ (Nat.le_refl _), Nat.sub_self, List.set_cons_zero] at this; rw [List.length_append]; exact this⟩ (by dsimp only; omega)) ⟨rfl, rfl, rfl, rfl, rfl, trivial⟩
  refine Turn.ef rfl rfl (ef_pv (pv_loadK [_, _, _, _] rfl rfl rfl ⟨rfl, rfl, rfl, rfl, trivial⟩) rfl) ?_ ?_
  ·
   rintro _ _ ⟨rfl, rfl⟩; infer_instance
  rintro _ _ ⟨rfl, rfl⟩
  refine AnyH.two 3 7 (by kernel_rfl) ?_ ?_
  ·
   refine Turn.ef rfl rfl (ef_pv (pv_load rfl rfl (nth_set (nth_lt hv))) rfl) ?_ ?_
   ·
    rintro _ _ ⟨rfl, rfl⟩; infer_instance
   rintro _ _ ⟨rfl, rfl⟩
   refine AnyH.one 7 (by kernel_rfl) ?_
   refine Turn.ef rfl rfl (ef_buildSlice1 (k := 4) rfl rfl rfl rfl rfl) ?_ ?_
   ·
    rintro _ _ ⟨b7, rfl, rfl⟩; infer_instance
   rintro _ _ ⟨b7, rfl, rfl⟩
   refine AnyH.one 8 (by kernel_rfl) ?_
   refine Turn.ef rfl rfl (ef_append (H := Hs) (xs := [.int .i64 0, .int .i64 0, .int .i64 0, .int .u64 0]) rfl hs rfl ⟨rfl, rfl, rfl, rfl, trivial⟩ rfl rfl rfl (by omega) (by omega) rfl rfl) ?_ ?_
   ·
    rintro _ _ ⟨v3, H3, hs3, rfl, rfl⟩; infer_instance
   rintro _ _ ⟨v3, H3, hs3, rfl, rfl⟩
   refine AnyH.app ?_
   have hs2 : Slc 74 4 v3 (l.length + 1) (cel (cE fsW) (l ++ [zEl fsW])) H3 := by rw [cel_app, cel_one1]; exact hs3
   obtain ⟨eb, eo, cc, cap, rfl, rfl, hx, hset⟩ := slc_el (i := l.length) (a := zEl fsW) hs2 (by simp) (by decide)
   refine Tk 9 rfl rfl (pv_nilCheck rfl) rfl ?_
   refine AnyH.one 10 (by kernel_rfl) ?_
   refine Turn.ef rfl rfl (ef_store1 (hset := setL_set2 (nth_lt hv)) rfl rfl rfl rfl) ?_ ?_
   ·
    rintro _ _ ⟨rfl, rfl⟩; infer_instance
   rintro _ _ ⟨rfl, rfl⟩
   refine AnyH.done (by kernel_rfl) ?_
   refine Ends.seq ?_
   refine Wp.region ?_
   refine Om1 rfl rfl ?_
   refine Om1 rfl rfl ?_
   refine Ops.pv (pv_nilCheck rfl) rfl ?_
   refine Ops.pv (pv_load rfl rfl (nth_set (nth_lt hv))) rfl ?_
   refine Om1 rfl rfl ?_
   refine Ops.pv (pv_indexAddr (i := l.length) rfl rfl rfl (by omega)) rfl ?_
   refine Ops.efx rfl (efx_callf rfl rfl (tr_elR6 cp k adr bv lf (by omega) h1b h1a eb (eo + l.length * 4) cc 74 hx) rfl) ?_ ?_
   ·
    rintro _ _ ⟨_, ⟨rfl, hno, rfl⟩, rfl⟩
    exact ⟨[], ⟨rfl, by unfold rdL; rw [if_neg (by omega), if_neg (by omega)]; exact rdI_up (rdI_none hr hno) (by omega), rfl⟩, inferInstance⟩
   rintro _ _ ⟨_, _, ⟨rfl, e9, lf2, he9, rfl⟩, rfl, rfl⟩
   refine Ops.app ?_
   refine Ops.nil ?_
   refine Ends.block_normal ?_
   refine Ends.seq ?_
   refine Wp.region ?_
   refine Ops.pv (pv_add rfl rfl (w64n (k := l.length + 1) (by omega) (by omega))) rfl ?_
   refine Om1 rfl rfl ?_
   refine Ops.nil ?_
   refine Ends.goes ?_
   refine Goes.back (hK (l.length + 1, lf2, l ++ [mkEl fsW e9], .slice (some ⟨eb, eo, none⟩) (l.length + 1) cap, [(eb, .cells (setAt cc (eo + l.length * 4) (cE fsW (mkEl fsW e9))).toArray 74)]) ⟨by dsimp only; omega, rdI_some hr he9, by have := (rdI_len (rdI_some hr he9)).2; rw [List.length_drop] at this; dsimp only; omega, by have := hset (mkEl fsW e9); rw [List.set_append_right _ _ (Nat.le_refl _), Nat.sub_self, List.set_cons_zero] at this; rw [List.length_append]; exact this⟩ (by dsimp only; omega)) ⟨rfl, rfl, rfl, rfl, rfl, trivial⟩
  refine Turn.ef rfl rfl (ef_buildSlice1 (k := 4) rfl rfl rfl rfl rfl) ?_ ?_
  ·
   rintro _ _ ⟨b8, rfl, rfl⟩; infer_instance
  rintro _ _ ⟨b8, rfl, rfl⟩
  refine AnyH.one 3 (by kernel_rfl) ?_
  refine Turn.ef rfl rfl (ef_pv (pv_load rfl rfl (nth_set (nth_lt hv))) rfl) ?_ ?_
  ·
   rintro _ _ ⟨rfl, rfl⟩; infer_instance
  rintro _ _ ⟨rfl, rfl⟩
  refine AnyH.one 8 (by kernel_rfl) ?_
  refine Turn.ef rfl rfl (ef_append (H := Hs) (xs := [.int .i64 0, .int .i64 0, .int .i64 0, .int .u64 0]) rfl hs rfl ⟨rfl, rfl, rfl, rfl, trivial⟩ rfl rfl rfl (by omega) (by omega) rfl rfl) ?_ ?_
  ·
   rintro _ _ ⟨v4, H4, hs4, rfl, rfl⟩; infer_instance
  rintro _ _ ⟨v4, H4, hs4, rfl, rfl⟩
  refine AnyH.app ?_
  have hs2 : Slc 74 4 v4 (l.length + 1) (cel (cE fsW) (l ++ [zEl fsW])) H4 := by rw [cel_app, cel_one1]; exact hs4
  obtain ⟨eb, eo, cc, cap, rfl, rfl, hx, hset⟩ := slc_el (i := l.length) (a := zEl fsW) hs2 (by simp) (by decide)
  refine Tk 9 rfl rfl (pv_nilCheck rfl) rfl ?_
  refine AnyH.one 10 (by kernel_rfl) ?_
  refine Turn.ef rfl rfl (ef_store1 (hset := setL_set2 (nth_lt hv)) rfl rfl rfl rfl) ?_ ?_
  ·
   rintro _ _ ⟨rfl, rfl⟩; infer_instance
  rintro _ _ ⟨rfl, rfl⟩
  refine AnyH.done (by kernel_rfl) ?_
  refine Ends.seq ?_
  refine Wp.region ?_
  refine Om1 rfl rfl ?_
  refine Om1 rfl rfl ?_
  refine Ops.pv (pv_nilCheck rfl) rfl ?_
  refine Ops.pv (pv_load rfl rfl (nth_set (nth_lt hv))) rfl ?_
  refine Om1 rfl rfl ?_
  refine Ops.pv (pv_indexAddr (i := l.length) rfl rfl rfl (by omega)) rfl ?_
  refine Ops.efx rfl (efx_callf rfl rfl (tr_elR6 cp k adr bv lf (by omega) h1b h1a eb (eo + l.length * 4) cc 74 hx) rfl) ?_ ?_
  ·
   rintro _ _ ⟨_, ⟨rfl, hno, rfl⟩, rfl⟩
   exact ⟨[], ⟨rfl, by unfold rdL; rw [if_neg (by omega), if_neg (by omega)]; exact rdI_up (rdI_none hr hno) (by omega), rfl⟩, inferInstance⟩
  rintro _ _ ⟨_, _, ⟨rfl, e9, lf2, he9, rfl⟩, rfl, rfl⟩
  refine Ops.app ?_
  refine Ops.nil ?_
  refine Ends.block_normal ?_
  refine Ends.seq ?_
  refine Wp.region ?_
  refine Ops.pv (pv_add rfl rfl (w64n (k := l.length + 1) (by omega) (by omega))) rfl ?_
  refine Om1 rfl rfl ?_
  refine Ops.nil ?_
  refine Ends.goes ?_
  refine Goes.back (hK (l.length + 1, lf2, l ++ [mkEl fsW e9], .slice (some ⟨eb, eo, none⟩) (l.length + 1) cap, [(eb, .cells (setAt cc (eo + l.length * 4) (cE fsW (mkEl fsW e9))).toArray 74)]) ⟨by dsimp only; omega, rdI_some hr he9, by have := (rdI_len (rdI_some hr he9)).2; rw [List.length_drop] at this; dsimp only; omega, by have := hset (mkEl fsW e9); rw [List.set_append_right _ _ (Nat.le_refl _), Nat.sub_self, List.set_cons_zero] at this; rw [List.length_append]; exact this⟩ (by dsimp only; omega)) ⟨rfl, rfl, rfl, rfl, rfl, trivial⟩
 obtain rfl : i = leV (left.take 2) := by omega
 refine Wp.exit ?_
 refine Ends.then_exit ?_
 refine Ends.then_exit ?_
 refine Ends.block_hit ?_
 have hL : rdL fsW 8 left = some (l, lf) := by unfold rdL; rw [if_neg (by omega), if_neg (by omega)]; exact hr
 exact Ends.finE (L' := (cp, .cells [kP k].toArray 78) :: ((k, .cells [.bool true, adr, bv, sV lf].toArray 84) :: ((d, .cells (dc.set o vs).toArray Td) :: Hs))) (res0 rfl) ⟨rfl, l, lf, vs, Hs, hL, hs, rfl⟩
set_option maxHeartbeats 8000000 in
theorem tr_listR7 (cp : Nat) (k : Nat) (adr bv : Value) (left : List UInt8) (hl : left.length ≤ 2 ^ 40) (h1b : bv.oneCell' = true) (h1a : adr.oneCell' = true) (d o : Nat) (dc : List Value) (Td : TypeId) (hv : nth dc o = some (.slice none 0 0)) : TrE Try.prog 49 [kP k, .pointer (some ⟨d, o, none⟩), .int .i64 16, .func (.func 50) #[] #[.pointer (some ⟨cp, 0, none⟩)]] ((cp, .cells [kP k].toArray 78) :: ((k, .cells [.bool true, adr, bv, sV left].toArray 84) :: [(d, .cells dc.toArray Td)])) (fun u L' => u = .tuple #[] ∧ ∃ (L : List (El fsS)) (left' : List UInt8) (v : Value) (H : Hp), rdL fsS 16 left = some (L, left') ∧ Slc 77 2 v L.length (cel (cE fsS) L) H ∧ L' = (cp, .cells [kP k].toArray 78) :: ((k, .cells [.bool true, adr, bv, sV left'].toArray 84) :: ((d, .cells (dc.set o v).toArray Td) :: H))) (fun c L' => c = badC ∧ rdL fsS 16 left = none ∧ L' = []) := by
 refine TrE.enter Try.func49 rfl Try.ntmps49 rfl (fun W F => ?_)
 refine Wp.app ?_
 refine Wr ?_
 refine Om1 rfl rfl ?_
 refine Ops.pv (pv_nilCheck rfl) rfl ?_
 refine Ops.pv (pv_load rfl rfl hv) rfl ?_
 refine Ops.pv (pv_len_slice (T := 38) rfl rfl) rfl ?_
 refine Ops.ef rfl (ef_alloc1 tyZ3 rfl rfl) ?_
 rintro _ _ ⟨b1, rfl, rfl⟩
 refine Ops.ef rfl (ef_store1 rfl rfl (by first | rfl | assumption) (by first | rfl | assumption)) ?_
 rintro _ _ ⟨rfl, rfl⟩
 refine On ?_
 refine Wp.seq ?_
 refine Wr ?_
 refine Ol1 rfl rfl rfl rfl ?_
 refine Om1 rfl rfl ?_
 refine Ops.pv ((pv_gtr rfl rfl).fls (by first | exact fun h => h rfl | decide | omega | assumption)) rfl ?_
 refine On ?_
 refine Wp.cond_false rfl ?_
 refine Wp.skip ?_
 refine Ends.seq ?_
 refine Wr ?_
 refine Om1 rfl rfl ?_
 refine Ops.ef rfl (ef_buildSlice1 (k := 1) rfl rfl rfl rfl rfl) ?_
 rintro _ _ ⟨b2, rfl, rfl⟩
 refine Ops.efx rfl (efx_call (tr_twoR k adr bv left hl h1b h1a b2 120 [.pointer (some ⟨b1, 0, none⟩)] b1 0 [.int .i64 0] 3 [0] rfl (one_hcc rfl) (by intro y hy; simp only [List.mem_cons, List.not_mem_nil, or_false] at hy; unfold RgI; omega) (by simp) (by simp)) rfl rfl) ?_ ?_
 ·
  rintro _ _ ⟨_, ⟨rfl, hno, rfl⟩, rfl⟩
  exact ⟨[], ⟨rfl, by have h3 : left.length < 2 := hno; unfold rdL; rw [if_pos h3], rfl⟩, inferInstance⟩
 rintro _ _ ⟨_, _, ⟨rfl, hl2, rfl⟩, rfl, rfl⟩
 refine Ops.app ?_
 rw [show setAt [.int .i64 0] 0 (intC (rdTw ([0] : List Int).length left)) = [.int .i64 ((leV (left.take 2) : Nat) : Int)] from rfl, show left.drop (2 * ([0] : List Int).length) = left.drop 2 from rfl]
 have hl3 : 2 ≤ left.length := hl2
 have hc2 := leV2 left
 refine On ?_
 refine Wp.seq ?_
 refine Wr ?_
 refine Ol1 rfl rfl rfl rfl ?_
 refine Om1 rfl rfl ?_
 refine Ops.pv (pv_gtr rfl rfl) rfl ?_
 refine On ?_
 refine Wp.cond_dect rfl (fun h1 => ?_) (fun h1 => ?_)
 ·
  refine Wp.region ?_
  refine Ops.pv (pv_build rfl) rfl ?_
  refine Ops.pv (pv_iface rfl rfl) rfl ?_
  exact Ops.panic rfl ⟨[], ⟨rfl, by unfold rdL; rw [if_neg (by omega), if_pos (by omega)], rfl⟩, inferInstance⟩
 have hmost : leV (left.take 2) ≤ 16 := by omega
 refine Wp.skip ?_
 refine Ends.seq ?_
 refine Wp.seq ?_
 refine Wr ?_
 refine Om1 rfl rfl ?_
 refine Ops.pv (pv_nilCheck rfl) rfl ?_
 refine Of1 rfl rfl rfl ?_
 refine Ol1 rfl rfl rfl rfl ?_
 refine On ?_
 refine Wp.cond_true rfl ?_
 refine Wp.region ?_
 refine Om1 rfl rfl ?_
 refine Ops.pv (pv_nilCheck rfl) rfl ?_
 refine Ops.ef rfl (ef_store1 (hset := setL_set (nth_lt hv)) rfl rfl rfl rfl) ?_
 rintro _ _ ⟨rfl, rfl⟩
 refine On ?_
 refine Wr ?_
 refine Ol1 rfl rfl rfl rfl ?_
 refine Om1 rfl rfl ?_
 refine On ?_
 refine Wp.block ?_
 refine Wp.loopK (σ := Nat × List UInt8 × List (El fsS) × Value × Hp) [(0, _), (1, _), (3, _), (33, _)] (fun s => [(34, .int .i64 s.1)]) (fun s => (cp, .cells [kP k].toArray 78) :: ((k, .cells [.bool true, adr, bv, sV s.2.1].toArray 84) :: ((d, .cells (dc.set o s.2.2.2.1).toArray Td) :: (s.2.2.2.2 ++ ((b1, .cells [.int .i64 ((leV (left.take 2) : Nat) : Int)].toArray 3) :: F))))) (fun s => s.1 ≤ leV (left.take 2) ∧ rdI fsS s.1 (left.drop 2) = some (s.2.2.1, s.2.1) ∧ s.2.1.length ≤ left.length ∧ Slc 77 2 s.2.2.2.1 s.2.2.1.length (cel (cE fsS) s.2.2.1) s.2.2.2.2) (fun s => leV (left.take 2) - s.1) (0, left.drop 2, [], .slice none 0 0, []) ⟨Nat.zero_le _, rfl, by dsimp only; rw [List.length_drop]; omega, Slc.nil 77 2⟩ ⟨rfl, rfl, rfl, rfl, trivial⟩ ⟨rfl, trivial⟩ (by intro w ho; (try dsimp only [List.nil_append, List.cons_append]); exact Drop.own ho) ?_
 rintro ⟨i, lf, l, vs, Hs⟩ KK ⟨hi, hr, hlf, hs⟩ hK
 dsimp only [List.cons_append, List.nil_append] at hK ⊢
 dsimp only at hi hr hlf hs ⊢
 refine Wr ?_
 refine Ops.pv (pv_lss rfl rfl) rfl ?_
 refine On ?_
 refine Wp.seq ?_
 refine Wp.cond_dect rfl (fun h2 => ?_) (fun h2 => ?_)
 ·
  obtain rfl : i = l.length := (rdI_len hr).1.symm
  refine Wp.skip ?_
  refine Ends.seq ?_
  refine Wp.seq ?_
  refine Wp.block ?_
  refine Wr ?_
  refine Om1 rfl rfl ?_
  refine Oa1 rfl rfl ?_
  refine On ?_
  refine Wp.seq ?_
  refine Wr ?_
  refine Om1 rfl rfl ?_
  refine Ops.pv (pv_nilCheck rfl) rfl ?_
  refine Of1 rfl rfl rfl ?_
  refine Ol1 rfl rfl rfl rfl ?_
  refine On ?_
  refine Wp.cond_true rfl ?_
  refine AnyH.start ([] : Hp) 11 rfl ?_
  refine Tk 0 rfl rfl (pv_move rfl) rfl ?_
  refine Tk 1 rfl rfl (pv_move rfl) rfl ?_
  refine Tk 2 rfl rfl (pv_nilCheck rfl) rfl ?_
  refine AnyH.two 3 4 (by kernel_rfl) ?_ ?_
  ·
   refine Turn.ef rfl rfl (ef_pv (pv_load rfl rfl (nth_set (nth_lt hv))) rfl) ?_ ?_
   ·
    rintro _ _ ⟨rfl, rfl⟩; infer_instance
   rintro _ _ ⟨rfl, rfl⟩
   refine AnyH.one 4 (by kernel_rfl) ?_
   refine Turn.ef rfl rfl (ef_allocK tyZ77 rfl) ?_ ?_
   ·
    rintro _ _ ⟨b3, rfl, rfl⟩; infer_instance
   rintro _ _ ⟨b3, rfl, rfl⟩
   refine Tk 5 rfl rfl (pv_nilCheck rfl) rfl ?_
   refine AnyH.one 6 (by kernel_rfl) ?_
   refine Turn.ef rfl rfl (ef_pv (pv_loadK [_, _] rfl rfl rfl ⟨rfl, rfl, trivial⟩) rfl) ?_ ?_
   ·
    rintro _ _ ⟨rfl, rfl⟩; infer_instance
   rintro _ _ ⟨rfl, rfl⟩
   refine AnyH.one 7 (by kernel_rfl) ?_
   refine Turn.ef rfl rfl (ef_buildSlice1 (k := 2) rfl rfl rfl rfl rfl) ?_ ?_
   ·
    rintro _ _ ⟨b4, rfl, rfl⟩; infer_instance
   rintro _ _ ⟨b4, rfl, rfl⟩
   refine AnyH.one 8 (by kernel_rfl) ?_
   refine Turn.ef rfl rfl (ef_append (H := Hs) (xs := [.int .i64 0, .int .i64 0]) rfl hs rfl ⟨rfl, rfl, trivial⟩ rfl rfl rfl (by omega) (by omega) rfl rfl) ?_ ?_
   ·
    rintro _ _ ⟨v1, H1, hs1, rfl, rfl⟩; infer_instance
   rintro _ _ ⟨v1, H1, hs1, rfl, rfl⟩
   refine AnyH.app ?_
   have hs2 : Slc 77 2 v1 (l.length + 1) (cel (cE fsS) (l ++ [zEl fsS])) H1 := by rw [cel_app, cel_one1]; exact hs1
   obtain ⟨eb, eo, cc, cap, rfl, rfl, hx, hset⟩ := slc_el (i := l.length) (a := zEl fsS) hs2 (by simp) (by decide)
   refine Tk 9 rfl rfl (pv_nilCheck rfl) rfl ?_
   refine AnyH.one 10 (by kernel_rfl) ?_
   refine Turn.ef rfl rfl (ef_store1 (hset := setL_set2 (nth_lt hv)) rfl rfl rfl rfl) ?_ ?_
   ·
    rintro _ _ ⟨rfl, rfl⟩; infer_instance
   rintro _ _ ⟨rfl, rfl⟩
   refine AnyH.done (by kernel_rfl) ?_
   refine Ends.seq ?_
   refine Wp.region ?_
   refine Om1 rfl rfl ?_
   refine Om1 rfl rfl ?_
   refine Ops.pv (pv_nilCheck rfl) rfl ?_
   refine Ops.pv (pv_load rfl rfl (nth_set (nth_lt hv))) rfl ?_
   refine Om1 rfl rfl ?_
   refine Ops.pv (pv_indexAddr (i := l.length) rfl rfl rfl (by omega)) rfl ?_
   refine Ops.efx rfl (efx_callf rfl rfl (tr_elR7 cp k adr bv lf (by omega) h1b h1a eb (eo + l.length * 2) cc 77 hx) rfl) ?_ ?_
   ·
    rintro _ _ ⟨_, ⟨rfl, hno, rfl⟩, rfl⟩
    exact ⟨[], ⟨rfl, by unfold rdL; rw [if_neg (by omega), if_neg (by omega)]; exact rdI_up (rdI_none hr hno) (by omega), rfl⟩, inferInstance⟩
   rintro _ _ ⟨_, _, ⟨rfl, e9, lf2, he9, rfl⟩, rfl, rfl⟩
   refine Ops.app ?_
   refine Ops.nil ?_
   refine Ends.block_normal ?_
   refine Ends.seq ?_
   refine Wp.region ?_
   refine Ops.pv (pv_add rfl rfl (w64n (k := l.length + 1) (by omega) (by omega))) rfl ?_
   refine Om1 rfl rfl ?_
   refine Ops.nil ?_
   refine Ends.goes ?_
   refine Goes.back (hK (l.length + 1, lf2, l ++ [mkEl fsS e9], .slice (some ⟨eb, eo, none⟩) (l.length + 1) cap, [(eb, .cells (setAt cc (eo + l.length * 2) (cE fsS (mkEl fsS e9))).toArray 77)]) ⟨by dsimp only; omega, rdI_some hr he9, by have := (rdI_len (rdI_some hr he9)).2; rw [List.length_drop] at this; dsimp only; omega, by have := hset (mkEl fsS e9); rw [List.set_append_right _ _ (Nat.le_refl _), Nat.sub_self, List.set_cons_zero] at this; rw [List.length_append]; exact this⟩ (by dsimp only; omega)) ⟨rfl, rfl, rfl, rfl, rfl, trivial⟩
  refine Turn.ef rfl rfl (ef_allocK tyZ77 rfl) ?_ ?_
  ·
   rintro _ _ ⟨b5, rfl, rfl⟩; infer_instance
  rintro _ _ ⟨b5, rfl, rfl⟩
  refine Tk 5 rfl rfl (pv_nilCheck rfl) rfl ?_
  refine AnyH.two 3 6 (by kernel_rfl) ?_ ?_
  ·
   refine Turn.ef rfl rfl (ef_pv (pv_load rfl rfl (nth_set (nth_lt hv))) rfl) ?_ ?_
   ·
    rintro _ _ ⟨rfl, rfl⟩; infer_instance
   rintro _ _ ⟨rfl, rfl⟩
   refine AnyH.one 6 (by kernel_rfl) ?_
   refine Turn.ef rfl rfl (ef_pv (pv_loadK [_, _] rfl rfl rfl ⟨rfl, rfl, trivial⟩) rfl) ?_ ?_
   ·
    rintro _ _ ⟨rfl, rfl⟩; infer_instance
   rintro _ _ ⟨rfl, rfl⟩
   refine AnyH.one 7 (by kernel_rfl) ?_
   refine Turn.ef rfl rfl (ef_buildSlice1 (k := 2) rfl rfl rfl rfl rfl) ?_ ?_
   ·
    rintro _ _ ⟨b6, rfl, rfl⟩; infer_instance
   rintro _ _ ⟨b6, rfl, rfl⟩
   refine AnyH.one 8 (by kernel_rfl) ?_
   refine Turn.ef rfl rfl (ef_append (H := Hs) (xs := [.int .i64 0, .int .i64 0]) rfl hs rfl ⟨rfl, rfl, trivial⟩ rfl rfl rfl (by omega) (by omega) rfl rfl) ?_ ?_
   ·
    rintro _ _ ⟨v2, H2, hs2, rfl, rfl⟩; infer_instance
   rintro _ _ ⟨v2, H2, hs2, rfl, rfl⟩
   refine AnyH.app ?_
   have hs2 : Slc 77 2 v2 (l.length + 1) (cel (cE fsS) (l ++ [zEl fsS])) H2 := by rw [cel_app, cel_one1]; exact hs2
   obtain ⟨eb, eo, cc, cap, rfl, rfl, hx, hset⟩ := slc_el (i := l.length) (a := zEl fsS) hs2 (by simp) (by decide)
   refine Tk 9 rfl rfl (pv_nilCheck rfl) rfl ?_
   refine AnyH.one 10 (by kernel_rfl) ?_
   refine Turn.ef rfl rfl (ef_store1 (hset := setL_set2 (nth_lt hv)) rfl rfl rfl rfl) ?_ ?_
   ·
    rintro _ _ ⟨rfl, rfl⟩; infer_instance
   rintro _ _ ⟨rfl, rfl⟩
   refine AnyH.done (by kernel_rfl) ?_
   refine Ends.seq ?_
   refine Wp.region ?_
   refine Om1 rfl rfl ?_
   refine Om1 rfl rfl ?_
   refine Ops.pv (pv_nilCheck rfl) rfl ?_
   refine Ops.pv (pv_load rfl rfl (nth_set (nth_lt hv))) rfl ?_
   refine Om1 rfl rfl ?_
   refine Ops.pv (pv_indexAddr (i := l.length) rfl rfl rfl (by omega)) rfl ?_
   refine Ops.efx rfl (efx_callf rfl rfl (tr_elR7 cp k adr bv lf (by omega) h1b h1a eb (eo + l.length * 2) cc 77 hx) rfl) ?_ ?_
   ·
    rintro _ _ ⟨_, ⟨rfl, hno, rfl⟩, rfl⟩
    exact ⟨[], ⟨rfl, by unfold rdL; rw [if_neg (by omega), if_neg (by omega)]; exact rdI_up (rdI_none hr hno) (by omega), rfl⟩, inferInstance⟩
   rintro _ _ ⟨_, _, ⟨rfl, e9, lf2, he9, rfl⟩, rfl, rfl⟩
   refine Ops.app ?_
   refine Ops.nil ?_
   refine Ends.block_normal ?_
   refine Ends.seq ?_
   refine Wp.region ?_
   refine Ops.pv (pv_add rfl rfl (w64n (k := l.length + 1) (by omega) (by omega))) rfl ?_
   refine Om1 rfl rfl ?_
   refine Ops.nil ?_
   refine Ends.goes ?_
   refine Goes.back (hK (l.length + 1, lf2, l ++ [mkEl fsS e9], .slice (some ⟨eb, eo, none⟩) (l.length + 1) cap, [(eb, .cells (setAt cc (eo + l.length * 2) (cE fsS (mkEl fsS e9))).toArray 77)]) ⟨by dsimp only; omega, rdI_some hr he9, by have := (rdI_len (rdI_some hr he9)).2; rw [List.length_drop] at this; dsimp only; omega, by have := hset (mkEl fsS e9); rw [List.set_append_right _ _ (Nat.le_refl _), Nat.sub_self, List.set_cons_zero] at this; rw [List.length_append]; exact this⟩ (by dsimp only; omega)) ⟨rfl, rfl, rfl, rfl, rfl, trivial⟩
  refine Turn.ef rfl rfl (ef_pv (pv_loadK [_, _] rfl rfl rfl ⟨rfl, rfl, trivial⟩) rfl) ?_ ?_
  ·
   rintro _ _ ⟨rfl, rfl⟩; infer_instance
  rintro _ _ ⟨rfl, rfl⟩
  refine AnyH.two 3 7 (by kernel_rfl) ?_ ?_
  ·
   refine Turn.ef rfl rfl (ef_pv (pv_load rfl rfl (nth_set (nth_lt hv))) rfl) ?_ ?_
   ·
    rintro _ _ ⟨rfl, rfl⟩; infer_instance
   rintro _ _ ⟨rfl, rfl⟩
   refine AnyH.one 7 (by kernel_rfl) ?_
   refine Turn.ef rfl rfl (ef_buildSlice1 (k := 2) rfl rfl rfl rfl rfl) ?_ ?_
   ·
    rintro _ _ ⟨b7, rfl, rfl⟩; infer_instance
   rintro _ _ ⟨b7, rfl, rfl⟩
   refine AnyH.one 8 (by kernel_rfl) ?_
   refine Turn.ef rfl rfl (ef_append (H := Hs) (xs := [.int .i64 0, .int .i64 0]) rfl hs rfl ⟨rfl, rfl, trivial⟩ rfl rfl rfl (by omega) (by omega) rfl rfl) ?_ ?_
   ·
    rintro _ _ ⟨v3, H3, hs3, rfl, rfl⟩; infer_instance
   rintro _ _ ⟨v3, H3, hs3, rfl, rfl⟩
   refine AnyH.app ?_
   have hs2 : Slc 77 2 v3 (l.length + 1) (cel (cE fsS) (l ++ [zEl fsS])) H3 := by rw [cel_app, cel_one1]; exact hs3
   obtain ⟨eb, eo, cc, cap, rfl, rfl, hx, hset⟩ := slc_el (i := l.length) (a := zEl fsS) hs2 (by simp) (by decide)
   refine Tk 9 rfl rfl (pv_nilCheck rfl) rfl ?_
   refine AnyH.one 10 (by kernel_rfl) ?_
   refine Turn.ef rfl rfl (ef_store1 (hset := setL_set2 (nth_lt hv)) rfl rfl rfl rfl) ?_ ?_
   ·
    rintro _ _ ⟨rfl, rfl⟩; infer_instance
   rintro _ _ ⟨rfl, rfl⟩
   refine AnyH.done (by kernel_rfl) ?_
   refine Ends.seq ?_
   refine Wp.region ?_
   refine Om1 rfl rfl ?_
   refine Om1 rfl rfl ?_
   refine Ops.pv (pv_nilCheck rfl) rfl ?_
   refine Ops.pv (pv_load rfl rfl (nth_set (nth_lt hv))) rfl ?_
   refine Om1 rfl rfl ?_
   refine Ops.pv (pv_indexAddr (i := l.length) rfl rfl rfl (by omega)) rfl ?_
   refine Ops.efx rfl (efx_callf rfl rfl (tr_elR7 cp k adr bv lf (by omega) h1b h1a eb (eo + l.length * 2) cc 77 hx) rfl) ?_ ?_
   ·
    rintro _ _ ⟨_, ⟨rfl, hno, rfl⟩, rfl⟩
    exact ⟨[], ⟨rfl, by unfold rdL; rw [if_neg (by omega), if_neg (by omega)]; exact rdI_up (rdI_none hr hno) (by omega), rfl⟩, inferInstance⟩
   rintro _ _ ⟨_, _, ⟨rfl, e9, lf2, he9, rfl⟩, rfl, rfl⟩
   refine Ops.app ?_
   refine Ops.nil ?_
   refine Ends.block_normal ?_
   refine Ends.seq ?_
   refine Wp.region ?_
   refine Ops.pv (pv_add rfl rfl (w64n (k := l.length + 1) (by omega) (by omega))) rfl ?_
   refine Om1 rfl rfl ?_
   refine Ops.nil ?_
   refine Ends.goes ?_
   refine Goes.back (hK (l.length + 1, lf2, l ++ [mkEl fsS e9], .slice (some ⟨eb, eo, none⟩) (l.length + 1) cap, [(eb, .cells (setAt cc (eo + l.length * 2) (cE fsS (mkEl fsS e9))).toArray 77)]) ⟨by dsimp only; omega, rdI_some hr he9, by have := (rdI_len (rdI_some hr he9)).2; rw [List.length_drop] at this; dsimp only; omega, by have := hset (mkEl fsS e9); rw [List.set_append_right _ _ (Nat.le_refl _), Nat.sub_self, List.set_cons_zero] at this; rw [List.length_append]; exact this⟩ (by dsimp only; omega)) ⟨rfl, rfl, rfl, rfl, rfl, trivial⟩
  refine Turn.ef rfl rfl (ef_buildSlice1 (k := 2) rfl rfl rfl rfl rfl) ?_ ?_
  ·
   rintro _ _ ⟨b8, rfl, rfl⟩; infer_instance
  rintro _ _ ⟨b8, rfl, rfl⟩
  refine AnyH.one 3 (by kernel_rfl) ?_
  refine Turn.ef rfl rfl (ef_pv (pv_load rfl rfl (nth_set (nth_lt hv))) rfl) ?_ ?_
  ·
   rintro _ _ ⟨rfl, rfl⟩; infer_instance
  rintro _ _ ⟨rfl, rfl⟩
  refine AnyH.one 8 (by kernel_rfl) ?_
  refine Turn.ef rfl rfl (ef_append (H := Hs) (xs := [.int .i64 0, .int .i64 0]) rfl hs rfl ⟨rfl, rfl, trivial⟩ rfl rfl rfl (by omega) (by omega) rfl rfl) ?_ ?_
  ·
   rintro _ _ ⟨v4, H4, hs4, rfl, rfl⟩; infer_instance
  rintro _ _ ⟨v4, H4, hs4, rfl, rfl⟩
  refine AnyH.app ?_
  have hs2 : Slc 77 2 v4 (l.length + 1) (cel (cE fsS) (l ++ [zEl fsS])) H4 := by rw [cel_app, cel_one1]; exact hs4
  obtain ⟨eb, eo, cc, cap, rfl, rfl, hx, hset⟩ := slc_el (i := l.length) (a := zEl fsS) hs2 (by simp) (by decide)
  refine Tk 9 rfl rfl (pv_nilCheck rfl) rfl ?_
  refine AnyH.one 10 (by kernel_rfl) ?_
  refine Turn.ef rfl rfl (ef_store1 (hset := setL_set2 (nth_lt hv)) rfl rfl rfl rfl) ?_ ?_
  ·
   rintro _ _ ⟨rfl, rfl⟩; infer_instance
  rintro _ _ ⟨rfl, rfl⟩
  refine AnyH.done (by kernel_rfl) ?_
  refine Ends.seq ?_
  refine Wp.region ?_
  refine Om1 rfl rfl ?_
  refine Om1 rfl rfl ?_
  refine Ops.pv (pv_nilCheck rfl) rfl ?_
  refine Ops.pv (pv_load rfl rfl (nth_set (nth_lt hv))) rfl ?_
  refine Om1 rfl rfl ?_
  refine Ops.pv (pv_indexAddr (i := l.length) rfl rfl rfl (by omega)) rfl ?_
  refine Ops.efx rfl (efx_callf rfl rfl (tr_elR7 cp k adr bv lf (by omega) h1b h1a eb (eo + l.length * 2) cc 77 hx) rfl) ?_ ?_
  ·
   rintro _ _ ⟨_, ⟨rfl, hno, rfl⟩, rfl⟩
   exact ⟨[], ⟨rfl, by unfold rdL; rw [if_neg (by omega), if_neg (by omega)]; exact rdI_up (rdI_none hr hno) (by omega), rfl⟩, inferInstance⟩
  rintro _ _ ⟨_, _, ⟨rfl, e9, lf2, he9, rfl⟩, rfl, rfl⟩
  refine Ops.app ?_
  refine Ops.nil ?_
  refine Ends.block_normal ?_
  refine Ends.seq ?_
  refine Wp.region ?_
  refine Ops.pv (pv_add rfl rfl (w64n (k := l.length + 1) (by omega) (by omega))) rfl ?_
  refine Om1 rfl rfl ?_
  refine Ops.nil ?_
  refine Ends.goes ?_
  refine Goes.back (hK (l.length + 1, lf2, l ++ [mkEl fsS e9], .slice (some ⟨eb, eo, none⟩) (l.length + 1) cap, [(eb, .cells (setAt cc (eo + l.length * 2) (cE fsS (mkEl fsS e9))).toArray 77)]) ⟨by dsimp only; omega, rdI_some hr he9, by have := (rdI_len (rdI_some hr he9)).2; rw [List.length_drop] at this; dsimp only; omega, by have := hset (mkEl fsS e9); rw [List.set_append_right _ _ (Nat.le_refl _), Nat.sub_self, List.set_cons_zero] at this; rw [List.length_append]; exact this⟩ (by dsimp only; omega)) ⟨rfl, rfl, rfl, rfl, rfl, trivial⟩
 obtain rfl : i = leV (left.take 2) := by omega
 refine Wp.exit ?_
 refine Ends.then_exit ?_
 refine Ends.then_exit ?_
 refine Ends.block_hit ?_
 have hL : rdL fsS 16 left = some (l, lf) := by unfold rdL; rw [if_neg (by omega), if_neg (by omega)]; exact hr
 exact Ends.finE (L' := (cp, .cells [kP k].toArray 78) :: ((k, .cells [.bool true, adr, bv, sV lf].toArray 84) :: ((d, .cells (dc.set o vs).toArray Td) :: Hs))) (res0 rfl) ⟨rfl, l, lf, vs, Hs, hL, hs, rfl⟩
end Go.Proofs.Ytkldjadpoknejaa
end
section
set_option linter.unusedVariables false
set_option linter.unusedSimpArgs false
set_option linter.unusedSectionVars false
namespace Go.Proofs.Ytkldjadpoknejaa
open Go.SL
structure Dd where
  o : List (El fsO)
  p : List (El fsP)
  m : List (El fsM)
  f : List (El fsF)
  t : List (El fsT)
  w : List (El fsW)
  s : List (El fsS)
def okD (D : Dd) : Prop := okL fsO 64 D.o ∧ okL fsP 256 D.p ∧ okL fsM 64 D.m ∧ okL fsF 512 D.f ∧ okL fsT 64 D.t ∧ okL fsW 8 D.w ∧ okL fsS 16 D.s
def encD (D : Dd) : List UInt8 := encL fsO D.o ++ encL fsP D.p ++ encL fsM D.m ++ encL fsF D.f ++ encL fsT D.t ++ encL fsW D.w ++ encL fsS D.s
noncomputable def rdD (s : List UInt8) : Option (Dd × List UInt8) :=
  match rdL fsO 64 s with
  | none => none
  | some (o, s) => match rdL fsP 256 s with
    | none => none
    | some (p, s) => match rdL fsM 64 s with
      | none => none
      | some (m, s) => match rdL fsF 512 s with
        | none => none
        | some (f, s) => match rdL fsT 64 s with
          | none => none
          | some (t, s) => match rdL fsW 8 s with
            | none => none
            | some (w, s) => match rdL fsS 16 s with
              | none => none
              | some (u, s) => some (⟨o, p, m, f, t, w, u⟩, s)
structure DS (to tp tm tf tt tw ts : TypeId) (D : Dd) (v1 v2 v3 v4 v5 v6 v7 : Value) (H1 H2 H3 H4 H5 H6 H7 : Hp) : Prop where
  o : Slc to 3 v1 D.o.length (cel (cE fsO) D.o) H1
  p : Slc tp 8 v2 D.p.length (cel (cE fsP) D.p) H2
  m : Slc tm 4 v3 D.m.length (cel (cE fsM) D.m) H3
  f : Slc tf 3 v4 D.f.length (cel (cE fsF) D.f) H4
  t : Slc tt 8 v5 D.t.length (cel (cE fsT) D.t) H5
  w : Slc tw 4 v6 D.w.length (cel (cE fsW) D.w) H6
  s : Slc ts 2 v7 D.s.length (cel (cE fsS) D.s) H7
theorem rdL_len {fs : List Fld} {m : Nat} {s r : List UInt8} {l : List (El fs)} (h : rdL fs m s = some (l, r)) : l.length ≤ m ∧ r.length ≤ s.length := by
 unfold rdL at h
 split at h
 ·
  cases h
 ·
  split at h
  ·
   cases h
  ·
   have := rdI_len h
   rw [List.length_drop] at this
   omega
theorem encL_le {fs : List Fld} {m : Nat} {l : List (El fs)} (h : okL fs m l) (hw : widE fs ≤ 20) : (encL fs l).length ≤ 2 + m * 20 := by
 rw [encL_len]
 have := Nat.mul_le_mul h.1 hw
 omega
end Go.Proofs.Ytkldjadpoknejaa
end
section
set_option linter.unusedVariables false
set_option linter.unusedSimpArgs false
set_option linter.unusedSectionVars false
namespace Go.Proofs.Ytkldjadpoknejaa
open Go.SL
abbrev DSB (D : Dd) (v1 v2 v3 v4 v5 v6 v7 : Value) (H1 H2 H3 H4 H5 H6 H7 : Hp) : Prop := DS 54 62 65 68 71 74 77 D v1 v2 v3 v4 v5 v6 v7 H1 H2 H3 H4 H5 H6 H7
set_option maxHeartbeats 8000000 in
theorem tr_allW (k : Nat) (left : List UInt8) (bs : List UInt8) (pa : Option Addr) (ca : Nat) (Kb : Hp) (hb : Slc 5 1 (.slice pa bs.length ca) bs.length (bC bs) Kb) (hl : bs.length ≤ 2 ^ 36) (d : Nat) (D : Dd) (v1 v2 v3 v4 v5 v6 v7 : Value) (H1 H2 H3 H4 H5 H6 H7 : Hp) (hs : DSB D v1 v2 v3 v4 v5 v6 v7 H1 H2 H3 H4 H5 H6 H7) : TrE Try.prog 30 [kP k, .pointer (some ⟨d, 0, none⟩)] ((k, .cells [.bool false, .pointer (some ⟨k, 1, none⟩), .slice pa bs.length ca, sV left].toArray 84) :: (Kb ++ ((d, .cells [v1, v2, v3, v4, v5, v6, v7].toArray 40) :: (H1 ++ (H2 ++ (H3 ++ (H4 ++ (H5 ++ (H6 ++ H7))))))))) (fun u L' => u = .tuple #[] ∧ okD D ∧ ∃ pa' ca' Kb', Slc 5 1 (.slice pa' (bs ++ encD D).length ca') (bs ++ encD D).length (bC (bs ++ encD D)) Kb' ∧ L' = (k, .cells [.bool false, .pointer (some ⟨k, 1, none⟩), .slice pa' (bs ++ encD D).length ca', sV left].toArray 84) :: (Kb' ++ ((d, .cells [v1, v2, v3, v4, v5, v6, v7].toArray 40) :: (H1 ++ (H2 ++ (H3 ++ (H4 ++ (H5 ++ (H6 ++ H7))))))))) (fun c L' => c = badC ∧ ¬ okD D ∧ L' = []) := by
 refine TrE.enter Try.func30 rfl Try.ntmps30 rfl (fun W F => ?_)
 refine Wp.app ?_
 refine Wr ?_
 refine Ops.ef rfl (ef_box1 rfl rfl rfl) ?_
 rintro _ _ ⟨b1, rfl, rfl⟩
 refine On ?_
 refine Wp.seq ?_
 refine AnyH.start ([(b1, .cells [kP k].toArray 78)] : Hp) 6 rfl ?_
 refine Tk 0 rfl rfl (pv_load rfl rfl rfl) rfl ?_
 refine Tk 1 rfl rfl (pv_move rfl) rfl ?_
 refine Tk 2 rfl rfl (pv_nilCheck rfl) rfl ?_
 refine Tk 3 rfl rfl (pv_fieldAddr0 rfl rfl) rfl ?_
 refine Tk 4 rfl rfl (pv_makeFunc rfl rfl) rfl ?_
 refine AnyH.one 5 (by kernel_rfl) ?_
 refine Turn.efx rfl rfl (efx_call (tr_listW1 b1 k left bs pa ca Kb hb (by (try simp only [List.length_append]); omega) d 0 [v1, v2, v3, v4, v5, v6, v7] 40 v1 rfl D.o H1 hs.o) rfl rfl) ?_ ?_ ?_
 ·
  rintro _ _ ⟨_, ⟨rfl, hno, rfl⟩, rfl⟩
  exact ⟨[], ⟨rfl, fun ho => hno ho.1, rfl⟩, inferInstance⟩
 ·
  rintro _ _ ⟨_, _, ⟨rfl, hok1, pa1, ca1, Kb1, hs1, rfl⟩, rfl, rfl⟩; infer_instance
 rintro _ _ ⟨_, _, ⟨rfl, hok1, pa1, ca1, Kb1, hs1, rfl⟩, rfl, rfl⟩
 refine AnyH.app ?_
 have hw1 := encL_le hok1 (by decide)
 refine AnyH.done (by kernel_rfl) ?_
 refine Ends.seq ?_
 refine Wp.seq ?_
 refine AnyH.start ([(b1, .cells [kP k].toArray 78)] : Hp) 6 rfl ?_
 refine Tk 0 rfl rfl (pv_load rfl rfl rfl) rfl ?_
 refine Tk 1 rfl rfl (pv_move rfl) rfl ?_
 refine Tk 2 rfl rfl (pv_nilCheck rfl) rfl ?_
 refine Tk 3 rfl rfl (pv_fieldAddr0 rfl rfl) rfl ?_
 refine Tk 4 rfl rfl (pv_makeFunc rfl rfl) rfl ?_
 refine AnyH.one 5 (by kernel_rfl) ?_
 refine Turn.efx rfl rfl (efx_call (tr_listW2 b1 k left (bs ++ encL fsO D.o) pa1 ca1 Kb1 hs1 (by (try simp only [List.length_append]); omega) d 1 [v1, v2, v3, v4, v5, v6, v7] 40 v2 rfl D.p H2 hs.p) rfl rfl) ?_ ?_ ?_
 ·
  rintro _ _ ⟨_, ⟨rfl, hno, rfl⟩, rfl⟩
  exact ⟨[], ⟨rfl, fun ho => hno ho.2.1, rfl⟩, inferInstance⟩
 ·
  rintro _ _ ⟨_, _, ⟨rfl, hok2, pa2, ca2, Kb2, hs2, rfl⟩, rfl, rfl⟩; infer_instance
 rintro _ _ ⟨_, _, ⟨rfl, hok2, pa2, ca2, Kb2, hs2, rfl⟩, rfl, rfl⟩
 refine AnyH.app ?_
 have hw2 := encL_le hok2 (by decide)
 refine AnyH.done (by kernel_rfl) ?_
 refine Ends.seq ?_
 refine Wp.seq ?_
 refine AnyH.start ([(b1, .cells [kP k].toArray 78)] : Hp) 6 rfl ?_
 refine Tk 0 rfl rfl (pv_load rfl rfl rfl) rfl ?_
 refine Tk 1 rfl rfl (pv_move rfl) rfl ?_
 refine Tk 2 rfl rfl (pv_nilCheck rfl) rfl ?_
 refine Tk 3 rfl rfl (pv_fieldAddr0 rfl rfl) rfl ?_
 refine Tk 4 rfl rfl (pv_makeFunc rfl rfl) rfl ?_
 refine AnyH.one 5 (by kernel_rfl) ?_
 refine Turn.efx rfl rfl (efx_call (tr_listW3 b1 k left ((bs ++ encL fsO D.o) ++ encL fsP D.p) pa2 ca2 Kb2 hs2 (by (try simp only [List.length_append]); omega) d 2 [v1, v2, v3, v4, v5, v6, v7] 40 v3 rfl D.m H3 hs.m) rfl rfl) ?_ ?_ ?_
 ·
  rintro _ _ ⟨_, ⟨rfl, hno, rfl⟩, rfl⟩
  exact ⟨[], ⟨rfl, fun ho => hno ho.2.2.1, rfl⟩, inferInstance⟩
 ·
  rintro _ _ ⟨_, _, ⟨rfl, hok3, pa3, ca3, Kb3, hs3, rfl⟩, rfl, rfl⟩; infer_instance
 rintro _ _ ⟨_, _, ⟨rfl, hok3, pa3, ca3, Kb3, hs3, rfl⟩, rfl, rfl⟩
 refine AnyH.app ?_
 have hw3 := encL_le hok3 (by decide)
 refine AnyH.done (by kernel_rfl) ?_
 refine Ends.seq ?_
 refine Wp.seq ?_
 refine AnyH.start ([(b1, .cells [kP k].toArray 78)] : Hp) 6 rfl ?_
 refine Tk 0 rfl rfl (pv_load rfl rfl rfl) rfl ?_
 refine Tk 1 rfl rfl (pv_move rfl) rfl ?_
 refine Tk 2 rfl rfl (pv_nilCheck rfl) rfl ?_
 refine Tk 3 rfl rfl (pv_fieldAddr0 rfl rfl) rfl ?_
 refine Tk 4 rfl rfl (pv_makeFunc rfl rfl) rfl ?_
 refine AnyH.one 5 (by kernel_rfl) ?_
 refine Turn.efx rfl rfl (efx_call (tr_listW4 b1 k left (((bs ++ encL fsO D.o) ++ encL fsP D.p) ++ encL fsM D.m) pa3 ca3 Kb3 hs3 (by (try simp only [List.length_append]); omega) d 3 [v1, v2, v3, v4, v5, v6, v7] 40 v4 rfl D.f H4 hs.f) rfl rfl) ?_ ?_ ?_
 ·
  rintro _ _ ⟨_, ⟨rfl, hno, rfl⟩, rfl⟩
  exact ⟨[], ⟨rfl, fun ho => hno ho.2.2.2.1, rfl⟩, inferInstance⟩
 ·
  rintro _ _ ⟨_, _, ⟨rfl, hok4, pa4, ca4, Kb4, hs4, rfl⟩, rfl, rfl⟩; infer_instance
 rintro _ _ ⟨_, _, ⟨rfl, hok4, pa4, ca4, Kb4, hs4, rfl⟩, rfl, rfl⟩
 refine AnyH.app ?_
 have hw4 := encL_le hok4 (by decide)
 refine AnyH.done (by kernel_rfl) ?_
 refine Ends.seq ?_
 refine Wp.seq ?_
 refine AnyH.start ([(b1, .cells [kP k].toArray 78)] : Hp) 6 rfl ?_
 refine Tk 0 rfl rfl (pv_load rfl rfl rfl) rfl ?_
 refine Tk 1 rfl rfl (pv_move rfl) rfl ?_
 refine Tk 2 rfl rfl (pv_nilCheck rfl) rfl ?_
 refine Tk 3 rfl rfl (pv_fieldAddr0 rfl rfl) rfl ?_
 refine Tk 4 rfl rfl (pv_makeFunc rfl rfl) rfl ?_
 refine AnyH.one 5 (by kernel_rfl) ?_
 refine Turn.efx rfl rfl (efx_call (tr_listW5 b1 k left ((((bs ++ encL fsO D.o) ++ encL fsP D.p) ++ encL fsM D.m) ++ encL fsF D.f) pa4 ca4 Kb4 hs4 (by (try simp only [List.length_append]); omega) d 4 [v1, v2, v3, v4, v5, v6, v7] 40 v5 rfl D.t H5 hs.t) rfl rfl) ?_ ?_ ?_
 ·
  rintro _ _ ⟨_, ⟨rfl, hno, rfl⟩, rfl⟩
  exact ⟨[], ⟨rfl, fun ho => hno ho.2.2.2.2.1, rfl⟩, inferInstance⟩
 ·
  rintro _ _ ⟨_, _, ⟨rfl, hok5, pa5, ca5, Kb5, hs5, rfl⟩, rfl, rfl⟩; infer_instance
 rintro _ _ ⟨_, _, ⟨rfl, hok5, pa5, ca5, Kb5, hs5, rfl⟩, rfl, rfl⟩
 refine AnyH.app ?_
 have hw5 := encL_le hok5 (by decide)
 refine AnyH.done (by kernel_rfl) ?_
 refine Ends.seq ?_
 refine Wp.seq ?_
 refine AnyH.start ([(b1, .cells [kP k].toArray 78)] : Hp) 6 rfl ?_
 refine Tk 0 rfl rfl (pv_load rfl rfl rfl) rfl ?_
 refine Tk 1 rfl rfl (pv_move rfl) rfl ?_
 refine Tk 2 rfl rfl (pv_nilCheck rfl) rfl ?_
 refine Tk 3 rfl rfl (pv_fieldAddr0 rfl rfl) rfl ?_
 refine Tk 4 rfl rfl (pv_makeFunc rfl rfl) rfl ?_
 refine AnyH.one 5 (by kernel_rfl) ?_
 refine Turn.efx rfl rfl (efx_call (tr_listW6 b1 k left (((((bs ++ encL fsO D.o) ++ encL fsP D.p) ++ encL fsM D.m) ++ encL fsF D.f) ++ encL fsT D.t) pa5 ca5 Kb5 hs5 (by (try simp only [List.length_append]); omega) d 5 [v1, v2, v3, v4, v5, v6, v7] 40 v6 rfl D.w H6 hs.w) rfl rfl) ?_ ?_ ?_
 ·
  rintro _ _ ⟨_, ⟨rfl, hno, rfl⟩, rfl⟩
  exact ⟨[], ⟨rfl, fun ho => hno ho.2.2.2.2.2.1, rfl⟩, inferInstance⟩
 ·
  rintro _ _ ⟨_, _, ⟨rfl, hok6, pa6, ca6, Kb6, hs6, rfl⟩, rfl, rfl⟩; infer_instance
 rintro _ _ ⟨_, _, ⟨rfl, hok6, pa6, ca6, Kb6, hs6, rfl⟩, rfl, rfl⟩
 refine AnyH.app ?_
 have hw6 := encL_le hok6 (by decide)
 refine AnyH.done (by kernel_rfl) ?_
 refine Ends.seq ?_
 refine AnyH.start ([(b1, .cells [kP k].toArray 78)] : Hp) 6 rfl ?_
 refine Tk 0 rfl rfl (pv_load rfl rfl rfl) rfl ?_
 refine Tk 1 rfl rfl (pv_move rfl) rfl ?_
 refine Tk 2 rfl rfl (pv_nilCheck rfl) rfl ?_
 refine Tk 3 rfl rfl (pv_fieldAddr0 rfl rfl) rfl ?_
 refine Tk 4 rfl rfl (pv_makeFunc rfl rfl) rfl ?_
 refine AnyH.one 5 (by kernel_rfl) ?_
 refine Turn.efx rfl rfl (efx_call (tr_listW7 b1 k left ((((((bs ++ encL fsO D.o) ++ encL fsP D.p) ++ encL fsM D.m) ++ encL fsF D.f) ++ encL fsT D.t) ++ encL fsW D.w) pa6 ca6 Kb6 hs6 (by (try simp only [List.length_append]); omega) d 6 [v1, v2, v3, v4, v5, v6, v7] 40 v7 rfl D.s H7 hs.s) rfl rfl) ?_ ?_ ?_
 ·
  rintro _ _ ⟨_, ⟨rfl, hno, rfl⟩, rfl⟩
  exact ⟨[], ⟨rfl, fun ho => hno ho.2.2.2.2.2.2, rfl⟩, inferInstance⟩
 ·
  rintro _ _ ⟨_, _, ⟨rfl, hok7, pa7, ca7, Kb7, hs7, rfl⟩, rfl, rfl⟩; infer_instance
 rintro _ _ ⟨_, _, ⟨rfl, hok7, pa7, ca7, Kb7, hs7, rfl⟩, rfl, rfl⟩
 refine AnyH.app ?_
 have hw7 := encL_le hok7 (by decide)
 refine AnyH.done (by kernel_rfl) ?_
 have hbe : bs ++ encD D = ((((((bs ++ encL fsO D.o) ++ encL fsP D.p) ++ encL fsM D.m) ++ encL fsF D.f) ++ encL fsT D.t) ++ encL fsW D.w) ++ encL fsS D.s := by simp only [encD, List.append_assoc]
 rw [hbe]
 exact Ends.finE (L' := (k, .cells [.bool false, .pointer (some ⟨k, 1, none⟩), .slice pa7 (((((((bs ++ encL fsO D.o) ++ encL fsP D.p) ++ encL fsM D.m) ++ encL fsF D.f) ++ encL fsT D.t) ++ encL fsW D.w) ++ encL fsS D.s).length ca7, sV left].toArray 84) :: (Kb7 ++ ((d, .cells [v1, v2, v3, v4, v5, v6, v7].toArray 40) :: (H1 ++ (H2 ++ (H3 ++ (H4 ++ (H5 ++ (H6 ++ H7))))))))) (res0 rfl) ⟨rfl, ⟨hok1, hok2, hok3, hok4, hok5, hok6, hok7⟩, pa7, ca7, Kb7, hs7, rfl⟩
set_option maxHeartbeats 8000000 in
theorem tr_allR (k : Nat) (adr bv : Value) (left : List UInt8) (hl : left.length ≤ 2 ^ 40) (h1b : bv.oneCell' = true) (h1a : adr.oneCell' = true) (d : Nat) : TrE Try.prog 30 [kP k, .pointer (some ⟨d, 0, none⟩)] ((k, .cells [.bool true, adr, bv, sV left].toArray 84) :: [(d, .cells [.slice none 0 0, .slice none 0 0, .slice none 0 0, .slice none 0 0, .slice none 0 0, .slice none 0 0, .slice none 0 0].toArray 40)]) (fun u L' => u = .tuple #[] ∧ ∃ (D : Dd) (left' : List UInt8) (v1 v2 v3 v4 v5 v6 v7 : Value) (H1 H2 H3 H4 H5 H6 H7 : Hp), rdD left = some (D, left') ∧ DSB D v1 v2 v3 v4 v5 v6 v7 H1 H2 H3 H4 H5 H6 H7 ∧ L' = (k, .cells [.bool true, adr, bv, sV left'].toArray 84) :: ((d, .cells [v1, v2, v3, v4, v5, v6, v7].toArray 40) :: (H1 ++ (H2 ++ (H3 ++ (H4 ++ (H5 ++ (H6 ++ H7)))))))) (fun c L' => c = badC ∧ rdD left = none ∧ L' = []) := by
 refine TrE.enter Try.func30 rfl Try.ntmps30 rfl (fun W F => ?_)
 refine Wp.app ?_
 refine Wr ?_
 refine Ops.ef rfl (ef_box1 rfl rfl rfl) ?_
 rintro _ _ ⟨b1, rfl, rfl⟩
 refine On ?_
 refine Wp.seq ?_
 refine AnyH.start ([(b1, .cells [kP k].toArray 78)] : Hp) 6 rfl ?_
 refine Tk 0 rfl rfl (pv_load rfl rfl rfl) rfl ?_
 refine Tk 1 rfl rfl (pv_move rfl) rfl ?_
 refine Tk 2 rfl rfl (pv_nilCheck rfl) rfl ?_
 refine Tk 3 rfl rfl (pv_fieldAddr0 rfl rfl) rfl ?_
 refine Tk 4 rfl rfl (pv_makeFunc rfl rfl) rfl ?_
 refine AnyH.one 5 (by kernel_rfl) ?_
 refine Turn.efx rfl rfl (efx_call (tr_listR1 b1 k adr bv left (by omega) h1b h1a d 0 [.slice none 0 0, .slice none 0 0, .slice none 0 0, .slice none 0 0, .slice none 0 0, .slice none 0 0, .slice none 0 0] 40 rfl) rfl rfl) ?_ ?_ ?_
 ·
  rintro _ _ ⟨_, ⟨rfl, hno, rfl⟩, rfl⟩
  exact ⟨[], ⟨rfl, (by unfold rdD; rw [hno]), rfl⟩, inferInstance⟩
 ·
  rintro _ _ ⟨_, _, ⟨rfl, L1, l1, v1, H1, hr1, hs1, rfl⟩, rfl, rfl⟩; infer_instance
 rintro _ _ ⟨_, _, ⟨rfl, L1, l1, v1, H1, hr1, hs1, rfl⟩, rfl, rfl⟩
 refine AnyH.app ?_
 have hl1 := (rdL_len hr1).2
 rw [show List.set [.slice none 0 0, .slice none 0 0, .slice none 0 0, .slice none 0 0, .slice none 0 0, .slice none 0 0, .slice none 0 0] 0 v1 = [v1, .slice none 0 0, .slice none 0 0, .slice none 0 0, .slice none 0 0, .slice none 0 0, .slice none 0 0] from rfl]
 refine AnyH.done (by kernel_rfl) ?_
 refine Ends.seq ?_
 refine Wp.seq ?_
 refine AnyH.start ([(b1, .cells [kP k].toArray 78)] : Hp) 6 rfl ?_
 refine Tk 0 rfl rfl (pv_load rfl rfl rfl) rfl ?_
 refine Tk 1 rfl rfl (pv_move rfl) rfl ?_
 refine Tk 2 rfl rfl (pv_nilCheck rfl) rfl ?_
 refine Tk 3 rfl rfl (pv_fieldAddr0 rfl rfl) rfl ?_
 refine Tk 4 rfl rfl (pv_makeFunc rfl rfl) rfl ?_
 refine AnyH.one 5 (by kernel_rfl) ?_
 refine Turn.efx rfl rfl (efx_call (tr_listR2 b1 k adr bv l1 (by omega) h1b h1a d 1 [v1, .slice none 0 0, .slice none 0 0, .slice none 0 0, .slice none 0 0, .slice none 0 0, .slice none 0 0] 40 rfl) rfl rfl) ?_ ?_ ?_
 ·
  rintro _ _ ⟨_, ⟨rfl, hno, rfl⟩, rfl⟩
  exact ⟨[], ⟨rfl, (by unfold rdD; rw [hr1]; dsimp only; rw [hno]), rfl⟩, inferInstance⟩
 ·
  rintro _ _ ⟨_, _, ⟨rfl, L2, l2, v2, H2, hr2, hs2, rfl⟩, rfl, rfl⟩; infer_instance
 rintro _ _ ⟨_, _, ⟨rfl, L2, l2, v2, H2, hr2, hs2, rfl⟩, rfl, rfl⟩
 refine AnyH.app ?_
 have hl2 := (rdL_len hr2).2
 rw [show List.set [v1, .slice none 0 0, .slice none 0 0, .slice none 0 0, .slice none 0 0, .slice none 0 0, .slice none 0 0] 1 v2 = [v1, v2, .slice none 0 0, .slice none 0 0, .slice none 0 0, .slice none 0 0, .slice none 0 0] from rfl]
 refine AnyH.done (by kernel_rfl) ?_
 refine Ends.seq ?_
 refine Wp.seq ?_
 refine AnyH.start ([(b1, .cells [kP k].toArray 78)] : Hp) 6 rfl ?_
 refine Tk 0 rfl rfl (pv_load rfl rfl rfl) rfl ?_
 refine Tk 1 rfl rfl (pv_move rfl) rfl ?_
 refine Tk 2 rfl rfl (pv_nilCheck rfl) rfl ?_
 refine Tk 3 rfl rfl (pv_fieldAddr0 rfl rfl) rfl ?_
 refine Tk 4 rfl rfl (pv_makeFunc rfl rfl) rfl ?_
 refine AnyH.one 5 (by kernel_rfl) ?_
 refine Turn.efx rfl rfl (efx_call (tr_listR3 b1 k adr bv l2 (by omega) h1b h1a d 2 [v1, v2, .slice none 0 0, .slice none 0 0, .slice none 0 0, .slice none 0 0, .slice none 0 0] 40 rfl) rfl rfl) ?_ ?_ ?_
 ·
  rintro _ _ ⟨_, ⟨rfl, hno, rfl⟩, rfl⟩
  exact ⟨[], ⟨rfl, (by unfold rdD; rw [hr1]; dsimp only; rw [hr2]; dsimp only; rw [hno]), rfl⟩, inferInstance⟩
 ·
  rintro _ _ ⟨_, _, ⟨rfl, L3, l3, v3, H3, hr3, hs3, rfl⟩, rfl, rfl⟩; infer_instance
 rintro _ _ ⟨_, _, ⟨rfl, L3, l3, v3, H3, hr3, hs3, rfl⟩, rfl, rfl⟩
 refine AnyH.app ?_
 have hl3 := (rdL_len hr3).2
 rw [show List.set [v1, v2, .slice none 0 0, .slice none 0 0, .slice none 0 0, .slice none 0 0, .slice none 0 0] 2 v3 = [v1, v2, v3, .slice none 0 0, .slice none 0 0, .slice none 0 0, .slice none 0 0] from rfl]
 refine AnyH.done (by kernel_rfl) ?_
 refine Ends.seq ?_
 refine Wp.seq ?_
 refine AnyH.start ([(b1, .cells [kP k].toArray 78)] : Hp) 6 rfl ?_
 refine Tk 0 rfl rfl (pv_load rfl rfl rfl) rfl ?_
 refine Tk 1 rfl rfl (pv_move rfl) rfl ?_
 refine Tk 2 rfl rfl (pv_nilCheck rfl) rfl ?_
 refine Tk 3 rfl rfl (pv_fieldAddr0 rfl rfl) rfl ?_
 refine Tk 4 rfl rfl (pv_makeFunc rfl rfl) rfl ?_
 refine AnyH.one 5 (by kernel_rfl) ?_
 refine Turn.efx rfl rfl (efx_call (tr_listR4 b1 k adr bv l3 (by omega) h1b h1a d 3 [v1, v2, v3, .slice none 0 0, .slice none 0 0, .slice none 0 0, .slice none 0 0] 40 rfl) rfl rfl) ?_ ?_ ?_
 ·
  rintro _ _ ⟨_, ⟨rfl, hno, rfl⟩, rfl⟩
  exact ⟨[], ⟨rfl, (by unfold rdD; rw [hr1]; dsimp only; rw [hr2]; dsimp only; rw [hr3]; dsimp only; rw [hno]), rfl⟩, inferInstance⟩
 ·
  rintro _ _ ⟨_, _, ⟨rfl, L4, l4, v4, H4, hr4, hs4, rfl⟩, rfl, rfl⟩; infer_instance
 rintro _ _ ⟨_, _, ⟨rfl, L4, l4, v4, H4, hr4, hs4, rfl⟩, rfl, rfl⟩
 refine AnyH.app ?_
 have hl4 := (rdL_len hr4).2
 rw [show List.set [v1, v2, v3, .slice none 0 0, .slice none 0 0, .slice none 0 0, .slice none 0 0] 3 v4 = [v1, v2, v3, v4, .slice none 0 0, .slice none 0 0, .slice none 0 0] from rfl]
 refine AnyH.done (by kernel_rfl) ?_
 refine Ends.seq ?_
 refine Wp.seq ?_
 refine AnyH.start ([(b1, .cells [kP k].toArray 78)] : Hp) 6 rfl ?_
 refine Tk 0 rfl rfl (pv_load rfl rfl rfl) rfl ?_
 refine Tk 1 rfl rfl (pv_move rfl) rfl ?_
 refine Tk 2 rfl rfl (pv_nilCheck rfl) rfl ?_
 refine Tk 3 rfl rfl (pv_fieldAddr0 rfl rfl) rfl ?_
 refine Tk 4 rfl rfl (pv_makeFunc rfl rfl) rfl ?_
 refine AnyH.one 5 (by kernel_rfl) ?_
 refine Turn.efx rfl rfl (efx_call (tr_listR5 b1 k adr bv l4 (by omega) h1b h1a d 4 [v1, v2, v3, v4, .slice none 0 0, .slice none 0 0, .slice none 0 0] 40 rfl) rfl rfl) ?_ ?_ ?_
 ·
  rintro _ _ ⟨_, ⟨rfl, hno, rfl⟩, rfl⟩
  exact ⟨[], ⟨rfl, (by unfold rdD; rw [hr1]; dsimp only; rw [hr2]; dsimp only; rw [hr3]; dsimp only; rw [hr4]; dsimp only; rw [hno]), rfl⟩, inferInstance⟩
 ·
  rintro _ _ ⟨_, _, ⟨rfl, L5, l5, v5, H5, hr5, hs5, rfl⟩, rfl, rfl⟩; infer_instance
 rintro _ _ ⟨_, _, ⟨rfl, L5, l5, v5, H5, hr5, hs5, rfl⟩, rfl, rfl⟩
 refine AnyH.app ?_
 have hl5 := (rdL_len hr5).2
 rw [show List.set [v1, v2, v3, v4, .slice none 0 0, .slice none 0 0, .slice none 0 0] 4 v5 = [v1, v2, v3, v4, v5, .slice none 0 0, .slice none 0 0] from rfl]
 refine AnyH.done (by kernel_rfl) ?_
 refine Ends.seq ?_
 refine Wp.seq ?_
 refine AnyH.start ([(b1, .cells [kP k].toArray 78)] : Hp) 6 rfl ?_
 refine Tk 0 rfl rfl (pv_load rfl rfl rfl) rfl ?_
 refine Tk 1 rfl rfl (pv_move rfl) rfl ?_
 refine Tk 2 rfl rfl (pv_nilCheck rfl) rfl ?_
 refine Tk 3 rfl rfl (pv_fieldAddr0 rfl rfl) rfl ?_
 refine Tk 4 rfl rfl (pv_makeFunc rfl rfl) rfl ?_
 refine AnyH.one 5 (by kernel_rfl) ?_
 refine Turn.efx rfl rfl (efx_call (tr_listR6 b1 k adr bv l5 (by omega) h1b h1a d 5 [v1, v2, v3, v4, v5, .slice none 0 0, .slice none 0 0] 40 rfl) rfl rfl) ?_ ?_ ?_
 ·
  rintro _ _ ⟨_, ⟨rfl, hno, rfl⟩, rfl⟩
  exact ⟨[], ⟨rfl, (by unfold rdD; rw [hr1]; dsimp only; rw [hr2]; dsimp only; rw [hr3]; dsimp only; rw [hr4]; dsimp only; rw [hr5]; dsimp only; rw [hno]), rfl⟩, inferInstance⟩
 ·
  rintro _ _ ⟨_, _, ⟨rfl, L6, l6, v6, H6, hr6, hs6, rfl⟩, rfl, rfl⟩; infer_instance
 rintro _ _ ⟨_, _, ⟨rfl, L6, l6, v6, H6, hr6, hs6, rfl⟩, rfl, rfl⟩
 refine AnyH.app ?_
 have hl6 := (rdL_len hr6).2
 rw [show List.set [v1, v2, v3, v4, v5, .slice none 0 0, .slice none 0 0] 5 v6 = [v1, v2, v3, v4, v5, v6, .slice none 0 0] from rfl]
 refine AnyH.done (by kernel_rfl) ?_
 refine Ends.seq ?_
 refine AnyH.start ([(b1, .cells [kP k].toArray 78)] : Hp) 6 rfl ?_
 refine Tk 0 rfl rfl (pv_load rfl rfl rfl) rfl ?_
 refine Tk 1 rfl rfl (pv_move rfl) rfl ?_
 refine Tk 2 rfl rfl (pv_nilCheck rfl) rfl ?_
 refine Tk 3 rfl rfl (pv_fieldAddr0 rfl rfl) rfl ?_
 refine Tk 4 rfl rfl (pv_makeFunc rfl rfl) rfl ?_
 refine AnyH.one 5 (by kernel_rfl) ?_
 refine Turn.efx rfl rfl (efx_call (tr_listR7 b1 k adr bv l6 (by omega) h1b h1a d 6 [v1, v2, v3, v4, v5, v6, .slice none 0 0] 40 rfl) rfl rfl) ?_ ?_ ?_
 ·
  rintro _ _ ⟨_, ⟨rfl, hno, rfl⟩, rfl⟩
  exact ⟨[], ⟨rfl, (by unfold rdD; rw [hr1]; dsimp only; rw [hr2]; dsimp only; rw [hr3]; dsimp only; rw [hr4]; dsimp only; rw [hr5]; dsimp only; rw [hr6]; dsimp only; rw [hno]), rfl⟩, inferInstance⟩
 ·
  rintro _ _ ⟨_, _, ⟨rfl, L7, l7, v7, H7, hr7, hs7, rfl⟩, rfl, rfl⟩; infer_instance
 rintro _ _ ⟨_, _, ⟨rfl, L7, l7, v7, H7, hr7, hs7, rfl⟩, rfl, rfl⟩
 refine AnyH.app ?_
 have hl7 := (rdL_len hr7).2
 rw [show List.set [v1, v2, v3, v4, v5, v6, .slice none 0 0] 6 v7 = [v1, v2, v3, v4, v5, v6, v7] from rfl]
 refine AnyH.done (by kernel_rfl) ?_
 have hD : rdD left = some (⟨L1, L2, L3, L4, L5, L6, L7⟩, l7) := by unfold rdD; rw [hr1]; dsimp only; rw [hr2]; dsimp only; rw [hr3]; dsimp only; rw [hr4]; dsimp only; rw [hr5]; dsimp only; rw [hr6]; dsimp only; rw [hr7]
 exact Ends.finE (L' := (k, .cells [.bool true, adr, bv, sV l7].toArray 84) :: ((d, .cells [v1, v2, v3, v4, v5, v6, v7].toArray 40) :: (H1 ++ (H2 ++ (H3 ++ (H4 ++ (H5 ++ (H6 ++ H7)))))))) (res0 rfl) ⟨rfl, _, l7, v1, v2, v3, v4, v5, v6, v7, H1, H2, H3, H4, H5, H6, H7, hD, ⟨hs1, hs2, hs3, hs4, hs5, hs6, hs7⟩, rfl⟩
end Go.Proofs.Ytkldjadpoknejaa
end
section
set_option linter.unusedVariables false
set_option linter.unusedSimpArgs false
set_option linter.unusedSectionVars false
namespace Go.Proofs.Ytkldjadpoknejaa
open Go.SL
abbrev bdV : Value := .iface 110 (.agg #[])
abbrev blkO (b : Nat) (x : Value) : Hp := [(b, .cells [x].toArray 4)]
theorem bcatch_rest {W : World} {L : Hp} {b : Nat} {x : Value} {c0 : Frame} {cs : List Frame} {u : FrameMode} (R : Ending → FrameMode → World → Prop) (hR : ∀ w, Own W w (blkO b (.bool false) ++ L) → R (.returned (.tuple #[])) u w) (c1 c2 : Code) (hb : Try.f29.body = some (c1.seq c2)) :
    Wp Try.prog W (fun e a w => bodyPostS Try.prog Try.f29 c0 cs R e a ({ c0 with mode := u } :: cs) w) 10 [] c2 ((4, bdV) :: argsEnv 0 [.pointer (some ⟨b, 0, none⟩)]) (blkO b x ++ L) := by
  cases hb
  refine Wp.block ?_
  refine Wp.seq ?_
  refine Wp.region ?_
  refine Ops.pv (pv_eql_iface rfl rfl) rfl ?_
  refine Ops.nil ?_
  refine Ends.seq ?_
  refine Wp.cond_false rfl ?_
  refine Wp.seq ?_
  refine Wp.region ?_
  refine Ops.pv (pv_tassert rfl rfl) rfl ?_
  refine Ops.pv (pv_extract rfl rfl) rfl ?_
  refine Ops.pv (pv_extract rfl rfl) rfl ?_
  refine Ops.nil ?_
  refine Ends.seq ?_
  refine Wp.cond_true rfl ?_
  refine Wp.seq ?_
  refine Wp.region ?_
  refine Ops.ef rfl (ef_allocK tyZ110 rfl) ?_
  rintro _ _ ⟨b1, rfl, rfl⟩
  refine Ops.ef rfl (ef_storeK rfl rfl rfl rfl) ?_
  rintro _ _ ⟨rfl, rfl⟩
  refine Ops.nil ?_
  refine Ends.seq ?_
  refine Wp.region ?_
  refine Ops.ef rfl (ef_store1 rfl rfl rfl rfl) ?_
  rintro _ _ ⟨rfl, rfl⟩
  refine Ops.nil ?_
  refine Ends.block_normal ?_
  exact Ends.finS rfl fun w ho => hR w (Drop.own ho)
theorem bcatch_idle {W : World} {L : Hp} {c0 : Frame} {cs : List Frame} {u : FrameMode} {p : Value} (R : Ending → FrameMode → World → Prop) (hR : ∀ w, Own W w L → R (.returned (.tuple #[])) u w) (c1 c2 : Code) (hb : Try.f29.body = some (c1.seq c2)) :
    Wp Try.prog W (fun e a w => bodyPostS Try.prog Try.f29 c0 cs R e a ({ c0 with mode := u } :: cs) w) 10 [] c2 ((4, .nilIface) :: argsEnv 0 [p]) L := by
  cases hb
  refine Wp.block ?_
  refine Wp.seq ?_
  refine Wp.region ?_
  refine Ops.pv (pv_eql_nilif rfl rfl) rfl ?_
  refine Ops.nil ?_
  refine Ends.seq ?_
  refine Wp.cond_true rfl ?_
  refine Wp.region ?_
  refine Ops.pv (pv_assign rfl) rfl ?_
  refine Ops.nil ?_
  refine Ends.block_normal ?_
  exact Ends.finS rfl fun w ho => hR w ho
theorem wp_of {P : Program} {W : World} {Q : Exit → Act → World → Prop} {n : Nat} {D : List Deferred} {c : Code} {E : Env} {L : Hp} {a : Act} {w : World} (h : Wp P W Q n D c E L) (hs : Sees n D E a) (ho : Own W w L) : c.wp P Q a w := by
 unfold Wp at h; exact h a w hs ho
theorem bcatch_p {W w : World} {L : Hp} {b : Nat} {x : Value} (ho : Own W w (blkO b x ++ L)) : CallsD Try.prog 29 [Value.pointer (some ⟨b, 0, none⟩)].toArray (.panicking badC) w (fun e u' w' => e = .returned (.tuple #[]) ∧ settle u' = .returning ∧ Own W w' (blkO b (.bool false) ++ L)) := by
 refine callsD_of_wpS Try.func29 rfl fun c0 cs hu => ?_
 refine wpS_recover hu (wpS_of_wp ?_)
 exact wp_of (bcatch_rest _ (fun w hw => ⟨rfl, rfl, hw⟩) _ _ rfl) ((sees_start rfl).put rfl) ho
theorem bcatch_i {W w : World} {L : Hp} {p : Value} (ho : Own W w L) : CallsD Try.prog 29 [p].toArray .returning w (fun e u' w' => e = .returned (.tuple #[]) ∧ settle u' = .returning ∧ Own W w' L) := by
 refine callsD_of_wpS Try.func29 rfl fun c0 cs hu => ?_
 refine wpS_recover0 hu (wpS_of_wp ?_)
 cases c0
 cases hu
 exact wp_of (bcatch_idle (u := .returning) (p := p) _ (fun w hw => ⟨rfl, rfl, hw⟩) _ _ rfl) ((sees_start rfl).put rfl) ho
theorem tr_brun (k : Nat) (dp : Value) (L : Hp) (R : List UInt8 → Hp → Prop) (X : Hp → Prop) (ht : TrE Try.prog 30 [kP k, dp] L (fun u L' => u = .tuple #[] ∧ ∃ left, R left L') (fun c L' => c = badC ∧ X L'))
    (hR : ∀ left L', R left L' → ∃ (rd : Value) (adr buf : Value) (M : Hp), L' = (k, .cells [rd, adr, buf, sV left].toArray 84) :: M) :
    Tr Try.prog 13 [kP k, dp] L (fun u L' => (∃ left, R left L' ∧ u = .bool (decide (left = []))) ∨ (u = .bool false ∧ X L')) := by
  refine Tr.enterD Try.func13 rfl Try.ntmps13 rfl (fun W F => ?_)
  refine Wp.app ?_
  refine Wp.seq ?_
  refine Wp.region ?_
  refine Ops.ef rfl (ef_alloc1 tyZ4 rfl rfl) ?_
  rintro _ _ ⟨b1, rfl, rfl⟩
  refine Ops.nil ?_
  refine Ends.seq ?_
  refine Wp.seq ?_
  refine Wp.region ?_
  refine Ops.pv (pv_makeFunc rfl rfl) rfl ?_
  refine Ops.defer rfl ?_
  refine Ops.nil ?_
  refine Ends.seq ?_
  refine Wp.seq ?_
  refine Wp.region ?_
  refine Ops.pv (pv_move rfl) rfl ?_
  refine Ops.pv (pv_move rfl) rfl ?_
  refine Ops.efxq rfl (efx_call ht rfl rfl) ?_ ?_
  · rintro _ a w _ hs ⟨L1, ⟨rfl, hX⟩, rfl⟩ ho
    exact leaves_one (L' := L1) hs (by simp) (bcatch_p (b := b1) (L := L1 ++ F) (x := .bool false) (Drop.own ho : Own W w ((b1, .cells [.bool false].toArray 4) :: (L1 ++ F)))) (res_one rfl (rv_cell rfl rfl rfl)) (.inr ⟨rfl, hX⟩)
  rintro _ _ ⟨_, L1, ⟨rfl, left, h1⟩, rfl, rfl⟩
  obtain ⟨rd, adr, buf, M, rfl⟩ := hR left L1 h1
  refine Ops.nil ?_
  refine Ends.seq ?_
  refine Wp.seq ?_
  refine Wp.region ?_
  refine Ops.pv (pv_move rfl) rfl ?_
  refine Ops.pv (pv_nilCheck rfl) rfl ?_
  refine Ops.pv (pv_fieldAddr rfl rfl) rfl ?_
  refine Ops.pv (pv_load rfl rfl rfl) rfl ?_
  refine Ops.pv (pv_str_eql (a := left) (b := []) rfl rfl) rfl ?_
  refine Ops.ef rfl (ef_store1 rfl rfl rfl rfl) ?_
  rintro _ _ ⟨rfl, rfl⟩
  refine Ops.nil ?_
  refine Ends.seq ?_
  refine Wp.ret ?_
  refine Ends.retD fun a w hs ho => ?_
  exact leaves_one (L' := (k, .cells [rd, adr, buf, sV left].toArray 84) :: M) hs (by simp) (bcatch_i ho) (res_one rfl (rv_cell rfl rfl rfl)) (.inl ⟨left, h1, rfl⟩)
end Go.Proofs.Ytkldjadpoknejaa
end
section
set_option linter.unusedVariables false
set_option linter.unusedSimpArgs false
set_option linter.unusedSectionVars false
namespace Go.Proofs.Ytkldjadpoknejaa
open Go.SL
open Classical in
theorem tr_runW (k : Nat) (bs : List UInt8) (pa : Option Addr) (ca : Nat) (Kb : Hp) (hb : Slc 5 1 (.slice pa bs.length ca) bs.length (bC bs) Kb) (hl : bs.length ≤ 2 ^ 36) (d : Nat) (D : Dd) (v1 v2 v3 v4 v5 v6 v7 : Value) (H1 H2 H3 H4 H5 H6 H7 : Hp) (hs : DSB D v1 v2 v3 v4 v5 v6 v7 H1 H2 H3 H4 H5 H6 H7) :
    Tr Try.prog 13 [kP k, .pointer (some ⟨d, 0, none⟩)] ((k, .cells [.bool false, .pointer (some ⟨k, 1, none⟩), .slice pa bs.length ca, sV []].toArray 84) :: (Kb ++ ((d, .cells [v1, v2, v3, v4, v5, v6, v7].toArray 40) :: (H1 ++ (H2 ++ (H3 ++ (H4 ++ (H5 ++ (H6 ++ H7))))))))) (fun u L' => u = .bool (decide (okD D)) ∧ (okD D → ∃ pa' ca' Kb', Slc 5 1 (.slice pa' (bs ++ encD D).length ca') (bs ++ encD D).length (bC (bs ++ encD D)) Kb' ∧ L' = (k, .cells [.bool false, .pointer (some ⟨k, 1, none⟩), .slice pa' (bs ++ encD D).length ca', sV []].toArray 84) :: (Kb' ++ ((d, .cells [v1, v2, v3, v4, v5, v6, v7].toArray 40) :: (H1 ++ (H2 ++ (H3 ++ (H4 ++ (H5 ++ (H6 ++ H7))))))))) ∧ (¬ okD D → L' = [])) := by
  refine (tr_brun k (.pointer (some ⟨d, 0, none⟩)) _ (fun l L' => l = [] ∧ okD D ∧ ∃ pa' ca' Kb', Slc 5 1 (.slice pa' (bs ++ encD D).length ca') (bs ++ encD D).length (bC (bs ++ encD D)) Kb' ∧ L' = (k, .cells [.bool false, .pointer (some ⟨k, 1, none⟩), .slice pa' (bs ++ encD D).length ca', sV []].toArray 84) :: (Kb' ++ ((d, .cells [v1, v2, v3, v4, v5, v6, v7].toArray 40) :: (H1 ++ (H2 ++ (H3 ++ (H4 ++ (H5 ++ (H6 ++ H7))))))))) (fun L' => ¬ okD D ∧ L' = []) ((tr_allW k [] bs pa ca Kb hb hl d D v1 v2 v3 v4 v5 v6 v7 H1 H2 H3 H4 H5 H6 H7 hs).mono (fun u L' h => ⟨h.1, [], rfl, h.2⟩) (fun c L' h => h)) ?_).mono ?_
  · rintro l L' ⟨rfl, _, pa', ca', Kb', _, rfl⟩
    exact ⟨_, _, _, _, rfl⟩
  · rintro u L' (⟨l, ⟨rfl, hok, h⟩, rfl⟩ | ⟨rfl, hno, h⟩)
    · exact ⟨by simp [hok], fun _ => h, fun hno => absurd hok hno⟩
    · exact ⟨by simp [hno], fun hok => absurd hok hno, fun _ => h⟩
def readsD (s : List UInt8) : Prop := ∃ D, rdD s = some (D, [])
open Classical in
theorem tr_runR (k : Nat) (adr bv : Value) (left : List UInt8) (hl : left.length ≤ 2 ^ 40) (h1b : bv.oneCell' = true) (h1a : adr.oneCell' = true) (d : Nat) :
    Tr Try.prog 13 [kP k, .pointer (some ⟨d, 0, none⟩)] ((k, .cells [.bool true, adr, bv, sV left].toArray 84) :: [(d, .cells [.slice none 0 0, .slice none 0 0, .slice none 0 0, .slice none 0 0, .slice none 0 0, .slice none 0 0, .slice none 0 0].toArray 40)]) (fun u L' => u = .bool (decide (readsD left)) ∧ (readsD left → ∃ (D : Dd) (v1 v2 v3 v4 v5 v6 v7 : Value) (H1 H2 H3 H4 H5 H6 H7 : Hp), rdD left = some (D, []) ∧ DSB D v1 v2 v3 v4 v5 v6 v7 H1 H2 H3 H4 H5 H6 H7 ∧ L' = (k, .cells [.bool true, adr, bv, sV []].toArray 84) :: ((d, .cells [v1, v2, v3, v4, v5, v6, v7].toArray 40) :: (H1 ++ (H2 ++ (H3 ++ (H4 ++ (H5 ++ (H6 ++ H7))))))))) := by
  refine (tr_brun k (.pointer (some ⟨d, 0, none⟩)) _ (fun l L' => ∃ (D : Dd) (v1 v2 v3 v4 v5 v6 v7 : Value) (H1 H2 H3 H4 H5 H6 H7 : Hp), rdD left = some (D, l) ∧ DSB D v1 v2 v3 v4 v5 v6 v7 H1 H2 H3 H4 H5 H6 H7 ∧ L' = (k, .cells [.bool true, adr, bv, sV l].toArray 84) :: ((d, .cells [v1, v2, v3, v4, v5, v6, v7].toArray 40) :: (H1 ++ (H2 ++ (H3 ++ (H4 ++ (H5 ++ (H6 ++ H7)))))))) (fun L' => rdD left = none ∧ L' = []) ((tr_allR k adr bv left hl h1b h1a d).mono (fun u L' h => by
    obtain ⟨rfl, D, l, v1, v2, v3, v4, v5, v6, v7, H1, H2, H3, H4, H5, H6, H7, h1, h2, rfl⟩ := h
    exact ⟨rfl, l, D, v1, v2, v3, v4, v5, v6, v7, H1, H2, H3, H4, H5, H6, H7, h1, h2, rfl⟩) (fun c L' h => h)) ?_).mono ?_
  · rintro l L' ⟨D, v1, v2, v3, v4, v5, v6, v7, H1, H2, H3, H4, H5, H6, H7, _, _, rfl⟩
    exact ⟨_, _, _, _, rfl⟩
  · rintro u L' (⟨l, ⟨D, v1, v2, v3, v4, v5, v6, v7, H1, H2, H3, H4, H5, H6, H7, h1, h2, rfl⟩, rfl⟩ | ⟨rfl, hno, h⟩)
    · by_cases hl : l = []
      · subst hl
        have hr : readsD left := ⟨D, h1⟩
        exact ⟨by simp [hr], fun _ => ⟨D, v1, v2, v3, v4, v5, v6, v7, H1, H2, H3, H4, H5, H6, H7, h1, h2, rfl⟩⟩
      · have hr : ¬ readsD left := by
          rintro ⟨D2, h3⟩; rw [h1] at h3; cases h3; exact hl rfl
        exact ⟨by simp [hr, hl], fun h => absurd h hr⟩
    · have hr : ¬ readsD left := by
        rintro ⟨D2, h3⟩; rw [hno] at h3; cases h3
      exact ⟨by simp [hr], fun h => absurd h hr⟩
theorem tr_clone1 (G : Hp) (a : Option Addr) (c : Nat) (l : List (El fsO)) (hv : View G 3 (.slice a l.length c) l.length (cel (cE fsO) l)) (hl : l.length ≤ 2 ^ 20) : Tr Try.prog 22 [.slice a l.length c] (G) (fun v L' => ∃ a' c' H, v = .slice a' l.length c' ∧ Slc 54 3 v l.length (cel (cE fsO) l) H ∧ L' = H ++ G) := by
 refine Tr.enter Try.func22 rfl Try.ntmps22 rfl (fun W F => ?_)
 refine Wp.app ?_
 refine Wr ?_
 refine Oa1 rfl rfl ?_
 refine On ?_
 refine Wp.seq ?_
 refine Wr ?_
 refine Om1 rfl rfl ?_
 refine Ops.pv (pv_eql_slcnil rfl rfl) rfl ?_
 refine On ?_
 refine Wp.cond_t rfl (fun h1 => ?_) (fun h1 => ?_)
 ·
  obtain rfl := Option.isNone_iff_eq_none.1 h1
  obtain ⟨e0, e1⟩ := view_nil' hv
  refine Wr ?_
  refine Oa1 rfl rfl ?_
  refine On ?_
  refine Wp.ret ?_
  refine Ends.then_ret ?_
  exact Ends.ret (L' := G) (res1 rfl rfl) ⟨none, 0, [], by rw [e0], by rw [e0, e1]; exact Slc.nil _ _, rfl⟩
 refine Wp.skip ?_
 refine Ends.seq ?_
 refine Wr ?_
 refine Ops.ef rfl (ef_buildSlice0 rfl) ?_
 rintro _ _ ⟨b1, rfl, rfl⟩
 refine Om1 rfl rfl ?_
 refine Ops.ef rfl (ef_appendV (H := [(b1, .cells ([] : List Value).toArray 54)]) rfl (slc_empty' 54 3 b1) rfl (hv.mono (by intro p hp; simp [hp])) (cel_one l) (by omega) (by omega) rfl rfl) ?_
 rintro _ _ ⟨v1, H1, hs1, rfl, rfl⟩
 refine Ops.app ?_
 skip
 refine Oa1 rfl rfl ?_
 refine On ?_
 refine Wp.ret ?_
 rw [Nat.zero_add, List.nil_append] at hs1
 obtain ⟨a9, c9, rfl⟩ := hs1.form
 exact Ends.ret (L' := H1 ++ G) (res1 rfl rfl) ⟨a9, c9, H1, rfl, hs1, rfl⟩
theorem tr_clone2 (G : Hp) (a : Option Addr) (c : Nat) (l : List (El fsP)) (hv : View G 8 (.slice a l.length c) l.length (cel (cE fsP) l)) (hl : l.length ≤ 2 ^ 20) : Tr Try.prog 23 [.slice a l.length c] (G) (fun v L' => ∃ a' c' H, v = .slice a' l.length c' ∧ Slc 62 8 v l.length (cel (cE fsP) l) H ∧ L' = H ++ G) := by
 refine Tr.enter Try.func23 rfl Try.ntmps23 rfl (fun W F => ?_)
 refine Wp.app ?_
 refine Wr ?_
 refine Oa1 rfl rfl ?_
 refine On ?_
 refine Wp.seq ?_
 refine Wr ?_
 refine Om1 rfl rfl ?_
 refine Ops.pv (pv_eql_slcnil rfl rfl) rfl ?_
 refine On ?_
 refine Wp.cond_t rfl (fun h1 => ?_) (fun h1 => ?_)
 ·
  obtain rfl := Option.isNone_iff_eq_none.1 h1
  obtain ⟨e0, e1⟩ := view_nil' hv
  refine Wr ?_
  refine Oa1 rfl rfl ?_
  refine On ?_
  refine Wp.ret ?_
  refine Ends.then_ret ?_
  exact Ends.ret (L' := G) (res1 rfl rfl) ⟨none, 0, [], by rw [e0], by rw [e0, e1]; exact Slc.nil _ _, rfl⟩
 refine Wp.skip ?_
 refine Ends.seq ?_
 refine Wr ?_
 refine Ops.ef rfl (ef_buildSlice0 rfl) ?_
 rintro _ _ ⟨b1, rfl, rfl⟩
 refine Om1 rfl rfl ?_
 refine Ops.ef rfl (ef_appendV (H := [(b1, .cells ([] : List Value).toArray 62)]) rfl (slc_empty' 62 8 b1) rfl (hv.mono (by intro p hp; simp [hp])) (cel_one l) (by omega) (by omega) rfl rfl) ?_
 rintro _ _ ⟨v1, H1, hs1, rfl, rfl⟩
 refine Ops.app ?_
 skip
 refine Oa1 rfl rfl ?_
 refine On ?_
 refine Wp.ret ?_
 rw [Nat.zero_add, List.nil_append] at hs1
 obtain ⟨a9, c9, rfl⟩ := hs1.form
 exact Ends.ret (L' := H1 ++ G) (res1 rfl rfl) ⟨a9, c9, H1, rfl, hs1, rfl⟩
theorem tr_clone3 (G : Hp) (a : Option Addr) (c : Nat) (l : List (El fsM)) (hv : View G 4 (.slice a l.length c) l.length (cel (cE fsM) l)) (hl : l.length ≤ 2 ^ 20) : Tr Try.prog 24 [.slice a l.length c] (G) (fun v L' => ∃ a' c' H, v = .slice a' l.length c' ∧ Slc 65 4 v l.length (cel (cE fsM) l) H ∧ L' = H ++ G) := by
 refine Tr.enter Try.func24 rfl Try.ntmps24 rfl (fun W F => ?_)
 refine Wp.app ?_
 refine Wr ?_
 refine Oa1 rfl rfl ?_
 refine On ?_
 refine Wp.seq ?_
 refine Wr ?_
 refine Om1 rfl rfl ?_
 refine Ops.pv (pv_eql_slcnil rfl rfl) rfl ?_
 refine On ?_
 refine Wp.cond_t rfl (fun h1 => ?_) (fun h1 => ?_)
 ·
  obtain rfl := Option.isNone_iff_eq_none.1 h1
  obtain ⟨e0, e1⟩ := view_nil' hv
  refine Wr ?_
  refine Oa1 rfl rfl ?_
  refine On ?_
  refine Wp.ret ?_
  refine Ends.then_ret ?_
  exact Ends.ret (L' := G) (res1 rfl rfl) ⟨none, 0, [], by rw [e0], by rw [e0, e1]; exact Slc.nil _ _, rfl⟩
 refine Wp.skip ?_
 refine Ends.seq ?_
 refine Wr ?_
 refine Ops.ef rfl (ef_buildSlice0 rfl) ?_
 rintro _ _ ⟨b1, rfl, rfl⟩
 refine Om1 rfl rfl ?_
 refine Ops.ef rfl (ef_appendV (H := [(b1, .cells ([] : List Value).toArray 65)]) rfl (slc_empty' 65 4 b1) rfl (hv.mono (by intro p hp; simp [hp])) (cel_one l) (by omega) (by omega) rfl rfl) ?_
 rintro _ _ ⟨v1, H1, hs1, rfl, rfl⟩
 refine Ops.app ?_
 skip
 refine Oa1 rfl rfl ?_
 refine On ?_
 refine Wp.ret ?_
 rw [Nat.zero_add, List.nil_append] at hs1
 obtain ⟨a9, c9, rfl⟩ := hs1.form
 exact Ends.ret (L' := H1 ++ G) (res1 rfl rfl) ⟨a9, c9, H1, rfl, hs1, rfl⟩
theorem tr_clone4 (G : Hp) (a : Option Addr) (c : Nat) (l : List (El fsF)) (hv : View G 3 (.slice a l.length c) l.length (cel (cE fsF) l)) (hl : l.length ≤ 2 ^ 20) : Tr Try.prog 25 [.slice a l.length c] (G) (fun v L' => ∃ a' c' H, v = .slice a' l.length c' ∧ Slc 68 3 v l.length (cel (cE fsF) l) H ∧ L' = H ++ G) := by
 refine Tr.enter Try.func25 rfl Try.ntmps25 rfl (fun W F => ?_)
 refine Wp.app ?_
 refine Wr ?_
 refine Oa1 rfl rfl ?_
 refine On ?_
 refine Wp.seq ?_
 refine Wr ?_
 refine Om1 rfl rfl ?_
 refine Ops.pv (pv_eql_slcnil rfl rfl) rfl ?_
 refine On ?_
 refine Wp.cond_t rfl (fun h1 => ?_) (fun h1 => ?_)
 ·
  obtain rfl := Option.isNone_iff_eq_none.1 h1
  obtain ⟨e0, e1⟩ := view_nil' hv
  refine Wr ?_
  refine Oa1 rfl rfl ?_
  refine On ?_
  refine Wp.ret ?_
  refine Ends.then_ret ?_
  exact Ends.ret (L' := G) (res1 rfl rfl) ⟨none, 0, [], by rw [e0], by rw [e0, e1]; exact Slc.nil _ _, rfl⟩
 refine Wp.skip ?_
 refine Ends.seq ?_
 refine Wr ?_
 refine Ops.ef rfl (ef_buildSlice0 rfl) ?_
 rintro _ _ ⟨b1, rfl, rfl⟩
 refine Om1 rfl rfl ?_
 refine Ops.ef rfl (ef_appendV (H := [(b1, .cells ([] : List Value).toArray 68)]) rfl (slc_empty' 68 3 b1) rfl (hv.mono (by intro p hp; simp [hp])) (cel_one l) (by omega) (by omega) rfl rfl) ?_
 rintro _ _ ⟨v1, H1, hs1, rfl, rfl⟩
 refine Ops.app ?_
 skip
 refine Oa1 rfl rfl ?_
 refine On ?_
 refine Wp.ret ?_
 rw [Nat.zero_add, List.nil_append] at hs1
 obtain ⟨a9, c9, rfl⟩ := hs1.form
 exact Ends.ret (L' := H1 ++ G) (res1 rfl rfl) ⟨a9, c9, H1, rfl, hs1, rfl⟩
theorem tr_clone5 (G : Hp) (a : Option Addr) (c : Nat) (l : List (El fsT)) (hv : View G 8 (.slice a l.length c) l.length (cel (cE fsT) l)) (hl : l.length ≤ 2 ^ 20) : Tr Try.prog 26 [.slice a l.length c] (G) (fun v L' => ∃ a' c' H, v = .slice a' l.length c' ∧ Slc 71 8 v l.length (cel (cE fsT) l) H ∧ L' = H ++ G) := by
 refine Tr.enter Try.func26 rfl Try.ntmps26 rfl (fun W F => ?_)
 refine Wp.app ?_
 refine Wr ?_
 refine Oa1 rfl rfl ?_
 refine On ?_
 refine Wp.seq ?_
 refine Wr ?_
 refine Om1 rfl rfl ?_
 refine Ops.pv (pv_eql_slcnil rfl rfl) rfl ?_
 refine On ?_
 refine Wp.cond_t rfl (fun h1 => ?_) (fun h1 => ?_)
 ·
  obtain rfl := Option.isNone_iff_eq_none.1 h1
  obtain ⟨e0, e1⟩ := view_nil' hv
  refine Wr ?_
  refine Oa1 rfl rfl ?_
  refine On ?_
  refine Wp.ret ?_
  refine Ends.then_ret ?_
  exact Ends.ret (L' := G) (res1 rfl rfl) ⟨none, 0, [], by rw [e0], by rw [e0, e1]; exact Slc.nil _ _, rfl⟩
 refine Wp.skip ?_
 refine Ends.seq ?_
 refine Wr ?_
 refine Ops.ef rfl (ef_buildSlice0 rfl) ?_
 rintro _ _ ⟨b1, rfl, rfl⟩
 refine Om1 rfl rfl ?_
 refine Ops.ef rfl (ef_appendV (H := [(b1, .cells ([] : List Value).toArray 71)]) rfl (slc_empty' 71 8 b1) rfl (hv.mono (by intro p hp; simp [hp])) (cel_one l) (by omega) (by omega) rfl rfl) ?_
 rintro _ _ ⟨v1, H1, hs1, rfl, rfl⟩
 refine Ops.app ?_
 skip
 refine Oa1 rfl rfl ?_
 refine On ?_
 refine Wp.ret ?_
 rw [Nat.zero_add, List.nil_append] at hs1
 obtain ⟨a9, c9, rfl⟩ := hs1.form
 exact Ends.ret (L' := H1 ++ G) (res1 rfl rfl) ⟨a9, c9, H1, rfl, hs1, rfl⟩
theorem tr_clone6 (G : Hp) (a : Option Addr) (c : Nat) (l : List (El fsW)) (hv : View G 4 (.slice a l.length c) l.length (cel (cE fsW) l)) (hl : l.length ≤ 2 ^ 20) : Tr Try.prog 27 [.slice a l.length c] (G) (fun v L' => ∃ a' c' H, v = .slice a' l.length c' ∧ Slc 74 4 v l.length (cel (cE fsW) l) H ∧ L' = H ++ G) := by
 refine Tr.enter Try.func27 rfl Try.ntmps27 rfl (fun W F => ?_)
 refine Wp.app ?_
 refine Wr ?_
 refine Oa1 rfl rfl ?_
 refine On ?_
 refine Wp.seq ?_
 refine Wr ?_
 refine Om1 rfl rfl ?_
 refine Ops.pv (pv_eql_slcnil rfl rfl) rfl ?_
 refine On ?_
 refine Wp.cond_t rfl (fun h1 => ?_) (fun h1 => ?_)
 ·
  obtain rfl := Option.isNone_iff_eq_none.1 h1
  obtain ⟨e0, e1⟩ := view_nil' hv
  refine Wr ?_
  refine Oa1 rfl rfl ?_
  refine On ?_
  refine Wp.ret ?_
  refine Ends.then_ret ?_
  exact Ends.ret (L' := G) (res1 rfl rfl) ⟨none, 0, [], by rw [e0], by rw [e0, e1]; exact Slc.nil _ _, rfl⟩
 refine Wp.skip ?_
 refine Ends.seq ?_
 refine Wr ?_
 refine Ops.ef rfl (ef_buildSlice0 rfl) ?_
 rintro _ _ ⟨b1, rfl, rfl⟩
 refine Om1 rfl rfl ?_
 refine Ops.ef rfl (ef_appendV (H := [(b1, .cells ([] : List Value).toArray 74)]) rfl (slc_empty' 74 4 b1) rfl (hv.mono (by intro p hp; simp [hp])) (cel_one l) (by omega) (by omega) rfl rfl) ?_
 rintro _ _ ⟨v1, H1, hs1, rfl, rfl⟩
 refine Ops.app ?_
 skip
 refine Oa1 rfl rfl ?_
 refine On ?_
 refine Wp.ret ?_
 rw [Nat.zero_add, List.nil_append] at hs1
 obtain ⟨a9, c9, rfl⟩ := hs1.form
 exact Ends.ret (L' := H1 ++ G) (res1 rfl rfl) ⟨a9, c9, H1, rfl, hs1, rfl⟩
theorem tr_clone7 (G : Hp) (a : Option Addr) (c : Nat) (l : List (El fsS)) (hv : View G 2 (.slice a l.length c) l.length (cel (cE fsS) l)) (hl : l.length ≤ 2 ^ 20) : Tr Try.prog 28 [.slice a l.length c] (G) (fun v L' => ∃ a' c' H, v = .slice a' l.length c' ∧ Slc 77 2 v l.length (cel (cE fsS) l) H ∧ L' = H ++ G) := by
 refine Tr.enter Try.func28 rfl Try.ntmps28 rfl (fun W F => ?_)
 refine Wp.app ?_
 refine Wr ?_
 refine Oa1 rfl rfl ?_
 refine On ?_
 refine Wp.seq ?_
 refine Wr ?_
 refine Om1 rfl rfl ?_
 refine Ops.pv (pv_eql_slcnil rfl rfl) rfl ?_
 refine On ?_
 refine Wp.cond_t rfl (fun h1 => ?_) (fun h1 => ?_)
 ·
  obtain rfl := Option.isNone_iff_eq_none.1 h1
  obtain ⟨e0, e1⟩ := view_nil' hv
  refine Wr ?_
  refine Oa1 rfl rfl ?_
  refine On ?_
  refine Wp.ret ?_
  refine Ends.then_ret ?_
  exact Ends.ret (L' := G) (res1 rfl rfl) ⟨none, 0, [], by rw [e0], by rw [e0, e1]; exact Slc.nil _ _, rfl⟩
 refine Wp.skip ?_
 refine Ends.seq ?_
 refine Wr ?_
 refine Ops.ef rfl (ef_buildSlice0 rfl) ?_
 rintro _ _ ⟨b1, rfl, rfl⟩
 refine Om1 rfl rfl ?_
 refine Ops.ef rfl (ef_appendV (H := [(b1, .cells ([] : List Value).toArray 77)]) rfl (slc_empty' 77 2 b1) rfl (hv.mono (by intro p hp; simp [hp])) (cel_one l) (by omega) (by omega) rfl rfl) ?_
 rintro _ _ ⟨v1, H1, hs1, rfl, rfl⟩
 refine Ops.app ?_
 skip
 refine Oa1 rfl rfl ?_
 refine On ?_
 refine Wp.ret ?_
 rw [Nat.zero_add, List.nil_append] at hs1
 obtain ⟨a9, c9, rfl⟩ := hs1.form
 exact Ends.ret (L' := H1 ++ G) (res1 rfl rfl) ⟨a9, c9, H1, rfl, hs1, rfl⟩
set_option maxHeartbeats 8000000 in
theorem tr_own (D : Dd) (v1 v2 v3 v4 v5 v6 v7 : Value) (H1 H2 H3 H4 H5 H6 H7 : Hp) (hs : DSB D v1 v2 v3 v4 v5 v6 v7 H1 H2 H3 H4 H5 H6 H7) (hlo : D.o.length ≤ 2 ^ 20) (hlp : D.p.length ≤ 2 ^ 20) (hlm : D.m.length ≤ 2 ^ 20) (hlf : D.f.length ≤ 2 ^ 20) (hlt : D.t.length ≤ 2 ^ 20) (hlw : D.w.length ≤ 2 ^ 20) (hls : D.s.length ≤ 2 ^ 20) : Tr Try.prog 12 [.agg #[v1, v2, v3, v4, v5, v6, v7]] (H1 ++ (H2 ++ (H3 ++ (H4 ++ (H5 ++ (H6 ++ H7)))))) (fun u L' => ∃ (w1 w2 w3 w4 w5 w6 w7 : Value) (K1 K2 K3 K4 K5 K6 K7 : Hp), DSB D w1 w2 w3 w4 w5 w6 w7 K1 K2 K3 K4 K5 K6 K7 ∧ u = .agg #[w1, w2, w3, w4, w5, w6, w7] ∧ L' = (K1 ++ (K2 ++ (K3 ++ (K4 ++ (K5 ++ (K6 ++ K7)))))) ++ (H1 ++ (H2 ++ (H3 ++ (H4 ++ (H5 ++ (H6 ++ H7))))))) := by
 obtain ⟨a1, c1, rfl⟩ := hs.o.form
 obtain ⟨a2, c2, rfl⟩ := hs.p.form
 obtain ⟨a3, c3, rfl⟩ := hs.m.form
 obtain ⟨a4, c4, rfl⟩ := hs.f.form
 obtain ⟨a5, c5, rfl⟩ := hs.t.form
 obtain ⟨a6, c6, rfl⟩ := hs.w.form
 obtain ⟨a7, c7, rfl⟩ := hs.s.form
 refine Tr.enter Try.func12 rfl Try.ntmps12 rfl (fun W F => ?_)
 refine Wp.app ?_
 refine Wr ?_
 refine Ops.ef rfl (ef_boxK rfl rfl) ?_
 rintro _ _ ⟨b1, rfl, rfl⟩
 refine Ops.ef rfl (ef_allocK tyZ40 rfl) ?_
 rintro _ _ ⟨b2, rfl, rfl⟩
 refine On ?_
 refine Wp.seq ?_
 refine AnyH.start ([(b1, .cells [.slice a1 D.o.length c1, .slice a2 D.p.length c2, .slice a3 D.m.length c3, .slice a4 D.f.length c4, .slice a5 D.t.length c5, .slice a6 D.w.length c6, .slice a7 D.s.length c7].toArray 40)] : Hp) 23 rfl ?_
 refine Tk 0 rfl rfl (pv_fieldAddr0 rfl rfl) rfl ?_
 refine Tk 1 rfl rfl (pv_load rfl rfl rfl) rfl ?_
 refine Tk 3 rfl rfl (pv_fieldAddr0 rfl rfl) rfl ?_
 refine Tk 4 rfl rfl (pv_load rfl rfl rfl) rfl ?_
 refine Tk 6 rfl rfl (pv_fieldAddr0 rfl rfl) rfl ?_
 refine Tk 7 rfl rfl (pv_load rfl rfl rfl) rfl ?_
 refine Tk 9 rfl rfl (pv_fieldAddr0 rfl rfl) rfl ?_
 refine Tk 10 rfl rfl (pv_load rfl rfl rfl) rfl ?_
 refine Tk 12 rfl rfl (pv_fieldAddr0 rfl rfl) rfl ?_
 refine Tk 13 rfl rfl (pv_load rfl rfl rfl) rfl ?_
 refine Tk 15 rfl rfl (pv_fieldAddr0 rfl rfl) rfl ?_
 refine Tk 16 rfl rfl (pv_load rfl rfl rfl) rfl ?_
 refine Tk 18 rfl rfl (pv_fieldAddr0 rfl rfl) rfl ?_
 refine Tk 19 rfl rfl (pv_load rfl rfl rfl) rfl ?_
 refine AnyH.one 2 (by kernel_rfl) ?_
 refine Turn.ef rfl rfl (ef_call (tr_clone1 H1 a1 c1 D.o hs.o.view hlo) rfl rfl) ?_ ?_
 ·
  rintro _ _ ⟨_, _, ⟨a19, c19, K1, rfl, hk1, rfl⟩, rfl, rfl⟩; infer_instance
 rintro _ _ ⟨_, _, ⟨a19, c19, K1, rfl, hk1, rfl⟩, rfl, rfl⟩
 refine AnyH.app ?_
 skip
 refine AnyH.one 5 (by kernel_rfl) ?_
 refine Turn.ef rfl rfl (ef_call (tr_clone2 H2 a2 c2 D.p hs.p.view hlp) rfl rfl) ?_ ?_
 ·
  rintro _ _ ⟨_, _, ⟨a29, c29, K2, rfl, hk2, rfl⟩, rfl, rfl⟩; infer_instance
 rintro _ _ ⟨_, _, ⟨a29, c29, K2, rfl, hk2, rfl⟩, rfl, rfl⟩
 refine AnyH.app ?_
 skip
 refine AnyH.one 8 (by kernel_rfl) ?_
 refine Turn.ef rfl rfl (ef_call (tr_clone3 H3 a3 c3 D.m hs.m.view hlm) rfl rfl) ?_ ?_
 ·
  rintro _ _ ⟨_, _, ⟨a39, c39, K3, rfl, hk3, rfl⟩, rfl, rfl⟩; infer_instance
 rintro _ _ ⟨_, _, ⟨a39, c39, K3, rfl, hk3, rfl⟩, rfl, rfl⟩
 refine AnyH.app ?_
 skip
 refine AnyH.one 11 (by kernel_rfl) ?_
 refine Turn.ef rfl rfl (ef_call (tr_clone4 H4 a4 c4 D.f hs.f.view hlf) rfl rfl) ?_ ?_
 ·
  rintro _ _ ⟨_, _, ⟨a49, c49, K4, rfl, hk4, rfl⟩, rfl, rfl⟩; infer_instance
 rintro _ _ ⟨_, _, ⟨a49, c49, K4, rfl, hk4, rfl⟩, rfl, rfl⟩
 refine AnyH.app ?_
 skip
 refine AnyH.one 14 (by kernel_rfl) ?_
 refine Turn.ef rfl rfl (ef_call (tr_clone5 H5 a5 c5 D.t hs.t.view hlt) rfl rfl) ?_ ?_
 ·
  rintro _ _ ⟨_, _, ⟨a59, c59, K5, rfl, hk5, rfl⟩, rfl, rfl⟩; infer_instance
 rintro _ _ ⟨_, _, ⟨a59, c59, K5, rfl, hk5, rfl⟩, rfl, rfl⟩
 refine AnyH.app ?_
 skip
 refine AnyH.one 17 (by kernel_rfl) ?_
 refine Turn.ef rfl rfl (ef_call (tr_clone6 H6 a6 c6 D.w hs.w.view hlw) rfl rfl) ?_ ?_
 ·
  rintro _ _ ⟨_, _, ⟨a69, c69, K6, rfl, hk6, rfl⟩, rfl, rfl⟩; infer_instance
 rintro _ _ ⟨_, _, ⟨a69, c69, K6, rfl, hk6, rfl⟩, rfl, rfl⟩
 refine AnyH.app ?_
 skip
 refine AnyH.one 20 (by kernel_rfl) ?_
 refine Turn.ef rfl rfl (ef_call (tr_clone7 H7 a7 c7 D.s hs.s.view hls) rfl rfl) ?_ ?_
 ·
  rintro _ _ ⟨_, _, ⟨a79, c79, K7, rfl, hk7, rfl⟩, rfl, rfl⟩; infer_instance
 rintro _ _ ⟨_, _, ⟨a79, c79, K7, rfl, hk7, rfl⟩, rfl, rfl⟩
 refine AnyH.app ?_
 skip
 refine Tk 21 rfl rfl (pv_build rfl) rfl ?_
 refine AnyH.one 22 (by kernel_rfl) ?_
 refine Turn.ef rfl rfl (ef_storeK rfl rfl rfl rfl) ?_ ?_
 ·
  rintro _ _ ⟨rfl, rfl⟩; infer_instance
 rintro _ _ ⟨rfl, rfl⟩
 refine AnyH.done (by kernel_rfl) ?_
 refine Ends.seq ?_
 refine Wp.ret ?_
 exact Ends.ret (L' := (K1 ++ (K2 ++ (K3 ++ (K4 ++ (K5 ++ (K6 ++ K7)))))) ++ (H1 ++ (H2 ++ (H3 ++ (H4 ++ (H5 ++ (H6 ++ H7))))))) (res_one rfl (rv_cellK [_, _, _, _, _, _, _] rfl rfl rfl ⟨rfl, rfl, rfl, rfl, rfl, rfl, rfl, trivial⟩)) ⟨_, _, _, _, _, _, _, K1, K2, K3, K4, K5, K6, K7, ⟨hk1, hk2, hk3, hk4, hk5, hk6, hk7⟩, rfl, rfl⟩
end Go.Proofs.Ytkldjadpoknejaa
end
section
set_option linter.unusedVariables false
set_option linter.unusedSimpArgs false
set_option linter.unusedSectionVars false
namespace Go.Proofs.Ytkldjadpoknejaa
open Go.SL
theorem encD_le {D : Dd} (h : okD D) : (encD D).length ≤ 30000 := by
 obtain ⟨h1, h2, h3, h4, h5, h6, h7⟩ := h
 have e1 := encL_le h1 (by decide)
 have e2 := encL_le h2 (by decide)
 have e3 := encL_le h3 (by decide)
 have e4 := encL_le h4 (by decide)
 have e5 := encL_le h5 (by decide)
 have e6 := encL_le h6 (by decide)
 have e7 := encL_le h7 (by decide)
 simp only [encD, List.length_append]
 omega
open Classical in
noncomputable def encV (D : Dd) : List UInt8 × Int := if okD D then ([67, 68] ++ encD D, 0) else ([], 1)
set_option maxHeartbeats 8000000 in
theorem tr_encode (D : Dd) (v1 v2 v3 v4 v5 v6 v7 : Value) (H1 H2 H3 H4 H5 H6 H7 : Hp) (hs : DSB D v1 v2 v3 v4 v5 v6 v7 H1 H2 H3 H4 H5 H6 H7) (hlo : D.o.length ≤ 2 ^ 20) (hlp : D.p.length ≤ 2 ^ 20) (hlm : D.m.length ≤ 2 ^ 20) (hlf : D.f.length ≤ 2 ^ 20) (hlt : D.t.length ≤ 2 ^ 20) (hlw : D.w.length ≤ 2 ^ 20) (hls : D.s.length ≤ 2 ^ 20) : Tr Try.prog 6 [.agg #[v1, v2, v3, v4, v5, v6, v7]] (H1 ++ (H2 ++ (H3 ++ (H4 ++ (H5 ++ (H6 ++ H7)))))) (fun u L' => u = .tuple #[sV (encV D).1, .int .i64 (encV D).2] ∧ L' = H1 ++ (H2 ++ (H3 ++ (H4 ++ (H5 ++ (H6 ++ H7)))))) := by
 obtain ⟨a1, c1, rfl⟩ := hs.o.form
 obtain ⟨a2, c2, rfl⟩ := hs.p.form
 obtain ⟨a3, c3, rfl⟩ := hs.m.form
 obtain ⟨a4, c4, rfl⟩ := hs.f.form
 obtain ⟨a5, c5, rfl⟩ := hs.t.form
 obtain ⟨a6, c6, rfl⟩ := hs.w.form
 obtain ⟨a7, c7, rfl⟩ := hs.s.form
 refine Tr.enter Try.func6 rfl Try.ntmps6 rfl (fun W F => ?_)
 refine Wp.app ?_
 refine Wr ?_
 refine Ops.ef rfl (ef_boxK rfl rfl) ?_
 rintro _ _ ⟨b1, rfl, rfl⟩
 refine Oa1 rfl rfl ?_
 refine Oa1 rfl rfl ?_
 refine On ?_
 refine Wr ?_
 refine Ops.pv (pv_build rfl) rfl ?_
 refine Ops.ef rfl (ef_boxK rfl rfl) ?_
 rintro _ _ ⟨b2, rfl, rfl⟩
 rw [show Value.string ByteArray.empty = sV [] from rfl]
 refine Oa1 rfl rfl ?_
 refine On ?_
 refine Wr ?_
 refine Om1 rfl rfl ?_
 refine Ops.pv (pv_nilCheck rfl) rfl ?_
 refine Of1 rfl rfl rfl ?_
 refine Ops.ef rfl (ef_call (tr_wstr b2 [] [67, 68] (by simp) (by simp)) rfl rfl) ?_
 rintro _ _ ⟨_, _, ⟨rfl, pa1, ca1, Kb1, hb1, rfl⟩, rfl, rfl⟩
 refine Ops.app ?_
 refine On ?_
 refine Wr ?_
 refine Ops.pv (pv_loadK [_, _, _, _, _, _, _] rfl rfl rfl ⟨rfl, rfl, rfl, rfl, rfl, rfl, rfl, trivial⟩) rfl ?_
 refine Ops.ef rfl (ef_call (tr_own D _ _ _ _ _ _ _ H1 H2 H3 H4 H5 H6 H7 hs hlo hlp hlm hlf hlt hlw hls) rfl rfl) ?_
 rintro _ _ ⟨_, _, ⟨w1, w2, w3, w4, w5, w6, w7, K1, K2, K3, K4, K5, K6, K7, hs2, rfl, rfl⟩, rfl, rfl⟩
 refine Ops.app ?_
 obtain ⟨x1, y1, rfl⟩ := hs2.o.form
 obtain ⟨x2, y2, rfl⟩ := hs2.p.form
 obtain ⟨x3, y3, rfl⟩ := hs2.m.form
 obtain ⟨x4, y4, rfl⟩ := hs2.f.form
 obtain ⟨x5, y5, rfl⟩ := hs2.t.form
 obtain ⟨x6, y6, rfl⟩ := hs2.w.form
 obtain ⟨x7, y7, rfl⟩ := hs2.s.form
 refine Ops.ef rfl (ef_storeK rfl rfl rfl rfl) ?_
 rintro _ _ ⟨rfl, rfl⟩
 refine On ?_
 refine Wp.seq ?_
 refine Wr ?_
 refine Om1 rfl rfl ?_
 refine Ops.ef rfl (ef_call (tr_runW b2 [67, 68] pa1 ca1 Kb1 hb1 (by simp) b1 D _ _ _ _ _ _ _ K1 K2 K3 K4 K5 K6 K7 hs2) rfl rfl) ?_
 rintro _ _ ⟨_, M1, ⟨rfl, hy, hn⟩, rfl, rfl⟩
 refine Ops.app ?_
 skip
 refine Ops.pv (pv_not rfl) rfl ?_
 refine On ?_
 refine Wp.cond_t rfl (fun h1 => ?_) (fun h1 => ?_)
 ·
  have hno : ¬ okD D := by simpa using h1
  obtain rfl := hn hno
  refine Wr ?_
  refine Oa1 rfl rfl ?_
  refine Oa1 rfl rfl ?_
  refine On ?_
  refine Wp.ret ?_
  refine Ends.then_ret ?_
  rw [encV, if_neg hno]
  exact Ends.ret (L' := H1 ++ (H2 ++ (H3 ++ (H4 ++ (H5 ++ (H6 ++ H7)))))) (res2 rfl rfl rfl) ⟨rfl, rfl⟩
 have hok : okD D := by simpa using h1
 have hel := encD_le hok
 obtain ⟨pa3, ca3, Kb3, hb3, rfl⟩ := hy hok
 refine Wp.app ?_
 refine Wp.skip ?_
 refine Ends.seq ?_
 refine Wr ?_
 refine Om1 rfl rfl ?_
 refine Ops.pv (pv_nilCheck rfl) rfl ?_
 refine Of1 rfl rfl rfl ?_
 refine Ops.ef rfl (ef_call (tr_bstr b2 [] ([67, 68] ++ encD D) pa3 ca3 Kb3 hb3 (by simp only [List.length_append, List.length_cons, List.length_nil]; omega) (by simp)) rfl rfl) ?_
 rintro _ _ ⟨_, _, ⟨rfl, rfl⟩, rfl, rfl⟩
 refine Ops.app ?_
 refine Oa1 rfl rfl ?_
 refine Oa1 rfl rfl ?_
 refine On ?_
 refine Wp.ret ?_
 rw [encV, if_pos hok]
 exact Ends.ret (L' := H1 ++ (H2 ++ (H3 ++ (H4 ++ (H5 ++ (H6 ++ H7)))))) (res2 rfl rfl rfl) ⟨rfl, rfl⟩
theorem tr_has (s p : List UInt8) (hs : s.length ≤ 2 ^ 40) (hp : p.length ≤ 2 ^ 40) : TrR Try.prog 51 [sV s, sV p] ([]) (.bool (decide ((p.length : Int) ≤ (s.length : Int) ∧ s.take p.length = p))) := by
 refine Tr.enter Try.func51 rfl Try.ntmps51 rfl (fun W F => ?_)
 refine Wp.app ?_
 refine Wr ?_
 refine Oa1 rfl rfl ?_
 refine On ?_
 refine Wr ?_
 refine Om1 rfl rfl ?_
 refine Ops.pv (pv_str_len (T := 9) rfl rfl) rfl ?_
 refine Om1 rfl rfl ?_
 refine Ops.pv (pv_str_len (T := 9) rfl rfl) rfl ?_
 refine Ops.pv (pv_geq rfl rfl) rfl ?_
 refine Om1 rfl rfl ?_
 refine Ops.pvc rfl rfl (fun hg => pv_move rfl) rfl ?_
 refine Ops.pvc rfl rfl (fun hg => Pv.setE (t := 11) rfl (cv_pos hg) (pv_move rfl)) rfl ?_
 refine Ops.pvc rfl rfl (fun hg => Pv.setE (t := 11) rfl (cv_pos hg) (Pv.setE (t := 12) rfl (cv_pos hg) (pv_str_len (T := 9) rfl rfl))) rfl ?_
 refine Ops.pvc rfl rfl (fun hg => Pv.setE (t := 11) rfl (cv_pos hg) (Pv.setE (t := 12) rfl (cv_pos hg) (Pv.setE (t := 13) rfl (cv_pos hg) (pv_str_upto (i := p.length) rfl rfl (by omega))))) rfl ?_
 refine Ops.pvc rfl rfl (fun hg => Pv.setE (t := 11) rfl (cv_pos hg) (Pv.setE (t := 12) rfl (cv_pos hg) (Pv.setE (t := 13) rfl (cv_pos hg) (Pv.setE (t := 14) rfl (cv_pos hg) (pv_move rfl))))) rfl ?_
 refine Ops.pvc rfl rfl (fun hg => Pv.setE (t := 11) rfl (cv_pos hg) (Pv.setE (t := 12) rfl (cv_pos hg) (Pv.setE (t := 13) rfl (cv_pos hg) (Pv.setE (t := 14) rfl (cv_pos hg) (Pv.setE (t := 15) rfl (cv_pos hg) (pv_str_eql rfl rfl)))))) rfl ?_
 refine Ops.pv (pv_pick_and rfl rfl) rfl ?_
 refine Oa1 rfl rfl ?_
 refine On ?_
 refine Wp.ret ?_
 exact Ends.ret (res1 rfl rfl) ⟨rfl, rfl⟩
theorem tr_cutY1 (p l : List UInt8) (hs : l.length ≤ 2 ^ 39) (hp : p.length ≤ 2 ^ 39) : TrR Try.prog 32 [sV (p ++ l), sV p] ([]) (.tuple #[sV l, .bool true]) := by
 have hy : (p.length : Int) ≤ ((p ++ l).length : Int) ∧ (p ++ l).take p.length = p := ⟨by simp only [List.length_append]; omega, List.take_left' rfl⟩
 refine Tr.enter Try.func32 rfl Try.ntmps32 rfl (fun W F => ?_)
 refine Wp.app ?_
 refine Wr ?_
 refine Oa1 rfl rfl ?_
 refine Oa1 rfl rfl ?_
 refine On ?_
 refine Wp.seq ?_
 refine Wr ?_
 refine Om1 rfl rfl ?_
 refine Om1 rfl rfl ?_
 refine Ops.ef rfl (ef_callr (tr_has (p ++ l) p (by simp only [List.length_append]; omega) (by omega)) rfl rfl) ?_
 rintro _ _ ⟨rfl, rfl⟩
 refine Ops.pv (pv_not_dec rfl) rfl ?_
 refine On ?_
 refine Wp.cond_dect rfl (fun h1 => absurd hy (by assumption)) (fun h1 => ?_)
 refine Wp.skip ?_
 refine Ends.seq ?_
 refine Wr ?_
 refine Om1 rfl rfl ?_
 refine Om1 rfl rfl ?_
 refine Ops.pv (pv_str_len (T := 9) rfl rfl) rfl ?_
 refine Ops.pv (pv_str_from (i := p.length) rfl rfl (by simp only [List.length_append]; omega)) rfl ?_
 refine Oa1 rfl rfl ?_
 refine Oa1 rfl rfl ?_
 refine On ?_
 refine Wp.ret ?_
 have hd : (p ++ l).drop p.length = l := List.drop_left' rfl
 rw [hd]
 exact Ends.ret (res2 rfl rfl rfl) ⟨rfl, rfl⟩
theorem tr_cutN1 (s p : List UInt8) (hs : s.length ≤ 2 ^ 39) (hp : p.length ≤ 2 ^ 39) (hn : s.take p.length ≠ p) : TrR Try.prog 32 [sV s, sV p] ([]) (.tuple #[sV s, .bool false]) := by
 refine Tr.enter Try.func32 rfl Try.ntmps32 rfl (fun W F => ?_)
 refine Wp.app ?_
 refine Wr ?_
 refine Oa1 rfl rfl ?_
 refine Oa1 rfl rfl ?_
 refine On ?_
 refine Wp.seq ?_
 refine Wr ?_
 refine Om1 rfl rfl ?_
 refine Om1 rfl rfl ?_
 refine Ops.ef rfl (ef_callr (tr_has s p (by omega) (by omega)) rfl rfl) ?_
 rintro _ _ ⟨rfl, rfl⟩
 refine Ops.pv (pv_not_dec rfl) rfl ?_
 refine On ?_
 refine Wp.cond_dect rfl (fun h1 => ?_) (fun h1 => (hn (And.right (by first | assumption | (apply Classical.byContradiction; assumption)))).elim)
 refine Wr ?_
 refine Om1 rfl rfl ?_
 refine Oa1 rfl rfl ?_
 refine Oa1 rfl rfl ?_
 refine On ?_
 refine Wp.ret ?_
 refine Ends.then_ret ?_
 exact Ends.ret (res2 rfl rfl rfl) ⟨rfl, rfl⟩
theorem tr_cutY (p l : List UInt8) (hs : l.length ≤ 2 ^ 39) (hp : p.length ≤ 2 ^ 39) : TrR Try.prog 18 [sV (p ++ l), sV p] ([]) (.tuple #[sV l, .bool true]) := by
 refine Tr.enter Try.func18 rfl Try.ntmps18 rfl (fun W F => ?_)
 refine Wp.app ?_
 refine Wr ?_
 refine Oa1 rfl rfl ?_
 refine Oa1 rfl rfl ?_
 refine On ?_
 refine Wr ?_
 refine Om1 rfl rfl ?_
 refine Om1 rfl rfl ?_
 refine Ops.ef rfl (ef_callr (tr_cutY1 p l hs hp) rfl rfl) ?_
 rintro _ _ ⟨rfl, rfl⟩
 refine Ops.pv (pv_extract rfl rfl) rfl ?_
 refine Ops.pv (pv_extract rfl rfl) rfl ?_
 refine Oa1 rfl rfl ?_
 refine Oa1 rfl rfl ?_
 refine On ?_
 refine Wp.ret ?_
 exact Ends.ret (res2 rfl rfl rfl) ⟨rfl, rfl⟩
theorem tr_cutN (s p : List UInt8) (hs : s.length ≤ 2 ^ 39) (hp : p.length ≤ 2 ^ 39) (hn : s.take p.length ≠ p) : TrR Try.prog 18 [sV s, sV p] ([]) (.tuple #[sV s, .bool false]) := by
 refine Tr.enter Try.func18 rfl Try.ntmps18 rfl (fun W F => ?_)
 refine Wp.app ?_
 refine Wr ?_
 refine Oa1 rfl rfl ?_
 refine Oa1 rfl rfl ?_
 refine On ?_
 refine Wr ?_
 refine Om1 rfl rfl ?_
 refine Om1 rfl rfl ?_
 refine Ops.ef rfl (ef_callr (tr_cutN1 s p hs hp hn) rfl rfl) ?_
 rintro _ _ ⟨rfl, rfl⟩
 refine Ops.pv (pv_extract rfl rfl) rfl ?_
 refine Ops.pv (pv_extract rfl rfl) rfl ?_
 refine Oa1 rfl rfl ?_
 refine Oa1 rfl rfl ?_
 refine On ?_
 refine Wp.ret ?_
 exact Ends.ret (res2 rfl rfl rfl) ⟨rfl, rfl⟩
def noD : Dd := ⟨[], [], [], [], [], [], []⟩
theorem noD_DS : DSB noD (.slice none 0 0) (.slice none 0 0) (.slice none 0 0) (.slice none 0 0) (.slice none 0 0) (.slice none 0 0) (.slice none 0 0) [] [] [] [] [] [] [] := ⟨Slc.nil _ _, Slc.nil _ _, Slc.nil _ _, Slc.nil _ _, Slc.nil _ _, Slc.nil _ _, Slc.nil _ _⟩
def DecP (s : List UInt8) (D : Dd) (e : Int) : Prop := (s.take 2 = [67, 68] ∧ rdD (s.drop 2) = some (D, []) ∧ e = 0) ∨ (¬ (s.take 2 = [67, 68] ∧ readsD (s.drop 2)) ∧ D = noD ∧ e = 10)
set_option maxHeartbeats 8000000 in
theorem tr_decY (s : List UInt8) (hs : s.length ≤ 2 ^ 30) (hp : s.take 2 = [67, 68]) : Tr Try.prog 8 [sV s] ([]) (fun u L' => ∃ (D : Dd) (e : Int) (v1 v2 v3 v4 v5 v6 v7 : Value) (H1 H2 H3 H4 H5 H6 H7 : Hp), DecP s D e ∧ DSB D v1 v2 v3 v4 v5 v6 v7 H1 H2 H3 H4 H5 H6 H7 ∧ u = .tuple #[.agg #[v1, v2, v3, v4, v5, v6, v7], .int .i64 e] ∧ L' = H1 ++ (H2 ++ (H3 ++ (H4 ++ (H5 ++ (H6 ++ H7)))))) := by
 obtain ⟨l, rfl⟩ : ∃ l, s = [67, 68] ++ l := ⟨s.drop 2, by rw [← hp, List.take_append_drop]⟩
 have hll : l.length ≤ 2 ^ 30 := by rw [List.length_append] at hs; omega
 refine Tr.enter Try.func8 rfl Try.ntmps8 rfl (fun W F => ?_)
 refine Wp.app ?_
 refine Wr ?_
 refine Ops.ef rfl (ef_allocK tyZ40 rfl) ?_
 rintro _ _ ⟨b1, rfl, rfl⟩
 refine Oa1 rfl rfl ?_
 refine On ?_
 refine Wr ?_
 refine Om1 rfl rfl ?_
 refine Ops.ef rfl (ef_callr (tr_cutY [67, 68] l (by omega) (by simp)) rfl rfl) ?_
 rintro _ _ ⟨rfl, rfl⟩
 refine Om1 rfl rfl ?_
 refine Ops.pv (pv_extract rfl rfl) rfl ?_
 refine Ops.pv (pv_extract rfl rfl) rfl ?_
 refine Oa1 rfl rfl ?_
 refine Oa1 rfl rfl ?_
 refine On ?_
 refine Wr ?_
 refine Om1 rfl rfl ?_
 refine Ops.pv (pv_build rfl) rfl ?_
 refine Ops.ef rfl (ef_boxK rfl rfl) ?_
 rintro _ _ ⟨b2, rfl, rfl⟩
 refine Oa1 rfl rfl ?_
 refine On ?_
 refine Wr ?_
 refine Ops.ef rfl (ef_allocK tyZ40 rfl) ?_
 rintro _ _ ⟨b3, rfl, rfl⟩
 refine On ?_
 refine Wp.seq ?_
 refine Wr ?_
 refine Om1 rfl rfl ?_
 refine Ops.pv (pv_not rfl) rfl ?_
 refine Om1 rfl rfl ?_
 refine Ops.pvg ⟨_, _, rfl, rfl, rfl⟩ (pv_move rfl) rfl ?_
 refine Ops.efg ⟨_, _, rfl, rfl, rfl⟩ (ef_call (tr_runR b2 (.pointer none) (.slice none 0 0) l (by omega) rfl rfl b3) rfl rfl) ?_
 rintro _ _ ⟨_, M1, ⟨rfl, hy⟩, rfl, rfl⟩
 refine Ops.app ?_
 skip
 refine Ops.pvg ⟨_, _, rfl, rfl, rfl⟩ (pv_not rfl) rfl ?_
 refine Ops.pv (pv_pick_false rfl rfl) rfl ?_
 refine On ?_
 refine Wp.cond_t rfl (fun h1 => ?_) (fun h1 => ?_)
 ·
  have hno : ¬ readsD l := by simpa using h1
  refine Wr ?_
  refine Ops.pv (pv_build rfl) rfl ?_
  refine Ops.ef rfl (ef_storeK rfl rfl rfl rfl) ?_
  rintro _ _ ⟨rfl, rfl⟩
  refine Oa1 rfl rfl ?_
  refine On ?_
  refine Wp.ret ?_
  refine Ends.then_ret ?_
  exact Ends.ret (L' := []) (res_list (rs := [.cell 2 40, .tmp 3]) rfl ⟨_, _, rfl, rv_cellK [_, _, _, _, _, _, _] rfl rfl rfl ⟨rfl, rfl, rfl, rfl, rfl, rfl, rfl, trivial⟩, ⟨_, _, rfl, rv_tmp rfl, rfl⟩⟩ rfl) ⟨noD, 10, _, _, _, _, _, _, _, _, _, _, _, _, _, _, .inr ⟨fun h => hno h.2, rfl, rfl⟩, noD_DS, rfl, rfl⟩
 have hyes : readsD l := by simpa using h1
 obtain ⟨D, v1, v2, v3, v4, v5, v6, v7, H1, H2, H3, H4, H5, H6, H7, hrd, hds, rfl⟩ := hy hyes
 obtain ⟨x1, y1, rfl⟩ := hds.o.form
 obtain ⟨x2, y2, rfl⟩ := hds.p.form
 obtain ⟨x3, y3, rfl⟩ := hds.m.form
 obtain ⟨x4, y4, rfl⟩ := hds.f.form
 obtain ⟨x5, y5, rfl⟩ := hds.t.form
 obtain ⟨x6, y6, rfl⟩ := hds.w.form
 obtain ⟨x7, y7, rfl⟩ := hds.s.form
 refine Wp.app ?_
 refine Wp.skip ?_
 refine Ends.seq ?_
 refine Wr ?_
 refine Ops.pv (pv_loadK [_, _, _, _, _, _, _] rfl rfl rfl ⟨rfl, rfl, rfl, rfl, rfl, rfl, rfl, trivial⟩) rfl ?_
 refine Ops.ef rfl (ef_storeK rfl rfl rfl rfl) ?_
 rintro _ _ ⟨rfl, rfl⟩
 refine Oa1 rfl rfl ?_
 refine On ?_
 refine Wp.ret ?_
 exact Ends.ret (L' := H1 ++ (H2 ++ (H3 ++ (H4 ++ (H5 ++ (H6 ++ H7)))))) (res_list (rs := [.cell 2 40, .tmp 3]) rfl ⟨_, _, rfl, rv_cellK [_, _, _, _, _, _, _] rfl rfl rfl ⟨rfl, rfl, rfl, rfl, rfl, rfl, rfl, trivial⟩, ⟨_, _, rfl, rv_tmp rfl, rfl⟩⟩ rfl) ⟨D, 0, _, _, _, _, _, _, _, _, _, _, _, _, _, _, .inl ⟨hp, hrd, rfl⟩, hds, rfl, rfl⟩
set_option maxHeartbeats 8000000 in
theorem tr_decN (s : List UInt8) (hs : s.length ≤ 2 ^ 30) (hp : s.take 2 ≠ [67, 68]) : Tr Try.prog 8 [sV s] ([]) (fun u L' => ∃ (D : Dd) (e : Int) (v1 v2 v3 v4 v5 v6 v7 : Value) (H1 H2 H3 H4 H5 H6 H7 : Hp), DecP s D e ∧ DSB D v1 v2 v3 v4 v5 v6 v7 H1 H2 H3 H4 H5 H6 H7 ∧ u = .tuple #[.agg #[v1, v2, v3, v4, v5, v6, v7], .int .i64 e] ∧ L' = H1 ++ (H2 ++ (H3 ++ (H4 ++ (H5 ++ (H6 ++ H7)))))) := by
 refine Tr.enter Try.func8 rfl Try.ntmps8 rfl (fun W F => ?_)
 refine Wp.app ?_
 refine Wr ?_
 refine Ops.ef rfl (ef_allocK tyZ40 rfl) ?_
 rintro _ _ ⟨b1, rfl, rfl⟩
 refine Oa1 rfl rfl ?_
 refine On ?_
 refine Wr ?_
 refine Om1 rfl rfl ?_
 refine Ops.ef rfl (ef_callr (tr_cutN s [67, 68] (by omega) (by simp) hp) rfl rfl) ?_
 rintro _ _ ⟨rfl, rfl⟩
 refine Om1 rfl rfl ?_
 refine Ops.pv (pv_extract rfl rfl) rfl ?_
 refine Ops.pv (pv_extract rfl rfl) rfl ?_
 refine Oa1 rfl rfl ?_
 refine Oa1 rfl rfl ?_
 refine On ?_
 refine Wr ?_
 refine Om1 rfl rfl ?_
 refine Ops.pv (pv_build rfl) rfl ?_
 refine Ops.ef rfl (ef_boxK rfl rfl) ?_
 rintro _ _ ⟨b2, rfl, rfl⟩
 refine Oa1 rfl rfl ?_
 refine On ?_
 refine Wr ?_
 refine Ops.ef rfl (ef_allocK tyZ40 rfl) ?_
 rintro _ _ ⟨b3, rfl, rfl⟩
 refine On ?_
 refine Wp.seq ?_
 refine Wr ?_
 refine Om1 rfl rfl ?_
 refine Ops.pv (pv_not rfl) rfl ?_
 refine Om1 rfl rfl ?_
 refine Os1 rfl rfl rfl rfl ?_
 refine Os1 rfl rfl rfl rfl ?_
 refine Os1 rfl rfl rfl rfl ?_
 refine Ops.pv (pv_pick_true rfl rfl) rfl ?_
 refine On ?_
 refine Wp.cond_true rfl ?_
 refine Wr ?_
 refine Ops.pv (pv_build rfl) rfl ?_
 refine Ops.ef rfl (ef_storeK rfl rfl rfl rfl) ?_
 rintro _ _ ⟨rfl, rfl⟩
 refine Oa1 rfl rfl ?_
 refine On ?_
 refine Wp.ret ?_
 refine Ends.then_ret ?_
 exact Ends.ret (L' := []) (res_list (rs := [.cell 2 40, .tmp 3]) rfl ⟨_, _, rfl, rv_cellK [_, _, _, _, _, _, _] rfl rfl rfl ⟨rfl, rfl, rfl, rfl, rfl, rfl, rfl, trivial⟩, ⟨_, _, rfl, rv_tmp rfl, rfl⟩⟩ rfl) ⟨noD, 10, _, _, _, _, _, _, _, _, _, _, _, _, _, _, .inr ⟨fun h => hp h.1, rfl, rfl⟩, noD_DS, rfl, rfl⟩
end Go.Proofs.Ytkldjadpoknejaa
end
