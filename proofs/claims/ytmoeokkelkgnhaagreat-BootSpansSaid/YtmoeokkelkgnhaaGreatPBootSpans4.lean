/- BootSpans. Laid together by pack.py out of the texts in wip. -/
import Derived.Test.YtmoeokkelkgnhaaGreatPBootSpans3
set_option linter.unusedVariables false
set_option linter.unusedSimpArgs false
set_option linter.unusedSectionVars false
set_option maxHeartbeats 64000000
namespace Go.Proofs.YtmoeokkelkgnhaaGreat
open Go.SL
open Go.Proofs.Tryz
section
theorem tr_memNew(n:Nat)(h1:64≤n)(h2:n≤65536):Tr prog 79 [.int .i64 n] ([]) (fun u L' => ∃mb wb,u=.tuple #[memP mb,.int .i64 0]∧L' = memB mb wb n (List.replicate n 0)):=by
 refine YR func79 ntmps79 fun W F=>?_
 refine zq [3,4,1,1,2,5,3,3,4,0,42,0] ?_;refine Yn rfl rfl (fun hg=>pv_move rfl) ?_;refine Yn rfl rfl (fun hg=>Ys 7 rfl hg (pv_gtr rfl rfl)) ?_;refine zq [47,2,5] ?_;refine Yd rfl (fun h1=>(by exfalso;omega)) (fun h1=>?_);refine zq [11,5,3,4,0] ?_;refine Ops.ef rfl (ef_makeSlice (r:=n) [.int .u64 0] rfl rfl rfl rfl (by decide) (by omega) (by omega) (by decide) rfl) ?_;rintro _ _ ⟨wb1,rfl,rfl⟩;rw[rep_words];refine zq [23] ?_;refine zB fun b1=>?_
 refine zq [1,1,2,5,10] ?_;exact zs (L' := memB b1 wb1 n (List.replicate n 0)) (h:=⟨b1,wb1,rfl,by simp⟩)
section
variable(ws:List Int)(mb wb N:Nat)
include ws mb wb N
theorem tr_memSize:TrR prog 85 [memP mb] (memB mb wb N ws) (.int .i64 N):=by
 refine YR func85 ntmps85 fun W F=>?_
 refine zq [3,4,1,2,5,3,4,0,9,6,8] ?_;refine Yp (pv_len_slice (T:=92) rfl rfl) ?_;refine zq [1,2,5,10] ?_;exact zr ⟨rfl,rfl⟩
theorem tr_memPartN(a n:Int)(hl:ws.length=N)(hN:N≤65536)(h:¬memIn ws a n)(hn:I64 n):TrR prog 105 [memP mb,.int .i64 a,.int .i64 n] (memB mb wb N ws) (.tuple #[.slice none 0 0,.bool false]):=by
 unfold memIn at h;unfold I64 at hn;refine YR func105 ntmps105 fun W F=>?_
 refine zq [3,4,1,1,2,5,3,3,4,0,42,0] ?_;refine Yn rfl rfl (fun hg=>pv_move rfl) ?_;refine Yn rfl rfl (fun hg=>Ys 11 rfl hg (pv_lss rfl rfl)) ?_;refine zq [47,0] ?_;refine Yn rfl rfl (fun hg=>pv_move rfl) ?_;refine Yn rfl rfl (fun hg=>Ys 15 rfl hg (pv_move rfl)) ?_;refine Yn rfl rfl (fun hg=>Ys 15 rfl hg (Ys 16 rfl hg (pv_nilCheck rfl))) ?_;refine Yn rfl rfl (fun hg=>Ys 15 rfl hg (Ys 16 rfl hg (Ys 17 rfl hg (pv_fieldAddr0 rfl rfl)))) ?_;refine Yn rfl rfl (fun hg=>Ys 15 rfl hg (Ys 16 rfl hg (Ys 17 rfl hg (Ys 18 rfl hg (pv_load rfl rfl rfl))))) ?_;refine Yn rfl rfl (fun hg=>Ys 15 rfl hg (Ys 16 rfl hg (Ys 17 rfl hg (Ys 18 rfl hg (Ys 19 rfl hg (pv_len_slice (T:=92) rfl rfl)))))) ?_;refine Yn rfl rfl (fun hg=>Ys 15 rfl hg (Ys 16 rfl hg (Ys 17 rfl hg (Ys 18 rfl hg (Ys 19 rfl hg (Ys 20 rfl hg (pv_gtr rfl rfl))))))) ?_;refine zq [47,0] ?_;refine Yn rfl rfl (fun hg=>pv_move rfl) ?_;refine Yn rfl rfl (fun hg=>Ys 24 rfl hg (pv_move rfl)) ?_;refine Yn rfl rfl (fun hg=>Ys 24 rfl hg (Ys 25 rfl hg (pv_nilCheck rfl))) ?_;refine Yn rfl rfl (fun hg=>Ys 24 rfl hg (Ys 25 rfl hg (Ys 26 rfl hg (pv_fieldAddr0 rfl rfl)))) ?_;refine Yn rfl rfl (fun hg=>Ys 24 rfl hg (Ys 25 rfl hg (Ys 26 rfl hg (Ys 27 rfl hg (pv_load rfl rfl rfl))))) ?_;refine Yn rfl rfl (fun hg=>Ys 24 rfl hg (Ys 25 rfl hg (Ys 26 rfl hg (Ys 27 rfl hg (Ys 28 rfl hg (pv_len_slice (T:=92) rfl rfl)))))) ?_;refine Yn rfl rfl (fun hg=>Ys 24 rfl hg (Ys 25 rfl hg (Ys 26 rfl hg (Ys 27 rfl hg (Ys 28 rfl hg (Ys 29 rfl hg (pv_move rfl))))))) ?_;refine Yn rfl rfl (fun hg=>Ys 24 rfl hg (Ys 25 rfl hg (Ys 26 rfl hg (Ys 27 rfl hg (Ys 28 rfl hg (Ys 29 rfl hg (Ys 30 rfl hg (pv_sub rfl rfl (w64 (by omega) (by omega)))))))))) ?_;refine Yn rfl rfl (fun hg=>Ys 24 rfl hg (Ys 25 rfl hg (Ys 26 rfl hg (Ys 27 rfl hg (Ys 28 rfl hg (Ys 29 rfl hg (Ys 30 rfl hg (Ys 31 rfl hg (pv_gtr rfl rfl))))))))) ?_;refine zq [47,2,5] ?_;refine Yd rfl (fun h1=>?_) (fun h1=>(by exfalso;omega));refine zq [3,4,1,1,2,5,10,12] ?_;exact zr ⟨rfl,rfl⟩
theorem tr_memPartY(a n:Nat)(hl:ws.length=N)(hN:N≤65536)(h:a<N)(h2:a+n≤N):TrR prog 105 [memP mb,.int .i64 a,.int .i64 n] (memB mb wb N ws) (.tuple #[.slice (some ⟨wb,a,none⟩) n (N-a),.bool true]):=by
 refine YR func105 ntmps105 fun W F=>?_
 refine zq [3,4,1,1,2,5,3,3,4,0,42,0] ?_;refine Yn rfl rfl (fun hg=>pv_move rfl) ?_;refine Yn rfl rfl (fun hg=>Ys 11 rfl hg (pv_lss rfl rfl)) ?_;refine zq [47,0] ?_;refine Yn rfl rfl (fun hg=>pv_move rfl) ?_;refine Yn rfl rfl (fun hg=>Ys 15 rfl hg (pv_move rfl)) ?_;refine Yn rfl rfl (fun hg=>Ys 15 rfl hg (Ys 16 rfl hg (pv_nilCheck rfl))) ?_;refine Yn rfl rfl (fun hg=>Ys 15 rfl hg (Ys 16 rfl hg (Ys 17 rfl hg (pv_fieldAddr0 rfl rfl)))) ?_;refine Yn rfl rfl (fun hg=>Ys 15 rfl hg (Ys 16 rfl hg (Ys 17 rfl hg (Ys 18 rfl hg (pv_load rfl rfl rfl))))) ?_;refine Yn rfl rfl (fun hg=>Ys 15 rfl hg (Ys 16 rfl hg (Ys 17 rfl hg (Ys 18 rfl hg (Ys 19 rfl hg (pv_len_slice (T:=92) rfl rfl)))))) ?_;refine Yn rfl rfl (fun hg=>Ys 15 rfl hg (Ys 16 rfl hg (Ys 17 rfl hg (Ys 18 rfl hg (Ys 19 rfl hg (Ys 20 rfl hg (pv_gtr rfl rfl))))))) ?_;refine zq [47,0] ?_;refine Yn rfl rfl (fun hg=>pv_move rfl) ?_;refine Yn rfl rfl (fun hg=>Ys 24 rfl hg (pv_move rfl)) ?_;refine Yn rfl rfl (fun hg=>Ys 24 rfl hg (Ys 25 rfl hg (pv_nilCheck rfl))) ?_;refine Yn rfl rfl (fun hg=>Ys 24 rfl hg (Ys 25 rfl hg (Ys 26 rfl hg (pv_fieldAddr0 rfl rfl)))) ?_;refine Yn rfl rfl (fun hg=>Ys 24 rfl hg (Ys 25 rfl hg (Ys 26 rfl hg (Ys 27 rfl hg (pv_load rfl rfl rfl))))) ?_;refine Yn rfl rfl (fun hg=>Ys 24 rfl hg (Ys 25 rfl hg (Ys 26 rfl hg (Ys 27 rfl hg (Ys 28 rfl hg (pv_len_slice (T:=92) rfl rfl)))))) ?_;refine Yn rfl rfl (fun hg=>Ys 24 rfl hg (Ys 25 rfl hg (Ys 26 rfl hg (Ys 27 rfl hg (Ys 28 rfl hg (Ys 29 rfl hg (pv_move rfl))))))) ?_;refine Yn rfl rfl (fun hg=>Ys 24 rfl hg (Ys 25 rfl hg (Ys 26 rfl hg (Ys 27 rfl hg (Ys 28 rfl hg (Ys 29 rfl hg (Ys 30 rfl hg (pv_sub rfl rfl (w64 (by omega) (by omega)))))))))) ?_;refine Yn rfl rfl (fun hg=>Ys 24 rfl hg (Ys 25 rfl hg (Ys 26 rfl hg (Ys 27 rfl hg (Ys 28 rfl hg (Ys 29 rfl hg (Ys 30 rfl hg (Ys 31 rfl hg (pv_gtr rfl rfl))))))))) ?_;refine zq [47,2,5] ?_;refine Yd rfl (fun h1=>(by exfalso;omega)) (fun h1=>?_);refine zq [11,5,3,4,0,9,6,8,0] ?_;refine Yp ((pv_slice (i:=a) (j:=N) rfl (by exact ⟨.i64,rfl⟩) (by exact rfl) (by omega) (by omega)).is (u:=.slice (some ⟨wb,a,none⟩) (N-a) (N-a)) (by rw[if_neg (by omega)];simp[addr_add])) ?_;refine zq [0] ?_;refine Yp (pv_sliceTo (j:=n) rfl (by exact ⟨.i64,rfl⟩) (by omega)) ?_;refine zq [1,1,2,5,10] ?_;exact zr ⟨rfl,rfl⟩
theorem tr_memGetY(k:Nat)(hl:ws.length=N)(hN:N≤65536)(h:k<N):TrR prog 169 [memP mb,.int .i64 k] (memB mb wb N ws) (.tuple #[.int .u64 (memAt ws k),.int .i64 0]):=by
 refine YR func169 ntmps169 fun W F=>?_
 refine zq [3,4,1,1,2,5,3,4,0,0] ?_;refine zC (tr_memPartY ws mb wb N k 1 hl hN h (by omega)) ?_;refine zq [0,7,7,1,1,2,5,3,3,4,0,39,2,5,17,11,5,3,4,0] ?_;refine Yp (pv_indexAddr (i:=0) rfl rfl rfl (by first | omega | (simp;done) | (simp;omega))) ?_;refine Yp (pv_load rfl rfl (word_nth (by omega))) ?_;refine zq [1,1,2,5,10] ?_;exact zr ⟨rfl,rfl⟩
theorem tr_memGetN(a:Int)(hl:ws.length=N)(hN:N≤65536)(h:¬memIn ws a 1):TrR prog 169 [memP mb,.int .i64 a] (memB mb wb N ws) (.tuple #[.int .u64 0,.int .i64 1]):=by
 refine YR func169 ntmps169 fun W F=>?_
 refine zq [3,4,1,1,2,5,3,4,0,0] ?_;refine zC (tr_memPartN ws mb wb N a 1 hl hN h (by unfold I64;omega)) ?_;refine zq [0,7,7,1,1,2,5,3,3,4,0,39,2,5,18,3,4,1,1,2,5,10,12] ?_;exact zr ⟨rfl,rfl⟩
theorem tr_memGet(a:Int)(hl:ws.length=N)(hN:N≤65536):TrR prog 169 [memP mb,.int .i64 a] (memB mb wb N ws) (.tuple #[.int .u64 (memGet ws a).1,.int .i64 (memGet ws a).2]):=by
 unfold memGet
 by_cases hin:memIn ws a 1
 ·
  rw[if_pos hin];have hi:=memIn_one.1 hin
  obtain ⟨k,rfl⟩:∃k:Nat,a=(k:Int):=⟨a.toNat,by omega⟩;exact tr_memGetY ws mb wb N k hl hN (by omega)
 rw[if_neg hin];exact tr_memGetN ws mb wb N a hl hN hin
theorem tr_memPutY(k:Nat)(v:Int)(hl:ws.length=N)(hN:N≤65536)(h:k<N):Tr prog 112 [memP mb,.int .i64 k,.int .u64 v] (memB mb wb N ws) (fun u L' => u=.int .i64 0∧L' = memB mb wb N (ws.set k v)):=by
 have hset:=word_set (ws:=ws) (v:=v) (a:=k) (by omega)
 refine YR func112 ntmps112 fun W F=>?_
 refine zq [3,4,1,2,5,3,4,0,0] ?_;refine zC (tr_memPartY ws mb wb N k 1 hl hN h (by omega)) ?_;refine zq [0,7,7,1,1,2,5,3,3,4,0,39,2,5,17,11,5,3,4,0,0] ?_;refine Yp (pv_indexAddr (i:=0) rfl rfl rfl (by first | omega | (simp;done) | (simp;omega))) ?_;refine zq [25,2,5,3,4,1,2,5,10] ?_;exact zr (L' := memB mb wb N (ws.set k v)) ⟨rfl,rfl⟩
theorem tr_memPutN(a:Int)(v:Int)(hl:ws.length=N)(hN:N≤65536)(h:¬memIn ws a 1):TrR prog 112 [memP mb,.int .i64 a,.int .u64 v] (memB mb wb N ws) (.int .i64 1):=by
 refine YR func112 ntmps112 fun W F=>?_
 refine zq [3,4,1,2,5,3,4,0,0] ?_;refine zC (tr_memPartN ws mb wb N a 1 hl hN h (by unfold I64;omega)) ?_;refine zq [0,7,7,1,1,2,5,3,3,4,0,39,2,5,18,3,4,1,2,5,10,12] ?_;exact zr ⟨rfl,rfl⟩
theorem tr_memPut(a v:Int)(hl:ws.length=N)(hN:N≤65536):Tr prog 112 [memP mb,.int .i64 a,.int .u64 v] (memB mb wb N ws) (fun u L' => u=.int .i64 (memPutE ws a)∧L' = memB mb wb N (memPut ws a v)):=by
 unfold memPutE memPut
 by_cases hin:memIn ws a 1
 ·
  rw[if_pos hin,if_pos hin];have hi:=memIn_one.1 hin
  obtain ⟨k,rfl⟩:∃k:Nat,a=(k:Int):=⟨a.toNat,by omega⟩;exact tr_memPutY ws mb wb N k v hl hN (by omega)
 rw[if_neg hin,if_neg hin];exact tr_memPutN ws mb wb N a v hl hN hin
theorem tr_memZero(a n:Nat)(hl:ws.length=N)(hN:N≤65536)(hn:0<n)(h:a+n≤N):Tr prog 87 [memP mb,.int .i64 a,.int .i64 n] (memB mb wb N ws) (fun u L' => u=.int .i64 0∧L' = memB mb wb N (zeroW ws a n)):=by
 refine YR func87 ntmps87 fun W F=>?_
 refine zq [3,4,1,2,5,3,4,0,0,0] ?_;refine zC (tr_memPartY ws mb wb N a n hl hN (by omega) h) ?_;refine zq [0,7,7,1,1,2,5,3,3,4,0,39,2,5,17,11,5,3,4,0] ?_;refine Yo (ef_clear (T:=92) rfl hn rfl rfl rfl (by rw[wordsC_len];omega)) ?_;rw[zero_cells];refine zq [2,5,3,4,1,2,5,10] ?_;exact zr (L' := memB mb wb N (zeroW ws a n)) ⟨rfl,rfl⟩
end
section
variable(s:Int×Int)
include s
theorem tr_spIn:TrR prog 50 [slotV s] ([]) (.bool (decide (inRangeS s))):=by
 refine YR func50 ntmps50 fun W F=>?_
 refine Wr ?_;refine zB fun b1=>?_
 refine zq [1,2,5,3] ?_;refine AnyH.start [(b1,.cells [.int .i64 s.1,.int .i64 s.2].toArray 55)] 23 rfl ?_;refine zd [0,0,1,2] ?_;refine Yh 2 rfl (pv_geq rfl rfl) ?_;refine zd [3,1] ?_;refine Yk 4 rfl rfl rfl (fun hg=>pv_fieldAddr0 rfl rfl) ?_;refine Yk 5 rfl rfl rfl (fun hg=>Ys 7 rfl hg (pv_load rfl rfl rfl)) ?_;refine Yk 6 rfl rfl rfl (fun hg=>Ys 7 rfl hg (Ys 8 rfl hg (pv_leq rfl rfl))) ?_;refine Yh 7 rfl (pv_pick_and rfl rfl) ?_;refine zd [8,1] ?_;refine Yk 9 rfl rfl rfl (fun hg=>pv_fieldAddr0 rfl rfl) ?_;refine Yk 10 rfl rfl rfl (fun hg=>Ys 12 rfl hg (pv_load rfl rfl rfl)) ?_;refine Yk 11 rfl rfl rfl (fun hg=>Ys 12 rfl hg (Ys 13 rfl hg (pv_geq rfl rfl))) ?_;refine Yh 12 rfl (pv_pick_and rfl rfl) ?_;refine zd [13,1] ?_;refine Yk 14 rfl rfl rfl (fun hg=>pv_fieldAddr0 rfl rfl) ?_;refine Yk 15 rfl rfl rfl (fun hg=>Ys 17 rfl hg (pv_load rfl rfl rfl)) ?_;refine Yk 16 rfl rfl rfl (fun hg=>Ys 17 rfl hg (Ys 18 rfl hg (pv_fieldAddr0 rfl rfl))) ?_;refine Yk 17 rfl rfl rfl (fun hg=>Ys 17 rfl hg (Ys 18 rfl hg (Ys 19 rfl hg (pv_load rfl rfl rfl)))) ?_;refine Yk 18 rfl rfl rfl (fun hg=>Ys 17 rfl hg (Ys 18 rfl hg (Ys 19 rfl hg (Ys 20 rfl hg (pv_shl rfl rfl (by omega) (sh1i (by omega) (by omega))))))) ?_;refine Yk 19 rfl rfl rfl (fun hg=>Ys 17 rfl hg (Ys 18 rfl hg (Ys 19 rfl hg (Ys 20 rfl hg (Ys 21 rfl hg (pv_sub rfl rfl (w64 (by have:=pw_le (b:=s.2) (by omega);omega) (by have:=pw_le (b:=s.2) (by omega);omega)))))))) ?_;refine Yk 20 rfl rfl rfl (fun hg=>Ys 17 rfl hg (Ys 18 rfl hg (Ys 19 rfl hg (Ys 20 rfl hg (Ys 21 rfl hg (Ys 22 rfl hg (pv_leq rfl rfl))))))) ?_;refine Yh 21 rfl (pv_pick_and rfl rfl) ?_;refine zd [22,5] ?_;refine YD ?_;refine zq [5,10] ?_;exact zr ⟨rfl,rfl⟩
theorem tr_spRight:TrR prog 51 [slotV s] ([]) (.bool (decide (rightS s))):=by
 refine YR func51 ntmps51 fun W F=>?_
 refine Wr ?_;refine zB fun b1=>?_
 refine zq [1,2,5,3] ?_;refine AnyH.start [(b1,.cells [.int .i64 s.1,.int .i64 s.2].toArray 55)] 13 rfl ?_;refine zd [0,10] ?_;refine YA 1 ?_;refine Yu rfl rfl (ef_callr (tr_spIn s) rfl rfl) ?_;refine zd [2,1] ?_;refine Yk 3 rfl rfl rfl (fun hg=>pv_fieldAddr0 rfl rfl) ?_;refine Yk 4 rfl rfl rfl (fun hg=>Ys 6 rfl hg (pv_load rfl rfl rfl)) ?_;refine Yk 5 rfl rfl rfl (fun hg=>Ys 6 rfl hg (Ys 7 rfl hg (pv_fieldAddr0 rfl rfl))) ?_;refine Yk 6 rfl rfl rfl (fun hg=>Ys 6 rfl hg (Ys 7 rfl hg (Ys 8 rfl hg (pv_load rfl rfl rfl)))) ?_;refine Yk 7 rfl rfl rfl (fun hg=>Ys 6 rfl hg (Ys 7 rfl hg (Ys 8 rfl hg (Ys 9 rfl hg (pv_shl rfl rfl (by unfold inRangeS at hg;omega) (sh1i (by unfold inRangeS at hg;omega) (by unfold inRangeS at hg;omega))))))) ?_;refine Yk 8 rfl rfl rfl (fun hg=>Ys 6 rfl hg (Ys 7 rfl hg (Ys 8 rfl hg (Ys 9 rfl hg (Ys 10 rfl hg (pv_sub rfl rfl (w64 (by unfold inRangeS at hg;have:=pw_le (b:=s.2) (by omega);omega) (by unfold inRangeS at hg;have:=pw_le (b:=s.2) (by omega);omega)))))))) ?_;refine Yk 9 rfl rfl rfl (fun hg=>Ys 6 rfl hg (Ys 7 rfl hg (Ys 8 rfl hg (Ys 9 rfl hg (Ys 10 rfl hg (Ys 11 rfl hg (pv_and rfl rfl (and_pw (by unfold inRangeS at hg;omega) (by unfold inRangeS at hg;have:=pw_le (b:=s.2) (by omega);omega) (by unfold inRangeS at hg;omega))))))))) ?_;refine Yk 10 rfl rfl rfl (fun hg=>Ys 6 rfl hg (Ys 7 rfl hg (Ys 8 rfl hg (Ys 9 rfl hg (Ys 10 rfl hg (Ys 11 rfl hg (Ys 12 rfl hg (pv_eql rfl rfl)))))))) ?_;refine Yh 11 rfl (pv_pick_and rfl rfl) ?_;refine zd [12,5] ?_;refine YD ?_;refine zq [5,10] ?_;exact zr ⟨rfl,rfl⟩
theorem tr_spEnd(h:inRangeS s):TrR prog 52 [slotV s] ([]) (.int .i64 (endS s)):=by
 unfold inRangeS at h;refine YR func52 ntmps52 fun W F=>?_
 refine Wr ?_;refine zB fun b1=>?_
 refine zq [1,2,5,3] ?_;refine AnyH.start [(b1,.cells [.int .i64 s.1,.int .i64 s.2].toArray 55)] 7 rfl ?_;refine zd [0,0,1,2,2,0,3,2] ?_;refine Yh 4 rfl (pv_shl rfl rfl (by omega) (sh1i (by omega) (by omega))) ?_;refine Yh 5 rfl (pv_add rfl rfl (w64 (by have:=pw_le (b:=s.2) (by omega);omega) (by have:=pw_le (b:=s.2) (by omega);omega))) ?_;refine zd [6,5] ?_;refine YD ?_;refine zq [5,10] ?_;exact zr ⟨rfl,rfl⟩
theorem tr_spCheck(n:Int):TrR prog 16 [slotV s,.int .i64 n] ([]) (.int .i64 (checkS s n)):=by
 refine YR func16 ntmps16 fun W F=>?_
 refine Wr ?_;refine zB fun b1=>?_
 refine zq [1,2,5,3,20,3,4,30] ?_;refine zC (tr_spIn s) ?_;refine zq [55,1,2,5] ?_;refine Yd rfl (fun h1=>?_) (fun h1=>?_)
 ·
  refine zq [3,4,1,2,5,10,15,12] ?_;exact zs (h:=⟨by simp_all [checkS],rfl⟩)
 have hin:inRangeS s:=by simp_all
 refine zq [3,4,30] ?_;refine zC (tr_spRight s) ?_;refine zq [55,1,2,5] ?_;refine Yd rfl (fun h2=>?_) (fun h2=>?_)
 ·
  refine zq [3,4,1,2,5,10,15,12] ?_;exact zs (h:=⟨by simp_all [checkS],rfl⟩)
 refine zq [3,4,30] ?_;refine zC (tr_spEnd s hin) ?_;refine zq [0,44,1,2,5] ?_;refine Yd rfl (fun h3=>?_) (fun h3=>?_)
 ·
  refine zq [3,4,1,2,5,10,15,12] ?_;exact zs (h:=⟨by simp_all [checkS],rfl⟩)
 refine zq [11,19,5,3,4,1,2,5,10] ?_;exact zs (h:=⟨by simp_all [checkS],rfl⟩)
end
theorem tr_spIs(s t:Int×Int):TrR prog 103 [slotV s,slotV t] ([]) (.bool (decide (inS s t))):=by
 refine YR func103 ntmps103 fun W F=>?_
 refine Wr ?_;refine zB fun b1=>?_
 refine zB fun b2=>?_
 refine zq [1,2,5,3] ?_;refine AnyH.start [(b1,.cells [.int .i64 s.1,.int .i64 s.2].toArray 55),(b2,.cells [.int .i64 t.1,.int .i64 t.2].toArray 55)] 27 rfl ?_;refine zd [0,10] ?_;refine YA 1 ?_;refine Yu rfl rfl (ef_callr (tr_spRight s) rfl rfl) ?_;refine zd [2,1] ?_;refine AnyH.split (t:=7) rfl (fun h1=>?_) (fun h1=>?_)
 ·
  refine Yt 3 rfl (pv_loadK [_,_] rfl rfl rfl ⟨rfl,rfl,trivial⟩) ?_;refine YA 4 ?_;refine Turn.ef rfl ⟨_,_,rfl,rfl,rfl⟩ (ef_callr (tr_spRight t) rfl rfl) ?_ ?_ <;> rintro _ _ ⟨rfl,rfl⟩
  ·infer_instance
  refine Yh 5 rfl (pv_pick_true rfl rfl) ?_;refine zd [6,1] ?_;refine Yk 7 rfl rfl rfl (fun hg=>pv_fieldAddr0 rfl rfl) ?_;refine Yk 8 rfl rfl rfl (fun hg=>Ys 12 rfl hg (pv_load rfl rfl rfl)) ?_;refine Yk 9 rfl rfl rfl (fun hg=>Ys 12 rfl hg (Ys 13 rfl hg (pv_fieldAddr0 rfl rfl))) ?_;refine Yk 10 rfl rfl rfl (fun hg=>Ys 12 rfl hg (Ys 13 rfl hg (Ys 14 rfl hg (pv_load rfl rfl rfl)))) ?_;refine Yk 11 rfl rfl rfl (fun hg=>Ys 12 rfl hg (Ys 13 rfl hg (Ys 14 rfl hg (Ys 15 rfl hg (pv_leq rfl rfl))))) ?_;refine Yh 12 rfl (pv_pick_and rfl rfl) ?_;refine zd [13,1] ?_;refine Yk 14 rfl rfl rfl (fun hg=>pv_fieldAddr0 rfl rfl) ?_;refine Yk 15 rfl rfl rfl (fun hg=>Ys 19 rfl hg (pv_load rfl rfl rfl)) ?_;refine Yk 16 rfl rfl rfl (fun hg=>Ys 19 rfl hg (Ys 20 rfl hg (pv_fieldAddr0 rfl rfl))) ?_;refine Yk 17 rfl rfl rfl (fun hg=>Ys 19 rfl hg (Ys 20 rfl hg (Ys 21 rfl hg (pv_load rfl rfl rfl)))) ?_;refine Yk 18 rfl rfl rfl (fun hg=>Ys 19 rfl hg (Ys 20 rfl hg (Ys 21 rfl hg (Ys 22 rfl hg (pv_shr rfl rfl (by have hq:=hg;unfold rightS inRangeS at hq;omega) (shr_pw (by have hq:=hg;unfold rightS inRangeS at hq;omega) (by have hq:=hg;unfold rightS inRangeS at hq;omega))))))) ?_;refine Yk 19 rfl rfl rfl (fun hg=>Ys 19 rfl hg (Ys 20 rfl hg (Ys 21 rfl hg (Ys 22 rfl hg (Ys 23 rfl hg (pv_fieldAddr0 rfl rfl)))))) ?_;refine Yk 20 rfl rfl rfl (fun hg=>Ys 19 rfl hg (Ys 20 rfl hg (Ys 21 rfl hg (Ys 22 rfl hg (Ys 23 rfl hg (Ys 24 rfl hg (pv_load rfl rfl rfl))))))) ?_;refine Yk 21 rfl rfl rfl (fun hg=>Ys 19 rfl hg (Ys 20 rfl hg (Ys 21 rfl hg (Ys 22 rfl hg (Ys 23 rfl hg (Ys 24 rfl hg (Ys 25 rfl hg (pv_fieldAddr0 rfl rfl)))))))) ?_;refine Yk 22 rfl rfl rfl (fun hg=>Ys 19 rfl hg (Ys 20 rfl hg (Ys 21 rfl hg (Ys 22 rfl hg (Ys 23 rfl hg (Ys 24 rfl hg (Ys 25 rfl hg (Ys 26 rfl hg (pv_load rfl rfl rfl))))))))) ?_;refine Yk 23 rfl rfl rfl (fun hg=>Ys 19 rfl hg (Ys 20 rfl hg (Ys 21 rfl hg (Ys 22 rfl hg (Ys 23 rfl hg (Ys 24 rfl hg (Ys 25 rfl hg (Ys 26 rfl hg (Ys 27 rfl hg (pv_shr rfl rfl (by have hq:=hg;unfold rightS inRangeS at hq;omega) (shr_pw (by have hq:=hg;unfold rightS inRangeS at hq;omega) (by have hq:=hg;unfold rightS inRangeS at hq;omega)))))))))))) ?_;refine Yk 24 rfl rfl rfl (fun hg=>Ys 19 rfl hg (Ys 20 rfl hg (Ys 21 rfl hg (Ys 22 rfl hg (Ys 23 rfl hg (Ys 24 rfl hg (Ys 25 rfl hg (Ys 26 rfl hg (Ys 27 rfl hg (Ys 28 rfl hg (pv_eql rfl rfl))))))))))) ?_;refine Yh 25 rfl (pv_pick_and rfl rfl) ?_;refine zd [26,5] ?_;refine YD ?_;refine zq [5,10] ?_;exact zs (h:=⟨by simp[inS, *],rfl⟩)
 refine Yz 3 rfl ?_;refine Yz 4 rfl ?_;refine Yh 5 rfl (pv_pick_false rfl rfl) ?_;refine zd [6,1] ?_;refine Yz 7 rfl ?_;refine Yz 8 rfl ?_;refine Yz 9 rfl ?_;refine Yz 10 rfl ?_;refine Yz 11 rfl ?_;refine Yh 12 rfl (pv_pick_false rfl rfl) ?_;refine zd [13,1] ?_;refine Yz 14 rfl ?_;refine Yz 15 rfl ?_;refine Yz 16 rfl ?_;refine Yz 17 rfl ?_;refine Yz 18 rfl ?_;refine Yz 19 rfl ?_;refine Yz 20 rfl ?_;refine Yz 21 rfl ?_;refine Yz 22 rfl ?_;refine Yz 23 rfl ?_;refine Yz 24 rfl ?_;refine Yh 25 rfl (pv_pick_false rfl rfl) ?_;refine zd [26,5] ?_;refine YD ?_;refine zq [5,10] ?_;exact zs (h:=⟨by simp[inS, *],rfl⟩)
theorem tr_spApart(s t:Int×Int):TrR prog 53 [slotV s,slotV t] ([]) (.bool (decide (apartS s t))):=by
 refine YR func53 ntmps53 fun W F=>?_
 refine Wr ?_;refine zB fun b1=>?_
 refine zB fun b2=>?_
 refine zq [1,2,5,3,4,30] ?_;refine zC (tr_spRight s) ?_;refine zq [0] ?_;refine Ops.split (t:=7) rfl (fun h1=>?_) (fun h1=>?_)
 ·
  refine Yg (pv_loadK [_,_] rfl rfl rfl ⟨rfl,rfl,trivial⟩) ?_;refine Yog (ef_callr (tr_spRight t) rfl rfl) ?_;refine zq [24,0] ?_;refine Ops.split (t:=11) rfl (fun h2=>?_) (fun h2=>?_)
  ·
   refine Yg (pv_loadK [_,_] rfl rfl rfl ⟨rfl,rfl,trivial⟩) ?_;refine Yg (pv_loadK [_,_] rfl rfl rfl ⟨rfl,rfl,trivial⟩) ?_;refine Yog (ef_callr (tr_spIs s t) rfl rfl) ?_;refine Yg (pv_not_dec rfl) ?_;refine zq [24,0] ?_;refine Ops.split (t:=17) rfl (fun h3=>?_) (fun h3=>?_)
   ·
    refine Yg (pv_loadK [_,_] rfl rfl rfl ⟨rfl,rfl,trivial⟩) ?_;refine Yg (pv_loadK [_,_] rfl rfl rfl ⟨rfl,rfl,trivial⟩) ?_;refine Yog (ef_callr (tr_spIs t s) rfl rfl) ?_;refine Yg (pv_not_dec rfl) ?_;refine zq [24,1,2,5,10] ?_;exact zs (h:=⟨by simp[apartS, *],rfl⟩)
   refine zq [13,13,13,13,26,1,2,5,10] ?_;exact zs (h:=⟨by simp[apartS, *],rfl⟩)
  refine zq [13,13,13,13,26,0,13,13,13,13,26,1,2,5,10] ?_;exact zs (h:=⟨by simp[apartS, *],rfl⟩)
 refine zq [13,13,26,0,13,13,13,13,26,0,13,13,13,13,26,1,2,5,10] ?_;exact zs (h:=⟨by simp[apartS, *],rfl⟩)
theorem tr_uBits(kind n:Int)(hn:I64 n):TrR prog 33 [.int .i64 kind,.int .i64 n] ([]) (.tuple #[.int .i64 (bitsU kind n).1,.int .i64 (bitsU kind n).2]):=by
 unfold I64 at hn;refine YR func33 ntmps33 fun W F=>?_
 refine zq [3,4,1,1,2,5,3,4,1,1,2,5,3,3,4,0,2,5,20,3,20,3,20,3,20,3,20,3,20,3,3,3,3,4,22,1,2,5] ?_;refine Yd rfl (fun h1=>?_) (fun h1=>?_)
 ·
  refine zq [11,5,18,41,16,16,40,5,3,3,4,1,1,2,5,10,12,15,12,15,12,15,12,15,12,15,12] ?_;exact zs (h:=⟨by first | (exfalso; omega) | (unfold bitsU; (repeat (first | rw[if_pos (by omega)] | rw[if_neg (by omega)])) <;> rfl),rfl⟩)
 refine zq [3,4,22,1,2,5] ?_;refine Yd rfl (fun h2=>?_) (fun h2=>?_)
 ·
  refine zq [11,5,18,41,16,16,40,5,3,3,4,1,1,2,5,10,12,15,12,15,12,15,12,15,12,15,12] ?_;exact zs (h:=⟨by first | (exfalso; omega) | (unfold bitsU; (repeat (first | rw[if_pos (by omega)] | rw[if_neg (by omega)])) <;> rfl),rfl⟩)
 refine zq [3,4,22,1,2,5] ?_;refine Yd rfl (fun h3=>?_) (fun h3=>?_)
 ·
  refine zq [11,5,18,41,16,16,40,5,3,3,4,1,1,2,5,10,12,15,12,15,12,15,12,15,12,15,12] ?_;exact zs (h:=⟨by first | (exfalso; omega) | (unfold bitsU; (repeat (first | rw[if_pos (by omega)] | rw[if_neg (by omega)])) <;> rfl),rfl⟩)
 refine zq [4,22,1,2,5] ?_;refine Yd rfl (fun h4=>?_) (fun h4=>?_)
 ·
  refine zq [41,16,16,40,5,3,3,4,1,1,2,5,10,12,15,12,15,12,15,12,15,12,15,12] ?_;exact zs (h:=⟨by first | (exfalso; omega) | (unfold bitsU; (repeat (first | rw[if_pos (by omega)] | rw[if_neg (by omega)])) <;> rfl),rfl⟩)
 refine zq [11,5,3,3,3,4,22,1,2,5] ?_;refine Yd rfl (fun h5=>?_) (fun h5=>?_)
 ·
  refine zq [11,5,18,41,16,16,28,16,40,5,3,3,4,1,1,2,5,10,12,15,12,15,12,15,12,15,12] ?_;exact zs (h:=⟨by first | (exfalso; omega) | (unfold bitsU; (repeat (first | rw[if_pos (by omega)] | rw[if_neg (by omega)])) <;> rfl),rfl⟩)
 refine zq [4,22,1,2,5] ?_;refine Yd rfl (fun h6=>?_) (fun h6=>?_)
 ·
  refine zq [41,16,16,28,16,40,5,3,3,4,1,1,2,5,10,12,15,12,15,12,15,12,15,12] ?_;exact zs (h:=⟨by first | (exfalso; omega) | (unfold bitsU; (repeat (first | rw[if_pos (by omega)] | rw[if_neg (by omega)])) <;> rfl),rfl⟩)
 refine zq [11,5,3,3,4,22,1,2,5] ?_;refine Yd rfl (fun h7=>?_) (fun h7=>?_)
 ·
  refine zq [41,16,16,28,16,28,16,40,5,4,1,1,2,19,5,3,3,4,0,0,42,0] ?_;refine Yn rfl rfl (fun hg=>pv_move rfl) ?_;refine Yn rfl rfl (fun hg=>Ys 25 rfl hg (pv_move rfl)) ?_;refine Yn rfl rfl (fun hg=>Ys 25 rfl hg (Ys 26 rfl hg (pv_gtr rfl rfl))) ?_;refine zq [47,2,5] ?_;refine Yd rfl (fun h8=>?_) (fun h8=>?_)
  ·
   refine zq [3,4,1,1,2,5,10,12,15,12,15,12] ?_;exact zs (h:=⟨by first | (exfalso; omega) | (unfold bitsU; (repeat (first | rw[if_pos (by omega)] | rw[if_neg (by omega)])) <;> rfl),rfl⟩)
  refine zq [11,5,41,28,16,40,5,3,3,4,0,22,2,5] ?_;refine Yd rfl (fun h9=>?_) (fun h9=>?_)
  ·
   refine zq [4,0,52,1,2,5,3,4,0,1,1,2,5,10] ?_;exact zs (h:=⟨by first | (exfalso; omega) | (unfold bitsU; (repeat (first | rw[if_pos (by omega)] | rw[if_neg (by omega)])) <;> rfl),rfl⟩)
  refine zq [11,5,3,4,0,1,1,2,5,10] ?_;exact zs (h:=⟨by first | (exfalso; omega) | (unfold bitsU; (repeat (first | rw[if_pos (by omega)] | rw[if_neg (by omega)])) <;> rfl),rfl⟩)
 refine zq [11,5,3,4,22,1,2,5] ?_;refine Yd rfl (fun h10=>?_) (fun h10=>?_)
 ·
  refine zq [41,16,28,16,28,16,28,16,40,5,3,3,4,0,0,42,0] ?_;refine Yn rfl rfl (fun hg=>pv_move rfl) ?_;refine Yn rfl rfl (fun hg=>Ys 25 rfl hg (pv_move rfl)) ?_;refine Yn rfl rfl (fun hg=>Ys 25 rfl hg (Ys 26 rfl hg (pv_gtr rfl rfl))) ?_;refine zq [47,2,5] ?_;refine Yd rfl (fun h11=>?_) (fun h11=>?_)
  ·
   refine zq [3,4,1,1,2,5,10,12,15,12,15,12] ?_;exact zs (h:=⟨by first | (exfalso; omega) | (unfold bitsU; (repeat (first | rw[if_pos (by omega)] | rw[if_neg (by omega)])) <;> rfl),rfl⟩)
  refine zq [11,5,41,28,16,40,5,3,3,4,0,22,2,5] ?_;refine Yd rfl (fun h12=>?_) (fun h12=>?_)
  ·
   refine zq [4,0,52,1,2,5,3,4,0,1,1,2,5,10] ?_;exact zs (h:=⟨by first | (exfalso; omega) | (unfold bitsU; (repeat (first | rw[if_pos (by omega)] | rw[if_neg (by omega)])) <;> rfl),rfl⟩)
  refine zq [11,5,3,4,0,1,1,2,5,10] ?_;exact zs (h:=⟨by first | (exfalso; omega) | (unfold bitsU; (repeat (first | rw[if_pos (by omega)] | rw[if_neg (by omega)])) <;> rfl),rfl⟩)
 refine zq [11,5,41,28,16,28,16,28,16,28,16,40,5,3,3,4,1,1,2,5,10,12,15,12] ?_;exact zs (h:=⟨by first | (exfalso; omega) | (unfold bitsU; (repeat (first | rw[if_pos (by omega)] | rw[if_neg (by omega)])) <;> rfl),rfl⟩)
theorem tr_pPack(e:PteM):TrR prog 246 [e.v] ([]) (.tuple #[.int .u64 (packV e),.int .i64 (packE e)]):=by
 refine YR func246 ntmps246 fun W F=>?_
 refine Wr ?_;refine zB fun b1=>?_
 refine zq [1,1,2,5,3,20,3,4,29,23] ?_;refine Yp (pv_eqlF (e=.zero) (xs:=[.bool e.valid,.bool e.write,.int .i64 e.at_]) (ys:=[.bool false,.bool false,.int .i64 0]) rfl rfl (pte_kind _) (pte_kind .zero) PteM.ext_cells (by decide) (by kernel_rfl)) ?_;refine zq [1,2,5] ?_;refine Yd rfl (fun h1=>?_) (fun h1=>?_)
 ·
  refine zq [3,4,1,1,2,5,10,15,12] ?_;exact zs (h:=⟨by simp_all [packE,packV],rfl⟩)
 refine zq [3,4,6,8,39,1,2,5] ?_;refine Wp.cond_t rfl (fun h2=>?_) (fun h2=>?_)
 ·
  refine zq [3,4,1,1,2,5,10,15,12] ?_;exact zs (h:=⟨by simp_all [packE,packV],rfl⟩)
 refine zq [3,4,6,8,42,0] ?_;refine Yn rfl rfl (fun hg=>pv_fieldAddr0 rfl rfl) ?_;refine Yn rfl rfl (fun hg=>Ys 19 rfl hg (pv_load rfl rfl rfl)) ?_;refine Yn rfl rfl (fun hg=>Ys 19 rfl hg (Ys 20 rfl hg (pv_gtr rfl rfl))) ?_;refine zq [47,0] ?_;refine Yn rfl rfl (fun hg=>pv_fieldAddr0 rfl rfl) ?_;refine Yn rfl rfl (fun hg=>Ys 24 rfl hg (pv_load rfl rfl rfl)) ?_;refine Yn rfl rfl (fun hg=>Ys 24 rfl hg (Ys 25 rfl hg (pv_rem rfl rfl (by decide) (by rw[Int.tmod_eq_emod_of_nonneg (by omega)])))) ?_;refine Yn rfl rfl (fun hg=>Ys 24 rfl hg (Ys 25 rfl hg (Ys 26 rfl hg (pv_neq rfl rfl)))) ?_;refine zq [47,1,2,5] ?_;refine Yd rfl (fun h3=>?_) (fun h3=>?_)
 ·
  have h9:packE e=9:=by unfold packE;rw[if_neg (by assumption),if_neg (by simp_all),if_pos (by omega)]
  refine zq [3,4,1,1,2,5,10,15,12] ?_;exact zs (h:=⟨by rw[packV,h9,if_neg (by decide)],rfl⟩)
 obtain ⟨q,hq⟩:∃q:Nat,e.at_=((q*16:Nat):Int):=⟨(e.at_/16).toNat,by omega⟩;have hq4:q<4096:=by omega
 have hquo:IntKind.i64.wrap (e.at_.tdiv 16)=(q:Int):=by rw[hq,show (((q*16:Nat)):Int).tdiv 16=q from by rw[Int.tdiv_eq_ediv_of_nonneg (by omega)];omega];exact w64 (by omega) (by omega)
 have hpv:putV 1 4 12 q=q*16+1:=if_pos hq4
 have hpe:fldE 12 q=0:=if_pos hq4
 have hor:bitsI .or .u64 ((putV 1 4 12 q:Nat):Int) 2=((q*16+3:Nat):Int):=by rw[hpv];exact (or_nat (b:=2) (by omega) (by omega)).trans (by rw[or2])
 have h0:packE e=0:=by unfold packE;rw[if_neg (by assumption),if_neg (by simp_all),if_neg (by omega)]
 refine zq [11,19,5,3,4,6,8] ?_;refine Yp (pv_quo rfl rfl (by decide) hquo) ?_;refine Yp (pv_conv rfl (u64n (k:=q) rfl (by omega))) ?_;refine zC (tr_bPut 1 4 12 q (by omega) (by omega) (by omega) (by omega)) ?_;refine zq [0,7,7,1,1,2,5,3,3,4,6,8,2,5] ?_;refine Wp.cond_t rfl (fun h4=>?_) (fun h4=>?_)
 ·
  refine zq [4,0] ?_;refine Yp (pv_or rfl rfl hor) ?_;refine zq [1,2,5,3,4,0,1,1,2,5,10] ?_;have hw:e.write=true:=by assumption
  exact zs (h:=⟨by rw[packV,h0,if_pos rfl,if_neg (by assumption),hw,if_pos rfl,hq] <;> (first | done | (congr 3; done) | (congr 3; omega)),rfl⟩)
 refine zq [11,5,3,4,0,1,1,2,5,10] ?_;have hw:e.write=false:=by assumption
 exact zs (h:=⟨by rw[packV,h0,if_pos rfl,if_neg (by assumption),hw,if_neg (by decide),hpv,hq] <;> (first | done | (congr 3; done) | (congr 3; omega)),rfl⟩)
theorem tr_pUnpack(w:Nat)(hw:w<2^64):TrR prog 237 [.int .u64 w] ([]) (.tuple #[(pteM w).1.v,.int .i64 (pteM w).2]):=by
 refine YR func237 ntmps237 fun W F=>?_
 refine Wr ?_;refine zA fun b1=>?_
 refine zq [1,2,5,3,3,4,0,22,2,5] ?_;refine Yd rfl (fun h1=>?_) (fun h1=>?_)
 ·
  refine zq [3,4,23,14,1,2,5,10,12] ?_;obtain rfl:w=0:=by omega
  exact zr ⟨rfl,rfl⟩
 refine zq [11,5,3,4,0] ?_;refine zC (tr_bGet w 4 12 hw (by omega) (by omega)) ?_;refine zq [0,7,7,1,1,2,5,3,4,0] ?_;refine Yp (pv_and rfl rfl (and_mask64 (n:=1) hw (by omega))) ?_;refine Yp ((pv_eql rfl rfl).is (u:=.bool (decide (w%2=1))) (by congr 1;rw[decide_eq_decide];omega)) ?_;refine zq [0] ?_;refine Yp (pv_and rfl rfl ((and_nat (b:=2) hw (by omega)).trans (by rw[and2]))) ?_;refine Yp ((pv_neq rfl rfl).is (u:=.bool (decide (w/2%2=1))) (by congr 1;rw[decide_eq_decide];omega)) ?_;refine zq [0] ?_;refine Yp (pv_conv rfl (w64n (k:=w/2^4%2^12) rfl (by omega))) ?_;refine Yp (pv_mul rfl rfl (w64n (k:=w/16%4096*16) (by omega) (by omega))) ?_;refine zq [23] ?_;refine zA fun b2=>?_
 refine zq [14,2,5,3,3,4,29] ?_;refine zC (tr_pPack (pteOf w)) ?_;refine zq [0,7,7,1,1,2,5,3,4,0,27,0] ?_;refine Yn rfl rfl (fun hg=>pv_move rfl) ?_;refine Yn rfl rfl (fun hg=>Ys 35 rfl hg (pv_move rfl)) ?_;refine Yn rfl rfl (fun hg=>Ys 35 rfl hg (Ys 36 rfl hg (pv_neq rfl rfl))) ?_;refine zq [47,2,5] ?_;refine Yd rfl (fun h2=>?_) (fun h2=>?_)
 ·
  refine zq [3,4,23,14,1,2,5,10,12] ?_;have h0:w≠0:=by omega
  have hno:¬pteOk w:=fun h=>by have:=(pte_unp hw h0).2 h;omega
  exact zs (h:=⟨by rw[pteM,if_neg h0,if_neg hno],rfl⟩)
 refine zq [11,5,3,4,29,14,1,2,5,10] ?_;have h0:w≠0:=by omega
 have hok:pteOk w:=(pte_unp hw h0).1 (by omega)
 have he:pteOf w=⟨true,decide (w/2%2=1),(w/16*16:Nat)⟩:=by unfold pteOf;unfold pteOk at hok;rw[decide_eq_true hok.1,show w/16%4096=w/16 by omega]
 exact zs (h:=⟨by rw[pteM,if_neg h0,if_pos hok,←he];rfl,rfl⟩)
theorem tr_pSplit(a:Int)(ha:I64 a):TrR prog 203 [.int .i64 a] ([]) (.tuple #[.int .i64 (splitM a).1,.int .i64 (splitM a).2.1,.int .i64 (splitM a).2.2.1,.int .i64 (splitM a).2.2.2]):=by
 refine YR func203 ntmps203 fun W F=>?_
 refine zq [3,4,1,1,1,1,2,5,3,3,4,0,42,0] ?_;refine Yn rfl rfl (fun hg=>pv_move rfl) ?_;refine Yn rfl rfl (fun hg=>Ys 9 rfl hg (pv_geq rfl rfl)) ?_;refine zq [47,2,5] ?_;refine Yd rfl (fun h1=>?_) (fun h1=>?_)
 ·
  refine zq [3,4,1,1,1,1,2,5,10,12] ?_;have hsp:splitM a=(0,0,0,1):=if_pos (by omega)
  exact zs (h:=⟨by rw[hsp],rfl⟩)
 obtain ⟨k,rfl⟩:∃k:Nat,a=(k:Int):=⟨a.toNat,by omega⟩;have hsp:splitM (k:Int)=(((k/256:Nat):Int),((k/16%16:Nat):Int),((k%16:Nat):Int),0):=by unfold splitM;rw[if_neg (by omega)];rfl
 refine zq [11,5,3,4,0] ?_;refine Yp (pv_shr rfl rfl (by decide) (shr_nat (j:=8) (by omega))) ?_;refine zq [0] ?_;refine Yp (pv_shr rfl rfl (by decide) (shr_nat (j:=4) (by omega))) ?_;refine Yp (pv_and rfl rfl (and_i64 (a:=k/2^4) (n:=4) (by omega) (by omega))) ?_;refine zq [0] ?_;refine Yp (pv_and rfl rfl (and_i64 (a:=k) (n:=4) (by omega) (by omega))) ?_;refine zq [1,1,1,1,2,5,10] ?_;exact zs (h:=⟨by rw[hsp],rfl⟩)
end
section
def WdOk (ws:List Int):Prop:=∀x,x∈ws→U64 x
section
variable{ws:List Int}(h:WdOk ws)
include ws h
theorem WdOk.at_(a:Int):U64 (memAt ws a):=by
 unfold memAt;rw[List.getD_eq_getElem?_getD];cases he:ws[a.toNat]? with
 | none=>decide
 | some x=>exact h x (List.mem_of_getElem? he)
theorem WdOk.get(a:Int):U64 (memGet ws a).1:=by
 unfold memGet
 split
 ·
  exact h.at_ a
 ·
  decide
theorem WdOk.put(a:Int){v:Int}(hv:U64 v):WdOk (memPut ws a v):=by
 unfold memPut
 split
 ·
  intro x hx
  rcases List.mem_or_eq_of_mem_set hx with hx | rfl
  ·
   exact h x hx
  ·
   exact hv
 ·
  exact h
theorem WdOk.zero(a n:Int):WdOk (memZero ws a n):=by
 unfold memZero
 split
 ·
  intro x hx;unfold zeroW at hx;rw[List.mem_append,List.mem_append]at hx
  rcases hx with (hx | hx) | hx
  ·
   exact h x (List.mem_of_mem_take hx)
  ·
   rw[(List.mem_replicate.1 hx).2];decide
  ·
   exact h x (List.mem_of_mem_drop hx)
 ·
  exact h
end
theorem WdOk.new(n:Nat):WdOk (List.replicate n 0):=fun x hx=>by rw[(List.mem_replicate.1 hx).2];decide
def thereW (N:Nat) (a:Int):Prop:=a≥0∧a≤(N:Int)-16
instance (N:Nat) (a:Int):Decidable (thereW N a):=by unfold thereW;infer_instance
def pteI (x:Int):PteM×Int:=pteM x.toNat
def leads (N:Nat) (x:PteM×Int):Prop:=(x.2=0∧x.1.valid=true)∧thereW N x.1.at_
instance (N:Nat) (x:PteM×Int):Decidable (leads N x):=by unfold leads;infer_instance
def page1 (ws:List Int) (dir a:Int):PteM×Int:=pteI (memGet ws (dir+(splitM a).1)).1
def page2 (ws:List Int) (dir a:Int):PteM×Int:=pteI (memGet ws ((page1 ws dir a).1.at_+(splitM a).2.1)).1
def pageM (ws:List Int) (dir a:Int):PteM×Int :=
  if (splitM a).2.2.2≠0 then (.zero,(splitM a).2.2.2)
  else if ¬thereW ws.length dir∨dir%16≠0 then (.zero,9)
  else if ¬leads ws.length (page1 ws dir a) then (.zero,12)
  else if (page1 ws dir a).1.write=true then (.zero,12)
  else if ¬leads ws.length (page2 ws dir a) then (.zero,12)
  else ((page2 ws dir a).1,0)
theorem splitM_lt{a:Int}(h:(splitM a).2.2.2=0):0≤(splitM a).1∧(splitM a).1<16∧0≤(splitM a).2.1∧(splitM a).2.1<16∧0≤(splitM a).2.2.1∧(splitM a).2.2.1<16:=by
 unfold splitM at *
 split at h
 ·
  cases h
 ·
  rename_i hc;rw[if_neg hc];dsimp only;omega
theorem pteM_at(w:Nat):0≤(pteM w).1.at_∧(pteM w).1.at_≤65520∧(pteM w).1.at_%16=0:=by
 unfold pteM
 split
 ·
  decide
 ·
  split
  ·
   rename_i h;unfold pteOk at h;dsimp only;omega
  ·
   decide
theorem pteI_at(x:Int):0≤(pteI x).1.at_∧(pteI x).1.at_≤65520∧(pteI x).1.at_%16=0:=pteM_at _
def thereS (N:Nat) (a:Int):Prop:=(a≥0∧a%16=0)∧a≤(N:Int)-16
instance (N:Nat) (a:Int):Decidable (thereS N a):=by unfold thereS;infer_instance
def entW (a:Int) (wr:Bool):Int:=packV ⟨true,wr,a⟩
theorem entW_u64(a:Int)(wr:Bool):U64 (entW a wr):=by
 unfold entW packV packE
 by_cases h:(⟨true,wr,a⟩:PteM)=.zero
 ·
  cases h
 ·
  rw[if_neg h,if_neg (show ¬(true=false) by decide)]
  by_cases h2:a<0∨65520<a∨a%16≠0
  ·
   rw[if_pos h2,if_neg (by decide)];decide
  ·
   rw[if_neg h2,if_pos rfl,if_neg h];unfold U64;cases wr <;> simp <;> omega
def firstM (ws:List Int) (dir a other:Int):Int×Int :=
  if (splitM a).2.2.2≠0 then (0,(splitM a).2.2.2) else if ¬thereS ws.length dir∨¬thereS ws.length other then (0,9) else (dir+(splitM a).1,0)
def secE (ws:List Int) (dir a other:Int):PteM×Int:=pteI (memGet ws (firstM ws dir a other).1).1
def secOk (N:Nat) (x:PteM×Int):Prop:=((x.2=0∧x.1.valid=true)∧x.1.write=false)∧thereS N x.1.at_
instance (N:Nat) (x:PteM×Int):Decidable (secOk N x):=by unfold secOk;infer_instance
def secondM (ws:List Int) (dir a other:Int):Int×Int :=
  if (firstM ws dir a other).2≠0 then (0,(firstM ws dir a other).2)
  else if ¬secOk ws.length (secE ws dir a other) then (0,12) else ((secE ws dir a other).1.at_+(splitM a).2.1,0)
def applyE (ws:List Int) (at_:Int) (f:Int→Int×Int):Int:=if (f (memGet ws at_).1).2≠0 then (f (memGet ws at_).1).2 else memPutE ws at_
def applyW (ws:List Int) (at_:Int) (f:Int→Int×Int):List Int:=if (f (memGet ws at_).1).2≠0 then ws else memPut ws at_ (f (memGet ws at_).1).1
def setF (a:Int) (wr:Bool) (w:Int):Int×Int:=if w≠0 then (0,4) else (entW a wr,0)
def tableE (ws:List Int) (dir a t:Int):Int:=if (firstM ws dir a t).2≠0 then (firstM ws dir a t).2 else applyE ws (firstM ws dir a t).1 (setF t false)
def tableW (ws:List Int) (dir a t:Int):List Int:=if (firstM ws dir a t).2≠0 then ws else applyW ws (firstM ws dir a t).1 (setF t false)
def smapE (ws:List Int) (dir a t:Int) (wr:Bool):Int:=if (secondM ws dir a t).2≠0 then (secondM ws dir a t).2 else applyE ws (secondM ws dir a t).1 (setF t wr)
def smapW (ws:List Int) (dir a t:Int) (wr:Bool):List Int:=if (secondM ws dir a t).2≠0 then ws else applyW ws (secondM ws dir a t).1 (setF t wr)
theorem applyW_len(ws:List Int)(a:Int)(f:Int→Int×Int):(applyW ws a f).length=ws.length:=by
 unfold applyW;split
 ·
  rfl
 ·
  exact memPut_len ..
theorem applyW_ok{ws:List Int}(h:WdOk ws)(a:Int){f:Int→Int×Int}(hf:∀w,U64 (f w).1):WdOk (applyW ws a f):=by
 unfold applyW;split
 ·
  exact h
 ·
  exact h.put a (hf _)
theorem setF_u64(a:Int)(wr:Bool)(w:Int):U64 (setF a wr w).1:=by
 unfold setF;split
 ·
  decide
 ·
  exact entW_u64 a wr
structure KeptM where
  sp:Int
  pg:Int
  e:PteM
deriving DecidableEq
abbrev KeptM.cells (x:KeptM):List Value:=[.int .i64 x.sp,.int .i64 x.pg,.bool x.e.valid,.bool x.e.write,.int .i64 x.e.at_]
def keptC (x:KeptM):List Value:=[.int .i64 x.sp,.int .i64 x.pg,.bool x.e.valid,.bool x.e.write,.int .i64 x.e.at_]
instance:Enc keptC 5:=⟨fun _=>rfl,fun _=>rfl⟩
abbrev keptZ:KeptM:=⟨0,0,.zero⟩
def keyP (sp pg:Int) (x:KeptM):Bool:=decide (x.sp=sp∧x.pg=pg)
def tlbGet (l:List KeptM) (sp pg:Int):Option KeptM:=l.find? (keyP sp pg)
def tlbDrop (l:List KeptM) (sp pg:Int):List KeptM:=l.filter fun x=>!keyP sp pg x
def keyOk (sp pg:Int):Prop:=((sp≥0∧sp<64)∧pg≥0)∧pg<256
instance (sp pg:Int):Decidable (keyOk sp pg):=by unfold keyOk;infer_instance
def fillL (l:List KeptM) (sp pg:Int) (e:PteM):List KeptM:=let m:=tlbDrop l sp pg++[⟨sp,pg,e⟩];if m.length>8 then m.tail else m
end
section
theorem tr_pUnpackI(x:Int)(h:U64 x):TrR prog 237 [.int .u64 x] [] (.tuple #[(pteI x).1.v,.int .i64 (pteI x).2]):=by
 obtain ⟨w,rfl⟩:∃w:Nat,x=(w:Int):=⟨x.toNat,by unfold U64 at h;omega⟩;exact tr_pUnpack w (by unfold U64 at h;omega)
section
variable(ws:List Int)(mb wb N:Nat)(hl:ws.length=N)(hN:N≤65536)(a:Int)
include ws mb wb N hl hN a
theorem tr_wThere:TrR prog 245 [memP mb,.int .i64 a] (memB mb wb N ws) (.bool (decide (thereW N a))):=by
 refine YR func245 ntmps245 fun W F=>?_
 refine zq [3,4,1,2,5,3,4,0,43,0] ?_;refine Ops.split (t:=7) rfl (fun h1=>?_) (fun h1=>?_)
 ·
  refine zq [21,21] ?_;refine Yog (ef_callr (tr_memSize ws mb wb N) rfl rfl) ?_;refine Yg (pv_sub rfl rfl (w64 (by omega) (by omega))) ?_;refine Yg (pv_leq rfl rfl) ?_;refine zq [24,1,2,5,10] ?_;exact zs (h:=⟨by simp[thereW, *],rfl⟩)
 refine zq [13,13,13,13,13,26,1,2,5,10] ?_;exact zs (h:=⟨by simp[thereW, *],rfl⟩)
theorem tr_sThere:TrR prog 234 [memP mb,.int .i64 a] (memB mb wb N ws) (.bool (decide (thereS N a))):=by
 refine YR func234 ntmps234 fun W F=>?_
 refine zq [3,4,1,2,5,3,4,0,43,0] ?_;refine Yc rfl rfl (fun hg=>pv_move rfl) ?_;refine Yc rfl rfl (fun hg=>Ys 8 rfl hg (pv_rem rfl rfl (by decide) (Int.tmod_eq_emod_of_nonneg (by omega)))) ?_;refine Yc rfl rfl (fun hg=>Ys 8 rfl hg (Ys 9 rfl hg (pv_eql rfl rfl))) ?_;refine zq [46,0] ?_;refine Ops.split (t:=12) rfl (fun h1=>?_) (fun h1=>?_)
 ·
  refine zq [21,21] ?_;refine Yog (ef_callr (tr_memSize ws mb wb N) rfl rfl) ?_;refine Yg (pv_sub rfl rfl (w64 (by omega) (by omega))) ?_;refine Yg (pv_leq rfl rfl) ?_;refine zq [24,1,2,5,10] ?_;exact zs (h:=⟨by simp[thereS, *],rfl⟩)
 refine zq [13,13,13,13,13,26,1,2,5,10] ?_;exact zs (h:=⟨by simp[thereS, *],rfl⟩)
end
theorem tr_sEntry(a:Int)(wr:Bool):TrR prog 236 [.int .i64 a,.bool wr] ([]) (.int .u64 (entW a wr)):=by
 refine YR func236 ntmps236 fun W F=>?_
 refine zq [3,4,1,2,5,3,4,0,0,23] ?_;refine zC (tr_pPack ⟨true,wr,a⟩) ?_;refine zq [0,7,7,1,1,2,5,3,4,0,1,2,5,10] ?_;exact zr ⟨rfl,rfl⟩
section
variable(ws:List Int)(mb wb N:Nat)(hl:ws.length=N)(hN:N≤65536)
include ws mb wb N hl hN
theorem tr_sFirst(dir a ot:Int)(ha:I64 a):TrR prog 191 [memP mb,.int .i64 dir,.int .i64 a,.int .i64 ot] (memB mb wb N ws) (.tuple #[.int .i64 (firstM ws dir a ot).1,.int .i64 (firstM ws dir a ot).2]):=by
 subst hl;refine YR func191 ntmps191 fun W F=>?_
 refine zq [3,4,1,1,2,5,3,4,0] ?_;refine zC (tr_pSplit a ha) ?_;refine zq [0,7,7,7,7,1,1,1,1,2,5,3,20,3,4,0,27,1,2,5] ?_;refine Yd rfl (fun h1=>?_) (fun h1=>?_)
 ·
  have he:firstM ws dir a ot=(0,(splitM a).2.2.2):=if_pos (by assumption)
  refine zq [3,4,0,1,1,2,5,10,15,12] ?_;exact zs (h:=⟨by rw[he],rfl⟩)
 have h0:¬(splitM a).2.2.2≠0:=by assumption
 refine zq [3,4,0,0] ?_;refine zC (tr_sThere ws mb wb ws.length rfl hN dir) ?_;refine zq [55,0] ?_;refine Ops.split (t:=30) rfl (fun h2=>?_) (fun h2=>?_)
 ·
  refine zq [13,13,13,13,24,1,2,5,18,3,4,1,1,2,5,10,15,12] ?_;have hc:¬thereS ws.length dir∨¬thereS ws.length ot:=by first | exact .inl (by assumption) | exact .inr (by assumption)
  have he:firstM ws dir a ot=(0,9):=(if_neg h0).trans (if_pos hc)
  exact zs (h:=⟨by rw[he],rfl⟩)
 refine zq [21,21] ?_;refine Yog (ef_callr (tr_sThere ws mb wb ws.length rfl hN ot) rfl rfl) ?_;refine Yg (pv_not_dec rfl) ?_;refine zq [26,1,2,5] ?_;refine Yd rfl (fun h3=>?_) (fun h3=>?_)
 ·
  refine zq [3,4,1,1,2,5,10,15,12] ?_;have hc:¬thereS ws.length dir∨¬thereS ws.length ot:=by first | exact .inl (by assumption) | exact .inr (by assumption)
  have he:firstM ws dir a ot=(0,9):=(if_neg h0).trans (if_pos hc)
  exact zs (h:=⟨by rw[he],rfl⟩)
 have hc:¬(¬thereS ws.length dir∨¬thereS ws.length ot):=by simp_all
 have he:firstM ws dir a ot=(dir+(splitM a).1,0):=(if_neg h0).trans (if_neg hc)
 have hd:thereS ws.length dir:=by simp_all
 have hsl:=splitM_lt (a:=a) (by omega)
 unfold thereS at hd;refine zq [11,19,5,3,4,0,0,52,1,1,2,5,10] ?_;exact zs (h:=⟨by rw[he],rfl⟩)
theorem tr_sSecond(hw:WdOk ws)(dir a ot:Int)(ha:I64 a):TrR prog 194 [memP mb,.int .i64 dir,.int .i64 a,.int .i64 ot] (memB mb wb N ws) (.tuple #[.int .i64 (secondM ws dir a ot).1,.int .i64 (secondM ws dir a ot).2]):=by
 subst hl;obtain ⟨x,hx⟩:∃x,secE ws dir a ot=x:=⟨_,rfl⟩;refine YR func194 ntmps194 fun W F=>?_
 refine zq [3,4,1,1,2,5,3,4,0,0,0,0] ?_;refine zC (tr_sFirst ws mb wb ws.length rfl hN dir a ot ha) ?_;refine zq [0,7,7,1,1,2,5,3,3,4,0,27,2,5] ?_;refine Yd rfl (fun h1=>?_) (fun h1=>?_)
 ·
  have he:secondM ws dir a ot=(0,(firstM ws dir a ot).2):=if_pos (by assumption)
  refine zq [3,4,0,1,1,2,5,10,12] ?_;exact zs (h:=⟨by rw[he],rfl⟩)
 have h0:¬(firstM ws dir a ot).2≠0:=by assumption
 refine zq [11,5,3,4,0,0] ?_;refine zC (tr_memGet ws mb wb ws.length (firstM ws dir a ot).1 rfl hN) ?_;refine zq [0,7,7,1,1,2,5,3,4,0] ?_;refine Yo (ef_callr ((tr_pUnpackI (memGet ws (firstM ws dir a ot).1).1 (hw.get _)).eq (r' := .tuple #[x.1.v,.int .i64 x.2]) (by rw[←hx];rfl)) rfl rfl) ?_;refine zq [0,7,7] ?_;refine zA fun b1=>?_
 refine zq [14,1,2,5,3,3,4,0,27,0] ?_;refine Ops.split (t:=43) rfl (fun h2=>?_) (fun h2=>?_)
 ·
  refine zq [13,13,13,24,0,13,13,24,0,13,13,13,13,13,24,2,5,18,3,4,1,1,2,5,10,12] ?_;have hno:¬secOk ws.length x:=by unfold secOk;simp_all
  have he:secondM ws dir a ot=(0,12):=(if_neg h0).trans (if_pos (by rw[hx];exact hno))
  exact zs (h:=⟨by rw[he],rfl⟩)
 refine zq [50,51,54,26,0] ?_;refine Ops.splitb (t:=48) rfl (fun h3=>?_) (fun h3=>?_)
 ·
  refine zq [13,13,24,0,13,13,13,13,13,24,2,5,18,3,4,1,1,2,5,10,12] ?_;have hno:¬secOk ws.length x:=by unfold secOk;simp_all
  have he:secondM ws dir a ot=(0,12):=(if_neg h0).trans (if_pos (by rw[hx];exact hno))
  exact zs (h:=⟨by rw[he],rfl⟩)
 refine zq [50,51,26,0] ?_;refine Ops.splitb (t:=52) rfl (fun h4=>?_) (fun h4=>?_)
 ·
  refine zq [13,13,13,13,13,24,2,5,18,3,4,1,1,2,5,10,12] ?_;have hno:¬secOk ws.length x:=by unfold secOk;simp_all
  have he:secondM ws dir a ot=(0,12):=(if_neg h0).trans (if_pos (by rw[hx];exact hno))
  exact zs (h:=⟨by rw[he],rfl⟩)
 refine zq [21,50,51] ?_;refine Yog (ef_callr (tr_sThere ws mb wb ws.length rfl hN x.1.at_) rfl rfl) ?_;refine Yg (pv_not_dec rfl) ?_;refine zq [26,2,5] ?_;refine Yd rfl (fun h5=>?_) (fun h5=>?_)
 ·
  have hno:¬secOk ws.length x:=by unfold secOk;simp_all
  have he:secondM ws dir a ot=(0,12):=(if_neg h0).trans (if_pos (by rw[hx];exact hno))
  refine zq [3,4,1,1,2,5,10,12] ?_;have hno:¬secOk ws.length x:=by unfold secOk;simp_all
  have he:secondM ws dir a ot=(0,12):=(if_neg h0).trans (if_pos (by rw[hx];exact hno))
  exact zs (h:=⟨by rw[he],rfl⟩)
 have hok:secOk ws.length x:=by unfold secOk;simp_all
 have he:secondM ws dir a ot=(x.1.at_+(splitM a).2.1,0):=by unfold secondM;rw[if_neg h0,hx,if_neg (not_not_intro hok)]
 have hd:=hok.2
 unfold thereS at hd;have hsp:(splitM a).2.2.2=0:=Classical.byContradiction fun hc=>by have:firstM ws dir a ot=(0,(splitM a).2.2.2):=if_pos hc;rw[this]at h0;exact h0 hc
 have hsl:=splitM_lt (a:=a) hsp
 refine zq [11,5,3,4,0] ?_;refine zC (tr_pSplit a ha) ?_;refine zq [0,7,7,7,7,1,1,1,1,2,5,3,4,6,8,0,52,1,1,2,5,10] ?_;exact zs (h:=⟨by rw[he],rfl⟩)
end
theorem tr_sSet1(sa sb:Nat)(o:Int)(wr:Bool)(w:Int):TrR prog 235 [.int .u64 w,.pointer (some ⟨sa,0,none⟩),.pointer (some ⟨sb,0,none⟩)] ((sa,.cells [.int .i64 o].toArray 3)::(sb,.cells [.bool wr].toArray 4)::[]) (.tuple #[.int .u64 (setF o wr w).1,.int .i64 (setF o wr w).2]):=by
 refine YR func235 ntmps235 fun W F=>?_
 refine zq [3,4,1,1,2,5,3,3,4,0,27,2,5] ?_;refine Yd rfl (fun h1=>?_) (fun h1=>?_)
 ·
  refine zq [3,4,1,1,2,5,10,12] ?_;exact zs (h:=⟨by rw[setF,if_pos (by assumption)],rfl⟩)
 refine zq [11,5,3,4,8,8] ?_;refine zC (tr_sEntry o wr) ?_;refine zq [1,1,2,5,10] ?_;exact zs (h:=⟨by rw[setF,if_neg (by assumption)],rfl⟩)
theorem tr_sSet(o:Int)(wr:Bool):Tr prog 193 [.int .i64 o,.bool wr] ([]) (fun u L' => ∃sa sb,u=.func (.func 235) #[] #[.pointer (some ⟨sa,0,none⟩),.pointer (some ⟨sb,0,none⟩)]∧L' = (sa,.cells [.int .i64 o].toArray 3)::(sb,.cells [.bool wr].toArray 4)::[]):=by
 refine YR func193 ntmps193 fun W F=>?_
 refine Wr ?_;refine Yq (ef_box1 rfl rfl rfl) fun b1=>?_
 refine Yq (ef_box1 rfl rfl rfl) fun b2=>?_
 refine zq [1,2,5,3,4,73,1,2,5,10] ?_;exact zs (L' := (b1,.cells [.int .i64 o].toArray 3)::(b2,.cells [.bool wr].toArray 4)::[]) (h:=⟨b1,b2,rfl,rfl⟩)
section
variable(ws:List Int)(mb wb N:Nat)(hl:ws.length=N)(hN:N≤65536)
include ws mb wb N hl hN
theorem tr_sApplySet(at_:Int)(sa sb:Nat)(o:Int)(wr:Bool):Tr prog 192 [memP mb,.int .i64 at_,.func (.func 235) #[] #[.pointer (some ⟨sa,0,none⟩),.pointer (some ⟨sb,0,none⟩)]] ((mb,.cells [.slice (some ⟨wb,0,none⟩) N N].toArray 312)::(wb,.cells (wordsC (ws)).toArray 50)::(sa,.cells [.int .i64 o].toArray 3)::(sb,.cells [.bool wr].toArray 4)::[]) (fun u L' => u=.int .i64 (applyE ws at_ (setF o wr))∧L' = (mb,.cells [.slice (some ⟨wb,0,none⟩) N N].toArray 312)::(wb,.cells (wordsC (applyW ws at_ (setF o wr))).toArray 50)::(sa,.cells [.int .i64 o].toArray 3)::(sb,.cells [.bool wr].toArray 4)::[]):=by
 subst hl;refine YR func192 ntmps192 fun W F=>?_
 refine zq [3,4,1,2,5,3,4,0,0] ?_;refine zC (tr_memGet ws mb wb ws.length at_ rfl hN) ?_;refine zq [0,7,7,1,1,2,5,3,4,0,0] ?_;refine Ops.ef rfl (ef_callf rfl rfl (tr_sSet1 sa sb o wr (memGet ws at_).1) rfl) ?_;rintro _ _ ⟨_,_,⟨rfl,rfl⟩,rfl,rfl⟩;refine Ops.app ?_;refine zq [0,7,7,1,1,2,5,3,3,4,0,27,2,5] ?_;refine Yd rfl (fun h1=>?_) (fun h1=>?_)
 ·
  have he:applyE ws at_ (setF o wr)=((setF o wr) (memGet ws at_).1).2:=if_pos (by assumption)
  have he2:applyW ws at_ (setF o wr)=ws:=if_pos (by assumption)
  refine zq [3,4,0,1,2,5,10,12] ?_;exact zs (L' := (mb,.cells [.slice (some ⟨wb,0,none⟩) ws.length ws.length].toArray 312)::(wb,.cells (wordsC (ws)).toArray 50)::(sa,.cells [.int .i64 o].toArray 3)::(sb,.cells [.bool wr].toArray 4)::[]) (h:=⟨by rw[he],by rw[he2] <;> rfl⟩)
 have he:applyE ws at_ (setF o wr)=memPutE ws at_:=if_neg (by assumption)
 have he2:applyW ws at_ (setF o wr)=memPut ws at_ ((setF o wr) (memGet ws at_).1).1:=if_neg (by assumption)
 refine zq [11,5,3,4,0,0,0] ?_;refine zD (tr_memPut ws mb wb ws.length at_ ((setF o wr) (memGet ws at_).1).1 rfl hN) ?_;rintro _ _ ⟨rfl,rfl⟩;refine Ops.app ?_;refine zq [1,2,5,10] ?_;exact zs (L' := (mb,.cells [.slice (some ⟨wb,0,none⟩) ws.length ws.length].toArray 312)::(wb,.cells (wordsC (memPut ws at_ ((setF o wr) (memGet ws at_).1).1)).toArray 50)::(sa,.cells [.int .i64 o].toArray 3)::(sb,.cells [.bool wr].toArray 4)::[]) (h:=⟨by rw[he],by rw[he2] <;> rfl⟩)
theorem tr_sTable(hw:WdOk ws)(dir a t:Int)(ha:I64 a):Tr prog 157 [memP mb,.int .i64 dir,.int .i64 a,.int .i64 t] (memB mb wb N ws) (fun u L' => u=.int .i64 (tableE ws dir a t)∧L' = memB mb wb N (tableW ws dir a t)):=by
 subst hl;refine YR func157 ntmps157 fun W F=>?_
 refine zq [3,4,1,2,5,3,4,0,0,0,0] ?_;refine zC (tr_sFirst ws mb wb ws.length rfl hN dir a t ha) ?_;refine zq [0,7,7,1,1,2,5,3,3,4,0,27,2,5] ?_;refine Yd rfl (fun h1=>?_) (fun h1=>?_)
 ·
  have he:tableE ws dir a t=(firstM ws dir a t).2:=if_pos (by assumption)
  have he2:tableW ws dir a t=ws:=if_pos (by assumption)
  refine zq [3,4,0,1,2,5,10,12] ?_;exact zs (L' := (mb,.cells [.slice (some ⟨wb,0,none⟩) ws.length ws.length].toArray 312)::(wb,.cells (wordsC (ws)).toArray 50)::[]) (h:=⟨by rw[he],by rw[he2] <;> rfl⟩)
 have he:tableE ws dir a t=applyE ws (firstM ws dir a t).1 (setF t false):=if_neg (by assumption)
 have he2:tableW ws dir a t=applyW ws (firstM ws dir a t).1 (setF t false):=if_neg (by assumption)
 refine zq [11,5,3,4,0,0,0] ?_;refine zD (tr_sSet t false) ?_;rintro _ _ ⟨sa1,sb1,rfl,rfl⟩;refine Ops.app ?_;refine zD (tr_sApplySet ws mb wb ws.length rfl hN (firstM ws dir a t).1 sa1 sb1 t false) ?_;rintro _ _ ⟨rfl,rfl⟩;refine Ops.app ?_;refine zq [1,2,5,10] ?_;exact zs (L' := (mb,.cells [.slice (some ⟨wb,0,none⟩) ws.length ws.length].toArray 312)::(wb,.cells (wordsC (applyW ws (firstM ws dir a t).1 (setF t false))).toArray 50)::[]) (h:=⟨by rw[he],by rw[he2] <;> rfl⟩)
theorem tr_sMap(hw:WdOk ws)(dir a t:Int)(wr:Bool)(ha:I64 a):Tr prog 158 [memP mb,.int .i64 dir,.int .i64 a,.int .i64 t,.bool wr] (memB mb wb N ws) (fun u L' => u=.int .i64 (smapE ws dir a t wr)∧L' = memB mb wb N (smapW ws dir a t wr)):=by
 subst hl;refine YR func158 ntmps158 fun W F=>?_
 refine zq [3,4,1,2,5,3,4,0,0,0,0] ?_;refine zC (tr_sSecond ws mb wb ws.length rfl hN hw dir a t ha) ?_;refine zq [0,7,7,1,1,2,5,3,3,4,0,27,2,5] ?_;refine Yd rfl (fun h1=>?_) (fun h1=>?_)
 ·
  have he:smapE ws dir a t wr=(secondM ws dir a t).2:=if_pos (by assumption)
  have he2:smapW ws dir a t wr=ws:=if_pos (by assumption)
  refine zq [3,4,0,1,2,5,10,12] ?_;exact zs (L' := (mb,.cells [.slice (some ⟨wb,0,none⟩) ws.length ws.length].toArray 312)::(wb,.cells (wordsC (ws)).toArray 50)::[]) (h:=⟨by rw[he],by rw[he2] <;> rfl⟩)
 have he:smapE ws dir a t wr=applyE ws (secondM ws dir a t).1 (setF t wr):=if_neg (by assumption)
 have he2:smapW ws dir a t wr=applyW ws (secondM ws dir a t).1 (setF t wr):=if_neg (by assumption)
 refine zq [11,5,3,4,0,0,0,0] ?_;refine zD (tr_sSet t wr) ?_;rintro _ _ ⟨sa1,sb1,rfl,rfl⟩;refine Ops.app ?_;refine zD (tr_sApplySet ws mb wb ws.length rfl hN (secondM ws dir a t).1 sa1 sb1 t wr) ?_;rintro _ _ ⟨rfl,rfl⟩;refine Ops.app ?_;refine zq [1,2,5,10] ?_;exact zs (L' := (mb,.cells [.slice (some ⟨wb,0,none⟩) ws.length ws.length].toArray 312)::(wb,.cells (wordsC (applyW ws (secondM ws dir a t).1 (setF t wr))).toArray 50)::[]) (h:=⟨by rw[he],by rw[he2] <;> rfl⟩)
theorem tr_wPage(hw:WdOk ws)(dir a:Int)(ha:I64 a):TrR prog 206 [memP mb,.int .i64 dir,.int .i64 a] (memB mb wb N ws) (.tuple #[(pageM ws dir a).1.v,.int .i64 (pageM ws dir a).2]):=by
 subst hl;refine YR func206 ntmps206 fun W F=>?_
 refine Wr ?_;refine zA fun b1=>?_
 refine zq [1,2,5] ?_;refine Wp.scope1 (σ:=Nat×Nat) 0 (by rfl) [(0,memP mb),(6,.pointer (some ⟨b1,0,none⟩))] (fun s=>[(12,.int .i64 (page1 ws dir a).1.at_),(13,.pointer (some ⟨s.1,0,none⟩)),(14,.pointer (some ⟨s.2,0,none⟩)),(15,.int .i64 1)]) (fun s=>(s.2,.cells [.bool (page1 ws dir a).1.valid,.bool (page1 ws dir a).1.write,.int .i64 (page1 ws dir a).1.at_].toArray 396)::(s.1,.cells [.int .i64 (splitM a).1,.int .i64 (splitM a).2.1].toArray 441)::(b1,.cells [.bool false,.bool false,.int .i64 0].toArray 396)::(mb,.cells [.slice (some ⟨wb,0,none⟩) ws.length ws.length].toArray 312)::(wb,.cells (wordsC (ws)).toArray 50)::F) (fun s=>leads ws.length (page1 ws dir a)∧(page1 ws dir a).1.write=false∧¬(splitM a).2.2.2≠0∧¬(¬thereW ws.length dir∨dir%16≠0)) (fun JJ hJ=>?_) ?_
 ·
  dsimp only[Y1,Y2]at hJ ⊢;refine zq [3,4,0] ?_;refine zC (tr_pSplit a ha) ?_;refine zq [0,7,7,7,7,1,1,1,1,2,5,3,20,3,4,0,27,1,2,5] ?_;refine Yd rfl (fun h1=>?_) (fun h1=>?_)
  ·
   have he:pageM ws dir a=(.zero,(splitM a).2.2.2):=if_pos (by assumption)
   refine zq [3,4,23,0,14,1,2,5,10,15,12] ?_;refine Ends.jump_ret ?_;exact zs (h:=⟨by rw[he],rfl⟩)
  have h0:¬(splitM a).2.2.2≠0:=by assumption
  have hsl:=splitM_lt (a:=a) (by omega)
  refine zq [3,4,0,0] ?_;refine zC (tr_wThere ws mb wb ws.length rfl hN dir) ?_;refine zq [55,0] ?_;refine Yn rfl rfl (fun hg=>pv_move rfl) ?_;refine Yn rfl rfl (fun hg=>Ys 36 rfl hg (pv_rem rfl rfl (by decide) (Int.tmod_eq_emod_of_nonneg (by unfold thereW at *;omega)))) ?_;refine Yn rfl rfl (fun hg=>Ys 36 rfl hg (Ys 37 rfl hg (pv_neq rfl rfl))) ?_;refine zq [47,1,2,5] ?_;refine Yd rfl (fun h2=>?_) (fun h2=>?_)
  ·
   have hq:¬thereW ws.length dir∨dir%16≠0:=by simp_all
   have he:pageM ws dir a=(.zero,9):=(if_neg h0).trans (if_pos hq)
   refine zq [3,4,23,14,1,2,5,10,15,12] ?_;refine Ends.jump_ret ?_;exact zs (h:=⟨by rw[he],rfl⟩)
  have hq:¬(¬thereW ws.length dir∨dir%16≠0):=by simp_all
  have hd:thereW ws.length dir:=by simp_all
  have hd2:=hd
  unfold thereW at hd2;refine zq [11,19,5,3,4,0,0,0] ?_;refine Yp (pv_buildA (zs:=[.int .i64 0,.int .i64 0]) (cs:=[.int .i64 (splitM a).1,.int .i64 (splitM a).2.1]) rfl rfl) ?_;refine zA fun b2=>?_
  refine zq [1,14,2,5,3,4] ?_;refine zA fun b3=>?_
  refine zq [2,5,3,4,1,2,5,3] ?_;refine Wp.label ?_;refine zq [5,3,4,0,0,0] ?_;refine Yp ((by first | exact pv_indexAddrN (i:=0) (o2:=0) rfl rfl rfl (by decide) (by rfl) | exact pv_indexAddrN (i:=1) (o2:=1) rfl rfl rfl (by decide) (by rfl))) ?_;refine zq [8,52] ?_;refine zC (tr_memGet ws mb wb ws.length (dir+(splitM a).1) rfl hN) ?_;refine zq [0,7,7,1,1,2,5,3,4,0] ?_;refine zC ((tr_pUnpackI (memGet ws (dir+(splitM a).1)).1 (hw.get _)).eq (r' := .tuple #[(page1 ws dir a).1.v,.int .i64 (page1 ws dir a).2]) rfl) ?_;refine zq [0,7,7,14,1,2,5,3,3,4,0,27,0] ?_;refine Ops.split (t:=62) rfl (fun h3=>?_) (fun h3=>?_)
  ·
   refine zq [13,13,13,24,0,13,13,13,13,13,24,2,5,18,3,4,23,14,1,2,5,10,12] ?_;refine Ends.jump_ret ?_;have hno:¬leads ws.length (page1 ws dir a):=by unfold leads;simp_all
   have he:pageM ws dir a=(.zero,12):=by unfold pageM;rw[if_neg h0,if_neg hq,if_pos hno]
   exact zs (h:=⟨by rw[he],rfl⟩)
  refine zq [50,51,54,26,0] ?_;refine Ops.splitb (t:=67) rfl (fun h4=>?_) (fun h4=>?_)
  ·
   refine zq [13,13,13,13,13,24,2,5,18,3,4,23,14,1,2,5,10,12] ?_;refine Ends.jump_ret ?_;have hno:¬leads ws.length (page1 ws dir a):=by unfold leads;simp_all
   have he:pageM ws dir a=(.zero,12):=by unfold pageM;rw[if_neg h0,if_neg hq,if_pos hno]
   exact zs (h:=⟨by rw[he],rfl⟩)
  refine zq [21,50,51] ?_;refine Yog (ef_callr (tr_wThere ws mb wb ws.length rfl hN (page1 ws dir a).1.at_) rfl rfl) ?_;refine Yg (pv_not_dec rfl) ?_;refine zq [26,2,5] ?_;refine Yd rfl (fun h5=>?_) (fun h5=>?_)
  ·
   refine zq [3,4,23,14,1,2,5,10,12] ?_;refine Ends.jump_ret ?_;have hno:¬leads ws.length (page1 ws dir a):=by unfold leads;simp_all
   have he:pageM ws dir a=(.zero,12):=by unfold pageM;rw[if_neg h0,if_neg hq,if_pos hno]
   exact zs (h:=⟨by rw[he],rfl⟩)
  have hl2:leads ws.length (page1 ws dir a):=by unfold leads;simp_all
  refine zq [11,5,3,3,4,0,66,2,5,18,3,3,4,6,8,2,5] ?_;refine Wp.cond_t rfl (fun h6=>?_) (fun h6=>?_)
  ·
   refine zq [3,4,23,14,1,2,5,10,12,12] ?_;refine Ends.jump_ret ?_;have he:pageM ws dir a=(.zero,12):=by unfold pageM;rw[if_neg h0,if_neg hq,if_neg (not_not_intro hl2),if_pos (by assumption)]
   exact zs (h:=⟨by rw[he],rfl⟩)
  have hwr:(page1 ws dir a).1.write=false:=by assumption
  refine zq [11,5,3,4,6,8,1,1,2,5] ?_;refine Wp.goto ?_;refine Ends.then_goto ?_;refine Ends.jump_goto ?_;refine Yy (hJ (b2,b3) ⟨hl2,hwr,h0,hq⟩)
 rintro ⟨b2,b3⟩ ⟨hl1,hwr,h0,hq⟩;dsimp only[Y1,Y2];have hsl:=splitM_lt (a:=a) (by omega)
 have hd2:=hl1.2
 unfold thereW at hd2;refine zq [3,11,5,3,4,0,0,0] ?_;refine Yp ((by first | exact pv_indexAddrN (i:=0) (o2:=0) rfl rfl rfl (by decide) (by rfl) | exact pv_indexAddrN (i:=1) (o2:=1) rfl rfl rfl (by decide) (by rfl))) ?_;refine zq [8,52] ?_;refine zC (tr_memGet ws mb wb ws.length ((page1 ws dir a).1.at_+(splitM a).2.1) rfl hN) ?_;refine zq [0,7,7,1,1,2,5,3,4,0] ?_;refine zC ((tr_pUnpackI (memGet ws ((page1 ws dir a).1.at_+(splitM a).2.1)).1 (hw.get _)).eq (r' := .tuple #[(page2 ws dir a).1.v,.int .i64 (page2 ws dir a).2]) rfl) ?_;refine zq [0,7,7,14,1,2,5,3,3,4,0,27,0] ?_;refine Ops.split (t:=62) rfl (fun h7=>?_) (fun h7=>?_)
 ·
  refine zq [13,13,13,24,0,13,13,13,13,13,24,2,5,18,3,4,23,14,1,2,5,10,12] ?_;refine Ends.jump_ret ?_;have hno:¬leads ws.length (page2 ws dir a):=by unfold leads;simp_all
  have he:pageM ws dir a=(.zero,12):=by unfold pageM;rw[if_neg h0,if_neg hq,if_neg (not_not_intro hl1),if_neg (by simp[hwr]),if_pos hno]
  exact zs (h:=⟨by rw[he],rfl⟩)
 refine zq [50,51,54,26,0] ?_;refine Ops.splitb (t:=67) rfl (fun h8=>?_) (fun h8=>?_)
 ·
  refine zq [13,13,13,13,13,24,2,5,18,3,4,23,14,1,2,5,10,12] ?_;refine Ends.jump_ret ?_;have hno:¬leads ws.length (page2 ws dir a):=by unfold leads;simp_all
  have he:pageM ws dir a=(.zero,12):=by unfold pageM;rw[if_neg h0,if_neg hq,if_neg (not_not_intro hl1),if_neg (by simp[hwr]),if_pos hno]
  exact zs (h:=⟨by rw[he],rfl⟩)
 refine zq [21,50,51] ?_;refine Yog (ef_callr (tr_wThere ws mb wb ws.length rfl hN (page2 ws dir a).1.at_) rfl rfl) ?_;refine Yg (pv_not_dec rfl) ?_;refine zq [26,2,5] ?_;refine Yd rfl (fun h9=>?_) (fun h9=>?_)
 ·
  refine zq [3,4,23,14,1,2,5,10,12] ?_;refine Ends.jump_ret ?_;have hno:¬leads ws.length (page2 ws dir a):=by unfold leads;simp_all
  have he:pageM ws dir a=(.zero,12):=by unfold pageM;rw[if_neg h0,if_neg hq,if_neg (not_not_intro hl1),if_neg (by simp[hwr]),if_pos hno]
  exact zs (h:=⟨by rw[he],rfl⟩)
 have hl2:leads ws.length (page2 ws dir a):=by unfold leads;simp_all
 refine zq [11,5,3,3,4,0,65,2,5,17,11,5,3,4,29,14,1,2,5,10] ?_;refine Ends.jump_ret ?_;have he:pageM ws dir a=((page2 ws dir a).1,0):=by unfold pageM;rw[if_neg h0,if_neg hq,if_neg (not_not_intro hl1),if_neg (by simp[hwr]),if_neg (not_not_intro hl2)]
 exact zs (h:=⟨by rw[he],rfl⟩)
end
end
end Go.Proofs.YtmoeokkelkgnhaaGreat
section
namespace Go.Proofs.YtmoeokkelkgnhaaGreat
open Go.SL
theorem setL_mid{A B B' C:List Value}(h:B'.length=B.length):SetL (A++(B++C)) A.length B' (A++(B' ++ C)):=by
 refine ⟨by simp[h],by simp;omega,fun j=>?_⟩
 by_cases h1:j<A.length
 ·
  rw[if_neg (by omega),List.getElem?_append_left h1,List.getElem?_append_left h1]
 ·
  by_cases h2:j-A.length<B.length
  ·
   rw[if_pos (by omega),List.getElem?_append_right (by omega),List.getElem?_append_left (by omega)]
  ·
   rw[if_neg (by omega),List.getElem?_append_right (by omega),List.getElem?_append_right (by omega),List.getElem?_append_right (by omega),List.getElem?_append_right (by omega),h]
section el
variable {α : Type} {f : α → List Value} {k : Nat}
section
variable[he:Enc f k]{pre sp:List Value}{l:List α}{i:Nat}
include he pre sp l i
theorem el_reads{a:α}(hi:l[i]?=some a):Reads (pre++cel f l++sp) (pre.length+i*k) (f a):=by
 have h:Reads (pre++cel f l++sp) pre.length (cel f l):=reads_split
 exact cel_reads h hi
theorem el_set(a:α)(hi:i<l.length):SetL (pre++cel f l++sp) (pre.length+i*k) (f a) (pre++cel f (l.set i a)++sp):=by
 have e1:cel f l=cel f (l.take i)++(f l[i]++cel f (l.drop (i+1))):=by
  have hd:=List.drop_eq_getElem_cons hi
  rw[←cel_cons,←cel_app,←hd,List.take_append_drop]
 have e2:cel f (l.set i a)=cel f (l.take i)++(f a++cel f (l.drop (i+1))):=by
  rw[List.set_eq_take_append_cons_drop,if_pos hi,cel_app,cel_cons]
 have e3:(cel f (l.take i)).length=i*k:=by rw[cel_len,List.length_take,Nat.min_eq_left (by omega)]
 have hm:=setL_mid (A:=pre++cel f (l.take i)) (B:=f l[i]) (B' := f a) (C:=cel f (l.drop (i+1))++sp) (by rw[he.len,he.len])
 rw[Y3,e3]at hm;rw[e1,e2]
 simpa only[Y7] using hm
end
theorem slc_open{T:TypeId}{sz n:Nat}{v:Value}{cs:List Value}{H:Hp}(h:Slc T sz v n cs H)(hn:0<n) :
    ∃b pre sp cap,v=.slice (some ⟨b,pre.length,none⟩) n cap∧n≤cap∧(cap-n)*sz≤sp.length∧H=[(b,.cells (pre++cs++sp:List Value).toArray T)]:=by
  rcases h.2 with ⟨_,h0,_⟩ | h
  · omega
  · exact h
theorem del_cells[he:Enc f k]{pre sp Z:List Value}{m:List α}{i n:Nat}(hm:m.length=n)(hi:i≤n):(pre++cel f m++sp).take (pre.length+i*k)++Z++(pre++cel f m++sp).drop (pre.length+i*k+(n-i)*k)=pre++cel f (m.take i)++(Z++sp):=by
 have h1:i*k+(n-i)*k=n*k:=by rw[←Nat.add_mul];congr 1;omega
 have h2:(cel f m).length=n*k:=by rw[cel_len,hm]
 have h3:i*k≤n*k:=Nat.mul_le_mul_right _ hi
 rw[Nat.add_assoc,h1,Y7 pre,List.take_append,List.drop_append,List.take_of_length_le (by omega),List.drop_of_length_le (by omega),show pre.length+i*k-pre.length=i*k by omega,show pre.length+n*k-pre.length=n*k by omega,
  List.take_append_of_le_length (by omega),cel_take,List.drop_append_of_le_length (by omega),List.drop_of_length_le (by omega)]
 simp
end el
section idx
variable {α : Type} (p : α → Bool)
def idxP:List α→Int
  | [] => -1
  | a::l=>if p a then 0 else if idxP l<0 then -1 else idxP l+1
theorem idxP_hit:∀{l:List α} {i:Nat} {a:α},l[i]?=some a→p a=true→(∀(j:Nat) (b:α),j<i→l[j]?=some b→p b=false)→idxP p l=i
  | [],i,a,h,_,_=>by simp at h
  | b::l,0,a,h,hp,_=>by simp at h;subst h;simp[idxP,hp]
  | b::l,i+1,a,h,hp,hn=>by
    have h0:p b=false:=hn 0 b (by omega) rfl
    have ih:=idxP_hit (l:=l) (i:=i) (by simpa using h) hp (fun j c hj hc=>hn (j+1) c (by omega) (by simpa using hc))
    rw[idxP,h0,ih];simp only[Bool.false_eq_true,if_false];rw[if_neg (by omega)];push_cast;rfl
theorem idxP_miss:∀{l:List α},(∀(j:Nat) (b:α),l[j]?=some b→p b=false)→idxP p l = -1
  | [],_=>rfl
  | b::l,hn=>by
    have h0:p b=false:=hn 0 b rfl
    have ih:=idxP_miss (l:=l) (fun j c hc=>hn (j+1) c (by simpa using hc))
    rw[idxP,h0,ih];rfl
theorem idxP_cases(l:List α):(idxP p l = -1∧∀a,a∈l→p a=false)∨∃(i:Nat) (a:α),idxP p l=(i:Nat)∧l[i]?=some a∧p a=true∧∀(j:Nat) (b:α),j<i→l[j]?=some b→p b=false:=by
 induction l with
 | nil=>exact .inl ⟨rfl,fun a h=>by cases h⟩
 | cons b l ih =>
  cases hb:p b with
  | true=>exact .inr ⟨0,b,by simp[idxP,hb],rfl,hb,fun j c hj=>by omega⟩
  | false =>
   rcases ih with ⟨h1,h2⟩ | ⟨i,a,h1,h2,h3,h4⟩
   ·
    exact .inl ⟨by simp[idxP,hb,h1],fun a ha=>by rcases List.mem_cons.1 ha with rfl | ha;exact hb;exact h2 a ha⟩
   ·
    refine .inr ⟨i+1,a,?_,by simpa using h2,h3,fun j c hj hc=>?_⟩
    ·
     rw[idxP,hb,h1];simp only[Bool.false_eq_true,if_false];rw[if_neg (by omega)];push_cast;rfl
    ·
     cases j with
     | zero=>simp at hc;subst hc;exact hb
     | succ j=>exact h4 j c (by omega) (by simpa using hc)
theorem find_idx{l:List α}{i:Nat}{a:α}(h:l[i]?=some a)(hp:p a=true)(hn:∀(j:Nat) (b:α),j<i→l[j]?=some b→p b=false):l.find? p=some a:=by
 induction l generalizing i with
 | nil=>simp at h
 | cons b l ih =>
  cases i with
  | zero=>simp at h;subst h;rw[List.find?_cons,hp]
  | succ i=>rw[List.find?_cons,hn 0 b (by omega) rfl];exact ih (by simpa using h) (fun j c hj hc=>hn (j+1) c (by omega) (by simpa using hc))
structure DelI (l m:List α) (i j:Nat):Prop where
  le:i<j
  len:m.length=l.length
  take:m.take i=(l.take j).filter fun x=>!p x
  drop:m.drop j=l.drop j
theorem DelI.start{l:List α}{i:Nat}{a:α}(h:l[i]?=some a)(hp:p a=true)(hn:∀(j:Nat) (b:α),j<i→l[j]?=some b→p b=false):DelI p l l i (i+1):=by
 refine ⟨by omega,rfl,?_,rfl⟩;rw[List.take_add_one,h,List.filter_append];have h1:(l.take i).filter (fun x=>!p x)=l.take i:=by
  rw[List.filter_eq_self];intro x hx;obtain ⟨j,hj⟩:=List.mem_iff_getElem?.1 hx;have hlt:j<i:=by have:=(List.getElem?_eq_some_iff.1 hj).1;rw[List.length_take]at this;omega
  rw[List.getElem?_take_of_lt hlt]at hj;rw[hn j x hlt hj];rfl
 rw[h1];simp[hp]
section
variable{l m:List α}{i j:Nat}(h:DelI p l m i j){a:α}(hj:l[j]?=some a)
include l m i j h a hj
theorem DelI.get:m[j]?=some a:=by
 have h1:(m.drop j)[0]?=(l.drop j)[0]?:=by rw[h.drop]
 simpa [hj] using h1
theorem DelI.skip(hp:p a=true):DelI p l m i (j+1):=by
 refine ⟨by have:=h.le;omega,h.len,?_,?_⟩
 ·
  rw[List.take_add_one,hj,List.filter_append,h.take];simp[hp]
 ·
  rw[←List.drop_drop,←List.drop_drop,h.drop]
theorem DelI.keep(hp:p a=false):DelI p l (m.set i a) (i+1) (j+1):=by
 have hl:=h.len
 have hle:=h.le
 have hlt:=(List.getElem?_eq_some_iff.1 hj).1
 refine ⟨by omega,by simp[hl],?_,?_⟩
 ·
  rw[List.take_add_one,List.take_add_one,hj,List.filter_append,←h.take,List.take_set_of_le (by omega),List.getElem?_set_self (by omega)];simp[hp]
 ·
  rw[List.drop_set_of_lt (by omega),←List.drop_drop,←List.drop_drop,h.drop]
end
theorem DelI.fin{l m:List α}{i j:Nat}(h:DelI p l m i j)(hj:j=l.length):m.take i=l.filter fun x=>!p x:=by rw[h.take,hj,List.take_length]
end idx
theorem slc_del{T b cp i n:Nat}{pre sp Z:List Value}{m:List KeptM}{l:List KeptM}(hf:m.take i=l)(hm:m.length=n)(hi:i≤n)(hc:(cp-n)*5≤sp.length)(hz:Z.length=(n-i)*5)(hcp:n≤cp) :
    Slc T 5 (.slice (some ⟨b,pre.length,none⟩) i cp) l.length (cel keptC l) [(b,.cells (pre++cel keptC (m.take i)++(Z++sp)).toArray T)]:=by
  have hl:l.length=i:=by rw[←hf,List.length_take];omega
  refine ⟨cel_len (f:=keptC) (k:=5) l,.inr ⟨b,pre,Z++sp,cp,by rw[hl],by omega,?_,by rw[hf]⟩⟩;rw[Y3,hz,hl];have:(cp-i)*5=(n-i)*5+(cp-n)*5:=by rw[←Nat.add_mul];congr 1;omega
  omega
end Go.Proofs.YtmoeokkelkgnhaaGreat
end
namespace Go.Proofs.YtmoeokkelkgnhaaGreat
open Go.SL
open Go.Proofs.Tryz
section
abbrev KeptM.v (x:KeptM):Value:=.agg #[.int .i64 x.sp,.int .i64 x.pg,.bool x.e.valid,.bool x.e.write,.int .i64 x.e.at_]
abbrev tlbP (tb:Nat):Value:=.pointer (some ⟨tb,0,none⟩)
def TlbH (l:List KeptM) (tb:Nat) (L:Hp):Prop:=∃v H,Slc 439 5 v l.length (cel keptC l) H∧L=(tb,.cells [v].toArray 325)::H
theorem tr_kRight(sp pg:Int):TrR prog 204 [.agg #[.int .i64 sp,.int .i64 pg]] ([]) (.bool (decide (keyOk sp pg))):=by
 refine YR func204 ntmps204 fun W F=>?_
 refine Wr ?_;refine zB fun b1=>?_
 refine zq [1,2,5,3,4,6,8,43,0] ?_;refine Yc rfl rfl (fun hg=>pv_fieldAddr0 rfl rfl) ?_;refine Yc rfl rfl (fun hg=>Ys 7 rfl hg (pv_load rfl rfl rfl)) ?_;refine Yc rfl rfl (fun hg=>Ys 7 rfl hg (Ys 8 rfl hg (pv_lss rfl rfl))) ?_;refine zq [46,0] ?_;refine Yc rfl rfl (fun hg=>pv_fieldAddr0 rfl rfl) ?_;refine Yc rfl rfl (fun hg=>Ys 12 rfl hg (pv_load rfl rfl rfl)) ?_;refine Yc rfl rfl (fun hg=>Ys 12 rfl hg (Ys 13 rfl hg (pv_geq rfl rfl))) ?_;refine zq [46,0] ?_;refine Yc rfl rfl (fun hg=>pv_fieldAddr0 rfl rfl) ?_;refine Yc rfl rfl (fun hg=>Ys 17 rfl hg (pv_load rfl rfl rfl)) ?_;refine Yc rfl rfl (fun hg=>Ys 17 rfl hg (Ys 18 rfl hg (pv_lss rfl rfl))) ?_;refine zq [46,1,2,5,10] ?_;exact zr ⟨rfl,rfl⟩
section
variable(fn:Nat)[hG:GoFn prog fn](cap:List Value)(Hc:Hp)(p:KeptM→Bool)(hf:∀x:KeptM,TrR prog fn (x.v::cap) Hc (.bool (p x)))(v:Value)(H:Hp)(l:List KeptM)(hs:Slc 439 5 v l.length (cel keptC l) H)(hl:l.length≤2^20)
include fn hG cap Hc p hf v H l hs hl
theorem tr_kIndex:TrR prog 243 [v,.func (.func fn) #[] cap.toArray] (H++Hc) (.int .i64 (idxP p l)):=by
 obtain ⟨sa,sc,rfl⟩:=hs.form;refine YR func243 ntmps243 fun W F=>?_
 refine zq [3,4,1,2,5,3,3,4,0] ?_;refine Yp (pv_len_slice (T:=323) rfl rfl) ?_;refine zq [0,2,5,20] ?_;refine YL (σ:=Nat) [(0,_),(1,_),(7,_)] (fun s=>[(8,.int .i64 s)]) (fun s=>s≤l.length∧∀(j:Nat) (b:KeptM),j<s→l[j]?=some b→p b=false) (fun s=>l.length-s) 0 ⟨Nat.zero_le _,fun j b h=>absurd h (Nat.not_lt_zero j)⟩ ?_;rintro i KK hI hK;dsimp only[Y1,Y2]at hK ⊢;refine zq [3,4,42,2,5,3] ?_;refine Yd rfl (fun h1=>?_) (fun h1=>?_)
 ·
  obtain ⟨a,ha⟩:∃a,l[i]?=some a:=Y9;obtain ⟨b,pre,sp2,cp,hv,hc1,hc2,rfl⟩:=slc_open hs (by omega);cases hv;refine zq [11,5,3,20,3,4,0,1,2,5,3,4,0,0,0] ?_;refine Yi rfl rfl (i) rfl ?_;refine Yp (pv_loadK a.cells rfl rfl rfl (el_reads (f:=keptC) ha)) ?_;refine Ops.ef rfl (ef_callf rfl rfl (hf a) rfl) ?_;rintro _ _ ⟨_,_,⟨rfl,rfl⟩,rfl,rfl⟩;refine Ops.app ?_;refine On ?_;refine Wp.cond_t rfl (fun h2=>?_) (fun h2=>?_)
  ·
   have he:idxP p l=i:=idxP_hit p ha (by assumption) hI.2
   refine zq [3,4,0,1,2,5,10,15,12,12,15,12] ?_;exact zs (h:=⟨by rw[he],rfl⟩)
  have hpa:p a=false:=by assumption
  refine zq [11,19,5,4] ?_;refine Ya rfl rfl (i+1) ?_;refine zq [0,2,49] ?_;refine Yy (hK (i+1) ⟨by omega,fun j b hj hb=>(Nat.lt_or_ge j i).elim (fun h=>hI.2 j b h hb) (fun h=>by rw[show j=i by omega,ha]at hb;cases hb;exact hpa)⟩ (by omega))
 have he:idxP p l = -1:=idxP_miss p (fun j b hb=>hI.2 j b (by have:=(List.getElem?_eq_some_iff.1 hb).1;omega) hb)
 refine zq [41,16,16,40,5,3,4,1,2,5,10] ?_;exact zs (h:=⟨by rw[he],rfl⟩)
theorem tr_kDelete:Tr prog 280 [v,.func (.func fn) #[] cap.toArray] (H++Hc) (fun u L' => ∃H', Slc 439 5 u (l.filter fun x=>!p x).length (cel keptC (l.filter fun x=>!p x)) H' ∧ L' = H' ++ Hc):=by
 have hs0:=hs
 obtain ⟨sa,sc,rfl⟩:=hs.form;refine YR func280 ntmps280 fun W F=>?_
 refine zq [3,4,1,2,5,3,4,0,0] ?_;refine zC (tr_kIndex fn cap Hc p hf _ H l hs hl) ?_;refine zq [1,2,5,3,3,4,0,22,2,5] ?_;refine Yd rfl (fun h1=>?_) (fun h1=>?_)
 ·
  have hall:=((idxP_cases p l).resolve_right (by rintro ⟨i0,a0,h1,_⟩;omega)).2
  have hfe:(l.filter fun x=>!p x)=l:=List.filter_eq_self.2 (fun x hx=>by rw[hall x hx];rfl)
  refine zq [3,4,0,1,2,5,10,12] ?_;exact zs (L' := H++Hc) (h:=⟨H,by rw[hfe];exact hs0,rfl⟩)
 obtain ⟨i0,a0,hi0,ha0,hp0,hn0⟩:=(idxP_cases p l).resolve_left (fun h=>absurd h.1 (by assumption));rw[hi0];have hlt0:=(List.getElem?_eq_some_iff.1 ha0).1
 obtain ⟨b,pre,sp2,cp,hv,hc1,hc2,rfl⟩:=slc_open hs (by omega);cases hv;refine zq [11,5,3,3,4,0] ?_;refine Ya rfl rfl (i0+1) ?_;refine zq [1,2,5,20] ?_;refine YM (σ:=Nat×Nat×List KeptM) [(0,_),(1,_)] (fun s=>[(5,.int .i64 s.1),(6,.int .i64 s.2.1)]) (fun s=>(b,.cells (pre++cel keptC s.2.2++sp2).toArray 439)::(Hc++F)) (fun s=>s.2.1≤l.length∧DelI p l s.2.2 s.1 s.2.1) (fun s=>l.length-s.2.1) (i0,i0+1,l) ⟨by dsimp only;omega,DelI.start p ha0 hp0 hn0⟩ ?_;rintro ⟨i,j,m⟩ KK ⟨hj,hI⟩ hK;dsimp only[Y1,Y2]at hK ⊢;dsimp only at hj hI ⊢;refine zq [3,3,4,0,0] ?_;refine Yp (pv_len_slice (T:=323) rfl rfl) ?_;refine zq [42,2,5] ?_;refine Yd rfl (fun h2=>?_) (fun h2=>?_)
 ·
  obtain ⟨a,ha⟩:∃a,l[j]?=some a:=Y9;have hm:=hI.get p ha
  have hle:=hI.le
  have hlen:=hI.len
  refine zq [11,5,3,20,3,4,0,0] ?_;refine Yi rfl rfl (j) rfl ?_;refine Yp (pv_loadK a.cells rfl rfl rfl (el_reads (f:=keptC) hm)) ?_;refine zA fun b1=>?_
  refine zq [14,2,5,3,4,0,35] ?_;refine Ops.ef rfl (ef_callf rfl rfl (hf a) rfl) ?_;rintro _ _ ⟨_,_,⟨rfl,rfl⟩,rfl,rfl⟩;refine Ops.app ?_;refine zq [39,2,5] ?_;refine Wp.cond_t rfl (fun h3=>?_) (fun h3=>?_)
  ·
   have hpa:p a=false:=by simpa using ‹(!p a)=true›
   have hset:SetL _ _ a.cells _:=el_set (f:=keptC) (k:=5) (pre:=pre) (sp:=sp2) (l:=m) (i:=i) a (by omega)
   refine zq [3,4,0,0,35] ?_;refine Yi rfl rfl (i) rfl ?_;refine zq [14,2,5,4,0] ?_;refine Ya rfl rfl (i+1) ?_;refine zq [1,2,19,5,4,0] ?_;refine Ya rfl rfl (j+1) ?_;refine zq [1,2,49] ?_;refine Yy (hK (i+1,j+1,m.set i a) ⟨by dsimp only;omega,hI.keep p ha hpa⟩ (by dsimp only;omega))
  have hpa:p a=true:=by simpa using ‹(!p a)=false›
  refine zq [11,19,5,4,0] ?_;refine Ya rfl rfl (j+1) ?_;refine zq [1,2,49] ?_;refine Yy (hK (i,j+1,m) ⟨by dsimp only;omega,hI.skip p ha hpa⟩ (by dsimp only;omega))
 obtain rfl:j=l.length:=by omega
 have hle:=hI.le
 have hlen:=hI.len
 have hfin:=hI.fin p rfl
 refine zq [41,16,16,40,5,3,4,0,0] ?_;refine Yp ((pv_slice (i:=i) (j:=l.length) rfl (by exact ⟨_,rfl⟩) (by exact rfl) (by omega) (by omega)).is (u:=.slice (some ⟨b,pre.length+i*5,none⟩) (l.length-i) (sc-i)) (by rw[if_neg (by omega)];simp[addr_add])) ?_;refine Yo (ef_clearK (T:=323) (k:=5) (zs:=keptZ.cells) rfl (by omega) rfl rfl rfl rfl (by simp[cel_len (f:=keptC) (k:=5)];omega)) ?_;rw[del_cells (f:=keptC) (k:=5) hlen (by omega)];refine zq [2,5,3,4,0,0] ?_;refine Yp (pv_sliceTo (j:=i) rfl (by exact ⟨_,rfl⟩) (by omega)) ?_;refine zq [1,2,5,10] ?_;exact zs (L' := (b,.cells (pre++cel keptC (m.take i)++((List.replicate (l.length-i) keptZ.cells).flatten++sp2)).toArray 439)::Hc) (h:=⟨_,slc_del hfin hlen (by omega) hc2 (by simp) hc1,rfl⟩)
end
def tlbE (l:List KeptM) (sp pg:Int):PteM:=((tlbGet l sp pg).map (·.e)).getD .zero
def tlbB (l:List KeptM) (sp pg:Int):Bool:=(tlbGet l sp pg).isSome
theorem key_kind(a b:Int):KindV [some .i64,some .i64] [Value.int .i64 a,.int .i64 b]:=kind_i (kind_i trivial)
theorem tr_kGet1(sp pg:Int)(sa sb:Nat)(x:KeptM):TrR prog 244 [x.v,.pointer (some ⟨sa,0,none⟩),.pointer (some ⟨sb,0,none⟩)] ((sa,.cells [.int .i64 sp].toArray 3)::(sb,.cells [.int .i64 pg].toArray 3)::[]) (.bool (keyP sp pg x)):=by
 refine YR func244 ntmps244 fun W F=>?_
 refine Wr ?_;refine zB fun b1=>?_
 refine zq [1,2,5,3,4,6,30,8,8,23] ?_;refine Yp (pv_eqlF (x.sp=sp∧x.pg=pg) (xs:=[.int .i64 x.sp,.int .i64 x.pg]) (ys:=[.int .i64 sp,.int .i64 pg]) rfl rfl (key_kind _ _) (key_kind _ _) (by simp) (by decide) (by kernel_rfl)) ?_;refine zq [1,2,5,10] ?_;exact zr ⟨rfl,rfl⟩
theorem tr_kDrop1(sp pg:Int)(sa sb:Nat)(x:KeptM):TrR prog 281 [x.v,.pointer (some ⟨sa,0,none⟩),.pointer (some ⟨sb,0,none⟩)] ((sa,.cells [.int .i64 sp].toArray 3)::(sb,.cells [.int .i64 pg].toArray 3)::[]) (.bool (keyP sp pg x)):=by
 refine YR func281 ntmps281 fun W F=>?_
 refine Wr ?_;refine zB fun b1=>?_
 refine zq [1,2,5,3,4,6,30,8,8,23] ?_;refine Yp (pv_eqlF (x.sp=sp∧x.pg=pg) (xs:=[.int .i64 x.sp,.int .i64 x.pg]) (ys:=[.int .i64 sp,.int .i64 pg]) rfl rfl (key_kind _ _) (key_kind _ _) (by simp) (by decide) (by kernel_rfl)) ?_;refine zq [1,2,5,10] ?_;exact zr ⟨rfl,rfl⟩
section
variable(l:List KeptM)(tb:Nat)(L:Hp)(hT:TlbH l tb L)(hl:l.length≤2^20)(sp pg:Int)
include l tb L hT hl sp pg
theorem tr_kGet:TrR prog 205 [tlbP tb,.int .i64 sp,.int .i64 pg] (L) (.tuple #[(tlbE l sp pg).v,.bool (tlbB l sp pg)]):=by
 obtain ⟨v,H,hs,rfl⟩:=hT;have hs0:=hs
 obtain ⟨sa,sc,rfl⟩:=hs.form;refine YR func205 ntmps205 fun W F=>?_
 refine Wr ?_;refine Yq (ef_box1 rfl rfl rfl) fun b1=>?_
 refine Yq (ef_box1 rfl rfl rfl) fun b2=>?_
 refine zA fun b3=>?_
 refine zq [1,2,5,3,4,0,9,6,8,73] ?_;refine zC (tr_kIndex 244 [.pointer (some ⟨b1,0,none⟩),.pointer (some ⟨b2,0,none⟩)] ((b1,.cells [.int .i64 sp].toArray 3)::(b2,.cells [.int .i64 pg].toArray 3)::[]) (keyP sp pg) (fun x=>tr_kGet1 sp pg b1 b2 x) _ H l hs hl) ?_;refine zq [1,2,5,3,3,4,0,42,2,5] ?_;refine Yd rfl (fun h1=>?_) (fun h1=>?_)
 ·
  have hnn:tlbGet l sp pg=none:=by
   rcases idxP_cases (keyP sp pg) l with ⟨h1,h2⟩ | ⟨i,a,h1,_⟩
   ·
    exact List.find?_eq_none.2 (fun x hx=>by rw[h2 x hx];simp)
   ·
    omega
  refine zq [3,4,23,14,1,2,5,10,12] ?_;exact zs (h:=⟨by rw[tlbE,tlbB,hnn] <;> rfl,rfl⟩)
 obtain ⟨i,a,hi,ha,hp,hn⟩:=(idxP_cases (keyP sp pg) l).resolve_left (fun h=>by omega);have hsome:tlbGet l sp pg=some a:=find_idx _ ha hp hn
 rw[hi];have hlt:=(List.getElem?_eq_some_iff.1 ha).1
 obtain ⟨b,pre,sp2,cp,hv,hc1,hc2,rfl⟩:=slc_open hs (by omega);cases hv;refine zq [11,5,3,4,0,9,6,8,0] ?_;refine Yi rfl rfl (i) rfl ?_;refine zq [61] ?_;refine Yp (pv_loadK [.bool a.e.valid,.bool a.e.write,.int .i64 a.e.at_] rfl rfl rfl (el_reads (f:=keptC) (k:=5) (pre:=pre) (sp:=sp2) ha).2.2) ?_;refine zq [14,1,2,5,10] ?_;exact zs (h:=⟨by rw[tlbE,tlbB,hsome] <;> rfl,rfl⟩)
theorem tr_kDrop:Tr prog 247 [tlbP tb,.int .i64 sp,.int .i64 pg] (L) (fun u L' => u=.tuple #[]∧TlbH (tlbDrop l sp pg) tb L'):=by
 obtain ⟨v,H,hs,rfl⟩:=hT;have hs0:=hs
 obtain ⟨sa,sc,rfl⟩:=hs.form;refine YR func247 ntmps247 fun W F=>?_
 refine Wr ?_;refine Yq (ef_box1 rfl rfl rfl) fun b1=>?_
 refine Yq (ef_box1 rfl rfl rfl) fun b2=>?_
 refine zq [2,5,4,0,0,9,6,8,73] ?_;refine zD (tr_kDelete 281 [.pointer (some ⟨b1,0,none⟩),.pointer (some ⟨b2,0,none⟩)] ((b1,.cells [.int .i64 sp].toArray 3)::(b2,.cells [.int .i64 pg].toArray 3)::[]) (keyP sp pg) (fun x=>tr_kDrop1 sp pg b1 b2 x) _ H l hs hl) ?_;rintro _ _ ⟨K1,hk1,rfl⟩;refine Ops.app ?_;have hk0:=hk1
 obtain ⟨ka1,kc1,rfl⟩:=hk1.form;refine zq [9,6,25,2] ?_;exact zf (L' := (tb,.cells [.slice ka1 (l.filter fun x=>!keyP sp pg x).length kc1].toArray 325)::K1) ⟨rfl,_,K1,hk0,rfl⟩
end
def fillE (sp pg:Int) (e:PteM):Int:=if ¬keyOk sp pg then 1 else if packE e≠0∨e.valid=false then 10 else 0
def fillS (l:List KeptM) (sp pg:Int) (e:PteM):List KeptM:=if fillE sp pg e=0 then fillL l sp pg e else l
theorem fillL_room{l:List KeptM}{sp pg:Int}{e:PteM}(h:(tlbDrop l sp pg).length<8):fillL l sp pg e=tlbDrop l sp pg++[⟨sp,pg,e⟩]:=by
 unfold fillL;dsimp only;rw[if_neg (by rw[Y3,List.length_singleton];omega)]
theorem kept_snoc{v:Value}{m:List KeptM}{H:Hp}{sp pg:Int}{e:PteM}(h:Slc 439 5 v (m.length+1) (cel keptC m++[.int .i64 sp,.int .i64 pg,.bool e.valid,.bool e.write,.int .i64 e.at_]) H):Slc 439 5 v (m++[(⟨sp,pg,e⟩:KeptM)]).length (cel keptC (m++[⟨sp,pg,e⟩])) H:=by
 rw[cel_app,cel_one1,Y3];exact h
theorem tr_kFill(l:List KeptM)(tb:Nat)(L:Hp)(hT:TlbH l tb L)(hl:l.length≤2^20)(sp pg:Int)(e:PteM)(hr:(tlbDrop l sp pg).length<8):Tr prog 207 [tlbP tb,.int .i64 sp,.int .i64 pg,e.v] (L) (fun u L' => u=.int .i64 (fillE sp pg e)∧TlbH (fillS l sp pg e) tb L'):=by
 refine YR func207 ntmps207 fun W F=>?_
 refine Wr ?_;refine zB fun b1=>?_
 refine zq [1,2,5,3,4,0,0,23] ?_;refine zA fun b2=>?_
 refine zq [14,2,5,3,3,4,30] ?_;refine zC (tr_kRight sp pg) ?_;refine zq [55,2,5] ?_;refine Yd rfl (fun h1=>?_) (fun h1=>?_)
 ·
  have he:fillE sp pg e=1:=if_pos (by simp_all)
  have he2:fillS l sp pg e=l:=if_neg (by rw[he];decide)
  refine zq [3,4,1,2,5,10,12] ?_;exact zs (L' := L) (h:=⟨by rw[he],by rw[he2];exact hT⟩)
 have hk:¬¬keyOk sp pg:=by simp_all
 refine zq [11,5,3,3,4,29] ?_;refine zC (tr_pPack e) ?_;refine zq [0,7,7,1,1,2,5,3,4,0,27,0] ?_;refine Ops.split (t:=25) rfl (fun h2=>?_) (fun h2=>?_)
 ·
  refine zq [13,13,13,24,2,5,18,3,4,1,2,5,10,12] ?_;have he:fillE sp pg e=10:=(if_neg hk).trans (if_pos (by simp_all))
  have he2:fillS l sp pg e=l:=if_neg (by rw[he];decide)
  exact zs (L' := L) (h:=⟨by rw[he],by rw[he2];exact hT⟩)
 refine zq [50,51,54,26,2,5] ?_;refine Wp.cond_t rfl (fun h3=>?_) (fun h3=>?_)
 ·
  refine zq [3,4,1,2,5,10,12] ?_;have he:fillE sp pg e=10:=(if_neg hk).trans (if_pos (by simp_all))
  have he2:fillS l sp pg e=l:=if_neg (by rw[he];decide)
  exact zs (L' := L) (h:=⟨by rw[he],by rw[he2];exact hT⟩)
 have he:fillE sp pg e=0:=(if_neg hk).trans (if_neg (by simp_all))
 have he2:fillS l sp pg e=tlbDrop l sp pg++[⟨sp,pg,e⟩]:=(if_pos he).trans (fillL_room hr)
 refine zq [11,5,3,4,0,0,0] ?_;refine zD (tr_kDrop l tb L hT hl sp pg) ?_;rintro _ _ ⟨rfl,hD1⟩;refine Ops.app ?_;obtain ⟨v1,H1,hs1,rfl⟩:=hD1;obtain ⟨ka1,kc1,rfl⟩:=hs1.form;refine Ops.app ?_;refine zq [2,5,3] ?_;refine AnyH.start [(b2,.cells [.int .i64 sp,.int .i64 pg].toArray 392),(b1,.cells [.bool e.valid,.bool e.write,.int .i64 e.at_].toArray 396)] 13 rfl ?_;refine zd [0,1,1,1,2,3,3,0,5,10,6,14,7,9] ?_;refine YB 4 8 ?_ ?_
 ·
  refine Yv rfl rfl (pv_load rfl rfl rfl) ?_;refine YA 8 ?_;refine Yw rfl rfl (ef_buildSlice1 (k:=5) rfl rfl rfl rfl rfl) fun b3=>?_
  refine YA 9 ?_;refine Turn.ef rfl rfl (ef_append (H:=H1) (xs:=[.int .i64 sp,.int .i64 pg,.bool e.valid,.bool e.write,.int .i64 e.at_]) rfl hs1 rfl ⟨rfl,rfl,rfl,rfl,rfl,trivial⟩ rfl rfl rfl (by omega) (by omega) rfl rfl) ?_ ?_ <;> rintro _ _ ⟨vn1,Hn1,hn1,rfl,rfl⟩
  ·infer_instance
  refine AnyH.app ?_;have hn9:=hn1
  obtain ⟨na1,nc1,rfl⟩:=hn1.form;refine zd [10,3,11,0] ?_;refine z1 12 ?_;refine YD ?_;refine zq [5,3,3,4,0,9,6,8] ?_;refine Yp (pv_len_slice (T:=323) rfl rfl) ?_;refine zq [44,2,5] ?_;refine Yd rfl (fun h4=>(by exfalso;omega)) (fun h4=>?_);refine zq [11,5,3,4,1,2,5,10] ?_;exact zs (L' := (tb,.cells [.slice na1 ((tlbDrop l sp pg).length+1) nc1].toArray 325)::Hn1) (h:=⟨by rw[he],by rw[he2];exact ⟨_,Hn1,kept_snoc hn9,rfl⟩⟩)
 refine Yw rfl rfl (ef_buildSlice1 (k:=5) rfl rfl rfl rfl rfl) fun b4=>?_
 refine YA 4 ?_;refine Yv rfl rfl (pv_load rfl rfl rfl) ?_;refine YA 9 ?_;refine Turn.ef rfl rfl (ef_append (H:=H1) (xs:=[.int .i64 sp,.int .i64 pg,.bool e.valid,.bool e.write,.int .i64 e.at_]) rfl hs1 rfl ⟨rfl,rfl,rfl,rfl,rfl,trivial⟩ rfl rfl rfl (by omega) (by omega) rfl rfl) ?_ ?_ <;> rintro _ _ ⟨vn2,Hn2,hn2,rfl,rfl⟩
 ·infer_instance
 refine AnyH.app ?_;have hn9:=hn2
 obtain ⟨na2,nc2,rfl⟩:=hn2.form;refine zd [10,3,11,0] ?_;refine z1 12 ?_;refine YD ?_;refine zq [5,3,3,4,0,9,6,8] ?_;refine Yp (pv_len_slice (T:=323) rfl rfl) ?_;refine zq [44,2,5] ?_;refine Yd rfl (fun h5=>(by exfalso;omega)) (fun h5=>?_);refine zq [11,5,3,4,1,2,5,10] ?_;exact zs (L' := (tb,.cells [.slice na2 ((tlbDrop l sp pg).length+1) nc2].toArray 325)::Hn2) (h:=⟨by rw[he],by rw[he2];exact ⟨_,Hn2,kept_snoc hn9,rfl⟩⟩)
def KOk (l:List KeptM):Prop:=∀x,x∈l→0≤x.e.at_∧x.e.at_≤65520
theorem KOk.e{l:List KeptM}(h:KOk l)(sp pg:Int):0≤(tlbE l sp pg).at_∧(tlbE l sp pg).at_≤65520:=by
 unfold tlbE tlbGet;cases hf:l.find? (keyP sp pg) with
 | none=>decide
 | some x=>exact h x (List.mem_of_find?_eq_some hf)
theorem pageM_at(ws:List Int)(dir a:Int):0≤(pageM ws dir a).1.at_∧(pageM ws dir a).1.at_≤65520:=by
 have:=pteI_at (memGet ws ((page1 ws dir a).1.at_+(splitM a).2.1)).1
 unfold pageM
 repeat' split
 all_goals first | exact ⟨this.1,this.2.1⟩ | (dsimp only;decide)
def toX (l:List KeptM) (ws:List Int) (sp dir a:Int):PteM×Int:=if tlbB l sp (a/16)=true then (tlbE l sp (a/16),0) else pageM ws dir a
def toL (l:List KeptM) (ws:List Int) (sp dir a:Int):List KeptM:=if tlbB l sp (a/16)=true then l else if (pageM ws dir a).2≠0 then l else fillS l sp (a/16) (pageM ws dir a).1
def toR (l:List KeptM) (ws:List Int) (sp dir a:Int) (wr:Bool):Int×Int :=
  if (toX l ws sp dir a).2≠0 then (0,(toX l ws sp dir a).2) else if wr=true∧(toX l ws sp dir a).1.write=false then (0,5) else ((toX l ws sp dir a).1.at_+a%16,0)
theorem splitM_in{a:Int}(h:0≤a∧a<4096):splitM a=(a/256,a/16%16,a%16,0):=if_neg (by omega)
theorem tr_kTo(ws:List Int)(mb wb N:Nat)(hl:ws.length=N)(hN:N≤65536)(hw:WdOk ws)(l:List KeptM)(tb:Nat)(L:Hp)(hT:TlbH l tb L)(hl1:l.length≤2^20)(sp dir a:Int)(wr:Bool)(ha:0≤a∧a<4096)(hsp:0≤sp∧sp<64)(hr:(tlbDrop l sp (a/16)).length<8)(hkp:KOk l):Tr prog 174 [tlbP tb,memP mb,.int .i64 sp,.int .i64 dir,.int .i64 a,.bool wr] ((mb,.cells [.slice (some ⟨wb,0,none⟩) N N].toArray 312)::(wb,.cells (wordsC ws).toArray 50)::L) (fun u L' => u=.tuple #[.int .i64 (toR l ws sp dir a wr).1,.int .i64 (toR l ws sp dir a wr).2]∧∃T,TlbH (toL l ws sp dir a) tb T∧L' = (mb,.cells [.slice (some ⟨wb,0,none⟩) N N].toArray 312)::(wb,.cells (wordsC ws).toArray 50)::T):=by
 subst hl;have hsi:=splitM_in ha
 have hko:keyOk sp (a/16):=by unfold keyOk;omega
 have hq16:IntKind.i64.wrap (a.tdiv 16)=a/16:=by rw[Int.tdiv_eq_ediv_of_nonneg (by omega)];exact w64 (by omega) (by omega)
 have hb1:=hkp.e sp (a/16)
 have hb2:=pageM_at ws dir a
 refine YR func174 ntmps174 fun W F=>?_
 refine zq [3,4,1,1,2,5,3,4,0,0] ?_;refine Yp (pv_quo rfl rfl (by decide) hq16) ?_;refine zq [23] ?_;refine zA fun b1=>?_
 refine zq [14,2,5,3,4,0] ?_;refine zC ((tr_pSplit a (by unfold I64;omega)).eq (r' := .tuple #[.int .i64 (a/256),.int .i64 (a/16%16),.int .i64 (a%16),.int .i64 0]) (by rw[hsi])) ?_;refine zq [0,7,7,7,7,1,1,1,1,2,5,3,3,4,0,67,0] ?_;refine Yg (pv_loadK [_,_] rfl rfl rfl ⟨rfl,rfl,trivial⟩) ?_;refine Yog (ef_callr ((tr_kRight sp (a/16)).eq (r' := .bool true) (by rw[decide_eq_true hko])) rfl rfl) ?_;refine zq [54,26,2,5,17,11,5,3,4,0,0,6,8] ?_;refine zC (tr_kGet l tb L hT hl1 sp (a/16)) ?_;refine zq [0,7,7] ?_;refine zA fun b2=>?_
 refine zq [14,1,2,5,3,3,4,0,39,2,5] ?_;refine Wp.cond_t rfl (fun h1=>?_) (fun h1=>?_)
 ·
  have hb:¬tlbB l sp (a/16)=true:=by simp_all
  have hx0:toX l ws sp dir a=pageM ws dir a:=if_neg hb
  refine zq [3,4,0,0,0] ?_;refine zC (tr_wPage ws mb wb ws.length rfl hN hw dir a (by unfold I64;omega)) ?_;refine zq [0,7,7,14,1,2,5,3,3,4,0,27,2,5] ?_;refine Yd rfl (fun h2=>?_) (fun h2=>?_)
  ·
   have hl2:toL l ws sp dir a=l:=(if_neg hb).trans (if_pos (by assumption))
   have he:toR l ws sp dir a wr=(0,(pageM ws dir a).2):=by rw[toR,hx0,if_pos (by assumption)]
   refine zq [3,4,0,1,1,2,5,10,12,12] ?_;exact zs (L' := (mb,.cells [.slice (some ⟨wb,0,none⟩) ws.length ws.length].toArray 312)::(wb,.cells (wordsC ws).toArray 50)::L) (h:=⟨by rw[he],_,by rw[hl2];exact hT,rfl⟩)
  have hz:¬(pageM ws dir a).2≠0:=by assumption
  have hl2:toL l ws sp dir a=fillS l sp (a/16) (pageM ws dir a).1:=(if_neg hb).trans (if_neg hz)
  refine zq [11,5,4,0,0,6,8,29] ?_;refine zD (tr_kFill l tb L hT hl1 sp (a/16) (pageM ws dir a).1 hr) ?_;rintro _ T1 ⟨rfl,hT1⟩;refine Ops.app ?_
  skip
  refine zq [2,5,3,3,4,0,0] ?_;refine Ops.splitb (t:=66) rfl (fun h3=>?_) (fun h3=>?_)
  ·
   refine zq [50,51,54,24,2,5] ?_;refine Wp.cond_t rfl (fun h4=>?_) (fun h4=>?_)
   ·
    refine zq [3,4,1,1,2,5,10,12] ?_;have he:toR l ws sp dir a wr=(0,5):=by rw[toR,hx0,if_neg hz,if_pos ⟨by assumption,by simp_all⟩]
    exact zs (L' := (mb,.cells [.slice (some ⟨wb,0,none⟩) ws.length ws.length].toArray 312)::(wb,.cells (wordsC ws).toArray 50)::T1) (h:=⟨by rw[he],_,by rw[hl2];exact hT1,rfl⟩)
   refine zq [11,5,3,4,6,8,0,52,1,1,2,5,10] ?_;have he:toR l ws sp dir a wr=((pageM ws dir a).1.at_+a%16,0):=by rw[toR,hx0,if_neg hz,if_neg (by rintro ⟨q1,q2⟩;simp_all)]
   exact zs (L' := (mb,.cells [.slice (some ⟨wb,0,none⟩) ws.length ws.length].toArray 312)::(wb,.cells (wordsC ws).toArray 50)::T1) (h:=⟨by rw[he],_,by rw[hl2];exact hT1,rfl⟩)
  refine zq [13,13,13,26,2,5,17,11,5,3,4,6,8,0,52,1,1,2,5,10] ?_;have he:toR l ws sp dir a wr=((pageM ws dir a).1.at_+a%16,0):=by rw[toR,hx0,if_neg hz,if_neg (by rintro ⟨q1,q2⟩;simp_all)]
  exact zs (L' := (mb,.cells [.slice (some ⟨wb,0,none⟩) ws.length ws.length].toArray 312)::(wb,.cells (wordsC ws).toArray 50)::T1) (h:=⟨by rw[he],_,by rw[hl2];exact hT1,rfl⟩)
 have hb:tlbB l sp (a/16)=true:=by simp_all
 have hx0:toX l ws sp dir a=(tlbE l sp (a/16),0):=if_pos hb
 have hl2:toL l ws sp dir a=l:=if_pos hb
 refine zq [11,5,3,3,4,0,0] ?_;refine Ops.splitb (t:=66) rfl (fun h5=>?_) (fun h5=>?_)
 ·
  refine zq [50,51,54,24,2,5] ?_;refine Wp.cond_t rfl (fun h6=>?_) (fun h6=>?_)
  ·
   refine zq [3,4,1,1,2,5,10,12] ?_;have he:toR l ws sp dir a wr=(0,5):=by rw[toR,hx0,if_neg (not_not_intro rfl),if_pos ⟨by assumption,by simp_all⟩]
   exact zs (L' := (mb,.cells [.slice (some ⟨wb,0,none⟩) ws.length ws.length].toArray 312)::(wb,.cells (wordsC ws).toArray 50)::L) (h:=⟨by rw[he],_,by rw[hl2];exact hT,rfl⟩)
  refine zq [11,5,3,4,6,8,0,52,1,1,2,5,10] ?_;have he:toR l ws sp dir a wr=((tlbE l sp (a/16)).at_+a%16,0):=by rw[toR,hx0,if_neg (not_not_intro rfl),if_neg (by rintro ⟨q1,q2⟩;simp_all)]
  exact zs (L' := (mb,.cells [.slice (some ⟨wb,0,none⟩) ws.length ws.length].toArray 312)::(wb,.cells (wordsC ws).toArray 50)::L) (h:=⟨by rw[he],_,by rw[hl2];exact hT,rfl⟩)
 refine zq [13,13,13,26,2,5,17,11,5,3,4,6,8,0,52,1,1,2,5,10] ?_;have he:toR l ws sp dir a wr=((tlbE l sp (a/16)).at_+a%16,0):=by rw[toR,hx0,if_neg (not_not_intro rfl),if_neg (by rintro ⟨q1,q2⟩;simp_all)]
 exact zs (L' := (mb,.cells [.slice (some ⟨wb,0,none⟩) ws.length ws.length].toArray 312)::(wb,.cells (wordsC ws).toArray 50)::L) (h:=⟨by rw[he],_,by rw[hl2];exact hT,rfl⟩)
end
section
theorem _root_.Go.SL.Blk.take{E:Hp}{b:Nat}{o:Obj}(h:Blk E b o):∃R,Take E b o R:=by
 obtain ⟨A,B,rfl⟩:=List.append_of_mem h.mem;exact ⟨A++B,⟨List.perm_middle⟩⟩
inductive Th
  | unt (used:Int)
  | node
  | thr (t:ThrM) (root:CapM) (space bound:Int)
  | ep (S:Ep)
  | nt (S:Nt)
  | page (of_:Int) (mapped:Bool) (space at_:Int)
  | spc
structure En where
  th:Th
  sp:Int×Int
structure Ad where
  ob:Nat
  tb:Nat
  nb:Nat
def Th.kind:Th→Int
  | .unt _=>1
  | .node=>2
  | .thr ..=>3
  | .ep _=>4
  | .nt _=>5
  | .page o ..=>o
  | .spc=>8
def Th.ty:Th→Nat
  | .unt _=>166
  | .node=>326
  | .thr ..=>172
  | .ep _=>255
  | .nt _=>261
  | .page ..=>169
  | .spc=>331
abbrev thrC (t:ThrM) (c:CapM) (s b:Int):List Value:=[.int .i64 t.st,.int .i64 t.on,.int .u64 t.badge,.bool t.calls,.int .i64 t.caller,.int .i64 t.lvl,.int .i64 t.dom,.int .i64 t.pc,
  .int .u64 t.regs.r0,.int .u64 t.regs.r1,.int .u64 t.regs.r2,.int .u64 t.regs.r3,.int .u64 t.regs.r4,.int .u64 t.regs.r5,.int .u64 t.regs.r6,.int .u64 t.regs.r7,
  .int .i64 c.kind,.int .i64 c.object,.int .i64 c.rights,.int .u64 c.badge,.int .u64 c.guard,.int .i64 c.bits,.int .i64 s,.int .i64 b]
abbrev thrO (t:ThrM) (c:CapM) (s b:Int):Obj:=.cells (thrC t c s b).toArray 176
abbrev pageO (o:Int) (m:Bool) (s a:Int):Obj:=.cells [.int .i64 o,.bool m,.int .i64 s,.int .i64 a].toArray 171
def Th.obj (nb:Nat):Th→Obj
  | .unt u=>.cells [.int .i64 u].toArray 168
  | .node=>.cells [].toArray 327
  | .thr t c s b=>thrO t c s b
  | .ep _=>.cells [.pointer (some ⟨nb,0,none⟩)].toArray 260
  | .nt _=>.cells [.pointer (some ⟨nb,0,none⟩)].toArray 266
  | .page o m s a=>pageO o m s a
  | .spc=>.cells [].toArray 332
def Th.inn (nb:Nat) (H:Hp):Th→Prop
  | .ep S=>EpH S nb H
  | .nt S=>NtH S nb H
  | _=>H=[]
abbrev objO (ty tb:Nat) (sp:Int×Int):Obj:=.cells [.iface ty (.pointer (some ⟨tb,0,none⟩)),.int .i64 sp.1,.int .i64 sp.2].toArray 165
def enB (ar:List En) (ad:Nat→Ad) (In:Nat→Hp) (i:Nat):Hp :=
  match ar[i]? with
  | none=>[]
  | some en=>((ad i).ob,objO en.th.ty (ad i).tb en.sp)::((ad i).tb,en.th.obj (ad i).nb)::In i
def EnH (ar:List En) (ad:Nat→Ad) (E:Hp):Prop:=∃In:Nat→Hp,(∀(i:Nat) (en:En),ar[i]?=some en→en.th.inn (ad i).nb (In i))∧E=segs (enB ar ad In) ar.length
theorem enB_some{ar:List En}{ad:Nat→Ad}{In:Nat→Hp}{i:Nat}{en:En}(he:ar[i]?=some en) :
    enB ar ad In i=((ad i).ob,objO en.th.ty (ad i).tb en.sp)::((ad i).tb,en.th.obj (ad i).nb)::In i:=by unfold enB;rw[he]
theorem lt_of_some{α:Type}{l:List α}{i:Nat}{x:α}(h:l[i]?=some x):i<l.length:=(List.getElem?_eq_some_iff.1 h).1
section
variable{ar:List En}{ad:Nat→Ad}{E:Hp}(h:EnH ar ad E){i:Nat}{en:En}(he:ar[i]?=some en)
include ar ad E h i en he
theorem EnH.ob:Blk E (ad i).ob (objO en.th.ty (ad i).tb en.sp):=by
 obtain ⟨In,_,rfl⟩:=h;exact ⟨segs_mem (lt_of_some he) (by rw[enB_some he];exact List.mem_cons_self ..)⟩
theorem EnH.tb:Blk E (ad i).tb (en.th.obj (ad i).nb):=by
 obtain ⟨In,_,rfl⟩:=h;exact ⟨segs_mem (lt_of_some he) (by rw[enB_some he];exact List.mem_cons_of_mem _ (List.mem_cons_self ..))⟩
end
theorem segs_cut{h:Nat→Hp}{i:Nat}:∀{n:Nat},i<n→∃A B,∀H,segs (fset h i H) n=A++(H++B)
  | 0,hi=>by omega
  | n+1,hi=>by
    by_cases e:i=n
    · subst e
      refine ⟨segs h i,[],fun H=>?_⟩;rw[segs_succ,fset_same,segs_congr (k:=h) (fun j hj=>fset_ne (by omega)),List.append_nil]
    · obtain ⟨A,B,hAB⟩:=segs_cut (h:=h) (i:=i) (n:=n) (by omega)
      refine ⟨A,B++h n,fun H=>?_⟩;rw[segs_succ,hAB,fset_ne (show n≠i by omega)];simp only[Y7]
theorem segs_same{h:Nat→Hp}{i n:Nat}:segs h n=segs (fset h i (h i)) n:=segs_congr (fun j _=>by
 by_cases e:j=i
 ·
  subst e;rw[fset_same]
 ·
  rw[fset_ne e])
def Th.like:Th→Th→Prop
  | .unt _,.unt _=>True
  | .thr ..,.thr ..=>True
  | .page ..,.page ..=>True
  | _,_=>False
theorem Th.like_ty{a b:Th}(h:a.like b):b.ty=a.ty:=by
 cases a <;> cases b <;> first | rfl | exact h.elim
theorem Th.like_inn{a b:Th}(h:a.like b){nb:Nat}{H:Hp}(hi:a.inn nb H):b.inn nb H:=by
 cases a <;> cases b <;> first | exact hi | exact h.elim
def setA (ar:List En) (i:Nat) (th:Th):List En:=ar.modify i (fun en=>{ en with th:=th })
theorem setA_len(ar:List En)(i:Nat)(th:Th):(setA ar i th).length=ar.length:=by simp[setA]
section
variable{ar:List En}
include ar
theorem setA_same{i:Nat}{en:En}(he:ar[i]?=some en)(th:Th):(setA ar i th)[i]?=some { en with th:=th }:=by simp[setA,he]
theorem setA_ne{i j:Nat}(h:j≠i)(th:Th):(setA ar i th)[j]?=ar[j]?:=by
 unfold setA;simp[List.getElem?_modify,Ne.symm h]
theorem setA_B{ad:Nat→Ad}{In:Nat→Hp}{i:Nat}{en:En}(he:ar[i]?=some en)(th:Th)(H:Hp):
    segs (enB (setA ar i th) ad (fset In i H)) (setA ar i th).length=segs (fset (enB ar ad In) i (((ad i).ob,objO th.ty (ad i).tb en.sp)::((ad i).tb,th.obj (ad i).nb)::H)) ar.length:=by
  rw[setA_len];refine segs_congr (fun j hj=>?_)
  by_cases e:j=i
  · subst e
    rw[fset_same,enB_some (setA_same he th),fset_same]
  · unfold enB
    rw[fset_ne e,setA_ne e,fset_ne e]
theorem EnH.upd{ad:Nat→Ad}{E:Hp}(h:EnH ar ad E){i:Nat}{en:En}(he:ar[i]?=some en):
    ∃(G:Obj→Hp) (R:Hp),E=G (en.th.obj (ad i).nb)∧(∀o o', Upd (G o) (ad i).tb o' (G o'))∧(∀o,Blk (G o) (ad i).tb o)∧(∀o,Take (G o) (ad i).tb o R) ∧
      ∀th', en.th.like th' → EnH (setA ar i th') ad (G (th'.obj (ad i).nb)):=by
  obtain ⟨In,hin,rfl⟩:=h;obtain ⟨A,B,hAB⟩:=segs_cut (h:=enB ar ad In) (lt_of_some he);refine ⟨fun o=>segs (fset (enB ar ad In) i (((ad i).ob,objO en.th.ty (ad i).tb en.sp)::((ad i).tb,o)::In i)) ar.length,A++(((ad i).ob,objO en.th.ty (ad i).tb en.sp)::(In i++B)),?_,fun o o' => ⟨?_⟩,fun o=>⟨?_⟩,fun o=>⟨?_⟩,fun th' hl=>?_⟩
  · dsimp only
    rw[←enB_some he];exact segs_same
  · refine ⟨A++[((ad i).ob,objO en.th.ty (ad i).tb en.sp)],In i++B,o,?_,?_⟩ <;> (dsimp only; rw[hAB]; simp)
  · dsimp only;rw[hAB];simp
  · dsimp only;rw[hAB]
    simp only[Y1];exact (List.Perm.append_left A (List.Perm.swap _ _ _)).trans List.perm_middle
  · refine ⟨In,fun j e hj=>?_,?_⟩
    · by_cases e' : j=i
      · subst e'
        rw[setA_same he]at hj;cases hj;exact Th.like_inn hl (hin j en he)
      · rw[setA_ne e']at hj;exact hin j e hj
    · have:=setA_B (ad:=ad) (In:=In) he th' (In i)
      rw[Th.like_ty hl]at this;rw[fset_self]at this;exact this.symm
theorem EnH.more{ad:Nat→Ad}{E:Hp}(h:EnH ar ad E)(a:Ad)(en:En){H:Hp}(hH:en.th.inn a.nb H):
    EnH (ar++[en]) (fset ad ar.length a) (E++((a.ob,objO en.th.ty a.tb en.sp)::(a.tb,en.th.obj a.nb)::H)):=by
  obtain ⟨In,hin,rfl⟩:=h;refine ⟨fset In ar.length H,fun i e hi=>?_,?_⟩
  · rcases Nat.lt_or_ge i ar.length with hl | hl
    · rw[List.getElem?_append_left hl]at hi
      rw[fset_ne (by omega),fset_ne (by omega)];exact hin i e hi
    · rw[List.getElem?_append_right hl]at hi
      obtain ⟨rfl,rfl⟩:i=ar.length∧e=en:=by
        have:=lt_of_some hi
        have e0:i=ar.length:=by simp at this;omega
        subst e0;simp at hi;exact ⟨rfl,hi.symm⟩
      rw[fset_same,fset_same];exact hH
  · rw[Y3,List.length_singleton,segs_succ]
    congr 1
    · refine segs_congr (fun j hj=>?_)
      unfold enB;rw[List.getElem?_append_left hj,fset_ne (by omega),fset_ne (by omega)]
    · rw[enB_some (en:=en) (by simp),fset_same,fset_same]
end
end
end Go.Proofs.YtmoeokkelkgnhaaGreat
section
namespace Go.Proofs.YtmoeokkelkgnhaaGreat
open Go.SL
instance (x:Int):Decidable (I64 x):=by unfold I64;infer_instance
structure WireM where
  on:Bool
  nt:Int
  badge:Int
abbrev WireM.zero:WireM:=⟨false,0,0⟩
structure LineM where
  owner:Int
  masked:Bool
  pend:Bool
abbrev LineM.new:LineM:=⟨-1,true,false⟩
structure Kn where
  ws:List Int
  p:PS
  nk:Nat
  ar:List En
  mp:List (Int×Nat×Nat)
  ck:Nat
  wi:Nat→WireM
  q:List LineM
  T:Ones
  e:Nat
  lf:Int
  L:Nat→Ones
  tl:List KeptM
structure KA where
  mb:Nat
  wb:Nat
  cb:Nat
  ob:Nat
  ib:Nat
  sb:Nat
  tb:Nat
abbrev kerO (A:KA) (wi:Nat→WireM):Obj:=.cells [.pointer (some ⟨A.mb,0,none⟩),.pointer (some ⟨A.cb,0,none⟩),.map (some A.ob),.pointer (some ⟨A.ib,0,none⟩),.bool (wi 0).on,.int .i64 (wi 0).nt,.int .u64 (wi 0).badge,.bool (wi 1).on,.int .i64 (wi 1).nt,.int .u64 (wi 1).badge,.bool (wi 2).on,.int .i64 (wi 2).nt,.int .u64 (wi 2).badge,.bool (wi 3).on,.int .i64 (wi 3).nt,.int .u64 (wi 3).badge,.bool (wi 4).on,.int .i64 (wi 4).nt,.int .u64 (wi 4).badge,.bool (wi 5).on,.int .i64 (wi 5).nt,.int .u64 (wi 5).badge,.bool (wi 6).on,.int .i64 (wi 6).nt,.int .u64 (wi 6).badge,.bool (wi 7).on,.int .i64 (wi 7).nt,.int .u64 (wi 7).badge,.pointer (some ⟨A.sb,0,none⟩),.pointer (some ⟨A.tb,0,none⟩)].toArray 160
def kvM (ad:Nat→Ad) (mp:List (Int×Nat×Nat)):List (Int×Value×Nat):=mp.map fun e=>(e.1,.pointer (some ⟨(ad e.2.1).ob,0,none⟩),e.2.2)
def chO (p:Bool):Obj:=.chan 1 (if p then #[.agg #[]] else #[]) false 0 0 false
def lineC (ch:Nat→Nat) (q:List LineM):List Value:=(List.range q.length).flatMap fun i=>[.chan (some (ch i)),.int .i64 ((q[i]?.getD .new).owner),.bool ((q[i]?.getD .new).masked)]
def IrqH (q:List LineM) (ib:Nat) (L:Hp):Prop:=∃ch:Nat→Nat,L=(ib,.cells (lineC ch q).toArray 322)::segs (fun i=>[(ch i,chO ((q[i]?.getD .new).pend))]) q.length
def KH (k:Kn) (A:KA) (ad:Nat→Ad) (kb:Nat) (L:Hp):Prop:=∃Iq Lc Ls Lt E,IrqH k.q A.ib Iq∧CapsH k.nk k.p A.cb Lc∧SchH k.T k.e k.lf k.L A.sb Ls∧TlbH k.tl A.tb Lt∧EnH k.ar ad E ∧
  L=(kb,kerO A k.wi)::(A.ob,mapO encI (kvM ad k.mp) k.ck)::(A.mb,.cells [.slice (some ⟨A.wb,0,none⟩) k.ws.length k.ws.length].toArray 312)::(A.wb,.cells (wordsC k.ws).toArray 50)::(Iq++(Lc++(Ls++(Lt++E))))
def Kn.ix (k:Kn) (n:Int):Option Nat:=(k.mp.find? fun e=>decide (n=e.1)).map (·.2.1)
def Kn.en (k:Kn) (n:Int):Option En:=(k.ix n).bind fun i=>k.ar[i]?
def kpV (ad:Nat→Ad):Option Nat→Value
  | none=>.pointer none
  | some i=>.pointer (some ⟨(ad i).ob,0,none⟩)
theorem kv_get(k:Kn)(ad:Nat→Ad)(n:Int):(mget n (kvM ad k.mp)).getD (.pointer none)=kpV ad (k.ix n):=by
 unfold Kn.ix kvM
 induction k.mp with
 | nil=>rfl
 | cons e l ih =>
  simp only[List.map_cons,mget,List.find?_cons]
  by_cases h:n=e.1
  ·
   rw[if_pos h,decide_eq_true h];rfl
  ·
   rw[if_neg h,decide_eq_false h];exact ih
theorem kv_mem{k:Kn}{n:Int}{i:Nat}(h:k.ix n=some i):∃s,(n,i,s)∈k.mp:=by
 unfold Kn.ix at h;obtain ⟨e,he,rfl⟩:=Option.map_eq_some_iff.1 h;have h1:=List.mem_of_find?_eq_some he
 have h2:=List.find?_some he
 simp only[decide_eq_true_eq]at h2;subst h2;exact ⟨_,h1⟩
def N64 (l:List Int):Prop:=l.Nodup∧∀x,x∈l→rightM x=true
theorem right_64{x:Int}(h:rightM x=true):0≤x∧x<64:=by simpa [rightM] using h
theorem N64.len{l:List Int}(h:N64 l):l.length≤64:=by
 have h1:(l.map Int.toNat).Nodup:=by
  unfold List.Nodup;rw[List.pairwise_map];refine List.Pairwise.imp_of_mem ?_ h.1;intro a b ha hb hab;have:=right_64 (h.2 a ha);have:=right_64 (h.2 b hb)
  omega
 have:=nodup_len (n:=64) h1 (by
  intro y hy;obtain ⟨x,hx,rfl⟩:=List.mem_map.1 hy;have:=right_64 (h.2 x hx);omega)
 simpa using this
theorem N64.nil:N64 []:=⟨List.nodup_nil,fun x h=>(List.not_mem_nil h).elim⟩
theorem N64.sub{l m:List Int}(h:N64 l)(hs:m.Sublist l):N64 m:=⟨h.1.sublist hs,fun x hx=>h.2 x (hs.subset hx)⟩
theorem remL_sub(l:List Int)(x:Int):(remL l x).Sublist l:=by
 unfold remL;split
 ·
  rw[show l.take _++l.drop _=l.eraseIdx _ from (List.eraseIdx_eq_take_drop_succ ..).symm];exact List.eraseIdx_sublist ..
 ·
  exact List.Sublist.refl _
theorem N64.rem{l:List Int}(h:N64 l)(x:Int):N64 (remL l x):=h.sub (remL_sub l x)
structure ThW (t:ThrM):Prop where
  wf:t.Wf
  pc:0≤t.pc∧t.pc≤4095
def ThOk:Th→Prop
  | .thr t _ s _=>ThW t∧(s = -1∨(0≤s∧s<64))
  | .ep S=>N64 S.l
  | .nt S=>N64 S.l∧S.b.length≤1∧U64 S.w
  | _=>True
structure KW (k:Kn):Prop where
  len:64≤k.ws.length∧k.ws.length≤65536
  wok:WdOk k.ws
  nk:k.nk≤2^18
  mp:∀e,e∈k.mp→0≤e.1∧e.1<64∧e.2.1<k.ar.length∧e.2.2<k.ck
  q:k.q.length=8∧(k.mp.map (·.2.2)).Nodup
  at_:At k.T k.e k.lf
  rw:RdysW k.L
  rr:∀d,d<4→N64 ((k.L d).map (·.1))
  ths:∀(i:Nat) (en:En),k.ar[i]?=some en→ThOk en.th
  tk:KOk k.tl∧k.tl.length≤8
theorem KW.rl{k:Kn}(h:KW k){n:Nat}(hn:64≤n):RdysL k.L n:=fun d hd=>by have:=(h.rr d hd).len;rw[List.length_map]at this;omega
theorem KW.en{k:Kn}(h:KW k){n:Int}{i:Nat}(hi:k.ix n=some i):∃en,k.ar[i]?=some en:=by
 obtain ⟨s,hs⟩:=kv_mem hi;exact ⟨_,Y8 (h.mp _ hs).2.2.1⟩
theorem KW.num{k:Kn}(h:KW k){n:Int}{i:Nat}(hi:k.ix n=some i):0≤n∧n<64:=by
 obtain ⟨s,hs⟩:=kv_mem hi;exact ⟨(h.mp _ hs).1,(h.mp _ hs).2.1⟩
def gIs (k:Kn) (n:Int) (ty:Nat):Bool:=match k.en n with
  | none=>false
  | some en=>decide (en.th.ty=ty)
def gPt (k:Kn) (ad:Nat→Ad) (n:Int) (ty:Nat):Value:=if gIs k n ty then .pointer (some ⟨(ad ((k.ix n).getD 0)).tb,0,none⟩) else .pointer none
theorem gIs_some{k:Kn}{n:Int}{i:Nat}{en:En}(hi:k.ix n=some i)(he:k.ar[i]?=some en)(ty:Nat):gIs k n ty=decide (en.th.ty=ty):=by
 unfold gIs Kn.en;rw[hi,Option.bind_some,he]
theorem gIs_none{k:Kn}{n:Int}(hi:k.ix n=none)(ty:Nat):gIs k n ty=false:=by
 unfold gIs Kn.en;rw[hi];rfl
theorem gPt_yes{k:Kn}{ad:Nat→Ad}{n:Int}{i:Nat}{en:En}(hi:k.ix n=some i)(he:k.ar[i]?=some en){ty:Nat}(h:en.th.ty=ty):gPt k ad n ty=.pointer (some ⟨(ad i).tb,0,none⟩):=by
 unfold gPt;rw[gIs_some hi he,decide_eq_true h,hi];rfl
theorem gPt_no{k:Kn}{ad:Nat→Ad}{n:Int}{ty:Nat}(h:gIs k n ty=false):gPt k ad n ty=.pointer none:=by
 unfold gPt;rw[h];rfl
def Kn.isK (k:Kn) (n kind:Int):Bool:=match k.en n with
  | none=>false
  | some en=>decide (en.th.kind=kind)
theorem isK_some{k:Kn}{n kind:Int}{i:Nat}{en:En}(hi:k.ix n=some i)(he:k.ar[i]?=some en):k.isK n kind=decide (en.th.kind=kind):=by
 unfold Kn.isK Kn.en;rw[hi,Option.bind_some,he]
theorem isK_none{k:Kn}{n kind:Int}(hi:k.ix n=none):k.isK n kind=false:=by
 unfold Kn.isK Kn.en;rw[hi];rfl
section
variable{ar:List En}{ad:Nat→Ad}{E:Hp}(h:EnH ar ad E)
include ar ad E h
theorem EnH.thr{i:Nat}{t:ThrM}{c:CapM}{s b:Int}{sp:Int×Int}(he:ar[i]?=some ⟨.thr t c s b,sp⟩):
    ∃(G:Obj→Hp) (R:Hp),E=G (thrO t c s b)∧(∀o o', Upd (G o) (ad i).tb o' (G o'))∧(∀o,Blk (G o) (ad i).tb o)∧(∀o,Take (G o) (ad i).tb o R) ∧
      ∀t' c' s' b', EnH (setA ar i (.thr t' c' s' b')) ad (G (thrO t' c' s' b')):=by
  obtain ⟨G,R,h0,h1,h2,h3,h4⟩:=h.upd he;exact ⟨G,R,h0,h1,h2,h3,fun t' c' s' b' => h4 (.thr t' c' s' b') trivial⟩
theorem EnH.page{i:Nat}{q:Int}{m:Bool}{s a:Int}{sp:Int×Int}(he:ar[i]?=some ⟨.page q m s a,sp⟩):
    ∃(G:Obj→Hp) (R:Hp),E=G (pageO q m s a)∧(∀o o', Upd (G o) (ad i).tb o' (G o'))∧(∀o,Blk (G o) (ad i).tb o)∧(∀o,Take (G o) (ad i).tb o R) ∧
      ∀q' m' s' a', EnH (setA ar i (.page q' m' s' a')) ad (G (pageO q' m' s' a')):=by
  obtain ⟨G,R,h0,h1,h2,h3,h4⟩:=h.upd he;exact ⟨G,R,h0,h1,h2,h3,fun q' m' s' a' => h4 (.page q' m' s' a') trivial⟩
end
def Kn.thI (k:Kn) (i:Nat):Option (ThrM×CapM×Int×Int):=match k.ar[i]? with
  | some ⟨.thr t c s b,_⟩=>some (t,c,s,b)
  | _=>none
def Kn.thr (k:Kn) (n:Int):Option (ThrM×CapM×Int×Int):=(k.ix n).bind k.thI
def Kn.setI (k:Kn) (i:Nat) (f:ThrM→ThrM):Kn:=match k.thI i with
  | some (t,c,s,b)=>{ k with ar:=setA k.ar i (.thr (f t) c s b) }
  | none=>k
def Kn.setThr (k:Kn) (n:Int) (f:ThrM→ThrM):Kn:=match k.ix n with
  | some i=>k.setI i f
  | none=>k
def beL (L:Nat→Ones) (n:Int) (x:ThrM):Nat→Ones:=if x.st=1 then spL (sdL L n) n x.dom x.lvl else sdL L n
def Kn.be (k:Kn) (n:Int) (x:ThrM):Kn:={ k.setThr n (fun _=>x) with L:=beL k.L n x }
section thr
variable {k : Kn} {n : Int} {i : Nat} {t : ThrM} {c : CapM} {s b : Int} {sp : Int × Int}
theorem thI_eq(he:k.ar[i]?=some ⟨.thr t c s b,sp⟩):k.thI i=some (t,c,s,b):=by unfold Kn.thI;rw[he]
theorem thI_ex{x:ThrM×CapM×Int×Int}(h:k.thI i=some x):∃sp,k.ar[i]?=some ⟨.thr x.1 x.2.1 x.2.2.1 x.2.2.2,sp⟩:=by
 unfold Kn.thI at h
 split at h
 ·
  rename_i t c s b sp he;cases h;exact ⟨sp,he⟩
 ·
  cases h
theorem thr_eq(hi:k.ix n=some i)(he:k.ar[i]?=some ⟨.thr t c s b,sp⟩):k.thr n=some (t,c,s,b):=by
 unfold Kn.thr;rw[hi,Option.bind_some,thI_eq he]
theorem thr_ex{x:ThrM×CapM×Int×Int}(h:k.thr n=some x):∃i sp,k.ix n=some i∧k.ar[i]?=some ⟨.thr x.1 x.2.1 x.2.2.1 x.2.2.2,sp⟩:=by
 unfold Kn.thr at h;cases hi:k.ix n with
 | none=>rw[hi]at h;cases h
 | some i =>
  rw[hi,Option.bind_some]at h;obtain ⟨sp,he⟩:=thI_ex h;exact ⟨i,sp,rfl,he⟩
theorem thr_is(hw:KW k)(n:Int):gIs k n 172=(k.thr n).isSome:=by
 cases hi:k.ix n with
 | none=>rw[gIs_none hi];unfold Kn.thr;rw[hi];rfl
 | some i =>
  obtain ⟨⟨th,sp⟩,he⟩:=hw.en hi;rw[gIs_some hi he];unfold Kn.thr Kn.thI;rw[hi,Option.bind_some,he]
  cases th <;> rfl
theorem setI_eq(he:k.ar[i]?=some ⟨.thr t c s b,sp⟩)(f:ThrM→ThrM):k.setI i f={ k with ar:=setA k.ar i (.thr (f t) c s b) }:=by
 unfold Kn.setI;rw[thI_eq he]
section
variable(hi:k.ix n=some i)(he:k.ar[i]?=some ⟨.thr t c s b,sp⟩)
include hi he
theorem setThr_eq(f:ThrM→ThrM):k.setThr n f={ k with ar:=setA k.ar i (.thr (f t) c s b) }:=by
 unfold Kn.setThr;rw[hi];exact setI_eq he f
theorem be_eq(x:ThrM):k.be n x={ k with ar:=setA k.ar i (.thr x c s b),L:=beL k.L n x }:=by
 unfold Kn.be;rw[setThr_eq hi he]
end
end thr
structure Kp (k k' : Kn):Prop where
  mp:k'.mp=k.mp
  th:∀(i:Nat) (t:ThrM) (c:CapM) (s b:Int) (sp:Int×Int),k.ar[i]?=some ⟨.thr t c s b,sp⟩→∃t', k'.ar[i]?=some ⟨.thr t' c s b,sp⟩
theorem Kp.refl(k:Kn):Kp k k:=⟨rfl,fun i t c s b sp h=>⟨t,h⟩⟩
theorem Kp.trans{a b c:Kn}(h:Kp a b)(g:Kp b c):Kp a c:=⟨g.mp.trans h.mp,fun i t cc s bb sp he=>by obtain ⟨t1,h1⟩:=h.th i t cc s bb sp he;exact g.th i t1 cc s bb sp h1⟩
theorem setA_get{ar:List En}{i j:Nat}{th:Th}{en:En}(h:(setA ar i th)[j]?=some en):(j=i∧en.th=th∧∃e0,ar[i]?=some e0∧en.sp=e0.sp)∨(j≠i∧ar[j]?=some en):=by
 by_cases e:j=i
 ·
  subst e
  left
  cases h0:ar[j]? with
  | none=>unfold setA at h;simp[h0]at h
  | some e0=>rw[setA_same h0]at h;cases h;exact ⟨rfl,rfl,e0,rfl,rfl⟩
 ·
  rw[setA_ne e]at h;exact .inr ⟨e,h⟩
theorem KW.setA{k:Kn}(h:KW k){i:Nat}{th:Th}(ht:ThOk th):KW { k with ar:=setA k.ar i th }:=by
 obtain ⟨h1,h2,h3,h5,h6,h7,h8,h9,h10,h11⟩:=h;refine ⟨h1,h2,h3,?_,h6,h7,h8,h9,?_,h11⟩
 ·
  dsimp only;rw[setA_len];exact h5
 ·
  intro j en he
  rcases setA_get he with ⟨_,e2,_⟩ | ⟨_,e2⟩
  ·
   rw[e2];exact ht
  ·
   exact h10 j en e2
theorem Kp.setThr'{k:Kn}{i:Nat}{t:ThrM}{c:CapM}{s b:Int}{sp:Int×Int}(he:k.ar[i]?=some ⟨.thr t c s b,sp⟩)(t' : ThrM){k' : Kn}(hm:k'.mp=k.mp)(ha:k'.ar=setA k.ar i (.thr t' c s b)):Kp k k' := by
 refine ⟨hm,fun j t1 c1 s1 b1 sp1 h1=>?_⟩;rw[ha]
 by_cases e:j=i
 ·
  subst e;rw[he]at h1;cases h1
  exact ⟨t', setA_same he _⟩
 ·
  rw[setA_ne e];exact ⟨t1,h1⟩
theorem KW.setI{k:Kn}(h:KW k)(i:Nat){f:ThrM→ThrM}(hf:∀t,ThW t→ThW (f t)):KW (k.setI i f)∧Kp k (k.setI i f):=by
 cases ht:k.thI i with
 | none=>unfold Kn.setI;rw[ht];exact ⟨h,Kp.refl _⟩
 | some x =>
  obtain ⟨t,c,s,b⟩:=x;obtain ⟨sp,he⟩:=thI_ex ht;rw[setI_eq he];have:=h.ths i _ he
  exact ⟨h.setA ⟨hf _ this.1,this.2⟩,Kp.setThr' he (f t) rfl rfl⟩
theorem KW.setThr{k:Kn}(h:KW k)(n:Int){f:ThrM→ThrM}(hf:∀t,ThW t→ThW (f t)):KW (k.setThr n f)∧Kp k (k.setThr n f):=by
 unfold Kn.setThr
 split
 ·
  exact h.setI _ hf
 ·
  exact ⟨h,Kp.refl _⟩
section
variable{L:Nat→Ones}(h:∀d,d<4→N64 ((L d).map (·.1)))
include L h
theorem sdR(n:Int):∀d,d<4→N64 ((sdL L n d).map (·.1)):=by
 intro d hd;cases hf:findM L n with
 | none=>rw[show sdL L n=L by unfold sdL;rw[hf]];exact h d hd
 | some dk =>
  obtain ⟨d', k'⟩:=dk;rw[show sdL L n=fset L d' (dropR (L d') n) by unfold sdL;rw[hf]]
  by_cases e:d=d'
  ·
   subst e;rw[fset_same];exact (h d hd).sub (List.filter_sublist.map _)
  ·
   rw[fset_ne e];exact h d hd
theorem spR(n dm k:Int):∀d,d<4→N64 ((spL L n dm k d).map (·.1)):=by
 intro d hd;unfold spL
 split
 ·
  by_cases e:d=dm.toNat
  ·
   subst e;rw[fset_same]
   unfold putR
   split
   ·
    rename_i hp
    rw[List.map_append];unfold putE at hp
    split at hp
    ·
     omega
    ·
     rename_i hr
     split at hp
     ·
      omega
     ·
      rename_i hin
      have hr2:rightM n=true:=by
       cases hq:rightM n with
       | true=>rfl
       | false=>rw[hq]at hr;exact absurd rfl hr
      have hnm:n ∉ (L dm.toNat).map (·.1):=by simpa [inR] using hin
      exact ⟨List.nodup_append.2 ⟨(h _ hd).1,by simp,fun a ha b hb=>by simp at hb;subst hb;rintro rfl;exact hnm ha⟩,fun y hy=>by
       rcases List.mem_append.1 hy with hy | hy
       ·
        exact (h _ hd).2 y hy
       ·
        simp at hy;subst hy;exact hr2⟩
   ·
    exact h _ hd
  ·
   rw[fset_ne e];exact h d hd
 ·
  exact h d hd
end
theorem KW.setL{k:Kn}(h:KW k){L:Nat→Ones}(h1:RdysW L)(h2:∀d,d<4→N64 ((L d).map (·.1))):KW { k with L:=L } :=
  ⟨h.len,h.wok,h.nk,h.mp,h.q,h.at_,h1,h2,h.ths,h.tk⟩
theorem KW.be{k:Kn}(h:KW k)(n:Int){x:ThrM}(hx:ThW x):KW (k.be n x)∧Kp k (k.be n x):=by
 obtain ⟨h1,h2⟩:=h.setThr n (f:=fun _=>x) (fun _ _=>hx);have e1:RdysW (beL k.L n x):=by
  unfold beL;split
  ·
   exact spW (sdW h.rw n) _ _ _
  ·
   exact sdW h.rw n
 have e2:∀d,d<4→N64 ((beL k.L n x d).map (·.1)):=by
  unfold beL;split
  ·
   exact spR (sdR h.rr n) _ _ _
  ·
   exact sdR h.rr n
 exact ⟨h1.setL e1 e2,⟨h2.mp,h2.th⟩⟩
def Kn.wake (k:Kn) (n:Int) (r:RegsM):Kn:=match k.thr n with
  | none=>k
  | some x=>if (wakeTM x.1 r).2=0 then k.be n (wakeTM x.1 r).1 else k
def Kn.excuse (k:Kn) (n e:Int):Kn:=match k.thr n with
  | none=>k
  | some x=>k.wake n (ansR x.1.regs e)
def Kn.orphan (k:Kn) (i:Nat):Kn:=match k.thI i with
  | none=>k
  | some x=>if x.1.caller ≠ -1 then (k.setI i (fun t=>{ t with caller := -1 })).excuse x.1.caller 8 else k
def Kn.allT (k:Kn) (f:ThrM→ThrM):Nat→Kn
  | 0=>k
  | m+1=>(k.allT f m).setThr m f
def Kn.cancelE (k:Kn) (on n:Int):Kn:=match k.ix on with
  | none=>k
  | some j=>match k.ar[j]? with
    | some ⟨.ep S,_⟩=>{ k with ar:=setA k.ar j (.ep ⟨S.w,remL S.l n⟩) }
    | _=>k
def Kn.cancelN (k:Kn) (on n:Int):Kn:=match k.ix on with
  | none=>k
  | some j=>match k.ar[j]? with
    | some ⟨.nt S,_⟩=>{ k with ar:=setA k.ar j (.nt ⟨S.w,remL S.l n,S.b⟩) }
    | _=>k
def forgetT (n:Int) (t:ThrM):ThrM:=if t.caller=n then { t with caller := -1 } else t
def Kn.halt (k:Kn) (n:Int):Kn:=match k.ix n,k.thr n with
  | some i,some x=>((((k.cancelE x.1.on n).cancelN x.1.on n).be n (stopT x.1)).orphan i).allT (forgetT n) 64
  | _,_=>k
theorem ThW.caller{t:ThrM}(h:ThW t){v:Int}(hv:I64 v):ThW { t with caller:=v }:=⟨⟨h.wf.st,h.wf.on,h.wf.badge,hv,h.wf.lvl,h.wf.dom,h.wf.pc,h.wf.regs⟩,h.pc⟩
theorem ThW.still{t:ThrM}(h:ThW t){s:Int}(hs:I64 s):ThW (stillT t s):=⟨⟨hs,show I64 0 by decide,show U64 0 by decide,h.wf.caller,h.wf.lvl,h.wf.dom,h.wf.pc,h.wf.regs⟩,h.pc⟩
theorem ThW.regs{t:ThrM}(h:ThW t){r:RegsM}(hr:r.Ok):ThW { t with regs:=r }:=⟨⟨h.wf.st,h.wf.on,h.wf.badge,h.wf.caller,h.wf.lvl,h.wf.dom,h.wf.pc,hr⟩,h.pc⟩
theorem ans_ok{r:RegsM}(h:r.Ok){e:Int}(he:U64 e):(ansR r e).Ok:=⟨he,h.o1,h.o2,h.o3,h.o4,h.o5,h.o6,h.o7⟩
theorem KW.thrW{k:Kn}(h:KW k){n:Int}{x:ThrM×CapM×Int×Int}(hx:k.thr n=some x):ThW x.1:=by
 obtain ⟨i,sp,_,he⟩:=thr_ex hx;exact (h.ths i _ he).1
theorem wake_w{t:ThrM}(h:ThW t){r:RegsM}(hr:r.Ok)(h0:(wakeTM t r).2=0):ThW (wakeTM t r).1:=by
 unfold wakeTM at *
 split at h0
 ·
  rename_i hc;rw[if_pos hc];exact (h.still (by decide:I64 1)).regs hr
 ·
  rename_i hc;exact absurd h0 hc
theorem KW.wake{k:Kn}(h:KW k)(n:Int){r:RegsM}(hr:r.Ok):KW (k.wake n r)∧Kp k (k.wake n r):=by
 unfold Kn.wake
 split
 ·
  exact ⟨h,Kp.refl _⟩
 ·
  rename_i x hx
  split
  ·
   rename_i h0;exact h.be n (wake_w (h.thrW hx) hr h0)
  ·
   exact ⟨h,Kp.refl _⟩
theorem KW.excuse{k:Kn}(h:KW k)(n:Int){e:Int}(he:U64 e):KW (k.excuse n e)∧Kp k (k.excuse n e):=by
 unfold Kn.excuse
 split
 ·
  exact ⟨h,Kp.refl _⟩
 ·
  rename_i x hx;exact h.wake n (ans_ok (h.thrW hx).wf.regs he)
theorem KW.orphan{k:Kn}(h:KW k)(i:Nat):KW (k.orphan i)∧Kp k (k.orphan i):=by
 unfold Kn.orphan
 split
 ·
  exact ⟨h,Kp.refl _⟩
 ·
  rename_i x hx
  split
  ·
   obtain ⟨h1,h2⟩:=h.setI i (f:=fun t=>{ t with caller := -1 }) (fun t ht=>ht.caller (by decide));obtain ⟨h3,h4⟩:=h1.excuse x.1.caller (e:=8) (by decide);exact ⟨h3,h2.trans h4⟩
  ·
   exact ⟨h,Kp.refl _⟩
theorem KW.allT{k:Kn}(h:KW k){f:ThrM→ThrM}(hf:∀t,ThW t→ThW (f t)):∀m:Nat,KW (k.allT f m)∧Kp k (k.allT f m)
  | 0=>⟨h,Kp.refl _⟩
  | m+1=>by
    obtain ⟨h1,h2⟩:=h.allT hf m;obtain ⟨h3,h4⟩:=h1.setThr m hf;exact ⟨h3,h2.trans h4⟩
theorem Kp.other{k:Kn}{j:Nat}{en:En}{th:Th}(he:k.ar[j]?=some en)(hn:∀t c s b,en.th≠.thr t c s b):Kp k { k with ar:=Proofs.YtmoeokkelkgnhaaGreat.setA k.ar j th }:=by
 refine ⟨rfl,fun i t c s b sp h1=>?_⟩
 by_cases e:i=j
 ·
  subst e;rw[he]at h1;cases h1;exact absurd rfl (hn t c s b)
 ·
  dsimp only;rw[setA_ne e];exact ⟨t,h1⟩
theorem KW.cancelE{k:Kn}(h:KW k)(on n:Int):KW (k.cancelE on n)∧Kp k (k.cancelE on n):=by
 unfold Kn.cancelE
 split
 ·
  exact ⟨h,Kp.refl _⟩
 ·
  split
  ·
   rename_i S sp he
   have:=h.ths _ _ he
   exact ⟨h.setA (N64.rem this n),Kp.other he (by intro t c s b;simp)⟩
  ·
   exact ⟨h,Kp.refl _⟩
theorem KW.cancelN{k:Kn}(h:KW k)(on n:Int):KW (k.cancelN on n)∧Kp k (k.cancelN on n):=by
 unfold Kn.cancelN
 split
 ·
  exact ⟨h,Kp.refl _⟩
 ·
  split
  ·
   rename_i S sp he
   have:=h.ths _ _ he
   exact ⟨h.setA ⟨N64.rem this.1 n,this.2⟩,Kp.other he (by intro t c s b;simp)⟩
  ·
   exact ⟨h,Kp.refl _⟩
theorem forget_w(n:Int)(t:ThrM)(h:ThW t):ThW (forgetT n t):=by
 unfold forgetT;split
 ·
  exact h.caller (by decide)
 ·
  exact h
theorem KW.halt{k:Kn}(h:KW k)(n:Int):KW (k.halt n)∧Kp k (k.halt n):=by
 unfold Kn.halt
 split
 ·
  rename_i i x hi hx
  obtain ⟨a1,b1⟩:=h.cancelE x.1.on n;obtain ⟨a2,b2⟩:=a1.cancelN x.1.on n;obtain ⟨a3,b3⟩:=a2.be n (x:=stopT x.1) ((h.thrW hx).still (by decide));obtain ⟨a4,b4⟩:=a3.orphan i;obtain ⟨a5,b5⟩:=a4.allT (forget_w n) 64;exact ⟨a5,(((b1.trans b2).trans b3).trans b4).trans b5⟩
 ·
  exact ⟨h,Kp.refl _⟩
end Go.Proofs.YtmoeokkelkgnhaaGreat
end
namespace Go.Proofs.YtmoeokkelkgnhaaGreat
open Go.SL
open Go.Proofs.Tryz
section
def spcAt (k:Kn) (s:Int):Int:=match k.en s with
  | some en=>en.sp.1
  | none=>0
theorem spcAt_eq{k:Kn}{s:Int}{j:Nat}{en:En}(hj:k.ix s=some j)(he:k.ar[j]?=some en):spcAt k s=en.sp.1:=by unfold spcAt Kn.en;rw[hj,Option.bind_some,he]
def noAt (s a:Int):Prop:=s = -1∨a≥4096
instance (s a:Int):Decidable (noAt s a):=by unfold noAt;infer_instance
def Kn.atR (k:Kn) (s a:Int) (wr:Bool):Int×Int:=if noAt s a then (0,12) else toR k.tl k.ws s (spcAt k s) a wr
def Kn.atK (k:Kn) (s a:Int):Kn:={ k with tl:=if noAt s a then k.tl else toL k.tl k.ws s (spcAt k s) a }
def Kn.loadR (k:Kn) (s a:Int):Int×Int:=if (k.atR s a false).2≠0 then (0,(k.atR s a false).2) else memGet k.ws (k.atR s a false).1
theorem tlb_len(l:List KeptM)(sp pg:Int):(tlbDrop l sp pg).length≤l.length:=List.length_filter_le _ _
theorem fill_len(l:List KeptM)(sp pg:Int)(e:PteM)(h:l.length≤7):(fillS l sp pg e).length≤l.length+1:=by
 unfold fillS
 split
 ·
  (unfold fillL; have:=tlb_len l sp pg; simp only[Y3,List.length_singleton]; split <;> simp <;> omega)
 ·
  omega
theorem to_len(l:List KeptM)(ws:List Int)(sp dir a:Int)(h:l.length≤7):(toL l ws sp dir a).length≤l.length+1:=by
 unfold toL
 split
 ·
  omega
 ·
  split
  ·
   omega
  ·
   exact fill_len _ _ _ _ h
theorem fill_ok{l:List KeptM}(h:KOk l)(sp pg:Int){e:PteM}(he:0≤e.at_∧e.at_≤65520)(hr:l.length≤7):KOk (fillS l sp pg e):=by
 have hd:KOk (tlbDrop l sp pg):=fun x hx=>h x (List.mem_filter.1 hx).1
 intro x hx;unfold fillS at hx
 split at hx
 ·
  have hlen:=tlb_len l sp pg
  have hx2:x∈tlbDrop l sp pg++[⟨sp,pg,e⟩]:=by
   (unfold fillL at hx;dsimp only at hx;split at hx;exact List.mem_of_mem_tail hx;exact hx)
  rcases List.mem_append.1 hx2 with h1 | h1
  ·
   exact hd x h1
  ·
   simp at h1;subst h1;exact he
 ·
  exact h x hx
theorem to_ok{l:List KeptM}(h:KOk l)(ws:List Int)(sp dir a:Int)(hr:l.length≤7):KOk (toL l ws sp dir a):=by
 unfold toL
 split
 ·
  exact h
 ·
  split
  ·
   exact h
  ·
   exact fill_ok h _ _ (pageM_at _ _ _) hr
theorem KW.atK{k:Kn}(h:KW k)(s a:Int)(hr:k.tl.length≤7):KW (k.atK s a):=by
 refine ⟨h.len,h.wok,h.nk,h.mp,h.q,h.at_,h.rw,h.rr,h.ths,?_⟩;unfold Kn.atK;dsimp only
 split
 ·
  exact h.tk
 ·
  exact ⟨to_ok h.tk.1 _ _ _ _ hr,by have:=to_len k.tl k.ws s (spcAt k s) a hr;omega⟩
theorem atK_len{k:Kn}(s a:Int)(hr:k.tl.length≤7):(k.atK s a).tl.length≤k.tl.length+1:=by
 unfold Kn.atK;dsimp only
 split
 ·
  omega
 ·
  exact to_len _ _ _ _ _ hr
theorem KW.setM{k:Kn}(h:KW k)(a:Int){v:Int}(hv:U64 v):KW { k with ws:=memPut k.ws a v } :=
  ⟨by dsimp only;rw[memPut_len];exact h.len,h.wok.put a hv,h.nk,h.mp,h.q,h.at_,h.rw,h.rr,h.ths,h.tk⟩
theorem next_pc{pc:Int}(h:0≤pc∧pc≤4095):0≤nextPc pc∧nextPc pc≤4095:=by unfold nextPc; split <;> omega
theorem u64_wrap(x:Int):U64 (IntKind.u64.wrap x):=by
 have h:IntKind.u64.wrap x=x%18446744073709551616:=rfl
 rw[h];unfold U64;omega
theorem sumV_u64{op:Nat}{a b:Int}(ha:U64 a)(hb:U64 b):U64 (sumV op a b):=by
 have hw:=fun x=>u64_wrap x
 have hbit:∀(f:BinOp),U64 (bitsI f .u64 a b):=fun f=>by cases f <;> exact u64_wrap _
 have hs:U64 (a.fdiv (2^(b.toNat%64))):=by
  have h1:(0:Int)<2^(b.toNat%64):=Int.pow_pos (by decide)
  rw[Int.fdiv_eq_ediv_of_nonneg _ (by omega)];unfold U64 at *;refine ⟨Int.ediv_nonneg ha.1 (by omega),Int.lt_of_le_of_lt (Int.ediv_le_self _ ha.1) ha.2⟩
 unfold sumV
 repeat' split
 all_goals first | assumption | exact hw _ | exact hbit _
structure EffM.Ok (x:EffM):Prop where
  regs:x.regs.Ok
  pc:0≤x.pc∧x.pc≤4095
  at_:U64 x.at_
  reg:0≤x.reg∧x.reg<8
  val:U64 x.val
theorem run_ok{i:InsM}(hi:i.Ok){r:RegsM}(hr:r.Ok){pc:Int}(hp:0≤pc∧pc≤4095):(runM i r pc).Ok:=by
 obtain ⟨h1,h2,h3,h4⟩:=hi;have hn:=next_pc hp
 have hu0:U64 0:=by decide
 have hui:U64 (i.imm:Int):=by unfold U64;omega
 have hw:=fun x=>u64_wrap x
 have hpi:(0:Int)≤i.imm∧(i.imm:Int)≤4095:=by omega
 have hz:(0:Int)≤0∧(0:Int)<8:=by omega
 have ha:(0:Int)≤i.a∧(i.a:Int)<8:=by omega
 unfold runM
 repeat' split
 all_goals first
  | exact ⟨hr.set (sumV_u64 (hr.get _) (hr.get _)) _,hn,hu0,hz,hu0⟩
  | exact ⟨hr,hp,hu0,hz,hu0⟩
  | exact ⟨hr.set hui _,hn,hu0,hz,hu0⟩
  | exact ⟨hr.set (hw _) _,hn,hu0,hz,hu0⟩
  | exact ⟨hr,hn,hw _,ha,hu0⟩
  | exact ⟨hr,hn,hw _,hz,hr.get _⟩
  | exact ⟨hr,hn,hu0,hz,hui⟩
  | exact ⟨hr,hn,hu0,hz,hu0⟩
  | exact ⟨hr,hpi,hu0,hz,hu0⟩
theorem unpI_ok{w:Nat}(h:(unpM w).2=0):(unpM w).1.Ok:=by
 unfold unpM at *
 split at h
 ·
  rename_i hk;rw[if_pos hk];exact ⟨hk.2,by unfold decM;dsimp only;omega,by unfold decM;dsimp only;omega,by unfold decM;dsimp only;omega⟩
 ·
  cases h
abbrev doneT (x:EffM) (t:ThrM):ThrM:={ t with regs:=x.regs,pc:=x.pc }
def badI (k:Kn) (t:ThrM) (s:Int):Prop:=(k.loadR s t.pc).2≠0∨(unpM (k.loadR s t.pc).1.toNat).2≠0
instance (k:Kn) (t:ThrM) (s:Int):Decidable (badI k t s):=by unfold badI;infer_instance
def effI (k:Kn) (t:ThrM) (s:Int):EffM:=runM (unpM (k.loadR s t.pc).1.toNat).1 t.regs t.pc
def Kn.run (callF:Kn→Int→Kn×Bool) (k:Kn) (i:Nat) (t:ThrM) (s:Int):Kn×Bool :=
  let k1:=k.atK s t.pc
  let x:=effI k t s
  if badI k t s then (k1,false)
  else if x.asks=4 then (k1,false)
  else if x.asks=1 then
    (if (k1.loadR s x.at_).2≠0 then (k1.atK s x.at_,false) else ((k1.atK s x.at_).setI i (doneT { x with regs:=x.regs.set (k1.loadR s x.at_).1 x.reg.toNat }),true))
  else if x.asks=2 then
    (if (k1.atR s x.at_ true).2≠0 then (k1.atK s x.at_,false)
     else if memPutE k1.ws (k1.atR s x.at_ true).1≠0 then (k1.atK s x.at_,false)
     else (({ k1.atK s x.at_ with ws:=memPut k1.ws (k1.atR s x.at_ true).1 x.val }:Kn).setI i (doneT x),true))
  else if x.asks=3 then
    (let q:=callF (k1.setI i (doneT x)) x.val
     (if q.2=true then q.1.setI i (fun u=>{ u with pc:=t.pc }) else q.1,true))
  else (k1.setI i (doneT x),true)
end
section
def Kn.cur (k:Kn):Int:=nextV (k.L (domN k.T k.e))
def Kn.curB (k:Kn):Bool:=nextB (k.L (domN k.T k.e))
def Kn.step (callF:Kn→Int→Nat→Int→Kn×Bool) (k:Kn):Kn×Bool :=
  if k.curB=true then
    match k.ix k.cur,k.thr k.cur with
    | some i,some x =>
      let q:=k.run (fun k' c=>callF k' k.cur i c) i x.1 x.2.2.1
      (if q.2=true then q.1 else q.1.halt k.cur,true)
    | _,_=>(k,true)
  else (k,false)
def Kn.named (k:Kn) (c:CapM):Bool:=if c.kind=0∨c.kind=10∨c.kind=11 then true else if c.kind=9 then decide (0≤c.object∧c.object<8) else k.isK c.object c.kind
def Kn.plant (k:Kn) (s:SlotM) (c:CapM):Int×Kn:=if k.named c=false then (3,k) else ((mPlant k.p s c).1,{ k with p:=(mPlant k.p s c).2,nk:=k.nk+1 })
def Kn.startE (k:Kn) (n:Int):Int:=match k.thr n with
  | none=>3
  | some x=>(startTM x.1).2
def Kn.start (k:Kn) (n:Int):Kn:=match k.thr n with
  | none=>k
  | some x=>if (startTM x.1).2=0 then k.be n (startTM x.1).1 else k
def setupE (k:Kn) (n lvl dom pc:Int) (root:CapM) (space:Int):Int:=match k.thr n with
  | none=>3
  | some x=>if (newTM lvl dom).2≠0 then (newTM lvl dom).2 else if pc<0∨pc≥4096 then 1 else if x.1.st≠0 then 8
    else if root.kind≠2∨k.named root=false∨(space ≠ -1∧k.isK space 8=false) then 2 else 0
def Kn.setup (k:Kn) (n lvl dom pc:Int) (root:CapM) (space:Int) (r:RegsM):Kn :=
  if setupE k n lvl dom pc root space≠0 then k else
  match k.ix n,k.thr n with
  | some i,some x=>{ k with ar:=setA k.ar i (.thr { newT lvl dom with pc:=pc,regs:=r,caller:=x.1.caller } root space x.2.2.2) }
  | _,_=>k
def Kn.page (k:Kn) (n:Int):Option (Int×Bool×Int×Int):=match k.en n with
  | some ⟨.page q m s a,_⟩=>some (q,m,s,a)
  | _=>none
def mapE (k:Kn) (n into a:Int) (wr:Bool):Int:=match k.page n with
  | none=>3
  | some x=>if k.isK into 8=false then 3 else if x.2.1=true then 4
    else if x.1=7 then tableE k.ws (spcAt k into) a (spcAt k n) else smapE k.ws (spcAt k into) a (spcAt k n) wr
def Kn.map (k:Kn) (n into a:Int) (wr:Bool):Kn:=match k.ix n,k.page n with
  | some i,some x=>if mapE k n into a wr≠0 then k else
      { k with ws:=if x.1=7 then tableW k.ws (spcAt k into) a (spcAt k n) else smapW k.ws (spcAt k into) a (spcAt k n) wr,ar:=setA k.ar i (.page x.1 true into a) }
  | _,_=>k
end
end Go.Proofs.YtmoeokkelkgnhaaGreat
section
namespace Go.SL
attribute [local semireducible] Ops Wp Ends Goes Ef AnyH Turn Tr Pv Res RVal
def TrPostE (R:Value→Hp→Prop) (X:List PanicEntry→Hp→Prop) (W:World) (F:Hp):Ending→World→Prop:=fun e w' =>
  (∃v L', e=.returned v∧R v L' ∧ Own W w' (L' ++ F))∨∃c L', e=.panicked c∧X c L' ∧ Own W w' (L' ++ F)
def TrE (P:Program) (f:FuncId) (args:List Value) (L:Hp) (R:Value→Hp→Prop) (X:List PanicEntry→Hp→Prop):Prop :=
  ∀W w F,Own W w (L++F)→Calls P f args.toArray w (TrPostE R X W F)
theorem TrE.enter{P:Program}{f:FuncId}{fn:Func}{c:Code}{n:Nat}{args:List Value}{L:Hp}{R:Value→Hp→Prop}{X:List PanicEntry→Hp→Prop}
    (hf:P.funcs[f]?=some fn) (hb:fn.body=some c) (hn:fn.ntmps=n) (hle:Nat.ble args.length n=true)
    (h:∀W F,Wp P W (bodyPost P fn (TrPostE R X W F)) n [] c (argsEnv 0 args) (L++F)):TrE P f args L R X:=fun W w F ho =>
  calls_of_wp hf hb (by
    subst hn;exact h W F _ w (sees_start hle) ho)
theorem TrE.mono{P:Program}{f:FuncId}{args:List Value}{L:Hp}{R R' : Value→Hp→Prop}{X X' : List PanicEntry→Hp→Prop}(h:TrE P f args L R X)(hr:∀v L', R v L' → R' v L')(hx:∀c L', X c L' → X' c L'):TrE P f args L R' X' :=
  fun W w F ho=>(h W w F ho).mono fun _ _ h=>by
    rcases h with ⟨v,L', he,hR,ho'⟩ | ⟨c,L', he,hX,ho'⟩
    · exact .inl ⟨v,L', he,hr _ _ hR,ho'⟩
    · exact .inr ⟨c,L', he,hx _ _ hX,ho'⟩
theorem Ends.retE{P:Program}{W:World}{fn:Func}{R:Value→Hp→Prop}{X:List PanicEntry→Hp→Prop}{F:Hp}{n:Nat}{E:Env}{L L' : Hp}{v:Value}{M:Hp}
    (hres:Res P fn n [] E L v) (hR:R v L') [ha:App L' F M] [hd:Drop L M]:Ends W (bodyPost P fn (TrPostE R X W F)) n [] .ret E L :=
  fun a w hs ho=>⟨hs.dfs,v,hres a w hs ho.held,.inl ⟨v,L', rfl,hR,by rw[ha.eq];exact hd.own ho⟩⟩
theorem Ends.finE{P:Program}{W:World}{fn:Func}{R:Value→Hp→Prop}{X:List PanicEntry→Hp→Prop}{F:Hp}{n:Nat}{E:Env}{L L' : Hp}{v:Value}{M:Hp}
    (hres:Res P fn n [] E L v) (hR:R v L') [ha:App L' F M] [hd:Drop L M]:Ends W (bodyPost P fn (TrPostE R X W F)) n [] .normal E L :=
  fun a w hs ho=>⟨hs.dfs,v,hres a w hs ho.held,.inl ⟨v,L', rfl,hR,by rw[ha.eq];exact hd.own ho⟩⟩
instance (priority:=1260) Part.consApp2 {x:Nat×Obj} {L A T R:Hp} [h:Part L (x::(A++T)) R]:Part L ((x::A)++T) R:=⟨h.perm⟩
class PT (W:World) (D:List Deferred) (Q:Exit→Act→World→Prop) (X:outParam (List PanicEntry→Hp→Prop)) (F:outParam Hp):Prop where
  pt:∀c a w L', a.defers=D→X c L' → Own W w (L' ++ F)→Q (.panic c) a w
instance PT.body {P:Program} {W:World} {fn:Func} {R:Value→Hp→Prop} {X:List PanicEntry→Hp→Prop} {F:Hp}:PT W [] (bodyPost P fn (TrPostE R X W F)) X F :=
  ⟨fun c a w L' hd hx ho=>⟨hd,.inr ⟨c,L', rfl,hx,ho⟩⟩⟩
instance PT.then_ {W:World} {D:List Deferred} {Q:Exit→Act→World→Prop} {K:Act→World→Prop} {X:List PanicEntry→Hp→Prop} {F:Hp} [h:PT W D Q X F]:PT W D (Exit.then K Q) X F:=⟨h.pt⟩
instance PT.block_ {W:World} {D:List Deferred} {Q:Exit→Act→World→Prop} {id:Nat} {X:List PanicEntry→Hp→Prop} {F:Hp} [h:PT W D Q X F]:PT W D (Exit.inBlock id Q) X F:=⟨h.pt⟩
section
variable {P : Program} {W : World} {ops : Array Oper} {Q : Exit → Act → World → Prop} {n : Nat} {D : List Deferred} {E : Env} {L : Hp} {rest : List Oper} {ty : TypeId} {pos : String} {aft : Array Edge} {g : Option (Nat × Bool)} {K : Env → Hp → Prop} {X Y : List PanicEntry → Hp → Prop} {G : Hp}
def EfX (P:Program) (W:World) (n:Nat) (D:List Deferred) (o:Oper) (E:Env) (L:Hp) (K:Env→Hp→Prop) (X:List PanicEntry→Hp→Prop):Prop :=
  ∀(Q:Exit→Act→World→Prop) a w (next:Act→World→Prop),Sees n D E a→Own W w L →
    (∀E' L' a' w', K E' L' → Sees n D E' a' → Own W w' L' → next a' w')→(∀c L' w', X c L' → Own W w' L' → Q (.panic c) a w')→o.wp P a w next Q
theorem Ops.efx{o:Oper}(hg:o.guard=none)(h:EfX P W n D o E L K X)[hq:PT W D Q Y G](hx:∀c L', X c L' → ∃L2,Y c L2∧Drop L' (L2++G))(hn:∀E' L', K E' L' → Ops P W ops Q n D rest E' L'):Ops P W ops Q n D (o::rest) E L:=fun a w hs ho =>
  wpList_plain hg fun K' hK' => h Q a w K' hs ho (fun E' L' a' w' k hs' ho' => hK' _ _ (hn E' L' k a' w' hs' ho')) (fun c L' w' hX ho' => by
    obtain ⟨L2,hY,hd⟩:=hx c L' hX;exact hq.pt c a w' L2 hs.dfs hY (hd.own ho'))
theorem Turn.efx{S:Hp}{fuel:Nat}{listed:Array Bool}{i:Nat}{o:Oper}(hi:ops[i]?=some o)(hg:Wanted ops E o.guard true)(h:EfX P W n D o E L K X)[hq:PT W D Q Y G](hx:∀c L', X c L' → ∃L2,Y c L2∧Drop L' (L2++G))(hS:∀E' L', K E' L' → HeldSub L' S)
    (hn:∀E' L', K E' L' → AnyH P W ops Q n D S fuel (listed.setIfInBounds i true) E' L'):Turn P W ops Q n D S fuel listed i E L:=fun a w hs ho=>by
  unfold wpOp;simp only[hi];rw[if_pos (wanted_of hg hs)];exact .inl (h Q a w _ hs ho (fun E' L' a' w' k hs' ho' => ⟨ho'.heldSub (hS _ _ k),hn E' L' k a' w' hs' ho'⟩) (fun c L' w' hX ho' => by
    obtain ⟨L2,hY,hd⟩:=hx c L' hX;exact hq.pt c a w' L2 hs.dfs hY (hd.own ho')))
theorem efx_call{d:Nat}{f:FuncId}{xs:List Operand}{ats:Array TypeId}{args:List Value}{Lp F:Hp}{R:Value→Hp→Prop}(ht:TrE P f args Lp R X)[hf:GoFn P f](hx:evs E xs=some args)(hd:Nat.blt d n=true)[hp:Part L Lp F] :
    EfX P W n D ⟨some d,.call { callee:=.value (.func f),args:=xs.toArray,argTypes:=ats },ty,pos,aft,g⟩ E L (fun E' L' => ∃v L1,R v L1∧E' = (d,v)::E∧L' = L1++F) (fun c L' => ∃L1,X c L1∧L' = L1++F):=fun Q a w next hs ho hn hpn=>by
  unfold Oper.wp;rw[execOp_call_go];have e:(#[]++xs.toArray.map a.eval++#[]:Array Value)=args.toArray:=by simp[hs.evs hx]
  rw[e,run_callFunc];refine (ht W w F (ho.part hp)).mono ?_;rintro e' w' (⟨v,L1,rfl,hR,ho'⟩ | ⟨c,L1,rfl,hX,ho'⟩)
  · exact hn _ _ _ _ ⟨v,L1,hR,rfl,rfl⟩ (hs.put hd) ho'
  · exact hpn _ _ _ ⟨L1,hX,rfl⟩ ho'
theorem efx_callf{x:Operand}{d:Nat}{f:FuncId}{xs:List Operand}{ats:Array TypeId}{args cap:List Value}{Lp F:Hp}{R:Value→Hp→Prop}(hv:ev E x=some (.func (.func f) #[] cap.toArray))(hx:evs E xs=some args)(ht:TrE P f (args++cap) Lp R X)[hf:GoFn P f](hd:Nat.blt d n=true)[hp:Part L Lp F] :
    EfX P W n D ⟨some d,.call { callee:=.value x,args:=xs.toArray,argTypes:=ats },ty,pos,aft,g⟩ E L (fun E' L' => ∃v L1,R v L1∧E' = (d,v)::E∧L' = L1++F) (fun c L' => ∃L1,X c L1∧L' = L1++F):=fun Q a w next hs ho hn hpn=>by
  unfold Oper.wp;have e:(execOp a.eval ⟨some d,.call { callee:=.value x,args:=xs.toArray,argTypes:=ats },ty,pos,aft,g⟩).run P w=.ok (.enter f (args++cap).toArray) w:=by
    simp only[execOp,resolve,hs.ev hv,Deferred.ofValue,List.map_toArray,hs.evs hx,Sem.run_bind,Sem.run_pure,Result.andThen_ok,invoke];rw[show ((#[]:Array Value)++args.toArray++cap.toArray)=(args++cap).toArray by simp,run_callFunc]
  rw[e];refine (ht W w F (ho.part hp)).mono ?_;rintro e' w' (⟨v,L1,rfl,hR,ho'⟩ | ⟨c,L1,rfl,hX,ho'⟩)
  · exact hn _ _ _ _ ⟨v,L1,hR,rfl,rfl⟩ (hs.put hd) ho'
  · exact hpn _ _ _ ⟨L1,hX,rfl⟩ ho'
theorem pv_iface{d:Option Tmp}{T:TypeId}{x:Operand}{v:Value}{S:Hp}{dsc:TypeDesc}[ht:TyD P T dsc](hd:(match dsc with | .interface _=>false | _=>true)=true)(hx:ev E x=some v):Pv P n D E S ⟨d,.makeInterface T x,ty,pos,aft,g⟩ (.iface T v):=fun a w hs _=>by
 simp only[execOp,hs.ev hx,Instr.makeInterface,Sem.run_bind,TyD.run,Result.andThen_ok,Sem.run_pure];cases dsc <;> simp_all
theorem Ops.panic{x:Operand}{T:TypeId}{v:Value}{d:Option Tmp}(hx:ev E x=some (.iface T v))[hq:PT W D Q Y G](hy:∃L2,Y [{ v:=.iface T v,recovered:=false }] L2∧Drop L (L2++G)):Ops P W ops Q n D (⟨d,.panic x,ty,pos,aft,none⟩::rest) E L:=fun a w hs ho =>
  wpList_plain rfl fun K' hK' => by
    obtain ⟨L2,hY,hd⟩:=hy;have hp:=hq.pt [{ v:=.iface T v,recovered:=false }] a w L2 hs.dfs hY (hd.own ho)
    unfold Oper.wp;have e:(execOp a.eval ⟨d,.panic x,ty,pos,aft,none⟩).run P w=.halt (.panic (.iface T v)) w:=by
      simp[execOp,hs.ev hx,Instr.panic,goPanic]
    rw[e];exact hp
end
section
variable {P : Program} {W : World} {ops : Array Oper} {Q : Exit → Act → World → Prop} {n : Nat} {D : List Deferred} {E : Env} {L : Hp} {rest : List Oper} {ty : TypeId} {pos : String} {aft : Array Edge} {g : Option (Nat × Bool)} {K : Env → Hp → Prop} {X Y : List PanicEntry → Hp → Prop} {G : Hp}
theorem Tr.enterD{f:FuncId}{fn:Func}{c:Code}{args:List Value}{R:Value→Hp→Prop}
    (hf:P.funcs[f]?=some fn) (hb:fn.body=some c) (hn:fn.ntmps=n) (hle:Nat.ble args.length n=true)
    (h:∀W F,Wp P W (bodyPostD P fn (TrPost R W F)) n [] c (argsEnv 0 args) (L++F)):Tr P f args L R:=fun W w F ho =>
  calls_of_wp_defers hf hb (by
    subst hn;exact h W F _ w (sees_start hle) ho)
theorem Ops.defer{x:Operand}{fn:Fn}{cap:Array Value}{ats:Array TypeId}(hv:ev E x=some (.func fn #[] cap))(hn:Ops P W ops Q n ({ target:=.fn fn cap,args:=#[] }::D) rest E L) :
    Ops P W ops Q n D (⟨none,.defer { callee:=.value x,args:=#[],argTypes:=ats },ty,pos,aft,none⟩::rest) E L:=fun a w hs ho =>
  wpList_plain rfl fun K' hK' => by
    unfold Oper.wp;have e:(execOp a.eval ⟨none,.defer { callee:=.value x,args:=#[],argTypes:=ats },ty,pos,aft,none⟩).run P w=.ok (.defer { target:=.fn fn cap,args:=#[] }) w:=by
      simp[execOp,resolve,hs.ev hv,Deferred.ofValue]
    rw[e];exact hK' _ _ (hn _ _ ⟨hs.size,by rw[←hs.dfs];rfl,hs.get⟩ ho)
theorem Ops.efxq{o:Oper}(hg:o.guard=none)(h:EfX P W n D o E L K X)(hq:∀c a w L', Sees n D E a→X c L' → Own W w L' → Q (.panic c) a w)(hn:∀E' L', K E' L' → Ops P W ops Q n D rest E' L'):Ops P W ops Q n D (o::rest) E L:=fun a w hs ho =>
  wpList_plain hg fun K' hK' => h Q a w K' hs ho (fun E' L' a' w' k hs' ho' => hK' _ _ (hn E' L' k a' w' hs' ho')) (fun c L' w' hX ho' => hq c a w' L' hs hX ho')
theorem leaves_one{fn:Func}{R:Value→Hp→Prop}{F L1 L' M:Hp}{v:Value}{gf:FuncId}{cap:List Value}{u:FrameMode}{a:Act}{w:World}(hs:Sees n [{ target:=.fn (.func gf) cap.toArray,args:=#[] }] E a)(hu:u≠.run)[hf:GoFn P gf]
    (hc:CallsD P gf cap.toArray u w (fun e u' w' => e=.returned (.tuple #[])∧settle u' = .returning∧Own W w' L1)) (hres:Res P fn n [{ target:=.fn (.func gf) cap.toArray,args:=#[] }] E L1 v) (hR:R v L') [ha:App L' F M] [hd:Drop L1 M] :
    Leaves P fn a.tmps (TrPost R W F) a.defers u w:=by
  rw[hs.dfs];refine leaves_cons (f:=gf) (args:=cap.toArray) hu ?_ (hc.mono ?_)
  · simp only[invoke]
    rw[show ((#[]:Array Value)++cap.toArray)=cap.toArray by simp,run_callFunc]
  · rintro e u' w' ⟨rfl,hs', ho'⟩
    show Leaves P fn a.tmps _ [] (settle u') w'
    rw[hs'];exact ⟨v,hres a w' hs ho'.held,v,L', rfl,hR,by rw[ha.eq];exact hd.own ho'⟩
theorem Ends.retD{fn:Func}{R:Ending→World→Prop}(h:∀a w,Sees n D E a→Own W w L→Leaves P fn a.tmps R a.defers .returning w):Ends W (bodyPostD P fn R) n D .ret E L:=h
theorem Ends.finS{fn:Func}{c0:Frame}{cs:List Frame}{R:Ending→FrameMode→World→Prop}{u:FrameMode}(hres:fn.results=#[])(hR:∀w,Own W w L→R (.returned (.tuple #[])) u w) :
    Ends W (fun e a w=>bodyPostS P fn c0 cs R e a ({ c0 with mode:=u }::cs) w) n [] .normal E L:=fun a w hs ho =>
  ⟨hs.dfs,u,rfl,_,results_none hres _ P w,hR w ho⟩
theorem wpS_recover{id d:Nat}{c2:Code}{Q:Exit→Act→List Frame→World→Prop}{a:Act}{c0:Frame}{cs:List Frame}{w:World}{v:Value}{older:List PanicEntry}(hu:c0.mode=.panicking ({ v:=v,recovered:=false }::older))
    (h:c2.wpS P Q (a.put (some d) v) ({ c0 with mode:=.panicking ({ v:=v,recovered:=true }::older) }::cs) w) :
    ((Code.region id #[⟨some d,.call { callee:=.builtin .recover,args:=#[],argTypes:=#[] },ty,pos,aft,none⟩] false).seq c2).wpS P Q a (c0::cs) w:=by
  apply wpS_seq;apply wpS_region;have he:(execOp a.eval ⟨some d,.call { callee:=.builtin .recover,args:=#[],argTypes:=#[] },ty,pos,aft,none⟩).run P w=.ok .recover w:=by simp[go_sem]
  have hw:Region.wanted (⟨some d,.call { callee:=.builtin .recover,args:=#[],argTypes:=#[] },ty,pos,aft,none⟩:Oper) (yielded #[⟨some d,.call { callee:=.builtin .recover,args:=#[],argTypes:=#[] },ty,pos,aft,none⟩] a.tmps)=true:=by simp[Region.wanted]
  have hrd:recoverD (c0::cs)=some (v,{ c0 with mode:=.panicking ({ v:=v,recovered:=true }::older) }::cs):=by simp[recoverD,hu]
  show wpOpsS P _ _ [0] a (c0::cs) w
  simp only[wpOpsS,List.getElem?_toArray,List.getElem?_cons_zero,hw,if_true,he,hrd];exact h
theorem wpS_recover0{id d:Nat}{c2:Code}{Q:Exit→Act→List Frame→World→Prop}{a:Act}{c0:Frame}{cs:List Frame}{w:World}(hu:c0.mode=.returning)
    (h:c2.wpS P Q (a.put (some d) .nilIface) (c0::cs) w) :
    ((Code.region id #[⟨some d,.call { callee:=.builtin .recover,args:=#[],argTypes:=#[] },ty,pos,aft,none⟩] false).seq c2).wpS P Q a (c0::cs) w:=by
  apply wpS_seq;apply wpS_region;have he:(execOp a.eval ⟨some d,.call { callee:=.builtin .recover,args:=#[],argTypes:=#[] },ty,pos,aft,none⟩).run P w=.ok .recover w:=by simp[go_sem]
  have hw:Region.wanted (⟨some d,.call { callee:=.builtin .recover,args:=#[],argTypes:=#[] },ty,pos,aft,none⟩:Oper) (yielded #[⟨some d,.call { callee:=.builtin .recover,args:=#[],argTypes:=#[] },ty,pos,aft,none⟩] a.tmps)=true:=by simp[Region.wanted]
  have hrd:recoverD (c0::cs)=none:=by simp[recoverD,hu]
  show wpOpsS P _ _ [0] a (c0::cs) w
  simp only[wpOpsS,List.getElem?_toArray,List.getElem?_cons_zero,hw,if_true,he,hrd];exact h
theorem pv_eql_iface{d:Option Tmp}{T T2 U:TypeId}{x:Operand}{u:Value}{S:Hp}{dsc:TypeDesc}[ht:TyD P T dsc](hd:(match dsc with | .interface _=>true | _=>false)=true)(hx:ev E x=some (.iface U u)):Pv P n D E S ⟨d,.binOp .eql T x (.const .nilIface) T2,ty,pos,aft,g⟩ (.bool false):=fun a w hs _=>by
 have hc:a.eval (.const .nilIface)=.nilIface:=rfl
 cases dsc <;> simp at hd
 have hu:=TyD.run (P:=P) (T:=T) (w:=w)
 have he:(Op.equal T (.iface U u) .nilIface).run P w=.ok false w:=by
  unfold Op.equal;rw[show Op.maxDepth=9999+1 from rfl,Op.equalIn];simp[hu]
 simp[execOp,hs.ev hx,hc,binOp,eqGuard,he]
theorem pv_eql_nilif{d:Option Tmp}{T T2:TypeId}{x:Operand}{S:Hp}{dsc:TypeDesc}[ht:TyD P T dsc](hd:(match dsc with | .interface _=>true | _=>false)=true)(hx:ev E x=some .nilIface):Pv P n D E S ⟨d,.binOp .eql T x (.const .nilIface) T2,ty,pos,aft,g⟩ (.bool true):=fun a w hs _=>by
 have hc:a.eval (.const .nilIface)=.nilIface:=rfl
 cases dsc <;> simp at hd
 have hu:=TyD.run (P:=P) (T:=T) (w:=w)
 have he:(Op.equal T .nilIface .nilIface).run P w=.ok true w:=by
  unfold Op.equal;rw[show Op.maxDepth=9999+1 from rfl,Op.equalIn];simp[hu]
 have hg:eqGuard .eql T x (.const .nilIface) .nilIface .nilIface=pure ():=by cases x <;> rfl
 simp[execOp,hs.ev hx,hc,binOp,hg,he]
theorem pv_tassert{d:Option Tmp}{T U:TypeId}{x:Operand}{u:Value}{S:Hp}{dsc:TypeDesc}[ht:TyD P U dsc](hd:(match dsc with | .interface _=>false | _=>true)=true)(hx:ev E x=some (.iface U u)):Pv P n D E S ⟨d,.typeAssert x T U true,ty,pos,aft,g⟩ (.tuple #[u,.bool true]):=fun a w hs _=>by
 simp only[execOp,hs.ev hx,Instr.typeAssert,Sem.run_bind,TyD.run,Result.andThen_ok];cases dsc <;> simp_all
end
attribute [irreducible] TrE EfX
end Go.SL
namespace Go.SL
theorem YX{P:Program}{f:FuncId}{fn:Func}{c:Code}{n:Nat}{args:List Value}{L:Hp}{R:Value→Hp→Prop}{X:List PanicEntry→Hp→Prop}{A:Hp→Hp}(hf:P.funcs[f]?=some fn)(hn:fn.ntmps=n)[hA:∀F,App L F (A F)](h:∀W F,Wp P W (bodyPost P fn (TrPostE R X W F)) n [] c (argsEnv 0 args) (A F))(hb:fn.body=some c:=by rfl)(hle:Nat.ble args.length n=true:=by rfl):TrE P f args L R X:=TrE.enter hf hb hn hle (fun W F=>by rw[(hA F).eq];exact h W F)
theorem Yx{P:Program}{f:FuncId}{fn:Func}{c:Code}{n:Nat}{args:List Value}{L:Hp}{R:Value→Hp→Prop}{X:List PanicEntry→Hp→Prop}(hf:P.funcs[f]?=some fn)(hn:fn.ntmps=n)(h:∀W F,Wp P W (bodyPost P fn (TrPostE R X W F)) n [] c (argsEnv 0 args) (L++F))(hb:fn.body=some c:=by rfl)(hle:Nat.ble args.length n=true:=by rfl):TrE P f args L R X:=TrE.enter hf hb hn hle h
end Go.SL
end
namespace Go.Proofs.YtmoeokkelkgnhaaGreat
open Go.SL
open Go.Proofs.Tryz
section
def Kn.free (k:Kn) (n:Int):Bool:=(k.ix n).isNone && decide (dradix k.p.l n=0)
def clash (kd:Int) (s:Int×Int) (en:En):Bool:=!(decide (apartS s en.sp) || decide (en.th.kind=1∧kd=1) || decide (en.th.kind=1∧inS s en.sp) || decide (kd=1∧inS en.sp s))
def clashI (k:Kn) (kd:Int) (s:Int×Int) (i:Nat):Bool:=match k.ar[i]? with
  | none=>false
  | some en=>clash kd s en
def Kn.taken (k:Kn) (kd:Int) (s:Int×Int):Bool:=k.mp.any fun e=>clashI k kd s e.2.1
def seenI (k:Kn) (kd:Int) (s:Int×Int) (seen:Array Nat):Prop:=∀e,e∈k.mp→seen.contains e.2.2=true→clashI k kd s e.2.1=false
def unseen (k:Kn) (seen:Array Nat):Nat:=(k.mp.filter fun e=>!seen.contains e.2.2).length
theorem stamp_inj{k:Kn}(hn:(k.mp.map (·.2.2)).Nodup){a b:Int×Nat×Nat}(ha:a∈k.mp)(hb:b∈k.mp)(h:a.2.2=b.2.2):a=b:=by
 generalize k.mp=l at *
 induction l with
 | nil=>cases ha
 | cons x l ih =>
  simp only[List.map_cons,List.nodup_cons]at hn
  rcases List.mem_cons.1 ha with ea | ha2
  ·
   rcases List.mem_cons.1 hb with eb | hb2
   ·
    rw[ea,eb]
   ·
    exact (hn.1 (List.mem_map.2 ⟨b,hb2,by rw[←h,ea]⟩)).elim
  ·
   rcases List.mem_cons.1 hb with eb | hb2
   ·
    exact (hn.1 (List.mem_map.2 ⟨a,ha2,by rw[h,eb]⟩)).elim
   ·
    exact ih hn.2 ha2 hb2
theorem seen_start(k:Kn)(kd:Int)(s:Int×Int):seenI k kd s #[]:=fun e _ h=>by simp at h
theorem seen_push{k:Kn}(hn:(k.mp.map (·.2.2)).Nodup){kd:Int}{s:Int×Int}{seen:Array Nat}(h:seenI k kd s seen){e:Int×Nat×Nat}(he:e∈k.mp)(hc:clashI k kd s e.2.1=false):seenI k kd s (seen.push e.2.2):=by
 intro x hx hs;simp only[Array.contains_eq_mem,Array.mem_push,decide_eq_true_eq]at hs
 rcases hs with hs | hs
 ·
  exact h x hx (by simpa [Array.contains_eq_mem] using hs)
 ·
  rw[stamp_inj hn hx he hs];exact hc
theorem seen_all{k:Kn}{kd:Int}{s:Int×Int}{seen:Array Nat}(h:seenI k kd s seen)(ha:∀e,e∈k.mp→seen.contains e.2.2=true):k.taken kd s=false:=by
 unfold Kn.taken;rw[List.any_eq_false];intro e he;rw[h e he (ha e he)];decide
theorem unseen_push(k:Kn)(seen:Array Nat){e:Int×Nat×Nat}(he:e∈k.mp)(hs:seen.contains e.2.2=false):unseen k (seen.push e.2.2)<unseen k seen:=by
 unfold unseen
 generalize k.mp=l at *
 induction l with
 | nil=>cases he
 | cons x l ih =>
  have hle:∀m:List (Int×Nat×Nat),(m.filter fun y=>!(seen.push e.2.2).contains y.2.2).length≤(m.filter fun y=>!seen.contains y.2.2).length:=by
   intro m
   induction m with
   | nil=>exact Nat.le_refl _
   | cons y m ih =>
    simp only[List.filter_cons]
    by_cases h1:seen.contains y.2.2=true
    ·
     have h2:(seen.push e.2.2).contains y.2.2=true:=by
      simp only[Array.contains_eq_mem,Array.mem_push,decide_eq_true_eq]at h1 ⊢;exact .inl h1
     simp only[h1,h2,Bool.not_true,Bool.false_eq_true,if_false];exact ih
    ·
     have h1' : seen.contains y.2.2=false:=by simpa using h1
     simp only[h1', Bool.not_false,if_true]
     split
     ·
      simp only[Y4];omega
     ·
      simp only[Y4];omega
  rcases List.mem_cons.1 he with rfl | he
  ·
   have h2:(seen.push e.2.2).contains e.2.2=true:=by simp[Array.contains_eq_mem]
   simp only[List.filter_cons,h2,hs,Bool.not_true,Bool.not_false,Bool.false_eq_true,if_false,if_true,Y4];have:=hle l;omega
  ·
   have:=ih he
   simp only[List.filter_cons]
   by_cases h1:seen.contains x.2.2=true
   ·
    have h2:(seen.push e.2.2).contains x.2.2=true:=by
     simp only[Array.contains_eq_mem,Array.mem_push,decide_eq_true_eq]at h1 ⊢;exact .inl h1
    simp only[h1,h2,Bool.not_true,Bool.false_eq_true,if_false];exact this
   ·
    have h1' : seen.contains x.2.2=false:=by simpa using h1
    simp only[h1', Bool.not_false,if_true]
    split
    ·
     simp only[Y4];omega
    ·
     simp only[Y4];omega
theorem kv_of{k:Kn}{ad:Nat→Ad}{e:Int×Value×Nat}(h:e∈kvM ad k.mp):∃n i st,(n,i,st)∈k.mp∧e=(n,.pointer (some ⟨(ad i).ob,0,none⟩),st):=by
 obtain ⟨⟨n,i,st⟩,hm,rfl⟩:=List.mem_map.1 h;exact ⟨n,i,st,hm,rfl⟩
theorem kv_nd{k:Kn}{ad:Nat→Ad}(h:(k.mp.map (·.2.2)).Nodup):((kvM ad k.mp).map (·.2.2)).Nodup:=by
 have:(kvM ad k.mp).map (·.2.2)=k.mp.map (·.2.2):=by simp[kvM]
 rw[this];exact h
theorem syR{L:Nat→Ones}(h:∀d,d<4→N64 ((L d).map (·.1)))(n:Int):∀d,d<4→N64 ((syL L n d).map (·.1)):=by
 intro d hd;cases hf:findM L n with
 | none=>rw[show syL L n=L by unfold syL;rw[hf]];exact h d hd
 | some dk =>
  obtain ⟨d', k'⟩:=dk;rw[show syL L n=fset L d' (putR (dropR (L d') n) n k') by unfold syL;rw[hf]]
  by_cases e:d=d'
  ·
   subst e;rw[fset_same]
   have hs:N64 ((dropR (L d) n).map (·.1)):=(h d hd).sub (List.filter_sublist.map _)
   unfold putR
   split
   ·
    rename_i hp
    rw[List.map_append];unfold putE at hp
    split at hp
    ·
     omega
    ·
     rename_i hr
     have hr2:rightM n=true:=by
      cases hq:rightM n with
      | true=>rfl
      | false=>rw[hq]at hr;exact absurd rfl hr
     have hnm:n ∉ (dropR (L d) n).map (·.1):=by
      intro hm;obtain ⟨x,hx,hxe⟩:=List.mem_map.1 hm;have:=(List.mem_filter.1 hx).2
      simp at this;exact this hxe
     exact ⟨List.nodup_append.2 ⟨hs.1,by simp,fun a ha b hb=>by simp at hb;subst hb;rintro rfl;exact hnm ha⟩,fun y hy=>by
      rcases List.mem_append.1 hy with hy | hy
      ·
       exact hs.2 y hy
      ·
       simp at hy;subst hy;exact hr2⟩
   ·
    exact hs
  ·
   rw[fset_ne e];exact h d hd
end
section
abbrev pV (b:Nat):Value:=.pointer (some ⟨b,0,none⟩)
theorem tr_kindUnt(b:Nat):TrR prog 352 [pV b] ([]) (.int .i64 1):=by
 refine YR func352 ntmps352 fun W F=>?_
 refine zq [3,4,1,2,5,3,4,1,2,5,10] ?_;exact zr ⟨rfl,rfl⟩
theorem me_Unt : Meth Tryz.prog 166 "donjon/kernel.kind" 352 := ⟨fun b o w => by kernel_rfl⟩
theorem tr_kindThr(b:Nat):TrR prog 354 [pV b] ([]) (.int .i64 3):=by
 refine YR func354 ntmps354 fun W F=>?_
 refine zq [3,4,1,2,5,3,4,1,2,5,10] ?_;exact zr ⟨rfl,rfl⟩
theorem me_Thr : Meth Tryz.prog 172 "donjon/kernel.kind" 354 := ⟨fun b o w => by kernel_rfl⟩
theorem tr_kindEp(b:Nat):TrR prog 357 [pV b] ([]) (.int .i64 4):=by
 refine YR func357 ntmps357 fun W F=>?_
 refine zq [3,4,1,2,5,3,4,1,2,5,10] ?_;exact zr ⟨rfl,rfl⟩
theorem me_Ep : Meth Tryz.prog 255 "donjon/kernel.kind" 357 := ⟨fun b o w => by kernel_rfl⟩
theorem tr_kindNt(b:Nat):TrR prog 358 [pV b] ([]) (.int .i64 5):=by
 refine YR func358 ntmps358 fun W F=>?_
 refine zq [3,4,1,2,5,3,4,1,2,5,10] ?_;exact zr ⟨rfl,rfl⟩
theorem me_Nt : Meth Tryz.prog 261 "donjon/kernel.kind" 358 := ⟨fun b o w => by kernel_rfl⟩
theorem tr_kindNode(b:Nat):TrR prog 359 [pV b] ([]) (.int .i64 2):=by
 refine YR func359 ntmps359 fun W F=>?_
 refine zq [3,4,1,2,5,3,4,1,2,5,10] ?_;exact zr ⟨rfl,rfl⟩
theorem me_Node : Meth Tryz.prog 326 "donjon/kernel.kind" 359 := ⟨fun b o w => by kernel_rfl⟩
theorem tr_kindSpc(b:Nat):TrR prog 360 [pV b] ([]) (.int .i64 8):=by
 refine YR func360 ntmps360 fun W F=>?_
 refine zq [3,4,1,2,5,3,4,1,2,5,10] ?_;exact zr ⟨rfl,rfl⟩
theorem me_Spc : Meth Tryz.prog 331 "donjon/kernel.kind" 360 := ⟨fun b o w => by kernel_rfl⟩
theorem tr_kindPage(b:Nat)(q:Int)(m:Bool)(s a:Int):TrR prog 353 [pV b] ((b,pageO q m s a)::[]) (.int .i64 q):=by
 refine YR func353 ntmps353 fun W F=>?_
 refine zq [3,4,1,2,5,3,4,0,9,6,8,1,2,5,10] ?_;exact zr ⟨rfl,rfl⟩
theorem me_Page : Meth Tryz.prog 169 "donjon/kernel.kind" 353 := ⟨fun b o w => by kernel_rfl⟩
theorem gf_Unt:GoFn prog 352:=inferInstance
theorem gf_Thr:GoFn prog 354:=inferInstance
theorem gf_Ep:GoFn prog 357:=inferInstance
theorem gf_Nt:GoFn prog 358:=inferInstance
theorem gf_Node:GoFn prog 359:=inferInstance
theorem gf_Spc:GoFn prog 360:=inferInstance
theorem gf_Page:GoFn prog 353:=inferInstance
theorem nil_has{L:Hp}:Has L []:=⟨L,by simp⟩
theorem kind_of (th : Th) (b nb : Nat) : ∃ f, Meth Tryz.prog th.ty "donjon/kernel.kind" f ∧ GoFn Tryz.prog f ∧ TrR Tryz.prog f [pV b] ((b, th.obj nb) :: []) (.int .i64 th.kind) := by
 cases th with
 | unt u=>exact ⟨_,me_Unt,gf_Unt,TrR.frame (hp:=nil_has) (tr_kindUnt b)⟩
 | node=>exact ⟨_,me_Node,gf_Node,TrR.frame (hp:=nil_has) (tr_kindNode b)⟩
 | thr t c s d=>exact ⟨_,me_Thr,gf_Thr,TrR.frame (hp:=nil_has) (tr_kindThr b)⟩
 | ep S=>exact ⟨_,me_Ep,gf_Ep,TrR.frame (hp:=nil_has) (tr_kindEp b)⟩
 | nt S=>exact ⟨_,me_Nt,gf_Nt,TrR.frame (hp:=nil_has) (tr_kindNt b)⟩
 | spc=>exact ⟨_,me_Spc,gf_Spc,TrR.frame (hp:=nil_has) (tr_kindSpc b)⟩
 | page q m s a=>exact ⟨_,me_Page,gf_Page,tr_kindPage b q m s a⟩
section
variable(k:Kn)(A:KA)(ad:Nat→Ad)(kb:Nat)(E:Hp)(hE:EnH k.ar ad E)
include k A ad kb E hE
theorem tr_getThrN(n:Int)(hi:k.ix n=none):TrR prog 54 [pV kb,.int .i64 n] ((kb,kerO A k.wi)::(A.ob,mapO encI (kvM ad k.mp) k.ck)::E) (.tuple #[.pointer none,.bool false]):=by
 refine YR func54 ntmps54 fun W F=>?_
 refine zq [3,4,1,1,2,5,3,4,1,2,5,3,4,0,9,6,8,0] ?_;refine Yp (pv_lookup_i (r:=.pointer none) n rfl rfl ((kv_get k ad n).trans (by rw[hi];rfl))) ?_;refine zq [1,2,5,3,3,4,0,59,2,5,18,3,4,0,1,1,2,5,10,12] ?_;exact zr ⟨rfl,rfl⟩
theorem tr_getThrS(n:Int)(i:Nat)(en:En)(hi:k.ix n=some i)(he:k.ar[i]?=some en):TrR prog 54 [pV kb,.int .i64 n] ((kb,kerO A k.wi)::(A.ob,mapO encI (kvM ad k.mp) k.ck)::E) (.tuple #[if en.th.ty=172 then pV (ad i).tb else .pointer none,.bool (decide (en.th.ty=172))]):=by
 refine YR func54 ntmps54 fun W F=>?_
 haveI hB:=hE.ob he
 refine zq [3,4,1,1,2,5,3,4,1,2,5,3,4,0,9,6,8,0] ?_;refine Yp (pv_lookup_i (r:=pV (ad i).ob) n rfl rfl ((kv_get k ad n).trans (by rw[hi];rfl))) ?_;refine zq [1,2,5,3,3,4,0,59,2,5,17,11,5,3,4,0,9,6,8] ?_;refine Yp (pv_assert rfl rfl) ?_;refine zq [0,7,7,1,1,2,5,3,3,4,0,55,2,5] ?_;refine Yd rfl (fun h1=>?_) (fun h1=>?_)
 ·
  refine zq [3,4,0,1,1,2,5,10,12] ?_;rw[if_neg (by assumption),decide_eq_false (by assumption)];exact zr ⟨rfl,rfl⟩
 refine zq [11,5,3,4,0,1,1,2,5,10] ?_;have hy:en.th.ty=172:=Decidable.of_not_not (by assumption)
 rw[if_pos hy,decide_eq_true hy];exact zs (h:=⟨by rw[asT,if_pos hy],rfl⟩)
theorem tr_getThr(hw:KW k)(n:Int):TrR prog 54 [pV kb,.int .i64 n] ((kb,kerO A k.wi)::(A.ob,mapO encI (kvM ad k.mp) k.ck)::E) (.tuple #[gPt k ad n 172,.bool (gIs k n 172)]):=by
 cases hi:k.ix n with
 | none=>rw[gPt_no (gIs_none hi _),gIs_none hi];exact tr_getThrN k A ad kb E hE n hi
 | some i =>
  obtain ⟨en,he⟩:=hw.en hi;rw[gIs_some hi he];refine (tr_getThrS k A ad kb E hE n i en hi he).eq ?_
  by_cases h:en.th.ty=172
  ·
   rw[if_pos h,gPt_yes hi he h]
  ·
   rw[if_neg h,gPt_no (by rw[gIs_some hi he,decide_eq_false h])]
theorem tr_getPageN(n:Int)(hi:k.ix n=none):TrR prog 156 [pV kb,.int .i64 n] ((kb,kerO A k.wi)::(A.ob,mapO encI (kvM ad k.mp) k.ck)::E) (.tuple #[.pointer none,.bool false]):=by
 refine YR func156 ntmps156 fun W F=>?_
 refine zq [3,4,1,1,2,5,3,4,1,2,5,3,4,0,9,6,8,0] ?_;refine Yp (pv_lookup_i (r:=.pointer none) n rfl rfl ((kv_get k ad n).trans (by rw[hi];rfl))) ?_;refine zq [1,2,5,3,3,4,0,59,2,5,18,3,4,0,1,1,2,5,10,12] ?_;exact zr ⟨rfl,rfl⟩
theorem tr_getPageS(n:Int)(i:Nat)(en:En)(hi:k.ix n=some i)(he:k.ar[i]?=some en):TrR prog 156 [pV kb,.int .i64 n] ((kb,kerO A k.wi)::(A.ob,mapO encI (kvM ad k.mp) k.ck)::E) (.tuple #[if en.th.ty=169 then pV (ad i).tb else .pointer none,.bool (decide (en.th.ty=169))]):=by
 refine YR func156 ntmps156 fun W F=>?_
 haveI hB:=hE.ob he
 refine zq [3,4,1,1,2,5,3,4,1,2,5,3,4,0,9,6,8,0] ?_;refine Yp (pv_lookup_i (r:=pV (ad i).ob) n rfl rfl ((kv_get k ad n).trans (by rw[hi];rfl))) ?_;refine zq [1,2,5,3,3,4,0,59,2,5,17,11,5,3,4,0,9,6,8] ?_;refine Yp (pv_assert rfl rfl) ?_;refine zq [0,7,7,1,1,2,5,3,3,4,0,55,2,5] ?_;refine Yd rfl (fun h1=>?_) (fun h1=>?_)
 ·
  refine zq [3,4,0,1,1,2,5,10,12] ?_;rw[if_neg (by assumption),decide_eq_false (by assumption)];exact zr ⟨rfl,rfl⟩
 refine zq [11,5,3,4,0,1,1,2,5,10] ?_;have hy:en.th.ty=169:=Decidable.of_not_not (by assumption)
 rw[if_pos hy,decide_eq_true hy];exact zs (h:=⟨by rw[asT,if_pos hy],rfl⟩)
theorem tr_getPage(hw:KW k)(n:Int):TrR prog 156 [pV kb,.int .i64 n] ((kb,kerO A k.wi)::(A.ob,mapO encI (kvM ad k.mp) k.ck)::E) (.tuple #[gPt k ad n 169,.bool (gIs k n 169)]):=by
 cases hi:k.ix n with
 | none=>rw[gPt_no (gIs_none hi _),gIs_none hi];exact tr_getPageN k A ad kb E hE n hi
 | some i =>
  obtain ⟨en,he⟩:=hw.en hi;rw[gIs_some hi he];refine (tr_getPageS k A ad kb E hE n i en hi he).eq ?_
  by_cases h:en.th.ty=169
  ·
   rw[if_pos h,gPt_yes hi he h]
  ·
   rw[if_neg h,gPt_no (by rw[gIs_some hi he,decide_eq_false h])]
theorem tr_isN(n kd:Int)(hi:k.ix n=none):TrR prog 99 [pV kb,.int .i64 n,.int .i64 kd] ((kb,kerO A k.wi)::(A.ob,mapO encI (kvM ad k.mp) k.ck)::E) (.bool false):=by
 refine YR func99 ntmps99 fun W F=>?_
 refine zq [3,4,1,2,5,3,4,0,9,6,8,0] ?_;refine Yp (pv_lookup_i (r:=.pointer none) n rfl rfl ((kv_get k ad n).trans (by rw[hi];rfl))) ?_;refine zq [1,2,5,3,4,0,60,0,13,13,13,13,13,13,13,26,1,2,5,10] ?_;exact zr ⟨rfl,rfl⟩
theorem tr_isS(n kd:Int)(i:Nat)(en:En)(hi:k.ix n=some i)(he:k.ar[i]?=some en):TrR prog 99 [pV kb,.int .i64 n,.int .i64 kd] ((kb,kerO A k.wi)::(A.ob,mapO encI (kvM ad k.mp) k.ck)::E) (.bool (decide (en.th.kind=kd))):=by
 refine YR func99 ntmps99 fun W F=>?_
 haveI hB:=hE.ob he
 obtain ⟨R0,hR0⟩:=(hE.tb he).take;obtain ⟨f,hm,hg,ht⟩:=kind_of en.th (ad i).tb (ad i).nb
 haveI:=hm;haveI:=hg;haveI:=hR0
 refine zq [3,4,1,2,5,3,4,0,9,6,8,0] ?_;refine Yp (pv_lookup_i (r:=pV (ad i).ob) n rfl rfl ((kv_get k ad n).trans (by rw[hi];rfl))) ?_;refine zq [1,2,5,3,4,0,60,0,21,57,50,51] ?_;refine Yog (ef_invr (ht) rfl rfl) ?_;refine zq [21] ?_;refine Yg (pv_eql rfl rfl) ?_;refine zq [24,1,2,5,10] ?_;exact zr ⟨rfl,rfl⟩
theorem tr_is(hw:KW k)(n kd:Int):TrR prog 99 [pV kb,.int .i64 n,.int .i64 kd] ((kb,kerO A k.wi)::(A.ob,mapO encI (kvM ad k.mp) k.ck)::E) (.bool (k.isK n kd)):=by
 cases hi:k.ix n with
 | none=>rw[isK_none hi];exact tr_isN k A ad kb E hE n kd hi
 | some i =>
  obtain ⟨en,he⟩:=hw.en hi;rw[isK_some hi he];exact tr_isS k A ad kb E hE n kd i en hi he
end
end
section
theorem tr_getThrY(k:Kn)(A:KA)(ad:Nat→Ad)(kb:Nat)(E:Hp)(hE:EnH k.ar ad E)(n:Int){i:Nat}{t:ThrM}{c:CapM}{s b:Int}{sp:Int×Int}(hi:k.ix n=some i)(he:k.ar[i]?=some ⟨.thr t c s b,sp⟩):TrR prog 54 [pV kb,.int .i64 n] ((kb,kerO A k.wi)::(A.ob,mapO encI (kvM ad k.mp) k.ck)::E) (.tuple #[pV (ad i).tb,.bool true]):=tr_getThrS k A ad kb E hE n i _ hi he
theorem tr_sDrop(sb:Nat)(H:Hp)(T:Ones)(e:Nat)(l:Int)(L:Nat→Ones)(hH:SchH T e l L sb H)(hA:At T e l)(hW:RdysW L)(hl:RdysL L (2^20))(x:Int):Tr prog 165 [.pointer (some ⟨sb,0,none⟩),.int .i64 x] (H) (fun u L' => u=.bool (sdB L x)∧SchH T e l (sdL L x) sb L'):=by
 cases hf:findM L x with
 | none =>
  have e1:sdB L x=false:=by unfold sdB;rw[hf]
  have e2:sdL L x=L:=by unfold sdL;rw[hf]
  rw[e1,e2];exact tr_sDrop_none sb H T e l L hH hA hW hl x hf
 | some dk =>
  obtain ⟨d,k⟩:=dk;have e1:sdB L x=inR (L d) x:=by unfold sdB;rw[hf]
  have e2:sdL L x=fset L d (dropR (L d) x):=by unfold sdL;rw[hf]
  rw[e1,e2];exact tr_sDrop_some sb H T e l L hH hA hW hl x d k hf
theorem KW.drl{k:Kn}(h:KW k)(x:Int):RdysL (sdL k.L x) (2^20):=(sdLen (h.rl (Nat.le_refl 64)) x).mono (by decide)
theorem tr_kBe(k:Kn)(A:KA)(ad:Nat→Ad)(kb:Nat)(L:Hp)(hK:KH k A ad kb L)(hw:KW k)(n:Int){i:Nat}{t:ThrM}{c:CapM}{s b:Int}{sp:Int×Int}(hi:k.ix n=some i)(he:k.ar[i]?=some ⟨.thr t c s b,sp⟩)(x:ThrM):Tr prog 102 [pV kb,.int .i64 n,x.v] (L) (fun u L' => u=.tuple #[]∧KH (k.be n x) A ad kb L'):=by
 obtain ⟨Iq,Lc,Ls,Lt,E,hI,hC,hS,hT,hE,rfl⟩:=hK;have hE0:=hE
 obtain ⟨G,R,rfl,hU,hB,hP,hEb⟩:=hE.thr he
 haveI:=hU;haveI:=hB;haveI:=hP
 refine YR func102 ntmps102 fun W F=>?_
 refine Wr ?_;refine zB fun b1=>?_
 refine zq [2,5,3,4,0,0] ?_;refine zC (tr_getThrY k A ad kb _ hE0 n hi he) ?_;refine zq [0,7,7,1,1,2,5,3,4,0,31,9,6,14,2,5,3,4,0,9,6,8,0] ?_;refine Ops.ef rfl (ef_call (tr_sDrop _ Ls k.T k.e k.lf k.L hS hw.at_ hw.rw (hw.rl (by decide)) n) rfl rfl) ?_;rintro _ _ ⟨_,J1,⟨rfl,hs1⟩,rfl,rfl⟩;refine Ops.app ?_;refine zq [2,5,3,4,6,8,22,2,5] ?_;refine Yd rfl (fun h1=>?_) (fun h1=>?_)
 ·
  refine AnyH.start [(kb,kerO A k.wi),(b1,.cells x.cells.toArray 83)] 10 rfl ?_;refine zd [0,1,1,3,2,0,3,2,4,1,5,0,6,2,7,0,8,2] ?_;refine YA 9 ?_;refine Turn.ef rfl rfl (ef_call (tr_sPut _ J1 k.T k.e k.lf (sdL k.L n) hs1 hw.at_ (sdW hw.rw n) (hw.drl n) n x.dom x.lvl) rfl rfl) ?_ ?_ <;> rintro _ _ ⟨_,J2,⟨rfl,hp1⟩,rfl,rfl⟩
  ·infer_instance
  refine AnyH.app ?_;refine YD ?_;rw[be_eq hi he];exact zf (L' := (kb,kerO A k.wi)::(A.ob,mapO encI (kvM ad k.mp) k.ck)::(A.mb,.cells [.slice (some ⟨A.wb,0,none⟩) k.ws.length k.ws.length].toArray 312)::(A.wb,.cells (wordsC k.ws).toArray 50)::(Iq++(Lc++(J2++(Lt++G (thrO x c s b)))))) ⟨rfl,Iq,Lc,J2,Lt,G (thrO x c s b),hI,hC,by unfold beL;rw[if_pos (by assumption)];exact hp1,hT,hEb x c s b,rfl⟩
 refine Wp.skip ?_;rw[be_eq hi he];exact zf (L' := (kb,kerO A k.wi)::(A.ob,mapO encI (kvM ad k.mp) k.ck)::(A.mb,.cells [.slice (some ⟨A.wb,0,none⟩) k.ws.length k.ws.length].toArray 312)::(A.wb,.cells (wordsC k.ws).toArray 50)::(Iq++(Lc++(J1++(Lt++G (thrO x c s b)))))) ⟨rfl,Iq,Lc,J1,Lt,G (thrO x c s b),hI,hC,by unfold beL;rw[if_neg (by assumption)];exact hs1,hT,hEb x c s b,rfl⟩
theorem tr_getThrZ(k:Kn)(A:KA)(ad:Nat→Ad)(kb:Nat)(E:Hp)(hE:EnH k.ar ad E)(hw:KW k)(n:Int)(hn:k.thr n=none):TrR prog 54 [pV kb,.int .i64 n] ((kb,kerO A k.wi)::(A.ob,mapO encI (kvM ad k.mp) k.ck)::E) (.tuple #[.pointer none,.bool false]):=by
 have h:gIs k n 172=false:=by rw[thr_is hw,hn];rfl
 exact (tr_getThr k A ad kb E hE hw n).eq (by rw[gPt_no h,h])
theorem tr_answered(r:RegsM)(e:Int)(he:0≤e∧e<100):TrR prog 219 [r.v,.int .i64 e] ([]) ((ansR r e).v):=by
 refine YR func219 ntmps219 fun W F=>?_
 refine Wr ?_;refine zB fun b1=>?_
 refine zA fun b2=>?_
 refine zq [2,5,3,4,33,0] ?_;refine zC (tr_gAnswer r e he) ?_;refine zq [14,2,5,10] ?_;exact Ends.ret (res_one rfl (rv_cellK [_,_,_,_,_,_,_,_] rfl rfl rfl ⟨rfl,rfl,rfl,rfl,rfl,rfl,rfl,rfl,trivial⟩)) ⟨rfl,rfl⟩
end
section
section
variable(k:Kn)(A:KA)(ad:Nat→Ad)(kb:Nat)(E:Hp)(hE:EnH k.ar ad E)
include k A ad kb E hE
theorem tr_getPageY(n:Int){i:Nat}{q:Int}{m:Bool}{s a:Int}{sp:Int×Int}(hi:k.ix n=some i)(he:k.ar[i]?=some ⟨.page q m s a,sp⟩):TrR prog 156 [pV kb,.int .i64 n] ((kb,kerO A k.wi)::(A.ob,mapO encI (kvM ad k.mp) k.ck)::E) (.tuple #[pV (ad i).tb,.bool true]):=tr_getPageS k A ad kb E hE n i _ hi he
theorem tr_getPageF(hw:KW k)(n:Int)(hn:gIs k n 169=false):TrR prog 156 [pV kb,.int .i64 n] ((kb,kerO A k.wi)::(A.ob,mapO encI (kvM ad k.mp) k.ck)::E) (.tuple #[.pointer none,.bool false]) :=
  (tr_getPage k A ad kb E hE hw n).eq (by rw[gPt_no hn,hn])
end
end
section
section
variable(k:Kn)(A:KA)(ad:Nat→Ad)(kb:Nat)(L:Hp)(hK:KH k A ad kb L)(hw:KW k){i:Nat}{t:ThrM}{c:CapM}{s b:Int}{sp:Int×Int}(he:k.ar[i]?=some ⟨.thr t c s b,sp⟩)
include k A ad kb L hK hw i t c s b sp he
theorem tr_kAtN(a:Int)(wr:Bool)(hn:noAt s a):TrR prog 111 [pV kb,pV (ad i).tb,.int .u64 a,.bool wr] (L) (.tuple #[.int .i64 0,.int .i64 12]):=by
 obtain ⟨Iq,Lc,Ls,Lt,E,hI,hC,hS,hT,hE,rfl⟩:=hK
 haveI hBt:Blk E (ad i).tb (thrO t c s b):=hE.tb he
 refine YR func111 ntmps111 fun W F=>?_
 refine zq [3,4,1,1,2,5,3,3,4,0,9,6,8,22,0] ?_;refine Yn rfl rfl (fun hg=>pv_move rfl) ?_;refine Yn rfl rfl (fun hg=>Ys 16 rfl hg (pv_geq rfl rfl)) ?_;refine zq [47,2,5] ?_;refine Wp.cond_t rfl (fun h1=>?_) (fun h1=>(by exfalso;unfold noAt at hn;simp_all;done));refine zq [3,4,1,1,2,5,10,12] ?_;exact zr ⟨rfl,rfl⟩
theorem tr_kAtS{j:Nat}{en:En}(hj:k.ix s=some j)(hej:k.ar[j]?=some en)(a:Int)(ha:0≤a)(wr:Bool)(hn:¬noAt s a)(hr:(tlbDrop k.tl s (a/16)).length<8):Tr prog 111 [pV kb,pV (ad i).tb,.int .u64 a,.bool wr] (L) (fun u L' => u=.tuple #[.int .i64 (k.atR s a wr).1,.int .i64 (k.atR s a wr).2]∧KH (k.atK s a) A ad kb L'):=by
 obtain ⟨Iq,Lc,Ls,Lt,E,hI,hC,hS,hT,hE,rfl⟩:=hK
 haveI hBt:Blk E (ad i).tb (thrO t c s b):=hE.tb he
 haveI hBo:=hE.ob hej
 have ha4:a<4096:=by unfold noAt at hn;omega
 have hs64:=hw.num hj
 have e1:k.atR s a wr=toR k.tl k.ws s en.sp.1 a wr:=by unfold Kn.atR;rw[if_neg hn,spcAt_eq hj hej]
 have e2:k.atK s a={ k with tl:=toL k.tl k.ws s en.sp.1 a }:=by unfold Kn.atK;rw[if_neg hn,spcAt_eq hj hej]
 rw[e1,e2];refine YR func111 ntmps111 fun W F=>?_
 refine zq [3,4,1,1,2,5,3,3,4,0,9,6,8,22,0] ?_;refine Yn rfl rfl (fun hg=>pv_move rfl) ?_;refine Yn rfl rfl (fun hg=>Ys 16 rfl hg (pv_geq rfl rfl)) ?_;refine zq [47,2,5] ?_;refine Wp.cond_t rfl (fun h1=>(by exfalso; unfold noAt at hn; simp_all; omega)) (fun h1=>?_);refine zq [11,5,3] ?_;refine AnyH.start ((kb,kerO A k.wi)::(A.ob,mapO encI (kvM ad k.mp) k.ck)::E) 33 rfl ?_;refine zd [0,1,1,3,2,0,3,2,4,1,5,3,6,0,7,2,8,1,9,3,10,0,11,2,12,1,13,3,14,0,15,2,16,1,17,3,18,0,19,2] ?_;refine Yh 20 rfl (pv_lookup_i (r:=pV (ad j).ob) s rfl rfl ((kv_get k ad s).trans (by rw[hj]; rfl))) ?_;refine zd [21,3,22,0,23,6,24,2,25,1] ?_;refine Yh 26 rfl (pv_conv rfl (w64 (by omega) (by omega))) ?_;refine zd [27,1] ?_;refine YA 28 ?_;refine Turn.ef rfl rfl (ef_call (tr_kTo k.ws A.mb A.wb k.ws.length rfl hw.len.2 hw.wok k.tl A.tb Lt hT (by have:=hw.tk.2; omega) s en.sp.1 a wr ⟨ha,ha4⟩ hs64 hr hw.tk.1) rfl rfl) ?_ ?_ <;> rintro _ _ ⟨_,_,⟨rfl,T1,hT1,rfl⟩,rfl,rfl⟩
 ·infer_instance
 refine AnyH.app ?_;refine zd [29,4,30,4,31,5,32,5] ?_;refine YD ?_;refine zq [5,10] ?_;exact zr (L' := (kb,kerO A k.wi)::(A.ob,mapO encI (kvM ad k.mp) k.ck)::(A.mb,.cells [.slice (some ⟨A.wb,0,none⟩) k.ws.length k.ws.length].toArray 312)::(A.wb,.cells (wordsC k.ws).toArray 50)::(Iq++(Lc++(Ls++(T1++E))))) ⟨rfl,Iq,Lc,Ls,T1,E,hI,hC,hS,hT1,hE,rfl⟩
theorem tr_kAt(hs:s = -1∨∃j,k.ix s=some j)(a:Int)(ha:0≤a)(wr:Bool)(hr:k.tl.length≤7):Tr prog 111 [pV kb,pV (ad i).tb,.int .u64 a,.bool wr] L (fun u L' => u=.tuple #[.int .i64 (k.atR s a wr).1,.int .i64 (k.atR s a wr).2]∧KH (k.atK s a) A ad kb L'):=by
 by_cases hn:noAt s a
 ·
  have e1:k.atR s a wr=(0,12):=by unfold Kn.atR;rw[if_pos hn]
  have e2:k.atK s a=k:=by unfold Kn.atK;rw[if_pos hn]
  rw[e1,e2];exact (tr_kAtN k A ad kb L hK hw he a wr hn).mono (fun v L' h=>⟨h.1,by rw[h.2];exact hK⟩)
 obtain ⟨j,hj⟩:=hs.resolve_left (fun h=>hn (.inl h));obtain ⟨en,hej⟩:=hw.en hj;exact tr_kAtS k A ad kb L hK hw he hj hej a ha wr hn (by have:=tlb_len k.tl s (a/16);omega)
theorem tr_kLoad(hs:s = -1∨∃j,k.ix s=some j)(a:Int)(ha:0≤a)(hr:k.tl.length≤7):Tr prog 108 [pV kb,pV (ad i).tb,.int .u64 a] (L) (fun u L' => u=.tuple #[.int .u64 (k.loadR s a).1,.int .i64 (k.loadR s a).2]∧KH (k.atK s a) A ad kb L'):=by
 refine YR func108 ntmps108 fun W F=>?_
 refine zq [3,4,1,1,2,5,3,4,0,0,0] ?_;refine zD (tr_kAt k A ad kb L hK hw he hs a ha false hr) ?_;rintro _ J1 ⟨rfl,hk1⟩;refine Ops.app ?_;refine zq [0,7,7,1,1,2,5,3,3,4,0,27,2,5] ?_;refine Yd rfl (fun h1=>?_) (fun h1=>?_)
 ·
  refine zq [3,4,0,1,1,2,5,10,12] ?_;rw[show k.loadR s a=(0,(k.atR s a false).2) from if_pos (by assumption)];exact zr (L' := J1) ⟨rfl,hk1⟩
 obtain ⟨Iq,Lc,Ls,Lt,E,hI,hC,hS,hT,hE,rfl⟩:=hk1;refine Wp.app ?_;refine zq [11,5,3,4,0,9,6,8,0] ?_;refine zC (tr_memGet (k.atK s a).ws A.mb A.wb (k.atK s a).ws.length (k.atR s a false).1 rfl hw.len.2) ?_;refine zq [7,7,1,1,2,5,10] ?_;rw[show k.loadR s a=memGet k.ws (k.atR s a false).1 from if_neg (by assumption)];exact zr (L' := (kb,kerO A (k.atK s a).wi)::(A.ob,mapO encI (kvM ad (k.atK s a).mp) (k.atK s a).ck)::(A.mb,.cells [.slice (some ⟨A.wb,0,none⟩) (k.atK s a).ws.length (k.atK s a).ws.length].toArray 312)::(A.wb,.cells (wordsC (k.atK s a).ws).toArray 50)::(Iq++(Lc++(Ls++(Lt++E))))) ⟨rfl,Iq,Lc,Ls,Lt,E,hI,hC,hS,hT,hE,rfl⟩
end
theorem u64_id{x:Int}(h:U64 x):IntKind.u64.wrap x=x:=by
 have e:IntKind.u64.wrap x=x%18446744073709551616:=rfl
 rw[e];unfold U64 at h;omega
theorem load_u64{k:Kn}(hw:KW k)(s a:Int):U64 (k.loadR s a).1:=by
 unfold Kn.loadR;split
 ·
  exact (by decide:U64 0)
 exact hw.wok.get _
theorem tr_cUnpackI(x:Int)(h:U64 x):TrR prog 109 [.int .u64 x] [] (.tuple #[(unpM x.toNat).1.v,.int .i64 (unpM x.toNat).2]):=by
 obtain ⟨w,rfl⟩:∃w:Nat,x=(w:Int):=⟨x.toNat,by unfold U64 at h;omega⟩;exact tr_cUnpack w (by unfold U64 at h;omega)
theorem setI_get{k:Kn}{i:Nat}{t:ThrM}{c:CapM}{s b:Int}{sp:Int×Int}(he:k.ar[i]?=some ⟨.thr t c s b,sp⟩)(f:ThrM→ThrM):(k.setI i f).ar[i]?=some ⟨.thr (f t) c s b,sp⟩:=by
 rw[setI_eq he];exact setA_same he _
theorem done_w{t:ThrM}(h:ThW t){x:EffM}(hx:x.Ok):ThW (doneT x t):=⟨⟨h.wf.st,h.wf.on,h.wf.badge,h.wf.caller,h.wf.lvl,h.wf.dom,by have:=hx.pc;unfold I64 doneT;dsimp only;omega,hx.regs⟩,hx.pc⟩
theorem tr_kRunPlain(k:Kn)(A:KA)(ad:Nat→Ad)(kb:Nat)(L:Hp)(hK:KH k A ad kb L)(hw:KW k){i:Nat}{t:ThrM}{c:CapM}{s b:Int}{sp:Int×Int}(he:k.ar[i]?=some ⟨.thr t c s b,sp⟩)(hs:s = -1∨∃j,k.ix s=some j)(n:Int)(hr:k.tl.length≤6)(hb:¬badI k t s)(x:EffM)(hx:effI k t s=x)(ha:x.asks≠4∧x.asks≠1∧x.asks≠2∧x.asks≠3):Tr prog 60 [pV kb,.int .i64 n,pV (ad i).tb] (L) (fun u L' => u=.bool true∧KH ((k.atK s t.pc).setI i (doneT x)) A ad kb L'):=by
 obtain ⟨Iq,Lc,Ls,Lt,E,hI,hC,hS,hT,hE,rfl⟩:=hK
 haveI hBt:Blk E (ad i).tb (thrO t c s b):=hE.tb he
 have htw:=(hw.ths i _ he).1
 have he1:(k.atK s t.pc).ar[i]?=some ⟨.thr t c s b,sp⟩:=he
 have hw1:=hw.atK s t.pc (by omega)
 have hl1:=atK_len s t.pc (k:=k) (by omega)
 have he0:(k.loadR s t.pc).2=0:=Decidable.of_not_not (fun h=>hb (.inl h))
 have hf0:(unpM (k.loadR s t.pc).1.toNat).2=0:=Decidable.of_not_not (fun h=>hb (.inr h))
 have hxo:x.Ok:=by rw[←hx];exact run_ok (unpI_ok hf0) htw.wf.regs htw.pc
 refine YR func60 ntmps60 fun W F=>?_
 refine zq [3,4,1,2,5,3,4,0,0,0,9,6,6,8] ?_;refine Yp (pv_conv rfl (u64_id (by have:=htw.pc;unfold U64;omega))) ?_;refine Ops.ef rfl (ef_call (tr_kLoad k A ad kb _ ⟨Iq,Lc,Ls,Lt,E,hI,hC,hS,hT,hE,rfl⟩ hw he hs t.pc htw.pc.1 (by omega)) rfl rfl) ?_;rintro _ _ ⟨_,_,⟨rfl,hk1⟩,rfl,rfl⟩;refine Ops.app ?_;obtain ⟨Iq,Lc,Ls,Lt,E,hI,hC,hS,hT,hE,rfl⟩:=hk1;have hE0:=hE
 obtain ⟨G,R,rfl,hU,hB,hP,hEb⟩:=hE.thr he1
 haveI:=hU;haveI:=hB;haveI:=hP
 refine Ops.app ?_;refine zq [0,7,7,1,1,2,5,3,4,0] ?_;refine zC (tr_cUnpackI (k.loadR s t.pc).1 (load_u64 hw s t.pc)) ?_;refine zq [0,7,7] ?_;refine zA fun b1=>?_
 refine zq [14,1,2,5,3,3,4,0,27,0] ?_;refine Yn rfl rfl (fun hg=>pv_move rfl) ?_;refine Yn rfl rfl (fun hg=>Ys 38 rfl hg (pv_neq rfl rfl)) ?_;refine zq [47,2,5] ?_;refine Wp.cond_t rfl (fun h1=>(by exfalso;unfold badI at hb;simp_all;done)) (fun h1=>?_);refine zq [11,5,3,4,0,9,6,6,8,1,2,5] ?_;apply Wp.cutB1 [(0,_),(1,_),(2,_),(11,_)] (fun b2=>[(12,_)]) _ ⟨rfl,rfl,rfl,rfl,trivial⟩
 ·
  intro KK hA0;refine AnyH.start ((G (thrO t c s b))++[(b1,.cells [.int .i64 ((unpM (k.loadR s t.pc).1.toNat).1.op:Nat),.int .i64 ((unpM (k.loadR s t.pc).1.toNat).1.a:Nat),.int .i64 ((unpM (k.loadR s t.pc).1.toNat).1.b:Nat),.int .i64 ((unpM (k.loadR s t.pc).1.toNat).1.imm:Nat)].toArray 244)]) 14 rfl ?_;refine Yh 0 rfl (pv_loadK [_,_,_,_] rfl rfl rfl ⟨rfl,rfl,rfl,rfl,trivial⟩) ?_;refine zd [1,1,2,3,3,0,4,0,5,12,6,1] ?_;refine YB 7 11 ?_ ?_
  ·
   refine Yu rfl rfl (ef_callr ((tr_cRun (unpM (k.loadR s t.pc).1.toNat).1 (unpI_ok hf0) t.regs htw.wf.regs t.pc htw.pc).eq (r' := .tuple #[x.v,.int .i64 0]) (by rw[show runM (unpM (k.loadR s t.pc).1.toNat).1 t.regs t.pc=x from hx])) rfl rfl) ?_;refine zd [8,1,9,4,10,4] ?_;refine YA 11 ?_;refine Yw rfl rfl (ef_allocK tyZ248 rfl) fun b2=>?_
   refine zK 12 ?_;refine zd [13,5] ?_;refine YD ?_;refine zq [49] ?_;refine Goes.same (hA0 b2) ⟨rfl,rfl,rfl,rfl,rfl,trivial⟩
  refine Yw rfl rfl (ef_allocK tyZ248 rfl) fun b3=>?_
  refine YA 7 ?_;refine Yu rfl rfl (ef_callr ((tr_cRun (unpM (k.loadR s t.pc).1.toNat).1 (unpI_ok hf0) t.regs htw.wf.regs t.pc htw.pc).eq (r' := .tuple #[x.v,.int .i64 0]) (by rw[show runM (unpM (k.loadR s t.pc).1.toNat).1 t.regs t.pc=x from hx])) rfl rfl) ?_;refine zd [8,1,9,4,10,4] ?_;refine zK 12 ?_;refine zd [13,5] ?_;refine YD ?_;refine zq [49] ?_;refine Yy (hA0 b3)
 intro b2;dsimp only[Y1,Y2];refine zq [3,3,4,6,8,2,5,20,3,4,65,1,2,5,17,3,4,65,1,2,5,17,3,4,65,1,2,5,17,11,19,5,3] ?_;refine AnyH.start [(b2,.cells [.int .u64 x.regs.r0,.int .u64 x.regs.r1,.int .u64 x.regs.r2,.int .u64 x.regs.r3,.int .u64 x.regs.r4,.int .u64 x.regs.r5,.int .u64 x.regs.r6,.int .u64 x.regs.r7,.int .i64 x.pc,.int .i64 x.asks,.int .u64 x.at_,.int .i64 x.reg,.int .u64 x.val].toArray 248)] 14 rfl ?_;refine zd [0,1,1,1,2,0,3,12,4,0,5,2,6,3,7,0,8,0] ?_;refine zK 9 ?_;refine zd [10,3,11,0,12,0] ?_;refine z1 13 ?_;refine YD ?_;refine zq [5,3,3,4,6,8,65,0,13,13,13,13,13,13,13,26,2,5,17,11,5,3,4,1,2,5,10] ?_;rw[setI_eq he1];exact zr (L' := (kb,kerO A (k.atK s t.pc).wi)::(A.ob,mapO encI (kvM ad (k.atK s t.pc).mp) (k.atK s t.pc).ck)::(A.mb,.cells [.slice (some ⟨A.wb,0,none⟩) (k.atK s t.pc).ws.length (k.atK s t.pc).ws.length].toArray 312)::(A.wb,.cells (wordsC (k.atK s t.pc).ws).toArray 50)::(Iq++(Lc++(Ls++(Lt++(G (thrO (doneT x t) c s b))))))) ⟨rfl,Iq,Lc,Ls,Lt,_,hI,hC,hS,hT,hEb (doneT x t) c s b,rfl⟩
theorem tr_memPutX(ws:List Int)(mb wb:Nat)(a v:Int)(hN:ws.length≤65536):Tr prog 112 [memP mb,.int .i64 a,.int .u64 v] ((mb,.cells [.slice (some ⟨wb,0,none⟩) ws.length ws.length].toArray 312)::(wb,.cells (wordsC ws).toArray 50)::[]) (fun u L' => u=.int .i64 (memPutE ws a)∧L' = (mb,.cells [.slice (some ⟨wb,0,none⟩) ws.length ws.length].toArray 312)::(wb,.cells (wordsC (memPut ws a v)).toArray 50)::[]):=tr_memPut ws mb wb ws.length a v rfl hN
theorem KH_put{k:Kn}{A:KA}{ad:Nat→Ad}{kb:Nat}{Iq Lc Ls Lt E:Hp}(hI:IrqH k.q A.ib Iq)(hC:CapsH k.nk k.p A.cb Lc)(hS:SchH k.T k.e k.lf k.L A.sb Ls)(hT:TlbH k.tl A.tb Lt)(hE:EnH k.ar ad E)(a v:Int) :
    KH { k with ws:=memPut k.ws a v } A ad kb ((kb,kerO A k.wi)::(A.ob,mapO encI (kvM ad k.mp) k.ck)::(A.mb,.cells [.slice (some ⟨A.wb,0,none⟩) k.ws.length k.ws.length].toArray 312)::(A.wb,.cells (wordsC (memPut k.ws a v)).toArray 50)::(Iq++(Lc++(Ls++(Lt++E))))):=⟨Iq,Lc,Ls,Lt,E,hI,hC,hS,hT,hE,by dsimp only;rw[memPut_len]⟩
theorem tr_kRunCall(k:Kn)(A:KA)(ad:Nat→Ad)(kb:Nat)(L:Hp)(hK:KH k A ad kb L)(hw:KW k){i:Nat}{t:ThrM}{c:CapM}{s b:Int}{sp:Int×Int}(he:k.ar[i]?=some ⟨.thr t c s b,sp⟩)(hs:s = -1∨∃j,k.ix s=some j)(n:Int)(hr:k.tl.length≤6)(hb:¬badI k t s)(x:EffM)(hx:effI k t s=x)(ha:x.asks=3)(K3:Kn)(hc:∀L2,KH ((k.atK s t.pc).setI i (doneT x)) A ad kb L2→Tr prog 113 [.agg #[pV kb,.int .i64 n,pV (ad i).tb],.int .u64 x.val] L2 (fun u L' => u=.bool false∧KH K3 A ad kb L')):Tr prog 60 [pV kb,.int .i64 n,pV (ad i).tb] (L) (fun u L' => u=.bool true∧KH K3 A ad kb L'):=by
 obtain ⟨Iq,Lc,Ls,Lt,E,hI,hC,hS,hT,hE,rfl⟩:=hK
 haveI hBt:Blk E (ad i).tb (thrO t c s b):=hE.tb he
 have htw:=(hw.ths i _ he).1
 have he1:(k.atK s t.pc).ar[i]?=some ⟨.thr t c s b,sp⟩:=he
 have hw1:=hw.atK s t.pc (by omega)
 have hl1:=atK_len s t.pc (k:=k) (by omega)
 have he0:(k.loadR s t.pc).2=0:=Decidable.of_not_not (fun h=>hb (.inl h))
 have hf0:(unpM (k.loadR s t.pc).1.toNat).2=0:=Decidable.of_not_not (fun h=>hb (.inr h))
 have hxo:x.Ok:=by rw[←hx];exact run_ok (unpI_ok hf0) htw.wf.regs htw.pc
 refine YR func60 ntmps60 fun W F=>?_
 refine zq [3,4,1,2,5,3,4,0,0,0,9,6,6,8] ?_;refine Yp (pv_conv rfl (u64_id (by have:=htw.pc;unfold U64;omega))) ?_;refine Ops.ef rfl (ef_call (tr_kLoad k A ad kb _ ⟨Iq,Lc,Ls,Lt,E,hI,hC,hS,hT,hE,rfl⟩ hw he hs t.pc htw.pc.1 (by omega)) rfl rfl) ?_;rintro _ _ ⟨_,_,⟨rfl,hk1⟩,rfl,rfl⟩;refine Ops.app ?_;obtain ⟨Iq,Lc,Ls,Lt,E,hI,hC,hS,hT,hE,rfl⟩:=hk1;have hE0:=hE
 obtain ⟨G,R,rfl,hU,hB,hP,hEb⟩:=hE.thr he1
 haveI:=hU;haveI:=hB;haveI:=hP
 refine Ops.app ?_;refine zq [0,7,7,1,1,2,5,3,4,0] ?_;refine zC (tr_cUnpackI (k.loadR s t.pc).1 (load_u64 hw s t.pc)) ?_;refine zq [0,7,7] ?_;refine zA fun b1=>?_
 refine zq [14,1,2,5,3,3,4,0,27,0] ?_;refine Yn rfl rfl (fun hg=>pv_move rfl) ?_;refine Yn rfl rfl (fun hg=>Ys 38 rfl hg (pv_neq rfl rfl)) ?_;refine zq [47,2,5] ?_;refine Wp.cond_t rfl (fun h1=>(by exfalso;unfold badI at hb;simp_all;done)) (fun h1=>?_);refine zq [11,5,3,4,0,9,6,6,8,1,2,5] ?_;apply Wp.cutB1 [(0,_),(1,_),(2,_),(11,_)] (fun b2=>[(12,_)]) _ ⟨rfl,rfl,rfl,rfl,trivial⟩
 ·
  intro KK hA0;refine AnyH.start ((G (thrO t c s b))++[(b1,.cells [.int .i64 ((unpM (k.loadR s t.pc).1.toNat).1.op:Nat),.int .i64 ((unpM (k.loadR s t.pc).1.toNat).1.a:Nat),.int .i64 ((unpM (k.loadR s t.pc).1.toNat).1.b:Nat),.int .i64 ((unpM (k.loadR s t.pc).1.toNat).1.imm:Nat)].toArray 244)]) 14 rfl ?_;refine Yh 0 rfl (pv_loadK [_,_,_,_] rfl rfl rfl ⟨rfl,rfl,rfl,rfl,trivial⟩) ?_;refine zd [1,1,2,3,3,0,4,0,5,12,6,1] ?_;refine YB 7 11 ?_ ?_
  ·
   refine Yu rfl rfl (ef_callr ((tr_cRun (unpM (k.loadR s t.pc).1.toNat).1 (unpI_ok hf0) t.regs htw.wf.regs t.pc htw.pc).eq (r' := .tuple #[x.v,.int .i64 0]) (by rw[show runM (unpM (k.loadR s t.pc).1.toNat).1 t.regs t.pc=x from hx])) rfl rfl) ?_;refine zd [8,1,9,4,10,4] ?_;refine YA 11 ?_;refine Yw rfl rfl (ef_allocK tyZ248 rfl) fun b2=>?_
   refine zK 12 ?_;refine zd [13,5] ?_;refine YD ?_;refine zq [49] ?_;refine Goes.same (hA0 b2) ⟨rfl,rfl,rfl,rfl,rfl,trivial⟩
  refine Yw rfl rfl (ef_allocK tyZ248 rfl) fun b3=>?_
  refine YA 7 ?_;refine Yu rfl rfl (ef_callr ((tr_cRun (unpM (k.loadR s t.pc).1.toNat).1 (unpI_ok hf0) t.regs htw.wf.regs t.pc htw.pc).eq (r' := .tuple #[x.v,.int .i64 0]) (by rw[show runM (unpM (k.loadR s t.pc).1.toNat).1 t.regs t.pc=x from hx])) rfl rfl) ?_;refine zd [8,1,9,4,10,4] ?_;refine zK 12 ?_;refine zd [13,5] ?_;refine YD ?_;refine zq [49] ?_;refine Yy (hA0 b3)
 intro b2;dsimp only[Y1,Y2];refine zq [3,3,4,6,8,2,5,20,3,4,65,1,2,5,17,3,4,65,1,2,5,17,3,4,65,1,2,5,17,11,19,5,3] ?_;refine AnyH.start [(b2,.cells [.int .u64 x.regs.r0,.int .u64 x.regs.r1,.int .u64 x.regs.r2,.int .u64 x.regs.r3,.int .u64 x.regs.r4,.int .u64 x.regs.r5,.int .u64 x.regs.r6,.int .u64 x.regs.r7,.int .i64 x.pc,.int .i64 x.asks,.int .u64 x.at_,.int .i64 x.reg,.int .u64 x.val].toArray 248)] 14 rfl ?_;refine zd [0,1,1,1,2,0,3,12,4,0,5,2,6,3,7,0,8,0] ?_;refine zK 9 ?_;refine zd [10,3,11,0,12,0] ?_;refine z1 13 ?_;refine YD ?_;refine zq [5,3,3,4,6,8,66,0,21,21,21,56,50,51] ?_;refine Ops.efg ⟨_,_,rfl,rfl,rfl⟩ (ef_call (hc ((kb,kerO A (k.atK s t.pc).wi)::(A.ob,mapO encI (kvM ad (k.atK s t.pc).mp) (k.atK s t.pc).ck)::(A.mb,.cells [.slice (some ⟨A.wb,0,none⟩) (k.atK s t.pc).ws.length (k.atK s t.pc).ws.length].toArray 312)::(A.wb,.cells (wordsC (k.atK s t.pc).ws).toArray 50)::(Iq++(Lc++(Ls++(Lt++(G (thrO (doneT x t) c s b))))))) (by rw[setI_eq he1];exact ⟨Iq,Lc,Ls,Lt,_,hI,hC,hS,hT,hEb (doneT x t) c s b,rfl⟩)) rfl rfl) ?_;rintro _ _ ⟨_,J1,⟨rfl,hk2⟩,rfl,rfl⟩;refine Ops.app ?_;refine zq [24,2,5,17,11,5,3,4,1,2,5,10] ?_;exact zr (L' := J1) ⟨rfl,hk2⟩
end
section
section
variable(k:Kn)(A:KA)(ad:Nat→Ad)(kb:Nat)(L:Hp)(hK:KH k A ad kb L)(hw:KW k)
include k A ad kb L hK hw
theorem tr_kStepT(hB:k.curB=true){i:Nat}{t:ThrM}{c:CapM}{s b:Int}{sp:Int×Int}(hi:k.ix k.cur=some i)(he:k.ar[i]?=some ⟨.thr t c s b,sp⟩)(q1:Kn)(hrun:∀L2,KH k A ad kb L2→Tr prog 60 [pV kb,.int .i64 k.cur,pV (ad i).tb] L2 (fun u L' => u=.bool true∧KH q1 A ad kb L')):Tr prog 25 [pV kb] (L) (fun u L' => u=.bool true∧KH q1 A ad kb L'):=by
 obtain ⟨Iq,Lc,Ls,Lt,E,hI,hC,hS,hT,hE,rfl⟩:=hK;refine YR func25 ntmps25 fun W F=>?_
 refine zq [3,4,1,2,5,3,4,0,9,6,8] ?_;refine Yo (ef_callr ((tr_sPick _ Ls k.T k.e k.lf k.L hS hw.at_ hw.rw (hw.rl (by decide))).eq (r' := .tuple #[.int .i64 k.cur,.bool true]) (by rw[←hB];rfl)) rfl rfl) ?_;refine zq [0,7,7,1,1,2,5,3,3,4,0,39,2,5,17,11,5,3,3,4,0,0] ?_;refine zC (tr_getThrY k A ad kb _ hE k.cur hi he) ?_;refine zq [0,7,7,1,1,2,5,3,4,0,0,0] ?_;refine zD (hrun _ ⟨Iq,Lc,Ls,Lt,E,hI,hC,hS,hT,hE,rfl⟩) ?_;rintro _ J1 ⟨rfl,hk1⟩;refine Ops.app ?_;refine zq [39,2,5,17,11,5,3,4,1,2,5,10] ?_;exact zr (L' := J1) ⟨rfl,hk1⟩
theorem tr_kThreadN(n:Int)(hn:k.thr n=none):TrR prog 19 [pV kb,.int .i64 n] (L) (.tuple #[ThrM.zero.v,.bool false]):=by
 obtain ⟨Iq,Lc,Ls,Lt,E,hI,hC,hS,hT,hE,rfl⟩:=hK;refine YR func19 ntmps19 fun W F=>?_
 refine Wr ?_;refine zA fun b1=>?_
 refine zq [1,2,5,3,4,0,0] ?_;refine zC (tr_getThrZ k A ad kb _ hE hw n hn) ?_;refine zq [0,7,7,1,1,2,5,3,3,4,0,39,2,5,18,3,4,23,14,1,2,5,10,12] ?_;exact zr ⟨rfl,rfl⟩
theorem tr_kThreadS(n:Int){i:Nat}{t:ThrM}{c:CapM}{s b:Int}{sp:Int×Int}(hi:k.ix n=some i)(he:k.ar[i]?=some ⟨.thr t c s b,sp⟩):TrR prog 19 [pV kb,.int .i64 n] (L) (.tuple #[t.v,.bool true]):=by
 obtain ⟨Iq,Lc,Ls,Lt,E,hI,hC,hS,hT,hE,rfl⟩:=hK
 haveI hBt:Blk E (ad i).tb (thrO t c s b):=hE.tb he
 refine YR func19 ntmps19 fun W F=>?_
 refine Wr ?_;refine zA fun b1=>?_
 refine zq [1,2,5,3,4,0,0] ?_;refine zC (tr_getThrY k A ad kb _ hE n hi he) ?_;refine zq [0,7,7,1,1,2,5,3,3,4,0,39,2,5,17,11,5,3,4,0,9,6,31,14,1,2,5,10] ?_;exact zr ⟨rfl,rfl⟩
end
def thrT (k:Kn) (n:Int):ThrM:=match k.thr n with
  | some x=>x.1
  | none=>.zero
section
variable(k:Kn)(A:KA)(ad:Nat→Ad)(kb:Nat)(L:Hp)(hK:KH k A ad kb L)(hw:KW k)
include k A ad kb L hK hw
theorem tr_kThread(n:Int):TrR prog 19 [pV kb,.int .i64 n] L (.tuple #[(thrT k n).v,.bool (k.thr n).isSome]):=by
 cases hx:k.thr n with
 | none=>rw[show thrT k n=.zero by unfold thrT;rw[hx]];exact tr_kThreadN k A ad kb L hK hw n hx
 | some x =>
  obtain ⟨i,sp,hi,he⟩:=thr_ex hx;rw[show thrT k n=x.1 by unfold thrT;rw[hx]];exact tr_kThreadS k A ad kb L hK hw n hi he
theorem tr_kPoke(a v:Int):Tr prog 95 [pV kb,.int .i64 a,.int .u64 v] (L) (fun u L' => u=.int .i64 (memPutE k.ws a)∧KH { k with ws:=memPut k.ws a v } A ad kb L'):=by
 obtain ⟨Iq,Lc,Ls,Lt,E,hI,hC,hS,hT,hE,rfl⟩:=hK;refine YR func95 ntmps95 fun W F=>?_
 refine zq [3,4,1,2,5,3,4,0,9,6,8,0,0] ?_;refine zD (tr_memPutX k.ws A.mb A.wb a v hw.len.2) ?_;rintro _ _ ⟨rfl,rfl⟩;refine Ops.app ?_;refine zq [1,2,5,10] ?_;exact zr (L' := (kb,kerO A k.wi)::(A.ob,mapO encI (kvM ad k.mp) k.ck)::(A.mb,.cells [.slice (some ⟨A.wb,0,none⟩) k.ws.length k.ws.length].toArray 312)::(A.wb,.cells (wordsC (memPut k.ws a v)).toArray 50)::(Iq++(Lc++(Ls++(Lt++E))))) ⟨rfl,KH_put hI hC hS hT hE a v⟩
theorem tr_kNamed(c:CapM):TrR prog 89 [pV kb,c.v] (L) (.bool (k.named c)):=by
 obtain ⟨Iq,Lc,Ls,Lt,E,hI,hC,hS,hT,hE,rfl⟩:=hK;refine YR func89 ntmps89 fun W F=>?_
 refine Wr ?_;refine zB fun b1=>?_
 refine zq [1,2,5,3,3,4,6,8,2,5,20,3,3,4,22,1,2,5] ?_;refine Wp.cond_t rfl (fun h1=>?_) (fun h1=>?_)
 ·
  refine zq [11,5,18,3,4,1,2,5,10,15,12] ?_;exact zs (h:=⟨by congr 1;unfold Kn.named;simp_all,rfl⟩)
 refine zq [3,4,22,1,2,5] ?_;refine Wp.cond_t rfl (fun h2=>?_) (fun h2=>?_)
 ·
  refine zq [11,5,18,3,4,1,2,5,10,15,12] ?_;exact zs (h:=⟨by congr 1;unfold Kn.named;simp_all,rfl⟩)
 refine zq [4,22,1,2,5] ?_;refine Wp.cond_t rfl (fun h3=>?_) (fun h3=>?_)
 ·
  refine zq [3,4,1,2,5,10,15,12] ?_;exact zs (h:=⟨by congr 1;unfold Kn.named;simp_all,rfl⟩)
 refine zq [3,4,22,1,2,5] ?_;refine Yd rfl (fun h4=>?_) (fun h4=>?_)
 ·
  refine zq [3,4,6,8,43,0] ?_;refine Yc rfl rfl (fun hg=>pv_fieldAddr0 rfl rfl) ?_;refine Yc rfl rfl (fun hg=>Ys 17 rfl hg (pv_load rfl rfl rfl)) ?_;refine Yc rfl rfl (fun hg=>Ys 17 rfl hg (Ys 18 rfl hg (pv_lss rfl rfl))) ?_;refine zq [46,1,2,5,10,15,12] ?_;exact zs (h:=⟨by congr 1;unfold Kn.named;simp_all,rfl⟩)
 refine zq [11,19,5,3,4,0,6,8,6,8] ?_;refine zC (tr_is k A ad kb _ hE hw c.object c.kind) ?_;refine zq [1,2,5,10] ?_;exact zs (h:=⟨by congr 1;unfold Kn.named;simp_all,rfl⟩)
theorem tr_kPlant(q:SlotM)(c:CapM):Tr prog 42 [pV kb,slotV q,c.v] (L) (fun u L' => u=.int .i64 (k.plant q c).1∧KH (k.plant q c).2 A ad kb L'):=by
 obtain ⟨Iq,Lc,Ls,Lt,E,hI,hC,hS,hT,hE,rfl⟩:=hK;refine YR func42 ntmps42 fun W F=>?_
 refine Wr ?_;refine zB fun b1=>?_
 refine zB fun b2=>?_
 refine zq [1,2,5,3,3,4,0,32] ?_;refine zC (tr_kNamed k A ad kb _ ⟨Iq,Lc,Ls,Lt,E,hI,hC,hS,hT,hE,rfl⟩ hw c) ?_;refine zq [39,2,5] ?_;refine Wp.cond_t rfl (fun h1=>?_) (fun h1=>?_)
 ·
  refine zq [3,4,1,2,5,10,12] ?_;have hn:k.named c=false:=by simp_all
  rw[show k.plant q c=(3,k) from if_pos hn];exact zr (L' := (kb,kerO A k.wi)::(A.ob,mapO encI (kvM ad k.mp) k.ck)::(A.mb,.cells [.slice (some ⟨A.wb,0,none⟩) k.ws.length k.ws.length].toArray 312)::(A.wb,.cells (wordsC k.ws).toArray 50)::(Iq++(Lc++(Ls++(Lt++E))))) ⟨rfl,⟨Iq,Lc,Ls,Lt,E,hI,hC,hS,hT,hE,rfl⟩⟩
 refine zq [11,5,3] ?_;refine AnyH.start [(kb,kerO A k.wi),(b1,.cells [.int .i64 q.1,.int .i64 q.2].toArray 61),(b2,.cells c.cells.toArray 63)] 8 rfl ?_;refine zd [0,1,1,3,2,0,3,2,4,10,5,11] ?_;refine YA 6 ?_;refine Turn.ef rfl rfl (ef_call (tr_mPlant k.nk A.cb Lc k.p hC q c) rfl rfl) ?_ ?_ <;> rintro _ _ ⟨_,J1,⟨rfl,hc1⟩,rfl,rfl⟩
 ·infer_instance
 refine AnyH.app ?_;refine zd [7,5] ?_;refine YD ?_;refine zq [5,10] ?_;have hn:¬k.named c=false:=by simp_all
 rw[show k.plant q c=((mPlant k.p q c).1,{ k with p:=(mPlant k.p q c).2,nk:=k.nk+1 }) from if_neg hn];exact zr (L' := (kb,kerO A k.wi)::(A.ob,mapO encI (kvM ad k.mp) k.ck)::(A.mb,.cells [.slice (some ⟨A.wb,0,none⟩) k.ws.length k.ws.length].toArray 312)::(A.wb,.cells (wordsC k.ws).toArray 50)::(Iq++(J1++(Ls++(Lt++E))))) ⟨rfl,Iq,J1,Ls,Lt,E,hI,hc1,hS,hT,hE,rfl⟩
theorem tr_kStartN(n:Int)(hn:k.thr n=none):TrR prog 49 [pV kb,.int .i64 n] (L) (.int .i64 3):=by
 obtain ⟨Iq,Lc,Ls,Lt,E,hI,hC,hS,hT,hE,rfl⟩:=hK;refine YR func49 ntmps49 fun W F=>?_
 refine zq [3,4,1,2,5,3,4,0,0] ?_;refine zC (tr_getThrZ k A ad kb _ hE hw n hn) ?_;refine zq [0,7,7,1,1,2,5,3,3,4,0,39,2,5,18,3,4,1,2,5,10,12] ?_;exact zr ⟨rfl,rfl⟩
theorem tr_kStartS(n:Int){i:Nat}{t:ThrM}{c:CapM}{s b:Int}{sp:Int×Int}(hi:k.ix n=some i)(he:k.ar[i]?=some ⟨.thr t c s b,sp⟩):Tr prog 49 [pV kb,.int .i64 n] (L) (fun u L' => u=.int .i64 (startTM t).2∧KH (if (startTM t).2=0 then k.be n (startTM t).1 else k) A ad kb L'):=by
 obtain ⟨Iq,Lc,Ls,Lt,E,hI,hC,hS,hT,hE,rfl⟩:=hK;have hE0:=hE
 obtain ⟨G,R,rfl,hU,hB,hP,hEb⟩:=hE.thr he
 haveI:=hU;haveI:=hB;haveI:=hP
 refine YR func49 ntmps49 fun W F=>?_
 refine zq [3,4,1,2,5,3,4,0,0] ?_;refine zC (tr_getThrY k A ad kb _ hE0 n hi he) ?_;refine zq [0,7,7,1,1,2,5,3,3,4,0,39,2,5,17,11,5,3,4,0,9,6,31] ?_;refine zC (tr_tStart t) ?_;refine zq [0,7,7] ?_;refine zA fun b1=>?_
 refine zq [14,1,2,5,3,3,4,0,22,2,5] ?_;refine Yd rfl (fun h1=>?_) (fun h1=>?_)
 ·
  refine zq [4,0,0,31] ?_;refine zD (tr_kBe k A ad kb _ ⟨Iq,Lc,Ls,Lt,_,hI,hC,hS,hT,hE0,rfl⟩ hw n hi he (startTM t).1) ?_;rintro _ J1 ⟨rfl,hk1⟩;refine Ops.app ?_;refine zq [2,5,3,4,0,1,2,5,10] ?_;rw[if_pos (by assumption)];exact zr (L' := J1) ⟨rfl,hk1⟩
 refine zq [11,5,3,4,0,1,2,5,10] ?_;rw[if_neg (by assumption)];exact zr (L' := (kb,kerO A k.wi)::(A.ob,mapO encI (kvM ad k.mp) k.ck)::(A.mb,.cells [.slice (some ⟨A.wb,0,none⟩) k.ws.length k.ws.length].toArray 312)::(A.wb,.cells (wordsC k.ws).toArray 50)::(Iq++(Lc++(Ls++(Lt++(G (thrO t c s b))))))) ⟨rfl,Iq,Lc,Ls,Lt,_,hI,hC,hS,hT,hE0,rfl⟩
theorem tr_kStart(n:Int):Tr prog 49 [pV kb,.int .i64 n] L (fun u L' => u=.int .i64 (k.startE n)∧KH (k.start n) A ad kb L'):=by
 cases hx:k.thr n with
 | none =>
  rw[show k.startE n=3 by unfold Kn.startE;rw[hx],show k.start n=k by unfold Kn.start;rw[hx]];exact (tr_kStartN k A ad kb L hK hw n hx).mono (fun v L' h=>⟨h.1,by rw[h.2];exact hK⟩)
 | some x =>
  obtain ⟨i,sp,hi,he⟩:=thr_ex hx;rw[show k.startE n=(startTM x.1).2 by unfold Kn.startE;rw[hx],show k.start n=(if (startTM x.1).2=0 then k.be n (startTM x.1).1 else k) by unfold Kn.start;rw[hx]];exact tr_kStartS k A ad kb L hK hw n hi he
end
section
variable(ws:List Int)
include ws
theorem table_len(d a t:Int):(tableW ws d a t).length=ws.length:=by
 unfold tableW;split
 ·
  rfl
 exact applyW_len ..
theorem smap_len(d a t:Int)(wr:Bool):(smapW ws d a t wr).length=ws.length:=by
 unfold smapW;split
 ·
  rfl
 exact applyW_len ..
theorem tr_sTableX(mb wb:Nat)(hN:ws.length≤65536)(hw:WdOk ws)(dir a t:Int)(ha:I64 a):Tr prog 157 [memP mb,.int .i64 dir,.int .i64 a,.int .i64 t] ((mb,.cells [.slice (some ⟨wb,0,none⟩) ws.length ws.length].toArray 312)::(wb,.cells (wordsC ws).toArray 50)::[]) (fun u L' => u=.int .i64 (tableE ws dir a t)∧L' = (mb,.cells [.slice (some ⟨wb,0,none⟩) ws.length ws.length].toArray 312)::(wb,.cells (wordsC (tableW ws dir a t)).toArray 50)::[]):=tr_sTable ws mb wb ws.length rfl hN hw dir a t ha
theorem tr_sMapX(mb wb:Nat)(hN:ws.length≤65536)(hw:WdOk ws)(dir a t:Int)(wr:Bool)(ha:I64 a):Tr prog 158 [memP mb,.int .i64 dir,.int .i64 a,.int .i64 t,.bool wr] ((mb,.cells [.slice (some ⟨wb,0,none⟩) ws.length ws.length].toArray 312)::(wb,.cells (wordsC ws).toArray 50)::[]) (fun u L' => u=.int .i64 (smapE ws dir a t wr)∧L' = (mb,.cells [.slice (some ⟨wb,0,none⟩) ws.length ws.length].toArray 312)::(wb,.cells (wordsC (smapW ws dir a t wr)).toArray 50)::[]):=tr_sMap ws mb wb ws.length rfl hN hw dir a t wr ha
end
theorem KH_ws{k:Kn}{A:KA}{ad:Nat→Ad}{kb:Nat}{Iq Lc Ls Lt E:Hp}(hI:IrqH k.q A.ib Iq)(hC:CapsH k.nk k.p A.cb Lc)(hS:SchH k.T k.e k.lf k.L A.sb Ls)(hT:TlbH k.tl A.tb Lt)(hE:EnH k.ar ad E){ws:List Int}(hl:ws.length=k.ws.length) :
    KH { k with ws:=ws } A ad kb ((kb,kerO A k.wi)::(A.ob,mapO encI (kvM ad k.mp) k.ck)::(A.mb,.cells [.slice (some ⟨A.wb,0,none⟩) k.ws.length k.ws.length].toArray 312)::(A.wb,.cells (wordsC ws).toArray 50)::(Iq++(Lc++(Ls++(Lt++E))))):=⟨Iq,Lc,Ls,Lt,E,hI,hC,hS,hT,hE,by dsimp only;rw[hl]⟩
section
variable(k:Kn)(A:KA)(ad:Nat→Ad)(kb:Nat)(L:Hp)(hK:KH k A ad kb L)(hw:KW k)(n into:Int){i j:Nat}{q s0 a0:Int}{sp:Int×Int}{en:En}(hi:k.ix n=some i)(he:k.ar[i]?=some ⟨.page q false s0 a0,sp⟩)(hj:k.ix into=some j)(hej:k.ar[j]?=some en)(hk8:en.th.kind=8)(a:Int)(ha:I64 a)(wr:Bool)
include k A ad kb L hK hw n into i j q s0 a0 sp en hi he hj hej hk8 a ha wr
theorem tr_kMapTable(hq:q=7):Tr prog 93 [pV kb,.int .i64 n,.int .i64 into,.int .i64 a,.bool wr] (L) (fun u L' => u=.int .i64 (tableE k.ws en.sp.1 a sp.1)∧KH (if (tableE k.ws en.sp.1 a sp.1)=0 then { k with ws:=(tableW k.ws en.sp.1 a sp.1),ar:=setA k.ar i (.page q true into a) } else { k with ws:=(tableW k.ws en.sp.1 a sp.1) }) A ad kb L'):=by
 obtain ⟨Iq,Lc,Ls,Lt,E,hI,hC,hS,hT,hE,rfl⟩:=hK;have hE0:=hE
 have hBo:=hE.ob hej
 have hBn:=hE.ob he
 have hT7:=table_len k.ws en.sp.1 a sp.1
 obtain ⟨G,R,rfl,hU,hB,hP,hEb⟩:=hE.page he
 haveI:=hU;haveI:=hB;haveI:=hP;haveI:=hBo;haveI:=hBn
 refine YR func93 ntmps93 fun W F=>?_
 refine zq [3,4,1,2,5,3,4,0,0] ?_;refine zC (tr_getPageY k A ad kb _ hE0 n hi he) ?_;refine zq [0,7,7,1,1,2,5,3,20,3,4,0,0] ?_;refine Yo (ef_callr ((tr_is k A ad kb _ hE0 hw into 8).eq (r' := .bool true) (by rw[isK_some hj hej,decide_eq_true hk8])) rfl rfl) ?_;refine zq [39,0,21,54,26,1,2,5,17,3,4,0,9,6,8,1,2,5,17,11,19,5,3] ?_;refine AnyH.start ((kb,kerO A k.wi)::(A.ob,mapO encI (kvM ad k.mp) k.ck)::(G (pageO q false s0 a0))) 22 rfl ?_;refine zd [0,1,1,3,2,0,3,2,4,1] ?_;refine Yh 5 rfl (pv_lookup_i (r:=pV (ad j).ob) into rfl rfl ((kv_get k ad into).trans (by rw[hj];rfl))) ?_;refine zd [6,3,7,0,8,6,9,2,10,1,11,3,12,0,13,2,14,1] ?_;refine Yh 15 rfl (pv_lookup_i (r:=pV (ad i).ob) n rfl rfl ((kv_get k ad n).trans (by rw[hi];rfl))) ?_;refine zd [16,3,17,0,18,6,19,2,20,5,21,5] ?_;refine YD ?_;refine zq [5,3,4,1,2,5,3,3,4,0,9,6,8,66,2,5,18,4,0,9,6,8,0,0,0] ?_;refine zD (tr_sTableX k.ws A.mb A.wb hw.len.2 hw.wok en.sp.1 a sp.1 ha) ?_;rintro _ _ ⟨rfl,rfl⟩;refine Ops.app ?_;refine zq [1,2,5,3,3,4,0,22,2,5] ?_;refine Yd rfl (fun h1=>?_) (fun h1=>?_)
 ·
  refine zq [4,0,0,0,0,0,9,6,25,9,6,25,9,6,25,2,5,3,4,0,1,2,5,10] ?_;rw[if_pos (by assumption)];exact zr (L' := (kb,kerO A k.wi)::(A.ob,mapO encI (kvM ad k.mp) k.ck)::(A.mb,.cells [.slice (some ⟨A.wb,0,none⟩) k.ws.length k.ws.length].toArray 312)::(A.wb,.cells (wordsC (tableW k.ws en.sp.1 a sp.1)).toArray 50)::(Iq++(Lc++(Ls++(Lt++(G (pageO q true into a))))))) ⟨rfl,KH_ws (k:={ k with ar:=setA k.ar i (.page q true into a) }) hI hC hS hT (hEb q true into a) hT7⟩
 refine zq [11,5,3,4,0,1,2,5,10] ?_;rw[if_neg (by assumption)];exact zr (L' := (kb,kerO A k.wi)::(A.ob,mapO encI (kvM ad k.mp) k.ck)::(A.mb,.cells [.slice (some ⟨A.wb,0,none⟩) k.ws.length k.ws.length].toArray 312)::(A.wb,.cells (wordsC (tableW k.ws en.sp.1 a sp.1)).toArray 50)::(Iq++(Lc++(Ls++(Lt++(G (pageO q false s0 a0))))))) ⟨rfl,KH_ws hI hC hS hT hE0 hT7⟩
theorem tr_kMapFrame(hq:q≠7):Tr prog 93 [pV kb,.int .i64 n,.int .i64 into,.int .i64 a,.bool wr] (L) (fun u L' => u=.int .i64 (smapE k.ws en.sp.1 a sp.1 wr)∧KH (if (smapE k.ws en.sp.1 a sp.1 wr)=0 then { k with ws:=(smapW k.ws en.sp.1 a sp.1 wr),ar:=setA k.ar i (.page q true into a) } else { k with ws:=(smapW k.ws en.sp.1 a sp.1 wr) }) A ad kb L'):=by
 obtain ⟨Iq,Lc,Ls,Lt,E,hI,hC,hS,hT,hE,rfl⟩:=hK;have hE0:=hE
 have hBo:=hE.ob hej
 have hBn:=hE.ob he
 have hT7:=smap_len k.ws en.sp.1 a sp.1 wr
 obtain ⟨G,R,rfl,hU,hB,hP,hEb⟩:=hE.page he
 haveI:=hU;haveI:=hB;haveI:=hP;haveI:=hBo;haveI:=hBn
 refine YR func93 ntmps93 fun W F=>?_
 refine zq [3,4,1,2,5,3,4,0,0] ?_;refine zC (tr_getPageY k A ad kb _ hE0 n hi he) ?_;refine zq [0,7,7,1,1,2,5,3,20,3,4,0,0] ?_;refine Yo (ef_callr ((tr_is k A ad kb _ hE0 hw into 8).eq (r' := .bool true) (by rw[isK_some hj hej,decide_eq_true hk8])) rfl rfl) ?_;refine zq [39,0,21,54,26,1,2,5,17,3,4,0,9,6,8,1,2,5,17,11,19,5,3] ?_;refine AnyH.start ((kb,kerO A k.wi)::(A.ob,mapO encI (kvM ad k.mp) k.ck)::(G (pageO q false s0 a0))) 22 rfl ?_;refine zd [0,1,1,3,2,0,3,2,4,1] ?_;refine Yh 5 rfl (pv_lookup_i (r:=pV (ad j).ob) into rfl rfl ((kv_get k ad into).trans (by rw[hj];rfl))) ?_;refine zd [6,3,7,0,8,6,9,2,10,1,11,3,12,0,13,2,14,1] ?_;refine Yh 15 rfl (pv_lookup_i (r:=pV (ad i).ob) n rfl rfl ((kv_get k ad n).trans (by rw[hi];rfl))) ?_;refine zd [16,3,17,0,18,6,19,2,20,5,21,5] ?_;refine YD ?_;refine zq [5,3,4,1,2,5,3,3,4,0,9,6,8,65,2,5,17,4,0,9,6,8,0,0,0,0] ?_;refine zD (tr_sMapX k.ws A.mb A.wb hw.len.2 hw.wok en.sp.1 a sp.1 wr ha) ?_;rintro _ _ ⟨rfl,rfl⟩;refine Ops.app ?_;refine zq [1,2,5,3,3,4,0,22,2,5] ?_;refine Yd rfl (fun h1=>?_) (fun h1=>?_)
 ·
  refine zq [4,0,0,0,0,0,9,6,25,9,6,25,9,6,25,2,5,3,4,0,1,2,5,10] ?_;rw[if_pos (by assumption)];exact zr (L' := (kb,kerO A k.wi)::(A.ob,mapO encI (kvM ad k.mp) k.ck)::(A.mb,.cells [.slice (some ⟨A.wb,0,none⟩) k.ws.length k.ws.length].toArray 312)::(A.wb,.cells (wordsC (smapW k.ws en.sp.1 a sp.1 wr)).toArray 50)::(Iq++(Lc++(Ls++(Lt++(G (pageO q true into a))))))) ⟨rfl,KH_ws (k:={ k with ar:=setA k.ar i (.page q true into a) }) hI hC hS hT (hEb q true into a) hT7⟩
 refine zq [11,5,3,4,0,1,2,5,10] ?_;rw[if_neg (by assumption)];exact zr (L' := (kb,kerO A k.wi)::(A.ob,mapO encI (kvM ad k.mp) k.ck)::(A.mb,.cells [.slice (some ⟨A.wb,0,none⟩) k.ws.length k.ws.length].toArray 312)::(A.wb,.cells (wordsC (smapW k.ws en.sp.1 a sp.1 wr)).toArray 50)::(Iq++(Lc++(Ls++(Lt++(G (pageO q false s0 a0))))))) ⟨rfl,KH_ws hI hC hS hT hE0 hT7⟩
end
end
end Go.Proofs.YtmoeokkelkgnhaaGreat
