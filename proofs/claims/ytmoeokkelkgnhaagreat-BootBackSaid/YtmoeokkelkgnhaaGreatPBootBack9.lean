/- BootBack. Laid together by pack.py out of the texts in wip. -/
import Derived.Test.YtmoeokkelkgnhaaGreatPBootBack8
set_option linter.unusedVariables false
set_option linter.unusedSimpArgs false
set_option linter.unusedSectionVars false
set_option maxHeartbeats 64000000
namespace Go.Proofs.YtmoeokkelkgnhaaGreat
open Go.SL
open Go.Proofs.Tryz
section
theorem leV_leB:∀w v,leV (leB w v)=v%256^w
  | 0,v=>by simp[leB,leV,Nat.mod_one]
  | w+1,v=>by
    rw[leB,leV,leV_leB w,Nat.pow_succ,Nat.mul_comm (256^w) 256,Nat.mod_mul]
    congr 1
theorem leB_leV:∀l:List UInt8,leB l.length (leV l)=l
  | []=>rfl
  | b::l=>by
    have hb:=b.toNat_lt
    rw[Y4,leV,leB,show (b.toNat+256*leV l)/256=leV l by omega,leB_leV l]
    congr 1
    apply UInt8.toNat_inj.1;simp
theorem uI_of{x:Int}(h0:0≤x)(h1:x<18446744073709551616):uI x=x.toNat:=by unfold uI;rw[u64 h0 h1]
theorem enc_wid(f:Fld)(v:Int):(f.enc v).length=f.wid:=by cases f <;> exact leB_len ..
theorem rdF_enc{f:Fld}{v:Int}(hok:f.ok v)(hrg:f.rg v)(r:List UInt8):rdF f (f.enc v++r)=some (v,r):=by
 unfold rdF;have hl:=enc_wid f v
 rw[if_neg (by rw[Y3,hl];omega),←hl,List.take_left,List.drop_left];have hd:f.dec (leV (f.enc v))=some v:=by
  cases f <;> simp only[Fld.ok,Fld.rg,RgI]at hok hrg <;> simp only[Fld.enc,Fld.dec,leV_leB]
  case two=>rw[uI_of (by omega) (by omega),Nat.mod_eq_of_lt (by omega)];congr 1;omega
  case lab=>rw[uI_of (by omega) (by omega),Nat.mod_eq_of_lt (by omega),if_pos (by omega)];congr 1;omega
  case spc=>rw[uI_of (by omega) (by omega),Nat.mod_eq_of_lt (by omega)];congr 1;omega
  case w4=>rw[Nat.mod_eq_of_lt (by omega)];congr 1;omega
  case w8=>rw[Nat.mod_eq_of_lt (by omega)];congr 1;omega
  case flg=>rw[Nat.mod_eq_of_lt (by omega),if_pos (by omega)];congr 1;omega
 rw[hd];rfl
theorem enc_rdF{f:Fld}{s r:List UInt8}{v:Int}(h:rdF f s=some (v,r)):s=f.enc v++r∧f.ok v:=by
 unfold rdF at h
 split at h
 ·
  cases h
 ·
  rename_i hl
  have ht:(s.take f.wid).length=f.wid:=by rw[List.length_take];omega
  have hb:=leB_leV (s.take f.wid)
  rw[ht]at hb;have hlt:=leV_lt (s.take f.wid)
  rw[ht]at hlt;have key:f.enc v=s.take f.wid∧f.ok v∧r=s.drop f.wid:=by
   cases f <;> simp only[Fld.dec,Fld.wid,Fld.ok,Fld.enc]at h hb hlt ⊢
   case lab =>
    by_cases hc:leV (s.take 2)<8
    ·
     simp only[hc,if_true,Option.map_some,Option.some.injEq,Prod.mk.injEq]at h;obtain ⟨rfl,rfl⟩:=h;refine ⟨?_,by omega,rfl⟩;rw[uI_of (by omega) (by omega),Int.toNat_natCast];exact hb
    ·
     simp[hc]at h
   case flg =>
    by_cases hc:leV (s.take 1)<2
    ·
     simp only[hc,if_true,Option.map_some,Option.some.injEq,Prod.mk.injEq]at h;obtain ⟨rfl,rfl⟩:=h;refine ⟨?_,trivial,rfl⟩;rw[Int.toNat_natCast];exact hb
    ·
     simp[hc]at h
   case spc =>
    simp only[Option.map_some,Option.some.injEq,Prod.mk.injEq]at h;obtain ⟨rfl,rfl⟩:=h;refine ⟨?_,by omega,rfl⟩;rw[show ((leV (s.take 2):Nat):Int)-1+1=((leV (s.take 2):Nat):Int) by omega,uI_of (by omega) (by omega),Int.toNat_natCast];exact hb
   case two =>
    simp only[Option.map_some,Option.some.injEq,Prod.mk.injEq]at h;obtain ⟨rfl,rfl⟩:=h;refine ⟨?_,by omega,rfl⟩;rw[uI_of (by omega) (by omega),Int.toNat_natCast];exact hb
   all_goals
    simp only[Option.map_some,Option.some.injEq,Prod.mk.injEq]at h;obtain ⟨rfl,rfl⟩:=h;refine ⟨?_,by first | trivial | omega,rfl⟩;rw[Int.toNat_natCast];exact hb
  obtain ⟨k1,k2,rfl⟩:=key;exact ⟨by rw[k1,List.take_append_drop],k2⟩
theorem rdE_enc:∀{fs:List Fld} {e:List Int},e.length=fs.length→okE fs e→rgE fs e→∀r,rdE fs (encE fs e++r)=some (e,r)
  | [],[],_,_,_,r=>rfl
  | f::fs,x::e,hl,hok,hrg,r=>by
    unfold encE;rw[Y7];exact rdE_some (rdF_enc hok.1 hrg.1 _) (rdE_enc (by simpa using hl) hok.2 hrg.2 r)
theorem enc_rdE:∀{fs:List Fld} {s r:List UInt8} {e:List Int},rdE fs s=some (e,r)→s=encE fs e++r∧okE fs e
  | [],s,r,e,h=>by cases h;exact ⟨rfl,trivial⟩
  | f::fs,s,r,e,h=>by
    rw[rdE]at h
    split at h
    · cases h
    · rename_i v s1 h1
      split at h
      · cases h
      · rename_i e2 s3 h2
        cases h;obtain ⟨a1,a2⟩:=enc_rdF h1;obtain ⟨b1,b2⟩:=enc_rdE h2;exact ⟨by rw[a1,b1,encE,Y7],a2,b2⟩
theorem El.ext{fs:List Fld}{a b:El fs}(h:a.val=b.val):a=b:=by cases a;cases b;cases h;rfl
theorem mkEl_el{fs:List Fld}(e:El fs):mkEl fs e.val=e:=El.ext (mkEl_val ⟨e.len,e.rg⟩)
theorem encI_cons(fs:List Fld)(e:El fs)(l:List (El fs)):encI fs (e::l)=encE fs e.1++encI fs l:=by simp[encI]
theorem encI_app(fs:List Fld)(l m:List (El fs)):encI fs (l++m)=encI fs l++encI fs m:=by simp[encI]
theorem rdI_enc{fs:List Fld}{l:List (El fs)}(hok:∀e,e∈l→okE fs e.1)(r:List UInt8):∀i,i≤l.length→rdI fs i (encI fs l++r)=some (l.take i,encI fs (l.drop i)++r)
  | 0,_=>rfl
  | i+1,h=>by
    have h0:=rdI_enc hok r i (by omega)
    have hd:=List.drop_eq_getElem_cons (show i<l.length by omega)
    rw[hd,encI_cons,Y7]at h0;have he:l[i]∈l:=List.getElem_mem ..
    rw[rdI_some h0 (rdE_enc l[i].len (hok _ he) l[i].rg _),mkEl_el,List.take_add_one,Y8 (by omega)];rfl
theorem enc_rdI{fs:List Fld}:∀{n:Nat} {s r:List UInt8} {l:List (El fs)},rdI fs n s=some (l,r)→s=encI fs l++r∧∀e,e∈l→okE fs e.1
  | 0,s,r,l,h=>by cases h;exact ⟨rfl,fun e he=>(List.not_mem_nil he).elim⟩
  | n+1,s,r,l,h=>by
    rw[rdI]at h
    split at h
    · cases h
    · rename_i l1 r1 h1
      split at h
      · cases h
      · rename_i e r2 h2
        cases h;obtain ⟨a1,a2⟩:=enc_rdI h1;obtain ⟨b1,b2⟩:=enc_rdE h2;have hv:=rdE_el h2
        refine ⟨?_,fun x hx=>?_⟩
        · rw[a1,b1,encI_app,encI_cons,hv];simp[encI]
        · rcases List.mem_append.1 hx with hx | hx
          · exact a2 x hx
          · simp at hx;subst hx;rw[hv];exact b2
theorem rdL_enc{fs:List Fld}{m:Nat}{l:List (El fs)}(h:okL fs m l)(hm:m≤65535)(r:List UInt8):rdL fs m (encL fs l++r)=some (l,r):=by
 have hl:=h.1
 unfold rdL encL;have e2:(leB 2 l.length).length=2:=leB_len ..
 have et:((leB 2 l.length++encI fs l)++r).take 2=leB 2 l.length:=by
  rw[Y7];exact List.take_left' e2
 have ed:((leB 2 l.length++encI fs l)++r).drop 2=encI fs l++r:=by
  rw[Y7];exact List.drop_left' e2
 have ev:leV (leB 2 l.length)=l.length:=by rw[leV_leB,Nat.mod_eq_of_lt (by omega)]
 rw[et,ed,ev,if_neg (by simp only[Y3,e2];omega),if_neg (by omega),rdI_enc h.2 r l.length (Nat.le_refl _),List.take_length,List.drop_length];rfl
theorem enc_rdL{fs:List Fld}{m:Nat}{s r:List UInt8}{l:List (El fs)}(h:rdL fs m s=some (l,r)):s=encL fs l++r∧okL fs m l:=by
 unfold rdL at h
 split at h
 ·
  cases h
 ·
  rename_i h1
  split at h
  ·
   cases h
  ·
   rename_i h2
   obtain ⟨a1,a2⟩:=enc_rdI h;have hn:=(rdI_len h).1
   have ht:(s.take 2).length=2:=by rw[List.length_take];omega
   have hb:=leB_leV (s.take 2)
   rw[ht,←hn]at hb;refine ⟨?_,by omega,a2⟩;unfold encL;rw[hb,Y7,←a1,List.take_append_drop]
theorem rdD_enc{D:Dd}(h:okD D):rdD (encD D)=some (D,[]):=by
 obtain ⟨h1,h2,h3,h4,h5,h6,h7⟩:=h;have e7:=rdL_enc h7 (by decide) []
 rw[List.append_nil]at e7;unfold rdD encD;simp only[Y7];rw[rdL_enc h1 (by decide)];dsimp only
 rw[rdL_enc h2 (by decide)];dsimp only
 rw[rdL_enc h3 (by decide)];dsimp only
 rw[rdL_enc h4 (by decide)];dsimp only
 rw[rdL_enc h5 (by decide)];dsimp only
 rw[rdL_enc h6 (by decide)];dsimp only
 rw[e7]
theorem enc_rdD{D:Dd}{s:List UInt8}(h:rdD s=some (D,[])):s=encD D∧okD D:=by
 unfold rdD at h
 split at h
 ·
  cases h
 rename_i o s1 h1
 split at h
 ·
  cases h
 rename_i p s2 h2
 split at h
 ·
  cases h
 rename_i m s3 h3
 split at h
 ·
  cases h
 rename_i f s4 h4
 split at h
 ·
  cases h
 rename_i t s5 h5
 split at h
 ·
  cases h
 rename_i w s6 h6
 split at h
 ·
  cases h
 rename_i u s7 h7
 cases h;obtain ⟨a1,b1⟩:=enc_rdL h1;obtain ⟨a2,b2⟩:=enc_rdL h2;obtain ⟨a3,b3⟩:=enc_rdL h3;obtain ⟨a4,b4⟩:=enc_rdL h4;obtain ⟨a5,b5⟩:=enc_rdL h5;obtain ⟨a6,b6⟩:=enc_rdL h6;obtain ⟨a7,b7⟩:=enc_rdL h7;refine ⟨?_,b1,b2,b3,b4,b5,b6,b7⟩;unfold encD;rw[a1,a2,a3,a4,a5,a6,a7];simp only[Y7,List.append_nil]
end
section
def smallD:Dd where
  o:=[⟨[3,0,0],rfl,by simp[rgE,fsO,Fld.rg,RgI]⟩,⟨[2,2,0],rfl,by simp[rgE,fsO,Fld.rg,RgI]⟩,⟨[8,0,0],rfl,by simp[rgE,fsO,Fld.rg,RgI]⟩,⟨[7,0,0],rfl,by simp[rgE,fsO,Fld.rg,RgI]⟩,⟨[6,0,0],rfl,by simp[rgE,fsO,Fld.rg,RgI]⟩]
  p:=[⟨[1,0,6,4,1,0,0,0],rfl,by simp[rgE,fsP,Fld.rg,RgI]⟩]
  m:=[⟨[4,2,0,0],rfl,by simp[rgE,fsM,Fld.rg,RgI]⟩,⟨[3,2,0,0],rfl,by simp[rgE,fsM,Fld.rg,RgI]⟩]
  f:=[⟨[4,0,14352],rfl,by simp[rgE,fsF,Fld.rg,RgI]⟩,⟨[4,1,13],rfl,by simp[rgE,fsF,Fld.rg,RgI]⟩]
  t:=[⟨[0,2,0,0,1,0,14,2],rfl,by simp[rgE,fsT,Fld.rg,RgI]⟩]
  w:=[]
  s:=[⟨[0,1],rfl,by simp[rgE,fsS,Fld.rg,RgI]⟩]
theorem small_sm:DSmall smallD:=⟨by decide,by decide,by decide,by decide,by decide,by decide,by decide⟩
theorem small_ok:okD smallD:=by
 refine ⟨⟨by decide,?_⟩,⟨by decide,?_⟩,⟨by decide,?_⟩,⟨by decide,?_⟩,⟨by decide,?_⟩,⟨by decide,?_⟩,⟨by decide,?_⟩⟩
 all_goals
  unfold smallD;dsimp only;intro e he;simp only[List.mem_cons,List.not_mem_nil,or_false]at he
 ·
  rcases he with rfl | rfl | rfl | rfl | rfl <;> simp[okE,fsO,Fld.ok]
 ·
  rcases he with rfl;simp[okE,fsP,Fld.ok]
 ·
  rcases he with rfl | rfl <;> simp[okE,fsM,Fld.ok]
 ·
  rcases he with rfl | rfl <;> simp[okE,fsF,Fld.ok]
 ·
  rcases he with rfl;simp[okE,fsT,Fld.ok]
 ·
  rcases he with rfl;simp[okE,fsS,Fld.ok]
theorem small_p:planE smallD 100=0:=by decide +kernel
theorem small_T:tmsOk (timesD smallD):=by decide +kernel
theorem small_l:(planL smallD)[1]?=some (64,3):=by decide +kernel
theorem small_e:(bootM smallD 100).1=0:=by decide +kernel
theorem small_f:bootM smallD 64=(7,Kn.new 0 []):=bootM_plan (by decide +kernel)
theorem small_a:apartD smallD=true:=by decide +kernel
def smallK:Nat→Kn
  | 0=>(bootM smallD 100).2
  | i+1=>((smallK i).step yieldF).1
theorem small_st:stB (smallK 0)=true∧stB (smallK 1)=true∧stB (smallK 2)=true∧stB (smallK 3)=true∧stB (smallK 4)=true:=by decide +kernel
theorem small_go:((smallK 0).step yieldF).2=true∧((smallK 1).step yieldF).2=true∧((smallK 2).step yieldF).2=true∧((smallK 3).step yieldF).2=true∧((smallK 4).step yieldF).2=true:=by decide +kernel
theorem small_tl:(smallK 0).tl.length≤6∧(smallK 1).tl.length≤6∧(smallK 2).tl.length≤6∧(smallK 3).tl.length≤6∧(smallK 4).tl.length≤6:=by decide +kernel
theorem small_pc:(thrT (smallK 5) 0).pc=1:=by decide +kernel
theorem small_sr:(thrT (smallK 5) 0).st=1:=by decide +kernel
theorem small_is:((smallK 5).thr 0).isSome=true:=by decide +kernel
theorem small_ln:((planL smallD).length:Int)=5:=by rw[planL_len];rfl
theorem small_pol:policyD smallD=[9,0,0,0,0,0,0,0,0,0,0,0,0,0,0,0,0,0,0,0,0,0,0,0,0,0,0,0,0,0,0,0,0,0,0,0,0,0,0,0,0,0,0,0,0,0,0,0,0,0,0,0,0,0,0,0,0,0,0,0,0,0,0,0]:=by decide +kernel
theorem smallK_s(i:Nat):smallK (i+1)=((smallK i).step yieldF).1:=by rw[smallK]
theorem smallK_z:smallK 0=(bootM smallD 100).2:=by rw[smallK]
attribute [local irreducible] bootM Kn.step smallK
theorem small_kw:∀i,i≤5→KW (smallK i)
  | 0,_=>by
    have h0:KW (bootM smallD 100).2:=by
      rw[bootM_ok small_p small_T];exact (acts_kx small_sm (n:=(100:Int).toNat) (by decide) (by decide) small_T (b:=[]) (List.append_nil _).symm).kw
    rw[smallK_z];exact h0
  | i+1,h=>by
    have ih:=small_kw i (by omega)
    have hs:StY (smallK i):=by
      rcases (by omega:i=0∨i=1∨i=2∨i=3∨i=4) with rfl | rfl | rfl | rfl | rfl
      · exact StY.of ih small_tl.1 small_st.1
      · exact StY.of ih small_tl.2.1 small_st.2.1
      · exact StY.of ih small_tl.2.2.1 small_st.2.2.1
      · exact StY.of ih small_tl.2.2.2.1 small_st.2.2.2.1
      · exact StY.of ih small_tl.2.2.2.2 small_st.2.2.2.2
    rw[smallK_s];exact (step_kw hs).1
theorem small_sy{i:Nat}(h:i<5):StY (smallK i)∧((smallK i).step yieldF).2=true:=by
 have ih:=small_kw i (by omega)
 rcases (by omega:i=0∨i=1∨i=2∨i=3∨i=4) with rfl | rfl | rfl | rfl | rfl
 ·
  exact ⟨StY.of ih small_tl.1 small_st.1,small_go.1⟩
 ·
  exact ⟨StY.of ih small_tl.2.1 small_st.2.1,small_go.2.1⟩
 ·
  exact ⟨StY.of ih small_tl.2.2.1 small_st.2.2.1,small_go.2.2.1⟩
 ·
  exact ⟨StY.of ih small_tl.2.2.2.1 small_st.2.2.2.1,small_go.2.2.2.1⟩
 ·
  exact ⟨StY.of ih small_tl.2.2.2.2 small_st.2.2.2.2,small_go.2.2.2.2⟩
theorem decP_enc{D D' : Dd}{e:Int}(h:okD D)(hd:DecP ([67,68]++encD D) D' e):D' = D∧e=0:=by
 have h0:([67,68]++encD D).drop 2=encD D:=rfl
 have hr:=rdD_enc h
 rcases hd with ⟨_,h2,h3⟩ | ⟨h1,_,_⟩
 ·
  rw[h0,hr]at h2;cases h2;exact ⟨rfl,h3⟩
 ·
  exact absurd ⟨rfl,by rw[h0];exact ⟨D,hr⟩⟩ h1
theorem decP_none{D' : Dd}{e:Int}(hd:DecP [67,68] D' e):e=10:=by
 rcases hd with ⟨_,h2,_⟩ | ⟨_,_,h⟩
 ·
  have:=(enc_rdD h2).1
  exfalso
  have hl:=congrArg List.length this
  unfold encD at hl;simp only[Y3,encL_len]at hl;simp at hl;omega
 ·
  exact h
end
section
theorem tr_kRunZ(k:Kn)(A:KA)(ad:Nat→Ad)(kb:Nat)(L:Hp)(hK:KH k A ad kb L)(hw:KW k){i:Nat}{t:ThrM}{c:CapM}{s b:Int}{sp:Int×Int}(he:k.ar[i]?=some ⟨.thr t c s b,sp⟩)(hs:s = -1∨∃j,k.ix s=some j)(n:Int)(hr:k.tl.length≤6)(hb:¬badI k t s)(h03:(effI k t s).asks=0∨(effI k t s).asks=3)(h3:(effI k t s).asks=3→(effI k t s).val=7) :
    Tr prog 60 [pV kb,.int .i64 n,pV (ad i).tb] L (fun u L' => u=.bool true∧KH (k.run (fun k' c=>yieldF k' n i c) i t s).1 A ad kb L')∧(k.run (fun k' c=>yieldF k' n i c) i t s).2=true:=by
  have htw:=(hw.ths i _ he).1
  have he1:(k.atK s t.pc).ar[i]?=some ⟨.thr t c s b,sp⟩:=he
  have hw1:=hw.atK s t.pc (by omega)
  generalize hx:effI k t s=x at *
  have h4:x.asks≠4:=by omega
  have h1:x.asks≠1:=by omega
  have h2:x.asks≠2:=by omega
  by_cases h5:x.asks=3
  · have e:k.run (fun k' c=>yieldF k' n i c) i t s=(({ (k.atK s t.pc).setI i (doneT x) with L:=syL ((k.atK s t.pc).setI i (doneT x)).L n }:Kn).tell i 0,true):=by
      unfold Kn.run;simp only[if_neg hb,hx,if_neg h4,if_neg h1,if_neg h2,if_pos h5,yieldF,h3 h5,if_true,Bool.false_eq_true,if_false]
    rw[e];refine ⟨?_,rfl⟩;have hxo:x.Ok:=by rw[←hx];exact run_ok (unpI_ok (Decidable.of_not_not (fun h=>hb (.inr h)))) htw.wf.regs htw.pc
    refine tr_kRunCall k A ad kb L hK hw he hs n hr hb x hx h5 _ (fun L2 hK2=>?_);rw[h3 h5];exact tr_cYield _ A ad kb L2 hK2 (hw1.setI i (fun t ht=>done_w ht hxo)).1 n (setI_get he1 (doneT x))
  · have e:k.run (fun k' c=>yieldF k' n i c) i t s=((k.atK s t.pc).setI i (doneT x),true):=by unfold Kn.run;simp only[if_neg hb,hx,if_neg h4,if_neg h1,if_neg h2,if_neg h5]
    rw[e];exact ⟨tr_kRunPlain k A ad kb L hK hw he hs n hr hb x hx ⟨h4,h1,h2,h5⟩,rfl⟩
def stZ (k:Kn):Bool:=k.curB && match k.thr k.cur with
  | none=>false
  | some x=>!decide (badI k x.1 x.2.2.1) && (decide ((effI k x.1 x.2.2.1).asks=0) || decide ((effI k x.1 x.2.2.1).asks=3))
theorem small_z:stZ (smallK 0)=true∧stZ (smallK 1)=true∧stZ (smallK 2)=true∧stZ (smallK 3)=true∧stZ (smallK 4)=true:=by decide +kernel
theorem small_zi{i:Nat}(h:i<5):stZ (smallK i)=true:=by
 rcases (by omega:i=0∨i=1∨i=2∨i=3∨i=4) with rfl | rfl | rfl | rfl | rfl
 ·
  exact small_z.1
 ·
  exact small_z.2.1
 ·
  exact small_z.2.2.1
 ·
  exact small_z.2.2.2.1
 ·
  exact small_z.2.2.2.2
theorem tr_kStepZ{k:Kn}(A:KA)(ad:Nat→Ad)(kb:Nat)(L:Hp)(hK:KH k A ad kb L)(h:StY k)(hz:stZ k=true):Tr prog 25 [pV kb] L (fun u L' => u=.bool true∧KH (k.step yieldF).1 A ad kb L'):=by
 unfold stZ at hz;rw[Bool.and_eq_true]at hz;obtain ⟨hB,hz⟩:=hz;obtain ⟨x,hx⟩:=Option.isSome_iff_exists.1 (h.cur hB);rw[hx]at hz;simp only[Bool.and_eq_true,Bool.or_eq_true,decide_eq_true_eq,Bool.not_eq_true', decide_eq_false_iff_not]at hz;obtain ⟨i,sp,hi,he⟩:=thr_ex hx;have hs:x.2.2.1 = -1∨∃j,k.ix x.2.2.1=some j:=(h.sp x hx).imp id (fun q=>Option.isSome_iff_exists.1 q)
 have hrun:∀L2,KH k A ad kb L2→_:=fun L2 hK2=>tr_kRunZ k A ad kb L2 hK2 h.kw he hs k.cur h.tl hz.1 hz.2 (h.c3 x hx hz.1)
 rw[step_yes hB hi hx,if_pos (hrun L hK).2];exact tr_kStepT k A ad kb L hK h.kw hB hi he _ (fun L2 hK2=>(hrun L2 hK2).1)
end
section
theorem small_da(c1 c2 c3 c4 c5 c6:Nat):DA [(c1,.cells (cel (cE fsO) smallD.o).toArray 78),(c2,.cells (cel (cE fsP) smallD.p).toArray 91),(c3,.cells (cel (cE fsM) smallD.m).toArray 79),(c4,.cells (cel (cE fsF) smallD.f).toArray 118),(c5,.cells (cel (cE fsT) smallD.t).toArray 86),(c6,.cells (cel (cE fsS) smallD.s).toArray 124)] smallD (.slice (some ⟨c1,0,none⟩) 5 5) (.slice (some ⟨c2,0,none⟩) 1 1) (.slice (some ⟨c3,0,none⟩) 2 2) (.slice (some ⟨c4,0,none⟩) 2 2) (.slice (some ⟨c5,0,none⟩) 1 1) (.slice none 0 0) (.slice (some ⟨c6,0,none⟩) 1 1) :=
  ⟨(slc_as (f:=cE fsO) (l:=smallD.o) (slc_whole (T:=78) (b:=c1) (n:=5) (cs:=cel (cE fsO) smallD.o) rfl) (by decide)).mono (by intro p hp;rw[List.mem_singleton]at hp;rw[hp];simp),(slc_as (f:=cE fsP) (l:=smallD.p) (slc_whole (T:=91) (b:=c2) (n:=1) (cs:=cel (cE fsP) smallD.p) rfl) (by decide)).mono (by intro p hp;rw[List.mem_singleton]at hp;rw[hp];simp),(slc_as (f:=cE fsM) (l:=smallD.m) (slc_whole (T:=79) (b:=c3) (n:=2) (cs:=cel (cE fsM) smallD.m) rfl) (by decide)).mono (by intro p hp;rw[List.mem_singleton]at hp;rw[hp];simp),(slc_as (f:=cE fsF) (l:=smallD.f) (slc_whole (T:=118) (b:=c4) (n:=2) (cs:=cel (cE fsF) smallD.f) rfl) (by decide)).mono (by intro p hp;rw[List.mem_singleton]at hp;rw[hp];simp),(slc_as (f:=cE fsT) (l:=smallD.t) (slc_whole (T:=86) (b:=c5) (n:=1) (cs:=cel (cE fsT) smallD.t) rfl) (by decide)).mono (by intro p hp;rw[List.mem_singleton]at hp;rw[hp];simp),⟨none,0,rfl,fun i x h=>by simp[smallD]at h⟩,(slc_as (f:=cE fsS) (l:=smallD.s) (slc_whole (T:=124) (b:=c6) (n:=1) (cs:=cel (cE fsS) smallD.s) rfl) (by decide)).mono (by intro p hp;rw[List.mem_singleton]at hp;rw[hp];simp)⟩
theorem tr_small  : Tr prog 24 [] ([]) (fun u L' => ∃c1 c2 c3 c4 c5 c6:Nat,u=.agg #[.slice (some ⟨c1,0,none⟩) 5 5,.slice (some ⟨c2,0,none⟩) 1 1,.slice (some ⟨c3,0,none⟩) 2 2,.slice (some ⟨c4,0,none⟩) 2 2,.slice (some ⟨c5,0,none⟩) 1 1,.slice none 0 0,.slice (some ⟨c6,0,none⟩) 1 1]∧L' = [(c1,.cells (cel (cE fsO) smallD.o).toArray 78),(c2,.cells (cel (cE fsP) smallD.p).toArray 91),(c3,.cells (cel (cE fsM) smallD.m).toArray 79),(c4,.cells (cel (cE fsF) smallD.f).toArray 118),(c5,.cells (cel (cE fsT) smallD.t).toArray 86),(c6,.cells (cel (cE fsS) smallD.s).toArray 124)]):=by
 refine YR func24 ntmps24 fun W F=>?_
 refine Wr ?_;refine zA fun b1=>?_
 refine zq [2,5,3,4,23,23,23,23,23] ?_;refine Yq (ef_buildSliceN [.int .i64 0,.int .i64 0,.int .i64 0,.int .i64 0,.int .i64 0,.int .i64 0,.int .i64 0,.int .i64 0,.int .i64 0,.int .i64 0,.int .i64 0,.int .i64 0,.int .i64 0,.int .i64 0,.int .i64 0] [(0,3),(3,3),(6,3),(9,3),(12,3)] rfl (by kernel_rfl) (by first | decide | rfl) rfl rfl rfl) fun b2=>?_
 refine zq [23,23,23] ?_;refine Yq (ef_buildSlice1 (k:=8) rfl rfl rfl rfl rfl) fun b3=>?_
 refine zq [23,23] ?_;refine Yq (ef_buildSliceN [.int .i64 0,.int .i64 0,.int .i64 0,.bool false,.int .i64 0,.int .i64 0,.int .i64 0,.bool false] [(0,4),(4,4)] rfl (by kernel_rfl) (by first | decide | rfl) rfl rfl rfl) fun b4=>?_
 refine zC (tr_lCode 16 0 0 7 (by decide) (by decide) (by decide) (by decide)) ?_;refine zq [23] ?_;refine zC (tr_lCode 13 0 0 0 (by decide) (by decide) (by decide) (by decide)) ?_;refine zq [23] ?_;refine Yq (ef_buildSliceN [.int .i64 0,.int .i64 0,.int .u64 0,.int .i64 0,.int .i64 0,.int .u64 0] [(0,3),(3,3)] rfl (by kernel_rfl) (by first | decide | rfl) rfl rfl rfl) fun b5=>?_
 refine zq [23] ?_;refine Yq (ef_buildSlice1 (k:=8) rfl rfl rfl rfl rfl) fun b6=>?_
 refine zq [23] ?_;refine Yq (ef_buildSlice1 (k:=2) rfl rfl rfl rfl rfl) fun b7=>?_
 refine zq [23,14,2,5,10] ?_;exact Ends.ret (L' := [(b2,.cells ([.int .i64 3,.int .i64 0,.int .i64 0,.int .i64 2,.int .i64 2,.int .i64 0,.int .i64 8,.int .i64 0,.int .i64 0,.int .i64 7,.int .i64 0,.int .i64 0,.int .i64 6,.int .i64 0,.int .i64 0]:List Value).toArray 78),(b3,.cells ([.int .i64 1,.int .i64 0,.int .i64 6,.int .i64 4,.int .i64 1,.int .u64 0,.int .u64 0,.int .i64 0]:List Value).toArray 91),(b4,.cells ([.int .i64 4,.int .i64 2,.int .i64 0,.bool false,.int .i64 3,.int .i64 2,.int .i64 0,.bool false]:List Value).toArray 79),(b5,.cells ([.int .i64 4,.int .i64 0,.int .u64 (codeN 16 0 0 7:Nat),.int .i64 4,.int .i64 1,.int .u64 (codeN 13 0 0 0:Nat)]:List Value).toArray 118),(b6,.cells ([.int .i64 0,.int .i64 2,.int .i64 0,.int .i64 0,.int .i64 1,.int .u64 0,.int .i64 14,.int .i64 2]:List Value).toArray 86),(b7,.cells ([.int .i64 0,.int .i64 1]:List Value).toArray 124)]) (res_one rfl (rv_cellK [_,_,_,_,_,_,_] rfl rfl rfl ⟨rfl,rfl,rfl,rfl,rfl,rfl,rfl,trivial⟩)) ⟨b2,b3,b4,b5,b6,b7,rfl,rfl⟩
section
variable (G : Hp) (D : Dd) (v1 v2 v3 v4 v5 v6 v7 : Value) (hd : DV G D v1 v2 v3 v4 v5 v6 v7) (hsm : DSmall D) (n : Nat)
include hd hsm
theorem tr_bootOk(h:(bootM D n).1=0):Tr prog 15 [.agg #[v1,v2,v3,v4,v5,v6,v7],.int .i64 n] G (fun u L' => ∃kb A ad L1,u=.tuple #[pV kb,.int .i64 0]∧KH (bootM D n).2 A ad kb L1∧L' = L1++G) :=
  (tr_boot G D v1 v2 v3 v4 v5 v6 v7 hd hsm n).mono (by
    rintro v L' (⟨h0,_⟩ | ⟨_,h1⟩)
    · exact absurd h h0
    · exact h1)
theorem tr_bootNo(h:(bootM D n).1≠0):TrR prog 15 [.agg #[v1,v2,v3,v4,v5,v6,v7],.int .i64 n] G (.tuple #[.pointer none,.int .i64 (bootM D n).1]) :=
  (tr_boot G D v1 v2 v3 v4 v5 v6 v7 hd hsm n).mono (by
    rintro v L' (⟨_,h1⟩ | ⟨h0,_⟩)
    · exact h1
    · exact absurd h0 h)
end
section
attribute [local irreducible] bootM planL Kn.step smallK policyD apartD encD
theorem tr_works  : Tr prog 8 [] ([]) (fun u L' => u=.bool true∧L' = []):=by
 have hln:=small_ln
 have hpc:=small_pc
 have hst:=small_sr
 refine YR func8 ntmps8 fun W F=>?_
 refine zq [3,4,1,2,5,3,4] ?_;refine zD tr_small ?_;rintro _ _ ⟨c1,c2,c3,c4,c5,c6,rfl,rfl⟩;refine Ops.app ?_;refine zD (tr_to [(c1,.cells (cel (cE fsO) smallD.o).toArray 78),(c2,.cells (cel (cE fsP) smallD.p).toArray 91),(c3,.cells (cel (cE fsM) smallD.m).toArray 79),(c4,.cells (cel (cE fsF) smallD.f).toArray 118),(c5,.cells (cel (cE fsT) smallD.t).toArray 86),(c6,.cells (cel (cE fsS) smallD.s).toArray 124)] smallD (.slice (some ⟨c1,0,none⟩) 5 5) (.slice (some ⟨c2,0,none⟩) 1 1) (.slice (some ⟨c3,0,none⟩) 2 2) (.slice (some ⟨c4,0,none⟩) 2 2) (.slice (some ⟨c5,0,none⟩) 1 1) (.slice none 0 0) (.slice (some ⟨c6,0,none⟩) 1 1) (small_da c1 c2 c3 c4 c5 c6) (by decide) (by decide) (by decide) (by decide) (by decide) (by decide) (by decide)) ?_;rintro _ _ ⟨w1,w2,w3,w4,w5,w6,w7,K1,K2,K3,K4,K5,K6,K7,hs,rfl,rfl⟩;refine Ops.app ?_;refine Ops.heap (L' := K1++(K2++(K3++(K4++(K5++(K6++(K7++(F)))))))) (fun w ho=>Drop.own ho) ?_;obtain ⟨p1,q1,rfl⟩:=hs.o.form;obtain ⟨p2,q2,rfl⟩:=hs.p.form;obtain ⟨p3,q3,rfl⟩:=hs.m.form;obtain ⟨p4,q4,rfl⟩:=hs.f.form;obtain ⟨p5,q5,rfl⟩:=hs.t.form;obtain ⟨p6,q6,rfl⟩:=hs.w.form;obtain ⟨p7,q7,rfl⟩:=hs.s.form;refine zA fun b1=>?_
 refine zq [14,2,5,3,4,36] ?_;refine zD (tr_planY (K1++(K2++(K3++(K4++(K5++(K6++(K7))))))) smallD p1 q1 (.slice p2 smallD.p.length q2) (.slice p3 smallD.m.length q3) (.slice p4 smallD.f.length q4) (.slice p5 smallD.t.length q5) (.slice p6 smallD.w.length q6) (.slice p7 smallD.s.length q7) ((Slc.view hs.o).mono (by simp +contextual)) (by decide) 100 small_p) ?_;rintro _ _ ⟨sb,sp,sq,cpl,rfl,rfl⟩;refine Ops.app ?_;refine zq [0,7,7,1,1,2,5,3,4,36] ?_;refine zD (tr_bootOk (K1++(K2++(K3++(K4++(K5++(K6++(K7))))))) smallD (.slice p1 smallD.o.length q1) (.slice p2 smallD.p.length q2) (.slice p3 smallD.m.length q3) (.slice p4 smallD.f.length q4) (.slice p5 smallD.t.length q5) (.slice p6 smallD.w.length q6) (.slice p7 smallD.s.length q7) (DS.dv hs) small_sm 100 small_e) ?_;rintro _ _ ⟨kb1,A1,ad1,J1,rfl,hk1,rfl⟩;refine Ops.app ?_;refine zq [0,7,7,1,1,2,5,3,4,36] ?_;refine zD (tr_encode smallD (.slice p1 smallD.o.length q1) (.slice p2 smallD.p.length q2) (.slice p3 smallD.m.length q3) (.slice p4 smallD.f.length q4) (.slice p5 smallD.t.length q5) (.slice p6 smallD.w.length q6) (.slice p7 smallD.s.length q7) K1 K2 K3 K4 K5 K6 K7 hs (by decide) (by decide) (by decide) (by decide) (by decide) (by decide) (by decide)) ?_;rintro _ _ ⟨rfl,rfl⟩;refine Ops.app ?_;rw[show encV smallD=([67,68]++encD smallD,0) from if_pos small_ok];refine zq [0,7,7,1,1,2,5,3,4,0] ?_;refine zD (tr_decY ([67,68]++encD smallD) (by have:=encD_le small_ok;simp only[Y3,Y4,Y5];omega) rfl) ?_;rintro _ _ ⟨D2,e2,u1,u2,u3,u4,u5,u6,u7,M1,M2,M3,M4,M5,M6,M7,hdp,hs2,rfl,rfl⟩;refine Ops.app ?_;obtain ⟨rfl,rfl⟩:=decP_enc small_ok hdp;obtain ⟨s1,t1,rfl⟩:=hs2.o.form;obtain ⟨s2,t2,rfl⟩:=hs2.p.form;obtain ⟨s3,t3,rfl⟩:=hs2.m.form;obtain ⟨s4,t4,rfl⟩:=hs2.f.form;obtain ⟨s5,t5,rfl⟩:=hs2.t.form;obtain ⟨s6,t6,rfl⟩:=hs2.w.form;obtain ⟨s7,t7,rfl⟩:=hs2.s.form;refine zq [0,7,7] ?_;refine zA fun b2=>?_
 refine zq [14,1,2,5,3,3,4,0,67,0,21,71,26,0,21] ?_;refine Yg (pv_eql_nil rfl rfl) ?_;refine zq [26,0,21,71,26,0,21,71,26,0] ?_;refine Yg (pv_loadK [_,_,_,_,_,_,_] rfl rfl rfl ⟨rfl,rfl,rfl,rfl,rfl,rfl,rfl,trivial⟩) ?_;refine Yg (pv_loadK [_,_,_,_,_,_,_] rfl rfl rfl ⟨rfl,rfl,rfl,rfl,rfl,rfl,rfl,trivial⟩) ?_;refine Yog (ef_callr ((tr_same smallD smallD (.slice s1 smallD.o.length t1) (.slice s2 smallD.p.length t2) (.slice s3 smallD.m.length t3) (.slice s4 smallD.f.length t4) (.slice s5 smallD.t.length t5) (.slice s6 smallD.w.length t6) (.slice s7 smallD.s.length t7) M1 M2 M3 M4 M5 M6 M7 hs2 (.slice p1 smallD.o.length q1) (.slice p2 smallD.p.length q2) (.slice p3 smallD.m.length q3) (.slice p4 smallD.f.length q4) (.slice p5 smallD.t.length q5) (.slice p6 smallD.w.length q6) (.slice p7 smallD.s.length q7) K1 K2 K3 K4 K5 K6 K7 hs (by decide) (by decide) (by decide) (by decide) (by decide) (by decide) (by decide)).eq (r' := .bool true) (by simp)) rfl rfl) ?_;refine zq [54,26,2,5,17,11,5,3,3,4] ?_;refine Ops.heap (L' := K1++(K2++(K3++(K4++(K5++(K6++(K7++(J1++((sb,.cells (sp++cel oneC (planL smallD)++sq).toArray 55)::(b1,.cells [.slice p1 smallD.o.length q1,.slice p2 smallD.p.length q2,.slice p3 smallD.m.length q3,.slice p4 smallD.f.length q4,.slice p5 smallD.t.length q5,.slice p6 smallD.w.length q6,.slice p7 smallD.s.length q7].toArray 44)::F))))))))) (fun w ho=>(((((((ho.sublist (List.sublist_cons_self ..)).app_right).app_right).app_right).app_right).app_right).app_right).app_right) ?_;refine zq [1,2,5,20] ?_;refine Wp.loopK (σ:=Nat×Hp) [(1,_),(2,_),(4,_)] (fun s=>[(10,.int .i64 s.1)]) (fun s=>K1++(K2++(K3++(K4++(K5++(K6++(K7++(s.2++((sb,.cells (sp++cel oneC (planL smallD)++sq).toArray 55)::(b1,.cells [.slice p1 smallD.o.length q1,.slice p2 smallD.p.length q2,.slice p3 smallD.m.length q3,.slice p4 smallD.f.length q4,.slice p5 smallD.t.length q5,.slice p6 smallD.w.length q6,.slice p7 smallD.s.length q7].toArray 44)::F))))))))) (fun s=>s.1≤5∧KH (smallK s.1) A1 ad1 kb1 s.2) (fun s=>5-s.1) (0,J1) ⟨Nat.zero_le _,by dsimp only;rw[smallK_z];exact hk1⟩ ⟨rfl,rfl,rfl,trivial⟩ ⟨rfl,trivial⟩ (by intro w ho;(try dsimp only[Y2,Y1]);exact Drop.own ho) ?_;rintro ⟨i,J⟩ KK ⟨hi,hI⟩ hK;dsimp only[Y1,Y2]at hK ⊢;dsimp only at hi hI ⊢;refine zq [3,3,4,0,42,2,5] ?_;refine Yd rfl (fun h1=>?_) (fun h1=>?_)
 ·
  refine zq [11,5,3,20,3,4,0] ?_;refine Ops.ef rfl (ef_call (tr_kStepZ A1 ad1 kb1 _ hI (small_sy (i:=i) (by omega)).1 (small_zi (by omega))) rfl rfl) ?_;rintro _ _ ⟨_,J1,⟨rfl,hk1⟩,rfl,rfl⟩;refine Ops.app ?_;refine zq [39,2,5,17,11,19,5,4,0] ?_;refine Ya rfl rfl (i+1) ?_;refine zq [1,2,49] ?_;refine Yy (hK (i+1,J1) ⟨by dsimp only;omega,by dsimp only;rw[smallK_s];exact hk1⟩ (by dsimp only;omega))
 obtain rfl:i=5:=by omega
 refine zq [41,16,16,40,5,3,4,0] ?_;refine Yo (ef_callr (tr_kThread _ _ _ _ _ hI (small_kw 5 (by decide)) 0) rfl rfl) ?_;refine zq [0,7,7] ?_;refine zA fun b3=>?_
 refine zq [14,1,2,5,3,4,36] ?_;refine Yo (ef_callr ((tr_bootNo (K1++(K2++(K3++(K4++(K5++(K6++(K7))))))) smallD (.slice p1 smallD.o.length q1) (.slice p2 smallD.p.length q2) (.slice p3 smallD.m.length q3) (.slice p4 smallD.f.length q4) (.slice p5 smallD.t.length q5) (.slice p6 smallD.w.length q6) (.slice p7 smallD.s.length q7) (DS.dv hs) small_sm 64 (by rw[show bootM smallD ((64:Nat):Int)=_ from small_f];decide)).eq (r' := .tuple #[.pointer none,.int .i64 7]) (by rw[show bootM smallD ((64:Nat):Int)=_ from small_f])) rfl rfl) ?_;refine zq [0,7,7,1,1,2,5,3,4] ?_;refine zD (tr_decY [67,68] (by decide) rfl) ?_;rintro _ _ ⟨D3,e3,x1,x2,x3,x4,x5,x6,x7,N1,N2,N3,N4,N5,N6,N7,hdp3,hs3,rfl,rfl⟩;refine Ops.app ?_;obtain rfl:=decP_none hdp3;obtain ⟨y1,z1,rfl⟩:=hs3.o.form;obtain ⟨y2,z2,rfl⟩:=hs3.p.form;obtain ⟨y3,z3,rfl⟩:=hs3.m.form;obtain ⟨y4,z4,rfl⟩:=hs3.f.form;obtain ⟨y5,z5,rfl⟩:=hs3.t.form;obtain ⟨y6,z6,rfl⟩:=hs3.w.form;obtain ⟨y7,z7,rfl⟩:=hs3.s.form;refine zq [0,7,7] ?_;refine zA fun b4=>?_
 refine zq [14,1,2,5,3,4,0] ?_;refine Yp (pv_len_slice (T:=51) rfl rfl) ?_;refine zq [66,0,21] ?_;refine Yg (pv_indexAddr (i:=1) rfl rfl rfl (by omega)) ?_;refine Yg (pv_loadK [.int .i64 64,.int .i64 3] rfl rfl rfl (el_reads (f:=oneC) small_l)) ?_;refine zq [56] ?_;refine Yg ((pv_eql_slot (a:=(64,3)) (b:=(64,3)) rfl rfl).tru rfl) ?_;refine zq [24,0] ?_;refine Yg (pv_move (show SL.ev _ _=some (.bool true) from congrArg (fun b=>some (Value.bool b)) small_is)) ?_;refine zq [24,0,50,51,69,24,0,50,51,69,24,0,21,69,24,0,21,69,24,0] ?_;refine Yg (pv_loadK [_,_,_,_,_,_,_] rfl rfl rfl ⟨rfl,rfl,rfl,rfl,rfl,rfl,rfl,trivial⟩) ?_;refine Yog (ef_callr ((tr_apart (K1++(K2++(K3++(K4++(K5++(K6++(K7))))))) smallD (.slice p1 smallD.o.length q1) (.slice p2 smallD.p.length q2) (.slice p3 smallD.m.length q3) (.slice p4 smallD.f.length q4) (.slice p5 smallD.t.length q5) (.slice p6 smallD.w.length q6) (.slice p7 smallD.s.length q7) (DS.dv hs) small_sm).eq (r' := .bool true) (by rw[small_a])) rfl rfl) ?_;refine zq [24,0] ?_;refine Yg (pv_loadK [_,_,_,_,_,_,_] rfl rfl rfl ⟨rfl,rfl,rfl,rfl,rfl,rfl,rfl,trivial⟩) ?_;refine Yog (ef_callr ((tr_policy (K1++(K2++(K3++(K4++(K5++(K6++(K7))))))) smallD (.slice p1 smallD.o.length q1) (.slice p2 smallD.p.length q2) (.slice p3 smallD.m.length q3) (.slice p4 smallD.f.length q4) (.slice p5 smallD.t.length q5) (.slice p6 smallD.w.length q6) (.slice p7 smallD.s.length q7) (DS.dv hs) small_sm).eq (r' := .agg #[.int .i64 9,.int .i64 0,.int .i64 0,.int .i64 0,.int .i64 0,.int .i64 0,.int .i64 0,.int .i64 0,.int .i64 0,.int .i64 0,.int .i64 0,.int .i64 0,.int .i64 0,.int .i64 0,.int .i64 0,.int .i64 0,.int .i64 0,.int .i64 0,.int .i64 0,.int .i64 0,.int .i64 0,.int .i64 0,.int .i64 0,.int .i64 0,.int .i64 0,.int .i64 0,.int .i64 0,.int .i64 0,.int .i64 0,.int .i64 0,.int .i64 0,.int .i64 0,.int .i64 0,.int .i64 0,.int .i64 0,.int .i64 0,.int .i64 0,.int .i64 0,.int .i64 0,.int .i64 0,.int .i64 0,.int .i64 0,.int .i64 0,.int .i64 0,.int .i64 0,.int .i64 0,.int .i64 0,.int .i64 0,.int .i64 0,.int .i64 0,.int .i64 0,.int .i64 0,.int .i64 0,.int .i64 0,.int .i64 0,.int .i64 0,.int .i64 0,.int .i64 0,.int .i64 0,.int .i64 0,.int .i64 0,.int .i64 0,.int .i64 0,.int .i64 0]) (by rw[small_pol];rfl)) rfl rfl) ?_;refine Yg (pv_indexK (i:=0) [.int .i64 9,.int .i64 0,.int .i64 0,.int .i64 0,.int .i64 0,.int .i64 0,.int .i64 0,.int .i64 0] rfl rfl rfl rfl (by decide) rfl ⟨rfl,rfl,rfl,rfl,rfl,rfl,rfl,rfl,trivial⟩) ?_;refine Yg (pv_index1 (i:=0) rfl rfl rfl rfl (by decide) rfl) ?_;refine zq [69,24,1,2,5,10] ?_;exact zr (L' := []) ⟨rfl,rfl⟩
end
end
section
set_option synthInstance.maxHeartbeats 400000
set_option synthInstance.maxSize 4000
theorem ok_len{D:Dd}(h:okD D):D.o.length≤2^20∧D.p.length≤2^20∧D.m.length≤2^20∧D.f.length≤2^20∧D.t.length≤2^20∧D.w.length≤2^20∧D.s.length≤2^20:=by
 obtain ⟨⟨h1,_⟩,⟨h2,_⟩,⟨h3,_⟩,⟨h4,_⟩,⟨h5,_⟩,⟨h6,_⟩,h7,_⟩:=h;refine ⟨?_,?_,?_,?_,?_,?_,?_⟩ <;> omega
theorem decP_len{s:List UInt8}{D:Dd}{e:Int}(h:DecP s D e):D.o.length≤2^20∧D.p.length≤2^20∧D.m.length≤2^20∧D.f.length≤2^20∧D.t.length≤2^20∧D.w.length≤2^20∧D.s.length≤2^20:=by
 rcases h with ⟨_,h,_⟩ | ⟨_,rfl,_⟩
 ·
  exact ok_len (enc_rdD h).2
 refine ⟨?_,?_,?_,?_,?_,?_,?_⟩ <;> exact Nat.zero_le _
open Classical in
theorem same_refl(A:Dd){v1 v2 v3 v4 v5 v6 v7:Value}{H1 H2 H3 H4 H5 H6 H7:Hp}(hs:DSB A v1 v2 v3 v4 v5 v6 v7 H1 H2 H3 H4 H5 H6 H7){w1 w2 w3 w4 w5 w6 w7:Value}{K1 K2 K3 K4 K5 K6 K7:Hp}(ht:DSB A w1 w2 w3 w4 w5 w6 w7 K1 K2 K3 K4 K5 K6 K7)
    (hl:A.o.length≤2^20∧A.p.length≤2^20∧A.m.length≤2^20∧A.f.length≤2^20∧A.t.length≤2^20∧A.w.length≤2^20∧A.s.length≤2^20) :
    TrR prog 13 [.agg #[v1,v2,v3,v4,v5,v6,v7],.agg #[w1,w2,w3,w4,w5,w6,w7]] (H1++(H2++(H3++(H4++(H5++(H6++(H7++(K1++(K2++(K3++(K4++(K5++(K6++K7))))))))))))) (.bool true):=by
  have:=tr_same A A _ _ _ _ _ _ _ _ _ _ _ _ _ _ hs _ _ _ _ _ _ _ _ _ _ _ _ _ _ ht hl.1 hl.2.1 hl.2.2.1 hl.2.2.2.1 hl.2.2.2.2.1 hl.2.2.2.2.2.1 hl.2.2.2.2.2.2
  rwa [decide_eq_true rfl]at this
theorem tr_decodeB(s:List UInt8)(hs:s.length≤2^30):Tr prog 12 [sV s] ([]) (fun u L' => ∃(D:Dd) (e:Int) (v1 v2 v3 v4 v5 v6 v7:Value) (H1 H2 H3 H4 H5 H6 H7:Hp),DecP s D e∧DSB D v1 v2 v3 v4 v5 v6 v7 H1 H2 H3 H4 H5 H6 H7∧u=.tuple #[.agg #[v1,v2,v3,v4,v5,v6,v7],.int .i64 e]∧L' = H1++(H2++(H3++(H4++(H5++(H6++H7)))))):=by
 by_cases h:s.take 2=[67,68]
 ·
  exact tr_decY s hs h
 exact tr_decN s hs h
theorem great_len{D:Dd}(h:¬greatD D):D.o.length≤2^20∧D.p.length≤2^20∧D.m.length≤2^20∧D.f.length≤2^20∧D.t.length≤2^20∧D.w.length≤2^20∧D.s.length≤2^20:=by
 unfold greatD at h;refine ⟨?_,?_,?_,?_,?_,?_,?_⟩ <;> omega
theorem tr_bootBack(G:Hp)(D:Dd)(v1 v2 v3 v4 v5 v6 v7:Value)(hs:DA G D v1 v2 v3 v4 v5 v6 v7)(s:List UInt8):TrR prog 3 [.agg #[v1,v2,v3,v4,v5,v6,v7],sV s] (G) (.bool true):=by
 obtain ⟨svo,cvo,rfl⟩:=hs.o.form;obtain ⟨svp,cvp,rfl⟩:=hs.p.form;obtain ⟨svm,cvm,rfl⟩:=hs.m.form;obtain ⟨svf,cvf,rfl⟩:=hs.f.form;obtain ⟨svt,cvt,rfl⟩:=hs.t.form;obtain ⟨svw,cvw,rfl⟩:=hs.w.form;obtain ⟨svs,cvs,rfl⟩:=hs.s.form;refine YR func3 ntmps3 fun W F=>?_
 refine Wr ?_;refine zB fun b1=>?_
 refine zq [1,2,5,3,3,4] ?_;refine zD tr_works ?_;rintro _ _ ⟨rfl,rfl⟩;refine Ops.app ?_;refine zq [39,2,5,17,11,5,3,3,4,36] ?_;refine zC (tr_great G D _ _ _ _ _ _ _ hs) ?_;refine zq [0] ?_;refine Yn rfl rfl (fun hg=>pv_move rfl) ?_;refine Yn rfl rfl (fun hg=>Ys 18 rfl hg (pv_str_len (T:=9) rfl rfl)) ?_;refine Yn rfl rfl (fun hg=>Ys 18 rfl hg (Ys 19 rfl hg (pv_gtr rfl rfl))) ?_;refine zq [47,2,5] ?_;refine Yd rfl (fun h1=>?_) (fun h1=>?_)
 ·
  refine zq [3,4,1,2,5,10,12] ?_;exact zr ⟨rfl,rfl⟩
 have hgr:¬greatD D:=fun h=>by simp_all
 have hsl:s.length≤20000:=by omega
 have hl:=great_len hgr
 refine zq [11,5,3,4,36] ?_;refine zD (tr_to G D _ _ _ _ _ _ _ hs hl.1 hl.2.1 hl.2.2.1 hl.2.2.2.1 hl.2.2.2.2.1 hl.2.2.2.2.2.1 hl.2.2.2.2.2.2) ?_;rintro _ _ ⟨wao,wap,wam,waf,wat,waw,was,Kao,Kap,Kam,Kaf,Kat,Kaw,Kas,da,rfl,rfl⟩;refine Ops.app ?_;obtain ⟨sdao,cdao,rfl⟩:=da.o.form;obtain ⟨sdap,cdap,rfl⟩:=da.p.form;obtain ⟨sdam,cdam,rfl⟩:=da.m.form;obtain ⟨sdaf,cdaf,rfl⟩:=da.f.form;obtain ⟨sdat,cdat,rfl⟩:=da.t.form;obtain ⟨sdaw,cdaw,rfl⟩:=da.w.form;obtain ⟨sdas,cdas,rfl⟩:=da.s.form;refine zD (tr_encode D _ _ _ _ _ _ _ _ _ _ _ _ _ _ da hl.1 hl.2.1 hl.2.2.1 hl.2.2.2.1 hl.2.2.2.2.1 hl.2.2.2.2.2.1 hl.2.2.2.2.2.2) ?_;rintro _ _ ⟨rfl,rfl⟩;refine Ops.app ?_;refine zq [0,7,7,1,1,2,5] ?_;refine Wp.cutK (σ:=Unit) [(1,_)] (fun s=>[]) (fun s=>(b1,.cells [.slice svo D.o.length cvo,.slice svp D.p.length cvp,.slice svm D.m.length cvm,.slice svf D.f.length cvf,.slice svt D.t.length cvt,.slice svw D.w.length cvw,.slice svs D.s.length cvs].toArray 30)::(G++F)) (fun s=>True) ⟨rfl,trivial⟩ (fun _ KK hC0=>?_) ?_
 ·
  dsimp only[Y1,Y2]at hC0;refine zq [3,4,0,22,2,5] ?_;refine Yd rfl (fun h2=>?_) (fun h2=>?_)
  ·
   have h29:(encV D).2=0:=by assumption
   have hok:okD D:=Classical.byContradiction fun hn=>by rw[encV,if_neg hn]at h29;cases h29
   rw[show encV D=([67,68]++encD D,0) from if_pos hok];refine zq [3,4,0] ?_;refine zD (tr_decodeB ([67,68]++encD D) (by have:=encD_le hok;simp only[Y3,Y4,Y5];omega)) ?_;rintro _ _ ⟨D2,e2,wbo,wbp,wbm,wbf,wbt,wbw,wbs,Kbo,Kbp,Kbm,Kbf,Kbt,Kbw,Kbs,hdp,db,rfl,rfl⟩;refine Ops.app ?_;obtain ⟨rfl,rfl⟩:=decP_enc hok hdp;obtain ⟨sdbo,cdbo,rfl⟩:=db.o.form;obtain ⟨sdbp,cdbp,rfl⟩:=db.p.form;obtain ⟨sdbm,cdbm,rfl⟩:=db.m.form;obtain ⟨sdbf,cdbf,rfl⟩:=db.f.form;obtain ⟨sdbt,cdbt,rfl⟩:=db.t.form;obtain ⟨sdbw,cdbw,rfl⟩:=db.w.form;obtain ⟨sdbs,cdbs,rfl⟩:=db.s.form;refine zq [0,7,7] ?_;refine zA fun b2=>?_
   refine zq [14,1,2,5,3] ?_;refine AnyH.start ((b1,.cells [.slice svo D2.o.length cvo,.slice svp D2.p.length cvp,.slice svm D2.m.length cvm,.slice svf D2.f.length cvf,.slice svt D2.t.length cvt,.slice svw D2.w.length cvw,.slice svs D2.s.length cvs].toArray 30)::(b2,.cells [.slice sdbo D2.o.length cdbo,.slice sdbp D2.p.length cdbp,.slice sdbm D2.m.length cdbm,.slice sdbf D2.f.length cdbf,.slice sdbt D2.t.length cdbt,.slice sdbw D2.w.length cdbw,.slice sdbs D2.s.length cdbs].toArray 44)::[]) 9 rfl ?_;refine zd [0,1] ?_;refine Yh 1 rfl ((pv_neq rfl rfl).fls (by first | exact fun h=>h rfl | decide | omega | assumption)) ?_;refine zd [2,1] ?_;refine Yt 3 rfl (pv_loadK [_,_,_,_,_,_,_] rfl rfl rfl ⟨rfl,rfl,rfl,rfl,rfl,rfl,rfl,trivial⟩) ?_;refine Yt 4 rfl (pv_loadK [_,_,_,_,_,_,_] rfl rfl rfl ⟨rfl,rfl,rfl,rfl,rfl,rfl,rfl,trivial⟩) ?_;refine YA 5 ?_;refine Turn.ef rfl ⟨_,_,rfl,rfl,rfl⟩ (ef_call (tr_to G D2 _ _ _ _ _ _ _ hs hl.1 hl.2.1 hl.2.2.1 hl.2.2.2.1 hl.2.2.2.2.1 hl.2.2.2.2.2.1 hl.2.2.2.2.2.2) rfl rfl) ?_ ?_ <;> rintro _ _ ⟨_,_,⟨wco,wcp,wcm,wcf,wct,wcw,wcs,Kco,Kcp,Kcm,Kcf,Kct,Kcw,Kcs,dc,rfl,rfl⟩,rfl,rfl⟩
   ·infer_instance
   refine AnyH.app ?_;obtain ⟨sdco,cdco,rfl⟩:=dc.o.form;obtain ⟨sdcp,cdcp,rfl⟩:=dc.p.form;obtain ⟨sdcm,cdcm,rfl⟩:=dc.m.form;obtain ⟨sdcf,cdcf,rfl⟩:=dc.f.form;obtain ⟨sdct,cdct,rfl⟩:=dc.t.form;obtain ⟨sdcw,cdcw,rfl⟩:=dc.w.form;obtain ⟨sdcs,cdcs,rfl⟩:=dc.s.form;refine YA 6 ?_;refine Turn.ef rfl ⟨_,_,rfl,rfl,rfl⟩ (ef_callr (same_refl _ db dc hl) rfl rfl) ?_ ?_ <;> rintro _ _ ⟨rfl,rfl⟩
   ·infer_instance
   refine Yt 7 rfl (pv_not rfl) ?_;refine Yh 8 rfl (pv_pick_false rfl rfl) ?_;refine YD ?_;refine zq [5,17,11,49] ?_;refine Yy (hC0 () trivial)
  refine zq [11,49] ?_;refine Yy (hC0 () trivial)
 rintro ⟨⟩ _;dsimp only[Y1,Y2]at ⊢;refine zq [3,4,0] ?_;refine zD (tr_decodeB s (by omega)) ?_;rintro _ _ ⟨D3,e3,wdo,wdp,wdm,wdf,wdt,wdw,wds,Kdo,Kdp,Kdm,Kdf,Kdt,Kdw,Kds,hdp,dd,rfl,rfl⟩;refine Ops.app ?_;have hc:=decP_len hdp
 obtain ⟨sddo,cddo,rfl⟩:=dd.o.form;obtain ⟨sddp,cddp,rfl⟩:=dd.p.form;obtain ⟨sddm,cddm,rfl⟩:=dd.m.form;obtain ⟨sddf,cddf,rfl⟩:=dd.f.form;obtain ⟨sddt,cddt,rfl⟩:=dd.t.form;obtain ⟨sddw,cddw,rfl⟩:=dd.w.form;obtain ⟨sdds,cdds,rfl⟩:=dd.s.form;refine zq [0,7,7] ?_;refine zA fun b3=>?_
 refine zq [14,1,2,5,3,3,4,0,27,2,5] ?_;refine Yd rfl (fun h3=>?_) (fun h3=>?_)
 ·
  obtain ⟨rfl,rfl⟩:D3=noD∧e3=10:=by
   rcases hdp with ⟨_,_,h⟩ | ⟨_,h1,h2⟩
   ·
    exact absurd h (by assumption)
   ·
    exact ⟨h1,h2⟩
  refine zq [3,4,0,66,0] ?_;refine Yg (pv_loadK [_,_,_,_,_,_,_] rfl rfl rfl ⟨rfl,rfl,rfl,rfl,rfl,rfl,rfl,trivial⟩) ?_;refine zq [56] ?_;refine Yog (ef_callr (same_refl noD dd noD_DS (by refine ⟨?_,?_,?_,?_,?_,?_,?_⟩ <;> exact Nat.zero_le _)) rfl rfl) ?_;refine zq [24,1,2,5,10,12] ?_;exact zr ⟨rfl,rfl⟩
 obtain ⟨hs2,hrd⟩:s.take 2=[67,68]∧rdD (s.drop 2)=some (D3,[]):=by
  rcases hdp with ⟨h1,h2,_⟩ | ⟨_,_,h2⟩
  ·
   exact ⟨h1,h2⟩
  ·
   exact absurd h2 (by omega)
 obtain ⟨hse,hok3⟩:=enc_rdD hrd;have hse2:[67,68]++encD D3=s:=by rw[←hse,←hs2,List.take_append_drop]
 refine zq [11,5,3,4,36] ?_;refine zD (tr_encode D3 _ _ _ _ _ _ _ _ _ _ _ _ _ _ dd hc.1 hc.2.1 hc.2.2.1 hc.2.2.2.1 hc.2.2.2.2.1 hc.2.2.2.2.2.1 hc.2.2.2.2.2.2) ?_;rintro _ _ ⟨rfl,rfl⟩;refine Ops.app ?_;rw[show encV D3=([67,68]++encD D3,0) from if_pos hok3];refine zq [0,7,7,1,1,2,5,3,4,0,66,0,21,21] ?_;refine Yg ((pv_str_eql rfl rfl).tru (by first | rfl | decide | omega | assumption | (simp;done) | (simp;omega))) ?_;refine zq [24,1,2,5,10] ?_;exact zr ⟨rfl,rfl⟩
end
end Go.Proofs.YtmoeokkelkgnhaaGreat
namespace Go.SL
section
open Go.RowKit Go.ChangeShapes Go.WideShapes Go.Deep
section
variable{P:Program}{H:Type}{enc:TypeId×Value→H}{w:World}
include P H enc w
theorem trod_fields{base:Nat}{spare:Nat→Bool}{held:Bool}{t:TypeId}{fs:Array Field}{cs:Array Value}{d:DataW H}{p:List MemPlace}(hu:P.underlying t=some (.struct fs))
    (h:DataW.Trod enc P w base spare held t (.agg cs) d p):∀(i:Nat) (f:Field),fs[i]?=some f→∃fuel y,DataW.trod enc P w base spare held fuel f.type ((cs.toList.drop f.offset).take (P.cellsOf f.type))=some y:=by
  obtain ⟨fuel,h⟩:=h;obtain ⟨xs,n,_,_,hl,hxl,hat⟩:=DataW.trod_struct hu h;intro i f hf;have hlt:i<xs.length:=by rw[hxl];exact (Array.getElem?_eq_some_iff.1 hf).1
  have:=hat i f hf
  rw[Y8 hlt]at this;exact ⟨n,_,this⟩
theorem flat_sliceF{held:Bool}{t e:TypeId}{fuel:Nat}{cs:List Value}{x:DataW H×List MemPlace}{ks:List (Option IntKind)}(hu:P.underlying t=some (.slice e))(he:FlatTy P e ks)(hk:0<ks.length)
    (h:DataW.trod enc P w 0 (fun _=>true) held fuel t cs=some x):∃a c els,cs=[.slice a els.length c]∧els.length≤maxLen∧els.length≤c∧(∀x,x∈els→FlatV ks x)∧ArgS (allHp w) ks.length a els:=by
  have hcs:∃a n c,cs=[.slice a n c]:=by
    rcases open_slice hu h with ⟨rfl,_⟩ | ⟨a,len,cap,_,_,_,_,rfl,_⟩
    · exact ⟨_,_,_,rfl⟩
    · exact ⟨_,_,_,rfl⟩
  obtain ⟨a,n,c,rfl⟩:=hcs;obtain ⟨a', c', els,hv,h1,h2,h3,h4⟩:=flat_slice2 (v:=.slice a n c) (d:=x.1) (p:=x.2) hu hk ⟨_,_,_,rfl⟩ ⟨fuel,by simpa [Value.cells] using h⟩;cases hv;exact ⟨_,_,_,rfl,h1,h2,h3,h4⟩
end
end
end Go.SL
namespace Go.Proofs.YtmoeokkelkgnhaaGreat
open Go.SL
open Go.Proofs.Tryz
section
open Go.SL Go.ChangeShapes
def Fld.kind:Fld→Option IntKind
  | .two=>some .i64
  | .lab=>some .i64
  | .spc=>some .i64
  | .w4=>some .u64
  | .w8=>some .u64
  | .flg=>none
theorem Fld.of_cell(f:Fld){ks:List (Option IntKind)}{vs:List Value}(h:FlatV (f.kind::ks) vs):∃n us,vs=f.cell n::us∧f.rg n∧FlatV ks us:=by
 cases f <;> simp only[Fld.kind]at h
 case flg =>
  obtain ⟨b,us,rfl,h2⟩:=h.bool;refine ⟨if b then 1 else 0,us,?_,?_,h2⟩
  ·
   cases b <;> rfl
  ·
   cases b <;> simp[Fld.rg]
 all_goals
  obtain ⟨n,us,rfl,hw,h2⟩:=h.int;refine ⟨n,us,rfl,?_,h2⟩;simp[Lit.wf,IntKind.min,IntKind.max,IntKind.signed,IntKind.bits]at hw;simp only[Fld.rg,RgI];omega
theorem as_El:∀(fs:List Fld) {vs:List Value},FlatV (fs.map Fld.kind) vs→∃e:El fs,vs=cE fs e
  | [],vs,h=>⟨⟨[],rfl,trivial⟩,h.nil⟩
  | f::fs,vs,h=>by
    obtain ⟨n,us,rfl,hr,h⟩:=f.of_cell h;obtain ⟨e,rfl⟩:=as_El fs h;exact ⟨⟨n::e.val,by simp[e.len],⟨hr,e.rg⟩⟩,rfl⟩
theorem arr7{cs:Array Value}(h:cs.size=7):∃a b c d e f g,cs=#[a,b,c,d,e,f,g]:=by
 obtain ⟨l⟩:=cs
 match l,h with
 | [a,b,c,d,e,f,g],_=>exact ⟨a,b,c,d,e,f,g,rfl⟩
theorem as_field(fs:List Fld){H:Type}{enc:TypeId×Value→H}{w:World}{held:Bool}{t e:TypeId}{fuel:Nat}{cs:List Value}{x:DataW H×List MemPlace}{ks:List (Option IntKind)}(hu:prog.underlying t=some (.slice e))(he:FlatTy prog e ks)(hf:ks=fs.map Fld.kind)(hk:0<fs.length)
    (h:DataW.trod enc prog w 0 (fun _=>true) held fuel t cs=some x):∃v,∃l:List (El fs),cs=[v]∧ASl (allHp w) fs.length v (cE fs) l:=by
  subst hf;obtain ⟨a,c,els,rfl,_,_,h3,h4⟩:=flat_sliceF hu he (by simpa using hk) h;obtain ⟨l,rfl,_⟩:=map_of (p:=fun _=>True) (fun y hy=>by obtain ⟨e,he⟩:=as_El fs (h3 y hy);exact ⟨e,he,trivial⟩);rw[List.length_map]at h4;exact ⟨_,l,rfl,a,c,by rw[List.length_map],h4⟩
theorem fd3:FlatTy prog 3 [some .i64]:=FlatTy.int underlying3 (by kernel_rfl)
theorem fd78:FlatTy prog 78 [some .i64,some .i64,some .i64]:=FlatTy.struct (kss:=[[some .i64],[some .i64],[some .i64]]) underlying78 (FlatFs.cons rfl fd3 (FlatFs.cons rfl fd3 (FlatFs.cons rfl fd3 FlatFs.nil))) (by kernel_rfl)
theorem fd61:FlatTy prog 61 [some .i64,some .i64]:=FlatTy.struct (kss:=[[some .i64],[some .i64]]) underlying61 (FlatFs.cons rfl fd3 (FlatFs.cons rfl fd3 FlatFs.nil)) (by kernel_rfl)
theorem fd50:FlatTy prog 50 [some .u64]:=FlatTy.int underlying50 (by kernel_rfl)
theorem fd63:FlatTy prog 63 [some .i64,some .i64,some .i64,some .u64,some .u64,some .i64]:=FlatTy.struct (kss:=[[some .i64],[some .i64],[some .i64],[some .u64],[some .u64],[some .i64]]) underlying63 (FlatFs.cons rfl fd3 (FlatFs.cons rfl fd3 (FlatFs.cons rfl fd3 (FlatFs.cons rfl fd50 (FlatFs.cons rfl fd50 (FlatFs.cons rfl fd3 FlatFs.nil)))))) (by kernel_rfl)
theorem fd91:FlatTy prog 91 [some .i64,some .i64,some .i64,some .i64,some .i64,some .u64,some .u64,some .i64]:=FlatTy.struct (kss:=[[some .i64,some .i64],[some .i64,some .i64,some .i64,some .u64,some .u64,some .i64]]) underlying91 (FlatFs.cons rfl fd61 (FlatFs.cons rfl fd63 FlatFs.nil)) (by kernel_rfl)
theorem fd4:FlatTy prog 4 [none]:=FlatTy.bool underlying4 (by kernel_rfl)
theorem fd79:FlatTy prog 79 [some .i64,some .i64,some .i64,none]:=FlatTy.struct (kss:=[[some .i64],[some .i64],[some .i64],[none]]) underlying79 (FlatFs.cons rfl fd3 (FlatFs.cons rfl fd3 (FlatFs.cons rfl fd3 (FlatFs.cons rfl fd4 FlatFs.nil)))) (by kernel_rfl)
theorem fd118:FlatTy prog 118 [some .i64,some .i64,some .u64]:=FlatTy.struct (kss:=[[some .i64],[some .i64],[some .u64]]) underlying118 (FlatFs.cons rfl fd3 (FlatFs.cons rfl fd3 (FlatFs.cons rfl fd50 FlatFs.nil))) (by kernel_rfl)
theorem fd86:FlatTy prog 86 [some .i64,some .i64,some .i64,some .i64,some .i64,some .u64,some .i64,some .i64]:=FlatTy.struct (kss:=[[some .i64],[some .i64],[some .i64],[some .i64],[some .i64],[some .u64],[some .i64],[some .i64]]) underlying86 (FlatFs.cons rfl fd3 (FlatFs.cons rfl fd3 (FlatFs.cons rfl fd3 (FlatFs.cons rfl fd3 (FlatFs.cons rfl fd3 (FlatFs.cons rfl fd50 (FlatFs.cons rfl fd3 (FlatFs.cons rfl fd3 FlatFs.nil)))))))) (by kernel_rfl)
theorem fd121:FlatTy prog 121 [some .i64,some .i64,some .i64,some .u64]:=FlatTy.struct (kss:=[[some .i64],[some .i64],[some .i64],[some .u64]]) underlying121 (FlatFs.cons rfl fd3 (FlatFs.cons rfl fd3 (FlatFs.cons rfl fd3 (FlatFs.cons rfl fd50 FlatFs.nil)))) (by kernel_rfl)
theorem fd124:FlatTy prog 124 [some .i64,some .i64]:=FlatTy.struct (kss:=[[some .i64],[some .i64]]) underlying124 (FlatFs.cons rfl fd3 (FlatFs.cons rfl fd3 FlatFs.nil)) (by kernel_rfl)
theorem as_desc{H:Type}{enc:TypeId×Value→H}{w:World}{held:Bool}{cs:Array Value}{d:DataW H}{p:List MemPlace}(hc:cs.size=7)(h:DataW.Trod enc prog w 0 (fun _=>true) held 30 (.agg cs) d p):∃(D:Dd) (v1 v2 v3 v4 v5 v6 v7:Value),cs=#[v1,v2,v3,v4,v5,v6,v7]∧DA (allHp w) D v1 v2 v3 v4 v5 v6 v7:=by
 have hF:=trod_fields underlying30 h
 obtain ⟨x1,x2,x3,x4,x5,x6,x7,rfl⟩:=arr7 hc;obtain ⟨f1,y1,h1⟩:=hF 0 _ rfl;have k1:DataW.trod enc prog w 0 (fun _=>true) held f1 22 (List.take (prog.cellsOf 22) (List.drop 0 [x1,x2,x3,x4,x5,x6,x7]))=some y1:=h1
 rw[show prog.cellsOf 22=1 by kernel_rfl]at k1;obtain ⟨v1,l1,e1,g1⟩:=as_field (cs:=[x1]) fsO underlying22 fd78 rfl (by decide) k1;cases e1;obtain ⟨f2,y2,h2⟩:=hF 1 _ rfl;have k2:DataW.trod enc prog w 0 (fun _=>true) held f2 23 (List.take (prog.cellsOf 23) (List.drop 1 [x1,x2,x3,x4,x5,x6,x7]))=some y2:=h2
 rw[show prog.cellsOf 23=1 by kernel_rfl]at k2;obtain ⟨v2,l2,e2,g2⟩:=as_field (cs:=[x2]) fsP underlying23 fd91 rfl (by decide) k2;cases e2;obtain ⟨f3,y3,h3⟩:=hF 2 _ rfl;have k3:DataW.trod enc prog w 0 (fun _=>true) held f3 24 (List.take (prog.cellsOf 24) (List.drop 2 [x1,x2,x3,x4,x5,x6,x7]))=some y3:=h3
 rw[show prog.cellsOf 24=1 by kernel_rfl]at k3;obtain ⟨v3,l3,e3,g3⟩:=as_field (cs:=[x3]) fsM underlying24 fd79 rfl (by decide) k3;cases e3;obtain ⟨f4,y4,h4⟩:=hF 3 _ rfl;have k4:DataW.trod enc prog w 0 (fun _=>true) held f4 25 (List.take (prog.cellsOf 25) (List.drop 3 [x1,x2,x3,x4,x5,x6,x7]))=some y4:=h4
 rw[show prog.cellsOf 25=1 by kernel_rfl]at k4;obtain ⟨v4,l4,e4,g4⟩:=as_field (cs:=[x4]) fsF underlying25 fd118 rfl (by decide) k4;cases e4;obtain ⟨f5,y5,h5⟩:=hF 4 _ rfl;have k5:DataW.trod enc prog w 0 (fun _=>true) held f5 26 (List.take (prog.cellsOf 26) (List.drop 4 [x1,x2,x3,x4,x5,x6,x7]))=some y5:=h5
 rw[show prog.cellsOf 26=1 by kernel_rfl]at k5;obtain ⟨v5,l5,e5,g5⟩:=as_field (cs:=[x5]) fsT underlying26 fd86 rfl (by decide) k5;cases e5;obtain ⟨f6,y6,h6⟩:=hF 5 _ rfl;have k6:DataW.trod enc prog w 0 (fun _=>true) held f6 27 (List.take (prog.cellsOf 27) (List.drop 5 [x1,x2,x3,x4,x5,x6,x7]))=some y6:=h6
 rw[show prog.cellsOf 27=1 by kernel_rfl]at k6;obtain ⟨v6,l6,e6,g6⟩:=as_field (cs:=[x6]) fsW underlying27 fd121 rfl (by decide) k6;cases e6;obtain ⟨f7,y7,h7⟩:=hF 6 _ rfl;have k7:DataW.trod enc prog w 0 (fun _=>true) held f7 28 (List.take (prog.cellsOf 28) (List.drop 6 [x1,x2,x3,x4,x5,x6,x7]))=some y7:=h7
 rw[show prog.cellsOf 28=1 by kernel_rfl]at k7;obtain ⟨v7,l7,e7,g7⟩:=as_field (cs:=[x7]) fsS underlying28 fd124 rfl (by decide) k7;cases e7;exact ⟨⟨l1,l2,l3,l4,l5,l6,l7⟩,_,_,_,_,_,_,_,rfl,⟨g1,g2,g3,g4,g5,g6,g7⟩⟩
end
end Go.Proofs.YtmoeokkelkgnhaaGreat
