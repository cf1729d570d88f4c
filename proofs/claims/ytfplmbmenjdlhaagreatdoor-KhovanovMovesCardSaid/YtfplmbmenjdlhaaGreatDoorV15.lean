/- Walks: the rank of rows (rank). -/
import Derived.Test.YtfplmbmenjdlhaaGreatDoorV8
import Derived.Test.YtfplmbmenjdlhaaGreatDoorV13
set_option maxRecDepth 100000
set_option maxHeartbeats 16000000
namespace Go.Proofs.YtfplmbmenjdlhaaGreatDoor
open Go.RowKit Go.Shelf Go.Maps
open Kn (dp vz wM gP AL)
open Kn (Cr at' Bk mY rL ml lS uJ xk eY bf oZ iU)
open Go.Proofs.Tryz (prog)
variable {l:List (Nat×Nat)} {k r s:Nat} {p:Nat×Nat}
theorem Es{w w':World}{b:Nat}(h:w.mapTurned w' b):Fr (λk=>k=b) w w':=by
 obtain⟨es,ck,es',ck',hb,rfl⟩:=h;exact⟨rfl,rfl,rfl,by simp[ChangeMaps.setBlock],λi _ hi=>ChangeMaps.heap_setBlock_other hb _ (λe=>hi e)⟩
theorem eV.put{U:Nat}{W:World}{k:Nat}{v:Nat->Bool}(h:eV U W k v)(hU:U<=1000000000){x:Nat}(hx:x<U):
 ∃w',(Instr.mapUpdate 86 (.map (some k)) (KV x) (.bool true)).run prog W=.ok () w'/\eV U w' k (λq=>if q=x then true else v q)/\Fr (λj=>j=k) W w':=by
 obtain⟨⟨ks,hk⟩,hl⟩:=h;obtain⟨w',h1,h2,h3⟩:=hk.put K7 (by unfold maxLen;omega) Tryz.LS (p:=x) (show x<1000000000 by omega) (.bool true);rw[Tk]at h2;refine⟨w',h1,Ku.acj h2 λy hy=>?_,h3⟩;split at hy
 · omega
 exact hl y hy
theorem eV.del{U:Nat}{W':World}{k x:Nat}{v:Nat->Bool}{D:DataW Value}{ks:List Nat}{kl:Lit}(hd:GD 3 KV Qf D (vU v) ks)(hT:Maps.Tidy D)(hl:∀x,v x=true->x<U)(hk:keyOf prog 3 (KV x)=some kl){n:Nat}(ho:W'.ownsMap prog 3 hE k n (D.del kl)):eV U W' k (λq=>if q=x then false else v q):=by
 have h2:=hd.del K7 hT hk;rw[Tm]at h2
 refine Ku.acj ⟨_,ho,h2⟩ λy hy=>?_
 split at hy
 · cases hy
 exact hl y hy
def Pe(w:World)(a:Option Addr)(bs:List Nat):Prop:=
 bs=[]\/∃b o,a=some ⟨b,o,none⟩/\∀i,i<bs.length->w.cell? ⟨b,o+i,none⟩=some (.map (some (bs.getD i 0)))
theorem Pe.at{w:World}{a:Option Addr}{bs:List Nat}(h:Pe w a bs){k:Nat}(hk:k<bs.length):∃b o,a=some ⟨b,o,none⟩/\w.cell? ⟨b,o+k,none⟩=some (.map (some (bs.getD k 0))):=by
 rcases h with rfl|⟨b,o,rfl,hc⟩
 · simp at hk
 exact⟨b,o,rfl,hc k hk⟩
theorem eV.Oh{U:Nat}{W:World}{v:Nat->Bool}(h:eV U W k v){o:Nat}{x:Value}:W.cell? ⟨k,o,none⟩≠some x:=λe=>by
 obtain⟨⟨ks,hk⟩,_⟩:=h;obtain⟨es,ck,hb⟩:=hk.blk;simp[World.cell?,hb]at e
theorem Tr(a:Option Addr)(n c:Nat)(bs:List Nat)(V:Nat->Nat->Bool)(U:Nat)(w:World)(hm:Pe w a bs)(hn:n=bs.length)(JI:n<=1000000000)(hU:U<=1000000000)(nd:bs.Nodup)(hr:∀k∈bs,eV U w k (V k)):
 Calls prog 30 #[.slice a n c] w (λe w'=>∃r:Nat,e=.returned (.int .i64 (r:Nat))/\Kn.Rk (bs.map V) r/\r<=bs.length/\Fr (λk=>k∈bs) w w'):=by
 have Ai:=@run_makeMap prog
 have hb:∀k∈bs,k<w.heap.size:=λk hk=>(hr k hk).lt
 have HM:=jd hm;have HN:=jd hn;have Xp:=jd nd;have HBB:=jd hb;have Ng:=jd hr;have sY:Hd (RO w (w.alloc (.map #[] 0)) w.heap.size 0 bs V U [] V):=jd ⟨(Fr.refl _ _).alloc _,jH _,⟨[],by rw[acw];exact dx.made w⟩,λk hk=>(hr k hk).fr ((Fr.refl (λ_=>False) _).alloc _) λx=>x,λj _ k hk=>rfl,wM.nil,λq hq=>by cases hq⟩;clear hm hn nd hb hr;obtain⟨pm,HPM⟩:=jb w.heap.size
 go_enter Tryz.func30,Tryz.ntmps30
 go_wp2_with fail;rw[<-HPM.o]at sY ⊢;clear Ai
 go_loopw [4,14] (λs4 i wr=>∃(k:Nat) (Q:List (Nat×Nat)) (C:Nat->Nat->Bool),k<=n/\i=.int .i64 k/\s4=.int .i64 (Q.length:Nat)/\Q.length<=k/\Hd (RO w wr pm k bs V U Q C)) (λ_ i _=>n-(intOf i).toNat)
 case atStart=>exact⟨0,[],V,by omega,rfl,rfl,jH _,sY⟩
 case round=>
 obtain⟨k,Q,C,hk,rfl,rfl,Yy,HO⟩:=hrel;obtain⟨ql,HQL⟩:=jb Q.length;rw[<-HQL.o]at Yy ⊢;by_cases hlt:k<n;rotate_left
 · obtain rfl:n=k:=by omega
   go_wp2;go_ret;refine⟨ql,rfl,?_,by have:=HN.o;omega,HO.o.fr⟩;have:=HO.o.el.rk;rw[List.take_of_length_le (by have:=HN.o;omega),jA,<-HQL.o]at this;exact this
 have hkb:k<bs.length:=by have:=HN.o;omega
 obtain⟨ba,oa,ea,hc⟩:=HM.o.at hkb;subst ea
 obtain⟨rk,KB⟩:∃rk,Hd (bs[k]?=some rk):=⟨_,jd (je hkb)⟩
 have E8:rk∈bs:=List.mem_of_getElem? KB.o
 have e0:bs.getD k 0=rk:=by rw[jc,KB.o];rfl
 rw[e0]at hc;have HJ0:Hd (RJ w wr pm k rk bs V U Q C vz):=jd (HO.o.inner KB.o)
 have i1:(0:Int)<=(k:Int):=by omega
 have i2:(k:Int)<(n:Int):=by omega
 have hcw:=HO.o.fr.cell hc (λe=>(Ng.o ba e).Oh hc);have HK0:=jd hkb;go_wp2_with fail;clear hcw
 go_loopw [4,7] (λs4 _ wr=>s4=.int .i64 (ql:Nat)/\∃(C:Nat->Nat->Bool) (u:Nat->Bool),Hd (RJ w wr pm k rk bs V U Q C u)) (λ_ _ wr=>Yn U wr rk)
 case atStart=>exact⟨rfl,_,_,HJ0⟩
 case round=>
 clear HJ0 HO;obtain⟨rfl,C,u,HJ⟩:=hrel;obtain⟨⟨ks,D,hown,hd⟩,YH⟩:=HJ.o.rows rk E8;have HOW:=jd hown;have HD:=jd hd;have HLW:=jd YH;clear hown hd YH;obtain⟨nk,vN⟩:=jb ks.length;have Bu:Hd (Maps.size D=nk):=jd (by rw[vN.o];exact HD.o.size)
 have hlen:∀ty,(Builtin.len_ #[86] ty #[.map (some rk)]).run prog wr=.ok (.int .i64 (nk:Nat)) wr:=λty=>by rw[<-Bu.o];exact HOW.o.len Tryz.LS ty
 by_cases hz:0<nk;rotate_left
 · have Hm:¬(0:Int)<(nk:Int):=by omega
   go_wp2_with fail;refine⟨⟨k+1,Q,C,by omega,by go_num,by rw[HQL.o],by have:=HQL.o;omega,jd (HJ.o.zero λx=>?_)⟩,by simp[intOf];omega⟩
   cases hx:C rk x with
   |false=>rfl
   |true=>
    have h1:x∈ks:=(tE (n:=U) (v:=C rk) ⟨D,HOW.o,HD.o⟩ x).2 hx;have h2:=List.length_pos_of_mem h1
    have:=vN.o;omega
 have Hm:(0:Int)<(nk:Int):=by omega
 go_wp2_with fail
 have anf:Maps.size D<=1000000000:=by
  have h1:=HOW.o;have:=NU (n:=U) (v:=C rk) (ks:=ks) ⟨D,HOW.o,HD.o⟩ HLW.o
  have:=Bu.o;have:=vN.o;omega
 refine(Qt (some rk) wr).mono ?_;rintro e w4 ⟨rfl,rfl⟩;go_wp2_with fail;refine(VK rk U D wr HOW.o (by unfold maxLen;omega) (by omega)).mono ?_;rintro e w5 ⟨v,ss,rfl,hp,hrow,hB⟩;obtain⟨a5,c5,rfl,hl5,hi5⟩:=pF hrow;obtain⟨hne,lo,Ea,KZ,hlk⟩:=XU HOW.o HD.o (by have:=vN.o;omega) hp;have vO:Hd (New wr w5):=jd (((Fr.refl (λ_=>False) wr).alloc _).trans (Fr.Gd hB _));have Ht:=jd KZ;have hloU:lo<U:=HLW.o lo KZ.1;have HJ5:=jd (HJ.o.nw vO.o)
 have hssl:ss.length<=1000000000:=by
  rw[hp.length_eq,(Ae HOW.o).2];exact anf
 clear hB hrow hp KZ hlk;go_wp2_with fail;refine(Uj a5 ss.length c5 ss w5 hi5 rfl hne (by omega)).mono ?_;rintro e w6 ⟨rfl,rfl⟩;rw[Ea];clear hi5 hl5 hne Ea;obtain⟨kp,Dp,hop,hdp⟩:=HJ5.o.pmap;obtain⟨kl,fY⟩:=K7.key lo (show lo<1000000000 by omega);have QO:=hdp.has lo kl fY;have hval:=hdp.val lo kl fY;have HOP:=jd hop;have HVAL:=jd hval;have HKL:=jd fY
 cases QJ:pf Q lo with
 |none=>
  rw[QJ]at QO;obtain⟨w7,hrun,hg7,Bg⟩:=dx.put K7 (⟨Dp,hop,hdp⟩:dx 3 KV Qf w6 pm k (pf Q) kp) (by unfold maxLen;omega) Tryz.Uc (p:=lo) (show lo<1000000000 by omega) (.map (some rk));rw[X3 (N4 QJ)]at hg7;have HO7:Hd (RO w w7 pm (k+1) bs V U (Q++[(lo,rk)]) C):=jd (HJ5.o.new HBB.o Ht.o (N4 QJ) Bg ⟨_,hg7⟩);have HHS:Hd (Maps.has Dp kl=false):=jd QO;clear hop hdp QO hval hg7 Bg
  have q1:(0:Int)<=(ql:Int):=by omega
  have q2:(ql:Int)<=1000000000:=by omega
  go_wp2_with (first
   |(at_lookup;refine wpList_lookup_own_ok _ rfl _ _ 127 rfl 3 86 K7.law Tryz.Uc hE (Tryz.Jm _) (.held (.map none)) [] rfl pm k Dp rfl HOP.o _ kl rfl HKL.o ?_;intro v ps hR;rw[HHS.o];clear hR))
  exact⟨⟨k+1,_,C,by omega,by go_num,by rw[ju,<-HQL.o];go_num,by rw[ju,<-HQL.o];simp;omega,HO7⟩,by simp[intOf];omega⟩
 |some v=>
  obtain⟨pk,rfl,hq⟩:=X2 QJ;rw[QJ]at QO hval;have HHS:Hd (Maps.has Dp kl=true):=jd QO
  have HVE:Hd (∀v ps,hE v=some (Dp.atKey kl (.held (.map none)),ps)->v=.map (some pk)):=jd λv ps h=>by
   rw[hval]at h;exact DataW.held.inj (Prod.ext_iff.1 (Option.some.inj h)).1
  have adh:=HJ5.o.qb _ hq;have anp:pk∈bs:=List.mem_of_mem_take adh;have hpr:pk≠rk:=yX Xp.o KB.o adh;have Xq:Hd (AL (C pk) lo):=jd (HJ5.o.el.piv.lo _ (jv.2 ⟨(lo,pk),hq,rfl⟩));obtain⟨⟨ks2,D2,dz,Sb⟩,aaT⟩:=HJ5.o.rows pk anp;have RF:=jd dz;have HD2:=jd Sb;have ajx:=jd aaT;have HQ:=jd hq;clear hop hdp QO hval dz Sb aaT adh hq QJ;obtain⟨it,Sl⟩:=jb w6.heap.size
  go_wp2_with (first
   |(at_lookup;refine wpList_lookup_own_ok _ rfl _ _ 127 rfl 3 86 K7.law Tryz.Uc hE (Tryz.Jm _) (.held (.map none)) [] rfl pm k Dp rfl HOP.o _ kl rfl HKL.o ?_;intro v ps hR;rw[HHS.o,HVE.o v ps hR];clear hR v ps)
   |(at_range;refine wpList_range_own _ rfl _ 86 rfl 3 4 K7.law Tryz.LS hE pk U D2 rfl RF.o ?_;intro w0 hrg0 hg0 hs0)
   |go_in)
  go_frame;rw[<-Sl.o]at hrg0 hs0 ⊢;have iu:Hd (New w6 w0):=jd ((Fr.refl (λ_=>False) w6).grown hg0 λk ek=>by cases ek)
  have Nh:Hd (eV U w0 rk (dp (C rk) (λx=>decide (x∈([]:List Nat))))):=jd (by
   have e:dp (C rk) (λx=>decide (x∈([]:List Nat)))=C rk:=funext λx=>by unfold dp;simp
   rw[e];exact(HJ5.o.rows rk E8).fr iu.o λx=>x)
  have ads:it≠rk:=by
   have:=(HJ5.o.rows rk E8).lt;have:=Sl.o;omega
  have Ni:=jd hrg0;clear hg0 hs0 hrg0
  go_loopw [10] (λ_ wx=>∃(left:Lit->Bool) (cnt:Nat) (done:List Nat),Hd (Xv 3 wx pk it U D2 left cnt)/\Hd (mX 3 KV Qf D2 (vU (C pk)) ks2 left done)/\Hd (Fr (λj=>j=rk\/j=it) w0 wx)/\Hd (eV U wx rk (dp (C rk) (λx=>decide (x∈done))))) (λ_ wx=>wx.rangeLeft pk it)
  case atStart=>exact⟨_,_,[],Ni,jd (mX.start HD2.o),jd (Fr.refl _ _),Nh⟩
  case round=>
  obtain⟨left,cnt,done,Ld,Sm,HF,sV⟩:=hrel;obtain⟨cu,Pq⟩:=jb (dp (C rk) (λx=>decide (x∈done)));rw[<-Pq.o]at sV
  go_wp2_with (first
   |(at_next;refine pR K7 rfl _ rfl pk it U cnt rfl Ld.o Sm.o ?_ ?_)
   |go_in)
  · intro hl0
    have R8:=Sm.o.perm K7 hl0
    have ahU:∀x,decide (x∈done)=C pk x:=λx=>by
     have h1:=R8.mem_iff (a:=x);have h2:=tE (n:=U) (v:=C pk) (ks:=ks2) ⟨D2,RF.o,HD2.o⟩ x
     cases hx:C pk x with
     |true=>exact jk (h1.2 (h2.2 hx))
     |false=>exact jm λq=>by rw[h2.1 (h1.1 q)]at hx;cases hx
    have HEC:Hd (cu=dp (C rk) (C pk)):=jd (by rw[Pq.o];exact congrArg _ (funext ahU));clear hl0 R8 ahU;go_wp2;go_roundw
    case rel=>
     have hr:=sV.o;rw[HEC.o]at hr
     have vq:Fr (λj=>j=rk) w6 wr:=(iu.o.mono λ_ h=>h.elim).next HF.o λi hi=>Or.elim hi .inl λe=>.inr (by rw[e,Sl.o];exact jH _)
     exact⟨rfl,_,_,jd (HJ5.o.add Xp.o HBB.o HQ.o vq hr)⟩
    case measure=>
    have hr:=sV.o;rw[HEC.o]at hr;exact Qq hU (HJ.o.rows rk E8) hr Ht.o (AL.step Ht.o Xq.o)
  intro p v kl2 w8 cnt2 ZL HPV JF QM CV DU hen;have HHPK:=ZL;obtain⟨klp,uT⟩:=K7.key p (show p<1000000000 by have:=ajx.o p ((tE (n:=U) (v:=C pk) (ks:=ks2) ⟨D2,RF.o,HD2.o⟩ p).1 ZL.o);omega);have hpU:p<U:=ajx.o p ((tE (n:=U) (v:=C pk) (ks:=ks2) ⟨D2,RF.o,HD2.o⟩ p).1 ZL.o);have HR8:Hd (eV U w8 rk cu):=jd (sV.o.fr DU λe=>ads e.symm);have Gy:=CV.nd
  have hpd:p∉done:=λq=>by
   have:=(jU.1 Gy).2.2 p q p (by simp) rfl;exact this
  have Nn:=jd CV;have KE:=jd JF;have Pp:Hd (Fr (λj=>j=rk\/j=it) w0 w8):=jd (HF.o.trans (DU.mono λ_ e=>.inr e));have adt:=HR8.o.get (x:=p) (by omega);obtain⟨bv,HBV⟩:=jb (cu p);rw[<-HBV.o]at adt
  have nM:∀x,dp (C rk) (λx=>decide (x∈done++[p])) x=if x=p then !(cu p)else cu x:=λx=>by
   rw[Pq.o];unfold dp;by_cases e:x=p
   · subst e
     simp[hpd]
   simp[e]
  clear CV JF Gy;cases bv
  focus
   obtain⟨w9,hrun,U3,hF9⟩:=HR8.o.put hU hpU
   have ZK:Hd (eV U w9 rk (dp (C rk) (λx=>decide (x∈done++[p])))):=jd (by
    have e:(dp (C rk) (λx=>decide (x∈done++[p])))=(λq=>if q=p then true else cu q):=funext λx=>by rw[nM x,<-HBV.o];rfl
    rw[e];exact U3)
   have Hu:=jd hF9;clear U3 hF9
  rotate_left
  focus
   obtain⟨⟨ks3,D3,JH,hd3⟩,JJ⟩:=HR8.o;have Wo:=jd JH;have HD3:=jd hd3;have aex:=jd JJ;clear JH hd3 JJ
   go_wp2_with (first
    |(at_delete;refine wpList_delete_own _ rfl _ _ 86 3 rfl 4 K7.law Tryz.LS hE rk U D3 rfl Wo.o _ klp rfl uT ?_;intro w9 ho9 ht9)
    |go_in)
   have U3:=eV.del HD3.o (Wo.o.tidy K7.law) aex.o uT ho9;have Hu:=jd (Es ht9)
   have ZK:Hd (eV U w9 rk (dp (C rk) (λx=>decide (x∈done++[p])))):=jd (by
    have e:(dp (C rk) (λx=>decide (x∈done++[p])))=(λq=>if q=p then false else cu q):=funext λx=>by rw[nM x,<-HBV.o];rfl
    rw[e];exact U3)
   clear U3 ho9 ht9;go_frame
  all_goals
   go_wp2;go_roundw
   case rel=>exact⟨_,cnt2,_,jd (KE.o.fr Hu.o hpr ads),Nn,jd (Pp.o.trans (Hu.o.mono λ_ e=>.inl e)),ZK⟩
   case measure=>rw[(KE.o.fr Hu.o hpr ads).left_eq,Ld.o.left_eq];exact QM
open Kn (bC oV bM par yM El eF Rk rkN Cb hn Kh tr oP pre)
theorem TQ(st k:Nat):(st ||| 2 ^ k).testBit=bC st.testBit k:=funext λj=>by
 unfold Kn.bC;rw[Nat.testBit_or,Nat.testBit_two_pow];by_cases e:j=k
 · subst e;simp
 rw[if_neg e,jm (λq=>e q.symm),Bool.or_false]
theorem idx_eq{a b:Nat×Nat}(ha:a∈l)(hb:b∈l)(e:l.idxOf a=l.idxOf b):a=b:=by
 have h1:=List.getElem_idxOf (jr ha);have h2:=List.getElem_idxOf (jr hb);rw[<-h1,<-h2]
 congr 1
abbrev Ec(X:List Cr)(L:Nat)(p:Nat×Nat):El:=(p.1.testBit,rL X L p.1.testBit p.2)
def XH(X:List Cr)(L:Nat)(p:Nat×Nat)(k:Nat):List (Nat×Nat):=if p.1.testBit k then []else(oZ X L p.1.testBit k p.2).map λm=>(p.1 ||| 2 ^ k,m)
def wY(X:List Cr)(L:Nat)(p:Nat×Nat)(n:Nat):List (Nat×Nat):=(List.range n).flatMap (XH X L p)
theorem Ih(X:List Cr)(L:Nat)(p:Nat×Nat)(n:Nat):wY X L p (n+1)=wY X L p n++XH X L p n:=by
 unfold wY;rw[jO,List.flatMap_append];simp
def l9(E l:List (Nat×Nat)):Nat->Bool:=λi=>par l λt=>decide (E.idxOf t=i)
theorem PU(E l:List (Nat×Nat))(t:Nat×Nat):l9 E (l++[t])=λi=>if i=E.idxOf t then !(l9 E l i)else l9 E l i:=funext λi=>by
 unfold l9;rw[Kn.lu,Kn.dy,Kn.F5,Bool.xor_false];by_cases c:i=E.idxOf t
 · rw[if_pos c,c,jk rfl,Bool.xor_true]
 rw[if_neg c,jm (λe=>c e.symm),Bool.xor_false]
section
variable {X:List Cr} {L:Nat}
theorem SD{S:Nat->Bool}{m m':Nat}(h:m'∈oZ X L S k m):m'<2 ^ eY X L (bC S k):=by
 unfold oZ at h
 have key:∀l one two,Kn.ig X L S (bC S k) m one two l<2 ^ eY X L (bC S k):=λl _ _=>Kn.Sr l
 split at h
 · split at h
   · simp only[jy,jz,or_false]at h
     rcases h with rfl|rfl
     · exact key _ _ _
     exact key _ _ _
   obtain rfl:=jB.1 h;exact key _ _ _
 split at h
 · obtain rfl:=jB.1 h
   exact key _ _ _
 split at h
 · obtain rfl:=jB.1 h
   exact key _ _ _
 cases h
theorem SK{t:Nat×Nat}(hk:k<X.length)(hp:p.1<2 ^ X.length)(h:t∈XH X L p k):t∈oV X L (2 ^ X.length):=by
 unfold XH at h;split at h
 · cases h
 obtain⟨m,hm,rfl⟩:=jv.1 h;rw[mY];refine⟨Nat.or_lt_two_pow hp (Nat.pow_lt_pow_right (by omega) hk),?_⟩
 show m<2 ^ eY X L (p.1 ||| 2 ^ k).testBit
 rw[TQ];exact SD hm
theorem abY{t:Nat×Nat}(hp:p.1<2 ^ X.length):∀{n:Nat},n<=X.length->t∈wY X L p n->t∈oV X L (2 ^ X.length):=λ{n} hn h=>by
 obtain⟨k,hk,ht⟩:=List.mem_flatMap.1 h;exact SK (by have:=jw.1 hk;omega) hp ht
theorem abZ(h:Kn.Ok X)(hp:Kn.aJ X=true)(p:Nat×Nat):yM ((wY X L p X.length).map (Ec X L)) ((eF X L).dl (Ec X L p)):=by
 unfold wY Kn.bI.dl;rw[List.map_flatMap]
 refine yM.MG λk hk=>?_
 have hk:k<X.length:=jw.1 hk
 show yM ((XH X L p k).map (Ec X L)) (if p.1.testBit k then []else((eF X L).dE p.1.testBit k (rL X L p.1.testBit p.2)).map λg=>(bC p.1.testBit k,g))
 unfold XH
 cases e:p.1.testBit k with
 |true=>simp only[if_true,List.map_nil];exact .refl _
 |false=>
  have ad:=(h.eF hp L).Fw p.1.testBit k hk e;have t:=h.XF (L:=L) hk e ad p.2;rw[if_neg (by simp),if_neg (by simp)];intro q;rw[List.map_map,lS,lS]
  have t1:=t λg=>q (bC p.1.testBit k,g)
  rw[lS]at t1
  show par _ (λx=>q ((p.1 ||| 2 ^ k).testBit,rL X L (p.1 ||| 2 ^ k).testBit x))=_
  rw[TQ];exact t1
theorem Y3(h:Kn.Ok X){q:Nat×Nat}(hp:p∈oV X L s)(hq:q∈oV X L s)(e:Ec X L p=Ec X L q):p=q:=by
 obtain⟨a,m⟩:=p;obtain⟨b,m'⟩:=q
 injection e with e1 e2
 have e1:a.testBit=b.testBit:=e1
 obtain rfl:a=b:=Nat.eq_of_testBit_eq λi=>congrFun e1 i
 have:=h.On (mY.1 hp).2 (mY.1 hq).2 e2;rw[show m=m' from this]
open Classical in
noncomputable def Cw (X:List Cr) (L:Nat) (E:List (Nat×Nat)) (z:El):Nat:=if h:∃p,p∈E/\Ec X L p=z then E.idxOf (Classical.choose h)else 0
theorem Yb(h:Kn.Ok X)(hp:p∈oV X L s):Cw X L (oV X L s) (Ec X L p)=(oV X L s).idxOf p:=by
 have hx:∃q,q∈oV X L s/\Ec X L q=Ec X L p:=⟨p,hp,rfl⟩
 unfold Cw;rw[dif_pos hx];have:=Classical.choose_spec hx;rw[Y3 h this.1 hp this.2]
theorem zN(X:List Cr)(L:Nat):bM X L=(oV X L (2 ^ X.length)).map (Ec X L):=Kn.Ro X L
theorem TC(m:Nat):∀k,Kn.cI (List.range k) (λi=>xk (m.testBit i))=2*(iU k m.testBit:Nat)-k
 |0=>rfl
 |k+1=>by
  rw[jO,Kn.qw,TC m k];unfold iU;rw[jO,List.countP_append,jG,List.countP_nil,Kn.bB]
  show _+(xk (m.testBit k)+0)=_
  unfold xk
  cases m.testBit k<;>simp<;>omega
theorem BQ(X:List Cr)(L:Nat)(S:Nat->Bool):eY X L S<=2*X.length+L:=by unfold eY;have:=iE X S;omega
theorem air(h:Kn.Ok X)(h6:X.length<=6)(hL:L<=2)(hp:p∈oV X L (2 ^ X.length)):
 (eF X L).dg (-(ml X:Int)) ((uJ X:Int)-2*(ml X:Int)) (Ec X L p)=zB X L p.1 p.2:=by
 obtain⟨h1,h2⟩:=mY.1 hp;have sz:=BQ X L p.1.testBit
 have e1:Kn.pop 14 p.1=iU X.length p.1.testBit:=by rw[xw h1 (by omega),Kn.FM]
 have e2:Kn.pop 14 p.2=iU (eY X L p.1.testBit) p.2.testBit:=by rw[xw h2 (by omega),Kn.FM]
 unfold Kn.bI.dg zB;have d:=h.Bl (L:=L) (S:=p.1.testBit) p.2;rw[TC]at d;rw[e1,e2]
 refine Prod.ext ?_ ?_
 · show ((iU X.length p.1.testBit:Nat):Int)+_=_
   simp only;omega
 show Kn.dq (eF X L).P ((eF X L).E p.1.testBit) (rL X L p.1.testBit p.2)+((iU X.length p.1.testBit:Nat):Int)+_=_
 rw[d]
 simp only;omega
theorem VY(h:Kn.Ok X)(h6:X.length<=6)(hL:L<=2)(d:Int×Int):
 at' (bM X L) ((eF X L).dg (-(ml X:Int)) ((uJ X:Int)-2*(ml X:Int))) d=(sO (λp=>zB X L p.1 p.2) (oV X L (2 ^ X.length)) d).map (Ec X L):=by
 unfold at' sO;rw[zN,List.filter_map]
 congr 1
 refine List.filter_congr λp hp=>?_
 show decide ((eF X L).dg _ _ (Ec X L p)=d)=_
 rw[air h h6 hL hp]
theorem I4(h:Kn.Ok X)(hp:Kn.aJ X=true)(h6:X.length<=6)(hL:L<=2)(d:Int×Int)
 (hr:Rk ((sO (λp=>zB X L p.1 p.2) (oV X L (2 ^ X.length)) d).map λp=>l9 (oV X L (2 ^ X.length)) (wY X L p X.length)) r):
 Cb (bM X L) (eF X L).M ((eF X L).dg (-(ml X:Int)) ((uJ X:Int)-2*(ml X:Int))) d=r:=by
 obtain⟨E,hE⟩:∃E,E=oV X L (2 ^ X.length):=⟨_,rfl⟩
 have hU:=h.bM L;have ko:=h.eF hp L;unfold Cb;rw[VY h h6 hL];rw[<-hE]at hr ⊢
 have gE:∀p∈sO (λp=>zB X L p.1 p.2) E d,p∈E:=λp hp=>(jC.1 hp).1
 have inU:∀p∈E,Ec X L p∈bM X L:=λp hp=>by rw[zN,<-hE];exact jv.2 ⟨p,hp,rfl⟩
 have toE:∀x∈bM X L,∃p∈E,Ec X L p=x:=λx hx=>by rw[zN,<-hE]at hx;exact jv.1 hx
 have nat:∀p∈E,Cw X L E (Ec X L p)=E.idxOf p:=λp hp=>by rw[hE]at hp ⊢;exact Yb h hp
 have inj:∀x∈bM X L,∀y∈bM X L,Cw X L E x=Cw X L E y->x=y:=λx hx y hy e=>by
  obtain⟨p,hp,rfl⟩:=toE x hx;obtain⟨q,hq,rfl⟩:=toE y hy;rw[nat p hp,nat q hq]at e;rw[idx_eq hp hq e]
 refine Kn.X0 hU.nd (Cw X L E) inj (R:=(sO (λp=>zB X L p.1 p.2) E d).map (Ec X L)) (eF X L).M
  (λy i=>par ((eF X L).dl y) λz=>tr (Cw X L E z=i)) (λy hy x e=>?_) (λy hy i=>?_) ?_
 · obtain⟨p,hp,rfl⟩:=jv.1 hy
   exact hU.sup ko (inU p (gE p hp)) x e
 · obtain⟨p,hp,rfl⟩:=jv.1 hy
   have QQ:=hU.dl ko (inU p (gE p hp))
   have same:∀x∈bM X L,Cw X L E x=i->par ((eF X L).dl (Ec X L p)) (λz=>tr (Cw X L E z=i))=(eF X L).M (Ec X L p) x:=λx hx e=>by
    unfold Kn.bI.M
    refine Kn.dW λz hz=>?_
    rw[jD,bf,bf];exact⟨λe2=>inj z (QQ z hz) x hx (e2.trans e.symm),λe2=>by rw[e2];exact e⟩
   constructor
   · intro e
     obtain⟨z,hz,ez⟩:=Kn.xA e;have ez:=bf.1 ez;exact⟨z,QQ z hz,ez,by rw[<-same z (QQ z hz) ez];exact e⟩
   rintro⟨x,hx,ex,e⟩
   rw[<-e];exact same x hx ex
 rw[List.map_map]
 have e:∀p∈sO (λp=>zB X L p.1 p.2) E d,l9 E (wY X L p X.length)=((λy i=>par ((eF X L).dl y) λz=>tr (Cw X L E z=i))∘Ec X L) p:=λp hpg=>funext λi=>by
  have q:=abZ (L:=L) h hp p λz=>tr (Cw X L E z=i)
  rw[lS]at q
  show _=par ((eF X L).dl (Ec X L p)) _
  rw[<-q];unfold l9
  refine Kn.dW λt ht=>?_
  have hpe:=gE p hpg;rw[hE]at hpe
  have Be:t∈E:=by rw[hE];exact abY (mY.1 hpe).1 (jH _) ht
  rw[jD,bf,jt,nat t Be]
 exact Eq.mp (congrArg (λl=>Rk l r) (List.map_congr_left e)) hr
theorem Ux(h:Kn.Ok X)(hp:Kn.aJ X=true)(h6:X.length<=6)(hL:L<=2)(d:Int×Int){r':Nat}
 (hr:Rk ((sO (λp=>zB X L p.1 p.2) (oV X L (2 ^ X.length)) d).map λp=>l9 (oV X L (2 ^ X.length)) (wY X L p X.length)) r)
 (hr':Rk ((sO (λp=>zB X L p.1 p.2) (oV X L (2 ^ X.length)) (pre d)).map λp=>l9 (oV X L (2 ^ X.length)) (wY X L p X.length)) r'):
 Kh X L (bM X L) d=((sO (λp=>zB X L p.1 p.2) (oV X L (2 ^ X.length)) d).length:Int)-r-r':=by
 unfold Kh hn;rw[I4 h hp h6 hL d hr,I4 h hp h6 hL (pre d) hr',VY h h6 hL,jA]
end
theorem OV{X:List Cr}{L:Nat}(h6:X.length<=6)(hL:L<=2):∀s,(oV X L s).length<=s*16384
 |0=>Nat.zero_le _
 |s+1=>by
  have ih:=OV (X:=X) h6 hL s;rw[<-Kn.J2];unfold Bk;rw[ju,jA,jS];have h1:=BQ X L s.testBit;have h2:2 ^ eY X L s.testBit<=2 ^ 14:=jI (by omega) (by omega);omega
theorem OW{X:List Cr}{L:Nat}(h6:X.length<=6)(hL:L<=2)(s m:Nat):(Bk X L s m).length<=s*16384+m:=by
 have:=OV (X:=X) h6 hL s;unfold Bk
 rw[ju,jA,jS];omega
end Go.Proofs.YtfplmbmenjdlhaaGreatDoor
