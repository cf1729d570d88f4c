/- Walks: the bracket. -/
import Derived.Test.YtfplmbmenjdlhaaGreatDoorJ5b
set_option maxRecDepth 100000
set_option maxHeartbeats 16000000
namespace Go.Proofs.YtfplmbmenjdlhaaGreatDoor
open Go.RowKit
open AllReadyH (cons nil)
open Fr (refl)
open IntKind (i64 u64 wrap)
open IntWalk (i64_in)
open Kn (Cr xO df EL pw two)
open Pl (T co gF)
open Go.Proofs.Tryz (prog underlying3)
theorem Kk(b n:Nat)(X:List Cr)(L:Nat)(w:World)(h:fS w b X (L:Int))(hX:Kn.Ok X)(hn:n=X.length)(Vd:n<=12)(hL:2*n+L<=30)(hL1:L<=16)(h0:0<n+L)(ht:He w):
 Calls prog 21 #[.pointer (some ⟨b,0,none⟩)] w λe w'=>∃v l,e=.returned v/\Wk w' v l 301/\New w w'/\(∀x,co l x=gF (df X L (2 ^ n)) (EL x))/\(∀t∈l,-(150:Int)<=t.1/\t.1<=150)/\Pl.size l<=10000000000000:=by
 have HS:=jd h;have HX:=jd hX;have HN:=jd hn;have HT:=jd ht;have Ai:=@run_makeMap prog;obtain⟨a1,c1,h0w,hLw,iw⟩:=h.uh;rw[<-hn]at h0w;obtain⟨mb,uq⟩:=jb w.heap.size;have hs2:wrap64 (2 ^ n)=((2 ^ n:Nat):Int):=jl (List.all_eq_true.1 Ss n (jw.2 (by omega)));clear h hX hn ht iw hLw;obtain⟨N,Sg⟩:=jb (2 ^ n)
 have hN:N<=4096:=by rw[Sg.o];exact jI (by decide) Vd
 rw[<-Sg.o]at hs2 ⊢
 go_enter Tryz.func21,Tryz.ntmps21
 go_wp2;rw[hs2,<-uq.o];clear h0w hs2;have HK0:Hd (uo (w.alloc (.map #[] 0)) mb 0 (df X L 0)):=jd (by rw[uq.o];exact uo.made w)
 go_loopw [19] (λi wr=>∃k:Nat,k<=N/\i=.int .i64 k/\Hd (New w wr)/\Hd (uo wr mb k (df X L k))) (λi _=>N-(intOf i).toNat)
 case atStart=>exact⟨0,by omega,rfl,jd ((refl _ _).alloc _),HK0⟩
 case round=>
 obtain⟨k,hk,rfl,HF,HK⟩:=hrel;by_cases hkn:k<N
 · have hk4:k<4096:=by omega
   have hp:=CH (X:=X) (L:=L) (by have:=HN.o;omega) (by have:=HN.o;omega) k;have hco:=Pl.p6 (Nat.le_of_eq (oh X L k)) (sM (xO X L k));obtain⟨p,HP⟩:=jb (xO X L k);rw[<-HP.o]at hp hco;have ZL:=jd hp
   have FA:Hd (((Kn.pop 12 k:Nat):Int)*2=n-p.1):=jd (by
    have e:Kn.pop 12 k=Kn.pop n k:=xw (by have:=Sg.o;omega) Vd;rw[HP.o,e];have:=HN.o;subst this
    simp only[xO];omega)
   have HP2:Hd (((2*n+L-(Kn.ij (X.map Kn.qd) (Kn.start n) k).2:Nat):Int)=p.2):=jd (by
    rw[HP.o];have:=HN.o;subst this
    rfl)
   obtain⟨⟨p1,p2⟩,p3,p4⟩:=hp;obtain⟨m1,nN⟩:=jb p.1;obtain⟨m2,nA⟩:=jb p.2;obtain⟨pc,HPC⟩:=jb (Kn.pop 12 k);obtain⟨cc,Hw⟩:=jb (co (df X L k) (sM p));rw[<-nN.o]at p1 p2;rw[<-nA.o]at p3 p4;rw[<-Hw.o]at hco
   have hco1:-5000<=cc:=by omega
   have hco2:cc<=5000:=by omega
   have R9:pc<=12:=by rw[HPC.o];exact N0 12 k
   have R8:(n:Int)-2*(pc:Int)=m1:=by have:=FA.o;rw[<-HPC.o,<-nN.o]at this;omega
   have EP:p=(m1,m2):=by rw[nN.o,nA.o]
   have HEP:=jd EP;clear hco EP;go_upto_region 6 with fail;obtain⟨r0,sY⟩:=jb wr.drew;have iu:Hd (New w r0):=jd (by rw[sY.o];exact HF.o.drew);have HK1:Hd (uo r0 mb k (df X L k)):=jd (HK.o.fr (show New wr r0 by rw[sY.o];exact(refl _ _).drew) λx=>x)
   have LK:∀wz,uo wz mb k (df X L k)->(Instr.lookup 111 (.map (some mb)) (.agg #[.int .i64 m1,.int .i64 m2]) false).run prog wz=.ok (.int .i64 cc) wz:=λwz hz=>by
    have:=hz.look ZL.o;rw[HEP.o]at this
    rw[Hw.o,HEP.o];exact this
   have HLK:=jd LK
   refine wp_region_held_drew (S:=λ_=>True) (by kernel_rfl) trivial (λhHeld=>?_)
   rw[<-sY.o];clear LK
   refine' sq 0 (h:=sq 1 (h:=sq 2 (h:=sq 3 (h:=sq 7 (h:=sq 8 (h:=?_))))))
   refine dQ (i:=4) (λK hK=>?_);(try simp only[aR,aP,aO]);go_simp;rw[show u64.wrap (k:Int)=(k:Int)by unfold wrap;simp[IntKind.signed,IntKind.bits];omega];refine(TS k hk4 _).mono ?_;rintro e r1 ⟨rfl,hF⟩;rw[<-HPC.o];have gQ:=jd (iu.o.trans hF);have HK2:=jd (HK1.o.fr hF λx=>x);clear hF;go_wp2_with fail;refine hK.out _ _ trivial (λhHeld=>?_);clear hK K;(try simp only[Act.put,aR,aP,aO,bQ,bP,bO])
   refine' sq 5 (h:=sq 6 (h:=?_))
   refine dQ (i:=9) (λK hK=>?_);(try simp only[aR,aP,aO]);go_simp;refine(PV b k n X L _ (New.kM gQ.o HS.o) HX.o HN.o Vd hk4 hL1 (New.Y0 gQ.o HT.o)).mono ?_;rintro e r2 ⟨rfl,hF⟩;rw[HP2.o,<-nA.o];have kZ:=jd (gQ.o.trans hF);have HK3:=jd (HK2.o.fr hF λx=>x);clear hF;go_wp2_with fail;refine hK.out _ _ trivial (λhHeld=>?_);clear hK K;(try simp only[Act.put,aR,aP,aO,bQ,bP,bO])
   rw[show i64.wrap ((n:Int)-i64.wrap (2*(pc:Int)))=m1 by rw[i64_in (2*(pc:Int)) (by omega),i64_in _ (by omega),R8]]
   refine' sq 10 (h:=?_)
   have Eb:=HLK.o _ HK3.o;have Wv:=jd Eb;clear Eb;obtain⟨v0,st,W1,W2,QL,Fb,hlk,hes,hk2,hF2⟩:=HK3.o.entry (by unfold maxLen;omega) ZL.o (by rw[<-Hw.o];omega);rw[<-Hw.o]at hlk hes;rw[HEP.o]at QL hlk;have RL:Hd ((Instr.mapEntry 111 (.map (some mb)) (.agg #[.int .i64 m1,.int .i64 m2])).run prog r2=.ok (.tuple #[v0,.int .i64 st]) W1):=jd QL;have Wu:Hd ((Instr.lookup 111 (.map (some mb)) (.agg #[.int .i64 m1,.int .i64 m2]) false).run prog W1=.ok (.int .i64 cc) W1):=jd hlk;have HES:=jd hes;clear QL hlk hes
   refine wpAnyH_ready (rs:=[11,13]) (by kernel_rfl) (by simp) ?_
   have HPE:Hd (sM p=Kn.sL X L k):=jd (by rw[HP.o];rfl)
   refine cons rfl (λK hK=>?_) (cons rfl (λK hK=>?_) nil)
   focus
    skip;(try simp only[aR,aP,aO]);have heq:=Wv.o;go_simp;clear heq;refine hK.out _ _ trivial (λhHeld=>?_);clear hK K;(try simp only[Act.put,aR,aP,aO,bQ,bP,bO])
    refine' sq 12 (h:=?_)
    rw[show i64.wrap (cc+1)=cc+1 from i64_in _ (by omega)];refine dQ (i:=13) (λK hK=>?_);(try simp only[aR,aP,aO]);have heq:=RL.o;go_simp;clear heq;refine hK.out _ _ trivial (λhHeld=>?_);clear hK K;(try simp only[Act.put,aR,aP,aO,bQ,bP,bO])
    refine' sq 14 (h:=?_)
   rotate_left
   focus
    skip;(try simp only[aR,aP,aO]);have heq:=RL.o;go_simp;clear heq;refine hK.out _ _ trivial (λhHeld=>?_);clear hK K;(try simp only[Act.put,aR,aP,aO,bQ,bP,bO])
    refine' sq 14 (h:=?_)
    refine dQ (i:=11) (λK hK=>?_);(try simp only[aR,aP,aO]);have heq:=Wu.o;go_simp;clear heq;refine hK.out _ _ trivial (λhHeld=>?_);clear hK K;(try simp only[Act.put,aR,aP,aO,bQ,bP,bO])
    refine' sq 12 (h:=?_)
    rw[show i64.wrap (cc+1)=cc+1 from i64_in _ (by omega)]
   all_goals
    refine dQ (i:=15) (λK hK=>?_);(try simp only[aR,aP,aO]);have heq:=HES.o;go_simp;clear heq;refine hK.out _ _ trivial (λhHeld=>?_);clear hK K;(try simp only[Act.put,aR,aP,aO,bQ,bP,bO]);refine wpAnyH_done (by kernel_rfl) ?_ _;go_wp2;go_roundw
    case rel=>exact⟨k+1,by omega,by go_num,jd (kZ.o.next hF2 λi hi=>.inr (by rw[hi,uq.o];exact jH _)),jd (by rw[Kn.rN];have h:=hk2;rw[HPE.o]at h;exact h)⟩
    case measure=>simp[intOf];omega
 obtain rfl:N=k:=by omega
 obtain⟨mp,HMP⟩:=jb wr.heap.size;obtain⟨wa,Lc⟩:=jb (wr.alloc (.map #[] 0));have HOa:Hd (OM wa mp 0 (.map [])):=jd (by rw[Lc.o,HMP.o];exact World.ownsMap_made _ _ _ _);have Wq:Hd (New wr wa):=jd (by rw[Lc.o];exact(refl _ _).alloc _)
 have hmbl:mb<mp:=by rw[HMP.o];exact HK.o.lt
 obtain⟨D,hD⟩:=HK.o;have HOD:=jd hD.1;have HKD:=jd hD.2;clear hD;obtain⟨i1,Sa,UR,UQ,UO⟩:=info_parts Tryz.ac6
 go_wp2_with (first
  |(rw[<-Lc.o,<-HMP.o];refine ke _ rfl _ _ _ 59 rfl 3 3 iW sR _ _ 0 _ rfl HOa.o (by unfold maxLen;omega) _ _ _ rfl rfl (Maps.keyOf_int_mk underlying3 (lg (by omega))) _ [] (plainElem_int underlying3 (lg (by omega))) ?_;intro w3 dz hg2;have HO3:=jd dz;have pO:Hd (New wr w3):=(jd (Wq.o.grown hg2 λk ek=>.inr (by cases ek;rw[HMP.o];exact jH _)));clear dz hg2)
  |(at_range;refine wpList_range_own _ rfl _ 111 rfl 114 3 Tryz.rM Tryz.H9 _ mb N D rfl (agA HOD.o (((pO.o.alloc _).alloc _))) ?_;intro w0 hrg0 hg0 hs0)
  |go_in)
 go_frame;obtain⟨r,HR⟩:=jb (((w3.alloc (.cells #[.map (some mp)] 59)).alloc (.map #[] 0)).heap.size);have HG0:Hd (New ((w3.alloc (.cells #[.map (some mp)] 59)).alloc (.map #[] 0)) w0):=jd ((refl _ _).grown hg0 λk ek=>by cases ek);have iu:Hd (New w w0):=jd (((((HF.o.trans pO.o).alloc _).alloc _)).trans HG0.o);have ZN:Hd (oI w.heap.size w0 (.slice (some ⟨w3.heap.size,0,none⟩) 1 1) 1):=jd (oI.new (oI.new (oI.one ⟨_,_,rfl,HO3.o,RD.put (c:=1) RD.empty rfl⟩ (HF.o.trans pO.o).size) ((refl _ _).alloc _)) HG0.o)
 have e0:(w3.alloc (.cells #[.map (some mp)] 59)).heap.size=w3.heap.size+1:=by simp
 have Se:Hd (Wk w0 (.map (some (w3.heap.size+1))) [] 301):=jd (New.wk HG0.o (Wk.mono ⟨_,_,rfl,by rw[<-e0];exact World.ownsMap_made _ _ _ _,RD.empty⟩ (Nat.zero_le _)));rw[<-HR.o]at hrg0 ⊢;have Ni:=jd hrg0;have apH:Hd (qU D (df X L N) (Maps.has D) []):=jd (qU.start HKD.o (Mf (by have:=HN.o;omega) (by have:=HN.o;omega) N));have ZJ:Hd (w.heap.size<=r):=jd (by rw[HR.o];have:=(HF.o.trans pO.o).size;simp;omega);clear hrg0 hg0 hs0 e0 HOD HO3 pO Wq HOa Lc HK HK0
 go_loopw [6,7] (λpv ov wr=>∃(left:Lit->Bool) (cnt m:Nat) (done l:List T),1<=m/\m<=30/\Hd (Na wr mb r N D left cnt)/\Hd (qU D (df X L N) left done)/\Hd (oI w.heap.size wr pv m)/\Hd (Wk wr ov l 301)/\Hd (BO done l)/\Hd (New w wr)) (λ_ _ wr=>wr.rangeLeft mb r)
 case atStart=>exact⟨_,_,1,[],[],by omega,by omega,Ni,apH,ZN,Se,jd BO.start,iu⟩
 case round=>
 obtain⟨left,cnt,m,done,l,Aj,hm30,Ld,HKP,HPW,Ky,HBO,FE⟩:=hrel;obtain⟨a6,c6,rfl⟩:=HPW.o.sl;obtain⟨ob,_,_,rfl,_⟩:=Ky.o.blk
 go_wp2_with (first
  |(at_next;refine yN rfl _ rfl mb r N D (df X L N) left cnt done rfl Ld.o HKP.o ?_ ?_)
  |go_in)
 · intro hl0
   have ZW:=jd hl0;clear hl0;go_wp2;go_ret
   exact⟨_,l,rfl,Ky.o,FE.o,λx=>by rw[HBO.o.co,HKP.o.all ZW.o],HBO.o.yf,by
    have h1:=HBO.o.size;have h2:=HKP.o.part.size_le;rw[oh]at h2
    omega⟩
 intro m1 m2 c kl w2 cnt2 hk hc hrg hlt uT hF2 hen
 obtain⟨q1,q2⟩:=Tn HX.o (L:=L) (k:=N) (by have:=HN.o;omega) (by have:=HN.o;omega) (by have:=HN.o;omega) hk (by
  obtain⟨u,hu,e⟩:=uT.part.yf (sM (m1,m2),c) (by simp)
  exact⟨u,hu,e⟩)
 have hcb:=Pl.p6 (Nat.le_of_eq (oh X L N)) (sM (m1,m2));rw[<-hc]at hcb;obtain⟨c1',c2'⟩:=hcb;obtain⟨o',a',sn,cx,hir⟩:=Ld.o.iter;have ajf:Hd (oI w.heap.size w2 (.slice a6 m c6) m):=jd (HPW.o.turn hF2 hir);have aiX:Hd (Wk w2 (.map (some ob)) l 301):=jd (Ky.o.turn hF2 hir);have ajI:Hd (New w w2):=jd (FE.o.next hF2 λi hi=>.inr (by rw[hi];exact ZJ.o));have aj3:Hd (BO (done++[(sM (m1,m2),c)]) (l++sh m1 c (pw (m2.toNat-1)))):=jd (HBO.o.step hk q1 q2);have HK2:=jd hk;have ajB:=jd uT;have ajc:=jd hrg
 have ZT:=jd hlt;clear hk hc hrg hlt uT hF2 hir;obtain⟨kb,HKB⟩:=jb w2.heap.size;obtain⟨wk,HWK⟩:=jb (w2.alloc (.cells #[.int .i64 m1,.int .i64 m2] 114))
 have HNk:New w2 wk:=by rw[HWK.o];exact(refl _ _).alloc _
 have apl:Hd (oI w.heap.size wk (.slice a6 m c6) m):=jd (ajf.o.new HNk);have ao0:Hd (Wk wk (.map (some ob)) l 301):=jd (New.wk HNk aiX.o);have apT:Hd (New w wk):=jd (ajI.o.trans HNk);have apg:=jd (ajc.o.new HNk);have apJ:Hd (wk.heap[kb]?=some (.cells #[.int .i64 m1,.int .i64 m2] 114 (0,0))):=jd (by rw[HWK.o,HKB.o];exact heap_alloc_new w2 _);go_wp2_with fail;rw[<-HWK.o,<-HKB.o];clear HNk ajf aiX ajI ajc HWK HKB hen
 go_loopw [6] (λpv wr=>∃q:Nat,q<=29/\Hd (oI w.heap.size wr pv (q+1))/\Hd (Na wr mb r N D (λz=>left z && !z.sameKey kl) cnt2)/\Hd (Wk wr (.map (some ob)) l 301)/\Hd (New w wr)/\Hd (wr.heap[kb]?=some (.cells #[.int .i64 m1,.int .i64 m2] 114 (0,0)))) (λpv _=>30-aag pv)
 case atStart=>
  obtain⟨q,rfl⟩:∃q,m=q+1:=⟨m-1,by omega⟩
  exact⟨q,by omega,apl,apg,ao0,apT,apJ⟩
 case round=>
 obtain⟨q,hq,HP,aej,aiW,HFR,HKr⟩:=hrel;obtain⟨k0,k1⟩:=tk HKr.o;obtain⟨g6,c7,bq,rfl,hcell,hwk⟩:=HP.o.at (i:=q) (by omega);have Zz:=jd hwk;clear hwk;by_cases hlt:(q:Int)+1<m2
 · obtain⟨vs,h1,h2⟩:=HP.o
   have hvl:vs.length=q+1:=by rw[h2.len,jS]
   rw[hvl]at h1;have H1:=jd h1;have H2:=jd h2;clear h1 h2 hvl;obtain⟨mq,HMQ⟩:=jb wr.heap.size;obtain⟨wa,Lc⟩:=jb (wr.alloc (.map #[] 0));have HOa:Hd (OM wa mq 0 (.map [])):=jd (by rw[Lc.o,HMQ.o];exact World.ownsMap_made _ _ _ _);have Wq:Hd (New wr wa):=jd (by rw[Lc.o];exact(refl _ _).alloc _)
   have hq0:(0:Int)<=(q:Int):=by omega
   go_wp2_with (first
    |(rw[<-Lc.o,<-HMQ.o];refine ke _ rfl _ _ _ 59 rfl 3 3 iW sR _ _ 0 _ rfl HOa.o (by unfold maxLen;omega) _ _ _ rfl rfl (Maps.keyOf_int_mk underlying3 (lg (by omega))) _ [] (plainElem_int underlying3 (lg (by omega))) ?_;intro wb dz hg2;have HOb:=jd dz;have ZQ:Hd (New wr wb):=(jd (Wq.o.grown hg2 λk ek=>.inr (by cases ek;rw[HMQ.o];exact jH _)));clear dz hg2)
    |(refine ke _ rfl _ _ _ 59 rfl 3 3 iW sR _ _ 1 _ rfl HOb.o (by unfold maxLen;omega) _ _ _ rfl rfl (Maps.keyOf_int_mk underlying3 (lg (by omega))) _ [] (plainElem_int underlying3 (lg (by omega))) ?_;intro wc dz hg2;have Xi:Hd (Wk wc (.map (some mq)) two 2):=(jd ⟨_,_,rfl,dz,RD.put (c:=-1) (RD.put (c:=-1) RD.empty (by decide)) (by decide)⟩);have HNc:Hd (New wr wc):=(jd (ZQ.o.grown hg2 λk ek=>.inr (by cases ek;rw[HMQ.o];exact jH _)));clear dz hg2)
    |(go_at_call 41;refine(BG _ _ (pw q) two (4*q+1) 2 _ (New.wk HNc.o Zz.o) Xi.o (by omega) (aak (by omega)) abT (by rw[Kn.xu];exact I5 hq)).mono ?_;rintro e wd ⟨vd,rfl,hwd,hNd⟩;obtain⟨bd,_,_,rfl,_⟩:=hwd.blk;have HWD:Hd (Wk wd (.map (some bd)) (pw (q+1)) (4*(q+1)+1)):=(jd (by have h:Wk wd (.map (some bd)) (pw (q+1)) ((4*q+1)*2):=hwd;have h3:=h.few (N:=2*(q+1)) (λt ht=>by have:=Kn.uF _ t ht;omega);exact h3.mono (by omega)));have RI:Hd (New wr wd):=(jd (HNc.o.trans hNd));have Ng:Hd (wd.ownsRow w.heap.size 59 1 (.slice (some ⟨g6,0,none⟩) (q+1) c7) (q+1) vs):=(jd (RI.o.owns H1.o λ_ _ x=>x));clear hwd hNd)
    |(at_builtin;refine wpList_append_own _ rfl _ _ 115 rfl w.heap.size 59 i1 (.map none) 1 8 Tryz.underlying115 Sa UR UQ UO rfl (by decide) _ (q+1) vs rfl (World.ownsRow.alloc Ng.o _) ⟨wd.heap.size,0,none⟩ 1 1 [.map (some bd)] rfl rfl (cell_one_new _ _ _) (X8 _) (by unfold maxLen;omega) (by omega) (by have:=HFR.o.size;have:=RI.o.size;simp;omega) ?_;intro v' w7 hown cN _;obtain⟨a9,c10,rfl,_⟩:=dr hown;have HOW:=jd hown;have KN:=jd cN;clear hown cN)
    |go_in)
   go_roundw
   case rel=>
    refine⟨q+1,by omega,jd (oI.snoc Ng.o (H2.o.mono λ_ _ x=>New.wk RI.o x) HWD.o HOW.o KN.o),jd ((aej.o.new RI.o).grown Ng.o KN.o),jd ((New.wk RI.o aiW.o).grown Ng.o KN.o),jd (((HFR.o.trans RI.o).alloc _).grown KN.o λk ek=>.inr (dR Ng.o k ek)),jd ?_⟩
    have hF:Fr (λk=>(Value.slice (some ⟨g6,0,none⟩) (q+1) c7).ownBlock=some k) wd w7:=((refl _ wd).alloc _).grown KN.o λk ek=>.inl ek
    have hb:=RI.o.blk HKr.o λx=>x
    exact hF.blk hb (aU hb Ng.o (by decide))
   case measure=>simp[aag];omega
 clear hcell
 obtain⟨j,rfl⟩:∃j:Nat,m2=(j:Int)+1:=⟨(m2-1).toNat,by omega⟩
 have hjq:j<q+1:=by omega
 obtain⟨g7,c8,bj,ej,hcj,hwj⟩:=HP.o.at hjq
 have eg:g7=g6:=by injection ej with e1;injection e1 with e2;injection e2 with e3;exact e3.symm
 subst eg;have HWJ:=jd hwj;clear ej hwj Zz;obtain⟨⟨b1,b2⟩,_,_⟩:=HK2.o;simp only at b1 b2;obtain⟨y0,Zx⟩:=jb wr.drew
 have QR:y0.cell? ⟨g7,j,none⟩=some (.map (some bj)):=by rw[Zx.o];exact hcj
 have Zy:Hd (New wr y0):=jd (by rw[Zx.o];exact(refl _ _).drew);have aeA:Hd (y0.heap[kb]?=some (.cells #[.int .i64 m1,.int .i64 ((j:Int)+1)] 114 (0,0))):=jd (Zy.o.blk HKr.o λx=>x);clear hcj;have hSS:y0.cell? ⟨kb,0,none⟩=some (.int .i64 m1)/\y0.cell? ⟨kb,1,none⟩=some (.int .i64 ((j:Int)+1))/\y0.cell? ⟨g7,j,none⟩=some (.map (some bj)):=⟨(tk aeA.o).1,(tk aeA.o).2,QR⟩;rw[Zx.o]at hSS;have HCJ:=jd QR;clear QR;go_wp2_with fail;have QR:=HCJ.o
 have j1:(0:Int)<=(j:Int):=by omega
 have j2:(j:Int)<(q:Int)+1:=by omega
 clear k0 k1 HCJ
 refine wp_region_held_drew (S:=λwz=>wz.cell? ⟨kb,0,none⟩=some (.int .i64 m1)/\wz.cell? ⟨kb,1,none⟩=some (.int .i64 ((j:Int)+1))/\wz.cell? ⟨g7,j,none⟩=some (.map (some bj))) (by kernel_rfl) hSS (λhHeld=>?_)
 rw[<-Zx.o]at hHeld ⊢;clear hSS
 refine' sq 0 (h:=sq 1 (h:=sq 2 (h:=sq 3 (h:=sq 4 (h:=?_)))))
 (try rw[show i64.wrap (j:Int)=(j:Int)from i64_in _ (by omega)])
 refine' sq 5 (h:=sq 6 (h:=sq 7 (h:=sq 8 (h:=sq 9 (h:=?_)))))
 refine dQ (i:=10) (λK hK=>?_);(try simp only[aR,aP,aO]);go_simp;refine(BV (.map (some bj)) m1 c (pw j) (4*j+1) _ (New.wk Zy.o HWJ.o) (by omega) (by omega) (by omega) (aak (by omega)) (by rw[Kn.xu];exact jJ (jI (by decide) (show j<=29 by omega)) (by decide))).mono ?_;rintro e y1 ⟨v1,rfl,Gw,hF⟩;have yC:=jd Gw;obtain⟨t1,_,_,rfl,_⟩:=Gw.blk;have HY1:=jd (Zy.o.trans hF);have aez:=jd (hF.blk aeA.o λx=>x)
 have adA:=hF.cell QR λx=>x
 clear hF Gw QR;go_wp2_with fail;refine hK.out _ _ ⟨(tk aez.o).1,(tk aez.o).2,adA⟩ (λhHeld=>?_);clear hK K;(try simp only[Act.put,aR,aP,aO,bQ,bP,bO]);refine dQ (i:=11) (λK hK=>?_);(try simp only[aR,aP,aO]);go_simp;refine(EG (.map (some ob)) (.map (some t1)) l (sh m1 c (pw j)) 301 (4*j+1) _ (New.wk HY1.o aiW.o) yC.o (by omega) (agl (by omega) (by omega)) (Zp (by have h:=aj3.o;rwa [show ((j:Int)+1).toNat-1=j by omega]at h) ajB.o (by rw[oh];exact hN))).mono ?_;rintro e y2 ⟨v2,rfl,hw2,hF⟩
 have Hq:=jd hw2;obtain⟨t2,_,_,rfl,_⟩:=hw2.blk;have HY2:=jd (HY1.o.trans hF);have ajA:=jd (hF.blk aez.o λx=>x)
 have an9:=hF.cell adA λx=>x
 clear hF hw2 adA;go_wp2_with fail;refine hK.out _ _ ⟨(tk ajA.o).1,(tk ajA.o).2,an9⟩ (λhHeld=>?_);clear hK K;(try simp only[Act.put,aR,aP,aO,bQ,bP,bO])
 refine' sq 12 (h:=?_)
 refine wpAnyH_done (by kernel_rfl) ?_ _;have aj2:Hd (BO (done++[(sM (m1,(j:Int)+1),c)]) (l++sh m1 c (pw j))):=jd (by have h:=aj3.o;rwa [show ((j:Int)+1).toNat-1=j by omega]at h);go_wp2;go_roundw
 case rel=>exact⟨_,cnt2,q+1,_,_,by omega,by omega,jd (aej.o.new HY2.o),ajB,jd (HP.o.new HY2.o),jd ((Hq.o.few (N:=150) aj2.o.yf).mono (by omega)),aj2,jd (HFR.o.trans HY2.o)⟩
 case measure=>
 have h1:=aej.o.new HY2.o
 rw[h1.left_eq,Ld.o.left_eq];exact ZT.o
open Go.RowKit
theorem Ri(a:Option Addr)(n c:Nat)(X:List Cr)(L:Int)(w:World)(hx:bV w a X)(hn:n=X.length)(lx:n<=12)(l1:-9223372036854775808<=L)(l2:L<=9223372036854775807)(hop:Jg X L=0):
 Calls prog 19 #[.agg #[.slice a n c,.int .i64 L]] w (λe w'=>New w w'/\∃b,e=.returned (.tuple #[.pointer (some ⟨b,0,none⟩),.int .i64 0])/\fS w' b X L):=by
 have HN:=jd hn;have HX:=jd hx;have HOP:=jd hop;clear hx hn hop
 go_enter Tryz.func19,Tryz.ntmps19
 go_wp2_with fail;refine(EN a n c X L _ (New.uh ((refl _ _).alloc _) HX.o) HN.o (by omega) l1 l2).mono ?_;rintro e w4 ⟨hF,h5⟩
 rcases h5 with⟨_,b,rfl,hs⟩|⟨ho,rfl⟩
 · have HF:Hd (New w w4):=jd (((refl _ _).alloc _).trans hF)
   have HS:=jd hs;obtain⟨a1,c1,h0,_,_⟩:=hs.uh;rw[<-HN.o]at h0;clear hF hs;go_wp2;go_ret2;exact⟨HF.o,b,rfl,HS.o⟩
 exact absurd HOP.o ho
theorem V6:((List.range 33).all λq=>decide (bits .and .i64 (((q:Nat):Int)-16) 1=(((q:Nat):Int)-16)%2))=true:=by decide +kernel
theorem aiF{x:Int}(h1:-16<=x)(h2:x<=16):bits .and .i64 x 1=x%2:=by
 have:=jl (List.all_eq_true.1 V6 (x+16).toNat (jw.2 (by omega)))
 rwa [show (((x+16).toNat:Nat):Int)-16=x by omega]at this
def sg(x:Int):Int:=1-2*(x%2)
def Br(X:List Cr)(L:Nat)(m:List T):Prop:=∃l:List T,Pl.Is m (sh (-3*wS X) (sg (wS X)) l)/\∀x,co l x=gF (df X L (2 ^ X.length)) (EL x)
theorem QC(a:Option Addr)(n c:Nat)(X:List Cr)(L:Nat)(w:World)(hx:bV w a X)(hn:n=X.length)(lx:n<=12)(hL:2*n+L<=30)(hL1:L<=16)(hop:Jg X (L:Int)=0)(ht:He w):
 Calls prog 8 #[.agg #[.slice a n c,.int .i64 L]] w (λe w'=>New w w'/\∃v m,e=.returned (.tuple #[v,.int .i64 0])/\Ts w' v m/\m.length<=1000000/\Br X L m):=by
 have HN:=jd hn;have HX:=jd hx;have HOP:=jd hop;have HT:=jd ht
 have wA:Kn.gY X (L:Int)=true:=by
  unfold Jg at hop;split at hop
  · assumption
  cases hop
 have AO:=jd (gX wA)
 have h0:0<n+L:=by
  unfold Kn.gY at wA;simp only[jp,jh,Bool.not_eq_true',Bool.and_eq_false_iff,jF]at wA;have:=wA.1.2;omega
 clear hx hn hop ht wA;obtain⟨t,Xi⟩:=jb (wS X);have hb:=Lf X;rw[<-HN.o,<-Xi.o]at hb;obtain⟨t1,t2⟩:=hb
 have t3:-12<=t:=by omega
 have t4:t<=12:=by omega
 have Sc:bits .and .i64 t 1=t%2:=aiF (by omega) (by omega)
 go_enter Tryz.func8,Tryz.ntmps8
 go_wp2_with fail;refine(Ri a n c X L _ (New.uh ((refl _ _).alloc _) HX.o) HN.o lx (by omega) (by omega) HOP.o).mono ?_;rintro e w4 ⟨hF,b,rfl,hs⟩;have HF:Hd (New w w4):=jd (((refl _ _).alloc _).trans hF);have HS:=jd hs;clear hF hs;go_wp2_with fail;refine(PA b X L _ HS.o (by have:=HN.o;omega)).mono ?_;rintro e w5 ⟨rfl,hF⟩;rw[<-Xi.o];have Z2:=jd hF;clear hF;go_wp2_with fail;refine(Kk b n X L _ (New.kM Z2.o HS.o) AO.o.1 HN.o lx hL hL1 h0 (New.Y0 (HF.o.trans Z2.o) HT.o)).mono ?_
 rintro e w6 ⟨v6,l6,rfl,hw6,vq,hco,hex,hsz⟩;have Nq:=jd vq;have HW6:=jd hw6;have HCO:=jd hco;have HEX:=jd hex;have Bu:=jd hsz;clear hw6 vq hco hex hsz;go_wp2_with fail
 have s1:-1<=1-2*(t%2)/\1-2*(t%2)<=1:=by omega
 refine(BV v6 (-3*t) (1-2*(t%2)) l6 301 _ HW6.o (by omega) (by omega) (by omega) (λu hu=>by have:=HEX.o u hu;omega) (jJ Bu.o (by decide))).mono ?_;rintro e w7 ⟨v7,rfl,hw7,hF⟩;have HF7:=jd hF;have HW7:=jd hw7;clear hF hw7;go_wp2_with fail;refine(Vk v7 _ 301 _ HW7.o (by omega)).mono ?_;rintro e w8 ⟨m,hm,v8,rfl,R6,hF⟩;have Pp:=jd hF;have HM:=jd hm;have HTS:=jd R6;clear hF hm R6;go_wp2;go_ret2;refine⟨(((HF.o.trans Z2.o).trans Nq.o).trans HF7.o).trans Pp.o,v8,m,rfl,HTS.o,?_,l6,?_,?_⟩
 · have h1:=Pl.pG (hi:=200) (lo:=-200) HM.o.1 λu hu=>by
    obtain⟨y,hy,e⟩:=Pl.C6 HM.o.1 HM.o.2 hu;obtain⟨z,hz,rfl⟩:=jv.1 hy;have:=HEX.o z hz;simp only at e;omega
   omega
 · rw[<-Xi.o];exact HM.o
 rw[<-HN.o];exact HCO.o
end Go.Proofs.YtfplmbmenjdlhaaGreatDoor
