/- Walks: IndexFunc, ContainsFunc of faces, at pull's inner function; need, where something holds. -/
import Derived.Test.YtfplmbmenjdlhaaGreatDoorN3
set_option maxRecDepth 100000
set_option maxHeartbeats 16000000
namespace Go.Proofs.YtfplmbmenjdlhaaGreatDoor
open Go.RowKit
open Fr (refl)
open Kn (Cr Dt aA takeN)
open Go.Proofs.Tryz (func35 func91 ntmps35 ntmps91 prog)
structure Wb(w:World)(b s B1 B2:Nat)(fv:Value)(X:List Cr)(L x y:Int):Prop where
 be:j8 w b s fv X L
 cb:w.cell? ⟨B1,0,none⟩=some (.pointer (some ⟨b,0,none⟩))
 cx:w.cell? ⟨B2,1,none⟩=some (.int .i64 x)
 cy:w.cell? ⟨B2,2,none⟩=some (.int .i64 y)
theorem Wb.new{w w':World}{b s B1 B2:Nat}{fv:Value}{X:List Cr}{L x y:Int}(h:Wb w b s B1 B2 fv X L x y)(k:New w w'):Wb w' b s B1 B2 fv X L x y:=
 ⟨h.be.new k,k.cell h.cb λx=>x,k.cell h.cx λx=>x,k.cell h.cy λx=>x⟩
def Hb(X:List Cr)(F:List (List Dt)):Prop:=F.length<=64/\∀f∈F,f.length<=64/\∀d∈f,Kn.ah X d.1
theorem Ml(b s B1 B2:Nat)(fv v:Value)(X:List Cr)(L x y:Int)(F:List (List Dt))(w:World)(h:Wb w b s B1 B2 fv X L x y)(hl:X.length<=16)(hF:Hb X F)(hr:Rows kN 0 156 w v F):
 Calls prog 119 #[v,.func (.func 104) #[] #[.pointer (some ⟨B1,0,none⟩),.pointer (some ⟨B2,0,none⟩)]] w (λe w'=>(∃r,e=.returned (.int .i64 r)/\(0<=r↔F.any (vt X x y)=true))/\New w w'):=by
 obtain⟨a,c,rfl⟩:=hr.sl
 obtain⟨n,hn⟩:∃n,n=F.length:=⟨_,rfl⟩
 rw[<-hn]at hr ⊢;have HN:=jd hn;have H:=jd h;have Np:=jd hF;have HR:=jd hr
 have ahE:n<=64:=by rw[hn];exact hF.1
 clear hn h hF hr
 go_enter Tryz.func119,Tryz.ntmps119
 go_wp2
 go_loopw [8] (λi wr=>∃k:Nat,k<=n/\i=.int .i64 k/\Hd (New w wr)/\Hd ((F.take k).any (vt X x y)=false)) (λi _=>n-(intOf i).toNat)
 case atStart=>exact⟨0,by omega,rfl,jd (refl _ _),jd rfl⟩
 case round=>
 obtain⟨k,hk,rfl,HW,HT⟩:=hrel;by_cases hlt:k<n;rotate_left
 · obtain rfl:k=n:=by omega
   go_wp2;go_ret;refine⟨⟨_,rfl,?_⟩,HW.o⟩;have:=HT.o;rw[List.take_of_length_le (by have:=HN.o;omega)]at this;rw[this];constructor
   · intro h;omega
   intro h;cases h
 have fY:k<F.length:=by have:=HN.o;omega
 obtain⟨g,c',u,he,hcell,hown⟩:=(Ar.new HR.o HW.o).at fY;rw[<-HN.o]at he;cases he;have HB:=Np.o.2 _ (jM fY)
 obtain⟨z,HZ⟩:∃z,Hd (vt X x y F[k]=z):=⟨_,jd rfl⟩
 have CC:=jd (P3 b s B1 B2 fv u X L x y F[k] wr (H.o.new HW.o).be hl hown HB.1 HB.2 (H.o.new HW.o).cb (H.o.new HW.o).cx (H.o.new HW.o).cy);rw[HZ.o]at CC;have dz:=hown.cells;obtain⟨ua,uc,rfl,_⟩:=dz
 have i1:(0:Int)<=(k:Int):=by omega
 have i2:(k:Int)<(n:Int):=by omega
 have HL:=jd HB.1
 have ZB:Hd ((F.take (k+1)).any (vt X x y)=z):=jd (by
  rw[jq fY,List.any_append,HT.o,List.any_cons,List.any_nil,HZ.o];simp)
 clear hown HB HT HZ;go_wp2_with fail
 refine CC.o.mono ?_
 rintro e w1 ⟨rfl,zq⟩;have k9:Hd (New w w1):=jd (HW.o.trans zq);clear zq hcell;cases z
 · go_wp2
   go_roundw
   case rel=>exact⟨k+1,by omega,by go_num,k9,ZB⟩
   case measure=>simp[intOf];omega
 go_wp2;go_ret;refine⟨⟨_,rfl,?_⟩,k9.o⟩;constructor
 · intro _
   have:=ZB.o;rw[List.any_eq_true]at this ⊢;obtain⟨f,h1,h2⟩:=this;exact⟨f,List.mem_of_mem_take h1,h2⟩
 intro _;omega
theorem Ef(b s B1 B2:Nat)(fv v:Value)(X:List Cr)(L x y:Int)(F:List (List Dt))(w:World)(h:Wb w b s B1 B2 fv X L x y)(hl:X.length<=16)(hF:Hb X F)(hr:Rows kN 0 156 w v F):
 Calls prog 97 #[v,.func (.func 104) #[] #[.pointer (some ⟨B1,0,none⟩),.pointer (some ⟨B2,0,none⟩)]] w (λe w'=>e=.returned (.bool (F.any (vt X x y)))/\New w w'):=by
 have CC:=jd (Ml b s B1 B2 fv v X L x y F w h hl hF hr)
 obtain⟨r,HR⟩:∃r,Hd (F.any (vt X x y)=r):=⟨_,jd rfl⟩
 rw[HR.o];clear h hF hr
 go_enter Tryz.func97,Tryz.ntmps97
 go_wp2_with fail
 refine CC.o.mono ?_
 rintro e w1 ⟨⟨z,rfl,hz⟩,zq⟩;have HN:=jd zq;have HX:Hd (decide (0<=z)=r):=jd (by rw[<-HR.o,jD,jh];exact hz);clear zq hz;go_wp2;go_ret;exact⟨cq HX.o,HN.o⟩
open Go.RowKit
theorem fP(e:Int)(w:World):Calls prog 91 #[.bool true,.int .i64 e] w (λr w'=>r=.returned (.tuple #[])/\w'=w):=by
 go_enter func91,ntmps91
 go_wp2;go_end0;exact⟨rfl,rfl⟩
abbrev sZ(e:Int):List PanicEntry:=[{ v:=.iface 99 (.agg #[.int .i64 e]),recovered:=false }]
theorem eH(e:Int)(w:World):Calls prog 91 #[.bool false,.int .i64 e] w (λr w'=>r=.panicked (sZ e)/\w'=w):=by
 go_enter func91,ntmps91
 go_wp2;exact⟨rfl,rfl,rfl⟩
theorem Vz(bo bq:Nat)(w:World):
 CallsD prog 35 #[.pointer (some ⟨bo,0,none⟩),.pointer (some ⟨bq,0,none⟩)] .returning w λe u' w'=>e=.returned (.tuple #[])/\u'=.returning/\w'=w:=by
 refine callsD_of_wpS func35 rfl λc₀ cs hu=>?_
 apply wpS_seq;apply wpS_region;simp[wpOpsS,go_sem,recoverD,hu,ntmps35,Exit.thenS]
 refine wpS_of_wp ?_
 change Code.wp _ _ _ { tmps:=#[.pointer (some ⟨bo,0,none⟩),.pointer (some ⟨bq,0,none⟩),Value.nilIface,undef,undef,Value.nilIface,undef,undef,undef,undef,undef,undef,undef,undef,undef,undef,undef,undef,undef],defers:=[] } w;go_wp2;cases c₀
 simp_all[bodyPostS,results,Tryz.results35]
theorem Q6(bo bq t t':Nat)(e e0:Int)(x0 x1:Value)(w:World)(hne:bo≠bq)(ho:w.heap[bo]?=some (.cells #[x0,x1] t (0,0)))(hq:w.heap[bq]?=some (.cells #[.int .i64 e0] t' (0,0))):
 CallsD prog 35 #[.pointer (some ⟨bo,0,none⟩),.pointer (some ⟨bq,0,none⟩)] (.panicking (sZ e)) w λr u' w'=>r=.returned (.tuple #[])/\u'=.panicking [{ v:=.iface 99 (.agg #[.int .i64 e]),recovered:=true }]/\Fr (λk=>k=bo\/k=bq) w w'/\w'.cell? ⟨bo,0,none⟩=some (.slice none 0 0)/\w'.cell? ⟨bo,1,none⟩=some (.int .i64 0)/\w'.cell? ⟨bq,0,none⟩=some (.int .i64 e):=by
 have hta:∀w:World,Sem.run prog (Instr.typeAssert (.iface 99 (.agg #[.int .i64 e])) 20 99 true) w=.ok (.tuple #[.agg #[.int .i64 e],.bool true]) w:=λw=>by kernel_rfl
 refine callsD_of_wpS func35 rfl λc₀ cs hu=>?_
 apply wpS_seq;apply wpS_region;simp[wpOpsS,go_sem,recoverD,hu,ntmps35,Exit.thenS]
 refine wpS_of_wp ?_
 change Code.wp _ _ _ { tmps:=#[.pointer (some ⟨bo,0,none⟩),.pointer (some ⟨bq,0,none⟩),.iface 99 (.agg #[.int .i64 e]),undef,undef,.iface 99 (.agg #[.int .i64 e]),undef,undef,undef,undef,undef,undef,undef,undef,undef,undef,undef,undef,undef],defers:=[] } w;go_wp2;have l0:bo<w.heap.size:=(jf.1 ho).1;have lq:bq<w.heap.size:=(jf.1 hq).1;have sW:=(refl (λ_=>False) w).alloc (.cells #[.int .i64 e] 99)
 have ho1:=sW.blk ho λx=>x
 have hq1:=sW.blk hq λx=>x
 have zq:=heap_alloc_new w (.cells #[.int .i64 e] 99)
 obtain⟨w1,cU⟩:∃w1,w.alloc (.cells #[.int .i64 e] 99)=w1:=⟨_,rfl⟩
 rw[cU]at ho1 hq1 zq sW ⊢
 obtain⟨bn,HBN⟩:∃bn,w.heap.size=bn:=⟨_,rfl⟩
 rw[HBN]at zq ⊢
 have n1:¬bn=bo:=by omega
 have n2:¬bq=bo:=λh=>hne h.symm
 have n3:¬bn=bq:=by omega
 have iu:=jd sW;clear sW cU HBN l0 lq ho hq;obtain⟨m1,m2,m3,m4,m5,m6⟩:=F3 ho1
 have hS:=λY Z=>((refl (λk=>k=bo) w1).setCell (a:=⟨bo,0,none⟩) (.inl rfl) Y).setCell (a:=⟨bo,1,none⟩) (.inl rfl) Z
 have hS1:=λY=>((refl (λk=>k=bo) w1).setCell (a:=⟨bo,0,none⟩) (.inl rfl) Y)
 have d0:w1.cell? ⟨bn,0,none⟩=some (.int .i64 e):=cell_of_row _ _ 0 _ 99 (0,0) zq
 have d1:∀Y,(w1.setCell ⟨bo,0,none⟩ Y).cell? ⟨bn,0,none⟩=some (.int .i64 e):=λY=>(hS1 Y).cell d0 n1
 have d2:∀Y Z,((w1.setCell ⟨bo,0,none⟩ Y).setCell ⟨bo,1,none⟩ Z).cell? ⟨bn,0,none⟩=some (.int .i64 e):=λY Z=>(hS Y Z).cell d0 n1
 have hq2:=λY Z=>(hS Y Z).blk hq1 n2
 have e1:∀Y Z,((w1.setCell ⟨bo,0,none⟩ Y).setCell ⟨bo,1,none⟩ Z).cell? ⟨bq,0,none⟩=some (.int .i64 e0):=λY Z=>cell_of_row _ _ 0 _ t' (0,0) (hq2 Y Z)
 have e2:∀Y Z,((w1.setCell ⟨bo,0,none⟩ Y).setCell ⟨bo,1,none⟩ Z).frozen? ⟨bq,0,none⟩=false:=λY Z=>by simp[World.frozen?,hq2 Y Z]
 have e3:∀Y Z U,(((w1.setCell ⟨bo,0,none⟩ Y).setCell ⟨bo,1,none⟩ Z).setCell ⟨bq,0,none⟩ U).cell? ⟨bq,0,none⟩=some U:=λY Z U=>by
  have:=hq2 Y Z;simp[World.cell?,World.setCell,Array.getElem?_modify]at this ⊢;simp[this]
 have HE3:=jd e3
 have Xt:Hd (∀Y Z U,Fr (λk=>k=bo\/k=bq) w (((w1.setCell ⟨bo,0,none⟩ Y).setCell ⟨bo,1,none⟩ Z).setCell ⟨bq,0,none⟩ U)):=jd λY Z U=>
  ((((iu.o.mono λ_ h=>h.elim).setCell (a:=⟨bo,0,none⟩) (.inl (.inl rfl)) Y).setCell (a:=⟨bo,1,none⟩) (.inl (.inl rfl)) Z).setCell (a:=⟨bq,0,none⟩) (.inl (.inr rfl)) U)
 clear hS hS1 hq2 hq1 zq ho1 e3
 go_region
 have HP:Hd (Fr (λk=>k=bo\/k=bq) w (((w1.setCell ⟨bo,0,none⟩ (.slice none 0 0)).setCell ⟨bo,1,none⟩ (.int .i64 0)).setCell ⟨bq,0,none⟩ (.int .i64 e)).drew /\
  (((w1.setCell ⟨bo,0,none⟩ (.slice none 0 0)).setCell ⟨bo,1,none⟩ (.int .i64 0)).setCell ⟨bq,0,none⟩ (.int .i64 e)).drew.cell? ⟨bo,0,none⟩=some (.slice none 0 0) /\
  (((w1.setCell ⟨bo,0,none⟩ (.slice none 0 0)).setCell ⟨bo,1,none⟩ (.int .i64 0)).setCell ⟨bq,0,none⟩ (.int .i64 e)).drew.cell? ⟨bo,1,none⟩=some (.int .i64 0) /\
  (((w1.setCell ⟨bo,0,none⟩ (.slice none 0 0)).setCell ⟨bo,1,none⟩ (.int .i64 0)).setCell ⟨bq,0,none⟩ (.int .i64 e)).drew.cell? ⟨bq,0,none⟩=some (.int .i64 e)):=
  jd ⟨(Xt.o _ _ _).drew,((refl (λk=>k=bq) _).setCell (a:=⟨bq,0,none⟩) (.inl rfl) _).cell (m5 _ _) hne,((refl (λk=>k=bq) _).setCell (a:=⟨bq,0,none⟩) (.inl rfl) _).cell (m6 _ _) hne,HE3.o _ _ _⟩
 generalize (((w1.setCell ⟨bo,0,none⟩ (.slice none 0 0)).setCell ⟨bo,1,none⟩ (.int .i64 0)).setCell ⟨bq,0,none⟩ (.int .i64 e)).drew=wz at HP ⊢;clear m1 m2 m3 m4 m5 m6 d0 d1 d2 e1 e2 HE3 Xt;go_wp2;cases c₀;simp[bodyPostS,results,Tryz.results35];exact HP.o
open Go.RowKit
def ae2(ok:Bool)(X:List Cr)(L:Int)(w:World)(e:Ending)(w':World):Prop:=
 New w w'/\((ok=true/\∃b s fv,e=.returned (.tuple #[.pointer (some ⟨b,0,none⟩),.bool true])/\j8 w' b s fv X L/\Rows kN 0 156 w' fv (aA X)/\w.heap.size<=b/\w.heap.size<=s)\/(ok=false/\e=.returned (.tuple #[.pointer none,.bool false])))
theorem TR(a:Option Addr)(n c:Nat)(X:List Cr)(L:Int)(w:World)(hx:bV w a X)(hn:n=X.length)(lx:n<=9223372036854775807)(l1:-9223372036854775808<=L)(l2:L<=9223372036854775807):
 Calls prog 33 #[.agg #[.slice a n c,.int .i64 L]] w (ae2 (Kn.gY X L&&Kn.aJ X) X L w):=by
 have HN:=jd hn;have HX:=jd hx;clear hx hn
 go_enter Tryz.func33,Tryz.ntmps33
 go_wp2_with fail;refine(Gf a n c X L _ (New.uh ((refl _ _).alloc _) HX.o) HN.o lx l1 l2).mono ?_;rintro e w4 ⟨hF,h5⟩
 rcases h5 with⟨ho,s,rfl,hs,hlb,_⟩|⟨ho,rfl⟩
 rotate_left
 · have HF:Hd (New w w4):=jd (((refl _ _).alloc _).trans hF)
   have HO:=jd ho;clear hF ho;go_wp2;go_ret2;exact⟨HF.o,.inr ⟨by rw[HO.o];rfl,rfl⟩⟩
 have HF:Hd (New w w4):=jd (((refl _ _).alloc _).trans hF);have HO:=jd ho;have HS:=jd hs;have G9:=jd hlb;have AO:=jd (gX ho);clear hF ho hs hlb
 obtain⟨p,HP⟩:∃p,Hd (Kn.aJ X=p):=⟨_,jd rfl⟩
 go_wp2_with fail;refine(vW s X L _ HS.o AO.o.1 AO.o.2).mono ?_;rintro e w5 ⟨rfl,hE⟩;rw[HP.o];have HE:=jd (HF.o.trans hE);have Wj:=jd (New.kM hE HS.o);clear hE;cases p
 · go_wp2
   go_ret2;exact⟨HE.o,.inr ⟨by rw[HO.o,HP.o];rfl,rfl⟩⟩
 go_wp2_with fail;refine(zw s X L _ Wj.o AO.o.1 AO.o.2).mono ?_;rintro e w6 ⟨v,rfl,hr,hE⟩;obtain⟨fa,fc,rfl⟩:=hr.sl
 obtain⟨m,hm⟩:∃m,(aA X).length=m:=⟨_,rfl⟩
 rw[hm]at hr ⊢;clear hm;have RE:=jd (New.kM hE Wj.o);have Wm:Hd (Rows kN 0 156 w6 (.slice fa m fc) (aA X)):=jd (Rows.vK hr);have HE6:=jd (HE.o.trans hE);clear hE hr;go_wp2;go_ret2;have hN:New w6 (w6.alloc (.cells #[.pointer (some ⟨s,0,none⟩),(Value.slice fa m fc)] 103)):=(refl _ _).alloc _;refine⟨HE6.o.trans hN,.inl ⟨by rw[HO.o,HP.o];rfl,_,s,_,rfl,⟨heap_alloc_new _ _,New.kM hN RE.o⟩,Ar.new Wm.o hN,HE6.o.size,?_⟩⟩;have:=G9.o;simp at this;omega
open Go.RowKit
def KR(s:Nat)(Y:List Cr)(L:Int)(w:World)(e:Ending)(w':World):Prop:=
 Fr (λk=>k=s) w w'/\((L<=16/\e=.returned (.tuple #[])/\∃a c,w'.cell? ⟨s,0,none⟩=some (.slice a Y.length c)/\w'.cell? ⟨s,1,none⟩=some (.int .i64 L)/\bV w' a Y/\∀ad,a=some ad->w.heap.size<=ad.block)\/(¬L<=16/\e=.panicked (sZ 2)))
theorem SU(X:List Cr)(gone:Nat->Bool):takeN X gone<=Kn.ag X:=IZ X _ gone _
theorem fS.box{w:World}{b:Nat}{X:List Cr}{L:Int}(h:fS w b X L):∃v bi bo,w.heap[b]?=some (.cells #[v,.int .i64 L,.slice (some ⟨bi,0,none⟩) (bA X) (bA X),.slice (some ⟨bo,0,none⟩) (bA X) (bA X)] 70 (0,0)):=by
 obtain⟨v,bi,bo,base,s⟩:=h;exact⟨v,bi,bo,s.blk⟩
theorem Q0{W:World}{B t:Nat}{a b c d:Value}(h:W.heap[B]?=some (.cells #[a,b,c,d] t (0,0)))(a' b':Value):
 ((W.setCell ⟨B,0,none⟩ a').setCell ⟨B,1,none⟩ b').heap[B]?=some (.cells #[a',b',c,d] t (0,0)):=by
 unfold World.setCell;simp[Array.getElem?_modify,h]
theorem Ip(b s g ng cg:Nat)(fv:Value)(gs:List Int)(gone:Nat->Bool)(X:List Cr)(L:Int)(w:World)(h:j8 w b s fv X L)(hX:Kn.Ok X)(hl:X.length<=16)(l1:0<=L)(l2:L<=16)(hg:vM w g gs)(hng:ng=gs.length)(vo:ng<=16)
 (mP:∀c,c<X.length->gone c=decide ((c:Int)∈gs)):
 Calls prog 96 #[.pointer (some ⟨b,0,none⟩),.slice (some ⟨g,0,none⟩) ng cg] w (KR s (Kn.bF X gone) (L+takeN X gone) w):=by
 have HW:=jd (FL s g ng cg gs gone X L w h.sh hX hl (by omega) (by omega) hg hng vo mP);have HH:=jd h;obtain⟨c0,_⟩:=h.c;obtain⟨Y,HY⟩:=jb (Kn.bF X gone);obtain⟨L',HL⟩:=jb (L+(takeN X gone:Nat))
 have hL1:0<=L':=by have:=HL.o;omega
 have hL2:L'<=100:=by have h1:=HL.o;have h2:=SU X gone;unfold Kn.ag at h2;omega
 rw[<-HY.o,<-HL.o]at HW ⊢;clear h hX hg hng mP
 go_enter Tryz.func96,Tryz.ntmps96
 go_wp2_with fail
 refine HW.o.mono ?_
 rintro e w1 ⟨sc,rfl,hown,hN⟩;obtain⟨a1,c1,rfl,iw⟩:=bV.gu hown;obtain⟨n,HN⟩:=jb Y.length;rw[<-HN.o];have gQ:Hd (New w (w1.alloc (.cells #[.slice a1 n c1,.int .i64 L'] 24))):=jd (hN.alloc _);have Bw:Hd ((w1.alloc (.cells #[.slice a1 n c1,.int .i64 L'] 24)).ownsRow w.heap.size 109 5 (.slice a1 Y.length c1) Y.length (bE Y)):=jd (World.ownsRow.alloc hown _);have eU:Hd (j8 (w1.alloc (.cells #[.slice a1 n c1,.int .i64 L'] 24)) b s fv X L):=jd (HH.o.new gQ.o);have Kw:=jd (heap_alloc_new w1 (.cells #[.slice a1 n c1,.int .i64 L'] 24))
 clear hown hN iw c0;obtain⟨p0,p1,_,_⟩:=ay Kw.o;by_cases ME:L'<=16;rotate_left
 · have hd:decide (L'<=16)=false:=jm ME
   go_wp2_with fail;refine(eH 2 _).mono ?_;rintro e w2 ⟨rfl,rfl⟩;go_wp2;exact⟨rfl,gQ.o.mono λ_ h=>h.elim,.inr ⟨by omega,rfl⟩⟩
 have hd:decide (L'<=16)=true:=jk ME;go_wp2_with fail;refine(fP 2 _).mono ?_;rintro e w2 ⟨rfl,hw2⟩;obtain⟨c0,_⟩:=eU.o.c;obtain⟨vs,bi,bo,hbx⟩:=eU.o.sh.box;rw[<-hw2]at gQ Bw eU Kw p0 p1 c0 hbx;clear hw2;obtain⟨s0,s1,s2,s3,z0,z1,z2,z3⟩:=mI hbx;have hb2:=Q0 hbx (.slice a1 n c1) (.int .i64 L')
 have hb1:(w2.setCell ⟨s,0,none⟩ (.slice a1 n c1)).heap[s]?=some (.cells #[.slice a1 n c1,.int .i64 L,.slice (some ⟨bi,0,none⟩) (bA X) (bA X),.slice (some ⟨bo,0,none⟩) (bA X) (bA X)] 70 (0,0)):=by
  unfold World.setCell;simp[Array.getElem?_modify,hbx]
 obtain⟨_,y1,_,_,_,x1,_,_⟩:=mI hb1;have fD:=jd hb2;have FB:=jd (aU hbx Bw.o (by decide));clear hb1 hb2 hbx;go_wp2_with fail
 go_region
 all_goals (go_wp2_with fail)
 go_end0
 have hF:Fr (λk=>k=s) w2 ((w2.setCell ⟨s,0,none⟩ (.slice a1 n c1)).setCell ⟨s,1,none⟩ (.int .i64 L')).drew:=by
  refine Fr.drew (Fr.setCell (Fr.setCell (refl _ w2) ?_ _) ?_ _)<;>exact .inl rfl
 obtain⟨m0,m1,_,_⟩:=mI (show ((w2.setCell ⟨s,0,none⟩ (.slice a1 n c1)).setCell ⟨s,1,none⟩ (.int .i64 L')).drew.heap[s]?=_ from fD.o);obtain⟨a3,c3,e3,h3⟩:=bV.gu (hF.owns Bw.o λk hk e=>FB.o (e ▸ hk));cases e3;exact⟨(gQ.o.mono λ_ h=>h.elim).trans hF,.inl ⟨ME,rfl,a1,c1,by rw[<-HN.o];exact m0,m1,h3,λad e=>dR Bw.o ad.block (by rw[e];rfl)⟩⟩
end Go.Proofs.YtfplmbmenjdlhaaGreatDoor
