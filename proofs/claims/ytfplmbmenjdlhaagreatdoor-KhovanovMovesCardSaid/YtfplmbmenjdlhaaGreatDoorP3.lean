/- Walks: sameTwos. -/
import Derived.Test.YtfplmbmenjdlhaaGreatDoorN0
import Derived.Test.YtfplmbmenjdlhaaGreatDoorV14
set_option maxRecDepth 100000
set_option maxHeartbeats 16000000
namespace Go.Proofs.YtfplmbmenjdlhaaGreatDoor
open Go.RowKit
open Kn (E2 L2)
open Fr (refl)
open Go.Proofs.Tryz (func6 ntmps6 prog)
open World (ownsRow)
variable {l:L2} {a:Option Addr} {w:World}
theorem ami:prog.eqGuardType prog.depth 52=false:=by kernel_rfl
theorem amh:prog.stoodInHeld 52=false:=by kernel_rfl
theorem amg:prog.underlying 52=some (.struct (prog.fieldsOf 52)):=by kernel_rfl
theorem amf : (prog.fieldsOf 52).toList.map (λf => (f.type, f.name, f.offset)) = [(3, "X", 0), (3, "Z", 1), (3, "Coef", 2)] := by kernel_rfl
theorem aaQ(w:World)(a b c d e f:Int):(binOp .neq 52 (.agg #[.int .i64 a,.int .i64 b,.int .i64 c]) (.agg #[.int .i64 d,.int .i64 e,.int .i64 f])).run prog w=.ok (.bool (!(a==d&&b==e&&c==f))) w:=by
 rw[run_neq_struct,run_equalIn_agg _ _ _ _ _ amg amh];have h4:=amf
 rcases h:(prog.fieldsOf 52).toList with _|⟨f1,_|⟨f2,_|⟨f3,_|⟨f4,r⟩⟩⟩⟩<;>simp[h]at h4
 obtain⟨⟨t1,n1,o1⟩,⟨t2,n2,o2⟩,t3,n3,o3⟩:=h4;have hu:=Tryz.underlying3;obtain⟨i0,W7,hz1,hz2⟩:=info_parts Tryz.xX
 cases had:a==d<;>simp[go_sem,Op.eqFields,n1,n2,n3,t1,t2,t3,o1,o2,o3,part,sizeOf,typeInfo,W7,run_equalIn_int _ _ _ .i64 .i64 _ _ hu,had]
 by_cases Vb:b=e<;>by_cases hcf:c=f<;>simp[Vb,hcf]
abbrev wX(l:L2)(k:Nat):E2×Int:=l.getD k ((0,0),0)
def Dx(w:World)(a:Option Addr)(l:L2):Prop:=
 l=[]\/∃b o,a=some ⟨b,o,none⟩/\∀i,i<l.length->w.cell? ⟨b,o+i*3,none⟩=some (.int .i64 (wX l i).1.1)/\w.cell? ⟨b,o+i*3+1,none⟩=some (.int .i64 (wX l i).1.2)/\w.cell? ⟨b,o+i*3+2,none⟩=some (.int .i64 (wX l i).2)
theorem Dx.at{w:World}{a:Option Addr}{l:L2}(h:Dx w a l){k:Nat}(hk:k<l.length):
 ∃b o,a=some ⟨b,o,none⟩/\w.cell? ⟨b,o+k*3,none⟩=some (.int .i64 (wX l k).1.1)/\w.cell? ⟨b,o+k*3+1,none⟩=some (.int .i64 (wX l k).1.2)/\w.cell? ⟨b,o+k*3+2,none⟩=some (.int .i64 (wX l k).2):=by
 rcases h with rfl|⟨b,o,rfl,h⟩
 · simp at hk
 exact⟨b,o,rfl,h k hk⟩
theorem New.t2{w':World}(h:New w w')(ht:Dx w a l):Dx w' a l:=by
 rcases ht with rfl|⟨b,o,rfl,hc⟩
 · exact .inl rfl
 exact .inr ⟨b,o,rfl,λi hi=>⟨h.cell (hc i hi).1 (λx=>x),h.cell (hc i hi).2.1 (λx=>x),h.cell (hc i hi).2.2 (λx=>x)⟩⟩
theorem abX{x y:L2}(hl:x.length=y.length)(h:∀j,j<x.length->wX x j=wX y j):x=y:=by
 refine List.ext_getElem hl λi h1 h2=>?_
 have:=h i h1;simpa[jc,h1,h2]using this
theorem FX(a a':Option Addr)(n n' c c':Nat)(x y:L2)(w:World)(hx:Dx w a x)(hy:Dx w a' y)(hn:n=x.length)(Gz:n'=y.length)(lx:n<=1000000)(ly:n'<=1000000):
 Calls prog 6 #[.slice a n c,.slice a' n' c'] w λe w'=>e=.returned (.bool (decide (x=y)))/\New w w':=by
 have HX:=jd hx;have HY:=jd hy;have HL:=jd hn;have RM:=jd Gz;clear hx hy hn Gz;have q1':=ami;have hu:=Tryz.underlying3;by_cases h:n=n';rotate_left
 · have HQ:Hd (x≠y):=jd λe=>h (by rw[HL.o,RM.o,e])
   have hb:¬(n:Int)=(n':Int):=by omega
   go_enter func6,ntmps6
   go_wp2;go_ret;exact⟨cq (jm HQ.o).symm,refl _ _⟩
 subst h
 go_enter func6,ntmps6
 go_wp2
 go_loopw [5] (λi wr=>∃k:Nat,k<=n/\i=.int .i64 k/\Hd (New w wr)/\Hd (∀j,j<k->wX x j=wX y j)) (λi _=>n-(intOf i).toNat)
 case atStart=>exact⟨0,by omega,rfl,jd (refl _ _),jd λj hj=>by omega⟩
 case round=>
 obtain⟨k,hk,rfl,HF,HE⟩:=hrel;by_cases hlt:k<n;rotate_left
 · obtain rfl:k=n:=by omega
   have HQ:Hd (x=y):=jd (abX (by rw[<-HL.o,RM.o]) λj hj=>HE.o j (by rw[HL.o];exact hj));go_wp2;go_ret;exact⟨cq (jk HQ.o).symm,HF.o⟩
 obtain⟨b,o,rfl,d1,d2,d3⟩:=(New.t2 HF.o HX.o).at (k:=k) (by have:=HL.o;omega);obtain⟨b',o',rfl,d4,d5,d6⟩:=(New.t2 HF.o HY.o).at (k:=k) (by have:=RM.o;omega);obtain⟨e1,H1⟩:=jb ((wX x k).1.1);obtain⟨e2,H2⟩:=jb ((wX x k).1.2);obtain⟨e3,H3⟩:=jb ((wX x k).2);obtain⟨e4,H4⟩:=jb ((wX y k).1.1);obtain⟨e5,H5⟩:=jb ((wX y k).1.2);obtain⟨e6,H6⟩:=jb ((wX y k).2);rw[<-H1.o]at d1;rw[<-H2.o]at d2;rw[<-H3.o]at d3;rw[<-H4.o]at d4;rw[<-H5.o]at d5;rw[<-H6.o]at d6
 have i1:(0:Int)<=(k:Int):=by omega
 have i2:(k:Int)<(n:Int):=by omega
 by_cases hq:e1=e4/\e2=e5/\e3=e6
 · have hn:∀w,(binOp .neq 52 (.agg #[.int .i64 e1,.int .i64 e2,.int .i64 e3]) (.agg #[.int .i64 e4,.int .i64 e5,.int .i64 e6])).run prog w=.ok (.bool false) w:=λw=>by rw[aaQ];simp[hq.1,hq.2.1,hq.2.2]
   have HQ:=jd hq;clear hq;go_wp2
   go_quiet (fail)
   go_wp2;go_roundw
   case rel=>
    refine⟨k+1,by omega,by go_num,jd (HF.o.drewN _),jd λj hj=>?_⟩;by_cases e:j=k
    · subst e
      obtain⟨g1,g2,g3⟩:=HQ.o;exact Prod.ext (Prod.ext (by rw[<-H1.o,<-H4.o,g1]) (by rw[<-H2.o,<-H5.o,g2])) (by rw[<-H3.o,<-H6.o,g3])
    exact HE.o j (by omega)
   case measure=>simp[intOf];omega
 have hn:∀w,(binOp .neq 52 (.agg #[.int .i64 e1,.int .i64 e2,.int .i64 e3]) (.agg #[.int .i64 e4,.int .i64 e5,.int .i64 e6])).run prog w=.ok (.bool true) w:=λw=>by
  rw[aaQ]
  have:(e1==e4&&e2==e5&&e3==e6)=false:=by
   rw[Bool.eq_false_iff];intro x;simp at x;exact hq ⟨x.1.1,x.1.2,x.2⟩
  rw[this];rfl
 have HQ:Hd (x≠y):=jd λe=>hq ⟨by rw[H1.o,H4.o,e],by rw[H2.o,H5.o,e],by rw[H3.o,H6.o,e]⟩
 clear hq;go_wp2
 go_quiet (fail)
 go_wp2;go_ret;exact⟨cq (jm HQ.o).symm,HF.o.drewN _⟩
open Go.RowKit Go.Shelf
open Kn (E2 L2 cf F2 Kh bM)
theorem Il(l:L2)(t:E2×Int):ku (l++[t])=ku l++[.int .i64 t.1.1,.int .i64 t.1.2,.int .i64 t.2]:=by simp[ku,sF]
def xD(K:E2->Int)(ds:List E2):L2:=(ds.filter λp=>decide (K p≠0)).map λp=>(p,K p)
theorem P6(K:E2->Int)(ds:List E2)(p:E2):xD K (ds++[p])=if K p=0 then xD K ds else xD K ds++[(p,K p)]:=by
 unfold xD;rw[List.filter_append,jP];by_cases c:K p=0
 · rw[if_pos c];simp[c]
 rw[if_neg c];simp[c]
theorem TJ(K:E2->Int)(ds:List E2):(xD K ds).length<=ds.length:=by
 unfold xD;rw[jA];exact List.length_filter_le _ _
theorem P7(K:E2->Int)(ds:List E2):(xD K ds).map (·.1)=ds.filter λp=>decide (K p≠0):=by
 unfold xD;rw[List.map_map];exact List.map_id _
theorem P8{K:E2->Int}{ds:List E2}(hn:ds.Nodup)(ha:∀a,K a≠0->a∈ds){ys:L2}(hp:ys.Perm (xD K ds))(ho:ys.Pairwise λa b=>Eg a.1 b.1<=0):F2 ys/\∀a,cf ys a=K a:=by
 have nk:((xD K ds).map (·.1)).Nodup:=by rw[P7];exact hn.filter _
 have ny:(ys.map (·.1)).Nodup:=(hp.map (·.1)).nodup_iff.2 nk
 have mem:∀t∈ys,t.2=K t.1/\K t.1≠0:=λt ht=>by
  have:=hp.mem_iff.1 ht;unfold xD at this;obtain⟨p,hp,rfl⟩:=jv.1 this;exact⟨rfl,jl (jC.1 hp).2⟩
 have hF:F2 ys:=by
  refine⟨?_,λt ht=>by rw[(mem t ht).1];exact(mem t ht).2⟩;rw[List.Nodup,List.pairwise_map]at ny;refine(ho.and ny).imp ?_;rintro a b ⟨h1,h2⟩;rw[O4]at h1
  rcases Kn.Gm a.1 b.1 with h3|h3|h3
  · exact h3
  · exact absurd h3 h2
  exact absurd h3 h1
 refine⟨hF,λa=>?_⟩;by_cases c:K a=0
 · rw[c]
   exact Kn.MY λt ht e=>(mem t ht).2 (by rw[e];exact c)
 have:(a,K a)∈ys:=hp.mem_iff.2 (jv.2 ⟨a,jC.2 ⟨ha a c,jk c⟩,rfl⟩);exact hF.at this
theorem Ij{a b c:Value}{t:TypeId}:∀(j:Nat) (u:Value),[a,b,c][j]?=some u->(w.alloc (.cells #[a,b,c] t)).cell? ((⟨w.heap.size,0,none⟩:Addr).add j)=some u:=by
 have h:=heap_alloc_new w (.cells #[a,b,c] t);intro j u hj;rw[dN,Nat.zero_add]
 match j,hj with
 |0,hj=>cases hj;exact cell_of_row _ _ 0 _ t (0,0) h
 |1,hj=>cases hj;exact cell_of_row _ _ 1 _ t (0,0) h
 |2,hj=>cases hj;exact cell_of_row _ _ 2 _ t (0,0) h
theorem Qb(x y z:Int):∀u∈[Value.int .i64 x,.int .i64 y,.int .i64 z],u.oneCell'=true:=by
 intro u hu;simp only[jy,jz,or_false]at hu
 rcases hu with rfl|rfl|rfl<;>rfl
theorem ac7:(prog.info? 52).map (λi=>(i.zero,i.size,i.bytes))=some (some (.agg #[.int .i64 0,.int .i64 0,.int .i64 0]),3,24):=by kernel_rfl
theorem PD{base g m c:Nat}(h:w.ownsRow base 52 3 (.slice (some ⟨g,0,none⟩) m c) m (ku l)){q:Nat}(hq:q<l.length):w.cell? ⟨g,q*3,none⟩=some (.int .i64 (wX l q).1.1)/\w.cell? ⟨g,q*3+1,none⟩=some (.int .i64 (wX l q).1.2)/\w.cell? ⟨g,q*3+2,none⟩=some (.int .i64 (wX l q).2):=by
 have hk:∀x:E2×Int,(sF x).length=3:=λ_=>rfl
 have hg:wX l q=l[q]:=by unfold wX;rw[jc,je hq];rfl
 rw[hg];have h0:=ownsRow.cells h (g:=g) rfl (q*3) (.int .i64 l[q].1.1) (by rw[ue sF hk l (q*3) (by omega)];simp[sF])
 have h1:=ownsRow.cells h (g:=g) rfl (q*3+1) (.int .i64 l[q].1.2) (by
  rw[ue sF hk l (q*3+1) (by omega)]
  have e:(q*3+1) / 3=q:=by omega
  have e2:(q*3+1)%3=1:=by omega
  simp[sF,e,e2])
 have h2:=ownsRow.cells h (g:=g) rfl (q*3+2) (.int .i64 l[q].2) (by
  rw[ue sF hk l (q*3+2) (by omega)]
  have e:(q*3+2) / 3=q:=by omega
  have e2:(q*3+2)%3=2:=by omega
  simp[sF,e,e2])
 rw[dN,Nat.zero_add]at h0 h1 h2;exact⟨h0,h1,h2⟩
theorem Dx.gu{base m c:Nat}(h:w.ownsRow base 52 3 (.slice a m c) m (ku l))(hm:m=l.length):Dx w a l:=by
 rcases h.2 with⟨e,h0⟩|⟨g,cap,cur,e,_⟩
 · exact .inl (List.eq_nil_of_length_eq_zero (by omega))
 injection e with e1 _ _
 subst e1
 refine .inr ⟨g,0,rfl,λi hi=>?_⟩
 obtain⟨y1,y2,y3⟩:=PD h hi;rw[Nat.zero_add];exact⟨y1,y2,y3⟩
theorem Gs{X:List Kn.Cr}{L:Int}(h:mZ X L=0):Kn.Ok X/\X.length<=6/\(0<=L/\L<=2)/\Kn.aJ X=true/\Kn.gY X L=true/\Jg X L=0/\(X.length=0->L≠0):=by
 unfold mZ at h;by_cases c:Jg X L=0;rotate_left
 · rw[if_pos c]at h
   exact absurd h c
 rw[if_neg (by simpa using c)]at h;split at h
 · omega
 next c2=>
 have c0:=c;unfold Jg at c;split at c
 · next c3=>
   split at c
   · next c4=>
     have wO:=(gX c3).1;have c5:=c3;unfold Kn.gY at c3;simp only[jp,jh,Bool.not_eq_true',Bool.and_eq_false_iff,jF]at c3;exact⟨wO,by omega,by omega,c4,c5,c0,λh0=>by omega⟩
   cases c
 cases c
def aeX(X:List Kn.Cr)(L:Int)(w:World)(e:Ending)(w':World):Prop:=
 New w w'/\((mZ X L=0/\∃(LN:Nat) (a:Option Addr) (m c:Nat) (l:L2),L=(LN:Int)/\e=.returned (.tuple #[.slice a m c,.int .i64 0])/\Hd (m=l.length)/\Hd (Dx w' a l)/\Hd (F2 l/\(∀a,cf l a=Kh X LN (bM X LN) a)/\∀a,-2200000<=cf l a/\cf l a<=2200000))\/(mZ X L≠0/\e=.returned (.tuple #[.slice none 0 0,.int .i64 (mZ X L:Nat)])))
theorem FZ(a:Option Addr)(n c:Nat)(X:List Kn.Cr)(L:Int)(w:World)(hx:bV w a X)(hn:n=X.length)(lx:n<=9223372036854775807)(l1:-9223372036854775808<=L)(l2:L<=9223372036854775807):
 Calls prog 4 #[.agg #[.slice a n c,.int .i64 L]] w (aeX X L w):=by
 have HN:=jd hn;have HX:=jd hx;clear hx hn
 go_enter Tryz.func4,Tryz.ntmps4
 go_wp2_with fail;have JO:New w (w.alloc (.cells #[.slice a n c,.int .i64 L] 24)):=(refl _ _).alloc _;refine(Qr a n c X L _ (New.uh JO HX.o) HN.o lx l1 l2).mono ?_;rintro e w1 ⟨hF,h5⟩;have HF:Hd (New w w1):=jd (JO.trans hF);clear JO hF
 rcases h5 with⟨hc,bc,b,sB,LN,rfl,rfl,aaX⟩|⟨hc,rfl⟩
 rotate_left
 · obtain⟨q,HQ⟩:=jb (mZ X L)
   rw[<-HQ.o]at hc
   have hq:((q:Int)==0)=false:=by simp;exact hc
   have hq2:((q:Int) != 0)=true:=by simp;exact hc
   rw[<-HQ.o];have HC:=jd hc;clear hc;go_wp2;go_ret2;exact⟨HF.o,.inr ⟨by rw[<-HQ.o];exact HC.o,by rw[<-HQ.o];rfl⟩⟩
 obtain⟨wO,h6,hL,hpl,_,_,_⟩:=Gs hc;have E8:=PY bc b sB X LN w1 aaX wO hpl h6 (by omega);have KB:=jd E8;have HC:=jd hc;clear E8 wO h6 hL hpl aaX hc;go_wp2_with fail
 refine KB.o.mono ?_
 rintro e w2 ⟨hF,om,n',f,ks,rfl,hM,Gz,hz,hv,hb⟩;have kZ:Hd (New w w2):=jd (HF.o.trans hF)
 obtain⟨K,HK⟩:∃K:E2->Int,Hd (K=λa=>Kh X LN (bM X LN) a):=⟨_,jd rfl⟩
 have HM:=jd hM
 have HZ:Hd (∀a,f a=none->K a=0):=jd λa e=>by rw[HK.o];exact hz a e
 have HV:Hd (∀a v,f a=some v->v=.int .i64 (K a)):=jd λa v e=>by rw[HK.o];exact hv a v e
 have HB:Hd (∀a,-2200000<=K a/\K a<=2200000):=jd λa=>by rw[HK.o];exact hb a
 obtain⟨D,hown,hd⟩:=hM;have HOW:=jd hown;have HD:=jd hd;obtain⟨it,Sl⟩:=jb w2.heap.size;clear hF hown hd hz hv hb KB
 go_wp2_with (first
  |(at_range;refine wpList_range_own _ rfl _ 47 rfl 50 3 AF.law Tryz.Qm hE om n' D rfl HOW.o ?_;intro w0 hrg0 hg0 hs0)
  |go_in)
 go_frame;rw[<-Sl.o]at hrg0 hs0 ⊢;have iu:Hd (New w2 w0):=jd ((refl (λ_=>False) w2).grown hg0 λk ek=>by cases ek);have Ni:=jd hrg0
 have HIB:Hd (it<w0.heap.size/\om<it):=jd (by
  have h1:=HM.o.lt;have h2:=Sl.o
  exact⟨by first|exact hrg0.lt|omega,by omega⟩)
 have fY:ks.length<=10000000:=jJ (dx.size_le HM.o Tryz.Qm) Gz;obtain⟨i0,hi,hz0,hz1,hz2⟩:=info_parts ac7;clear hg0 hs0 hrg0
 go_loopw [6] (λv6 wr=>∃(left:Lit->Bool) (cnt:Nat) (done:List E2) (lo:L2),lo.length<=10000000/\Hd (lo=xD K done)/\Hd (Xv 50 wr om it n' D left cnt)/\Hd (mX 50 yI vZ D f ks left done)/\Hd (Fr (λj=>j=it) w0 wr)/\Hd (wr.ownsRow w0.heap.size 52 3 v6 lo.length (ku lo))) (λ_ wr=>wr.rangeLeft om it)
 case atStart=>exact⟨_,_,[],[],by simp,jd rfl,Ni,jd (mX.start HD.o),jd (refl _ _),jd (World.ownsRow_nil _ _ _ _)⟩
 case round=>
 obtain⟨left,cnt,done,lo,KZ,Ht,Ld,Sm,FE,ZP⟩:=hrel
 obtain⟨w3,rfl⟩:∃z:World,z=wr:=⟨_,rfl⟩
 go_wp2_with (first
  |(at_next;refine pR AF rfl _ rfl om it n' cnt rfl Ld.o Sm.o ?_ ?_)
  |go_in)
 · intro hl0
   have R8:=Sm.o.perm AF hl0;have yK:Hd (New w w3):=jd ((kZ.o.trans iu.o).next FE.o λi hi=>.inr (by have h1:=kZ.o.size;have h2:=Sl.o;omega))
   have JN:∀a,K a≠0->a∈done:=λa ha=>by
    rw[R8.mem_iff,HD.o.mem]
    cases e:f a with
    |none=>exact absurd (HZ.o a e) ha
    |some v=>rfl
   have ahy:∀t∈lo,vZ t.1:=λt ht=>by
    rw[Ht.o]at ht;unfold xD at ht;obtain⟨p,hp,rfl⟩:=jv.1 ht;exact HD.o.okk p (Sm.o.mem p (jC.1 hp).1)
   have aaJ:=PL w0.heap.size _ lo w3 ZP.o ahy (by omega);have HSO:=jd aaJ;have HAL:=jd JN;clear R8 JN ahy aaJ hl0;go_wp2_with fail
   refine HSO.o.mono ?_
   rintro e w4 ⟨rfl,ys,tV,hpw,hown,cN⟩;obtain⟨h1,h2⟩:=P8 Sm.o.nd HAL.o (by rw[<-Ht.o];exact tV) hpw;have Nj:Hd (F2 ys/\(∀a,cf ys a=Kh X LN (bM X LN) a)/\∀a,-2200000<=cf ys a/\cf ys a<=2200000):=jd ⟨h1,λa=>by rw[h2,HK.o],λa=>by rw[h2];exact HB.o a⟩
   have oW:Hd (New w w4):=jd (yK.o.next ((refl (λj=>_=some j) w3).grown cN λk e=>.inl e) λi hi=>.inr (by
    have h1:=dR ZP.o i hi;have h2:=iu.o.size;have h3:=kZ.o.size
    omega))
   obtain⟨a4,c4,hve,_⟩:=dr hown;have HT4:Hd (Dx w4 a4 ys):=jd (Dx.gu (by rw[<-hve];exact hown) rfl);have HVE:=jd hve;clear h1 h2 tV hpw hown cN hve;rw[HVE.o];go_wp2;go_ret2;exact⟨oW.o,.inl ⟨HC.o,LN,a4,_,c4,ys,rfl,rfl,jd rfl,HT4,Nj⟩⟩
 intro d1 d2 v kl w8 cnt2 ZL HPV JF QM CV DU hen;obtain rfl:=HV.o _ _ HPV.o;obtain⟨q,HQ⟩:=jb (K (d1,d2));have hq:=HB.o (d1,d2);rw[<-HQ.o]at hen hq;obtain⟨q1,q2⟩:=hq;have wO:=HD.o.okk (d1,d2) ZL.o;obtain⟨⟨b1,b2⟩,b3,b4⟩:(-1000000000<=d1/\d1<=1000000000)/\-1000000000<=d2/\d2<=1000000000:=wO
 have QQ:done.length+1<=ks.length:=by
  have h1:=Kn.tN CV.nd (m:=ks) CV.mem;rw[ju,List.length_singleton]at h1;exact h1
 have hlo2:lo.length+1<=10000000:=by
  have:=TJ K done;rw[<-Ht.o]at this;omega
 have Pp:Hd (Fr (λj=>j=it) w0 w8):=jd (FE.o.trans DU)
 have aaN:=DU.owns ZP.o λj hj e=>by
  have h1:=dR ZP.o j hj;have h2:=HIB.o.1;omega
 have KE:=jd JF;have Nn:=jd CV;have HO8:=jd aaN;obtain⟨wb,Ry⟩:=jb (w8.alloc (.cells #[.int .i64 d1,.int .i64 d2] 50));obtain⟨dB,Xu⟩:=jb w8.heap.size;have ZQ:Hd (New w8 wb):=jd (by rw[Ry.o];exact(refl _ _).alloc _);have HDb:Hd (wb.heap[dB]?=some (.cells #[.int .i64 d1,.int .i64 d2] 50 (0,0))):=jd (by rw[Ry.o,Xu.o];exact heap_alloc_new _ _);have HOb:=jd (ZQ.o.owns HO8.o λ_ _ x=>x);have ZD:Hd (xD K (done++[(d1,d2)])=if q=0 then lo else lo++[((d1,d2),q)]):=jd (by rw[P6,<-HQ.o,<-Ht.o])
 clear DU aaN JF CV;go_upto_region 8 with fail;rw[<-Ry.o,<-Xu.o];obtain⟨z1,z2,_,_⟩:=ay HDb.o;by_cases hq0:q=0
 · have Mo:(q != 0)=false:=aaq hq0
   go_wp2;go_roundw
   case rel=>exact⟨_,_,_,lo,KZ,jd (by rw[ZD.o,if_pos hq0]),jd (KE.o.fr ZQ.o (λx=>x) λx=>x),Nn,jd (Pp.o.trans (ZQ.o.mono λ_ x=>x.elim)),HOb⟩
   case measure=>rw[(KE.o.fr ZQ.o (λx=>x) λx=>x).left_eq,Ld.o.left_eq];exact QM
 have Mo:(q != 0)=true:=T6 hq0;have hbase:w0.heap.size<=wb.heap.size:=(Pp.o.trans (ZQ.o.mono λ_ x=>x.elim)).size
 go_wp2_with (first
  |(at_builtin;refine wpList_append_own _ rfl _ _ 29 rfl w0.heap.size 52 i0 (.agg #[.int .i64 0,.int .i64 0,.int .i64 0]) 3 24 Tryz.underlying29 hi hz0 hz1 hz2 rfl (by decide) _ lo.length (ku lo) rfl (ownsRow.alloc HOb.o _) ⟨_,0,none⟩ 1 1 [.int .i64 d1,.int .i64 d2,.int .i64 q] rfl rfl Ij (Qb _ _ _) (by unfold maxLen;omega) (by omega) (by rw[World.size_alloc];omega) ?_;intro v' w9 hown cN _)
  |go_in)
 have hF9:Fr (λj=>_=some j) wb w9:=((refl _ wb).alloc _).grown cN λk e=>.inl e
 have Hu:=jd hF9
 have HO9:Hd (w9.ownsRow w0.heap.size 52 3 v' (lo++[((d1,d2),q)]).length (ku (lo++[((d1,d2),q)]))):=jd (by
  rw[Il,ju,List.length_singleton]
  exact hown)
 have Hx:Hd (∀j,_=some j->w0.heap.size<=j):=jd (dR HOb.o);have ZK:=jd ((KE.o.fr ZQ.o (λx=>x) λx=>x).fr Hu.o (λe=>by have h1:=Hx.o _ e;have:=HIB.o;omega) λe=>by have h1:=Hx.o _ e;have:=HIB.o;omega);clear hown cN hF9;go_wp2;go_roundw
 case rel=>exact⟨_,_,_,lo++[((d1,d2),q)],by rw[ju,List.length_singleton];omega,jd (by rw[ZD.o,if_neg hq0]),ZK,Nn,jd ((Pp.o.trans (ZQ.o.mono λ_ x=>x.elim)).next Hu.o λi hi=>.inr (Hx.o i hi)),HO9⟩
 case measure=>rw[ZK.o.left_eq,Ld.o.left_eq];exact QM
open Go.RowKit
theorem OP:∀{l:List Pl.T},Pl.Form l->∀k,k+1<l.length->(l.getD k (0,0)).1<(l.getD (k+1) (0,0)).1
 |[],_,_,h=>by simp at h
 |t :: l,hf,0,h=>by
  have h':0<l.length:=by simpa using h
  simp only[List.getD_cons_succ,List.getD_cons_zero];rw[jc,je h'];exact hf.2.1 _ (jM h')
 |t :: l,hf,k+1,h=>by
  simp only[List.getD_cons_succ];exact OP hf.2.2 k (by simpa using h)
theorem acM{l:List Pl.T}(h:Pl.May l){k:Nat}(hk:k<l.length):(-1000<=(l.getD k (0,0)).1/\(l.getD k (0,0)).1<=1000)/\(-1000000<=(l.getD k (0,0)).2/\(l.getD k (0,0)).2<=1000000)/\(l.getD k (0,0)).2≠0:=by
 rw[jc,je hk];have hm:=jM hk;exact⟨(h.2.2 _ hm).1,(h.2.2 _ hm).2,Pl.Bj h.2.1 hm⟩
theorem A7(v:Value)(l:List Pl.T)(w:World)(hx:Ts w v l)(hm:Pl.May l):
 Calls prog 77 #[v] w λe w'=>e=.returned (.bool true)/\New w w':=by
 obtain⟨a,c,rfl,hx⟩:=hx
 obtain⟨n,hn⟩:∃n,n=l.length:=⟨_,rfl⟩
 rw[<-hn]
 have ahE:n<=64:=by rw[hn];exact hm.1
 have HN:=jd hn;have HX:=jd hx;have HM:=jd hm;clear hn hx hm
 go_enter Tryz.func77,Tryz.ntmps77
 go_wp2
 go_loopw [10] (λi wr=>∃k:Nat,k<=n/\i=.int .i64 k/\Hd (New w wr)) (λi _=>n-(intOf i).toNat)
 case atStart=>exact⟨0,by omega,rfl,jd (refl _ _)⟩
 case round=>
 obtain⟨k,hk,rfl,HF⟩:=hrel;by_cases hlt:k<n;rotate_left
 · go_wp2
   go_ret;exact⟨rfl,HF.o⟩
 obtain⟨b,o,rfl,d1,d2⟩:=(New.terms HF.o HX.o).at (k:=k) (by have:=HN.o;omega);have hb:=acM HM.o (k:=k) (by rw[<-HN.o];exact hlt);obtain⟨e1,H1⟩:=jb ((l.getD k (0,0)).1);obtain⟨e2,H2⟩:=jb ((l.getD k (0,0)).2);rw[<-H1.o]at d1 hb;rw[<-H2.o]at d2 hb;obtain⟨⟨b1,b2⟩,⟨b3,b4⟩,b5⟩:=hb
 have g1:decide (e1 < -1000)=false:=by simp;omega
 have g2:decide (1000<e1)=false:=by simp;omega
 have g3:decide (e2 < -1000000)=false:=by simp;omega
 have g4:decide (1000000<e2)=false:=by simp;omega
 have g5:(e2==0)=false:=by simpa using b5
 have i1:(0:Int)<=(k:Int):=by omega
 have i2:(k:Int)<(n:Int):=by omega
 clear b5;by_cases h0:k=0
 · subst h0
   simp only[Nat.zero_mul,Nat.add_zero]at d1 d2;go_wp2
   go_quiet (fail)
   go_wp2;go_roundw
   case rel=>exact⟨1,by omega,by go_num,jd ((Fr.alloc HF.o _).drewN _)⟩
   case measure=>simp[intOf];omega
 obtain⟨j,rfl⟩:∃j,k=j+1:=⟨k-1,by omega⟩
 obtain⟨b',o',hbo,d3,_⟩:=(New.terms HF.o HX.o).at (k:=j) (by have:=HN.o;omega)
 obtain⟨rfl,rfl⟩:b=b'/\o=o':=by injection hbo with hbo;injection hbo with x y _;exact⟨x,y⟩
 have hl:=OP HM.o.2.1 j (by rw[<-HN.o];exact hlt);obtain⟨e3,H3⟩:=jb ((l.getD j (0,0)).1);rw[<-H3.o]at d3;rw[<-H3.o,<-H1.o]at hl
 have g6:decide (e1<=e3)=false:=by simp;omega
 have hbl:b<wr.heap.size:=World.block_lt_of_cell? wr _ d3
 have hnb:¬wr.heap.size=b:=by omega
 have d4:=(World.cell?_alloc_lt wr (.cells #[.int .i64 e1,.int .i64 e2] 40) ⟨b,o+j*2,none⟩ hbl).trans d3
 have j1:(0:Int)<=(j:Int):=by omega
 have j2:(j:Int)<(n:Int):=by omega
 have hw:IntKind.i64.wrap (j:Int)=(j:Int):=by first|exact IntWalk.i64_in _ (by omega)|exact IntWalk.i64_in _ (by omega) (by omega)
 go_wp2
 go_quiet (fail)
 go_wp2;clear hw;go_roundw
 case rel=>exact⟨j+1+1,by omega,by go_num,jd ((Fr.alloc HF.o _).drewN _)⟩
 case measure=>simp[intOf];omega
end Go.Proofs.YtfplmbmenjdlhaaGreatDoor
