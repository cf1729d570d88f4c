/- Plain mathematics of diagrams, joined: the third part. -/
import Derived.Test.YtfplmbmenjdlhaaGreatDoorMAllb
set_option linter.unusedVariables false
namespace Go.Proofs.YtfplmbmenjdlhaaGreatDoor.Kn
open Bool (not_not)
open Classical (axiomOfChoice propDecidable)
open Cr (comes)
open Int (mul_add mul_assoc mul_neg mul_zero neg_mul neg_one_mul)
open List (cons_append countP_le_length countP_nil flatMap_cons map_cons map_map map_nil mem_cons_of_mem mem_flatMap nil_append nodup_cons pairwise_cons range)
open Pl (Is May vL co rV gF bJ rq gR)
variable {io:Bool} {d:Dt} {w:Int} {X Y Z:List Cr} {f:List Dt} {U V:List El} {es vs:List Nat} {L N a i j k lo n q r s x y z1 z2:Nat} {t:Nat×Ve Nat} {S:Nat->Bool} {R:Nat->Nat->Prop} {p:Pl} {u v:Ve Nat}
abbrev K2:=List (oP×Int)
def Xd(l:K2)(a:oP):Int:=cI l λt=>if t.1=a then t.2 else 0
theorem qw{α:Type}(v:α->Int):∀l m:List α,cI (l++m) v=cI l v+cI m v
 |[],m=>by rw[nil_append];show _=0+_;omega
 |a :: l,m=>by rw[cons_append,bB,bB,qw v l m];omega
theorem qu{α:Type}{v:α->Int}:∀{l:List α},(∀x∈l,v x=0)->cI l v=0
 |[],_=>rfl
 |a :: l,h=>by rw[bB,h a (by simp),qu λx hx=>h x (by simp[hx])];rfl
theorem xf{α:Type}(v w:α->Int):∀l:List α,cI l (λx=>v x+w x)=cI l v+cI l w
 |[]=>rfl
 |a :: l=>by rw[bB,bB,bB,xf v w l];omega
theorem tD{α:Type}(c:Int)(v:α->Int):∀l:List α,cI l (λx=>c*v x)=c*cI l v
 |[]=>by show 0=c*0;omega
 |a :: l=>by rw[bB,bB,tD c v l,mul_add]
theorem yP{α β:Type}(F:α->List β)(v:β->Int):∀l:List α,cI (l.flatMap F) v=cI l λx=>cI (F x) v
 |[]=>rfl
 |a :: l=>by rw[flatMap_cons,qw,bB,yP F v l]
theorem Iu{α:Type}{v:α->Int}{a:α}:∀{l:List α},l.Nodup->a∈l->(∀x∈l,x≠a->v x=0)->cI l v=v a
 |[],_,h,_=>by cases h
 |b :: l,hn,h,k=>by
  rw[nodup_cons]at hn;rw[bB]
  rcases jy.1 h with e|h
  · subst e
    rw[qu λx hx=>k x (by simp[hx]) λe=>hn.1 (e ▸ hx)];omega
  rw[k b (by simp) λe=>hn.1 (e ▸ h),Iu hn.2 h λx hx=>k x (by simp[hx])];omega
theorem Iw{α:Type}:∀l:List α,cI l (λ_=>1)=l.length
 |[]=>rfl
 |a :: l=>by rw[bB,Iw l,jE];push_cast;omega
theorem BS{α:Type}(p:α->Bool):∀l:List α,cI l (λx=>if p x then 1 else 0)=(l.filter p).length
 |[]=>rfl
 |a :: l=>by
  rw[bB,BS p l]
  cases h:p a<;>simp[h];omega
theorem G2{N:Nat}{e:Int}:∀{l:K2},(∀t∈l,t.1.2=e->-(N:Int)<=t.1.1/\t.1.1<N)->∀s:Int->Int,
 cI l (λt=>if t.1.2=e then s t.1.1*t.2 else 0)=cI (range (2*N)) λi=>s ((i:Int)-N)*Xd l ((i:Int)-N,e)
 |[],_,s=>by
  show 0=_
  exact(qu λi _=>by show _*0=0;omega).symm
 |t :: l,h,s=>by
  have ih:=G2 (l:=l) (λu hu=>h u (by simp[hu])) s
  have hc:∀a,Xd (t :: l) a=(if t.1=a then t.2 else 0)+Xd l a:=λa=>rfl
  rw[bB,ih];simp only[hc,mul_add];rw[xf]
  congr 1
  by_cases c:t.1.2=e
  · obtain⟨h1,h2⟩:=h t (by simp) c
    rw[if_pos c,Iu (a:=(t.1.1+N).toNat) jK (jw.2 (by omega)) λi hi hne=>?_]
    · have q:(((t.1.1+N).toNat:Nat):Int)-N=t.1.1:=by omega
      rw[q,if_pos (show t.1=(t.1.1,e)from Prod.ext rfl c)]
    rw[if_neg λk=>hne ?_]
    · omega
    have:t.1.1=(i:Int)-N:=congrArg Prod.fst k;omega
  rw[if_neg c];exact(qu λi _=>by rw[if_neg λk=>c (congrArg Prod.snd k)];omega).symm
theorem IH(x:Int):Pl.dJ (x+1) = -Pl.dJ x:=by unfold Pl.dJ;split<;>split<;>omega
theorem age(r:Int->Int)(N:Nat)(h0:r (-(N:Int)-1)=0):∀m:Nat,cI (range m) (λi=>Pl.dJ ((i:Int)-N)*(r ((i:Int)-N)+r ((i:Int)-N-1))) = -(Pl.dJ ((m:Int)-N)*r ((m:Int)-N-1))
 |0=>by
  show 0=_
  rw[show ((0:Nat):Int)-N-1 = -(N:Int)-1 by omega,h0];omega
 |m+1=>by
  rw[jO,qw,age r N h0 m,bB]
  show -(Pl.dJ _*_)+(Pl.dJ ((m:Int)-N)*(r ((m:Int)-N)+r ((m:Int)-N-1))+0)=_
  rw[show ((m+1:Nat):Int)-N=((m:Int)-N)+1 by omega,IH,show (m:Int)-N+1-1=(m:Int)-N by omega,mul_add,neg_mul];omega
theorem Fk{M:El->El->Bool}{g:El->oP}(hN:∀y∈U,-(N:Int)<(g y).1/\(g y).1+1<N){l:K2}(hl:∀a,Xd l a=hn U M g a)(hk:∀t∈l,-(N:Int)<=t.1.1/\t.1.1<N)(e:Int):
 cI l (λt=>if t.1.2=e then Pl.dJ t.1.1*t.2 else 0)=cI U λy=>if (g y).2=e then Pl.dJ (g y).1 else 0:=by
 obtain⟨u,hu⟩:∃u:K2,u=U.map λy=>(g y,1):=⟨_,rfl⟩
 have cu:∀a,Xd u a=(at' U g a).length:=λa=>by
  unfold Xd at';rw[hu,kv,<-BS]
  refine cX λy _=>?_
  by_cases c:g y=a<;>simp[c]
 have su:cI u (λt=>if t.1.2=e then Pl.dJ t.1.1*t.2 else 0)=cI U λy=>if (g y).2=e then Pl.dJ (g y).1 else 0:=by
  rw[hu,kv]
  refine cX λy _=>?_
  show (if (g y).2=e then Pl.dJ (g y).1*1 else 0)=_
  rw[Int.mul_one]
 rw[<-su,G2 (N:=N) (λt ht _=>hk t ht) Pl.dJ,G2 (N:=N) (l:=u) (λt ht _=>by
  rw[hu]at ht;obtain⟨y,hy,rfl⟩:=jv.1 ht;have:=hN y hy
  exact⟨by show _<=(g y).1;omega,by show (g y).1<_;omega⟩) Pl.dJ]
 have out:∀d:oP,d.1<=-(N:Int)\/(N:Int)-1<=d.1->Cb U M g d=0:=λd hd=>by
  unfold Cb
  have:at' U g d=[]:=List.filter_eq_nil_iff.2 λy hy=>by
   have:=hN y hy;simp only[jt]
   intro k;rw[k]at this;omega
  rw[this];exact Cc .nil
 have t:=age (λi=>(Cb U M g (i,e):Int)) N (by show ((Cb U M g (-(N:Int)-1,e):Nat):Int)=0;rw[out _ (.inl (by show -(N:Int)-1<=_;omega))];rfl) (2*N)
 have key:cI (range (2*N)) (λi=>Pl.dJ ((i:Int)-N)*Xd l ((i:Int)-N,e))+cI (range (2*N)) (λi=>Pl.dJ ((i:Int)-N)*((Cb U M g ((i:Int)-N,e):Int)+Cb U M g ((i:Int)-N-1,e)))
  = cI (range (2*N)) λi=>Pl.dJ ((i:Int)-N)*Xd u ((i:Int)-N,e):=by
  rw[<-xf]
  refine cX λi _=>?_
  rw[hl,cu,<-mul_add]
  congr 1
  unfold hn pre
  simp only;omega
 rw[t]at key;have last:Cb U M g (((2*N:Nat):Int)-N-1,e)=0:=out _ (.inr (by show (N:Int)-1<=((2*N:Nat):Int)-N-1;omega));rw[last]at key;simp only[Int.ofNat_zero,mul_zero]at key;simp at key;exact key
def dB(k m:Nat):Int:=cI (range k) λi=>xk (m.testBit i)
theorem yg(k m:Nat):dB (k+1) m=dB k m+xk (m.testBit k):=by
 unfold dB;rw[jO,qw,bB]
 show _+(_+0)=_
 omega
theorem OY{m:Nat}(h:m<2 ^ k):dB k (2 ^ k+m)=dB k m:=by
 unfold dB
 exact cX λi hi=>by rw[Nat.testBit_two_pow_add_gt (jw.1 hi)]
theorem Ta(x:Int):Pl.dJ (x-1) = -Pl.dJ x:=by unfold Pl.dJ;split<;>split<;>omega
theorem zi(g:Int->Int):∀k:Nat,cI (range (2 ^ k)) (λm=>Pl.dJ (dB k m)*g (-2*dB k m))=gF (pw k) g
 |0=>by
  show Pl.dJ 0*g (-2*0)+0=_
  simp[pw,gF,Pl.dJ]
 |k+1=>by
  have e:range (2 ^ (k+1))=range (2 ^ k)++(range (2 ^ k)).map λm=>2 ^ k+m:=by
   rw[Nat.pow_succ,Nat.mul_two,List.range_add]
  rw[e,qw,kv]
  have a:cI (range (2 ^ k)) (λm=>Pl.dJ (dB (k+1) m)*g (-2*dB (k+1) m))=cI (range (2 ^ k)) λm=>Pl.dJ (dB k m)*(-1*g (-2*dB k m+2)):=cX λm hm=>by
   rw[jw]at hm;rw[yg,Nat.testBit_lt_two_pow hm]
   show Pl.dJ (dB k m + -1)*g (-2*(dB k m + -1))=_
   rw[show dB k m + -1=dB k m-1 by omega,Ta,show -2*(dB k m-1) = -2*dB k m+2 by omega];rw[neg_mul,neg_one_mul,mul_neg]
  have b:cI (range (2 ^ k)) (λm=>Pl.dJ (dB (k+1) (2 ^ k+m))*g (-2*dB (k+1) (2 ^ k+m)))=cI (range (2 ^ k)) λm=>Pl.dJ (dB k m)*(-1*g (-2*dB k m + -2)):=cX λm hm=>by
   rw[jw]at hm
   have hb:(2 ^ k+m).testBit k=true:=by rw[Nat.testBit_two_pow_add_eq,Nat.testBit_lt_two_pow hm];rfl
   rw[yg,OY hm,hb]
   show Pl.dJ (dB k m+1)*g (-2*(dB k m+1))=_
   rw[IH,show -2*(dB k m+1) = -2*dB k m + -2 by omega];rw[neg_mul,neg_one_mul,mul_neg]
  rw[a,b];have i1:=zi (λe=>-1*g (e+2)) k;have i2:=zi (λe=>-1*g (e + -2)) k;rw[i1,i2,pw,Pl.fO];rw[<-Pl.AW]
  congr 1
  funext x;rw[two,bJ,bJ,gR]
  show -1*g (x+2) + -1*g (x + -2) = -1*g (x+2)+(-1*g (x + -2)+0)
  omega
theorem PW{P:Nat->Prop}{E:Rl}(hE:Equivalence E){L L':List Nat}(h:Rp P E L)(h':Rp P E L'):L.length=L'.length:=by
 have k:=h.two h' hE (f:=λ_=>true) λ_ _ _=>rfl
 have e:∀l:List Nat,cI l (λ_=>xk true)=l.length:=λl=>Iw l
 rw[e,e]at k;omega
structure G6(n:Nat)(s:Rt)(E:Rl):Prop where
 ok:wL n s
 iff:∀x y,x<=2*n->y<=2*n->(rt s.1 x=rt s.1 y↔E x y)
theorem G6.un{n:Nat}{s:Rt}{E:Rl}(h:G6 n s E)(hE:Equivalence E){a b:Nat}(ha:1<=a)(ha':a<=2*n)(hb:1<=b)(hb':b<=2*n):G6 n (un s a b) (qG E a b):=by
 refine⟨h.ok.un ha ha' hb hb',λx y hx hy=>?_⟩;by_cases c:rt s.1 a=rt s.1 b
 · have e:Kn.un s a b=s:=by unfold Kn.un;rw[if_pos c]
   rw[e,h.iff x y hx hy,kD hE ((h.iff a b ha' hb').1 c)]
 have e:(Kn.un s a b).1=s.1.map λz=>if z=rt s.1 a then rt s.1 b else z:=by unfold Kn.un;rw[if_neg c]
 have hl:=h.ok.len
 have m:∀x,x<=2*n->rt (Kn.un s a b).1 x=if rt s.1 x=rt s.1 a then rt s.1 b else rt s.1 x:=λx hx=>by rw[e,NT _ _ (by omega)]
 rw[m x hx,m y hy];unfold qG;rw[<-h.iff x y hx hy,<-h.iff x a hx ha',<-h.iff b y hb' hy,<-h.iff x b hx hb',<-h.iff a y ha' hy]
 by_cases c1:rt s.1 x=rt s.1 a<;>by_cases c2:rt s.1 y=rt s.1 a
 · rw[if_pos c1,if_pos c2,c1,c2];simp
 · rw[if_pos c1,if_neg c2]
   constructor
   · intro k;exact .inr (.inl ⟨c1,k⟩)
   rintro(k|⟨_,k⟩|⟨_,k⟩)
   · exact absurd (k.symm.trans c1) c2
   · exact k
   exact absurd k.symm c2
 · rw[if_neg c1,if_pos c2]
   constructor
   · intro k;exact .inr (.inr ⟨k,c2.symm⟩)
   rintro(k|⟨k,_⟩|⟨k,_⟩)
   · exact absurd (k.trans c2) c1
   · exact absurd k c1
   exact k
 rw[if_neg c1,if_neg c2];constructor
 · exact .inl
 rintro(k|⟨k,_⟩|⟨_,k⟩)
 · exact k
 · exact absurd k c1
 exact absurd k.symm c2
def TA(q:Qd)(b:Bool):eW:=if b then [(q.2.2.2,q.1),(q.2.1,q.2.2.1)]else [(q.2.2.1,q.2.2.2),(q.1,q.2.1)]
def zZ:List Qd->Nat->eW->eW
 |[],_,es=>es
 |q :: X,st,es=>zZ X (st / 2) (TA q (st.testBit 0)++es)
theorem G6.state{n:Nat}:∀{X:List Qd} {s:Rt} {es:eW} (_:G6 n s (bh (λx=>x) es)) (_:∀q∈X,(1<=q.1/\q.1<=2*n)/\(1<=q.2.1/\q.2.1<=2*n)/\(1<=q.2.2.1/\q.2.2.1<=2*n)/\(1<=q.2.2.2/\q.2.2.2<=2*n)) (st:Nat),
 G6 n (ij X s st) (bh (λx=>x) (zZ X st es))
 |[],_,_,h,_,_=>h
 |q :: X,s,es,h,hq,st=>by
  obtain⟨⟨a1,a2⟩,⟨b1,b2⟩,⟨c1,c2⟩,d1,d2⟩:=hq q (by simp);rw[ij,zZ]
  refine G6.state ?_ (λr hr=>hq r (by simp[hr])) _
  have hE:=aj es;unfold unA TA
  have tb:st.testBit 0=decide (st%2=1):=by rw[Nat.testBit_zero]
  rw[tb];by_cases c:st%2=0
  · rw[if_pos c,jm (by omega)]
    exact(h.un hE a1 a2 b1 b2).un (fw hE _ _) c1 c2 d1 d2
  rw[if_neg c,jk (by omega)];exact(h.un hE b1 b2 c1 c2).un (fw hE _ _) d1 d2 a1 a2
theorem ET{e:Nat×Nat}:∀{X:List Qd} {st:Nat} {es:eW},e∈zZ X st es↔e∈es\/∃k,∃h:k<X.length,e∈TA X[k] (st.testBit k)
 |[],st,es=>by simp[zZ]
 |q :: X,st,es=>by
  rw[zZ,ET,jx]
  have tb:∀k,(st / 2).testBit k=st.testBit (k+1):=λk=>by rw[Nat.testBit_succ]
  constructor
  · rintro((h|h)|⟨k,hk,h⟩)
    · exact .inr ⟨0,by simp,h⟩
    · exact .inl h
    exact .inr ⟨k+1,by simp;omega,by rw[<-tb];exact h⟩
  rintro(h|⟨k,hk,h⟩)
  · exact .inl (.inr h)
  cases k with
  |zero=>exact .inl (.inl h)
  |succ k=>exact .inr ⟨k,by simp at hk;omega,by rw[tb];exact h⟩
theorem Ok.IU(h:Ok X)(L st:Nat):eY X L st.testBit=et X L st:=by
 have s0:G6 X.length (start X.length) (bh (λx=>x) []):=⟨wL.start _,λx y hx hy=>by rw[qy hx,qy hy,oC]⟩;have s1:=G6.state s0 h.Tt st
 have q:∀k,k<X.length->∀e,e∈TA (qd (cr X k)) (st.testBit k)↔e∈Aw X st.testBit k:=λk hk e=>by
  have a0:(qd (cr X k)).1=aa X (k,0):=rfl;have a1:(qd (cr X k)).2.1=aa X (k,1):=rfl;have a2:(qd (cr X k)).2.2.1=aa X (k,2):=rfl;have a3:(qd (cr X k)).2.2.2=aa X (k,3):=rfl;unfold TA Aw;rw[a0,a1,a2,a3];cases st.testBit k
  · simp only[jN,if_false,jy,jz,or_false];exact or_comm
  simp only[if_true,jy,jz,or_false];exact or_comm
 have m:∀e,e∈zZ (X.map qd) st []↔e∈pairs X st.testBit:=λe=>by
  rw[ET];unfold pairs;rw[mem_flatMap];constructor
  · rintro(h|⟨k,hk,h⟩)
    · cases h
    rw[jA]at hk;refine⟨k,jw.2 hk,(q k hk e).1 ?_⟩
    have:(X.map qd)[k]'(by rw[jA];exact hk)=qd (cr X k):=by
     rw[List.getElem_map];unfold cr;rw[jc,je hk];rfl
    rw[<-this];exact h
  rintro⟨k,hk,h⟩;rw[jw]at hk
  refine .inr ⟨k,by rw[jA];exact hk,?_⟩
  have:(X.map qd)[k]'(by rw[jA];exact hk)=qd (cr X k):=by
   rw[List.getElem_map];unfold cr;rw[jc,je hk];rfl
  rw[this];exact(q k hk e).2 h
 have eq:∀x y,bh (λx=>x) (zZ (X.map qd) st []) x y↔bh (λx=>x) (pairs X st.testBit) x y:=λx y=>
  ⟨b9 λe he=>aX ((m e).1 he),b9 λe he=>aX ((m e).2 he)⟩
 have r1:Rp (λp=>1<=p/\p<=2*X.length) (bh (λx=>x) (pairs X st.testBit)) (aw X st.testBit):=by
  have r:=h.agv (S:=st.testBit) (L:=0)
  have e:tI X 0 st.testBit=aw X st.testBit:=by unfold tI;simp
  rw[e]at r;exact r
 obtain⟨R,hR⟩:∃R,R=(range (2*X.length+1)).filter λa=>decide (1<=a)&&decide (rt (ij (X.map qd) (start X.length) st).1 a=a):=⟨_,rfl⟩
 have mR:∀a,a∈R↔(1<=a/\a<=2*X.length)/\rt (ij (X.map qd) (start X.length) st).1 a=a:=λa=>by
  rw[hR,jC,jw,jp,jt,jt];omega
 have r2:Rp (λp=>1<=p/\p<=2*X.length) (bh (λx=>x) (pairs X st.testBit)) R:=by
  refine⟨?_,λr hr=>((mR r).1 hr).1,λp hp=>?_⟩
  · have nd:R.Nodup:=hR ▸ jK.filter _
    refine List.Pairwise.imp_of_mem ?_ nd
    intro a b ha hb hne k;obtain⟨⟨_,a2⟩,a3⟩:=(mR a).1 ha;obtain⟨⟨_,b2⟩,b3⟩:=(mR b).1 hb;rw[<-eq,<-s1.iff a b a2 b2,a3,b3]at k;exact hne k
  have rg:=s1.ok.wN p hp.1 hp.2;have fx:=s1.ok.fix p hp.1 hp.2;exact⟨_,(mR _).2 ⟨rg,fx⟩,(eq _ _).1 ((s1.iff p _ hp.2 rg.2).1 fx.symm)⟩
 have len:=PW (aj _) r1 r2;have cnt:=s1.ok.cnt;rw[List.countP_eq_length_filter,<-hR]at cnt;unfold eY et
 rw[len];omega
theorem FM(st:Nat):∀n,iU n st.testBit=pop n st:=λn=>by
 have:∀n st,iU n (Nat.testBit st)=pop n st:=by
  intro n
  induction n with
  |zero=>intro st;rfl
  |succ n ih=>
   intro st;rw[pop,<-ih (st / 2)];unfold iU;rw[List.range_succ_eq_map,jG,List.countP_map,Nat.testBit_zero,Nat.add_comm]
   congr 1
   · by_cases c:st%2=1
     · rw[jk c,c];rfl
     rw[jm c];simp;omega
   refine dH λi _=>?_
   show st.testBit (i+1)=_
   rw[Nat.testBit_succ]
 exact this n st
theorem EJ(X:List Cr):uJ X+ml X=X.length:=by
 unfold uJ ml
 have:∀l:List Nat,(l.countP λk=>(cr X k).p)+(l.countP λk=>!(cr X k).p)=l.length:=λl=>by
  induction l with
  |nil=>rfl
  |cons a l ih=>rw[jG,jG,jE];cases (cr X a).p<;>simp<;>omega
 rw[this,jS]
theorem NM(x y:Int):Pl.dJ x*Pl.dJ y=Pl.dJ (x+y):=(Pl.XT x y).symm
theorem XS{x y:Int}(h:x%2=y%2):Pl.dJ x=Pl.dJ y:=by unfold Pl.dJ;rw[h]
theorem Ie(f:Int->Int):∀m:List Pl.T,gF (m.map λt=>(-2*t.1,Pl.dJ t.1*t.2)) f=gF m λe=>Pl.dJ e*f (-2*e)
 |[]=>rfl
 |t :: m=>by
  rw[map_cons,bJ,bJ,Ie f m]
  show Pl.dJ t.1*t.2*f (-2*t.1)+_=_
  rw[Int.mul_comm (Pl.dJ t.1) t.2,mul_assoc]
theorem Nz(g:Int->Int):∀l:K2,gF (l.map λt=>(t.1.2,t.2*Pl.dJ t.1.1)) g=cI l λt=>Pl.dJ t.1.1*t.2*g t.1.2
 |[]=>rfl
 |t :: l=>by
  rw[map_cons,bJ,bB,Nz g l]
  show t.2*Pl.dJ t.1.1*g t.1.2+_=_
  rw[Int.mul_comm t.2]
theorem O9{α:Type}(x:Int)(U:List α)(a b:α->Int)(h:α->Int):(cI U λy=>h y*(Pl.dJ (b y)*vL x (-2*b y)))=if x%2=0 then Pl.dJ (-(x / 2))*cI U (λy=>if b y = -(x / 2)then h y else 0)else 0:=by
 by_cases c:x%2=0
 · rw[if_pos c,<-tD]
   refine cX λy _=>?_
   unfold vL;by_cases d:b y = -(x / 2)
   · rw[if_pos d,if_pos (by omega),d,Int.mul_one,Int.mul_comm]
   rw[if_neg d,if_neg (by omega)];simp
 rw[if_neg c]
 refine qu λy _=>?_
 unfold vL
 rw[if_neg (by omega)];simp
theorem aiw(k:Nat)(z:Int):co (pw (k+1)) z = -(co (pw k) (z-2))-co (pw k) (z+2):=by
 have e:∀(a:Int) (l:List Pl.T),(gF l λx=>vL z (x+a))=co l (z-a):=λa l=>by
  unfold co
  congr 1
  funext x;unfold vL;by_cases c:x+a=z
  · rw[if_pos c,if_pos (by omega)]
  rw[if_neg c,if_neg (by omega)]
 show gF (Pl.mul (pw k) two) (vL z)=_
 rw[Pl.fO]
 have:(λx=>gF two λy=>vL z (x+y))=λx=>-1*vL z (x+2) + -1*vL z (x + -2):=by
  funext x;rw[two,bJ,bJ,gR]
  show -1*vL z (x+2)+(-1*vL z (x + -2)+0)=_
  omega
 rw[this,Pl.AW,rq,rq,e,e,show z - -2=z+2 by omega];omega
theorem Ok.acU(h:Ok X)(L:Nat){l:K2}(hl:∀a,Xd l a=Kh X L (Kn.bM X L) a){m left:List Pl.T}(hm:Is m (l.map λt=>(t.1.2,t.2*Pl.dJ t.1.1)))(hk:∀t∈l,-(2*(X.length+1):Int)<=t.1.1/\t.1.1<2*(X.length+1))
 (U6:Is left (m.map λt=>(-2*t.1,Pl.dJ t.1*t.2))) {j right:List Pl.T} (hw:w=(uJ X:Int)-ml X) (hj:∀y,co j y=Pl.dJ w*gF (df X L (2 ^ X.length)) (EL (y+3*w)))
 (Mn:Is right (Pl.mul j [(-2,-1),(2,-1)])) (h0:0<X.length+L) (h64:2*X.length+L<64):left=right:=by
 refine U6.unique Mn λx=>?_
 have wl:∀n S,iU n S<=n:=λn S=>by unfold iU;have:=countP_le_length (p:=S) (l:=range n);simpa using this
 obtain⟨u,hu⟩:∃u:Int,u = -(ml X:Int):=⟨_,rfl⟩
 obtain⟨v,hv⟩:∃v:Int,v=(uJ X:Int)-2*(ml X:Int):=⟨_,rfl⟩
 have pm:=EJ X
 have a1:co (m.map λt=>(-2*t.1,Pl.dJ t.1*t.2)) x=cI l λt=>Pl.dJ t.1.1*t.2*(Pl.dJ t.1.2*vL x (-2*t.1.2)):=by
  show gF _ _=_
  rw[Ie,Pl.uw hm.2,Nz]
 have dgb:∀y∈Kn.bM X L,-((2*(X.length+1):Nat):Int)<((Kn.eF X L).dg u v y).1/\((Kn.eF X L).dg u v y).1+1<((2*(X.length+1):Nat):Int):=λy _=>by
  have:=wl X.length y.1
  show -((2*(X.length+1):Nat):Int)<(iU X.length y.1:Int)+u/\(iU X.length y.1:Int)+u+1<_
  omega
 have es:=λe=>Fk (U:=Kn.bM X L) (M:=(Kn.eF X L).M) (g:=(Kn.eF X L).dg u v) (N:=2*(X.length+1)) dgb (l:=l) (λa=>by rw[hl a];unfold Kh;rw[<-hu,<-hv]) (λt ht=>by have:=hk t ht;omega) e
 have a2:co (m.map λt=>(-2*t.1,Pl.dJ t.1*t.2)) x=cI (Kn.bM X L) λy=>Pl.dJ ((Kn.eF X L).dg u v y).1*(Pl.dJ ((Kn.eF X L).dg u v y).2*vL x (-2*((Kn.eF X L).dg u v y).2)):=by
  rw[a1,O9 x l (λt=>t.1.1) (λt=>t.1.2) λt=>Pl.dJ t.1.1*t.2,O9 x (Kn.bM X L) (λy=>((Kn.eF X L).dg u v y).1) (λy=>((Kn.eF X L).dg u v y).2) λy=>Pl.dJ ((Kn.eF X L).dg u v y).1,es]
 have a3:co (m.map λt=>(-2*t.1,Pl.dJ t.1*t.2)) x=cI (range (2 ^ X.length)) λs=>Pl.dJ w*co (pw (eY X L s.testBit)) (x+2*((iU X.length s.testBit:Int)+v)):=by
  rw[a2];unfold Kn.bM;rw[yP]
  refine cX λs _=>?_
  unfold sP;rw[kv];have k:=zi (λe=>Pl.dJ w*vL x (e-2*((iU X.length s.testBit:Int)+v))) (eY X L s.testBit);rw[rq]at k
  have sh:(gF (pw (eY X L s.testBit)) λe=>vL x (e-2*((iU X.length s.testBit:Int)+v)))=co (pw (eY X L s.testBit)) (x+2*((iU X.length s.testBit:Int)+v)):=by
   unfold co
   congr 1
   funext z;unfold vL;by_cases c:z=x+2*((iU X.length s.testBit:Int)+v)
   · rw[if_pos c,if_pos (by omega)]
   rw[if_neg c,if_neg (by omega)]
  rw[sh]at k;rw[<-k]
  refine cX λq _=>?_
  have d:=h.Bl (S:=s.testBit) (L:=L) q;have e1:((Kn.eF X L).dg u v (s.testBit,rL X L s.testBit q)).1=(iU X.length s.testBit:Int)+u:=rfl
  have e2:((Kn.eF X L).dg u v (s.testBit,rL X L s.testBit q)).2=dB (eY X L s.testBit) q+(iU X.length s.testBit:Int)+v:=by
   show dq _ _ _+_+_=_
   rw[d];rfl
  rw[e1,e2,<-mul_assoc,<-mul_assoc,NM,NM];have e3:Pl.dJ ((iU X.length s.testBit:Int)+u+(dB (eY X L s.testBit) q+(iU X.length s.testBit:Int)+v))=Pl.dJ (dB (eY X L s.testBit) q+w):=XS (by omega);rw[e3,show -2*(dB (eY X L s.testBit) q+(iU X.length s.testBit:Int)+v) = -2*dB (eY X L s.testBit) q-2*((iU X.length s.testBit:Int)+v)by omega]
 have b1:co (Pl.mul j [(-2,-1),(2,-1)]) x = -(co j (x+2))-co j (x-2):=by
  show gF _ _=_
  rw[Pl.fO]
  have:(λz=>gF [(-2,-1),(2,-1)] λy=>vL x (z+y))=λz=>-1*vL (x+2) z + -1*vL (x-2) z:=by
   funext z;rw[bJ,bJ,gR]
   show -1*vL x (z + -2)+(-1*vL x (z+2)+0)=_
   unfold vL
   by_cases c:z=x+2<;>by_cases c':z=x-2
   · omega
   · rw[if_pos (by omega),if_neg (by omega),if_pos c,if_neg c'];omega
   · rw[if_neg (by omega),if_pos (by omega),if_neg c,if_pos c'];omega
   rw[if_neg (by omega),if_neg (by omega),if_neg c,if_neg c'];omega
  rw[this,Pl.AW,rq,rq]
  show -1*co j (x+2) + -1*co j (x-2)=_
  omega
 rw[a3,b1,hj,hj,Et,Et]
 have sI:∀(l:List Nat) (f:Nat->Int),Iy l f=cI l f:=λ_ _=>rfl
 rw[sI,sI,tD]
 have term:∀s∈range (2 ^ X.length),co (pw (eY X L s.testBit)) (x+2*((iU X.length s.testBit:Int)+v)) = -1*EL (x+2+3*w) (sL X L s) + -1*EL (x-2+3*w) (sL X L s):=λs _=>by
  rw[h.IU,FM];have rp:=h.EA L s h0
  have rl:et X L s<=2*X.length+L:=by unfold et;omega
  obtain⟨r,hr⟩:∃r,et X L s=r+1:=⟨et X L s-1,by omega⟩
  have ph:∀e,EL e (sL X L s)=co (pw r) (e-((X.length:Int)-2*(pop X.length s:Nat))):=λe=>by
   unfold EL sL xO kc
   simp only
   rw[hr,show ((((X.length:Int)-2*(pop X.length s:Nat))*64+((r+1:Nat):Int))%64).toNat-1=r by omega,
    show (((X.length:Int)-2*(pop X.length s:Nat))*64+((r+1:Nat):Int)) / 64=(X.length:Int)-2*(pop X.length s:Nat)by omega]
  rw[hr,aiw,ph,ph]
  have e1:x+2*((pop X.length s:Int)+v)-2=x-2+3*w-((X.length:Int)-2*(pop X.length s:Nat)):=by omega
  have e2:x+2*((pop X.length s:Int)+v)+2=x+2+3*w-((X.length:Int)-2*(pop X.length s:Nat)):=by omega
  rw[e1,e2];omega
 rw[cX term,xf,tD,tD,mul_add];rw[neg_one_mul,neg_one_mul,mul_neg,mul_neg];omega
theorem BB.aim{E E':Rl}{a c:Nat}(h:BB E E' a c)(k1:¬E' x a)(k2:¬E' x c)(y:Nat):E' y x↔E y x:=by
 rcases h with J|J
 · exact J.far k1 y
 exact(J.far (λq=>((J.sU x).1 q).elim k1 k2) y).symm
theorem Ok.Tp(h:Ok X){S T:Nat->Bool}{a c:Nat}(ad:BB (bh (λx=>x) (pairs X S)) (bh (λx=>x) (pairs X T)) a c)(hr:r∈aw X T)(n1:r≠fB X T a)(n2:r≠fB X T c):r∈aw X S:=by
 obtain⟨h1,h2⟩:=pE.1 hr;have rT:=h.root (S:=T)
 have k1:¬bh (λx=>x) (pairs X T) r a:=λq=>n1 (h2.symm.trans ((rT.iff r a).2 q))
 have k2:¬bh (λx=>x) (pairs X T) r c:=λq=>n2 (h2.symm.trans ((rT.iff r c).2 q))
 exact pE.2 ⟨h1,(h.IP (ad.aim k1 k2)).trans h2⟩
theorem pL{f g:Nat->Bool}(h:∀i,i<n->f i=g i):oH f n=oH g n:=
 yw (fR f n) (fR g n) λi hi=>by rw[fZ f hi,fZ g hi,h i hi]
theorem Ko(f:Nat->Bool)(h:q<n):oH f n ||| 2 ^ q=oH (λi=>f i||decide (i=q)) n:=
 yw (Nat.or_lt_two_pow (fR f n) (Nat.pow_lt_pow_right (by omega) h)) (fR _ n) λi hi=>by
  rw[Nat.testBit_or,fZ f hi,fZ _ hi,Nat.testBit_two_pow]
  congr 1
  exact jL.2 ⟨λe=>e.symm,λe=>e.symm⟩
section
variable {X:List Cr} {L:Nat} {S T:Nat->Bool} {m one two:Nat}
def mU(X:List Cr)(L:Nat)(S T:Nat->Bool)(m one two i:Nat):Nat:=
 oH (λj=>(decide (j<i)||decide ((aw X T).length<=j))&&M4 X S T m one two j) (eY X L T)
theorem PT(m a b j:Nat):(m / 2 ^ a*2 ^ b).testBit j=(decide (b<=j)&&m.testBit (j-b+a)):=by
 rw[<-Nat.shiftLeft_eq,<-Nat.shiftRight_eq_div_pow,Nat.testBit_shiftLeft,Nat.testBit_shiftRight,Nat.add_comm a]
theorem base_start(hm:m<2 ^ eY X L S):m / 2 ^ (aw X S).length*2 ^ (aw X T).length=mU X L S T m one two 0:=by
 have hlt:m / 2 ^ (aw X S).length*2 ^ (aw X T).length<2 ^ eY X L T:=by
  unfold eY at hm ⊢;rw[Nat.pow_add]at hm;have h1:m / 2 ^ (aw X S).length<2 ^ L:=Nat.div_lt_of_lt_mul hm;rw[Nat.pow_add,Nat.mul_comm];exact Nat.mul_lt_mul_of_pos_left h1 (Nat.pow_pos (by omega))
 refine yw hlt (fR _ _) λi hi=>?_
 rw[mU,fZ _ hi,PT];by_cases c:(aw X T).length<=i
 · have:¬i<(aw X T).length:=by omega
   simp[c,M4,this]
 simp[c]
theorem Rn(hi:i<(aw X T).length):mU X L S T m one two (i+1)=if M4 X S T m one two i then mU X L S T m one two i ||| 2 ^ i else mU X L S T m one two i:=by
 have hs:i<eY X L T:=by unfold eY;omega
 split
 · rename_i c
   rw[mU,mU,Ko _ hs]
   refine pL λj hj=>?_
   by_cases e:j=i
   · subst e;simp[c]
   have:(j<i+1)↔j<i:=by omega
   simp[e,this]
 rename_i c;rw[mU,mU]
 refine pL λj hj=>?_
 by_cases e:j=i
 · subst e;simp[show M4 X S T m one two j=false by simpa using c]
 have:(j<i+1)↔j<i:=by omega
 simp[this]
theorem VX:mU X L S T m one two (aw X T).length=ig X L S T m one two []:=by
 rw[mU,ig]
 refine pL λj hj=>?_
 by_cases c:j<(aw X T).length
 · simp[c,YZ]
 simp[show (aw X T).length<=j by omega,YZ]
theorem Pv(l:List Nat)(hr:r∈aw X T):ig X L S T m one two (l++[r])=ig X L S T m one two l ||| 2 ^ (aw X T).idxOf r:=by
 have hl:=jr hr
 have hs:(aw X T).idxOf r<eY X L T:=by unfold eY;omega
 rw[ig,ig,Ko _ hs]
 refine pL λj hj=>?_
 rw[Bool.or_assoc]
 congr 1
 unfold YZ;rw[List.any_append,List.any_cons,List.any_nil,Bool.or_false]
 congr 1
 exact jL.2 ⟨λe=>e.symm,λe=>e.symm⟩
theorem aiD(hi:(aw X T)[i]?=some r):M4 X S T m one two i=(!decide (r=one) && !decide (r=two)&&AA X S m r):=by
 have hl:=(jg.1 hi).1;unfold M4 AA
 rw[if_pos hl,jc,hi];rfl
theorem Sr(l:List Nat):ig X L S T m one two l<2 ^ eY X L T:=fR _ _
theorem O7(i:Nat):mU X L S T m one two i<2 ^ eY X L T:=fR _ _
end
def AL(v:Ve Nat)(lo:Nat):Prop:=v lo=true/\∀i,i<lo->v i=false
structure Piv(P:List (Nat×Ve Nat)):Prop where
 ne:P.Pairwise λs t=>s.1≠t.1
 lo:∀t∈P,AL t.2 t.1
theorem Ui{α:Type}(f:α->Nat):∀{l:List α},l≠[]->∃a∈l,∀b∈l,f a<=f b
 |[],h=>absurd rfl h
 |[a],_=>⟨a,by simp,λb hb=>by rw[jB.1 hb];exact jH _⟩
 |a :: b :: l,_=>by
  obtain⟨c,hc,h⟩:=Ui f (l:=b :: l) (by simp);by_cases k:f a<=f c
  · exact⟨a,by simp,λd hd=>by
     rcases jy.1 hd with rfl|hd
     · exact jH _
     have:=h d hd;omega⟩
  exact⟨c,by simp[hc],λd hd=>by
   rcases jy.1 hd with rfl|hd
   · omega
   exact h d hd⟩
theorem Piv.rk:∀{n:Nat} {P:List (Nat×Ve Nat)},P.length=n->Piv P->Rk (P.map (·.2)) n
 |0,P,hl,_=>by rw[List.eq_nil_of_length_eq_zero hl];exact .nil
 |n+1,P,hl,h=>by
  have hne:P≠[]:=λe=>by rw[e]at hl;cases hl
  obtain⟨p,hp,Ea⟩:=Ui (λt:Nat×Ve Nat=>t.1) hne;obtain⟨P1,P2,rfl⟩:=List.append_of_mem hp
  have Gx:Piv (P1++P2):=⟨h.ne.sublist (List.Sublist.append (List.Sublist.refl _) (List.sublist_cons_self _ _)),λt ht=>h.lo t (by
   rcases jx.1 ht with k|k
   · exact jx.2 (.inl k)
   exact jx.2 (.inr (by simp[k])))⟩
  have hl':(P1++P2).length=n:=by simp at hl ⊢;omega
  have ih:=Piv.rk hl' Gx
  have out:¬gP ((P1++P2).map (·.2)) p.2:=λk=>by
   have z:=k.wR (x:=p.1) λv hv=>by
    obtain⟨t,ht,rfl⟩:=jv.1 hv
    have ht':t∈P1++p :: P2:=by
     rcases jx.1 ht with k|k
     · exact jx.2 (.inl k)
     exact jx.2 (.inr (by simp[k]))
    refine(h.lo t ht').2 p.1 ?_;have h1:=Ea t ht'
    have h2:t.1≠p.1:=by
     have:=List.pairwise_append.1 h.ne
     rcases jx.1 ht with k|k
     · exact this.2.2 t k p (by simp)
     exact λe=>(pairwise_cons.1 this.2.1).1 t k e.symm
    have h1:p.1<=t.1:=h1;omega
   rw[(h.lo p hp).1]at z;cases z
  have r:Rk ((p :: (P1++P2)).map (·.2)) (n+1):=.out out ih;obtain⟨m,hm⟩:=Rk.ex ((P1++p :: P2).map (·.2))
  have mem:∀v,v∈(P1++p :: P2).map (·.2)↔v∈(p :: (P1++P2)).map (·.2):=λv=>by
   simp only[jP,map_cons,jx,jy];constructor
   · rintro(h|h|h)
     · exact .inr (.inl h)
     · exact .inl h
     exact .inr (.inr h)
   rintro(h|h|h)
   · exact .inr (.inl h)
   · exact .inl h
   exact .inr (.inr h)
  have e:m=n+1:=hm.uniq r (λv hv=>.mem ((mem v).1 hv)) λv hv=>.mem ((mem v).2 hv)
  rw[e]at hm;exact hm
structure wM(R:List (Ve Nat))(P:List (Nat×Ve Nat)):Prop where
 piv:Piv P
 to:∀v∈R,gP (P.map (·.2)) v
 of:∀t∈P,gP R t.2
theorem wM.nil:wM [] []:=⟨⟨.nil,λ_ h=>(by cases h)⟩,λ_ h=>(by cases h),λ_ h=>(by cases h)⟩
theorem wM.rk{R:List (Ve Nat)}{P:List (Nat×Ve Nat)}(h:wM R P):Rk R P.length:=by
 obtain⟨m,hm⟩:=Rk.ex R
 have e:=hm.uniq (h.piv.rk rfl) h.to λv hv=>by
  obtain⟨t,ht,rfl⟩:=jv.1 hv;exact h.of t ht
 rwa [e]at hm
theorem wM.none{R:List (Ve Nat)}{P:List (Nat×Ve Nat)}(h:wM R P)(hu:gP (P.map (·.2)) u)(e:dp v u=vz):wM (R++[v]) P where
 piv:=h.piv
 to:=λw hw=>by
  rcases jx.1 hw with hw|hw
  · exact h.to w hw
  rw[jB.1 hw]
  have:v=u:=by rw[<-tj v,<-iY u,<-fF,e,FJ]
  rw[this];exact hu
 of:=λt ht=>(h.of t ht).mono λw hw=>jx.2 (.inl hw)
theorem wM.new{R:List (Ve Nat)}{P:List (Nat×Ve Nat)}(h:wM R P)(hu:gP (P.map (·.2)) u)(hl:AL (dp v u) lo)(hn:∀t∈P,t.1≠lo):wM (R++[v]) (P++[(lo,dp v u)]) where
 piv:=⟨List.pairwise_append.2 ⟨h.piv.ne,List.pairwise_singleton _ _,λs hs t ht=>by rw[jB.1 ht];exact hn s hs⟩,λt ht=>by
  rcases jx.1 ht with ht|ht
  · exact h.piv.lo t ht
  rw[jB.1 ht];exact hl⟩
 to:=λw hw=>by
  have Yu:gP ((P++[(lo,dp v u)]).map (·.2)) u:=hu.mono λw hw=>by rw[jP];exact jx.2 (.inl hw)
  rcases jx.1 hw with hw|hw
  · exact(h.to w hw).mono λw hw=>by rw[jP];exact jx.2 (.inl hw)
  rw[jB.1 hw];have k:gP ((P++[(lo,dp v u)]).map (·.2)) (dp v u):=.mem (by rw[jP];exact jx.2 (.inr (by simp)));have:=k.add Yu
  rwa [fF,iY,tj]at this
 of:=λt ht=>by
  have up:∀{w},gP R w->gP (R++[v]) w:=λk=>k.mono λw hw=>jx.2 (.inl hw)
  rcases jx.1 ht with ht|ht
  · exact up (h.of t ht)
  rw[jB.1 ht];refine(gP.mem (jx.2 (.inr (by simp)))).add (up (hu.sub λw hw=>?_));obtain⟨s,hs,rfl⟩:=jv.1 hw;exact h.of s hs
theorem AL.step{p:Ve Nat}(hv:AL v lo)(hp:AL p lo):∀i,i<=lo->dp v p i=false:=λi hi=>by
 by_cases c:i=lo
 · subst c;show xor (v i) (p i)=false;rw[hv.1,hp.1];rfl
 show xor (v i) (p i)=false;rw[hv.2 i (by omega),hp.2 i (by omega)];rfl
theorem gP.plus{P:List (Nat×Ve Nat)}(hu:gP (P.map (·.2)) u)(ht:t∈P):gP (P.map (·.2)) (dp u t.2):=hu.add (.mem (jv.2 ⟨t,ht,rfl⟩))
theorem X0{α:Type}{U:List α}(hU:U.Nodup)(num:α->Nat)(inj:∀x∈U,∀y∈U,num x=num y->x=y){R:List α}(M:α->Ve α)(N:α->Ve Nat)(sup:∀y∈R,∀x,M y x=true->x∈U)
 (hN:∀y∈R,∀i,N y i=true↔∃x∈U,num x=i/\M y x=true) (h:Rk (R.map N) n):rkN (R.map M)=n:=by
 obtain⟨T,hT⟩:∃T:Ve Nat->Ve α,T=λv x=>tr (x∈U)&&v (num x):=⟨_,rfl⟩
 have WY:Zv T:=λu v=>by funext x;rw[hT];simp[dp,Bool.and_xor_distrib_left]
 have at':∀y∈R,T (N y)=M y:=λy hy=>by
  funext x;rw[hT]
  show (tr (x∈U)&&N y (num x))=M y x
  rw[jD,jp,bf,hN y hy];constructor
  · rintro⟨hx,z,hz,e,k⟩
    rw[<-inj z hz x hx e];exact k
  intro k;exact⟨sup y hy x k,x,sup y hy x k,rfl,k⟩
 have r:=h.map WY λu hu hz=>by
  funext i;cases e:u i
  · rfl
  exfalso
  have key:∀{u},gP (R.map N) u->∀i,u i=true->∃x∈U,num x=i:=λ{u} hu=>by
   induction hu with
   |z=>intro i e;cases e
   |@a v w hm _ ih=>
    intro i e;obtain⟨y,hy,rfl⟩:=jv.1 hm;have e:xor (N y i) (w i)=true:=e;cases c:N y i
    · rw[c]at e;exact ih i (by simpa using e)
    obtain⟨x,hx,k,_⟩:=(hN y hy i).1 c;exact⟨x,hx,k⟩
  obtain⟨x,hx,k⟩:=key hu i e;have:=congrFun hz x;rw[hT]at this;have this:(tr (x∈U)&&u (num x))=false:=this
  rw[bf.2 hx,k,e]at this;cases this
 rw[map_map]at r;have e:R.map (T∘N)=R.map M:=List.map_congr_left at';rw[e]at r;exact Cc r
def oV(X:List Cr)(L:Nat)(s:Nat):List (Nat×Nat):=(range s).flatMap λt=>(range (2 ^ eY X L t.testBit)).map λm=>(t,m)
def Bk(X:List Cr)(L:Nat)(s m:Nat):List (Nat×Nat):=oV X L s++(range m).map λj=>(s,j)
theorem J1(X:List Cr)(L s:Nat):Bk X L s 0=oV X L s:=by unfold Bk;simp
theorem Vs(X:List Cr)(L s m:Nat):Bk X L s (m+1)=Bk X L s m++[(s,m)]:=by
 unfold Bk;rw[jO,jP,<-List.append_assoc];rfl
theorem J2(X:List Cr)(L s:Nat):Bk X L s (2 ^ eY X L s.testBit)=oV X L (s+1):=by
 unfold Bk oV;rw[jO,List.flatMap_append];simp
theorem mY{p:Nat×Nat}:p∈oV X L s↔p.1<s/\p.2<2 ^ eY X L p.1.testBit:=by
 unfold oV;rw[mem_flatMap];constructor
 · rintro⟨t,ht,h⟩
   obtain⟨m,hm,rfl⟩:=jv.1 h;exact⟨jw.1 ht,jw.1 hm⟩
 rintro⟨h1,h2⟩;exact⟨p.1,jw.2 h1,jv.2 ⟨p.2,jw.2 h2,rfl⟩⟩
theorem Yk{m:Nat}{p:Nat×Nat}:p∈Bk X L s m↔(p.1<s/\p.2<2 ^ eY X L p.1.testBit)\/(p.1=s/\p.2<m):=by
 unfold Bk;rw[jx,mY];constructor
 · rintro(h|h)
   · exact .inl h
   obtain⟨j,hj,rfl⟩:=jv.1 h;exact .inr ⟨rfl,jw.1 hj⟩
 rintro(h|⟨h1,h2⟩)
 · exact .inl h
 exact .inr (jv.2 ⟨p.2,jw.2 h2,by rw[<-h1]⟩)
theorem Y2(X:List Cr)(L s m:Nat):(s,m)∉Bk X L s m:=λh=>by
 rcases Yk.1 h with⟨h1,_⟩|⟨_,h2⟩
 · exact Nat.lt_irrefl _ h1
 exact Nat.lt_irrefl _ h2
theorem Ro(X:List Cr)(L:Nat):bM X L=(oV X L (2 ^ X.length)).map λp=>(p.1.testBit,rL X L p.1.testBit p.2):=by
 unfold bM oV sP;rw[List.map_flatMap];simp[map_map,Function.comp_def]
abbrev E2:=Int×Int
abbrev L2:=List (E2×Int)
abbrev cf(l:L2)(a:E2):Int:=Xd l a
theorem r7(t:E2×Int)(l:L2)(a:E2):cf (t :: l) a=(if t.1=a then t.2 else 0)+cf l a:=rfl
def Jw(a b:E2):Prop:=a.1<b.1\/(a.1=b.1/\a.2<b.2)
instance (a b:E2):Decidable (Jw a b):=inferInstanceAs (Decidable (_\/_))
theorem uS(a:E2):¬Jw a a:=by unfold Jw;omega
theorem zj{a b c:E2}(h:Jw a b)(k:Jw b c):Jw a c:=by unfold Jw at *;omega
theorem Gm(a b:E2):Jw a b\/a=b\/Jw b a:=by
 unfold Jw;by_cases h1:a.1=b.1
 · by_cases h2:a.2=b.2
   · exact .inr (.inl (Prod.ext h1 h2))
   omega
 omega
structure F2(l:L2):Prop where
 ord:l.Pairwise λs t=>Jw s.1 t.1
 nz:∀t∈l,t.2≠0
theorem F2.nil:F2 []:=⟨.nil,λ_ h=>by cases h⟩
theorem F2.tail{t:E2×Int}{l:L2}(h:F2 (t :: l)):F2 l:=⟨(pairwise_cons.1 h.ord).2,λs hs=>h.nz s (by simp[hs])⟩
theorem MY{l:L2}{a:E2}(h:∀t∈l,t.1≠a):cf l a=0:=by
 induction l with
 |nil=>rfl
 |cons t l ih=>rw[r7,if_neg (h t (by simp)),ih λs hs=>h s (by simp[hs])];rfl
theorem F2.low{t:E2×Int}{l:L2}(h:F2 (t :: l)){a:E2}(ha:Jw a t.1):cf (t :: l) a=0:=by
 refine MY λs hs e=>?_
 rcases jy.1 hs with rfl|hs
 · rw[e]at ha;exact uS _ ha
 have:=(pairwise_cons.1 h.ord).1 s hs;rw[e]at this;exact uS _ (zj ha this)
theorem F2.head{t:E2×Int}{l:L2}(h:F2 (t :: l)):cf (t :: l) t.1=t.2:=by
 rw[r7,if_pos rfl,MY λs hs e=>?_]
 · omega
 have:=(pairwise_cons.1 h.ord).1 s hs;rw[e]at this;exact uS _ this
theorem F2.uniq:∀{l m:L2},F2 l->F2 m->(∀a,cf l a=cf m a)->l=m
 |[],[],_,_,_=>rfl
 |[],t :: m,_,hm,e=>by
  have:=e t.1;rw[hm.head]at this;exact absurd this.symm (hm.nz t (by simp))
 |t :: l,[],hl,_,e=>by
  have:=e t.1;rw[hl.head]at this;exact absurd this (hl.nz t (by simp))
 |t :: l,s :: m,hl,hm,e=>by
  have e1:t.1=s.1:=by
   rcases Gm t.1 s.1 with c|c|c
   · have:=e t.1
     rw[hl.head,hm.low c]at this;exact absurd this (hl.nz t (by simp))
   · exact c
   have:=e s.1;rw[hm.head,hl.low c]at this;exact absurd this.symm (hm.nz s (by simp))
  have e2:t.2=s.2:=by
   have:=e t.1;rw[hl.head,e1,hm.head]at this;exact this
  have e3:t=s:=Prod.ext e1 e2;subst e3
  rw[F2.uniq hl.tail hm.tail λa=>by
   have:=e a;rw[r7,r7]at this
   omega]
theorem NY:∀k,∀t∈pw k,t.1%2=0
 |0,t,h=>by simp[pw]at h;subst h;rfl
 |k+1,t,h=>by
  simp only[pw,Pl.mul,mem_flatMap,jv]at h;obtain⟨s,hs,u,hu,rfl⟩:=h;have:=NY k s hs;simp only[two,jy,jz,or_false]at hu
  rcases hu with rfl|rfl<;>simp only<;>omega
theorem aix{l:List Pl.T}{e:Int}(h:co l e≠0):∃t∈l,t.1=e:=
 js λk=>h (Pl.yq λt ht e=>k ⟨t,ht,e⟩)
theorem agx{z:Int}(h:co (pw k) z≠0):(-(2*k:Int)<=z/\z<=2*k)/\z%2=0:=by
 obtain⟨t,ht,rfl⟩:=aix h;exact⟨uF k t ht,NY k t ht⟩
theorem SH{f:Int->Int}:∀{l:List Pl.T},gF l f≠0->∃t∈l,f t.1≠0
 |[],h=>absurd rfl h
 |t :: l,h=>by
  by_cases c:f t.1=0
  · rw[bJ,c,mul_zero,Int.zero_add]at h
    obtain⟨u,hu,k⟩:=SH h;exact⟨u,by simp[hu],k⟩
  exact⟨t,by simp,c⟩
theorem SI{f:Int->Int}{K:Nat}:∀{l:List Pl.T},(∀t∈l,t.2=1/\-(K:Int)<=f t.1/\f t.1<=K)->-((l.length*K:Nat):Int)<=gF l f/\gF l f<=((l.length*K:Nat):Int)
 |[],_=>by simp[gR]
 |t :: l,h=>by
  have ih:=SI λu hu=>h u (mem_cons_of_mem t hu)
  obtain⟨h1,h2,h3⟩:=h t (by simp);rw[bJ,h1,Int.one_mul,jE,Nat.succ_mul,Int.natCast_add];omega
theorem Fe{p:Int}:∀{m:List Pl.T},Pl.Form m->(∀t∈m,t.1%2=p)->Pl.Form (m.map λt=>(t.1 / 2,t.2))
 |[],_,_=>trivial
 |t :: m,h,hp=>by
  refine⟨h.1,λu hu=>?_,Fe h.2.2 λu hu=>hp u (by simp[hu])⟩;obtain⟨v,hv,rfl⟩:=jv.1 hu;have h1:=h.2.1 v hv;have h2:=hp t (by simp);have h3:=hp v (by simp[hv])
  simp only
  omega
theorem Ak{p lo hi:Int}{m:List Pl.T}(h:Pl.Form m)(hp:∀t∈m,t.1%2=p)(hb:∀t∈m,lo<=t.1/\t.1<=hi):(m.length:Int)<=max 0 (hi / 2-lo / 2+1):=by
 have:=Pl.pG (lo:=lo / 2) (hi:=hi / 2) (Fe h hp) λu hu=>by
  obtain⟨v,hv,rfl⟩:=jv.1 hu;have:=hb v hv
  simp only
  omega
 rwa [jA]at this
theorem Fc:∀{m:List Pl.T} (i:Nat),Pl.Form m->Pl.Form (m.take i)
 |[],i,_=>by simp[Pl.Form]
 |t :: m,0,_=>trivial
 |t :: m,i+1,h=>by
  rw[List.take_succ_cons];exact⟨h.1,λu hu=>h.2.1 u (List.mem_of_mem_take hu),Fc i h.2.2⟩
theorem Jb(h6:X.length<=6)(hL:L<=2)(st:Nat)(x:Int):∃q pc:Nat,q<=13/\pc<=X.length/\EL x (sL X L st)=co (pw q) (x-((X.length:Int)-2*(pc:Nat))):=by
 have hp:pop X.length st<=X.length:=by
  have:∀n s,pop n s<=n:=λn=>by
   induction n with
   |zero=>intro s;exact jH _
   |succ n ih=>intro s;rw[pop];have:=ih (s / 2);omega
  exact this _ _
 have hr:et X L st<=14:=by unfold et;omega
 refine⟨et X L st-1,pop X.length st,by omega,hp,?_⟩;have e1:sL X L st=((X.length:Int)-2*(pop X.length st:Nat))*64+(et X L st:Nat):=rfl;unfold EL;rw[e1]
 have e2:((((X.length:Int)-2*(pop X.length st:Nat))*64+(et X L st:Nat))%64).toNat=et X L st:=by omega
 have e3:(((X.length:Int)-2*(pop X.length st:Nat))*64+(et X L st:Nat)) / 64=(X.length:Int)-2*(pop X.length st:Nat):=by omega
 rw[e2,e3]
theorem QB{m:List Pl.T}{s:Int}(h6:X.length<=6)(hL:L<=2)(hw:-6<=w/\w<=6)(hs:s=1\/s = -1)(hm:Pl.Form m)
 (hc:∀e,co m e=s*gF (df X L (2 ^ X.length)) (EL (e+3*w))):May m:=by
 have hN:2 ^ X.length<=64:=(jI (by omega) h6:2 ^ X.length<=2 ^ 6)
 have key:∀t∈m,((-50<=t.1/\t.1<=50)/\((-32-3*w<=t.1)/\t.1<=32-3*w))/\t.1%2=((X.length:Int)+w)%2:=λt ht=>by
  have h1:=rV hm ht;have h2:=Pl.Bj hm ht;rw[hc]at h1
  have h3:gF (df X L (2 ^ X.length)) (EL (t.1+3*w))≠0:=λe=>by rw[e,mul_zero]at h1;exact h2 h1.symm
  obtain⟨u,hu,hu2⟩:=SH h3;obtain⟨st,_,rfl⟩:=jv.1 hu;obtain⟨q,pc,hq,R9,e⟩:=Jb h6 hL st (t.1+3*w);rw[e]at hu2;have:=agx hu2;omega
 have Zc:∀t∈m,-524288<=t.2/\t.2<=524288:=λt ht=>by
  have h1:=rV hm ht;rw[hc]at h1
  have hb:=SI (K:=8192) (l:=df X L (2 ^ X.length)) (f:=EL (t.1+3*w)) λu hu=>by
   obtain⟨st,_,rfl⟩:=jv.1 hu;obtain⟨q,pc,hq,R9,e⟩:=Jb h6 hL st (t.1+3*w);refine⟨rfl,?_⟩
   show _<=EL _ (sL X L st)/\EL _ (sL X L st)<=_
   rw[e];exact Pl.p6 (S:=8192) (by rw[xu];exact(jI (by omega) hq:2 ^ q<=2 ^ 13)) _
  have hl:(df X L (2 ^ X.length)).length=2 ^ X.length:=by unfold df;simp
  rw[hl]at hb;have h5:2 ^ X.length*8192<=64*8192:=Nat.mul_le_mul_right _ hN
  obtain⟨T,hT⟩:∃T,T=gF (df X L (2 ^ X.length)) (EL (t.1+3*w)):=⟨_,rfl⟩
  rw[<-hT]at h1 hb
  rcases hs with rfl|rfl<;>omega
 have hlen:=Ak (lo:=-32-3*w) (hi:=32-3*w) hm (λt ht=>(key t ht).2) λt ht=>(key t ht).1.2
 exact⟨by omega,hm,λt ht=>by have:=key t ht;have:=Zc t ht;omega⟩
theorem NH{α:Type}{v:α->Int}{K:Nat}:∀{l:List α},(∀x∈l,-(K:Int)<=v x/\v x<=K)->-((l.length*K:Nat):Int)<=cI l v/\cI l v<=((l.length*K:Nat):Int)
 |[],_=>by simp[cI]
 |a :: l,h=>by
  have ih:=NH λu hu=>h u (mem_cons_of_mem a hu)
  have:=h a (by simp);rw[bB,jE,Nat.succ_mul,Int.natCast_add];omega
theorem Ix{α:Type}{v:α->Int}{p:α->Bool}:∀{l:List α},(∀x∈l,-(if p x then 1 else 0:Int)<=v x/\v x<=(if p x then 1 else 0))->-((l.countP p:Nat):Int)<=cI l v/\cI l v<=((l.countP p:Nat):Int)
 |[],_=>by simp[cI]
 |a :: l,h=>by
  have ih:=Ix λu hu=>h u (mem_cons_of_mem a hu)
  have:=h a (by simp);rw[bB,jG,Int.natCast_add]
  cases e:p a<;>rw[e]at this<;>simp at this⊢<;> omega
theorem Dh{α:Type}{p q:α->Bool}:∀{l:List α},(∀x∈l,p x=true->q x=false)->l.countP p+l.countP q<=l.length
 |[],_=>jH _
 |a :: l,h=>by
  have ih:=Dh λu hu=>h u (mem_cons_of_mem a hu)
  have:=h a (by simp);rw[jG,jG,jE];cases e:p a
  · cases q a<;>simp<;>omega
  rw[this e];simp;omega
theorem VC(c:Int):∀k,((range (2 ^ (k+1))).countP λm=>decide (dB (k+1) m=c))<=2 ^ k:=λk=>by
 have e:range (2 ^ (k+1))=range (2 ^ k)++(range (2 ^ k)).map λm=>2 ^ k+m:=by
  rw[Nat.pow_succ,Nat.mul_two,List.range_add]
 rw[e,List.countP_append,List.countP_map]
 have a:((range (2 ^ k)).countP λm=>decide (dB (k+1) m=c))=(range (2 ^ k)).countP λm=>decide (dB k m=c+1):=by
  refine dH λm hm=>?_
  rw[yg,Nat.testBit_lt_two_pow (jw.1 hm)]
  show decide (dB k m + -1=c)=_
  refine jL.2 ?_
  omega
 have b:((range (2 ^ k)).countP ((λm=>decide (dB (k+1) m=c))∘λm=>2 ^ k+m))=(range (2 ^ k)).countP λm=>decide (dB k m=c-1):=by
  refine dH λm hm=>?_
  have hm:=jw.1 hm
  have hb:(2 ^ k+m).testBit k=true:=by rw[Nat.testBit_two_pow_add_eq,Nat.testBit_lt_two_pow hm];rfl
  show decide (dB (k+1) (2 ^ k+m)=c)=_
  rw[yg,OY hm,hb]
  show decide (dB k m+1=c)=_
  refine jL.2 ?_
  omega
 rw[a,b]
 have:=Dh (l:=range (2 ^ k)) (p:=λm=>decide (dB k m=c+1)) (q:=λm=>decide (dB k m=c-1)) λm _ h=>by
  have:=jl h;exact jm (by omega)
 rwa [jS]at this
theorem adW(c:Int)(h:k<=14):((range (2 ^ k)).countP λm=>decide (dB k m=c))<=8192:=by
 cases k with
 |zero=>exact jJ (countP_le_length) (by simp)
 |succ k=>exact jJ (VC c k) (jI (by omega) (by omega):2 ^ k<=2 ^ 13)
section
variable {X:List Cr} {L:Nat}
theorem aae(X:List Cr)(L:Nat)(S:Nat->Bool):eY X L S<=2*X.length+L:=by
 have:(aw X S).length<=2*X.length:=by
  unfold aw
  refine jJ (List.length_filter_le _ _) ?_
  unfold yA ag;simp
 unfold eY;omega
theorem Vr(h:Ok X)(h6:X.length<=6)(hL:L<=2)(u v z:Int):
 -524288<=cI (Kn.bM X L) (λy=>if ((Kn.eF X L).dg u v y).2=z then Pl.dJ ((Kn.eF X L).dg u v y).1 else 0)/\cI (Kn.bM X L) (λy=>if ((Kn.eF X L).dg u v y).2=z then Pl.dJ ((Kn.eF X L).dg u v y).1 else 0)<=524288:=by
 have hN:2 ^ X.length<=64:=(jI (by omega) h6:2 ^ X.length<=2 ^ 6);unfold Kn.bM;rw[yP]
 have:=NH (K:=8192) (l:=range (2 ^ X.length)) (v:=λs=>cI (sP X L s) (λy=>if ((Kn.eF X L).dg u v y).2=z then Pl.dJ ((Kn.eF X L).dg u v y).1 else 0)) λs hs=>by
  have hsz:=aae X L s.testBit
  show _<=cI (sP X L s) _/\cI (sP X L s) _<=_
  unfold sP;rw[kv];have c:=adW (z-v-(iU X.length s.testBit:Nat)) (k:=eY X L s.testBit) (by omega)
  have:=Ix (l:=range (2 ^ eY X L s.testBit)) (v:=λm=>if ((Kn.eF X L).dg u v (s.testBit,rL X L s.testBit m)).2=z then Pl.dJ ((Kn.eF X L).dg u v (s.testBit,rL X L s.testBit m)).1 else 0)
   (p:=λm=>decide (dB (eY X L s.testBit) m=z-v-(iU X.length s.testBit:Nat))) λm hm=>by
   have d:=h.Bl (L:=L) (S:=s.testBit) m
   have e:((Kn.eF X L).dg u v (s.testBit,rL X L s.testBit m)).2=dB (eY X L s.testBit) m+(iU X.length s.testBit:Nat)+v:=by
    show dq (Kn.eF X L).P ((Kn.eF X L).E s.testBit) (rL X L s.testBit m)+((iU X.length s.testBit:Nat):Int)+v=_
    rw[d];rfl
   have sg:∀x,Pl.dJ x=1\/Pl.dJ x = -1:=λx=>by unfold Pl.dJ;split<;>simp
   by_cases q:dB (eY X L s.testBit) m=z-v-(iU X.length s.testBit:Nat)
   · rw[if_pos (jk q),if_pos (by rw[e];omega)]
     rcases sg ((Kn.eF X L).dg u v (s.testBit,rL X L s.testBit m)).1 with k|k<;>rw[k]<;>omega
   rw[if_neg (by rw[jm q];simp),if_neg (by rw[e];omega)];omega
  omega
 rw[jS]at this;have h5:2 ^ X.length*8192<=64*8192:=Nat.mul_le_mul_right _ hN;omega
theorem aa6(m:Nat):∀k:Nat,-(k:Int)<=dB k m/\dB k m<=k
 |0=>by simp[dB,cI]
 |k+1=>by
  have:=aa6 m k;rw[yg];unfold xk
  split<;>omega
theorem Ok.ahc(h:Ok X)(h6:X.length<=6)(hL:L<=2){a:oP}(hk:Kh X L (Kn.bM X L) a≠0):(-(X.length:Int)<=a.1/\a.1<=(X.length:Int)+1)/\-26<=a.2/\a.2<=26:=by
 have pm:=EJ X
 obtain⟨g,hg⟩:∃g,g=(Kn.eF X L).dg (-(ml X:Int)) ((uJ X:Int)-2*(ml X:Int)):=⟨_,rfl⟩
 have nil:∀d,at' (Kn.bM X L) g d=[]->Cb (Kn.bM X L) (Kn.eF X L).M g d=0:=λd e=>by
  unfold Cb;rw[e];exact Cc .nil
 have ex:∃y∈Kn.bM X L,g y=a\/g y=pre a:=js λk=>by
  have e1:at' (Kn.bM X L) g a=[]:=List.filter_eq_nil_iff.2 λy hy=>by
   simp only[jt]
   exact λe=>k ⟨y,hy,.inl e⟩
  have e2:at' (Kn.bM X L) g (pre a)=[]:=List.filter_eq_nil_iff.2 λy hy=>by
   simp only[jt]
   exact λe=>k ⟨y,hy,.inr e⟩
  refine hk ?_
  unfold Kh hn
  rw[<-hg,nil _ e1,nil _ e2,e1];rfl
 obtain⟨y,hy,e⟩:=ex;unfold Kn.bM at hy;obtain⟨s,hs,hy⟩:=mem_flatMap.1 hy;unfold sP at hy;obtain⟨m,hm,rfl⟩:=jv.1 hy
 have wl:iU X.length s.testBit<=X.length:=by unfold iU;have:=countP_le_length (p:=s.testBit) (l:=range X.length);simpa using this
 have d:=h.Bl (L:=L) (S:=s.testBit) m;have db:=aa6 m (eY X L s.testBit);have hsz:=aae X L s.testBit
 have g1:(g (s.testBit,rL X L s.testBit m)).1=(iU X.length s.testBit:Nat) + -(ml X:Int):=by rw[hg];rfl
 have g2:(g (s.testBit,rL X L s.testBit m)).2=dB (eY X L s.testBit) m+(iU X.length s.testBit:Nat)+((uJ X:Int)-2*(ml X:Int)):=by
  rw[hg]
  show dq (Kn.eF X L).P ((Kn.eF X L).E s.testBit) (rL X L s.testBit m)+((iU X.length s.testBit:Nat):Int)+_=_
  rw[d];rfl
 rcases e with e|e
 · rw[e]at g1 g2;omega
 rw[e]at g1 g2;have g1:a.1-1=_:=g1;have g2:a.2=_:=g2;omega
end
theorem F2.at{t:E2×Int}:∀{l:L2},F2 l->t∈l->cf l t.1=t.2
 |s :: l,h,ht=>by
  rcases jy.1 ht with rfl|ht
  · exact h.head
  rw[r7,F2.at h.tail ht,if_neg ?_,Int.zero_add];intro e;have:=(pairwise_cons.1 h.ord).1 t ht;rw[e]at this;exact uS _ this
theorem VL(z:Int):∀l:L2,co (l.map λt=>(t.1.2,t.2*Pl.dJ t.1.1)) z=cI l λt=>if t.1.2=z then Pl.dJ t.1.1*t.2 else 0
 |[]=>rfl
 |t :: l=>by
  rw[map_cons,Pl.cO,VL z l,bB]
  simp only
  rw[Int.mul_comm]
section
variable {X:List Cr} {L:Nat}
theorem Ok.xr(h:Ok X)(h6:X.length<=6)(hL:L<=2){l:L2}(hF:F2 l)(hl:∀a,cf l a=Kh X L (Kn.bM X L) a):∀t∈l,(-(X.length:Int)<=t.1.1/\t.1.1<=(X.length:Int)+1)/\-26<=t.1.2/\t.1.2<=26:=λt ht=>by
 have e:=hF.at ht;rw[hl]at e;exact h.ahc h6 hL (by rw[e];exact hF.nz t ht)
structure Small(m:List Pl.T):Prop where
 len:m.length<=53
 form:Pl.Form m
 bd:∀t∈m,(-26<=t.1/\t.1<=26)/\-524288<=t.2/\t.2<=524288
theorem Ok.JX(h:Ok X)(h6:X.length<=6)(hL:L<=2){l:L2}(hF:F2 l)(hl:∀a,cf l a=Kh X L (Kn.bM X L) a){m:List Pl.T}(hm:Is m (l.map λt=>(t.1.2,t.2*Pl.dJ t.1.1))):Small m:=by
 have rb:=h.xr h6 hL hF hl
 have wl:∀n S,iU n S<=n:=λn S=>by unfold iU;have:=countP_le_length (p:=S) (l:=range n);simpa using this
 have pm:=EJ X
 have ex:∀t∈m,-26<=t.1/\t.1<=26:=λt ht=>by
  obtain⟨u,hu,e⟩:=Pl.C6 hm.1 hm.2 ht;obtain⟨s,hs,rfl⟩:=jv.1 hu;have:=rb s hs;simp only at e;omega
 refine⟨?_,hm.1,λt ht=>⟨ex t ht,?_⟩⟩
 · have:=Pl.pG hm.1 ex
   omega
 have e:=rV hm.1 ht
 rw[hm.2,VL,Fk (U:=Kn.bM X L) (M:=(Kn.eF X L).M) (g:=(Kn.eF X L).dg (-(ml X:Int)) ((uJ X:Int)-2*(ml X:Int))) (N:=2*(X.length+1)) (λy _=>by
  have:=wl X.length y.1
  show -((2*(X.length+1):Nat):Int)<(iU X.length y.1:Int)+_/\(iU X.length y.1:Int)+_+1<_
  omega) hl (λt ht=>by have:=rb t ht;omega)]at e
 have:=Vr h h6 hL (-(ml X:Int)) ((uJ X:Int)-2*(ml X:Int)) t.1;omega
end
def Mu(t:Pl.T):Pl.T:=(-2*t.1,Pl.dJ t.1*t.2)
theorem O3(y:Int):∀l:List Pl.T,co (l.map Mu) (-2*y)=Pl.dJ y*co l y
 |[]=>by rw[map_nil,Pl.gM,Pl.gM,mul_zero]
 |t :: l=>by
  rw[map_cons,Pl.cO,Pl.cO,O3 y l,mul_add]
  congr 1
  unfold Mu
  simp only
  by_cases c:t.1=y
  · rw[if_pos c,if_pos (by omega),c]
  rw[if_neg c,if_neg (by omega),mul_zero]
theorem Small.half{m left:List Pl.T}(h:Small m)(i:Nat)(hl:Is left ((m.take i).map Mu)):May left:=by
 have fs:∀t∈left,∃s∈m,t.1 = -2*s.1/\t.2=Pl.dJ s.1*s.2:=λt ht=>by
  obtain⟨u,hu,e⟩:=Pl.C6 hl.1 hl.2 ht;obtain⟨s,hs,rfl⟩:=jv.1 hu;have e:-2*s.1=t.1:=e;refine⟨s,List.mem_of_mem_take hs,e.symm,?_⟩;have c:=rV hl.1 ht;rw[hl.2,<-e,O3,rV (Fc i h.form) hs]at c;exact c.symm
 have ex:∀t∈left,-52<=t.1/\t.1<=52:=λt ht=>by
  obtain⟨s,hs,e,_⟩:=fs t ht;have:=h.bd s hs;omega
 have hlen:=Ak (p:=0) (lo:=-52) (hi:=52) hl.1 (λt ht=>by obtain⟨s,hs,e,_⟩:=fs t ht;omega) ex;refine⟨by omega,hl.1,λt ht=>?_⟩;obtain⟨s,hs,e1,e2⟩:=fs t ht;have:=ex t ht;have:=h.bd s hs
 have sg:Pl.dJ s.1=1\/Pl.dJ s.1 = -1:=by unfold Pl.dJ;split<;>simp
 rcases sg with k|k<;>rw[k]at e2<;>omega
theorem labels(hR:Equivalence R):∃(tQ:Nat->Nat) (vs:List Nat),(∀x y,R x y->tQ x=tQ y)/\(∀x,R (tQ x) x)/\(∀x,tQ x<=x)/\vs.Nodup/\vs.length=cl N R/\∀v,v∈vs↔v<N/\tQ v=v:=by
 obtain⟨tQ,hl⟩:=axiomOfChoice (xN hR);refine⟨tQ,(range N).filter λd=>tr (pN R d),λx y h=>?_,λx=>(hl x).2.1,λx=>(hl x).1,?_,?_,λv=>?_⟩
 · exact tP hR (hl x).2.2 (hl y).2.2 (hR.trans (hl x).2.1 (hR.trans h (hR.symm (hl y).2.1)))
 · exact jK.sublist List.filter_sublist
 · unfold cl;rw[List.countP_eq_length_filter]
 rw[jC,jw,bf];constructor
 · rintro⟨h1,h2⟩;exact⟨h1,tP hR (hl v).2.2 h2 (hl v).2.1⟩
 rintro⟨h1,h2⟩;have:=(hl v).2.2;rw[h2]at this;exact⟨h1,this⟩
theorem aiB(hR:Equivalence R){g:Nat->Nat}(hg:∀x y,x<N->R x y->g x=g y)(hn:vs.Nodup)(hv:∀v∈vs,∃x,x<N/\g x=v):vs.length<=cl N R:=by
 obtain⟨tQ,us,h1,h2,h3,h4,h5,h6⟩:=labels (N:=N) hR
 have:=ft (m:=us.map g) hn λv hv'=>by
  obtain⟨x,hx,rfl⟩:=hv v hv'
  have hl:tQ x<N:=by have:=h3 x;omega
  exact jv.2 ⟨tQ x,(h6 _).2 ⟨hl,h1 _ _ (h2 x)⟩,hg _ _ hl (h2 x)⟩
 rw[jA,h5]at this;exact this
theorem aiA{N M:Nat}{R':Nat->Nat->Prop}(hR:Equivalence R)(W9:Equivalence R'){f:Nat->Nat}(hf:∀x y,x<N->y<N->R x y->R' (f x) (f y))(hc:∀z,z<M->(∃x,x<N/\R' (f x) z)\/∃e∈es,R' e z):cl M R'<=cl N R+es.length:=by
 obtain⟨tQ,us,h1,h2,h3,h4,h5,h6⟩:=labels (N:=N) hR;obtain⟨ag2,us',k1,k2,k3,k4,k5,k6⟩:=labels (N:=M) W9
 have:=ft (m:=us.map (λu=>ag2 (f u))++es.map ag2) k4 λv hv=>by
  obtain⟨v1,v2⟩:=(k6 v).1 hv;rw[jx]
  rcases hc v v1 with⟨x,hx,e⟩|⟨e,he,k⟩
  · have hl:tQ x<N:=by have:=h3 x;omega
    refine .inl (jv.2 ⟨tQ x,(h6 _).2 ⟨hl,h1 _ _ (h2 x)⟩,?_⟩)
    rw[<-v2];exact k1 _ _ (W9.trans (hf _ _ hl hx (h2 x)) e)
  refine .inr (jv.2 ⟨e,he,?_⟩)
  rw[<-v2];exact k1 _ _ k
 rw[ju,jA,jA,h5,k5]at this;exact this
def up(p:Pl):Pl:=(p.1,(p.2+1)%4)
section
variable {X Y:List Cr}
theorem xU(hp:aq X p):aq X (up p):=dt hp 1
theorem Ok.MK(h:Ok X)(hp:aq X p):ye X (pk (up p))=pk (other X p):=by
 rw[h.zx (xU hp)];have:((up p).1,((up p).2+3)%4)=p:=Prod.ext rfl (by have:=hp.2;unfold up;simp only;omega);rw[this]
theorem Ok.YY(h:Ok X)(hx:x<4*X.length):∃p,aq X p/\x=pk (up p):=by
 refine⟨(x / 4,(x%4+3)%4),⟨by show x / 4<_;omega,jQ _ (by omega)⟩,?_⟩
 unfold pk up;simp only;omega
theorem Ok.x8(h:Ok Y){L:Pl->Nat}(hL:∀p,aq Y p->L (Kn.other Y p)=L (up p))(hn:vs.Nodup)(hv:∀v∈vs,∃p,aq Y p/\L p=v):vs.length<=(aA Y).length:=by
 rw[<-h.oD]
 refine aiB h.pZ.equiv (g:=λk=>L (pl k)) (λx y hx k=>?_) hn λv hv'=>?_
 · have:=k.ind (P:=λy=>y<4*Y.length/\L (pl x)=L (pl y)) (λz hz=>⟨h.pZ.lt z hz.1,?_⟩) ⟨hx,rfl⟩
   · exact this.2
   obtain⟨p,hp,rfl⟩:=h.YY hz.1;rw[h.MK hp,jX (h.aM hp).2,hL p hp,hz.2,jX (xU hp).2]
 obtain⟨p,hp,e⟩:=hv v hv';exact⟨pk p,gi hp,by show L (pl (pk p))=v;rw[jX hp.2];exact e⟩
theorem Ok.Db(h:Ok X):∃(L:Pl->Nat) (vs:List Nat),(∀p,aq X p->L (Kn.other X p)=L (up p))/\vs.Nodup/\vs.length=(aA X).length/\(∀v∈vs,v<4*X.length/\∃p,aq X p/\L p=v):=by
 obtain⟨tQ,us,h1,h2,h3,h4,h5,h6⟩:=labels (N:=4*X.length) h.pZ.equiv;refine⟨λp=>tQ (pk p),us,λp hp=>?_,h4,h5.trans h.oD,λv hv=>?_⟩
 · show tQ (pk (Kn.other X p))=tQ (pk (up p))
   rw[<-h.MK hp];exact(h1 _ _ (cW.one _ _)).symm
 obtain⟨k1,k2⟩:=(h6 v).1 hv;refine⟨k1,pl v,fI k1,?_⟩
 show tQ (pk (pl v))=v
 have:pk (pl v)=v:=by unfold pk pl;simp only;omega
 rw[this,k2]
theorem Ok.Q3(h:Ok X){P Q:Pl}(hP:aq X P)(hQ:aq X Q)(hne:P≠Q)(ho:cW (ye X) (pk P) (pk Q)):∃(L:Pl->Nat) (vs:List Nat),
 (∀p,aq X p->L (if Kn.other X p=P then Q else if Kn.other X p=Q then P else Kn.other X p)=L (up p))/\vs.Nodup/\vs.length=(aA X).length+1/\(∀v∈vs,v<4*X.length/\∃p,aq X p/\L p=v):=by
 have R8:=h.pZ.swp (gi hP) (gi hQ);obtain⟨tQ,us,h1,h2,h3,h4,h5,h6⟩:=labels (N:=4*X.length) R8.equiv
 have anz:pk P≠pk Q:=λe=>hne (eP hP.2 hQ.2 e)
 refine⟨λp=>tQ (pk p),us,λp hp=>?_,h4,?_,λv hv=>?_⟩
 · show tQ (pk _)=tQ (pk (up p))
   have:=h1 _ _ (cW.one (λx=>swp (pk P) (pk Q) (ye X x)) (pk (up p)));rw[this]
   show tQ _=tQ (swp (pk P) (pk Q) (ye X (pk (up p))))
   rw[h.MK hp];have hop:=h.aM hp;by_cases c1:Kn.other X p=P
   · rw[if_pos c1,c1,cp]
   rw[if_neg c1];by_cases c2:Kn.other X p=Q
   · rw[if_pos c2,c2,cY]
   rw[if_neg c2,ak (λe=>c1 (eP hop.2 hP.2 e)) (λe=>c2 (eP hop.2 hQ.2 e))]
 · have:=pJ h.pZ (gi hP) (gi hQ) anz ho
   rw[h5,<-this,h.oD]
 obtain⟨k1,k2⟩:=(h6 v).1 hv;refine⟨k1,pl v,fI k1,?_⟩
 show tQ (pk (pl v))=v
 have:pk (pl v)=v:=by unfold pk pl;simp only;omega
 rw[this,k2]
def Ln(X:List Cr)(p q:Pl):Prop:=Ja X (pk p) (pk q)
theorem Ln.refl(p:Pl):Ln X p p:=(aW (dI X.length) (mS X)).refl _
theorem Ln.symm{p q:Pl}(h:Ln X p q):Ln X q p:=(aW (dI X.length) (mS X)).symm h
theorem Ln.trans{p q r:Pl}(h:Ln X p q)(k:Ln X q r):Ln X p r:=(aW (dI X.length) (mS X)).trans h k
theorem Ln.round{q:Pl}(hp:aq X p)(hq:q.2<4)(e:p.1=q.1):Ln X p q:=
 eJ ((uA (gi hp)).2 (by rw[tJ hp.2,tJ hq,e]))
theorem Ok.dZ(h:Ok X)(hp:aq X p):Ln X p (Kn.other X p):=by
 obtain⟨e,he,k⟩:=h.uP hp;have:=dw (dI X.length) he;unfold Ln
 rcases k with⟨k1,k2⟩|⟨k1,k2⟩
 · rw[k1,k2];exact this
 rw[k1,k2];exact(aW (dI X.length) (mS X)).symm this
theorem Ok.uK(hX:Ok X)(hY:Ok Y)(hl:X.length<=Y.length)(h1:∀p,aq X p->Ln Y p (Kn.other X p)){es:List Pl}(h2:∀p,aq Y p->X.length<=p.1->(∃q,aq X q/\Ln Y q p)\/∃e∈es,Ln Y e p):(aC Y).length<=(aC X).length+es.length:=by
 rw[<-hX.nL,<-hY.nL];have hE:=aW (dI Y.length) (mS Y)
 have key:∀x y,Ja X x y->Ja Y x y:=λx y k=>by
  refine bN hE (λx=>?_) (λe he=>?_) k
  · by_cases c:x<4*X.length
    · have hpl:aq Y (pl x):=fI (by omega)
      have:=Ln.round (X:=Y) hpl (q:=((pl x).1,((pl x).2+3)%4)) (jQ _ (by omega)) rfl;unfold Ln at this;rw[<-FV (n:=X.length) (p:=pl x) (by unfold pl;simp only;omega) (jQ _ (by omega))]at this
      have e:pk (pl x)=x:=by unfold pk pl;simp only;omega
      rwa [e]at this
    rw[(dI X.length).out x (by omega)];exact hE.refl x
  obtain⟨a,ha,rfl⟩:=jv.1 he;have ha:=eI.1 ha;have:=h1 _ (hX.aD (io:=true) ha);unfold Ln other at this;rw[hX.bT ha,hX.bH ha]at this;exact this
 have:=aiA (N:=4*X.length) (M:=4*Y.length) (aW (dI X.length) (mS X)) hE (f:=λx=>x) (λx y _ _ k=>key x y k) (es:=es.map pk) λz hz=>by
  by_cases c:z<4*X.length
  · exact .inl ⟨z,c,hE.refl z⟩
  have e:pk (pl z)=z:=by unfold pk pl;simp only;omega
  rcases h2 (pl z) (fI hz) (by unfold pl;simp only;omega)with⟨q,hq,k⟩|⟨q,hq,k⟩
  · unfold Ln at k;rw[e]at k
    exact .inl ⟨pk q,gi hq,k⟩
  unfold Ln at k;rw[e]at k
  exact .inr ⟨pk q,jv.2 ⟨q,hq,rfl⟩,k⟩
 rw[jA]at this;exact this
theorem Ok.uH(hX:Ok X)(hY:Ok Y)(hp:aJ X=true){k f c:Nat}(hl:Y.length=X.length+k)(hf:(aA X).length+f<=(aA Y).length)(hc:(aC Y).length<=(aC X).length+c)(hk:k+2*c<=f):aJ Y=true:=by
 rw[hY.rI];have h1:=hX.rI.1 hp;have h2:=hY.vF.1;omega
theorem LM(h1:∀p,aq Y p->1<=at_ Y p/\at_ Y p<=(ag Y:Int))(h2:∀(io:Bool) (a:Nat),Kn.ah Y a->∃p,aq Y p/\cm Y p=io/\at_ Y p=a):Ok Y:=by
 refine Oe h1 h2 ?_
 have h3:∀x:Nat,∃q:Nat,x<4*Y.length->∃p,aq Y p/\cm Y p=decide (x%2=0)/\at_ Y p=((x / 2+1:Nat):Int)/\pk p=q:=λx=>by
  by_cases c:x<4*Y.length
  · obtain⟨p,hp,e1,e2⟩:=h2 (decide (x%2=0)) (x / 2+1) ⟨by omega,by unfold ag;omega⟩
    exact⟨pk p,λ_=>⟨p,hp,e1,e2,rfl⟩⟩
  exact⟨0,λk=>absurd k c⟩
 obtain⟨g,hg⟩:=axiomOfChoice h3
 have tV:((range (4*Y.length)).map g).Perm (range (4*Y.length)):=by
  refine tM (uR jK λx hx y hy e=>?_) jK (λz hz=>?_) (by simp)
  · obtain⟨p,p1,p2,p3,p4⟩:=hg x (jw.1 hx)
    obtain⟨q,q1,q2,q3,q4⟩:=hg y (jw.1 hy);have:p=q:=eP p1.2 q1.2 (by rw[p4,q4,e]);subst this;rw[p2,jL]at q2;omega
  obtain⟨x,hx,rfl⟩:=jv.1 hz;obtain⟨p,p1,_,_,p4⟩:=hg x (jw.1 hx);rw[<-p4];exact jw.2 (gi p1)
 have key:∀p,aq Y p->g (2*((at_ Y p).toNat-1)+if cm Y p then 0 else 1)=pk p:=λp hp=>by
  obtain⟨x,hx,e⟩:=jv.1 (tV.mem_iff.2 (jw.2 (gi hp)));obtain⟨q,q1,q2,q3,q4⟩:=hg x (jw.1 hx);have:q=p:=eP q1.2 hp.2 (by rw[q4,e]);subst this;rw[q2,q3,<-e]
  congr 1
  by_cases c:x%2=0
  · simp[c];omega
  simp[c];omega
 intro p q hp hq hc ha;exact eP hp.2 hq.2 (by rw[<-key p hp,<-key q hq,hc,ha])
theorem Ok.dL(h:Ok Y){q:Pl}(hp:aq Y p)(hq:aq Y q)(hc:cm Y q=!cm Y p)(ha:at_ Y q=at_ Y p):Kn.other Y p=q:=by
 refine h.uniq _ _ (h.aM hp) hq (by rw[h.dA hp,hc]) ?_
 rw[<-h.cT (h.aM hp),h.cK hp,h.cT hp,ha]
end
structure Back(X S:List Cr)(gone:Nat->Bool)(ρ:Nat->Nat):Prop where
 fX:Ok X
 ok:Ok S
 len:X.length<=S.length
 out:∀c,c<S.length->gone c=decide (X.length<=c)
 pl:∀p,aq X p->ρ (aa S p)=aa X p
 plus:∀c,c<X.length->(cr S c).p=(cr X c).p
 low:∀b,b<=ag X->ρ b=b
 le:∀b,ρ b<=b
 tie:∀c s,X.length<=c->c<S.length->s<4->ρ (aa S (c,s))=ρ (aa S (c,(s+2)%4))
 same:∀b,ah S b->bh (λx=>x) (bL S gone S.length) b (ρ b)
theorem MR{x y:Cr}(h:∀s,s<4->x.ie s=y.ie s)(k:x.p=y.p):x=y:=by
 obtain⟨a,b,c,d,p⟩:=x;obtain⟨a',b',c',d',p'⟩:=y;have h0:=h 0 (by omega);have h1:=h 1 (by omega);have h2:=h 2 (by omega);have h3:=h 3 (by omega);simp[Cr.ie]at h0 h1 h2 h3 k;subst h0 h1 h2 h3 k;rfl
theorem Gn(hl:X.length=Y.length)(h:∀i,i<Y.length->cr X i=cr Y i):X=Y:=by
 refine List.ext_getElem hl λi h1 h2=>?_
 have:=h i h2;unfold cr at this
 rwa [jc,jc,je h1,je h2]at this
section
variable {X S:List Cr} {gone:Nat->Bool} {ρ:Nat->Nat}
theorem Back.yA(h:Back X S gone ρ):ag X<=ag S:=by have:=h.len;unfold ag;omega
theorem Back.apart(h:Back X S gone ρ){b c:Nat}(k:bh (λx=>x) (bL S gone S.length) b c):ρ b=ρ c:=by
 refine bN (R:=λb c=>ρ b=ρ c) ⟨λ_=>rfl,λh=>h.symm,λh k=>h.trans k⟩ (λ_=>rfl) (λe he=>?_) k
 obtain⟨c,hc,hg,k⟩:=eR.1 he
 have hg:=h.out c hc ▸ hg
 have hg:X.length<=c:=by simpa using hg
 rcases k with rfl|rfl
 · exact h.tie c _ hg hc (lT _)
 exact h.tie c 0 hg hc (by omega)
theorem Back.class(h:Back X S gone ρ){b:Nat}(hb:ah S b):iq S gone S.length b=ρ b:=by
 have hr:=h.ok.j5 gone S.length (jH _);have e1:=(hr.iff b (ρ b)).2 (h.same b hb);have e2:=h.apart ((hr.iff _ _).1 (hr.idem b));have e3:=h.le (iq S gone S.length b);have e4:=hr.le (ρ b);omega
theorem Back.kept(h:Back X S gone ρ):Kn.kept S.length gone=range X.length:=by
 have:∀m,X.length+m<=S.length->Kn.kept (X.length+m) gone=range X.length:=λm=>by
  induction m with
  |zero=>
   intro _;unfold Kn.kept
   refine List.filter_eq_self.2 λc hc=>?_
   have:=jw.1 hc;rw[h.out c (by omega)]
   simp;omega
  |succ m ih=>
   intro hm;unfold Kn.kept at ih ⊢;rw[<-Nat.add_assoc,jO,List.filter_append,ih (by omega)]
   have:gone (X.length+m)=true:=by rw[h.out _ (by omega)];simp
   simp[this]
 have:=this (S.length-X.length) (by have:=h.len;omega)
 rwa [show X.length+(S.length-X.length)=S.length by have:=h.len;omega]at this
theorem Back.oK(h:Back X S gone ρ)(hp:aq X p):aq S p:=⟨by have:=hp.1;have:=h.len;omega,hp.2⟩
theorem Back.left(h:Back X S gone ρ)(hr:ah S r):gw S (iq S gone S.length) gone r=decide (r<=ag X):=by
 rw[jD,lD,jh];constructor
 · rintro⟨p,hp,hg,e⟩
   rw[h.class (h.ok.ah hp)]at e;rw[h.out p.1 hp.1]at hg;have CR:aq X p:=⟨by simpa using hg,hp.2⟩;rw[h.pl p CR]at e;rw[<-e];exact(h.fX.ah CR).2
 intro k;have hX:ah X r:=⟨hr.1,k⟩;have hp:=h.fX.aD (io:=true) hX;refine⟨_,h.oK hp,?_,?_⟩
 · rw[h.out _ (h.oK hp).1]
   have:=hp.1
   simp;omega
 rw[h.class (h.ok.ah (h.oK hp)),h.pl _ hp,h.fX.bH hX]
theorem Back.num(h:Back X S gone ρ):∀v,v<=ag X->fC S (iq S gone S.length) gone v=v
 |0,_=>rfl
 |v+1,hv=>by
  have ha:ah S (v+1):=⟨by omega,by have:=h.yA;omega⟩;rw[qF,h.num v (by omega)]
  have:gh S (iq S gone S.length) gone (v+1)=true:=by
   unfold gh;rw[h.left ha,h.class ha,h.low _ hv]
   simp;omega
  rw[if_pos this]
theorem Back.take(h:Back X S gone ρ):bF S gone=X:=by
 have hk:=h.kept
 have hl:(Kn.kept S.length gone).length=X.length:=by rw[hk,jS]
 refine Gn (by rw[yO,hl]) λi hi=>?_
 unfold bF;rw[wU (by rw[hl];exact hi)]
 have e:(Kn.kept S.length gone).getD i 0=i:=by rw[hk,jc,List.getElem?_range hi];rfl
 rw[e]
 refine MR (λs hs=>?_) (h.plus i hi)
 rw[F4];have hp:aq X (i,s):=⟨hi,hs⟩
 have e1:iq S gone S.length (aa S (i,s))=aa X (i,s):=by rw[h.class (h.ok.ah (h.oK hp)),h.pl _ hp]
 have e2:=h.num (aa X (i,s)) (h.fX.ah hp).2;rw[<-e1]at e2;have e3:=h.fX.cT hp;rw[<-e1,<-e2]at e3;exact e3
theorem Back.rings(h:Back X S gone ρ):takeN S gone=(range (ag S)).countP λa=>decide (ρ (a+1)=a+1)&&decide (ag X<a+1):=by
 unfold takeN IY
 refine dH λa ha=>?_
 have ha:=jw.1 ha;have hr:ah S (a+1):=⟨by omega,by omega⟩;rw[h.left hr,h.class hr]
 congr 1
 rw[jD];simp
theorem Back.none(h:Back X S gone ρ)(hn:∀b,ah S b->ρ b<=ag X):takeN S gone=0:=by
 rw[h.rings,List.countP_eq_zero];intro a ha;have ha:=jw.1 ha;have:=hn (a+1) ⟨by omega,by omega⟩
 simp;omega
end
structure eh(X S:List Cr)(a ja jn:Nat):Prop where
 len:S.length=X.length+1
 cx:∀p,aq X p->cm S p=cm X p
 ax:∀p,aq X p->p≠aF X true a->at_ S p=at_ X p
 ap:at_ S (aF X true a)=(ag X:Int)+2
 lj:ja<4
 ln:jn<4
 X9:(ja+jn)%2=1
 c1:cm S (X.length,ja)=true
 c2:cm S (X.length,(ja+2)%4)=false
 c3:cm S (X.length,jn)=true
 c4:cm S (X.length,(jn+2)%4)=false
 a1:at_ S (X.length,ja)=(a:Int)
 a2:at_ S (X.length,(ja+2)%4)=(ag X:Int)+1
 a3:at_ S (X.length,jn)=(ag X:Int)+1
 a4:at_ S (X.length,(jn+2)%4)=(ag X:Int)+2
def Q4(X:List Cr)(a ja jn:Nat)(io:Bool)(b:Nat):Pl:=
 if b=ag X+1 then(if io then(X.length,jn)else(X.length,(ja+2)%4))
 else if b=ag X+2 then(if io then aF X true a else(X.length,(jn+2)%4))
 else if b=a/\io=true then(X.length,ja)else aF X io b
section
variable {X S:List Cr} {a ja jn:Nat}
theorem eh.lM(h:eh X S a ja jn):ag S=ag X+2:=by unfold ag;rw[h.len];omega
theorem eh.oK(h:eh X S a ja jn)(hp:aq X p):aq S p:=⟨by have:=hp.1;rw[h.len];omega,hp.2⟩
theorem eh.uG(h:eh X S a ja jn)(hs:s<4):aq S (X.length,s):=⟨by rw[h.len];simp only;omega,hs⟩
theorem eh.atEnd(h:eh X S a ja jn)(hX:Ok X)(ha:ah X a){b:Nat}(hb:ah S b)(io:Bool):aq S (Q4 X a ja jn io b)/\cm S (Q4 X a ja jn io b)=io/\at_ S (Q4 X a ja jn io b)=b:=by
 have hN:=h.lM;have hb1:=hb.1;have hb2:=hb.2;have m2:(ja+2)%4<4:=jQ _ (by omega);have m3:(jn+2)%4<4:=jQ _ (by omega);have p1:=hX.aD (io:=true) ha;unfold Q4;by_cases c:b=ag X+1
 · rw[if_pos c]
   cases io
   · exact⟨h.uG m2,h.c2,by rw[if_neg (by simp),h.a2];omega⟩
   exact⟨h.uG h.ln,h.c3,by rw[if_pos rfl,h.a3];omega⟩
 rw[if_neg c];by_cases d:b=ag X+2
 · rw[if_pos d]
   cases io
   · exact⟨h.uG m3,h.c4,by rw[if_neg (by simp),h.a4];omega⟩
   exact⟨h.oK p1,(h.cx _ p1).trans (hX.bT ha),by rw[if_pos rfl,h.ap];omega⟩
 rw[if_neg d];have Mz:ah X b:=⟨hb1,by omega⟩;by_cases e:b=a/\io=true
 · rw[if_pos e]
   exact⟨h.uG h.lj,h.c1.trans e.2.symm,h.a1.trans (by rw[e.1])⟩
 rw[if_neg e];have q1:=hX.aD (io:=io) Mz
 have hne:aF X io b≠aF X true a:=λk=>by
  have e1:=hX.bT (io:=io) Mz;have e2:=hX.bH (io:=io) Mz;rw[k,hX.bT ha]at e1;rw[k,hX.bH ha]at e2;exact e ⟨e2.symm,e1.symm⟩
 exact⟨h.oK q1,(h.cx _ q1).trans (hX.bT Mz),(h.ax _ q1 hne).trans (hX.at_end Mz)⟩
theorem eh.UI(h:eh X S a ja jn)(hX:Ok X)(ha:ah X a)(hp:aq S p):(1<=at_ S p/\at_ S p<=(ag S:Int))/\Q4 X a ja jn (cm S p) (at_ S p).toNat=p:=by
 have hN:=h.lM;have h1:=hp.1;rw[h.len]at h1;have ha1:=ha.1;have ha2:=ha.2;unfold Q4;by_cases c:p.1<X.length
 · have CR:aq X p:=⟨c,hp.2⟩
   have hr:=hX.wN p CR;by_cases e:p=aF X true a
   · subst e
     rw[h.ap,h.cx _ CR,hX.bT ha];refine⟨⟨by omega,by omega⟩,?_⟩;rw[if_neg (by omega),if_pos (by omega),if_pos rfl]
   rw[h.ax p CR e,h.cx p CR];have hb:=hX.ah CR;unfold Kn.aa at hb;refine⟨⟨by omega,by omega⟩,?_⟩;rw[if_neg (by have:=hb.2;omega),if_neg (by have:=hb.2;omega),if_neg (λk=>?_)]
   · exact hX.mK CR
   apply e;have:=hX.mK CR;unfold Kn.aa at this;rw[k.1,k.2]at this;exact this.symm
 obtain⟨p1,s⟩:=p
 obtain rfl:p1=X.length:=by simp only at c h1;omega
 have hs:s<4:=hp.2;have lj:=h.lj;have ln:=h.ln;have od:=h.X9
 have four:s=ja\/s=(ja+2)%4\/s=jn\/s=(jn+2)%4:=by omega
 rcases four with rfl|rfl|rfl|rfl
 · rw[h.c1,h.a1]
   refine⟨⟨by omega,by omega⟩,?_⟩;rw[if_neg (by omega),if_neg (by omega),if_pos ⟨by omega,rfl⟩]
 · rw[h.c2,h.a2]
   refine⟨⟨by omega,by omega⟩,?_⟩
   rw[if_pos (by omega)];rfl
 · rw[h.c3,h.a3]
   refine⟨⟨by omega,by omega⟩,?_⟩
   rw[if_pos (by omega)];rfl
 rw[h.c4,h.a4];refine⟨⟨by omega,by omega⟩,?_⟩
 rw[if_neg (by omega),if_pos (by omega)];rfl
theorem eh.ok(h:eh X S a ja jn)(hX:Ok X)(ha:ah X a):Ok S:=
 Oe (λp hp=>(h.UI hX ha hp).1) (λio b hb=>⟨_,h.atEnd hX ha hb io⟩) λp q hp hq hc he=>by
  rw[<-(h.UI hX ha hp).2,<-(h.UI hX ha hq).2,hc,he]
end
theorem V5{x:Cr}(h:i<Z.length):cr (Z++[x]) i=cr Z i:=by
 unfold cr;rw[jc,jc,List.getElem?_append_left h]
theorem Kr{x:Cr}:cr (Z++[x]) Z.length=x:=by
 unfold cr;rw[jc,List.getElem?_append_right (jH _),Nat.sub_self];rfl
theorem zI(h:s<4)(ha:a<4):s=a\/s=(a+1)%4\/s=(a+2)%4\/s=(a+3)%4:=by omega
section
variable {X S:List Cr} {a ja jn:Nat}
theorem eh.others(h:eh X S a ja jn)(hX:Ok X)(ha:ah X a):
 (∀p,aq X p->p≠aF X true a->p≠aF X false a->other S p=other X p)/\other S (aF X false a)=(X.length,ja)/\other S (aF X true a)=(X.length,(jn+2)%4) /\
 other S (X.length,ja)=aF X false a/\other S (X.length,(jn+2)%4)=aF X true a/\other S (X.length,(ja+2)%4)=(X.length,jn)/\other S (X.length,jn)=(X.length,(ja+2)%4):=by
 have hS:=h.ok hX ha;have m2:(ja+2)%4<4:=jQ _ (by omega);have m3:(jn+2)%4<4:=jQ _ (by omega);have pP:=hX.aD (io:=true) ha;have pQ:=hX.aD (io:=false) ha;have cP:=hX.bT (io:=true) ha;have cQ:=hX.bT (io:=false) ha
 have nPQ:aF X false a≠aF X true a:=λk=>by rw[k,cP]at cQ;cases cQ
 have aQ:=hX.at_end (io:=false) ha;have e1:other S (aF X false a)=(X.length,ja):=hS.dL (h.oK pQ) (h.uG h.lj) (by rw[h.c1,h.cx _ pQ,cQ];rfl) (by rw[h.a1,h.ax _ pQ nPQ,aQ]);have e2:other S (aF X true a)=(X.length,(jn+2)%4):=hS.dL (h.oK pP) (h.uG m3) (by rw[h.c4,h.cx _ pP,cP];rfl) (by rw[h.a4,h.ap]);have e3:other S (X.length,(ja+2)%4)=(X.length,jn):=hS.dL (h.uG m2) (h.uG h.ln) (by rw[h.c2,h.c3];rfl) (by rw[h.a2,h.a3]);refine⟨λp hp n1 n2=>?_,e1,e2,?_,?_,e3,?_⟩
 · have ho:=hX.aM hp
   have n3:other X p≠aF X true a:=λk=>n2 (by
    rw[<-hX.bU hp,k]
    unfold other;rw[cP,hX.bH ha];rfl)
   refine hS.dL (h.oK hp) (h.oK ho) (by rw[h.cx _ ho,h.cx _ hp,hX.dA hp]) ?_
   rw[h.ax _ ho n3,h.ax _ hp n1,<-hX.cT ho,hX.cK hp,hX.cT hp]
 · rw[<-e1,hS.bU (h.oK pQ)]
 · rw[<-e2,hS.bU (h.oK pP)]
 rw[<-e3,hS.bU (h.uG m2)]
theorem eh.pS(h:eh X S a ja jn)(hX:Ok X)(ha:ah X a)(hp:aJ X=true):aJ S=true:=by
 have hS:=h.ok hX ha;obtain⟨o1,o2,o3,o4,o5,o6,o7⟩:=h.others hX ha;obtain⟨L,vs,hL,hn,hlen,hv⟩:=hX.Db;have pP:=hX.aD (io:=true) ha;have pQ:=hX.aD (io:=false) ha;have lj:=h.lj;have ln:=h.ln;have od:=h.X9
 have oPQ:other X (aF X true a)=aF X false a:=by unfold other;rw[hX.bT ha,hX.bH ha];rfl
 have oQP:other X (aF X false a)=aF X true a:=by unfold other;rw[hX.bT ha,hX.bH ha];rfl
 have hLP:=hL _ pP;have hLQ:=hL _ pQ;rw[oPQ]at hLP;rw[oQP]at hLQ
 obtain⟨M,hM⟩:∃M:Pl->Nat,∀p,M p=if p.1<X.length then L p else
  if jn=(ja+1)%4 then(if p.2=(ja+2)%4 then 4*X.length else if p.2=ja then L (aF X true a)else L (aF X false a))
  else(if p.2=(ja+3)%4 then 4*X.length else if p.2=(ja+1)%4 then L (aF X false a)else L (aF X true a)):=⟨_,λ_=>rfl⟩
 have GH:∀p,aq X p->M p=L p:=λp hp=>by rw[hM,if_pos hp.1]
 have rR:∀s,M (X.length,s)=if jn=(ja+1)%4 then(if s=(ja+2)%4 then 4*X.length else if s=ja then L (aF X true a)else L (aF X false a))
  else(if s=(ja+3)%4 then 4*X.length else if s=(ja+1)%4 then L (aF X false a)else L (aF X true a)):=λs=>by rw[hM,if_neg (Nat.lt_irrefl _)]
 have hF:=hS.x8 (L:=M) (λp hp=>?_) (vs:=vs++[4*X.length]) (by
  rw[jU]
  exact⟨hn,by simp,λx hx y hy=>by
   rw[jB]at hy;have:=(hv x hx).1
   omega⟩) λv hv'=>?_
 · refine hX.uH hS hp (k:=1) (f:=1) (c:=0) h.len ?_ (hX.uK hS (by rw[h.len];omega) (λp hp=>?_) (es:=[]) λp hp hge=>.inl ⟨aF X false a,pQ,?_⟩) (by omega)
   · rw[ju,hlen]at hF
     exact hF
   · by_cases c1:p=aF X true a
     · subst c1
       rw[oPQ];have k1:=hS.dZ (h.oK pP);have k2:=hS.dZ (h.oK pQ);rw[o3]at k1;rw[o2]at k2;exact k1.trans ((Ln.round (p:=(X.length,(jn+2)%4)) (q:=(X.length,ja)) (h.uG (jQ _ (by omega))) lj rfl).trans k2.symm)
     by_cases c2:p=aF X false a
     · subst c2
       rw[oQP];have k1:=hS.dZ (h.oK pP);have k2:=hS.dZ (h.oK pQ);rw[o3]at k1;rw[o2]at k2;exact k2.trans ((Ln.round (p:=(X.length,ja)) (q:=(X.length,(jn+2)%4)) (h.uG h.lj) (jQ _ (by omega)) rfl).trans k1.symm)
     have:=hS.dZ (h.oK hp)
     rwa [o1 p hp c1 c2]at this
   have k2:=hS.dZ (h.oK pQ);rw[o2]at k2;have h1:=hp.1;rw[h.len]at h1;exact k2.trans (Ln.round (h.uG h.lj) hp.2 (by show X.length=p.1;omega))
 · by_cases c:p.1<X.length
   · have CR:aq X p:=⟨c,hp.2⟩
     rw[GH _ (xU CR)];by_cases c1:p=aF X true a
     · subst c1
       rw[o3,rR,<-hLP];by_cases d:jn=(ja+1)%4
       · rw[if_pos d,if_neg (by omega),if_neg (by omega)]
       rw[if_neg d,if_neg (by omega),if_pos (by omega)]
     by_cases c2:p=aF X false a
     · subst c2
       rw[o2,rR,<-hLQ];by_cases d:jn=(ja+1)%4
       · rw[if_pos d,if_neg (by omega),if_pos rfl]
       rw[if_neg d,if_neg (by omega),if_neg (by omega)]
     rw[o1 p CR c1 c2,GH _ (hX.aM CR),hL p CR]
   obtain⟨p1,s⟩:=p;have h1:=hp.1;rw[h.len]at h1
   obtain rfl:p1=X.length:=by simp only at c h1;omega
   have hs:s<4:=hp.2
   show _=M (X.length,(s+1)%4)
   by_cases d:jn=(ja+1)%4
   · rcases zI hs lj with e|e|e|e
     · rw[e,o4,GH _ pQ,rR,if_pos d,if_neg (by omega),if_neg (by omega)]
     · rw[e,<-d,o7,rR,rR,if_pos d,if_pos rfl,if_pos d,if_pos (by omega)]
     · rw[e,o6,rR,rR,if_pos d,if_neg (by omega),if_neg (by omega),if_pos d,if_neg (by omega),if_neg (by omega)]
     rw[e,show (ja+3)%4=(jn+2)%4 by omega,o5,GH _ pP,rR,if_pos d,if_neg (by omega),if_pos (by omega)]
   rcases zI hs lj with e|e|e|e
   · rw[e,o4,GH _ pQ,rR,if_neg d,if_neg (by omega),if_pos rfl]
   · rw[e,show (ja+1)%4=(jn+2)%4 by omega,o5,GH _ pP,rR,if_neg d,if_neg (by omega),if_neg (by omega)]
   · rw[e,o6,rR,rR,if_neg d,if_pos (by omega),if_neg d,if_pos (by omega)]
   rw[e,show (ja+3)%4=jn by omega,o7,rR,rR,if_neg d,if_neg (by omega),if_neg (by omega),if_neg d,if_neg (by omega),if_neg (by omega)]
 rw[jx,jB]at hv'
 rcases hv' with hv' | rfl
 · obtain⟨_,p,hp,e⟩:=hv v hv'
   exact⟨p,h.oK hp,by rw[GH p hp,e]⟩
 by_cases d:jn=(ja+1)%4
 · exact⟨(X.length,(ja+2)%4),h.uG (jQ _ (by omega)),by rw[rR,if_pos d,if_pos rfl]⟩
 exact⟨(X.length,(ja+3)%4),h.uG (jQ _ (by omega)),by rw[rR,if_neg d,if_pos rfl]⟩
def qN(n a b:Nat):Nat:=if b=n+1\/b=n+2 then a else b
theorem eh.back(h:eh X S a ja jn)(hX:Ok X)(ha:ah X a):Back X S (only X.length) (qN (ag X) a):=by
 have hS:=h.ok hX ha;have hN:=h.lM;have ha2:=ha.2
 have mP:only X.length X.length=true:=by simp
 have hlt:X.length<S.length:=by rw[h.len];omega
 have num:∀{p v},at_ S p=((v:Nat):Int)->aa S p=v:=λ{p v} e=>by unfold aa;rw[e];rfl
 have n1:=num (v:=a) h.a1;have n2:=num (v:=ag X+1) (by rw[h.a2];omega);have n3:=num (v:=ag X+1) (by rw[h.a3];omega);have n4:=num (v:=ag X+2) (by rw[h.a4];omega)
 have ra:qN (ag X) a a=a:=by unfold qN;rw[if_neg (by omega)]
 have rm:qN (ag X) a (ag X+1)=a:=by unfold qN;rw[if_pos (.inl rfl)]
 have rl:qN (ag X) a (ag X+2)=a:=by unfold qN;rw[if_pos (.inr rfl)]
 have all:∀s,s<4->qN (ag X) a (aa S (X.length,s))=a:=λs hs=>by
  have lj:=h.lj;have ln:=h.ln;have od:=h.X9
  have four:s=ja\/s=(ja+2)%4\/s=jn\/s=(jn+2)%4:=by omega
  rcases four with e|e|e|e
  · rw[e,n1,ra]
  · rw[e,n2,rm]
  · rw[e,n3,rm]
  rw[e,n4,rl]
 refine⟨hX,hS,by rw[h.len];omega,λc hc=>?_,λp hp=>?_,λc hc=>?_,λb hb=>?_,λb=>?_,λc s h1 h2 h3=>?_,λb hb=>?_⟩
 · rw[h.len]at hc
   show decide _=decide _
   rw[jL];omega
 · by_cases c:p=aF X true a
   · subst c
     rw[num (v:=ag X+2) (by rw[h.ap];omega),rl,hX.bH ha]
   have e:aa S p=aa X p:=by unfold aa;rw[h.ax p hp c]
   have:=(hX.ah hp).2;rw[e]
   unfold qN;rw[if_neg (by omega)]
 · have:=h.cx (c,1) ⟨hc,by show 1<4;omega⟩
   unfold cm comes over at this
   revert this
   cases (cr S c).p<;>cases (cr X c).p<;>simp
 · unfold qN;rw[if_neg (by omega)]
 · unfold qN;split<;>omega
 · rw[h.len]at h2
   obtain rfl:c=X.length:=by omega
   rw[all s h3,all _ (jQ _ (by omega))]
 have hE:=aj (bL S (only X.length) S.length);have t1:=dY (X:=S) hlt mP h.lj;have t2:=dY (X:=S) hlt mP h.ln;rw[n1,n2]at t1;rw[n3,n4]at t2;unfold qN;split
 · rename_i c
   rcases c with rfl|rfl
   · exact hE.symm t1
   exact hE.symm (hE.trans t1 t2)
 exact hE.refl b
theorem eh.take(h:eh X S a ja jn)(hX:Ok X)(ha:ah X a):bF S (only X.length)=X/\takeN S (only X.length)=0:=by
 have hb:=h.back hX ha;refine⟨hb.take,hb.none λb hb=>?_⟩;have hN:=h.lM;have:=hb.2;have:=ha.2
 unfold qN;split<;>omega
theorem eh.Me(h:eh X S a ja jn):∃s,s<4/\at_ S (X.length,s)=at_ S (X.length,(s+1)%4):=by
 have lj:=h.lj;have ln:=h.ln;have od:=h.X9;by_cases d:jn=(ja+1)%4
 · exact⟨jn,ln,by rw[h.a3,show (jn+1)%4=(ja+2)%4 by omega,h.a2]⟩
 exact⟨(ja+2)%4,jQ _ (by omega),by rw[h.a2,show ((ja+2)%4+1)%4=jn by omega,h.a3]⟩
end
structure fN(X S:List Cr)(ja jn:Nat):Prop where
 len:S.length=X.length+1
 cx:∀p,aq X p->cm S p=cm X p
 ax:∀p,aq X p->at_ S p=at_ X p
 lj:ja<4
 ln:jn<4
 X9:(ja+jn)%2=1
 c1:cm S (X.length,ja)=true
 c2:cm S (X.length,(ja+2)%4)=false
 c3:cm S (X.length,jn)=true
 c4:cm S (X.length,(jn+2)%4)=false
 a1:at_ S (X.length,ja)=(ag X:Int)+1
 a2:at_ S (X.length,(ja+2)%4)=(ag X:Int)+2
 a3:at_ S (X.length,jn)=(ag X:Int)+2
 a4:at_ S (X.length,(jn+2)%4)=(ag X:Int)+1
section
variable {X S:List Cr} {ja jn:Nat}
theorem fN.lM(h:fN X S ja jn):ag S=ag X+2:=by unfold ag;rw[h.len];omega
theorem fN.oK(h:fN X S ja jn)(hp:aq X p):aq S p:=⟨by have:=hp.1;rw[h.len];omega,hp.2⟩
theorem fN.uG(h:fN X S ja jn)(hs:s<4):aq S (X.length,s):=⟨by rw[h.len];simp only;omega,hs⟩
theorem fN.ok(h:fN X S ja jn)(hX:Ok X):Ok S:=by
 have hN:=h.lM;have lj:=h.lj;have ln:=h.ln;have od:=h.X9;have m2:(ja+2)%4<4:=jQ _ (by omega);have m3:(jn+2)%4<4:=jQ _ (by omega)
 refine LM (λp hp=>?_) λio b hb=>?_
 · by_cases c:p.1<X.length
   · have CR:aq X p:=⟨c,hp.2⟩
     have:=hX.wN p CR
     rw[h.ax p CR];omega
   obtain⟨p1,s⟩:=p;have h1:=hp.1;rw[h.len]at h1
   obtain rfl:p1=X.length:=by simp only at c h1;omega
   have hs:s<4:=hp.2
   have four:s=ja\/s=(ja+2)%4\/s=jn\/s=(jn+2)%4:=by omega
   rcases four with e|e|e|e<;>rw[e]
   · rw[h.a1];omega
   · rw[h.a2];omega
   · rw[h.a3];omega
   rw[h.a4];omega
 have hb2:=hb.2;by_cases c1:b=ag X+1
 · cases io
   · exact⟨_,h.uG m3,h.c4,by rw[h.a4];omega⟩
   exact⟨_,h.uG lj,h.c1,by rw[h.a1];omega⟩
 by_cases c2:b=ag X+2
 · cases io
   · exact⟨_,h.uG m2,h.c2,by rw[h.a2];omega⟩
   exact⟨_,h.uG ln,h.c3,by rw[h.a3];omega⟩
 have Mz:ah X b:=⟨hb.1,by omega⟩;have q1:=hX.aD (io:=io) Mz;exact⟨_,h.oK q1,(h.cx _ q1).trans (hX.bT Mz),(h.ax _ q1).trans (hX.at_end Mz)⟩
theorem fN.others(h:fN X S ja jn)(hX:Ok X):
 (∀p,aq X p->other S p=other X p)/\other S (X.length,ja)=(X.length,(jn+2)%4)/\other S (X.length,(jn+2)%4)=(X.length,ja)/\other S (X.length,(ja+2)%4)=(X.length,jn)/\other S (X.length,jn)=(X.length,(ja+2)%4):=by
 have hS:=h.ok hX;have m2:(ja+2)%4<4:=jQ _ (by omega);have m3:(jn+2)%4<4:=jQ _ (by omega);refine⟨λp hp=>?_,?_,?_,?_,?_⟩
 · have ho:=hX.aM hp
   refine hS.dL (h.oK hp) (h.oK ho) (by rw[h.cx _ ho,h.cx _ hp,hX.dA hp]) ?_
   rw[h.ax _ ho,h.ax _ hp,<-hX.cT ho,hX.cK hp,hX.cT hp]
 · exact hS.dL (h.uG h.lj) (h.uG m3) (by rw[h.c1,h.c4];rfl) (by rw[h.a1,h.a4])
 · exact hS.dL (h.uG m3) (h.uG h.lj) (by rw[h.c1,h.c4];rfl) (by rw[h.a1,h.a4])
 · exact hS.dL (h.uG m2) (h.uG h.ln) (by rw[h.c2,h.c3];rfl) (by rw[h.a2,h.a3])
 exact hS.dL (h.uG h.ln) (h.uG m2) (by rw[h.c2,h.c3];rfl) (by rw[h.a2,h.a3])
theorem fN.pS(h:fN X S ja jn)(hX:Ok X)(hp:aJ X=true):aJ S=true:=by
 have hS:=h.ok hX;obtain⟨o1,o2,o3,o4,o5⟩:=h.others hX;obtain⟨L,vs,hL,hn,hlen,hv⟩:=hX.Db;have lj:=h.lj;have ln:=h.ln;have od:=h.X9
 obtain⟨M,hM⟩:∃M:Pl->Nat,∀p,M p=if p.1<X.length then L p else
  if jn=(ja+1)%4 then(if p.2=ja then 4*X.length else if p.2=(ja+2)%4 then 4*X.length+1 else 4*X.length+2)
  else(if p.2=(ja+1)%4 then 4*X.length else if p.2=(ja+3)%4 then 4*X.length+1 else 4*X.length+2):=⟨_,λ_=>rfl⟩
 have GH:∀p,aq X p->M p=L p:=λp hp=>by rw[hM,if_pos hp.1]
 have rR:∀s,M (X.length,s)=if jn=(ja+1)%4 then(if s=ja then 4*X.length else if s=(ja+2)%4 then 4*X.length+1 else 4*X.length+2)
  else(if s=(ja+1)%4 then 4*X.length else if s=(ja+3)%4 then 4*X.length+1 else 4*X.length+2):=λs=>by rw[hM,if_neg (Nat.lt_irrefl _)]
 have hF:=hS.x8 (L:=M) (λp hp=>?_) (vs:=vs++[4*X.length,4*X.length+1,4*X.length+2]) (by
  rw[jU]
  exact⟨hn,by simp,λx hx y hy=>by
   simp only[jy,jz,or_false]at hy;have:=(hv x hx).1
   omega⟩) λv hv'=>?_
 · refine hX.uH hS hp (k:=1) (f:=3) (c:=1) h.len ?_ (hX.uK hS (by rw[h.len];omega) (λp hp=>?_) (es:=[(X.length,0)]) λp hp hge=>.inr ⟨(X.length,0),by simp,?_⟩) (by omega)
   · rw[ju,hlen]at hF
     exact hF
   · have:=hS.dZ (h.oK hp)
     rwa [o1 p hp]at this
   have h1:=hp.1;rw[h.len]at h1;exact Ln.round (p:=(X.length,0)) (h.uG (by omega)) hp.2 (by show X.length=p.1;omega)
 · by_cases c:p.1<X.length
   · have CR:aq X p:=⟨c,hp.2⟩
     rw[GH _ (xU CR),o1 p CR,GH _ (hX.aM CR),hL p CR]
   obtain⟨p1,s⟩:=p;have h1:=hp.1;rw[h.len]at h1
   obtain rfl:p1=X.length:=by simp only at c h1;omega
   have hs:s<4:=hp.2
   have four:s=ja\/s=(ja+2)%4\/s=jn\/s=(jn+2)%4:=by omega
   show _=M (X.length,(s+1)%4)
   by_cases d:jn=(ja+1)%4
   · rcases four with e|e|e|e
     · rw[e,o2,rR,rR,if_pos d,if_pos d,if_neg (by omega),if_neg (by omega),if_neg (by omega),if_neg (by omega)]
     · rw[e,o4,rR,rR,if_pos d,if_pos d,if_neg (by omega),if_neg (by omega),if_neg (by omega),if_neg (by omega)]
     · rw[e,o5,rR,rR,if_pos d,if_pos d,if_neg (by omega),if_pos (by omega),if_neg (by omega),if_pos (by omega)]
     rw[e,o3,rR,rR,if_pos d,if_pos d,if_pos (by omega),if_pos (by omega)]
   rcases four with e|e|e|e
   · rw[e,o2,rR,rR,if_neg d,if_neg d,if_pos (by omega),if_pos (by omega)]
   · rw[e,o4,rR,rR,if_neg d,if_neg d,if_pos (by omega),if_neg d,if_neg (by omega),if_pos (by omega)]
   · rw[e,o5,rR,rR,if_neg d,if_neg d,if_neg (by omega),if_neg (by omega),if_neg (by omega),if_neg (by omega)]
   rw[e,o3,rR,rR,if_neg d,if_neg d,if_neg (by omega),if_neg (by omega),if_neg (by omega),if_neg (by omega)]
 rw[jx]at hv'
 rcases hv' with hv' | hv'
 · obtain⟨_,p,hp,e⟩:=hv v hv'
   exact⟨p,h.oK hp,by rw[GH p hp,e]⟩
 simp only[jy,jz,or_false]at hv';by_cases d:jn=(ja+1)%4
 · rcases hv' with rfl|rfl|rfl
   · exact⟨(X.length,ja),h.uG lj,by rw[rR,if_pos d,if_pos rfl]⟩
   · exact⟨(X.length,(ja+2)%4),h.uG (jQ _ (by omega)),by rw[rR,if_pos d,if_neg (by omega),if_pos rfl]⟩
   exact⟨(X.length,(ja+1)%4),h.uG (jQ _ (by omega)),by rw[rR,if_pos d,if_neg (by omega),if_neg (by omega)]⟩
 rcases hv' with rfl|rfl|rfl
 · exact⟨(X.length,(ja+1)%4),h.uG (jQ _ (by omega)),by rw[rR,if_neg d,if_pos rfl]⟩
 · exact⟨(X.length,(ja+3)%4),h.uG (jQ _ (by omega)),by rw[rR,if_neg d,if_neg (by omega),if_pos rfl]⟩
 exact⟨(X.length,ja),h.uG lj,by rw[rR,if_neg d,if_neg (by omega),if_neg (by omega)]⟩
def sK(n b:Nat):Nat:=if b=n+2 then n+1 else b
theorem fN.back(h:fN X S ja jn)(hX:Ok X):Back X S (only X.length) (sK (ag X)):=by
 have hS:=h.ok hX;have hN:=h.lM
 have mP:only X.length X.length=true:=by simp
 have hlt:X.length<S.length:=by rw[h.len];omega
 have num:∀{p v},at_ S p=((v:Nat):Int)->aa S p=v:=λ{p v} e=>by unfold aa;rw[e];rfl
 have n1:=num (v:=ag X+1) (by rw[h.a1];omega);have n2:=num (v:=ag X+2) (by rw[h.a2];omega);have n3:=num (v:=ag X+2) (by rw[h.a3];omega);have n4:=num (v:=ag X+1) (by rw[h.a4];omega)
 have rm:sK (ag X) (ag X+1)=ag X+1:=by unfold sK;rw[if_neg (by omega)]
 have rl:sK (ag X) (ag X+2)=ag X+1:=by unfold sK;rw[if_pos rfl]
 have all:∀s,s<4->sK (ag X) (aa S (X.length,s))=ag X+1:=λs hs=>by
  have lj:=h.lj;have ln:=h.ln;have od:=h.X9
  have four:s=ja\/s=(ja+2)%4\/s=jn\/s=(jn+2)%4:=by omega
  rcases four with e|e|e|e
  · rw[e,n1,rm]
  · rw[e,n2,rl]
  · rw[e,n3,rl]
  rw[e,n4,rm]
 refine⟨hX,hS,by rw[h.len];omega,λc hc=>?_,λp hp=>?_,λc hc=>?_,λb hb=>?_,λb=>?_,λc s h1 h2 h3=>?_,λb hb=>?_⟩
 · rw[h.len]at hc
   show decide _=decide _
   rw[jL];omega
 · have e:aa S p=aa X p:=by unfold aa;rw[h.ax p hp]
   have:=(hX.ah hp).2;rw[e]
   unfold sK;rw[if_neg (by omega)]
 · have:=h.cx (c,1) ⟨hc,by show 1<4;omega⟩
   unfold cm comes over at this
   revert this
   cases (cr S c).p<;>cases (cr X c).p<;>simp
 · unfold sK;rw[if_neg (by omega)]
 · unfold sK;split<;>omega
 · rw[h.len]at h2
   obtain rfl:c=X.length:=by omega
   rw[all s h3,all _ (jQ _ (by omega))]
 have hE:=aj (bL S (only X.length) S.length);have t1:=dY (X:=S) hlt mP h.lj;rw[n1,n2]at t1;unfold sK;split
 · rename_i c
   subst c;exact hE.symm t1
 exact hE.refl b
theorem fN.take(h:fN X S ja jn)(hX:Ok X):bF S (only X.length)=X/\takeN S (only X.length)=1:=by
 have hb:=h.back hX;refine⟨hb.take,?_⟩;rw[hb.rings,h.lM,jO,jO,List.countP_append,List.countP_append]
 have:(range (ag X)).countP (λa=>decide (sK (ag X) (a+1)=a+1)&&decide (ag X<a+1))=0:=by
  rw[List.countP_eq_zero];intro a ha;have:=jw.1 ha
  simp;omega
 rw[this];unfold sK;simp
theorem fN.Me(h:fN X S ja jn):∃s,s<4/\at_ S (X.length,s)=at_ S (X.length,(s+1)%4):=by
 have lj:=h.lj;have ln:=h.ln;have od:=h.X9;by_cases d:jn=(ja+1)%4
 · exact⟨jn,ln,by rw[h.a3,show (jn+1)%4=(ja+2)%4 by omega,h.a2]⟩
 exact⟨(ja+2)%4,jQ _ (by omega),by rw[h.a2,show ((ja+2)%4+1)%4=jn by omega,h.a3]⟩
end
theorem Cf{α:Type}[DecidableEq α](nx:α->α):∀(k:Nat) (seen:List α) (x:α) (i:Nat) (h:i+1<(ring nx k seen x).length),(ring nx k seen x)[i+1]=nx ((ring nx k seen x)[i]'(by omega))
 |0,seen,x,i,h=>by simp[ring]at h
 |k+1,seen,x,i,h=>by
  by_cases c:x∈seen
  · simp[fV nx c]at h
  have e:=iG nx (k:=k) c;simp only[e,jE]at h
  cases i with
  |zero=>
   simp only[e,List.getElem_cons_succ,List.getElem_cons_zero]
   have h0:0<(ring nx k (seen++[x]) (nx x)).length:=by omega
   by_cases d:nx x∈seen++[x]
   · simp[fV nx d]at h0
   cases k with
   |zero=>simp[ring]at h0
   |succ k=>simp only[iG nx d,List.getElem_cons_zero]
  |succ i=>
   simp only[e,List.getElem_cons_succ];exact Cf nx k (seen++[x]) (nx x) i (by omega)
theorem tG{α:Type}[DecidableEq α](nx:α->α)(N:Nat):∀(ds seen:List α),∀f∈rings nx N seen ds,∀(i:Nat) (h:i+1<f.length),f[i+1]=nx (f[i]'(by omega))
 |[],seen,f,hf,_,_=>by rw[qA]at hf;cases hf
 |d :: ds,seen,f,hf,i,h=>by
  by_cases c:d∈seen
  · rw[eN nx c]at hf
    exact tG nx N ds seen f hf i h
  rw[fU nx c]at hf
  rcases jy.1 hf with rfl|hf
  · exact Cf nx N seen d i h
  exact tG nx N ds _ f hf i h
section
variable {X:List Cr}
theorem Fi(hf:f∈aA X)(i:Nat)(h:i+1<f.length):f[i+1]=left X (f[i]'(by omega)):=tG (left X) _ _ _ f hf i h
theorem Ok.fQ(h:Ok X)(hf:f∈aA X)(hd:d∈f):Kn.ah X d.1:=
 bW.1 ((fK h).mem_iff.1 (List.mem_flatten.2 ⟨_,hf,hd⟩))
theorem Ok.wE(h:Ok X)(hf:f∈aA X):f.Nodup:=
 (List.pairwise_flatten.1 ((fK h).nodup_iff.2 (pI X))).1 f hf
theorem Ok.mF(h:Ok X){a b:Dt}(ha:Kn.ah X a.1)(hb:Kn.ah X b.1)(e:pk (head X a)=pk (head X b)):a=b:=
 h.tX ha hb (eP (h.bg ha).2 (h.bg hb).2 e)
theorem Ok.GL(h:Ok X)(hf:f∈aA X){e:Dt}(hd:d∈f)(he:Kn.ah X e.1):e∈f↔cW (ye X) (pk (head X d)) (pk (head X e)):=by
 have hm:f.map (λd=>pk (head X d))∈(aA X).map (List.map λd=>pk (head X d)):=jv.2 ⟨_,hf,rfl⟩;have key:=h.ug _ hm (pk (head X d)) (jv.2 ⟨d,hd,rfl⟩) (pk (head X e));rw[<-key];constructor
 · intro k;exact jv.2 ⟨e,k,rfl⟩
 intro k;obtain⟨g,hg,e'⟩:=jv.1 k;rw[<-h.mF (h.fQ hf hg) he e'];exact hg
theorem Ok.YX(h:Ok X)(hd:Kn.ah X d.1):∃f∈aA X,d∈f:=by
 obtain⟨f,hf,k⟩:=List.mem_flatten.1 ((fK h).mem_iff.2 (bW.2 hd));exact⟨f,hf,k⟩
theorem Ok.JB(h:Ok X){a b:Dt}(ha:Kn.ah X a.1)(hb:Kn.ah X b.1)(e:left X a=left X b):a=b:=by
 have h1:=h.gL ha;have h2:=h.gL hb;rw[e]at h1;exact h.mF ha hb (h.pZ.inj _ _ (h1.trans h2.symm))
theorem Ok.Jz(h:Ok X)(hf:f∈aA X)(hd:d∈f):left X d∈f:=by
 have ha:=h.fQ hf hd;rw[h.GL hf hd (h.dD ha)];exact⟨1,h.gL ha⟩
theorem Ok.MI(h:Ok X){e g:Dt}(hf:[d,e,g]∈aA X):Kn.ah X d.1/\Kn.ah X e.1/\Kn.ah X g.1/\left X d=e/\left X e=g/\left X g=d:=by
 have a1:=h.fQ hf (d:=d) (by simp);have a2:=h.fQ hf (d:=e) (by simp);have a3:=h.fQ hf (d:=g) (by simp);have n1:e=left X d:=Fi hf 0 (by simp);have n2:g=left X e:=Fi hf 1 (by simp);have hn:=h.wE hf;have h3:=h.Jz hf (d:=g) (by simp);refine⟨a1,a2,a3,n1.symm,n2.symm,?_⟩;simp only[jy,jz,or_false]at h3;simp only[nodup_cons,jy,jz,or_false,not_or]at hn
 rcases h3 with k|k|k
 · exact k
 · exact absurd (h.JB a3 a1 (k.trans n1)).symm hn.1.2
 exact absurd (h.JB a3 a2 (k.trans n2)).symm hn.2.1
theorem Ok.Fh(h:Ok X){D:Nat->Dt}(ha:∀i,Kn.ah X (D i).1)(hl:∀i,left X (D i)=D (i+1)):∃f∈aA X,f.Nodup/\∀e,e∈f↔∃i,e=D i:=by
 obtain⟨f,hf,k⟩:=h.YX (ha 0)
 have hall:∀i,D i∈f:=λi=>by
  induction i with
  |zero=>exact k
  |succ i ih=>rw[<-hl];exact h.Jz hf ih
 refine⟨f,hf,h.wE hf,λe=>⟨λhe=>?_,λ⟨i,hi⟩=>hi ▸ hall i⟩⟩;have ho:=(h.GL hf k (h.fQ hf he)).1 he;have:=ho.ind (P:=λy=>∃i,y=pk (head X (D i))) (λx ⟨i,hx⟩=>⟨i+1,by rw[hx,<-hl,<-h.gL (ha i)]⟩) ⟨0,rfl⟩;obtain⟨i,hi⟩:=this;exact⟨i,h.mF (h.fQ hf he) (ha i) hi⟩
end
def aH(c b j:Nat):Pl:=(c,(j+4-b)%4)
structure bG(X S:List Cr)(u v:Dt)(b0 b1:Nat):Prop where
 fX:Ok X
 au:ah X u.1
 av:ah X v.1
 ne:u.1≠v.1
 len:S.length=X.length+2
 cx:∀p,aq X p->cm S p=cm X p
 ax:∀p,aq X p->p≠aF X true u.1->p≠aF X true v.1->at_ S p=at_ X p
 pu:at_ S (aF X true u.1)=(ag X:Int)+2
 pv:at_ S (aF X true v.1)=(ag X:Int)+4
 lb0:b0<4
 lb1:b1<4
 a00:at_ S (aH X.length b0 0)=(ag X:Int)+3
 a01:at_ S (aH X.length b0 1)=(ag X:Int)+1
 a02:at_ S (aH X.length b0 2)=if v.2 then(v.1:Int)else(ag X:Int)+4
 a03:at_ S (aH X.length b0 3)=if u.2 then(ag X:Int)+2 else(u.1:Int)
 a10:at_ S (aH (X.length+1) b1 0)=if v.2 then(ag X:Int)+4 else(v.1:Int)
 a11:at_ S (aH (X.length+1) b1 1)=(ag X:Int)+1
 a12:at_ S (aH (X.length+1) b1 2)=(ag X:Int)+3
 a13:at_ S (aH (X.length+1) b1 3)=if u.2 then(u.1:Int)else(ag X:Int)+2
 c00:cm S (aH X.length b0 0)=!v.2
 c01:cm S (aH X.length b0 1)=u.2
 c02:cm S (aH X.length b0 2)=v.2
 c03:cm S (aH X.length b0 3)=!u.2
 c10:cm S (aH (X.length+1) b1 0)=!v.2
 c11:cm S (aH (X.length+1) b1 1)=!u.2
 c12:cm S (aH (X.length+1) b1 2)=v.2
 c13:cm S (aH (X.length+1) b1 3)=u.2
theorem uE{c b:Nat}(hb:b<4)(hp:p.2<4)(e:p.1=c):p=aH c b 0\/p=aH c b 1\/p=aH c b 2\/p=aH c b 3:=by
 obtain⟨x,y⟩:=p;obtain rfl:x=c:=e;unfold aH;simp only[Prod.mk.injEq,true_and]at hp ⊢;omega
theorem Tq{c b j:Nat}(hb:b<4):up (aH c b j)=aH c b (j+1):=Prod.ext rfl (by unfold up aH;simp only;omega)
theorem I2{c b:Nat}(hb:b<4):aH c b 4=aH c b 0:=Prod.ext rfl (by unfold aH;simp only;omega)
theorem NW{c d b b' j k:Nat}(hb:b<4)(hb':b'<4)(e:aH c b j=aH d b' k):c=d/\(b=b'->j%4=k%4):=by
 unfold aH at e
 injection e with e1 e2
 exact⟨e1,λq=>by omega⟩
section
variable {X S:List Cr} {u v:Dt} {b0 b1:Nat}
theorem bG.lM(h:bG X S u v b0 b1):ag S=ag X+4:=by unfold ag;rw[h.len];omega
theorem bG.oK(h:bG X S u v b0 b1)(hp:aq X p):aq S p:=⟨by have:=hp.1;rw[h.len];omega,hp.2⟩
theorem bG.Hk(h:bG X S u v b0 b1)(j:Nat):aq S (aH X.length b0 j):=⟨by rw[h.len];unfold aH;simp only;omega,jQ _ (by omega)⟩
theorem bG.KT(h:bG X S u v b0 b1)(j:Nat):aq S (aH (X.length+1) b1 j):=⟨by rw[h.len];unfold aH;simp only;omega,jQ _ (by omega)⟩
theorem bG.where(h:bG X S u v b0 b1)(hp:aq S p):aq X p\/(∃j,j<4/\p=aH X.length b0 j)\/∃j,j<4/\p=aH (X.length+1) b1 j:=by
 have h1:=hp.1;rw[h.len]at h1
 have c:p.1<X.length\/p.1=X.length\/p.1=X.length+1:=by omega
 rcases c with c|c|c
 · exact .inl ⟨c,hp.2⟩
 · right;left
   rcases uE h.lb0 hp.2 c with e|e|e|e
   · exact⟨0,by omega,e⟩
   · exact⟨1,by omega,e⟩
   · exact⟨2,by omega,e⟩
   exact⟨3,by omega,e⟩
 right;right
 rcases uE h.lb1 hp.2 c with e|e|e|e
 · exact⟨0,by omega,e⟩
 · exact⟨1,by omega,e⟩
 · exact⟨2,by omega,e⟩
 exact⟨3,by omega,e⟩
theorem bG.ends(h:bG X S u v b0 b1)(io:Bool):(at_ S (aF X io u.1)=if io then(ag X:Int)+2 else(u.1:Int))/\(at_ S (aF X io v.1)=if io then(ag X:Int)+4 else(v.1:Int)):=by
 have k:∀{a b io jo},Kn.ah X a->Kn.ah X b->aF X io a=aF X jo b->a=b/\io=jo:=λ{a b io jo} ha hb e=>by
  have e1:=h.fX.bH (io:=io) ha;have e2:=h.fX.bT (io:=io) ha;rw[e,h.fX.bH hb]at e1;rw[e,h.fX.bT hb]at e2;exact⟨e1.symm,e2.symm⟩
 cases io
 · constructor
   · rw[h.ax _ (h.fX.aD h.au) (λe=>by have:=(k h.au h.au e).2;cases this) (λe=>h.ne (k h.au h.av e).1),h.fX.at_end h.au];rfl
   rw[h.ax _ (h.fX.aD h.av) (λe=>h.ne (k h.av h.au e).1.symm) (λe=>by have:=(k h.av h.av e).2;cases this),h.fX.at_end h.av];rfl
 exact⟨h.pu,h.pv⟩
theorem bG.ok(h:bG X S u v b0 b1):Ok S:=by
 have hN:=h.lM;have u1:=h.au.1;have u2:=h.au.2;have v1:=h.av.1;have v2:=h.av.2
 refine LM (λp hp=>?_) λio b hb=>?_
 · rw[hN]
   rcases h.where hp with c|⟨j,hj,rfl⟩|⟨j,hj,rfl⟩
   · have hr:=h.fX.wN p c
     by_cases e:p=aF X true u.1
     · rw[e,h.pu];omega
     by_cases e':p=aF X true v.1
     · rw[e',h.pv];omega
     rw[h.ax p c e e'];omega
   · have:j=0\/j=1\/j=2\/j=3:=by omega
     rcases this with rfl|rfl|rfl|rfl
     · rw[h.a00];omega
     · rw[h.a01];omega
     · rw[h.a02];split<;>omega
     rw[h.a03];split<;>omega
   have:j=0\/j=1\/j=2\/j=3:=by omega
   rcases this with rfl|rfl|rfl|rfl
   · rw[h.a10];split<;>omega
   · rw[h.a11];omega
   · rw[h.a12];omega
   rw[h.a13];split<;>omega
 have hb1:=hb.1;have hb2:=hb.2;by_cases e1:b=ag X+1
 · by_cases q:io=u.2
   · exact⟨_,h.Hk 1,by rw[h.c01,q],by rw[h.a01];omega⟩
   exact⟨_,h.KT 1,by rw[h.c11];revert q;cases io<;>cases u.2<;>simp,by rw[h.a11];omega⟩
 by_cases e3:b=ag X+3
 · by_cases q:io=v.2
   · exact⟨_,h.KT 2,by rw[h.c12,q],by rw[h.a12];omega⟩
   exact⟨_,h.Hk 0,by rw[h.c00];revert q;cases io<;>cases v.2<;>simp,by rw[h.a00];omega⟩
 by_cases e2:b=ag X+2
 · cases io
   · cases hu:u.2
     · exact⟨_,h.KT 3,by rw[h.c13,hu],by rw[h.a13,hu,if_neg (by simp)];omega⟩
     exact⟨_,h.Hk 3,by rw[h.c03,hu];rfl,by rw[h.a03,hu,if_pos rfl];omega⟩
   exact⟨_,h.oK (h.fX.aD (io:=true) h.au),(h.cx _ (h.fX.aD h.au)).trans (h.fX.bT h.au),by rw[h.pu];omega⟩
 by_cases e4:b=ag X+4
 · cases io
   · cases hv:v.2
     · exact⟨_,h.Hk 2,by rw[h.c02,hv],by rw[h.a02,hv,if_neg (by simp)];omega⟩
     exact⟨_,h.KT 0,by rw[h.c10,hv];rfl,by rw[h.a10,hv,if_pos rfl];omega⟩
   exact⟨_,h.oK (h.fX.aD (io:=true) h.av),(h.cx _ (h.fX.aD h.av)).trans (h.fX.bT h.av),by rw[h.pv];omega⟩
 have Mz:Kn.ah X b:=⟨hb1,by omega⟩;by_cases q:b=u.1/\io=true
 · obtain⟨rfl,rfl⟩:=q
   cases hu:u.2
   · exact⟨_,h.Hk 3,by rw[h.c03,hu];rfl,by rw[h.a03,hu,if_neg (by simp)]⟩
   exact⟨_,h.KT 3,by rw[h.c13,hu],by rw[h.a13,hu,if_pos rfl]⟩
 by_cases q':b=v.1/\io=true
 · obtain⟨rfl,rfl⟩:=q'
   cases hv:v.2
   · exact⟨_,h.KT 0,by rw[h.c10,hv];rfl,by rw[h.a10,hv,if_neg (by simp)]⟩
   exact⟨_,h.Hk 2,by rw[h.c02,hv],by rw[h.a02,hv,if_pos rfl]⟩
 have q1:=h.fX.aD (io:=io) Mz
 have k:∀{a},Kn.ah X a->aF X io b=aF X true a->b=a/\io=true:=λ{a} ha e=>by
  have e1:=h.fX.bH (io:=io) Mz;have e2:=h.fX.bT (io:=io) Mz;rw[e,h.fX.bH ha]at e1;rw[e,h.fX.bT ha]at e2;exact⟨e1.symm,e2.symm⟩
 exact⟨_,h.oK q1,(h.cx _ q1).trans (h.fX.bT Mz),(h.ax _ q1 (λe=>q (k h.au e)) (λe=>q' (k h.av e))).trans (h.fX.at_end Mz)⟩
theorem bG.o01(h:bG X S u v b0 b1):other S (aH X.length b0 1)=aH (X.length+1) b1 1:=h.ok.dL (h.Hk 1) (h.KT 1) (by rw[h.c01,h.c11]) (by rw[h.a01,h.a11])
theorem bG.o11(h:bG X S u v b0 b1):other S (aH (X.length+1) b1 1)=aH X.length b0 1:=by rw[<-h.o01,h.ok.bU (h.Hk 1)]
theorem bG.o12(h:bG X S u v b0 b1):other S (aH (X.length+1) b1 2)=aH X.length b0 0:=h.ok.dL (h.KT 2) (h.Hk 0) (by rw[h.c12,h.c00]) (by rw[h.a12,h.a00])
theorem bG.o00(h:bG X S u v b0 b1):other S (aH X.length b0 0)=aH (X.length+1) b1 2:=by rw[<-h.o12,h.ok.bU (h.KT 2)]
theorem bG.cmE(h:bG X S u v b0 b1)(ha:Kn.ah X a):cm S (aF X io a)=io:=(h.cx _ (h.fX.aD ha)).trans (h.fX.bT ha)
theorem bG.oTU(h:bG X S u v b0 b1):other S (aF X u.2 u.1)=aH X.length b0 3:=
 h.ok.dL (h.oK (h.fX.aD h.au)) (h.Hk 3) (by rw[h.c03,h.cmE h.au]) (by rw[h.a03,(h.ends u.2).1])
theorem bG.oHU(h:bG X S u v b0 b1):other S (aF X (!u.2) u.1)=aH (X.length+1) b1 3:=
 h.ok.dL (h.oK (h.fX.aD h.au)) (h.KT 3) (by rw[h.c13,h.cmE h.au,not_not]) (by rw[h.a13,(h.ends (!u.2)).1];cases u.2<;>rfl)
theorem bG.oTV(h:bG X S u v b0 b1):other S (aF X v.2 v.1)=aH (X.length+1) b1 0:=
 h.ok.dL (h.oK (h.fX.aD h.av)) (h.KT 0) (by rw[h.c10,h.cmE h.av]) (by rw[h.a10,(h.ends v.2).2])
theorem bG.oHV(h:bG X S u v b0 b1):other S (aF X (!v.2) v.1)=aH X.length b0 2:=
 h.ok.dL (h.oK (h.fX.aD h.av)) (h.Hk 2) (by rw[h.c02,h.cmE h.av,not_not]) (by rw[h.a02,(h.ends (!v.2)).2];cases v.2<;>rfl)
theorem bG.o03(h:bG X S u v b0 b1):other S (aH X.length b0 3)=aF X u.2 u.1:=by rw[<-h.oTU,h.ok.bU (h.oK (h.fX.aD h.au))]
theorem bG.o13(h:bG X S u v b0 b1):other S (aH (X.length+1) b1 3)=aF X (!u.2) u.1:=by rw[<-h.oHU,h.ok.bU (h.oK (h.fX.aD h.au))]
theorem bG.o10(h:bG X S u v b0 b1):other S (aH (X.length+1) b1 0)=aF X v.2 v.1:=by rw[<-h.oTV,h.ok.bU (h.oK (h.fX.aD h.av))]
theorem bG.o02(h:bG X S u v b0 b1):other S (aH X.length b0 2)=aF X (!v.2) v.1:=by rw[<-h.oHV,h.ok.bU (h.oK (h.fX.aD h.av))]
theorem Ok.fW(h:Ok X)(ha:Kn.ah X a):other X (aF X io a)=aF X (!io) a:=by unfold other;rw[h.bT ha,h.bH ha]
theorem bG.oX(h:bG X S u v b0 b1)(hp:aq X p)(hu:aa X p≠u.1)(hv:aa X p≠v.1):other S p=other X p:=by
 have ho:=h.fX.aM hp
 have n:∀{q:Pl} {a:Nat} {io:Bool},Kn.ah X a->aa X q≠a->q≠aF X io a:=λha k e=>k (by rw[e,h.fX.bH ha])
 have e:=h.fX.cK hp
 refine h.ok.dL (h.oK hp) (h.oK ho) (by rw[h.cx _ ho,h.cx _ hp,h.fX.dA hp]) ?_
 rw[h.ax _ ho (n h.au (by rw[e];exact hu)) (n h.av (by rw[e];exact hv)),h.ax _ hp (n h.au hu) (n h.av hv),<-h.fX.cT ho,e,h.fX.cT hp]
theorem bG.parts(h:bG X S u v b0 b1)(hp:aq X p):p=aF X u.2 u.1\/p=aF X (!u.2) u.1\/p=aF X v.2 v.1\/p=aF X (!v.2) v.1\/(aa X p≠u.1/\aa X p≠v.1):=by
 have e:=h.fX.mK hp;by_cases c:aa X p=u.1
 · rw[c]at e
   by_cases q:cm X p=u.2
   · rw[q]at e;exact .inl e.symm
   have:cm X p=!u.2:=by revert q;cases cm X p<;>cases u.2<;>simp
   rw[this]at e;exact .inr (.inl e.symm)
 by_cases c':aa X p=v.1
 · rw[c']at e
   by_cases q:cm X p=v.2
   · rw[q]at e;exact .inr (.inr (.inl e.symm))
   have:cm X p=!v.2:=by revert q;cases cm X p<;>cases v.2<;>simp
   rw[this]at e;exact .inr (.inr (.inr (.inl e.symm)))
 exact .inr (.inr (.inr (.inr ⟨c,c'⟩)))
theorem bG.pS(h:bG X S u v b0 b1)(hf:cW (ye X) (pk (head X u)) (pk (head X v)))(hp:aJ X=true):aJ S=true:=by
 have hS:=h.ok;have pHU:=h.fX.aD (io:=!u.2) h.au;have pHV:=h.fX.aD (io:=!v.2) h.av;have pTU:=h.fX.aD (io:=u.2) h.au;have pTV:=h.fX.aD (io:=v.2) h.av
 have hne:head X u≠head X v:=λe=>h.ne (by rw[h.fX.tX h.au h.av e])
 obtain⟨L,vs,hL,hn,hlen,hv⟩:=h.fX.Q3 pHU pHV hne hf
 have far:∀{io jo},aF X io u.1≠aF X jo v.1:=λ{io jo} e=>h.ne (by rw[<-h.fX.bH (io:=io) h.au,e,h.fX.bH h.av])
 have lTU:=hL _ pTU;rw[h.fX.fW h.au,if_pos rfl]at lTU;have lTV:=hL _ pTV;rw[h.fX.fW h.av,if_neg (λe=>far e.symm),if_pos rfl]at lTV
 have nb:∀{b:Bool},b≠!b:=λ{b}=>by cases b<;>simp
 have lHU:=hL _ pHU
 rw[h.fX.fW h.au,not_not,if_neg (λe=>by
  have e2:=h.fX.bT (io:=u.2) h.au;rw[e,h.fX.bT h.au]at e2
  exact nb e2.symm),if_neg far]at lHU
 have lHV:=hL _ pHV
 rw[h.fX.fW h.av,not_not,if_neg (λe=>far e.symm),if_neg (λe=>by
  have e2:=h.fX.bT (io:=v.2) h.av;rw[e,h.fX.bT h.av]at e2
  exact nb e2.symm)]at lHV
 have lX:∀p,aq X p->aa X p≠u.1->aa X p≠v.1->L (other X p)=L (up p):=λp hp hu hv=>by
  have:=hL p hp
  rwa [if_neg (λe=>hu (by rw[<-h.fX.cK hp,e];exact h.fX.bH h.au)),if_neg (λe=>hv (by rw[<-h.fX.cK hp,e];exact h.fX.bH h.av))]at this
 obtain⟨M,hM⟩:∃M:Pl->Nat,∀p,M p=if p.1<X.length then L p else if p.1=X.length then
  (if p=aH X.length b0 0 then L (aF X u.2 u.1)else if p=aH X.length b0 1 then 4*X.length else if p=aH X.length b0 2 then L (aF X v.2 v.1)else L (aF X (!v.2) v.1))
  else(if p=aH (X.length+1) b1 0 then L (aF X (!u.2) u.1)else if p=aH (X.length+1) b1 1 then L (aF X v.2 v.1)else if p=aH (X.length+1) b1 2 then 4*X.length else L (aF X u.2 u.1)):=⟨_,λ_=>rfl⟩
 have GH:∀p,aq X p->M p=L p:=λp hp=>by rw[hM,if_pos hp.1]
 have l0:=h.lb0;have l1:=h.lb1
 have d0:∀{j k},j%4≠k%4->aH X.length b0 j≠aH X.length b0 k:=λq e=>q ((NW l0 l0 e).2 rfl)
 have d1:∀{j k},j%4≠k%4->aH (X.length+1) b1 j≠aH (X.length+1) b1 k:=λq e=>q ((NW l1 l1 e).2 rfl)
 have vK:∀j,M (aH X.length b0 j)=if aH X.length b0 j=aH X.length b0 0 then L (aF X u.2 u.1)else if aH X.length b0 j=aH X.length b0 1 then 4*X.length else if aH X.length b0 j=aH X.length b0 2 then L (aF X v.2 v.1)else L (aF X (!v.2) v.1):=λj=>by
  rw[hM,if_neg (show ¬(aH X.length b0 j).1<X.length from Nat.lt_irrefl _),if_pos (show (aH X.length b0 j).1=X.length from rfl)]
 have O8:∀j,M (aH (X.length+1) b1 j)=if aH (X.length+1) b1 j=aH (X.length+1) b1 0 then L (aF X (!u.2) u.1)else if aH (X.length+1) b1 j=aH (X.length+1) b1 1 then L (aF X v.2 v.1)else if aH (X.length+1) b1 j=aH (X.length+1) b1 2 then 4*X.length else L (aF X u.2 u.1):=λj=>by
  rw[hM,if_neg (show ¬(aH (X.length+1) b1 j).1<X.length from by unfold aH;simp only;omega),if_neg (show ¬(aH (X.length+1) b1 j).1=X.length from by unfold aH;simp only;omega)]
 have m00:M (aH X.length b0 0)=L (aF X u.2 u.1):=by rw[vK,if_pos rfl]
 have m01:M (aH X.length b0 1)=4*X.length:=by rw[vK,if_neg (d0 (by omega)),if_pos rfl]
 have m02:M (aH X.length b0 2)=L (aF X v.2 v.1):=by rw[vK,if_neg (d0 (by omega)),if_neg (d0 (by omega)),if_pos rfl]
 have m03:M (aH X.length b0 3)=L (aF X (!v.2) v.1):=by rw[vK,if_neg (d0 (by omega)),if_neg (d0 (by omega)),if_neg (d0 (by omega))]
 have m10:M (aH (X.length+1) b1 0)=L (aF X (!u.2) u.1):=by rw[O8,if_pos rfl]
 have m11:M (aH (X.length+1) b1 1)=L (aF X v.2 v.1):=by rw[O8,if_neg (d1 (by omega)),if_pos rfl]
 have m12:M (aH (X.length+1) b1 2)=4*X.length:=by rw[O8,if_neg (d1 (by omega)),if_neg (d1 (by omega)),if_pos rfl]
 have m13:M (aH (X.length+1) b1 3)=L (aF X u.2 u.1):=by rw[O8,if_neg (d1 (by omega)),if_neg (d1 (by omega)),if_neg (d1 (by omega))]
 have hF:=hS.x8 (L:=M) (λp hp=>?_) (vs:=vs++[4*X.length]) (by
  rw[jU]
  exact⟨hn,by simp,λx hx y hy=>by
   rw[jB]at hy;have:=(hv x hx).1
   omega⟩) λw hw=>?_
 · have aco:∀j k,Ln S (aH X.length b0 j) (aH X.length b0 k):=λj k=>Ln.round (h.Hk j) (h.Hk k).2 rfl
   have acn:∀j k,Ln S (aH (X.length+1) b1 j) (aH (X.length+1) b1 k):=λj k=>Ln.round (h.KT j) (h.KT k).2 rfl
   have DR:Ln S (aH X.length b0 1) (aH (X.length+1) b1 1):=by
    have:=hS.dZ (h.Hk 1);rwa [h.o01]at this
   have kTU:Ln S (aF X u.2 u.1) (aH X.length b0 1):=by
    have:=hS.dZ (h.oK pTU);rw[h.oTU]at this;exact this.trans (aco 3 1)
   have kHU:Ln S (aF X (!u.2) u.1) (aH X.length b0 1):=by
    have:=hS.dZ (h.oK pHU);rw[h.oHU]at this;exact this.trans ((acn 3 1).trans DR.symm)
   have kTV:Ln S (aF X v.2 v.1) (aH X.length b0 1):=by
    have:=hS.dZ (h.oK pTV);rw[h.oTV]at this;exact this.trans ((acn 0 1).trans DR.symm)
   have kHV:Ln S (aF X (!v.2) v.1) (aH X.length b0 1):=by
    have:=hS.dZ (h.oK pHV);rw[h.oHV]at this;exact this.trans (aco 2 1)
   refine h.fX.uH hS hp (k:=2) (f:=2) (c:=0) h.len ?_ (h.fX.uK hS (by rw[h.len];omega) (λp hp=>?_) (es:=[]) λp hp hge=>.inl ⟨aF X u.2 u.1,pTU,?_⟩) (by omega)
   · rw[ju,hlen]at hF
     exact hF
   · rcases h.parts hp with rfl|rfl|rfl|rfl|⟨hu,hv⟩
     · rw[h.fX.fW h.au];exact kTU.trans kHU.symm
     · rw[h.fX.fW h.au,not_not];exact kHU.trans kTU.symm
     · rw[h.fX.fW h.av];exact kTV.trans kHV.symm
     · rw[h.fX.fW h.av,not_not];exact kHV.trans kTV.symm
     have:=hS.dZ (h.oK hp)
     rwa [h.oX hp hu hv]at this
   rcases h.where hp with c|⟨j,_,rfl⟩|⟨j,_,rfl⟩
   · exact absurd c.1 (by omega)
   · exact kTU.trans (aco 1 j)
   exact kTU.trans (DR.trans (acn 1 j))
 · rcases h.where hp with c|⟨j,hj,rfl⟩|⟨j,hj,rfl⟩
   · rw[GH _ (xU c)]
     rcases h.parts c with rfl|rfl|rfl|rfl|⟨hu,hv⟩
     · rw[h.oTU,m03,lTU]
     · rw[h.oHU,m13,lHU]
     · rw[h.oTV,m10,lTV]
     · rw[h.oHV,m02,lHV]
     rw[h.oX c hu hv,GH _ (h.fX.aM c),lX p c hu hv]
   · rw[Tq l0]
     have:j=0\/j=1\/j=2\/j=3:=by omega
     rcases this with rfl|rfl|rfl|rfl
     · rw[h.o00,m12,m01]
     · rw[h.o01,m11,m02]
     · rw[h.o02,GH _ pHV,m03]
     rw[h.o03,GH _ pTU,I2 l0,m00]
   rw[Tq l1]
   have:j=0\/j=1\/j=2\/j=3:=by omega
   rcases this with rfl|rfl|rfl|rfl
   · rw[h.o10,GH _ pTV,m11]
   · rw[h.o11,m01,m12]
   · rw[h.o12,m00,m13]
   rw[h.o13,GH _ pHU,I2 l1,m10]
 rw[jx,jB]at hw
 rcases hw with hw|rfl
 · obtain⟨_,p,hp,e⟩:=hv w hw
   exact⟨p,h.oK hp,by rw[GH p hp,e]⟩
 exact⟨_,h.Hk 1,m01⟩
end
def AH(p:Pl):Pl:=(p.1,(p.2+2)%4)
def Ay(X:List Cr)(e:Nat)(p:Pl):Prop:=p=oM X e\/p=AH (oM X e)\/p=AH (fH X e)\/p=fH X e
instance (X:List Cr) (e:Nat) (p:Pl):Decidable (Ay X e p):=by unfold Ay;infer_instance
def vR(X:List Cr)(e:Nat)(p:Pl):Pl:=
 if p=oM X e then AH (fH X e)else if p=AH (oM X e)then fH X e else if p=AH (fH X e)then oM X e else AH (oM X e)
def gS(X:List Cr):List Nat->Pl->Pl
 |[],p=>p
 |e :: es,p=>if Ay X e p then vR X e p else gS X es p
def aN(X:List Cr)(es:List Nat):List Cr:=
 (range X.length).map λc=>⟨at_ X (gS X es (c,0)),at_ X (gS X es (c,1)),at_ X (gS X es (c,2)),at_ X (gS X es (c,3)),(cr X c).p⟩
def mj(X:List Cr)(a:Nat):Bool:=decide ((oM X a).2%2=1)&&decide ((fH X a).2%2=1)
def sH(X:List Cr)(a:Nat):Bool:=(!decide ((oM X a).2%2=1)) && !decide ((fH X a).2%2=1)
def dS(X:List Cr)(f:List Dt):Bool:=
 decide (f.length=3)&&decide ((f.map λd=>(head X (d.1,!d.2)).1).Nodup)&&decide (f.countP (λd=>mj X d.1)=1)&&decide (f.countP (λd=>sH X d.1)=1)
section
variable {X:List Cr}
theorem NB:∀{es:List Nat} {e:Nat} {p:Pl},e∈es->Ay X e p->(∀e'∈es,Ay X e' p->e'=e)->gS X es p=vR X e p
 |[],_,_,h,_,_=>by cases h
 |a :: es,e,p,h,k,u=>by
  unfold gS;by_cases c:Ay X a p
  · rw[if_pos c,u a (by simp) c]
  rw[if_neg c]
  refine NB ((jy.1 h).resolve_left λq=>c (q ▸ k)) k λe' Hn=>u e' (by simp[Hn])
theorem BI:∀{es:List Nat} {p:Pl},(∀e∈es,¬Ay X e p)->gS X es p=p
 |[],_,_=>rfl
 |a :: es,p,u=>by
  unfold gS;rw[if_neg (u a (by simp)),BI λe he=>u e (by simp[he])]
theorem bR(X:List Cr)(es:List Nat):(aN X es).length=X.length:=by simp[aN]
theorem nD{c:Nat}(hc:c<X.length):cr (aN X es) c=⟨at_ X (gS X es (c,0)),at_ X (gS X es (c,1)),at_ X (gS X es (c,2)),at_ X (gS X es (c,3)),(cr X c).p⟩:=by
 unfold cr aN
 rw[jc,List.getElem?_map,List.getElem?_range hc];rfl
theorem dc:aq (aN X es) p↔aq X p:=by unfold aq;rw[bR]
theorem gU(hp:aq X p):at_ (aN X es) p=at_ X (gS X es p):=by
 obtain⟨c,s⟩:=p;have hc:c<X.length:=hp.1;have hs:s<4:=hp.2
 show (cr (aN X es) c).ie s=_
 rw[nD hc]
 match s,hs with
 |0,_=>rfl
 |1,_=>rfl
 |2,_=>rfl
 |3,_=>rfl
theorem lh(hp:aq X p):cm (aN X es) p=cm X p:=by
 unfold cm comes;rw[nD hp.1]
end
structure di(X:List Cr)(D:Nat->Dt):Prop where
 ok:Ok X
 ie:∀i,ah X (D i).1
 nx:∀i,left X (D i)=D (i+1)
 per:∀i,D (i+3)=D i
 ne:∀i,(head X (D i)).1≠(head X (D (i+1))).1
def aK(X:List Cr)(D:Nat->Dt)(i k:Nat):Pl:=((head X (D i)).1,((head X (D i)).2+k)%4)
section
variable {X:List Cr} {D:Nat->Dt}
theorem di.pl(h:di X D)(i k:Nat):aq X (aK X D i k):=dt (h.ok.bg (h.ie i)) k
theorem di.mul(h:di X D)(i:Nat):∀m,D (i+3*m)=D i
 |0=>rfl
 |m+1=>by rw[show i+3*(m+1)=i+3*m+3 by omega,h.per,h.mul i m]
theorem di.mod(h:di X D)(e:i%3=j%3):D i=D j:=by
 have h1:=h.mul (i%3) (i / 3);have h2:=h.mul (j%3) (j / 3);rw[show i%3+3*(i / 3)=i by omega]at h1;rw[show j%3+3*(j / 3)=j by omega]at h2;rw[h1,h2,e]
theorem di.gW(h:di X D){l:Nat}(e:i%3=j%3)(e':k%4=l%4):aK X D i k=aK X D j l:=by
 unfold aK;rw[h.mod e]
 exact Prod.ext rfl (by simp only;omega)
theorem di.apart(h:di X D)(e:(head X (D i)).1=(head X (D j)).1):i%3=j%3:=by
 have key:∀i,(head X (D i)).1≠(head X (D (i+2))).1:=λi e=>by
  have:=h.ne (i+2);rw[show i+2+1=i+3 by omega,h.per]at this;exact this e.symm
 have c:i%3=j%3\/(i+1)%3=j%3\/(i+2)%3=j%3:=by omega
 rcases c with c|c|c
 · exact c
 · rw[<-h.mod c]at e;exact absurd e (h.ne i)
 rw[<-h.mod c]at e;exact absurd e (key i)
theorem di.I9(h:di X D){l:Nat}(e:aK X D i k=aK X D j l):i%3=j%3/\k%4=l%4:=by
 unfold aK at e
 injection e with e1 e2
 have:=h.apart e1;rw[h.mod this]at e2;exact⟨this,by omega⟩
theorem di.CY(h:di X D)(i:Nat):aK X D i 0=head X (D i):=Prod.ext rfl (Nat.mod_eq_of_lt (h.ok.bg (h.ie i)).2)
theorem di.Co(h:di X D)(i:Nat):other X (aK X D i 3)=aK X D (i+1) 0:=by
 rw[h.CY,<-h.nx];rfl
theorem di.pW(h:di X D)(i:Nat):other X (aK X D i 0)=aK X D (i+2) 3:=by
 have:=h.Co (i+2);rw[h.gW (i:=i+2+1) (j:=i) (k:=0) (l:=0) (by omega) rfl]at this;rw[<-this,h.ok.bU (h.pl _ _)]
theorem di.up(i k:Nat):Kn.up (aK X D i k)=aK X D i (k+1):=Prod.ext rfl (by unfold Kn.up aK;simp only;omega)
theorem di.Rq(i k:Nat):AH (aK X D i k)=aK X D i (k+2):=Prod.ext rfl (by unfold AH aK;simp only;omega)
theorem di.place(h:di X D)(hp:p.2<4)(e:p.1=(head X (D i)).1):∃k,k<4/\p=aK X D i k:=by
 have:=(h.ok.bg (h.ie i)).2;exact⟨(p.2+4-(head X (D i)).2)%4,jQ _ (by omega),Prod.ext e (by unfold aK;simp only;omega)⟩
theorem di.ends(h:di X D)(i:Nat):(oM X (D i).1=aK X D i 0/\fH X (D i).1=aK X D (i+2) 3)\/(oM X (D i).1=aK X D (i+2) 3/\fH X (D i).1=aK X D i 0):=by
 have h0:=h.CY i;have h1:=h.pW i;unfold other at h1;rw[h0]at h1;have ha:=h.ie i;have e1:head X (D i)=aF X (!(D i).2) (D i).1:=rfl;rw[e1,h.ok.bT ha,h.ok.bH ha,not_not]at h1;rw[e1]at h0;unfold oM fH;unfold aF at h0 h1
 cases hb:(D i).2 with
 |false=>rw[hb]at h0 h1;exact .inl ⟨h0.symm,h1⟩
 |true=>rw[hb]at h0 h1;exact .inr ⟨h1,h0.symm⟩
theorem di.on(h:di X D)(i:Nat):Ay X (D i).1 p↔p=aK X D i 0\/p=aK X D i 2\/p=aK X D (i+2) 1\/p=aK X D (i+2) 3:=by
 have e5:aK X D (i+2) (3+2)=aK X D (i+2) 1:=h.gW rfl (by omega);unfold Ay
 rcases h.ends i with⟨e1,e2⟩|⟨e1,e2⟩<;>rw[e1,e2,di.Rq,di.Rq,e5]
 constructor
 · rintro(a|a|a|a)
   · exact .inr (.inr (.inr a))
   · exact .inr (.inr (.inl a))
   · exact .inr (.inl a)
   exact .inl a
 rintro(a|a|a|a)
 · exact .inr (.inr (.inr a))
 · exact .inr (.inr (.inl a))
 · exact .inr (.inl a)
 exact .inl a
theorem di.tau(h:di X D)(i:Nat):vR X (D i).1 (aK X D i 0)=aK X D (i+2) 1/\vR X (D i).1 (aK X D i 2)=aK X D (i+2) 3/\vR X (D i).1 (aK X D (i+2) 1)=aK X D i 0/\vR X (D i).1 (aK X D (i+2) 3)=aK X D i 2:=by
 have e5:aK X D (i+2) (3+2)=aK X D (i+2) 1:=h.gW rfl (by omega)
 have n:∀{i j k l},(i%3≠j%3\/k%4≠l%4)->aK X D i k≠aK X D j l:=λc e=>by
  have:=h.I9 e;omega
 unfold vR
 rcases h.ends i with⟨e1,e2⟩|⟨e1,e2⟩<;>rw[e1,e2,di.Rq,di.Rq,e5]
 · refine⟨if_pos rfl,?_,?_,?_⟩
   · rw[if_neg (n (by omega)),if_pos rfl]
   · rw[if_neg (n (by omega)),if_neg (n (by omega)),if_pos rfl]
   rw[if_neg (n (by omega)),if_neg (n (by omega)),if_neg (n (by omega))]
 refine⟨?_,?_,?_,if_pos rfl⟩
 · rw[if_neg (n (by omega)),if_neg (n (by omega)),if_neg (n (by omega))]
 · rw[if_neg (n (by omega)),if_neg (n (by omega)),if_pos rfl]
 rw[if_neg (n (by omega)),if_pos rfl]
theorem di.uniq(h:di X D)(h1:Ay X (D i).1 p)(h2:Ay X (D j).1 p):i%3=j%3:=by
 rw[h.on]at h1 h2
 rcases h1 with e|e|e|e<;>rcases h2 with k|k|k|k<;>(have:=h.I9 (e.symm.trans k);omega)
end
def kO(D:Nat->Dt)(es:List Nat):Prop:=∀e,e∈es↔∃i,e=(D i).1
section
variable {X:List Cr} {D:Nat->Dt} {es:List Nat}
theorem di.Im(h:di X D)(he:kO D es)(i:Nat)(hp:Ay X (D i).1 p):gS X es p=vR X (D i).1 p:=
 NB ((he _).2 ⟨i,rfl⟩) hp λe' Hn k=>by
  obtain⟨j,rfl⟩:=(he e').1 Hn;rw[h.mod (h.uniq k hp)]
theorem di.t0(h:di X D)(he:kO D es)(i:Nat):gS X es (aK X D i 0)=aK X D (i+2) 1:=by
 rw[h.Im he i ((h.on i).2 (.inl rfl))];exact(h.tau i).1
theorem di.t2(h:di X D)(he:kO D es)(i:Nat):gS X es (aK X D i 2)=aK X D (i+2) 3:=by
 rw[h.Im he i ((h.on i).2 (.inr (.inl rfl)))];exact(h.tau i).2.1
theorem di.t1(h:di X D)(he:kO D es)(i:Nat):gS X es (aK X D i 1)=aK X D (i+1) 0:=by
 have e:aK X D i 1=aK X D (i+1+2) 1:=h.gW (by omega) rfl
 rw[e,h.Im he (i+1) ((h.on _).2 (.inr (.inr (.inl rfl))))];exact(h.tau (i+1)).2.2.1
theorem di.t3(h:di X D)(he:kO D es)(i:Nat):gS X es (aK X D i 3)=aK X D (i+1) 2:=by
 have e:aK X D i 3=aK X D (i+1+2) 3:=h.gW (by omega) rfl
 rw[e,h.Im he (i+1) ((h.on _).2 (.inr (.inr (.inr rfl))))];exact(h.tau (i+1)).2.2.2
theorem di.tx(h:di X D)(he:kO D es)(hp:∀i,p.1≠(head X (D i)).1):gS X es p=p:=
 BI λe k o=>by
  obtain⟨i,rfl⟩:=(he e).1 k;rw[h.on]at o
  rcases o with o|o|o|o
  · exact hp i (by rw[o];rfl)
  · exact hp i (by rw[o];rfl)
  · exact hp (i+2) (by rw[o];rfl)
  exact hp (i+2) (by rw[o];rfl)
theorem di.any(h:di X D)(hp:p.2<4):(∃i,p=aK X D i 0\/p=aK X D i 1\/p=aK X D i 2\/p=aK X D i 3)\/∀i,p.1≠(head X (D i)).1:=by
 by_cases c:∃i,p.1=(head X (D i)).1
 · obtain⟨i,e⟩:=c
   obtain⟨k,hk,e⟩:=h.place hp e;left;refine⟨i,?_⟩
   have:k=0\/k=1\/k=2\/k=3:=by omega
   rcases this with rfl|rfl|rfl|rfl
   · exact .inl e
   · exact .inr (.inl e)
   · exact .inr (.inr (.inl e))
   exact .inr (.inr (.inr e))
 exact .inr λi e=>c ⟨i,e⟩
theorem di.tu(h:di X D)(he:kO D es)(hp:aq X p):aq X (gS X es p):=by
 rcases h.any hp.2 with⟨i,rfl|rfl|rfl|rfl⟩|c
 · rw[h.t0 he];exact h.pl _ _
 · rw[h.t1 he];exact h.pl _ _
 · rw[h.t2 he];exact h.pl _ _
 · rw[h.t3 he];exact h.pl _ _
 rw[h.tx he c];exact hp
theorem di.wZ(h:di X D)(he:kO D es)(hp:aq X p):gS X es (gS X es p)=p:=by
 rcases h.any hp.2 with⟨i,rfl|rfl|rfl|rfl⟩|c
 · rw[h.t0 he,h.t1 he];exact h.gW (by omega) rfl
 · rw[h.t1 he,h.t0 he];exact h.gW (by omega) rfl
 · rw[h.t2 he,h.t3 he];exact h.gW (by omega) rfl
 · rw[h.t3 he,h.t2 he];exact h.gW (by omega) rfl
 rw[h.tx he c,h.tx he c]
theorem di.cmo(h:di X D)(i:Nat):cm X (aK X D (i+2) 3)=!cm X (aK X D i 0):=by
 rw[<-h.pW,h.ok.dA (h.pl _ _)]
theorem di.cmx(h:di X D)(i k:Nat):cm X (aK X D i (k+2))=!cm X (aK X D i k):=by
 have:=rZ (h.pl i k);rw[<-this]
 congr 1
 exact Prod.ext rfl (by unfold aK;simp only;omega)
theorem di.Lk(h:di X D)(he:kO D es)(hp:aq X p):cm X (gS X es p)=cm X p:=by
 rcases h.any hp.2 with⟨i,rfl|rfl|rfl|rfl⟩|c
 · rw[h.t0 he]
   have h1:=h.cmo i;have h2:=h.cmx (i+2) 1;rw[h1]at h2;simpa using h2.symm
 · rw[h.t1 he]
   have h1:=h.cmo (i+1);rw[h.gW (i:=i+1+2) (j:=i) (k:=3) (l:=3) (by omega) rfl]at h1;have h2:=h.cmx i 1;rw[h1]at h2;simpa using h2
 · rw[h.t2 he]
   have h1:=h.cmo i;have h2:=h.cmx i 0;rw[h1,h2]
 · rw[h.t3 he]
   have h1:=h.cmo (i+1);rw[h.gW (i:=i+1+2) (j:=i) (k:=3) (l:=3) (by omega) rfl]at h1;have h2:=h.cmx (i+1) 0;rw[h1,h2]
 rw[h.tx he c]
theorem di.Og(h:di X D)(he:kO D es):Ok (aN X es):=by
 have hN:ag (aN X es)=ag X:=by unfold ag;rw[bR]
 refine LM (λp hp=>?_) λio b hb=>?_
 · have hp:=dc.1 hp
   rw[gU hp,hN];exact h.ok.wN _ (h.tu he hp)
 have hb:ah X b:=⟨hb.1,hN ▸ hb.2⟩;have hq:=h.ok.aD (io:=io) hb;have ht:=h.tu he hq;refine⟨gS X es (aF X io b),dc.2 ht,?_,?_⟩
 · rw[lh ht,h.Lk he hq,h.ok.bT hb]
 rw[gU ht,h.wZ he hq,h.ok.at_end hb]
theorem di.F8(h:di X D)(he:kO D es)(hp:aq X p):other (aN X es) p=gS X es (other X (gS X es p)):=by
 have hY:=h.Og he;have ht:=h.tu he hp;have ho:=h.ok.aM ht;have hq:=h.tu he ho
 refine hY.dL (dc.2 hp) (dc.2 hq) ?_ ?_
 · rw[lh hq,lh hp,h.Lk he ho,h.ok.dA ht,h.Lk he hp]
 rw[gU hq,gU hp,h.wZ he ho,<-h.ok.cT ho,h.ok.cK ht,h.ok.cT ht]
def kt(D:Nat->Dt)(i:Nat):Dt:=((D i).1,!(D i).2)
theorem di.Fa(h:di X D)(he:kO D es)(i:Nat):head (aN X es) (kt D i)=aK X D i 2:=by
 have hY:=h.Og he;have hp:=h.pl i 2
 have e1:cm (aN X es) (aK X D i 2)=!(kt D i).2:=by
  rw[lh hp,h.cmx i 0,h.CY]
  show (!cm X (aF X (!(D i).2) (D i).1))=!!(D i).2
  rw[h.ok.bT (h.ie i)]
 have e2:aa (aN X es) (aK X D i 2)=(kt D i).1:=by
  unfold aa;rw[gU hp,h.t2 he,<-h.pW]
  show aa X (other X (aK X D i 0))=(D i).1
  rw[h.ok.cK (h.pl _ _),h.CY];exact h.ok.bH (h.ie i)
 have:=hY.mK (dc.2 hp);rw[e1,e2]at this;exact this
theorem di.ag1(h:di X D)(he:kO D es)(i:Nat):left (aN X es) (kt D i)=kt D (i+1):=by
 have hY:=h.Og he
 have MC:∀i,Kn.ah (aN X es) (kt D i).1:=λi=>by
  have:=h.ie i;unfold Kn.ah ag at this ⊢
  rw[bR];exact this
 refine hY.mF (hY.dD (MC i)) (MC _) ?_
 congr 1
 show other (aN X es) ((head (aN X es) (kt D i)).1,((head (aN X es) (kt D i)).2+3)%4)=_
 rw[h.Fa he,h.Fa he];have e:((aK X D i 2).1,((aK X D i 2).2+3)%4)=aK X D i 1:=Prod.ext rfl (by unfold aK;simp only;omega);rw[e,h.F8 he (h.pl _ _),h.t1 he,h.pW,h.t3 he];exact h.gW (by omega) rfl
theorem di.back(h:di X D)(he:kO D es):di (aN X es) (kt D):=by
 refine⟨h.Og he,λi=>?_,h.ag1 he,λi=>?_,λi=>?_⟩
 · have:=h.ie i
   unfold Kn.ah ag at this ⊢
   rw[bR];exact this
 · unfold kt;rw[h.per]
 rw[h.Fa he,h.Fa he];exact h.ne i
theorem di.abW(h:di X D)(he:kO D es)(i k:Nat):aK (aN X es) (kt D) i k=aK X D i (k+2):=by
 show ((head (aN X es) (kt D i)).1,((head (aN X es) (kt D i)).2+k)%4)=_
 rw[h.Fa he];exact Prod.ext rfl (by unfold aK;simp only;omega)
theorem di.again(h:di X D)(he:kO D es){es':List Nat}(Hn:kO D es'):aN (aN X es) es'=X:=by
 have hb:=h.back he;have hE:kO (kt D) es':=Hn
 refine Gn (by rw[bR,bR]) λc hc=>MR (λs hs=>?_) ?_
 · have hp:aq X (c,s):=⟨hc,hs⟩
   show at_ (aN (aN X es) es') (c,s)=at_ X (c,s)
   have hq:aq (aN X es) (c,s):=dc.2 hp;rw[gU hq]
   have key:gS (aN X es) es' (c,s)=gS X es (c,s):=by
    have m4:∀i k,aK X D i (k+4)=aK X D i k:=λi k=>h.gW rfl (by omega)
    have y:=λi k=>h.abW he i k
    generalize (c,s)=p at hp hq
    rcases h.any hp.2 with⟨i,rfl|rfl|rfl|rfl⟩|q
    · have:=hb.t2 hE i
      rw[y,y,m4]at this;rw[this,h.t0 he];exact h.gW rfl rfl
    · have:=hb.t3 hE i
      rw[y,y]at this;rw[h.gW (i:=i) (j:=i) (k:=1) (l:=3+2) rfl rfl,this,<-h.gW (i:=i) (j:=i) (k:=1) (l:=3+2) rfl rfl,h.t1 he];exact h.gW rfl rfl
    · have:=hb.t0 hE i
      rw[y,y]at this;rw[this,h.t2 he]
    · have:=hb.t1 hE i
      rw[y,y]at this;rw[this,h.t3 he]
    rw[h.tx he q]
    refine hb.tx hE λi=>?_
    rw[h.Fa he];exact q i
   rw[key,gU (h.tu he hp),h.wZ he hp]
 have e1:=lh (X:=aN X es) (es:=es') (p:=(c,1)) ⟨by rw[bR];exact hc,by show 1<4;omega⟩;rw[nD (by rw[bR];exact hc),nD hc]
end
section
variable {X:List Cr} {D:Nat->Dt} {es:List Nat}
theorem di.labels(h:di X D){L:Pl->Nat}(hL:∀p,aq X p->L (other X p)=L (Kn.up p)):
 (∀i j,L (aK X D i 0)=L (aK X D j 0))/\∀i,L (aK X D i 3)=L (aK X D (i+1) 1):=by
 have step:∀i,L (aK X D (i+1) 0)=L (aK X D i 0):=λi=>by
  have:=hL _ (h.pl i 3);rw[h.Co,di.up]at this;rw[this,h.gW (i:=i) (j:=i) (k:=3+1) (l:=0) rfl rfl]
 have zero:∀i,L (aK X D i 0)=L (aK X D 0 0):=λi=>by
  induction i with
  |zero=>rfl
  |succ i ih=>rw[step,ih]
 refine⟨λi j=>(zero i).trans (zero j).symm,λi=>?_⟩;have:=hL _ (h.pl (i+1) 0);rw[h.pW,di.up]at this;rw[<-this]
 congr 1
 exact h.gW (by omega) rfl
def slG(X:List Cr)(D:Nat->Dt)(L:Pl->Nat)(i k:Nat):Nat:=
 if k=0 then L (aK X D (i+2) 1)else if k=1 then L (aK X D (i+2) 2)else if k=2 then L (aK X D i 0)else L (aK X D (i+1) 2)
theorem di.relabel(h:di X D)(L:Pl->Nat):∃M:Pl->Nat,(∀i k,k<4->M (aK X D i k)=slG X D L i k)/\∀p:Pl,(∀i,p.1≠(head X (D i)).1)->M p=L p:=by
 refine⟨λp=>@dite _ (∃ik:Nat×Nat,ik.2<4/\p=aK X D ik.1 ik.2) (propDecidable _) (λe=>slG X D L e.choose.1 e.choose.2) (λ_=>L p),λi k hk=>?_,λp hp=>?_⟩
 · have e:∃ik:Nat×Nat,ik.2<4/\aK X D i k=aK X D ik.1 ik.2:=⟨(i,k),hk,rfl⟩
   show @dite _ _ (propDecidable _) _ _=_
   rw[dif_pos e];have h1:=e.choose_spec.1;obtain⟨h2,h3⟩:=h.I9 e.choose_spec.2;generalize e.choose=q at h1 h2 h3;obtain⟨j,l⟩:=q
   obtain rfl:l=k:=by simp only at h1 h3;omega
   simp only at h2 ⊢
   have m:∀a b,aK X D (j+a) b=aK X D (i+a) b:=λa b=>h.gW (by omega) rfl
   have m0:=m 0;unfold slG;rw[m,m,m];simp only[Nat.add_zero]at m0;rw[m0]
 show @dite _ _ (propDecidable _) _ _=_
 rw[dif_neg];rintro⟨⟨i,k⟩,_,rfl⟩;exact hp i rfl
theorem di.pS(h:di X D)(he:kO D es)(hp:aJ X=true):aJ (aN X es)=true:=by
 have hY:=h.Og he;obtain⟨L,vs,hL,hn,hlen,hv⟩:=h.ok.Db;obtain⟨M,hM,hMx⟩:=h.relabel L;obtain⟨hT,hE⟩:=h.labels hL
 have oc:∀{p:Pl},(∀i,p.1≠(head X (D i)).1)->∀i,(Kn.up p).1≠(head X (D i)).1:=λhp=>hp
 have key:∀w,aq X w->(∀i,w≠aK X D i 0)->(∀i,w≠aK X D i 3)->M (gS X es w)=L w/\M (Kn.up (gS X es w))=L (Kn.up w):=λw hw n0 n3=>by
  rcases h.any hw.2 with⟨i,e|e|e|e⟩|c
  · exact absurd e (n0 i)
  · subst e
    rw[h.t1 he,di.up,di.up,hM _ _ (by omega),hM _ _ (by omega)];unfold slG;simp only[if_true,if_neg (show ¬(0+1=0)by omega)];refine⟨congrArg L (h.gW (by omega) rfl),congrArg L (h.gW (by omega) rfl)⟩
  · subst e
    rw[h.t2 he,di.up,di.up,hM _ _ (by omega),h.gW (i:=i+2) (j:=i+2) (k:=3+1) (l:=0) rfl rfl,hM _ _ (by omega)];unfold slG;simp only[if_true,if_neg (show ¬(3=0)by omega),if_neg (show ¬(3=1)by omega),if_neg (show ¬(3=2)by omega)];refine⟨congrArg L (h.gW (by omega) rfl),?_⟩;rw[hE];exact congrArg L (h.gW (by omega) rfl)
  · exact absurd e (n3 i)
  rw[h.tx he c];exact⟨hMx w c,hMx _ (oc c)⟩
 have hF:=hY.x8 (L:=M) (λp hp=>?_) hn λv hv'=>?_
 · rw[hlen]at hF
   refine h.ok.uH hY hp (k:=0) (f:=0) (c:=0) (bR X es) hF (h.ok.uK hY (by rw[bR];exact jH _) (λp hp=>?_) (es:=[]) λp hp hge=>absurd hp.1 (by rw[bR];omega)) (by omega)
   have isY:∀i k,aq (aN X es) (aK X D i k):=λi k=>dc.2 (h.pl i k)
   have rnd:∀i k l,Ln (aN X es) (aK X D i k) (aK X D i l):=λi k l=>Ln.round (isY i k) (h.pl i l).2 rfl
   have nxt:∀i k l,Ln (aN X es) (aK X D i k) (aK X D (i+1) l):=λi k l=>by
    have h1:=hY.dZ (isY i 1);rw[h.F8 he (h.pl _ _),h.t1 he,h.pW,h.t3 he,h.gW (i:=i+1+2+1) (j:=i+1) (k:=2) (l:=2) (by omega) rfl]at h1;exact(rnd i k 1).trans (h1.trans (rnd (i+1) 2 l))
   have tau:∀w,aq X w->Ln (aN X es) w (gS X es w):=λw hw=>by
    rcases h.any hw.2 with⟨i,rfl|rfl|rfl|rfl⟩|c
    · rw[h.t0 he];exact(nxt i 0 1).trans (nxt (i+1) 1 1)
    · rw[h.t1 he];exact nxt i 1 0
    · rw[h.t2 he];exact(nxt i 2 1).trans (nxt (i+1) 1 3)
    · rw[h.t3 he];exact nxt i 3 2
    rw[h.tx he c];exact Ln.refl _
   have ht:=h.tu he hp;have ho:=hY.dZ (dc.2 ht);rw[h.F8 he ht,h.wZ he hp]at ho;exact(tau p hp).trans (ho.trans (tau _ (h.ok.aM hp)).symm)
 · have hp:=dc.1 hp
   have hw:=h.tu he hp;rw[h.F8 he hp];have e:=h.wZ he hp;generalize gS X es p=w at hw e ⊢;rw[<-e]
   by_cases c0:∃i,w=aK X D i 0
   · obtain⟨i,rfl⟩:=c0
     rw[h.pW,h.t3 he,h.t0 he,di.up,hM _ _ (by omega),hM _ _ (by omega)];unfold slG;simp only[if_neg (show ¬(2=0)by omega),if_neg (show ¬(2=1)by omega),if_true];exact hT _ _
   by_cases c3:∃i,w=aK X D i 3
   · obtain⟨i,rfl⟩:=c3
     rw[h.Co,h.t0 he,h.t3 he,di.up,hM _ _ (by omega),hM _ _ (by omega)];unfold slG;simp only[if_neg (show ¬(1=0)by omega),if_true,if_neg (show ¬(2+1=0)by omega),if_neg (show ¬(2+1=1)by omega),if_neg (show ¬(2+1=2)by omega)];exact congrArg L (h.gW (by omega) rfl)
   have n0:∀i,w≠aK X D i 0:=λi e=>c0 ⟨i,e⟩
   have n3:∀i,w≠aK X D i 3:=λi e=>c3 ⟨i,e⟩
   have ho:=h.ok.aM hw
   have o0:∀i,other X w≠aK X D i 0:=λi e=>n3 (i+2) (by
    rw[<-h.ok.bU hw,e,h.pW])
   have o3:∀i,other X w≠aK X D i 3:=λi e=>n0 (i+1) (by
    rw[<-h.ok.bU hw,e,h.Co])
   rw[(key _ ho o0 o3).1,(key w hw n0 n3).2,hL w hw]
 obtain⟨_,q,hq,e⟩:=hv v hv'
 rcases h.any hq.2 with⟨i,rfl|rfl|rfl|rfl⟩|c
 · refine⟨aK X D i 2,dc.2 (h.pl _ _),?_⟩
   rw[hM _ _ (by omega),<-e];rfl
 · refine⟨aK X D (i+1) 0,dc.2 (h.pl _ _),?_⟩
   rw[hM _ _ (by omega),<-e];exact congrArg L (h.gW (by omega) rfl)
 · refine⟨aK X D (i+1) 1,dc.2 (h.pl _ _),?_⟩
   rw[hM _ _ (by omega),<-e];exact congrArg L (h.gW (by omega) rfl)
 · refine⟨aK X D (i+2) 0,dc.2 (h.pl _ _),?_⟩
   rw[hM _ _ (by omega),<-e,hE];exact congrArg L (h.gW (by omega) rfl)
 exact⟨q,dc.2 hq,(hMx q c).trans e⟩
def Xa(d e g:Dt)(i:Nat):Dt:=if i%3=0 then d else if i%3=1 then e else g
theorem vT(hX:Ok X)(hf:f∈aA X)(hs:dS X f=true):∃D,di X D/\kO D (f.map (·.1))/\∀d,d∈f↔∃i,d=D i:=by
 unfold dS at hs;simp only[jp,jh]at hs;obtain⟨⟨⟨h1,h2⟩,_⟩,_⟩:=hs
 obtain⟨d,e,g,rfl⟩:∃d e g,f=[d,e,g]:=by
  match f,h1 with
  |[d,e,g],_=>exact⟨d,e,g,rfl⟩
 obtain⟨a1,a2,a3,l1,l2,l3⟩:=hX.MI hf
 have tl:∀{d:Dt},Kn.ah X d.1->head X ((left X d).1,!(left X d).2)=((head X d).1,((head X d).2+3)%4):=λ{d} hd=>by
  have hq:aq X ((head X d).1,((head X d).2+3)%4):=dt (hX.bg hd) 3;have:=hX.mK hq
  show aF X (!!(cm X ((head X d).1,((head X d).2+3)%4))) (aa X ((head X d).1,((head X d).2+3)%4))=_
  rw[not_not];exact this
 have t1:=tl a1;have t2:=tl a2;have t3:=tl a3;rw[l1]at t1;rw[l2]at t2;rw[l3]at t3;simp only[map_cons,map_nil,t1,t2,t3,nodup_cons,jy,jz,or_false,not_or,List.nodup_nil,and_true,not_false_eq_true]at h2
 have three:∀i:Nat,i%3=0\/i%3=1\/i%3=2:=λi=>by omega
 have c0:∀{i},i%3=0->Xa d e g i=d:=λh=>by unfold Xa;rw[if_pos h]
 have c1:∀{i},i%3=1->Xa d e g i=e:=λh=>by unfold Xa;rw[if_neg (by omega),if_pos h]
 have c2:∀{i},i%3=2->Xa d e g i=g:=λh=>by unfold Xa;rw[if_neg (by omega),if_neg (by omega)]
 have mem:∀x,x∈[d,e,g]↔∃i,x=Xa d e g i:=λx=>by
  simp only[jy,jz,or_false];constructor
  · rintro(rfl|rfl|rfl)
    · exact⟨0,rfl⟩
    · exact⟨1,rfl⟩
    exact⟨2,rfl⟩
  rintro⟨i,rfl⟩
  rcases three i with c|c|c
  · exact .inl (c0 c)
  · exact .inr (.inl (c1 c))
  exact .inr (.inr (c2 c))
 refine⟨Xa d e g,⟨hX,λi=>?_,λi=>?_,λi=>?_,λi=>?_⟩,λx=>?_,mem⟩
 · rcases three i with c|c|c
   · rw[c0 c];exact a1
   · rw[c1 c];exact a2
   rw[c2 c];exact a3
 · rcases three i with c|c|c
   · rw[c0 c,c1 (by omega),l1]
   · rw[c1 c,c2 (by omega),l2]
   rw[c2 c,c0 (by omega),l3]
 · unfold Xa;rw[show (i+3)%3=i%3 by omega]
 · rcases three i with c|c|c
   · rw[c0 c,c1 (by omega)];exact λk=>h2.2 k
   · rw[c1 c,c2 (by omega)];exact λk=>h2.1.2 k.symm
   rw[c2 c,c0 (by omega)];exact h2.1.1
 rw[jv];constructor
 · rintro⟨y,hy,rfl⟩
   obtain⟨i,rfl⟩:=(mem y).1 hy;exact⟨i,rfl⟩
 rintro⟨i,rfl⟩;exact⟨Xa d e g i,(mem _).2 ⟨i,rfl⟩,rfl⟩
end
section
variable {X:List Cr} {D:Nat->Dt} {es:List Nat}
theorem di.adV(h:di X D)(e:D i=D j):i%3=j%3:=h.apart (by rw[e])
theorem di.perm(h:di X D)(hn:f.Nodup)(hm:∀d,d∈f↔∃i,d=D i):f.Perm [D 0,D 1,D 2]:=by
 have DR:D 0≠D 1:=λe=>by have:=h.adV e;omega
 have R5:D 0≠D 2:=λe=>by have:=h.adV e;omega
 have n12:D 1≠D 2:=λe=>by have:=h.adV e;omega
 refine(jR hn (by simp[DR,R5,n12])).2 λd=>?_
 rw[hm];simp only[jy,jz,or_false];constructor
 · rintro⟨i,rfl⟩
   have c:i%3=0\/i%3=1\/i%3=2:=by omega
   rcases c with c|c|c
   · exact .inl (h.mod (by omega))
   · exact .inr (.inl (h.mod (by omega)))
   exact .inr (.inr (h.mod (by omega)))
 rintro(rfl|rfl|rfl)
 · exact⟨0,rfl⟩
 · exact⟨1,rfl⟩
 exact⟨2,rfl⟩
theorem di.tail(h:di X D)(i:Nat):head X ((D i).1,!(D i).2)=aK X D (i+2) 3:=by
 have h0:=h.pW i;rw[h.CY]at h0;rw[<-h0]
 show aF X (!(!(D i).2)) (D i).1=aF X (!cm X (aF X (!(D i).2) (D i).1)) (aa X (aF X (!(D i).2) (D i).1))
 rw[h.ok.bT (h.ie i),h.ok.bH (h.ie i)]
theorem di.aao(h:di X D)(he:kO D es)(i:Nat):mj (aN X es) (D i).1=mj X (D i).1/\sH (aN X es) (D i).1=sH X (D i).1:=by
 have hb:=h.back he
 have y:=λi k=>h.abW he i k
 have m:∀i k,(aK X D i (k+2)).2%2=(aK X D i k).2%2:=λi k=>by unfold aK;simp only;omega
 have e1:=h.ends i;have e2:=hb.ends i;rw[y,y]at e2;have d1:(kt D i).1=(D i).1:=rfl;rw[d1]at e2;have Be:=h.ie i;have c1:=h.ok.bT (io:=true) Be;have c2:=hb.ok.bT (io:=true) (hb.ie i);have i1:aF X true (D i).1=oM X (D i).1:=rfl;have i2:aF (aN X es) true (kt D i).1=oM (aN X es) (D i).1:=rfl;rw[i1]at c1;rw[i2]at c2;unfold mj sH
 rcases e1 with⟨a,b⟩|⟨a,b⟩<;>rcases e2 with⟨a',b'⟩|⟨a',b'⟩
 · rw[a]at c1
   rw[a',lh (h.pl _ _),h.cmx,c1]at c2;cases c2
 · rw[a,b,a',b',m i 0,m (i+2) 3]
   exact⟨Bool.and_comm _ _,Bool.and_comm _ _⟩
 · rw[a,b,a',b',m i 0,m (i+2) 3]
   exact⟨Bool.and_comm _ _,Bool.and_comm _ _⟩
 rw[a]at c1;rw[a',lh (h.pl _ _),h.cmx,c1]at c2;cases c2
theorem Lp(hX:Ok X)(hf:f∈aA X)(hs:dS X f=true):
 Ok (aN X (f.map (·.1)))/\(aJ X=true->aJ (aN X (f.map (·.1)))=true) /\
 ∃f'∈aA (aN X (f.map (·.1))),dS (aN X (f.map (·.1))) f'=true/\(∀d∈f',∃e∈f,e.1=d.1)/\aN (aN X (f.map (·.1))) (f'.map (·.1))=X:=by
 obtain⟨D,h,he,hm⟩:=vT hX hf hs;have hb:=h.back he;obtain⟨f',hf',Gz,W5⟩:=hb.ok.Fh hb.ie hb.nx;have P:=h.perm (hX.wE hf) hm;have P':=hb.perm Gz W5;refine⟨h.Og he,h.pS he,f',hf',?_,λd hd=>?_,?_⟩
 · unfold dS at hs ⊢
   simp only[jp,jh]at hs ⊢;obtain⟨⟨⟨_,_⟩,h3⟩,h4⟩:=hs;refine⟨⟨⟨P'.length_eq,?_⟩,?_⟩,?_⟩
   · rw[(P'.map _).nodup_iff]
     have t:=λi=>hb.tail i
     have c:∀i,(aK (aN X (f.map (·.1))) (kt D) i 3).1=(head X (D i)).1:=λi=>by rw[h.abW he];rfl
     simp only[map_cons,map_nil,t,c]
     have n:∀i j,i%3≠j%3->(head X (D i)).1≠(head X (D j)).1:=λi j k e=>k (h.apart e)
     simp only[nodup_cons,jy,jz,or_false,not_or,List.nodup_nil,and_true,not_false_eq_true];exact⟨⟨n _ _ (by omega),n _ _ (by omega)⟩,n _ _ (by omega)⟩
   · rw[P'.countP_eq]
     rw[P.countP_eq]at h3
     refine Eq.trans ?_ h3
     have:=λi=>(h.aao he i).1
     simp only[jG,countP_nil,kt,this]
   rw[P'.countP_eq];rw[P.countP_eq]at h4
   refine Eq.trans ?_ h4
   have:=λi=>(h.aao he i).2
   simp only[jG,countP_nil,kt,this]
 · obtain⟨i,rfl⟩:=(W5 d).1 hd
   exact⟨D i,(hm _).2 ⟨i,rfl⟩,rfl⟩
 refine h.again he λe=>?_
 rw[jv];constructor
 · rintro⟨d,hd,rfl⟩
   obtain⟨i,rfl⟩:=(W5 d).1 hd;exact⟨i,rfl⟩
 rintro⟨i,rfl⟩;exact⟨_,(W5 _).2 ⟨i,rfl⟩,rfl⟩
end
def gZ(n a b c:Nat):Nat:=if c=n+1\/c=n+2 then a else if c=n+3\/c=n+4 then b else c
section
variable {X S:List Cr} {u v:Dt} {b0 b1:Nat}
theorem iR{S:List Cr}{v:Nat}(e:at_ S p=((v:Nat):Int)):aa S p=v:=by unfold aa;rw[e];rfl
theorem lR{c b j:Nat}(hb:b<4):((aH c b j).1,((aH c b j).2+2)%4)=aH c b (j+2):=Prod.ext rfl (by unfold aH;simp only;omega)
theorem AZ{c b j:Nat}(hb:b<4):aH c b (j+4)=aH c b j:=Prod.ext rfl (by unfold aH;simp only;omega)
theorem bG.back(h:bG X S u v b0 b1):Back X S (both X.length (X.length+1)) (gZ (ag X) u.1 v.1):=by
 have hS:=h.ok;have hN:=h.lM;have hu2:=h.au.2;have hv2:=h.av.2;have l0:=h.lb0;have l1:=h.lb1
 obtain⟨N,hNd⟩:∃N,N=ag X:=⟨_,rfl⟩
 have ra:gZ N u.1 v.1 u.1=u.1:=by unfold gZ;rw[if_neg (by omega),if_neg (by omega)]
 have rb:gZ N u.1 v.1 v.1=v.1:=by unfold gZ;rw[if_neg (by omega),if_neg (by omega)]
 have r1:gZ N u.1 v.1 (N+1)=u.1:=by unfold gZ;rw[if_pos (by omega)]
 have r2:gZ N u.1 v.1 (N+2)=u.1:=by unfold gZ;rw[if_pos (by omega)]
 have r3:gZ N u.1 v.1 (N+3)=v.1:=by unfold gZ;rw[if_neg (by omega),if_pos (by omega)]
 have r4:gZ N u.1 v.1 (N+4)=v.1:=by unfold gZ;rw[if_neg (by omega),if_pos (by omega)]
 have n00:aa S (aH X.length b0 0)=N+3:=iR (by rw[h.a00];omega);have DR:aa S (aH X.length b0 1)=N+1:=iR (by rw[h.a01];omega)
 have R5:aa S (aH X.length b0 2)=if v.2 then v.1 else N+4:=iR (by rw[h.a02];split<;>omega)
 have n03:aa S (aH X.length b0 3)=if u.2 then N+2 else u.1:=iR (by rw[h.a03];split<;>omega)
 have n10:aa S (aH (X.length+1) b1 0)=if v.2 then N+4 else v.1:=iR (by rw[h.a10];split<;>omega)
 have n11:aa S (aH (X.length+1) b1 1)=N+1:=iR (by rw[h.a11];omega);have n12:aa S (aH (X.length+1) b1 2)=N+3:=iR (by rw[h.a12];omega)
 have n13:aa S (aH (X.length+1) b1 3)=if u.2 then u.1 else N+2:=iR (by rw[h.a13];split<;>omega)
 have e02:gZ N u.1 v.1 (if v.2 then v.1 else N+4)=v.1:=by split;exact rb;exact r4
 have e03:gZ N u.1 v.1 (if u.2 then N+2 else u.1)=u.1:=by split;exact r2;exact ra
 have e10:gZ N u.1 v.1 (if v.2 then N+4 else v.1)=v.1:=by split;exact r4;exact rb
 have e13:gZ N u.1 v.1 (if u.2 then u.1 else N+2)=u.1:=by split;exact ra;exact r2
 rw[<-hNd]
 have g0:both X.length (X.length+1) X.length=true:=by simp
 have g1:both X.length (X.length+1) (X.length+1)=true:=by simp
 have lt0:X.length<S.length:=by rw[h.len];omega
 have lt1:X.length+1<S.length:=by rw[h.len];omega
 refine⟨h.fX,hS,by rw[h.len];omega,λc hc=>?_,λp hp=>?_,λc hc=>?_,λb hb=>?_,λb=>?_,λc s h1 h2 h3=>?_,λb hb=>?_⟩
 · rw[h.len]at hc
   rw[jD]
   simp;omega
 · by_cases c:p=aF X true u.1
   · subst c
     rw[iR (v:=N+2) (by rw[h.pu];omega),r2,h.fX.bH h.au]
   by_cases c':p=aF X true v.1
   · subst c'
     rw[iR (v:=N+4) (by rw[h.pv];omega),r4,h.fX.bH h.av]
   have e:aa S p=aa X p:=by unfold aa;rw[h.ax p hp c c']
   have:=(h.fX.ah hp).2;rw[e]
   unfold gZ;rw[if_neg (by omega),if_neg (by omega)]
 · have:=h.cx (c,1) ⟨hc,by show 1<4;omega⟩
   unfold cm comes over at this
   revert this
   cases (cr S c).p<;>cases (cr X c).p<;>simp
 · unfold gZ;rw[if_neg (by omega),if_neg (by omega)]
 · unfold gZ;split
   · omega
   split<;>omega
 · rw[h.len]at h2
   have c:c=X.length\/c=X.length+1:=by omega
   rcases c with rfl|rfl
   · rcases uE (p:=(X.length,s)) l0 h3 rfl with e|e|e|e
     · have e':((X.length,(s+2)%4):Pl)=aH X.length b0 2:=by rw[<-lR l0,<-e]
       rw[e,e',n00,R5,e02,r3]
     · have e':((X.length,(s+2)%4):Pl)=aH X.length b0 3:=by rw[<-lR l0,<-e]
       rw[e,e',DR,n03,e03,r1]
     · have e':((X.length,(s+2)%4):Pl)=aH X.length b0 0:=by rw[<-AZ l0 (j:=0),<-lR l0 (j:=2),<-e]
       rw[e,e',n00,R5,e02,r3]
     have e':((X.length,(s+2)%4):Pl)=aH X.length b0 1:=by rw[<-AZ l0 (j:=1),<-lR l0 (j:=3),<-e]
     rw[e,e',DR,n03,e03,r1]
   rcases uE (p:=(X.length+1,s)) l1 h3 rfl with e|e|e|e
   · have e':((X.length+1,(s+2)%4):Pl)=aH (X.length+1) b1 2:=by rw[<-lR l1,<-e]
     rw[e,e',n10,n12,e10,r3]
   · have e':((X.length+1,(s+2)%4):Pl)=aH (X.length+1) b1 3:=by rw[<-lR l1,<-e]
     rw[e,e',n11,n13,e13,r1]
   · have e':((X.length+1,(s+2)%4):Pl)=aH (X.length+1) b1 0:=by rw[<-AZ l1 (j:=0),<-lR l1 (j:=2),<-e]
     rw[e,e',n10,n12,e10,r3]
   have e':((X.length+1,(s+2)%4):Pl)=aH (X.length+1) b1 1:=by rw[<-AZ l1 (j:=1),<-lR l1 (j:=3),<-e]
   rw[e,e',n11,n13,e13,r1]
 have hE:=aj (bL S (both X.length (X.length+1)) S.length)
 have t0:=λj=>by
  have:=dY (X:=S) lt0 g0 (s:=(j+4-b0)%4) (jQ _ (by omega));have e:((X.length,((j+4-b0)%4+2)%4):Pl)=aH X.length b0 (j+2):=lR l0;rw[e]at this;exact this
 have t1:=λj=>by
  have:=dY (X:=S) lt1 g1 (s:=(j+4-b1)%4) (jQ _ (by omega));have e:((X.length+1,((j+4-b1)%4+2)%4):Pl)=aH (X.length+1) b1 (j+2):=lR l1;rw[e]at this;exact this
 have t00:=t0 0;have t01:=t0 1;have t10:=t1 0;have t11:=t1 1;have s00:((X.length,(0+4-b0)%4):Pl)=aH X.length b0 0:=rfl;have s01:((X.length,(1+4-b0)%4):Pl)=aH X.length b0 1:=rfl;have s10:((X.length+1,(0+4-b1)%4):Pl)=aH (X.length+1) b1 0:=rfl;have s11:((X.length+1,(1+4-b1)%4):Pl)=aH (X.length+1) b1 1:=rfl;rw[s00,n00,show 0+2=2 from rfl,R5]at t00;rw[s01,DR,show 1+2=3 from rfl,n03]at t01;rw[s10,n10,show 0+2=2 from rfl,n12]at t10
 rw[s11,n11,show 1+2=3 from rfl,n13]at t11
 have k:bh (λx=>x) (bL S (both X.length (X.length+1)) S.length) (N+1) u.1/\bh (λx=>x) (bL S (both X.length (X.length+1)) S.length) (N+2) u.1:=by
  cases hu:u.2
  · rw[hu]at t01 t11
    exact⟨t01,hE.trans (hE.symm t11) t01⟩
  rw[hu]at t01 t11;exact⟨t11,hE.trans (hE.symm t01) t11⟩
 have k':bh (λx=>x) (bL S (both X.length (X.length+1)) S.length) (N+3) v.1/\bh (λx=>x) (bL S (both X.length (X.length+1)) S.length) (N+4) v.1:=by
  cases hv:v.2
  · rw[hv]at t00 t10
    exact⟨hE.symm t10,hE.trans (hE.symm t00) (hE.symm t10)⟩
  rw[hv]at t00 t10;exact⟨t00,hE.trans t10 t00⟩
 unfold gZ;split
 · rename_i c
   rcases c with rfl|rfl
   · exact k.1
   exact k.2
 split
 · rename_i c
   rcases c with rfl|rfl
   · exact k'.1
   exact k'.2
 exact hE.refl b
theorem bG.take(h:bG X S u v b0 b1):bF S (both X.length (X.length+1))=X/\takeN S (both X.length (X.length+1))=0:=by
 have hb:=h.back;refine⟨hb.take,hb.none λb hb=>?_⟩;have hN:=h.lM;have:=hb.2;have:=h.au.2;have:=h.av.2
 unfold gZ;split
 · omega
 split<;>omega
theorem bG.VW(h:bG X S u v b0 b1)(hb:b0%2=b1%2):∃f∈aA S,∃d e,f=[d,e] /\
 (((head S (d.1,!d.2)).1=X.length/\(head S (e.1,!e.2)).1=X.length+1)\/((head S (d.1,!d.2)).1=X.length+1/\(head S (e.1,!e.2)).1=X.length)) /\
 ((mj S d.1&&sH S e.1)||(sH S d.1&&mj S e.1))=true:=by
 have hS:=h.ok;have l0:=h.lb0;have l1:=h.lb1;have hN:=h.lM
 obtain⟨d,hd⟩:∃d:Dt,d=(ag X+1,!u.2):=⟨_,rfl⟩
 obtain⟨e,he⟩:∃e:Dt,e=(ag X+3,!v.2):=⟨_,rfl⟩
 have ad:Kn.ah S d.1:=by rw[hd];exact⟨by simp only;omega,by simp only;omega⟩
 have ae:Kn.ah S e.1:=by rw[he];exact⟨by simp only;omega,by simp only;omega⟩
 have DR:aa S (aH X.length b0 1)=ag X+1:=iR (by rw[h.a01];omega);have n12:aa S (aH (X.length+1) b1 2)=ag X+3:=iR (by rw[h.a12];omega)
 have K0:head S d=aH X.length b0 1:=by
  have:=hS.mK (h.Hk 1);rw[h.c01,DR]at this;rw[hd]
  show aF S (!!u.2) (ag X+1)=_
  rw[not_not];exact this
 have he1:head S e=aH (X.length+1) b1 2:=by
  have:=hS.mK (h.KT 2);rw[h.c12,n12]at this;rw[he]
  show aF S (!!v.2) (ag X+3)=_
  rw[not_not];exact this
 have td:head S (d.1,!d.2)=aH (X.length+1) b1 1:=by
  rw[<-h.o01,<-K0]
  show aF S (!!d.2) d.1=aF S (!cm S (aF S (!d.2) d.1)) (aa S (aF S (!d.2) d.1))
  rw[hS.bT ad,hS.bH ad]
 have te:head S (e.1,!e.2)=aH X.length b0 0:=by
  rw[<-h.o12,<-he1]
  show aF S (!!e.2) e.1=aF S (!cm S (aF S (!e.2) e.1)) (aa S (aF S (!e.2) e.1))
  rw[hS.bT ae,hS.bH ae]
 have down:∀{c b j},b<4->((aH c b (j+1)).1,((aH c b (j+1)).2+3)%4)=aH c b j:=λ{c b j} hb=>Prod.ext rfl (by unfold aH;simp only;omega)
 have ld:left S d=e:=by
  refine hS.mF (hS.dD ad) ae ?_
  rw[<-hS.gL ad,K0,hS.zx (h.Hk 1),down l0,h.o00,he1]
 have le:left S e=d:=by
  refine hS.mF (hS.dD ae) ad ?_
  rw[<-hS.gL ae,he1,hS.zx (h.KT 2),down l1,h.o11,K0]
 obtain⟨D,hD⟩:∃D:Nat->Dt,∀i,D i=if i%2=0 then d else e:=⟨_,λ_=>rfl⟩
 have c0:∀{i},i%2=0->D i=d:=λk=>by rw[hD,if_pos k]
 have c1:∀{i},i%2=1->D i=e:=λk=>by rw[hD,if_neg (by omega)]
 obtain⟨f,hf,hn,hm⟩:=hS.Fh (D:=D) (λi=>by
  rcases Nat.mod_two_eq_zero_or_one i with c|c
  · rw[c0 c];exact ad
  · rw[c1 c];exact ae) (λi=>by
  rcases Nat.mod_two_eq_zero_or_one i with c|c
  · rw[c0 c,c1 (by omega)];exact ld
  rw[c1 c,c0 (by omega)];exact le)
 have nde:d≠e:=λk=>by
  have:d.1=e.1:=by rw[k]
  rw[hd,he]at this
  simp only at this;omega
 have P:f.Perm [d,e]:=(jR hn (by simp[nde])).2 λx=>by
  rw[hm];simp only[jy,jz,or_false];constructor
  · rintro⟨i,rfl⟩
    rcases Nat.mod_two_eq_zero_or_one i with c|c
    · exact .inl (c0 c)
    exact .inr (c1 c)
  rintro(rfl|rfl)
  · exact⟨0,(c0 rfl).symm⟩
  exact⟨1,(c1 rfl).symm⟩
 have ends:∀{p q:Pl} {a:Nat},aq S p->aa S p=a->other S p=q->(oM S a=p/\fH S a=q)\/(oM S a=q/\fH S a=p):=λ{p q a} hp ha ho=>by
  have e1:=hS.mK hp;have e2:=hS.mK (hS.aM hp);rw[hS.dA hp,hS.cK hp,ha,ho]at e2;rw[ha]at e1
  cases hc:cm S p with
  |true=>rw[hc]at e1 e2;exact .inl ⟨e1,e2⟩
  |false=>rw[hc]at e1 e2;exact .inr ⟨e2,e1⟩
 have ed:=ends (h.Hk 1) DR h.o01;have ee:=ends (h.KT 2) n12 h.o12
 have pd:(aH X.length b0 1).2%2=(aH (X.length+1) b1 1).2%2:=by unfold aH;simp only;omega
 have pe:(aH (X.length+1) b1 2).2%2=(aH X.length b0 0).2%2:=by unfold aH;simp only;omega
 have px:((aH X.length b0 1).2%2=1/\(aH X.length b0 0).2%2=0)\/((aH X.length b0 1).2%2=0/\(aH X.length b0 0).2%2=1):=by unfold aH;simp only;omega
 have hde:d.1=ag X+1:=by rw[hd]
 have hee:e.1=ag X+3:=by rw[he]
 have ov:((mj S d.1&&sH S e.1)||(sH S d.1&&mj S e.1))=true:=by
  rw[hde,hee];unfold mj sH
  rcases ed with⟨a,b⟩|⟨a,b⟩<;>rcases ee with⟨a',b'⟩|⟨a',b'⟩<;>rw[a,b,a',b',<-pd,pe]<;>rcases px with⟨x,y⟩|⟨x,y⟩<;>rw[x,y]<;>rfl
 have ov':((mj S e.1&&sH S d.1)||(sH S e.1&&mj S d.1))=true:=by
  rw[<-ov,Bool.and_comm (mj S e.1),Bool.and_comm (sH S e.1),Bool.or_comm]
 have c1d:(head S (d.1,!d.2)).1=X.length+1:=by rw[td];rfl
 have c1e:(head S (e.1,!e.2)).1=X.length:=by rw[te];rfl
 have hl:=P.length_eq
 match f,hl,hf,P with
 |[x,y],_,hf,P=>
  have hx:x=d\/x=e:=by simpa using P.mem_iff.1 (show x∈[x,y]by simp)
  have hy:y=d\/y=e:=by simpa using P.mem_iff.1 (show y∈[x,y]by simp)
  have zm:x≠y:=by
   have:=P.nodup_iff.2 (by simp[nde]);simpa using this
  rcases hx with rfl|rfl
  · rcases hy with rfl|rfl
    · exact absurd rfl zm
    exact⟨_,hf,_,_,rfl,.inr ⟨c1d,c1e⟩,ov⟩
  rcases hy with rfl|rfl
  · exact⟨_,hf,_,_,rfl,.inl ⟨c1e,c1d⟩,ov'⟩
  exact absurd rfl zm
end
def BX(x:Cr)(s:Nat)(a:Int):Cr:=if s=0 then { x with a:=a }else if s=1 then { x with b:=a }else if s=2 then { x with c:=a }else { x with d:=a }
def oQ(Y:List Cr)(p:Pl)(a:Int):List Cr:=Y.set p.1 (BX (cr Y p.1) p.2 a)
theorem Tc(x:Cr)(s:Nat)(a:Int):(BX x s a).p=x.p:=by unfold BX;(repeat' split)<;>rfl
theorem Td(x:Cr){t:Nat}(hs:s<4)(ht:t<4)(a:Int):(BX x s a).ie t=if t=s then a else x.ie t:=by
 match s,hs,t,ht with
 |0,_,0,_|0,_,1,_|0,_,2,_|0,_,3,_=>rfl
 |1,_,0,_|1,_,1,_|1,_,2,_|1,_,3,_=>rfl
 |2,_,0,_|2,_,1,_|2,_,2,_|2,_,3,_=>rfl
 |3,_,0,_|3,_,1,_|3,_,2,_|3,_,3,_=>rfl
theorem iH(Y:List Cr)(p:Pl)(a:Int):(oQ Y p a).length=Y.length:=by unfold oQ;rw[List.length_set]
theorem GR(hp:aq Y p)(a:Int)(c:Nat):cr (oQ Y p a) c=if c=p.1 then BX (cr Y p.1) p.2 a else cr Y c:=by
 have h0:=hp.1;unfold oQ;unfold cr;rw[jc,jc,List.getElem?_set];by_cases e:p.1=c
 · subst e;simp[h0]
 rw[if_neg e,if_neg (λh=>e h.symm),jc]
theorem GZ(hp:aq Y p)(a:Int)(q:Pl):cm (oQ Y p a) q=cm Y q:=by
 unfold cm;rw[GR hp];by_cases e:q.1=p.1
 · rw[if_pos e,e];unfold comes;rw[Tc]
 rw[if_neg e]
theorem yy{q:Pl}(hp:aq Y p)(hq:q.2<4)(a:Int):at_ (oQ Y p a) q=if q=p then a else at_ Y q:=by
 unfold at_;rw[GR hp];by_cases e:q.1=p.1
 · rw[if_pos e,Td _ hp.2 hq]
   by_cases f:q.2=p.2
   · rw[if_pos f,if_pos (Prod.ext e f)]
   rw[if_neg f,if_neg (λh=>f (by rw[h])),e]
 rw[if_neg e,if_neg (λh=>e (by rw[h]))]
theorem zM{x:Cr}(h:p.1<Z.length):at_ (Z++[x]) p=at_ Z p:=by unfold at_;rw[V5 h]
theorem Dn{x:Cr}(h:p.1<Z.length):cm (Z++[x]) p=cm Z p:=by unfold cm;rw[V5 h]
theorem lZ{x:Cr}(h:Z.length=n):at_ (Z++[x]) (n,s)=x.ie s:=by unfold at_;subst h;rw[Kr]
theorem lY{x:Cr}(h:Z.length=n):cm (Z++[x]) (n,s)=x.comes s:=by unfold cm;subst h;rw[Kr]
def mkC(b0 b1 a0 a1:Int)(p:Bool):Cr:=if p then⟨b0,a1,b1,a0,p⟩else⟨b0,a0,b1,a1,p⟩
def LW(f0 f1 s0 s1:Int)(sw p:Bool):Cr:=if sw then mkC s0 s1 f0 f1 p else mkC f0 f1 s0 s1 p
def J9(X:List Cr)(a:Nat)(sw p:Bool):List Cr:=oQ X (aF X true a) ((ag X:Int)+2)++[LW (a:Int) ((ag X:Int)+1) ((ag X:Int)+1) ((ag X:Int)+2) sw p]
def O0(X:List Cr)(sw p:Bool):List Cr:=X++[LW ((ag X:Int)+1) ((ag X:Int)+2) ((ag X:Int)+2) ((ag X:Int)+1) sw p]
def Zl(sw p:Bool):Nat:=if sw then over p else 0
def Zk(sw p:Bool):Nat:=if sw then 0 else over p
theorem Ue(f0 f1 s0 s1:Int)(sw p:Bool):Zl sw p<4/\Zk sw p<4/\(Zl sw p+Zk sw p)%2=1 /\
 (LW f0 f1 s0 s1 sw p).comes (Zl sw p)=true/\(LW f0 f1 s0 s1 sw p).comes ((Zl sw p+2)%4)=false/\(LW f0 f1 s0 s1 sw p).comes (Zk sw p)=true/\(LW f0 f1 s0 s1 sw p).comes ((Zk sw p+2)%4)=false /\
 (LW f0 f1 s0 s1 sw p).ie (Zl sw p)=f0/\(LW f0 f1 s0 s1 sw p).ie ((Zl sw p+2)%4)=f1/\(LW f0 f1 s0 s1 sw p).ie (Zk sw p)=s0/\(LW f0 f1 s0 s1 sw p).ie ((Zk sw p+2)%4)=s1:=by
 cases sw<;>cases p<;>simp[LW,mkC,Zl,Zk,over,comes,Cr.ie]
theorem VF(hX:Ok X)(ha:ah X a)(sw p:Bool):eh X (J9 X a sw p) a (Zl sw p) (Zk sw p):=by
 have pP:=hX.aD (io:=true) ha;have hl:(oQ X (aF X true a) ((ag X:Int)+2)).length=X.length:=iH _ _ _;obtain⟨i1,i2,i3,i4,i5,i6,i7,i8,i9,i10,i11⟩:=Ue (a:Int) ((ag X:Int)+1) ((ag X:Int)+1) ((ag X:Int)+2) sw p;unfold J9;refine⟨by rw[ju,hl];rfl,λq hq=>?_,λq hq hne=>?_,?_,i1,i2,i3,?_,?_,?_,?_,?_,?_,?_,?_⟩
 · rw[Dn (by rw[hl];exact hq.1),GZ pP]
 · rw[zM (by rw[hl];exact hq.1),yy pP hq.2,if_neg hne]
 · rw[zM (by rw[hl];exact pP.1),yy pP pP.2,if_pos rfl]
 · rw[lY hl,i4]
 · rw[lY hl,i5]
 · rw[lY hl,i6]
 · rw[lY hl,i7]
 · rw[lZ hl,i8]
 · rw[lZ hl,i9]
 · rw[lZ hl,i10]
 rw[lZ hl,i11]
theorem VE(sw p:Bool):fN X (O0 X sw p) (Zl sw p) (Zk sw p):=by
 obtain⟨i1,i2,i3,i4,i5,i6,i7,i8,i9,i10,i11⟩:=Ue ((ag X:Int)+1) ((ag X:Int)+2) ((ag X:Int)+2) ((ag X:Int)+1) sw p;unfold O0;refine⟨by rw[ju];rfl,λq hq=>Dn hq.1,λq hq=>zM hq.1,i1,i2,i3,?_,?_,?_,?_,?_,?_,?_,?_⟩
 · rw[lY rfl,i4]
 · rw[lY rfl,i5]
 · rw[lY rfl,i6]
 · rw[lY rfl,i7]
 · rw[lZ rfl,i8]
 · rw[lZ rfl,i9]
 · rw[lZ rfl,i10]
 rw[lZ rfl,i11]
def four(e n w s:Int)(j:Nat):Int:=if j=0 then e else if j=1 then n else if j=2 then w else s
def D6(r:Nat->Int)(b t:Nat):Cr:=⟨r b,r ((b+1)%4),r ((b+2)%4),r ((b+3)%4),decide (t=(b+3)%4)⟩
theorem I3(r:Nat->Int){b t j:Nat}(hb:b<4)(hj:j<4):(D6 r b t).ie ((j+4-b)%4)=r j:=by
 match b,hb,j,hj with
 |0,_,0,_|0,_,1,_|0,_,2,_|0,_,3,_=>rfl
 |1,_,0,_|1,_,1,_|1,_,2,_|1,_,3,_=>rfl
 |2,_,0,_|2,_,1,_|2,_,2,_|2,_,3,_=>rfl
 |3,_,0,_|3,_,1,_|3,_,2,_|3,_,3,_=>rfl
theorem Ch(r:Nat->Int){b t j:Nat}(hb:b<4)(ht:t<4)(hj:j<4)(hbt:(b+t)%2=1):(D6 r b t).comes ((j+4-b)%4)=(decide (j=b)||decide (j=t)):=by
 unfold comes
 show (decide _||decide (_=over (decide (t=(b+3)%4))))=_
 have:over (decide (t=(b+3)%4))=if t=(b+3)%4 then 3 else 1:=by
  unfold over
  by_cases c:t=(b+3)%4<;>simp[c]
 rw[this]
 congr 1
 · rw[jL];omega
 rw[jL];split<;>omega
def pU0(N:Nat)(u:Dt):Int:=if u.2 then(N:Int)+2 else(u.1:Int)
def pU2(N:Nat)(u:Dt):Int:=if u.2 then(u.1:Int)else(N:Int)+2
def pV0(N:Nat)(v:Dt):Int:=if v.2 then(N:Int)+4 else(v.1:Int)
def pV2(N:Nat)(v:Dt):Int:=if v.2 then(v.1:Int)else(N:Int)+4
def Ax(v:Dt):Nat:=if v.2 then 2 else 0
def LF(u:Dt):Nat:=if u.2 then 1 else 3
def LD(u:Dt):Nat:=if u.2 then 3 else 1
def pn(r:Nat->Int)(vi ui:Nat)(ov:Bool):Cr:=if ov then D6 r vi ui else D6 r ui vi
def xv(X:List Cr)(u v:Dt):List Cr:=oQ (oQ X (aF X true u.1) ((ag X:Int)+2)) (aF X true v.1) ((ag X:Int)+4)
def iZ(X:List Cr)(u v:Dt)(ov:Bool):List Cr:=
 (xv X u v++[pn (four ((ag X:Int)+3) ((ag X:Int)+1) (pV2 (ag X) v) (pU0 (ag X) u)) (Ax v) (LF u) ov]) ++
  [pn (four (pV0 (ag X) v) ((ag X:Int)+1) ((ag X:Int)+3) (pU2 (ag X) u)) (Ax v) (LD u) ov]
theorem jV(r:Nat->Int){vi ui:Nat}(hv:vi<4)(hu:ui<4)(hj:j<4)(ov:Bool):(pn r vi ui ov).ie ((j+4-if ov then vi else ui)%4)=r j:=by
 cases ov
 · exact I3 r hu hj
 exact I3 r hv hj
theorem fE(r:Nat->Int){vi ui:Nat}(hv:vi<4)(hu:ui<4)(hj:j<4)(hd:(vi+ui)%2=1)(ov:Bool):(pn r vi ui ov).comes ((j+4-if ov then vi else ui)%4)=(decide (j=vi)||decide (j=ui)):=by
 cases ov
 · have:=Ch r hu hv hj (by omega)
   rw[Bool.or_comm]at this;exact this
 exact Ch r hv hu hj hd
theorem Tw{u v:Dt}(hX:Ok X)(hu:ah X u.1)(hv:ah X v.1)(hne:u.1≠v.1)(ov:Bool):bG X (iZ X u v ov) u v (if ov then Ax v else LF u) (if ov then Ax v else LD u):=by
 have pU:=hX.aD (io:=true) hu;have pV:=hX.aD (io:=true) hv;have pV':aq (oQ X (aF X true u.1) ((ag X:Int)+2)) (aF X true v.1):=⟨by rw[iH];exact pV.1,pV.2⟩
 have hZ:(xv X u v).length=X.length:=by unfold xv;rw[iH,iH]
 have lv:Ax v<4:=by unfold Ax;split<;>omega
 have lp:LF u<4:=by unfold LF;split<;>omega
 have lq:LD u<4:=by unfold LD;split<;>omega
 have d1:(Ax v+LF u)%2=1:=by unfold Ax LF;split<;>split<;>rfl
 have d2:(Ax v+LD u)%2=1:=by unfold Ax LD;split<;>split<;>rfl
 have nPQ:aF X true u.1≠aF X true v.1:=λe=>hne (by rw[<-hX.bH (io:=true) hu,e,hX.bH hv])
 have cZ:∀q,cm (xv X u v) q=cm X q:=λq=>by unfold xv;rw[GZ pV',GZ pU]
 have aZ:∀q:Pl,q.2<4->at_ (xv X u v) q=if q=aF X true v.1 then(ag X:Int)+4 else if q=aF X true u.1 then(ag X:Int)+2 else at_ X q:=λq hq=>by
  unfold xv;rw[yy pV' hq,yy pU hq]
 have cL:∀q,aq X q->cm (iZ X u v ov) q=cm X q:=λq hq=>by
  unfold iZ;rw[Dn (by rw[ju,hZ];exact Nat.lt_succ_of_lt hq.1),Dn (by rw[hZ];exact hq.1),cZ]
 have aL:∀q,aq X q->at_ (iZ X u v ov) q=at_ (xv X u v) q:=λq hq=>by
  unfold iZ;rw[zM (by rw[ju,hZ];exact Nat.lt_succ_of_lt hq.1),zM (by rw[hZ];exact hq.1)]
 have a0:∀s,at_ (iZ X u v ov) (X.length,s)=(pn (four ((ag X:Int)+3) ((ag X:Int)+1) (pV2 (ag X) v) (pU0 (ag X) u)) (Ax v) (LF u) ov).ie s:=λs=>by
  unfold iZ;rw[zM (by rw[ju,hZ];exact Nat.lt_succ_self _),lZ hZ]
 have c0:∀s,cm (iZ X u v ov) (X.length,s)=(pn (four ((ag X:Int)+3) ((ag X:Int)+1) (pV2 (ag X) v) (pU0 (ag X) u)) (Ax v) (LF u) ov).comes s:=λs=>by
  unfold iZ;rw[Dn (by rw[ju,hZ];exact Nat.lt_succ_self _),lY hZ]
 have a1:∀s,at_ (iZ X u v ov) (X.length+1,s)=(pn (four (pV0 (ag X) v) ((ag X:Int)+1) ((ag X:Int)+3) (pU2 (ag X) u)) (Ax v) (LD u) ov).ie s:=λs=>by
  unfold iZ;rw[lZ (by rw[ju,hZ];rfl)]
 have c1:∀s,cm (iZ X u v ov) (X.length+1,s)=(pn (four (pV0 (ag X) v) ((ag X:Int)+1) ((ag X:Int)+3) (pU2 (ag X) u)) (Ax v) (LD u) ov).comes s:=λs=>by
  unfold iZ;rw[lY (by rw[ju,hZ];rfl)]
 refine⟨hX,hu,hv,hne,by unfold iZ;rw[ju,ju,hZ];rfl,cL,λq hq n1 n2=>?_,?_,?_,by split<;>assumption,by split<;>assumption,?_,?_,?_,?_,?_,?_,?_,?_,?_,?_,?_,?_,?_,?_,?_,?_⟩
 · rw[aL q hq,aZ q hq.2,if_neg n2,if_neg n1]
 · rw[aL _ pU,aZ _ pU.2,if_neg nPQ,if_pos rfl]
 · rw[aL _ pV,aZ _ pV.2,if_pos rfl]
 · rw[aH,a0,jV _ lv lp (by omega)];rfl
 · rw[aH,a0,jV _ lv lp (by omega)];rfl
 · rw[aH,a0,jV _ lv lp (by omega)];rfl
 · rw[aH,a0,jV _ lv lp (by omega)];rfl
 · rw[aH,a1,jV _ lv lq (by omega)];rfl
 · rw[aH,a1,jV _ lv lq (by omega)];rfl
 · rw[aH,a1,jV _ lv lq (by omega)];rfl
 · rw[aH,a1,jV _ lv lq (by omega)];rfl
 · rw[aH,c0,fE _ lv lp (by omega) d1];unfold Ax LF;cases u.2<;>cases v.2<;>rfl
 · rw[aH,c0,fE _ lv lp (by omega) d1];unfold Ax LF;cases u.2<;>cases v.2<;>rfl
 · rw[aH,c0,fE _ lv lp (by omega) d1];unfold Ax LF;cases u.2<;>cases v.2<;>rfl
 · rw[aH,c0,fE _ lv lp (by omega) d1];unfold Ax LF;cases u.2<;>cases v.2<;>rfl
 · rw[aH,c1,fE _ lv lq (by omega) d2];unfold Ax LD;cases u.2<;>cases v.2<;>rfl
 · rw[aH,c1,fE _ lv lq (by omega) d2];unfold Ax LD;cases u.2<;>cases v.2<;>rfl
 · rw[aH,c1,fE _ lv lq (by omega) d2];unfold Ax LD;cases u.2<;>cases v.2<;>rfl
 rw[aH,c1,fE _ lv lq (by omega) d2];unfold Ax LD;cases u.2<;>cases v.2<;>rfl
def AG(X:List Cr)(a:Int):Bool:=decide (1<=a)&&decide (a<=(ag X:Int))
theorem Tu(u v:Dt)(ov:Bool):(if ov then Ax v else LF u)%2=(if ov then Ax v else LD u)%2:=by
 unfold LF LD
 cases ov<;>cases u.2<;>simp
structure kK(X:List Cr)(x y s t:Nat):Prop where
 ok:Ok X
 hx:x<X.length
 hy:y<X.length
 ne:x≠y
 hs:s<4
 ht:t<4
 oA:other X (x,s)=(y,t)
 oB:other X (x,(s+1)%4)=(y,(t+3)%4)
 par:aI s=aI t
section
variable {X:List Cr} {x y s t:Nat}
theorem kK.swap(h:kK X x y s t):kK X y x ((t+3)%4) ((s+1)%4) where
 ok:=h.ok
 hx:=h.hy
 hy:=h.hx
 ne:=λe=>h.ne e.symm
 hs:=jQ _ (by omega)
 ht:=jQ _ (by omega)
 oA:=by rw[<-h.oB];exact h.ok.bU ⟨h.hx,jQ _ (by omega)⟩
 oB:=by
  have:=h.hs;have:=h.ht;rw[show ((t+3)%4+1)%4=t by omega,show ((s+1)%4+3)%4=s by omega,<-h.oA];exact h.ok.bU ⟨h.hx,h.hs⟩
 par:=by rw[cw 3,cw 1,h.par]
theorem m4(s k:Nat):(s+k)%4<4:=jQ _ (by omega)
theorem kK.px(h:kK X x y s t)(hk:k<4):aq X (x,k):=⟨h.hx,hk⟩
theorem kK.py(h:kK X x y s t)(hk:k<4):aq X (y,k):=⟨h.hy,hk⟩
theorem kK.ya(h:kK X x y s t):aa X (y,t)=aa X (x,s):=by rw[<-h.oA];exact h.ok.cK (h.px h.hs)
theorem kK.yb(h:kK X x y s t):aa X (y,(t+3)%4)=aa X (x,(s+1)%4):=by rw[<-h.oB];exact h.ok.cK (h.px (m4 s 1))
theorem kK.sU(h:kK X x y s t)(hp:aq X p):aa X p=aa X (x,s)↔p=(x,s)\/p=(y,t):=by
 rw[<-h.oA];constructor
 · exact λk=>(h.ok.p9 (h.px h.hs) hp).1 k.symm
 exact λk=>((h.ok.p9 (h.px h.hs) hp).2 k).symm
theorem kK.aoN(h:kK X x y s t)(hp:aq X p):aa X p=aa X (x,(s+1)%4)↔p=(x,(s+1)%4)\/p=(y,(t+3)%4):=by
 rw[<-h.oB];constructor
 · exact λk=>(h.ok.p9 (h.px (m4 s 1)) hp).1 k.symm
 exact λk=>((h.ok.p9 (h.px (m4 s 1)) hp).2 k).symm
def bz(X:List Cr)(x s q:Nat):Prop:=q=aa X (x,s)\/q=aa X (x,(s+1)%4)
theorem kK.Jj(h:kK X x y s t)(hp:aq X p)(h1:p≠(x,s))(h2:p≠(y,t))(h3:p≠(x,(s+1)%4))(h4:p≠(y,(t+3)%4)):¬bz X x s (aa X p):=by
 rintro(k|k)
 · exact((h.sU hp).1 k).elim h1 h2
 exact((h.aoN hp).1 k).elim h3 h4
theorem jY{a b c d:Nat}(h:a≠c\/b≠d):((a,b):Pl)≠(c,d):=λe=>by injection e with e1 e2;exact h.elim (λk=>k e1) λk=>k e2
theorem kK.zC(h:kK X x y s t):¬bz X x s (aa X (x,(s+2)%4)):=by
 have:=h.hs;exact h.Jj (h.px (m4 s 2)) (jY (.inr (by omega))) (jY (.inl h.ne)) (jY (.inr (by omega))) (jY (.inl h.ne))
theorem kK.zD(h:kK X x y s t):¬bz X x s (aa X (x,(s+3)%4)):=by
 have:=h.hs;exact h.Jj (h.px (m4 s 3)) (jY (.inr (by omega))) (jY (.inl h.ne)) (jY (.inr (by omega))) (jY (.inl h.ne))
theorem kK.zE(h:kK X x y s t):¬bz X x s (aa X (y,(t+2)%4)):=by
 have:=h.ht;exact h.Jj (h.py (m4 t 2)) (jY (.inl λe=>h.ne e.symm)) (jY (.inr (by omega))) (jY (.inl λe=>h.ne e.symm)) (jY (.inr (by omega)))
theorem kK.zG(h:kK X x y s t):¬bz X x s (aa X (y,(t+1)%4)):=by
 have:=h.ht;exact h.Jj (h.py (m4 t 1)) (jY (.inl λe=>h.ne e.symm)) (jY (.inr (by omega))) (jY (.inl λe=>h.ne e.symm)) (jY (.inr (by omega)))
theorem kK.zO(h:kK X x y s t){u:Nat}(hk:k<X.length)(hu:u<4)(h1:k≠x)(h2:k≠y):¬bz X x s (aa X (k,u)):=
 h.Jj (p:=(k,u)) ⟨hk,hu⟩ (jY (.inl h1)) (jY (.inl h2)) (jY (.inl h1)) (jY (.inl h2))
def zJ(X:List Cr)(x s z1 z2 q:Nat):Nat:=if q=aa X (x,s)then z1 else if q=aa X (x,(s+1)%4)then z2 else q
theorem p8:zJ X x s z1 z2 (aa X (x,s))=z1:=if_pos rfl
theorem p7(h:kK X x y s t):zJ X x s z1 z2 (aa X (x,(s+1)%4))=z2:=by
 unfold zJ;rw[if_neg λk=>?_,if_pos rfl];have:=h.hs
 rcases (h.sU (h.px (m4 s 1))).1 k with e|e
 · injection e with _ e;omega
 injection e with e _;exact h.ne e
theorem cR(k:¬bz X x s q):zJ X x s z1 z2 q=q:=by
 unfold zJ;rw[if_neg λe=>k (.inl e),if_neg λe=>k (.inr e)]
theorem kK.leads(h:kK X x y s t){es:eW}{ρ:Nat->Nat}(off:∀k u,k<X.length->u<4->k≠x->k≠y->aI u=S k->bh (λx=>x) es (ρ (aa X (k,u))) (ρ (aa X (k,(u+1)%4))))
 (x0:aI s=S x->bh (λx=>x) es (ρ (aa X (x,s))) (ρ (aa X (x,(s+1)%4)))/\bh (λx=>x) es (ρ (aa X (x,(s+2)%4))) (ρ (aa X (x,(s+3)%4))))
 (x1:(!aI s)=S x->bh (λx=>x) es (ρ (aa X (x,(s+1)%4))) (ρ (aa X (x,(s+2)%4)))/\bh (λx=>x) es (ρ (aa X (x,(s+3)%4))) (ρ (aa X (x,s))))
 (y0:aI t=S y->bh (λx=>x) es (ρ (aa X (x,s))) (ρ (aa X (y,(t+1)%4)))/\bh (λx=>x) es (ρ (aa X (y,(t+2)%4))) (ρ (aa X (x,(s+1)%4))))
 (y1:(!aI t)=S y->bh (λx=>x) es (ρ (aa X (y,(t+1)%4))) (ρ (aa X (y,(t+2)%4)))/\bh (λx=>x) es (ρ (aa X (x,(s+1)%4))) (ρ (aa X (x,s))))
 {p:Nat} (k:bh (λx=>x) (pairs X S) p q):bh (λx=>x) es (ρ p) (ρ q):=by
 refine uZ (λe he=>?_) k
 obtain⟨k,u,hk,hu,e1,rfl⟩:=dX.1 he;have hs:=h.hs;have ht:=h.ht;by_cases c:k=x
 · subst c
   have u4:u=s\/u=(s+1)%4\/u=(s+2)%4\/u=(s+3)%4:=by omega
   rcases u4 with e|e|e|e
   · rw[e]at e1 ⊢;exact(x0 e1).1
   · rw[e]at e1 ⊢
     rw[cw 1]at e1
     simp only;rw[show ((s+1)%4+1)%4=(s+2)%4 by omega]
     exact(x1 e1).1
   · rw[e]at e1 ⊢
     rw[cw 2]at e1
     simp only;rw[show ((s+2)%4+1)%4=(s+3)%4 by omega]
     exact(x0 e1).2
   rw[e]at e1 ⊢;rw[cw 3]at e1
   simp only;rw[show ((s+3)%4+1)%4=s by omega]
   exact(x1 e1).2
 by_cases d:k=y
 · subst d
   have u4:u=t\/u=(t+1)%4\/u=(t+2)%4\/u=(t+3)%4:=by omega
   rcases u4 with e|e|e|e
   · rw[e]at e1 ⊢
     simp only;rw[h.ya];exact(y0 e1).1
   · rw[e]at e1 ⊢
     rw[cw 1]at e1
     simp only;rw[show ((t+1)%4+1)%4=(t+2)%4 by omega]
     exact(y1 e1).1
   · rw[e]at e1 ⊢
     rw[cw 2]at e1
     simp only;rw[show ((t+2)%4+1)%4=(t+3)%4 by omega,h.yb]
     exact(y0 e1).2
   rw[e]at e1 ⊢;rw[cw 3]at e1
   simp only;rw[show ((t+3)%4+1)%4=t by omega,h.yb,h.ya]
   exact(y1 e1).2
 exact off k u hk hu c d e1
theorem kK.x0(h:kK X x y s t)(e:aI s=S x):bh (λx=>x) (pairs X S) (aa X (x,s)) (aa X (x,(s+1)%4))/\bh (λx=>x) (pairs X S) (aa X (x,(s+2)%4)) (aa X (x,(s+3)%4)):=by
 refine⟨cz h.hx h.hs e,?_⟩;have:=cz (S:=S) h.hx (m4 s 2) (by rw[cw 2];exact e)
 rwa [show ((s+2)%4+1)%4=(s+3)%4 by omega]at this
theorem kK.x1(h:kK X x y s t)(e:(!aI s)=S x):bh (λx=>x) (pairs X S) (aa X (x,(s+1)%4)) (aa X (x,(s+2)%4))/\bh (λx=>x) (pairs X S) (aa X (x,(s+3)%4)) (aa X (x,s)):=by
 have hs:=h.hs;have a:=cz (S:=S) h.hx (m4 s 1) (by rw[cw 1];exact e);have b:=cz (S:=S) h.hx (m4 s 3) (by rw[cw 3];exact e);rw[show ((s+1)%4+1)%4=(s+2)%4 by omega]at a;rw[show ((s+3)%4+1)%4=s by omega]at b;exact⟨a,b⟩
theorem kK.y0(h:kK X x y s t)(e:aI t=S y):bh (λx=>x) (pairs X S) (aa X (x,s)) (aa X (y,(t+1)%4))/\bh (λx=>x) (pairs X S) (aa X (y,(t+2)%4)) (aa X (x,(s+1)%4)):=by
 have a:=cz (S:=S) h.hy h.ht e;have b:=cz (S:=S) h.hy (m4 t 2) (by rw[cw 2];exact e);rw[h.ya]at a;rw[show ((t+2)%4+1)%4=(t+3)%4 by omega,h.yb]at b;exact⟨a,b⟩
theorem kK.y1(h:kK X x y s t)(e:(!aI t)=S y):bh (λx=>x) (pairs X S) (aa X (y,(t+1)%4)) (aa X (y,(t+2)%4))/\bh (λx=>x) (pairs X S) (aa X (x,(s+1)%4)) (aa X (x,s)):=by
 have ht:=h.ht;have a:=cz (S:=S) h.hy (m4 t 1) (by rw[cw 1];exact e);have b:=cz (S:=S) h.hy (m4 t 3) (by rw[cw 3];exact e);rw[show ((t+1)%4+1)%4=(t+2)%4 by omega]at a;rw[show ((t+3)%4+1)%4=t by omega,h.yb,h.ya]at b;exact⟨a,b⟩
theorem kK.agC(h:kK X x y s t){S T:Nat->Bool}(off:∀k,k≠x->k≠y->S k=T k)(k u:Nat)(hk:k<X.length)(hu:u<4)(kx:k≠x)(ky:k≠y)(e:aI u=S k):
 bh (λx=>x) (pairs X T) (zJ X x s z1 z2 (aa X (k,u))) (zJ X x s z1 z2 (aa X (k,(u+1)%4))):=by
 rw[cR (h.zO hk hu kx ky),cR (h.zO hk (m4 u 1) kx ky)];exact cz hk hu (by rw[<-off k kx ky];exact e)
theorem kK.agp(h:kK X x y s t){S T:Nat->Bool}(Sx:S x=aI s)(Sy:S y=!aI t)(Tx:T x=!aI s)(Ty:T y=!aI t)(off:∀k,k≠x->k≠y->S k=T k){p:Nat}(hp:¬bz X x s p)(hq:¬bz X x s q):
 bh (λx=>x) (pairs X S) p q↔bh (λx=>x) (pairs X T) p q:=by
 have hE:=aj (pairs X S);have sN:=aj (pairs X T);have s0:=h.x0 Sx.symm;have s1:=h.y1 Sy.symm;have t0:=h.x1 Tx.symm;have t1:=h.y1 Ty.symm
 have no:∀b:Bool,¬(!b)=b:=λb=>by cases b<;>simp
 constructor
 · exact h.leads (ρ:=λx=>x) (λk u hk hu kx ky e=>cz hk hu (by rw[<-off k kx ky];exact e)) (λ_=>⟨sN.symm t1.2,sN.trans (sN.symm t0.1) (sN.trans t1.2 (sN.symm t0.2))⟩)
    (λe=>absurd (e.trans Sx) (no _)) (λe=>absurd (Sy.symm.trans e.symm) (no _)) (λ_=>t1)
 intro k
 have:=h.leads (ρ:=zJ X x s (aa X (x,(s+2)%4)) (aa X (x,(s+2)%4))) (es:=pairs X S) (h.agC λk a b=>(off k a b).symm) (λe=>absurd (Tx.symm.trans e.symm) (no _))
  (λ_=>by rw[p8,p7 h,cR h.zC,cR h.zD];exact⟨hE.refl _,hE.symm s0.2⟩) (λe=>absurd (Ty.symm.trans e.symm) (no _))
  (λ_=>by rw[p8,p7 h,cR h.zE,cR h.zG];exact⟨s1.1,hE.refl _⟩) k
 rwa [cR hp,cR hq]at this
theorem kK.agn(h:kK X x y s t){S T:Nat->Bool}(Sx:S x=aI s)(Sy:S y=!aI t)(Tx:T x=aI s)(Ty:T y=aI t)(off:∀k,k≠x->k≠y->S k=T k){p:Nat}(hp:¬bz X x s p)(hq:¬bz X x s q):
 bh (λx=>x) (pairs X S) p q↔bh (λx=>x) (pairs X T) p q:=by
 have hE:=aj (pairs X S);have sN:=aj (pairs X T);have s0:=h.x0 Sx.symm;have s1:=h.y1 Sy.symm;have t0:=h.x0 Tx.symm;have t1:=h.y0 Ty.symm
 have no:∀b:Bool,¬(!b)=b:=λb=>by cases b<;>simp
 constructor
 · exact h.leads (ρ:=λx=>x) (λk u hk hu kx ky e=>cz hk hu (by rw[<-off k kx ky];exact e)) (λ_=>t0)
    (λe=>absurd (e.trans Sx) (no _)) (λe=>absurd (Sy.symm.trans e.symm) (no _)) (λ_=>⟨sN.trans (sN.symm t1.1) (sN.trans t0.1 (sN.symm t1.2)),sN.symm t0.1⟩)
 intro k
 have:=h.leads (ρ:=zJ X x s (aa X (y,(t+1)%4)) (aa X (y,(t+1)%4))) (es:=pairs X S) (h.agC λk a b=>(off k a b).symm)
  (λ_=>by rw[p8,p7 h,cR h.zC,cR h.zD];exact⟨hE.refl _,s0.2⟩) (λe=>absurd (e.trans Tx) (no _))
  (λ_=>by rw[p8,p7 h,cR h.zE,cR h.zG];exact⟨hE.refl _,hE.symm s1.1⟩) (λe=>absurd (e.trans Ty) (no _)) k
 rwa [cR hp,cR hq]at this
theorem kK.ring(h:kK X x y s t)(Sx:S x=aI s)(Sy:S y=!aI t){p:Nat}(hp:bz X x s p):bh (λx=>x) (pairs X S) p q↔bz X x s q:=by
 have hE:=aj (pairs X S)
 have no:∀b:Bool,¬(!b)=b:=λb=>by cases b<;>simp
 have s0:=h.x0 Sx.symm;constructor
 · intro k
   have za:bz X x s (aa X (x,s)):=.inl rfl;have zb:bz X x s (aa X (x,(s+1)%4)):=.inr rfl
   have:=bN (R:=λp q=>bz X x s p↔bz X x s q) (es:=pairs X S) (σ:=λx=>x) ⟨λ_=>Iff.rfl,λk=>k.symm,λk l=>k.trans l⟩ (λ_=>Iff.rfl) (λe he=>by
    obtain⟨k,u,hk,hu,e1,rfl⟩:=dX.1 he;have hs:=h.hs;have ht:=h.ht
    have both:∀{a b:Nat},bz X x s a->bz X x s b->(bz X x s a↔bz X x s b):=λh1 h2=>⟨λ_=>h2,λ_=>h1⟩
    have none:∀{a b:Nat},¬bz X x s a->¬bz X x s b->(bz X x s a↔bz X x s b):=λh1 h2=>⟨λk=>absurd k h1,λk=>absurd k h2⟩
    by_cases c:k=x
    · subst c
      rw[Sx]at e1
      have tt:u=s\/u=(s+2)%4:=by unfold aI at e1;have:=jL.1 e1;omega
      rcases tt with rfl|rfl
      · exact both za zb
      simp only;rw[show ((s+2)%4+1)%4=(s+3)%4 by omega];exact none h.zC h.zD
    by_cases d:k=y
    · subst d
      rw[Sy]at e1
      have tt:u=(t+1)%4\/u=(t+3)%4:=by
       unfold aI at e1;rw[<-decide_not]at e1;have:=jL.1 e1;omega
      rcases tt with rfl|rfl
      · simp only;rw[show ((t+1)%4+1)%4=(t+2)%4 by omega];exact none h.zG h.zE
      simp only;rw[show ((t+3)%4+1)%4=t by omega,h.yb,h.ya];exact both zb za
    exact none (h.zO hk hu c d) (h.zO hk (m4 u 1) c d)) k
   exact this.1 hp
 intro hq
 rcases hp with rfl|rfl<;>rcases hq with rfl|rfl
 · exact hE.refl _
 · exact s0.1
 · exact hE.symm s0.1
 exact hE.refl _
theorem kK.vH(h:kK X x y s t)(nr:¬(S x=aI s/\S y=!aI t)){p:Nat}(hp:bz X x s p):∃o,¬bz X x s o/\bh (λx=>x) (pairs X S) o p:=by
 have hE:=aj (pairs X S)
 have nb:∀{a b:Bool},¬a=b->(!b)=a:=λ{a b} k=>by cases a<;>cases b<;>simp at k ⊢
 by_cases c:S x=aI s
 · have d:S y=aI t:=by
    have:=nb λd=>nr ⟨c,d⟩
    rw[not_not]at this;exact this.symm
   have t1:=h.y0 d.symm
   rcases hp with rfl|rfl
   · exact⟨_,h.zG,hE.symm t1.1⟩
   exact⟨_,h.zE,t1.2⟩
 have t0:=h.x1 (nb c)
 rcases hp with rfl|rfl
 · exact⟨_,h.zD,t0.2⟩
 exact⟨_,h.zC,hE.symm t0.1⟩
theorem kK.big(h:kK X x y s t)(hp:aJ X=true)(L:Nat)(hs0:aI s=false):qZ (eF X L) (λ_=>True) x y (bz X x s) (aa X (x,s)) where
 ok:=h.ok.eF hp L
 hi:=h.hx
 hj:=h.hy
 ne:=h.ne
 La:=λ_ _ _=>Iff.rfl
 nx:=λ_ _ _ k=>absurd trivial k
 zz:=.inl rfl
 zP:=λq hq=>by
  rcases hq with rfl|rfl
  · have:=h.ok.ah (h.px h.hs);exact⟨this.1,by have:=this.2;omega⟩
  have:=h.ok.ah (h.px (m4 s 1));exact⟨this.1,by have:=this.2;omega⟩
 ring:=λS _ Sx Sy p q hp=>h.ring (by rw[Sx,hs0]) (by rw[Sy,<-h.par,hs0];rfl) hp
 vH:=λS nr p hp=>h.vH (λk=>nr ⟨trivial,by rw[k.1,hs0],by rw[k.2,<-h.par,hs0];rfl⟩) hp
 Ez:=λS _ Sx Sy p q hp hq=>h.agp (by rw[Sx,hs0]) (by rw[Sy,<-h.par,hs0];rfl) (by rw[bK,hs0];rfl) (by rw[az _ λe=>h.ne e.symm,Sy,<-h.par,hs0];rfl) (λk kx _=>(az S kx).symm) hp hq
 IK:=λS _ Sx Sy p q hp hq=>h.agn (by rw[Sx,hs0]) (by rw[Sy,<-h.par,hs0];rfl) (by rw[eT _ h.ne,Sx,hs0]) (by rw[fy,<-h.par,hs0]) (λk _ ky=>(eT S ky).symm) hp hq
 ex:=λ_ _ _ _ _ _ _ _ _ k=>absurd trivial k
 en:=λ_ _ k=>absurd trivial k
theorem kK.taken(h:kK X x y s t)(hp:aJ X=true)(L:Nat)(hs0:aI s=false):qT (eF X L) (eF (bF X (both x y)) (L+takeN X (both x y))) (λo=>(eF X L).P o/\¬bz X x s o) (Ho x y)
 (λi=>(kept X.length (both x y)).getD i 0) (λd=>(kept d (both x y)).length) (yF X (both x y) L):=by
 have gx:both x y x=true:=by simp
 have gy:both x y y=true:=by simp
 have hs:=h.hs;have ht:=h.ht
 refine h.ok.taken hp ((h.ok.BL h.hx h.hy h.ne h.hs h.ht h.oA h.oB).2 hp) L (λo ho=>ho.1) (λl hl=>?_) (λa a1 a2=>?_) λS hS o o' ho mH=>?_
 · unfold Ho
   by_cases k:l=x
   · simp[k]
   by_cases k':l=y
   · have:¬y=x:=λe=>h.ne e.symm
     simp[k',this]
   simp[k,k']
 · by_cases k:bz X x s a
   · right
     have key:∀c v,c<X.length->v<4->both x y c=true->¬bz X x s (aa X (c,(v+2)%4))->a=aa X (c,v)->∃o,((eF X L).P o/\¬bz X x s o)/\o<=ag X/\a<=ag X/\cF X (both x y) o=cF X (both x y) a:=λc v hc hv g z e=>by
      have i2:=h.ok.ah (p:=(c,(v+2)%4)) ⟨hc,m4 v 2⟩;have il:=h.ok.ah (p:=(c,v)) ⟨hc,hv⟩;refine⟨aa X (c,(v+2)%4),⟨⟨i2.1,by have:=i2.2;omega⟩,z⟩,i2.2,by rw[e];exact il.2,?_⟩;rw[e];exact((h.ok.uj (gone:=both x y)).iff _ _).2 ((aj _).symm (dY hc g hv))
     rcases k with e|e
     · exact key x s h.hx h.hs gx h.zC e
     exact key x ((s+1)%4) h.hx (m4 s 1) gx (by rw[show ((s+1)%4+2)%4=(s+3)%4 by omega];exact h.zD) e
   exact .inl ⟨⟨a1,a2⟩,k⟩
 have Sx:S x=true:=hS x _ h.hx (by unfold Ho;simp);have Sy:S y=false:=hS y _ h.hy (by unfold Ho;rw[if_neg λe=>h.ne e.symm];simp);have hE:=aj (pairs X S);have hF:=aj (pT X (both x y) S++bL X (both x y) X.length);have t0:=h.x1 (S:=S) (by rw[Sx,hs0];rfl);have t1:=h.y0 (S:=S) (by rw[Sy,<-h.par,hs0])
 have tie:∀c t,c<X.length->both x y c=true->t<4->bh (λx=>x) (pT X (both x y) S++bL X (both x y) X.length) (aa X (c,t)) (aa X (c,(t+2)%4)):=λc t hc g ht=>
  b9 (λe he=>aX (jx.2 (.inr he))) (dY hc g ht)
 have f1:=tie x s h.hx gx h.hs;have f2:=tie x ((s+1)%4) h.hx gx (m4 s 1);have f3:=tie y t h.hy gy h.ht;have f4:=tie y ((t+3)%4) h.hy gy (m4 t 3);rw[show ((s+1)%4+2)%4=(s+3)%4 by omega]at f2;rw[h.ya]at f3;rw[show ((t+3)%4+2)%4=(t+1)%4 by omega,h.yb]at f4;constructor
 · intro k
   have:=h.leads (ρ:=zJ X x s (aa X (x,(s+3)%4)) (aa X (x,(s+2)%4))) (es:=pT X (both x y) S++bL X (both x y) X.length)
    (λk u hk hu kx ky e=>by
     rw[cR (h.zO hk hu kx ky),cR (h.zO hk (m4 u 1) kx ky)]
     exact aX (e:=(aa X (k,u),aa X (k,(u+1)%4))) (jx.2 (.inl (mr.2 ⟨k,u,hk,oF.2 ⟨kx,ky⟩,hu,e,rfl⟩))))
    (λe=>by rw[Sx,hs0]at e;cases e) (λ_=>by rw[p8,p7 h,cR h.zC,cR h.zD];exact⟨hF.refl _,hF.refl _⟩)
    (λ_=>by rw[p8,p7 h,cR h.zE,cR h.zG];exact⟨hF.trans (hF.symm f2) f4,hF.trans (hF.symm f3) f1⟩) (λe=>by rw[Sy,<-h.par,hs0]at e;cases e) k
   rwa [cR ho.2,cR mH.2]at this
 intro k
 have:=uZ (es':=pairs X S) (ρ:=zJ X x s (aa X (x,(s+2)%4)) (aa X (x,(s+3)%4))) (λe he=>by
  rcases jx.1 he with he|he
  · obtain⟨k,u,hk,gk,hu,e1,rfl⟩:=mr.1 he
    obtain⟨kx,ky⟩:=oF.1 gk
    simp only
    rw[cR (h.zO hk hu kx ky),cR (h.zO hk (m4 u 1) kx ky)];exact cz hk hu e1
  obtain⟨d,hd,gd,m⟩:=eR.1 he
  have opp:∀{u},u<4->bh (λx=>x) (pairs X S) (zJ X x s (aa X (x,(s+2)%4)) (aa X (x,(s+3)%4)) (aa X (d,u))) (zJ X x s (aa X (x,(s+2)%4)) (aa X (x,(s+3)%4)) (aa X (d,(u+2)%4))):=λ{u} hu=>by
   have wC:d=x\/d=y:=by simpa using gd
   rcases wC with rfl|rfl
   · have u4:u=s\/u=(s+1)%4\/u=(s+2)%4\/u=(s+3)%4:=by omega
     rcases u4 with e|e|e|e
     · rw[e,p8,cR h.zC];exact hE.refl _
     · rw[e,show ((s+1)%4+2)%4=(s+3)%4 by omega,p7 h,cR h.zD];exact hE.refl _
     · rw[e,show ((s+2)%4+2)%4=s by omega,p8,cR h.zC];exact hE.refl _
     rw[e,show ((s+3)%4+2)%4=(s+1)%4 by omega,p7 h,cR h.zD];exact hE.refl _
   have ce:bh (λx=>x) (pairs X S) (aa X (x,(s+2)%4)) (aa X (d,(t+2)%4)):=hE.trans (hE.symm t0.1) (hE.symm t1.2);have dg:bh (λx=>x) (pairs X S) (aa X (x,(s+3)%4)) (aa X (d,(t+1)%4)):=hE.trans t0.2 t1.1
   have u4:u=t\/u=(t+1)%4\/u=(t+2)%4\/u=(t+3)%4:=by omega
   rcases u4 with e|e|e|e
   · rw[e,h.ya,p8,cR h.zE];exact ce
   · rw[e,show ((t+1)%4+2)%4=(t+3)%4 by omega,h.yb,p7 h,cR h.zG];exact hE.symm dg
   · rw[e,show ((t+2)%4+2)%4=t by omega,h.ya,p8,cR h.zE];exact hE.symm ce
   rw[e,show ((t+3)%4+2)%4=(t+1)%4 by omega,h.yb,p7 h,cR h.zG];exact dg
  rcases m with rfl|rfl
  · exact opp (lT _)
  exact opp (u:=0) (by omega)) k
 rwa [cR ho.2,cR mH.2]at this
theorem kK.signs(h:kK X x y s t)(hs0:aI s=false):(cr X x).p=!(cr X y).p:=by
 have k1:=h.ok.dA (h.px h.hs);have k2:=h.ok.dA (h.px (m4 s 1));rw[h.oA]at k1;rw[h.oB]at k2;have hs:=h.hs;have ht:=h.ht;have ht0:=h.par;rw[hs0]at ht0;unfold aI at hs0 ht0;have e1:s%2≠1:=of_decide_eq_false hs0;have e2:t%2≠1:=of_decide_eq_false ht0.symm
 have s2:s=0\/s=2:=by omega
 have t2:t=0\/t=2:=by omega
 unfold cm comes at k1 k2;simp only at k1 k2
 rcases s2 with rfl|rfl<;>rcases t2 with rfl|rfl<;>cases hx:(cr X x).p<;>cases hy:(cr X y).p<;>rw[hx,hy]at k1 k2<;>simp[over]at k1 k2 ⊢
theorem JV(hx:x<n)(hy:y<n)(hne:x≠y)(q:Nat->Bool):((range n).filter (both x y)).countP q=(if q x then 1 else 0)+if q y then 1 else 0:=by
 have p:((range n).filter (both x y)).Perm [x,y]:=(jR (jK.filter _) (by simp[hne])).2 λa=>by
  rw[jC,jw];simp only[Bool.or_eq_true,jt,jy,jz,or_false];constructor
  · exact λk=>k.2
  rintro(rfl|rfl)
  · exact⟨hx,.inl rfl⟩
  exact⟨hy,.inr rfl⟩
 rw[p.countP_eq]
 simp only[jG,countP_nil];omega
theorem kK.kh0(h:kK X x y s t)(hp:aJ X=true)(L:Nat)(hs0:aI s=false)(hU:(eF X L).All U)(hV:(eF (bF X (both x y)) (L+takeN X (both x y))).All V)(i:oP):
 Kh X L U i=Kh (bF X (both x y)) (L+takeN X (both x y)) V i:=by
 have k:=(h.big hp L hs0).hn (h.taken hp L hs0) hU hV (-(ml X:Int)) ((uJ X:Int)-2*(ml X:Int)) i
 have a1:uJ X=uJ (bF X (both x y))+_:=ry (X:=X) (gone:=both x y) λb=>b
 have a2:ml X=ml (bF X (both x y))+_:=ry (X:=X) (gone:=both x y) λb=>!b
 rw[JV h.hx h.hy h.ne]at a1 a2;have sg:=h.signs hs0;rw[sg]at a1 a2
 have b1:uJ X=uJ (bF X (both x y))+1:=by cases hh:(cr X y).p<;>rw[hh]at a1<;>simpa using a1
 have b2:ml X=ml (bF X (both x y))+1:=by cases hh:(cr X y).p<;>rw[hh]at a2<;>simpa using a2
 unfold Kh;rw[k];rw[show -(ml X:Int)+1 = -(ml (bF X (both x y)):Int)by omega,show (uJ X:Int)-2*(ml X:Int)+1=(uJ (bF X (both x y)):Int)-2*(ml (bF X (both x y)):Int)by omega]
theorem kK.kh(h:kK X x y s t)(hp:aJ X=true)(L:Nat)(hU:(eF X L).All U)(hV:(eF (bF X (both x y)) (L+takeN X (both x y))).All V)(i:oP):
 Kh X L U i=Kh (bF X (both x y)) (L+takeN X (both x y)) V i:=by
 cases e:aI s
 · exact h.kh0 hp L e hU hV i
 have e2:aI ((t+3)%4)=false:=by rw[cw 3,<-h.par,e];rfl
 have c:both x y=both y x:=funext λd=>Bool.or_comm _ _
 rw[c]at hV ⊢;exact h.swap.kh0 hp L e2 hU hV i
end
def cj(b0 b1 b2:Bool)(e p q:Nat->Nat):eW:=
 (bif b0 then [(e 0,q 0),(p 0,e 1)]else [(q 0,p 0),(e 1,e 0)])++((bif b1 then [(e 1,q 1),(p 1,e 2)]else [(q 1,p 1),(e 2,e 1)])++(bif b2 then [(e 2,q 2),(p 2,e 0)]else [(q 2,p 2),(e 0,e 2)]))
def o8(p q:Nat->Nat):Bool->Bool->Bool->eW
 |true,false,true=>[(p 2,q 0),(p 0,q 2),(q 1,p 1)]
 |true,true,true=>[(p 2,q 0),(p 0,q 1),(p 1,q 2)]
 |false,true,true=>[(q 0,p 0),(p 2,q 1),(p 1,q 2)]
 |true,true,false=>[(q 0,p 1),(p 0,q 1),(q 2,p 2)]
 |_,_,_=>[(q 0,p 0),(q 1,p 1),(q 2,p 2)]
def tz(p q:Nat->Nat):Bool->Bool->Bool->Nat×Nat×Nat
 |false,false,false=>(q 0,q 0,q 0)
 |true,false,false=>(q 0,q 0,q 0)
 |false,false,true=>(q 2,q 2,q 2)
 |true,false,true=>(q 0,p 0,q 2)
 |false,true,false=>(q 1,q 1,q 1)
 |true,true,true=>(q 0,p 0,q 2)
 |false,true,true=>(q 1,q 1,q 2)
 |true,true,false=>(q 0,q 1,q 0)
def oU(e:Nat->Nat)(x:Nat):Prop:=x=e 0\/x=e 1\/x=e 2
structure zQ(e p q:Nat->Nat):Prop where
 e01:e 0≠e 1
 e02:e 0≠e 2
 e12:e 1≠e 2
 p0:¬oU e (p 0)
 p1:¬oU e (p 1)
 p2:¬oU e (p 2)
 q0:¬oU e (q 0)
 q1:¬oU e (q 1)
 q2:¬oU e (q 2)
def Ib(e:Nat->Nat)(z:Nat×Nat×Nat)(x:Nat):Nat:=if x=e 0 then z.1 else if x=e 1 then z.2.1 else if x=e 2 then z.2.2 else x
section
variable {e p q:Nat->Nat} {O:eW} {b0 b1 b2:Bool}
theorem iy{z:Nat×Nat×Nat}(h:¬oU e x):Ib e z x=x:=by
 unfold Ib;rw[if_neg λk=>h (.inl k),if_neg λk=>h (.inr (.inl k)),if_neg λk=>h (.inr (.inr k))]
theorem zQ.r0(_:zQ e p q)(z:Nat×Nat×Nat):Ib e z (e 0)=z.1:=if_pos rfl
theorem zQ.r1(h:zQ e p q)(z:Nat×Nat×Nat):Ib e z (e 1)=z.2.1:=by unfold Ib;rw[if_neg λk=>h.e01 k.symm,if_pos rfl]
theorem zQ.r2(h:zQ e p q)(z:Nat×Nat×Nat):Ib e z (e 2)=z.2.2:=by unfold Ib;rw[if_neg λk=>h.e02 k.symm,if_neg λk=>h.e12 k.symm,if_pos rfl]
theorem zQ.form(h:zQ e p q)(hO:∀a∈O,¬oU e a.1/\¬oU e a.2)(hx:¬oU e x)(hy:¬oU e y):
 bh (λx=>x) (O++cj b0 b1 b2 e p q) x y↔bh (λx=>x) (O++o8 p q b0 b1 b2) x y:=by
 have hE:=aj (O++cj b0 b1 b2 e p q);have hF:=aj (O++o8 p q b0 b1 b2)
 have inF:∀{a b:Nat},(a,b)∈o8 p q b0 b1 b2->bh (λx=>x) (O++o8 p q b0 b1 b2) a b:=λ{a b} m=>aX (e:=(a,b)) (jx.2 (.inr m))
 have kL:∀{a b:Nat},(a,b)∈cj b0 b1 b2 e p q->bh (λx=>x) (O++cj b0 b1 b2 e p q) a b:=λ{a b} m=>aX (e:=(a,b)) (jx.2 (.inr m))
 constructor
 · intro k
   have:=uZ (ρ:=Ib e (tz p q b0 b1 b2)) (es':=O++o8 p q b0 b1 b2) (λa ha=>by
    rcases jx.1 ha with ha|ha
    · rw[iy (hO a ha).1,iy (hO a ha).2]
      exact aX (jx.2 (.inl ha))
    have r0:=h.r0 (tz p q b0 b1 b2);have r1:=h.r1 (tz p q b0 b1 b2);have r2:=h.r2 (tz p q b0 b1 b2);have sp0:=iy (z:=tz p q b0 b1 b2) h.p0;have sp1:=iy (z:=tz p q b0 b1 b2) h.p1;have sp2:=iy (z:=tz p q b0 b1 b2) h.p2;have sq0:=iy (z:=tz p q b0 b1 b2) h.q0;have sq1:=iy (z:=tz p q b0 b1 b2) h.q1;have sq2:=iy (z:=tz p q b0 b1 b2) h.q2
    revert ha
    cases b0<;>cases b1<;>cases b2<;>simp only[cj,cond_true,cond_false,cons_append,nil_append,jy,jz,or_false]<;>rintro(rfl|rfl|rfl|rfl|rfl|rfl) <;>
     simp only[r0,r1,r2,sp0,sp1,sp2,sq0,sq1,sq2]<;>(try simp only[tz])<;>first|exact hF.refl _|(refine hF.symm (inF ?_);simp only[o8,jy,Prod.mk.injEq,true_or,or_true];done)|(refine inF ?_;simp only[o8,jy,Prod.mk.injEq,true_or,or_true];done)) k
   rwa [iy hx,iy hy]at this
 refine b9 λa ha=>?_
 rcases jx.1 ha with ha|ha
 · exact aX (jx.2 (.inl ha))
 revert ha
 have tr:=λ{a b c}=>@Equivalence.trans _ _ hE a b c
 have sy:=λ{a b}=>@Equivalence.symm _ _ hE a b
 cases b0<;>cases b1<;>cases b2<;>simp only[o8,jy,jz,or_false]<;>rintro(rfl|rfl|rfl)<;>simp only
 · exact kL (by simp[cj])
 · exact kL (by simp[cj])
 · exact kL (by simp[cj])
 · exact kL (by simp[cj])
 · exact kL (by simp[cj])
 · exact tr (sy (kL (a:=e 2) (b:=q 2) (by simp[cj]))) (tr (kL (a:=e 2) (b:=e 1) (by simp[cj])) (tr (kL (a:=e 1) (b:=e 0) (by simp[cj])) (sy (kL (a:=p 2) (b:=e 0) (by simp[cj])))))
 · exact kL (by simp[cj])
 · exact tr (sy (kL (a:=e 1) (b:=q 1) (by simp[cj]))) (tr (kL (a:=e 1) (b:=e 0) (by simp[cj])) (tr (kL (a:=e 0) (b:=e 2) (by simp[cj])) (sy (kL (a:=p 1) (b:=e 2) (by simp[cj])))))
 · exact kL (by simp[cj])
 · exact kL (by simp[cj])
 · exact tr (kL (a:=p 2) (b:=e 0) (by simp[cj])) (tr (sy (kL (a:=e 1) (b:=e 0) (by simp[cj]))) (kL (a:=e 1) (b:=q 1) (by simp[cj])))
 · exact tr (kL (a:=p 1) (b:=e 2) (by simp[cj])) (kL (a:=e 2) (b:=q 2) (by simp[cj]))
 · exact tr (sy (kL (a:=e 0) (b:=q 0) (by simp[cj]))) (tr (kL (a:=e 0) (b:=e 2) (by simp[cj])) (tr (kL (a:=e 2) (b:=e 1) (by simp[cj])) (sy (kL (a:=p 0) (b:=e 1) (by simp[cj])))))
 · exact kL (by simp[cj])
 · exact kL (by simp[cj])
 · exact tr (kL (a:=p 2) (b:=e 0) (by simp[cj])) (kL (a:=e 0) (b:=q 0) (by simp[cj]))
 · exact tr (kL (a:=p 0) (b:=e 1) (by simp[cj])) (tr (sy (kL (a:=e 2) (b:=e 1) (by simp[cj]))) (kL (a:=e 2) (b:=q 2) (by simp[cj])))
 · exact kL (by simp[cj])
 · exact tr (sy (kL (a:=e 0) (b:=q 0) (by simp[cj]))) (tr (kL (a:=e 0) (b:=e 2) (by simp[cj])) (sy (kL (a:=p 1) (b:=e 2) (by simp[cj]))))
 · exact tr (kL (a:=p 0) (b:=e 1) (by simp[cj])) (kL (a:=e 1) (b:=q 1) (by simp[cj]))
 · exact kL (by simp[cj])
 · exact tr (kL (a:=p 2) (b:=e 0) (by simp[cj])) (kL (a:=e 0) (b:=q 0) (by simp[cj]))
 · exact tr (kL (a:=p 0) (b:=e 1) (by simp[cj])) (kL (a:=e 1) (b:=q 1) (by simp[cj]))
 exact tr (kL (a:=p 1) (b:=e 2) (by simp[cj])) (kL (a:=e 2) (b:=q 2) (by simp[cj]))
theorem zQ.ring(h:zQ e p q)(hO:∀a∈O,¬oU e a.1/\¬oU e a.2)(hx:oU e x):bh (λx=>x) (O++cj false false false e p q) x y↔oU e y:=by
 have hE:=aj (O++cj false false false e p q)
 have kL:∀{a b:Nat},(a,b)∈cj false false false e p q->bh (λx=>x) (O++cj false false false e p q) a b:=λ{a b} m=>aX (e:=(a,b)) (jx.2 (.inr m))
 constructor
 · intro k
   have:=bN (R:=λx y=>oU e x↔oU e y) (σ:=λx=>x) (es:=O++cj false false false e p q) ⟨λ_=>Iff.rfl,λk=>k.symm,λk l=>k.trans l⟩ (λ_=>Iff.rfl) (λa ha=>by
    have both:∀{a b:Nat},oU e a->oU e b->(oU e a↔oU e b):=λh1 h2=>⟨λ_=>h2,λ_=>h1⟩
    have none:∀{a b:Nat},¬oU e a->¬oU e b->(oU e a↔oU e b):=λh1 h2=>⟨λk=>absurd k h1,λk=>absurd k h2⟩
    rcases jx.1 ha with ha|ha
    · exact none (hO a ha).1 (hO a ha).2
    simp only[cj,cond_false,cons_append,nil_append,jy,jz,or_false]at ha
    rcases ha with rfl|rfl|rfl|rfl|rfl|rfl
    · exact none h.q0 h.p0
    · exact both (.inr (.inl rfl)) (.inl rfl)
    · exact none h.q1 h.p1
    · exact both (.inr (.inr rfl)) (.inr (.inl rfl))
    · exact none h.q2 h.p2
    exact both (.inl rfl) (.inr (.inr rfl))) k
   exact this.1 hx
 intro hy
 have to0:∀{x},oU e x->bh (λx=>x) (O++cj false false false e p q) x (e 0):=λ{x} k=>by
  rcases k with rfl|rfl|rfl
  · exact hE.refl _
  · exact kL (by simp[cj])
  exact hE.symm (kL (by simp[cj]))
 exact hE.trans (to0 hx) (hE.symm (to0 hy))
theorem zQ.vH(h:zQ e p q)(nr:b0=true\/b1=true\/b2=true)(hx:oU e x):∃o,¬oU e o/\bh (λx=>x) (O++cj b0 b1 b2 e p q) o x:=by
 have hE:=aj (O++cj b0 b1 b2 e p q)
 have kL:∀{a b:Nat},(a,b)∈cj b0 b1 b2 e p q->bh (λx=>x) (O++cj b0 b1 b2 e p q) a b:=λ{a b} m=>aX (e:=(a,b)) (jx.2 (.inr m))
 obtain⟨R,hR⟩:∃R,R=bh (λx=>x) (O++cj b0 b1 b2 e p q):=⟨_,rfl⟩
 rw[<-hR]at hE ⊢
 have c0:(b0=true->R (q 0) (e 0)/\R (p 0) (e 1))/\(b0=false->R (e 1) (e 0)):=by
  rw[hR];exact⟨λk=>⟨(aj _).symm (kL (by subst k;simp[cj])),kL (by subst k;simp[cj])⟩,λk=>kL (by subst k;simp[cj])⟩
 have c1:(b1=true->R (q 1) (e 1)/\R (p 1) (e 2))/\(b1=false->R (e 2) (e 1)):=by
  rw[hR];exact⟨λk=>⟨(aj _).symm (kL (by subst k;simp[cj])),kL (by subst k;simp[cj])⟩,λk=>kL (by subst k;simp[cj])⟩
 have c2:(b2=true->R (q 2) (e 2)/\R (p 2) (e 0))/\(b2=false->R (e 0) (e 2)):=by
  rw[hR];exact⟨λk=>⟨(aj _).symm (kL (by subst k;simp[cj])),kL (by subst k;simp[cj])⟩,λk=>kL (by subst k;simp[cj])⟩
 have key:∀{a b c o o' o'':Nat},¬oU e o->¬oU e o'->¬oU e o''->R o a->R o' b->(R o'' c\/R c b)->(∃o,¬oU e o/\R o a)/\(∃o,¬oU e o/\R o b)/\∃o,¬oU e o/\R o c:=λ{a b c o o' o''} h1 h2 h3 r1 r2 r3=>
  ⟨⟨o,h1,r1⟩,⟨o',h2,r2⟩,r3.elim (λr=>⟨o'',h3,r⟩) λr=>⟨o',h2,hE.trans r2 (hE.symm r)⟩⟩
 have cs:∀{b:Bool} {P Q:Prop},(b=true->P)->(b=false->Q)->P\/Q:=λ{b P Q} f g=>by cases b;exact .inr (g rfl);exact .inl (f rfl)
 rcases nr with k|k|k
 · obtain⟨a,b,c⟩:=key h.q0 h.p0 h.p1 (c0.1 k).1 (c0.1 k).2 (cs (λm=>(c1.1 m).2) c1.2)
   rcases hx with rfl|rfl|rfl
   · exact a
   · exact b
   exact c
 · obtain⟨a,b,c⟩:=key h.q1 h.p1 h.p2 (c1.1 k).1 (c1.1 k).2 (cs (λm=>(c2.1 m).2) c2.2)
   rcases hx with rfl|rfl|rfl
   · exact c
   · exact a
   exact b
 obtain⟨a,b,c⟩:=key h.q2 h.p2 h.p0 (c2.1 k).1 (c2.1 k).2 (cs (λm=>(c0.1 m).2) c0.2)
 rcases hx with rfl|rfl|rfl
 · exact b
 · exact c
 exact a
end
structure TD(A:List Cr)(Out:(Nat->Bool)->eW)(c0 c1 c2:Nat)(t0 t1 t2:Bool)(e p q:Nat->Nat):Prop where
 E:∀S x y,bh (λx=>x) (pairs A S) x y↔bh (λx=>x) (Out S++cj (S c0==t0) (S c1==t1) (S c2==t2) e p q) x y
 out:∀S T,(∀k,k≠c0->k≠c1->k≠c2->S k=T k)->Out S=Out T
 zo:∀S,∀a∈Out S,¬oU e a.1/\¬oU e a.2
 dis:zQ e p q
 l0:c0<A.length
 l1:c1<A.length
 l2:c2<A.length
 DR:c0≠c1
 R5:c0≠c2
 n12:c1≠c2
section
variable {A:List Cr} {Out:(Nat->Bool)->eW} {c0 c1 c2:Nat} {t1:Bool} {e p q:Nat->Nat}
theorem TD.RU{t0 t2:Bool}(h:TD A Out c0 c1 c2 t0 t1 t2 e p q){S T:Nat->Bool}(off:∀k,k≠c0->k≠c1->k≠c2->S k=T k)(k:o8 p q (S c0==t0) (S c1==t1) (S c2==t2)=o8 p q (T c0==t0) (T c1==t1) (T c2==t2))
 (hx:¬oU e x) (hy:¬oU e y):bh (λx=>x) (pairs A S) x y↔bh (λx=>x) (pairs A T) x y:=by
 rw[h.E,h.E,h.dis.form (h.zo S) hx hy,h.dis.form (h.zo T) hx hy,k,h.out S T off]
theorem zK{a b:Bool}(h:a=!b):(a==b)=false:=by cases a<;>cases b<;>simp at h ⊢
theorem yx{a b:Bool}(h:a=b):(a==b)=true:=by cases a<;>cases b<;>simp at h ⊢
theorem Ge{a b:Bool}(h:¬a=!b):a=b:=by cases a<;>cases b<;>simp at h ⊢
theorem TD.big(h:TD A Out c0 c1 c2 true t1 false e p q)(ok:(eF A L).Ok)(zP:∀x,oU e x->(eF A L).P x):qZ (eF A L) (λS=>S c1=!t1) c0 c2 (oU e) (e 0) where
 ok:=ok
 hi:=h.l0
 hj:=h.l2
 ne:=h.R5
 La:=λS k hk=>by
  have:c1≠k:=by rcases hk with rfl|rfl;exact λe=>h.DR e.symm;exact h.n12
  show bC S k c1=_↔_
  rw[az _ this]
 nx:=λS k l h1 h2=>by
  have h2:bC S k c1=!t1:=h2
  have kc:c1=k:=js λc=>h1 (by rw[<-az S c];exact h2)
  subst kc;rw[bK]at h2
  show bC (bC S c1) l c1=!t1
  by_cases c:c1=l
  · rw[c,bK];exact h2
  rw[az _ c,bK];exact h2
 zz:=.inl rfl
 zP:=zP
 ring:=λS hS Si Sj x y hx=>by
  show bh (λx=>x) (pairs A S) x y↔_
  rw[h.E,Si,Sj,zK hS];exact h.dis.ring (h.zo S) hx
 vH:=λS nr x hx=>by
  have:(S c0==true)=true\/(S c1==t1)=true\/(S c2==false)=true:=by
   cases a:S c0
   · cases b:S c2
     · exact .inr (.inr rfl)
     refine .inr (.inl (yx (Ge λc=>nr ⟨c,a,b⟩)))
   exact .inl rfl
  obtain⟨o,h1,h2⟩:=h.dis.vH (O:=Out S) this hx;exact⟨o,h1,(h.E S o x).2 h2⟩
 Ez:=λS hS Si Sj x y hx hy=>by
  refine h.RU (λk k0 _ _=>(az S k0).symm) ?_ hx hy
  rw[bK,az _ λk=>h.DR k.symm,az _ λk=>h.R5 k.symm,Si,Sj,zK hS];rfl
 IK:=λS hS Si Sj x y hx hy=>by
  refine h.RU (λk _ _ k2=>(eT S k2).symm) ?_ hx hy
  rw[fy,eT _ h.R5,eT _ h.n12,Si,Sj,zK hS];rfl
 ex:=λS k hS Si Sj hk ki kj k0 nH x y hx hy=>by
  have kc:c1=k:=js λc=>nH (by show bC S k c1=_;rw[az _ c];exact hS)
  subst kc
  refine h.RU (λk _ k1 _=>(az S k1).symm) ?_ hx hy
  have nH:¬bC S c1 c1=!t1:=nH
  rw[az _ h.DR,az _ λk=>h.n12 k.symm,Si,Sj,zK hS,yx (Ge nH)];rfl
 en:=λS k nH Si Sj hk ki kj k0 hH x y hx hy=>by
  have hH:bC S k c1=!t1:=hH
  have kc:c1=k:=js λc=>nH (by rw[<-az S c];exact hH)
  subst kc
  refine h.RU (λk _ k1 _=>(az S k1).symm) ?_ hx hy
  rw[az _ h.DR,az _ λk=>h.n12 k.symm,Si,Sj,yx (Ge nH),zK hH];rfl
theorem TD.amo{A':List Cr}{p' q':Nat->Nat}(h:TD A Out c0 c1 c2 true t1 false e p q)(h':TD A' Out c0 c1 c2 true t1 false e p' q')(hp:p' 0=q 2/\p' 1=q 0/\p' 2=q 1)(hq:q' 0=p 1/\q' 1=p 2/\q' 2=p 0)
 (kS:Kp n c1 (!t1) c0 c2 S) (hx:¬oU e x) (hy:¬oU e y):
 bh (λx=>x) (pairs A (vS c1 (!t1) c0 c2 S)) x y↔bh (λx=>x) (pairs A' S) x y:=by
 obtain⟨p0,p1,p2⟩:=hp;obtain⟨q0,q1,q2⟩:=hq
 have main:∀T,(∀k,k≠c0->k≠c1->k≠c2->T k=S k)->(∀O:eW,∀x y,bh (λx=>x) (O++o8 p q (T c0==true) (T c1==t1) (T c2==false)) x y↔bh (λx=>x) (O++o8 p' q' (S c0==true) (S c1==t1) (S c2==false)) x y) ->
  (bh (λx=>x) (pairs A T) x y↔bh (λx=>x) (pairs A' S) x y):=λT off k=>by
  rw[h.E,h'.E,h.dis.form (h.zo T) hx hy,h'.dis.form (h'.zo S) hx hy,k,h.out T S off]
 have eqv:∀(O l m:eW),(∀a∈l,a∈m\/(a.2,a.1)∈m)->(∀a∈m,a∈l\/(a.2,a.1)∈l)->∀x y,bh (λx=>x) (O++l) x y↔bh (λx=>x) (O++m) x y:=λO l m h1 h2 x y=>by
  have one:∀(l m:eW),(∀a∈l,a∈m\/(a.2,a.1)∈m)->∀{x y},bh (λx=>x) (O++l) x y->bh (λx=>x) (O++m) x y:=λl m h1 {x y}=>b9 λa ha=>by
   rcases jx.1 ha with ha|ha
   · exact aX (jx.2 (.inl ha))
   rcases h1 a ha with k|k
   · exact aX (jx.2 (.inr k))
   exact(aj _).symm (aX (e:=(a.2,a.1)) (jx.2 (.inr k)))
  exact⟨one l m h1,one m l h2⟩
 by_cases c:S c1=!t1
 · have e1:vS c1 (!t1) c0 c2 S=S:=if_pos c
   rw[e1]
   obtain⟨Si,Sj⟩:=kS.2.resolve_left λk=>k c
   refine main S (λ_ _ _ _=>rfl) λO x y=>?_
   rw[Si,Sj,zK c]
   refine eqv O _ _ ?_ ?_ x y<;>simp[o8,p0,p1,p2,q0,q1,q2]
 have e1:vS c1 (!t1) c0 c2 S=xe c0 c2 S:=if_neg c;rw[e1]
 refine main _ (λk k0 _ k2=>gH S k0 k2) λO x y=>?_
 rw[tA,tv,gH S (λk=>h.DR k.symm) h.n12,yx (Ge c)]
 cases a:S c0<;>cases b:S c2<;>refine eqv O _ _ ?_ ?_ x y<;>simp[o8,p0,p1,p2,q0,q1,q2]
end
def PE(c0 c1 c2 d:Nat):Bool:=decide (d=c0)||(decide (d=c1)||decide (d=c2))
theorem rj{c0 c1 c2 d:Nat}:PE c0 c1 c2 d=false↔d≠c0/\d≠c1/\d≠c2:=by unfold PE;simp
section
variable {X A:List Cr} {D:Nat->Dt} {es:List Nat}
theorem Ds{c h:Nat}(hc:c<A.length)(hh:h<4){f0 f1 f2 f3:Nat}(e0:aa A (c,h)=f0)(e1:aa A (c,(h+1)%4)=f1)(e2:aa A (c,(h+2)%4)=f2)(e3:aa A (c,(h+3)%4)=f3){a:Nat×Nat}:
 (∃s,s<4/\aI s=S c/\a=(aa A (c,s),aa A (c,(s+1)%4)))↔a∈(bif S c==aI h then [(f0,f1),(f2,f3)]else [(f1,f2),(f3,f0)]):=by
 have four:∀s,s<4->s=h\/s=(h+1)%4\/s=(h+2)%4\/s=(h+3)%4:=λs hs=>by omega
 cases b:S c==aI h
 · have b:S c=!aI h:=by cases x:S c<;>cases y:aI h<;>rw[x,y]at b<;>simp at b ⊢
   simp only[cond_false,jy,jz,or_false];constructor
   · rintro⟨s,hs,k,rfl⟩
     rcases four s hs with e|e|e|e
     · rw[e,b]at k;cases x:aI h<;>simp[x]at k
     · rw[e,show ((h+1)%4+1)%4=(h+2)%4 by omega,e1,e2];exact .inl rfl
     · rw[e,cw 2,b]at k;cases x:aI h<;>simp[x]at k
     rw[e,show ((h+3)%4+1)%4=h by omega,e3,e0];exact .inr rfl
   rintro(rfl|rfl)
   · exact⟨(h+1)%4,m4 h 1,by rw[cw 1,b];rfl,by rw[show ((h+1)%4+1)%4=(h+2)%4 by omega,e1,e2]⟩
   exact⟨(h+3)%4,m4 h 3,by rw[cw 3,b];rfl,by rw[show ((h+3)%4+1)%4=h by omega,e3,e0]⟩
 have b:S c=aI h:=by simpa using b
 simp only[cond_true,jy,jz,or_false];constructor
 · rintro⟨s,hs,k,rfl⟩
   rcases four s hs with e|e|e|e
   · rw[e,e0,e1];exact .inl rfl
   · rw[e,cw 1,b]at k;cases x:aI h<;>simp[x]at k
   · rw[e,show ((h+2)%4+1)%4=(h+3)%4 by omega,e2,e3];exact .inr rfl
   rw[e,cw 3,b]at k;cases x:aI h<;>simp[x]at k
 rintro(rfl|rfl)
 · exact⟨h,hh,b.symm,by rw[e0,e1]⟩
 exact⟨(h+2)%4,m4 h 2,by rw[cw 2,b];rfl,by rw[show ((h+2)%4+1)%4=(h+3)%4 by omega,e2,e3]⟩
theorem agT{c0 c1 c2 h0 h1 h2:Nat}{e p q:Nat->Nat}(hn:A.length=X.length)(l0:c0<A.length)(l1:c1<A.length)(l2:c2<A.length)(k0:h0<4)(k1:h1<4)(k2:h2<4)
 (off:∀k s,s<4->k≠c0->k≠c1->k≠c2->k<X.length->aa A (k,s)=aa X (k,s))
 (a0:aa A (c0,h0)=e 0/\aa A (c0,(h0+1)%4)=q 0/\aa A (c0,(h0+2)%4)=p 0/\aa A (c0,(h0+3)%4)=e 1)
 (a1:aa A (c1,h1)=e 1/\aa A (c1,(h1+1)%4)=q 1/\aa A (c1,(h1+2)%4)=p 1/\aa A (c1,(h1+3)%4)=e 2)
 (a2:aa A (c2,h2)=e 2/\aa A (c2,(h2+1)%4)=q 2/\aa A (c2,(h2+2)%4)=p 2/\aa A (c2,(h2+3)%4)=e 0)
 (S:Nat->Bool) (x y:Nat):bh (λx=>x) (pairs A S) x y↔bh (λx=>x) (pT X (PE c0 c1 c2) S++cj (S c0==aI h0) (S c1==aI h1) (S c2==aI h2) e p q) x y:=by
 have t0:=λ{a}=>Ds (S:=S) (a:=a) l0 k0 a0.1 a0.2.1 a0.2.2.1 a0.2.2.2
 have t1:=λ{a}=>Ds (S:=S) (a:=a) l1 k1 a1.1 a1.2.1 a1.2.2.1 a1.2.2.2
 have t2:=λ{a}=>Ds (S:=S) (a:=a) l2 k2 a2.1 a2.2.1 a2.2.2.1 a2.2.2.2
 have mem:∀a,a∈pairs A S↔a∈pT X (PE c0 c1 c2) S++cj (S c0==aI h0) (S c1==aI h1) (S c2==aI h2) e p q:=λa=>by
  unfold cj;rw[jx,jx,jx,<-t0,<-t1,<-t2,mr,dX];constructor
  · rintro⟨k,s,hk,hs,e1,rfl⟩
    by_cases d0:k=c0
    · subst d0;exact .inr (.inl ⟨s,hs,e1,rfl⟩)
    by_cases d1:k=c1
    · subst d1;exact .inr (.inr (.inl ⟨s,hs,e1,rfl⟩))
    by_cases d2:k=c2
    · subst d2;exact .inr (.inr (.inr ⟨s,hs,e1,rfl⟩))
    exact .inl ⟨k,s,by omega,rj.2 ⟨d0,d1,d2⟩,hs,e1,by rw[off k s hs d0 d1 d2 (by omega),off k _ (m4 s 1) d0 d1 d2 (by omega)]⟩
  rintro(⟨k,s,hk,g,hs,e1,rfl⟩|⟨s,hs,e1,rfl⟩|⟨s,hs,e1,rfl⟩|⟨s,hs,e1,rfl⟩)
  · obtain⟨d0,d1,d2⟩:=rj.1 g
    exact⟨k,s,by omega,hs,e1,by rw[off k s hs d0 d1 d2 hk,off k _ (m4 s 1) d0 d1 d2 hk]⟩
  · exact⟨c0,s,l0,hs,e1,rfl⟩
  · exact⟨c1,s,l1,hs,e1,rfl⟩
  exact⟨c2,s,l2,hs,e1,rfl⟩
 exact⟨b9 λa ha=>aX ((mem a).1 ha),b9 λa ha=>aX ((mem a).2 ha)⟩
theorem LH{gone:Nat->Bool}{S T:Nat->Bool}(h:∀k,gone k=false->S k=T k):pT X gone S=pT X gone T:=by
 unfold pT
 have:∀l:List Nat,(∀k∈l,S k=T k)->l.flatMap (Aw X S)=l.flatMap (Aw X T):=λl hl=>by
  induction l with
  |nil=>rfl
  |cons a l ih=>
   rw[flatMap_cons,flatMap_cons,ih λk hk=>hl k (by simp[hk])]
   unfold Aw;rw[hl a (by simp)]
 exact this _ λk hk=>h k (nY.1 hk).2
theorem di.c3(h:di X D)(i k:Nat):aK X D (i+3) k=aK X D i k:=h.gW (by omega) rfl
theorem di.a0(h:di X D)(i:Nat):aa X (aK X D i 0)=(D i).1:=by rw[h.CY];exact h.ok.bH (h.ie i)
theorem di.a3(h:di X D)(i:Nat):aa X (aK X D i 3)=(D (i+1)).1:=by
 rw[<-h.a0 (i+1),<-h.Co];exact(h.ok.cK (h.pl i 3)).symm
theorem di.aiE(h:di X D)(i:Nat){P:Pl}(hP:aq X P):aa X P=(D i).1↔P=aK X D i 0\/P=aK X D (i+2) 3:=by
 rw[<-h.a0,<-h.pW];constructor
 · exact λk=>(h.ok.p9 (h.pl i 0) hP).1 k.symm
 exact λk=>((h.ok.p9 (h.pl i 0) hP).2 k).symm
theorem di.T3(h:di X D){P:Pl}(hP:aq X P)(k:∀i,P≠aK X D i 0/\P≠aK X D i 3):¬oU (λi=>(D i).1) (aa X P):=by
 rintro(e|e|e)<;>rcases (h.aiE _ hP).1 e with q|q
 · exact(k _).1 q
 · exact(k _).2 q
 · exact(k _).1 q
 · exact(k _).2 q
 · exact(k _).1 q
 exact(k _).2 q
theorem di.sJ(h:di X D)(i:Nat)(hk:k=1\/k=2):¬oU (λi=>(D i).1) (aa X (aK X D i k)):=
 h.T3 (h.pl i k) λj=>⟨λe=>by have:=h.I9 e;omega,λe=>by have:=h.I9 e;omega⟩
theorem di.Q5(h:di X D)(k:i%3≠j%3):(D i).1≠(D j).1:=λe=>by
 rw[<-h.a0 i]at e
 rcases (h.aiE j (h.pl i 0)).1 e with q|q
 · exact k (h.I9 q).1
 have:=(h.I9 q).2;omega
theorem di.agD(h:di X D)(hk:k<X.length)(hs:s<4)(n0:k≠(head X (D 0)).1)(n1:k≠(head X (D 1)).1)(n2:k≠(head X (D 2)).1):∀i,k≠(head X (D i)).1:=λi e=>by
 have:i%3=0\/i%3=1\/i%3=2:=by omega
 rcases this with c|c|c
 · exact n0 (by rw[e,h.mod (i:=i) (j:=0) c])
 · exact n1 (by rw[e,h.mod (i:=i) (j:=1) c])
 exact n2 (by rw[e,h.mod (i:=i) (j:=2) c])
theorem di.td(h:di X D)(t0:aI (head X (D 0)).2=true)(t2:aI (head X (D 2)).2=false):
 TD X (pT X (PE (head X (D 0)).1 (head X (D 1)).1 (head X (D 2)).1)) (head X (D 0)).1 (head X (D 1)).1 (head X (D 2)).1 true (aI (head X (D 1)).2) false (λi=>(D i).1) (λi=>aa X (aK X D i 2)) λi=>aa X (aK X D i 1) where
 E:=λS x y=>by
  have k:=λi=>h.ok.bg (h.ie i)
  have z:∀i,aa X ((head X (D i)).1,(head X (D i)).2)=(D i).1:=λi=>by have:=h.a0 i;rwa [h.CY]at this
  have w:D 3=D 0:=h.per 0;rw[<-t0,<-t2];exact agT (e:=λi=>(D i).1) (p:=λi=>aa X (aK X D i 2)) (q:=λi=>aa X (aK X D i 1)) rfl (k 0).1 (k 1).1 (k 2).1 (k 0).2 (k 1).2 (k 2).2 (λ_ _ _ _ _ _ _=>rfl) ⟨z 0,rfl,rfl,h.a3 0⟩ ⟨z 1,rfl,rfl,h.a3 1⟩ ⟨z 2,rfl,rfl,by rw[<-w];exact h.a3 2⟩ S x y
 out:=λS T k=>LH λd g=>by obtain⟨a,b,c⟩:=rj.1 g;exact k d a b c
 zo:=λS a ha=>by
  obtain⟨k,s,hk,g,hs,_,rfl⟩:=mr.1 ha;obtain⟨d0,d1,d2⟩:=rj.1 g;have n:=h.agD hk hs d0 d1 d2
  exact⟨h.T3 (P:=(k,s)) ⟨hk,hs⟩ λi=>⟨λe=>n i (congrArg Prod.fst e),λe=>n i (congrArg Prod.fst e)⟩,
   h.T3 (P:=(k,(s+1)%4)) ⟨hk,m4 s 1⟩ λi=>⟨λe=>n i (congrArg Prod.fst e),λe=>n i (congrArg Prod.fst e)⟩⟩
 dis:=⟨h.Q5 (by omega),h.Q5 (by omega),h.Q5 (by omega),h.sJ 0 (.inr rfl),h.sJ 1 (.inr rfl),h.sJ 2 (.inr rfl),h.sJ 0 (.inl rfl),h.sJ 1 (.inl rfl),h.sJ 2 (.inl rfl)⟩
 l0:=(h.ok.bg (h.ie 0)).1
 l1:=(h.ok.bg (h.ie 1)).1
 l2:=(h.ok.bg (h.ie 2)).1
 DR:=h.ne 0
 R5:=λe=>by have:=h.apart e;omega
 n12:=h.ne 1
theorem V4(h:di X D)(he:kO D es){P:Pl}(hP:aq X P):aa (aN X es) P=aa X (gS X es P):=by unfold aa;rw[gU hP]
theorem di.tdY(h:di X D)(he:kO D es)(t0:aI (head X (D 0)).2=true)(t2:aI (head X (D 2)).2=false):
 TD (aN X es) (pT X (PE (head X (D 0)).1 (head X (D 1)).1 (head X (D 2)).1)) (head X (D 0)).1 (head X (D 1)).1 (head X (D 2)).1 true (aI (head X (D 1)).2) false (λi=>(D i).1) (λi=>aa X (aK X D (i+2) 1)) λi=>aa X (aK X D (i+1) 2) where
 E:=λS x y=>by
  have k:=λi=>h.ok.bg (h.ie i)
  have hl:(aN X es).length=X.length:=bR X es
  have P:∀i j,aq X (aK X D i j):=h.pl
  have y0:∀i,aa (aN X es) (aK X D i 2)=(D i).1:=λi=>by rw[V4 h he (P i 2),h.t2 he,h.a3,h.per]
  have y1:∀i,aa (aN X es) (aK X D i 3)=aa X (aK X D (i+1) 2):=λi=>by rw[V4 h he (P i 3),h.t3 he]
  have y2:∀i,aa (aN X es) (aK X D i 0)=aa X (aK X D (i+2) 1):=λi=>by rw[V4 h he (P i 0),h.t0 he]
  have y3:∀i,aa (aN X es) (aK X D i 1)=(D (i+1)).1:=λi=>by rw[V4 h he (P i 1),h.t1 he,h.a0]
  have w:D 3=D 0:=h.per 0
  have pq:∀i,aI (((head X (D i)).2+2)%4)=aI (head X (D i)).2:=λi=>by rw[cw 2];rfl
  have r:∀i j,(((head X (D i)).1,(((head X (D i)).2+2)%4+j)%4):Pl)=aK X D i (j+2):=λi j=>Prod.ext rfl (by show (((head X (D i)).2+2)%4+j)%4=((head X (D i)).2+(j+2))%4;omega)
  have r4:∀i,aK X D i (2+2)=aK X D i 0:=λi=>h.gW rfl (by omega)
  have r5:∀i,aK X D i (3+2)=aK X D i 1:=λi=>h.gW rfl (by omega)
  rw[<-t0,<-t2,<-pq 0,<-pq 1,<-pq 2]
  refine agT (e:=λi=>(D i).1) (p:=λi=>aa X (aK X D (i+2) 1)) (q:=λi=>aa X (aK X D (i+1) 2)) hl (by rw[hl];exact(k 0).1) (by rw[hl];exact(k 1).1) (by rw[hl];exact(k 2).1) (m4 _ 2) (m4 _ 2) (m4 _ 2) (λc s hs d0 d1 d2 hc=>?_) ⟨y0 0,?_,?_,?_⟩ ⟨y0 1,?_,?_,?_⟩ ⟨y0 2,?_,?_,?_⟩ S x y
  · rw[V4 h he (P:=(c,s)) ⟨hc,hs⟩,h.tx he (p:=(c,s)) (h.agD hc hs d0 d1 d2)]
  · rw[r];exact y1 0
  · rw[r,r4];exact y2 0
  · rw[r,r5];exact y3 0
  · rw[r];exact y1 1
  · rw[r,r4];exact y2 1
  · rw[r,r5];exact y3 1
  · rw[r];exact y1 2
  · rw[r,r4];exact y2 2
  rw[r,r5,y3 2,w]
 out:=(h.td t0 t2).out
 zo:=(h.td t0 t2).zo
 dis:=⟨h.Q5 (by omega),h.Q5 (by omega),h.Q5 (by omega),h.sJ 2 (.inl rfl),h.sJ 3 (.inl rfl),h.sJ 4 (.inl rfl),h.sJ 1 (.inr rfl),h.sJ 2 (.inr rfl),h.sJ 3 (.inr rfl)⟩
 l0:=by rw[bR];exact(h.td t0 t2).l0
 l1:=by rw[bR];exact(h.td t0 t2).l1
 l2:=by rw[bR];exact(h.td t0 t2).l2
 DR:=(h.td t0 t2).DR
 R5:=(h.td t0 t2).R5
 n12:=(h.td t0 t2).n12
theorem IB(X:List Cr)(es:List Nat)(q:Bool->Bool):((range (aN X es).length).countP λk=>q (cr (aN X es) k).p)=(range X.length).countP λk=>q (cr X k).p:=by
 rw[bR]
 refine dH λk hk=>?_
 rw[nD (jw.1 hk)]
theorem di.kh0(h:di X D)(he:kO D es)(hp:aJ X=true)(hpY:aJ (aN X es)=true)(t0:aI (head X (D 0)).2=true)(t2:aI (head X (D 2)).2=false)(L:Nat)
 (hU:(eF X L).All U) (hV:(eF (aN X es) L).All V) (i:oP):Kh X L U i=Kh (aN X es) L V i:=by
 have T:=h.td t0 t2;have T':=h.tdY he t0 t2;have hl:(aN X es).length=X.length:=bR X es
 have hN:ag (aN X es)=ag X:=by unfold ag;rw[hl]
 have zP:∀x,oU (λi=>(D i).1) x->1<=x/\x<=ag X+L:=λx hx=>by
  have a:=λi=>h.ie i
  rcases hx with rfl|rfl|rfl
  · have:=a 0;exact⟨this.1,by have:=this.2;show (D 0).1<=_;omega⟩
  · have:=a 1;exact⟨this.1,by have:=this.2;show (D 1).1<=_;omega⟩
  have:=a 2;exact⟨this.1,by have:=this.2;show (D 2).1<=_;omega⟩
 have bX:=T.big (L:=L) (h.ok.eF hp L) zP
 have bY:=T'.big (L:=L) ((h.Og he).eF hpY L) λx hx=>by
  show 1<=x/\x<=ag (aN X es)+L
  rw[hN];exact zP x hx
 have e1:uJ (aN X es)=uJ X:=IB X es λb=>b
 have e2:ml (aN X es)=ml X:=IB X es λb=>!b
 unfold Kh;rw[e1,e2]
 refine bX.Lh bY hl.symm (λp=>?_) (λk=>T.DR k.symm) T.n12 T.l1 (λS kS o o' ho mH=>?_) hU hV _ _ i
 · show 1<=p/\p<=ag X+L↔1<=p/\p<=ag (aN X es)+L
   rw[hN]
 refine T.amo T' ⟨rfl,?_,?_⟩ ⟨rfl,rfl,?_⟩ kS ho.2 mH.2
 · show aa X (aK X D 3 1)=aa X (aK X D 0 1)
   rw[h.c3 0]
 · show aa X (aK X D 4 1)=aa X (aK X D 1 1)
   rw[h.c3 1]
 show aa X (aK X D 3 2)=aa X (aK X D 0 2)
 rw[h.c3 0]
theorem di.shift(h:di X D)(t:Nat):di X λi=>D (i+t) where
 ok:=h.ok
 ie:=λi=>h.ie _
 nx:=λi=>by have:=h.nx (i+t);rwa [show i+t+1=i+1+t by omega]at this
 per:=λi=>by rw[show i+3+t=i+t+3 by omega];exact h.per _
 ne:=λi=>by have:=h.ne (i+t);rwa [show i+t+1=i+1+t by omega]at this
theorem di.esh(h:di X D)(he:kO D es)(t:Nat):kO (λi=>D (i+t)) es:=λe=>by
 rw[he e];constructor
 · rintro⟨i,rfl⟩
   exact⟨i+2*t,by show (D i).1=(D (i+2*t+t)).1;rw[h.mod (i:=i+2*t+t) (j:=i) (by omega)]⟩
 rintro⟨i,rfl⟩;exact⟨_,rfl⟩
theorem Ok.Uy(hX:Ok X)(hp:aJ X=true)(hf:f∈aA X)(hs:dS X f=true)(hpY:aJ (aN X (f.map (·.1)))=true)(L:Nat)
 (hU:(Kn.eF X L).All U) (hV:(Kn.eF (aN X (f.map (·.1))) L).All V) (i:oP):Kh X L U i=Kh (aN X (f.map (·.1))) L V i:=by
 obtain⟨D,h,he,hm⟩:=vT hX hf hs
 obtain⟨d,hd,ho⟩:∃d∈f,mj X d.1=true:=by
  unfold dS at hs;simp only[jp,jh]at hs;have:=hs.1.2
  have h1:0<f.countP (λd=>mj X d.1):=by omega
  exact List.countP_pos_iff.1 h1
 obtain⟨t,rfl⟩:=(hm d).1 hd;have h':=h.shift t;have Hn:=h.esh he t
 have key:(aK X (λi=>D (i+t)) 0 0).2%2=1/\(aK X (λi=>D (i+t)) 2 3).2%2=1:=by
  unfold mj at ho;simp only[jp,jh]at ho;have en:=h'.ends 0;simp only[Nat.zero_add]at en
  rcases en with⟨a1,a2⟩|⟨a1,a2⟩<;>rw[a1,a2]at ho
  · exact ho
  exact⟨ho.2,ho.1⟩
 have k0:=(h'.ok.bg (h'.ie 0)).2;have k2:=(h'.ok.bg (h'.ie 2)).2;unfold aK at key;simp only at key k0 k2;exact h'.kh0 Hn hp hpY (by unfold aI;rw[jt];show (head X (D (0+t))).2%2=1;omega) (by unfold aI;rw[jF];show ¬(head X (D (2+t))).2%2=1;omega) L hU hV i
end
end Go.Proofs.YtfplmbmenjdlhaaGreatDoor.Kn
