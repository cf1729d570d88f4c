/- Plain mathematics of diagrams, joined: the second part. -/
import Derived.Test.YtfplmbmenjdlhaaGreatDoorMAlla
set_option linter.unusedVariables false
namespace Go.Proofs.YtfplmbmenjdlhaaGreatDoor.Kn
open Eq (symm)
open List (countP_nil filter_beq filter_congr map_cons map_nil mem_flatMap pairwise_cons pairwise_map range)
open List.Pairwise (imp_of_mem)
open Nat (zero_add)
variable {H:(Nat->Bool)->Prop} {X:List Cr} {l:List Nat} {f g:Mk} {N a i j k m n s t x y:Nat} {e:Nat×Nat} {S gone:Nat->Bool} {fx:Nat->Option Bool} {O:Nat->Prop} {p q:Pl} {E R:Rl}
noncomputable def rkN {α:Type} (l:List (Ve α)):Nat:=Classical.choose (Rk.ex l)
theorem rE{α:Type}(l:List (Ve α)):Rk l (rkN l):=Classical.choose_spec (Rk.ex l)
theorem Cc{α:Type}{l:List (Ve α)}(h:Rk l n):rkN l=n:=(rE l).one h
abbrev oP:=Int×Int
def zY(d:oP):oP:=(d.1+1,d.2)
def pre(d:oP):oP:=(d.1-1,d.2)
theorem NP(d:oP):zY (pre d)=d:=by unfold zY pre;simp
theorem A1(d:oP):pre (zY d)=d:=by unfold zY pre;simp
theorem NQ(i j:oP)(h:zY i=zY j):i=j:=by rw[<-A1 i,h,A1]
section
variable {α β:Type}
def at'(U:List α)(g:α->oP)(i:oP):List α:=U.filter λx=>decide (g x=i)
theorem iP{U:List α}{g:α->oP}{i:oP}{x:α}:x∈at' U g i↔x∈U/\g x=i:=by unfold at';rw[jC,jt]
noncomputable def Cb (U:List α) (M:α->α->Bool) (g:α->oP) (i:oP):Nat:=rkN ((at' U g i).map M)
noncomputable def hn (U:List α) (M:α->α->Bool) (g:α->oP) (i:oP):Int:=(at' U g i).length-Cb U M g i-Cb U M g (pre i)
theorem Gq{U:List α}{V:List β}(hU:U.Nodup)(hV:V.Nodup)(t:α->β)(h1:∀x∈U,t x∈V)(h2:∀x∈U,∀y∈U,t x=t y->x=y)(h3:∀v∈V,∃x∈U,t x=v):U.length=V.length:=by
 have n:(U.map t).Nodup:=by
  rw[List.Nodup,pairwise_map]
  refine imp_of_mem ?_ hU
  intro a b ha hb hne e;exact hne (h2 a ha b hb e)
 have a:=tN n (m:=V) λx hx=>by obtain⟨y,hy,rfl⟩:=jv.1 hx;exact h1 y hy
 have b:=tN hV (m:=U.map t) λx hx=>by obtain⟨y,hy,rfl⟩:=h3 x hx;exact jv.2 ⟨y,hy,rfl⟩
 rw[jA]at a b;omega
structure M8(U:List α)(M:α->α->Bool)(g:α->oP)(V:List β)(W:β->β->Bool)(k:β->oP)(t:α->β):Prop where
 nd:U.Nodup
 nd':V.Nodup
 into:∀x∈U,t x∈V
 inj:∀x∈U,∀y∈U,t x=t y->x=y
 LJ:∀v∈V,∃x∈U,t x=v
 sup:∀y∈U,∀x,M y x=true->x∈U
 agh:∀y∈V,∀x,W y x=true->x∈V
 tab:∀y∈U,∀x∈U,M y x=W (t y) (t x)
 J5:∀y∈U,k (t y)=g y
section
variable {U:List α} {M:α->α->Bool} {g:α->oP} {V:List β} {W:β->β->Bool} {k:β->oP} {t:α->β}
theorem M8.len(h:M8 U M g V W k t)(i:oP):(at' U g i).length=(at' V k i).length:=by
 refine Gq (h.nd.filter _) (h.nd'.filter _) t (λx hx=>?_) (λx hx y hy=>h.inj x (iP.1 hx).1 y (iP.1 hy).1) λv hv=>?_
 · obtain⟨a,b⟩:=iP.1 hx
   exact iP.2 ⟨h.into x a,by rw[h.J5 x a,b]⟩
 obtain⟨a,b⟩:=iP.1 hv;obtain⟨x,hx,rfl⟩:=h.LJ v a;exact⟨x,iP.2 ⟨hx,by rw[<-h.J5 x hx,b]⟩,rfl⟩
theorem M8.Cb(h:M8 U M g V W k t)(i:oP):Cb U M g i=Kn.Cb V W k i:=by
 obtain⟨T,hT⟩:∃T:Ve β->Ve α,T=λv x=>tr (x∈U)&&v (t x):=⟨_,rfl⟩
 have WY:Zv T:=λu v=>by funext x;rw[hT];simp[dp,Bool.and_xor_distrib_left]
 have r:=rE ((at' V k i).map W)
 have row:∀y∈U,T (W (t y))=M y:=λy hy=>by
  funext x;rw[hT]
  show (tr (x∈U)&&W (t y) (t x))=M y x
  by_cases c:x∈U
  · rw[bf.2 c,h.tab y hy x c];rfl
  rw[br.2 c];cases e:M y x
  · rfl
  exact absurd (h.sup y hy x e) c
 have r2:=r.map WY λu hu hz=>by
  funext v;by_cases c:v∈V
  · obtain⟨x,hx,rfl⟩:=h.LJ v c
    have:=congrFun hz x;rw[hT]at this;simpa[bf.2 hx,vz]using this
  refine hu.wR (x:=v) λw hw=>?_
  obtain⟨y,hy,rfl⟩:=jv.1 hw;cases e:W y v
  · rfl
  exact absurd (h.agh y (iP.1 hy).1 v e) c
 rw[List.map_map]at r2;unfold Kn.Cb
 refine(rE _).uniq r2 (λv hv=>.mem ?_) λv hv=>.mem ?_
 · obtain⟨y,hy,rfl⟩:=jv.1 hv
   obtain⟨a,b⟩:=iP.1 hy;exact jv.2 ⟨t y,iP.2 ⟨h.into y a,by rw[h.J5 y a,b]⟩,row y a⟩
 obtain⟨w,hw,rfl⟩:=jv.1 hv;obtain⟨a,b⟩:=iP.1 hw;obtain⟨y,hy,rfl⟩:=h.LJ w a;exact jv.2 ⟨y,iP.2 ⟨hy,by rw[<-h.J5 y hy,b]⟩,(row y hy).symm⟩
theorem M8.hn(h:M8 U M g V W k t)(i:oP):hn U M g i=Kn.hn V W k i:=by
 unfold Kn.hn;rw[h.len,h.Cb,h.Cb]
end
section
variable {U:List α} {M:α->α->Bool} {κ:α->Nat} {φ ψ:α->α} {g:α->oP}
theorem EZ(κ:α->Nat):∀{l:List α},(∀x∈l,κ x=0\/κ x=1\/κ x=2)->l.length=(l.filter λx=>decide (κ x=0)).length+(l.filter λx=>decide (κ x=1)).length+(l.filter λx=>decide (κ x=2)).length
 |[],_=>rfl
 |a :: l,h=>by
  have ih:=EZ κ (l:=l) λx hx=>h x (by simp[hx])
  rcases h a (by simp)with c|c|c<;>simp[c,ih]<;>omega
theorem zL(i:oP)(p:α->Prop)[DecidablePred p]:(at' U g i).filter (λx=>decide (p x))=U.filter λx=>decide (g x=i/\p x):=by
 unfold at';rw[List.filter_filter]
 refine filter_congr λx _=>?_
 by_cases a:g x=i<;>by_cases b:p x<;>simp[a,b]
theorem uv.hn(h:uv U M κ φ ψ g zY)(i:oP):Kn.hn U M g i=Kn.hn (U.filter λx=>decide (κ x=0)) (Ov U M κ φ) g i:=by
 have e0:∀i,at' (U.filter λx=>decide (κ x=0)) g i=U.filter λx=>decide (g x=i/\κ x=0):=λi=>by
  unfold at';rw[List.filter_filter]
  refine filter_congr λx _=>?_
  by_cases a:g x=i<;>by_cases b:κ x=0<;>simp[a,b]
 have r:∀i,Cb U M g i=(U.filter λx=>decide (g x=i/\κ x=1)).length+Cb (U.filter λx=>decide (κ x=0)) (Ov U M κ φ) g i:=λi=>by
  unfold Cb;rw[e0];exact h.ams i (rE _) (rE _)
 have l:=EZ κ (l:=at' U g i) λx hx=>h.hk x (iP.1 hx).1
 rw[zL,zL,zL]at l
 have q:(U.filter λx=>decide (g x=pre i/\κ x=1)).length=(U.filter λx=>decide (g x=i/\κ x=2)).length:=by
  have mf:∀{p:α->Prop} [DecidablePred p] {x:α},x∈U.filter (λx=>decide (p x))↔x∈U/\p x:=λ{p _ x}=>by rw[jC,jt]
  refine Gq (h.nd.filter _) (h.nd.filter _) φ (λx hx=>?_) (λx hx y hy e=>?_) λv hv=>?_
  · obtain⟨a,b,c⟩:=mf.1 hx
    obtain⟨h1,h2,_⟩:=h.hp x a c;exact mf.2 ⟨h1,by rw[h.J5 x a _ (h.self a c),b,NP],h2⟩
  · obtain⟨a,_,c⟩:=mf.1 hx
    obtain⟨a',_,c'⟩:=mf.1 hy;rw[<-(h.hp x a c).2.2,e,(h.hp y a' c').2.2]
  obtain⟨a,b,c⟩:=mf.1 hv;obtain⟨h1,h2,h3⟩:=h.hq v a c;refine⟨ψ v,mf.2 ⟨h1,?_,h2⟩,h3⟩;have:=h.J5 _ h1 _ (h.self h1 h2);rw[h3,b]at this;rw[this,A1]
 unfold Kn.hn;rw[r,r,e0];omega
theorem Gp(h:uv U M κ φ ψ g zY):∀y∈U,∀x,Ov U M κ φ y x=true->x∈U.filter λx=>decide (κ x=0):=λy hy x e=>by
 unfold Ov at e;rw[jp]at e
 refine jC.2 ⟨js λc=>?_,e.1⟩
 have:=h.bps hy c;unfold bp dp at this
 rw[this]at e;simp at e
end
end
structure bI where
 n:Nat
 P:Nat->Prop
 E:(Nat->Bool)->Rl
 a:Nat->Nat
 c:Nat->Nat
def bC(S:Nat->Bool)(k:Nat):Nat->Bool:=λj=>if j=k then true else S j
def gC(S:Nat->Bool)(k:Nat):Nat->Bool:=λj=>if j=k then false else S j
theorem bK(S:Nat->Bool)(k:Nat):bC S k k=true:=if_pos rfl
theorem az(S:Nat->Bool)(h:j≠k):bC S k j=S j:=if_neg h
theorem fy(S:Nat->Bool)(k:Nat):gC S k k=false:=if_pos rfl
theorem eT(S:Nat->Bool)(h:j≠k):gC S k j=S j:=if_neg h
theorem wV(S:Nat->Bool)(k j:Nat):bC (bC S k) j=bC (bC S j) k:=funext λx=>by
 unfold bC;by_cases a:x=k<;>by_cases b:x=j<;>simp[a,b]
theorem sx(S:Nat->Bool)(h:S k=true):bC (gC S k) k=S:=funext λx=>by
 by_cases a:x=k
 · rw[a,bK,h]
 rw[az _ a,eT _ a]
theorem vG(S:Nat->Bool)(h:S k=false):gC (bC S k) k=S:=funext λx=>by
 by_cases a:x=k
 · rw[a,fy,h]
 rw[eT _ a,az _ a]
theorem XA(hk:S k=false)(h:bC S k=bC S j):k=j:=by
 have:=congrFun h k;rw[bK]at this;by_cases c:k=j
 · exact c
 rw[az _ c,hk]at this;cases this
abbrev El:=(Nat->Bool)×Mk
structure bI.Ok(B:bI):Prop where
 eq:∀S,Equivalence (B.E S)
 pt:∀S x y,B.E S x y->x=y\/(B.P x/\B.P y)
 ac:∀k,k<B.n->B.P (B.a k)/\B.P (B.c k)
 Fw:∀S k,k<B.n->S k=false->BB (B.E S) (B.E (bC S k)) (B.a k) (B.c k)
 fin:∃N,∀p,B.P p->p<N
structure bI.Good(B:bI)(x:El):Prop where
 sup:∀k,B.n<=k->x.1 k=false
 pt:∀p,¬B.P p->x.2 p=false
 fA:j6 (B.E x.1) x.2
noncomputable def bI.dE (B:bI) (S:Nat->Bool) (k:Nat) (f:Mk):List Mk:=Kn.dE (B.E S) (B.E (bC S k)) (B.a k) (B.c k) f
noncomputable def bI.dl (B:bI) (y:El):List El:=(range B.n).flatMap λk=>if y.1 k then []else(B.dE y.1 k y.2).map λg=>(bC y.1 k,g)
noncomputable def bI.M (B:bI) (y x:El):Bool:=par (B.dl y) λz=>tr (z=x)
theorem Jc{α:Type}{U:List α}(hU:U.Nodup)(q:α->Bool):∀{l:List α},(∀x∈l,x∈U)->par U (λz=>par l (λw=>tr (w=z))&&q z)=par l q
 |[],_=>gJ λx _=>rfl
 |a :: l,h=>by
  have e:(λz=>par (a :: l) (λw=>tr (w=z))&&q z)=λz=>xor (tr (a=z)&&q z) (par l (λw=>tr (w=z))&&q z):=by
   funext z;rw[dy,Bool.and_xor_distrib_right]
  rw[e,uL,Jc hU q λx hx=>h x (by simp[hx]),dy]
  congr 1
  rw[rJ hU (h a (by simp)) λx _ hne=>by rw[br.2 λe=>hne e.symm];rfl,bf.2 rfl];rfl
theorem xA{α:Type}{l:List α}{p:α->Bool}(h:par l p=true):∃x∈l,p x=true:=by
 refine js λc=>?_
 rw[gJ λx hx=>?_]at h
 · cases h
 cases e:p x
 · rfl
 exact absurd ⟨x,hx,e⟩ c
theorem N6{c:Nat->Nat->Bool}(h:∀i j,c i j=c j i)(h0:∀i,c i i=false):∀n:Nat,par (range n) (λi=>par (range n) (c i))=false
 |0=>rfl
 |n+1=>by
  have ih:=N6 h h0 n;rw[jO,lu]
  have e:(λi=>par (range n++[n]) (c i))=λi=>xor (par (range n) (c i)) (c i n):=by
   funext i;rw[lu];simp[par]
  rw[e,uL,ih];simp only[par,List.foldr_cons,List.foldr_nil,h0]
  have:(range n).foldr (λx b=>xor (c x n) b) false=(range n).foldr (λx b=>xor (c n x) b) false:=by
   congr 1;funext x b;rw[h]
  rw[this];simp
section
variable {B:bI} {U:List El}
theorem bI.Good.step(h:B.Ok){y:El}(hy:B.Good y)(hk:k<B.n)(hS:y.1 k=false)(hg:g∈B.dE y.1 k y.2):B.Good (bC y.1 k,g):=by
 have ad:=h.Fw y.1 k hk hS;refine⟨λj hj=>?_,λp hp=>?_,ad.fA hy.fA g hg⟩
 · show bC y.1 k j=false
   rw[az _ (by omega)];exact hy.sup j hj
 show g p=false
 have h0:=hy.pt p hp;unfold bI.dE Kn.dE Iz KW at hg
 split at hg<;>split at hg
 · simp at hg;rcases hg with rfl|rfl<;>(unfold st;rw[h0];rfl)
 · simp at hg;subst hg;exact h0
 · simp at hg;subst hg;exact h0
 split at hg
 · simp at hg;subst hg;unfold st;rw[h0];rfl
 cases hg
theorem bI.Ul{y x:El}:x∈B.dl y↔∃k,k<B.n/\y.1 k=false/\x.1=bC y.1 k/\x.2∈B.dE y.1 k y.2:=by
 unfold bI.dl;rw[mem_flatMap];constructor
 · rintro⟨k,hk,hx⟩
   cases e:y.1 k
   · rw[e]at hx
     simp only[jN,if_false,jv]at hx;obtain⟨g,hg,rfl⟩:=hx;exact⟨k,jw.1 hk,e,rfl,hg⟩
   rw[e]at hx;simp at hx
 rintro⟨k,hk,e,h1,h2⟩;refine⟨k,jw.2 hk,?_⟩;rw[e];simp only[jN,if_false,jv];exact⟨x.2,h2,by rw[<-h1]⟩
theorem bI.mM{y x:El}(h:B.M y x=true):∃k,k<B.n/\y.1 k=false/\x.1=bC y.1 k/\x.2∈B.dE y.1 k y.2:=by
 obtain⟨z,hz,e⟩:=xA h;rw[bf.1 e]at hz;exact Ul.1 hz
theorem bI.DA{y x:El}(hk:k<B.n)(hS:y.1 k=false)(hx:x.1=bC y.1 k):B.M y x=par (B.dE y.1 k y.2) λg=>tr (g=x.2):=by
 unfold bI.M bI.dl;rw[dK,rJ (y:=k) jK (jw.2 hk)]
 · rw[hS]
   simp only[jN,if_false];rw[lS]
   refine dW λg _=>fj ⟨λe=>by rw[<-e],λe=>by rw[e,<-hx]⟩
 intro j _ hne;cases e:y.1 j
 · simp only[jN,if_false]
   rw[lS]
   refine gJ λg _=>br.2 λe'=>hne (XA e ?_)
   rw[<-hx,<-e']
 simp[par]
theorem bI.Ok.dd(h:B.Ok){y:El}(hy:B.Good y):yM ((B.dl y).flatMap B.dl) []:=by
 intro p
 show _=false
 rw[dK]
 have e1:par (B.dl y) (λx=>par (B.dl x) p)=par (range B.n) λk=>par (range B.n) λl=>
  if y.1 k=true\/y.1 l=true\/k=l then false else par ((B.dE y.1 k y.2).flatMap (B.dE (bC y.1 k) l)) λg=>p (bC (bC y.1 k) l,g):=by
  unfold bI.dl;rw[dK]
  refine dW λk _=>?_
  cases e:y.1 k;rotate_left
  · simp only[if_true]
    exact(gJ λl _=>if_pos (.inl trivial)).symm
  simp only[jN,if_false,false_or];rw[lS]
  have:∀g:Mk,par ((range B.n).flatMap λl=>if bC y.1 k l=true then []else(B.dE (bC y.1 k) l g).map λg=>(bC (bC y.1 k) l,g)) p =
   par (range B.n) λl=>if y.1 l=true\/k=l then false else par (B.dE (bC y.1 k) l g) λg=>p (bC (bC y.1 k) l,g):=λg=>by
   rw[dK]
   refine dW λl _=>?_
   by_cases c:k=l
   · subst c;rw[bK];simp[par]
   rw[az _ λe=>c e.symm];cases d:y.1 l
   · simp only[jN,if_false,false_or,c];rw[lS]
   simp[par]
  simp only[this]
  have sw:∀(L:List Mk) (q:Nat->Mk->Bool),par L (λg=>par (range B.n) λl=>q l g)=par (range B.n) λl=>par L (q l):=by
   intro L q
   induction L with
   |nil=>exact(gJ λ_ _=>rfl).symm
   |cons a L ih=>rw[dy,ih,<-uL];exact dW λl _=>rfl
  rw[sw]
  refine dW λl _=>?_
  by_cases c:y.1 l=true\/k=l
  · simp only[if_pos c];exact gJ λ_ _=>rfl
  simp only[if_neg c];rw[dK]
 rw[e1]
 obtain⟨c,hc⟩:∃c:Nat->Nat->Bool,c=λk l=>if k<B.n/\l<B.n then(if y.1 k=true\/y.1 l=true\/k=l then false else par ((B.dE y.1 k y.2).flatMap (B.dE (bC y.1 k) l)) λg=>p (bC (bC y.1 k) l,g))else false:=⟨_,rfl⟩
 have e2:=N6 (c:=c) (λi j=>by
  rw[hc]
  simp only
  by_cases d:i<B.n/\j<B.n
  · rw[if_pos d,if_pos (show j<B.n/\i<B.n from⟨d.2,d.1⟩)]
    by_cases d2:y.1 i=true\/y.1 j=true\/i=j
    · rw[if_pos d2,if_pos (show y.1 j=true\/y.1 i=true\/j=i from d2.elim (λk=>.inr (.inl k)) λk=>k.elim .inl λk=>.inr (.inr k.symm))]
    have d3:¬(y.1 j=true\/y.1 i=true\/j=i):=λk=>d2 (k.elim (λk=>.inr (.inl k)) λk=>k.elim .inl λk=>.inr (.inr k.symm))
    rw[if_neg d2,if_neg d3];simp only[not_or,Bool.not_eq_true]at d2
    have hne:j≠i:=λe=>d2.2.2 e.symm
    have sq:Sqr (B.E y.1) (B.E (bC y.1 i)) (B.E (bC y.1 j)) (B.E (bC (bC y.1 i) j)) (B.a i) (B.c i) (B.a j) (B.c j):=
     ⟨h.Fw _ i d.1 d2.1,h.Fw _ j d.2 d2.2.1,h.Fw _ j d.2 (by rw[az _ hne];exact d2.2.1),by
      rw[wV];exact h.Fw _ i d.1 (by rw[az _ d2.2.2];exact d2.1)⟩
    have:=sq.comm hy.fA
    have t:=this λg=>p (bC (bC y.1 i) j,g)
    unfold bI.dE;rw[wV y.1 j i];exact t
  rw[if_neg d,if_neg λk=>d ⟨k.2,k.1⟩]) (λi=>by rw[hc];simp) B.n
 refine Eq.trans (dW λk hk=>dW λl hl=>?_) e2
 rw[hc];exact(if_pos (show k<B.n/\l<B.n from⟨jw.1 hk,jw.1 hl⟩)).symm
structure bI.All(B:bI)(U:List El):Prop where
 nd:U.Nodup
 mem:∀x,x∈U↔B.Good x
theorem bI.All.dl(hU:B.All U)(h:B.Ok){y:El}(hy:y∈U):∀x∈B.dl y,x∈U:=λx hx=>by
 obtain⟨k,hk,e,h1,h2⟩:=Ul.1 hx;have:=((hU.mem y).1 hy).step h hk e h2;rw[<-h1]at this;exact(hU.mem x).2 this
theorem bI.All.sup(hU:B.All U)(h:B.Ok){y:El}(hy:y∈U)(x:El)(e:B.M y x=true):x∈U:=by
 obtain⟨z,hz,e⟩:=xA e
 rw[<-bf.1 e];exact hU.dl h hy z hz
theorem bI.All.dd(hU:B.All U)(h:B.Ok){y:El}(hy:y∈U):Dm U B.M (B.M y)=vz:=by
 funext x
 show par U (λz=>B.M y z&&B.M z x)=false
 have e:(λz=>B.M y z&&B.M z x)=λz=>par (B.dl y) (λw=>tr (w=z))&&B.M z x:=rfl
 rw[e,Jc hU.nd (λz=>B.M z x) (hU.dl h hy)]
 have:=h.dd ((hU.mem y).1 hy) λz=>tr (z=x)
 rw[dK]at this;exact this
def Kt:Nat->List (Nat->Bool)
 |0=>[λ_=>false]
 |n+1=>Kt n++(Kt n).map λf=>bC f n
theorem kE:∀{n:Nat} {f:Nat->Bool},f∈Kt n↔∀k,n<=k->f k=false
 |0,f=>by
  unfold Kt;rw[jB]
  exact⟨λe k _=>by rw[e],λh=>funext λk=>h k (Nat.zero_le _)⟩
 |n+1,f=>by
  unfold Kt;rw[jx,jv];constructor
  · rintro(h|⟨g,h,rfl⟩) k hk
    · exact kE.1 h k (by omega)
    rw[az _ (by omega)];exact kE.1 h k (by omega)
  intro h;cases e:f n
  · refine .inl (kE.2 λk hk=>?_)
    by_cases c:k=n
    · rw[c,e]
    exact h k (by omega)
  refine .inr ⟨gC f n,kE.2 λk hk=>?_,sx f e⟩
  by_cases c:k=n
  · rw[c,fy]
  rw[eT _ c];exact h k (by omega)
theorem r8:∀n,(Kt n).Nodup
 |0=>by simp[Kt]
 |n+1=>by
  unfold Kt;rw[jU];refine⟨r8 n,?_,λa ha b hb e=>?_⟩
  · rw[List.Nodup,pairwise_map]
    refine imp_of_mem ?_ (r8 n)
    intro a b ha hb hne e
    refine hne ?_
    rw[<-vG a (kE.1 ha n (jH _)),<-vG b (kE.1 hb n (jH _)),e]
  obtain⟨g,hg,rfl⟩:=jv.1 hb;have:=kE.1 ha n (jH _)
  rw[e,bK]at this;cases this
theorem ad2{α:Type}{L:List α}(hL:L.Nodup)(p:α->Prop)(h:∀x,p x->x∈L):∃U:List α,U.Nodup/\∀x,x∈U↔p x:=
 ⟨L.filter λx=>tr (p x),hL.filter _,λx=>by rw[jC,bf];exact⟨λk=>k.2,λk=>⟨h x k,k⟩⟩⟩
theorem Lx{α β:Type}{l:List α}{m:List β}(hl:l.Nodup)(hm:m.Nodup):(l.flatMap λx=>m.map λy=>(x,y)).Nodup:=by
 rw[List.Nodup,List.pairwise_flatMap];refine⟨λx _=>?_,hl.imp λ{a b} hne x hx y hy e=>?_⟩
 · rw[pairwise_map];exact hm.imp λhne e=>hne (by injection e)
 obtain⟨u,_,rfl⟩:=jv.1 hx;obtain⟨v,_,rfl⟩:=jv.1 hy
 injection e with e1 e2
 exact hne e1
theorem abe(p:El->Prop)(h:∀x,p x->(∀k,n<=k->x.1 k=false)/\∀k,N<=k->x.2 k=false):∃U:List El,U.Nodup/\∀x,x∈U↔p x:=
 ad2 (Lx (r8 n) (r8 N)) p λx hx=>by
  obtain⟨a,b⟩:=h x hx;rw[mem_flatMap];exact⟨x.1,kE.2 a,jv.2 ⟨x.2,kE.2 b,rfl⟩⟩
theorem bI.Ok.all(h:B.Ok):∃U,B.All U:=by
 obtain⟨N,hN⟩:=h.fin
 obtain⟨U,h1,h2⟩:=abe (n:=B.n) (N:=N) B.Good λx hx=>⟨hx.sup,λk hk=>hx.pt k λp=>by have:=hN k p;omega⟩
 exact⟨U,h1,h2⟩
end
def mi(b:Bool):Nat:=if b then 0 else 1
def ES(f:Mk):Mk:=λx=>!f x
theorem acK(a b c:Bool):mi (!a)=mi (!b)+mi (!c)↔mi b+mi c=mi a+1:=by cases a<;>cases b<;>cases c<;>simp[mi]
theorem yY(h:j6 E f):j6 E (ES f):=λp q k=>by unfold ES;rw[h p q k]
theorem agz{α:Type}(x:α)(p:α->Bool):par [x] p=p x:=by unfold par;simp
theorem amu{α:Type}(x y:α)(p:α->Bool):par [x,y] p=xor (p x) (p y):=by unfold par;simp
section
variable {E E':Rl} {a c:Nat}
theorem lN.Gk(h:lN E E' a c)(hf:j6 E f)(hg:j6 E' g):
 par (KW E' a c f) (λx=>tr (x=g))=true↔(∀x,¬E' x a->g x=f x)/\mi (g a)=mi (f a)+mi (f c):=by
 have whole:∀b:Bool,(∀x,¬E' x a->g x=f x)->g a=b->∀k:Mk,(∀x,E' x a->k x=b)->(∀x,¬E' x a->k x=f x)->k=g:=λb h1 h2 k h3 h4=>by
  funext x;by_cases m:E' x a
  · rw[h3 x m,hg _ _ m,h2]
  rw[h4 x m,h1 x m]
 have gc:g c=g a:=hg _ _ (h.kW.symm h.ac);unfold KW
 cases ha:f a<;>cases hc:f c
 · simp only[Bool.false_and,Bool.false_or,jN,if_false,F5,false_iff,not_and]
   intro _ k
   cases hh:g a<;>simp[mi,hh]at k
 all_goals simp only[Bool.false_and,Bool.false_or,Bool.and_false,Bool.or_false,Bool.and_self,jN,if_false,if_true,agz,bf]
 · constructor
   · rintro rfl
     refine⟨λx m=>dC _ m,?_⟩
     rw[kA f (h.kW.refl a)];rfl
   rintro⟨h1,h2⟩
   have h3:g a=false:=by cases hh:g a<;>simp[mi,hh]at h2 ⊢
   exact whole false h1 h3 _ (λx m=>kA _ m) λx m=>dC _ m
 · constructor
   · rintro rfl
     refine⟨λx m=>dC _ m,?_⟩
     rw[kA f (h.kW.refl a)];rfl
   rintro⟨h1,h2⟩
   have h3:g a=false:=by cases hh:g a<;>simp[mi,hh]at h2 ⊢
   exact whole false h1 h3 _ (λx m=>kA _ m) λx m=>dC _ m
 constructor
 · rintro rfl
   refine⟨λx _=>rfl,?_⟩
   rw[ha];rfl
 rintro⟨h1,h2⟩
 have h3:g a=true:=by cases hh:g a<;>simp[mi,hh]at h2 ⊢
 exact whole true h1 h3 _ (λx m=>by
  rcases (h.sU x).1 m with k|k
  · rw[hf _ _ k,ha]
  rw[hf _ _ k,hc]) λx _=>rfl
theorem lN.S6(h:lN E E' a c)(hf:j6 E' f)(hg:j6 E g):
 par (Iz E a c f) (λx=>tr (x=g))=true↔(∀x,¬E' x a->g x=f x)/\mi (g a)+mi (g c)=mi (f a)+1:=by
 have fc:f c=f a:=hf _ _ (h.kW.symm h.ac)
 have WW:¬E c a:=λk=>h.ap (h.eq.symm k)
 have whole:∀b d:Bool,(∀x,¬E' x a->g x=f x)->g a=b->g c=d->∀k:Mk,(∀x,E x a->k x=b)->(∀x,E x c->k x=d)->(∀x,¬E' x a->k x=f x)->k=g:=λb d h1 h2 h2' k h3 h3' h4=>by
  funext x;by_cases m:E' x a
  · rcases (h.sU x).1 m with n|n
    · rw[h3 x n,hg _ _ n,h2]
    rw[h3' x n,hg _ _ n,h2']
  rw[h4 x m,h1 x m]
 unfold Iz;cases ha:f a
 · simp only[jN,if_false,agz,bf]
   constructor
   · rintro rfl
     refine⟨λx _=>rfl,?_⟩
     rw[ha,fc,ha];rfl
   rintro⟨h1,h2⟩
   have h3:g a=false/\g c=false:=by cases hh:g a<;>cases hh':g c<;>simp[mi,hh,hh']at h2 ⊢
   exact whole false false h1 h3.1 h3.2 f (λx m=>by rw[hf _ _ (h.sub m),ha]) (λx m=>by rw[hf _ _ (h.sub m),fc,ha]) λx _=>rfl
 simp only[if_true,amu]
 have s1:∀p,st E p f p=false:=λp=>kA _ (h.eq.refl p)
 have s2:st E a f c=true:=by rw[dC _ WW,fc,ha]
 have s3:st E c f a=true:=by rw[dC _ h.ap,ha]
 have o1:∀x,¬E' x a->st E a f x=f x:=λx m=>dC _ λk=>m (h.sub k)
 have o2:∀x,¬E' x a->st E c f x=f x:=λx m=>dC _ λk=>m (h.kW.trans (h.sub k) (h.kW.symm h.ac))
 constructor
 · intro k
   by_cases k1:st E a f=g
   · subst k1
     refine⟨o1,?_⟩
     rw[s1,s2];rfl
   by_cases k2:st E c f=g
   · subst k2
     refine⟨o2,?_⟩
     rw[s1,s3];rfl
   rw[br.2 k1,br.2 k2]at k;cases k
 rintro⟨h1,h2⟩
 have fx:∀x,E' x a->f x=true:=λx m=>by rw[hf _ _ m,ha]
 have h3:(g a=false/\g c=true)\/(g a=true/\g c=false):=by cases hh:g a<;>cases hh':g c<;>simp[mi,hh,hh']at h2 ⊢
 rcases h3 with⟨k1,k2⟩|⟨k1,k2⟩
 · have e:=whole false true h1 k1 k2 (st E a f) (λx m=>kA _ m) (λx m=>by
    rw[dC _ λn=>WW (h.eq.trans (h.eq.symm m) n)];exact fx x ((h.sU x).2 (.inr m))) o1
   have e2:¬st E c f=g:=λk=>by rw[<-k,s3]at k1;cases k1
   rw[bf.2 e,br.2 e2];rfl
 have e:=whole true false h1 k1 k2 (st E c f) (λx m=>by
  rw[dC _ λn=>h.ap (h.eq.trans (h.eq.symm m) n)];exact fx x ((h.sU x).2 (.inl m))) (λx m=>kA _ m) o2
 have e2:¬st E a f=g:=λk=>by rw[<-k,s1]at k1;cases k1
 rw[bf.2 e,br.2 e2];rfl
theorem lN.unit(h:lN E E' a c)(hf:j6 E f)(hg:j6 E' g){z:Nat}(hz:E z a\/E z c)(fz:f z=true):
 ((∀x,¬E' x a->g x=f x)/\mi (g a)=mi (f a)+mi (f c))↔∀x,¬E x z->g x=f x:=by
 have gc:g c=g a:=hg _ _ (h.kW.symm h.ac)
 have b:∀x y:Bool,mi x=mi y↔x=y:=λx y=>by cases x<;>cases y<;>simp[mi]
 have mt:mi true=0:=rfl
 rcases hz with hz|hz
 · rw[show f a=true by rw[<-hf _ _ hz,fz],mt,zero_add,b,<-gc]
   constructor
   · rintro⟨h1,h2⟩ x hx
     by_cases m:E' x a
     · rcases (h.sU x).1 m with k|k
       · exact absurd (h.eq.trans k (h.eq.symm hz)) hx
       rw[hg _ _ m,<-gc,h2,hf _ _ k]
     exact h1 x m
   intro h1;exact⟨λx m=>h1 x λk=>m (h.sub (h.eq.trans k hz)),h1 c λk=>h.ap (h.eq.symm (h.eq.trans k hz))⟩
 rw[show f c=true by rw[<-hf _ _ hz,fz],mt,Nat.add_zero,b];constructor
 · rintro⟨h1,h2⟩ x hx
   by_cases m:E' x a
   · rcases (h.sU x).1 m with k|k
     · rw[hg _ _ m,h2,hf _ _ k]
     exact absurd (h.eq.trans k (h.eq.symm hz)) hx
   exact h1 x m
 intro h1;exact⟨λx m=>h1 x λk=>m (h.kW.trans (h.sub (h.eq.trans k hz)) (h.kW.symm h.ac)),h1 a λk=>h.ap (h.eq.trans k hz)⟩
theorem lN.Oq(h:lN E E' a c)(hf:j6 E f)(hg:j6 E' g){z:Nat}(hz:E z a\/E z c)(fz:f z=true):
 par (KW E' a c f) (λx=>tr (x=g))=true↔∀x,¬E x z->g x=f x:=(h.Gk hf hg).trans (h.unit hf hg hz fz)
theorem T4(x y:Bool):(!x)=(!y)↔x=y:=by cases x<;>cases y<;>simp
theorem lN.FU(h:lN E E' a c)(hf:j6 E' f)(hg:j6 E g):
 par (Iz E a c f) (λx=>tr (x=g))=true↔(∀x,¬E' x a->ES f x=ES g x)/\mi (ES f a)=mi (ES g a)+mi (ES g c):=by
 rw[h.S6 hf hg]
 refine and_congr (forall_congr' λx=>imp_congr Iff.rfl ?_) (acK _ _ _).symm
 unfold ES;rw[T4];exact⟨symm,symm⟩
theorem lN.NI(h:lN E E' a c)(hf:j6 E' f)(hg:j6 E g){z:Nat}(hz:E z a\/E z c)(gz:g z=false):
 par (Iz E a c f) (λx=>tr (x=g))=true↔∀x,¬E x z->g x=f x:=by
 rw[h.FU hf hg,h.unit (yY hg) (yY hf) hz (by unfold ES;rw[gz];rfl)]
 refine forall_congr' λx=>imp_congr Iff.rfl ?_
 unfold ES;rw[T4];exact⟨symm,symm⟩
def GV(O:Nat->Prop)(R R':Rl)(f g:Mk):Prop:=
 ∃a c,O a/\O c/\¬R a c/\(∀x y,O x->O y->(R' x y↔qG R a c x y))/\(∀x,O x->¬R' x a->g x=f x)/\mi (g a)=mi (f a)+mi (f c)
def Bo(O:Nat->Prop)(R R':Rl)(f g:Mk):Prop:=GV O R R' f g\/GV O R' R (ES g) (ES f)
theorem rY{R R' T T':Rl}{f' g':Mk}(h1:∀x y,O x->O y->(R x y↔T x y))(h2:∀x y,O x->O y->(R' x y↔T' x y))(h3:∀x,O x->f x=f' x)(h4:∀x,O x->g x=g' x)
 (h:GV O R R' f g):GV O T T' f' g':=by
 obtain⟨a,c,ha,hc,h5,h6,h7,h8⟩:=h;refine⟨a,c,ha,hc,λk=>h5 ((h1 a c ha hc).2 k),λx y hx hy=>?_,λx hx k=>?_,?_⟩
 · rw[<-h2 x y hx hy,h6 x y hx hy]
   unfold qG;rw[h1 x y hx hy,h1 x a hx ha,h1 c y hc hy,h1 x c hx hc,h1 a y ha hy]
 · rw[<-h4 x hx,<-h3 x hx];exact h7 x hx λm=>k ((h2 x a hx ha).1 m)
 rw[<-h4 a ha,<-h3 a ha,<-h3 c hc];exact h8
theorem u5{R R' T T':Rl}{f' g':Mk}(h1:∀x y,O x->O y->(R x y↔T x y))(h2:∀x y,O x->O y->(R' x y↔T' x y))(h3:∀x,O x->f x=f' x)(h4:∀x,O x->g x=g' x):
 Bo O R R' f g↔Bo O T T' f' g':=by
 have n:∀{f f':Mk},(∀x,O x->f x=f' x)->∀x,O x->ES f x=ES f' x:=λh x hx=>by unfold ES;rw[h x hx]
 have s:∀{R T:Rl},(∀x y,O x->O y->(R x y↔T x y))->∀x y,O x->O y->(T x y↔R x y):=λh x y hx hy=>(h x y hx hy).symm
 have s':∀{f f':Mk},(∀x,O x->f x=f' x)->∀x,O x->f' x=f x:=λh x hx=>(h x hx).symm
 exact⟨λh=>h.imp (rY h1 h2 h3 h4) (rY h2 h1 (n h4) (n h3)),λh=>h.imp (rY (s h1) (s h2) (s' h3) (s' h4)) (rY (s h2) (s h1) (n (s' h4)) (n (s' h3)))⟩
theorem LU(hR:Equivalence R){a c a' c':Nat}(ha:R a' a)(hc:R c' c)(x y:Nat):qG R a c x y↔qG R a' c' x y:=by
 have sy:=λ{x y}=>@Equivalence.symm _ _ hR x y
 have Ic:=λ{x y z}=>@Equivalence.trans _ _ hR x y z
 unfold qG;constructor
 · rintro(k|⟨k,l⟩|⟨k,l⟩)
   · exact .inl k
   · exact .inr (.inl ⟨Ic k (sy ha),Ic hc l⟩)
   exact .inr (.inr ⟨Ic k (sy hc),Ic ha l⟩)
 rintro(k|⟨k,l⟩|⟨k,l⟩)
 · exact .inl k
 · exact .inr (.inl ⟨Ic k ha,Ic (sy hc) l⟩)
 exact .inr (.inr ⟨Ic k hc,Ic (sy ha) l⟩)
variable {O:Nat->Prop} {ω:Nat->Nat}
theorem lN.GV(h:lN E E' a c){f g:Mk}(hf:j6 E f)(hg:j6 E' g)(la:∃o,O o/\E (ω o) a)(lc:∃o,O o/\E (ω o) c)(cv:∀x,(∃o,O o/\E (ω o) x)\/g x=f x):
 ((∀x,¬E' x a->g x=f x)/\mi (g a)=mi (f a)+mi (f c))↔Kn.GV O (λx y=>E (ω x) (ω y)) (λx y=>E' (ω x) (ω y)) (λo=>f (ω o)) (λo=>g (ω o)):=by
 constructor
 · rintro⟨h1,h2⟩
   obtain⟨u,hu,ua⟩:=la;obtain⟨v,hv,vc⟩:=lc;refine⟨u,v,hu,hv,λk=>h.ap (h.eq.trans (h.eq.symm ua) (h.eq.trans k vc)),λx y _ _=>?_,λx _ k=>h1 _ λm=>k (h.kW.trans m (h.kW.symm (h.sub ua))),?_⟩
   · show E' (ω x) (ω y)↔_
     rw[h.iff,LU h.eq ua vc];exact Iff.rfl
   show mi (g (ω u))=mi (f (ω u))+mi (f (ω v))
   rw[hg _ _ (h.sub ua),hf _ _ ua,hf _ _ vc];exact h2
 rintro⟨u,v,hu,hv,h5,h6,h7,h8⟩;have OE:E' (ω u) (ω v):=(h6 u v hu hv).2 (.inr (.inl ⟨h.eq.refl _,h.eq.refl _⟩));have h8:mi (g (ω u))=mi (f (ω u))+mi (f (ω v)):=h8
 have key:E' (ω u) a/\mi (g a)=mi (f a)+mi (f c):=by
  rcases (h.iff _ _).1 OE with k|⟨k,l⟩|⟨k,l⟩
  · exact absurd k h5
  · refine⟨h.sub k,?_⟩
    rw[<-hg _ _ (h.sub k),<-hf _ _ k,hf _ _ l];exact h8
  refine⟨h.kW.trans (h.sub k) (h.kW.symm h.ac),?_⟩
  rw[<-hg _ _ (h.kW.trans (h.sub k) (h.kW.symm h.ac)),<-hf _ _ k,hf _ _ l,Nat.add_comm];exact h8
 refine⟨λx hx=>?_,key.2⟩
 rcases cv x with⟨o,ho,m⟩|m
 · have:=h7 o ho λk=>hx (h.kW.trans (h.kW.symm (h.sub m)) (h.kW.trans k key.1))
   rw[<-hf _ _ m,<-hg _ _ (h.sub m)];exact this
 exact m
theorem lN.Jk(h:lN E E' a c)(f g:Mk):¬Kn.GV O (λx y=>E' (ω x) (ω y)) (λx y=>E (ω x) (ω y)) f g:=by
 rintro⟨u,v,hu,hv,h5,h6,_⟩;exact h5 (h.sub ((h6 u v hu hv).2 (.inr (.inl ⟨h.kW.refl _,h.kW.refl _⟩))))
theorem BB.Bo(h:BB E E' a c){f g:Mk}(hf:j6 E f)(hg:j6 E' g)(la:∃o,O o/\E (ω o) a)(lc:∃o,O o/\E (ω o) c)(la':∃o,O o/\E' (ω o) a)(lc':∃o,O o/\E' (ω o) c)
 (cv:∀x,(∃o,O o/\E (ω o) x)\/g x=f x) (cv':∀x,(∃o,O o/\E' (ω o) x)\/g x=f x):
 par (dE E E' a c f) (λx=>tr (x=g))=true↔Kn.Bo O (λx y=>E (ω x) (ω y)) (λx y=>E' (ω x) (ω y)) (λo=>f (ω o)) (λo=>g (ω o)):=by
 rcases h with h|h
 · rw[h.dE,h.Gk hf hg,h.GV hf hg la lc cv]
   exact⟨.inl,λk=>k.resolve_right (h.Jk _ _)⟩
 rw[h.VB,h.FU hf hg,h.GV (yY hg) (yY hf) la' lc' λx=>(cv' x).imp id λe=>by unfold ES;rw[e]];exact⟨.inr,λk=>k.resolve_left (h.Jk _ _)⟩
end
def xk(b:Bool):Int:=if b then 1 else -1
theorem Tb(b:Bool):xk b=1-2*(mi b:Int):=by cases b<;>rfl
def cI{α:Type}(l:List α)(v:α->Int):Int:=l.foldr (λa s=>v a+s) 0
theorem bB{α:Type}(a:α)(l:List α)(v:α->Int):cI (a :: l) v=v a+cI l v:=rfl
theorem PI{α:Type}{l m:List α}(h:l.Perm m)(v:α->Int):cI l v=cI m v:=by
 induction h with
 |nil=>rfl
 |cons a _ ih=>rw[bB,bB,ih]
 |swap a b l=>simp only[bB];omega
 |trans _ _ a b=>exact a.trans b
theorem kv{α β:Type}(t:α->β)(v:β->Int):∀l:List α,cI (l.map t) v=cI l λx=>v (t x)
 |[]=>rfl
 |a :: l=>by rw[map_cons,bB,bB,kv t v l]
theorem cX{α:Type}{v w:α->Int}:∀{l:List α},(∀x∈l,v x=w x)->cI l v=cI l w
 |[],_=>rfl
 |a :: l,h=>by rw[bB,bB,h a (by simp),cX λx hx=>h x (by simp[hx])]
theorem PJ{α β:Type}{l:List α}{m:List β}(hl:l.Nodup)(hm:m.Nodup)(ρ:α->β->Prop)(h1:∀x∈l,∃y∈m,ρ x y)(h2:∀y∈m,∃x∈l,ρ x y)
 (h3:∀x∈l,∀y∈m,∀z∈m,ρ x y->ρ x z->y=z) (h4:∀x∈l,∀y∈l,∀z∈m,ρ x z->ρ y z->x=y) {v:α->Int} {w:β->Int} (h5:∀x∈l,∀y∈m,ρ x y->v x=w y):cI l v=cI m w:=by
 by_cases e:l=[]
 · subst e
   cases m with
   |nil=>rfl
   |cons b m=>obtain⟨x,hx,_⟩:=h2 b (by simp);cases hx
 obtain⟨a0,ha0⟩:=List.exists_mem_of_ne_nil _ e;obtain⟨b0,_,_⟩:=h1 a0 ha0
 have ex:∀x,∃y,x∈l->y∈m/\ρ x y:=λx=>by
  by_cases c:x∈l
  · obtain⟨y,hy,k⟩:=h1 x c;exact⟨y,λ_=>⟨hy,k⟩⟩
  exact⟨b0,λk=>absurd k c⟩
 have ⟨t,ht⟩:=Classical.axiomOfChoice ex
 have n:(l.map t).Nodup:=by
  rw[List.Nodup,pairwise_map]
  refine imp_of_mem ?_ hl
  intro a b ha hb hne e;exact hne (h4 a ha b hb (t a) (ht a ha).1 (ht a ha).2 (e ▸ (ht b hb).2))
 have p:(l.map t).Perm m:=(jR n hm).2 λy=>by
  rw[jv];constructor
  · rintro⟨x,hx,rfl⟩;exact(ht x hx).1
  intro hy;obtain⟨x,hx,k⟩:=h2 y hy;exact⟨x,hx,h3 x hx _ (ht x hx).1 y hy (ht x hx).2 k⟩
 rw[<-PI p,kv]
 exact cX λx hx=>h5 x hx _ (ht x hx).1 (ht x hx).2
structure Rp(P:Nat->Prop)(E:Rl)(L:List Nat):Prop where
 ap:L.Pairwise λx y=>¬E x y
 pt:∀r∈L,P r
 all:∀p,P p->∃r∈L,E p r
section
variable {P:Nat->Prop} {E E':Rl} {L:List Nat}
theorem Rp.nodup(h:Rp P E L)(hE:Equivalence E):L.Nodup:=h.ap.imp λ{a b} k e=>k (by rw[e];exact hE.refl b)
theorem aaj{α:Type}{R:α->α->Prop}:∀{l:List α},l.Pairwise R->∀{x y:α},x∈l->y∈l->x≠y->R x y\/R y x
 |[],_,x,_,hx,_,_=>by cases hx
 |a :: l,h,x,y,hx,hy,hne=>by
  rw[pairwise_cons]at h
  rcases jy.1 hx with e|OD
  · rcases jy.1 hy with e' | hy'
    · exact absurd (e.trans e'.symm) hne
    exact .inl (e ▸ h.1 y hy')
  rcases jy.1 hy with e' | hy'
  · exact .inr (e' ▸ h.1 x OD)
  exact aaj h.2 OD hy' hne
theorem Rp.one(h:Rp P E L)(hE:Equivalence E)(hx:x∈L)(hy:y∈L)(k:E x y):x=y:=
 js λc=>(aaj h.ap hx hy c).elim (λm=>m k) λm=>m (hE.symm k)
theorem Rp.two{L':List Nat}(h:Rp P E L)(h':Rp P E L')(hE:Equivalence E)(hf:j6 E f):cI L (λr=>xk (f r))=cI L' λr=>xk (f r):=by
 refine PJ (h.nodup hE) (h'.nodup hE) E (λx hx=>h'.all x (h.pt x hx)) (λy hy=>?_) (λx _ y hy z hz k l=>h'.one hE hy hz (hE.trans (hE.symm k) l)) (λx hx y hy z _ k l=>h.one hE hx hy (hE.trans k (hE.symm l))) λx _ y _ k=>by rw[hf x y k]
 obtain⟨r,hr,k⟩:=h.all y (h'.pt y hy);exact⟨r,hr,hE.symm k⟩
theorem Rp.ex(hE:Equivalence E)(hP:∀p,P p->p<N):∃L,Rp P E L:=by
 have:∀n,∃L,Rp (λp=>P p/\p<n) E L:=by
  intro n
  induction n with
  |zero=>exact⟨[],.nil,(λr hr=>by cases hr),λp hp=>by omega⟩
  |succ n ih=>
   obtain⟨L,h1,h2,h3⟩:=ih
   by_cases c:P n/\∀r∈L,¬E n r
   · refine⟨n :: L,pairwise_cons.2 ⟨c.2,h1⟩,λr hr=>?_,λp hp=>?_⟩
     · rcases jy.1 hr with rfl|hr
       · exact⟨c.1,by omega⟩
       exact⟨(h2 r hr).1,by have:=(h2 r hr).2;omega⟩
     by_cases d:p=n
     · exact⟨n,by simp,d ▸ hE.refl _⟩
     obtain⟨r,hr,k⟩:=h3 p ⟨hp.1,by have:=hp.2;omega⟩;exact⟨r,by simp[hr],k⟩
   refine⟨L,h1,λr hr=>⟨(h2 r hr).1,by have:=(h2 r hr).2;omega⟩,λp hp=>?_⟩;by_cases d:p=n
   · subst d
     refine js λk=>c ⟨hp.1,λr hr m=>k ⟨r,hr,m⟩⟩
   exact h3 p ⟨hp.1,by have:=hp.2;omega⟩
 obtain⟨L,h1,h2,h3⟩:=this N;exact⟨L,h1,λr hr=>(h2 r hr).1,λp hp=>h3 p ⟨hp,hP p hp⟩⟩
noncomputable def dq (P:Nat->Prop) (E:Rl) (f:Mk):Int:=@dite Int (∃L,Rp P E L) (Classical.propDecidable _) (λh=>cI (Classical.choose h) λr=>xk (f r)) λ_=>0
theorem Rp.dq(h:Rp P E L)(hE:Equivalence E){f:Mk}(hf:j6 E f):Kn.dq P E f=cI L λr=>xk (f r):=by
 unfold Kn.dq;rw[dif_pos ⟨L,h⟩];exact(Classical.choose_spec (⟨L,h⟩:∃L,Rp P E L)).two h hE hf
theorem lN.dq{a c:Nat}(h:lN E E' a c){N:Nat}(hP:∀p,P p->p<N)(pa:P a)(pc:P c){f g:Mk}(hf:j6 E f)(hg:j6 E' g)(k:(∀x,¬E' x a->g x=f x)/\mi (g a)=mi (f a)+mi (f c)):
 Kn.dq P E' g+1=Kn.dq P E f:=by
 obtain⟨L,hL⟩:=Rp.ex h.eq hP
 obtain⟨L0,e0⟩:∃L0,L0=L.filter λr=>tr (¬E r a/\¬E r c):=⟨_,rfl⟩
 have m0:∀r,r∈L0↔r∈L/\¬E r a/\¬E r c:=λr=>by rw[e0,jC,bf]
 have a0:L0.Pairwise λx y=>¬E x y:=e0 ▸ hL.ap.sublist List.filter_sublist
 have n0:∀r∈L0,¬E' r a:=λr hr m=>((h.sU r).1 m).elim ((m0 r).1 hr).2.1 ((m0 r).1 hr).2.2
 have r1:Rp P E (a :: c :: L0):=by
  refine⟨pairwise_cons.2 ⟨λy hy m=>?_,pairwise_cons.2 ⟨λy hy m=>((m0 y).1 hy).2.2 (h.eq.symm m),a0⟩⟩,λr hr=>?_,λp hp=>?_⟩
  · rcases jy.1 hy with rfl|hy
    · exact h.ap m
    exact((m0 y).1 hy).2.1 (h.eq.symm m)
  · simp only[jy]at hr
    rcases hr with rfl|rfl|hr
    · exact pa
    · exact pc
    exact hL.pt r ((m0 r).1 hr).1
  obtain⟨r,hr,m⟩:=hL.all p hp;by_cases c1:E r a
  · exact⟨a,by simp,h.eq.trans m c1⟩
  by_cases c2:E r c
  · exact⟨c,by simp,h.eq.trans m c2⟩
  exact⟨r,by simp[(m0 r).2 ⟨hr,c1,c2⟩],m⟩
 have r2:Rp P E' (a :: L0):=by
  refine⟨pairwise_cons.2 ⟨λy hy m=>n0 y hy (h.kW.symm m),a0.imp_of_mem λ{x y} hx hy k m=>k ((h.far (n0 y hy) x).1 m)⟩,λr hr=>?_,λp hp=>?_⟩
  · rcases jy.1 hr with rfl|hr
    · exact pa
    exact hL.pt r ((m0 r).1 hr).1
  obtain⟨r,hr,m⟩:=r1.all p hp;simp only[jy]at hr
  rcases hr with rfl|rfl|hr
  · exact⟨_,by simp,h.sub m⟩
  · exact⟨a,by simp,h.kW.trans (h.sub m) (h.kW.symm h.ac)⟩
  exact⟨r,by simp[hr],h.sub m⟩
 rw[r1.dq h.eq hf,r2.dq h.kW hg];simp only[bB];rw[cX (v:=λr=>xk (g r)) (w:=λr=>xk (f r)) λr hr=>by rw[k.1 r (n0 r hr)],Tb (g a),Tb (f a),Tb (f c),k.2]
 push_cast
 omega
theorem agm(b:Bool):xk (!b) = -xk b:=by cases b<;>rfl
theorem Iv{α:Type}(v:α->Int):∀l:List α,cI l (λx=>-v x) = -cI l v
 |[]=>rfl
 |a :: l=>by rw[bB,bB,Iv v l];omega
theorem aa3(f:Mk):dq P E (ES f) = -dq P E f:=by
 unfold dq;split
 · rw[<-Iv];exact cX λr _=>agm _
 rfl
theorem BB.dq{a c:Nat}(h:BB E E' a c){N:Nat}(hP:∀p,P p->p<N)(pa:P a)(pc:P c){f g:Mk}(hf:j6 E f)(hg:j6 E' g)(k:par (dE E E' a c f) (λx=>tr (x=g))=true):
 Kn.dq P E' g+1=Kn.dq P E f:=by
 rcases h with h|h
 · rw[h.dE,h.Gk hf hg]at k
   exact h.dq hP pa pc hf hg k
 rw[h.VB,h.FU hf hg]at k;have:=h.dq hP pa pc (yY hg) (yY hf) k;rw[aa3,aa3]at this;omega
end
def iU(n:Nat)(S:Nat->Bool):Nat:=(range n).countP S
theorem AR(n:Nat)(S:Nat->Bool):iU (n+1) S=iU n S+if S n then 1 else 0:=by
 unfold iU;rw[jO,List.countP_append,jG,countP_nil,zero_add]
theorem Hy{S T:Nat->Bool}:∀{n:Nat},(∀k,k<n->S k=T k)->iU n S=iU n T
 |0,_=>rfl
 |n+1,h=>by rw[AR,AR,Hy λk hk=>h k (by omega),h n (by omega)]
theorem Z9{S:Nat->Bool}{k:Nat}(h:S k=false):∀{n:Nat},k<n->iU n (bC S k)=iU n S+1
 |n+1,hk=>by
  rw[AR,AR];by_cases c:k=n
  · subst c
    rw[bK,h,Hy λj hj=>az S (show j≠k by omega)];simp
  rw[Z9 h (n:=n) (by omega),az _ λe=>c e.symm];omega
noncomputable def bI.dg (B:bI) (u v:Int) (x:El):oP:=((iU B.n x.1:Int)+u,dq B.P (B.E x.1) x.2+(iU B.n x.1:Int)+v)
theorem bI.Ok.J5{B:bI}(h:B.Ok)(u v:Int){y x:El}(hy:B.Good y)(k:B.M y x=true):B.dg u v x=zY (B.dg u v y):=by
 obtain⟨j,hj,e,h1,h2⟩:=bI.mM k;obtain⟨N,hN⟩:=h.fin;have hx:=hy.step h hj e h2;rw[bI.DA hj e h1]at k;have ad:=h.Fw _ j hj e;have d:dq B.P (B.E (bC y.1 j)) x.2+1=dq B.P (B.E y.1) y.2:=ad.dq hN (h.ac j hj).1 (h.ac j hj).2 hy.fA hx.fA k;unfold bI.dg zY;rw[h1,Z9 e hj];simp only[Prod.mk.injEq]
 push_cast
 omega
structure iT where
 O:Nat->Prop
 St:(Nat->Bool)->Prop
 R:(Nat->Bool)->Rl
 ed:(Nat->Bool)->(Nat->Bool)->Prop
def iT.Good(L:iT)(x:El):Prop:=L.St x.1/\(∀o,¬L.O o->x.2 o=false)/\∀o o',L.O o->L.O o'->L.R x.1 o o'->x.2 o=x.2 o'
noncomputable def iT.M (L:iT) (y x:El):Bool:=tr (L.Good x/\L.ed y.1 x.1/\Bo L.O (L.R y.1) (L.R x.1) y.2 x.2)
def rs(O:Nat->Prop)(R:Rl):Rl:=λx y=>x=y\/(O x/\O y/\R x y)
theorem aah(h:Equivalence R):Equivalence (rs O R):=
 ⟨λ_=>.inl rfl,λ{x y} k=>k.elim (λe=>.inl e.symm) λk=>.inr ⟨k.2.1,k.1,h.symm k.2.2⟩,λ{x y z} k l=>by
  rcases k with rfl|k
  · exact l
  rcases l with rfl|l
  · exact .inr k
  exact .inr ⟨k.1,l.2.1,h.trans k.2.2 l.2.2⟩⟩
noncomputable def iT.dg (L:iT) (n:Nat) (u v:Int) (x:El):oP:=((iU n x.1:Int)+u,dq L.O (rs L.O (L.R x.1)) x.2+(iU n x.1:Int)+v)
structure Told(L:iT)(St:(Nat->Bool)->Prop)(E:(Nat->Bool)->Rl)(P Z:Nat->Prop)(b:Bool)(s:(Nat->Bool)->(Nat->Bool))(w:Nat->Nat)(U:List El)(M:El->El->Bool):Prop where
 nd:U.Nodup
 mem:∀x,x∈U↔St x.1/\(∀p,¬P p->x.2 p=false)/\j6 (E x.1) x.2/\∀z,Z z->x.2 z=b
 eq:∀S,Equivalence (E S)
 pt:∀S x y,E S x y->x=y\/(P x/\P y)
 zp:∀z,Z z->P z
 s_in:∀S,St S->L.St (s S)
 IL:∀S T,St S->St T->s S=s T->S=T
 s_on:∀T,L.St T->∃S,St S/\s S=T
 rel:∀S,St S->∀o o',L.O o->L.O o'->(L.R (s S) o o'↔E S (w o) (w o'))
 wP:∀o,L.O o->P (w o)/\¬Z (w o)
 vH:∀S,St S->∀p,P p->¬Z p->∃o,L.O o/\E S (w o) p
 iso:∀S,St S->∀z x,Z z->E S z x->Z x
 sup:∀y∈U,∀x,M y x=true->x∈U
 tab:∀y∈U,∀x∈U,(M y x=true↔L.ed (s y.1) (s x.1)/\Bo L.O (λo o'=>E y.1 (w o) (w o')) (λo o'=>E x.1 (w o) (w o')) (λo=>y.2 (w o)) (λo=>x.2 (w o)))
section
variable {L:iT} {St:(Nat->Bool)->Prop} {E:(Nat->Bool)->Rl} {P Z:Nat->Prop} {b:Bool} {s:(Nat->Bool)->(Nat->Bool)} {w:Nat->Nat} {U:List El} {M:El->El->Bool}
noncomputable def tl (L:iT) (s:(Nat->Bool)->(Nat->Bool)) (w:Nat->Nat) (x:El):El:=(s x.1,λo=>tr (L.O o)&&x.2 (w o))
theorem vx{x:El}{o:Nat}(h:L.O o):(tl L s w x).2 o=x.2 (w o):=by
 show (tr (L.O o)&&x.2 (w o))=_
 rw[bf.2 h];rfl
theorem SJ{x:El}{o:Nat}(h:¬L.O o):(tl L s w x).2 o=false:=by
 show (tr (L.O o)&&x.2 (w o))=_
 rw[br.2 h];rfl
theorem Told.good(h:Told L St E P Z b s w U M){x:El}(hx:x∈U):L.Good (tl L s w x):=by
 obtain⟨h1,h2,h3,h4⟩:=(h.mem x).1 hx;refine⟨h.s_in _ h1,λo ho=>?_,λo o' ho mH k=>?_⟩
 · exact SJ ho
 rw[vx ho,vx mH];exact h3 _ _ ((h.rel _ h1 o o' ho mH).1 k)
theorem Told.same(h:Told L St E P Z b s w U M){V:List El}(hV:V.Nodup)(mV:∀x,x∈V↔L.Good x){g k:El->oP}(hg:∀x∈U,k (tl L s w x)=g x):
 M8 U M g V L.M k (tl L s w) where
 nd:=h.nd
 nd':=hV
 into:=λx hx=>(mV _).2 (h.good hx)
 inj:=λx hx y hy e=>by
  obtain⟨h1,h2,h3,h4⟩:=(h.mem x).1 hx;obtain⟨k1,k2,k3,k4⟩:=(h.mem y).1 hy;have e1:x.1=y.1:=h.IL _ _ h1 k1 (congrArg Prod.fst e)
  refine Prod.ext e1 (funext λp=>?_)
  by_cases c:P p
  · by_cases d:Z p
    · rw[h4 p d,k4 p d]
    obtain⟨o,ho,m⟩:=h.vH _ h1 p c d;have m':=m;rw[e1]at m';rw[<-h3 _ _ m,<-k3 _ _ m',<-vx (s:=s) (w:=w) (x:=x) ho,e,vx ho]
  rw[h2 p c,k2 p c]
 LJ:=λv hv=>by
  obtain⟨g1,g2,g3⟩:=(mV v).1 hv;obtain⟨S,hS,eS⟩:=h.s_on _ g1
  obtain⟨f,hf⟩:∃f:Mk,f=λp=>tr (P p)&&bif tr (Z p)then b else tr (∃o,L.O o/\E S (w o) p/\v.2 o=true):=⟨_,rfl⟩
  have fo:∀o,L.O o->f (w o)=v.2 o:=λo ho=>by
   obtain⟨a1,a2⟩:=h.wP o ho;rw[hf];simp only[bf.2 a1,br.2 a2,Bool.true_and,cond_false];rw[jD,bf];constructor
   · rintro⟨o',mH,m,e⟩
     rw[<-g3 o' o mH ho (by rw[<-eS];exact(h.rel S hS o' o mH ho).2 m)];exact e
   intro e;exact⟨o,ho,(h.eq S).refl _,e⟩
  refine⟨(S,f),(h.mem _).2 ⟨hS,λp hp=>?_,λp q k=>?_,λz hz=>?_⟩,?_⟩
  · show f p=false
    rw[hf];simp only[br.2 hp,Bool.false_and]
  · show f p=f q
    rcases h.pt S p q k with rfl|⟨a1,a2⟩
    · rfl
    rw[hf];simp only[bf.2 a1,bf.2 a2,Bool.true_and];have ez:tr (Z p)=tr (Z q):=fj ⟨λm=>h.iso S hS p q m k,λm=>h.iso S hS q p m ((h.eq S).symm k)⟩;rw[ez]
    congr 1
    refine fj ⟨?_,?_⟩
    · rintro⟨o,ho,m,e⟩;exact⟨o,ho,(h.eq S).trans m k,e⟩
    rintro⟨o,ho,m,e⟩;exact⟨o,ho,(h.eq S).trans m ((h.eq S).symm k),e⟩
  · show f z=b
    rw[hf];simp only[bf.2 hz,bf.2 (h.zp z hz),Bool.true_and,cond_true]
  refine Prod.ext eS (funext λo=>?_)
  by_cases c:L.O o
  · rw[vx c];exact fo o c
  rw[g2 o c,SJ c]
 sup:=h.sup
 agh:=λy _ x e=>(mV x).2 (bf.1 e).1
 tab:=λy hy x hx=>by
  have gx:=h.good hx;obtain⟨h1,_⟩:=(h.mem y).1 hy;obtain⟨k1,_⟩:=(h.mem x).1 hx;rw[jD,h.tab y hy x hx];unfold iT.M;rw[bf]
  have e:=u5 (O:=L.O) (R:=λo o'=>E y.1 (w o) (w o')) (R':=λo o'=>E x.1 (w o) (w o')) (T:=L.R (s y.1)) (T':=L.R (s x.1)) (f:=λo=>y.2 (w o)) (g:=λo=>x.2 (w o))
   (f':=(tl L s w y).2) (g':=(tl L s w x).2) (λo o' a c=>(h.rel _ h1 o o' a c).symm) (λo o' a c=>(h.rel _ k1 o o' a c).symm) (λo a=>(vx a).symm) λo a=>(vx a).symm
  rw[e];exact⟨λk=>⟨gx,k⟩,λk=>k.2⟩
 J5:=hg
theorem Told.hn(h:Told L St E P Z b s w U M){V:List El}(hV:V.Nodup)(mV:∀x,x∈V↔L.Good x){g k:El->oP}(hg:∀x∈U,k (tl L s w x)=g x)(i:oP):
 hn U M g i=Kn.hn V L.M k i:=(h.same hV mV hg).hn i
theorem Told.dq(h:Told L St E P Z b s w U M){N:Nat}(hO:∀o,L.O o->o<N){S:Nat->Bool}(hS:St S){f:Mk}(hR:Equivalence (L.R (s S)))(hf:j6 (E S) f)(hz:∀z,Z z->f z=b)(hZ:(∀z,¬Z z)\/∃z,Z z/\∀x,Z x->E S z x):
 Kn.dq P (E S) f=Kn.dq L.O (rs L.O (L.R (s S))) (tl L s w (S,f)).2+(bif tr (∃z,Z z)then xk b else 0):=by
 have hE:=h.eq S;obtain⟨Lo,hL⟩:=Rp.ex (P:=L.O) (aah (O:=L.O) hR) hO
 have fA:j6 (rs L.O (L.R (s S))) (tl L s w (S,f)).2:=λo o' k=>by
  rcases k with rfl|⟨a,c,k⟩
  · rfl
  rw[vx a,vx c];exact hf _ _ ((h.rel S hS o o' a c).1 k)
 rw[hL.dq (aah hR) fA]
 have ap:(Lo.map w).Pairwise λx y=>¬E S x y:=by
  rw[pairwise_map]
  exact hL.ap.imp_of_mem λ{x y} hx hy k m=>k (.inr ⟨hL.pt x hx,hL.pt y hy,(h.rel S hS x y (hL.pt x hx) (hL.pt y hy)).2 m⟩)
 have pt:∀r∈Lo.map w,P r/\¬Z r:=λr hr=>by
  obtain⟨o,ho,rfl⟩:=jv.1 hr;exact h.wP o (hL.pt o ho)
 have all:∀p,P p->¬Z p->∃r∈Lo.map w,E S p r:=λp hp hz=>by
  obtain⟨o,ho,m⟩:=h.vH S hS p hp hz;obtain⟨r,hr,k⟩:=hL.all o ho;refine⟨w r,jv.2 ⟨r,hr,rfl⟩,?_⟩
  rcases k with rfl|⟨_,c,k⟩
  · exact hE.symm m
  exact hE.trans (hE.symm m) ((h.rel S hS o r ho c).1 k)
 have sum:cI (Lo.map w) (λr=>xk (f r))=cI Lo λr=>xk ((tl L s w (S,f)).2 r):=by
  rw[kv]
  exact cX λo ho=>by rw[vx (hL.pt o ho)]
 rcases hZ with hZ|⟨z,hz1,hz2⟩
 · have:Rp P (E S) (Lo.map w):=⟨ap,λr hr=>(pt r hr).1,λp hp=>all p hp (hZ p)⟩
   rw[this.dq hE hf,sum,br.2 λ⟨z,k⟩=>hZ z k];simp
 have:Rp P (E S) (z :: Lo.map w):=by
  refine⟨pairwise_cons.2 ⟨λy hy m=>(pt y hy).2 (h.iso S hS z y hz1 m),ap⟩,λr hr=>?_,λp hp=>?_⟩
  · rcases jy.1 hr with rfl|hr
    · exact h.zp _ hz1
    exact(pt r hr).1
  by_cases c:Z p
  · exact⟨z,by simp,hE.symm (hz2 p c)⟩
  obtain⟨r,hr,k⟩:=all p hp c;exact⟨r,by simp[hr],k⟩
 rw[this.dq hE hf,bB,sum,bf.2 ⟨z,hz1⟩,hz z hz1]
 simp only[cond_true];omega
end
noncomputable def zX (Z:Nat->Prop) (b:Bool) (f:Mk):Mk:=λx=>bif tr (Z x)then b else f x
noncomputable def xt (E:Rl) (Z:Nat->Prop) (f:Mk):Mk:=λx=>tr (∃o,¬Z o/\E o x/\f o=true)
section
variable {E:Rl} {Z:Nat->Prop} {f g:Mk} {b:Bool}
theorem qp(h:Z x):zX Z b f x=b:=by unfold zX;rw[bf.2 h];rfl
theorem gb(h:¬Z x):zX Z b f x=f x:=by unfold zX;rw[br.2 h];rfl
theorem rh(hE:Equivalence E)(hf:∀x y,¬Z x->¬Z y->E x y->f x=f y)(h:¬Z x):xt E Z f x=f x:=by
 unfold xt;rw[jD,bf];constructor
 · rintro⟨o,h1,h2,h3⟩;rw[<-hf o x h1 h h2];exact h3
 intro k;exact⟨x,h,hE.refl x,k⟩
theorem Sp(hE:Equivalence E):j6 E (xt E Z f):=λx y k=>fj ⟨λ⟨o,h1,h2,h3⟩=>⟨o,h1,hE.trans h2 k,h3⟩,λ⟨o,h1,h2,h3⟩=>⟨o,h1,hE.trans h2 (hE.symm k),h3⟩⟩
theorem BC(hE:Equivalence E)(hg:j6 E g)(k:∀x,¬Z x->g x=f x)(vH:∀x,Z x->∃o,¬Z o/\E o x):g=xt E Z f:=by
 funext x;unfold xt;rw[jD,bf];constructor
 · intro e
   by_cases c:Z x
   · obtain⟨o,h1,h2⟩:=vH x c
     exact⟨o,h1,h2,by rw[<-k o h1,hg _ _ h2,e]⟩
   exact⟨x,c,hE.refl x,by rw[<-k x c,e]⟩
 rintro⟨o,h1,h2,h3⟩;rw[<-hg _ _ h2,k o h1,h3]
theorem BP(h0:∀x,Z x->g x=b)(k:∀x,¬Z x->g x=f x):g=zX Z b f:=by
 funext x;by_cases c:Z x
 · rw[qp c,h0 x c]
 rw[gb c,k x c]
theorem OA{E':Rl}{a c z o:Nat}(h:lN E E' a c\/lN E' E a c)(ring:∀x,E z x↔Z x)(ho:¬Z o)(k:E' o z):lN E E' a c/\(E z a\/E z c):=by
 rcases h with h|h
 · refine⟨h,?_⟩
   rcases (h.iff o z).1 k with m|⟨_,m⟩|⟨_,m⟩
   · exact absurd ((ring o).1 (h.eq.symm m)) ho
   · exact .inr (h.eq.symm m)
   exact .inl (h.eq.symm m)
 exact absurd ((ring o).1 (h.kW.symm (h.sub k))) ho
theorem aay{E':Rl}{a c z:Nat}(h:BB E E' a c)(r:∀x,E z x↔Z x)(r':∀x,E' z x↔Z x)(hf:j6 E f)(hg:j6 E' g)(k:par (dE E E' a c f) (λx=>tr (x=g))=true):g z=f z:=by
 rcases h with h|h
 · rw[h.dE,h.Gk hf hg]at k
   refine k.1 z λm=>h.ap ?_
   have e:E z a:=(r a).2 ((r' a).1 m);exact h.eq.trans (h.eq.symm e) ((r c).2 ((r' c).1 (h.kW.trans m h.ac)))
 rw[h.VB,h.S6 hf hg]at k
 refine k.1 z λm=>h.ap ?_
 have e:E' z a:=(r' a).2 ((r a).1 m);exact h.eq.trans (h.eq.symm e) ((r' c).2 ((r c).1 (h.kW.trans m h.ac)))
end
theorem bI.Ok.abg{B:bI}(h:B.Ok){y x:El}(hy:B.Good y)(hx:B.Good x)(cy:∀p,B.P p->∃o,O o/\B.E y.1 o p)(cx:∀p,B.P p->∃o,O o/\B.E x.1 o p)
 (hk:k<B.n) (hS:y.1 k=false) (e:x.1=bC y.1 k):B.M y x=true↔Bo O (B.E y.1) (B.E x.1) y.2 x.2:=by
 rw[bI.DA hk hS e];have ad:=h.Fw _ k hk hS;have US:=hx.fA;have Za:=cx;rw[e]at US Za;obtain⟨pa,pc⟩:=h.ac k hk
 have cv:∀(D:Rl),(∀p,B.P p->∃o,O o/\D o p)->∀p,(∃o,O o/\D o p)\/x.2 p=y.2 p:=λD hD p=>by
  by_cases c:B.P p
  · exact .inl (hD p c)
  exact .inr (by rw[hx.pt p c,hy.pt p c])
 have:=ad.Bo (ω:=λo=>o) hy.fA US (cy _ pa) (cy _ pc) (Za _ pa) (Za _ pc) (cv _ cy) (cv _ Za)
 rw[e];exact this
structure qZ(B:bI)(H:(Nat->Bool)->Prop)(i j:Nat)(Z:Nat->Prop)(z:Nat):Prop where
 ok:B.Ok
 hi:i<B.n
 hj:j<B.n
 ne:i≠j
 La:∀S k,k=i\/k=j->(H (bC S k)↔H S)
 nx:∀S k l,¬H S->H (bC S k)->H (bC (bC S k) l)
 zz:Z z
 zP:∀x,Z x->B.P x
 ring:∀S,H S->S i=false->S j=true->∀x y,Z x->(B.E S x y↔Z y)
 vH:∀S,¬(H S/\S i=false/\S j=true)->∀x,Z x->∃o,¬Z o/\B.E S o x
 Ez:∀S,H S->S i=false->S j=true->∀x y,¬Z x->¬Z y->(B.E S x y↔B.E (bC S i) x y)
 IK:∀S,H S->S i=false->S j=true->∀x y,¬Z x->¬Z y->(B.E S x y↔B.E (gC S j) x y)
 ex:∀S k,H S->S i=false->S j=true->k<B.n->k≠i->k≠j->S k=false->¬H (bC S k)->∀x y,¬Z x->¬Z y->(B.E S x y↔B.E (bC S k) x y)
 en:∀S k,¬H S->S i=false->S j=true->k<B.n->k≠i->k≠j->S k=false->H (bC S k)->∀x y,¬Z x->¬Z y->(B.E S x y↔B.E (bC S k) x y)
section
variable {B:bI} {H:(Nat->Bool)->Prop} {i j:Nat} {Z:Nat->Prop} {z:Nat} {U:List El}
noncomputable def bk (H:(Nat->Bool)->Prop) (i j z:Nat) (x:El):Nat:=if tr (H x.1)then(if x.1 i then(if x.1 j then 2 else 0)else(if x.1 j then(if x.2 z then 1 else 2)else 1))else 0
noncomputable def wH (B:bI) (i j:Nat) (Z:Nat->Prop) (x:El):El:=if x.1 j then(bC x.1 i,xt (B.E (bC x.1 i)) Z x.2)else(bC x.1 j,zX Z false x.2)
noncomputable def VT (B:bI) (i j:Nat) (Z:Nat->Prop) (x:El):El:=if x.1 i then(gC x.1 i,zX Z true x.2)else(gC x.1 j,xt (B.E (gC x.1 j)) Z x.2)
theorem Xe{x:El}:bk H i j z x=0↔¬H x.1\/(x.1 i=true/\x.1 j=false):=by
 unfold bk;by_cases h:H x.1
 · rw[bf.2 h]
   cases x.1 i<;>cases x.1 j<;>cases x.2 z<;>simp[h]
 rw[br.2 h];simp[h]
theorem bk1{x:El}:bk H i j z x=1↔H x.1/\x.1 i=false/\(x.1 j=true->x.2 z=true):=by
 unfold bk;by_cases h:H x.1
 · rw[bf.2 h]
   cases x.1 i<;>cases x.1 j<;>cases x.2 z<;>simp[h]
 rw[br.2 h];simp[h]
theorem bk2{x:El}:bk H i j z x=2↔H x.1/\x.1 j=true/\(x.1 i=false->x.2 z=false):=by
 unfold bk;by_cases h:H x.1
 · rw[bf.2 h]
   cases x.1 i<;>cases x.1 j<;>cases x.2 z<;>simp[h]
 rw[br.2 h];simp[h]
theorem Fu{x:El}(h:x.1 j=true):wH B i j Z x=(bC x.1 i,xt (B.E (bC x.1 i)) Z x.2):=by unfold wH;rw[if_pos h]
theorem Aq{x:El}(h:x.1 j=false):wH B i j Z x=(bC x.1 j,zX Z false x.2):=by unfold wH;rw[h];rfl
theorem aa9{x:El}(h:x.1 i=true):VT B i j Z x=(gC x.1 i,zX Z true x.2):=by unfold VT;rw[if_pos h]
theorem aba{x:El}(h:x.1 i=false):VT B i j Z x=(gC x.1 j,xt (B.E (gC x.1 j)) Z x.2):=by unfold VT;rw[h];rfl
theorem qZ.Xg(h:qZ B H i j Z z)(S:Nat->Bool)(hk:k=i\/k=j):H (gC S k)↔H S:=by
 cases e:S k
 · have:gC S k=S:=funext λx=>by
    by_cases c:x=k
    · rw[c,fy,e]
    rw[eT _ c]
   rw[this]
 rw[<-h.La (gC S k) k hk,sx S e]
theorem qZ.rU(h:qZ B H i j Z z){S T:Nat->Bool}(sup:∀k,B.n<=k->T k=false)(hp:∀p,¬B.P p->f p=false):B.Good (T,xt (B.E T) Z f):=
 ⟨sup,λp k=>by
  show tr _=false
  rw[br];rintro⟨o,h1,h2,h3⟩
  rcases h.ok.pt T o p h2 with rfl|⟨_,m⟩
  · rw[hp o k]at h3;cases h3
  exact k m,Sp (h.ok.eq T)⟩
theorem qZ.uU(h:qZ B H i j Z z){T:Nat->Bool}{b:Bool}(sup:∀k,B.n<=k->T k=false)(hp:∀p,¬B.P p->f p=false)(hT:H T)(Ti:T i=false)(Tj:T j=true)
 (hf:∀x y,¬Z x->¬Z y->B.E T x y->f x=f y):B.Good (T,zX Z b f):=
 ⟨sup,λp k=>by
  show zX Z b f p=false
  rw[gb λm=>k (h.zP p m)];exact hp p k,λx y k=>by
  show zX Z b f x=zX Z b f y
  by_cases c:Z x
  · rw[qp c,qp ((h.ring T hT Ti Tj x y c).1 k)]
  have d:¬Z y:=λd=>c ((h.ring T hT Ti Tj y x d).1 ((h.ok.eq T).symm k))
  rw[gb c,gb d];exact hf x y c d k⟩
theorem qZ.kU(h:qZ B H i j Z z)(hS:H S)(Si:S i=false)(Sj:S j=true)(x:Nat):B.E S z x↔Z x:=h.ring S hS Si Sj z x h.zz
theorem qZ.aai(h:qZ B H i j Z z)(hS:H S)(Si:S i=false)(Sj:S j=true)(x:Nat):B.E S x z↔Z x:=
 ⟨λk=>(h.kU hS Si Sj x).1 ((h.ok.eq S).symm k),λk=>(h.ok.eq S).symm ((h.kU hS Si Sj x).2 k)⟩
theorem qZ.Di(h:qZ B H i j Z z)(hf:j6 (B.E S) f)(hS:H S)(Si:S i=false)(Sj:S j=true)(hx:Z x):f x=f z:=(hf _ _ ((h.kU hS Si Sj x).2 hx)).symm
theorem qZ.lH(h:qZ B H i j Z z){p q:El}(hp:B.Good p)(hq:B.Good q)(hS:H p.1)(Si:p.1 i=false)(Sj:p.1 j=true)(pz:p.2 z=true)(hk:k<B.n)(k0:p.1 k=false)(e:q.1=bC p.1 k)
 (nr:¬(H q.1/\q.1 i=false/\q.1 j=true)):B.M p q=true↔∀x,¬Z x->q.2 x=p.2 x:=by
 rw[bI.DA hk k0 e];obtain⟨o,h1,h2⟩:=h.vH q.1 nr z h.zz;have KX:=hq.fA;rw[e]at h2 KX;obtain⟨J,m⟩:=OA (h.ok.Fw _ k hk k0) (h.kU hS Si Sj) h1 h2;have:=J.Oq hp.fA KX m pz;unfold bI.dE;rw[J.dE,this]
 exact forall_congr' λx=>imp_congr (not_congr (h.aai hS Si Sj x)) Iff.rfl
theorem qZ.nP(h:qZ B H i j Z z){p q:El}(hp:B.Good p)(hq:B.Good q)(hS:H q.1)(Si:q.1 i=false)(Sj:q.1 j=true)(qz:q.2 z=false)(hk:k<B.n)(k0:p.1 k=false)(e:q.1=bC p.1 k)
 (nr:¬(H p.1/\p.1 i=false/\p.1 j=true)):B.M p q=true↔∀x,¬Z x->q.2 x=p.2 x:=by
 rw[bI.DA hk k0 e];obtain⟨o,h1,h2⟩:=h.vH p.1 nr z h.zz;have KX:=hq.fA;have rz:=h.kU hS Si Sj;have rz':=h.aai hS Si Sj;rw[e]at KX rz rz';obtain⟨J,m⟩:=OA (h.ok.Fw _ k hk k0).symm rz h1 h2;have:=J.NI hp.fA KX m qz;unfold bI.dE;rw[J.VB,this]
 exact forall_congr' λx=>imp_congr (not_congr (rz' x)) Iff.rfl
theorem qZ.Dr(h:qZ B H i j Z z)(hU:B.All U)(u v:Int):uv U B.M (bk H i j z) (wH B i j Z) (VT B i j Z) (B.dg u v) zY where
 nd:=hU.nd
 sup:=λy hy x e=>hU.sup h.ok hy x e
 dd:=λy hy=>hU.dd h.ok hy
 J5:=λy hy x e=>h.ok.J5 u v ((hU.mem y).1 hy) e
 acb:=NQ
 hk:=λx _=>by
  unfold bk;split
  · split
    · split<;>simp
    split
    · split<;>simp
    simp
  simp
 hp:=λp hp k=>by
  obtain⟨kH,ki,kz⟩:=bk1.1 k;have g:=(hU.mem p).1 hp
  have up:∀l,l<B.n->∀m,B.n<=m->bC p.1 l m=false:=λl hl m hm=>by rw[az _ (by omega)];exact g.sup m hm
  cases e:p.1 j
  · have H1:H (bC p.1 j):=(h.La _ j (.inr rfl)).2 kH
    have i1:bC p.1 j i=false:=by rw[az _ h.ne];exact ki
    have j1:bC p.1 j j=true:=bK _ _;have sj:=h.IK _ H1 i1 j1;rw[vG _ e]at sj
    have g':=h.uU (b:=false) (up j h.hj) g.pt H1 i1 j1 λx y a c m=>g.fA x y ((sj x y a c).1 m)
    rw[Aq e];refine⟨(hU.mem _).2 g',bk2.2 ⟨H1,j1,λ_=>qp h.zz⟩,?_⟩;rw[aba i1]
    refine Prod.ext (vG _ e) ?_
    show xt (B.E (gC (bC p.1 j) j)) Z (zX Z false p.2)=p.2
    rw[vG _ e];exact(BC (h.ok.eq _) g.fA (λx c=>(gb c).symm) λx c=>h.vH _ (λm=>by rw[e]at m;cases m.2.2) x c).symm
  have H1:H (bC p.1 i):=(h.La _ i (.inl rfl)).2 kH
  have j1:bC p.1 i j=true:=by rw[az _ λm=>h.ne m.symm];exact e
  have si:=h.Ez _ kH ki e;have g':=h.rU (S:=p.1) (up i h.hi) g.pt;rw[Fu e];refine⟨(hU.mem _).2 g',bk2.2 ⟨H1,j1,λm=>absurd (show bC p.1 i i=false from m) (by rw[bK];simp)⟩,?_⟩;rw[aa9 (bK _ _)]
  refine Prod.ext (vG _ ki) ?_
  refine(BP (λx c=>?_) λx c=>?_).symm
  · rw[h.Di g.fA kH ki e c,kz e]
  exact(rh (h.ok.eq _) (λx y a c m=>g.fA x y ((si x y a c).2 m)) c).symm
 hq:=λq hq k=>by
  obtain⟨kH,kj,kz⟩:=bk2.1 k;have g:=(hU.mem q).1 hq
  have dn:∀l,∀m,B.n<=m->gC q.1 l m=false:=λl m hm=>by unfold gC;split;rfl;exact g.sup m hm
  cases e:q.1 i
  · have H1:H (gC q.1 j):=(h.Xg _ (.inr rfl)).2 kH
    have i1:gC q.1 j i=false:=by rw[eT _ h.ne];exact e
    have sj:=h.IK _ kH e kj;have g':=h.rU (S:=q.1) (dn j) g.pt;rw[aba e];refine⟨(hU.mem _).2 g',bk1.2 ⟨H1,i1,λm=>absurd (show gC q.1 j j=true from m) (by rw[fy];simp)⟩,?_⟩;rw[Aq (fy _ _)]
    refine Prod.ext (sx _ kj) ?_
    refine(BP (λx c=>?_) λx c=>?_).symm
    · rw[h.Di g.fA kH e kj c,kz e]
    exact(rh (h.ok.eq _) (λx y a c m=>g.fA x y ((sj x y a c).2 m)) c).symm
  have H1:H (gC q.1 i):=(h.Xg _ (.inl rfl)).2 kH;have i1:gC q.1 i i=false:=fy _ _
  have j1:gC q.1 i j=true:=by rw[eT _ λm=>h.ne m.symm];exact kj
  have si:=h.Ez _ H1 i1 j1;rw[sx _ e]at si
  have g':=h.uU (b:=true) (dn i) g.pt H1 i1 j1 λx y a c m=>g.fA x y ((si x y a c).1 m)
  rw[aa9 e];refine⟨(hU.mem _).2 g',bk1.2 ⟨H1,i1,λ_=>qp h.zz⟩,?_⟩;rw[Fu j1]
  refine Prod.ext (sx _ e) ?_
  show xt (B.E (bC (gC q.1 i) i)) Z (zX Z true q.2)=q.2
  rw[sx _ e];exact(BC (h.ok.eq _) g.fA (λx c=>(gb c).symm) λx c=>h.vH _ (λm=>by rw[e]at m;cases m.2.1) x c).symm
 hM:=λp hp k q hq k'=>by
  obtain⟨kH,ki,kz⟩:=bk1.1 k;obtain⟨qH,qj,qz⟩:=bk2.1 k';have g:=(hU.mem p).1 hp;have g':=(hU.mem q).1 hq;cases e:p.1 j
  · have H1:H (bC p.1 j):=(h.La _ j (.inr rfl)).2 kH
    have i1:bC p.1 j i=false:=by rw[az _ h.ne];exact ki
    have j1:bC p.1 j j=true:=bK _ _
    have nr:¬(H p.1/\p.1 i=false/\p.1 j=true):=λm=>by rw[e]at m;cases m.2.2
    rw[Aq e];constructor
    · intro m
      obtain⟨l,hl,l0,e1,_⟩:=bI.mM m
      have lj:l=j:=js λc=>by
       rw[e1,az _ λc'=>c c'.symm,e]at qj;cases qj
      subst lj
      have i2:q.1 i=false:=by rw[e1];exact i1
      have:=(h.nP g g' qH i2 qj (qz i2) hl l0 e1 nr).1 m
      refine Prod.ext e1 (BP (λx c=>?_) this)
      rw[h.Di g'.fA qH i2 qj c,qz i2]
    intro m
    have e1:q.1=bC p.1 j:=by rw[m]
    have i2:q.1 i=false:=by rw[e1];exact i1
    refine(h.nP g g' qH i2 qj (qz i2) h.hj e e1 nr).2 λx c=>?_
    rw[m];exact gb c
  rw[Fu e];constructor
  · intro m
    obtain⟨l,hl,l0,e1,_⟩:=bI.mM m;by_cases li:l=i
    · subst li
      have nr:¬(H q.1/\q.1 l=false/\q.1 j=true):=λm=>by rw[e1,bK]at m;cases m.2.1
      have:=(h.lH g g' kH ki e (kz e) hl l0 e1 nr).1 m
      refine Prod.ext e1 ?_
      have k2:=BC (h.ok.eq _) g'.fA this (h.vH _ nr)
      rw[e1]at k2;exact k2
    exfalso
    have i2:q.1 i=false:=by rw[e1,az _ λc=>li c.symm];exact ki
    rw[bI.DA hl l0 e1]at m;have gc:=g'.fA;have rz:=h.kU qH i2 qj;rw[e1]at gc rz;have:=aay (h.ok.Fw _ l hl l0) (h.kU kH ki e) rz g.fA gc m
    rw[qz i2,kz e]at this;cases this
  intro m
  have e1:q.1=bC p.1 i:=by rw[m]
  have nr:¬(H q.1/\q.1 i=false/\q.1 j=true):=λm=>by rw[e1,bK]at m;cases m.2.1
  refine(h.lH g g' kH ki e (kz e) h.hi ki e1 nr).2 λx c=>?_
  rw[m];exact rh (h.ok.eq _) (λx y a c m=>g.fA x y ((h.Ez _ kH ki e x y a c).2 m)) c
end
def DE(n:Nat)(S T:Nat->Bool):Prop:=∃k,k<n/\S k=false/\T=bC S k
def ZE(n:Nat)(H:(Nat->Bool)->Prop)(i j:Nat)(S T:Nat->Bool):Prop:=
 (H S/\S i=true/\S j=false/\∃k,k<n/\k≠i/\k≠j/\S k=false/\¬H (bC S k)/\T=bC (gC (bC S j) i) k) \/
 (¬H S/\S i=false/\S j=true/\∃k,k<n/\k≠i/\k≠j/\S k=false/\H (bC S k)/\T=bC (gC (bC S k) j) i)
theorem Qk{S T:Nat->Bool}(h1:DE n S T)(h2:ZE n H i j S T):False:=by
 obtain⟨k,_,_,rfl⟩:=h1
 have mono:∀l,S l=true->bC S k l=true:=λl e=>by unfold bC;split;rfl;exact e
 rcases h2 with⟨_,a,b,l,_,c,d,_,_,e⟩|⟨_,a,b,l,_,c,d,_,_,e⟩
 · have:=mono i a
   rw[e,az _ λm=>c m.symm,fy]at this;cases this
 have:=mono j b;rw[e]at this;by_cases q:j=i
 · subst q;rw[a]at b;cases b
 rw[az _ q,fy]at this;cases this
section
variable {B:bI} {H:(Nat->Bool)->Prop} {i j:Nat} {Z:Nat->Prop} {z:Nat} {U:List El}
theorem qZ.tQ(h:qZ B H i j Z z)(nr:¬(H S/\S i=false/\S j=true))(p:Nat)(hp:B.P p):∃o,(B.P o/\¬Z o)/\B.E S o p:=by
 by_cases c:Z p
 · obtain⟨o,h1,h2⟩:=h.vH S nr p c
   rcases h.ok.pt S o p h2 with rfl|⟨m,_⟩
   · exact absurd c h1
   exact⟨o,⟨m,h1⟩,h2⟩
 exact⟨p,⟨hp,c⟩,(h.ok.eq S).refl p⟩
theorem qZ.Wc(h:qZ B H i j Z z){y x:El}(hy:B.Good y)(hx:B.Good x)(ny:¬(H y.1/\y.1 i=false/\y.1 j=true))(nx:¬(H x.1/\x.1 i=false/\x.1 j=true)):
 B.M y x=true↔DE B.n y.1 x.1/\Bo (λo=>B.P o/\¬Z o) (B.E y.1) (B.E x.1) y.2 x.2:=by
 constructor
 · intro m
   obtain⟨k,hk,k0,e,_⟩:=bI.mM m;exact⟨⟨k,hk,k0,e⟩,(h.ok.abg hy hx (h.tQ ny) (h.tQ nx) hk k0 e).1 m⟩
 rintro⟨⟨k,hk,k0,e⟩,m⟩;exact(h.ok.abg hy hx (h.tQ ny) (h.tQ nx) hk k0 e).2 m
theorem yV{x:El}(k:bk H i j z x=0):¬(H x.1/\x.1 i=false/\x.1 j=true):=λm=>by
 rcases Xe.1 k with c|c
 · exact c m.1
 rw[c.1]at m;cases m.2.1
noncomputable def Zg (U:List El) (B:bI) (H:(Nat->Bool)->Prop) (i j:Nat) (Z:Nat->Prop) (z:Nat) (y x:El):Bool:=
 par U λp=>(decide (bk H i j z p=1)&&B.M y (wH B i j Z p))&&B.M p x
structure M6(B:bI)(H:(Nat->Bool)->Prop)(i j:Nat)(Z:Nat->Prop)(z:Nat)(U:List El)(y x p:El):Prop where
 mem:p∈U
 k:bk H i j z p=1
 my:B.M y (wH B i j Z p)=true
 mx:B.M p x=true
theorem V9(hU:U.Nodup){y x:El}(one:∀p q,M6 B H i j Z z U y x p->M6 B H i j Z z U y x q->p=q):Zg U B H i j Z z y x=true↔∃p,M6 B H i j Z z U y x p:=by
 have mk:∀p,p∈U->((decide (bk H i j z p=1)&&B.M y (wH B i j Z p))&&B.M p x)=true->M6 B H i j Z z U y x p:=λp hp e=>by
  rw[jp,jp,jt]at e;exact⟨hp,e.1.1,e.1.2,e.2⟩
 constructor
 · intro e
   obtain⟨p,hp,e⟩:=xA e;exact⟨p,mk p hp e⟩
 rintro⟨p,t⟩;unfold Zg;rw[rJ hU t.mem λq hq hne=>?_]
 · rw[t.my,t.mx,jk t.k];rfl
 cases e:((decide (bk H i j z q=1)&&B.M y (wH B i j Z q))&&B.M q x)
 · rfl
 exact absurd (one q p (mk q hq e) t) hne
theorem Dd{S T:Nat->Bool}(h:S k=false)(e:bC S k=T):S=gC T k:=by rw[<-e,vG _ h]
theorem AU(S:Nat->Bool){l:Nat}(h:k≠l):bC (gC S l) k=gC (bC S k) l:=funext λx=>by
 unfold bC gC
 by_cases a:x=k<;>by_cases b:x=l
 · exact absurd (a.symm.trans b) h
 · simp[a,h]
 · have h':¬l=k:=λe=>h e.symm
   simp[b,h']
 simp[a,b]
theorem qZ.SQ(h:qZ B H i j Z z)(hU:B.All U){y x p:El}(hy:y∈U)(hx:x∈U)(kx:bk H i j z x=0)(yH:H y.1)(yi:y.1 i=true)(yj:y.1 j=false)(t:M6 B H i j Z z U y x p):
 p=(gC (bC y.1 j) i,zX Z true x.2)/\∃k,k<B.n/\k≠i/\k≠j/\y.1 k=false/\¬H (bC y.1 k)/\x.1=bC (gC (bC y.1 j) i) k:=by
 obtain⟨pH,pi,pz⟩:=bk1.1 t.k;have gp:=(hU.mem p).1 t.mem;have gx:=(hU.mem x).1 hx;obtain⟨l,hl,l0,e,_⟩:=bI.mM t.my
 have pj:p.1 j=true:=by
  cases c:p.1 j
  · rw[Aq c]at e
    have e:bC p.1 j=bC y.1 l:=e;have:=congrFun e i;rw[az _ h.ne,pi]at this;by_cases d:i=l
    · subst d;rw[yi]at l0;cases l0
    rw[az _ d,yi]at this;cases this
  rfl
 rw[Fu pj]at e;have e:bC p.1 i=bC y.1 l:=e
 have lj:l=j:=js λc=>by
  have:=congrFun e j
  rw[az _ λm=>h.ne m.symm,pj,az _ λm=>c m.symm,yj]at this;cases this
 subst lj;have e1:p.1=gC (bC y.1 l) i:=Dd pi e;obtain⟨k,hk,k0,e2,_⟩:=bI.mM t.mx
 have kj:k≠l:=λc=>by rw[c,pj]at k0;cases k0
 have ki:k≠i:=λc=>by
  subst c
  rcases Xe.1 kx with m|⟨_,m⟩
  · rw[e2,h.La _ _ (.inl rfl)]at m;exact m pH
  rw[e2,az _ λc=>kj c.symm,pj]at m;cases m
 have x01:x.1 i=false/\x.1 l=true:=by
  rw[e2];exact⟨by rw[az _ λc=>ki c.symm];exact pi,by rw[az _ λc=>kj c.symm];exact pj⟩
 have nH:¬H x.1:=by
  rcases Xe.1 kx with m|⟨m,_⟩
  · exact m
  rw[x01.1]at m;cases m
 have yk:y.1 k=false:=by
  rw[e1,eT _ ki,az _ kj]at k0;exact k0
 refine⟨Prod.ext e1 (BP (λq c=>?_) λq c=>?_),k,hk,ki,kj,yk,?_,by rw[e2,e1]⟩
 · rw[h.Di gp.fA pH pi pj c,pz pj]
 · exact((h.lH gp gx pH pi pj (pz pj) hk k0 e2 λm=>nH m.1).1 t.mx q c).symm
 intro m
 refine nH ?_
 rw[e2,e1,AU _ ki,h.Xg _ (.inl rfl),wV,h.La _ _ (.inr rfl)];exact m
theorem qZ.zg1(h:qZ B H i j Z z)(hU:B.All U){y x:El}(hy:y∈U)(hx:x∈U)(kx:bk H i j z x=0)(yH:H y.1)(yi:y.1 i=true)(yj:y.1 j=false):
 Zg U B H i j Z z y x=true↔ZE B.n H i j y.1 x.1/\Bo (λo=>B.P o/\¬Z o) (B.E y.1) (B.E x.1) y.2 x.2:=by
 have gy:=(hU.mem y).1 hy;have gx:=(hU.mem x).1 hx
 have ny:¬(H y.1/\y.1 i=false/\y.1 j=true):=λm=>by rw[yj]at m;cases m.2.2
 obtain⟨S0,kG⟩:∃S0,S0=gC (bC y.1 j) i:=⟨_,rfl⟩
 have H0:H S0:=by rw[kG,h.Xg _ (.inl rfl),h.La _ _ (.inr rfl)];exact yH
 have i0:S0 i=false:=by rw[kG,fy]
 have j0:S0 j=true:=by rw[kG,eT _ λm=>h.ne m.symm,bK]
 have e11:bC S0 i=bC y.1 j:=by rw[kG,sx];rw[az _ h.ne];exact yi
 have ji:bC S0 i j=true:=by rw[az _ λm=>h.ne m.symm];exact j0
 have n11:¬(H (bC S0 i)/\bC S0 i i=false/\bC S0 i j=true):=λm=>by rw[bK]at m;cases m.2.1
 have mid:∀{p:El},p∈U->p.1=S0->(∀q,¬Z q->p.2 q=x.2 q)->(∀q r,¬Z q->¬Z r->(B.E S0 q r↔B.E x.1 q r)) ->
  (B.M y (wH B i j Z p)=true↔Bo (λo=>B.P o/\¬Z o) (B.E y.1) (B.E x.1) y.2 x.2):=λ{p} hp e1 e2 e3=>by
  have gp:=(hU.mem p).1 hp
  have pj:p.1 j=true:=by rw[e1];exact j0
  have g':=h.rU (S:=p.1) (T:=bC p.1 i) (f:=p.2) (λm hm=>by rw[az _ (by have:=h.hi;omega)];exact gp.sup m hm) gp.pt;rw[Fu pj,h.Wc gy g' ny (by show ¬(H (bC p.1 i)/\bC p.1 i i=false/\bC p.1 i j=true);rw[e1];exact n11)];have sm:=h.Ez S0 H0 i0 j0;constructor
  · rintro⟨_,c⟩
    refine(u5 (λ_ _ _ _=>Iff.rfl) (λq r hq hr=>?_) (λ_ _=>rfl) λq hq=>?_).1 c
    · show B.E (bC p.1 i) q r↔_
      rw[e1,<-sm q r hq.2 hr.2];exact e3 q r hq.2 hr.2
    show xt (B.E (bC p.1 i)) Z p.2 q=x.2 q
    rw[rh (h.ok.eq _) (λa b ha hb k=>?_) hq.2]
    · exact e2 q hq.2
    rw[e1]at k;exact gp.fA a b (by rw[e1];exact(sm a b ha hb).2 k)
  intro c;refine⟨⟨j,h.hj,yj,by show bC p.1 i=_;rw[e1,e11]⟩,(u5 (λ_ _ _ _=>Iff.rfl) (λq r hq hr=>?_) (λ_ _=>rfl) λq hq=>?_).2 c⟩
  · show B.E (bC p.1 i) q r↔_
    rw[e1,<-sm q r hq.2 hr.2];exact e3 q r hq.2 hr.2
  show xt (B.E (bC p.1 i)) Z p.2 q=x.2 q
  rw[rh (h.ok.eq _) (λa b ha hb k=>?_) hq.2]
  · exact e2 q hq.2
  rw[e1]at k;exact gp.fA a b (by rw[e1];exact(sm a b ha hb).2 k)
 have ext:∀k,k<B.n->k≠i->k≠j->y.1 k=false->¬H (bC y.1 k)->S0 k=false/\¬H (bC S0 k):=λk hk ki kj yk nH=>by
  refine⟨by rw[kG,eT _ ki,az _ kj];exact yk,λm=>nH ?_⟩
  rwa [kG,AU _ ki,h.Xg _ (.inl rfl),wV,h.La _ _ (.inr rfl)]at m
 rw[V9 hU.nd λp q tp tq=>(h.SQ hU hy hx kx yH yi yj tp).1.trans (h.SQ hU hy hx kx yH yi yj tq).1.symm];constructor
 · rintro⟨p,t⟩
   obtain⟨e,k,hk,ki,kj,yk,nH,ex⟩:=h.SQ hU hy hx kx yH yi yj t;obtain⟨a,b⟩:=ext k hk ki kj yk nH;refine⟨.inl ⟨yH,yi,yj,k,hk,ki,kj,yk,nH,ex⟩,(mid t.mem (by rw[e,kG]) (λq hq=>by rw[e];exact gb hq) λq r hq hr=>?_).1 t.my⟩;rw[ex,<-kG];exact h.ex S0 k H0 i0 j0 hk ki kj a b q r hq hr
 rintro⟨ze,c⟩
 rcases ze with⟨_,_,_,k,hk,ki,kj,yk,nH,ex⟩|⟨m,_⟩
 · obtain⟨a,b⟩:=ext k hk ki kj yk nH
   rw[<-kG]at ex;have same:=h.ex S0 k H0 i0 j0 hk ki kj a b
   have g0:=h.uU (T:=S0) (f:=x.2) (b:=true) (λm hm=>by
    rw[kG];unfold gC;split;rfl;rw[az _ (by have:=h.hj;omega)];exact gy.sup m hm) gx.pt H0 i0 j0 λq r hq hr k=>gx.fA q r (by rw[ex];exact(same q r hq hr).1 k)
   have m0:=(hU.mem _).2 g0;refine⟨(S0,zX Z true x.2),m0,bk1.2 ⟨H0,i0,λ_=>qp h.zz⟩,(mid m0 rfl (λq hq=>gb hq) λq r hq hr=>by rw[ex];exact same q r hq hr).2 c,?_⟩
   exact(h.lH g0 gx H0 i0 j0 (qp h.zz) hk a ex λm=>b (by rw[<-ex];exact m.1)).2 λq hq=>(gb hq).symm
 exact absurd yH m
theorem qZ.SP(h:qZ B H i j Z z)(hU:B.All U){y x p:El}(hy:y∈U)(hx:x∈U)(kx:bk H i j z x=0)(yH:¬H y.1)(t:M6 B H i j Z z U y x p):
 y.1 i=false/\y.1 j=true/\∃k,k<B.n/\k≠i/\k≠j/\y.1 k=false/\H (bC y.1 k)/\x.1=bC (gC (bC y.1 k) j) i/\p=(gC (bC y.1 k) j,xt (B.E (gC (bC y.1 k) j)) Z y.2):=by
 obtain⟨pH,pi,pz⟩:=bk1.1 t.k;have gp:=(hU.mem p).1 t.mem;have gx:=(hU.mem x).1 hx;have gy:=(hU.mem y).1 hy;obtain⟨k,hk,k0,e,_⟩:=bI.mM t.my
 have ii:∀S,S=bC y.1 k->H S->k≠i/\k≠j/\H (bC y.1 k):=λS eS hS=>by
  rw[eS]at hS;exact⟨λc=>yH ((h.La _ k (.inl c)).1 hS),λc=>yH ((h.La _ k (.inr c)).1 hS),hS⟩
 obtain⟨l,hl,l0,e2,_⟩:=bI.mM t.mx;cases pj:p.1 j;rotate_left
 · exfalso
   rw[Fu pj]at e;have e:bC p.1 i=bC y.1 k:=e;obtain⟨ki,kj,kH⟩:=ii _ e ((h.La _ _ (.inl rfl)).2 pH);have e1:p.1=gC (bC y.1 k) i:=Dd pi e
   have lj:l≠j:=λc=>by rw[c,pj]at l0;cases l0
   have OD:H x.1:=by
    rw[e2,e1];by_cases d:l=i
    · rw[d,h.La _ _ (.inl rfl),h.Xg _ (.inl rfl)];exact kH
    rw[AU _ d,h.Xg _ (.inl rfl)];exact h.nx _ k l yH kH
   rcases Xe.1 kx with m|⟨_,m⟩
   · exact m OD
   rw[e2,az _ λc=>lj c.symm,pj]at m;cases m
 rw[Aq pj]at e;have e:bC p.1 j=bC y.1 k:=e;have H1:H (bC p.1 j):=(h.La _ _ (.inr rfl)).2 pH;obtain⟨ki,kj,kH⟩:=ii _ e H1
 have yj:y.1 j=true:=by
  have:=congrFun e j
  rw[bK,az _ λc=>kj c.symm]at this;exact this.symm
 have yi:y.1 i=false:=by
  have:=congrFun e i
  rw[az _ h.ne,pi,az _ λc=>ki c.symm]at this;exact this.symm
 have e1:p.1=gC (bC y.1 k) j:=Dd pj e
 have li:l=i:=js λc=>by
  rcases Xe.1 kx with m|⟨m,_⟩
  · refine m ?_
    rw[e2,e1];by_cases d:l=j
    · rw[d,h.La _ _ (.inr rfl),h.Xg _ (.inr rfl)];exact kH
    rw[AU _ d,h.Xg _ (.inr rfl)];exact h.nx _ k l yH kH
  rw[e2,az _ λd=>c d.symm,pi]at m;cases m
 subst li;refine⟨yi,yj,k,hk,ki,kj,k0,kH,by rw[e2,e1],Prod.ext e1 ?_⟩;have H1':H (bC y.1 k):=kH
 have a1:bC y.1 k l=false:=by rw[az _ λc=>ki c.symm];exact yi
 have a2:bC y.1 k j=true:=by rw[az _ λc=>kj c.symm];exact yj
 have hp:=(h.Dr hU 0 0).hp p t.mem t.k;have gq:=(hU.mem _).1 hp.1;rw[Aq pj]at gq;have m:=t.my;rw[Aq pj]at m;have r:=(h.nP gy gq H1 (by show bC p.1 j l=false;rw[e];exact a1) (bK _ _) (qp h.zz) hk k0 e λm=>yH m.1).1 m;have k2:=BC (f:=y.2) (h.ok.eq p.1) gp.fA (λq c=>by rw[<-r q c];exact(gb c).symm) (h.vH _ λm=>by rw[pj]at m;cases m.2.2)
 rw[e1]at k2;exact k2
theorem qZ.zg2(h:qZ B H i j Z z)(hU:B.All U){y x:El}(hy:y∈U)(hx:x∈U)(kx:bk H i j z x=0)(yH:¬H y.1):
 Zg U B H i j Z z y x=true↔ZE B.n H i j y.1 x.1/\Bo (λo=>B.P o/\¬Z o) (B.E y.1) (B.E x.1) y.2 x.2:=by
 have gy:=(hU.mem y).1 hy;have gx:=(hU.mem x).1 hx
 rw[V9 hU.nd λp q tp tq=>by
  obtain⟨_,_,k,_,ki,kj,k0,_,ex,ep⟩:=h.SP hU hy hx kx yH tp;obtain⟨_,_,l,_,li,lj,l0,_,ex',eq⟩:=h.SP hU hy hx kx yH tq
  have:k=l:=js λc=>by
   rw[ex]at ex';have:=congrFun ex' k
   rw[az _ ki,eT _ kj,bK,az _ ki,eT _ kj,az _ c,k0]at this;cases this
  subst this
  rw[ep,eq]]
 have all:∀k,k<B.n->k≠i->k≠j->y.1 i=false->y.1 j=true->y.1 k=false->H (bC y.1 k)->x.1=bC (gC (bC y.1 k) j) i ->
  (M6 B H i j Z z U y x (gC (bC y.1 k) j,xt (B.E (gC (bC y.1 k) j)) Z y.2)↔Bo (λo=>B.P o/\¬Z o) (B.E y.1) (B.E x.1) y.2 x.2):=λk hk ki kj yi yj k0 kH ex=>by
  obtain⟨S1,hS1⟩:∃S1,S1=bC y.1 k:=⟨_,rfl⟩
  have sm':=h.en y.1 k yH yi yj hk ki kj k0 kH;rw[<-hS1]at kH ex sm' ⊢
  have i1:S1 i=false:=by rw[hS1,az _ λc=>ki c.symm];exact yi
  have j1:S1 j=true:=by rw[hS1,az _ λc=>kj c.symm];exact yj
  have sm:=h.IK S1 kH i1 j1;have H0:H (gC S1 j):=(h.Xg _ (.inr rfl)).2 kH
  have i0:gC S1 j i=false:=by rw[eT _ h.ne];exact i1
  have n00:¬(H (gC S1 j)/\gC S1 j i=false/\gC S1 j j=true):=λm=>by rw[fy]at m;cases m.2.2
  have nx:=yV kx
  have amm:∀m,B.n<=m->S1 m=false:=λm hm=>by rw[hS1,az _ (by omega)];exact gy.sup m hm
  have aoC:∀a b,¬Z a->¬Z b->B.E (gC S1 j) a b->y.2 a=y.2 b:=λa b ha hb m=>gy.fA a b ((sm' a b ha hb).2 ((sm a b ha hb).2 m))
  have g0:=h.rU (S:=y.1) (T:=gC S1 j) (f:=y.2) (λm hm=>by unfold gC;split;rfl;exact amm m hm) gy.pt;have m0:=(hU.mem _).2 g0
  have off:=λq (hq:¬Z q)=>rh (h.ok.eq _) aoC hq
  have c0:Bo (λo=>B.P o/\¬Z o) (B.E (gC S1 j)) (B.E x.1) (xt (B.E (gC S1 j)) Z y.2) x.2↔Bo (λo=>B.P o/\¬Z o) (B.E y.1) (B.E x.1) y.2 x.2:=
   u5 (λa b ha hb=>by rw[sm' a b ha.2 hb.2,sm a b ha.2 hb.2]) (λ_ _ _ _=>Iff.rfl) (λa ha=>off a ha.2) λ_ _=>rfl
  rw[<-c0];have mi:=h.Wc g0 gx n00 nx;constructor
  · intro t;exact(mi.1 t.mx).2
  intro c;have k1:bk H i j z (gC S1 j,xt (B.E (gC S1 j)) Z y.2)=1:=bk1.2 ⟨H0,i0,λm=>absurd (show gC S1 j j=true from m) (by rw[fy];simp)⟩;refine⟨m0,k1,?_,mi.2 ⟨⟨i,h.hi,i0,ex⟩,c⟩⟩;have hp:=(h.Dr hU 0 0).hp _ m0 k1;have gq:=(hU.mem _).1 hp.1
  have bp:wH B i j Z (gC S1 j,xt (B.E (gC S1 j)) Z y.2)=(S1,zX Z false (xt (B.E (gC S1 j)) Z y.2)):=by
   rw[Aq (x:=(gC S1 j,xt (B.E (gC S1 j)) Z y.2)) (fy _ _)]
   show (bC (gC S1 j) j,_)=_
   rw[sx _ j1]
  rw[bp]at gq ⊢
  exact(h.nP gy gq kH i1 j1 (qp h.zz) hk k0 hS1 λm=>yH m.1).2 λq c=>by rw[<-off q c];exact gb c
 constructor
 · rintro⟨p,t⟩
   obtain⟨yi,yj,k,hk,ki,kj,k0,kH,ex,ep⟩:=h.SP hU hy hx kx yH t;rw[ep]at t;exact⟨.inr ⟨yH,yi,yj,k,hk,ki,kj,k0,kH,ex⟩,(all k hk ki kj yi yj k0 kH ex).1 t⟩
 rintro⟨ze,c⟩
 rcases ze with⟨m,_⟩|⟨_,yi,yj,k,hk,ki,kj,k0,kH,ex⟩
 · exact absurd m yH
 exact⟨_,(all k hk ki kj yi yj k0 kH ex).2 c⟩
theorem qZ.xM(h:qZ B H i j Z z)(hU:B.All U){y x:El}(hy:y∈U)(hx:x∈U)(ky:bk H i j z y=0)(kx:bk H i j z x=0):
 Ov U B.M (bk H i j z) (wH B i j Z) y x=true↔(DE B.n y.1 x.1\/ZE B.n H i j y.1 x.1)/\Bo (λo=>B.P o/\¬Z o) (B.E y.1) (B.E x.1) y.2 x.2:=by
 have m:=h.Wc ((hU.mem y).1 hy) ((hU.mem x).1 hx) (yV ky) (yV kx)
 have zg:Zg U B H i j Z z y x=true↔ZE B.n H i j y.1 x.1/\Bo (λo=>B.P o/\¬Z o) (B.E y.1) (B.E x.1) y.2 x.2:=by
  by_cases c:H y.1
  · rcases Xe.1 ky with d|⟨d1,d2⟩
    · exact absurd c d
    exact h.zg1 hU hy hx kx c d1 d2
  exact h.zg2 hU hy hx kx c
 have e:Ov U B.M (bk H i j z) (wH B i j Z) y x=xor (B.M y x) (Zg U B H i j Z z y x):=by
  unfold Ov Zg;rw[kx];simp
 rw[e];by_cases c1:B.M y x=true
 · have c2:Zg U B H i j Z z y x=false:=by
    cases d:Zg U B H i j Z z y x
    · rfl
    exact(Qk (m.1 c1).1 (zg.1 d).1).elim
   rw[c1,c2];exact⟨λ_=>⟨.inl (m.1 c1).1,(m.1 c1).2⟩,λ_=>rfl⟩
 have c1':B.M y x=false:=by simpa using c1
 rw[c1',Bool.false_xor,zg];exact⟨λk=>⟨.inr k.1,k.2⟩,λk=>⟨k.1.resolve_left λd=>c1 (m.2 ⟨d,k.2⟩),k.2⟩⟩
end
structure Kv(B:bI)(j:Nat)(v:Bool)(Z:Nat->Prop)(z:Nat):Prop where
 ok:B.Ok
 hj:j<B.n
 zz:Z z
 zP:∀x,Z x->B.P x
 ring:∀S,S j=v->∀x y,Z x->(B.E S x y↔Z y)
 vH:∀S,S j=!v->∀x,Z x->∃o,¬Z o/\B.E S o x
 RU:∀S,S j=false->∀x y,¬Z x->¬Z y->(B.E S x y↔B.E (bC S j) x y)
section
variable {B:bI} {j:Nat} {v:Bool} {Z:Nat->Prop} {z:Nat} {U:List El}
theorem bI.Ok.lH(h:B.Ok){p q:El}(hp:B.Good p)(hq:B.Good q)(ring:∀x,B.E p.1 z x↔Z x)(pz:p.2 z=true)(hk:k<B.n)(k0:p.1 k=false)(e:q.1=bC p.1 k)
 {o:Nat} (ho:¬Z o) (m:B.E q.1 o z):B.M p q=true↔∀x,¬Z x->q.2 x=p.2 x:=by
 rw[bI.DA hk k0 e];have KX:=hq.fA;rw[e]at m KX;obtain⟨J,m⟩:=OA (h.Fw _ k hk k0) ring ho m;have:=J.Oq hp.fA KX m pz;unfold bI.dE;rw[J.dE,this]
 exact forall_congr' λx=>imp_congr (not_congr ⟨λk=>(ring x).1 ((h.eq _).symm k),λk=>(h.eq _).symm ((ring x).2 k)⟩) Iff.rfl
theorem bI.Ok.nP(h:B.Ok){p q:El}(hp:B.Good p)(hq:B.Good q)(ring:∀x,B.E q.1 z x↔Z x)(qz:q.2 z=false)(hk:k<B.n)(k0:p.1 k=false)(e:q.1=bC p.1 k)
 {o:Nat} (ho:¬Z o) (m:B.E p.1 o z):B.M p q=true↔∀x,¬Z x->q.2 x=p.2 x:=by
 rw[bI.DA hk k0 e];have KX:=hq.fA;have rz:=ring
 have rz':∀x,B.E q.1 x z↔Z x:=λx=>⟨λk=>(ring x).1 ((h.eq _).symm k),λk=>(h.eq _).symm ((ring x).2 k)⟩
 rw[e]at KX rz rz';obtain⟨J,m⟩:=OA (h.Fw _ k hk k0).symm rz ho m;have:=J.NI hp.fA KX m qz;unfold bI.dE;rw[J.VB,this]
 exact forall_congr' λx=>imp_congr (not_congr (rz' x)) Iff.rfl
theorem bI.Ok.keep(h:B.Ok){p q:El}(hp:B.Good p)(hq:B.Good q)(r:∀x,B.E p.1 z x↔Z x)(r':∀x,B.E q.1 z x↔Z x)(m:B.M p q=true):q.2 z=p.2 z:=by
 obtain⟨k,hk,k0,e,_⟩:=bI.mM m;rw[bI.DA hk k0 e]at m;have KX:=hq.fA;rw[e]at r' KX;exact aay (h.Fw _ k hk k0) r r' hp.fA KX m
noncomputable def kk (j:Nat) (v:Bool) (z:Nat) (x:El):Nat:=if x.1 j=v then(if x.2 z=v then 0 else if v then 2 else 1)else if v then 1 else 2
noncomputable def Uw (B:bI) (j:Nat) (v:Bool) (Z:Nat->Prop) (x:El):El:=if v then(bC x.1 j,zX Z false x.2)else(bC x.1 j,xt (B.E (bC x.1 j)) Z x.2)
noncomputable def amO (B:bI) (j:Nat) (v:Bool) (Z:Nat->Prop) (x:El):El:=if v then(gC x.1 j,xt (B.E (gC x.1 j)) Z x.2)else(gC x.1 j,zX Z true x.2)
theorem kk0{x:El}:kk j v z x=0↔x.1 j=v/\x.2 z=v:=by
 unfold kk;cases v<;>cases x.1 j<;>cases x.2 z<;>simp
theorem kk1{x:El}:kk j v z x=1↔x.1 j=false/\(v=false->x.2 z=true):=by
 unfold kk;cases v<;>cases x.1 j<;>cases x.2 z<;>simp
theorem kk2{x:El}:kk j v z x=2↔x.1 j=true/\(v=true->x.2 z=false):=by
 unfold kk;cases v<;>cases x.1 j<;>cases x.2 z<;>simp
theorem Kv.kU(h:Kv B j v Z z)(Sj:S j=v)(x:Nat):B.E S z x↔Z x:=h.ring S Sj z x h.zz
theorem Kv.Di(h:Kv B j v Z z)(hf:j6 (B.E S) f)(Sj:S j=v)(hx:Z x):f x=f z:=(hf _ _ ((h.kU Sj x).2 hx)).symm
theorem Kv.rU(h:Kv B j v Z z){T:Nat->Bool}(sup:∀k,B.n<=k->T k=false)(hp:∀p,¬B.P p->f p=false):B.Good (T,xt (B.E T) Z f):=
 ⟨sup,λp k=>by
  show tr _=false
  rw[br];rintro⟨o,h1,h2,h3⟩
  rcases h.ok.pt T o p h2 with rfl|⟨_,m⟩
  · rw[hp o k]at h3;cases h3
  exact k m,Sp (h.ok.eq T)⟩
theorem Kv.uU(h:Kv B j v Z z){T:Nat->Bool}{b:Bool}(sup:∀k,B.n<=k->T k=false)(hp:∀p,¬B.P p->f p=false)(Tj:T j=v)
 (hf:∀x y,¬Z x->¬Z y->B.E T x y->f x=f y):B.Good (T,zX Z b f):=
 ⟨sup,λp k=>by
  show zX Z b f p=false
  rw[gb λm=>k (h.zP p m)];exact hp p k,λx y k=>by
  show zX Z b f x=zX Z b f y
  by_cases c:Z x
  · rw[qp c,qp ((h.ring T Tj x y c).1 k)]
  have d:¬Z y:=λd=>c ((h.ring T Tj y x d).1 ((h.ok.eq T).symm k))
  rw[gb c,gb d];exact hf x y c d k⟩
theorem Kv.Dr(h:Kv B j v Z z)(hU:B.All U)(s t:Int):uv U B.M (kk j v z) (Uw B j v Z) (amO B j v Z) (B.dg s t) zY where
 nd:=hU.nd
 sup:=λy hy x e=>hU.sup h.ok hy x e
 dd:=λy hy=>hU.dd h.ok hy
 J5:=λy hy x e=>h.ok.J5 s t ((hU.mem y).1 hy) e
 acb:=NQ
 hk:=λx _=>by unfold kk;cases v<;>cases x.1 j<;>cases x.2 z<;>simp
 hp:=λp hp k=>by
  obtain⟨pj,pz⟩:=kk1.1 k;have g:=(hU.mem p).1 hp
  have up:∀m,B.n<=m->bC p.1 j m=false:=λm hm=>by rw[az _ (by have:=h.hj;omega)];exact g.sup m hm
  have sm:=h.RU p.1 pj;cases v
  · refine⟨(hU.mem _).2 (h.rU up g.pt),kk2.2 ⟨bK _ _,λc=>by cases c⟩,Prod.ext (vG _ pj) (BP (λx c=>?_) λx c=>?_).symm⟩
    · rw[h.Di g.fA pj c];exact pz rfl
    exact(rh (h.ok.eq _) (λa b ha hb m=>g.fA a b ((sm a b ha hb).2 m)) c).symm
  refine⟨(hU.mem _).2 (h.uU up g.pt (bK _ _) λa b ha hb m=>g.fA a b ((sm a b ha hb).2 m)),kk2.2 ⟨bK _ _,λ_=>qp h.zz⟩,Prod.ext (vG _ pj) ?_⟩
  show xt (B.E (gC (bC p.1 j) j)) Z (zX Z false p.2)=p.2
  rw[vG _ pj];exact(BC (h.ok.eq _) g.fA (λx c=>(gb c).symm) (h.vH _ pj)).symm
 hq:=λq hq k=>by
  obtain⟨qj,qz⟩:=kk2.1 k;have g:=(hU.mem q).1 hq
  have dn:∀m,B.n<=m->gC q.1 j m=false:=λm hm=>by unfold gC;split;rfl;exact g.sup m hm
  have sm:=h.RU (gC q.1 j) (fy _ _);rw[sx _ qj]at sm;cases v
  · refine⟨(hU.mem _).2 (h.uU dn g.pt (fy _ _) λa b ha hb m=>g.fA a b ((sm a b ha hb).1 m)),kk1.2 ⟨fy _ _,λ_=>qp h.zz⟩,Prod.ext (sx _ qj) ?_⟩
    show xt (B.E (bC (gC q.1 j) j)) Z (zX Z true q.2)=q.2
    rw[sx _ qj];exact(BC (h.ok.eq _) g.fA (λx c=>(gb c).symm) (h.vH _ qj)).symm
  refine⟨(hU.mem _).2 (h.rU dn g.pt),kk1.2 ⟨fy _ _,λc=>by cases c⟩,Prod.ext (sx _ qj) (BP (λx c=>?_) λx c=>?_).symm⟩
  · rw[h.Di g.fA qj c];exact qz rfl
  exact(rh (h.ok.eq _) (λa b ha hb m=>g.fA a b ((sm a b ha hb).1 m)) c).symm
 hM:=λp hp k q hq k'=>by
  obtain⟨pj,pz⟩:=kk1.1 k;obtain⟨qj,qz⟩:=kk2.1 k';have g:=(hU.mem p).1 hp;have g':=(hU.mem q).1 hq
  have edge:B.M p q=true->q.1=bC p.1 j:=λm=>by
   obtain⟨l,hl,l0,e1,_⟩:=bI.mM m
   have lj:l=j:=js λc=>by
    rw[e1,az _ λc'=>c c'.symm,pj]at qj;cases qj
   rw[<-lj];exact e1
  have sm:=h.RU p.1 pj;cases v
  · obtain⟨o,h1,h2⟩:=h.vH q.1 qj z h.zz
    constructor
    · intro m
      have e1:=edge m;have:=(h.ok.lH g g' (h.kU pj) (pz rfl) h.hj pj e1 h1 h2).1 m
      refine Prod.ext e1 ?_
      have k2:=BC (h.ok.eq _) g'.fA this (h.vH _ qj)
      rw[e1]at k2;exact k2
    intro m
    have e1:q.1=bC p.1 j:=by rw[m];rfl
    refine(h.ok.lH g g' (h.kU pj) (pz rfl) h.hj pj e1 h1 h2).2 λx c=>?_
    rw[m];exact rh (h.ok.eq _) (λa b ha hb m=>g.fA a b ((sm a b ha hb).2 m)) c
  obtain⟨o,h1,h2⟩:=h.vH p.1 pj z h.zz;constructor
  · intro m
    have e1:=edge m;have:=(h.ok.nP g g' (h.kU qj) (qz rfl) h.hj pj e1 h1 h2).1 m
    refine Prod.ext e1 (BP (λx c=>?_) this)
    rw[h.Di g'.fA qj c];exact qz rfl
  intro m
  have e1:q.1=bC p.1 j:=by rw[m];rfl
  refine(h.ok.nP g g' (h.kU qj) (qz rfl) h.hj pj e1 h1 h2).2 λx c=>?_
  rw[m];exact gb c
theorem Kv.xM(h:Kv B j v Z z)(hU:B.All U){y x:El}(hy:y∈U)(hx:x∈U)(ky:kk j v z y=0)(kx:kk j v z x=0):
 Ov U B.M (kk j v z) (Uw B j v Z) y x=true↔DE B.n y.1 x.1/\Bo (λo=>B.P o/\¬Z o) (B.E y.1) (B.E x.1) y.2 x.2:=by
 obtain⟨yj,yz⟩:=kk0.1 ky;obtain⟨xj,xz⟩:=kk0.1 kx;have gy:=(hU.mem y).1 hy;have gx:=(hU.mem x).1 hx
 have e:Ov U B.M (kk j v z) (Uw B j v Z) y x=B.M y x:=by
  unfold Ov;rw[kx,gJ λp hp=>?_]
  · simp
  cases e:((decide (kk j v z p=1)&&B.M y (Uw B j v Z p))&&B.M p x)
  · rfl
  exfalso;rw[jp,jp,jt]at e;obtain⟨⟨k1,m1⟩,m2⟩:=e;obtain⟨pj,pz⟩:=kk1.1 k1;have gp:=(hU.mem p).1 hp;cases v
  · have:=h.ok.keep gp gx (h.kU pj) (h.kU xj) m2
    rw[xz,pz rfl]at this;cases this
  have DS:=(h.Dr hU 0 0).hp p hp k1;have gq:=(hU.mem _).1 DS.1;obtain⟨qj,qz⟩:=kk2.1 DS.2.1;have:=h.ok.keep gy gq (h.kU yj) (h.kU qj) m1
  rw[yz,qz rfl]at this;cases this
 have hz:∀q,Z q->x.2 q=y.2 q:=λq c=>by rw[h.Di gx.fA xj c,h.Di gy.fA yj c,xz,yz]
 have tQ:∀S q,B.P q->(∃o,(B.P o/\¬Z o)/\B.E S o q)\/Z q:=λS q c=>by
  by_cases d:Z q
  · exact .inr d
  exact .inl ⟨q,⟨c,d⟩,(h.ok.eq S).refl q⟩
 rw[e];constructor
 · intro m
   obtain⟨k,hk,k0,e1,_⟩:=bI.mM m;refine⟨⟨k,hk,k0,e1⟩,?_⟩;rw[bI.DA hk k0 e1]at m;have ad:=h.ok.Fw _ k hk k0;have US:=gx.fA;have xj':=xj;rw[e1]at US xj';obtain⟨pa,pc⟩:=h.ok.ac k hk
   have na:∀q,q=B.a k\/q=B.c k->¬Z q:=λq hq c=>by
    have r:=h.ring y.1 yj;have r':=h.ring (bC y.1 k) xj'
    rcases ad with J|J
    · have m1:=J.ac
      refine J.ap ?_
      rcases hq with rfl|rfl
      · exact(r _ _ c).2 ((r' _ _ c).1 m1)
      exact J.eq.symm ((r _ _ c).2 ((r' _ _ c).1 (J.kW.symm m1)))
    have m1:=J.ac
    refine J.ap ?_
    rcases hq with rfl|rfl
    · exact(r' _ _ c).2 ((r _ _ c).1 m1)
    exact J.eq.symm ((r' _ _ c).2 ((r _ _ c).1 (J.kW.symm m1)))
   have la:=na _ (.inl rfl);have lc:=na _ (.inr rfl)
   have cv:∀S:Nat->Bool,∀q,(∃o,(B.P o/\¬Z o)/\B.E S o q)\/x.2 q=y.2 q:=λS q=>by
    by_cases c:B.P q
    · exact(tQ S q c).imp id (hz q)
    exact .inr (by rw[gx.pt q c,gy.pt q c])
   have:=(ad.Bo (ω:=λo=>o) (O:=λo=>B.P o/\¬Z o) gy.fA US ⟨_,⟨pa,la⟩,(h.ok.eq _).refl _⟩ ⟨_,⟨pc,lc⟩,(h.ok.eq _).refl _⟩ ⟨_,⟨pa,la⟩,(h.ok.eq _).refl _⟩ ⟨_,⟨pc,lc⟩,(h.ok.eq _).refl _⟩ (cv _) (cv _)).1 m
   rw[e1];exact this
 rintro⟨⟨k,hk,k0,e1⟩,m⟩;rw[bI.DA hk k0 e1];have ad:=h.ok.Fw _ k hk k0;have US:=gx.fA;have xj':=xj;rw[e1]at US xj' m;obtain⟨pa,pc⟩:=h.ok.ac k hk
 have na:∀q,q=B.a k\/q=B.c k->¬Z q:=λq hq c=>by
  have r:=h.ring y.1 yj;have r':=h.ring (bC y.1 k) xj'
  rcases ad with J|J
  · have m1:=J.ac
    refine J.ap ?_
    rcases hq with rfl|rfl
    · exact(r _ _ c).2 ((r' _ _ c).1 m1)
    exact J.eq.symm ((r _ _ c).2 ((r' _ _ c).1 (J.kW.symm m1)))
  have m1:=J.ac
  refine J.ap ?_
  rcases hq with rfl|rfl
  · exact(r' _ _ c).2 ((r _ _ c).1 m1)
  exact J.eq.symm ((r' _ _ c).2 ((r _ _ c).1 (J.kW.symm m1)))
 have la:=na _ (.inl rfl);have lc:=na _ (.inr rfl)
 have cv:∀S:Nat->Bool,∀q,(∃o,(B.P o/\¬Z o)/\B.E S o q)\/x.2 q=y.2 q:=λS q=>by
  by_cases c:B.P q
  · exact(tQ S q c).imp id (hz q)
  exact .inr (by rw[gx.pt q c,gy.pt q c])
 exact(ad.Bo (ω:=λo=>o) (O:=λo=>B.P o/\¬Z o) gy.fA US ⟨_,⟨pa,la⟩,(h.ok.eq _).refl _⟩ ⟨_,⟨pc,lc⟩,(h.ok.eq _).refl _⟩ ⟨_,⟨pa,la⟩,(h.ok.eq _).refl _⟩ ⟨_,⟨pc,lc⟩,(h.ok.eq _).refl _⟩ (cv _) (cv _)).2 m
end
theorem bI.Ok.aiS{B:bI}(h:B.Ok){w:Nat->Nat}{y x:El}(hy:B.Good y)(hx:B.Good x)(cy:∀p,B.P p->∃o,O o/\B.E y.1 (w o) p)(cx:∀p,B.P p->∃o,O o/\B.E x.1 (w o) p):
 B.M y x=true↔DE B.n y.1 x.1/\Bo O (λo o'=>B.E y.1 (w o) (w o')) (λo o'=>B.E x.1 (w o) (w o')) (λo=>y.2 (w o)) (λo=>x.2 (w o)):=by
 have main:∀k,k<B.n->y.1 k=false->x.1=bC y.1 k->(B.M y x=true↔Bo O (λo o'=>B.E y.1 (w o) (w o')) (λo o'=>B.E x.1 (w o) (w o')) (λo=>y.2 (w o)) (λo=>x.2 (w o))):=λk hk hS e=>by
  rw[bI.DA hk hS e];have ad:=h.Fw _ k hk hS;have US:=hx.fA;have Za:=cx;rw[e]at US Za;obtain⟨pa,pc⟩:=h.ac k hk
  have cv:∀(D:Rl),(∀p,B.P p->∃o,O o/\D (w o) p)->∀p,(∃o,O o/\D (w o) p)\/x.2 p=y.2 p:=λD hD p=>by
   by_cases c:B.P p
   · exact .inl (hD p c)
   exact .inr (by rw[hx.pt p c,hy.pt p c])
  have:=ad.Bo (ω:=w) hy.fA US (cy _ pa) (cy _ pc) (Za _ pa) (Za _ pc) (cv _ cy) (cv _ Za)
  rw[e];exact this
 constructor
 · intro m
   obtain⟨k,hk,k0,e,_⟩:=bI.mM m;exact⟨⟨k,hk,k0,e⟩,(main k hk k0 e).1 m⟩
 rintro⟨⟨k,hk,k0,e⟩,m⟩;exact(main k hk k0 e).2 m
theorem iT.all(L:iT)(hs:∀S,L.St S->∀k,n<=k->S k=false)(hO:∀o,L.O o->o<N):∃V:List El,V.Nodup/\∀x,x∈V↔L.Good x:=
 abe (n:=n) (N:=N) L.Good λx hx=>⟨hs _ hx.1,λk hk=>hx.2.1 k λm=>by have:=hO k m;omega⟩
def pX(m:Nat)(fx:Nat->Option Bool)(e':Nat->Nat)(T:Nat->Bool):Nat->Bool:=λl=>if l<m then(match fx l with|some b=>b|none=>T (e' l))else false
structure qT(B A:bI)(O:Nat->Prop)(fx:Nat->Option Bool)(e e':Nat->Nat)(w:Nat->Nat):Prop where
 okA:A.Ok
 okB:B.Ok
 lt:∀k,k<A.n->e k<B.n/\fx (e k)=none/\e' (e k)=k
 lt':∀l,l<B.n->fx l=none->e' l<A.n/\e (e' l)=l
 fin:∃N,∀o,O o->o<N
 wP:∀o,O o->A.P (w o)
 LJ:∀q,A.P q->∃o,O o/\w o=q
 rel:∀T,(∀k,A.n<=k->T k=false)->∀o o',O o->O o'->(B.E (pX B.n fx e' T) o o'↔A.E T (w o) (w o'))
def iT.fixed(B:bI)(O:Nat->Prop)(fx:Nat->Option Bool):iT where
 O:=O
 St:=λS=>(∀k,B.n<=k->S k=false)/\∀l b,l<B.n->fx l=some b->S l=b
 R:=B.E
 ed:=DE B.n
section
variable {B A:bI} {O:Nat->Prop} {fx:Nat->Option Bool} {e e':Nat->Nat} {w:Nat->Nat} {U V:List El}
theorem rW(h:qT B A O fx e e' w)(T:Nat->Bool)(hk:k<A.n):pX B.n fx e' T (e k)=T k:=by
 obtain⟨a,b,c⟩:=h.lt k hk
 unfold pX;rw[if_pos a,b,c]
theorem x7(T:Nat->Bool){l:Nat}{b:Bool}(hl:l<m)(h:fx l=some b):pX m fx e' T l=b:=by
 unfold pX;rw[if_pos hl,h]
theorem Vl(T:Nat->Bool){l:Nat}(hl:m<=l):pX m fx e' T l=false:=by
 unfold pX;rw[if_neg (by omega)]
theorem OQ(h:qT B A O fx e e' w)(T:Nat->Bool)(hk:k<A.n):pX B.n fx e' (bC T k)=bC (pX B.n fx e' T) (e k):=by
 funext l;obtain⟨a,b,c⟩:=h.lt k hk;by_cases d:l=e k
 · rw[d,rW h _ hk,bK,bK]
 rw[az _ d];unfold pX;split
 · next hl=>
   cases f:fx l
   · have:e' l≠k:=λq=>d (by rw[<-q,(h.lt' l hl f).2])
     simp only[az _ this]
   rfl
 rfl
theorem qT.told(h:qT B A O fx e e' w)(hV:A.All V):Told (iT.fixed B O fx) (λS=>∀k,A.n<=k->S k=false) A.E A.P (λ_=>False) false (pX B.n fx e') w V A.M where
 nd:=hV.nd
 mem:=λx=>by
  rw[hV.mem];exact⟨λg=>⟨g.sup,g.pt,g.fA,λ_ c=>c.elim⟩,λg=>⟨g.1,g.2.1,g.2.2.1⟩⟩
 eq:=h.okA.eq
 pt:=h.okA.pt
 zp:=λ_ c=>c.elim
 s_in:=λS _=>⟨λk hk=>Vl S hk,λl b hl k=>x7 S hl k⟩
 IL:=λS T hS hT q=>funext λk=>by
  by_cases c:k<A.n
  · rw[<-rW h S c,q,rW h T c]
  rw[hS k (by omega),hT k (by omega)]
 s_on:=λT hT=>by
  refine⟨λk=>if k<A.n then T (e k)else false,λk hk=>if_neg (by omega),funext λl=>?_⟩;unfold pX;split
  · next hl=>
    cases f:fx l
    · obtain⟨a,b⟩:=h.lt' l hl f
      simp only[if_pos a,b]
    exact(hT.2 l _ hl f).symm
  next hl=>exact(hT.1 l (by omega)).symm
 rel:=λS hS o o' ho mH=>h.rel S hS o o' ho mH
 wP:=λo ho=>⟨h.wP o ho,λc=>c⟩
 vH:=λS _ p hp _=>by
  obtain⟨o,ho,q⟩:=h.LJ p hp;exact⟨o,ho,by rw[q];exact(h.okA.eq S).refl p⟩
 iso:=λ_ _ _ _ c=>c.elim
 sup:=λy hy x q=>hV.sup h.okA hy x q
 tab:=λy hy x hx=>by
  have gy:=(hV.mem y).1 hy;have gx:=(hV.mem x).1 hx
  have vH:∀S p,A.P p->∃o,O o/\A.E S (w o) p:=λS p hp=>by
   obtain⟨o,ho,q⟩:=h.LJ p hp;exact⟨o,ho,by rw[q];exact(h.okA.eq S).refl p⟩
  rw[h.okA.aiS (O:=O) (w:=w) gy gx (vH _) (vH _)]
  refine and_congr ?_ Iff.rfl
  show DE A.n y.1 x.1↔DE B.n _ _
  constructor
  · rintro⟨k,hk,k0,q⟩
    exact⟨e k,(h.lt k hk).1,by rw[rW h _ hk];exact k0,by rw[q,OQ h _ hk]⟩
  rintro⟨l,hl,l0,q⟩
  have fl:fx l=none:=by
   cases f:fx l
   · rfl
   next b=>
   have q1:=congrFun q l;rw[x7 _ hl f,bK]at q1
   rw[x7 _ hl f,q1]at l0;cases l0
  obtain⟨a,b⟩:=h.lt' l hl fl;refine⟨e' l,a,?_,?_⟩
  · rw[<-rW h y.1 a,b];exact l0
  rw[<-b,<-OQ h _ a]at q;funext k;by_cases c:k<A.n
  · rw[<-rW h x.1 c,q,rW h _ c]
  rw[gx.sup k (by omega),az _ (by omega),gy.sup k (by omega)]
def fxN(n:Nat)(fx:Nat->Option Bool):Nat:=((range n).filter λl=>decide (fx l=some true)).length
theorem qT.iU(h:qT B A O fx e e' w){T:Nat->Bool}(hT:∀k,A.n<=k->T k=false):iU B.n (pX B.n fx e' T)=iU A.n T+fxN B.n fx:=by
 have s:∀(l:List Nat) (p q:Nat->Bool),l.countP p=(l.filter λx=>p x&&q x).length+(l.filter λx=>p x && !q x).length:=λl p q=>by
  induction l with
  |nil=>rfl
  |cons a l ih=>rw[jG,ih];cases hp:p a<;>cases hq:q a<;>simp[hp,hq]<;>omega
 unfold Kn.iU;rw[s _ _ λl=>decide (fx l=none)]
 congr 1
 · rw[List.countP_eq_length_filter]
   refine(Gq (jK.filter _) (jK.filter _) e (λk hk=>?_) (λk hk l hl q=>?_) λl hl=>?_).symm
   · rw[jC,jw]at hk
     obtain⟨a,b,_⟩:=h.lt k hk.1;rw[jC,jw,rW h _ hk.1,b];exact⟨a,by simp[hk.2]⟩
   · rw[jC,jw]at hk hl
     rw[<-(h.lt k hk.1).2.2,q,(h.lt l hl.1).2.2]
   rw[jC,jw,jp,jt]at hl;obtain⟨a,b⟩:=h.lt' l hl.1 hl.2.2;refine⟨e' l,?_,b⟩;rw[jC,jw];refine⟨a,?_⟩
   rw[<-rW h T a,b];exact hl.2.1
 unfold fxN
 congr 1
 refine filter_congr λl hl=>?_
 rw[jw]at hl;cases f:fx l
 · simp
 next b=>rw[x7 _ hl f];cases b<;>simp
theorem qT.hn(h:qT B A O fx e e' w)(hV:A.All V){W:List El}(hW:W.Nodup)(mW:∀x,x∈W↔(iT.fixed B O fx).Good x)(u v:Int)(i:oP):
 hn V A.M (A.dg (u+fxN B.n fx) (v+fxN B.n fx)) i=hn W (iT.fixed B O fx).M ((iT.fixed B O fx).dg B.n u v) i:=by
 obtain⟨N,hN⟩:=h.fin;have t:=h.told hV
 refine t.hn hW mW (λx hx=>?_) i
 have gx:=(hV.mem x).1 hx;have d:dq A.P (A.E x.1) x.2=dq (iT.fixed B O fx).O (rs (iT.fixed B O fx).O ((iT.fixed B O fx).R (pX B.n fx e' x.1))) (tl (iT.fixed B O fx) (pX B.n fx e') w x).2+(bif tr (∃z:Nat,False)then xk false else 0):=t.dq hN (S:=x.1) gx.sup (h.okB.eq _) gx.fA (λ_ c=>c.elim) (.inl λ_ c=>c);rw[br.2 λ⟨_,c⟩=>c]at d;simp only[cond_false,Int.add_zero]at d;unfold iT.dg bI.dg;rw[d];have:((iT.fixed B O fx).dg B.n u v (tl (iT.fixed B O fx) (pX B.n fx e') w x)).1=(Kn.iU B.n (pX B.n fx e' x.1):Int)+u:=rfl
 rw[show (tl (iT.fixed B O fx) (pX B.n fx e') w x).1=pX B.n fx e' x.1 from rfl,h.iU gx.sup];simp only[Prod.mk.injEq]
 push_cast
 refine⟨by omega,?_⟩
 show _+_+_=dq (iT.fixed B O fx).O _ _+_+_
 omega
end
theorem Kv.told{B:bI}{v:Bool}{Z:Nat->Prop}{z:Nat}(h:Kv B j v Z z){U:List El}(hU:B.All U):
 Told (iT.fixed B (λo=>B.P o/\¬Z o) λl=>if l=j then some v else none) (λS=>(∀k,B.n<=k->S k=false)/\S j=v) B.E B.P Z v id id (U.filter λx=>decide (kk j v z x=0)) (Ov U B.M (kk j v z) (Uw B j v Z)) where
 nd:=hU.nd.filter _
 mem:=λx=>by
  rw[jC,hU.mem,jt,kk0];constructor
  · rintro⟨g,a,b⟩
    exact⟨⟨g.sup,a⟩,g.pt,g.fA,λq c=>by rw[h.Di g.fA a c,b]⟩
  rintro⟨⟨a,b⟩,c,d,f⟩;exact⟨⟨a,c,d⟩,b,f z h.zz⟩
 eq:=h.ok.eq
 pt:=h.ok.pt
 zp:=h.zP
 s_in:=λS hS=>⟨hS.1,λl b _ k=>by
  by_cases c:l=j
  · subst c;simp at k;rw[<-k];exact hS.2
  simp[c]at k⟩
 IL:=λ_ _ _ _ e=>e
 s_on:=λT hT=>⟨T,⟨hT.1,hT.2 j v h.hj (by simp)⟩,rfl⟩
 rel:=λ_ _ _ _ _ _=>Iff.rfl
 wP:=λo ho=>ho
 vH:=λS _ p hp hz=>⟨p,⟨hp,hz⟩,(h.ok.eq S).refl p⟩
 iso:=λS hS q x c k=>(h.ring S hS.2 q x c).1 k
 sup:=λy hy=>Gp (h.Dr hU 0 0) y (jC.1 hy).1
 tab:=λy hy x hx=>by
  rw[jC,jt]at hy hx;exact h.xM hU hy.1 hx.1 hy.2 hx.2
theorem Kv.hn{B A:bI}{j:Nat}{v:Bool}{Z:Nat->Prop}{z:Nat}(h:Kv B j v Z z){e e' w:Nat->Nat}(t:qT B A (λo=>B.P o/\¬Z o) (λl=>if l=j then some v else none) e e' w)
 {U V:List El} (hU:B.All U) (hV:A.All V) (u u':Int) (i:oP):hn U B.M (B.dg u u') i=hn V A.M (A.dg (u+if v then 1 else 0) (u'+if v then 2 else -1)) i:=by
 have T:=h.told hU;obtain⟨N,hN⟩:=h.ok.fin
 obtain⟨W,hW,mW⟩:=(iT.fixed B (λo=>B.P o/\¬Z o) λl=>if l=j then some v else none).all (n:=B.n) (N:=N) (λS hS=>hS.1) λo ho=>hN o ho.1
 rw[(h.Dr hU u u').hn i]
 have k:=T.hn hW mW (g:=B.dg u u') (k:=(iT.fixed B (λo=>B.P o/\¬Z o) λl=>if l=j then some v else none).dg B.n u (u'+xk v)) (λx hx=>by
  obtain⟨a,b,c,d⟩:=(T.mem x).1 hx;have q:dq B.P (B.E x.1) x.2=dq (iT.fixed B (λo=>B.P o/\¬Z o) λl=>if l=j then some v else none).O (rs (iT.fixed B (λo=>B.P o/\¬Z o) λl=>if l=j then some v else none).O ((iT.fixed B (λo=>B.P o/\¬Z o) λl=>if l=j then some v else none).R x.1)) (tl (iT.fixed B (λo=>B.P o/\¬Z o) λl=>if l=j then some v else none) id id x).2+(bif tr (∃z,Z z)then xk v else 0):=T.dq (N:=N) (λo ho=>hN o ho.1) (S:=x.1) a (h.ok.eq _) c d (.inr ⟨z,h.zz,λx k=>(h.kU a.2 x).2 k⟩)
  rw[bf.2 ⟨z,h.zz⟩]at q;simp only[cond_true]at q;unfold iT.dg bI.dg;rw[q];simp only[Prod.mk.injEq];refine⟨rfl,?_⟩
  show dq (iT.fixed B (λo=>B.P o/\¬Z o) λl=>if l=j then some v else none).O (rs (iT.fixed B (λo=>B.P o/\¬Z o) λl=>if l=j then some v else none).O ((iT.fixed B (λo=>B.P o/\¬Z o) λl=>if l=j then some v else none).R x.1)) (tl (iT.fixed B (λo=>B.P o/\¬Z o) λl=>if l=j then some v else none) id id x).2+(iU B.n x.1:Int)+(u'+xk v)=_
  omega) i
 rw[k,<-t.hn hV hW mW]
 have c:fxN B.n (λl=>if l=j then some v else none)=if v then 1 else 0:=by
  unfold fxN;cases v
  · simp
  have:((range B.n).filter λl=>decide ((if l=j then some true else none)=some true))=(range B.n).filter λl=>l==j:=filter_congr λl _=>by
   by_cases c:l=j<;>simp[c]
  rw[this,filter_beq,jK.count,if_pos (jw.2 h.hj)];rfl
 rw[c];cases v
 · show Kn.hn V A.M (A.dg (u+0) (u' + -1+0)) i=Kn.hn V A.M (A.dg (u+0) (u' + -1)) i
   rw[Int.add_zero (u' + -1)]
 show Kn.hn V A.M (A.dg (u+1) (u'+1+1)) i=Kn.hn V A.M (A.dg (u+1) (u'+2)) i
 rw[Int.add_assoc];rfl
section
variable {i j:Nat}
def Ho(i j:Nat)(l:Nat):Option Bool:=if l=i then some true else if l=j then some false else none
theorem qZ.hn{B A:bI}{Z:Nat->Prop}{z:Nat}(h:qZ B (λ_=>True) i j Z z){e e' w:Nat->Nat}(t:qT B A (λo=>B.P o/\¬Z o) (Ho i j) e e' w)
 {U V:List El} (hU:B.All U) (hV:A.All V) (u u':Int) (d:oP):Kn.hn U B.M (B.dg u u') d=Kn.hn V A.M (A.dg (u+1) (u'+1)) d:=by
 have nr:∀S:Nat->Bool,S i=true->¬(True/\S i=false/\S j=true):=λS hS m=>by rw[hS]at m;cases m.2.1
 have T:Told (iT.fixed B (λo=>B.P o/\¬Z o) (Ho i j)) (λS=>(∀k,B.n<=k->S k=false)/\S i=true/\S j=false) B.E B.P (λ_=>False) false id id (U.filter λx=>decide (bk (λ_=>True) i j z x=0)) (Ov U B.M (bk (λ_=>True) i j z) (wH B i j Z)):={
  nd:=hU.nd.filter _
  mem:=λx=>by
   rw[jC,hU.mem,jt,Xe];constructor
   · rintro⟨g,m⟩
     exact⟨⟨g.sup,m.resolve_left λk=>k trivial⟩,g.pt,g.fA,λ_ c=>c.elim⟩
   rintro⟨⟨a,b⟩,c,d,_⟩;exact⟨⟨a,c,d⟩,.inr b⟩
  eq:=h.ok.eq
  pt:=h.ok.pt
  zp:=λ_ c=>c.elim
  s_in:=λS hS=>⟨hS.1,λl b _ k=>by
   unfold Ho at k;by_cases c:l=i
   · subst c;simp at k;rw[k];exact hS.2.1
   by_cases c':l=j
   · subst c';simp[c]at k;rw[k];exact hS.2.2
   simp[c,c']at k⟩
  IL:=λ_ _ _ _ e=>e
  s_on:=λT hT=>⟨T,⟨hT.1,hT.2 i true h.hi (by unfold Ho;simp),hT.2 j false h.hj (by unfold Ho;rw[if_neg λc=>h.ne c.symm];simp)⟩,rfl⟩
  rel:=λ_ _ _ _ _ _=>Iff.rfl
  wP:=λo ho=>⟨ho.1,λc=>c⟩
  vH:=λS hS p hp _=>h.tQ (nr S hS.2.1) p hp
  iso:=λ_ _ _ _ c=>c.elim
  sup:=λy hy=>Gp (h.Dr hU 0 0) y (jC.1 hy).1
  tab:=λy hy x hx=>by
   rw[jC,jt]at hy hx;rw[h.xM hU hy.1 hx.1 hy.2 hx.2]
   refine and_congr ⟨λk=>k.resolve_right λk=>?_,.inl⟩ Iff.rfl
   rcases k with⟨_,_,_,_,_,_,_,_,m,_⟩|⟨m,_⟩<;>exact m trivial }
 obtain⟨N,hN⟩:=h.ok.fin
 obtain⟨W,hW,mW⟩:=(iT.fixed B (λo=>B.P o/\¬Z o) (Ho i j)).all (n:=B.n) (N:=N) (λS hS=>hS.1) λo ho=>hN o ho.1
 rw[(h.Dr hU u u').hn d]
 have k:=T.hn hW mW (g:=B.dg u u') (k:=(iT.fixed B (λo=>B.P o/\¬Z o) (Ho i j)).dg B.n u u') (λx hx=>by
  obtain⟨a,b,c,_⟩:=(T.mem x).1 hx
  have q:dq B.P (B.E x.1) x.2=dq (iT.fixed B (λo=>B.P o/\¬Z o) (Ho i j)).O (rs (iT.fixed B (λo=>B.P o/\¬Z o) (Ho i j)).O ((iT.fixed B (λo=>B.P o/\¬Z o) (Ho i j)).R x.1)) (tl (iT.fixed B (λo=>B.P o/\¬Z o) (Ho i j)) id id x).2+(bif tr (∃z:Nat,False)then xk false else 0):=
   T.dq (N:=N) (λo ho=>hN o ho.1) (S:=x.1) a (h.ok.eq _) c (λ_ c=>c.elim) (.inl λ_ c=>c)
  rw[br.2 λ⟨_,c⟩=>c]at q;simp only[cond_false,Int.add_zero]at q;unfold iT.dg bI.dg
  rw[q];rfl) d
 rw[k,<-t.hn hV hW mW]
 have c:fxN B.n (Ho i j)=1:=by
  unfold fxN
  have:((range B.n).filter λl=>decide (Ho i j l=some true))=(range B.n).filter λl=>l==i:=filter_congr λl _=>by
   unfold Ho;by_cases c:l=i
   · simp[c]
   by_cases c':l=j
   · have:¬j=i:=λq=>h.ne q.symm
     simp[c',this]
   simp[c,c']
  rw[this,filter_beq,jK.count,if_pos (jw.2 h.hi)];rfl
 rw[c];rfl
def xe(i j:Nat)(S:Nat->Bool):Nat->Bool:=λl=>if l=i then S j else if l=j then S i else S l
theorem tA(S:Nat->Bool):xe i j S i=S j:=if_pos rfl
theorem tv(S:Nat->Bool):xe i j S j=S i:=by
 unfold xe;split
 · next h=>rw[h]
 exact if_pos rfl
theorem gH(S:Nat->Bool){l:Nat}(h:l≠i)(k:l≠j):xe i j S l=S l:=by unfold xe;rw[if_neg h,if_neg k]
theorem rD(S:Nat->Bool):xe i j (xe i j S)=S:=funext λl=>by
 by_cases h:l=i
 · subst h;rw[tA,tv]
 by_cases k:l=j
 · subst k;rw[tv,tA]
 rw[gH _ h k,gH _ h k]
variable {r n:Nat} {v:Bool}
theorem ND(wB:i≠j)(hi:r≠i)(hj:r≠j)(Si:S i=true)(Sj:S j=false):xe i j (bC S r)=bC (gC (bC S j) i) r:=funext λl=>by
 by_cases h:l=i
 · subst h;rw[tA,az _ λc=>hj c.symm,Sj,az _ λc=>hi c.symm,fy]
 by_cases k:l=j
 · subst k;rw[tv,az _ λc=>hi c.symm,Si,az _ λc=>hj c.symm,eT _ h,bK]
 rw[gH _ h k];by_cases q:l=r
 · subst q;rw[bK,bK]
 rw[az _ q,az _ q,eT _ h,az _ k]
theorem NC(wB:i≠j)(hi:r≠i)(hj:r≠j)(Si:S i=true)(Sj:S j=false):bC (gC (bC (xe i j S) r) j) i=bC S r:=funext λl=>by
 by_cases h:l=i
 · subst h;rw[bK,az _ λc=>hi c.symm,Si]
 rw[az _ h];by_cases k:l=j
 · subst k;rw[fy,az _ λc=>hj c.symm,Sj]
 rw[eT _ k];by_cases q:l=r
 · subst q;rw[bK,bK]
 rw[az _ q,az _ q,gH _ h k]
def vS(r:Nat)(v:Bool)(i j:Nat)(S:Nat->Bool):Nat->Bool:=if S r=v then S else xe i j S
theorem agf(hi:r≠i)(hj:r≠j)(S:Nat->Bool):vS r v i j S r=S r:=by
 unfold vS;split
 · rfl
 exact gH _ hi hj
theorem XK(hi:r≠i)(hj:r≠j)(S:Nat->Bool):vS r v i j (vS r v i j S)=S:=by
 by_cases h:S r=v
 · have:vS r v i j S=S:=if_pos h
   rw[this,this]
 have e:vS r v i j S=xe i j S:=if_neg h;rw[e];unfold vS;rw[gH _ hi hj,if_neg h,rD]
theorem ab4(hi:i<n)(hj:j<n)(S:Nat->Bool):iU n (vS r v i j S)=iU n S:=by
 unfold vS;split
 · rfl
 unfold iU;rw[List.countP_eq_length_filter,List.countP_eq_length_filter]
 have inv:∀l,swp i j (swp i j l)=l:=rC i j
 have at':∀l,xe i j S (swp i j l)=S l:=λl=>by
  by_cases h:l=i
  · subst h;rw[cp,tv]
  by_cases k:l=j
  · subst k;rw[cY,tA]
  rw[ak h k,gH _ h k]
 have lt:∀l,l<n->swp i j l<n:=λl hl=>by unfold swp;split;exact hj;split;exact hi;exact hl
 refine Gq (jK.filter _) (jK.filter _) (swp i j) (λl hl=>?_) (λl _ m _ q=>by rw[<-inv l,q,inv]) λl hl=>?_
 · rw[jC,jw]at hl ⊢
   refine⟨lt l hl.1,?_⟩
   rw[<-at',inv];exact hl.2
 rw[jC,jw]at hl;refine⟨swp i j l,?_,inv l⟩;rw[jC,jw,at'];exact⟨lt l hl.1,hl.2⟩
def ED(n r:Nat)(v:Bool)(i j:Nat)(S T:Nat->Bool):Prop:=DE n S T\/ZE n (λS=>S r=v) i j S T
def Kp(n r:Nat)(v:Bool)(i j:Nat)(S:Nat->Bool):Prop:=(∀k,n<=k->S k=false)/\(¬S r=v\/(S i=true/\S j=false))
theorem Kp.sw(wB:i≠j)(hi:r≠i)(hj:r≠j)(ni:i<n)(nj:j<n)(h:Kp n r v i j S):Kp n r v i j (vS r v i j S):=by
 by_cases c:S r=v
 · have:vS r v i j S=S:=if_pos c
   rw[this];exact h
 refine⟨λk hk=>?_,.inl (by rw[agf hi hj];exact c)⟩;unfold vS
 rw[if_neg c,gH _ (by omega) (by omega)];exact h.1 k hk
theorem ED.out(wB:i≠j)(hi:r≠i)(hj:r≠j)(hn:r<n){S T:Nat->Bool}(kS:Kp n r v i j S)(hS:S r=v)(hT:¬T r=v):DE n S T↔ZE n (λS=>S r=v) i j S (xe i j T):=by
 obtain⟨Si,Sj⟩:=kS.2.resolve_left λk=>k hS
 constructor
 · rintro⟨k,hk,k0,e⟩
   have kr:k=r:=js λc=>hT (by rw[e,az _ λd=>c d.symm];exact hS)
   subst kr;exact .inl ⟨hS,Si,Sj,k,hk,hi,hj,k0,λm=>hT (by rw[e];exact m),by rw[e];exact ND wB hi hj Si Sj⟩
 rintro(⟨_,_,_,k,hk,ki,kj,k0,m,e⟩|⟨m,_⟩)
 · have kr:k=r:=js λc=>m (by show bC S k r=v;rw[az _ λd=>c d.symm];exact hS)
   subst kr;rw[<-ND wB hi hj Si Sj]at e;refine⟨k,hk,k0,?_⟩;rw[<-rD (i:=i) (j:=j) T,e,rD]
 exact absurd hS m
theorem ED.into(wB:i≠j)(hi:r≠i)(hj:r≠j)(hn:r<n){S T:Nat->Bool}(kT:Kp n r v i j T)(hS:¬S r=v)(hT:T r=v):DE n S T↔ZE n (λS=>S r=v) i j (xe i j S) T:=by
 obtain⟨Ti,Tj⟩:=kT.2.resolve_left λk=>k hT
 have sr:xe i j S r=S r:=gH _ hi hj;constructor
 · rintro⟨k,hk,k0,e⟩
   have kr:k=r:=js λc=>hS (by rw[e,az _ λd=>c d.symm]at hT;exact hT)
   subst kr
   have Si:S i=true:=by rw[e,az _ λd=>hi d.symm]at Ti;exact Ti
   have Sj:S j=false:=by rw[e,az _ λd=>hj d.symm]at Tj;exact Tj
   refine .inr ⟨λm=>hS (by rw[<-sr];exact m),by rw[tA];exact Sj,by rw[tv];exact Si,k,hk,hi,hj,by rw[sr];exact k0,?_,by rw[e,NC wB hi hj Si Sj]⟩
   show bC _ k k=v
   rw[bK,<-hT,e,bK]
 rintro(⟨m,_⟩|⟨_,Si,Sj,k,hk,ki,kj,k0,m,e⟩)
 · exact absurd (show xe i j S r=v from m) (by rw[sr];exact hS)
 have kr:k=r:=js λc=>hS (by
  have m:bC (xe i j S) k r=v:=m
  rw[az _ λd=>c d.symm,sr]at m;exact m)
 subst kr;rw[tA]at Si;rw[tv]at Sj;rw[NC wB hi hj Sj Si]at e;exact⟨k,hk,by rw[<-sr];exact k0,e⟩
theorem ab3(wB:i≠j)(S:Nat->Bool)(k:Nat):xe i j (bC S k)=bC (xe i j S) (swp i j k):=funext λl=>by
 by_cases h:l=i
 · subst h
   rw[tA];by_cases c:k=j
   · subst c;rw[bK,cY,bK]
   rw[az _ λd=>c d.symm];by_cases d:k=l
   · subst d;rw[cp,az _ wB,tA]
   rw[ak d c,az _ λq=>d q.symm,tA]
 by_cases m:l=j
 · subst m
   rw[tv];by_cases c:k=i
   · subst c;rw[bK,cp,bK]
   rw[az _ λd=>c d.symm];by_cases d:k=l
   · subst d;rw[cY,az _ h,tv]
   rw[ak c d,az _ λq=>d q.symm,tv]
 rw[gH _ h m];by_cases c:l=k
 · subst c;rw[bK,ak h m,bK]
 rw[az _ c,az _ λq=>c ?_,gH _ h m];rw[<-rC i j k,<-q,ak h m]
theorem DE.sw(wB:i≠j)(ni:i<n)(nj:j<n){S T:Nat->Bool}(h:DE n S T):DE n (xe i j S) (xe i j T):=by
 obtain⟨k,hk,k0,e⟩:=h;refine⟨swp i j k,by unfold swp;split;exact nj;split;exact ni;exact hk,?_,by rw[e,ab3 wB]⟩;by_cases c:k=i
 · subst c;rw[cp,tv];exact k0
 by_cases d:k=j
 · subst d;rw[cY,tA];exact k0
 rw[ak c d,gH _ c d];exact k0
theorem ED.sw(wB:i≠j)(hi:r≠i)(hj:r≠j)(ni:i<n)(nj:j<n)(hn:r<n){S T:Nat->Bool}(kS:Kp n r v i j S)(kT:Kp n r v i j T):ED n r v i j S T↔ED n r v i j (vS r v i j S) (vS r v i j T):=by
 by_cases hS:S r=v<;>by_cases hT:T r=v
 · rw[show vS r v i j S=S from if_pos hS,show vS r v i j T=T from if_pos hT]
 · rw[show vS r v i j S=S from if_pos hS,show vS r v i j T=xe i j T from if_neg hT]
   unfold ED
   have h2:¬xe i j T r=v:=by rw[gH _ hi hj];exact hT
   have a:=ED.out wB hi hj hn kS hS hT;have b:=ED.out wB hi hj hn kS hS h2;rw[rD]at b
   rw[a,b];exact or_comm
 · rw[show vS r v i j S=xe i j S from if_neg hS,show vS r v i j T=T from if_pos hT]
   unfold ED
   have h2:¬xe i j S r=v:=by rw[gH _ hi hj];exact hS
   have a:=ED.into wB hi hj hn kT hS hT;have b:=ED.into wB hi hj hn kT h2 hT;rw[rD]at b
   rw[a,b];exact or_comm
 rw[show vS r v i j S=xe i j S from if_neg hS,show vS r v i j T=xe i j T from if_neg hT]
 have no:∀S T:Nat->Bool,¬S r=v->¬T r=v->¬ZE n (λS=>S r=v) i j S T:=λS T hS hT k=>by
  rcases k with⟨m,_⟩|⟨_,_,_,k,_,ki,kj,_,m,e⟩
  · exact hS m
  refine hT ?_
  rw[e,az _ hi,eT _ hj];exact m
 have s:∀S:Nat->Bool,¬S r=v->¬xe i j S r=v:=λS hS=>by rw[gH _ hi hj];exact hS
 constructor
 · intro k
   exact .inl ((k.resolve_right (no S T hS hT)).sw wB ni nj)
 intro k;have:=(k.resolve_right (no _ _ (s S hS) (s T hT))).sw wB ni nj;rw[rD,rD]at this;exact .inl this
def iT.Lh(X:bI)(O:Nat->Prop)(r:Nat)(v:Bool)(i j:Nat):iT where
 O:=O
 St:=Kp X.n r v i j
 R:=X.E
 ed:=ED X.n r v i j
theorem qZ.Lh{X Y:bI}{Z:Nat->Prop}{z:Nat}(hX:qZ X (λS=>S r=v) i j Z z)(hY:qZ Y (λS=>S r=v) i j Z z)(hnn:X.n=Y.n)(hP:∀p,X.P p↔Y.P p)(hi:r≠i)(hj:r≠j)(hr:r<X.n)
 (rel:∀S,Kp X.n r v i j S->∀o o',X.P o/\¬Z o->X.P o'/\¬Z o'->(X.E (vS r v i j S) o o'↔Y.E S o o'))
 {U V:List El} (hU:X.All U) (hV:Y.All V) (u u':Int) (d:oP):Kn.hn U X.M (X.dg u u') d=Kn.hn V Y.M (Y.dg u u') d:=by
 obtain⟨O,hO⟩:∃O:Nat->Prop,O=λo=>X.P o/\¬Z o:=⟨_,rfl⟩
 have hO':O=λo=>Y.P o/\¬Z o:=by rw[hO];funext o;rw[propext (hP o)]
 have PP:X.P=Y.P:=funext λp=>propext (hP p)
 have nr:∀S:Nat->Bool,(¬S r=v\/(S i=true/\S j=false))->¬(S r=v/\S i=false/\S j=true):=λS hS m=>by
  rcases hS with k|k
  · exact k m.1
  rw[k.1]at m;cases m.2.1
 have gen:∀{B:bI} (h:qZ B (λS=>S r=v) i j Z z) (e1:B.n=X.n) (eO:O=λo=>B.P o/\¬Z o) {U:List El} (hU:B.All U) (s:(Nat->Bool)->(Nat->Bool))
  (s_in:∀S,Kp X.n r v i j S->Kp X.n r v i j (s S)) (ss:∀S,s (s S)=S) (rl:∀S,Kp X.n r v i j S->∀o o',O o->O o'->(X.E (s S) o o'↔B.E S o o')) (sE:∀S T,Kp X.n r v i j S->Kp X.n r v i j T->(ED X.n r v i j S T↔ED X.n r v i j (s S) (s T))),
  Told (iT.Lh X O r v i j) (Kp X.n r v i j) B.E B.P (λ_=>False) false s id (U.filter λx=>decide (bk (λS=>S r=v) i j z x=0)) (Ov U B.M (bk (λS=>S r=v) i j z) (wH B i j Z)):=by
  intro B h e1 eO U hU s s_in ss rl sE
  exact {
   nd:=hU.nd.filter _
   mem:=λx=>by
    rw[jC,hU.mem,jt,Xe];constructor
    · rintro⟨g,m⟩
      exact⟨⟨by rw[<-e1];exact g.sup,m⟩,g.pt,g.fA,λ_ c=>c.elim⟩
    rintro⟨⟨a,b⟩,c,d,_⟩;exact⟨⟨by rw[e1];exact a,c,d⟩,b⟩
   eq:=h.ok.eq
   pt:=h.ok.pt
   zp:=λ_ c=>c.elim
   s_in:=s_in
   IL:=λS T _ _ e=>by rw[<-ss S,e,ss]
   s_on:=λT hT=>⟨s T,s_in T hT,ss T⟩
   rel:=λS hS o o' ho mH=>rl S hS o o' ho mH
   wP:=λo ho=>⟨by have:O o:=ho;rw[eO]at this;exact this.1,λc=>c⟩
   vH:=λS hS p hp _=>by
    have:=h.tQ (nr S hS.2) p hp
    show ∃o,O o/\_
    rw[eO];exact this
   iso:=λ_ _ _ _ c=>c.elim
   sup:=λy hy=>Gp (h.Dr hU 0 0) y (jC.1 hy).1
   tab:=λy hy x hx=>by
    rw[jC,jt]at hy hx;have ky:Kp X.n r v i j y.1:=⟨by rw[<-e1];exact((hU.mem y).1 hy.1).sup,Xe.1 hy.2⟩;have kx:Kp X.n r v i j x.1:=⟨by rw[<-e1];exact((hU.mem x).1 hx.1).sup,Xe.1 hx.2⟩;rw[h.xM hU hy.1 hx.1 hy.2 hx.2];have:=sE _ _ ky kx
    show _↔ED X.n r v i j _ _/\Bo O _ _ _ _
    rw[<-this,eO,e1];rfl }
 have TX:=gen hX rfl hO hU id (λ_ h=>h) (λ_=>rfl) (λ_ _ _ _ _ _=>Iff.rfl) λ_ _ _ _=>Iff.rfl
 have TY:=gen hY hnn.symm hO' hV (vS r v i j) (λS h=>h.sw hX.ne hi hj hX.hi hX.hj) (XK hi hj) (λS hS o o' ho mH=>rel S hS o o' (by rw[hO]at ho;exact ho) (by rw[hO]at mH;exact mH)) λS T kS kT=>ED.sw hX.ne hi hj hX.hi hX.hj hr kS kT
 obtain⟨N,hN⟩:=hX.ok.fin
 have oN:∀o,(iT.Lh X O r v i j).O o->o<N:=λo ho=>hN o (by have:O o:=ho;rw[hO]at this;exact this.1)
 obtain⟨W,hW,mW⟩:=(iT.Lh X O r v i j).all (n:=X.n) (N:=N) (λS hS=>hS.1) oN;rw[(hX.Dr hU u u').hn d,(hY.Dr hV u u').hn d]
 have kX:=TX.hn hW mW (g:=X.dg u u') (k:=(iT.Lh X O r v i j).dg X.n u u') (λx hx=>by
  obtain⟨a,b,c,_⟩:=(TX.mem x).1 hx
  have q:dq X.P (X.E x.1) x.2=dq (iT.Lh X O r v i j).O (rs (iT.Lh X O r v i j).O ((iT.Lh X O r v i j).R x.1)) (tl (iT.Lh X O r v i j) id id x).2+(bif tr (∃z:Nat,False)then xk false else 0):=
   TX.dq (N:=N) oN (S:=x.1) a (hX.ok.eq _) c (λ_ c=>c.elim) (.inl λ_ c=>c)
  rw[br.2 λ⟨_,c⟩=>c]at q;simp only[cond_false,Int.add_zero]at q;unfold iT.dg bI.dg
  rw[q];rfl) d
 have kY:=TY.hn hW mW (g:=Y.dg u u') (k:=(iT.Lh X O r v i j).dg X.n u u') (λx hx=>by
  obtain⟨a,b,c,_⟩:=(TY.mem x).1 hx
  have q:dq Y.P (Y.E x.1) x.2=dq (iT.Lh X O r v i j).O (rs (iT.Lh X O r v i j).O ((iT.Lh X O r v i j).R (vS r v i j x.1))) (tl (iT.Lh X O r v i j) (vS r v i j) id x).2+(bif tr (∃z:Nat,False)then xk false else 0):=
   TY.dq (N:=N) oN (S:=x.1) a (hX.ok.eq _) c (λ_ c=>c.elim) (.inl λ_ c=>c)
  rw[br.2 λ⟨_,c⟩=>c]at q;simp only[cond_false,Int.add_zero]at q;unfold iT.dg bI.dg;rw[q,<-hnn]
  show ((iU X.n (vS r v i j x.1):Int)+u,dq _ _ _+(iU X.n (vS r v i j x.1):Int)+u')=_
  rw[ab4 hX.hi hX.hj];rfl) d
 rw[kX,kY]
end
section
variable {M:Nat} {f:Nat->Nat}
end
instance (X:List Cr) (a:Nat):Decidable (ah X a):=inferInstanceAs (Decidable (_/\_))
def nxt(X:List Cr)(a:Nat):Nat:=if ah X a then Jl X a else a
theorem Q9(x:Cr)(hs:s<4):x.comes ((s+2)%4)=!x.comes s:=by
 unfold Cr.comes over
 cases x.p<;>match s,hs with
  |0,_=>rfl
  |1,_=>rfl
  |2,_=>rfl
  |3,_=>rfl
section
variable {X:List Cr}
theorem rZ(hp:aq X p):cm X (p.1,(p.2+2)%4)=!cm X p:=Q9 _ hp.2
end
def ame(X:List Cr)(f:Nat->Nat)(c:Nat):Nat->Nat:=
 dG (dG f (aa X (c,0)) (aa X (c,2))) (aa X (c,over (cr X c).p)) (aa X (c,(over (cr X c).p+2)%4))
def SN(X:List Cr)(es:eW)(c:Nat):eW:=
 (aa X (c,over (cr X c).p),aa X (c,(over (cr X c).p+2)%4)) :: (aa X (c,0),aa X (c,2)) :: es
def iq(X:List Cr)(gone:Nat->Bool):Nat->Nat->Nat
 |0=>λa=>a
 |k+1=>if gone k then ame X (iq X gone k) k else iq X gone k
def bL(X:List Cr)(gone:Nat->Bool):Nat->eW
 |0=>[]
 |k+1=>if gone k then SN X (bL X gone k) k else bL X gone k
def bF(X:List Cr)(gone:Nat->Bool):List Cr:=kR X (iq X gone X.length) gone
def takeN(X:List Cr)(gone:Nat->Bool):Nat:=IY X (iq X gone X.length) gone
section
variable {X:List Cr}
theorem Ok.j5(h:Ok X)(gone:Nat->Bool):∀k,k<=X.length->M9 (iq X gone k) (bh (λx=>x) (bL X gone k))
 |0,_=>M9.id
 |k+1,hk=>by
  have i:=h.j5 gone k (by omega);unfold iq bL;split
  · have ar:∀s,s<4->1<=aa X (k,s):=λs hs=>(h.ah (p:=(k,s)) ⟨by show k<_;omega,hs⟩).1
    exact(i.join (ar 0 (by omega)) (ar 2 (by omega))).join (ar _ (lT _)) (ar _ (jQ _ (by omega)))
  exact i
theorem eR{gone:Nat->Bool}{e:Nat×Nat}:∀{k:Nat},e∈bL X gone k↔∃c,c<k/\gone c=true/\(e=(aa X (c,over (cr X c).p),aa X (c,(over (cr X c).p+2)%4))\/e=(aa X (c,0),aa X (c,2)))
 |0=>by simp[bL]
 |k+1=>by
  unfold bL;by_cases g:gone k=true
  · rw[if_pos g]
    unfold SN;rw[jy,jy,eR];constructor
    · rintro(h|h|⟨c,h1,h2⟩)
      · exact⟨k,by omega,g,.inl h⟩
      · exact⟨k,by omega,g,.inr h⟩
      exact⟨c,by omega,h2⟩
    rintro⟨c,h1,h2,h3⟩;by_cases e:c=k
    · subst e
      rcases h3 with h3|h3
      · exact .inl h3
      exact .inr (.inl h3)
    exact .inr (.inr ⟨c,by omega,h2,h3⟩)
  rw[if_neg g,eR];constructor
  · rintro⟨c,h1,h2⟩;exact⟨c,by omega,h2⟩
  rintro⟨c,h1,h2,h3⟩;refine⟨c,?_,h2,h3⟩;by_cases e:c=k
  · subst e;exact absurd h2 g
  omega
theorem F7(p:Bool):over p=1\/over p=3:=by cases p<;>simp[over]
theorem dY{k c:Nat}(hc:c<k)(hg:gone c=true)(hs:s<4):bh (λx=>x) (bL X gone k) (aa X (c,s)) (aa X (c,(s+2)%4)):=by
 have hE:=aj (bL X gone k);have h1:=aX (eR (X:=X) (gone:=gone) (k:=k) |>.2 ⟨c,hc,hg,.inl rfl⟩);have h2:=aX (eR (X:=X) (gone:=gone) (k:=k) |>.2 ⟨c,hc,hg,.inr rfl⟩);simp only at h1 h2
 have zI:s=0\/s=1\/s=2\/s=3:=by omega
 rcases zI with rfl|rfl|rfl|rfl
 · exact h2
 · rcases F7 (cr X c).p with e|e<;>rw[e]at h1
   · exact h1
   exact hE.symm h1
 · exact hE.symm h2
 rcases F7 (cr X c).p with e|e<;>rw[e]at h1
 · exact hE.symm h1
 exact h1
theorem BH{es:eW}{c s:Nat}(h1:bh (λx=>x) es (aa X (c,s)) (aa X (c,(s+2)%4)))(h2:bh (λx=>x) es (aa X (c,(s+1)%4)) (aa X (c,(s+3)%4)))(hs:s<4)(ht:t<4):
 bh (λx=>x) es (aa X (c,t)) (aa X (c,(t+2)%4)):=by
 have hE:=aj es
 have zI:t=s\/t=(s+1)%4\/t=(s+2)%4\/t=(s+3)%4:=by omega
 rcases zI with e|e|e|e
 · rw[e];exact h1
 · rw[show (t+2)%4=(s+3)%4 by omega,e];exact h2
 · rw[show (t+2)%4=s by omega,e];exact hE.symm h1
 rw[show (t+2)%4=(s+1)%4 by omega,e];exact hE.symm h2
theorem Ok.flat(h:Ok X)(hp:aJ X=true):Flat (4*X.length) (sig X.length) (mS X):=by
 have h0:=h.rI.1 hp;have a1:=h.oD;have a2:=h.nL;have a3:=G1 X.length
 have hl:(mS X).length=ag X:=by unfold mS;rw[jA,pM]
 unfold ag at hl;unfold Flat;have a1:cl (4*X.length) (cW (oL (sig X.length) (mS X)))=(aA X).length:=a1;have a2:cl (4*X.length) (bh (sig X.length) (mS X))=(aC X).length:=a2;omega
theorem Ok.nI(h:Ok X)(hp:aq X p):aB (mS X) (pk p)≠pk p:=λe=>by
 rw[h.iQ hp]at e;have:=eP (h.aM hp).2 hp.2 e;have h1:=h.dA hp;rw[this]at h1
 cases hh:cm X p<;>simp[hh]at h1
theorem Ok.Ju(h:Ok X){z:Nat}(hz:4*X.length<=z):aB (mS X) z=z:=aG (by
 rintro⟨e,he,k⟩;obtain⟨h1,h2,_⟩:=h.iJ e he
 omega)
theorem Cy{c s z:Nat}(hs:s<4):z∈[pk (c,s),pk (c,(s+1)%4),pk (c,(s+2)%4),pk (c,(s+3)%4)]↔z / 4=c:=by
 unfold pk;simp only[jy,jz,or_false];omega
theorem MF{c s:Nat}(hs:s<4):[pk (c,s),pk (c,(s+1)%4),pk (c,(s+2)%4),pk (c,(s+3)%4)].Nodup:=by
 unfold pk;simp only[List.nodup_cons,jy,jz,or_false,not_or,List.nodup_nil,and_true,not_false_eq_true];omega
theorem GI{c s:Nat}(hs:s<4):((c,s):Pl)≠(c,(s+1)%4)/\((c,s):Pl)≠(c,(s+2)%4)/\((c,s):Pl)≠(c,(s+3)%4)/\((c,(s+1)%4):Pl)≠(c,(s+2)%4)/\((c,(s+1)%4):Pl)≠(c,(s+3)%4)/\((c,(s+2)%4):Pl)≠(c,(s+3)%4):=by
 simp only[ne_eq,Prod.mk.injEq,true_and];omega
theorem A2{c s:Nat}(hs:s<4)(hp:p.2<4):p.1=c↔p=(c,s)\/p=(c,(s+1)%4)\/p=(c,(s+2)%4)\/p=(c,(s+3)%4):=by
 obtain⟨a,b⟩:=p;simp only[Prod.mk.injEq]at hp ⊢;omega
theorem acd{n c s:Nat}(hc:c<n)(hs:s<4):sig n (pk (c,s))=pk (c,(s+3)%4)/\sig n (pk (c,(s+3)%4))=pk (c,(s+2)%4)/\sig n (pk (c,(s+2)%4))=pk (c,(s+1)%4)/\sig n (pk (c,(s+1)%4))=pk (c,s):=by
 refine⟨FV hc hs,?_,?_,?_⟩<;>rw[FV (p:=(c,_)) hc (jQ _ (by omega))]<;>simp only<;>congr 2<;>omega
abbrev only(c:Nat):Nat->Bool:=λd=>decide (d=c)
theorem Ok.Ev(h:Ok X){c s:Nat}(hc:c<X.length)(hs:s<4)(ha:aa X (c,s)=aa X (c,(s+1)%4)):
 Ok (bF X (only c))/\(aJ X=true->aJ (bF X (only c))=true):=by
 have m4:∀k,(s+k)%4<4:=λk=>jQ _ (by omega)
 have pA:aq X (c,s):=⟨hc,hs⟩;have pB:aq X (c,(s+1)%4):=⟨hc,m4 1⟩;have pC:aq X (c,(s+2)%4):=⟨hc,m4 2⟩;have pD:aq X (c,(s+3)%4):=⟨hc,m4 3⟩;obtain⟨Ye,R4,Oj,RZ,LQ,Oi⟩:=GI (c:=c) hs
 have oA:other X (c,s)=(c,(s+1)%4):=by
  rcases (h.p9 pA pB).1 ha with e|e
  · exact absurd e.symm Ye
  exact e.symm
 have cBD:cm X (c,(s+3)%4)=!cm X (c,(s+1)%4):=by
  have:=rZ pB
  rwa [show ((s+1)%4+2)%4=(s+3)%4 by omega]at this
 have T:=h.tied.Me (aj []) pA pB pC pD (rZ pA) cBD oA R4 Oj RZ LQ Oi
 have T':qf X (λp=>aq X p/\only c p.1=false) (bh (λx=>x) (bL X (only c) X.length)) (λp=>if other X p=(c,(s+2)%4)then other X (c,(s+3)%4)else if other X p=(c,(s+3)%4)then other X (c,(s+2)%4)else other X p):=by
  refine T.congr (λp=>?_) (λx y=>?_) λ_ _=>rfl
  · constructor
    · rintro⟨h1,h2⟩
      have h2:¬p.1=c:=by simpa using h2
      rw[A2 hs h1.2]at h2;simp only[not_or]at h2;exact⟨h1,h2.1,h2.2.2.1,h2.2.1,h2.2.2.2⟩
    rintro⟨h1,h2,h3,h4,h5⟩;refine⟨h1,?_⟩
    have:¬p.1=c:=by rw[A2 hs h1.2];simp only[not_or];exact⟨h2,h4,h3,h5⟩
    simpa using this
  show bh (λx=>x) (bL X (only c) X.length) x y↔bh (λx=>x) [(aa X (c,(s+1)%4),aa X (c,(s+3)%4)),(aa X (c,s),aa X (c,(s+2)%4))] x y
  have g:only c c=true:=jk rfl;constructor
  · refine b9 λe he=>?_
    obtain⟨d,_,hd,k⟩:=eR.1 he
    have hd:d=c:=by simpa using hd
    subst hd
    have q:=λ{t} (ht:t<4)=>BH (X:=X) (es:=[(aa X (d,(s+1)%4),aa X (d,(s+3)%4)),(aa X (d,s),aa X (d,(s+2)%4))]) (c:=d) (s:=s) (aX (e:=(aa X (d,s),aa X (d,(s+2)%4))) (by simp)) (aX (e:=(aa X (d,(s+1)%4),aa X (d,(s+3)%4))) (by simp)) hs (t:=t) ht
    rcases k with rfl|rfl
    · exact q (lT _)
    exact q (t:=0) (by omega)
  refine b9 λe he=>?_
  rw[jy,jB]at he
  rcases he with rfl|rfl
  · have:=dY (X:=X) hc g (m4 1)
    rwa [show ((s+1)%4+2)%4=(s+3)%4 by omega]at this
  exact dY (X:=X) hc g hs
 have cut:=BD h (h.j5 (only c) X.length (jH _)) (aj _) T' λ_=>Iff.rfl
 refine⟨cut.Og,λhp=>?_⟩;obtain⟨sA,sD,sC,sB⟩:=acd (n:=X.length) hc hs;obtain⟨es,g,d,pm,f,m⟩:=(h.flat hp).Me (dI _) h.iJ h.rX (MF (c:=c) hs) sA sD sC sB (by rw[h.iQ pA,oA]) (h.nI pC) (h.nI pD)
 have AB:∀z,(∀p,(aq X p/\only c p.1=false)->pk p≠z)->4*X.length<=z\/z / 4=c:=λz hz=>by
  by_cases k:4*X.length<=z
  · exact .inl k
  refine .inr (js λk'=>hz (pl z) ⟨fI (by omega),by simpa[pl]using k'⟩ ?_)
  unfold pk pl;simp only;omega
 have out:∀p,(aq X p/\only c p.1=false)->pk p∉[pk (c,s),pk (c,(s+1)%4),pk (c,(s+2)%4),pk (c,(s+3)%4)]:=λp hp=>by
  rw[Cy hs,tJ hp.1.2];simpa using hp.2
 refine cut.pS pm g d f (λp hp=>?_) (λz hz=>?_) (λp hp=>?_) λz hz=>?_
 · rw[m,if_neg (out p hp),h.iQ hp.1,h.iQ pD,h.iQ pC]
   have i:=λ{q} (hq:aq X q)=>(show pk (other X p)=pk q↔other X p=q from⟨eP (h.aM hp.1).2 hq.2,λe=>by rw[e]⟩)
   by_cases c1:other X p=(c,(s+2)%4)
   · rw[if_pos ((i pC).2 c1),if_pos c1]
   rw[if_neg (λe=>c1 ((i pC).1 e)),if_neg c1];by_cases c2:other X p=(c,(s+3)%4)
   · rw[if_pos ((i pD).2 c2),if_pos c2]
   rw[if_neg (λe=>c2 ((i pD).1 e)),if_neg c2]
 · rw[m]
   rcases AB z hz with k|k
   · have Hm:=h.Ju k
     have b1:=gi pC;have b2:=gi pD;rw[Hm,if_neg (show ¬z=pk (c,(s+2)%4)by omega),if_neg (show ¬z=pk (c,(s+3)%4)by omega)]
     split<;>rfl
   rw[if_pos ((Cy hs).2 k)]
 · simp only[if_neg (out p hp)]
 rcases AB z hz with k|k
 · simp only[(dI X.length).out z k]
   split<;>rfl
 simp only[if_pos ((Cy hs).2 k)]
end
abbrev both(x y:Nat):Nat->Bool:=λd=>decide (d=x)||decide (d=y)
section
variable {X:List Cr}
theorem oF{d:Nat}:both x y d=false↔d≠x/\d≠y:=by simp
theorem zh{x y s t z:Nat}(hs:s<4)(ht:t<4):
 z∈[pk (x,s),pk (x,(s+1)%4),pk (x,(s+2)%4),pk (x,(s+3)%4),pk (y,t),pk (y,(t+3)%4),pk (y,(t+2)%4),pk (y,(t+1)%4)]↔z / 4=x\/z / 4=y:=by
 unfold pk;simp only[jy,jz,or_false];omega
theorem J4(zm:x≠y)(hs:s<4)(ht:t<4):
 [pk (x,s),pk (x,(s+1)%4),pk (x,(s+2)%4),pk (x,(s+3)%4),pk (y,t),pk (y,(t+3)%4),pk (y,(t+2)%4),pk (y,(t+1)%4)].Nodup:=by
 unfold pk;simp only[List.nodup_cons,jy,jz,or_false,not_or,List.nodup_nil,and_true,not_false_eq_true];omega
theorem off(h:x≠y):((x,s):Pl)≠(y,t):=λe=>h (by injection e)
theorem Ok.BL(h:Ok X)(hx:x<X.length)(hy:y<X.length)(zm:x≠y)(hs:s<4)(ht:t<4)
 (oA:other X (x,s)=(y,t)) (oB:other X (x,(s+1)%4)=(y,(t+3)%4)):
 Ok (bF X (both x y))/\(aJ X=true->aJ (bF X (both x y))=true):=by
 have m4:∀k,(s+k)%4<4:=λk=>jQ _ (by omega)
 have n4:∀k,(t+k)%4<4:=λk=>jQ _ (by omega)
 have hyx:y≠x:=λe=>zm e.symm
 have pA:aq X (x,s):=⟨hx,hs⟩;have pB:aq X (x,(s+1)%4):=⟨hx,m4 1⟩;have pC:aq X (x,(s+2)%4):=⟨hx,m4 2⟩;have pD:aq X (x,(s+3)%4):=⟨hx,m4 3⟩;have pa:aq X (y,t):=⟨hy,ht⟩;have pb:aq X (y,(t+3)%4):=⟨hy,n4 3⟩;have pc:aq X (y,(t+2)%4):=⟨hy,n4 2⟩;have pd:aq X (y,(t+1)%4):=⟨hy,n4 1⟩;obtain⟨Ye,R4,Oj,RZ,LQ,Oi⟩:=GI (c:=x) hs;obtain⟨nad,nac,nab,ndc,ndb,ncb⟩:=GI (c:=y) ht
 have cBD:cm X (x,(s+3)%4)=!cm X (x,(s+1)%4):=by
  have:=rZ pB
  rwa [show ((s+1)%4+2)%4=(s+3)%4 by omega]at this
 have cbd:cm X (y,(t+1)%4)=!cm X (y,(t+3)%4):=by
  have:=rZ pb
  rwa [show ((t+3)%4+2)%4=(t+1)%4 by omega]at this
 have T1:=h.tied.pass (aj []) pA pC pa pc (rZ pA) (rZ pa) oA (off zm) (off zm) (off zm) R4 nac
 have o1B:(if other X (x,(s+1)%4)=(x,(s+2)%4)then other X (y,(t+2)%4)else if other X (x,(s+1)%4)=(y,(t+2)%4)then other X (x,(s+2)%4)else other X (x,(s+1)%4))=(y,(t+3)%4):=by
  rw[oB,if_neg (off hyx),if_neg (λe=>ncb e.symm)]
 have T2:=T1.pass (fw (fw (aj []) _ _) _ _) (A:=(x,(s+1)%4)) (C:=(x,(s+3)%4)) (a:=(y,(t+3)%4)) (c:=(y,(t+1)%4))
  ⟨pB,λe=>Ye e.symm,RZ,off zm,off zm⟩ ⟨pD,λe=>Oj e.symm,λe=>Oi e.symm,off zm,off zm⟩ ⟨pb,off hyx,off hyx,λe=>nab e.symm,λe=>ncb e.symm⟩ ⟨pd,off hyx,off hyx,λe=>nad e.symm,ndc⟩
  cBD cbd o1B (off zm) (off zm) (off zm) LQ (λe=>ndb e.symm)
 have in8:∀{p:Pl},p.2<4->(both x y p.1=false↔(p≠(x,s)/\p≠(x,(s+2)%4)/\p≠(y,t)/\p≠(y,(t+2)%4))/\p≠(x,(s+1)%4)/\p≠(x,(s+3)%4)/\p≠(y,(t+3)%4)/\p≠(y,(t+1)%4)):=λ{p} hp=>by
  rw[oF,ne_eq,ne_eq,A2 (c:=x) hs hp,A2 (c:=y) ht hp];simp only[not_or];constructor
  · rintro⟨⟨a1,a2,a3,a4⟩,b1,b2,b3,b4⟩;exact⟨⟨a1,a3,b1,b3⟩,a2,a4,b4,b2⟩
  rintro⟨⟨a1,a3,b1,b3⟩,a2,a4,b4,b2⟩;exact⟨⟨a1,a2,a3,a4⟩,b1,b2,b3,b4⟩
 have T':=T2.congr (Uq:=λp=>aq X p/\both x y p.1=false) (E':=bh (λx=>x) (bL X (both x y) X.length)) (λp=>by
  constructor
  · rintro⟨h1,h2⟩
    obtain⟨h3,h4⟩:=(in8 h1.2).1 h2;exact⟨⟨h1,h3⟩,h4⟩
  · rintro⟨⟨h1,h3⟩,h4⟩
    exact⟨h1,(in8 h1.2).2 ⟨h3,h4⟩⟩) (λu v=>by
  show bh (λx=>x) (bL X (both x y) X.length) u v↔bh (λx=>x) [(aa X (y,(t+3)%4),aa X (y,(t+1)%4)),(aa X (x,(s+1)%4),aa X (x,(s+3)%4)),(aa X (y,t),aa X (y,(t+2)%4)),(aa X (x,s),aa X (x,(s+2)%4))] u v
  have gx:both x y x=true:=by simp
  have gy:both x y y=true:=by simp
  constructor
  · refine b9 λe he=>?_
    obtain⟨d,_,hd,k⟩:=eR.1 he;have hE:=aj [(aa X (y,(t+3)%4),aa X (y,(t+1)%4)),(aa X (x,(s+1)%4),aa X (x,(s+3)%4)),(aa X (y,t),aa X (y,(t+2)%4)),(aa X (x,s),aa X (x,(s+2)%4))]
    have q:∀{t'},t'<4->bh (λx=>x) [(aa X (y,(t+3)%4),aa X (y,(t+1)%4)),(aa X (x,(s+1)%4),aa X (x,(s+3)%4)),(aa X (y,t),aa X (y,(t+2)%4)),(aa X (x,s),aa X (x,(s+2)%4))] (aa X (d,t')) (aa X (d,(t'+2)%4)):=λ{t'} ht'=>by
     have hd:d=x\/d=y:=by simpa using hd
     rcases hd with rfl|rfl
     · exact BH (s:=s) (aX (e:=(aa X (d,s),aa X (d,(s+2)%4))) (by simp)) (aX (e:=(aa X (d,(s+1)%4),aa X (d,(s+3)%4))) (by simp)) hs ht'
     exact BH (s:=t) (aX (e:=(aa X (d,t),aa X (d,(t+2)%4))) (by simp)) (hE.symm (aX (e:=(aa X (d,(t+3)%4),aa X (d,(t+1)%4))) (by simp))) ht ht'
    rcases k with rfl|rfl
    · exact q (lT _)
    exact q (t':=0) (by omega)
  refine b9 λe he=>?_
  rw[jy,jy,jy,jB]at he
  rcases he with rfl|rfl|rfl|rfl
  · have:=dY (X:=X) hy gy (n4 3)
    rwa [show ((t+3)%4+2)%4=(t+1)%4 by omega]at this
  · have:=dY (X:=X) hx gx (m4 1)
    rwa [show ((s+1)%4+2)%4=(s+3)%4 by omega]at this
  · exact dY (X:=X) hy gy ht
  exact dY (X:=X) hx gx hs) λ_ _=>rfl
 have cut:=BD h (h.j5 (both x y) X.length (jH _)) (aj _) T' λ_=>Iff.rfl
 refine⟨cut.Og,λhp=>?_⟩;obtain⟨sA,sD,sC,sB⟩:=acd (n:=X.length) hx hs;obtain⟨sa,sb,sc,sd⟩:=acd (n:=X.length) hy ht
 obtain⟨es,m1,g,d,pm,f,Aj,m⟩:=(h.flat hp).VW (dI _) h.iJ h.rX (J4 (x:=x) (y:=y) zm hs ht) sA sD sC sB sa sb sc sd
  (by rw[h.iQ pA,oA]) (by rw[h.iQ pB,oB]) (h.nI pC) (h.nI pD) (h.nI pc) (h.nI pd)
 have AB:∀z,(∀p,(aq X p/\both x y p.1=false)->pk p≠z)->4*X.length<=z\/z / 4=x\/z / 4=y:=λz hz=>by
  by_cases k:4*X.length<=z
  · exact .inl k
  refine .inr (js λk'=>hz (pl z) ⟨fI (by omega),?_⟩ ?_)
  · rw[oF]
    exact⟨λe=>k' (.inl e),λe=>k' (.inr e)⟩
  unfold pk pl;simp only;omega
 have out:∀p,(aq X p/\both x y p.1=false)->pk p∉[pk (x,s),pk (x,(s+1)%4),pk (x,(s+2)%4),pk (x,(s+3)%4),pk (y,t),pk (y,(t+3)%4),pk (y,(t+2)%4),pk (y,(t+1)%4)]:=λp hp=>by
  rw[zh hs ht,tJ hp.1.2];have:=oF.1 hp.2
  exact λk=>k.elim this.1 this.2
 have pke:∀{p q:Pl},p.2<4->q.2<4->(pk p=pk q↔p=q):=λ{p q} hp hq=>⟨eP hp hq,λe=>by rw[e]⟩
 have st1:∀q,aq X q->q≠(x,s)->q≠(x,(s+1)%4)->q≠(y,t)->q≠(y,(t+3)%4)->q≠(x,(s+2)%4)->q≠(y,(t+2)%4) ->
  m1 (pk q)=pk (if other X q=(x,(s+2)%4)then other X (y,(t+2)%4)else if other X q=(y,(t+2)%4)then other X (x,(s+2)%4)else other X q) /\
  (if other X q=(x,(s+2)%4)then other X (y,(t+2)%4)else if other X q=(y,(t+2)%4)then other X (x,(s+2)%4)else other X q).2<4:=λq hq k1 k2 k3 k4 k5 k6=>by
  have oq:=h.aM hq;constructor
  · rw[Aj _ (by
     simp only[jy,jz,or_false,not_or]
     exact⟨λe=>k1 (eP hq.2 pA.2 e),λe=>k2 (eP hq.2 pB.2 e),λe=>k3 (eP hq.2 pa.2 e),λe=>k4 (eP hq.2 pb.2 e)⟩)]
    rw[if_neg (λe=>e.elim (λe=>k5 (eP hq.2 pC.2 e)) λe=>k6 (eP hq.2 pc.2 e)),h.iQ hq,h.iQ pc,h.iQ pC];by_cases c1:other X q=(x,(s+2)%4)
    · rw[if_pos ((pke oq.2 pC.2).2 c1),if_pos c1]
    rw[if_neg (λe=>c1 ((pke oq.2 pC.2).1 e)),if_neg c1];by_cases c2:other X q=(y,(t+2)%4)
    · rw[if_pos ((pke oq.2 pc.2).2 c2),if_pos c2]
    rw[if_neg (λe=>c2 ((pke oq.2 pc.2).1 e)),if_neg c2]
  split
  · exact(h.aM pc).2
  split
  · exact(h.aM pC).2
  exact oq.2
 have mD:=st1 _ pD (λe=>Oj e.symm) (λe=>LQ e.symm) (off zm) (off zm) (λe=>Oi e.symm) (off zm);have md:=st1 _ pd (off hyx) (off hyx) (λe=>nad e.symm) ndb (off hyx) ndc
 refine cut.pS pm g d f (λp hp=>?_) (λz hz=>?_) (λp hp=>?_) λz hz=>?_
 · obtain⟨⟨k1,k5,k3,k6⟩,k2,_,k4,_⟩:=(in8 hp.1.2).1 hp.2
   have mp:=st1 p hp.1 k1 k2 k3 k4 k5 k6;rw[m,if_neg (out p hp),mp.1,mD.1,md.1];generalize (if other X p=(x,(s+2)%4)then other X (y,(t+2)%4)else if other X p=(y,(t+2)%4)then other X (x,(s+2)%4)else other X p)=w at mp ⊢;by_cases c1:w=(x,(s+3)%4)
   · rw[if_pos ((pke mp.2 pD.2).2 c1),if_pos c1]
   rw[if_neg (λe=>c1 ((pke mp.2 pD.2).1 e)),if_neg c1];by_cases c2:w=(y,(t+1)%4)
   · rw[if_pos ((pke mp.2 pd.2).2 c2),if_pos c2]
   rw[if_neg (λe=>c2 ((pke mp.2 pd.2).1 e)),if_neg c2]
 · rw[m]
   rcases AB z hz with k|k
   · have Hm:=h.Ju k
     have far:∀{p},aq X p->z≠pk p:=λhp e=>by have:=gi hp;omega
     have e1:m1 z=z:=by
      rw[Aj z (by
       simp only[jy,jz,or_false,not_or]
       exact⟨far pA,far pB,far pa,far pb⟩),Hm,if_neg (far pC),if_neg (far pc)]
      split<;>rfl
     rw[e1,if_neg (far pD),if_neg (far pd)]
     split<;>rfl
   rw[if_pos ((zh hs ht).2 k)]
 · simp only[if_neg (out p hp)]
 rcases AB z hz with k|k
 · simp only[(dI X.length).out z k]
   split<;>rfl
 simp only[if_pos ((zh hs ht).2 k)]
end
section
variable {X:List Cr}
theorem yO(gone:Nat->Bool):(bF X gone).length=(kept X.length gone).length:=fT
theorem zU(p:Nat->Bool):∀l:List Nat,(l.filter λc=>!p c).length+(l.filter p).length=l.length
 |[]=>rfl
 |x :: l=>by
  have:=zU p l
  cases h:p x<;>simp[h]<;>omega
theorem JC(n:Nat)(gone:Nat->Bool):(kept n gone).length+((range n).filter gone).length=n:=by
 unfold kept;rw[zU,jS]
theorem Qw{n c:Nat}(hc:c<n):(kept n (only c)).length+1=n:=by
 have h:=JC n (only c)
 have:((range n).filter (only c)).length=1:=by
  have P:((range n).filter (only c)).Perm [c]:=by
   refine(jR (jK.sublist List.filter_sublist) (by simp)).2 λx=>?_
   rw[jC,jw,jB];simp only[only,jh];exact⟨λh=>h.2,λh=>⟨h ▸ hc,h⟩⟩
  exact P.length_eq
 omega
theorem Qz(hx:x<n)(hy:y<n)(zm:x≠y):(kept n (both x y)).length+2=n:=by
 have h:=JC n (both x y)
 have:((range n).filter (both x y)).length=2:=by
  have P:((range n).filter (both x y)).Perm [x,y]:=by
   refine(jR (jK.sublist List.filter_sublist) (by simp[zm])).2 λz=>?_
   rw[jC,jw,jy,jB];simp only[both,Bool.or_eq_true,jh];exact⟨λh=>h.2,λh=>⟨h.elim (λe=>e ▸ hx) λe=>e ▸ hy,h⟩⟩
  exact P.length_eq
 omega
theorem Ok.PH(h:Ok X)(gone:Nat->Bool)(hn:0<X.length)(h0:bF X gone=[]):1<=takeN X gone:=by
 have hk:kept X.length gone=[]:=by
  have:=yO (X:=X) gone;rw[h0]at this;exact List.length_eq_zero_iff.1 this.symm
 have hr:=h.j5 gone X.length (jH _)
 have h1:iq X gone X.length 1=1:=by
  have:=hr.le 1;have:=hr.pos 1 (by omega);omega
 unfold takeN IY
 refine List.countP_pos_iff.2 ⟨0,jw.2 (by unfold ag;omega),?_⟩
 have:gw X (iq X gone X.length) gone (0+1)=false:=by unfold gw;rw[hk];rfl
 rw[this];simp[h1]
theorem Ok.Kq(h:Ok X){d e:Dt}(hd:Kn.ah X d.1)(h1:left X d=e)(h2:left X e=d):
 other X ((head X e).1,((head X e).2+3)%4)=head X d/\other X (head X e)=((head X d).1,((head X d).2+3)%4):=by
 have he:Kn.ah X e.1:=h1 ▸ h.dD hd
 have key:∀{d:Dt},Kn.ah X d.1->head X (left X d)=other X ((head X d).1,((head X d).2+3)%4):=λ{d} hd=>by
  have hp:=dt (h.bg hd) 3
  show aF X (!(cm X ((head X d).1,((head X d).2+3)%4))) (aa X ((head X d).1,((head X d).2+3)%4))=_
  rfl
 have k1:=key hd;have k2:=key he;rw[h1]at k1;rw[h2]at k2;refine⟨k2.symm,?_⟩;rw[k1,h.bU (dt (h.bg hd) 3)]
end
def aI(s:Nat):Bool:=decide (s%2=1)
def Aw(X:List Cr)(S:Nat->Bool)(k:Nat):eW:=if S k then [(aa X (k,1),aa X (k,2)),(aa X (k,3),aa X (k,0))]else [(aa X (k,0),aa X (k,1)),(aa X (k,2),aa X (k,3))]
def pairs(X:List Cr)(S:Nat->Bool):eW:=(range X.length).flatMap (Aw X S)
theorem xJ:e∈Aw X S k↔∃s,s<4/\aI s=S k/\e=(aa X (k,s),aa X (k,(s+1)%4)):=by
 unfold Aw;cases S k
 · simp only[jN,if_false,jy,jz,or_false]
   constructor
   · rintro(rfl|rfl)
     · exact⟨0,by omega,rfl,rfl⟩
     exact⟨2,by omega,rfl,rfl⟩
   rintro⟨s,hs,h,rfl⟩
   match s,hs with
   |0,_=>exact .inl rfl
   |1,_=>cases h
   |2,_=>exact .inr rfl
   |3,_=>cases h
 simp only[if_true,jy,jz,or_false];constructor
 · rintro(rfl|rfl)
   · exact⟨1,by omega,rfl,rfl⟩
   exact⟨3,by omega,rfl,rfl⟩
 rintro⟨s,hs,h,rfl⟩
 match s,hs with
 |0,_=>cases h
 |1,_=>exact .inl rfl
 |2,_=>cases h
 |3,_=>exact .inr rfl
theorem dX:e∈pairs X S↔∃k s,k<X.length/\s<4/\aI s=S k/\e=(aa X (k,s),aa X (k,(s+1)%4)):=by
 unfold pairs;rw[mem_flatMap];constructor
 · rintro⟨k,hk,h⟩
   obtain⟨s,h1,h2,h3⟩:=xJ.1 h;exact⟨k,s,jw.1 hk,h1,h2,h3⟩
 rintro⟨k,s,hk,h1,h2,h3⟩;exact⟨k,jw.2 hk,xJ.2 ⟨s,h1,h2,h3⟩⟩
def eF(X:List Cr)(L:Nat):bI where
 n:=X.length
 P:=λp=>1<=p/\p<=ag X+L
 E:=λS=>bh (λx=>x) (pairs X S)
 a:=λk=>aa X (k,0)
 c:=λk=>aa X (k,2)
theorem cz(hk:k<X.length)(hs:s<4)(h:aI s=S k):bh (λx=>x) (pairs X S) (aa X (k,s)) (aa X (k,(s+1)%4)):=
 aX (dX.2 ⟨k,s,hk,hs,h,rfl⟩)
theorem uZ{es es':eW}{ρ:Nat->Nat}(h:∀e∈es,bh (λx=>x) es' (ρ e.1) (ρ e.2))(k:bh (λx=>x) es x y):bh (λx=>x) es' (ρ x) (ρ y):=
 bN (R:=λx y=>bh (λx=>x) es' (ρ x) (ρ y)) ⟨λx=>(aj es').refl _,λk=>(aj es').symm k,λk l=>(aj es').trans k l⟩ (λx=>(aj es').refl _) h k
section
variable {X:List Cr} {dm:Pl->Bool}
structure AQ(X:List Cr)(dm:Pl->Bool):Prop where
 ok:Ok X
 ot:∀p,aq X p->dm (other X p)=!dm p
 tn:∀p,aq X p->dm (p.1,(p.2+3)%4)=!dm p
theorem AQ.t1(h:AQ X dm)(hp:aq X p):dm (p.1,(p.2+1)%4)=!dm p:=by
 have a:=h.tn _ (dt hp 1);simp only at a;rw[show ((p.2+1)%4+3)%4=p.2 by have:=hp.2;omega]at a;rw[show (p.1,p.2)=p from rfl]at a;rw[a,Bool.not_not]
theorem AQ.t2(h:AQ X dm)(hp:aq X p):dm (p.1,(p.2+2)%4)=dm p:=by
 have a:=h.t1 (dt hp 1);simp only at a;rw[show ((p.2+1)%4+1)%4=(p.2+2)%4 by omega,h.t1 hp,Bool.not_not]at a;exact a
def rv(X:List Cr)(dm:Pl->Bool)(a:Nat):Pl:=if dm (aF X true a)then aF X true a else aF X false a
theorem AQ.same(h:AQ X dm)(hp:aq X p)(hq:aq X q)(c:dm p=dm q)(e:aa X p=aa X q):p=q:=by
 rcases (h.ok.p9 hp hq).1 e with k|k
 · exact k.symm
 exfalso;rw[k,h.ot p hp]at c
 cases hh:dm p<;>simp[hh]at c
theorem fW(h:Ok X)(ha:Kn.ah X a):other X (aF X true a)=aF X false a:=by
 unfold other;rw[h.bT ha,h.bH ha];rfl
theorem AQ.rv(h:AQ X dm){a:Nat}(ha:Kn.ah X a):aq X (rv X dm a)/\dm (rv X dm a)=true/\aa X (rv X dm a)=a:=by
 have o:=h.ot _ (h.ok.aD (io:=true) ha);rw[fW h.ok ha]at o;unfold Kn.rv;by_cases c:dm (aF X true a)=true
 · rw[if_pos c];exact⟨h.ok.aD ha,c,h.ok.bH ha⟩
 rw[if_neg c];exact⟨h.ok.aD ha,by rw[o];simpa using c,h.ok.bH ha⟩
theorem AQ.XJ(h:AQ X dm)(hp:aq X p)(c:dm p=true):Kn.rv X dm (aa X p)=p:=by
 obtain⟨a,b,d⟩:=h.rv (h.ok.ah hp);exact h.same a hp (by rw[b,c]) d
def CB(S:Nat->Bool)(p:Pl):Pl:=(p.1,(p.2+if aI p.2=S p.1 then 1 else 3)%4)
def DN(X:List Cr)(dm:Pl->Bool)(S:Nat->Bool)(a:Nat):Nat:=if 1<=a/\a<=ag X then aa X (CB S (rv X dm a))else a
theorem AQ.CB(h:AQ X dm)(S:Nat->Bool){p:Pl}(hp:aq X p):aq X (CB S p)/\dm (Kn.CB S p)=!dm p:=by
 unfold Kn.CB;split
 · exact⟨dt hp 1,h.t1 hp⟩
 exact⟨dt hp 3,h.tn p hp⟩
theorem Ym(S:Nat->Bool)(hp:p.2<4)(hq:q.2<4)(e:CB S p=CB S q)(c:p.2%2=q.2%2\/p.1≠q.1):p=q:=by
 unfold CB at e
 injection e with e1 e2
 rcases c with c|c
 · refine Prod.ext e1 ?_
   have:aI p.2=aI q.2:=by unfold aI;rw[c]
   rw[this,e1]at e2
   split at e2<;>omega
 exact absurd e1 c
theorem AQ.TG(h:AQ X dm)(hp:aq X p)(hq:aq X q)(e:p.1=q.1)(c:dm p=dm q):p.2%2=q.2%2:=by
 refine js λd=>?_
 have h1:=h.t1 hp;have h3:=h.tn p hp;have:=hp.2;have:=hq.2
 have k:q=(p.1,(p.2+1)%4)\/q=(p.1,(p.2+3)%4):=by
  have k2:q.2=(p.2+1)%4\/q.2=(p.2+3)%4:=by omega
  exact k2.imp (λk=>Prod.ext e.symm k) λk=>Prod.ext e.symm k
 rcases k with k|k
 · rw[<-k,c]at h1;cases hh:dm q<;>simp[hh]at h1
 rw[<-k,c]at h3;cases hh:dm q<;>simp[hh]at h3
theorem AQ.LP(h:AQ X dm)(S:Nat->Bool):Pm (ag X+1) (DN X dm S):=by
 have ie:∀a,Kn.ah X a->Kn.ah X (DN X dm S a):=λa ha=>by
  have hh:DN X dm S a=aa X (Kn.CB S (Kn.rv X dm a)):=if_pos ha;rw[hh];exact h.ok.ah (h.CB S (h.rv ha).1).1
 refine⟨λa hl=>?_,λa hl=>?_,λa b e=>?_⟩
 · by_cases c:1<=a
   · have:=(ie a ⟨c,by omega⟩).2;omega
   unfold DN;rw[if_neg (by omega)];omega
 · unfold DN;rw[if_neg (by omega)]
 by_cases ha:1<=a/\a<=ag X<;>by_cases hb:1<=b/\b<=ag X
 · obtain⟨a1,a2,a3⟩:=h.rv ha
   obtain⟨b1,b2,b3⟩:=h.rv hb;unfold DN at e;rw[if_pos ha,if_pos hb]at e;have:=h.same (h.CB S a1).1 (h.CB S b1).1 (by rw[(h.CB S a1).2,(h.CB S b1).2,a2,b2]) e
   have:=Ym S a1.2 b1.2 this (by
    by_cases c:(Kn.rv X dm a).1=(Kn.rv X dm b).1
    · exact .inl (h.TG a1 b1 c (by rw[a2,b2]))
    exact .inr c)
   rw[<-a3,this,b3]
 · have:=ie a ha
   rw[e]at this
   unfold DN at this;rw[if_neg hb]at this
   exact absurd this hb
 · have:=ie b hb
   rw[<-e]at this
   unfold DN at this;rw[if_neg ha]at this
   exact absurd this ha
 unfold DN at e;rwa [if_neg ha,if_neg hb]at e
theorem AQ.Cu(h:AQ X dm)(S:Nat->Bool)(hp:aq X p)(c:dm p=true):DN X dm S (aa X p)=aa X (Kn.CB S p):=by
 have hh:DN X dm S (aa X p)=aa X (Kn.CB S (Kn.rv X dm (aa X p))):=if_pos (h.ok.ah hp);rw[hh,h.XJ hp c]
theorem AQ.rings(h:AQ X dm)(S:Nat->Bool)(x y:Nat):bh (λx=>x) (pairs X S) x y↔cW (DN X dm S) x y:=by
 have pm:=h.LP S
 have step:∀{k s:Nat},k<X.length->s<4->aI s=S k->dm (k,s)=true->DN X dm S (aa X (k,s))=aa X (k,(s+1)%4):=λ{k s} hk hs e c=>by
  rw[h.Cu S (p:=(k,s)) ⟨hk,hs⟩ c]
  unfold Kn.CB;rw[if_pos e]
 have agj:∀{k s:Nat},k<X.length->s<4->aI s=S k->dm (k,s)=false->DN X dm S (aa X (k,(s+1)%4))=aa X (k,s):=λ{k s} hk hs e c=>by
  have hp:aq X (k,(s+1)%4):=⟨hk,jQ _ (by omega)⟩;have:=h.t1 (p:=(k,s)) ⟨hk,hs⟩;rw[h.Cu S hp (by rw[this,c];rfl)];unfold Kn.CB
  have ne:¬aI ((s+1)%4)=S k:=by
   rw[<-e];unfold aI;intro q;have:=jL.1 q;omega
  rw[if_neg ne,show ((s+1)%4+3)%4=s by omega]
 constructor
 · refine bN pm.equiv (λx=>cW.refl _ x) λe he=>?_
   obtain⟨k,s,hk,hs,e1,rfl⟩:=dX.1 he;cases c:dm (k,s)
   · have:=agj hk hs e1 c
     exact pm.symm (by have o:=cW.one (DN X dm S) (aa X (k,(s+1)%4));rwa [this]at o)
   have:=step hk hs e1 c
   have o:=cW.one (DN X dm S) (aa X (k,s));rwa [this]at o
 intro k;have hE:=aj (pairs X S)
 refine k.ind (P:=λy=>bh (λx=>x) (pairs X S) x y) (λz hz=>hE.trans hz ?_) (hE.refl x)
 by_cases ha:1<=z/\z<=ag X;rotate_left
 · unfold DN;rw[if_neg ha];exact hE.refl z
 obtain⟨b1,b2,b3⟩:=h.rv ha
 obtain⟨q,hq⟩:∃q,q=Kn.rv X dm z:=⟨_,rfl⟩
 rw[<-hq]at b1 b2 b3;have e2:=h.Cu S b1 b2;rw[b3]at e2;rw[e2];unfold Kn.CB;by_cases e:aI q.2=S q.1
 · rw[if_pos e]
   have:=cz (X:=X) b1.1 b1.2 e
   rw[show ((q.1,q.2):Pl)=q from rfl,b3]at this;exact this
 rw[if_neg e]
 have e':aI ((q.2+3)%4)=S q.1:=by
  have:aI ((q.2+3)%4)=!aI q.2:=by
   unfold aI;rw[<-decide_not,jL];omega
  rw[this];cases hh:aI q.2<;>cases hs:S q.1<;>simp[hh,hs]at e ⊢
 have:=cz (X:=X) b1.1 (jQ (q.2+3) (by omega)) e';rw[show ((q.2+3)%4+1)%4=q.2 by have:=b1.2;omega,show ((q.1,q.2):Pl)=q from rfl,b3]at this;exact hE.symm this
theorem AQ.turn(h:AQ X dm)(hk:k<X.length)(h0:S k=false):
 ∃g,g<2/\DN X dm (bC S k)=(λx=>swp (aa X (k,g+1)) (aa X (k,(g+3)%4)) (DN X dm S x))/\aa X (k,g+1)≠aa X (k,(g+3)%4):=by
 obtain⟨g,hg,c0,c1⟩:∃g,g<2/\dm (k,g)=true/\dm (k,g+1)=false:=by
  have:=h.t1 (p:=(k,0)) ⟨hk,by show 0<4;omega⟩;have h2:=h.t1 (p:=(k,1)) ⟨hk,by show 1<4;omega⟩;simp only at this h2;cases c:dm (k,0)
  · exact⟨1,by omega,by rw[show (1:Nat)=(0+1)%4 from rfl,this,c];rfl,by
     rw[show (1+1:Nat)=(1+1)%4 from rfl,h2,show ((k,1):Pl)=(k,(0+1)%4)from rfl,this,c];rfl⟩
  exact⟨0,by omega,c,by rw[show (0+1:Nat)=(0+1)%4 from rfl,this,c];rfl⟩
 have pb:aq X (k,g+1):=⟨hk,by show g+1<4;omega⟩;have pd:aq X (k,(g+3)%4):=⟨hk,jQ _ (by omega)⟩
 have c3:dm (k,(g+3)%4)=false:=by
  have:=h.t2 pb;simp only at this
  rw[show (g+1+2)%4=(g+3)%4 by omega,c1]at this;exact this
 refine⟨g,hg,funext λx=>?_,λe=>?_⟩
 · by_cases hx:1<=x/\x<=ag X
   · obtain⟨b1,b2,b3⟩:=h.rv hx
     obtain⟨q,hq⟩:∃q,q=Kn.rv X dm x:=⟨_,rfl⟩
     rw[<-hq]at b1 b2 b3;have e1:=h.Cu S b1 b2;have e2:=h.Cu (bC S k) b1 b2;rw[b3]at e1 e2;rw[e1,e2];by_cases c:q.1=k
     · have par:=h.TG (p:=q) (q:=(k,g)) b1 ⟨hk,by show g<4;omega⟩ c (by rw[b2,c0])
       have hq4:=b1.2;simp only at par
       have qq:q.2=g\/q.2=g+2:=by omega
       unfold Kn.CB;rw[c,bK,h0]
       have pg:aI q.2=aI g:=by unfold aI;rw[par]
       have CW:g=0\/g=1:=by omega
       rcases CW with rfl|rfl<;>rcases qq with qq|qq<;>rw[qq]<;>simp[aI,cp,cY]
     unfold Kn.CB;rw[az _ c];have hm:=h.CB S b1;unfold Kn.CB at hm;refine(ak (λe=>?_) λe=>?_).symm
     · have:=h.same hm.1 pb (by rw[hm.2,b2,c1];rfl) e
       injection this with t1
       exact c t1
     have:=h.same hm.1 pd (by rw[hm.2,b2,c3];rfl) e
     injection this with t1
     exact c t1
   have e:∀S,DN X dm S x=x:=λS=>by unfold DN;rw[if_neg hx]
   rw[e,e];refine(ak (λe=>hx ?_) λe=>hx ?_).symm
   · rw[e];exact h.ok.ah pb
   rw[e];exact h.ok.ah pd
 have:=h.same pb pd (by rw[c1,c3]) e
 injection this with _ t2
 omega
theorem AQ.Fw(h:AQ X dm)(hk:k<X.length)(h0:S k=false):
 BB (bh (λx=>x) (pairs X S)) (bh (λx=>x) (pairs X (bC S k))) (aa X (k,0)) (aa X (k,2)):=by
 obtain⟨g,hg,e,hne⟩:=h.turn hk h0;have pm:=h.LP S;have pm':=h.LP (bC S k);have hE:=aj (pairs X S);have sN:=aj (pairs X (bC S k));have R:=h.rings S;have R':=h.rings (bC S k)
 have lt:∀s,s<4->aa X (k,s)<ag X+1:=λs hs=>by
  have:=(h.ok.ah (p:=(k,s)) ⟨hk,hs⟩).2;omega
 have m4:(g+3)%4<4:=jQ _ (by omega)
 have p0:aI 0=S k:=by rw[h0];rfl
 have p2:aI 2=S k:=by rw[h0];rfl
 have q1:aI 1=bC S k k:=by rw[bK];rfl
 have q3:aI 3=bC S k k:=by rw[bK];rfl
 have s1:bh (λx=>x) (pairs X S) (aa X (k,0)) (aa X (k,1)):=cz hk (by omega) p0;have s2:bh (λx=>x) (pairs X S) (aa X (k,2)) (aa X (k,3)):=cz hk (by omega) p2;have t1:bh (λx=>x) (pairs X (bC S k)) (aa X (k,1)) (aa X (k,2)):=cz hk (by omega) q1;have t2:bh (λx=>x) (pairs X (bC S k)) (aa X (k,3)) (aa X (k,0)):=cz hk (by omega) q3
 have ends:(bh (λx=>x) (pairs X S) (aa X (k,0)) (aa X (k,g+1))/\bh (λx=>x) (pairs X S) (aa X (k,2)) (aa X (k,(g+3)%4))) \/
  (bh (λx=>x) (pairs X S) (aa X (k,2)) (aa X (k,g+1))/\bh (λx=>x) (pairs X S) (aa X (k,0)) (aa X (k,(g+3)%4))):=by
  have:g=0\/g=1:=by omega
  rcases this with rfl|rfl
  · exact .inl ⟨s1,s2⟩
  exact .inr ⟨hE.refl _,hE.refl _⟩
 have ain:(bh (λx=>x) (pairs X (bC S k)) (aa X (k,0)) (aa X (k,g+1))/\bh (λx=>x) (pairs X (bC S k)) (aa X (k,2)) (aa X (k,(g+3)%4))) \/
  (bh (λx=>x) (pairs X (bC S k)) (aa X (k,2)) (aa X (k,g+1))/\bh (λx=>x) (pairs X (bC S k)) (aa X (k,0)) (aa X (k,(g+3)%4))):=by
  have:g=0\/g=1:=by omega
  rcases this with rfl|rfl
  · exact .inr ⟨sN.symm t1,sN.symm t2⟩
  exact .inr ⟨sN.refl _,sN.refl _⟩
 have mv:∀{E:Rl} (hE:Equivalence E) {a c b d:Nat},(E a b/\E c d)\/(E c b/\E a d)->(∀x y,qG E b d x y↔qG E a c x y)/\(E b d↔E a c):=λ{E} hE {a c b d} k=>by
  rcases k with⟨k1,k2⟩|⟨k1,k2⟩
  · exact⟨λx y=>LU hE k1 k2 x y,⟨λm=>hE.trans k1 (hE.trans m (hE.symm k2)),λm=>hE.trans (hE.symm k1) (hE.trans m k2)⟩⟩
  exact⟨λx y=>(Jo b d x y).trans (LU hE k2 k1 x y),⟨λm=>hE.symm (hE.trans k1 (hE.trans m (hE.symm k2))),λm=>hE.symm (hE.trans (hE.symm k2) (hE.trans m k1))⟩⟩
 obtain⟨m1,m2⟩:=mv hE ends;obtain⟨m1',m2'⟩:=mv sN ain;by_cases c:cW (DN X dm S) (aa X (k,g+1)) (aa X (k,(g+3)%4))
 · right
   have part:=Cp pm hne c;rw[<-e]at part;refine⟨sN,λq=>part ((R' _ _).1 (m2'.2 q)),λx y=>?_⟩;rw[R,<-m1'];have back:=Ga pm' (lt _ (by omega)) (lt _ m4) part x y;rw[e,uz]at back;rw[back];unfold qG;have R'':=R';rw[e]at R'';rw[R'',R'',R'',R'',R'']
 left;have join:=Ga pm (lt _ (by omega)) (lt _ m4) c;refine⟨hE,λq=>c ((R _ _).1 (m2.2 q)),λx y=>?_⟩;rw[R',e,join,<-m1];unfold qG;rw[<-R,<-R,<-R,<-R,<-R]
theorem Ok.eF(hX:Ok X)(hp:aJ X=true)(L:Nat):(eF X L).Ok:=by
 obtain⟨dm,hc⟩:=hX.aiC hp;have b:AQ X dm:=⟨hX,λp hp=>(hc p hp).1,λp hp=>(hc p hp).2⟩
 have pt:∀p,aq X p->1<=aa X p/\aa X p<=ag X+L:=λp hp=>by
  have:=hX.ah hp;exact⟨this.1,by have:=this.2;omega⟩
 refine⟨λS=>aj _,λS x y k=>?_,λk hk=>⟨pt (k,0) ⟨hk,by show 0<4;omega⟩,pt (k,2) ⟨hk,by show 2<4;omega⟩⟩,λS k hk h0=>b.Fw hk h0,ag X+L+1,λp hp=>?_⟩
 · refine bN (R:=λx y=>x=y\/((1<=x/\x<=ag X+L)/\(1<=y/\y<=ag X+L))) ⟨λ_=>.inl rfl,λ{x y} k=>k.imp symm λk=>⟨k.2,k.1⟩,λ{x y z} k l=>?_⟩ (λ_=>.inl rfl) (λe he=>?_) k
   · rcases k with rfl|k
     · exact l
     rcases l with rfl|l
     · exact .inr k
     exact .inr ⟨k.1,l.2⟩
   obtain⟨k,s,hk,hs,_,rfl⟩:=dX.1 he;exact .inr ⟨pt _ ⟨hk,hs⟩,pt _ ⟨hk,jQ _ (by omega)⟩⟩
 have:p<=ag X+L:=hp.2;omega
end
def oH(b:Nat->Bool):Nat->Nat
 |0=>0
 |k+1=>(if b k then 2 ^ k else 0)+oH b k
theorem fR(b:Nat->Bool):∀k,oH b k<2 ^ k
 |0=>Nat.one_pos
 |k+1=>by
  have:=fR b k
  rw[oH,Nat.pow_succ];split<;>omega
theorem fZ(b:Nat->Bool):∀{k i:Nat},i<k->(oH b k).testBit i=b i
 |k+1,i,h=>by
  rw[oH];have hl:=fR b k;by_cases c:i=k
  · subst c
    cases hb:b i
    · simp only[jN,if_false,zero_add]
      exact Nat.testBit_lt_two_pow hl
    simp only[if_true]
    rw[Nat.testBit_two_pow_add_eq,Nat.testBit_lt_two_pow hl];rfl
  have hi:i<k:=by omega
  cases hb:b k
  · simp only[jN,if_false,zero_add];exact fZ b hi
  simp only[if_true]
  rw[Nat.testBit_two_pow_add_gt hi];exact fZ b hi
theorem yv(h:m<2 ^ k)(hi:k<=i):m.testBit i=false:=Nat.testBit_lt_two_pow (jT h (jI (by omega) hi))
theorem yw{m':Nat}(h:m<2 ^ k)(h':m'<2 ^ k)(e:∀i,i<k->m.testBit i=m'.testBit i):m=m':=Nat.eq_of_testBit_eq λi=>by
 by_cases c:i<k
 · exact e i c
 rw[yv h (by omega),yv h' (by omega)]
theorem VU(h:∀k,n<=k->S k=false):(oH S n).testBit=S:=funext λi=>by
 by_cases c:i<n
 · exact fZ S c
 rw[yv (fR S n) (by omega),h i (by omega)]
def jn2(X:List Cr)(b:Bool)(f:Nat->Nat)(k:Nat):Nat->Nat:=
 if b then dG (dG f (aa X (k,1)) (aa X (k,2))) (aa X (k,3)) (aa X (k,0))else dG (dG f (aa X (k,0)) (aa X (k,1))) (aa X (k,2)) (aa X (k,3))
def o9(X:List Cr)(S:Nat->Bool):Nat->Nat->Nat
 |0=>λa=>a
 |k+1=>jn2 X (S k) (o9 X S k) k
def Ck(X:List Cr)(S:Nat->Bool):Nat->eW
 |0=>[]
 |k+1=>(if S k then [(aa X (k,3),aa X (k,0)),(aa X (k,1),aa X (k,2))]else [(aa X (k,2),aa X (k,3)),(aa X (k,0),aa X (k,1))])++Ck X S k
abbrev fB(X:List Cr)(S:Nat->Bool):Nat->Nat:=o9 X S X.length
section
variable {X:List Cr} {S:Nat->Bool}
theorem zf{e:Nat×Nat}:∀{k:Nat},e∈Ck X S k↔∃c,c<k/\e∈Aw X S c
 |0=>by simp[Ck]
 |k+1=>by
  rw[Ck,jx,zf]
  have h:e∈(if S k then [(aa X (k,3),aa X (k,0)),(aa X (k,1),aa X (k,2))]else [(aa X (k,2),aa X (k,3)),(aa X (k,0),aa X (k,1))])↔e∈Aw X S k:=by
   unfold Aw;cases S k
   · simp only[jN,if_false,jy,jz,or_false];exact or_comm
   simp only[if_true,jy,jz,or_false];exact or_comm
  rw[h];constructor
  · rintro(h|⟨c,h1,h2⟩)
    · exact⟨k,by omega,h⟩
    exact⟨c,by omega,h2⟩
  rintro⟨c,h1,h2⟩;by_cases e:c=k
  · exact .inl (e ▸ h2)
  exact .inr ⟨c,by omega,h2⟩
theorem Ok.NV(h:Ok X):∀k,k<=X.length->M9 (o9 X S k) (bh (λx=>x) (Ck X S k))
 |0,_=>M9.id
 |k+1,hk=>by
  have i:=h.NV k (by omega)
  have ar:∀s,s<4->1<=aa X (k,s):=λs hs=>(h.ah (p:=(k,s)) ⟨by show k<_;omega,hs⟩).1
  unfold o9 Ck jn2;cases S k
  · exact(i.join (ar 0 (by omega)) (ar 1 (by omega))).join (ar 2 (by omega)) (ar 3 (by omega))
  exact(i.join (ar 1 (by omega)) (ar 2 (by omega))).join (ar 3 (by omega)) (ar 0 (by omega))
theorem Ok.root(h:Ok X):M9 (fB X S) (bh (λx=>x) (pairs X S)):=by
 have r:=h.NV (S:=S) X.length (jH _)
 have e:∀a b,bh (λx=>x) (Ck X S X.length) a b↔bh (λx=>x) (pairs X S) a b:=λa b=>by
  constructor
  · refine b9 λe he=>aX ?_
    obtain⟨c,h1,h2⟩:=zf.1 he;exact mem_flatMap.2 ⟨c,jw.2 h1,h2⟩
  refine b9 λe he=>aX ?_
  obtain⟨c,h1,h2⟩:=mem_flatMap.1 he;exact zf.2 ⟨c,jw.1 h1,h2⟩
 exact⟨λa b=>(r.iff a b).trans (e a b),r.le,r.idem,r.pos⟩
def aw(X:List Cr)(S:Nat->Bool):List Nat:=(yA X).filter λa=>decide (fB X S a=a)
def eY(X:List Cr)(L:Nat)(S:Nat->Bool):Nat:=(aw X S).length+L
def AD(X:List Cr)(S:Nat->Bool)(x:Nat):Nat:=if x<=ag X then(aw X S).idxOf (fB X S x)else(aw X S).length+(x-ag X-1)
def rL(X:List Cr)(L:Nat)(S:Nat->Bool)(m:Nat):Mk:=λx=>decide (1<=x/\x<=ag X+L)&&m.testBit (AD X S x)
theorem pE:a∈aw X S↔ah X a/\fB X S a=a:=by
 unfold aw;rw[jC,eI,jt]
theorem D5:(aw X S).Nodup:=(wI X).filter _
variable {L:Nat}
theorem Ok.gV(h:Ok X)(ha:Kn.ah X a):fB X S a∈aw X S:=by
 have r:=h.root (S:=S)
 refine pE.2 ⟨⟨r.pos a ha.1,jJ (r.le a) ha.2⟩,r.idem a⟩
theorem Ok.UF(h:Ok X)(h1:1<=x)(h2:x<=ag X+L):AD X S x<eY X L S:=by
 unfold AD eY;by_cases c:x<=ag X
 · rw[if_pos c]
   have:=jr (h.gV (S:=S) ⟨h1,c⟩);omega
 rw[if_neg c];omega
theorem OC{a b:Nat}(ha:a∈l)(hb:b∈l)(e:l.idxOf a=l.idxOf b):a=b:=by
 have h1:=List.getElem_idxOf (jr ha);have h2:=List.getElem_idxOf (jr hb);rw[<-h1,<-h2]
 congr 1
theorem Ok.zl(h:Ok X)(x1:1<=x)(x2:x<=ag X+L)(y1:1<=y)(y2:y<=ag X+L):AD X S x=AD X S y↔bh (λx=>x) (pairs X S) x y:=by
 have r:=h.root (S:=S)
 have far:∀{a b},ag X<a->bh (λx=>x) (pairs X S) a b->a=b:=λ{a b} ha k=>by
  have e:=(r.iff a b).2 k
  have:bh (λx=>x) (pairs X S) a b->(a=b\/(Kn.ah X a/\Kn.ah X b)):=λk=>
   bN (R:=λa b=>a=b\/(Kn.ah X a/\Kn.ah X b)) ⟨λ_=>.inl rfl,λ{a b} k=>k.imp symm λk=>⟨k.2,k.1⟩,λ{a b c} k l=>by
    rcases k with rfl|k
    · exact l
    · rcases l with rfl|l
      · exact .inr k
      exact .inr ⟨k.1,l.2⟩⟩ (λ_=>.inl rfl) (λe he=>by
    obtain⟨k,s,hk,hs,_,rfl⟩:=dX.1 he
    exact .inr ⟨h.ah (p:=(k,s)) ⟨hk,hs⟩,h.ah (p:=(k,(s+1)%4)) ⟨hk,jQ _ (by omega)⟩⟩) k
  rcases this k with q|q
  · exact q
  have:=q.1.2;omega
 unfold AD
 by_cases c:x<=ag X<;>by_cases d:y<=ag X
 · rw[if_pos c,if_pos d,<-r.iff]
   exact⟨λe=>OC (h.gV ⟨x1,c⟩) (h.gV ⟨y1,d⟩) e,λe=>by rw[e]⟩
 · rw[if_pos c,if_neg d]
   have:=jr (h.gV (S:=S) (a:=x) ⟨x1,c⟩);constructor
   · intro e;omega
   intro k;have:=far (by omega) ((aj _).symm k);omega
 · rw[if_neg c,if_pos d]
   have:=jr (h.gV (S:=S) (a:=y) ⟨y1,d⟩);constructor
   · intro e;omega
   intro k;have:=far (by omega) k;omega
 rw[if_neg c,if_neg d];constructor
 · intro e
   have:x=y:=by omega
   rw[this];exact(aj _).refl y
 intro k;rw[far (by omega) k]
def tI(X:List Cr)(L:Nat)(S:Nat->Bool):List Nat:=aw X S++(range L).map λj=>ag X+1+j
theorem qC:(tI X L S).length=eY X L S:=by unfold tI eY;simp
theorem Ok.rH(h:Ok X)(hi:i<eY X L S):∃x,(tI X L S)[i]?=some x/\(1<=x/\x<=ag X+L)/\AD X S x=i:=by
 unfold tI;by_cases c:i<(aw X S).length
 · refine⟨(aw X S)[i],by rw[List.getElem?_append_left c,je c],?_⟩
   obtain⟨h1,h2⟩:=pE.1 (jM c);refine⟨⟨h1.1,by have:=h1.2;omega⟩,?_⟩;unfold AD;rw[if_pos h1.2,h2,D5.idxOf_getElem]
 unfold eY at hi;refine⟨ag X+1+(i-(aw X S).length),?_,⟨by omega,by omega⟩,?_⟩
 · rw[List.getElem?_append_right (by omega),List.getElem?_map,List.getElem?_range (by omega)];rfl
 unfold AD;rw[if_neg (by omega)];omega
theorem rK(h1:1<=x)(h2:x<=ag X+L):rL X L S m x=m.testBit (AD X S x):=by
 show (decide _&&_)=_
 rw[jk (show 1<=x/\x<=ag X+L from⟨h1,h2⟩)];rfl
theorem A5(h:¬(1<=x/\x<=ag X+L)):rL X L S m x=false:=by
 show (decide _&&_)=_
 rw[jm h];rfl
theorem Ok.Gi(h:Ok X)(m:Nat):j6 (bh (λx=>x) (pairs X S)) (rL X L S m):=λx y k=>by
 by_cases c:1<=x/\x<=ag X+L<;>by_cases d:1<=y/\y<=ag X+L
 · rw[rK c.1 c.2,rK d.1 d.2,(h.zl c.1 c.2 d.1 d.2).2 k]
 all_goals
  have:x=y\/(Kn.ah X x/\Kn.ah X y):=bN (R:=λa b=>a=b\/(Kn.ah X a/\Kn.ah X b)) ⟨λ_=>.inl rfl,λ{a b} k=>k.imp symm λk=>⟨k.2,k.1⟩,λ{a b c} k l=>by
   rcases k with rfl|k
   · exact l
   · rcases l with rfl|l
     · exact .inr k
     exact .inr ⟨k.1,l.2⟩⟩ (λ_=>.inl rfl) (λe he=>by
   obtain⟨k,s,hk,hs,_,rfl⟩:=dX.1 he
   exact .inr ⟨h.ah (p:=(k,s)) ⟨hk,hs⟩,h.ah (p:=(k,(s+1)%4)) ⟨hk,jQ _ (by omega)⟩⟩) k
  rcases this with e|⟨a,b⟩
  · rw[e]
  have h1:1<=x/\x<=ag X+L:=⟨a.1,by have:=a.2;omega⟩;have h2:1<=y/\y<=ag X+L:=⟨b.1,by have:=b.2;omega⟩
  first|exact absurd h1 c|exact absurd h2 d
theorem Ok.On(h:Ok X){m':Nat}(hm:m<2 ^ eY X L S)(W5:m'<2 ^ eY X L S)(e:rL X L S m=rL X L S m'):m=m':=yw hm W5 λi hi=>by
 obtain⟨x,_,h2,h3⟩:=h.rH hi;have:=congrFun e x
 rwa [rK h2.1 h2.2,rK h2.1 h2.2,h3]at this
theorem Ok.Uf(h:Ok X)(h0:∀p,¬(1<=p/\p<=ag X+L)->f p=false)(hf:j6 (bh (λx=>x) (pairs X S)) f):∃m,m<2 ^ eY X L S/\rL X L S m=f:=by
 refine⟨oH (λi=>f ((tI X L S).getD i 0)) (eY X L S),fR _ _,funext λx=>?_⟩;by_cases c:1<=x/\x<=ag X+L
 · have hi:=h.UF (S:=S) c.1 c.2
   rw[rK c.1 c.2,fZ _ hi];obtain⟨y,h1,h2,h3⟩:=h.rH hi;rw[jc,h1];exact hf _ _ ((h.zl h2.1 h2.2 c.1 c.2).1 h3)
 rw[A5 c,h0 x c]
def sP(X:List Cr)(L s:Nat):List El:=(range (2 ^ eY X L s.testBit)).map λm=>(s.testBit,rL X L s.testBit m)
def bM(X:List Cr)(L:Nat):List El:=(range (2 ^ X.length)).flatMap (sP X L)
theorem Ok.bM(h:Ok X)(L:Nat):(Kn.eF X L).All (bM X L) where
 nd:=by
  unfold Kn.bM;rw[List.Nodup,List.pairwise_flatMap];refine⟨λs _=>?_,imp_of_mem ?_ (jK (n:=2 ^ X.length))⟩
  · unfold sP
    rw[pairwise_map]
    refine imp_of_mem ?_ (jK (n:=2 ^ eY X L s.testBit))
    intro a b ha hb hne e
    injection e with _ e
    exact hne (h.On (jw.1 ha) (jw.1 hb) e)
  intro a b ha hb hne x hx y hy e;unfold sP at hx hy;obtain⟨m,_,rfl⟩:=jv.1 hx;obtain⟨m',_,rfl⟩:=jv.1 hy
  injection e with e _
  exact hne (Nat.eq_of_testBit_eq λi=>congrFun e i)
 mem:=λx=>by
  unfold Kn.bM;rw[mem_flatMap];constructor
  · rintro⟨s,hs,hx⟩
    unfold sP at hx;obtain⟨m,_,rfl⟩:=jv.1 hx;exact⟨λk hk=>yv (jw.1 hs) hk,λp hp=>A5 hp,h.Gi m⟩
  rintro⟨h1,h2,h3⟩;have e:=VU h1;obtain⟨m,hm,ef⟩:=h.Uf (S:=x.1) h2 h3;refine⟨oH x.1 X.length,jw.2 (fR _ _),?_⟩;unfold sP;rw[jv];have e':(oH x.1 X.length).testBit=x.1:=e;rw[e'];exact⟨m,jw.2 hm,Prod.ext rfl ef⟩
theorem Ok.agv(h:Ok X):Rp (λp=>1<=p/\p<=ag X+L) (bh (λx=>x) (pairs X S)) (tI X L S) where
 ap:=by
  rw[List.pairwise_iff_getElem];intro i j hi hj wB k;rw[qC]at hi hj;obtain⟨x,x1,x2,x3⟩:=h.rH hi;obtain⟨y,y1,y2,y3⟩:=h.rH hj;rw[je (by rw[qC];exact hi)]at x1;rw[je (by rw[qC];exact hj)]at y1
  injection x1 with x1
  injection y1 with y1
  rw[x1,y1,<-h.zl x2.1 x2.2 y2.1 y2.2,x3,y3]at k;omega
 pt:=λr hr=>by
  obtain⟨i,hi,e⟩:=List.mem_iff_getElem.1 hr;rw[qC]at hi;obtain⟨x,x1,x2,_⟩:=h.rH hi;rw[je (by rw[qC];exact hi)]at x1
  injection x1 with x1
  rw[<-e,x1];exact x2
 all:=λp hp=>by
  obtain⟨x,x1,x2,x3⟩:=h.rH (h.UF (S:=S) hp.1 hp.2);exact⟨x,List.mem_of_getElem? x1,(h.zl hp.1 hp.2 x2.1 x2.2).1 x3.symm⟩
theorem Ok.Bl(h:Ok X)(m:Nat):dq (Kn.eF X L).P ((Kn.eF X L).E S) (rL X L S m)=cI (range (eY X L S)) λi=>xk (m.testBit i):=by
 have r:Rp (Kn.eF X L).P ((Kn.eF X L).E S) (tI X L S):=h.agv;rw[r.dq (aj _) (h.Gi m)]
 have e:tI X L S=(range (eY X L S)).map λi=>(tI X L S).getD i 0:=by
  refine List.ext_getElem (by rw[qC];simp) λi h1 h2=>?_
  simp only[List.getElem_map,List.getElem_range]
  rw[jc,je h1];rfl
 rw[e,kv]
 refine cX λi hi=>?_
 obtain⟨x,x1,x2,x3⟩:=h.rH (S:=S) (L:=L) (jw.1 hi);rw[jc,x1]
 show xk (rL X L S m x)=_
 rw[rK x2.1 x2.2,x3]
end
def M4(X:List Cr)(S T:Nat->Bool)(m one two i:Nat):Bool:=
 if i<(aw X T).length then(!decide ((aw X T).getD i 0=one) && !decide ((aw X T).getD i 0=two)&&m.testBit ((aw X S).idxOf ((aw X T).getD i 0)))else m.testBit (i-(aw X T).length+(aw X S).length)
def YZ(X:List Cr)(T:Nat->Bool)(l:List Nat)(i:Nat):Bool:=l.any λr=>decide ((aw X T).idxOf r=i)
def ig(X:List Cr)(L:Nat)(S T:Nat->Bool)(m one two:Nat)(l:List Nat):Nat:=oH (λi=>M4 X S T m one two i||YZ X T l i) (eY X L T)
def AA(X:List Cr)(S:Nat->Bool)(m r:Nat):Bool:=m.testBit ((aw X S).idxOf r)
def oZ(X:List Cr)(L:Nat)(S:Nat->Bool)(k m:Nat):List Nat:=
 if fB X S (aa X (k,0))=fB X S (aa X (k,2))then
  if AA X S m (fB X S (aa X (k,0)))then [ig X L S (bC S k) m (fB X (bC S k) (aa X (k,0))) (fB X (bC S k) (aa X (k,2))) [fB X (bC S k) (aa X (k,0))],ig X L S (bC S k) m (fB X (bC S k) (aa X (k,0))) (fB X (bC S k) (aa X (k,2))) [fB X (bC S k) (aa X (k,2))]]
  else [ig X L S (bC S k) m (fB X (bC S k) (aa X (k,0))) (fB X (bC S k) (aa X (k,2))) []]
 else
  if AA X S m (fB X S (aa X (k,0)))&&AA X S m (fB X S (aa X (k,2)))then [ig X L S (bC S k) m (fB X (bC S k) (aa X (k,0))) (fB X (bC S k) (aa X (k,2))) [fB X (bC S k) (aa X (k,0))]]
  else if AA X S m (fB X S (aa X (k,0)))||AA X S m (fB X S (aa X (k,2)))then [ig X L S (bC S k) m (fB X (bC S k) (aa X (k,0))) (fB X (bC S k) (aa X (k,2))) []]
  else []
section
variable {X:List Cr} {L:Nat} {S T:Nat->Bool}
theorem Ok.IM(h:Ok X)(a b:Nat)(k:bh (λx=>x) (pairs X S) a b):fB X S a<=b:=by
 have r:=h.root (S:=S)
 rw[(r.iff a b).2 k];exact r.le b
theorem Ok.IP(h:Ok X)(k:∀y,bh (λx=>x) (pairs X T) y x↔bh (λx=>x) (pairs X S) y x):fB X S x=fB X T x:=by
 have rS:=h.root (S:=S);have rT:=h.root (S:=T);have hS:=aj (pairs X S);have hT:=aj (pairs X T);have xS:bh (λx=>x) (pairs X S) (fB X S x) x:=(rS.iff _ _).1 (rS.idem x);have xT:bh (λx=>x) (pairs X T) (fB X T x) x:=(rT.iff _ _).1 (rT.idem x);have h1:=h.IM (S:=S) x (fB X T x) (hS.symm ((k _).1 xT));have h2:=h.IM (S:=T) x (fB X S x) (hT.symm ((k _).2 xS));omega
theorem Vf(h:a∈l):l.getD (l.idxOf a) 0=a:=by
 have hl:=jr h;rw[jc,je hl];exact List.getElem_idxOf hl
theorem Ok.LX(h:Ok X)(ha:Kn.ah X a)(m:Nat):AA X S m (fB X S a)=rL X L S m a:=by
 rw[rK ha.1 (by have:=ha.2;omega)];unfold AA AD;rw[if_pos ha.2]
theorem Ok.abK(h:Ok X){one two m:Nat}(h1:1<=x)(h2:x<=ag X+L):rL X L T (ig X L S T m one two l) x=(M4 X S T m one two (AD X T x)||YZ X T l (AD X T x)):=by
 rw[rK h1 h2];unfold ig;rw[fZ _ (h.UF (L:=L) h1 h2)]
theorem Ok.AV(h:Ok X){a c:Nat}(ha:Kn.ah X a)(hc:Kn.ah X c)(far:∀x,¬bh (λx=>x) (pairs X T) x a->¬bh (λx=>x) (pairs X T) x c->∀y,bh (λx=>x) (pairs X T) y x↔bh (λx=>x) (pairs X S) y x)(hl:∀r∈l,r∈aw X T)(h1:1<=x)(h2:x<=ag X+L):
 rL X L T (ig X L S T m (fB X T a) (fB X T c) l) x=((rL X L S m x && !tr (bh (λx=>x) (pairs X T) x a) && !tr (bh (λx=>x) (pairs X T) x c))||decide (x<=ag X)&&l.contains (fB X T x)):=by
 have rT:=h.root (S:=T);rw[h.abK h1 h2];by_cases k:x<=ag X
 · have hx:Kn.ah X x:=⟨h1,k⟩
   have Be:=h.gV (S:=T) hx;have hlt:=jr Be
   have e1:AD X T x=(aw X T).idxOf (fB X T x):=by unfold AD;rw[if_pos k]
   have ex:YZ X T l (AD X T x)=l.contains (fB X T x):=by
    unfold YZ;rw[e1,jD,List.any_eq_true,List.contains_iff_mem];constructor
    · rintro⟨r,hr,e⟩
      rw[<-OC (hl r hr) Be (jl e)];exact hr
    intro hr;exact⟨_,hr,jk rfl⟩
   have bb:M4 X S T m (fB X T a) (fB X T c) (AD X T x)=(rL X L S m x && !tr (bh (λx=>x) (pairs X T) x a) && !tr (bh (λx=>x) (pairs X T) x c)):=by
    unfold M4;rw[e1,if_pos hlt,Vf Be]
    have d1:decide (fB X T x=fB X T a)=tr (bh (λx=>x) (pairs X T) x a):=by
     rw[jD,jt,bf];exact rT.iff x a
    have d2:decide (fB X T x=fB X T c)=tr (bh (λx=>x) (pairs X T) x c):=by
     rw[jD,jt,bf];exact rT.iff x c
    rw[d1,d2];by_cases f1:bh (λx=>x) (pairs X T) x a
    · rw[bf.2 f1];simp
    by_cases f2:bh (λx=>x) (pairs X T) x c
    · rw[bf.2 f2];simp
    rw[br.2 f1,br.2 f2];have e3:=h.IP (far x f1 f2);rw[<-e3,<-h.LX (L:=L) hx m]
    unfold AA;simp
   rw[ex,bb,jk k];simp
 have e1:AD X T x=(aw X T).length+(x-ag X-1):=by unfold AD;rw[if_neg k]
 have e2:AD X S x=(aw X S).length+(x-ag X-1):=by unfold AD;rw[if_neg k]
 have ex:YZ X T l (AD X T x)=false:=by
  unfold YZ;rw[List.any_eq_false];intro r hr;have:=jr (hl r hr)
  rw[e1];simp;omega
 have bb:M4 X S T m (fB X T a) (fB X T c) (AD X T x)=rL X L S m x:=by
  unfold M4;rw[e1,if_neg (by omega),rK h1 h2,e2]
  congr 1;omega
 have nr:∀b,Kn.ah X b->¬bh (λx=>x) (pairs X T) x b:=λb hb q=>by
  have:=(h.zl (S:=T) (L:=L) h1 h2 hb.1 (by have:=hb.2;omega)).2 q;rw[e1]at this;unfold AD at this;rw[if_pos hb.2]at this;have:=jr (h.gV (S:=T) hb);omega
 rw[ex,bb,br.2 (nr a ha),br.2 (nr c hc),jm k];simp
theorem Ok.XF(h:Ok X)(hk:k<X.length)(h0:S k=false)(ad:BB (bh (λx=>x) (pairs X S)) (bh (λx=>x) (pairs X (bC S k))) (aa X (k,0)) (aa X (k,2)))(m:Nat):
 yM ((oZ X L S k m).map (rL X L (bC S k))) (dE (bh (λx=>x) (pairs X S)) (bh (λx=>x) (pairs X (bC S k))) (aa X (k,0)) (aa X (k,2)) (rL X L S m)):=by
 obtain⟨T,hT⟩:∃T,T=bC S k:=⟨_,rfl⟩
 have ia:=h.ah (p:=(k,0)) ⟨hk,by show 0<4;omega⟩;have ic:=h.ah (p:=(k,2)) ⟨hk,by show 2<4;omega⟩
 obtain⟨a,ha⟩:∃a,a=aa X (k,0):=⟨_,rfl⟩
 obtain⟨c,hc⟩:∃c,c=aa X (k,2):=⟨_,rfl⟩
 unfold oZ;rw[<-hT]at ad ⊢;rw[<-ha]at ad ia ⊢;rw[<-hc]at ad ic ⊢;have rS:=h.root (S:=S);have rT:=h.root (S:=T);have hS:=aj (pairs X S);have hT':=aj (pairs X T)
 have inT:∀b,Kn.ah X b->∀r∈[fB X T b],r∈aw X T:=λb hb r hr=>by rw[jB.1 hr];exact h.gV hb
 have aiv:∀b x:Nat,([fB X T b].contains (fB X T x))=tr (bh (λx=>x) (pairs X T) x b):=λb x=>by
  rw[jD,List.contains_iff_mem,jB,bf];exact rT.iff x b
 rw[h.LX (L:=L) ia m,h.LX (L:=L) ic m]
 have out:∀(T:Nat->Bool) (q x:Nat),¬(1<=x/\x<=ag X+L)->rL X L T q x=false:=λT q x hx=>A5 hx
 have Pc:∀b x,Kn.ah X b->bh (λx=>x) (pairs X T) x b->1<=x->x<=ag X+L->x<=ag X:=λb x hb q x1 x2=>by
  refine js λk=>?_
  have:=(h.zl (S:=T) (L:=L) x1 x2 hb.1 (by have:=hb.2;omega)).2 q;unfold AD at this;rw[if_neg k,if_pos hb.2]at this;have:=jr (h.gV (S:=T) hb);omega
 obtain⟨f,hf⟩:∃f,f=rL X L S m:=⟨_,rfl⟩
 have fc:j6 (bh (λx=>x) (pairs X S)) f:=hf ▸ h.Gi m
 have fo:∀x,¬(1<=x/\x<=ag X+L)->f x=false:=λx hx=>by rw[hf];exact A5 hx
 rcases ad with J|J
 · have far:∀x,¬bh (λx=>x) (pairs X T) x a->¬bh (λx=>x) (pairs X T) x c->∀y,bh (λx=>x) (pairs X T) y x↔bh (λx=>x) (pairs X S) y x:=λx k1 _ y=>J.far k1 y
   have ne:¬fB X S a=fB X S c:=λe=>J.ap ((rS.iff a c).1 e)
   have ac:∀x,bh (λx=>x) (pairs X T) x c↔bh (λx=>x) (pairs X T) x a:=λx=>⟨λq=>J.kW.trans q (J.kW.symm J.ac),λq=>J.kW.trans q J.ac⟩
   have w1:f a=true->f c=true->rL X L T (ig X L S T m (fB X T a) (fB X T c) [fB X T a])=f:=λfa fc'=>funext λx=>by
    by_cases p:1<=x/\x<=ag X+L
    · rw[h.AV ia ic far (inT a ia) p.1 p.2,aiv,<-hf,fj (ac x)]
      by_cases q:bh (λx=>x) (pairs X T) x a
      · rw[bf.2 q,jk (Pc a x ia q p.1 p.2)]
        have:f x=true:=by
         rcases (J.sU x).1 q with r|r
         · rw[fc _ _ r,fa]
         rw[fc _ _ r,fc']
        rw[this];rfl
      rw[br.2 q];cases f x<;>cases decide (x<=ag X)<;>rfl
    rw[out _ _ _ p,fo x p]
   have w0:rL X L T (ig X L S T m (fB X T a) (fB X T c) [])=st (bh (λx=>x) (pairs X T)) a f:=funext λx=>by
    by_cases p:1<=x/\x<=ag X+L
    · rw[h.AV ia ic far (λr hr=>by cases hr) p.1 p.2,<-hf,fj (ac x)]
      unfold st;by_cases q:bh (λx=>x) (pairs X T) x a
      · rw[bf.2 q];simp
      rw[br.2 q];simp
    rw[out _ _ _ p]
    show false=(f x&&_)
    rw[fo x p];rfl
   rw[if_neg ne,J.dE,<-hf];unfold KW
   cases fa:f a<;>cases fc':f c
   · exact .refl _
   · simp only[Bool.false_and,Bool.false_or,if_true,jN,if_false,map_cons,map_nil,w0];exact .refl _
   · simp only[Bool.and_false,Bool.or_false,if_true,jN,if_false,map_cons,map_nil,w0];exact .refl _
   simp only[Bool.and_self,if_true,map_cons,map_nil,w1 fa fc'];exact .refl _
 have far:∀x,¬bh (λx=>x) (pairs X T) x a->¬bh (λx=>x) (pairs X T) x c->∀y,bh (λx=>x) (pairs X T) y x↔bh (λx=>x) (pairs X S) y x:=λx k1 k2 y=>
  (J.far (λq=>((J.sU x).1 q).elim k1 k2) y).symm
 have e:fB X S a=fB X S c:=(rS.iff a c).2 J.ac;have ye:f c=f a:=fc _ _ (hS.symm J.ac)
 have w1:∀b d:Nat,(b=a/\d=c)\/(b=c/\d=a)->f a=true->rL X L T (ig X L S T m (fB X T a) (fB X T c) [fB X T b])=st (bh (λx=>x) (pairs X T)) d f:=λb d bd fa=>funext λx=>by
  have ib:Kn.ah X b:=by rcases bd with⟨rfl,_⟩|⟨rfl,_⟩<;>assumption
  have fb:∀z,bh (λx=>x) (pairs X T) z b->f z=true:=λz q=>by
   rcases bd with⟨rfl,_⟩|⟨rfl,_⟩
   · rw[fc _ _ (J.sub q),fa]
   rw[fc _ _ (J.sub q),ye,fa]
  have apart:bh (λx=>x) (pairs X T) x b->¬bh (λx=>x) (pairs X T) x d:=λq r=>by
   rcases bd with⟨rfl,rfl⟩|⟨rfl,rfl⟩
   · exact J.ap (J.eq.trans (J.eq.symm q) r)
   exact J.ap (J.eq.trans (J.eq.symm r) q)
  by_cases p:1<=x/\x<=ag X+L
  · rw[h.AV ia ic far (inT b ib) p.1 p.2,aiv,<-hf]
    have two:(f x && !tr (bh (λx=>x) (pairs X T) x a) && !tr (bh (λx=>x) (pairs X T) x c))=(f x && !tr (bh (λx=>x) (pairs X T) x b) && !tr (bh (λx=>x) (pairs X T) x d)):=by
     rcases bd with⟨rfl,rfl⟩|⟨rfl,rfl⟩
     · rfl
     cases f x<;>cases tr (bh (λx=>x) (pairs X T) x d)<;>cases tr (bh (λx=>x) (pairs X T) x b)<;>rfl
    rw[two];unfold st;by_cases q:bh (λx=>x) (pairs X T) x b
    · rw[bf.2 q,br.2 (apart q),jk (Pc b x ib q p.1 p.2),fb x q];rfl
    rw[br.2 q];simp
  rw[out _ _ _ p]
  show false=(f x&&_)
  rw[fo x p];rfl
 have w0:f a=false->rL X L T (ig X L S T m (fB X T a) (fB X T c) [])=f:=λfa=>funext λx=>by
  by_cases p:1<=x/\x<=ag X+L
  · rw[h.AV ia ic far (λr hr=>by cases hr) p.1 p.2,<-hf]
    by_cases q:bh (λx=>x) (pairs X T) x a
    · have:f x=false:=by rw[fc _ _ (J.sub q),fa]
      rw[this];simp
    by_cases q':bh (λx=>x) (pairs X T) x c
    · have:f x=false:=by rw[fc _ _ (J.sub q'),ye,fa]
      rw[this];simp
    rw[br.2 q,br.2 q'];simp
  rw[out _ _ _ p,fo x p]
 rw[if_pos e,J.VB,<-hf];unfold Iz;cases fa:f a
 · simp only[jN,if_false,map_cons,map_nil,w0 fa];exact .refl _
 simp only[if_true,map_cons,map_nil,w1 a c (.inl ⟨rfl,rfl⟩) fa,w1 c a (.inr ⟨rfl,rfl⟩) fa];exact .swap _ _
end
def K8(p:Nat->Bool)(v:Nat):Nat:=(range v).countP p
section
variable {p:Nat->Bool}
theorem Dk(v:Nat):K8 p (v+1)=K8 p v+if p v then 1 else 0:=by unfold K8;rw[jO,List.countP_append,jG,countP_nil,zero_add]
theorem Dl{v:Nat}:∀{w:Nat},v<=w->K8 p v<=K8 p w
 |0,h=>by rw[show v=0 by omega];exact jH _
 |w+1,h=>by
  by_cases c:v=w+1
  · rw[c];exact jH _
  have:=Dl (v:=v) (w:=w) (by omega)
  rw[Dk];omega
theorem MV{v w:Nat}(h:v<=w)(hw:p w=true):K8 p v<K8 p (w+1):=by
 have:=Dl (p:=p) h
 rw[Dk,if_pos hw];omega
theorem Kj{m:Nat}:∀{N:Nat},1<=m->m<=K8 p N->∃v,v<N/\p v=true/\K8 p (v+1)=m
 |0,h1,h2=>by simp[K8]at h2;omega
 |N+1,h1,h2=>by
  by_cases c:m<=K8 p N
  · obtain⟨v,a,b⟩:=Kj h1 c
    exact⟨v,by omega,b⟩
  have k:=Dk (p:=p) N;by_cases d:p N=true
  · rw[if_pos d]at k;exact⟨N,by omega,d,by omega⟩
  rw[if_neg d]at k;omega
end
section
variable {X:List Cr} {gone:Nat->Bool}
theorem Ok.Eu(h:Ok X)(gone:Nat->Bool):∀k,k<=X.length->∃o,qf X (λp=>aq X p/\(p.1<k->gone p.1=false)) (bh (λx=>x) (bL X gone k)) o
 |0,_=>⟨other X,h.tied.congr (λp=>⟨λk=>k.1,λk=>⟨k,λq=>absurd q (by omega)⟩⟩) (λ_ _=>Iff.rfl) λ_ _=>rfl⟩
 |k+1,hk=>by
  obtain⟨o,T⟩:=h.Eu gone k (by omega);have hE:=aj (bL X gone k);by_cases g:gone k=true;rotate_left
  · refine⟨o,T.congr (λp=>?_) (λx y=>?_) λ_ _=>rfl⟩
    · constructor
      · rintro⟨h1,h2⟩;exact⟨h1,λq=>h2 (by omega)⟩
      rintro⟨h1,h2⟩;refine⟨h1,λq=>?_⟩;by_cases e:p.1=k
      · rw[e];simpa using g
      exact h2 (by omega)
    have e:bL X gone (k+1)=bL X gone k:=by
     show (if gone k then SN X (bL X gone k) k else bL X gone k)=_
     rw[if_neg g]
    rw[e]
  have pl:∀s,s<4->aq X (k,s)/\((k,s):Pl).1<X.length:=λs hs=>⟨⟨by show k<_;omega,hs⟩,by show k<_;omega⟩
  have lv:∀s,s<4->(aq X (k,s)/\(((k,s):Pl).1<k->gone ((k,s):Pl).1=false)):=λs hs=>⟨(pl s hs).1,λq=>absurd q (by show ¬k<k;omega)⟩
  have ho:=F7 (cr X k).p;have ho4:over (cr X k).p<4:=lT _;have m4:(over (cr X k).p+2)%4<4:=jQ _ (by omega);have s1:=T.step hE (u:=(k,0)) (v:=(k,2)) (lv 0 (by omega)) (lv 2 (by omega)) (rZ (pl 0 (by omega)).1)
  have s2:=s1.step (fw hE _ _) (u:=(k,over (cr X k).p)) (v:=(k,(over (cr X k).p+2)%4))
   ⟨lv _ ho4,λe=>by injection e with _ e;omega,λe=>by injection e with _ e;omega⟩ ⟨lv _ m4,λe=>by injection e with _ e;omega,λe=>by injection e with _ e;omega⟩ (rZ (pl _ ho4).1)
  refine⟨_,s2.congr (λp=>?_) (λx y=>?_) λ_ _=>rfl⟩
  · have key:aq X p->(p.1=k↔p=(k,0)\/p=(k,2)\/p=(k,over (cr X k).p)\/p=(k,(over (cr X k).p+2)%4)):=λhp=>by
     obtain⟨a,b⟩:=p;have hb:b<4:=hp.2;simp only[Prod.mk.injEq];omega
    constructor
    · rintro⟨h1,h2⟩
      have h3:¬p.1=k:=λe=>by have:=h2 (by omega);rw[e,g]at this;cases this
      rw[key h1]at h3;simp only[not_or]at h3;exact⟨⟨⟨h1,λq=>h2 (by omega)⟩,h3.1,h3.2.1⟩,h3.2.2.1,h3.2.2.2⟩
    rintro⟨⟨⟨h1,h2⟩,h3,h4⟩,h5,h6⟩;refine⟨h1,λq=>h2 ?_⟩
    have:¬p.1=k:=λe=>by
     rcases (key h1).1 e with e|e|e|e
     · exact h3 e
     · exact h4 e
     · exact h5 e
     exact h6 e
    omega
  have e:bL X gone (k+1)=SN X (bL X gone k) k:=by
   show (if gone k then SN X (bL X gone k) k else bL X gone k)=_
   rw[if_pos g]
  rw[e];exact Iff.rfl
abbrev cF(X:List Cr)(gone:Nat->Bool):Nat->Nat:=iq X gone X.length
theorem Ok.yh(h:Ok X)(gone:Nat->Bool):∃o,Cut X (bF X gone) (λi=>(kept X.length gone).getD i 0) (λa=>fC X (cF X gone) gone (cF X gone a)) (λp=>aq X p/\gone p.1=false) (bh (λx=>x) (bL X gone X.length)) o:=by
 obtain⟨o,T⟩:=h.Eu gone X.length (jH _);exact⟨o,BD h (h.j5 gone _ (jH _)) (aj _) (T.congr (λp=>⟨λk=>⟨k.1,λ_=>k.2⟩,λk=>⟨k.1,k.2 k.1.1⟩⟩) (λ_ _=>Iff.rfl) λ_ _=>rfl) λ_=>Iff.rfl⟩
def yQ(X:List Cr)(gone:Nat->Bool)(a:Nat):Bool:=decide (cF X gone (a+1)=a+1) && !gw X (cF X gone) gone (a+1)
def yF(X:List Cr)(gone:Nat->Bool)(L a:Nat):Nat:=
 if a<=ag X then(if gw X (cF X gone) gone (cF X gone a)then fC X (cF X gone) gone (cF X gone a)else ag (bF X gone)+L+K8 (yQ X gone) (cF X gone a))else a-ag X+ag (bF X gone)
theorem Iq:takeN X gone=K8 (yQ X gone) (ag X):=rfl
section
variable (h:Ok X) {L:Nat}
include h
theorem Ok.uj:M9 (cF X gone) (bh (λx=>x) (bL X gone X.length)):=h.j5 gone _ (jH _)
theorem Ok.M3(h1:1<=a):1<=cF X gone a/\cF X gone a<=a:=⟨(h.uj (gone:=gone)).pos a h1,(h.uj (gone:=gone)).le a⟩
theorem Ok.kg(h1:1<=a)(h2:a<=ag X)(hl:gw X (cF X gone) gone (cF X gone a)=true):yF X gone L a=fC X (cF X gone) gone (cF X gone a)/\1<=yF X gone L a/\yF X gone L a<=ag (bF X gone):=by
 have e:yF X gone L a=fC X (cF X gone) gone (cF X gone a):=by unfold yF;rw[if_pos h2,if_pos hl]
 obtain⟨p,p1,p2,p3⟩:=lD.1 hl;obtain⟨o,C⟩:=h.yh gone;have:=C.wN p ⟨p1,p2⟩;simp only[p3]at this
 rw[e];exact⟨rfl,this⟩
theorem Ok.l5(h1:1<=a)(h2:a<=ag X)(hl:gw X (cF X gone) gone (cF X gone a)=false):
 yF X gone L a=ag (bF X gone)+L+K8 (yQ X gone) (cF X gone a)/\1<=K8 (yQ X gone) (cF X gone a)/\K8 (yQ X gone) (cF X gone a)<=takeN X gone/\yQ X gone (cF X gone a-1)=true:=by
 have r:=h.M3 (gone:=gone) h1
 have q:yQ X gone (cF X gone a-1)=true:=by
  unfold yQ
  rw[show cF X gone a-1+1=cF X gone a by omega,(h.uj (gone:=gone)).idem,hl];simp
 have l:=MV (p:=yQ X gone) (v:=0) (w:=cF X gone a-1) (by omega) q;rw[show cF X gone a-1+1=cF X gone a by omega]at l;refine⟨by unfold yF;rw[if_pos h2,hl];rfl,by omega,?_,q⟩
 rw[Iq];exact Dl (by omega)
omit h in
theorem Ok.qm(h2:ag X<a):yF X gone L a=a-ag X+ag (bF X gone):=by unfold yF;rw[if_neg (by omega)]
theorem Ok.Xz(h1:1<=a)(h2:a<=ag X+L):1<=yF X gone L a/\yF X gone L a<=ag (bF X gone)+(L+takeN X gone):=by
 by_cases c:a<=ag X
 · cases hl:gw X (cF X gone) gone (cF X gone a)
   · have:=h.l5 (L:=L) h1 c hl;omega
   have:=h.kg (L:=L) h1 c hl;omega
 have:=Ok.qm (gone:=gone) (L:=L) (show ag X<a by omega);omega
theorem Ok.Nw{a b:Nat}(a1:1<=a)(a2:a<=ag X+L)(b1:1<=b)(b2:b<=ag X+L):yF X gone L a=yF X gone L b↔a=b\/(a<=ag X/\b<=ag X/\cF X gone a=cF X gone b):=by
 constructor
 · intro e
   by_cases c:a<=ag X<;>by_cases d:b<=ag X
   · right
     refine⟨c,d,?_⟩
     cases hl:gw X (cF X gone) gone (cF X gone a)<;>cases hl':gw X (cF X gone) gone (cF X gone b)
     · obtain⟨e1,_,_,q1⟩:=h.l5 (L:=L) a1 c hl
       obtain⟨e2,_,_,q2⟩:=h.l5 (L:=L) b1 d hl';have ra:=h.M3 (gone:=gone) a1;have rb:=h.M3 (gone:=gone) b1
       rcases Nat.lt_trichotomy (cF X gone a) (cF X gone b)with k|k|k
       · have:=MV (p:=yQ X gone) (v:=cF X gone a) (w:=cF X gone b-1) (by omega) q2
         rw[show cF X gone b-1+1=cF X gone b by omega]at this;omega
       · exact k
       have:=MV (p:=yQ X gone) (v:=cF X gone b) (w:=cF X gone a-1) (by omega) q1
       rw[show cF X gone a-1+1=cF X gone a by omega]at this;omega
     · have:=h.l5 (L:=L) a1 c hl;have:=h.kg (L:=L) b1 d hl';omega
     · have:=h.kg (L:=L) a1 c hl;have:=h.l5 (L:=L) b1 d hl';omega
     obtain⟨e1,_,_⟩:=h.kg (L:=L) a1 c hl;obtain⟨e2,_,_⟩:=h.kg (L:=L) b1 d hl'
     have root:∀x,gw X (cF X gone) gone (cF X gone x)=true->gh X (cF X gone) gone (cF X gone x)=true:=λx hx=>by
      unfold gh;rw[hx,(h.uj (gone:=gone)).idem];simp
     rcases Nat.lt_trichotomy (cF X gone a) (cF X gone b)with k|k|k
     · have:=xF k (root b hl');omega
     · exact k
     have:=xF k (root a hl);omega
   · have k:=Ok.qm (gone:=gone) (L:=L) (show ag X<b by omega)
     cases hl:gw X (cF X gone) gone (cF X gone a)
     · have:=h.l5 (L:=L) a1 c hl;omega
     have:=h.kg (L:=L) a1 c hl;omega
   · have k:=Ok.qm (gone:=gone) (L:=L) (show ag X<a by omega)
     cases hl:gw X (cF X gone) gone (cF X gone b)
     · have:=h.l5 (L:=L) b1 d hl;omega
     have:=h.kg (L:=L) b1 d hl;omega
   have k:=Ok.qm (gone:=gone) (L:=L) (show ag X<a by omega);have k':=Ok.qm (gone:=gone) (L:=L) (show ag X<b by omega)
   left;omega
 rintro(rfl|⟨c,d,e⟩)
 · rfl
 unfold yF;rw[if_pos c,if_pos d,e]
theorem Ok.Sv{q:Nat}(q1:1<=q)(q2:q<=ag (bF X gone)+(L+takeN X gone)):∃a,1<=a/\a<=ag X+L/\yF X gone L a=q:=by
 by_cases c:q<=ag (bF X gone)
 · obtain⟨o,C⟩:=h.yh gone
   have hA:=C.Og;obtain⟨e1,e2,e3⟩:=hA.end_ true q q1 c;have a1:=hA.bH (io:=true) (a:=q) ⟨q1,c⟩;rw[C.aa e1]at a1;have pl:=C.pl e1;have lv:=C.AB e1;have ia:=h.ah pl;have hl:gw X (cF X gone) gone (cF X gone (aa X (qE (λi=>(kept X.length gone).getD i 0) (aF (bF X gone) true q))))=true:=lD.2 ⟨_,pl,lv.2,rfl⟩;have:=h.kg (L:=L) ia.1 ia.2 hl;exact⟨_,ia.1,by have:=ia.2;omega,by rw[this.1];exact a1⟩
 by_cases d:q<=ag (bF X gone)+L
 · exact⟨q-ag (bF X gone)+ag X,by omega,by omega,by rw[Ok.qm (by omega)];omega⟩
 obtain⟨v,v1,v2,v3⟩:=Kj (p:=yQ X gone) (m:=q-ag (bF X gone)-L) (N:=ag X) (by omega) (by rw[<-Iq];omega);have v2':=v2;unfold yQ at v2';simp only[jp,jh,Bool.not_eq_true']at v2';refine⟨v+1,by omega,by omega,?_⟩;have:=h.l5 (L:=L) (a:=v+1) (by omega) (by omega) (by rw[v2'.1];exact v2'.2)
 rw[this.1,v2'.1,v3];omega
def pT(X:List Cr)(gone:Nat->Bool)(S:Nat->Bool):eW:=(kept X.length gone).flatMap (Aw X S)
omit h in
theorem mr:e∈pT X gone S↔∃k s,k<X.length/\gone k=false/\s<4/\aI s=S k/\e=(aa X (k,s),aa X (k,(s+1)%4)):=by
 unfold pT;rw[mem_flatMap];constructor
 · rintro⟨k,hk,m⟩
   obtain⟨s,h1,h2,h3⟩:=xJ.1 m;obtain⟨a,b⟩:=nY.1 hk;exact⟨k,s,a,b,h1,h2,h3⟩
 rintro⟨k,s,hk,g,h1,h2,h3⟩;exact⟨k,nY.2 ⟨hk,g⟩,xJ.2 ⟨s,h1,h2,h3⟩⟩
theorem Ok.FN(hi:i<(bF X gone).length)(hs:s<4):yF X gone L (aa X ((kept X.length gone).getD i 0,s))=aa (bF X gone) (i,s):=by
 obtain⟨o,C⟩:=h.yh gone;have e1:aq (bF X gone) (i,s):=⟨hi,hs⟩;rw[C.aa e1];have pl:=C.pl e1;have ia:=h.ah pl;exact(h.kg (L:=L) ia.1 ia.2 (lD.2 ⟨_,pl,(C.AB e1).2,rfl⟩)).1
theorem Ok.SR{S T:Nat->Bool}(hT:∀i,i<(bF X gone).length->T i=S ((kept X.length gone).getD i 0)){a b:Nat}(a1:1<=a)(a2:a<=ag X+L)(b1:1<=b)(b2:b<=ag X+L):
 bh (λx=>x) (pT X gone S++bL X gone X.length) a b↔bh (λx=>x) (pairs (bF X gone) T) (yF X gone L a) (yF X gone L b):=by
 have hE:=aj (pT X gone S++bL X gone X.length);have len:(bF X gone).length=(kept X.length gone).length:=fT
 have tie:∀x y,cF X gone x=cF X gone y->bh (λx=>x) (pT X gone S++bL X gone X.length) x y:=λx y e=>
  b9 (λe he=>aX (jx.2 (.inr he))) (((h.uj (gone:=gone)).iff x y).1 e)
 constructor
 · refine uZ λe he=>?_
   rcases jx.1 he with he|he
   · obtain⟨k,s,hk,g,hs,e1,rfl⟩:=mr.1 he
     obtain⟨i,hi,ei⟩:=xQ hk g;rw[<-len]at hi;have w1:=h.FN (L:=L) hi hs;have w2:=h.FN (L:=L) hi (jQ (s+1) (show 0<4 by omega));rw[ei]at w1 w2;simp only[w1,w2];exact cz hi hs (by rw[hT i hi,ei];exact e1)
   obtain⟨c,hc,g,k⟩:=eR.1 he
   have ie:∀s,s<4->aa X (c,s)<=ag X:=λs hs=>(h.ah (p:=(c,s)) ⟨hc,hs⟩).2
   have e1:cF X gone e.1=cF X gone e.2:=((h.uj (gone:=gone)).iff _ _).2 (aX he)
   have l1:e.1<=ag X/\e.2<=ag X:=by
    rcases k with rfl|rfl
    · exact⟨ie _ (lT _),ie _ (jQ _ (by omega))⟩
    exact⟨ie _ (by omega),ie _ (by omega)⟩
   have:yF X gone L e.1=yF X gone L e.2:=by unfold yF;rw[if_pos l1.1,if_pos l1.2,e1]
   rw[this];exact(aj _).refl _
 intro k
 have same:∀{x y},(1<=x/\x<=ag X+L)->(1<=y/\y<=ag X+L)->yF X gone L x=yF X gone L y->bh (λx=>x) (pT X gone S++bL X gone X.length) x y:=λ{x y} hx hy e=>by
  rcases (h.Nw hx.1 hx.2 hy.1 hy.2).1 e with rfl|⟨_,_,q⟩
  · exact hE.refl _
  exact tie x y q
 have main:=bN (R:=λu v=>u=v\/∃x y,(1<=x/\x<=ag X+L)/\(1<=y/\y<=ag X+L)/\yF X gone L x=u/\yF X gone L y=v/\bh (λx=>x) (pT X gone S++bL X gone X.length) x y)
  ⟨λ_=>.inl rfl,λ{u v} k=>k.imp symm λ⟨x,y,a,b,c,d,e⟩=>⟨y,x,b,a,d,c,hE.symm e⟩,λ{u v t} k l=>by
   rcases k with rfl|⟨x,y,a,b,c,d,e⟩
   · exact l
   · rcases l with rfl|⟨x',y',a',b',c',d',e'⟩
     · exact .inr ⟨x,y,a,b,c,d,e⟩
     exact .inr ⟨x,y',a,b',c,d',hE.trans e (hE.trans (same b a' (by rw[d,c'])) e')⟩⟩ (λ_=>.inl rfl) (es:=pairs (bF X gone) T) (λe he=>by
   obtain⟨i,s,hi,hs,e1,rfl⟩:=dX.1 he;have kl:=xP (X:=X) (gone:=gone) (by rw[<-len];exact hi);have i1:=h.ah (p:=((kept X.length gone).getD i 0,s)) ⟨kl.1,hs⟩;have i2:=h.ah (p:=((kept X.length gone).getD i 0,(s+1)%4)) ⟨kl.1,jQ _ (by omega)⟩
   refine .inr ⟨_,_,⟨i1.1,by have:=i1.2;omega⟩,⟨i2.1,by have:=i2.2;omega⟩,h.FN hi hs,h.FN hi (jQ _ (by omega)),aX (jx.2 (.inl (mr.2 ⟨_,s,kl.1,kl.2,hs,?_,rfl⟩)))⟩
   rw[<-hT i hi];exact e1) k
 rcases main with e|⟨x,y,hx,hy,e1,e2,m⟩
 · exact same ⟨a1,a2⟩ ⟨b1,b2⟩ e
 exact hE.trans (same ⟨a1,a2⟩ hx e1.symm) (hE.trans m (same hy ⟨b1,b2⟩ e2))
end
theorem Qv(n:Nat)(gone:Nat->Bool):kept (n+1) gone=kept n gone++if gone n then []else [n]:=by
 unfold kept;rw[jO,List.filter_append]
 cases h:gone n<;>simp[h]
theorem Ba{gone:Nat->Bool}:∀{n i:Nat},i<(kept n gone).length->(kept ((kept n gone).getD i 0) gone).length=i
 |0,i,h=>by simp[kept]at h
 |n+1,i,h=>by
  have e:=Qv n gone;by_cases c:i<(kept n gone).length
  · rw[e,jc,List.getElem?_append_left c,<-jc]
    exact Ba c
  rw[e]at h ⊢;cases g:gone n
  · rw[g]at h
    simp at h
    have:i=(kept n gone).length:=by omega
    subst this;simp
  rw[g]at h;simp at h;omega
theorem Ok.taken(h:Ok X)(hp:aJ X=true)(DS:aJ (bF X gone)=true)(L:Nat)(hO:∀o,O o->1<=o/\o<=ag X+L)
 (hf:∀l,l<X.length->(fx l=none↔gone l=false)) (out:∀a,1<=a->a<=ag X+L->O a\/∃o,O o/\o<=ag X/\a<=ag X/\cF X gone o=cF X gone a)
 (loc:∀S,(∀l b,l<X.length->fx l=some b->S l=b)->∀o o',O o->O o'->(bh (λx=>x) (pairs X S) o o'↔bh (λx=>x) (pT X gone S++bL X gone X.length) o o')):
 qT (Kn.eF X L) (Kn.eF (bF X gone) (L+takeN X gone)) O fx (λi=>(kept X.length gone).getD i 0) (λc=>(kept c gone).length) (yF X gone L):=by
 obtain⟨o,C⟩:=h.yh gone;have len:(bF X gone).length=(kept X.length gone).length:=fT;refine⟨C.Og.eF DS _,h.eF hp L,λk hk=>?_,λl hl e=>?_,⟨ag X+L+1,λo ho=>by have:=(hO o ho).2;omega⟩,λo ho=>h.Xz (hO o ho).1 (hO o ho).2,λq hq=>?_,λT hT o o' ho mH=>?_⟩
 · have hk:k<(kept X.length gone).length:=by rw[<-len];exact hk
   have:=xP (X:=X) hk;exact⟨this.1,(hf _ this.1).2 this.2,Ba hk⟩
 · have g:=(hf l hl).1 e
   obtain⟨i,hi,ei⟩:=xQ hl g;have:=Ba hi;rw[ei]at this;refine⟨?_,by simp only[this];exact ei⟩
   show (kept l gone).length<(bF X gone).length
   rw[this,len];exact hi
 · obtain⟨a,a1,a2,a3⟩:=h.Sv (L:=L) hq.1 hq.2
   rcases out a a1 a2 with k|⟨o,k1,k2,k3,k4⟩
   · exact⟨a,k,a3⟩
   exact⟨o,k1,by rw[<-a3];exact(h.Nw (hO o k1).1 (hO o k1).2 a1 a2).2 (.inr ⟨k2,k3,k4⟩)⟩
 refine Iff.trans ?_ (h.SR (L:=L) (S:=pX X.length fx (λc=>(kept c gone).length) T) (T:=T) (λi hi=>?_) (hO o ho).1 (hO o ho).2 (hO o' mH).1 (hO o' mH).2)
 · exact loc _ (λl b hl e=>x7 T hl e) o o' ho mH
 have hi:i<(kept X.length gone).length:=by rw[<-len];exact hi
 have kl:=xP (X:=X) hi;unfold pX;rw[if_pos kl.1,(hf _ kl.1).2 kl.2]
 show T i=T (kept ((kept X.length gone).getD i 0) gone).length
 rw[Ba hi]
end
def uJ(X:List Cr):Nat:=(range X.length).countP λk=>(cr X k).p
def ml(X:List Cr):Nat:=(range X.length).countP λk=>!(cr X k).p
noncomputable def Kh (X:List Cr) (L:Nat) (U:List El) (i:oP):Int:=hn U (eF X L).M ((eF X L).dg (-(ml X:Int)) ((uJ X:Int)-2*(ml X:Int))) i
theorem cw(k:Nat):aI ((s+k)%4)=if k%2=0 then aI s else !aI s:=by
 unfold aI;split
 · rw[jL];omega
 rw[<-decide_not,jL];omega
theorem Ap(q g:Nat->Bool):∀l:List Nat,l.countP q=(l.filter λx=>!g x).countP q+(l.filter g).countP q
 |[]=>rfl
 |a :: l=>by
  rw[jG,Ap q g l]
  cases h:g a<;>simp[h,jG]<;>omega
theorem CG{β:Type}(l:List Nat)(f:Nat->β):l.map f=(range l.length).map λi=>f (l.getD i 0):=by
 refine List.ext_getElem (by simp) λi h1 h2=>?_
 have h:i<l.length:=by simpa using h1
 simp only[List.getElem_map,List.getElem_range]
 rw[jc,je h];rfl
section
variable {X:List Cr} {gone:Nat->Bool}
theorem ry(q:Bool->Bool):((range X.length).countP λk=>q (cr X k).p)=((range (bF X gone).length).countP λk=>q (cr (bF X gone) k).p)+((range X.length).filter gone).countP λk=>q (cr X k).p:=by
 rw[Ap _ gone (range X.length)]
 congr 1
 have len:(bF X gone).length=(kept X.length gone).length:=fT
 show (kept X.length gone).countP _=_
 have e:(kept X.length gone).countP (λk=>q (cr X k).p)=((kept X.length gone).map λk=>q (cr X k).p).countP id:=by rw[List.countP_map];rfl
 rw[e,CG,List.countP_map,len]
 refine dH λi hi=>?_
 rw[jw]at hi
 show q (cr X ((kept X.length gone).getD i 0)).p=q (cr (bF X gone) i).p
 have:cr (bF X gone) i=(cr X ((kept X.length gone).getD i 0)).ren _:=wU hi
 rw[this];rfl
theorem JU{n c:Nat}(hc:c<n):(range n).filter (only c)=[c]:=by
 have:(range n).filter (only c)=(range n).filter λl=>l==c:=filter_congr λl _=>by unfold only;rw[jD];simp
 rw[this,filter_beq,jK.count,if_pos (jw.2 hc)];rfl
structure ir(X:List Cr)(c s:Nat):Prop where
 ok:Ok X
 hc:c<X.length
 hs:s<4
 e:aa X (c,s)=aa X (c,(s+1)%4)
section
variable {c s:Nat}
theorem ir.m4(_:ir X c s)(k:Nat):(s+k)%4<4:=jQ _ (by omega)
theorem ir.pl(h:ir X c s)(ht:t<4):aq X (c,t):=⟨h.hc,ht⟩
theorem ir.Zs(h:ir X c s)(hp:aq X p):aa X p=aa X (c,s)↔p=(c,s)\/p=(c,(s+1)%4):=by
 have o:other X (c,s)=(c,(s+1)%4):=by
  rcases (h.ok.p9 (h.pl h.hs) (h.pl (h.m4 1))).1 h.e with k|k
  · injection k with _ k
    have:=h.hs;omega
  exact k.symm
 constructor
 · intro k
   rcases (h.ok.p9 (h.pl h.hs) hp).1 k.symm with k|k
   · exact .inl k
   exact .inr (k.trans o)
 rintro(rfl|rfl)
 · rfl
 exact h.e.symm
theorem ir.ne2(h:ir X c s):aa X (c,(s+2)%4)≠aa X (c,s):=λe=>by
 have hs:=h.hs
 rcases (h.Zs (h.pl (h.m4 2))).1 e with k|k<;>(injection k with _ k;omega)
theorem ir.ne3(h:ir X c s):aa X (c,(s+3)%4)≠aa X (c,s):=λe=>by
 have hs:=h.hs
 rcases (h.Zs (h.pl (h.m4 3))).1 e with k|k<;>(injection k with _ k;omega)
theorem ir.yZ(h:ir X c s)(hk:k<X.length)(ht:t<4)(hne:k≠c):aa X (k,t)≠aa X (c,s):=λe=>by
 rcases (h.Zs (p:=(k,t)) ⟨hk,ht⟩).1 e with q|q<;>(injection q with q _;exact hne q)
theorem ir.four(h:ir X c s)(ht:t<4):t=s\/t=(s+1)%4\/t=(s+2)%4\/t=(s+3)%4:=by have:=h.hs;omega
def Uv(X:List Cr)(c s x:Nat):Nat:=if x=aa X (c,s)then aa X (c,(s+2)%4)else x
theorem lV(h:x≠aa X (c,s)):Uv X c s x=x:=if_neg h
theorem Uu:Uv X c s (aa X (c,s))=aa X (c,(s+2)%4):=if_pos rfl
theorem ir.cd(h:ir X c s){es:eW}(cd:bh (λx=>x) es (aa X (c,(s+2)%4)) (aa X (c,(s+3)%4))){t:Nat}(ht:t<4):bh (λx=>x) es (Uv X c s (aa X (c,t))) (aa X (c,(s+2)%4)):=by
 have hE:=aj es
 rcases h.four ht with e|e|e|e
 · rw[e,Uu];exact hE.refl _
 · rw[e,<-h.e,Uu];exact hE.refl _
 · rw[e,lV h.ne2];exact hE.refl _
 rw[e,lV h.ne3];exact hE.symm cd
theorem ir.F6(h:ir X c s)(e:S c=aI s):bh (λx=>x) (pairs X S) (aa X (c,(s+2)%4)) (aa X (c,(s+3)%4)):=by
 have:=cz (S:=S) h.hc (h.m4 2) (by rw[cw 2];exact e.symm)
 rwa [show ((s+2)%4+1)%4=(s+3)%4 by omega]at this
theorem ir.N7(h:ir X c s)(e:S c=!aI s):bh (λx=>x) (pairs X S) (aa X (c,s)) (aa X (c,(s+2)%4)):=by
 have:=cz (S:=S) h.hc (h.m4 1) (by rw[cw 1];exact e.symm)
 rwa [show ((s+1)%4+1)%4=(s+2)%4 by omega,<-h.e]at this
theorem ir.X4(h:ir X c s)(e:S c=!aI s):bh (λx=>x) (pairs X S) (aa X (c,(s+3)%4)) (aa X (c,s)):=by
 have hs:=h.hs;have:=cz (S:=S) h.hc (h.m4 3) (by rw[cw 3];exact e.symm)
 rwa [show ((s+3)%4+1)%4=s by omega]at this
theorem ir.RU(h:ir X c s){S T:Nat->Bool}(hS:S c=aI s)(hT:T c=!aI s)(off:∀k,k≠c->S k=T k)(hx:x≠aa X (c,s))(hy:y≠aa X (c,s)):
 bh (λx=>x) (pairs X S) x y↔bh (λx=>x) (pairs X T) x y:=by
 have hE:=aj (pairs X S);have sN:=aj (pairs X T);constructor
 · refine b9 λe he=>?_
   obtain⟨k,t,hk,ht,e1,rfl⟩:=dX.1 he;by_cases kc:k=c
   · subst kc
     rw[hS]at e1;have hs:=h.hs
     have tt:t=s\/t=(s+2)%4:=by
      unfold aI at e1;have:=jL.1 e1;omega
     rcases tt with rfl|rfl
     · simp only;rw[<-h.e];exact sN.refl _
     simp only
     rw[show ((s+2)%4+1)%4=(s+3)%4 by omega];exact sN.trans (sN.symm (h.N7 hT)) (sN.symm (h.X4 hT))
   exact cz hk ht (by rw[<-off k kc];exact e1)
 intro k
 have:=uZ (es':=pairs X S) (ρ:=Uv X c s) (λe he=>by
  obtain⟨k,t,hk,ht,e1,rfl⟩:=dX.1 he;by_cases kc:k=c
  · subst kc
    exact hE.trans (h.cd (h.F6 hS) ht) (hE.symm (h.cd (h.F6 hS) (jQ _ (by omega))))
  simp only
  rw[lV (h.yZ hk ht kc),lV (h.yZ hk (jQ _ (by omega)) kc)]
  exact cz hk ht (by rw[off k kc];exact e1)) k
 rwa [lV hx,lV hy]at this
theorem ir.knk(h:ir X c s)(hp:aJ X=true)(L:Nat):Kv (eF X L) c (aI s) (λx=>x=aa X (c,s)) (aa X (c,s)) where
 ok:=h.ok.eF hp L
 hj:=h.hc
 zz:=rfl
 zP:=λx hx=>by
  have:=h.ok.ah (h.pl h.hs)
  rw[hx];exact⟨this.1,by have:=this.2;omega⟩
 ring:=λS hS x y hx=>by
  subst hx;constructor
  · intro k
    have:=bN (R:=λx y=>x=aa X (c,s)↔y=aa X (c,s)) ⟨λ_=>Iff.rfl,λk=>k.symm,λk l=>k.trans l⟩ (λ_=>Iff.rfl) (λe he=>by
     obtain⟨k,t,hk,ht,e1,rfl⟩:=dX.1 he;by_cases kc:k=c
     · subst kc
       rw[hS]at e1;have hs:=h.hs
       have tt:t=s\/t=(s+2)%4:=by
        unfold aI at e1;have:=jL.1 e1;omega
       rcases tt with rfl|rfl
       · exact⟨λ_=>h.e.symm,λ_=>rfl⟩
       simp only
       rw[show ((s+2)%4+1)%4=(s+3)%4 by omega];exact⟨λk=>absurd k h.ne2,λk=>absurd k h.ne3⟩
     exact⟨λq=>absurd q (h.yZ hk ht kc),λq=>absurd q (h.yZ hk (jQ _ (by omega)) kc)⟩) k
    exact this.1 rfl
  rintro rfl;exact(aj _).refl _
 vH:=λS hS x hx=>by
  subst hx;exact⟨aa X (c,(s+2)%4),h.ne2,(aj _).symm (h.N7 hS)⟩
 RU:=λS hS x y hx hy=>by
  cases e:aI s
  · exact h.RU (by rw[hS,e]) (by rw[bK,e];rfl) (λk hk=>(az S hk).symm) hx hy
  exact(h.RU (by rw[bK,e]) (by rw[hS,e];rfl) (λk hk=>az S hk) hx hy).symm
theorem ir.taken(h:ir X c s)(hp:aJ X=true)(L:Nat):qT (eF X L) (eF (bF X (only c)) (L+takeN X (only c))) (λo=>(eF X L).P o/\¬o=aa X (c,s)) (λl=>if l=c then some (aI s)else none)
 (λi=>(kept X.length (only c)).getD i 0) (λd=>(kept d (only c)).length) (yF X (only c) L):=by
 have g:only c c=true:=jk rfl
 refine h.ok.taken hp ((h.ok.Ev h.hc h.hs h.e).2 hp) L (λo ho=>ho.1) (λl hl=>?_) (λa a1 a2=>?_) λS hS o o' ho mH=>?_
 · by_cases k:l=c
   · simp[k]
   simp[k]
 · by_cases k:a=aa X (c,s)
   · right
     have i2:=h.ok.ah (h.pl (h.m4 2));have il:=h.ok.ah (h.pl h.hs);refine⟨aa X (c,(s+2)%4),⟨⟨i2.1,by have:=i2.2;omega⟩,h.ne2⟩,i2.2,by rw[k];exact il.2,?_⟩;rw[k];exact((h.ok.uj (gone:=only c)).iff _ _).2 ((aj _).symm (dY h.hc g h.hs))
   exact .inl ⟨⟨a1,a2⟩,k⟩
 have hSc:S c=aI s:=hS c _ h.hc (by simp);have hE:=aj (pairs X S);have hF:=aj (pT X (only c) S++bL X (only c) X.length)
 have tie:∀t,t<4->bh (λx=>x) (pT X (only c) S++bL X (only c) X.length) (aa X (c,t)) (aa X (c,(t+2)%4)):=λt ht=>
  b9 (λe he=>aX (jx.2 (.inr he))) (dY h.hc g ht)
 constructor
 · refine b9 λe he=>?_
   obtain⟨k,t,hk,ht,e1,rfl⟩:=dX.1 he;by_cases kc:k=c
   · subst kc
     have all:∀t,t<4->bh (λx=>x) (pT X (only k) S++bL X (only k) X.length) (aa X (k,t)) (aa X (k,s)):=λt ht=>by
      rcases h.four ht with e|e|e|e
      · rw[e];exact hF.refl _
      · rw[e,<-h.e];exact hF.refl _
      · rw[e];exact hF.symm (tie s h.hs)
      have:=tie ((s+1)%4) (h.m4 1);rw[show ((s+1)%4+2)%4=(s+3)%4 by omega,<-h.e]at this
      rw[e];exact hF.symm this
     exact hF.trans (all t ht) (hF.symm (all _ (jQ _ (by omega))))
   exact aX (jx.2 (.inl (mr.2 ⟨k,t,hk,by simpa using kc,ht,e1,rfl⟩)))
 intro k
 have:=uZ (es':=pairs X S) (ρ:=Uv X c s) (λe he=>by
  rcases jx.1 he with he|he
  · obtain⟨k,t,hk,gk,ht,e1,rfl⟩:=mr.1 he
    have kc:k≠c:=by simpa using gk
    simp only
    rw[lV (h.yZ hk ht kc),lV (h.yZ hk (jQ _ (by omega)) kc)];exact cz hk ht e1
  obtain⟨d,hd,gd,m⟩:=eR.1 he
  have hd:d=c:=by simpa using gd
  subst hd
  have cd:=λ{t} (ht:t<4)=>h.cd (h.F6 hSc) ht
  rcases m with rfl|rfl
  · exact hE.trans (cd (lT _)) (hE.symm (cd (jQ _ (by omega))))
  exact hE.trans (cd (t:=0) (by omega)) (hE.symm (cd (t:=2) (by omega)))) k
 rwa [lV ho.2,lV mH.2]at this
theorem ir.sign(h:ir X c s):aI s=!(cr X c).p:=by
 have hs:=h.hs
 have o:other X (c,s)=(c,(s+1)%4):=by
  rcases (h.Zs (h.ok.aM (h.pl h.hs))).1 (h.ok.cK (h.pl h.hs))with k|k
  · have:=h.ok.dA (h.pl h.hs)
    rw[k]at this
    cases hh:cm X (c,s)<;>simp[hh]at this
  exact k
 have k:=h.ok.dA (h.pl h.hs);rw[o]at k;unfold cm Cr.comes at k;simp only at k
 have hs4:s=0\/s=1\/s=2\/s=3:=by omega
 rcases hs4 with rfl|rfl|rfl|rfl<;>cases OG:(cr X c).p<;>rw[OG]at k<;>simp[over,aI]at k ⊢
theorem ir.kh(h:ir X c s)(hp:aJ X=true)(L:Nat){U V:List El}(hU:(eF X L).All U)(hV:(eF (bF X (only c)) (L+takeN X (only c))).All V)(i:oP):
 Kh X L U i=Kh (bF X (only c)) (L+takeN X (only c)) V i:=by
 have k:=(h.knk hp L).hn (h.taken hp L) hU hV (-(ml X:Int)) ((uJ X:Int)-2*(ml X:Int)) i
 have a1:uJ X=uJ (bF X (only c))+_:=ry (X:=X) (gone:=only c) λb=>b
 have a2:ml X=ml (bF X (only c))+_:=ry (X:=X) (gone:=only c) λb=>!b
 rw[JU h.hc]at a1 a2;simp only[jG,countP_nil,zero_add]at a1 a2;have sg:=h.sign;unfold Kh;rw[k,sg];cases OG:(cr X c).p
 · rw[OG]at a1 a2
   simp only[Bool.not_false,if_true,jN,if_false]at a1 a2 ⊢;rw[show -(ml X:Int)+1 = -(ml (bF X (only c)):Int)by omega,show (uJ X:Int)-2*(ml X:Int)+2=(uJ (bF X (only c)):Int)-2*(ml (bF X (only c)):Int)by omega]
 rw[OG]at a1 a2;simp only[Bool.not_true,if_true,jN,if_false]at a1 a2 ⊢;rw[show -(ml X:Int)+0 = -(ml (bF X (only c)):Int)by omega,show (uJ X:Int)-2*(ml X:Int) + -1=(uJ (bF X (only c)):Int)-2*(ml (bF X (only c)):Int)by omega]
end
end
def two:List Pl.T:=[(2,-1),(-2,-1)]
def pw:Nat->List Pl.T
 |0=>[(0,1)]
 |k+1=>Pl.mul (pw k) two
theorem xu:∀k,Pl.size (pw k)=2 ^ k
 |0=>rfl
 |k+1=>by rw[pw,Pl.BU,xu k,Nat.pow_succ];rfl
theorem uF:∀k,∀t∈pw k,-(2*k:Int)<=t.1/\t.1<=2*k
 |0,t,h=>by simp[pw]at h;subst h;simp
 |k+1,t,h=>by
  simp only[pw,Pl.mul,mem_flatMap,jv]at h;obtain⟨s,hs,u,hu,rfl⟩:=h;have:=uF k s hs;simp only[two,jy,jz,or_false]at hu
  rcases hu with rfl|rfl<;>simp only<;>omega
def et(X:List Cr)(L st:Nat):Nat:=2*X.length+L-(ij (X.map qd) (start X.length) st).2
def kc(m r:Int):Int:=m*64+r
def xO(X:List Cr)(L st:Nat):Int×Int:=((X.length:Int)-2*(pop X.length st:Nat),(et X L st:Nat))
def sL(X:List Cr)(L st:Nat):Int:=kc (xO X L st).1 (xO X L st).2
def df(X:List Cr)(L k:Nat):List Pl.T:=(range k).map λst=>(sL X L st,1)
def EL(e c:Int):Int:=Pl.co (pw ((c%64).toNat-1)) (e-c / 64)
theorem rN(X:List Cr)(L k:Nat):df X L (k+1)=df X L k++[(sL X L k,1)]:=by simp[df,jO]
theorem Et(X:List Cr)(L k:Nat)(f:Int->Int):Pl.gF (df X L k) f=Iy (range k) λst=>f (sL X L st):=by
 induction k with
 |zero=>rfl
 |succ k ih=>
  rw[rN,Pl.wW,ih,jO,SX,Pl.bJ,Pl.gR];simp[Iy]
structure wL(n:Nat)(s:Rt):Prop where
 len:s.1.length=2*n+1
 wN:∀a,1<=a->a<=2*n->1<=rt s.1 a/\rt s.1 a<=2*n
 fix:∀a,1<=a->a<=2*n->rt s.1 (rt s.1 a)=rt s.1 a
 cnt:((range (2*n+1)).countP λa=>decide (1<=a)&&decide (rt s.1 a=a))+s.2=2*n
theorem NT(l:List Nat)(f:Nat->Nat)(h:a<l.length):rt (l.map f) a=f (rt l a):=by
 unfold rt
 rw[jc,jc,List.getElem?_map,je h];rfl
theorem qy(h:a<=2*n):rt (start n).1 a=a:=by
 unfold rt start
 rw[jc,je (by simp;omega)];simp
theorem wL.start(n:Nat):wL n (start n):=by
 refine⟨by simp[Kn.start],λa h1 h2=>by rw[qy h2];exact⟨h1,h2⟩,λa h1 h2=>by rw[qy h2,qy h2],?_⟩
 have e:∀m,m<=2*n->((range (m+1)).countP λa=>decide (1<=a)&&decide (rt (Kn.start n).1 a=a))=m:=by
  intro m
  induction m with
  |zero=>intro _;simp
  |succ m ih=>
   intro h;rw[jO,List.countP_append,ih (by omega),jG,countP_nil,qy h];simp
 rw[e _ (jH _)];rfl
theorem wL.un{n:Nat}{s:Rt}(h:wL n s){a b:Nat}(ha:1<=a)(ha':a<=2*n)(hb:1<=b)(hb':b<=2*n):wL n (un s a b):=by
 unfold Kn.un;split
 · exact h
 rename_i hne;have hl:=h.len;have ra:=h.wN a ha ha';have rb:=h.wN b hb hb';have fa:=h.fix a ha ha';have fb:=h.fix b hb hb'
 have e:∀x,x<=2*n->rt (s.1.map λz=>if z=rt s.1 a then rt s.1 b else z) x=if rt s.1 x=rt s.1 a then rt s.1 b else rt s.1 x:=λx hx=>NT _ _ (by omega)
 refine⟨by simpa using hl,λx h1 h2=>?_,λx h1 h2=>?_,?_⟩
 · show 1<=rt (s.1.map _) x/\_
   rw[e x h2];split
   · exact rb
   exact h.wN x h1 h2
 · show rt (s.1.map _) (rt (s.1.map _) x)=rt (s.1.map _) x
   rw[e x h2];by_cases c:rt s.1 x=rt s.1 a
   · rw[if_pos c,e _ rb.2,fb,if_neg λk=>hne k.symm]
   rw[if_neg c,e _ (h.wN x h1 h2).2,h.fix x h1 h2,if_neg c]
 show (List.countP (λx=>decide (1<=x)&&decide (rt (s.1.map _) x=x)) _)+(s.2+1)=2*n
 have hb2:=oy (l:=range (2*n+1)) jK (p:=λa=>decide (1<=a)&&decide (rt s.1 a=a)) (q:=λx=>decide (1<=x)&&decide (rt (s.1.map λz=>if z=rt s.1 a then rt s.1 b else z) x=x)) (x:=rt s.1 a)
  (jw.2 (by omega)) (by simp only[jp,jh];exact⟨ra.1,fa⟩) (λd hd=>by
   have wC:=jw.1 hd;rw[e d (by omega),jD];simp only[jp,jh];constructor
   · rintro⟨h1,h2⟩
     by_cases c:rt s.1 d=rt s.1 a
     · rw[if_pos c]at h2
       rw[<-h2,fb]at c;exact absurd c.symm hne
     rw[if_neg c]at h2;exact⟨⟨h1,h2⟩,λk=>c (by rw[h2,k])⟩
   rintro⟨⟨h1,h2⟩,h3⟩
   have c:¬rt s.1 d=rt s.1 a:=λk=>h3 (by rw[<-h2,k])
   rw[if_neg c]
   exact⟨h1,h2⟩)
 have:=h.cnt;omega
theorem wL.state{n:Nat}:∀{X:List Qd} {s:Rt} (_:wL n s) (_:∀q∈X,(1<=q.1/\q.1<=2*n)/\(1<=q.2.1/\q.2.1<=2*n)/\(1<=q.2.2.1/\q.2.2.1<=2*n)/\(1<=q.2.2.2/\q.2.2.2<=2*n)) (st:Nat),wL n (ij X s st)
 |[],_,h,_,_=>h
 |q :: X,s,h,hq,st=>by
  obtain⟨⟨a1,a2⟩,⟨b1,b2⟩,⟨c1,c2⟩,d1,d2⟩:=hq q (by simp);rw[ij]
  refine wL.state ?_ (λr hr=>hq r (by simp[hr])) _
  unfold unA;split
  · exact(h.un a1 a2 b1 b2).un c1 c2 d1 d2
  exact(h.un b1 b2 c1 c2).un d1 d2 a1 a2
theorem wL.lt{s:Rt}(h:wL n s)(hn:0<n):s.2<2*n:=by
 have h1:=h.wN 1 (jH _) (by omega);have h2:=h.fix 1 (jH _) (by omega)
 have:0<((range (2*n+1)).countP λa=>decide (1<=a)&&decide (rt s.1 a=a)):=by
  rw[List.countP_pos_iff];exact⟨rt s.1 1,jw.2 (by omega),by simp only[jp,jh];exact⟨h1.1,h2⟩⟩
 have:=h.cnt;omega
theorem Ok.Tt(hX:Ok X):∀q∈X.map qd,(1<=q.1/\q.1<=2*X.length)/\(1<=q.2.1/\q.2.1<=2*X.length)/\(1<=q.2.2.1/\q.2.2.1<=2*X.length)/\(1<=q.2.2.2/\q.2.2.2<=2*X.length):=by
 intro q hq;obtain⟨x,hx,rfl⟩:=jv.1 hq;obtain⟨k,hk,rfl⟩:=List.getElem_of_mem hx
 have e:cr X k=X[k]:=by unfold cr;rw[jc,je hk];rfl
 have h0:=hX.wN (k,0) ⟨hk,(by omega:(0:Nat)<4)⟩;have h1:=hX.wN (k,1) ⟨hk,(by omega:(1:Nat)<4)⟩;have h2:=hX.wN (k,2) ⟨hk,(by omega:(2:Nat)<4)⟩;have h3:=hX.wN (k,3) ⟨hk,(by omega:(3:Nat)<4)⟩;unfold at_ at h0 h1 h2 h3;simp only[e]at h0 h1 h2 h3;have f0:X[k].ie 0=X[k].a:=rfl;have f1:X[k].ie 1=X[k].b:=rfl;have f2:X[k].ie 2=X[k].c:=rfl;have f3:X[k].ie 3=X[k].d:=rfl
 rw[f0]at h0;rw[f1]at h1;rw[f2]at h2;rw[f3]at h3
 have hn:(ag X:Int)=2*X.length:=by unfold ag;omega
 rw[hn]at h0 h1 h2 h3;unfold qd
 refine⟨⟨?_,?_⟩,⟨?_,?_⟩,⟨?_,?_⟩,?_,?_⟩<;>simp only<;>omega
theorem Ok.EA(hX:Ok X)(L st:Nat)(h:0<X.length+L):1<=et X L st:=by
 unfold et;by_cases c:X.length=0
 · have:X=[]:=List.eq_nil_of_length_eq_zero c
   subst this
   simp[ij,start]at h ⊢;omega
 have:=(wL.state (wL.start X.length) hX.Tt st).lt (by omega);omega
end Go.Proofs.YtfplmbmenjdlhaaGreatDoor.Kn
