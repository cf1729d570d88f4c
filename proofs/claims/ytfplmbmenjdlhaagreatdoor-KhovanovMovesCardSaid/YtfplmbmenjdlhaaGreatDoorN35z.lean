/- What the map of a slide tells: plain mathematics. -/
import Derived.Test.YtfplmbmenjdlhaaGreatDoorN34
namespace Go.Proofs.YtfplmbmenjdlhaaGreatDoor
open Kn
open Go.Proofs.Tryz (prog)
variable {es:Array MapEntry} {sn:Array Nat} {DD:DataW Unit} {f:Kn.Pl->Option Nat} {X Z:List Kn.Cr} {xs:List Value} {mb:Nat} {D:Nat->Kn.Dt} {v:Value} {W:World}
def Az(X:List Cr)(f:Pl->Option Nat)(e:Nat):Pl->Option Nat:=
 vg (vg (vg (vg f (oM X e) (aa X (AH (fH X e)))) (AH (oM X e)) e) (AH (fH X e)) e) (fH X e) (aa X (AH (oM X e)))
def sT(X:List Cr)(es:List Nat):Pl->Option Nat:=es.foldl (Az X) λ_=>none
theorem Qj(X:List Cr)(es:List Nat)(e:Nat):sT X (es++[e])=Az X (sT X es) e:=by unfold sT;rw[List.foldl_append];rfl
section
variable {X:List Cr} {D:Nat->Dt} {es:List Nat}
theorem Yc(h:di X D)(i:Nat)(f:Pl->Option Nat)(p:Pl):Az X f (D i).1 p=if Ay X (D i).1 p then some (aa X (vR X (D i).1 p))else f p:=by
 have ha:=h.ie i;have a1:aa X (oM X (D i).1)=(D i).1:=h.ok.bH (io:=true) ha;have a2:aa X (fH X (D i).1)=(D i).1:=h.ok.bH (io:=false) ha;have e5:aK X D (i+2) (3+2)=aK X D (i+2) 1:=h.gW rfl (by omega)
 have n:∀{i j k l},(i%3≠j%3\/k%4≠l%4)->aK X D i k≠aK X D j l:=λc e=>by
  have:=h.I9 e;omega
 have d1:AH (oM X (D i).1)≠oM X (D i).1/\AH (fH X (D i).1)≠oM X (D i).1/\AH (fH X (D i).1)≠AH (oM X (D i).1)/\fH X (D i).1≠oM X (D i).1/\fH X (D i).1≠AH (oM X (D i).1)/\fH X (D i).1≠AH (fH X (D i).1):=by
  rcases h.ends i with⟨e1,e2⟩|⟨e1,e2⟩<;>rw[e1,e2,di.Rq,di.Rq,e5]
  · exact⟨n (by omega),n (by omega),n (by omega),n (by omega),n (by omega),n (by omega)⟩
  exact⟨n (by omega),n (by omega),n (by omega),n (by omega),n (by omega),n (by omega)⟩
 obtain⟨n1,n2,n3,n4,n5,n6⟩:=d1;unfold Az vg;by_cases c1:p=fH X (D i).1
 · have ho:Ay X (D i).1 p:=.inr (.inr (.inr c1))
   rw[if_pos c1,if_pos ho,c1];unfold vR;rw[if_neg n4,if_neg n5,if_neg n6]
 rw[if_neg c1];by_cases c2:p=AH (fH X (D i).1)
 · have ho:Ay X (D i).1 p:=.inr (.inr (.inl c2))
   rw[if_pos c2,if_pos ho,c2];unfold vR;rw[if_neg n2,if_neg n3,if_pos rfl,a1]
 rw[if_neg c2];by_cases c3:p=AH (oM X (D i).1)
 · have ho:Ay X (D i).1 p:=.inr (.inl c3)
   rw[if_pos c3,if_pos ho,c3];unfold vR;rw[if_neg n1,if_pos rfl,a2]
 rw[if_neg c3];by_cases c4:p=oM X (D i).1
 · have ho:Ay X (D i).1 p:=.inl c4
   rw[if_pos c4,if_pos ho,c4];unfold vR;rw[if_pos rfl]
 have ho:¬Ay X (D i).1 p:=by
  unfold Ay;rintro(k|k|k|k)
  · exact c4 k
  · exact c3 k
  · exact c2 k
  exact c1 k
 rw[if_neg c4,if_neg ho]
theorem C8(h:di X D)(p:Pl):∀(es:List Nat) (f:Pl->Option Nat),(∀e∈es,∃i,e=(D i).1) ->
 (∀e∈es,Ay X e p->es.foldl (Az X) f p=some (aa X (vR X e p)))/\((∀e∈es,¬Ay X e p)->es.foldl (Az X) f p=f p)
 |[],f,_=>⟨(λe he=>by cases he),λ_=>rfl⟩
 |a :: es,f,hs=>by
  obtain⟨i,hi⟩:=hs a (by simp)
  have ih:=C8 h p es (Az X f a) λe he=>hs e (by simp[he])
  have hstep:=Yc h i f p;rw[<-hi]at hstep;refine⟨λe he ho=>?_,λhn=>?_⟩
  · by_cases c:∃e'∈es,Ay X e' p
    · obtain⟨e',Hn,mH⟩:=c
      have:e=e':=by
       obtain⟨j,rfl⟩:=hs e he;obtain⟨k,rfl⟩:=hs e' (by simp[Hn]);rw[h.mod (h.uniq ho mH)]
      rw[List.foldl_cons,this];exact ih.1 e' Hn mH
    have hn:∀e'∈es,¬Ay X e' p:=λe' Hn mH=>c ⟨e',Hn,mH⟩
    rw[List.foldl_cons,ih.2 hn,hstep]
    rcases jy.1 he with rfl|he
    · rw[if_pos ho]
    exact absurd ho (hn e he)
  rw[List.foldl_cons,ih.2 λe he=>hn e (by simp[he]),hstep,if_neg (hn a (by simp))]
theorem Lm(h:di X D)(he:kO D es){Z:List Cr}(hl:Z.length=X.length)(hp:∀c,c<X.length->(cr Z c).p=(cr X c).p)
 (hz:∀p,aq X p->at_ Z p=match sT X es p with|some v=>((v:Nat):Int)|none=>at_ X p):Z=aN X es:=by
 have hs:∀e∈es,∃i,e=(D i).1:=λe k=>(he e).1 k
 refine Gn (by rw[hl,bR]) λc hc=>MR (λs k=>?_) ?_
 · rw[bR]at hc
   have hpl:aq X (c,s):=⟨hc,k⟩
   show at_ Z (c,s)=at_ (aN X es) (c,s)
   rw[hz _ hpl,gU hpl]
   by_cases q:∃e∈es,Ay X e (c,s)
   · obtain⟨e,Hn,ho⟩:=q
     have h1:=(C8 h (c,s) es (λ_=>none) hs).1 e Hn ho;have h2:sT X es (c,s)=some (aa X (vR X e (c,s))):=h1;obtain⟨i,rfl⟩:=hs e Hn;have h3:=h.Im he i ho;rw[h2,<-h3];exact h.ok.cT (h.tu he hpl)
   have hn:∀e∈es,¬Ay X e (c,s):=λe k o=>q ⟨e,k,o⟩
   have h2:sT X es (c,s)=none:=(C8 h (c,s) es (λ_=>none) hs).2 hn;rw[h2,BI hn]
 rw[bR]at hc;rw[hp c hc,nD hc]
theorem Yd(hX:Ok X):∀(es:List Nat),(∀e∈es,ah X e)->∀p v,sT X es p=some v->aq X p/\ah X v:=by
 have key:∀(es:List Nat) (f:Pl->Option Nat),(∀p v,f p=some v->aq X p/\ah X v)->(∀e∈es,ah X e)->∀p v,es.foldl (Az X) f p=some v->aq X p/\ah X v:=λes=>by
  induction es with
  |nil=>exact λf hf _ p v h=>hf p v h
  |cons a es ih=>
   intro f hf hs p v h;rw[List.foldl_cons]at h
   refine ih (Az X f a) (λq u hq=>?_) (λe he=>hs e (by simp[he])) p v h
   have ha:=hs a (by simp);have p1:aq X (oM X a):=hX.aD (io:=true) ha;have p2:aq X (fH X a):=hX.aD (io:=false) ha;have p3:aq X (AH (oM X a)):=dt p1 2;have p4:aq X (AH (fH X a)):=dt p2 2;unfold Az vg at hq;split at hq
   · rename_i c;cases hq;exact⟨c ▸ p2,hX.ah p3⟩
   split at hq
   · rename_i c;cases hq;exact⟨c ▸ p4,ha⟩
   split at hq
   · rename_i c;cases hq;exact⟨c ▸ p3,ha⟩
   split at hq
   · rename_i c;cases hq;exact⟨c ▸ p1,hX.ah p4⟩
   exact hf q u hq
 exact λes hs p v h=>key es (λ_=>none) (λ_ _ h=>by cases h) hs p v h
end
open Go.RowKit
theorem BW.UB{D:Nat}{w w':World}{b s:Nat}{fv:Value}{bi bo:Nat}{L:Int}{ck:Nat}(h:BW D w b s fv v bi bo X Z L)(hF:Fr (λk=>k=mb) w w')(yJ:w.heap[mb]?=some (.map es ck)):BW D w' b s fv v bi bo X Z L:=by
 have hn:∀{B t:Nat} {cs:Array Value},w.heap[B]?=some (.cells cs t (0,0))->¬B=mb:=λhb e=>by subst e;rw[hb]at yJ;cases yJ
 refine⟨hF.blk h.blk (hn h.blk),hF.blk h.FW (hn h.FW),hF.owns h.own (λk hk e=>by subst e;exact cM h.own yJ _ hk rfl),hF.row h.ri ?_,hF.row h.ro ?_,h.ne,h.lb,h.ls⟩
 · obtain⟨cs,h1,_⟩:=h.ri;exact hn h1
 obtain⟨cs,h1,_⟩:=h.ro;exact hn h1
structure Zu(D:Nat)(w W:World)(b s:Nat)(fv v:Value)(bi bo:Nat)(X:List Kn.Cr)(L:Int)(mb n:Nat)(F:Kn.Pl->Option Nat):Prop where
 bw:BW D W b s fv v bi bo X X L
 now:iX W mb n F
 new:New w W
 lm:w.heap.size<=mb
section
variable {D:Nat} {w W W':World} {b s:Nat} {fv v:Value} {bi bo:Nat} {X:List Kn.Cr} {L:Int} {mb n n':Nat} {F F':Kn.Pl->Option Nat}
theorem Zu.nw(h:Zu D w W b s fv v bi bo X L mb n F)(k:New W W'):Zu D w W' b s fv v bi bo X L mb n F:=⟨h.bw.new k,h.now.fr k λx=>x,h.new.trans k,h.lm⟩
theorem Zu.upd(h:Zu D w W b s fv v bi bo X L mb n F)(hn:iX W' mb n' F')(hF:Fr (λk=>k=mb) W W'):Zu D w W' b s fv v bi bo X L mb n' F':=by
 obtain⟨es,ck,hb⟩:=h.now.block;exact⟨h.bw.UB hF hb,hn,h.new.next hF λi hi=>.inr (by rw[hi];exact h.lm),h.lm⟩
end
def u7(W:World)(b s nC nO lW qK lQ qo:Nat):Prop:=W.cell? ⟨b,0,none⟩=some (.pointer (some ⟨s,0,none⟩))/\W.cell? ⟨nC,0,none⟩=some (.int .i64 (lW:Nat))/\W.cell? ⟨nC,1,none⟩=some (.int .i64 (qK:Nat))/\W.cell? ⟨nO,0,none⟩=some (.int .i64 (lQ:Nat))/\W.cell? ⟨nO,1,none⟩=some (.int .i64 (qo:Nat))
structure M7(D:Nat)(w W:World)(b s:Nat)(fv v:Value)(bi bo:Nat)(X:List Kn.Cr)(L:Int)(mb n:Nat)(F:Kn.Pl->Option Nat)(nC nO lW qK lQ qo:Nat):Prop where
 sv:Zu D w W b s fv v bi bo X L mb n F
 b10:W.heap[nC]?=some (.cells #[.int .i64 (lW:Nat),.int .i64 (qK:Nat)] 158 (0,0))
 b11:W.heap[nO]?=some (.cells #[.int .i64 (lQ:Nat),.int .i64 (qo:Nat)] 158 (0,0))
section
variable {D:Nat} {w W W':World} {b s:Nat} {fv v:Value} {bi bo:Nat} {X:List Kn.Cr} {L:Int} {mb n n':Nat} {F F':Kn.Pl->Option Nat} {nC nO lW qK lQ qo:Nat}
theorem M7.now(h:M7 D w W b s fv v bi bo X L mb n F nC nO lW qK lQ qo):iX W mb n F:=h.sv.now
theorem M7.new(h:M7 D w W b s fv v bi bo X L mb n F nC nO lW qK lQ qo)(k:New W W'):M7 D w W' b s fv v bi bo X L mb n F nC nO lW qK lQ qo:=⟨h.sv.nw k,k.blk h.b10 λx=>x,k.blk h.b11 λx=>x⟩
theorem M7.upd(h:M7 D w W b s fv v bi bo X L mb n F nC nO lW qK lQ qo)(hn:iX W' mb n' F')(hF:Fr (λk=>k=mb) W W'):M7 D w W' b s fv v bi bo X L mb n' F' nC nO lW qK lQ qo:=by
 obtain⟨es,ck,hb⟩:=h.sv.now.block
 have hne:∀{B t:Nat} {cs:Array Value},W.heap[B]?=some (.cells cs t (0,0))->¬B=mb:=λhB e=>by subst e;rw[hB]at hb;cases hb
 exact⟨h.sv.upd hn hF,hF.blk h.b10 (hne h.b10),hF.blk h.b11 (hne h.b11)⟩
theorem M7.PN(h:M7 D w W b s fv v bi bo X L mb n F nC nO lW qK lQ qo):u7 W b s nC nO lW qK lQ qo:=by
 obtain⟨k0,k1,_⟩:=ay h.b10;obtain⟨q0,q1,_⟩:=ay h.b11;exact⟨(ay h.sv.bw.blk).1,k0,k1,q0,q1⟩
theorem M7.part(h:M7 D w W b s fv v bi bo X L mb n F nC nO lW qK lQ qo)(hF:Fr (λk=>k=mb) W W'):u7 W' b s nC nO lW qK lQ qo:=by
 obtain⟨es,ck,hb⟩:=h.sv.now.block
 have hne:∀{B t:Nat} {cs:Array Value},W.heap[B]?=some (.cells cs t (0,0))->¬B=mb:=λhB e=>by subst e;rw[hB]at hb;cases hb
 obtain⟨k0,k1,_⟩:=ay (hF.blk h.b10 (hne h.b10));obtain⟨q0,q1,_⟩:=ay (hF.blk h.b11 (hne h.b11));exact⟨(ay (hF.blk h.sv.bw.blk (hne h.sv.bw.blk))).1,k0,k1,q0,q1⟩
end
def aka(w:World)(lW qK lQ qo:Nat)(s10 s11:Value)(wx:World):Prop:=∃nC nO,s10=.pointer (some ⟨nC,0,none⟩)/\s11=.pointer (some ⟨nO,0,none⟩)/\New w wx/\wx.heap[nC]?=some (.cells #[.int .i64 (lW:Nat),.int .i64 (qK:Nat)] 158 (0,0))/\wx.heap[nO]?=some (.cells #[.int .i64 (lQ:Nat),.int .i64 (qo:Nat)] 158 (0,0))
open Go.RowKit
open Go.Maps (Keyed)
structure Zt(X Z:List Kn.Cr)(f:Kn.Pl->Option Nat)(left:Lit->Bool):Prop where
 len:Z.length=X.length
 fl:∀c,c<X.length->(Kn.cr Z c).p=(Kn.cr X c).p
 lay:∀p kl,Kn.aq X p->keyOf prog 158 (Hj p)=some kl->Kn.at_ Z p=match f p with|some v=>if left kl then Kn.at_ X p else((v:Nat):Int)|none=>Kn.at_ X p
theorem Zt.start(X:List Kn.Cr)(hd:Dz DD f):Zt X X f (Go.Maps.has DD):=⟨rfl,λ_ _=>rfl,λp kl _ hk=>by
 have h:=hd.has p kl hk
 cases e:f p with
 |none=>rfl
 |some v=>rw[e]at h;show Kn.at_ X p=if Go.Maps.has DD kl then _ else _;rw[h];rfl⟩
theorem Zt.step{left:Lit->Bool}(h:Zt X Z f left){p:Kn.Pl}{kl:Lit}{v:Nat}(hk:keyOf prog 158 (Hj p)=some kl)(hp:Kn.aq X p)(hv:f p=some v):
 Zt X (Kn.oQ Z p (v:Nat)) f (λz=>left z && !z.sameKey kl):=by
 have hpz:Kn.aq Z p:=⟨by rw[h.len];exact hp.1,hp.2⟩;refine⟨by rw[Kn.iH,h.len],λc hc=>?_,λq k hq OJ=>?_⟩
 · rw[<-h.fl c hc,Kn.GR hpz]
   split
   · rename_i e;subst e;exact Kn.Tc _ _ _
   rfl
 rw[Kn.yy hpz hq.2];by_cases e:q=p
 · subst e
   rw[hk]at OJ;cases OJ
   rw[if_pos rfl,hv]
   show ((v:Nat):Int)=if (left kl && !kl.sameKey kl)=true then _ else _
   rw[Go.WideAt.sameKey_self (Tryz.og.key hk)];simp
 rw[if_neg e,h.lay q k hq OJ]
 have ne:¬k=kl:=λe'=>e (N2 (Tryz.og.inj (e' ▸ OJ) hk))
 show _=match f q with|some v=>if (left k && !k.sameKey kl)=true then _ else _|none=>_
 rw[Go.Maps.sameKey_ne ne];simp
theorem Zt.done{es:List Nat}{left:Lit->Bool}(h:Zt X Z (sT X es) left)(hl:∀kl,left kl=false)(ht:Kn.di X D)(he:Kn.kO D es)(ME:X.length<=16):Z=Kn.aN X es:=by
 refine Lm ht he h.len h.fl λp hp=>?_
 obtain⟨kl,hk⟩:=I8 p (jT hp.1 ME) hp.2;rw[h.lay p kl hp hk]
 cases sT X es p with
 |none=>rfl
 |some v=>show (if left kl=true then _ else _)=_;rw[hl kl];rfl
structure SlW(D:Nat)(w W:World)(b s:Nat)(fv v:Value)(bi bo:Nat)(X Z:List Kn.Cr)(L:Int)(mb r n:Nat)(F:Kn.Pl->Option Nat)(DD:DataW Unit)(left:Lit->Bool)(cnt:Nat):Prop where
 bw:BW D W b s fv v bi bo X Z L
 z:Zt X Z F left
 rg:W.ranges prog 158 (plainElem prog 3) mb r n DD left cnt
 now:Dz DD F
 sub:∀kl,left kl=true->Go.Maps.has DD kl=true
 fr:Fr (λk=>D<=k) w W
 lr:D<=r
theorem EC{S:Nat->Prop}{W':World}{r n:Nat}{left:Lit->Bool}{cnt:Nat}(h:W.ranges prog 158 (plainElem prog 3) mb r n DD left cnt)(hF:Fr S W W')(h1:¬S mb)(h2:¬S r):W'.ranges prog 158 (plainElem prog 3) mb r n DD left cnt:=by
 have k1:=h.owns.lt;have k2:=h.lt;obtain⟨es,clock,since,seen,c0,hb,F,hs,hD,hr,rest⟩:=h;exact⟨es,clock,since,seen,c0,(hF.block mb k1 h1).trans hb,F,hs,hD,(hF.block r k2 h2).trans hr,rest⟩
theorem xC{base e sz n r:Nat}{o:Option Nat}{a c:Nat}(h:W.ownsRow base e sz v n xs)(hm:W.heap[r]?=some (.mapIter o a sn c)):∀k,v.ownBlock=some k->¬k=r:=by
 intro k hk e';subst e';obtain⟨o,ho,hc⟩:=nG h k hk;rw[hm]at ho
 cases ho;cases hc
section
variable {D:Nat} {w W W':World} {b s:Nat} {fv v:Value} {bi bo:Nat} {X Z:List Kn.Cr} {L:Int} {mb r n:Nat} {F:Kn.Pl->Option Nat} {DD:DataW Unit} {left:Lit->Bool} {cnt:Nat}
theorem BW.Qy{o:Option Nat}{a c:Nat}(h:BW D W b s fv v bi bo X Z L)(hF:Fr (λk=>k=r) W W')(hr:W.heap[r]?=some (.mapIter o a sn c)):BW D W' b s fv v bi bo X Z L:=by
 have hn:∀{B t:Nat} {cs:Array Value},W.heap[B]?=some (.cells cs t (0,0))->¬B=r:=λhb e=>by subst e;rw[hb]at hr;cases hr
 refine⟨hF.blk h.blk (hn h.blk),hF.blk h.FW (hn h.FW),hF.owns h.own (λk hk e=>by subst e;exact xC h.own hr _ hk rfl),hF.row h.ri ?_,hF.row h.ro ?_,h.ne,h.lb,h.ls⟩
 · obtain⟨cs,h1,_⟩:=h.ri;exact hn h1
 obtain⟨cs,h1,_⟩:=h.ro;exact hn h1
theorem SlW.turn(h:SlW D w W b s fv v bi bo X Z L mb r n F DD left cnt)(hF:Fr (λk=>k=r) W W'):BW D W' b s fv v bi bo X Z L/\Fr (λk=>D<=k) w W':=by
 obtain⟨es,clock,since,seen,c0,_,_,_,_,hr,_⟩:=h.rg;exact⟨h.bw.Qy hF hr,h.fr.trans (hF.mono λk e=>by rw[e];exact h.lr)⟩
end
theorem Lt{base e sz m:Nat}{g c N:Nat}{W':World}{r n:Nat}{left:Lit->Bool}{cnt:Nat}(h:W.ranges prog 158 (plainElem prog 3) mb r n DD left cnt)(ho:W.ownsRow base e sz (.slice (some ⟨g,0,none⟩) N c) m xs)(hF:Fr (λk=>k=g) W W'):W'.ranges prog 158 (plainElem prog 3) mb r n DD left cnt:=by
 refine EC h hF (λe=>?_) (λe=>?_)
 · obtain⟨es,clock,_,_,_,hb,_⟩:=h
   exact cM ho hb g rfl e.symm
 obtain⟨es,clock,since,seen,c0,_,_,_,_,hr,_⟩:=h;exact xC ho hr g rfl e.symm
section
variable {w:World} {ops:Array Oper} {rest:List Oper} {o:Oper} {a:Act} {Q:Exit->Act->World->Prop}
theorem Av(hg:o.guard=none)(it:Operand)(hop:o.op=Op.next it false)(mb r n:Nat)(DD:DataW Unit)(f:Kn.Pl->Option Nat)(left:Lit->Bool)(cnt:Nat)
 (hit:a.eval it=.pointer (some ⟨r,0,none⟩)) (h:w.ranges prog 158 (plainElem prog 3) mb r n DD left cnt) (hd:Dz DD f) (Gx:∀kl,left kl=true->Go.Maps.has DD kl=true)
 (hDone:(∀kl,left kl=false)->wpList prog ops Q rest (a.put o.dst (.tuple #[.bool false])) w)
 (hMore:∀(pc ps v:Nat) (kl:Lit) (w':World) (cnt':Nat),keyOf prog 158 (Hj (pc,ps))=some kl->f (pc,ps)=some v->w'.ranges prog 158 (plainElem prog 3) mb r n DD (λz=>left z && !z.sameKey kl) cnt'->cnt'<cnt ->
  Fr (λk=>k=r) w w'->(Instr.entry (.pointer (some ⟨r,0,none⟩))).run prog w'=.ok (.tuple #[.agg #[.int .i64 (pc:Nat),.int .i64 (ps:Nat)],.int .i64 (v:Nat)]) w' ->
  wpList prog ops Q rest (a.put o.dst (.tuple #[.bool true,.agg #[.int .i64 (pc:Nat),.int .i64 (ps:Nat)],.int .i64 (v:Nat)])) w'):
 wpList prog ops Q (o :: rest) a w:=by
 refine wpList_next_ranges w hg it hop 158 Tryz.og (plainElem prog 3) id id (λkey _ _=>⟨key,rfl⟩) (λv _ _=>⟨v,rfl⟩) mb r n DD left cnt hit h (λ_ hl=>hDone hl) ?_
 intro x c kl y w' cnt' hk hl hR hat hrg hlt hgr _ hen;obtain⟨⟨pc,ps⟩,uT,hs⟩:=hd.key kl (Gx kl hl);obtain⟨v,hv⟩:=Option.isSome_iff_exists.1 hs;have ex:x=Hj (pc,ps):=Tryz.og.inj hk uT;obtain⟨cc,ec,ey,_⟩:=plainElem_int_inv Tryz.underlying3 hR;have e1:=hat (.lit (.int .i64 0));rw[hd.val _ kl v uT hv,ey]at e1
 have e2:((v:Nat):Int)=cc:=by cases e1;rfl
 have ec':c=.int .i64 (v:Nat):=by rw[e2];exact ec
 subst ex ec';exact hMore pc ps v kl w' cnt' uT hv hrg hlt ⟨hgr.os,hgr.tape,hgr.output,hgr.size,λi hi hne=>hgr.block i hi (λe=>hne (Option.some.inj e))⟩ hen
end
end Go.Proofs.YtfplmbmenjdlhaaGreatDoor
