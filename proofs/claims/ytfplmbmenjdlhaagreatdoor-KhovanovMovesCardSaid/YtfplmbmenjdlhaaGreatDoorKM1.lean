/- Walks: Do, of what takes crossings out. -/
import Derived.Test.YtfplmbmenjdlhaaGreatDoorN13
namespace Go.Proofs.YtfplmbmenjdlhaaGreatDoor
open Go.RowKit
open Int (toNat_natCast)
open List (any_eq_true)
variable {Q:Exit->Act->World->Prop} {L N a:Int} {X Y:List Kn.Cr} {B n t:Nat} {W w:World}
def uu(o:Out)(w:World)(e:Ending)(w':World):Prop:=
 New w w'/\match o with
  |.no x=>e=.returned (.tuple #[.agg #[.slice none 0 0,.int .i64 0],.int .i64 x])
  |.ok Y L=>∃a c,e=.returned (.tuple #[.agg #[.slice a Y.length c,.int .i64 L],.int .i64 0])/\bV w' a Y/\∀ad,a=some ad->w.heap.size<=ad.block
theorem Aa{a:Value}(h:W.heap[B]?=some (.cells #[a] t (0,0))):W.cell? ⟨B,0,none⟩=some a/\W.frozen? ⟨B,0,none⟩=false:=by
 refine⟨cell_of_row _ _ 0 _ t (0,0) h,?_⟩;simp[World.frozen?,h]
theorem one_set{a:Value}(h:W.heap[B]?=some (.cells #[a] t (0,0)))(v:Value):(W.setCell ⟨B,0,none⟩ v).heap[B]?=some (.cells #[v] t (0,0)):=by
 unfold World.setCell;simp[Array.getElem?_modify,h]
theorem O6{cs:Array Value}(h:W.heap[B]?=some (.cells cs t (0,0))){j:Nat}{v:Value}(hc:W.cell? ⟨B,j,none⟩=some v):j<cs.size:=by
 have h1:=cell_of_row W B j cs t (0,0) h;rw[h1]at hc;exact(jf.1 hc).1
theorem bV.off{w':World}{B2 B3:Nat}{p q e:Value}{a:Option Addr}{Y:List Kn.Cr}(h:bV w a Y)(hR:w.heap[B2]?=some (.cells #[p,q] 24 (0,0)))(hE:w.heap[B3]?=some (.cells #[e] 30 (0,0)))(hF:Fr (λk=>k=B2\/k=B3) w w'):bV w' a Y:=by
 rcases h with h0|⟨g,o,h1,h2⟩
 · exact .inl h0
 refine .inr ⟨g,o,h1,λi hi=>hF.Kd (h2 i hi) ?_⟩
 have hc:=(h2 i hi).p;rintro(rfl|rfl)
 · have:=O6 hR hc
   simp at this;omega
 have:=O6 hE hc;simp at this
theorem FK{P:Program}{c:Code}{a:Act}(h:c.wp P (λe a' w'=>match e with | .normal=>Q .normal a' w' | _=>False) a w):c.wp P Q a w:=
 wp_mono h λe _ _ h=>by
  cases e
  case normal=>exact h
  all_goals exact h.elim
structure Sto(w:World)(B2 B3:Nat)(V1 V2 V3:Value):Prop where
 a1:∃p,w.cell? ⟨B2,0,none⟩=some p
 a2:w.frozen? ⟨B2,0,none⟩=false
 b1:∃p,(w.setCell ⟨B2,0,none⟩ V1).cell? ⟨B2,1,none⟩=some p
 b2:(w.setCell ⟨B2,0,none⟩ V1).frozen? ⟨B2,1,none⟩=false
 c1:∃p,((w.setCell ⟨B2,0,none⟩ V1).setCell ⟨B2,1,none⟩ V2).cell? ⟨B3,0,none⟩=some p
 c2:((w.setCell ⟨B2,0,none⟩ V1).setCell ⟨B2,1,none⟩ V2).frozen? ⟨B3,0,none⟩=false
 d1:(((w.setCell ⟨B2,0,none⟩ V1).setCell ⟨B2,1,none⟩ V2).setCell ⟨B3,0,none⟩ V3).cell? ⟨B2,0,none⟩=some V1
 d2:(((w.setCell ⟨B2,0,none⟩ V1).setCell ⟨B2,1,none⟩ V2).setCell ⟨B3,0,none⟩ V3).cell? ⟨B2,1,none⟩=some V2
 d3:(((w.setCell ⟨B2,0,none⟩ V1).setCell ⟨B2,1,none⟩ V2).setCell ⟨B3,0,none⟩ V3).cell? ⟨B3,0,none⟩=some V3
 fr:Fr (λk=>k=B2\/k=B3) w (((w.setCell ⟨B2,0,none⟩ V1).setCell ⟨B2,1,none⟩ V2).setCell ⟨B3,0,none⟩ V3)
theorem sto{B2 B3:Nat}{p q e:Value}(hR:w.heap[B2]?=some (.cells #[p,q] 24 (0,0)))(hE:w.heap[B3]?=some (.cells #[e] 30 (0,0)))(hne:¬B3=B2)(V1 V2 V3:Value):Sto w B2 B3 V1 V2 V3:=by
 have hb1:=(bD hR V1).1;have hb2:=(bD hb1 V2).2
 have hS:Fr (λk=>k=B2) w ((w.setCell ⟨B2,0,none⟩ V1).setCell ⟨B2,1,none⟩ V2):=by refine Fr.setCell (Fr.setCell (Fr.refl _ w) ?_ _) ?_ _<;>exact .inl rfl
 have hE2:=hS.blk hE hne;have hT:Fr (λk=>k=B3) ((w.setCell ⟨B2,0,none⟩ V1).setCell ⟨B2,1,none⟩ V2) (((w.setCell ⟨B2,0,none⟩ V1).setCell ⟨B2,1,none⟩ V2).setCell ⟨B3,0,none⟩ V3):=(Fr.refl (λk=>k=B3) _).setCell (.inl rfl) _
 have hb3:=hT.blk hb2 λe=>hne e.symm
 have hE3:=one_set hE2 V3;obtain⟨r0,_,r2,_⟩:=ay hR;obtain⟨_,s1,_,s3⟩:=ay hb1;obtain⟨t0,t1⟩:=Aa hE2;obtain⟨u0,u1,_,_⟩:=ay hb3;exact⟨⟨_,r0⟩,r2,⟨_,s1⟩,s3,⟨_,t0⟩,t1,u0,u1,(Aa hE3).1,(hS.mono λ_ h=>.inl h).trans (hT.mono λ_ h=>.inr h)⟩
def doO(X:List Kn.Cr)(L:Int)(o:Out):Out:=if Kn.gY X L&&Kn.aJ X then o else .no 7
open Kn
def Good(X:List Cr)(L:Int):Prop:=gY X L=true/\aJ X=true
theorem BM{gone:Nat->Bool}(hg:Good X L)(h1:Ok (bF X gone)/\(aJ X=true->aJ (bF X gone)=true))(h2:(kept X.length gone).length<X.length)(h:iz X L gone=.ok Y N):Good Y N/\Y.length<X.length:=by
 unfold iz at h;split at h
 · rename_i ME
   cases h;have wO:=gX hg.1
   have hL:0<=L:=by
    have h3:=hg.1;unfold gY at h3;simp only[jp,jh]at h3;exact h3.1.1.1.2
   have hlen:=yO (X:=X) gone;refine⟨⟨?_,h1.2 hg.2⟩,by omega⟩;have h4:=(Ct _).2 h1.1;unfold gY;simp only[jp,jh,Bool.not_eq_true',Bool.and_eq_false_iff,jF];refine⟨⟨⟨⟨by omega,by omega⟩,ME⟩,?_⟩,h4⟩;by_cases c:(bF X gone).length=0
   · right
     have:=wO.1.PH gone (by omega) (List.length_eq_zero_iff.1 c);omega
   exact .inl c
 cases h
theorem JW(hX:Ok X){d e:Dt}(hf:[d,e]∈aA X):Kn.ah X d.1/\Kn.ah X e.1/\left X d=e/\left X e=d:=by
 have hp:=fK hX;have hd:Kn.ah X d.1:=bW.1 (hp.mem_iff.1 (List.mem_flatten.2 ⟨_,hf,by simp⟩));have he:Kn.ah X e.1:=bW.1 (hp.mem_iff.1 (List.mem_flatten.2 ⟨_,hf,by simp⟩));have Gy:(aA X).flatten.Nodup:=hp.nodup_iff.2 (pI X)
 have hde:d≠e:=by
  have:=(List.pairwise_flatten.1 Gy).1 _ hf;simp at this;exact this
 have hm:[pk (head X d),pk (head X e)]∈(aA X).map (List.map λd=>pk (head X d)):=jv.2 ⟨_,hf,rfl⟩;have key:=hX.ug _ hm
 have inj:∀{a b:Dt},Kn.ah X a.1->Kn.ah X b.1->pk (head X a)=pk (head X b)->a=b:=λha hb h=>hX.tX ha hb (eP (hX.bg ha).2 (hX.bg hb).2 h)
 have agB:∀{x:Dt},Kn.ah X x.1->cW (ye X) (pk (head X x)) (pk (head X (left X x))):=λ{x} hx=>⟨1,hX.gL hx⟩
 have m1:left X d=d\/left X d=e:=by
  have:=(key _ (by simp) _).2 (agB hd)
  rcases jy.1 this with h|h
  · exact .inl (inj (hX.dD hd) hd h)
  exact .inr (inj (hX.dD hd) he (jB.1 h))
 have m2:left X e=d\/left X e=e:=by
  have:=(key _ (by simp) _).2 (agB he)
  rcases jy.1 this with h|h
  · exact .inl (inj (hX.dD he) hd h)
  exact .inr (inj (hX.dD he) he (jB.1 h))
 have m3:left X d≠d:=λh=>by
  have anY:∀n,it (ye X) n (pk (head X d))=pk (head X d):=λn=>by
   induction n with
   |zero=>rfl
   |succ n ih=>
    have h2:=hX.gL hd;rw[h]at h2
    first
     |(show ye X (it (ye X) n _)=_;rw[ih,h2])
     |(show it (ye X) n (ye X _)=_;rw[h2,ih])
  have:=(key (pk (head X d)) (by simp) (pk (head X e))).1 (by simp);obtain⟨n,hn⟩:=this;rw[anY n]at hn;exact hde (inj hd he hn)
 have h1:=m1.resolve_left m3;refine⟨hd,he,h1,m2.resolve_right λh=>?_⟩;have a1:=hX.gL hd;have a2:=hX.gL he;rw[h1]at a1;rw[h]at a2;have:=hX.pZ.inj _ _ (a1.trans a2.symm);exact hde (inj hd he this)
theorem uy(hX:Ok X){d:Dt}(hd:Kn.ah X d.1):head X ((left X d).1,!(left X d).2)=((head X d).1,((head X d).2+3)%4):=by
 have hq:aq X ((head X d).1,((head X d).2+3)%4):=dt (hX.bg hd) 3;have:=hX.mK hq
 show aF X (!!(cm X ((head X d).1,((head X d).2+3)%4))) (aa X ((head X d).1,((head X d).2+3)%4))=_
 rw[Bool.not_not];exact this
theorem Fv(x y:Nat):both x y=both y x:=by funext d;simp[Bool.or_comm]
theorem Sz{c:Nat}(hg:Good X L)(h:Hh X L c=.ok Y N):Good Y N/\Y.length<X.length:=by
 unfold Hh at h;split at h
 · rename_i hc
   split at h
   · rename_i U8
     have GG:c<X.length:=by
      unfold oT at hc;simp only[jp,jh]at hc;omega
     simp only[toNat_natCast]at h U8;unfold De at U8;rw[any_eq_true]at U8;obtain⟨s,hs,hcs⟩:=U8
     refine BM hg ((gX hg.1).1.Ev GG (jw.1 hs) (jl hcs)) ?_ h
     have:=Qw (n:=X.length) GG;omega
   cases h
 cases h
theorem Lv{a b:Nat}(hg:Good X L)(h:jW X L a b=.ok Y N):Good Y N/\Y.length<X.length:=by
 unfold jW at h;split at h
 · rename_i hc
   split at h
   · rename_i hf
     simp only[jp,jh]at hc;obtain⟨⟨ha,hb⟩,hab⟩:=hc
     have JN:a<X.length:=by unfold oT at ha;simp only[jp,jh]at ha;omega
     have hbl:b<X.length:=by unfold oT at hb;simp only[jp,jh]at hb;omega
     have hne:a≠b:=λe=>hab (by rw[e])
     simp only[toNat_natCast]at h;have hX:=(gX hg.1).1;rw[any_eq_true]at hf;obtain⟨f,Mx,hf2⟩:=hf
     match f,Mx,hf2 with
     |[d,e],Mx,hf2=>
      obtain⟨hd,he,h1,h2⟩:=JW hX Mx;obtain⟨b1,b2⟩:=hX.Kq hd h1 h2;have t1:=uy hX hd;have t2:=uy hX he;rw[h1]at t1;rw[h2]at t2;unfold vt at hf2;simp only[t1,t2,jp,Bool.or_eq_true,jh]at hf2;have hxl:(head X e).1<X.length:=(hX.bg he).1;have hyl:(head X d).1<X.length:=(hX.bg hd).1;have hs4:((head X e).2+3)%4<4:=jQ _ (by omega)
      have zm:(head X e).1≠(head X d).1:=by omega
      have oB:other X ((head X e).1,(((head X e).2+3)%4+1)%4)=((head X d).1,((head X d).2+3)%4):=by
       have h4:=(hX.bg he).2;rw[show (((head X e).2+3)%4+1)%4=(head X e).2 by omega];exact b2
      have hk:=hX.BL hxl hyl zm hs4 (hX.bg hd).2 b1 oB
      have mP:both a b=both (head X e).1 (head X d).1:=by
       rcases hf2.1 with h|h
       · rw[show (head X e).1=a by omega,show (head X d).1=b by omega]
       rw[show (head X e).1=b by omega,show (head X d).1=a by omega,Fv]
      rw[<-mP]at hk
      refine BM hg hk ?_ h
      have:=Qz (n:=X.length) JN hbl hne;omega
   cases h
 cases h
open Kn
theorem kI:AG X a=true↔ah X a.toNat/\0<=a:=by
 unfold AG ah;simp only[jp,jh];omega
def Ad(L a:Int):Bool:=decide (a=0)&&decide (0<L)
def Zm(b:Int):Bool:=decide (0<=b)&&decide (b<=3)
def O2(X:List Cr)(L a b:Int):List Cr:=if Ad L a then O0 X (decide (2<=b)) (decide (b%2=1))else J9 X a.toNat (decide (2<=b)) (decide (b%2=1))
def O1(L a:Int):Int:=if Ad L a then L-1 else L
def sQ(X:List Cr)(L a b:Int):Out:=
 if (AG X a||Ad L a)&&Zm b then(if X.length<16 then .ok (O2 X L a b) (O1 L a)else .no 2)else .no 3
def OU(X:List Cr)(u v:Dt):Bool:=(aA X).any λf=>decide (u∈f)&&decide (v∈f)
def nU(X:List Cr)(L u v:Int)(ub vb ov:Bool):Out:=
 if AG X u&&AG X v then(if decide (u≠v)&&OU X (u.toNat,ub) (v.toNat,vb)then(if X.length+2<=16 then .ok (iZ X (u.toNat,ub) (v.toNat,vb) ov) L else .no 2)else .no 8)else .no 3
def mJ(X:List Cr)(i:Int):List Dt:=(aA X).getD i.toNat []
def kB(X:List Cr)(L i:Int):Out:=
 if decide (0<=i)&&decide (i<((aA X).length:Int))then(if dS X (mJ X i)then .ok (aN X ((mJ X i).map (·.1))) L else .no 8)else .no 3
theorem Good.b(h:Good X L):Ok X/\X.length<=16/\0<=L/\L<=16:=by
 have h1:=gX h.1;have h2:=h.1;unfold gY at h2;simp only[jp,jh]at h2;exact⟨h1.1,h1.2,h2.1.1.1.2,h2.1.1.2⟩
theorem Bi(h:Ok X)(hl:X.length<=16)(hn:0<X.length)(l1:0<=L)(l2:L<=16)(hp:aJ X=true):Good X L:=by
 refine⟨?_,hp⟩;have h4:=(Ct _).2 h;unfold gY;simp only[jp,jh,Bool.not_eq_true',Bool.and_eq_false_iff,jF];exact⟨⟨⟨⟨by omega,by omega⟩,by omega⟩,.inl (by omega)⟩,h4⟩
theorem J8(h:∃s,s<4/\at_ Y (n,s)=at_ Y (n,(s+1)%4)):De Y n=true:=by
 obtain⟨s,hs,e⟩:=h;unfold De;rw[any_eq_true];refine⟨s,jw.2 hs,?_⟩;unfold aa
 rw[e];simp
theorem Bb(h:n<Y.length):oT Y (n:Nat)=true:=by
 unfold oT;simp;omega
theorem MP{L N a b:Int}(hg:Good X L)(h:sQ X L a b=.ok Y N):Good Y N/\Hh Y N (X.length:Nat)=.ok X L:=by
 obtain⟨hX,hl,l1,l2⟩:=hg.b;unfold sQ at h;split at h
 · rename_i hc
   split at h
   · rename_i ME
     injection h with e1 e2
     subst e1 e2;rw[jp,Bool.or_eq_true]at hc;unfold O2 O1;by_cases lp:Ad L a=true
     · rw[if_pos lp,if_pos lp]
       unfold Ad at lp;simp only[jp,jh]at lp;have hO:=VE (X:=X) (decide (2<=b)) (decide (b%2=1));generalize O0 X (decide (2<=b)) (decide (b%2=1))=Y at hO ⊢;obtain⟨t1,t2⟩:=hO.take hX;refine⟨Bi (hO.ok hX) (by rw[hO.len];omega) (by rw[hO.len];omega) (by omega) (by omega) (hO.pS hX hg.2),?_⟩;unfold Hh;rw[if_pos (Bb (by rw[hO.len];omega)),toNat_natCast,if_pos (J8 hO.Me)];unfold iz;rw[t1,t2,if_pos (by omega),show L-1+((1:Nat):Int)=L by omega]
     rw[if_neg lp,if_neg lp];have ha:=kI.1 (hc.1.resolve_right lp);have hO:=VF hX ha.1 (decide (2<=b)) (decide (b%2=1));generalize J9 X a.toNat (decide (2<=b)) (decide (b%2=1))=Y at hO ⊢;obtain⟨t1,t2⟩:=hO.take hX ha.1;refine⟨Bi (hO.ok hX ha.1) (by rw[hO.len];omega) (by rw[hO.len];omega) (by omega) (by omega) (hO.pS hX ha.1 hg.2),?_⟩;unfold Hh;rw[if_pos (Bb (by rw[hO.len];omega)),toNat_natCast,if_pos (J8 hO.Me)];unfold iz;rw[t1,t2,if_pos (by omega),show L+((0:Nat):Int)=L by omega]
   cases h
 cases h
theorem Lu{u v:Int}{ub vb ov:Bool}(hg:Good X L)(h:nU X L u v ub vb ov=.ok Y N):Good Y N/\jW Y N (X.length:Nat) ((X.length+1:Nat):Int)=.ok X L:=by
 obtain⟨hX,hl,l1,l2⟩:=hg.b;unfold nU at h;split at h
 · rename_i hc
   split at h
   · rename_i hf
     split at h
     · rename_i ME
       injection h with e1 e2
       subst e1 e2;rw[jp]at hc;have hu:=kI.1 hc.1;have hv:=kI.1 hc.2;rw[jp,jh]at hf
       have hne:u.toNat≠v.toNat:=by omega
       have hO:=Tw (u:=(u.toNat,ub)) (v:=(v.toNat,vb)) hX hu.1 hv.1 hne ov;have anq:=Tu (u.toNat,ub) (v.toNat,vb) ov;obtain⟨f,Mx,hf2⟩:=any_eq_true.1 hf.2;simp only[jp,jh]at hf2;have ho:=(hX.GL Mx hf2.1 hv.1).1 hf2.2;generalize iZ X (u.toNat,ub) (v.toNat,vb) ov=Y at hO ⊢;obtain⟨t1,t2⟩:=hO.take;obtain⟨g,DT,d,e,rfl,hd,hov⟩:=hO.VW anq;have hlen:=hO.len;refine⟨Bi hO.ok (by omega) (by omega) l1 l2 (hO.pS ho hg.2),?_⟩;unfold jW
       rw[Bb (by omega),Bb (by omega),toNat_natCast,toNat_natCast]
       have hn:decide (((X.length:Nat):Int)≠((X.length+1:Nat):Int))=true:=by simp;omega
       rw[hn,if_pos (show (true&&true&&true)=true from rfl),if_pos]
       · unfold iz
         rw[t1,t2,if_pos (by omega),show L+((0:Nat):Int)=L by omega]
       rw[any_eq_true];refine⟨_,DT,?_⟩;unfold vt
       simp only
       rw[jp];refine⟨?_,hov⟩
       rcases hd with⟨d1,d2⟩|⟨d1,d2⟩
       · rw[d1,d2];simp
       rw[d1,d2];simp
     cases h
   cases h
 cases h
theorem IC{i:Int}(hg:Good X L)(h:kB X L i=.ok Y N):Good Y N/\Y.length=X.length/\N=L/\0<=i/\i<((aA X).length:Int) /\
 ∃k,k<(aA Y).length/\kB Y N (k:Nat)=.ok X L/\((aA Y).getD k []).length=3/\∀d∈(aA Y).getD k [],∃e∈mJ X i,e.1=d.1:=by
 obtain⟨hX,hl,l1,l2⟩:=hg.b;unfold kB at h;split at h
 · rename_i hc
   split at h
   · rename_i hs
     injection h with e1 e2
     subst e1 e2;simp only[jp,jh]at hc
     have hi:i.toNat<(aA X).length:=by omega
     have hf:mJ X i∈aA X:=by
      unfold mJ;rw[jc,je hi];exact jM hi
     obtain⟨k1,k2,f',hf',R7,hd,hb⟩:=Lp hX hf hs;have hlen:=bR X ((mJ X i).map (·.1));generalize aN X ((mJ X i).map (·.1))=Y at k1 k2 hf' R7 hb hlen ⊢
     have Mr:0<X.length:=by
      obtain⟨d,wC⟩:=List.exists_mem_of_ne_nil _ (uf X _ hf);have:=hX.fQ hf wC;have:=this.1;have:=(hX.fQ hf wC).2;unfold ag at this;omega
     obtain⟨k,hk,e⟩:=List.mem_iff_getElem.1 hf'
     have eg:(aA Y).getD k []=f':=by rw[jc,je hk];exact e
     refine⟨Bi k1 (by omega) (by omega) l1 l2 (k2 hg.2),hlen,rfl,hc.1,hc.2,k,hk,?_,?_,?_⟩
     · unfold kB mJ
       rw[toNat_natCast,eg,if_pos (by simp;omega),if_pos R7,hb]
     · rw[eg]
       unfold dS at R7;simp only[jp,jh]at R7;exact R7.1.1.1
     rw[eg];exact hd
   cases h
 cases h
open Kn
def zR(X:List Cr)(L:Nat)(Y:List Cr)(N:Nat):Prop:=∀U V,(eF X L).All U->(eF Y N).All V->∀i,Kh X L U i=Kh Y N V i
theorem zR.symm{X Y:List Cr}{L N:Nat}(h:zR X L Y N):zR Y N X L:=λU V hU hV i=>(h V U hV hU i).symm
section
variable {X Y:List Cr} {L N:Int}
theorem aac(hg:Good X L)(h:Hh X L a=.ok Y N)(hX:Ok X):zR X L.toNat Y N.toNat:=by
 have hL:=hg.b.2.2.1;unfold Hh at h;split at h
 · rename_i hc
   split at h
   · rename_i U8
     have GG:a.toNat<X.length:=by
      unfold oT at hc;simp only[jp,jh]at hc;omega
     unfold De at U8;rw[any_eq_true]at U8;obtain⟨s,hs,hcs⟩:=U8;have k:ir X a.toNat s:=⟨hX,GG,jw.1 hs,jl hcs⟩;unfold iz at h;split at h
     · injection h with e1 e2
       subst e1 e2;intro U V hU hV i;rw[show (L+(takeN X (only a.toNat):Nat)).toNat=L.toNat+takeN X (only a.toNat)by omega]at hV ⊢;exact k.kh hg.2 L.toNat hU hV i
     cases h
   cases h
 cases h
theorem NZ{a b:Int}(hg:Good X L)(h:jW X L a b=.ok Y N)(hX:Ok X):zR X L.toNat Y N.toNat:=by
 have hL:=hg.b.2.2.1;unfold jW at h;split at h
 · rename_i hc
   split at h
   · rename_i hf
     simp only[jp,jh]at hc;obtain⟨⟨ha,hb⟩,hab⟩:=hc
     have JN:a.toNat<X.length/\0<=a:=by unfold oT at ha;simp only[jp,jh]at ha;omega
     have hbl:b.toNat<X.length/\0<=b:=by unfold oT at hb;simp only[jp,jh]at hb;omega
     rw[any_eq_true]at hf;obtain⟨f,Mx,hf2⟩:=hf
     match f,Mx,hf2 with
     |[d,e],Mx,hf2=>
      obtain⟨hd,he,h1,h2⟩:=JW hX Mx;obtain⟨b1,b2⟩:=hX.Kq hd h1 h2;have t1:=uy hX hd;have t2:=uy hX he;rw[h1]at t1;rw[h2]at t2;unfold vt at hf2;simp only[t1,t2,jp,Bool.or_eq_true,jh]at hf2;have pe:=hX.bg he;have pd:=hX.bg hd;have hs4:((head X e).2+3)%4<4:=jQ _ (by omega)
      have zm:(head X e).1≠(head X d).1:=by omega
      have oB:other X ((head X e).1,(((head X e).2+3)%4+1)%4)=((head X d).1,((head X d).2+3)%4):=by
       have h4:=pe.2;rw[show (((head X e).2+3)%4+1)%4=(head X e).2 by omega];exact b2
      have par:aI (((head X e).2+3)%4)=aI (head X d).2:=by
       have ends:∀c:Dt,mj X c.1=true->(head X c).2%2=1/\(head X (c.1,!c.2)).2%2=1:=λc ho=>by
        unfold mj at ho;simp only[jp,jh]at ho;have e1:head X c=aF X (!c.2) c.1:=rfl;have e2:head X (c.1,!c.2)=aF X (!(!c.2)) c.1:=rfl;rw[e1,e2]
        cases c.2 with
        |false=>exact⟨ho.1,ho.2⟩
        |true=>exact⟨ho.2,ho.1⟩
       have q1:=pe.2;have q2:=pd.2
       rcases hf2.2 with⟨q,_⟩|⟨_,q⟩
       · have:=ends d q
         rw[t2]at this;simp only at this;unfold aI
         rw[jL];omega
       have:=ends e q;rw[t1]at this;simp only at this;unfold aI
       rw[jL];omega
      have big:kK X (head X e).1 (head X d).1 (((head X e).2+3)%4) (head X d).2:=⟨hX,pe.1,pd.1,zm,hs4,pd.2,b1,oB,par⟩
      have mP:both a.toNat b.toNat=both (head X e).1 (head X d).1:=by
       rcases hf2.1 with h|h
       · rw[show (head X e).1=a.toNat by omega,show (head X d).1=b.toNat by omega]
       rw[show (head X e).1=b.toNat by omega,show (head X d).1=a.toNat by omega,Fv]
      unfold iz at h;split at h
      · injection h with e1 e2
        subst e1 e2;intro U V hU hV i;rw[show (L+(takeN X (both a.toNat b.toNat):Nat)).toNat=L.toNat+takeN X (both a.toNat b.toNat)by omega]at hV ⊢;rw[mP]at hV ⊢;exact big.kh hg.2 L.toNat hU hV i
      cases h
   cases h
 cases h
theorem XC(hg:Good X L)(h:Hh X L a=.ok Y N):Good Y N:=by
 by_cases ha:0<=a
 · obtain⟨c,rfl⟩:∃c:Nat,a=(c:Int):=⟨a.toNat,by omega⟩
   exact(Sz hg h).1
 unfold Hh oT at h;rw[jm ha]at h;cases h
theorem P0{a b:Int}(hg:Good X L)(h:jW X L a b=.ok Y N):Good Y N:=by
 by_cases ha:0<=a
 · by_cases hb:0<=b
   · obtain⟨c,rfl⟩:∃c:Nat,a=(c:Int):=⟨a.toNat,by omega⟩
     obtain⟨d,rfl⟩:∃c:Nat,b=(c:Int):=⟨b.toNat,by omega⟩
     exact(Lv hg h).1
   unfold jW oT at h;rw[jm hb]at h;simp at h
 unfold jW oT at h;rw[jm ha]at h;cases h
def WX(X:List Cr)(L k x y u v:Int)(ub vb ov:Bool):Out:=
 if k=1 then sQ X L x y else if k=2 then Hh X L x else if k=3 then nU X L u v ub vb ov else if k=4 then jW X L x y else if k=5 then kB X L x else .no 6
theorem agR{k x y u v:Int}{ub vb ov:Bool}(hg:Good X L)(hX:Ok X)(h:WX X L k x y u v ub vb ov=.ok Y N):Good Y N/\(Ok Y->zR X L.toNat Y N.toNat):=by
 unfold WX at h;split at h
 · obtain⟨h1,h2⟩:=MP hg h
   exact⟨h1,λhY=>(aac h1 h2 hY).symm⟩
 split at h
 · exact⟨XC hg h,λ_=>aac hg h hX⟩
 split at h
 · obtain⟨h1,h2⟩:=Lu hg h
   exact⟨h1,λhY=>(NZ h1 h2 hY).symm⟩
 split at h
 · exact⟨P0 hg h,λ_=>NZ hg h hX⟩
 split at h
 · have h1:=IC hg h
   refine⟨h1.1,λ_=>?_⟩;unfold kB at h;split at h
   · rename_i hc
     split at h
     · rename_i hs
       injection h with e1 e2
       subst e1 e2;simp only[jp,jh]at hc
       have hf:mJ X x∈aA X:=by
        unfold mJ;rw[jc,je (by omega:x.toNat<(aA X).length)];exact jM _
       intro U V hU hV i;exact hX.Uy hg.2 hf hs h1.1.2 L.toNat hU hV i
     cases h
   cases h
 cases h
end
end Go.Proofs.YtfplmbmenjdlhaaGreatDoor
