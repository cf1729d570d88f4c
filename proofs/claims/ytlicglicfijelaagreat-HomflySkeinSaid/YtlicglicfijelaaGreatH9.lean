/- What curls, pushes and slides make is planar, and goes back: plain mathematics. -/
import Derived.Test.YtlicglicfijelaaGreatN17m
import Derived.Test.YtlicglicfijelaaGreatMAll
import Derived.Test.YtlicglicfijelaaGreatN2
import Derived.Test.YtlicglicfijelaaGreatH8
/- What curls, pushes and slides make is planar, and goes back: plain mathematics. -/
namespace Go.Proofs.YtlicglicfijelaaGreat
open Kn

theorem arcB_iff{X:List Cr}{a:Int}:arcB X a=true↔isArc X a.toNat∧0≤a:=by
 unfold arcB isArc
 simp only[Bool.and_eq_true,decide_eq_true_eq]
 omega
def loopB(L a:Int):Bool:=decide (a=0)&&decide (0<L)
def byB(b:Int):Bool:=decide (0≤b)&&decide (b≤3)
def curlD(X:List Cr)(L a b:Int):List Cr:=if loopB L a then curlP X (decide (2≤b)) (decide (b%2=1))else curlA X a.toNat (decide (2≤b)) (decide (b%2=1))
def curlN(L a:Int):Int:=if loopB L a then L-1 else L
def curlO(X:List Cr)(L a b:Int):Out:=
 if (arcB X a||loopB L a)&&byB b then(if X.length<16 then .ok (curlD X L a b) (curlN L a)else .no 2)else .no 3
def faceB(X:List Cr)(u v:Dt):Bool:=(facesL X).any fun f=>decide (u∈f)&&decide (v∈f)
def pushO(X:List Cr)(L u v:Int)(ub vb ov:Bool):Out:=
 if arcB X u&&arcB X v then(if decide (u≠v)&&faceB X (u.toNat,ub) (v.toNat,vb)then(if X.length+2≤16 then .ok (pushL X (u.toNat,ub) (v.toNat,vb) ov) L else .no 2)else .no 8)else .no 3
def faceAt(X:List Cr)(i:Int):List Dt:=(facesL X).getD i.toNat []
def slideO(X:List Cr)(L i:Int):Out:=
 if decide (0≤i)&&decide (i<((facesL X).length:Int))then(if slidesB X (faceAt X i)then .ok (slideL X ((faceAt X i).map (·.1))) L else .no 8)else .no 3
theorem Good.b{X:List Cr}{L:Int}(h:Good X L):Ok X∧X.length≤16∧0≤L∧L≤16:=by
 have h1:=mayB_ok h.1;have h2:=h.1
 unfold mayB at h2
 simp only[Bool.and_eq_true,decide_eq_true_eq]at h2
 exact⟨h1.1,h1.2,h2.1.1.1.2,h2.1.1.2⟩
theorem good_mk{X:List Cr}{L:Int}(h:Ok X)(hl:X.length≤16)(hn:0<X.length)(l1:0≤L)(l2:L≤16)(hp:planarB X=true):Good X L:=by
 refine⟨?_,hp⟩
 have h4:=(ok_iff _).2 h
 unfold mayB
 simp only[Bool.and_eq_true,decide_eq_true_eq,Bool.not_eq_true',Bool.and_eq_false_iff,decide_eq_false_iff_not]
 exact⟨⟨⟨⟨by omega,by omega⟩,by omega⟩,.inl (by omega)⟩,h4⟩
theorem curlB_of{Y:List Cr}{n:Nat}(h:∃s,s<4∧at_ Y (n,s)=at_ Y (n,(s+1)%4)):curlB Y n=true:=by
 obtain⟨s,hs,e⟩:=h
 unfold curlB
 rw[List.any_eq_true]
 refine⟨s,List.mem_range.2 hs,?_⟩
 unfold arcN
 rw[e];simp
theorem isCr_of{Y:List Cr}{n:Nat}(h:n<Y.length):isCr Y (n:Nat)=true:=by
 unfold isCr;simp;omega
theorem curlO_back{X Y:List Cr}{L N a b:Int}(hg:Good X L)(h:curlO X L a b=.ok Y N):Good Y N∧unO Y N (X.length:Nat)=.ok X L:=by
 obtain⟨hX,hl,l1,l2⟩:=hg.b
 unfold curlO at h
 split at h
 · rename_i hc
   split at h
   · rename_i h16
     injection h with e1 e2
     subst e1 e2;rw[Bool.and_eq_true,Bool.or_eq_true]at hc
     unfold curlD curlN
     by_cases lp:loopB L a=true
     · rw[if_pos lp,if_pos lp]
       unfold loopB at lp
       simp only[Bool.and_eq_true,decide_eq_true_eq]at lp;have hO:=curlP_of (X:=X) (decide (2≤b)) (decide (b%2=1));generalize curlP X (decide (2≤b)) (decide (b%2=1))=Y at hO ⊢;obtain⟨t1,t2⟩:=hO.take hX
       refine⟨good_mk (hO.ok hX) (by rw[hO.len];omega) (by rw[hO.len];omega) (by omega) (by omega) (hO.planar hX hg.2),?_⟩
       unfold unO
       rw[if_pos (isCr_of (by rw[hO.len];omega)),Int.toNat_natCast,if_pos (curlB_of hO.kink)]
       unfold takeO
       rw[t1,t2,if_pos (by omega),show L-1+((1:Nat):Int)=L by omega]
     · rw[if_neg lp,if_neg lp]
       have ha:=arcB_iff.1 (hc.1.resolve_right lp);have hO:=curlA_of hX ha.1 (decide (2≤b)) (decide (b%2=1));generalize curlA X a.toNat (decide (2≤b)) (decide (b%2=1))=Y at hO ⊢;obtain⟨t1,t2⟩:=hO.take hX ha.1
       refine⟨good_mk (hO.ok hX ha.1) (by rw[hO.len];omega) (by rw[hO.len];omega) (by omega) (by omega) (hO.planar hX ha.1 hg.2),?_⟩
       unfold unO
       rw[if_pos (isCr_of (by rw[hO.len];omega)),Int.toNat_natCast,if_pos (curlB_of hO.kink)]
       unfold takeO
       rw[t1,t2,if_pos (by omega),show L+((0:Nat):Int)=L by omega]
   · cases h
 · cases h
theorem pushO_back{X Y:List Cr}{L N u v:Int}{ub vb ov:Bool}(hg:Good X L)(h:pushO X L u v ub vb ov=.ok Y N):Good Y N∧pullO Y N (X.length:Nat) ((X.length+1:Nat):Int)=.ok X L:=by
 obtain⟨hX,hl,l1,l2⟩:=hg.b
 unfold pushO at h
 split at h
 · rename_i hc
   split at h
   · rename_i hf
     split at h
     · rename_i h16
       injection h with e1 e2
       subst e1 e2;rw[Bool.and_eq_true]at hc;have hu:=arcB_iff.1 hc.1;have hv:=arcB_iff.1 hc.2;rw[Bool.and_eq_true,decide_eq_true_eq]at hf
       have hne:u.toNat≠v.toNat:=by omega
       have hO:=pushL_of (u:=(u.toNat,ub)) (v:=(v.toNat,vb)) hX hu.1 hv.1 hne ov;have hpar:=push_par (u.toNat,ub) (v.toNat,vb) ov;obtain⟨f,hf1,hf2⟩:=List.any_eq_true.1 hf.2;simp only[Bool.and_eq_true,decide_eq_true_eq]at hf2;have ho:=(hX.face_is hf1 hf2.1 hv.1).1 hf2.2;generalize pushL X (u.toNat,ub) (v.toNat,vb) ov=Y at hO ⊢;obtain⟨t1,t2⟩:=hO.take;obtain⟨g,hg1,d,e,rfl,hd,hov⟩:=hO.bigon hpar;have hlen:=hO.len
       refine⟨good_mk hO.ok (by omega) (by omega) l1 l2 (hO.planar ho hg.2),?_⟩
       unfold pullO
       rw[isCr_of (by omega),isCr_of (by omega),Int.toNat_natCast,Int.toNat_natCast]
       have hn:decide (((X.length:Nat):Int)≠((X.length+1:Nat):Int))=true:=by simp;omega
       rw[hn,if_pos (show (true&&true&&true)=true from rfl),if_pos]
       · unfold takeO
         rw[t1,t2,if_pos (by omega),show L+((0:Nat):Int)=L by omega]
       · rw[List.any_eq_true]
         refine⟨_,hg1,?_⟩
         unfold bigF
         simp only
         rw[Bool.and_eq_true]
         refine⟨?_,hov⟩
         rcases hd with⟨d1,d2⟩|⟨d1,d2⟩
         · rw[d1,d2];simp
         · rw[d1,d2];simp
     · cases h
   · cases h
 · cases h
theorem slideO_back{X Y:List Cr}{L N i:Int}(hg:Good X L)(h:slideO X L i=.ok Y N):Good Y N∧Y.length=X.length∧N=L∧0≤i∧i<((facesL X).length:Int) ∧
 ∃k,k<(facesL Y).length∧slideO Y N (k:Nat)=.ok X L∧((facesL Y).getD k []).length=3∧∀d∈(facesL Y).getD k [],∃e∈faceAt X i,e.1=d.1:=by
 obtain⟨hX,hl,l1,l2⟩:=hg.b
 unfold slideO at h
 split at h
 · rename_i hc
   split at h
   · rename_i hs
     injection h with e1 e2
     subst e1 e2;simp only[Bool.and_eq_true,decide_eq_true_eq]at hc
     have hi:i.toNat<(facesL X).length:=by omega
     have hf:faceAt X i∈facesL X:=by
      unfold faceAt
      rw[List.getD_eq_getElem?_getD,List.getElem?_eq_getElem hi]
      exact List.getElem_mem hi
     obtain⟨k1,k2,f',hf',hs',hd,hb⟩:=slide_back hX hf hs;have hlen:=slideL_len X ((faceAt X i).map (·.1));generalize slideL X ((faceAt X i).map (·.1))=Y at k1 k2 hf' hs' hb hlen ⊢
     have hpos:0<X.length:=by
      obtain⟨d,hd'⟩:=List.exists_mem_of_ne_nil _ (faces_ne X _ hf);have:=hX.face_arc hf hd';have:=this.1;have:=(hX.face_arc hf hd').2
      unfold nArcs at this
      omega
     obtain⟨k,hk,e⟩:=List.mem_iff_getElem.1 hf'
     have eg:(facesL Y).getD k []=f':=by rw[List.getD_eq_getElem?_getD,List.getElem?_eq_getElem hk];exact e
     refine⟨good_mk k1 (by omega) (by omega) l1 l2 (k2 hg.2),hlen,rfl,hc.1,hc.2,k,hk,?_,?_,?_⟩
     · unfold slideO faceAt
       rw[Int.toNat_natCast,eg,if_pos (by simp;omega),if_pos hs',hb]
     · rw[eg]
       unfold slidesB at hs'
       simp only[Bool.and_eq_true,decide_eq_true_eq]at hs'
       exact hs'.1.1.1
     · rw[eg];exact hd
   · cases h
 · cases h
end Go.Proofs.YtlicglicfijelaaGreat

/- What moves leave of the value; the skein relation of lists in form: plain mathematics. -/
namespace Go.Proofs.YtlicglicfijelaaGreat
open Kn

theorem both_ends{X:List Cr}(d:Dt):both (outP X d.1).1 (inP X d.1).1=both (head X d).1 (head X (d.1,!d.2)).1:=by
 have e1:head X d=endP X (!d.2) d.1:=rfl;have e2:head X (d.1,!d.2)=endP X (!(!d.2)) d.1:=rfl;rw[e1,e2]
 cases d.2 with
 |false=>exact both_comm _ _
 |true=>rfl
section
variable {W:Type} {K:CA W} {X Y:List Cr} {L N:Int}
theorem un_inv{a:Int}(hg:Good X L)(h:unO X L a=.ok Y N)(hX:Ok X)(hY:Ok Y):hv K hX L.toNat=hv K hY N.toNat:=by
 have hL:=hg.b.2.2.1
 unfold unO at h
 split at h
 · rename_i hc
   split at h
   · rename_i hcu
     have hcl:a.toNat<X.length:=by
      unfold isCr at hc
      simp only[Bool.and_eq_true,decide_eq_true_eq]at hc
      omega
     unfold curlB at hcu
     rw[List.any_eq_true]at hcu;obtain⟨s,hs,hcs⟩:=hcu;have h2:=(hX.take_kink hcl (List.mem_range.1 hs) (of_decide_eq_true hcs)).2 hg.2
     unfold takeO at h
     split at h
     · injection h with e1 e2
       subst e1 e2;have h3:=hX.hv_one (K:=K) hg.2 hcl h2 L.toNat;rw[h3,show (L+(takeN X (only a.toNat):Nat)).toNat=L.toNat+takeN X (only a.toNat)by omega]
     · cases h
   · cases h
 · cases h
theorem pull_inv{a b:Int}(hg:Good X L)(h:pullO X L a b=.ok Y N)(hX:Ok X)(hY:Ok Y):hv K hX L.toNat=hv K hY N.toNat:=by
 have hL:=hg.b.2.2.1
 unfold pullO at h
 split at h
 · rename_i hc
   split at h
   · rename_i hf
     simp only[Bool.and_eq_true,decide_eq_true_eq]at hc;obtain⟨⟨ha,hb⟩,hab⟩:=hc
     have hal:a.toNat<X.length∧0≤a:=by unfold isCr at ha;simp only[Bool.and_eq_true,decide_eq_true_eq]at ha;omega
     have hbl:b.toNat<X.length∧0≤b:=by unfold isCr at hb;simp only[Bool.and_eq_true,decide_eq_true_eq]at hb;omega
     rw[List.any_eq_true]at hf;obtain⟨f,hf1,hf2⟩:=hf
     match f,hf1,hf2 with
     |[d,e],hf1,hf2=>
      obtain⟨hd,he,h1,h2⟩:=face_two hX hf1;obtain⟨b1,b2⟩:=hX.bigon_of hd h1 h2;have t1:=tail_left hX hd;have t2:=tail_left hX he;rw[h1]at t1;rw[h2]at t2
      unfold bigF at hf2
      simp only[t1,t2,Bool.and_eq_true,Bool.or_eq_true,decide_eq_true_eq]at hf2;have hxl:(head X e).1<X.length:=(hX.isPl_head he).1;have hyl:(head X d).1<X.length:=(hX.isPl_head hd).1;have hs4:((head X e).2+3)%4<4:=Nat.mod_lt _ (by omega)
      have hxy:(head X e).1≠(head X d).1:=by omega
      have oB:other X ((head X e).1,(((head X e).2+3)%4+1)%4)=((head X d).1,((head X d).2+3)%4):=by
       have h4:=(hX.isPl_head he).2;rw[show (((head X e).2+3)%4+1)%4=(head X e).2 by omega]
       exact b2
      have hk:=(hX.take_bigon hxl hyl hxy hs4 (hX.isPl_head hd).2 b1 oB).2 hg.2
      have hgone:both a.toNat b.toNat=both (head X e).1 (head X d).1:=by
       rcases hf2.1 with h|h
       · rw[show (head X e).1=a.toNat by omega,show (head X d).1=b.toNat by omega]
       · rw[show (head X e).1=b.toNat by omega,show (head X d).1=a.toNat by omega,both_comm]
      rw[←hgone]at hk
      have key:∀c:Dt,Kn.isArc X c.1→overA X c.1=true→both (head X c).1 (head X (c.1,!c.2)).1=both a.toNat b.toNat→(head X c).1≠(head X (c.1,!c.2)).1→hv K hX L.toNat=hv K (hX.take_ok (both a.toNat b.toNat)) (L.toNat+takeN X (both a.toNat b.toNat)):=fun c hc ho hb hn=>by
       refine hX.hv_over hg.2 hc ho ?_ ?_ hk L.toNat
       · have e1:head X c=endP X (!c.2) c.1:=rfl
         have e2:head X (c.1,!c.2)=endP X (!(!c.2)) c.1:=rfl;rw[e1,e2]at hn
         cases hcc:c.2 with
         |false=>rw[hcc]at hn;exact fun q=>hn q.symm
         |true=>rw[hcc]at hn;exact hn
       · rw[both_ends,hb]
      have hv1:hv K hX L.toNat=hv K (hX.take_ok (both a.toNat b.toNat)) (L.toNat+takeN X (both a.toNat b.toNat)):=by
       rcases hf2.2 with⟨q,_⟩|⟨_,q⟩
       · refine key d hd q ?_ ?_
         · rw[t2,hgone,both_comm]
         · rw[t2];exact fun k=>hxy k.symm
       · refine key e he q ?_ ?_
         · rw[t1,hgone]
         · rw[t1];exact hxy
      unfold takeO at h
      split at h
      · injection h with e1 e2
        subst e1 e2;rw[hv1,show (L+(takeN X (both a.toNat b.toNat):Nat)).toNat=L.toNat+takeN X (both a.toNat b.toNat)by omega]
      · cases h
   · cases h
 · cases h
theorem un_good{a:Int}(hg:Good X L)(h:unO X L a=.ok Y N):Good Y N:=by
 by_cases ha:0≤a
 · obtain⟨c,rfl⟩:∃c:Nat,a=(c:Int):=⟨a.toNat,by omega⟩
   exact(unO_good hg h).1
 · unfold unO isCr at h
   rw[decide_eq_false ha]at h
   cases h
theorem pull_good{a b:Int}(hg:Good X L)(h:pullO X L a b=.ok Y N):Good Y N:=by
 by_cases ha:0≤a
 · by_cases hb:0≤b
   · obtain⟨c,rfl⟩:∃c:Nat,a=(c:Int):=⟨a.toNat,by omega⟩
     obtain⟨d,rfl⟩:∃c:Nat,b=(c:Int):=⟨b.toNat,by omega⟩
     exact(pullO_good hg h).1
   · unfold pullO isCr at h
     rw[decide_eq_false hb]at h
     simp at h
 · unfold pullO isCr at h
   rw[decide_eq_false ha]at h
   cases h
def mvO(X:List Cr)(L k x y u v:Int)(ub vb ov:Bool):Out:=
 if k=1 then curlO X L x y else if k=2 then unO X L x else if k=3 then pushO X L u v ub vb ov else if k=4 then pullO X L x y else if k=5 then slideO X L x else .no 6
theorem mv_inv{k x y u v:Int}{ub vb ov:Bool}(hg:Good X L)(h:mvO X L k x y u v ub vb ov=.ok Y N):Good Y N∧∀(hX:Ok X) (hY:Ok Y),hv K hX L.toNat=hv K hY N.toNat:=by
 unfold mvO at h
 split at h
 · obtain⟨h1,h2⟩:=curlO_back hg h
   exact⟨h1,fun hX hY=>(un_inv h1 h2 hY hX).symm⟩
 split at h
 · exact⟨un_good hg h,fun hX hY=>un_inv hg h hX hY⟩
 split at h
 · obtain⟨h1,h2⟩:=pushO_back hg h
   exact⟨h1,fun hX hY=>(pull_inv h1 h2 hY hX).symm⟩
 split at h
 · exact⟨pull_good hg h,fun hX hY=>pull_inv hg h hX hY⟩
 split at h
 · have h1:=slideO_back hg h
   refine⟨h1.1,fun hX hY=>?_⟩
   unfold slideO at h
   split at h
   · rename_i hc
     split at h
     · rename_i hs
       injection h with e1 e2
       subst e1 e2;simp only[Bool.and_eq_true,decide_eq_true_eq]at hc
       have hf:faceAt X x∈facesL X:=by
        unfold faceAt
        rw[List.getD_eq_getElem?_getD,List.getElem?_eq_getElem (by omega:x.toNat<(facesL X).length)]
        exact List.getElem_mem _
       exact hX.hv_slide hg.2 hf hs hY h1.1.2 L.toNat
     · cases h
   · cases h
 · cases h
end
theorem mv_same{X Y:List Cr}{L N:Nat}{k x y u v:Int}{ub vb ov:Bool}(hg:Gd X L)(h:mvO X L k x y u v ub vb ov=.ok Y N)(h8:Y.length≤8){p q:L2}(hp:HomF X L p):∃hY:Gd Y N,HomF Y N q→p=q:=by
 have g:Good X L:=⟨(gd_ho hg).2,hg.pl⟩;obtain⟨h1,h2⟩:=mv_inv (K:=K2.toCA) g h;obtain⟨b1,b2,b3,b4⟩:=h1.b
 have hY:Gd Y N:=⟨b1,h1.2,h8,by
  have h3:=h1.1
  unfold mayB at h3
  simp only[Bool.and_eq_true,decide_eq_true_eq,Bool.not_eq_true',Bool.and_eq_false_iff,decide_eq_false_iff_not]at h3
  omega,by omega⟩
 refine⟨hY,fun hq=>hp.form.uniq hq.form fun a=>?_⟩
 rw[hp.hv hg,hq.hv hY];have:=h2 hg.ok hY.ok;rw[Int.toNat_natCast,Int.toNat_natCast]at this;rw[this]
def skL(p q:L2):L2:=sumT (sumT [] p (1,0) 1) q (-1,0) (-1)
def skR(r:L2):L2:=sumT [] r (0,1) 1
theorem sk_law{X:List Cr}{L k:Nat}(hg:Gd X L)(hk:k<X.length)(g1:Gd (chgL X k) L)(g2:Gd (smL X k) (L+smN X k)){p q r:L2}(hp:HomF X L p)(hq:HomF (chgL X k) L q)(hr:HomF (smL X k) (L+smN X k) r):(if (cr X k).p then skL p q else skL q p)=skR r:=by
 have hs:=hg.ok.hv_skein (K:=K2.toCA) hg.pl hk L
 have e1:∀a,cf p a=(T2 (cr X k).p (hv K2.toCA g1.ok L) (hv K2.toCA g2.ok (L+smN X k))).1 a:=fun a=>by rw[hp.hv hg,hs];rfl
 have e2:∀a,cf q a=(hv K2.toCA g1.ok L).1 a:=hq.hv g1
 have e3:∀a,cf r a=(hv K2.toCA g2.ok (L+smN X k)).1 a:=hr.hv g2
 have cR:∀a b:Int,cf (skR r) (a,b)=cf r (a,b-1):=fun a b=>by
  unfold skR
  rw[sumT_cf,show cf [] (a,b)=0 from rfl];have:((a,b):E2)-(0,1)=(a,b-1):=Prod.ext (by show a-0=a;omega) rfl
  rw[this];omega
 have cL:∀(p q:L2) (a b:Int),cf (skL p q) (a,b)=cf p (a-1,b)-cf q (a+1,b):=fun p q a b=>by
  unfold skL
  rw[sumT_cf,sumT_cf,show cf [] (a,b)=0 from rfl];have h1:((a,b):E2)-(1,0)=(a-1,b):=Prod.ext rfl (by show b-0=b;omega);have h2:((a,b):E2)-(-1,0)=(a+1,b):=Prod.ext (by show a - -1=a+1;omega) (by show b-0=b;omega)
  rw[h1,h2];omega
 have F:∀p q:L2,F2 (skL p q):=fun p q=>sumT_F2 _ _ _ (sumT_F2 _ _ _ .nil)
 have FR:F2 (skR r):=sumT_F2 _ _ _ .nil
 cases hc:(cr X k).p with
 |true=>
  rw[hc]at e1;rw[if_pos rfl]
  refine(F p q).uniq FR fun⟨a,b⟩=>?_
  rw[cL,cR,e1,e2,e3,T2_t,show a-1+2=a+1 by omega,show a-1+1=a by omega];omega
 |false=>
  rw[hc]at e1;rw[if_neg (by simp)]
  refine(F q p).uniq FR fun⟨a,b⟩=>?_
  rw[cL,cR,e1,e2,e3,T2_f,show a+1-2=a-1 by omega,show a+1-1=a by omega];omega
theorem smN_few{X:List Cr}(hX:Ok X){k:Nat}(hk:k<X.length):smN X k≤4:=by
 unfold smN ringN
 have h1:∀a∈(List.range (nArcs X)).filter fun a=>decide (smF X k (a+1)=a+1) && !leftB X (smF X k) (only k) (a+1),a+1∈(List.range 4).map fun s=>arcN X (k,s):=fun a ha=>by
  obtain⟨ha,hc⟩:=List.mem_filter.1 ha;rw[Bool.and_eq_true,decide_eq_true_eq,Bool.not_eq_true']at hc;have harc:isArc X (a+1):=⟨by omega,by have:=List.mem_range.1 ha;omega⟩;have hp:=hX.isPl_end (io:=true) harc;have he:=hX.arc_end (io:=true) harc
  by_cases e:(endP X true (a+1)).1=k
  · exact List.mem_map.2 ⟨(endP X true (a+1)).2,List.mem_range.2 hp.2,by rw[←e];exact he⟩
  · exfalso
    have:leftB X (smF X k) (only k) (a+1)=true:=leftB_iff.2 ⟨_,hp,by simp[e],by rw[he];exact hc.1⟩;rw[this]at hc
    exact absurd hc.2 (by simp)
 rw[List.countP_eq_length_filter]
 have h2:(((List.range (nArcs X)).filter fun a=>decide (smF X k (a+1)=a+1) && !leftB X (smF X k) (only k) (a+1)).map (· + 1)).Nodup:=by
  rw[List.nodup_iff_pairwise_ne,List.pairwise_map]
  exact(List.nodup_iff_pairwise_ne.1 (List.nodup_range.filter _)).imp fun h e=>h (by omega)
 have h3:=nodup_le h2 (m:=(List.range 4).map fun s=>arcN X (k,s)) fun x hx=>by
  obtain⟨a,ha,rfl⟩:=List.mem_map.1 hx
  exact h1 a ha
 simpa using h3
theorem chg_gd{X:List Cr}{L k:Nat}(g:Gd X L)(hk:k<X.length):Gd (chgL X k) L:=
 ⟨g.ok.chg_ok hk,by rw[g.ok.chg_planar hk];exact g.pl,by unfold chgL;rw[List.length_set];exact g.len,by unfold chgL;rw[List.length_set];exact g.some,g.few⟩
theorem sm_gd{X:List Cr}{L k:Nat}(g:Gd X L)(hk:k<X.length)(hL:L≤8):Gd (smL X k) (L+smN X k):=by
 have h1:=smL_len hk;have h2:=g.len;have h3:=smN_few g.ok hk
 refine⟨g.ok.smooth_ok hk,g.ok.smooth_planar hk g.pl,by omega,?_,by omega⟩
 by_cases c:(smL X k).length=0
 · have h4:=(g.ok.k_smooth hk L).1
   have h5:=(strands_few (g.ok.smooth_ok hk)).1
   omega
 · omega
end Go.Proofs.YtlicglicfijelaaGreat

/- Walks: homfly.open where a crossing is asked for, Change, Smooth. -/
namespace Go.Proofs.YtlicglicfijelaaGreat
open Go.RowKit

theorem crs_own{w:World}{base n c:Nat}{a:Option Addr}{Y:List Kn.Cr}(h:w.ownsRow base 41 5 (.slice a n c) n (crCells Y))(hn:n=Y.length):CrsAt w a Y:=by
 subst hn;obtain⟨a2,c2,e,h⟩:=CrsAt.of_owns h
 cases e
 exact h
set_option maxRecDepth 100000 in
set_option maxHeartbeats 2000000 in
theorem hopenK_any(a:Option Addr)(n c k:Nat)(X:List Kn.Cr)(L:Nat)(w:World)(hx:CrsAt w a X)(hn:n=X.length)(hg:Gd X L)(hk:k<n):
 Calls Tryz.prog 12 #[.agg #[.slice a n c,.int .i64 (L:Nat)],.int .i64 (k:Nat),.bool true] w fun e w'=>∃b,e=.returned (.tuple #[.pointer (some ⟨b,0,none⟩),.int .i64 0])∧ShAt w' b X (L:Nat)∧New w w':=by
 have HN:=Lib.hid hn;have HX:=Lib.hid hx
 have h8:n≤8:=by have:=hg.len;omega
 have hL:L≤16:=hg.few;have HO:Hid (opC X (L:Nat)=0):=Lib.hid (by unfold opC;rw[(gd_ho hg).2,hg.pl];rfl);clear hx hn hg
 go_enter Tryz.func12,Tryz.ntmps12
 go_wp2_with fail;have hNa:New w (w.alloc (.cells #[.slice a n c,.int .i64 (L:Nat)] 24)):=(Fr.refl _ _).alloc _;refine(wopen_any a n c X (L:Nat) _ (New.crs hNa HX.out) HN.out (by omega) (by omega) (by omega)).mono ?_;rintro e w1 ⟨hF,h5⟩;have HF:Hid (New w w1):=Lib.hid (hNa.trans hF);clear hNa hF
 obtain⟨_,b,rfl,hs⟩:=h5.resolve_right fun h=>h.1 HO.out
 obtain⟨a1,c1,s0,_,_⟩:=hs.crs;rw[←HN.out]at s0;have HS:=Lib.hid hs;clear hs h5
 have i1:¬(k:Int)<0:=by omega
 have i2:¬(n:Int)≤(k:Int):=by omega
 have i3:¬(8:Int)<(n:Int):=by omega
 go_wp2;go_ret2
 exact⟨b,rfl,HS.out,HF.out⟩
set_option maxRecDepth 100000 in
set_option maxHeartbeats 2000000 in
theorem hchange_any(a:Option Addr)(n c k:Nat)(X:List Kn.Cr)(L:Nat)(w:World)(hx:CrsAt w a X)(hn:n=X.length)(hg:Gd X L)(hk:k<n):
 Calls Tryz.prog 9 #[.agg #[.slice a n c,.int .i64 (L:Nat)],.int .i64 (k:Nat)] w fun e w'=>∃a' c',e=.returned (.tuple #[.agg #[.slice a' n c',.int .i64 (L:Nat)],.int .i64 0])∧CrsAt w' a' (Kn.chgL X k)∧New w w':=by
 have HN:=Lib.hid hn;have HX:=Lib.hid hx;have HG:=Lib.hid hg;clear hx hn hg
 go_enter Tryz.func9,Tryz.ntmps9
 go_wp2_with fail
 obtain⟨w1,HW1⟩:∃w1,Hid (w1=(w.alloc (.cells #[.slice a n c,.int .i64 (L:Nat)] 24)).alloc (.cells #[.slice none 0 0,.int .i64 0] 24)):=⟨_,Lib.hid rfl⟩
 obtain⟨B4,HB4⟩:∃z,Hid (z=w.heap.size+1):=⟨_,Lib.hid rfl⟩
 have HN1:Hid (New w w1):=Lib.hid (by rw[HW1.out];exact((Fr.refl _ w).alloc _).alloc _)
 have HR1:Hid (w1.heap[B4]?=some (.cells #[.slice none 0 0,.int .i64 0] 24 (0,0))):=Lib.hid (by
  have h0:=heap_alloc_new (w.alloc (.cells #[.slice a n c,.int .i64 (L:Nat)] 24)) (.cells #[.slice none 0 0,.int .i64 0] 24);rw[World.size_alloc]at h0
  rw[HW1.out,HB4.out];exact h0)
 rw[←HW1.out,←HB4.out];refine(hopenK_any a n c k X L w1 (New.crs HN1.out HX.out) HN.out HG.out hk).mono ?_;rintro e w2 ⟨b,rfl,hs,hF⟩;have HN2:=Lib.hid (HN1.out.trans hF);have HR2:=Lib.hid (hF.blk HR1.out fun x=>x);have HS:=Lib.hid hs;clear hs hF;go_wp2_with fail;refine(change_any b k X (L:Nat) w2 HS.out (by have:=HN.out;omega) (by have:=HG.out.len;omega)).mono ?_;rintro e w3 ⟨sc,rfl,ho,hF⟩;obtain⟨a',c',rfl,hcr⟩:=CrsAt.of_owns ho
 have hl:(Kn.chgL X k).length=n:=by unfold Kn.chgL;rw[List.length_set,HN.out]
 rw[hl]at ho ⊢;have HN3:=Lib.hid (HN2.out.trans hF)
 have hR3:=hF.blk HR2.out fun x=>x
 have HB:=Lib.hid (show w.heap.size≤B4 by rw[HB4.out];omega)
 have hS:Fr (fun j=>j=B4) w3 ((w3.setCell ⟨B4,0,none⟩ (.slice a' n c')).setCell ⟨B4,1,none⟩ (.int .i64 (L:Nat))):=by refine Fr.setCell (Fr.setCell (Fr.refl _ w3) ?_ _) ?_ _<;>exact .inl rfl
 have HO:=Lib.hid (hS.owns ho fun j hj e=>blk_not_own hR3 ho (by decide) (e ▸ hj));have HN4:=Lib.hid (HN3.out.next hS fun j hj=>.inr (by rw[hj];exact HB.out));obtain⟨j0,_,z0,_⟩:=box2_c hR3;have hb1:=(box2_set hR3 (.slice a' n c')).1;have hb2:=(box2_set hb1 (.int .i64 (L:Nat))).2;obtain⟨_,j1,_,z1⟩:=box2_c hb1;obtain⟨m5,m6,_,_⟩:=box2_c hb2;clear hb1 hb2 hS hR3 ho hcr hF;go_wp2
 refine bodyPost_ret (v:=.tuple #[.agg #[.slice a' n c',.int .i64 (L:Nat)],.int .i64 0]) (by simp[results,Tryz.results9,go_sem,m5,m6]) rfl ⟨a',c',rfl,?_,HN4.out⟩
 exact crs_own HO.out hl.symm
set_option maxRecDepth 100000 in
set_option maxHeartbeats 4000000 in
theorem hsmooth_any(a:Option Addr)(n c k m:Nat)(X:List Kn.Cr)(L N:Nat)(w:World)(hx:CrsAt w a X)(hn:n=X.length)(hg:Gd X L)(hk:k<n)(hm:m=(Kn.smL X k).length)(hN:N=L+Kn.smN X k)(hN16:N≤16):
 Calls Tryz.prog 10 #[.agg #[.slice a n c,.int .i64 (L:Nat)],.int .i64 (k:Nat)] w fun e w'=>∃a' c',e=.returned (.tuple #[.agg #[.slice a' m c',.int .i64 (N:Nat)],.int .i64 0])∧CrsAt w' a' (Kn.smL X k)∧New w w':=by
 have HN:=Lib.hid hn;have HX:=Lib.hid hx;have HG:=Lib.hid hg;have HM:=Lib.hid hm;have HNN:=Lib.hid hN;have hL:L≤16:=hg.few;clear hx hn hg hm hN
 go_enter Tryz.func10,Tryz.ntmps10
 go_wp2_with fail
 obtain⟨w1,HW1⟩:∃w1,Hid (w1=(w.alloc (.cells #[.slice a n c,.int .i64 (L:Nat)] 24)).alloc (.cells #[.slice none 0 0,.int .i64 0] 24)):=⟨_,Lib.hid rfl⟩
 obtain⟨B4,HB4⟩:∃z,Hid (z=w.heap.size+1):=⟨_,Lib.hid rfl⟩
 have HN1:Hid (New w w1):=Lib.hid (by rw[HW1.out];exact((Fr.refl _ w).alloc _).alloc _)
 have HR1:Hid (w1.heap[B4]?=some (.cells #[.slice none 0 0,.int .i64 0] 24 (0,0))):=Lib.hid (by
  have h0:=heap_alloc_new (w.alloc (.cells #[.slice a n c,.int .i64 (L:Nat)] 24)) (.cells #[.slice none 0 0,.int .i64 0] 24);rw[World.size_alloc]at h0
  rw[HW1.out,HB4.out];exact h0)
 rw[←HW1.out,←HB4.out];refine(hopenK_any a n c k X L w1 (New.crs HN1.out HX.out) HN.out HG.out hk).mono ?_;rintro e w2 ⟨b,rfl,hs,hF⟩;have HN2:=Lib.hid (HN1.out.trans hF);have HR2:=Lib.hid (hF.blk HR1.out fun x=>x);have HS:=Lib.hid hs;clear hs hF
 obtain⟨wg,HWG⟩:∃z,Hid (z=w2.alloc (.cells #[.int .i64 (k:Nat)] 3)):=⟨_,Lib.hid rfl⟩
 obtain⟨g,HGB⟩:∃z,Hid (z=w2.heap.size):=⟨_,Lib.hid rfl⟩
 have hFg:New w2 wg:=by rw[HWG.out];exact(Fr.refl _ _).alloc _
 have HSg:Hid (ShAt wg b X (L:Nat)):=Lib.hid (New.shAt hFg HS.out);have HNg:=Lib.hid (HN2.out.trans hFg);have HRg:=Lib.hid (hFg.blk HR2.out fun x=>x)
 have HIg:Hid (IntsAt wg g [(k:Int)]):=Lib.hid fun i hi=>by
  obtain rfl:i=0:=by simp at hi;omega
  rw[HWG.out,HGB.out]
  exact cell_of_row _ _ 0 _ 3 (0,0) (heap_alloc_new w2 _)
 clear hFg;go_wp2_with fail;rw[←HWG.out,←HGB.out];have hwo:=withoutA_any b g 1 1 [(k:Int)] (Kn.only k) X (L:Nat) wg HSg.out HG.out.ok (by have:=HG.out.len;omega) (by omega) (by omega) HIg.out rfl (by omega) (fun d _=>by unfold Kn.only;rw[Bool.eq_iff_iff,decide_eq_true_eq,decide_eq_true_eq,List.mem_singleton];omega);rw[(with_only (by have:=HN.out;omega)).1,(with_only (by have:=HN.out;omega)).2]at hwo
 refine hwo.mono ?_
 clear hwo;rintro e w3 ⟨sc,rfl,ho,hF⟩;obtain⟨a',c',rfl,hcr⟩:=CrsAt.of_owns ho;rw[←HM.out,show (L:Int)+(Kn.smN X k:Nat)=(N:Nat)by have:=HNN.out;omega];rw[←HM.out]at ho;have HN3:=Lib.hid (HNg.out.trans hF);have HR3:=Lib.hid (hF.blk HRg.out fun x=>x);have HO3:=Lib.hid ho;have hF4:New w3 (w3.alloc (.cells #[.slice a' m c',.int .i64 (N:Nat)] 24)):=(Fr.refl _ _).alloc _;have hb4:=heap_alloc_new w3 (.cells #[.slice a' m c',.int .i64 (N:Nat)] 24)
 have hR4:=hF4.blk HR3.out fun x=>x
 have HO4:=Lib.hid (hF4.owns HO3.out fun _ _ x=>x);have HN4:=Lib.hid (HN3.out.trans hF4)
 obtain⟨w4,HW4⟩:∃z,Hid (z=w3.alloc (.cells #[.slice a' m c',.int .i64 (N:Nat)] 24)):=⟨_,Lib.hid rfl⟩
 clear hF ho hcr hF4;obtain⟨q0,q1,_,_⟩:=box2_c hb4
 have i1:¬(16:Int)<(N:Int):=by omega
 have HB:=Lib.hid (show w.heap.size≤B4 by rw[HB4.out];omega);rw[←HW4.out]at hR4 HO4 HN4
 have hS:Fr (fun j=>j=B4) w4 ((w4.setCell ⟨B4,0,none⟩ (.slice a' m c')).setCell ⟨B4,1,none⟩ (.int .i64 (N:Nat))):=by refine Fr.setCell (Fr.setCell (Fr.refl _ w4) ?_ _) ?_ _<;>exact .inl rfl
 have HO:=Lib.hid (hS.owns HO4.out fun j hj e=>blk_not_own hR4 HO4.out (by decide) (e ▸ hj));have HN5:=Lib.hid (HN4.out.next hS fun j hj=>.inr (by rw[hj];exact HB.out));obtain⟨j0,_,z0,_⟩:=box2_c hR4;have hb1:=(box2_set hR4 (.slice a' m c')).1;have hb2:=(box2_set hb1 (.int .i64 (N:Nat))).2;obtain⟨_,j1,_,z1⟩:=box2_c hb1;obtain⟨m5,m6,_,_⟩:=box2_c hb2;rw[HW4.out]at j0 z0 j1 z1 m5 m6;clear hb1 hb2 hS hR4 hb4;go_wp2;rw[←HW4.out]at m5 m6 ⊢
 refine bodyPost_ret (v:=.tuple #[.agg #[.slice a' m c',.int .i64 (N:Nat)],.int .i64 0]) (by simp[results,Tryz.results10,go_sem,m5,m6]) rfl ⟨a',c',rfl,?_,HN5.out⟩
 exact crs_own HO.out HM.out
end Go.Proofs.YtlicglicfijelaaGreat
