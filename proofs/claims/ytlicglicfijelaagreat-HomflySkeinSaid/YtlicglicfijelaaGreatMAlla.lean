/- Plain mathematics of diagrams, joined. -/
namespace Go.Proofs.YtlicglicfijelaaGreat.Kn

section
variable {α:Type} [DecidableEq α] (nx:α→α)
def ring:Nat→List α→α→List α
 |0,_,_=>[]
 |k+1,seen,x=>if x∈seen then []else x :: ring k (seen++[x]) (nx x)
def rings(N:Nat):List α→List α→List (List α)
 |_,[]=>[]
 |seen,d :: ds=>if d∈seen then rings N seen ds else ring nx N seen d :: rings N (seen++ring nx N seen d) ds

theorem ring_seen{k:Nat}{seen:List α}{x:α}(h:x∈seen):ring nx k seen x=[]:=by
 cases k with
 |zero=>rfl
 |succ k=>rw[ring,if_pos h]
theorem ring_new{k:Nat}{seen:List α}{x:α}(h:x∉seen):ring nx (k+1) seen x=x :: ring nx k (seen++[x]) (nx x):=by rw[ring,if_neg h]
theorem rings_nil(N:Nat)(seen:List α):rings nx N seen []=[]:=by rw[rings]
theorem rings_seen{N:Nat}{seen ds:List α}{d:α}(h:d∈seen):rings nx N seen (d :: ds)=rings nx N seen ds:=by rw[rings,if_pos h]
theorem rings_new{N:Nat}{seen ds:List α}{d:α}(h:d∉seen):rings nx N seen (d :: ds)=ring nx N seen d :: rings nx N (seen++ring nx N seen d) ds:=by rw[rings,if_neg h]

theorem nodup_le:∀{l m:List α},l.Nodup→(∀x∈l,x∈m)→l.length≤m.length
 |[],_,_,_=>Nat.zero_le _
 |a :: l,m,hn,hs=>by
  have ha:a∈m:=hs a (by simp);rw[List.nodup_cons]at hn
  have h1:l.length≤(m.erase a).length:=nodup_le hn.2 fun x hx=>by
   have hne:x≠a:=fun e=>hn.1 (e ▸ hx)
   exact(List.mem_erase_of_ne hne).2 (hs x (by simp[hx]))
  rw[List.length_erase_of_mem ha]at h1;have h2:0<m.length:=List.length_pos_of_mem ha
  simp only[List.length_cons];omega
theorem fuel{l m:List α}{x:α}(hn:l.Nodup)(hs:∀y∈l,y∈m)(hx:x∉l)(hm:x∈m):l.length+1≤m.length:=by
 have:=nodup_le (l:=x :: l) (m:=m) (List.nodup_cons.2 ⟨hx,hn⟩) (fun y hy=>by
  rcases List.mem_cons.1 hy with rfl|h
  · exact hm
  · exact hs y h)
 simpa using this
omit [DecidableEq α]in
theorem nodup_snoc{l:List α}{x:α}(hn:l.Nodup)(hx:x∉l):(l++[x]).Nodup:=by
 rw[List.nodup_append]
 exact⟨hn,by simp,fun a ha b hb=>by
  rw[List.mem_singleton]at hb;subst hb;exact fun e=>hx (e ▸ ha)⟩

theorem ring_nodup:∀(k:Nat) {seen:List α} (x:α),seen.Nodup→(seen++ring nx k seen x).Nodup
 |0,seen,x,h=>by rw[ring];simpa using h
 |k+1,seen,x,h=>by
  by_cases c:x∈seen
  · rw[ring_seen nx c];simpa using h
  · rw[ring_new nx c]
    have:=ring_nodup k (seen:=seen++[x]) (nx x) (nodup_snoc h c)
    simpa using this
theorem ring_sub{all:List α}(hall:∀x∈all,nx x∈all):∀(k:Nat) (seen:List α) {x:α},x∈all→∀y∈ring nx k seen x,y∈all
 |0,seen,x,h,y,hy=>by rw[ring]at hy;cases hy
 |k+1,seen,x,h,y,hy=>by
  by_cases c:x∈seen
  · rw[ring_seen nx c]at hy;cases hy
  · rw[ring_new nx c]at hy
    rcases List.mem_cons.1 hy with rfl|hy
    · exact h
    · exact ring_sub hall k _ (hall x h) y hy
theorem ring_head{k:Nat}{seen:List α}{x:α}(h:x∉seen)(hk:0<k):x∈ring nx k seen x:=by
 obtain⟨j,rfl⟩:∃j,k=j+1:=⟨k-1,by omega⟩
 rw[ring_new nx h];simp
theorem rings_nodup(N:Nat):∀(ds:List α) {seen:List α},seen.Nodup→(seen++(rings nx N seen ds).flatten).Nodup
 |[],seen,h=>by rw[rings];simpa using h
 |d :: ds,seen,h=>by
  by_cases c:d∈seen
  · rw[rings_seen nx c];exact rings_nodup N ds h
  · rw[rings_new nx c,List.flatten_cons,←List.append_assoc]
    exact rings_nodup N ds (ring_nodup nx N d h)
theorem rings_sub{all:List α}(hall:∀x∈all,nx x∈all)(N:Nat):∀(ds:List α) (seen:List α),(∀d∈ds,d∈all)→∀y∈(rings nx N seen ds).flatten,y∈all
 |[],seen,_,y,hy=>by rw[rings]at hy;cases hy
 |d :: ds,seen,h,y,hy=>by
  by_cases c:d∈seen
  · rw[rings_seen nx c]at hy
    exact rings_sub hall N ds seen (fun x hx=>h x (by simp[hx])) y hy
  · rw[rings_new nx c,List.flatten_cons,List.mem_append]at hy
    rcases hy with hy|hy
    · exact ring_sub nx hall N seen (h d (by simp)) y hy
    · exact rings_sub hall N ds _ (fun x hx=>h x (by simp[hx])) y hy
theorem rings_cover{N:Nat}(hN:0<N):∀(ds:List α) (seen:List α) {x:α},(x∈seen∨x∈ds)→x∈seen++(rings nx N seen ds).flatten
 |[],seen,x,h=>by
  rw[rings]
  rcases h with h|h
  · simp[h]
  · cases h
 |d :: ds,seen,x,h=>by
  by_cases c:d∈seen
  · rw[rings_seen nx c]
    refine rings_cover hN ds seen ?_
    rcases h with h|h
    · exact .inl h
    · rcases List.mem_cons.1 h with rfl|h
      · exact .inl c
      · exact .inr h
  · rw[rings_new nx c,List.flatten_cons,←List.append_assoc]
    refine rings_cover hN ds _ ?_
    rcases h with h|h
    · exact .inl (by simp[h])
    · rcases List.mem_cons.1 h with rfl|h
      · exact .inl (List.mem_append.2 (.inr (ring_head nx c hN)))
      · exact .inr h
theorem rings_len(N:Nat):∀(ds seen:List α),(rings nx N seen ds).length≤ds.length
 |[],seen=>by rw[rings];exact Nat.le_refl _
 |d :: ds,seen=>by
  by_cases c:d∈seen
  · rw[rings_seen nx c];have:=rings_len N ds seen;simp only[List.length_cons];omega
  · rw[rings_new nx c];have:=rings_len N ds (seen++ring nx N seen d);simp only[List.length_cons];omega
theorem rings_perm{all:List α}(hn:all.Nodup)(hall:∀x∈all,nx x∈all){N:Nat}(hN:0<N):(rings nx N [] all).flatten.Perm all:=by
 have h1:=rings_nodup nx N all (seen:=[]) (by simp);have h2:=rings_sub nx hall N all [] (fun d h=>h)
 have h3:=fun x hx=>rings_cover nx hN all [] (x:=x) (.inr hx)
 rw[List.nil_append]at h1
 refine(List.perm_ext_iff_of_nodup h1 hn).2 fun x=>⟨h2 x,fun hx=>?_⟩
 have:=h3 x hx
 rwa [List.nil_append]at this
theorem rings_ne{N:Nat}(hN:0<N):∀(ds:List α) (seen:List α),∀r∈rings nx N seen ds,r≠[]
 |[],seen,r,h=>by rw[rings]at h;cases h
 |d :: ds,seen,r,h=>by
  by_cases c:d∈seen
  · rw[rings_seen nx c]at h
    exact rings_ne hN ds seen r h
  · rw[rings_new nx c]at h
    rcases List.mem_cons.1 h with rfl|h
    · exact List.ne_nil_of_mem (ring_head nx c hN)
    · exact rings_ne hN ds _ r h
end
end Go.Proofs.YtlicglicfijelaaGreat.Kn

namespace Go.Proofs.YtlicglicfijelaaGreat.Kn

structure Cr where
 a:Int
 b:Int
 c:Int
 d:Int
 p:Bool
deriving DecidableEq,Inhabited

def Cr.arc(x:Cr)(s:Nat):Int:=if s=0 then x.a else if s=1 then x.b else if s=2 then x.c else x.d
def over(p:Bool):Nat:=if p then 3 else 1
def Cr.comes(x:Cr)(s:Nat):Bool:=decide (s=0)||decide (s=over x.p)
abbrev Pl:=Nat×Nat
def cr(X:List Cr)(c:Nat):Cr:=X.getD c default
def at_(X:List Cr)(p:Pl):Int:=(cr X p.1).arc p.2
def cm(X:List Cr)(p:Pl):Bool:=(cr X p.1).comes p.2
def pl(k:Nat):Pl:=(k / 4,k%4)
theorem pl_mk{c s:Nat}(hs:s<4):pl (c*4+s)=(c,s):=by
 unfold pl;rw[show (c*4+s) / 4=c by omega,show (c*4+s)%4=s by omega]
def pk(p:Pl):Nat:=p.1*4+p.2
theorem pl_pk{p:Pl}(h:p.2<4):pl (pk p)=p:=pl_mk h

def cnt(X:List Cr)(io:Bool):Nat→Nat→Nat
 |0,_=>0
 |k+1,a=>cnt X io k a+if cm X (pl k)=io∧at_ X (pl k)=a then 1 else 0
def last(X:List Cr)(io:Bool):Nat→Nat→Pl
 |0,_=>(0,0)
 |k+1,a=>if cm X (pl k)=io∧at_ X (pl k)=a then pl k else last X io k a
theorem cnt_succ(X:List Cr)(io:Bool)(k a:Nat):cnt X io (k+1) a=cnt X io k a+if cm X (pl k)=io∧at_ X (pl k)=a then 1 else 0:=rfl
theorem last_succ(X:List Cr)(io:Bool)(k a:Nat):last X io (k+1) a=if cm X (pl k)=io∧at_ X (pl k)=a then pl k else last X io k a:=rfl
theorem cnt_le(X:List Cr)(io:Bool)(a:Nat):∀k,cnt X io k a≤k
 |0=>Nat.le_refl _
 |k+1=>by
  have:=cnt_le X io a k
  rw[cnt_succ];split<;>omega
def nArcs(X:List Cr):Nat:=2*X.length
def inRange(X:List Cr)(k:Nat):Prop:=∀j,j<k→1≤at_ X (pl j)∧at_ X (pl j)≤(nArcs X:Int)
def once(X:List Cr)(m:Nat):Prop:=∀a,1≤a→a≤m→cnt X true (4*X.length) a=1∧cnt X false (4*X.length) a=1
def okB(X:List Cr):Bool:=
 (List.range (4*X.length)).all (fun j=>decide (1≤at_ X (pl j))&&decide (at_ X (pl j)≤(nArcs X:Int))) &&
 (List.range (nArcs X)).all (fun a=>decide (cnt X true (4*X.length) (a+1)=1)&&decide (cnt X false (4*X.length) (a+1)=1))
theorem okB_iff(X:List Cr):okB X=true↔inRange X (4*X.length)∧once X (nArcs X):=by
 unfold okB inRange once
 simp only[Bool.and_eq_true,List.all_eq_true,List.mem_range,decide_eq_true_eq]
 refine and_congr Iff.rfl ⟨fun h a h1 h2=>?_,fun h a h1=>h (a+1) (by omega) (by omega)⟩
 have:=h (a-1) (by omega)
 rwa [show a-1+1=a by omega]at this
def mayB(X:List Cr)(L:Int):Bool:=decide (X.length≤16)&&decide (0≤L)&&decide (L≤16) && !(decide (X.length=0)&&decide (L=0))&&okB X

theorem last_of{X:List Cr}{io:Bool}{a:Nat}:∀{k:Nat},1≤cnt X io k a→∃j,j<k∧last X io k a=pl j∧cm X (pl j)=io∧at_ X (pl j)=a
 |0,h=>by simp[cnt]at h
 |k+1,h=>by
  rw[cnt_succ]at h;rw[last_succ]
  by_cases c:cm X (pl k)=io∧at_ X (pl k)=a
  · rw[if_pos c];exact⟨k,by omega,rfl,c⟩
  · rw[if_neg c]at h ⊢
    obtain⟨j,hj,r⟩:=last_of (k:=k) (by omega)
    exact⟨j,by omega,r⟩
theorem cnt_pos{X:List Cr}{io:Bool}{a:Nat}:∀{k j:Nat},j<k→cm X (pl j)=io→at_ X (pl j)=a→1≤cnt X io k a
 |k+1,j,hj,h1,h2=>by
  rw[cnt_succ]
  by_cases c:j=k
  · subst c;rw[if_pos ⟨h1,h2⟩];omega
  · have:=cnt_pos (k:=k) (j:=j) (by omega) h1 h2;omega
theorem cnt_two{X:List Cr}{io:Bool}{a:Nat}:∀{k i j:Nat},i<j→j<k→cm X (pl i)=io→at_ X (pl i)=a→cm X (pl j)=io→at_ X (pl j)=a→2≤cnt X io k a
 |k+1,i,j,hij,hj,h1,h2,h3,h4=>by
  rw[cnt_succ]
  by_cases c:j=k
  · subst c
    have:=cnt_pos (k:=j) hij h1 h2
    rw[if_pos ⟨h3,h4⟩];omega
  · have:=cnt_two (k:=k) hij (by omega) h1 h2 h3 h4;omega

def isPl(X:List Cr)(p:Pl):Prop:=p.1<X.length∧p.2<4
def inP(X:List Cr)(a:Nat):Pl:=last X true (4*X.length) a
def outP(X:List Cr)(a:Nat):Pl:=last X false (4*X.length) a
def endP(X:List Cr)(io:Bool)(a:Nat):Pl:=last X io (4*X.length) a
structure Ok(X:List Cr):Prop where
 rng:∀p,isPl X p→1≤at_ X p∧at_ X p≤(nArcs X:Int)
 end_:∀(io:Bool) (a:Nat),1≤a→a≤nArcs X→isPl X (endP X io a)∧cm X (endP X io a)=io∧at_ X (endP X io a)=a
 uniq:∀p q,isPl X p→isPl X q→cm X p=cm X q→at_ X p=at_ X q→p=q
theorem isPl_pl{X:List Cr}{j:Nat}(h:j<4*X.length):isPl X (pl j):=⟨by unfold pl;simp only;omega,by unfold pl;simp only;omega⟩
theorem pk_lt{X:List Cr}{p:Pl}(h:isPl X p):pk p<4*X.length:=by
 unfold pk;have:=h.1;have:=h.2;omega
theorem ok_iff(X:List Cr):okB X=true↔Ok X:=by
 rw[okB_iff]
 constructor
 · rintro⟨h1,h2⟩
   have hr:∀p,isPl X p→1≤at_ X p∧at_ X p≤(nArcs X:Int):=fun p hp=>by
    have:=h1 (pk p) (pk_lt hp)
    rwa [pl_pk hp.2]at this
   refine⟨hr,fun io a ha hb=>?_,fun p q hp hq hc ha=>?_⟩
   · have h3:1≤cnt X io (4*X.length) a:=by
      have:=h2 a ha hb
      cases io<;>omega
     obtain⟨j,hj,e,e1,e2⟩:=last_of h3
     unfold endP
     rw[e]
     exact⟨isPl_pl hj,e1,e2⟩
   · obtain⟨h3,h4⟩:=hr p hp
     obtain⟨n,hn⟩:∃n:Nat,at_ X p=n:=⟨(at_ X p).toNat,by omega⟩
     have h5:=h2 n (by omega) (by omega)
     have h6:cnt X (cm X p) (4*X.length) n=1:=by cases cm X p<;>first|exact h5.2|exact h5.1
     rcases Nat.lt_trichotomy (pk p) (pk q)with c|c|c
     · have:=cnt_two (X:=X) (io:=cm X p) (a:=n) c (pk_lt hq) (by rw[pl_pk hp.2]) (by rw[pl_pk hp.2];exact hn) (by rw[pl_pk hq.2];exact hc.symm) (by rw[pl_pk hq.2,←ha];exact hn)
       omega
     · have:pl (pk p)=pl (pk q):=by rw[c]
       rwa [pl_pk hp.2,pl_pk hq.2]at this
     · have:=cnt_two (X:=X) (io:=cm X p) (a:=n) c (pk_lt hp) (by rw[pl_pk hq.2];exact hc.symm) (by rw[pl_pk hq.2,←ha];exact hn) (by rw[pl_pk hp.2]) (by rw[pl_pk hp.2];exact hn)
       omega
 · intro h
   refine⟨fun j hj=>h.rng _ (isPl_pl hj),fun a ha hb=>?_⟩
   have key:∀io,cnt X io (4*X.length) a=1:=fun io=>by
    obtain⟨h1,h2,h3⟩:=h.end_ io a ha hb;have hp:1≤cnt X io (4*X.length) a:=cnt_pos (pk_lt h1) (by rw[pl_pk h1.2];exact h2) (by rw[pl_pk h1.2];exact h3)
    have hu:∀k,k≤4*X.length→cnt X io k a≤if pk (endP X io a)<k then 1 else 0:=by
     intro k
     induction k with
     |zero=>intro _;simp[cnt]
     |succ k ih=>
      intro hk
      have h4:=ih (by omega);rw[cnt_succ]
      by_cases c:cm X (pl k)=io∧at_ X (pl k)=a
      · have:pl k=endP X io a:=h.uniq _ _ (isPl_pl (by omega)) h1 (c.1.trans h2.symm) (c.2.trans h3.symm)
        have e:k=pk (endP X io a):=by
         rw[←this];unfold pk pl;simp only;omega
        rw[←e]at h4 ⊢;rw[if_neg (by omega)]at h4
        rw[if_pos c,if_pos (by omega)];omega
      · rw[if_neg c]
        split at h4<;>split<;>omega
    have:=hu _ (Nat.le_refl _)
    split at this<;>omega
   exact⟨key true,key false⟩
instance (X:List Cr):Decidable (Ok X):=decidable_of_iff _ (ok_iff X)

def arcN(X:List Cr)(p:Pl):Nat:=(at_ X p).toNat
def other(X:List Cr)(p:Pl):Pl:=endP X (!cm X p) (arcN X p)
def nextA(X:List Cr)(a:Nat):Nat:=arcN X ((endP X true a).1,((endP X true a).2+2)%4)
abbrev Dt:=Nat×Bool
def head(X:List Cr)(d:Dt):Pl:=endP X (!d.2) d.1
def left(X:List Cr)(d:Dt):Dt:=(arcN X ((head X d).1,((head X d).2+3)%4),cm X ((head X d).1,((head X d).2+3)%4))
def isArc(X:List Cr)(a:Nat):Prop:=1≤a∧a≤nArcs X
section
variable {X:List Cr}
theorem Ok.arcN_eq(h:Ok X){p:Pl}(hp:isPl X p):((arcN X p:Nat):Int)=at_ X p:=by
 have:=h.rng p hp;unfold arcN;omega
theorem Ok.isArc(h:Ok X){p:Pl}(hp:isPl X p):isArc X (arcN X p):=by
 have:=h.rng p hp;have:=h.arcN_eq hp;unfold Kn.isArc;omega
theorem Ok.isPl_end(h:Ok X){io:Bool}{a:Nat}(ha:Kn.isArc X a):isPl X (endP X io a):=(h.end_ io a ha.1 ha.2).1
theorem Ok.cm_end(h:Ok X){io:Bool}{a:Nat}(ha:Kn.isArc X a):cm X (endP X io a)=io:=(h.end_ io a ha.1 ha.2).2.1
theorem Ok.at_end(h:Ok X){io:Bool}{a:Nat}(ha:Kn.isArc X a):at_ X (endP X io a)=a:=(h.end_ io a ha.1 ha.2).2.2
theorem Ok.arc_end(h:Ok X){io:Bool}{a:Nat}(ha:Kn.isArc X a):arcN X (endP X io a)=a:=by
 unfold arcN;rw[h.at_end ha];rfl
theorem Ok.end_eq(h:Ok X){p:Pl}(hp:isPl X p):endP X (cm X p) (arcN X p)=p:=
 h.uniq _ _ (h.isPl_end (h.isArc hp)) hp (h.cm_end (h.isArc hp)) (by rw[h.at_end (h.isArc hp),h.arcN_eq hp])
theorem Ok.isPl_other(h:Ok X){p:Pl}(hp:isPl X p):isPl X (other X p):=h.isPl_end (h.isArc hp)
theorem Ok.cm_other(h:Ok X){p:Pl}(hp:isPl X p):cm X (other X p)=!cm X p:=h.cm_end (h.isArc hp)
theorem Ok.arc_other(h:Ok X){p:Pl}(hp:isPl X p):arcN X (other X p)=arcN X p:=h.arc_end (h.isArc hp)
theorem Ok.other_other(h:Ok X){p:Pl}(hp:isPl X p):other X (other X p)=p:=by
 have h1:=h.end_eq hp
 show endP X (!cm X (other X p)) (arcN X (other X p))=p
 rw[h.cm_other hp,h.arc_other hp,Bool.not_not,h1]
theorem isPl_turn{p:Pl}(hp:isPl X p)(k:Nat):isPl X (p.1,(p.2+k)%4):=⟨hp.1,Nat.mod_lt _ (by omega)⟩
theorem Ok.isArc_next(h:Ok X){a:Nat}(ha:Kn.isArc X a):Kn.isArc X (nextA X a):=h.isArc (isPl_turn (h.isPl_end ha) 2)
theorem Ok.isPl_head(h:Ok X){d:Dt}(ha:Kn.isArc X d.1):isPl X (head X d):=h.isPl_end ha
theorem Ok.isArc_left(h:Ok X){d:Dt}(ha:Kn.isArc X d.1):Kn.isArc X (left X d).1:=h.isArc (isPl_turn (h.isPl_head ha) 3)
end

def dart(k:Nat):Dt:=(k / 2+1,decide (k%2=1))
def darts(X:List Cr):List Dt:=(List.range (4*X.length)).map dart
def facesL(X:List Cr):List (List Dt):=rings (left X) (4*X.length+1) [] (darts X)
def arcs(X:List Cr):List Nat:=(List.range (nArcs X)).map (· + 1)
def strandsL(X:List Cr):List (List Nat):=rings (nextA X) (nArcs X+1) [] (arcs X)
theorem dart_inj{j k:Nat}(h:dart j=dart k):j=k:=by
 unfold dart at h
 injection h with h1 h2
 have:(j%2=1)↔(k%2=1):=by
  constructor<;>intro e
  · exact of_decide_eq_true (h2 ▸ decide_eq_true e)
  · exact of_decide_eq_true (h2.symm ▸ decide_eq_true e)
 omega
theorem darts_nodup(X:List Cr):(darts X).Nodup:=by
 unfold darts
 rw[List.Nodup,List.pairwise_map]
 exact List.Pairwise.imp (fun hne e=>hne (dart_inj e)) (List.nodup_range)
theorem mem_darts{X:List Cr}{d:Dt}:d∈darts X↔isArc X d.1:=by
 unfold darts isArc nArcs
 rw[List.mem_map]
 constructor
 · rintro⟨k,hk,rfl⟩
   rw[List.mem_range]at hk
   unfold dart;simp only;omega
 · rintro⟨h1,h2⟩
   obtain⟨a,b⟩:=d
   refine⟨2*(a-1)+if b then 1 else 0,List.mem_range.2 (by cases b<;>simp<;>simp only at h2<;>omega),?_⟩
   unfold dart
   cases b<;>simp<;>simp only at h1<;>omega
theorem darts_length(X:List Cr):(darts X).length=4*X.length:=by simp[darts]
theorem mem_arcs{X:List Cr}{a:Nat}:a∈arcs X↔isArc X a:=by
 unfold arcs isArc
 rw[List.mem_map]
 constructor
 · rintro⟨k,hk,rfl⟩
   rw[List.mem_range]at hk;omega
 · rintro⟨h1,h2⟩
   exact⟨a-1,List.mem_range.2 (by omega),by omega⟩
theorem arcs_nodup(X:List Cr):(arcs X).Nodup:=by
 unfold arcs
 rw[List.Nodup,List.pairwise_map]
 exact List.Pairwise.imp (fun hne e=>hne (by omega)) (List.nodup_range)
theorem arcs_length(X:List Cr):(arcs X).length=nArcs X:=by simp[arcs]
theorem faces_perm{X:List Cr}(h:Ok X):(facesL X).flatten.Perm (darts X):=
 rings_perm _ (darts_nodup X) (fun d hd=>mem_darts.2 (h.isArc_left (mem_darts.1 hd))) (by omega)
theorem strands_perm{X:List Cr}(h:Ok X):(strandsL X).flatten.Perm (arcs X):=
 rings_perm _ (arcs_nodup X) (fun d hd=>mem_arcs.2 (h.isArc_next (mem_arcs.1 hd))) (by omega)

def trefoil:List Cr:=[⟨1,4,2,5,false⟩,⟨3,6,4,1,false⟩,⟨5,2,6,3,false⟩]
theorem trefoil_ok:okB trefoil=true:=by decide
end Go.Proofs.YtlicglicfijelaaGreat.Kn

namespace Go.Proofs.YtlicglicfijelaaGreat.Kn

section
variable (nb:Nat→List Nat) (seen:List Nat)
def addN:List Nat→List Nat→List Nat
 |l,[]=>l
 |l,k :: ks=>addN (if k∈seen∨k∈l then l else l++[k]) ks
def grow:Nat→Nat→List Nat→List Nat
 |0,_,l=>l
 |k+1,i,l=>if i<l.length then grow k (i+1) (addN seen l (nb (l.getD i 0)))else l
inductive Conn:Nat→Nat→Prop
 |refl (c:Nat):Conn c c
 |step {c d e:Nat}:Conn c d→e∈nb d→Conn c e
variable {nb seen}
theorem Conn.trans{c d e:Nat}(h:Conn nb c d)(k:Conn nb d e):Conn nb c e:=by
 induction k with
 |refl=>exact h
 |step _ he ih=>exact .step ih he
theorem Conn.symm(hs:∀x y,y∈nb x→x∈nb y){c d:Nat}(h:Conn nb c d):Conn nb d c:=by
 induction h with
 |refl=>exact .refl _
 |step _ he ih=>exact(Conn.step (.refl _) (hs _ _ he)).trans ih
theorem mem_one{l:List Nat}{k x:Nat}:x∈(if k∈seen∨k∈l then l else l++[k])↔x∈l∨(x=k∧k∉seen):=by
 split
 · next h=>
   constructor
   · exact .inl
   · rintro(h1|⟨rfl,h2⟩)
     · exact h1
     · exact h.resolve_left h2
 · next h=>
   rw[List.mem_append,List.mem_singleton]
   constructor
   · rintro(h1|rfl)
     · exact .inl h1
     · exact .inr ⟨rfl,fun e=>h (.inl e)⟩
   · rintro(h1|⟨rfl,_⟩)
     · exact .inl h1
     · exact .inr rfl
theorem mem_addN:∀{ks l:List Nat} {x:Nat},x∈addN seen l ks↔x∈l∨(x∈ks∧x∉seen)
 |[],l,x=>by rw[addN];simp
 |k :: ks,l,x=>by
  rw[addN,mem_addN,mem_one,List.mem_cons]
  constructor
  · rintro((h|⟨rfl,h⟩)|⟨h,h2⟩)
    · exact .inl h
    · exact .inr ⟨.inl rfl,h⟩
    · exact .inr ⟨.inr h,h2⟩
  · rintro(h|⟨rfl|h,h2⟩)
    · exact .inl (.inl h)
    · exact .inl (.inr ⟨rfl,h2⟩)
    · exact .inr ⟨h,h2⟩
theorem one_pre(l:List Nat)(k:Nat):l <+: (if k∈seen∨k∈l then l else l++[k]):=by
 split
 · exact List.prefix_refl _
 · exact List.prefix_append _ _
theorem addN_pre:∀(ks l:List Nat),l <+: addN seen l ks
 |[],l=>by rw[addN];exact List.prefix_refl _
 |k :: ks,l=>by rw[addN];exact(one_pre l k).trans (addN_pre ks _)
theorem one_nodup{l:List Nat}(h:l.Nodup)(k:Nat):(if k∈seen∨k∈l then l else l++[k]).Nodup:=by
 split
 · exact h
 · next c=>exact nodup_snoc h fun e=>c (.inr e)
theorem addN_nodup:∀(ks:List Nat) {l:List Nat},l.Nodup→(addN seen l ks).Nodup
 |[],l,h=>by rw[addN];exact h
 |k :: ks,l,h=>by rw[addN];exact addN_nodup ks (one_nodup h k)
theorem grow_pre:∀(k i:Nat) (l:List Nat),l <+: grow nb seen k i l
 |0,_,l=>by rw[grow];exact List.prefix_refl _
 |k+1,i,l=>by
  rw[grow];split
  · exact(addN_pre _ _).trans (grow_pre k _ _)
  · exact List.prefix_refl _
theorem grow_nodup:∀(k i:Nat) {l:List Nat},l.Nodup→(grow nb seen k i l).Nodup
 |0,_,l,h=>by rw[grow];exact h
 |k+1,i,l,h=>by
  rw[grow];split
  · exact grow_nodup k _ (addN_nodup _ h)
  · exact h
theorem getD_mem{l:List Nat}{i:Nat}(h:i<l.length):l.getD i 0∈l:=by
 rw[List.getD_eq_getElem?_getD,List.getElem?_eq_getElem h];exact List.getElem_mem h
theorem grow_all{P:Nat→Prop}(hP:∀x,P x→∀y∈nb x,y∉seen→P y):∀(k i:Nat) {l:List Nat},(∀x∈l,P x)→∀x∈grow nb seen k i l,P x
 |0,_,l,h=>by rw[grow];exact h
 |k+1,i,l,h=>by
  rw[grow];split
  · next c=>
    refine grow_all hP k _ fun x hx=>?_
    rcases mem_addN.1 hx with h1|⟨h1,h2⟩
    · exact h x h1
    · exact hP _ (h _ (getD_mem c)) x h1 h2
  · exact h
theorem grow_closed{m:List Nat}(hm:∀x∈m,∀y∈nb x,y∈m):∀(k i:Nat) {l:List Nat},l.Nodup→(∀x∈l,x∈m)→(∀j,j<i→j<l.length→∀y∈nb (l.getD j 0),y∈seen∨y∈l)→m.length+1≤k+i →
 ∀x∈grow nb seen k i l,∀y∈nb x,y∈seen∨y∈grow nb seen k i l
 |0,i,l,hn,hl,hc,hk,x,hx,y,hy=>by
  rw[grow]at hx ⊢;have:=nodup_le hn hl;obtain⟨j,hj,rfl⟩:=List.getElem_of_mem hx
  refine hc j (by omega) hj y ?_
  rwa [List.getD_eq_getElem?_getD,List.getElem?_eq_getElem hj]
 |k+1,i,l,hn,hl,hc,hk,x,hx,y,hy=>by
  rw[grow]at hx ⊢
  by_cases c:i<l.length
  · rw[if_pos c]at hx ⊢
    refine grow_closed hm k (i+1) (addN_nodup _ hn) (fun x hx=>?_) (fun j hj hjl y hy=>?_) (by omega) x hx y hy
    · rcases mem_addN.1 hx with h1|⟨h1,h2⟩
      · exact hl x h1
      · exact hm _ (hl _ (getD_mem c)) x h1
    · have hjl':j<l.length:=by omega
      have e:(addN seen l (nb (l.getD i 0))).getD j 0=l.getD j 0:=by
       obtain⟨t,ht⟩:=addN_pre (seen:=seen) (nb (l.getD i 0)) l;rw[←ht,List.getD_eq_getElem?_getD,List.getElem?_append_left hjl',List.getD_eq_getElem?_getD]
      rw[e]at hy
      by_cases d:y∈seen
      · exact .inl d
      · right
        rw[mem_addN]
        rcases Nat.lt_or_ge j i with c1|c1
        · exact .inl ((hc j c1 hjl' y hy).resolve_left d)
        · obtain rfl:j=i:=by omega
          exact .inr ⟨hy,d⟩
  · rw[if_neg c]at hx ⊢
    obtain⟨j,hj,rfl⟩:=List.getElem_of_mem hx
    refine hc j (by omega) hj y ?_
    rwa [List.getD_eq_getElem?_getD,List.getElem?_eq_getElem hj]
theorem grow_conn{m:List Nat}(hm:∀x∈m,∀y∈nb x,y∈m){c:Nat}(hc:c∈m)(hs:∀x y,y∈nb x→x∈nb y)(hseen:∀x∈seen,∀y∈nb x,y∈seen)(hcs:c∉seen){k:Nat}(hk:m.length+1≤k){x:Nat}:
 x∈grow nb seen k 0 [c]↔Conn nb c x:=by
 constructor
 · intro h
   refine grow_all (P:=Conn nb c) (fun x hx y hy _=>.step hx hy) k 0 (l:=[c]) (fun x hx=>?_) x h
   rw[List.mem_singleton]at hx;subst hx;exact .refl _
 · intro h
   have hcl:=grow_closed (seen:=seen) hm k 0 (l:=[c]) (by simp) (fun x hx=>by rw[List.mem_singleton]at hx;subst hx;exact hc) (fun j hj=>by omega) (by omega)
   have hns:∀x∈grow nb seen k 0 [c],x∉seen:=grow_all (P:=fun x=>x∉seen) (fun _ _ _ _ h=>h) k 0 (l:=[c]) (fun x hx=>by rw[List.mem_singleton]at hx;subst hx;exact hcs)
   induction h with
   |refl=>exact(grow_pre k 0 [c]).subset (by simp)
   |step hd he ih=>
    rcases hcl _ ih _ he with h1|h1
    · exact absurd (hseen _ h1 _ (hs _ _ he)) (hns _ ih)
    · exact h1
end

def ins(x:Nat):List Nat→List Nat
 |[]=>[x]
 |y :: ys=>if x≤y then x :: y :: ys else y :: ins x ys
def isort:List Nat→List Nat
 |[]=>[]
 |x :: xs=>ins x (isort xs)
theorem ins_perm(x:Nat):∀l,(ins x l).Perm (x :: l)
 |[]=>.refl _
 |y :: ys=>by
  rw[ins];split
  · exact .refl _
  · exact((ins_perm x ys).cons y).trans (.swap _ _ _)
theorem isort_perm:∀l,(isort l).Perm l
 |[]=>.refl _
 |x :: xs=>by rw[isort];exact(ins_perm x _).trans ((isort_perm xs).cons x)
theorem ins_sorted(x:Nat):∀{l:List Nat},l.Pairwise (·≤·)→(ins x l).Pairwise (·≤·)
 |[],_=>by rw[ins];simp
 |y :: ys,h=>by
  rw[List.pairwise_cons]at h
  rw[ins];split
  · next c=>
    rw[List.pairwise_cons,List.pairwise_cons]
    refine⟨fun z hz=>?_,h⟩
    rcases List.mem_cons.1 hz with rfl|hz
    · exact c
    · exact Nat.le_trans c (h.1 z hz)
  · next c=>
    rw[List.pairwise_cons]
    refine⟨fun z hz=>?_,ins_sorted x h.2⟩
    rcases List.mem_cons.1 ((ins_perm x ys).mem_iff.1 hz)with rfl|hz
    · omega
    · exact h.1 z hz
theorem isort_sorted:∀l,(isort l).Pairwise (·≤·)
 |[]=>by rw[isort];simp
 |x :: xs=>by rw[isort];exact ins_sorted x (isort_sorted xs)
def nbs(X:List Cr)(c:Nat):List Nat:=[(other X (c,0)).1,(other X (c,1)).1,(other X (c,2)).1,(other X (c,3)).1]
def pieceOf(X:List Cr)(seen:List Nat)(c:Nat):List Nat:=grow (nbs X) seen (X.length+1) 0 [c]
def piecesFrom(X:List Cr):List Nat→List Nat→List (List Nat)
 |_,[]=>[]
 |seen,c :: cs=>if c∈seen then piecesFrom X seen cs else isort (pieceOf X seen c) :: piecesFrom X (seen++pieceOf X seen c) cs
def piecesL(X:List Cr):List (List Nat):=piecesFrom X [] (List.range X.length)
theorem piecesFrom_nil(X:List Cr)(seen:List Nat):piecesFrom X seen []=[]:=by rw[piecesFrom]
theorem piecesFrom_seen{X:List Cr}{seen cs:List Nat}{c:Nat}(h:c∈seen):piecesFrom X seen (c :: cs)=piecesFrom X seen cs:=by rw[piecesFrom,if_pos h]
theorem piecesFrom_new{X:List Cr}{seen cs:List Nat}{c:Nat}(h:c∉seen):piecesFrom X seen (c :: cs)=isort (pieceOf X seen c) :: piecesFrom X (seen++pieceOf X seen c) cs:=by rw[piecesFrom,if_neg h]

section
variable {X:List Cr}
theorem mem_nbs{c e:Nat}:e∈nbs X c↔∃s,s<4∧e=(other X (c,s)).1:=by
 unfold nbs
 simp only[List.mem_cons,List.not_mem_nil,or_false]
 constructor
 · rintro(h|h|h|h)
   · exact⟨0,by omega,h⟩
   · exact⟨1,by omega,h⟩
   · exact⟨2,by omega,h⟩
   · exact⟨3,by omega,h⟩
 · rintro⟨s,hs,h⟩
   match s,hs with
   |0,_=>exact .inl h
   |1,_=>exact .inr (.inl h)
   |2,_=>exact .inr (.inr (.inl h))
   |3,_=>exact .inr (.inr (.inr h))
theorem Ok.nbs_lt(h:Ok X){c e:Nat}(hc:c<X.length)(he:e∈nbs X c):e<X.length:=by
 obtain⟨s,hs,rfl⟩:=mem_nbs.1 he
 exact(h.isPl_other ⟨hc,hs⟩).1
theorem Ok.nbs_symm(h:Ok X){c e:Nat}(hc:c<X.length)(he:e∈nbs X c):c∈nbs X e:=by
 obtain⟨s,hs,rfl⟩:=mem_nbs.1 he;have hp:isPl X (c,s):=⟨hc,hs⟩
 refine mem_nbs.2 ⟨(other X (c,s)).2,(h.isPl_other hp).2,?_⟩
 have:=h.other_other hp;rw[show ((other X (c,s)).1,(other X (c,s)).2)=other X (c,s)from rfl,this]
def nbc(X:List Cr)(c:Nat):List Nat:=if c<X.length then nbs X c else []
theorem Ok.nbc_symm(h:Ok X):∀x y,y∈nbc X x→x∈nbc X y:=by
 intro x y hy
 unfold nbc at hy ⊢
 by_cases c:x<X.length
 · rw[if_pos c]at hy
   rw[if_pos (h.nbs_lt c hy)]
   exact h.nbs_symm c hy
 · rw[if_neg c]at hy;cases hy
theorem grow_nbc(h:Ok X){seen:List Nat}:∀(k i:Nat) {l:List Nat},(∀x∈l,x<X.length)→grow (nbs X) seen k i l=grow (nbc X) seen k i l
 |0,_,l,_=>by rw[grow,grow]
 |k+1,i,l,hl=>by
  rw[grow,grow]
  by_cases c:i<l.length
  · have hx:l.getD i 0<X.length:=hl _ (getD_mem c)
    have e:nbc X (l.getD i 0)=nbs X (l.getD i 0):=by unfold nbc;rw[if_pos hx]
    rw[if_pos c,if_pos c,e]
    refine grow_nbc h k _ fun x hx'=>?_
    rcases mem_addN.1 hx' with h1|⟨h1,_⟩
    · exact hl x h1
    · exact h.nbs_lt hx h1
  · rw[if_neg c,if_neg c]
abbrev Con(X:List Cr):Nat→Nat→Prop:=Conn (nbc X)
theorem Ok.con_lt(h:Ok X){c d:Nat}(hc:c<X.length)(k:Con X c d):d<X.length:=by
 induction k with
 |refl=>exact hc
 |step hd he ih=>
  unfold nbc at he
  rw[if_pos ih]at he
  exact h.nbs_lt ih he
theorem Ok.mem_piece(h:Ok X){seen:List Nat}{c:Nat}(hc:c<X.length)(hseen:∀x∈seen,∀y∈nbc X x,y∈seen)(hcs:c∉seen){x:Nat}:x∈pieceOf X seen c↔Con X c x:=by
 unfold pieceOf
 rw[grow_nbc h _ _ (by intro x hx;rw[List.mem_singleton]at hx;subst hx;exact hc)]
 refine grow_conn (m:=List.range X.length) (fun x hx y hy=>?_) (List.mem_range.2 hc) h.nbc_symm hseen hcs (by simp)
 rw[List.mem_range]at hx ⊢
 unfold nbc at hy
 rw[if_pos hx]at hy
 exact h.nbs_lt hx hy
theorem pieceOf_nodup(X:List Cr)(seen:List Nat)(c:Nat):(pieceOf X seen c).Nodup:=grow_nodup _ _ (by simp)
structure IsPiece(X:List Cr)(l:List Nat):Prop where
 ne:l≠[]
 nodup:l.Nodup
 con:∀c∈l,c<X.length∧∀x,x∈l↔Con X c x
theorem Ok.piece(h:Ok X){seen:List Nat}{c:Nat}(hc:c<X.length)(hseen:∀x∈seen,∀y∈nbc X x,y∈seen)(hcs:c∉seen):IsPiece X (pieceOf X seen c):=by
 have hm:=fun x=>h.mem_piece hc hseen hcs (x:=x)
 refine⟨List.ne_nil_of_mem ((hm c).2 (.refl _)),pieceOf_nodup X seen c,fun d hd=>?_⟩
 have hcd:=(hm d).1 hd
 refine⟨h.con_lt hc hcd,fun x=>?_⟩
 rw[hm]
 exact⟨fun k=>(hcd.symm h.nbc_symm).trans k,fun k=>hcd.trans k⟩
theorem IsPiece.perm{l l':List Nat}(h:IsPiece X l)(hp:l'.Perm l):IsPiece X l':=
 ⟨fun e=>h.ne (by subst e;exact hp.symm.eq_nil),hp.nodup_iff.2 h.nodup,fun c hc=>⟨(h.con c (hp.mem_iff.1 hc)).1,fun x=>hp.mem_iff.trans ((h.con c (hp.mem_iff.1 hc)).2 x)⟩⟩
theorem Ok.pieces(h:Ok X):∀(cs:List Nat) {seen:List Nat},(∀c∈cs,c<X.length)→(∀x∈seen,∀y∈nbc X x,y∈seen)→seen.Nodup →
 (∀l∈piecesFrom X seen cs,IsPiece X l)∧(seen++(piecesFrom X seen cs).flatten).Nodup∧(∀x,x∈seen∨x∈cs→x∈seen++(piecesFrom X seen cs).flatten)∧∀x,x∈(piecesFrom X seen cs).flatten→x<X.length
 |[],seen,_,_,hn=>by
  rw[piecesFrom_nil]
  simpa using hn
 |c :: cs,seen,hc,hs,hn=>by
  by_cases d:c∈seen
  · rw[piecesFrom_seen d]
    obtain⟨h1,h2,h3,h4⟩:=h.pieces cs (fun x hx=>hc x (by simp[hx])) hs hn
    refine⟨h1,h2,fun x hx=>h3 x ?_,h4⟩
    rcases hx with hx|hx
    · exact .inl hx
    · rcases List.mem_cons.1 hx with rfl|hx
      · exact .inl d
      · exact .inr hx
  · have hcl:c<X.length:=hc c (by simp)
    have hp:=h.piece hcl hs d
    have hm:=fun x=>h.mem_piece hcl hs d (x:=x)
    have hdis:∀x∈pieceOf X seen c,x∉seen:=fun x hx hxs=>by
     have:∀y,Con X x y→y∈seen:=fun y hy=>by
      induction hy with
      |refl=>exact hxs
      |step _ he ih=>exact hs _ ih _ he
     exact d (this c (((hm x).1 hx).symm h.nbc_symm))
    have hn':(seen++pieceOf X seen c).Nodup:=by
     rw[List.nodup_append]
     exact⟨hn,hp.nodup,fun a ha b hb e=>hdis b hb (e ▸ ha)⟩
    have hs':∀x∈seen++pieceOf X seen c,∀y∈nbc X x,y∈seen++pieceOf X seen c:=fun x hx y hy=>by
     rw[List.mem_append]at hx ⊢
     rcases hx with hx|hx
     · exact .inl (hs x hx y hy)
     · exact .inr ((hm y).2 (.step ((hm x).1 hx) hy))
    obtain⟨h1,h2,h3,h4⟩:=h.pieces cs (fun x hx=>hc x (by simp[hx])) hs' hn';rw[piecesFrom_new d]
    have hperm:(seen++(isort (pieceOf X seen c) :: piecesFrom X (seen++pieceOf X seen c) cs).flatten).Perm (seen++pieceOf X seen c++(piecesFrom X (seen++pieceOf X seen c) cs).flatten):=by
     rw[List.flatten_cons,List.append_assoc]
     exact List.Perm.append_left _ (List.Perm.append_right _ (isort_perm _))
    refine⟨fun l hl=>?_,hperm.nodup_iff.2 h2,fun x hx=>hperm.mem_iff.2 (h3 x ?_),fun x hx=>?_⟩
    · rcases List.mem_cons.1 hl with rfl|hl
      · exact hp.perm (isort_perm _)
      · exact h1 l hl
    · rcases hx with hx|hx
      · exact .inl (by simp[hx])
      · rcases List.mem_cons.1 hx with rfl|hx
        · exact .inl (List.mem_append.2 (.inr ((hm _).2 (.refl _))))
        · exact .inr hx
    · rw[List.flatten_cons,List.mem_append]at hx
      rcases hx with hx|hx
      · exact(hp.con x ((isort_perm _).mem_iff.1 hx)).1
      · exact h4 x hx
theorem Ok.pieces_perm(h:Ok X):(piecesL X).flatten.Perm (List.range X.length):=by
 obtain⟨_,h2,h3,h4⟩:=h.pieces (List.range X.length) (seen:=[]) (fun c hc=>List.mem_range.1 hc) (fun x hx=>by cases hx) (by simp);rw[List.nil_append]at h2
 refine(List.perm_ext_iff_of_nodup h2 List.nodup_range).2 fun x=>⟨fun hx=>List.mem_range.2 (h4 x hx),fun hx=>?_⟩
 have:=h3 x (.inr hx)
 rwa [List.nil_append]at this
theorem Ok.pieces_is(h:Ok X):∀l∈piecesL X,IsPiece X l:=
 (h.pieces (List.range X.length) (seen:=[]) (fun c hc=>List.mem_range.1 hc) (fun x hx=>by cases hx) (by simp)).1
end

def pieceAt(X:List Cr)(c:Nat):Nat:=(piecesL X).findIdx fun l=>l.contains c
def facesAt(X:List Cr)(i:Nat):Nat:=(facesL X).countP fun f=>decide (pieceAt X (head X (f.headD (0,false))).1=i)
def planarB(X:List Cr):Bool:=(List.range (piecesL X).length).all fun i=>decide (facesAt X i=((piecesL X).getD i []).length+2)
theorem trefoil_planar:planarB trefoil=true:=by decide
end Go.Proofs.YtlicglicfijelaaGreat.Kn

namespace Go.Proofs.YtlicglicfijelaaGreat.Kn

abbrev Vw:=List Nat×List Int
def plusI(x:Cr):Int:=if x.p then 1 else 0
def seePl(X:List Cr)(st:Vw)(p:Pl):Vw:=
 (if (other X p).1∈st.1 then st.1 else st.1++[(other X p).1],st.2++[((st.1.idxOf (other X p).1:Nat):Int),(((other X p).2:Nat):Int)])
def seeSides(X:List Cr)(c:Nat):Nat→Vw→Vw
 |0,st=>st
 |k+1,st=>seePl X (seeSides X c k st) (c,k)
def seeC(X:List Cr)(st:Vw)(c:Nat):Vw:=seeSides X c 4 (st.1,st.2++[plusI (cr X c)])
def seeG(X:List Cr):Nat→Nat→Vw→Vw
 |0,_,st=>st
 |k+1,i,st=>if i<st.1.length then seeG X k (i+1) (seeC X st (st.1.getD i 0))else st
def see(X:List Cr)(c:Nat):Vw:=seeG X (X.length+1) 0 ([c],[])

def cmpI(a b:Int):Int:=if a<b then -1 else if b<a then 1 else 0
def cmpL:List Int→List Int→Int
 |[],[]=>0
 |[],_ :: _=>-1
 |_ :: _,[]=>1
 |x :: xs,y :: ys=>if cmpI x y=0 then cmpL xs ys else cmpI x y
theorem cmpI_zero{a b:Int}:cmpI a b=0↔a=b:=by unfold cmpI;split<;>(try split)<;>omega
theorem cmpI_neg{a b:Int}:cmpI a b<0↔a<b:=by unfold cmpI;split<;>(try split)<;>omega
theorem cmpI_anti(a b:Int):cmpI b a = -cmpI a b:=by unfold cmpI;split<;>split<;>(try split)<;>omega
theorem cmpL_self:∀l:List Int,cmpL l l=0
 |[]=>rfl
 |x :: xs=>by rw[cmpL,if_pos (cmpI_zero.2 rfl),cmpL_self xs]
theorem cmpL_anti:∀l m:List Int,cmpL m l = -cmpL l m
 |[],[]=>rfl
 |[],_ :: _=>rfl
 |_ :: _,[]=>rfl
 |x :: xs,y :: ys=>by
  rw[cmpL,cmpL,cmpI_anti x y]
  by_cases c:cmpI x y=0
  · rw[if_pos (by omega),if_pos c,cmpL_anti xs ys]
  · rw[if_neg (by omega),if_neg c]
theorem cmpL_zero:∀{l m:List Int},cmpL l m=0↔l=m
 |[],[]=>by simp[cmpL]
 |[],_ :: _=>by simp[cmpL]
 |_ :: _,[]=>by simp[cmpL]
 |x :: xs,y :: ys=>by
  rw[cmpL,List.cons.injEq]
  by_cases c:cmpI x y=0
  · rw[if_pos c,cmpL_zero,←cmpI_zero];simp[c]
  · rw[if_neg c,←cmpI_zero (a:=x)];simp[c]
theorem cmpL_trans:∀{l m n:List Int},cmpL l m≤0→cmpL m n≤0→cmpL l n≤0
 |[],m,[],_,_=>by simp[cmpL]
 |[],m,_ :: _,_,_=>by simp[cmpL]
 |_ :: _,[],n,h,_=>by simp[cmpL]at h
 |x :: xs,y :: ys,[],_,h=>by simp[cmpL]at h
 |x :: xs,y :: ys,z :: zs,h,k=>by
  rw[cmpL]at h k ⊢;have e1:=@cmpI_zero x y;have e2:=@cmpI_zero y z;have e3:=@cmpI_zero x z;have e4:=@cmpI_neg x y;have e5:=@cmpI_neg y z;have e6:=@cmpI_neg x z
  by_cases c1:cmpI x y=0<;>by_cases c2:cmpI y z=0
  · rw[if_pos c1]at h
    rw[if_pos c2]at k;rw[if_pos (by rw[e3];rw[e1]at c1;rw[e2]at c2;omega)]
    exact cmpL_trans h k
  · rw[if_neg c2]at k
    have hy:x=y:=e1.1 c1;subst hy
    rw[if_neg c2];exact k
  · rw[if_neg c1]at h
    have hy:y=z:=e2.1 c2;subst hy
    rw[if_neg c1];exact h
  · rw[if_neg c1]at h
    rw[if_neg c2]at k;have h1:x<y:=e4.1 (by omega);have h2:y<z:=e5.1 (by omega);have h3:cmpI x z<0:=e6.2 (by omega)
    rw[if_neg (by omega)];omega

def best(X:List Cr)(l:List Nat):Vw:=l.tail.foldl (fun b c=>if cmpL (see X c).2 b.2<0 then see X c else b) (see X (l.headD 0))
def cmpV(a b:Vw):Int:=if (a.1.length:Int)-b.1.length=0 then cmpL a.2 b.2 else(a.1.length:Int)-b.1.length
def insV(x:Vw):List Vw→List Vw
 |[]=>[x]
 |y :: ys=>if cmpV x y<0 then x :: y :: ys else y :: insV x ys
def sortV(l:List Vw):List Vw:=l.foldl (fun s x=>insV x s) []
def viewsL(X:List Cr):List Vw:=sortV ((piecesL X).map (best X))

def meet(N:List Nat)(a:Nat):List Nat:=if a∈N then N else N++[a]
def firsts(l:List Nat):List Nat:=l.foldl meet []
def arcsOf(X:List Cr)(c:Nat):List Nat:=[arcN X (c,0),arcN X (c,1),arcN X (c,2),arcN X (c,3)]
def Cr.ren(x:Cr)(f:Nat→Nat):Cr:=⟨f x.a.toNat,f x.b.toNat,f x.c.toNat,f x.d.toNat,x.p⟩
def numbered(X:List Cr)(os:List Nat):List Cr:=os.map fun c=>(cr X c).ren fun a=>(firsts (os.flatMap (arcsOf X))).idxOf a+1
def orderL(X:List Cr):List Nat:=(viewsL X).flatMap (·.1)
def formL(X:List Cr):List Cr:=numbered X (orderL X)
end Go.Proofs.YtlicglicfijelaaGreat.Kn

namespace Go.Proofs.YtlicglicfijelaaGreat.Kn

def chunk(X:List Cr)(l:List Nat)(c:Nat):List Int:=
 [plusI (cr X c),(l.idxOf (other X (c,0)).1:Nat),((other X (c,0)).2:Nat),(l.idxOf (other X (c,1)).1:Nat),((other X (c,1)).2:Nat),
  (l.idxOf (other X (c,2)).1:Nat),((other X (c,2)).2:Nat),(l.idxOf (other X (c,3)).1:Nat),((other X (c,3)).2:Nat)]
theorem addN_one(l ks:List Nat)(k:Nat):addN [] l (k :: ks)=addN [] (if k∈l then l else l++[k]) ks:=by
 rw[addN]
 by_cases c:k∈l
 · rw[if_pos (.inr c),if_pos c]
 · rw[if_neg (by simpa using c),if_neg c]
theorem seeC_fst(X:List Cr)(st:Vw)(c:Nat):(seeC X st c).1=addN [] st.1 (nbs X c):=by
 unfold nbs
 rw[addN_one,addN_one,addN_one,addN_one,addN]
 rfl
theorem seeG_fst(X:List Cr):∀(k i:Nat) (st:Vw),(seeG X k i st).1=grow (nbs X) [] k i st.1
 |0,_,_=>by rw[seeG,grow]
 |k+1,i,st=>by
  rw[seeG,grow]
  split
  · rw[seeG_fst,seeC_fst]
  · rfl
theorem see_fst(X:List Cr)(c:Nat):(see X c).1=pieceOf X [] c:=by unfold see pieceOf;rw[seeG_fst]
theorem idx_step{l m:List Nat}{k:Nat}(h:(if k∈l then l else l++[k]) <+: m):l.idxOf k=m.idxOf k:=by
 obtain⟨t,rfl⟩:=h
 by_cases c:k∈l
 · rw[if_pos c,List.idxOf_append,if_pos c]
 · rw[if_neg c,List.idxOf_append,if_pos (by simp),List.idxOf_append,if_neg c,List.idxOf_eq_length c];simp
theorem seeC_snd(X:List Cr)(st:Vw)(c:Nat){m:List Nat}(h:(seeC X st c).1 <+: m):(seeC X st c).2=st.2++chunk X m c:=by
 have p4:∀(l:List Nat) (k:Nat),l <+: (if k∈l then l else l++[k]):=fun l k=>by
  split
  · exact List.prefix_refl _
  · exact List.prefix_append _ _
 unfold seeC at h ⊢
 simp only[seeSides,seePl]at h ⊢;have h3:=(p4 _ _).trans h;have h2:=(p4 _ _).trans h3;have h1:=(p4 _ _).trans h2;rw[idx_step h,idx_step h3,idx_step h2,idx_step h1]
 unfold chunk
 simp
theorem seeG_code(X:List Cr):∀(k i:Nat) (st:Vw),i≤st.1.length→st.2=(st.1.take i).flatMap (chunk X (seeG X k i st).1) →
 (seeG X k i st).2=((seeG X k i st).1.take (min (i+k) (seeG X k i st).1.length)).flatMap (chunk X (seeG X k i st).1)
 |0,i,st,hi,h=>by
  rw[seeG]at h ⊢;rw[h,show min (i+0) st.1.length=i by omega]
 |k+1,i,st,hi,h=>by
  rw[seeG]at h ⊢
  by_cases c:i<st.1.length
  · rw[if_pos c]at h ⊢
    have hp:(seeC X st (st.1.getD i 0)).1 <+: (seeG X k (i+1) (seeC X st (st.1.getD i 0))).1:=by rw[seeG_fst];exact grow_pre _ _ _
    have hq:st.1 <+: (seeC X st (st.1.getD i 0)).1:=by rw[seeC_fst];exact addN_pre _ _
    have:=seeG_code X k (i+1) (seeC X st (st.1.getD i 0)) (by have:=hq.length_le;omega) (by
     rw[seeC_snd X st _ hp,h];obtain⟨t,ht⟩:=hq;rw[←ht,List.take_append_of_le_length (by omega),List.take_succ_eq_append_getElem c,List.flatMap_append]
     congr 1
     rw[List.getD_eq_getElem?_getD,List.getElem?_eq_getElem c]
     simp)
    rw[this,show i+1+k=i+(k+1)by omega]
  · rw[if_neg c]at h ⊢
    rw[h,show min (i+(k+1)) st.1.length=i by omega]
theorem chunk_len(X:List Cr)(l:List Nat)(c:Nat):(chunk X l c).length=9:=rfl
section
variable {X:List Cr}
theorem Ok.see_piece(h:Ok X){c:Nat}(hc:c<X.length):IsPiece X (see X c).1:=by
 rw[see_fst]
 exact h.piece hc (fun x hx=>by cases hx) (by simp)
theorem Ok.mem_see(h:Ok X){c x:Nat}(hc:c<X.length):x∈(see X c).1↔Con X c x:=by
 rw[see_fst]
 exact h.mem_piece hc (fun x hx=>by cases hx) (by simp)
theorem IsPiece.le{l:List Nat}(h:IsPiece X l):l.length≤X.length:=by
 have:=nodup_le h.nodup (m:=List.range X.length) (fun x hx=>List.mem_range.2 (h.con x hx).1)
 simpa using this
theorem Ok.see_code(h:Ok X){c:Nat}(hc:c<X.length):(see X c).2=(see X c).1.flatMap (chunk X (see X c).1):=by
 have hl:=(h.see_piece hc).le;have:=seeG_code X (X.length+1) 0 ([c],[]) (by simp) rfl
 unfold see at hl ⊢
 rw[this,List.take_of_length_le (by omega)]
theorem flatMap_len{l:List Nat}{f:Nat→List Int}(hf:∀c,(f c).length=9):(l.flatMap f).length=9*l.length:=by
 induction l with
 |nil=>rfl
 |cons x xs ih=>rw[List.flatMap_cons,List.length_append,ih,hf,List.length_cons];omega
theorem Ok.code_len(h:Ok X){c:Nat}(hc:c<X.length):(see X c).2.length=9*(see X c).1.length:=by
 rw[h.see_code hc,flatMap_len (chunk_len X _)]
end
theorem flatMap_eq{f g:Nat→List Int}(hf:∀c,(f c).length=9)(hg:∀c,(g c).length=9):∀{l m:List Nat},l.flatMap f=m.flatMap g→l.map f=m.map g
 |[],[],_=>rfl
 |[],y :: ys,h=>by
  have:=congrArg List.length h
  rw[flatMap_len hf,flatMap_len hg]at this;simp at this
 |x :: xs,[],h=>by
  have:=congrArg List.length h
  rw[flatMap_len hf,flatMap_len hg]at this;simp at this
 |x :: xs,y :: ys,h=>by
  rw[List.flatMap_cons,List.flatMap_cons]at h;obtain⟨h1,h2⟩:=List.append_inj h (by rw[hf,hg]);rw[List.map_cons,List.map_cons,h1,flatMap_eq hf hg h2]

structure Step(X Y:List Cr)(Z:List (Nat×Nat))(d e:Nat):Prop where
 plus:(cr X d).p=(cr Y e).p
 side:∀s,s<4→(other X (d,s)).2=(other Y (e,s)).2
 next:∀s,s<4→((other X (d,s)).1,(other Y (e,s)).1)∈Z
theorem plusI_inj{x y:Cr}(h:plusI x=plusI y):x.p=y.p:=by
 unfold plusI at h
 cases hx:x.p<;>cases hy:y.p<;>simp[hx,hy]at h<;>rfl
theorem zip_at{l m:List Nat}(hl:l.length=m.length){x y:Nat}(hx:x∈l)(hy:y∈m)(h:l.idxOf x=m.idxOf y):(x,y)∈l.zip m:=by
 have h1:=List.idxOf_lt_length_of_mem hx;have h2:=List.idxOf_lt_length_of_mem hy;have e1:=List.getElem_idxOf h1;have e2:=List.getElem_idxOf h2
 have h3:l.idxOf x<(l.zip m).length:=by rw[List.length_zip];omega
 have e3:(l.zip m)[l.idxOf x]=(x,y):=by
  rw[List.getElem_zip,e1]
  congr 1
  conv=>rhs;rw[←e2]
  congr 1
 exact e3 ▸ List.getElem_mem h3
theorem mem_zip_map{l m:List Nat}{f g:Nat→List Int}(h:l.map f=m.map g){d e:Nat}(hz:(d,e)∈l.zip m):f d=g e:=by
 obtain⟨i,hi,he⟩:=List.getElem_of_mem hz;rw[List.length_zip]at hi;rw[List.getElem_zip]at he
 injection he with h1 h2
 have h3:(l.map f)[i]?=(m.map g)[i]?:=by rw[h]
 rw[List.getElem?_map,List.getElem?_map,List.getElem?_eq_getElem (by omega),List.getElem?_eq_getElem (by omega)]at h3;simp only[Option.map_some,Option.some.injEq]at h3
 rwa [h1,h2]at h3
theorem zip_fst{l m:List Nat}{d e:Nat}(h:(d,e)∈l.zip m):d∈l:=(List.of_mem_zip h).1
theorem zip_snd{l m:List Nat}{d e:Nat}(h:(d,e)∈l.zip m):e∈m:=(List.of_mem_zip h).2
theorem step_of_codes{X Y:List Cr}{l m:List Nat}(hl:IsPiece X l)(hm:IsPiece Y m)(h:l.flatMap (chunk X l)=m.flatMap (chunk Y m)):
 l.length=m.length∧∀p∈l.zip m,Step X Y (l.zip m) p.1 p.2:=by
 have hlen:l.length=m.length:=by
  have:=congrArg List.length h
  rw[flatMap_len (chunk_len X l),flatMap_len (chunk_len Y m)]at this;omega
 have hmap:=flatMap_eq (chunk_len X l) (chunk_len Y m) h
 refine⟨hlen,?_⟩
 rintro⟨d,e⟩ hz;have hc:=mem_zip_map hmap hz;have hd:=zip_fst hz;have he:=zip_snd hz
 have hin:∀s,s<4→(other X (d,s)).1∈l:=fun s hs=>((hl.con d hd).2 _).2 (.step (.refl _) (by unfold nbc;rw[if_pos (hl.con d hd).1];exact mem_nbs.2 ⟨s,hs,rfl⟩))
 have him:∀s,s<4→(other Y (e,s)).1∈m:=fun s hs=>((hm.con e he).2 _).2 (.step (.refl _) (by unfold nbc;rw[if_pos (hm.con e he).1];exact mem_nbs.2 ⟨s,hs,rfl⟩))
 unfold chunk at hc
 simp only[List.cons.injEq,and_true]at hc;obtain⟨c0,i0,s0,i1,s1,i2,s2,i3,s3⟩:=hc
 refine⟨plusI_inj c0,fun s hs=>?_,fun s hs=>?_⟩
 · match s,hs with
   |0,_=>exact Int.ofNat_inj.1 s0
   |1,_=>exact Int.ofNat_inj.1 s1
   |2,_=>exact Int.ofNat_inj.1 s2
   |3,_=>exact Int.ofNat_inj.1 s3
 · refine zip_at hlen (hin s hs) (him s hs) ?_
   match s,hs with
   |0,_=>exact Int.ofNat_inj.1 i0
   |1,_=>exact Int.ofNat_inj.1 i1
   |2,_=>exact Int.ofNat_inj.1 i2
   |3,_=>exact Int.ofNat_inj.1 i3

structure Pat(W:List (Nat×Nat)):Prop where
 iff:∀p∈W,∀q∈W,p.1=q.1↔p.2=q.2
theorem meet_pair{W:List (Nat×Nat)}(hW:Pat W){N N':List Nat}(hl:N.length=N'.length)(hN:∀p∈N.zip N',p∈W){a a':Nat}(ha:(a,a')∈W):
 (a∈N↔a'∈N')∧(meet N a).length=(meet N' a').length∧∀p∈(meet N a).zip (meet N' a'),p∈W:=by
 have hiff:a∈N↔a'∈N':=by
  constructor
  · intro h
    obtain⟨i,hi,rfl⟩:=List.getElem_of_mem h
    have hz:(N[i],N'[i])∈N.zip N':=by
     have hz':i<(N.zip N').length:=by rw[List.length_zip];omega
     have:=List.getElem_mem hz'
     rwa [List.getElem_zip]at this
    have:=(hW.iff _ (hN _ hz) _ ha).1 rfl;simp only at this
    rw[←this];exact List.getElem_mem _
  · intro h
    obtain⟨i,hi,rfl⟩:=List.getElem_of_mem h
    have hz:(N[i],N'[i])∈N.zip N':=by
     have hz':i<(N.zip N').length:=by rw[List.length_zip];omega
     have:=List.getElem_mem hz'
     rwa [List.getElem_zip]at this
    have:=(hW.iff _ (hN _ hz) _ ha).2 rfl;simp only at this
    rw[←this];exact List.getElem_mem _
 refine⟨hiff,?_,?_⟩
 · unfold meet
   by_cases c:a∈N
   · rw[if_pos c,if_pos (hiff.1 c),hl]
   · rw[if_neg c,if_neg (fun x=>c (hiff.2 x))];simp[hl]
 · unfold meet
   by_cases c:a∈N
   · rw[if_pos c,if_pos (hiff.1 c)];exact hN
   · rw[if_neg c,if_neg (fun x=>c (hiff.2 x)),List.zip_append hl]
     intro p hp
     rcases List.mem_append.1 hp with hp|hp
     · exact hN p hp
     · simp only[List.zip_cons_cons,List.zip_nil_right,List.mem_singleton]at hp
       rw[hp];exact ha
theorem meet_nodup{N:List Nat}(h:N.Nodup)(a:Nat):(meet N a).Nodup:=by
 unfold meet;split
 · exact h
 · next c=>exact nodup_snoc h c
theorem mem_meet{N:List Nat}{a x:Nat}:x∈meet N a↔x∈N∨x=a:=by
 unfold meet;split
 · next c=>exact⟨.inl,fun h=>h.elim id (fun e=>e ▸ c)⟩
 · simp
theorem meets_nodup:∀(l:List Nat) {N:List Nat},N.Nodup→(l.foldl meet N).Nodup
 |[],_,h=>h
 |a :: l,_,h=>meets_nodup l (meet_nodup h a)
theorem mem_meets:∀{l N:List Nat} {x:Nat},x∈l.foldl meet N↔x∈N∨x∈l
 |[],N,x=>by simp
 |a :: l,N,x=>by
  rw[List.foldl_cons,mem_meets,mem_meet,List.mem_cons,or_assoc]
theorem firsts_nodup(l:List Nat):(firsts l).Nodup:=meets_nodup l (by simp)
theorem mem_firsts{l:List Nat}{x:Nat}:x∈firsts l↔x∈l:=by unfold firsts;rw[mem_meets];simp
theorem meets_pair{W:List (Nat×Nat)}(hW:Pat W):∀{u v N N':List Nat},u.length=v.length→(∀p∈u.zip v,p∈W)→N.length=N'.length→(∀p∈N.zip N',p∈W) →
 (u.foldl meet N).length=(v.foldl meet N').length∧∀p∈(u.foldl meet N).zip (v.foldl meet N'),p∈W
 |[],[],_,_,_,_,hl,hN=>⟨hl,hN⟩
 |[],_ :: _,_,_,h,_,_,_=>by simp at h
 |_ :: _,[],_,_,h,_,_,_=>by simp at h
 |a :: u,b :: v,N,N',h,hu,hl,hN=>by
  obtain⟨_,h2,h3⟩:=meet_pair hW hl hN (hu (a,b) (by simp))
  exact meets_pair hW (u:=u) (v:=v) (by simpa using h) (fun p hp=>hu p (by simp[hp])) h2 h3
theorem firsts_pair{u v:List Nat}(hl:u.length=v.length)(hW:Pat (u.zip v)){a b:Nat}(h:(a,b)∈u.zip v):(firsts u).idxOf a=(firsts v).idxOf b:=by
 obtain⟨h1,h2⟩:=meets_pair hW (u:=u) (v:=v) (N:=[]) (N':=[]) hl (fun p hp=>hp) rfl (fun p hp=>by cases hp);have ha:a∈firsts u:=mem_firsts.2 (zip_fst h);have h3:=List.idxOf_lt_length_of_mem ha;have e3:=List.getElem_idxOf h3
 have h4:(firsts u).idxOf a<(firsts v).length:=by have:(firsts u).length=(firsts v).length:=h1;omega
 have hz:((firsts u)[(firsts u).idxOf a],(firsts v)[(firsts u).idxOf a])∈(firsts u).zip (firsts v):=by
  have hz':(firsts u).idxOf a<((firsts u).zip (firsts v)).length:=by rw[List.length_zip];omega
  have:=List.getElem_mem hz'
  rwa [List.getElem_zip]at this
 have e4:=(hW.iff _ (h2 _ hz) _ h).1 e3;simp only at e4;rw[←e4,(firsts_nodup v).idxOf_getElem]
end Go.Proofs.YtlicglicfijelaaGreat.Kn

namespace Go.Proofs.YtlicglicfijelaaGreat.Kn

theorem perm_of_sub{l m:List Nat}(hl:l.Nodup)(hm:m.Nodup)(hs:∀x∈l,x∈m)(hlen:m.length≤l.length):l.Perm m:=by
 refine(List.perm_ext_iff_of_nodup hl hm).2 fun x=>⟨hs x,fun hx=>?_⟩
 refine Classical.byContradiction fun c=>?_
 have:=fuel hl hs c hx
 omega
theorem map_nodup{l:List Nat}{f:Nat→Nat}(hl:l.Nodup)(hinj:∀x∈l,∀y∈l,f x=f y→x=y):(l.map f).Nodup:=by
 rw[List.Nodup,List.pairwise_map]
 refine List.Pairwise.imp_of_mem (fun hx hy hne e=>?_) hl
 exact hne (hinj _ hx _ hy e)
theorem inj_perm{l:List Nat}(hl:l.Nodup){f:Nat→Nat}(hf:∀x∈l,f x∈l)(hinj:∀x∈l,∀y∈l,f x=f y→x=y):(l.map f).Perm l:=
 perm_of_sub (map_nodup hl hinj) hl (fun x hx=>by obtain⟨y,hy,rfl⟩:=List.mem_map.1 hx;exact hf y hy) (by simp)

structure Iso(X Y:List Cr)(f t:Nat→Nat):Prop where
 len:Y.length=X.length
 lt:∀i,i<X.length→f i<X.length
 inj:∀i j,i<X.length→j<X.length→f i=f j→i=j
 cr_:∀i,i<X.length→cr Y i=(cr X (f i)).ren t
 tlt:∀a,isArc X a→isArc X (t a)
 tinj:∀a b,isArc X a→isArc X b→t a=t b→a=b
theorem ren_arc(x:Cr)(t:Nat→Nat)(s:Nat):(x.ren t).arc s=(t (x.arc s).toNat:Nat):=by
 unfold Cr.ren Cr.arc
 split
 · rfl
 split
 · rfl
 split<;>rfl
theorem ok_mk{X:List Cr}(h1:∀p,isPl X p→1≤at_ X p∧at_ X p≤(nArcs X:Int))(h2:∀(io:Bool) (a:Nat),isArc X a→∃p,isPl X p∧cm X p=io∧at_ X p=a)
 (h3:∀p q,isPl X p→isPl X q→cm X p=cm X q→at_ X p=at_ X q→p=q):Ok X:=by
 refine⟨h1,fun io a ha hb=>?_,h3⟩
 obtain⟨p,hp,e1,e2⟩:=h2 io a ⟨ha,hb⟩;have hp':1≤cnt X io (4*X.length) a:=cnt_pos (pk_lt hp) (by rw[pl_pk hp.2];exact e1) (by rw[pl_pk hp.2];exact e2);obtain⟨j,hj,e,e3,e4⟩:=last_of hp'
 unfold endP
 rw[e]
 exact⟨isPl_pl hj,e3,e4⟩

section
variable {X Y:List Cr} {f t:Nat→Nat}
theorem Iso.arcs_eq(h:Iso X Y f t):nArcs Y=nArcs X:=by unfold nArcs;rw[h.len]
theorem Iso.surj(h:Iso X Y f t){c:Nat}(hc:c<X.length):∃i,i<X.length∧f i=c:=by
 have:=inj_perm (l:=List.range X.length) List.nodup_range (f:=f) (fun x hx=>List.mem_range.2 (h.lt x (List.mem_range.1 hx))) (fun x hx y hy=>h.inj x y (List.mem_range.1 hx) (List.mem_range.1 hy));obtain⟨i,hi,e⟩:=List.mem_map.1 (this.mem_iff.2 (List.mem_range.2 hc))
 exact⟨i,List.mem_range.1 hi,e⟩
theorem Iso.tsurj(h:Iso X Y f t){c:Nat}(hc:isArc X c):∃i,isArc X i∧t i=c:=by
 have:=inj_perm (l:=arcs X) (arcs_nodup X) (f:=t) (fun x hx=>mem_arcs.2 (h.tlt x (mem_arcs.1 hx))) (fun x hx y hy=>h.tinj x y (mem_arcs.1 hx) (mem_arcs.1 hy));obtain⟨i,hi,e⟩:=List.mem_map.1 (this.mem_iff.2 (mem_arcs.2 hc))
 exact⟨i,mem_arcs.1 hi,e⟩
def onP(f:Nat→Nat)(p:Pl):Pl:=(f p.1,p.2)
theorem Iso.isArc(h:Iso X Y f t){a:Nat}:isArc Y a↔isArc X a:=by unfold Kn.isArc;rw[h.arcs_eq]
theorem Iso.isPl(h:Iso X Y f t){p:Pl}(hp:isPl Y p):isPl X (onP f p):=⟨h.lt _ (by have:=hp.1;rwa [h.len]at this),hp.2⟩
theorem Iso.at_(h:Iso X Y f t){p:Pl}(hp:Kn.isPl Y p):at_ Y p=(t (arcN X (onP f p)):Nat):=by
 unfold Kn.at_ arcN Kn.at_ onP
 rw[h.cr_ _ (by have:=hp.1;rwa [h.len]at this),ren_arc]
theorem Iso.cm(h:Iso X Y f t){p:Pl}(hp:Kn.isPl Y p):cm Y p=cm X (onP f p):=by
 unfold Kn.cm onP
 rw[h.cr_ _ (by have:=hp.1;rwa [h.len]at this)]
 rfl
theorem Iso.onP_inj(h:Iso X Y f t){p q:Pl}(hp:Kn.isPl Y p)(hq:Kn.isPl Y q)(e:onP f p=onP f q):p=q:=by
 obtain⟨a,b⟩:=p;obtain⟨c,d⟩:=q
 unfold onP at e
 injection e with e1 e2
 simp only at e1 e2;rw[h.inj a c (by have:=hp.1;rwa [h.len]at this) (by have:=hq.1;rwa [h.len]at this) e1,e2]
theorem Iso.ok(h:Iso X Y f t)(hX:Ok X):Ok Y:=by
 refine ok_mk (fun p hp=>?_) (fun io a ha=>?_) (fun p q hp hq hc ha=>?_)
 · rw[h.at_ hp,h.arcs_eq]
   have:=h.tlt _ (hX.isArc (h.isPl hp))
   unfold Kn.isArc at this;omega
 · obtain⟨b,hb,rfl⟩:=h.tsurj (h.isArc.1 ha)
   have hq:=hX.isPl_end (io:=io) hb;obtain⟨i,hi,e⟩:=h.surj hq.1;have hp:Kn.isPl Y (i,(endP X io b).2):=⟨by rw[h.len];exact hi,hq.2⟩
   have ep:onP f (i,(endP X io b).2)=endP X io b:=by unfold onP;rw[e]
   refine⟨_,hp,?_,?_⟩
   · rw[h.cm hp,ep,hX.cm_end hb]
   · rw[h.at_ hp,ep,hX.arc_end hb]
 · refine h.onP_inj hp hq (hX.uniq _ _ (h.isPl hp) (h.isPl hq) (by rw[←h.cm hp,←h.cm hq,hc]) ?_)
   rw[h.at_ hp,h.at_ hq,Int.ofNat_inj]at ha;rw[←hX.arcN_eq (h.isPl hp),←hX.arcN_eq (h.isPl hq),h.tinj _ _ (hX.isArc (h.isPl hp)) (hX.isArc (h.isPl hq)) ha]
theorem Iso.arcN(h:Iso X Y f t){p:Pl}(hp:Kn.isPl Y p):arcN Y p=t (arcN X (onP f p)):=by
 unfold Kn.arcN;rw[h.at_ hp];rfl
theorem Iso.other(h:Iso X Y f t)(hX:Ok X){p:Pl}(hp:Kn.isPl Y p):onP f (other Y p)=other X (onP f p):=by
 have hY:=h.ok hX;have ho:=hY.isPl_other hp;have h1:=h.isPl hp;have h2:=h.isPl ho
 refine hX.uniq _ _ h2 (hX.isPl_other h1) ?_ ?_
 · rw[←h.cm ho,hY.cm_other hp,hX.cm_other h1,h.cm hp]
 · have e:t (Kn.arcN X (onP f (Kn.other Y p)))=t (Kn.arcN X (onP f p)):=by rw[←h.arcN ho,←h.arcN hp,hY.arc_other hp]
   have:=h.tinj _ _ (hX.isArc h2) (hX.isArc h1) e;rw[←hX.arcN_eq h2,←hX.arcN_eq (hX.isPl_other h1),hX.arc_other h1,this]
theorem idxOf_map{l:List Nat}{n a:Nat}(hinj:∀i j,i<n→j<n→f i=f j→i=j)(hl:∀x∈l,x<n)(ha:a<n):(l.map f).idxOf (f a)=l.idxOf a:=by
 induction l with
 |nil=>rfl
 |cons x xs ih=>
  rw[List.map_cons,List.idxOf_cons,List.idxOf_cons,ih (fun y hy=>hl y (by simp[hy]))]
  by_cases c:x=a
  · subst c;simp
  · have:¬f x=f a:=fun e=>c (hinj x a (hl x (by simp)) ha e)
    have e1:(x==a)=false:=by simpa using c
    have e2:(f x==f a)=false:=by simpa using this
    rw[e1,e2]
theorem mem_map_inj{l:List Nat}{n a:Nat}(hinj:∀i j,i<n→j<n→f i=f j→i=j)(hl:∀x∈l,x<n)(ha:a<n):f a∈l.map f↔a∈l:=by
 rw[List.mem_map]
 exact⟨fun⟨x,hx,e⟩=>hinj x a (hl x hx) ha e ▸ hx,fun h=>⟨a,h,rfl⟩⟩
structure Rel(n:Nat)(f:Nat→Nat)(s u:Vw):Prop where
 fst:u.1=s.1.map f
 snd:u.2=s.2
 lt:∀x∈s.1,x<n
theorem Iso.seePl(h:Iso X Y f t)(hX:Ok X){s u:Vw}(hr:Rel X.length f s u){p:Pl}(hp:Kn.isPl Y p):Rel X.length f (seePl Y s p) (seePl X u (onP f p)):=by
 have ho:=h.other hX hp
 have hl:(Kn.other Y p).1<X.length:=by have:=((h.ok hX).isPl_other hp).1;rwa [h.len]at this
 have e1:(Kn.other X (onP f p)).1=f (Kn.other Y p).1:=by rw[←ho];rfl
 have e2:(Kn.other X (onP f p)).2=(Kn.other Y p).2:=by rw[←ho];rfl
 unfold Kn.seePl
 refine⟨?_,?_,fun x hx=>?_⟩
 · simp only
   rw[e1,hr.fst]
   by_cases c:(Kn.other Y p).1∈s.1
   · rw[if_pos c,if_pos ((mem_map_inj h.inj hr.lt hl).2 c)]
   · rw[if_neg c,if_neg (fun x=>c ((mem_map_inj h.inj hr.lt hl).1 x)),List.map_append];rfl
 · simp only
   rw[e1,e2,hr.snd,hr.fst,idxOf_map h.inj hr.lt hl]
 · simp only at hx
   split at hx
   · exact hr.lt x hx
   · rcases List.mem_append.1 hx with hx|hx
     · exact hr.lt x hx
     · rw[List.mem_singleton]at hx;subst hx;exact hl
theorem Iso.seeC(h:Iso X Y f t)(hX:Ok X){s u:Vw}(hr:Rel X.length f s u){i:Nat}(hi:i<X.length):Rel X.length f (seeC Y s i) (seeC X u (f i)):=by
 have hp:∀k,k<4→Kn.isPl Y (i,k):=fun k hk=>⟨by rw[h.len];exact hi,hk⟩
 have h0:Rel X.length f (s.1,s.2++[plusI (cr Y i)]) (u.1,u.2++[plusI (cr X (f i))]):=by
  refine⟨hr.fst,?_,hr.lt⟩
  simp only
  rw[hr.snd,h.cr_ i hi];rfl
 exact h.seePl hX (h.seePl hX (h.seePl hX (h.seePl hX h0 (hp 0 (by omega))) (hp 1 (by omega))) (hp 2 (by omega))) (hp 3 (by omega))
theorem Iso.seeG(h:Iso X Y f t)(hX:Ok X):∀(k i:Nat) {s u:Vw},Rel X.length f s u→Rel X.length f (seeG Y k i s) (seeG X k i u)
 |0,_,s,u,hr=>by rw[Kn.seeG,Kn.seeG];exact hr
 |k+1,i,s,u,hr=>by
  rw[Kn.seeG,Kn.seeG]
  have hl:u.1.length=s.1.length:=by rw[hr.fst];simp
  by_cases c:i<s.1.length
  · rw[if_pos c,if_pos (by omega)]
    refine h.seeG hX k (i+1) ?_
    have e:u.1.getD i 0=f (s.1.getD i 0):=by
     rw[List.getD_eq_getElem?_getD,List.getD_eq_getElem?_getD,hr.fst,List.getElem?_map,List.getElem?_eq_getElem c];rfl
    rw[e]
    exact h.seeC hX hr (hr.lt _ (getD_mem c))
  · rw[if_neg c,if_neg (by omega)];exact hr
theorem Iso.see(h:Iso X Y f t)(hX:Ok X){i:Nat}(hi:i<X.length):Rel X.length f (see Y i) (see X (f i)):=by
 unfold Kn.see
 rw[h.len]
 exact h.seeG hX _ _ ⟨rfl,rfl,fun x hx=>by rw[List.mem_singleton]at hx;subst hx;exact hi⟩
theorem Iso.con(h:Iso X Y f t)(hX:Ok X){i j:Nat}(hi:i<X.length)(hj:j<X.length):Con Y i j↔Con X (f i) (f j):=by
 have hr:=h.see hX hi;rw[←(h.ok hX).mem_see (by rw[h.len];exact hi),←hX.mem_see (h.lt i hi),hr.fst,mem_map_inj h.inj hr.lt hj]
end

def IsBest(X:List Cr)(c:Nat)(k:List Int):Prop:=(∃d,Con X c d∧(see X d).2=k)∧∀d,Con X c d→cmpL k (see X d).2≤0
theorem IsBest.uniq{X:List Cr}{c:Nat}{k k':List Int}(h:IsBest X c k)(h':IsBest X c k'):k=k':=by
 obtain⟨d,hd,rfl⟩:=h.1;obtain⟨d',hd',rfl⟩:=h'.1;have h1:=h.2 d' hd';have h2:=h'.2 d hd;have h3:=cmpL_anti (see X d).2 (see X d').2
 exact cmpL_zero.1 (by omega)
theorem Iso.best{X Y:List Cr}{f t:Nat→Nat}(h:Iso X Y f t)(hX:Ok X){i:Nat}(hi:i<X.length){k:List Int}:IsBest Y i k↔IsBest X (f i) k:=by
 have hY:=h.ok hX
 have hiY:i<Y.length:=by rw[h.len];exact hi
 constructor
 · rintro⟨⟨d,hd,rfl⟩,h2⟩
   have hdl:d<X.length:=by have:=hY.con_lt hiY hd;rwa [h.len]at this
   refine⟨⟨f d,(h.con hX hi hdl).1 hd,(h.see hX hdl).snd⟩,fun e he=>?_⟩
   obtain⟨j,hj,rfl⟩:=h.surj (hX.con_lt (h.lt i hi) he);rw[(h.see hX hj).snd]
   exact h2 j ((h.con hX hi hj).2 he)
 · rintro⟨⟨d,hd,rfl⟩,h2⟩
   obtain⟨j,hj,rfl⟩:=h.surj (hX.con_lt (h.lt i hi) hd)
   refine⟨⟨j,(h.con hX hi hj).2 hd,(h.see hX hj).snd.symm⟩,fun e he=>?_⟩
   have hel:e<X.length:=by have:=hY.con_lt hiY he;rwa [h.len]at this
   rw[←(h.see hX hel).snd]
   exact h2 (f e) ((h.con hX hi hel).1 he)
theorem best_fold(X:List Cr):∀(l:List Nat) (d:Nat),∃e,(e=d∨e∈l)∧l.foldl (fun b c=>if cmpL (see X c).2 b.2<0 then see X c else b) (see X d)=see X e∧cmpL (see X e).2 (see X d).2≤0∧∀c∈l,cmpL (see X e).2 (see X c).2≤0
 |[],d=>⟨d,.inl rfl,rfl,by rw[cmpL_self];omega,fun c hc=>by cases hc⟩
 |c :: l,d=>by
  rw[List.foldl_cons]
  by_cases h:cmpL (see X c).2 (see X d).2<0
  · rw[if_pos h]
    obtain⟨e,h1,h2,h3,h4⟩:=best_fold X l c
    refine⟨e,?_,h2,cmpL_trans h3 (by omega),fun x hx=>?_⟩
    · rcases h1 with rfl|h1
      · exact .inr (by simp)
      · exact .inr (by simp[h1])
    · rcases List.mem_cons.1 hx with rfl|hx
      · exact h3
      · exact h4 x hx
  · rw[if_neg h]
    obtain⟨e,h1,h2,h3,h4⟩:=best_fold X l d
    refine⟨e,?_,h2,h3,fun x hx=>?_⟩
    · rcases h1 with rfl|h1
      · exact .inl rfl
      · exact .inr (by simp[h1])
    · rcases List.mem_cons.1 hx with rfl|hx
      · refine cmpL_trans h3 ?_
        have:=cmpL_anti (see X x).2 (see X d).2
        omega
      · exact h4 x hx
theorem best_is(X:List Cr){l:List Nat}(hl:l≠[]):∃e,e∈l∧best X l=see X e∧∀c∈l,cmpL (see X e).2 (see X c).2≤0:=by
 cases l with
 |nil=>exact absurd rfl hl
 |cons d l=>
  obtain⟨e,h1,h2,h3,h4⟩:=best_fold X l d
  refine⟨e,?_,h2,fun c hc=>?_⟩
  · rcases h1 with rfl|h1<;>simp[*]
  · rcases List.mem_cons.1 hc with rfl|hc
    · exact h3
    · exact h4 c hc
theorem IsPiece.see_perm{X:List Cr}{l:List Nat}(h:IsPiece X l)(hX:Ok X){c:Nat}(hc:c∈l):(see X c).1.Perm l:=
 (List.perm_ext_iff_of_nodup (hX.see_piece (h.con c hc).1).nodup h.nodup).2 fun x=>(hX.mem_see (h.con c hc).1).trans ((h.con c hc).2 x).symm
theorem IsPiece.best{X:List Cr}{l:List Nat}(h:IsPiece X l){c:Nat}(hc:c∈l):IsBest X c (Kn.best X l).2:=by
 obtain⟨e,he,h1,h2⟩:=best_is X h.ne;rw[h1]
 exact⟨⟨e,((h.con c hc).2 e).1 he,rfl⟩,fun d hd=>h2 d (((h.con c hc).2 d).2 hd)⟩
theorem IsPiece.best_len{X:List Cr}{l:List Nat}(h:IsPiece X l)(hX:Ok X):(Kn.best X l).2.length=9*l.length:=by
 obtain⟨e,he,h1,_⟩:=best_is X h.ne;rw[h1,hX.code_len (h.con e he).1,(h.see_perm hX he).length_eq]
theorem count_best{X:List Cr}(hX:Ok X)(k:List Int){P:Nat→Bool}(hP:∀c,P c=true↔IsBest X c k):∀(L:List (List Nat)),(∀l∈L,IsPiece X l)→9*L.flatten.countP P=(L.map fun l=>(best X l).2).count k*k.length
 |[],_=>by simp
 |l :: L,h=>by
  have ih:=count_best hX k hP L fun x hx=>h x (by simp[hx])
  have hl:=h l (by simp);rw[List.flatten_cons,List.countP_append,List.map_cons,List.count_cons,Nat.mul_add,ih,Nat.add_mul,Nat.add_comm]
  congr 1
  by_cases c:(best X l).2=k
  · have e1:((best X l).2==k)=true:=by simpa using c
    have e2:l.countP P=l.length:=List.countP_eq_length.2 fun x hx=>(hP x).2 (c ▸ hl.best hx)
    rw[e1,e2,←c,hl.best_len hX];simp
  · have e1:((best X l).2==k)=false:=by simpa using c
    have e2:l.countP P=0:=List.countP_eq_zero.2 fun x hx hb=>c ((hl.best hx).uniq ((hP x).1 hb))
    rw[e1,e2];simp
theorem exists_bool(P:Nat→Prop):∃Q:Nat→Bool,∀c,Q c=true↔P c:=
 ⟨fun c=>@decide (P c) (Classical.propDecidable _),fun c=>@decide_eq_true_iff (P c) (Classical.propDecidable _)⟩
theorem Iso.codes{X Y:List Cr}{f t:Nat→Nat}(h:Iso X Y f t)(hX:Ok X):((piecesL Y).map fun l=>(Kn.best Y l).2).Perm ((piecesL X).map fun l=>(Kn.best X l).2):=by
 have hY:=h.ok hX;rw[List.perm_iff_count]
 intro k
 obtain⟨P,hP⟩:=exists_bool fun c=>IsBest X c k
 obtain⟨Q,hQ⟩:=exists_bool fun c=>IsBest Y c k
 have h1:=count_best hX k hP _ hX.pieces_is;have h2:=count_best hY k hQ _ hY.pieces_is
 have h3:(piecesL Y).flatten.countP Q=(piecesL X).flatten.countP P:=by
  rw[hX.pieces_perm.countP_eq,hY.pieces_perm.countP_eq,h.len];have hp:=inj_perm (l:=List.range X.length) List.nodup_range (f:=f) (fun x hx=>List.mem_range.2 (h.lt x (List.mem_range.1 hx))) (fun x hx y hy=>h.inj x y (List.mem_range.1 hx) (List.mem_range.1 hy));rw[←hp.countP_eq P,List.countP_map]
  refine List.countP_congr fun x hx=>?_
  simp only[Function.comp,hP,hQ]
  exact h.best hX (List.mem_range.1 hx)
 rw[h3,h1]at h2
 by_cases c:k.length=0
 · have hk:k=[]:=List.eq_nil_of_length_eq_zero c
   have z:∀{Z:List Cr},Ok Z→((piecesL Z).map fun l=>(Kn.best Z l).2).count k=0:=fun {Z} hZ=>List.count_eq_zero.2 fun hm=>by
    obtain⟨l,hl,e⟩:=List.mem_map.1 hm;have h4:=(hZ.pieces_is l hl).best_len hZ;have h5:0<l.length:=List.length_pos_iff.2 (hZ.pieces_is l hl).ne
    rw[e,c]at h4;omega
   rw[z hX,z hY]
 · exact(Nat.eq_of_mul_eq_mul_right (by omega) h2).symm

theorem cmpV_anti(a b:Vw):cmpV b a = -cmpV a b:=by
 unfold cmpV
 have:=cmpL_anti a.2 b.2
 split<;>split<;>omega
theorem cmpV_trans{a b c:Vw}(h:cmpV a b≤0)(k:cmpV b c≤0):cmpV a c≤0:=by
 unfold cmpV at h k ⊢
 split at h<;>split at k<;>split
 · exact cmpL_trans h k
 all_goals omega
theorem insV_perm(x:Vw):∀l,(insV x l).Perm (x :: l)
 |[]=>.refl _
 |y :: ys=>by
  rw[insV];split
  · exact .refl _
  · exact((insV_perm x ys).cons y).trans (.swap _ _ _)
theorem insV_sorted(x:Vw):∀{l:List Vw},l.Pairwise (fun a b=>cmpV a b≤0)→(insV x l).Pairwise (fun a b=>cmpV a b≤0)
 |[],_=>by rw[insV];simp
 |y :: ys,h=>by
  rw[List.pairwise_cons]at h
  rw[insV];split
  · next c=>
    rw[List.pairwise_cons,List.pairwise_cons]
    refine⟨fun z hz=>?_,h⟩
    rcases List.mem_cons.1 hz with rfl|hz
    · omega
    · exact cmpV_trans (b:=y) (by omega) (h.1 z hz)
  · next c=>
    rw[List.pairwise_cons]
    refine⟨fun z hz=>?_,insV_sorted x h.2⟩
    rcases List.mem_cons.1 ((insV_perm x ys).mem_iff.1 hz)with rfl|hz
    · have:=cmpV_anti z y;omega
    · exact h.1 z hz
theorem sortV_fold:∀(l s:List Vw),s.Pairwise (fun a b=>cmpV a b≤0)→(l.foldl (fun s x=>insV x s) s).Perm (s++l)∧(l.foldl (fun s x=>insV x s) s).Pairwise (fun a b=>cmpV a b≤0)
 |[],s,h=>⟨by simp,h⟩
 |x :: l,s,h=>by
  obtain⟨h1,h2⟩:=sortV_fold l (insV x s) (insV_sorted x h)
  refine⟨h1.trans ?_,h2⟩
  exact((insV_perm x s).append_right l).trans List.perm_middle.symm
theorem sortV_perm(l:List Vw):(sortV l).Perm l:=by
 have:=(sortV_fold l [] (by simp)).1
 rwa [List.nil_append]at this
theorem sortV_sorted(l:List Vw):(sortV l).Pairwise (fun a b=>cmpV a b≤0):=(sortV_fold l [] (by simp)).2

structure IsVw(X:List Cr)(v:Vw):Prop where
 piece:IsPiece X v.1
 code:v.2=v.1.flatMap (chunk X v.1)
theorem IsVw.len{X:List Cr}{v:Vw}(h:IsVw X v):v.2.length=9*v.1.length:=by rw[h.code,flatMap_len (chunk_len X _)]
theorem Ok.see_vw{X:List Cr}(h:Ok X){c:Nat}(hc:c<X.length):IsVw X (see X c):=⟨h.see_piece hc,h.see_code hc⟩
theorem Ok.views{X:List Cr}(h:Ok X):(∀v∈viewsL X,IsVw X v)∧(orderL X).Perm (List.range X.length):=by
 have hb:∀l∈piecesL X,∃c∈l,Kn.best X l=see X c:=fun l hl=>by
  obtain⟨e,he,h1,_⟩:=best_is X (h.pieces_is l hl).ne
  exact⟨e,he,h1⟩
 have hp:=sortV_perm ((piecesL X).map (Kn.best X))
 refine⟨fun v hv=>?_,?_⟩
 · obtain⟨l,hl,rfl⟩:=List.mem_map.1 (hp.mem_iff.1 hv)
   obtain⟨c,hc,e⟩:=hb l hl;rw[e]
   exact h.see_vw ((h.pieces_is l hl).con c hc).1
 · refine(List.Perm.flatMap_right _ hp).trans (.trans ?_ h.pieces_perm)
   have:∀L:List (List Nat),(∀l∈L,l∈piecesL X)→((L.map (Kn.best X)).flatMap (·.1)).Perm L.flatten:=by
    intro L
    induction L with
    |nil=>intro _;exact .refl _
    |cons l L ih=>
     intro hL
     rw[List.map_cons,List.flatMap_cons,List.flatten_cons]
     refine List.Perm.append ?_ (ih fun x hx=>hL x (by simp[hx]))
     obtain⟨c,hc,e⟩:=hb l (hL l (by simp));rw[e]
     exact(h.pieces_is l (hL l (by simp))).see_perm h hc
   exact this _ fun l hl=>hl
def cmpC(a b:List Int):Int:=if (a.length:Int)-b.length=0 then cmpL a b else(a.length:Int)-b.length
theorem codes_eq{X Y:List Cr}{vs ws:List Vw}(hv:∀v∈vs,IsVw X v)(hw:∀v∈ws,IsVw Y v)(h1:vs.Pairwise (fun a b=>cmpV a b≤0))(h2:ws.Pairwise (fun a b=>cmpV a b≤0))(hp:(vs.map (·.2)).Perm (ws.map (·.2))):
 vs.map (·.2)=ws.map (·.2):=by
 have key:∀{Z:List Cr} {us:List Vw},(∀v∈us,IsVw Z v)→us.Pairwise (fun a b=>cmpV a b≤0)→(us.map (·.2)).Pairwise (fun a b=>cmpC a b≤0):=by
  intro Z us hu hs
  rw[List.pairwise_map]
  refine List.Pairwise.imp_of_mem (fun {a b} ha hb hab=>?_) hs
  have l1:=(hu a ha).len;have l2:=(hu b hb).len
  unfold cmpV at hab
  unfold cmpC
  split at hab<;>split<;>omega
 refine hp.eq_of_pairwise (le:=fun a b=>cmpC a b≤0) (fun a b _ _ hab hba=>?_) (key hv h1) (key hw h2)
 unfold cmpC at hab hba
 have:=cmpL_anti a b
 split at hab<;>split at hba
 · exact cmpL_zero.1 (by omega)
 all_goals omega

theorem Step.mono{X Y:List Cr}{Z Z':List (Nat×Nat)}{d e:Nat}(h:Step X Y Z d e)(hs:∀p∈Z,p∈Z'):Step X Y Z' d e:=⟨h.plus,h.side,fun s h4=>hs _ (h.next s h4)⟩
theorem steps{X Y:List Cr}:∀{vs ws:List Vw},(∀v∈vs,IsVw X v)→(∀v∈ws,IsVw Y v)→vs.map (·.2)=ws.map (·.2) →
 (vs.flatMap (·.1)).length=(ws.flatMap (·.1)).length∧∀p∈(vs.flatMap (·.1)).zip (ws.flatMap (·.1)),Step X Y ((vs.flatMap (·.1)).zip (ws.flatMap (·.1))) p.1 p.2
 |[],[],_,_,_=>⟨rfl,fun p hp=>by cases hp⟩
 |[],_ :: _,_,_,h=>by simp at h
 |_ :: _,[],_,_,h=>by simp at h
 |v :: vs,w :: ws,hv,hw,h=>by
  rw[List.map_cons,List.map_cons,List.cons.injEq]at h;obtain⟨i1,i2⟩:=steps (fun x hx=>hv x (by simp[hx])) (fun x hx=>hw x (by simp[hx])) h.2;have h1:=hv v (by simp);have h2:=hw w (by simp);obtain⟨j1,j2⟩:=step_of_codes h1.piece h2.piece (by rw[←h1.code,←h2.code,h.1]);rw[List.flatMap_cons,List.flatMap_cons,List.zip_append j1]
  refine⟨by rw[List.length_append,List.length_append,i1,j1],fun p hp=>?_⟩
  rcases List.mem_append.1 hp with hp|hp
  · exact(j2 p hp).mono fun q hq=>List.mem_append.2 (.inl hq)
  · exact(i2 p hp).mono fun q hq=>List.mem_append.2 (.inr hq)
theorem zip_fun{l m:List Nat}(hl:l.Nodup){d e e':Nat}(h:(d,e)∈l.zip m)(h':(d,e')∈l.zip m):e=e':=by
 obtain⟨i,hi,e1⟩:=List.getElem_of_mem h;obtain⟨j,hj,e2⟩:=List.getElem_of_mem h';rw[List.length_zip]at hi hj;rw[List.getElem_zip,Prod.mk.injEq]at e1 e2;have:i=j:=(List.getElem_inj hl).1 (e1.1.trans e2.1.symm);subst this
 exact e1.2.symm.trans e2.2
theorem zip_swap{l m:List Nat}{d e:Nat}(h:(d,e)∈l.zip m):(e,d)∈m.zip l:=by
 obtain⟨i,hi,e1⟩:=List.getElem_of_mem h;rw[List.length_zip]at hi;rw[List.getElem_zip,Prod.mk.injEq]at e1
 have h3:i<(m.zip l).length:=by rw[List.length_zip];omega
 have:(m.zip l)[i]=(e,d):=by rw[List.getElem_zip,e1.1,e1.2]
 exact this ▸ List.getElem_mem h3
theorem mem_zip_arcs{X Y:List Cr}{a b:Nat}:∀{l m:List Nat},l.length=m.length→(a,b)∈(l.flatMap (arcsOf X)).zip (m.flatMap (arcsOf Y))→∃d e s,(d,e)∈l.zip m∧s<4∧a=arcN X (d,s)∧b=arcN Y (e,s)
 |[],[],_,h=>by cases h
 |[],_ :: _,h,_=>by simp at h
 |_ :: _,[],h,_=>by simp at h
 |d :: l,e :: m,hl,h=>by
  rw[List.flatMap_cons,List.flatMap_cons,List.zip_append (by rfl)]at h
  rcases List.mem_append.1 h with h|h
  · unfold arcsOf at h
    simp only[List.zip_cons_cons,List.zip_nil_right,List.mem_cons,List.not_mem_nil,or_false,Prod.mk.injEq]at h
    rcases h with⟨h1,h2⟩|⟨h1,h2⟩|⟨h1,h2⟩|⟨h1,h2⟩
    · exact⟨d,e,0,by simp,by omega,h1,h2⟩
    · exact⟨d,e,1,by simp,by omega,h1,h2⟩
    · exact⟨d,e,2,by simp,by omega,h1,h2⟩
    · exact⟨d,e,3,by simp,by omega,h1,h2⟩
  · obtain⟨d',e',s,h1,h2,h3,h4⟩:=mem_zip_arcs (by simpa using hl) h
    exact⟨d',e',s,by simp[h1],h2,h3,h4⟩
theorem arcs_zip{X Y:List Cr}{d e s:Nat}(hs:s<4):∀{l m:List Nat},l.length=m.length→(d,e)∈l.zip m→(arcN X (d,s),arcN Y (e,s))∈(l.flatMap (arcsOf X)).zip (m.flatMap (arcsOf Y))
 |[],[],_,h=>by cases h
 |[],_ :: _,h,_=>by simp at h
 |_ :: _,[],h,_=>by simp at h
 |c :: l,k :: m,hl,h=>by
  rw[List.flatMap_cons,List.flatMap_cons,List.zip_append (by rfl),List.mem_append];rw[List.zip_cons_cons,List.mem_cons,Prod.mk.injEq]at h
  rcases h with⟨rfl,rfl⟩|h
  · left
    unfold arcsOf
    match s,hs with
    |0,_=>simp
    |1,_=>simp
    |2,_=>simp
    |3,_=>simp
  · exact .inr (arcs_zip hs (by simpa using hl) h)
theorem Ok.arc_eq{X:List Cr}(h:Ok X){p q:Pl}(hp:isPl X p)(hq:isPl X q):arcN X p=arcN X q↔q=p∨q=Kn.other X p:=by
 constructor
 · intro e
   have e':Kn.at_ X p=Kn.at_ X q:=by rw[←h.arcN_eq hp,←h.arcN_eq hq,e]
   by_cases c:Kn.cm X p=Kn.cm X q
   · exact .inl (h.uniq _ _ hp hq c e').symm
   · right
     refine h.uniq _ _ hq (h.isPl_other hp) ?_ ?_
     · rw[h.cm_other hp];revert c;cases Kn.cm X p<;>cases Kn.cm X q<;>simp
     · rw[←h.arcN_eq (h.isPl_other hp),h.arc_other hp,h.arcN_eq hp,e']
 · rintro(rfl|rfl)
   · rfl
   · exact(h.arc_other hp).symm
theorem pat_half{X Y:List Cr}(hX:Ok X)(hY:Ok Y){l m:List Nat}(hl:l.Nodup)(hlt:∀x∈l,x<X.length)(hmt:∀x∈m,x<Y.length)(hz:∀p∈l.zip m,Step X Y (l.zip m) p.1 p.2)
 {d e d' e' s s':Nat} (h:(d,e)∈l.zip m) (h':(d',e')∈l.zip m) (hs:s<4) (hs':s'<4) (k:arcN X (d,s)=arcN X (d',s')):arcN Y (e,s)=arcN Y (e',s'):=by
 have hp:isPl X (d,s):=⟨hlt _ (zip_fst h),hs⟩;have hq:isPl X (d',s'):=⟨hlt _ (zip_fst h'),hs'⟩;have hp':isPl Y (e,s):=⟨hmt _ (zip_snd h),hs⟩
 rcases (hX.arc_eq hp hq).1 k with e1|e1
 · injection e1 with e1 e2
   subst e1 e2;rw[zip_fun hl h h']
 · have h1:=hz _ h
   have hn:=h1.next s hs;have hsd:=h1.side s hs;simp only at hn hsd;rw[←e1]at hn hsd;simp only at hn hsd;have e2:=zip_fun hl h' hn
   have e3:((e',s'):Pl)=Kn.other Y (e,s):=by rw[e2,hsd]
   rw[e3,hY.arc_other hp']
theorem Step.swap{X Y:List Cr}{l m:List Nat}{d e:Nat}(h:Step X Y (l.zip m) d e):Step Y X (m.zip l) e d:=⟨h.plus.symm,fun s hs=>(h.side s hs).symm,fun s hs=>zip_swap (h.next s hs)⟩
theorem numbered_eq{X Y:List Cr}(hX:Ok X)(hY:Ok Y){l m:List Nat}(hl:l.Nodup)(hm:m.Nodup)(hlt:∀x∈l,x<X.length)(hmt:∀x∈m,x<Y.length)(hlen:l.length=m.length)
 (hz:∀p∈l.zip m,Step X Y (l.zip m) p.1 p.2):numbered X l=numbered Y m:=by
 have hpat:Pat ((l.flatMap (arcsOf X)).zip (m.flatMap (arcsOf Y))):=by
  refine⟨?_⟩
  rintro⟨a,b⟩ h1 ⟨a',b'⟩ h2;obtain⟨d,e,s,z1,hs,rfl,rfl⟩:=mem_zip_arcs hlen h1;obtain⟨d',e',s',z2,hs',rfl,rfl⟩:=mem_zip_arcs hlen h2
  refine⟨pat_half hX hY hl hlt hmt hz z1 z2 hs hs',?_⟩
  exact pat_half hY hX hm hmt hlt (fun p hp=>(hz (p.2,p.1) (zip_swap hp)).swap) (zip_swap z1) (zip_swap z2) hs hs'
 have hfl:(l.flatMap (arcsOf X)).length=(m.flatMap (arcsOf Y)).length:=by
  have:∀(Z:List Cr) (l:List Nat),(l.flatMap (arcsOf Z)).length=4*l.length:=fun Z l=>by
   induction l with
   |nil=>rfl
   |cons x xs ih=>rw[List.flatMap_cons,List.length_append,ih,List.length_cons];simp[arcsOf];omega
  rw[this,this,hlen]
 unfold numbered
 refine List.ext_getElem (by simp[hlen]) fun i h1 h2=>?_
 rw[List.length_map]at h1 h2;rw[List.getElem_map,List.getElem_map]
 have hzi:(l[i],m[i])∈l.zip m:=by
  have h3:i<(l.zip m).length:=by rw[List.length_zip];omega
  have:(l.zip m)[i]=(l[i],m[i]):=by rw[List.getElem_zip]
  exact this ▸ List.getElem_mem h3
 have hst:=hz _ hzi
 have ha:∀s,s<4→(firsts (l.flatMap (arcsOf X))).idxOf (arcN X (l[i],s))=(firsts (m.flatMap (arcsOf Y))).idxOf (arcN Y (m[i],s)):=fun s hs=>firsts_pair hfl hpat (arcs_zip hs hlen hzi)
 have a0:=ha 0 (by omega);have a1:=ha 1 (by omega);have a2:=ha 2 (by omega);have a3:=ha 3 (by omega);have hplus:=hst.plus;simp only at hplus
 unfold Cr.ren
 simp only
 unfold arcN Kn.at_ Cr.arc at a0 a1 a2 a3
 simp only[Nat.zero_ne_one,if_true,if_false,Nat.reduceEqDiff]at a0 a1 a2 a3;rw[a0,a1,a2,a3,hplus]
theorem Iso.form{X Y:List Cr}{f t:Nat→Nat}(h:Iso X Y f t)(hX:Ok X):formL X=formL Y:=by
 have hY:=h.ok hX;obtain⟨v1,p1⟩:=hX.views;obtain⟨v2,p2⟩:=hY.views
 have hc:(viewsL X).map (·.2)=(viewsL Y).map (·.2):=by
  refine codes_eq v1 v2 (sortV_sorted _) (sortV_sorted _) ?_
  refine((sortV_perm _).map _).trans (.trans ?_ ((sortV_perm _).map _).symm);rw[List.map_map,List.map_map]
  exact(h.codes hX).symm
 obtain⟨s1,s2⟩:=steps v1 v2 hc
 exact numbered_eq hX hY (p1.nodup_iff.2 List.nodup_range) (p2.nodup_iff.2 List.nodup_range) (fun x hx=>List.mem_range.1 (p1.mem_iff.1 hx)) (fun x hx=>List.mem_range.1 (p2.mem_iff.1 hx)) s1 s2
theorem Ok.numbered{X:List Cr}(h:Ok X){os:List Nat}(hp:os.Perm (List.range X.length)):Iso X (numbered X os) (fun i=>os.getD i 0) (fun a=>(firsts (os.flatMap (arcsOf X))).idxOf a+1):=by
 have hlen:os.length=X.length:=by rw[hp.length_eq,List.length_range]
 have hnd:os.Nodup:=hp.nodup_iff.2 List.nodup_range
 have hget:∀i (hi:i<os.length),os.getD i 0=os[i]:=fun i hi=>by rw[List.getD_eq_getElem?_getD,List.getElem?_eq_getElem hi];rfl
 have hmem:∀{a},a∈os.flatMap (arcsOf X)↔Kn.isArc X a:=fun {a}=>by
  rw[List.mem_flatMap]
  constructor
  · rintro⟨c,hc,ha⟩
    have hcl:=List.mem_range.1 (hp.mem_iff.1 hc)
    unfold arcsOf at ha
    simp only[List.mem_cons,List.not_mem_nil,or_false]at ha
    rcases ha with rfl|rfl|rfl|rfl
    · exact h.isArc ⟨hcl,by simp⟩
    · exact h.isArc ⟨hcl,by simp⟩
    · exact h.isArc ⟨hcl,by simp⟩
    · exact h.isArc ⟨hcl,by simp⟩
  · intro ha
    have hq:=h.isPl_end (io:=true) ha
    refine⟨(endP X true a).1,hp.mem_iff.2 (List.mem_range.2 hq.1),?_⟩
    have e:=h.arc_end (io:=true) ha
    unfold arcsOf
    obtain⟨c,s,hcs⟩:∃c s,endP X true a=(c,s):=⟨_,_,rfl⟩
    rw[hcs]at hq e ⊢;have hs:=hq.2;simp only at hs ⊢
    match s,hs with
    |0,_=>rw[←e];simp
    |1,_=>rw[←e];simp
    |2,_=>rw[←e];simp
    |3,_=>rw[←e];simp
 have hperm:(firsts (os.flatMap (arcsOf X))).Perm (arcs X):=(List.perm_ext_iff_of_nodup (firsts_nodup _) (arcs_nodup X)).2 fun a=>by rw[mem_firsts,hmem,mem_arcs]
 have hfl:(firsts (os.flatMap (arcsOf X))).length=nArcs X:=by rw[hperm.length_eq,arcs_length]
 refine⟨by unfold Kn.numbered;rw[List.length_map,hlen],fun i hi=>?_,fun i j hi hj e=>?_,fun i hi=>?_,fun a ha=>?_,fun a b ha hb e=>?_⟩
 · exact List.mem_range.1 (hp.mem_iff.1 (getD_mem (by omega)))
 · rw[hget i (by omega),hget j (by omega)]at e
   exact(List.getElem_inj hnd).1 e
 · rw[hget i (by omega)]
   unfold Kn.numbered cr
   rw[List.getD_eq_getElem?_getD,List.getElem?_map,List.getElem?_eq_getElem (by omega)]
   rfl
 · have:=List.idxOf_lt_length_of_mem (mem_firsts.2 (hmem.2 ha))
   unfold Kn.isArc;omega
 · have h1:=List.idxOf_lt_length_of_mem (mem_firsts.2 (hmem.2 ha))
   have h2:=List.idxOf_lt_length_of_mem (mem_firsts.2 (hmem.2 hb));have e1:=List.getElem_idxOf h1;have e2:=List.getElem_idxOf h2;simp only[Nat.add_right_cancel_iff]at e;rw[←e1,←e2]
   congr 1
end Go.Proofs.YtlicglicfijelaaGreat.Kn

namespace Go.Proofs.YtlicglicfijelaaGreat.Kn

noncomputable def tr (p:Prop):Bool:=@decide p (Classical.propDecidable p)
theorem tr_iff{p:Prop}:tr p=true↔p:=@decide_eq_true_iff p (Classical.propDecidable p)
theorem tr_congr{p q:Prop}(h:p↔q):tr p=tr q:=by
 rw[Bool.eq_iff_iff,tr_iff,tr_iff];exact h
theorem tr_false{p:Prop}:tr p=false↔¬p:=by
 constructor
 · intro h k;rw[tr_iff.2 k]at h;cases h
 · intro h;cases c:tr p with
   |false=>rfl
   |true=>exact absurd (tr_iff.1 c) h
def Least(R:Nat→Nat→Prop)(d:Nat):Prop:=∀e,e<d→¬R e d
noncomputable def cl (N:Nat) (R:Nat→Nat→Prop):Nat:=(List.range N).countP fun d=>tr (Least R d)
theorem cl_congr{N:Nat}{R R':Nat→Nat→Prop}(h:∀x y,R x y↔R' x y):cl N R=cl N R':=by
 have:R=R':=funext fun x=>funext fun y=>propext (h x y)
 rw[this]
theorem countP_congr'{l:List Nat}{p q:Nat→Bool}(h:∀x∈l,p x=q x):l.countP p=l.countP q:=by
 induction l with
 |nil=>rfl
 |cons a l ih=>
  rw[List.countP_cons,List.countP_cons,ih fun x hx=>h x (by simp[hx]),h a (by simp)]
theorem countP_but:∀{l:List Nat},l.Nodup→∀{p q:Nat→Bool} {x:Nat},x∈l→p x=true→(∀d∈l,q d=(p d&&decide (d≠x)))→l.countP q+1=l.countP p
 |[],_,_,_,_,hx,_,_=>by cases hx
 |a :: l,hn,p,q,x,hx,hp,hq=>by
  rw[List.nodup_cons]at hn;rw[List.countP_cons,List.countP_cons];have ha:=hq a (by simp)
  by_cases c:a=x
  · subst c
    have h1:l.countP q=l.countP p:=countP_congr' fun d hd=>by
     rw[hq d (by simp[hd])]
     have:d≠a:=fun e=>hn.1 (e ▸ hd)
     simp[this]
    rw[h1,ha,hp];simp
  · have h1:=countP_but hn.2 (p:=p) (q:=q) (x:=x) ((List.mem_cons.1 hx).resolve_left fun e=>c e.symm) hp fun d hd=>hq d (by simp[hd])
    rw[ha,decide_eq_true c,Bool.and_true]
    omega
theorem least_of{R:Nat→Nat→Prop}(hR:Equivalence R)(a:Nat):∃r,r≤a∧R r a∧Least R r:=by
 induction a using Nat.strongRecOn with
 |ind a ih=>
  by_cases c:∃e,e<a∧R e a
  · obtain⟨e,he,hr⟩:=c
    obtain⟨r,h1,h2,h3⟩:=ih e he
    exact⟨r,by omega,hR.trans h2 hr,h3⟩
  · exact⟨a,Nat.le_refl _,hR.refl a,fun e he hr=>c ⟨e,he,hr⟩⟩
theorem least_eq{R:Nat→Nat→Prop}(hR:Equivalence R){r s:Nat}(h:Least R r)(k:Least R s)(e:R r s):r=s:=by
 rcases Nat.lt_trichotomy r s with c|c|c
 · exact absurd e (k r c)
 · exact c
 · exact absurd (hR.symm e) (h s c)
def mrg(R:Nat→Nat→Prop)(a b x y:Nat):Prop:=R x y∨(R x a∧R b y)∨(R x b∧R a y)
theorem mrg_equiv{R:Nat→Nat→Prop}(hR:Equivalence R)(a b:Nat):Equivalence (mrg R a b):=by
 refine⟨fun x=>.inl (hR.refl x),fun {x y} h=>?_,fun {x y z} h k=>?_⟩
 · rcases h with h|⟨h1,h2⟩|⟨h1,h2⟩
   · exact .inl (hR.symm h)
   · exact .inr (.inr ⟨hR.symm h2,hR.symm h1⟩)
   · exact .inr (.inl ⟨hR.symm h2,hR.symm h1⟩)
 · rcases h with h|⟨h1,h2⟩|⟨h1,h2⟩<;>rcases k with k|⟨k1,k2⟩|⟨k1,k2⟩
   · exact .inl (hR.trans h k)
   · exact .inr (.inl ⟨hR.trans h k1,k2⟩)
   · exact .inr (.inr ⟨hR.trans h k1,k2⟩)
   · exact .inr (.inl ⟨h1,hR.trans h2 k⟩)
   · exact .inr (.inl ⟨h1,k2⟩)
   · exact .inl (hR.trans h1 k2)
   · exact .inr (.inr ⟨h1,hR.trans h2 k⟩)
   · exact .inl (hR.trans h1 k2)
   · exact .inr (.inr ⟨h1,k2⟩)
theorem mrg_swap{R:Nat→Nat→Prop}(a b x y:Nat):mrg R a b x y↔mrg R b a x y:=by
 unfold mrg
 constructor<;>rintro(h|h|h)
 · exact .inl h
 · exact .inr (.inr h)
 · exact .inr (.inl h)
 · exact .inl h
 · exact .inr (.inr h)
 · exact .inr (.inl h)
theorem mrg_same{R:Nat→Nat→Prop}(hR:Equivalence R){a b:Nat}(h:R a b)(x y:Nat):mrg R a b x y↔R x y:=by
 constructor
 · rintro(k|⟨k1,k2⟩|⟨k1,k2⟩)
   · exact k
   · exact hR.trans k1 (hR.trans h k2)
   · exact hR.trans k1 (hR.trans (hR.symm h) k2)
 · exact .inl
theorem cl_mrg_lt{N:Nat}{R:Nat→Nat→Prop}(hR:Equivalence R){a b ra rb:Nat}(hb:rb<N)(ha1:R ra a)(ha2:Least R ra)(hb1:R rb b)(hb2:Least R rb)(hlt:ra<rb):
 cl N (mrg R a b)+1=cl N R:=by
 unfold cl
 refine countP_but List.nodup_range (x:=rb) (List.mem_range.2 hb) (tr_iff.2 hb2) fun d _=>?_
 rw[Bool.eq_iff_iff,tr_iff,Bool.and_eq_true,tr_iff,decide_eq_true_eq]
 constructor
 · intro h
   refine⟨fun e he hr=>h e he (.inl hr),?_⟩
   rintro rfl
   exact h ra hlt (.inr (.inl ⟨ha1,hR.symm hb1⟩))
 · rintro⟨h,hne⟩ e he hm
   rcases hm with hm|⟨h1,h2⟩|⟨h1,h2⟩
   · exact h e he hm
   · exact hne (least_eq hR h hb2 (hR.trans (hR.symm h2) (hR.symm hb1)))
   · have h3:d=ra:=least_eq hR h ha2 (hR.trans (hR.symm h2) (hR.symm ha1))
     subst h3
     exact hb2 e (by omega) (hR.trans h1 (hR.symm hb1))
theorem cl_mrg{N:Nat}{R:Nat→Nat→Prop}(hR:Equivalence R){a b:Nat}(ha:a<N)(hb:b<N)(h:¬R a b):cl N (mrg R a b)+1=cl N R:=by
 obtain⟨ra,a1,a2,a3⟩:=least_of hR a;obtain⟨rb,b1,b2,b3⟩:=least_of hR b
 rcases Nat.lt_trichotomy ra rb with c|c|c
 · exact cl_mrg_lt hR (by omega) a2 a3 b2 b3 c
 · subst c
   exact absurd (hR.trans (hR.symm a2) b2) h
 · rw[cl_congr (mrg_swap a b)]
   exact cl_mrg_lt hR (by omega) b2 b3 a2 a3 c

def it{α:Type}(f:α→α):Nat→α→α
 |0,x=>x
 |n+1,x=>f (it f n x)
theorem it_add{α:Type}(f:α→α)(n:Nat)(x:α):∀m,it f (m+n) x=it f m (it f n x)
 |0=>by rw[Nat.zero_add];rfl
 |m+1=>by rw[Nat.succ_add,it,it,it_add f n x m]
def Orb(f:Nat→Nat)(x y:Nat):Prop:=∃n,it f n x=y
structure Pm(N:Nat)(f:Nat→Nat):Prop where
 lt:∀x,x<N→f x<N
 out:∀x,N≤x→f x=x
 inj:∀x y,f x=f y→x=y
section
variable {N:Nat} {f:Nat→Nat}
theorem Pm.it_lt(h:Pm N f){x:Nat}(hx:x<N):∀n,it f n x<N
 |0=>hx
 |n+1=>h.lt _ (h.it_lt hx n)
theorem Pm.it_out(h:Pm N f){x:Nat}(hx:N≤x):∀n,it f n x=x
 |0=>rfl
 |n+1=>by rw[it,h.it_out hx n,h.out x hx]
theorem Pm.it_inj(h:Pm N f){x y:Nat}:∀{n:Nat},it f n x=it f n y→x=y
 |0,e=>e
 |n+1,e=>h.it_inj (h.inj _ _ e)
theorem not_nodup_map{g:Nat→Nat}:∀{l:List Nat},l.Nodup→¬(l.map g).Nodup→∃i∈l,∃j∈l,i≠j∧g i=g j
 |[],_,h=>absurd (by simp) h
 |a :: l,hn,h=>by
  rw[List.nodup_cons]at hn
  by_cases c:g a∈l.map g
  · obtain⟨j,hj,e⟩:=List.mem_map.1 c
    exact⟨a,by simp,j,by simp[hj],fun e'=>hn.1 (e' ▸ hj),e.symm⟩
  · have h2:¬(l.map g).Nodup:=fun k=>h (by rw[List.map_cons,List.nodup_cons];exact⟨c,k⟩)
    obtain⟨i,hi,j,hj,h3⟩:=not_nodup_map hn.2 h2
    exact⟨i,by simp[hi],j,by simp[hj],h3⟩
theorem Pm.cycle(h:Pm N f)(x:Nat):∃n,0<n∧it f n x=x:=by
 by_cases hx:x<N
 · have:¬((List.range (N+1)).map fun n=>it f n x).Nodup:=fun hn=>by
    have:=nodup_le hn (m:=List.range N) fun y hy=>by
     obtain⟨n,_,rfl⟩:=List.mem_map.1 hy
     exact List.mem_range.2 (h.it_lt hx n)
    simp at this
    omega
   obtain⟨i,_,j,_,hne,e⟩:=not_nodup_map List.nodup_range this
   have key:∀i j,i<j→it f i x=it f j x→∃n,0<n∧it f n x=x:=fun i j hij e=>by
    refine⟨j-i,by omega,?_⟩
    have h1:=it_add f (j-i) x i;rw[show i+(j-i)=j by omega,←e]at h1
    exact(h.it_inj h1).symm
   rcases Nat.lt_or_ge i j with c|c
   · exact key i j c e
   · exact key j i (by omega) e.symm
 · exact⟨1,by omega,h.it_out (by omega) 1⟩
theorem Orb.refl(f:Nat→Nat)(x:Nat):Orb f x x:=⟨0,rfl⟩
theorem Orb.trans{x y z:Nat}:Orb f x y→Orb f y z→Orb f x z:=by
 rintro⟨m,rfl⟩ ⟨n,rfl⟩
 exact⟨n+m,it_add f m x n⟩
theorem Orb.one(f:Nat→Nat)(x:Nat):Orb f x (f x):=⟨1,rfl⟩
theorem Pm.back(h:Pm N f)(x:Nat):Orb f (f x) x:=by
 obtain⟨n,hn,e⟩:=h.cycle x
 obtain⟨m,rfl⟩:∃m,n=m+1:=⟨n-1,by omega⟩
 refine⟨m,?_⟩
 have:=it_add f 1 x m;rw[e]at this
 exact this.symm
theorem Pm.symm(h:Pm N f){x y:Nat}:Orb f x y→Orb f y x:=by
 rintro⟨n,rfl⟩
 induction n with
 |zero=>exact Orb.refl f x
 |succ n ih=>exact(h.back _).trans ih
theorem Pm.equiv(h:Pm N f):Equivalence (Orb f):=⟨Orb.refl f,h.symm,Orb.trans⟩
theorem Orb.ind{P:Nat→Prop}(hP:∀x,P x→P (f x)){x y:Nat}(hx:P x):Orb f x y→P y:=by
 rintro⟨n,rfl⟩
 induction n with
 |zero=>exact hx
 |succ n ih=>exact hP _ ih
theorem Orb.lt(h:Pm N f){x y:Nat}(hx:x<N)(k:Orb f x y):y<N:=k.ind (P:=fun y=>y<N) h.lt hx
end

def swp(a b x:Nat):Nat:=if x=a then b else if x=b then a else x
theorem swp_a(a b:Nat):swp a b a=b:=if_pos rfl
theorem swp_b(a b:Nat):swp a b b=a:=by
 unfold swp;split
 · next h=>exact h
 · exact if_pos rfl
theorem swp_ne{a b x:Nat}(h:x≠a)(k:x≠b):swp a b x=x:=by unfold swp;rw[if_neg h,if_neg k]
theorem swp_swp(a b x:Nat):swp a b (swp a b x)=x:=by
 by_cases h:x=a
 · subst h;rw[swp_a,swp_b]
 · by_cases k:x=b
   · subst k;rw[swp_b,swp_a]
   · rw[swp_ne h k,swp_ne h k]
theorem swp_comm(a b x:Nat):swp a b x=swp b a x:=by
 by_cases h:x=a
 · subst h;rw[swp_a,swp_b]
 · by_cases k:x=b
   · subst k;rw[swp_b,swp_a]
   · rw[swp_ne h k,swp_ne k h]
theorem Pm.swp{N:Nat}{f:Nat→Nat}(h:Pm N f){a b:Nat}(ha:a<N)(hb:b<N):Pm N (fun x=>swp a b (f x)):=by
 refine⟨fun x hx=>?_,fun x hx=>?_,fun x y e=>?_⟩
 · have:=h.lt x hx
   show Kn.swp a b (f x)<N
   unfold Kn.swp;split
   · exact hb
   · split
     · exact ha
     · exact this
 · show Kn.swp a b (f x)=x
   rw[h.out x hx,swp_ne (by omega) (by omega)]
 · refine h.inj x y ?_
   have e':Kn.swp a b (f x)=Kn.swp a b (f y):=e;rw[←swp_swp a b (f x),e',swp_swp]
section
variable {N:Nat} {f:Nat→Nat} {a b:Nat}
theorem orb_step(h:Pm N f)(x:Nat):mrg (Orb f) a b x (swp a b (f x)):=by
 by_cases c:f x=a
 · rw[c,swp_a];exact .inr (.inl ⟨c ▸ Orb.one f x,Orb.refl f b⟩)
 · by_cases d:f x=b
   · rw[d,swp_b];exact .inr (.inr ⟨d ▸ Orb.one f x,Orb.refl f a⟩)
   · rw[swp_ne c d];exact .inl (Orb.one f x)
theorem orb_sub(h:Pm N f){x y:Nat}(k:Orb (fun x=>swp a b (f x)) x y):mrg (Orb f) a b x y:=
 k.ind (P:=fun y=>mrg (Orb f) a b x y) (fun z hz=>(mrg_equiv h.equiv a b).trans hz (orb_step h z)) (.inl (Orb.refl f x))
theorem swp_twice(f:Nat→Nat)(a b:Nat):(fun x=>swp a b ((fun x=>swp a b (f x)) x))=f:=funext fun x=>swp_swp a b (f x)
theorem orb_join(h:Pm N f)(k:¬Orb f a b):Orb (fun x=>swp a b (f x)) a b:=by
 obtain⟨n,hn,e⟩:=h.cycle a
 have hex:∃n,0<n∧it f n a=a∧∀m,0<m→m<n→it f m a≠a:=by
  clear k
  induction n using Nat.strongRecOn with
  |ind n ih=>
   by_cases c:∃m,0<m∧m<n∧it f m a=a
   · obtain⟨m,h1,h2,h3⟩:=c
     exact ih m h2 h1 h3
   · exact⟨n,hn,e,fun m h1 h2 h3=>c ⟨m,h1,h2,h3⟩⟩
 obtain⟨n,hn,e,hmin⟩:=hex
 have key:∀m,m<n→it (fun x=>swp a b (f x)) m a=it f m a:=by
  intro m
  induction m with
  |zero=>intro _;rfl
  |succ m ih=>
   intro hm
   rw[it,ih (by omega)]
   show swp a b (it f (m+1) a)=_
   exact swp_ne (hmin _ (by omega) hm) fun e'=>k ⟨_,e'⟩
 refine⟨n,?_⟩
 obtain⟨m,rfl⟩:∃m,n=m+1:=⟨n-1,by omega⟩
 rw[it,key m (by omega)]
 show swp a b (it f (m+1) a)=b
 rw[e,swp_a]
theorem orb_mrg(h:Pm N f)(ha:a<N)(hb:b<N)(k:¬Orb f a b)(x y:Nat):Orb (fun x=>swp a b (f x)) x y↔mrg (Orb f) a b x y:=by
 have h':=h.swp ha hb;have hab:=orb_join h k
 refine⟨orb_sub h,fun hm=>?_⟩
 have hsub:∀x y,Orb f x y→Orb (fun x=>swp a b (f x)) x y:=fun x y hxy=>by
  have h1:Orb (fun x=>swp a b ((fun x=>swp a b (f x)) x)) x y:=by rw[swp_twice];exact hxy
  exact(mrg_same h'.equiv hab x y).1 (orb_sub h' h1)
 rcases hm with hm|⟨h1,h2⟩|⟨h1,h2⟩
 · exact hsub x y hm
 · exact(hsub _ _ h1).trans (hab.trans (hsub _ _ h2))
 · exact(hsub _ _ h1).trans ((h'.symm hab).trans (hsub _ _ h2))
theorem orb_part(h:Pm N f)(hne:a≠b)(k:Orb f a b):¬Orb (fun x=>swp a b (f x)) a b:=by
 have hex:∃n,it f n a=b∧∀m,m<n→it f m a≠b:=by
  obtain⟨n,e⟩:=k
  induction n using Nat.strongRecOn with
  |ind n ih=>
   by_cases c:∃m,m<n∧it f m a=b
   · obtain⟨m,h2,h3⟩:=c
     exact ih m h2 h3
   · exact⟨n,e,fun m h2 h3=>c ⟨m,h2,h3⟩⟩
 obtain⟨n,e,hmin⟩:=hex
 have hn:0<n:=by
  rcases Nat.eq_zero_or_pos n with c|c
  · subst c;exact absurd e hne
  · exact c
 have hback:∀m,0<m→m<n→it f m a≠a:=fun m h1 h2 h3=>by
  have h4:=it_add f m a (n-m);rw[h3,show n-m+m=n by omega,e]at h4
  exact hmin (n-m) (by omega) h4.symm
 intro ho
 have hin:∃m,m<n∧b=it f m a:=by
  refine ho.ind (P:=fun y=>∃m,m<n∧y=it f m a) ?_ ⟨0,hn,rfl⟩
  rintro y ⟨m,hm,rfl⟩
  by_cases c:m+1<n
  · refine⟨m+1,c,?_⟩
    show swp a b (it f (m+1) a)=_
    exact swp_ne (hback _ (by omega) c) (hmin _ c)
  · obtain rfl:n=m+1:=by omega
    refine⟨0,hn,?_⟩
    show swp a b (it f (m+1) a)=a
    rw[e,swp_b]
 obtain⟨m,hm,e'⟩:=hin
 exact hmin m hm e'.symm
theorem cl_join(h:Pm N f)(ha:a<N)(hb:b<N)(k:¬Orb f a b):cl N (Orb (fun x=>swp a b (f x)))+1=cl N (Orb f):=by
 rw[cl_congr (orb_mrg h ha hb k)]
 exact cl_mrg h.equiv ha hb k
theorem cl_part(h:Pm N f)(ha:a<N)(hb:b<N)(hne:a≠b)(k:Orb f a b):cl N (Orb f)+1=cl N (Orb (fun x=>swp a b (f x))):=by
 have:=cl_join (h.swp ha hb) ha hb (orb_part h hne k)
 rwa [swp_twice]at this
end
end Go.Proofs.YtlicglicfijelaaGreat.Kn

namespace Go.Proofs.YtlicglicfijelaaGreat.Kn

def mt(l:Nat):Nat:=if l%2=0 then l+1 else l-1
theorem mt_div(l:Nat):mt l / 2=l / 2:=by unfold mt;split<;>omega
theorem mt_mt(l:Nat):mt (mt l)=l:=by unfold mt;split<;>split<;>omega
theorem mt_ne(l:Nat):mt l≠l:=by unfold mt;split<;>omega
theorem mt_lt{n l:Nat}:mt l<2*n↔l<2*n:=by unfold mt;split<;>omega
theorem mt_inj{x y:Nat}(h:mt x=mt y):x=y:=by rw[←mt_mt x,h,mt_mt]
theorem of_div{x y:Nat}(h:x / 2=y / 2):x=y∨x=mt y:=by unfold mt;split<;>omega
theorem mt_mod(l:Nat):mt l%2=1-l%2:=by unfold mt;split<;>omega
def Ch(f:Nat→Nat):Nat→List Nat→Nat→Prop
 |x,[],z=>f x=z
 |x,y :: w,z=>f x=y∧Ch f y w z
theorem ch_app{f:Nat→Nat}:∀{x y z:Nat} {u v:List Nat},Ch f x (u++y :: v) z↔Ch f x u y∧Ch f y v z
 |x,y,z,[],v=>Iff.rfl
 |x,y,z,a :: u,v=>by
  rw[List.cons_append,Ch,Ch,ch_app (u:=u),and_assoc]
theorem ch_swap{f g:Nat→Nat}:∀{a a' z:Nat} {u:List Nat},Ch f a u z→g a'=f a→(∀x∈u,g x=f x)→Ch g a' u z
 |a,a',z,[],h,h1,_=>h1.trans h
 |a,a',z,y :: u,h,h1,h2=>⟨h1.trans h.1,ch_swap h.2 (h2 y (by simp)) fun x hx=>h2 x (by simp[hx])⟩
def Cy(f:Nat→Nat):List Nat→Prop
 |[]=>False
 |x :: u=>Ch f x u x
theorem cy_ne{f:Nat→Nat}{w:List Nat}(h:Cy f w):w≠[]:=by rintro rfl;exact h
theorem cy_rot1{f:Nat→Nat}{x:Nat}{u:List Nat}(h:Cy f (x :: u)):Cy f (u++[x]):=by
 cases u with
 |nil=>exact h
 |cons y v=>exact ch_app.2 ⟨h.2,h.1⟩
theorem cy_rot{f:Nat→Nat}:∀{u v:List Nat},Cy f (u++v)→Cy f (v++u)
 |[],v,h=>by simpa using h
 |x :: u,v,h=>by
  have h1:Cy f ((u++v)++[x]):=cy_rot1 h;rw[List.append_assoc]at h1;have h2:=cy_rot (u:=u) (v:=v++[x]) h1
  rwa [List.append_assoc]at h2
theorem cy_cut{f:Nat→Nat}{u v:List Nat}{x:Nat}:Cy f (u++x :: v)↔Ch f x (v++u) x:=by
 constructor
 · intro h;exact cy_rot h
 · intro h
   have h1:Cy f (x :: v++u):=h
   exact cy_rot h1
theorem ch_closed{f:Nat→Nat}:∀{x z:Nat} {u:List Nat},Ch f x u z→∀y∈x :: u,f y∈u∨f y=z
 |x,z,[],h,y,hy=>by
  rw[List.mem_singleton]at hy
  subst hy;exact .inr h
 |x,z,a :: u,h,y,hy=>by
  rcases List.mem_cons.1 hy with rfl|hy
  · left;rw[h.1];simp
  · rcases ch_closed h.2 y hy with k|k
    · exact .inl (by simp[k])
    · exact .inr k
theorem cy_closed{f:Nat→Nat}{w:List Nat}(h:Cy f w){y:Nat}(hy:y∈w):f y∈w:=by
 cases w with
 |nil=>cases hy
 |cons x u=>
  rcases ch_closed h y hy with k|k
  · simp[k]
  · simp[k]
theorem cy_orb{f:Nat→Nat}{w:List Nat}(h:Cy f w){x y:Nat}(hx:x∈w)(k:Orb f x y):y∈w:=
 k.ind (P:=fun y=>y∈w) (fun _ hz=>cy_closed h hz) hx
theorem ch_orb{f:Nat→Nat}:∀{x z:Nat} {u:List Nat},Ch f x u z→∀y∈x :: u,Orb f x y∧Orb f y z
 |x,z,[],h,y,hy=>by
  rw[List.mem_singleton]at hy;subst hy
  refine⟨Orb.refl f _,?_⟩
  have:=Orb.one f y
  rwa [show f y=z from h]at this
 |x,z,a :: u,h,y,hy=>by
  have h1:Orb f x a:=by have:=Orb.one f x;rwa [h.1]at this
  rcases List.mem_cons.1 hy with rfl|hy
  · exact⟨Orb.refl f _,h1.trans (ch_orb h.2 a (by simp)).2⟩
  · exact⟨h1.trans (ch_orb h.2 y hy).1,(ch_orb h.2 y hy).2⟩
theorem cy_all{f:Nat→Nat}{w:List Nat}(h:Cy f w){x y:Nat}(hx:x∈w)(hy:y∈w):Orb f x y:=by
 cases w with
 |nil=>cases hx
 |cons a u=>exact(ch_orb h x hx).2.trans (ch_orb h y hy).1
theorem cy_uniq{f:Nat→Nat}{x:Nat}{u v:List Nat}(hu:Cy f (x :: u))(hv:Cy f (x :: v))(h1:x∉u)(h2:x∉v):u=v:=by
 have key:∀{u v:List Nat} {a:Nat},Ch f a u x→Ch f a v x→x∉u→x∉v→u=v:=by
  intro u
  induction u with
  |nil=>
   intro v a k1 k2 _ h2
   cases v with
   |nil=>rfl
   |cons b v=>
    have:f a=b:=k2.1;rw[show f a=x from k1]at this
    exact absurd (by simp[this]) h2
  |cons b u ih=>
   intro v a k1 k2 h1 h2
   cases v with
   |nil=>
    have:f a=b:=k1.1;rw[show f a=x from k2]at this
    exact absurd (by simp[this]) h1
   |cons b' v=>
    have e:b=b':=k1.1.symm.trans k2.1;subst e;rw[ih k1.2 k2.2 (fun k=>h1 (by simp[k])) fun k=>h2 (by simp[k])]
 exact key hu hv h1 h2

structure Ws(N:Nat)(f:Nat→Nat)(ws:List (List Nat)):Prop where
 perm:ws.flatten.Perm (List.range N)
 cyc:∀w∈ws,Cy f w
section
variable {N:Nat} {f:Nat→Nat} {ws:List (List Nat)}
theorem Ws.nodup(h:Ws N f ws):ws.flatten.Nodup:=h.perm.nodup_iff.2 List.nodup_range
theorem Ws.mem(h:Ws N f ws){x:Nat}:x∈ws.flatten↔x<N:=h.perm.mem_iff.trans List.mem_range
theorem Ws.word(h:Ws N f ws){x:Nat}(hx:x<N):∃w∈ws,x∈w:=List.mem_flatten.1 (h.mem.2 hx)
theorem Ws.of_perm(h:Ws N f ws){vs:List (List Nat)}(p:vs.Perm ws):Ws N f vs:=
 ⟨p.flatten.trans h.perm,fun w hw=>h.cyc w (p.mem_iff.1 hw)⟩
theorem countP_flatten'(p:Nat→Bool):∀ws:List (List Nat),ws.flatten.countP p=(ws.map (List.countP p)).sum
 |[]=>rfl
 |w :: ws=>by rw[List.flatten_cons,List.countP_append,countP_flatten' p ws];simp
theorem sum_ones{α:Type}{g:α→Nat}:∀{l:List α},(∀x∈l,g x=1)→(l.map g).sum=l.length
 |[],_=>rfl
 |a :: l,h=>by
  rw[List.map_cons,List.sum_cons,h a (by simp),sum_ones fun x hx=>h x (by simp[hx]),List.length_cons]
  omega
theorem word_nodup{ws:List (List Nat)}(h:ws.flatten.Nodup){w:List Nat}(hw:w∈ws):w.Nodup:=(List.pairwise_flatten.1 h).1 w hw
theorem Ws.len(hf:Pm N f)(h:Ws N f ws):cl N (Orb f)=ws.length:=by
 unfold cl
 rw[←h.perm.countP_eq,countP_flatten']
 refine sum_ones fun w hw=>?_
 have hc:=h.cyc w hw;obtain⟨a,ha⟩:=List.exists_mem_of_ne_nil w (cy_ne hc);obtain⟨r,_,hr,hl⟩:=least_of hf.equiv a;have hrw:r∈w:=cy_orb hc ha (hf.symm hr);have hn:=word_nodup h.nodup hw
 have h0:=countP_but (l:=w) hn (p:=fun d=>tr (Least (Orb f) d)) (q:=fun _=>false) hrw (tr_iff.2 hl) fun d hd=>by
  by_cases e:d=r
  · simp[e]
  · have:tr (Least (Orb f) d)=false:=tr_false.2 fun k=>e (least_eq hf.equiv k hl (cy_all hc hd hrw))
    simp[this]
 rw[←h0]
 simp
end

def bef(F:List Nat)(x y:Nat):Prop:=F.idxOf x<F.idxOf y
instance (F:List Nat) (x y:Nat):Decidable (bef F x y):=inferInstanceAs (Decidable (_<_))
theorem bef_filter{p:Nat→Bool}{x y:Nat}(hx:p x=true)(hy:p y=true):∀(F:List Nat),bef (F.filter p) x y↔bef F x y
 |[]=>by simp[bef]
 |a :: F=>by
  have ih:=bef_filter hx hy F
  unfold bef at ih ⊢
  by_cases e1:a=x
  · by_cases e2:a=y
    · rw[←e1,←e2];simp
    · have e2':(a==y)=false:=by simpa using e2
      subst e1;rw[List.filter_cons_of_pos hx]
      simp[List.idxOf_cons,e2']
  · have e1':(a==x)=false:=by simpa using e1
    by_cases e2:a=y
    · subst e2
      rw[List.filter_cons_of_pos hy]
      simp[List.idxOf_cons]
    · have e2':(a==y)=false:=by simpa using e2
      cases c:p a with
      |true=>
       rw[List.filter_cons_of_pos c]
       simp[List.idxOf_cons,e1',e2',ih]
      |false=>
       rw[List.filter_cons_of_neg (by simp[c])]
       simp[List.idxOf_cons,e1',e2',ih]
theorem bef_congr{p:Nat→Bool}{x y:Nat}{F G:List Nat}(hx:p x=true)(hy:p y=true)(h:F.filter p=G.filter p):bef F x y↔bef G x y:=by
 rw[←bef_filter hx hy F,h,bef_filter hx hy G]
theorem bef_split{F G:List Nat}{x y:Nat}(hx:x∈F)(hy:y∉F):bef (F++G) x y:=by
 unfold bef
 rw[List.idxOf_append,List.idxOf_append,if_pos hx,if_neg hy];have:=List.idxOf_lt_length_of_mem hx
 omega
theorem not_bef{F:List Nat}{x y:Nat}(h:bef F x y):¬bef F y x:=by unfold bef at h ⊢;omega
theorem bef_total{F:List Nat}{x y:Nat}(hx:x∈F)(hne:x≠y):bef F x y∨bef F y x:=by
 unfold bef
 rcases Nat.lt_trichotomy (F.idxOf x) (F.idxOf y)with c|c|c
 · exact .inl c
 · have h1:=List.idxOf_lt_length_of_mem hx
   have h2:=List.getElem_idxOf h1
   have h3:F.idxOf y<F.length:=by omega
   have h4:=List.getElem_idxOf h3
   refine absurd ?_ hne
   rw[←h2,←h4]
   congr 1
 · exact .inr c
end Go.Proofs.YtlicglicfijelaaGreat.Kn

namespace Go.Proofs.YtlicglicfijelaaGreat.Kn

structure CA(W:Type) where
 T:Bool→W→W→W
 D:Nat→W
 σ:W→W
 inv:∀e u v,T (!e) (T e u v) v=u
 mid:∀e f a b c d,T e (T f a b) (T f c d)=T f (T e a c) (T e b d)
 base:∀e k,1≤k→T e (D k) (D (k+1))=D k
 σT:∀e u v,σ (T e u v)=T e (σ u) (σ v)
 σD:∀k,1≤k→σ (D k)=D (k+1)
 σi:∀u v,σ u=σ v→u=v
structure Ar where
 n:Nat
 nx:Nat→Nat
 sg:Nat→Bool
 L:Nat
 pm:Pm (2*n) nx
abbrev St:=Nat→Bool
def fl(h:St)(c:Nat):St:=fun d=>if d=c then !h d else h d
def ad(S:St)(c:Nat):St:=fun d=>if d=c then true else S d
theorem fl_same(h:St)(c:Nat):fl h c c=!h c:=if_pos rfl
theorem fl_ne{h:St}{c d:Nat}(k:d≠c):fl h c d=h d:=if_neg k
theorem fl_fl(h:St)(c:Nat):fl (fl h c) c=h:=funext fun d=>by
 by_cases k:d=c
 · subst k;rw[fl_same,fl_same,Bool.not_not]
 · rw[fl_ne k,fl_ne k]
theorem fl_comm(h:St)(c d:Nat):fl (fl h c) d=fl (fl h d) c:=funext fun x=>by
 unfold fl
 by_cases k:x=c
 · by_cases k':x=d
   · rw[if_pos k',if_pos k,if_pos k,if_pos k']
   · rw[if_neg k',if_pos k,if_pos k,if_neg k']
 · by_cases k':x=d
   · rw[if_pos k',if_neg k,if_neg k,if_pos k']
   · rw[if_neg k',if_neg k,if_neg k,if_neg k']
theorem ad_same(S:St)(c:Nat):ad S c c=true:=if_pos rfl
theorem ad_ne{S:St}{c d:Nat}(k:d≠c):ad S c d=S d:=if_neg k
theorem ad_comm(S:St)(c d:Nat):ad (ad S c) d=ad (ad S d) c:=funext fun x=>by
 unfold ad
 by_cases k:x=c
 · simp[k]
 · simp[k]
def ov(h:St)(l:Nat):Bool:=if l%2=1 then h (l / 2)else !h (l / 2)
theorem ov_mt(h:St)(l:Nat):ov h (mt l)=!ov h l:=by
 unfold ov
 rw[mt_div,mt_mod]
 rcases Nat.mod_two_eq_zero_or_one l with e|e
 · rw[e];simp
 · rw[e];simp
theorem ov_congr{h h':St}{l:Nat}(k:h (l / 2)=h' (l / 2)):ov h l=ov h' l:=by unfold ov;rw[k]
theorem ov_fl(h:St)(l:Nat):ov (fl h (l / 2)) l=!ov h l:=by
 unfold ov
 rw[fl_same]
 split<;>rfl
theorem ov_fl_ne{h:St}{c l:Nat}(k:l / 2≠c):ov (fl h c) l=ov h l:=ov_congr (fl_ne k)
theorem ov_det{h h':St}{l:Nat}(k:ov h l=ov h' l):h (l / 2)=h' (l / 2):=by
 unfold ov at k
 split at k
 · exact k
 · simpa using k
namespace Ar
variable (A:Ar)
def nS(S:St)(l:Nat):Nat:=if S (l / 2)=true∧l<2*A.n then A.nx (mt l)else A.nx l
theorem nS_pm(S:St):Pm (2*A.n) (A.nS S):=by
 refine⟨fun x hx=>?_,fun x hx=>?_,fun x y e=>?_⟩
 · unfold nS;split
   · exact A.pm.lt _ (mt_lt.2 hx)
   · exact A.pm.lt _ hx
 · unfold nS;rw[if_neg (by omega)];exact A.pm.out x hx
 · unfold nS at e
   by_cases c:S (x / 2)=true∧x<2*A.n
   · rw[if_pos c]at e
     by_cases d:S (y / 2)=true∧y<2*A.n
     · rw[if_pos d]at e
       exact mt_inj (A.pm.inj _ _ e)
     · rw[if_neg d]at e
       have h1:=A.pm.inj _ _ e
       refine absurd ⟨?_,?_⟩ d
       · rw[←h1,mt_div];exact c.1
       · rw[←h1];exact mt_lt.2 c.2
   · rw[if_neg c]at e
     by_cases d:S (y / 2)=true∧y<2*A.n
     · rw[if_pos d]at e
       have h1:=A.pm.inj _ _ e
       refine absurd ⟨?_,?_⟩ c
       · rw[h1,mt_div];exact d.1
       · rw[h1];exact mt_lt.2 d.2
     · rw[if_neg d]at e
       exact A.pm.inj _ _ e
theorem nS_ad{S:St}{l:Nat}(hS:S (l / 2)=false)(hl:l<2*A.n):A.nS (ad S (l / 2)) l=A.nS S (mt l):=by
 unfold nS
 rw[ad_same,mt_div,hS,if_pos ⟨rfl,hl⟩,if_neg (by simp)]
theorem nS_ad'{S:St}{l:Nat}(hS:S (l / 2)=false)(hl:l<2*A.n):A.nS (ad S (l / 2)) (mt l)=A.nS S l:=by
 have:=A.nS_ad (S:=S) (l:=mt l) (by rw[mt_div];exact hS) (mt_lt.2 hl);rw[mt_div,mt_mt]at this
 exact this
theorem nS_ad_ne{S:St}{c x:Nat}(h:x / 2≠c):A.nS (ad S c) x=A.nS S x:=by
 unfold nS
 rw[ad_ne h]
noncomputable def k (S:St):Nat:=cl (2*A.n) (Orb (A.nS S))+A.L
def live(S:St):Nat:=(List.range A.n).countP fun c=>!S c
theorem live_ad{S:St}{c:Nat}(hc:c<A.n)(hS:S c=false):A.live (ad S c)+1=A.live S:=by
 refine countP_but List.nodup_range (x:=c) (List.mem_range.2 hc) (by simp[hS]) fun d _=>?_
 by_cases e:d=c
 · subst e;simp[ad_same]
 · simp[ad_ne e,e]
theorem ws_ex(S:St):∃ws,Ws (2*A.n) (A.nS S) ws:=by
 have key:∀(m:Nat) (F:List Nat),F.length=m→F.Nodup→(∀x∈F,A.nS S x∈F)→∃ws:List (List Nat),ws.flatten.Perm F∧∀w∈ws,Cy (A.nS S) w:=by
  intro m
  induction m using Nat.strongRecOn with
  |ind m ih=>
   intro F hm hn hc
   cases F with
   |nil=>exact⟨[],by simp,fun w hw=>by cases hw⟩
   |cons a F=>
    obtain⟨p,hp,e⟩:=(A.nS_pm S).cycle a
    have hex:∃q,0<q∧it (A.nS S) q a=a∧∀r,0<r→r<q→it (A.nS S) r a≠a:=by
     have:∀p,0<p→it (A.nS S) p a=a→∃q,0<q∧it (A.nS S) q a=a∧∀r,0<r→r<q→it (A.nS S) r a≠a:=by
      intro p
      induction p using Nat.strongRecOn with
      |ind p ih=>
       intro h1 h2
       by_cases h:∃r,0<r∧r<p∧it (A.nS S) r a=a
       · obtain⟨r,r1,r2,r3⟩:=h
         exact ih r r2 r1 r3
       · exact⟨p,h1,h2,fun r r1 r2 r3=>h ⟨r,r1,r2,r3⟩⟩
     exact this p hp e
    obtain⟨q,hq,hqa,hql⟩:=hex
    obtain⟨w,hw⟩:∃w,w=(List.range q).map fun i=>it (A.nS S) i a:=⟨_,rfl⟩
    have hinj:∀i j,i<j→j<q→it (A.nS S) i a≠it (A.nS S) j a:=fun i j hij hj e=>by
     have h1:=it_add (A.nS S) (j-i) a i;rw[show i+(j-i)=j by omega,←e]at h1
     exact hql (j-i) (by omega) (by omega) ((A.nS_pm S).it_inj h1).symm
    have hwn:w.Nodup:=by
     rw[hw,List.Nodup,List.pairwise_map]
     refine(List.nodup_range (n:=q)).imp_of_mem fun {i j} hi hj hne=>?_
     rw[List.mem_range]at hi hj
     rcases Nat.lt_or_ge i j with c|c
     · exact hinj i j c hj
     · exact(hinj j i (by omega) hi).symm
    have hmw:∀x∈w,x∈a :: F:=fun x hx=>by
     rw[hw,List.mem_map]at hx;obtain⟨i,_,rfl⟩:=hx
     have:∀i,it (A.nS S) i a∈a :: F:=fun i=>by
      induction i with
      |zero=>simp[it]
      |succ i ih=>exact hc _ ih
     exact this i
    have hcy:Cy (A.nS S) w:=by
     have gen:∀(m s:Nat),s+m+1=q→Ch (A.nS S) (it (A.nS S) s a) ((List.range' (s+1) m).map fun i=>it (A.nS S) i a) a:=by
      intro m
      induction m with
      |zero=>
       intro s hs
       have h1:=hqa;rw[←hs]at h1
       exact h1
      |succ m ih=>
       intro s hs
       rw[List.range'_succ,List.map_cons]
       exact⟨rfl,ih (s+1) (by omega)⟩
     have h1:=gen (q-1) 0 (by omega)
     have h2:w=a :: ((List.range' 1 (q-1)).map fun i=>it (A.nS S) i a):=by
      rw[hw,List.range_eq_range',show q=(q-1)+1 by omega,List.range'_succ,List.map_cons]
      rfl
     rw[h2]
     exact h1
    have hlen:w.length=q:=by rw[hw];simp
    obtain⟨G,hG⟩:∃G,G=(a :: F).filter fun x=>!w.contains x:=⟨_,rfl⟩
    have hp1:(w++G).Perm (a :: F):=by
     refine(List.perm_ext_iff_of_nodup ?_ hn).2 fun x=>?_
     · rw[List.nodup_append]
       refine⟨hwn,hG ▸ hn.filter _,fun x hx y hy e=>?_⟩
       subst e;rw[hG,List.mem_filter]at hy
       simp[hx]at hy
     · rw[List.mem_append,hG,List.mem_filter]
       constructor
       · rintro(k|k)
         · exact hmw x k
         · exact k.1
       · intro k
         by_cases c:x∈w
         · exact .inl c
         · exact .inr ⟨k,by simp[c]⟩
    have hlG:G.length<m:=by
     have:=hp1.length_eq;rw[List.length_append,hlen]at this
     omega
    have hGc:∀x∈G,A.nS S x∈G:=fun x hx=>by
     rw[hG,List.mem_filter]at hx ⊢
     refine⟨hc x hx.1,?_⟩
     have h1:x∉w:=by simpa using hx.2
     have h2:A.nS S x∉w:=fun k=>h1 (cy_orb hcy k ((A.nS_pm S).back x))
     simpa using h2
    obtain⟨ws,h1,h2⟩:=ih G.length hlG G rfl (hG ▸ hn.filter _) hGc
    refine⟨w :: ws,?_,fun v hv=>?_⟩
    · rw[List.flatten_cons]
      exact(h1.append_left w).trans hp1
    · rcases List.mem_cons.1 hv with rfl|hv
      · exact hcy
      · exact h2 v hv
 obtain⟨ws,h1,h2⟩:=key _ (List.range (2*A.n)) rfl List.nodup_range fun x hx=>by
  rw[List.mem_range]at hx ⊢
  exact(A.nS_pm S).lt x hx
 exact⟨ws,h1,h2⟩
noncomputable def ws0 (S:St):List (List Nat):=Classical.choose (A.ws_ex S)
theorem ws0_ok(S:St):Ws (2*A.n) (A.nS S) (A.ws0 S):=Classical.choose_spec (A.ws_ex S)
end Ar
def dn(F:List Nat):St:=fun c=>decide (bef F (2*c+1) (2*c))
def Desc(n:Nat)(S h:St)(F:List Nat):Prop:=∀l,l<2*n→S (l / 2)=false→bef F l (mt l)→ov h l=true
theorem dn_desc{n:Nat}{S:St}(F:List Nat):Desc n S (dn F) F:=fun l _ _ hb=>by
 unfold ov dn
 rcases Nat.mod_two_eq_zero_or_one l with e|e
 · rw[e,if_neg (by omega)]
   have e1:mt l=2*(l / 2)+1:=by unfold mt;rw[if_pos e];omega
   have e2:2*(l / 2)=l:=by omega
   rw[←e1,e2]
   simp[not_bef hb]
 · rw[e,if_pos rfl]
   have e1:mt l=2*(l / 2):=by unfold mt;rw[if_neg (by omega)];omega
   have e2:2*(l / 2)+1=l:=by omega
   rw[e2,←e1]
   simp[hb]
theorem Desc.uniq{n:Nat}{S h h':St}{F:List Nat}(k:Desc n S h F)(k':Desc n S h' F)(hF:∀x,x<2*n→x∈F){c:Nat}(hc:c<n)(hS:S c=false):h c=h' c:=by
 have e1:(2*c+1) / 2=c:=by omega
 have e2:(2*c) / 2=c:=by omega
 have m1:mt (2*c+1)=2*c:=by unfold mt;rw[if_neg (by omega)];omega
 have m2:mt (2*c)=2*c+1:=by unfold mt;rw[if_pos (by omega)]
 rcases bef_total (F:=F) (x:=2*c+1) (y:=2*c) (hF _ (by omega)) (by omega)with b|b
 · have:=ov_det ((k (2*c+1) (by omega) (by rw[e1];exact hS) (by rw[m1];exact b)).trans (k' (2*c+1) (by omega) (by rw[e1];exact hS) (by rw[m1];exact b)).symm)
   rwa [e1]at this
 · have:=ov_det ((k (2*c) (by omega) (by rw[e2];exact hS) (by rw[m2];exact b)).trans (k' (2*c) (by omega) (by rw[e2];exact hS) (by rw[m2];exact b)).symm)
   rwa [e2]at this

section
variable {W:Type} (K:CA W) (A:Ar)
def sgh(h:St)(c:Nat):Bool:=if h c then A.sg c else !A.sg c
theorem sgh_congr{h h':St}{c:Nat}(e:h c=h' c):sgh A h c=sgh A h' c:=by unfold sgh;rw[e]
theorem sgh_fl(h:St)(c:Nat):sgh A (fl h c) c=!sgh A h c:=by
 unfold sgh;rw[fl_same];cases h c<;>simp
theorem sgh_ne{h:St}{c d:Nat}(e:d≠c):sgh A (fl h c) d=sgh A h d:=sgh_congr A (fl_ne e)
def chain(Q:St→Nat→W)(d:W):St→List Nat→W
 |_,[]=>d
 |h,c :: cs=>K.T (sgh A h c) (chain Q d (fl h c) cs) (Q h c)
noncomputable def dif (S h:St):List Nat:=(List.range A.n).filter fun c=>!S c&&(h c != dn (A.ws0 S).flatten c)
noncomputable def val:Nat→St→St→W
 |0,S,_=>K.D (A.k S)
 |m+1,S,h=>chain K A (fun h c=>val m (ad S c) h) (K.D (A.k S)) h (dif A S h)
noncomputable def V (S h:St):W:=val K A (A.live S) S h
theorem mem_dif{S h:St}{c:Nat}:c∈dif A S h↔c<A.n∧S c=false∧h c≠dn (A.ws0 S).flatten c:=by
 unfold dif;simp
theorem dif_nodup(S h:St):(dif A S h).Nodup:=List.nodup_range.filter _
theorem dif_congr{S h h':St}(e:∀c,c<A.n→S c=false→h c=h' c):dif A S h=dif A S h':=by
 unfold dif
 refine List.filter_congr fun c hc=>?_
 cases hS:S c with
 |true=>rfl
 |false=>rw[e c (List.mem_range.1 hc) hS]
theorem chain_congr{Q Q':St→Nat→W}{d:W}(S:St):∀{cs:List Nat} {h h':St},(∀c∈cs,c<A.n∧S c=false)→(∀c,c<A.n→S c=false→h c=h' c) →
 (∀c∈cs,∀g g':St,(∀c,c<A.n→S c=false→g c=g' c)→Q g c=Q' g' c)→chain K A Q d h cs=chain K A Q' d h' cs
 |[],_,_,_,_,_=>rfl
 |c :: cs,h,h',hc,e,q=>by
  obtain⟨c1,c2⟩:=hc c (by simp);rw[chain,chain,sgh_congr A (e c c1 c2),q c (by simp) h h' e]
  congr 1
  refine chain_congr S (fun d hd=>hc d (by simp[hd])) (fun d d1 d2=>?_) fun d hd=>q d (by simp[hd])
  unfold fl
  rw[e d d1 d2]
theorem val_congr:∀(m:Nat) {S h h':St},(∀c,c<A.n→S c=false→h c=h' c)→val K A m S h=val K A m S h'
 |0,_,_,_,_=>rfl
 |m+1,S,h,h',e=>by
  rw[val,val,dif_congr A e]
  refine chain_congr K A S (fun c hc=>?_) e fun c hc g g' eg=>val_congr m fun d d1 d2=>?_
  · rw[mem_dif]at hc;exact⟨hc.1,hc.2.1⟩
  · by_cases k:d=c
    · subst k;rw[ad_same]at d2;cases d2
    · rw[ad_ne k]at d2;exact eg d d1 d2
theorem V_congr{S h h':St}(e:∀c,c<A.n→S c=false→h c=h' c):V K A S h=V K A S h':=val_congr K A _ e
theorem V_eq(S h:St):V K A S h=chain K A (fun h c=>V K A (ad S c) h) (K.D (A.k S)) h (dif A S h):=by
 unfold V
 cases m:A.live S with
 |zero=>
  have:dif A S h=[]:=by
   rw[List.eq_nil_iff_forall_not_mem]
   intro c hc
   rw[mem_dif]at hc;have:=A.live_ad hc.1 hc.2.1
   omega
  rw[this];rfl
 |succ m'=>
  rw[val]
  refine chain_congr K A S (fun c hc=>?_) (fun _ _ _=>rfl) fun c hc g g' eg=>?_
  · rw[mem_dif]at hc;exact⟨hc.1,hc.2.1⟩
  · rw[mem_dif]at hc
    have:=A.live_ad hc.1 hc.2.1
    have e:A.live (ad S c)=m':=by omega
    rw[e]
    refine val_congr K A m' fun d d1 d2=>?_
    by_cases k:d=c
    · subst k;rw[ad_same]at d2;cases d2
    · rw[ad_ne k]at d2;exact eg d d1 d2
def Sk(S:St):Prop:=∀c,c<A.n→S c=false→∀h,V K A S h=K.T (sgh A h c) (V K A S (fl h c)) (V K A (ad S c) h)
theorem chain_perm{S:St}(hs:∀c,c<A.n→S c=false→Sk K A (ad S c)){d:W}{l l':List Nat}(p:l.Perm l'):l.Nodup→(∀c∈l,c<A.n∧S c=false) →
 ∀h,chain K A (fun h c=>V K A (ad S c) h) d h l=chain K A (fun h c=>V K A (ad S c) h) d h l':=by
 induction p with
 |nil=>intros;rfl
 |cons c _ ih=>
  intro hn hl h
  rw[chain,chain,ih (List.nodup_cons.1 hn).2 (fun x hx=>hl x (by simp[hx]))]
 |swap c e l=>
  intro hn hl h
  obtain⟨c1,c2⟩:=hl c (by simp);obtain⟨e1,e2⟩:=hl e (by simp)
  have hne:e≠c:=fun k=>by subst k;simp at hn
  have hne':c≠e:=hne.symm;rw[chain,chain,chain,chain,sgh_ne A hne,sgh_ne A hne',fl_comm h c e];have a1:=hs c c1 c2 e e1 (by rw[ad_ne hne];exact e2) h;have a2:=hs e e1 e2 c c1 (by rw[ad_ne hne'];exact c2) h;rw[ad_comm S e c]at a2;rw[a1,a2,K.mid]
 |trans p1 _ ih1 ih2=>
  intro hn hl h
  rw[ih1 hn hl h,ih2 (p1.nodup_iff.1 hn) (fun x hx=>hl x (p1.mem_iff.2 hx)) h]
theorem skein:∀S,Sk K A S:=by
 have key:∀m S,A.live S=m→Sk K A S:=by
  intro m
  induction m using Nat.strongRecOn with
  |ind m ih=>
   intro S hm
   have hs:∀c,c<A.n→S c=false→Sk K A (ad S c):=fun c c1 c2=>by
    have:=A.live_ad c1 c2
    exact ih (A.live (ad S c)) (by omega) _ rfl
   have main:∀c,c<A.n→S c=false→∀h,h c≠dn (A.ws0 S).flatten c→V K A S h=K.T (sgh A h c) (V K A S (fl h c)) (V K A (ad S c) h):=by
    intro c c1 c2 h hne
    rw[V_eq K A S h,V_eq K A S (fl h c)]
    have p:(dif A S h).Perm (c :: dif A S (fl h c)):=by
     refine(List.perm_ext_iff_of_nodup (dif_nodup A S h) ?_).2 fun d=>?_
     · rw[List.nodup_cons,mem_dif,fl_same]
       refine⟨fun k=>k.2.2 ?_,dif_nodup A S _⟩
       cases a:h c<;>cases b:dn (A.ws0 S).flatten c<;>simp_all
     · rw[List.mem_cons,mem_dif,mem_dif]
       by_cases k:d=c
       · subst k;simp[c1,c2,hne]
       · simp[k,fl_ne k]
    rw[chain_perm K A hs p (dif_nodup A S h) (fun d hd=>by rw[mem_dif]at hd;exact⟨hd.1,hd.2.1⟩) h]
    rfl
   intro c c1 c2 h
   by_cases e:h c=dn (A.ws0 S).flatten c
   · have h1:=main c c1 c2 (fl h c) (by rw[fl_same,e];simp)
     rw[fl_fl,sgh_fl]at h1
     have e1:V K A (ad S c) (fl h c)=V K A (ad S c) h:=V_congr K A fun d _ d2=>by
      by_cases k:d=c
      · subst k;rw[ad_same]at d2;cases d2
      · rw[fl_ne k]
     rw[e1]at h1;rw[h1];have:=K.inv (!sgh A h c) (V K A S h) (V K A (ad S c) h);rw[Bool.not_not]at this
     exact this.symm
   · exact main c c1 c2 h e
 exact fun S=>key _ S rfl
theorem V_ws0{S h:St}(hd:Desc A.n S h (A.ws0 S).flatten):V K A S h=K.D (A.k S):=by
 rw[V_eq]
 have:dif A S h=[]:=by
  rw[List.eq_nil_iff_forall_not_mem]
  intro c hc
  rw[mem_dif]at hc
  exact hc.2.2 (hd.uniq (dn_desc _) (fun x hx=>(A.ws0_ok S).mem.2 hx) hc.1 hc.2.1)
 rw[this];rfl
end
end Go.Proofs.YtlicglicfijelaaGreat.Kn

namespace Go.Proofs.YtlicglicfijelaaGreat.Kn

theorem cy_congr{f g:Nat→Nat}{w:List Nat}(h:Cy f w)(e:∀x∈w,g x=f x):Cy g w:=by
 cases w with
 |nil=>exact h
 |cons a u=>exact ch_swap h (e a (by simp)) fun x hx=>e x (by simp[hx])
theorem Ws.rot{N:Nat}{f:Nat→Nat}{X Y:List (List Nat)}{u v:List Nat}(h:Ws N f (X++(u++v) :: Y)):Ws N f (X++(v++u) :: Y):=by
 refine⟨List.Perm.trans ?_ h.perm,fun w hw=>?_⟩
 · refine List.perm_iff_count.2 fun a=>?_
   simp only[List.flatten_append,List.flatten_cons,List.count_append]
   omega
 · rcases List.mem_append.1 hw with k|k
   · exact h.cyc w (by simp[k])
   · rcases List.mem_cons.1 k with rfl|k
     · exact cy_rot (h.cyc (u++v) (by simp))
     · exact h.cyc w (by simp[k])
theorem Ws.swap{N:Nat}{f:Nat→Nat}{X Y:List (List Nat)}{u v:List Nat}(h:Ws N f (X++u :: v :: Y)):Ws N f (X++v :: u :: Y):=
 h.of_perm ((List.Perm.swap u v Y).append_left X)
theorem flat_apart{ws:List (List Nat)}{X Y:List (List Nat)}{w:List Nat}(hn:ws.flatten.Nodup)(e:ws=X++w :: Y){x:Nat}(hx:x∈w):x∉X.flatten∧x∉Y.flatten:=by
 subst e;simp only[List.flatten_append,List.flatten_cons]at hn;rw[List.nodup_append]at hn;obtain⟨_,h2,h3⟩:=hn;rw[List.nodup_append]at h2
 exact⟨fun k=>h3 x k x (by simp[hx]) rfl,fun k=>h2.2.2 x hx x k rfl⟩
section
variable (A:Ar)
theorem Ws.split{S:St}{X Y:List (List Nat)}{l:Nat}{u v:List Nat}(hS:S (l / 2)=false)(h:Ws (2*A.n) (A.nS S) (X++(l :: u++mt l :: v) :: Y)):
 Ws (2*A.n) (A.nS (ad S (l / 2))) (X++(mt l :: u) :: (l :: v) :: Y):=by
 have hl:l<2*A.n:=h.mem.1 (by simp);have hn:=h.nodup;have a1:=flat_apart hn rfl (x:=l) (by simp);have a2:=flat_apart hn rfl (x:=mt l) (by simp);have hw:(l :: u++mt l :: v).Nodup:=word_nodup hn (by simp);rw[List.nodup_append]at hw;obtain⟨w1,w2,w3⟩:=hw;rw[List.nodup_cons]at w1 w2
 have hu:∀x∈u,x / 2≠l / 2:=fun x hx e=>by
  rcases of_div e with rfl|rfl
  · exact w1.1 hx
  · exact w3 (mt l) (by simp[hx]) (mt l) (by simp) rfl
 have hv:∀x∈v,x / 2≠l / 2:=fun x hx e=>by
  rcases of_div e with rfl|rfl
  · exact w3 x (by simp) x (by simp[hx]) rfl
  · exact w2.1 hx
 have ho:∀w,w∈X∨w∈Y→∀x∈w,x / 2≠l / 2:=fun w hw x hx e=>by
  have:x∈X.flatten∨x∈Y.flatten:=hw.imp (fun k=>List.mem_flatten.2 ⟨w,k,hx⟩) fun k=>List.mem_flatten.2 ⟨w,k,hx⟩
  rcases of_div e with rfl|rfl
  · exact this.elim a1.1 a1.2
  · exact this.elim a2.1 a2.2
 have hc:Ch (A.nS S) l (u++mt l :: v) l:=h.cyc (l :: u++mt l :: v) (by simp);obtain⟨c1,c2⟩:=ch_app.1 hc
 refine⟨List.Perm.trans ?_ h.perm,fun w hw=>?_⟩
 · refine List.perm_iff_count.2 fun a=>?_
   simp only[List.flatten_append,List.flatten_cons,List.count_append,List.count_cons]
   omega
 · rcases List.mem_append.1 hw with k|k
   · exact cy_congr (h.cyc w (by simp[k])) fun x hx=>A.nS_ad_ne (ho w (.inl k) x hx)
   · rcases List.mem_cons.1 k with rfl|k
     · exact ch_swap c1 (A.nS_ad' hS hl) fun x hx=>A.nS_ad_ne (hu x hx)
     · rcases List.mem_cons.1 k with rfl|k
       · exact ch_swap c2 (A.nS_ad hS hl) fun x hx=>A.nS_ad_ne (hv x hx)
       · exact cy_congr (h.cyc w (by simp[k])) fun x hx=>A.nS_ad_ne (ho w (.inr k) x hx)
theorem two_apart{X Y:List (List Nat)}{a b:Nat}{u v:List Nat}(hn:(X++(a :: u) :: (b :: v) :: Y).flatten.Nodup)(hab:b=mt a):
 (∀x∈u,x / 2≠a / 2)∧(∀x∈v,x / 2≠a / 2)∧∀w,w∈X∨w∈Y→∀x∈w,x / 2≠a / 2:=by
 simp only[List.flatten_append,List.flatten_cons]at hn;rw[List.nodup_append]at hn;obtain⟨n1,n2,n3⟩:=hn;rw[List.nodup_append]at n2;obtain⟨m1,m2,m3⟩:=n2;rw[List.nodup_append]at m2;obtain⟨p1,p2,p3⟩:=m2;rw[List.nodup_cons]at m1 p1
 refine⟨fun x hx e=>?_,fun x hx e=>?_,fun w hw x hx e=>?_⟩
 · rcases of_div e with rfl|rfl
   · exact m1.1 hx
   · exact m3 (mt a) (by simp[hx]) (mt a) (by simp[hab]) rfl
 · rcases of_div e with rfl|rfl
   · exact m3 x (by simp) x (by simp[hx]) rfl
   · exact p1.1 (hab ▸ hx)
 · rcases hw with hw|hw
   · have hx':x∈X.flatten:=List.mem_flatten.2 ⟨w,hw,hx⟩
     rcases of_div e with rfl|rfl
     · exact n3 x hx' x (by simp) rfl
     · exact n3 (mt a) hx' (mt a) (by simp[hab]) rfl
   · have hx':x∈Y.flatten:=List.mem_flatten.2 ⟨w,hw,hx⟩
     rcases of_div e with rfl|rfl
     · exact m3 x (by simp) x (by simp only[List.mem_append];exact .inr hx') rfl
     · exact p3 (mt a) (by simp[hab]) (mt a) hx' rfl
theorem Ws.join{S:St}{X Y:List (List Nat)}{l:Nat}{t v:List Nat}(hS:S (l / 2)=false)(h:Ws (2*A.n) (A.nS S) (X++(l :: v) :: (mt l :: t) :: Y)):
 Ws (2*A.n) (A.nS (ad S (l / 2))) (X++(l :: t++mt l :: v) :: Y):=by
 have hl:l<2*A.n:=h.mem.1 (by simp);obtain⟨hv,ht,ho⟩:=two_apart h.nodup rfl;have c1:Ch (A.nS S) l v l:=h.cyc (l :: v) (by simp);have c2:Ch (A.nS S) (mt l) t (mt l):=h.cyc (mt l :: t) (by simp)
 refine⟨List.Perm.trans ?_ h.perm,fun w hw=>?_⟩
 · refine List.perm_iff_count.2 fun a=>?_
   simp only[List.flatten_append,List.flatten_cons,List.count_append,List.count_cons]
   omega
 · rcases List.mem_append.1 hw with k|k
   · exact cy_congr (h.cyc w (by simp[k])) fun x hx=>A.nS_ad_ne (ho w (.inl k) x hx)
   · rcases List.mem_cons.1 k with rfl|k
     · refine ch_app.2 ⟨ch_swap c2 (A.nS_ad hS hl) fun x hx=>A.nS_ad_ne (ht x hx),ch_swap c1 (A.nS_ad' hS hl) fun x hx=>A.nS_ad_ne (hv x hx)⟩
     · exact cy_congr (h.cyc w (by simp[k])) fun x hx=>A.nS_ad_ne (ho w (.inr k) x hx)
theorem Ws.unsplit{S:St}{X Y:List (List Nat)}{l:Nat}{u v:List Nat}(hS:S (l / 2)=false)(h:Ws (2*A.n) (A.nS (ad S (l / 2))) (X++(mt l :: u) :: (l :: v) :: Y)):
 Ws (2*A.n) (A.nS S) (X++(l :: u++mt l :: v) :: Y):=by
 have hl:l<2*A.n:=h.mem.1 (by simp);obtain⟨hu,hv,ho⟩:=two_apart h.nodup (mt_mt l).symm;rw[mt_div]at hu hv ho;have c1:Ch (A.nS (ad S (l / 2))) (mt l) u (mt l):=h.cyc (mt l :: u) (by simp);have c2:Ch (A.nS (ad S (l / 2))) l v l:=h.cyc (l :: v) (by simp)
 refine⟨List.Perm.trans ?_ h.perm,fun w hw=>?_⟩
 · refine List.perm_iff_count.2 fun a=>?_
   simp only[List.flatten_append,List.flatten_cons,List.count_append,List.count_cons]
   omega
 · rcases List.mem_append.1 hw with k|k
   · exact cy_congr (h.cyc w (by simp[k])) fun x hx=>(A.nS_ad_ne (ho w (.inl k) x hx)).symm
   · rcases List.mem_cons.1 k with rfl|k
     · refine ch_app.2 ⟨ch_swap c1 (A.nS_ad' hS hl).symm fun x hx=>(A.nS_ad_ne (hu x hx)).symm,ch_swap c2 (A.nS_ad hS hl).symm fun x hx=>(A.nS_ad_ne (hv x hx)).symm⟩
     · exact cy_congr (h.cyc w (by simp[k])) fun x hx=>(A.nS_ad_ne (ho w (.inr k) x hx)).symm
theorem Ws.k_eq{S:St}{ws:List (List Nat)}(h:Ws (2*A.n) (A.nS S) ws):A.k S=ws.length+A.L:=by
 unfold Ar.k;rw[h.len (A.nS_pm S)]
end
def fe(e x:Nat):Bool:=decide (x / 2=e)
theorem Desc.to{n:Nat}{S h:St}{F G:List Nat}(k:Desc n S h F)(e:∀c,c<n→S c=false→F.filter (fe c)=G.filter (fe c)):Desc n S h G:=fun l hl hS hb=>
 k l hl hS ((bef_congr (p:=fe (l / 2)) (by simp[fe]) (by simp[fe,mt_div]) (e (l / 2) (by omega) hS)).2 hb)
theorem Desc.ad{n c:Nat}{S h:St}{F G:List Nat}(k:Desc n S h F)(e:∀d,d<n→S d=false→d≠c→F.filter (fe d)=G.filter (fe d)):Desc n (ad S c) h G:=fun l hl hS hb=>by
 have hne:l / 2≠c:=fun k=>by rw[k,ad_same]at hS;cases hS
 rw[ad_ne hne]at hS
 exact k l hl hS ((bef_congr (p:=fe (l / 2)) (by simp[fe]) (by simp[fe,mt_div]) (e (l / 2) (by omega) hS hne)).2 hb)

section
variable {W:Type} (K:CA W) (A:Ar)
def Gd(S:St)(ws:List (List Nat)):Prop:=∀h,Desc A.n S h ws.flatten→V K A S h=K.D (A.k S)
def AA(S:St):Prop:=∀ws,Ws (2*A.n) (A.nS S) ws→Gd K A S ws
variable {K A}
theorem rot_one{S:St}(IH:∀c,c<A.n→S c=false→AA K A (ad S c)){X Y:List (List Nat)}{l:Nat}{w:List Nat}(hW:Ws (2*A.n) (A.nS S) (X++(l :: w) :: Y))
 (hG:Gd K A S (X++(l :: w) :: Y)):Gd K A S (X++(w++[l]) :: Y):=by
 intro h hd
 have hl:l<2*A.n:=hW.mem.1 (by simp)
 have far:∀d,d≠l / 2→(X++(w++[l]) :: Y).flatten.filter (fe d)=(X++(l :: w) :: Y).flatten.filter (fe d):=fun d hd=>by
  have:fe d l=false:=by unfold fe;simp;omega
  simp[List.filter_append,List.filter_cons,this]
 cases hS:S (l / 2)with
 |true=>exact hG h (hd.to fun d _ hSd=>far d fun e=>by rw[e,hS]at hSd;cases hSd)
 |false=>
  by_cases hm:mt l∈w
  · obtain⟨u,v,rfl⟩:=List.append_of_mem hm
    have hn:=hW.nodup;have hwn:(l :: (u++mt l :: v)).Nodup:=word_nodup hn (by simp)
    have hc:l / 2<A.n:=by omega
    have hWs:=Ws.split A (X:=X) (Y:=Y) (l:=l) (u:=u) (v:=v) hS (by simpa using hW)
    have k1:A.k (ad S (l / 2))=A.k S+1:=by
     rw[Ws.k_eq A hW,Ws.k_eq A hWs];simp only[List.length_append,List.length_cons]
     omega
    have hov:ov h (mt l)=true:=by
     refine hd (mt l) (mt_lt.2 hl) (by rw[mt_div];exact hS) ?_
     rw[mt_mt]
     have e1:(X++(u++mt l :: v++[l]) :: Y).flatten=(X.flatten++u++mt l :: v)++([l]++Y.flatten):=by simp
     rw[e1]
     refine bef_split (by simp) ?_
     have a1:=flat_apart hn rfl (x:=l) (by simp);rw[List.nodup_cons]at hwn;simp only[List.mem_append,not_or]at hwn ⊢
     exact⟨⟨a1.1,hwn.1.1⟩,hwn.1.2⟩
    have hfl:V K A S (fl h (l / 2))=K.D (A.k S):=by
     refine hG _ fun y hy hSy hb=>?_
     by_cases e:y / 2=l / 2
     · rcases of_div e with rfl|rfl
       · rw[ov_fl]
         rw[ov_mt]at hov
         exact hov
       · exfalso
         rw[mt_mt]at hb
         have e1:(X++(l :: (u++mt l :: v)) :: Y).flatten=(X.flatten++[l])++((u++mt l :: v)++Y.flatten):=by simp
         rw[e1]at hb
         refine not_bef hb (bef_split (by simp) ?_)
         have a1:=flat_apart hn rfl (x:=mt l) (by simp);simp only[List.mem_append,List.mem_singleton,not_or]
         exact⟨a1.1,mt_ne l⟩
     · rw[ov_fl_ne e]
       exact hd y hy hSy ((bef_congr (p:=fe (y / 2)) (by simp[fe]) (by simp[fe,mt_div]) (far _ e)).2 hb)
    have hsm:V K A (ad S (l / 2)) h=K.D (A.k S+1):=by
     rw[←k1]
     refine IH _ hc hS _ hWs h (hd.ad fun d _ _ hne=>?_)
     have e1:fe d l=false:=by unfold fe;simp;omega
     have e2:fe d (mt l)=false:=by unfold fe;rw[mt_div];simp;omega
     simp[List.filter_append,List.filter_cons,e1,e2]
    rw[skein K A S _ hc hS h,hfl,hsm]
    refine K.base _ _ ?_
    rw[Ws.k_eq A hW];simp only[List.length_append,List.length_cons]
    omega
  · refine hG h (hd.to fun d _ hSd=>?_)
    by_cases e:d=l / 2
    · have hw0:w.filter (fe d)=[]:=by
       rw[List.filter_eq_nil_iff]
       intro x hx
       unfold fe
       simp only[decide_eq_true_eq]
       intro e'
       have hwn:(l :: w).Nodup:=word_nodup hW.nodup (by simp)
       rcases of_div (e'.trans e)with rfl|rfl
       · exact(List.nodup_cons.1 hwn).1 hx
       · exact hm hx
      simp[List.filter_append,List.filter_cons,hw0]
    · exact far d e
theorem rot_any{S:St}(IH:∀c,c<A.n→S c=false→AA K A (ad S c)){X Y:List (List Nat)}:∀{u v:List Nat},Ws (2*A.n) (A.nS S) (X++(u++v) :: Y) →
 Gd K A S (X++(u++v) :: Y)→Gd K A S (X++(v++u) :: Y)
 |[],v,_,hG=>by simpa using hG
 |l :: u,v,hW,hG=>by
  have h1:Gd K A S (X++((u++v)++[l]) :: Y):=rot_one IH (w:=u++v) hW hG;have h2:Ws (2*A.n) (A.nS S) (X++((u++v)++[l]) :: Y):=Ws.rot (u:=[l]) (v:=u++v) hW;rw[List.append_assoc]at h1 h2;have h3:=rot_any IH (u:=u) (v:=v++[l]) h2 h1;rw[List.append_assoc]at h3
  exact h3
end
end Go.Proofs.YtlicglicfijelaaGreat.Kn

namespace Go.Proofs.YtlicglicfijelaaGreat.Kn

def Clo(N:Nat)(f:Nat→Nat)(Hi:Nat→Bool):Prop:=∀x,x<N→Hi (f x)=Hi x
def Lay(n:Nat)(S:St)(c:Nat)(Hi:Nat→Bool)(h:St):Prop:=∀y,y<2*n→S (y / 2)=false→y / 2≠c→Hi y=true→Hi (mt y)=false→ov h y=true
theorem Lay.ad{n c:Nat}{S:St}{Hi:Nat→Bool}{h:St}(k:Lay n S c Hi h)(e:Nat):Lay n (ad S e) c Hi h:=fun y hy hS hc h1 h2=>by
 by_cases k':y / 2=e
 · rw[k',ad_same]at hS;cases hS
 · rw[ad_ne k']at hS;exact k y hy hS hc h1 h2
theorem Lay.fl{n c e:Nat}{S:St}{Hi:Nat→Bool}{h:St}(k:Lay n S c Hi h)(he:Hi (2*e)=Hi (2*e+1)):Lay n S c Hi (fl h e):=fun y hy hS hc h1 h2=>by
 by_cases k':y / 2=e
 · exfalso
   subst k'
   have:Hi y=Hi (mt y):=by
    rcases Nat.mod_two_eq_zero_or_one y with m|m
    · have e1:2*(y / 2)=y:=by omega
      have e2:mt y=y+1:=by unfold mt;rw[if_pos m]
      rw[e1]at he
      rw[e2];exact he
    · have e1:2*(y / 2)+1=y:=by omega
      have e2:mt y=2*(y / 2):=by unfold mt;rw[if_neg (by omega)];omega
      rw[e1]at he
      rw[e2];exact he.symm
   rw[this,h2]at h1;cases h1
 · rw[ov_fl_ne k'];exact k y hy hS hc h1 h2
theorem Ws.clo{N:Nat}{f:Nat→Nat}{X Y:List (List Nat)}(h:Ws N f (X++Y)):Clo N f fun x=>X.flatten.contains x:=fun x hx=>by
 have hn:=h.nodup;rw[List.flatten_append,List.nodup_append]at hn;obtain⟨w,hw,hxw⟩:=h.word hx;have hfx:=cy_closed (h.cyc w hw) hxw
 show (X.flatten.contains (f x):Bool)=X.flatten.contains x
 rcases List.mem_append.1 hw with k|k
 · have a:x∈X.flatten:=List.mem_flatten.2 ⟨w,k,hxw⟩
   have b:f x∈X.flatten:=List.mem_flatten.2 ⟨w,k,hfx⟩;rw[List.contains_iff_mem.2 a,List.contains_iff_mem.2 b]
 · have a:x∈Y.flatten:=List.mem_flatten.2 ⟨w,k,hxw⟩
   have b:f x∈Y.flatten:=List.mem_flatten.2 ⟨w,k,hfx⟩
   have a':x∉X.flatten:=fun e=>hn.2.2 x e x a rfl
   have b':f x∉X.flatten:=fun e=>hn.2.2 _ e _ b rfl
   have c1:X.flatten.contains x=false:=by simpa using a'
   have c2:X.flatten.contains (f x)=false:=by simpa using b'
   rw[c1,c2]
theorem Clo.orb{N:Nat}{f:Nat→Nat}{Hi:Nat→Bool}(hf:Pm N f)(h:Clo N f Hi){x y:Nat}(hx:x<N)(k:Orb f x y):Hi y=Hi x:=
 (k.ind (P:=fun y=>y<N∧Hi y=Hi x) (fun z hz=>⟨hf.lt z hz.1,(h z hz.1).trans hz.2⟩) ⟨hx,rfl⟩).2

section
variable {W:Type} (K:CA W) (A:Ar)
def Lam(S:St):Prop:=∀(c:Nat) (Hi:Nat→Bool),c<A.n→S c=false→Clo (2*A.n) (A.nS (ad S c)) Hi→Hi (2*c)≠Hi (2*c+1)→∀h,Lay A.n S c Hi h→K.σ (V K A S h)=V K A (ad S c) h
variable {K A}
theorem clo_ad{S:St}{c e:Nat}{Hi:Nat→Bool}(hc:Clo (2*A.n) (A.nS (ad S c)) Hi)(hne:e≠c)(he:Hi (2*e)=Hi (2*e+1)):Clo (2*A.n) (A.nS (ad (ad S e) c)) Hi:=fun x hx=>by
 rw[ad_comm]
 by_cases k:x / 2=e
 · cases hS:ad S c (x / 2)with
   |true=>
    have:ad (ad S c) e=ad S c:=funext fun d=>by
     by_cases k':d=e
     · subst k';rw[ad_same,←k,hS]
     · rw[ad_ne k']
    rw[this];exact hc x hx
   |false=>
    subst k;rw[A.nS_ad hS hx,hc _ (mt_lt.2 hx)]
    rcases Nat.mod_two_eq_zero_or_one x with m|m
    · have e1:2*(x / 2)=x:=by omega
      have e2:mt x=x+1:=by unfold mt;rw[if_pos m]
      rw[e1]at he
      rw[e2];exact he.symm
    · have e1:2*(x / 2)+1=x:=by omega
      have e2:mt x=2*(x / 2):=by unfold mt;rw[if_neg (by omega)];omega
      rw[e1]at he
      rw[e2];exact he
 · rw[A.nS_ad_ne k];exact hc x hx
theorem lam_step{S:St}(hL:∀e,e<A.n→S e=false→Lam K A (ad S e)){c:Nat}{Hi:Nat→Bool}(hc:c<A.n)(hS:S c=false)(hC:Clo (2*A.n) (A.nS (ad S c)) Hi)(hH:Hi (2*c)≠Hi (2*c+1))
 {e:Nat} (he:e<A.n) (hSe:S e=false) (hne:e≠c) (hHe:Hi (2*e)=Hi (2*e+1)) {h:St} (hl:Lay A.n S c Hi h) (hq:K.σ (V K A S (fl h e))=V K A (ad S c) (fl h e)):K.σ (V K A S h)=V K A (ad S c) h:=by
 rw[skein K A S e he hSe h,skein K A (ad S c) e he (by rw[ad_ne hne];exact hSe) h,K.σT,hq,ad_comm S c e]
 congr 1
 exact hL e he hSe c Hi hc (by rw[ad_ne hne.symm];exact hS) (clo_ad hC hne hHe) hH h (hl.ad e)
theorem lam_many{S:St}(hL:∀e,e<A.n→S e=false→Lam K A (ad S e)){c:Nat}{Hi:Nat→Bool}(hc:c<A.n)(hS:S c=false)(hC:Clo (2*A.n) (A.nS (ad S c)) Hi)(hH:Hi (2*c)≠Hi (2*c+1))
 {h':St} (hl':Lay A.n S c Hi h') (hq:K.σ (V K A S h')=V K A (ad S c) h') {h:St} (hl:Lay A.n S c Hi h) (hcc:h c=h' c):K.σ (V K A S h)=V K A (ad S c) h:=by
 have key:∀(m:Nat) (h:St),((List.range A.n).countP fun e=>!S e&&(h e != h' e))=m→Lay A.n S c Hi h→h c=h' c→K.σ (V K A S h)=V K A (ad S c) h:=by
  intro m
  induction m with
  |zero=>
   intro h h0 _ _
   rw[List.countP_eq_zero]at h0
   have e:∀d,d<A.n→S d=false→h d=h' d:=fun d d1 d2=>by
    have:=h0 d (List.mem_range.2 d1)
    simpa[d2]using this
   rw[V_congr K A e,V_congr K A (S:=ad S c) (h:=h) (h':=h') fun d d1 d2=>by
    by_cases k:d=c
    · subst k;rw[ad_same]at d2;cases d2
    · rw[ad_ne k]at d2;exact e d d1 d2]
   exact hq
  |succ m ih=>
   intro h h0 hl hcc
   have:∃e,e∈List.range A.n∧(!S e&&(h e != h' e))=true:=by
    refine List.countP_pos_iff.1 ?_
    omega
   obtain⟨e,he,hp⟩:=this;simp only[Bool.and_eq_true,Bool.not_eq_true',bne_iff_ne,ne_eq]at hp;obtain⟨hSe,hne⟩:=hp
   have hec:e≠c:=fun k=>hne (k ▸ hcc)
   rw[List.mem_range]at he
   have hHe:Hi (2*e)=Hi (2*e+1):=by
    have q1:(2*e) / 2=e:=by omega
    have q2:(2*e+1) / 2=e:=by omega
    have q3:mt (2*e)=2*e+1:=by unfold mt;rw[if_pos (by omega)]
    have q4:mt (2*e+1)=2*e:=by unfold mt;rw[if_neg (by omega)];omega
    cases a:Hi (2*e)<;>cases b:Hi (2*e+1)
    · rfl
    · exfalso
      have x1:=hl (2*e+1) (by omega) (by rw[q2];exact hSe) (by rw[q2];exact hec) b (by rw[q4];exact a);have x2:=hl' (2*e+1) (by omega) (by rw[q2];exact hSe) (by rw[q2];exact hec) b (by rw[q4];exact a);have:=ov_det (x1.trans x2.symm)
      rw[q2]at this;exact hne this
    · exfalso
      have x1:=hl (2*e) (by omega) (by rw[q1];exact hSe) (by rw[q1];exact hec) a (by rw[q3];exact b);have x2:=hl' (2*e) (by omega) (by rw[q1];exact hSe) (by rw[q1];exact hec) a (by rw[q3];exact b);have:=ov_det (x1.trans x2.symm)
      rw[q1]at this;exact hne this
    · rfl
   refine lam_step hL hc hS hC hH he hSe hec hHe hl (ih (fl h e) ?_ (hl.fl hHe) (by rw[fl_ne hec.symm];exact hcc))
   have:=countP_but (l:=List.range A.n) List.nodup_range (p:=fun e=>!S e&&(h e != h' e)) (q:=fun d=>!S d&&(fl h e d != h' d)) (x:=e) (List.mem_range.2 he) (by simp[hSe,hne]) fun d _=>by
    by_cases k:d=e
    · subst k
      rw[fl_same]
      have:(!h d)=h' d:=by
       revert hne
       cases h d<;>cases h' d<;>simp
      simp[this]
    · simp[fl_ne k,k]
   omega
 exact key _ h rfl hl hcc
theorem hi_lo{S:St}{c:Nat}{Hi:Nat→Bool}(hS:S c=false)(hC:Clo (2*A.n) (A.nS (ad S c)) Hi){a:Nat}(ha:a<2*A.n)(hac:a / 2=c)(h1:Hi a=true)(h2:Hi (mt a)=false):
 ∃(X Y:List (List Nat)) (u v:List Nat),Ws (2*A.n) (A.nS (ad S c)) (X++(a :: u) :: (mt a :: v) :: Y)∧(∀x∈X.flatten++(a :: u),Hi x=true)∧∀x∈(mt a :: v)++Y.flatten,Hi x=false:=by
 obtain⟨ws,hws⟩:=A.ws_ex (ad S c);have hpm:=A.nS_pm (ad S c)
 obtain⟨P,hP⟩:∃P,P=ws.filter fun w=>Hi (w.headD 0):=⟨_,rfl⟩
 obtain⟨Q,hQ⟩:∃Q,Q=ws.filter fun w=>!Hi (w.headD 0):=⟨_,rfl⟩
 have hpq:(P++Q).Perm ws:=by rw[hP,hQ];exact List.filter_append_perm _ ws
 have hhead:∀w∈ws,∀x∈w,Hi x=Hi (w.headD 0):=fun w hw x hx=>by
  have hc:=hws.cyc w hw
  cases w with
  |nil=>cases hx
  |cons b u=>exact hC.orb hpm (hws.mem.1 (List.mem_flatten.2 ⟨_,hw,by simp⟩)) (cy_all hc (by simp) hx)
 have hPm:∀w∈P,∀x∈w,Hi x=true:=fun w hw x hx=>by
  rw[hP,List.mem_filter]at hw
  rw[hhead w hw.1 x hx];exact hw.2
 have hQm:∀w∈Q,∀x∈w,Hi x=false:=fun w hw x hx=>by
  rw[hQ,List.mem_filter]at hw
  rw[hhead w hw.1 x hx];simpa using hw.2
 have hPQ:=hws.of_perm hpq;obtain⟨w,hw,haw⟩:=hPQ.word ha;obtain⟨w',hw',haw'⟩:=hPQ.word (mt_lt.2 ha)
 have hwP:w∈P:=(List.mem_append.1 hw).resolve_right fun k=>by rw[hQm w k a haw]at h1;cases h1
 have hwQ:w'∈Q:=(List.mem_append.1 hw').resolve_left fun k=>by rw[hPm w' k _ haw']at h2;cases h2
 obtain⟨X1,X2,hX⟩:=List.append_of_mem hwP;obtain⟨Y1,Y2,hY⟩:=List.append_of_mem hwQ;obtain⟨p,q,hpq1⟩:=List.append_of_mem haw;obtain⟨p',q',hpq2⟩:=List.append_of_mem haw'
 have e1:((X1++X2)++w :: w' :: (Y1++Y2)).Perm (P++Q):=by
  rw[hX,hY]
  refine List.perm_iff_count.2 fun z=>?_
  simp only[List.count_append,List.count_cons]
  omega
 have e2:=hPQ.of_perm e1;rw[hpq1]at e2;have e3:=Ws.rot (u:=p) (v:=a :: q) e2
 have e4:Ws (2*A.n) (A.nS (ad S c)) (((X1++X2)++[a :: q++p])++(p'++mt a :: q') :: (Y1++Y2)):=by
  rw[hpq2]at e3
  simpa using e3
 have e5:=Ws.rot (u:=p') (v:=mt a :: q') e4
 refine⟨X1++X2,Y1++Y2,q++p,q'++p',by simpa using e5,fun x hx=>?_,fun x hx=>?_⟩
 · simp only[List.mem_append,List.flatten_append,List.mem_cons,List.mem_flatten]at hx
   rcases hx with(⟨z,hz,hxz⟩|⟨z,hz,hxz⟩)|rfl|hx|hx
   · exact hPm z (by rw[hX];simp[hz]) x hxz
   · exact hPm z (by rw[hX];simp[hz]) x hxz
   · exact h1
   · exact hPm w hwP x (by rw[hpq1];simp[hx])
   · exact hPm w hwP x (by rw[hpq1];simp[hx])
 · simp only[List.mem_append,List.flatten_append,List.mem_cons,List.mem_flatten]at hx
   rcases hx with(rfl|hx|hx)|⟨z,hz,hxz⟩|⟨z,hz,hxz⟩
   · exact h2
   · exact hQm w' hwQ x (by rw[hpq2];simp[hx])
   · exact hQm w' hwQ x (by rw[hpq2];simp[hx])
   · exact hQm z (by rw[hY];simp[hz]) x hxz
   · exact hQm z (by rw[hY];simp[hz]) x hxz
theorem fe_ne{d x:Nat}(h:x / 2≠d):fe d x=false:=by unfold fe;simpa using h
theorem lam_full:∀(m:Nat) (S:St),A.live S=m→(∀S',A.live S'≤m→AA K A S')→Lam K A S:=by
 intro m
 induction m using Nat.strongRecOn with
 |ind m ih=>
  intro S hm hAA c Hi hc hS hC hH h hl
  have hL:∀e,e<A.n→S e=false→Lam K A (ad S e):=fun e he hSe=>by
   have:=A.live_ad he hSe
   exact ih (A.live (ad S e)) (by omega) _ rfl fun S' h'=>hAA S' (by omega)
  obtain⟨a,ha,hac,h1,h2⟩:∃a,a<2*A.n∧a / 2=c∧Hi a=true∧Hi (mt a)=false:=by
   have q3:mt (2*c)=2*c+1:=by unfold mt;rw[if_pos (by omega)]
   have q4:mt (2*c+1)=2*c:=by unfold mt;rw[if_neg (by omega)];omega
   cases x:Hi (2*c)<;>cases y:Hi (2*c+1)
   · rw[x,y]at hH;exact absurd rfl hH
   · exact⟨2*c+1,by omega,by omega,y,by rw[q4];exact x⟩
   · exact⟨2*c,by omega,by omega,x,by rw[q3];exact y⟩
   · rw[x,y]at hH;exact absurd rfl hH
  obtain⟨X,Y,u,v,hW3,hX,hY⟩:=hi_lo hS hC ha hac h1 h2
  obtain⟨l,hlm⟩:∃l,l=mt a:=⟨_,rfl⟩
  have hal:a=mt l:=by rw[hlm,mt_mt]
  have hlc:l / 2=c:=by rw[hlm,mt_div];exact hac
  have hSl:S (l / 2)=false:=by rw[hlc];exact hS
  rw[←hlm,hal,←hlc]at hW3;have hW4:=Ws.unsplit A hSl hW3;have hn3:=hW3.nodup;have hn4:=hW4.nodup
  have k1:A.k (ad S c)=A.k S+1:=by
   rw[←hlc,Ws.k_eq A hW4,Ws.k_eq A hW3];simp only[List.length_append,List.length_cons]
   omega
  have kpos:1≤A.k S:=by
   rw[Ws.k_eq A hW4];simp only[List.length_append,List.length_cons]
   omega
  have hlive:=A.live_ad hc hS
  have base:∀(ws:List (List Nat)),Ws (2*A.n) (A.nS S) ws→(∀d,d≠c→ws.flatten.filter (fe d)=(X++(mt l :: u) :: (l :: v) :: Y).flatten.filter (fe d)) →
   Lay A.n S c Hi (dn ws.flatten)∧K.σ (V K A S (dn ws.flatten))=V K A (ad S c) (dn ws.flatten):=by
   intro ws hws hf
   refine⟨fun y hy hSy hyc y1 y2=>?_,?_⟩
   · refine dn_desc (S:=S) ws.flatten y hy hSy ?_
     refine(bef_congr (p:=fe (y / 2)) (by simp[fe]) (by simp[fe,mt_div]) (hf _ hyc)).2 ?_
     have e1:(X++(mt l :: u) :: (l :: v) :: Y).flatten=(X.flatten++(mt l :: u))++((l :: v)++Y.flatten):=by simp
     rw[e1]
     have hm:y∈(X.flatten++(mt l :: u))++((l :: v)++Y.flatten):=by rw[←e1];exact hW3.mem.2 hy
     refine bef_split ?_ ?_
     · refine(List.mem_append.1 hm).resolve_right fun k=>?_
       rw[hlm]at k
       rw[hY y k]at y1;cases y1
     · intro k
       rw[←hal]at k
       rw[hX _ k]at y2;cases y2
   · have v1:V K A S (dn ws.flatten)=K.D (A.k S):=hAA S (by omega) ws hws _ (dn_desc _)
     have v2:V K A (ad S c) (dn ws.flatten)=K.D (A.k (ad S c)):=by
      have h3:=hAA (ad S c) (by omega) _ (by rw[←hlc];exact hW3) (dn ws.flatten)
      exact h3 ((dn_desc (n:=A.n) (S:=S) ws.flatten).ad fun d _ _ hd=>hf d hd)
     rw[v1,v2,k1,K.σD _ kpos]
  have f4:∀d,d≠c→(X++(l :: u++mt l :: v) :: Y).flatten.filter (fe d)=(X++(mt l :: u) :: (l :: v) :: Y).flatten.filter (fe d):=fun d hd=>by
   have e1:fe d l=false:=fe_ne (by rw[hlc];exact hd.symm);have e2:fe d (mt l)=false:=fe_ne (by rw[mt_div,hlc];exact hd.symm)
   simp[List.filter_append,List.filter_cons,e1,e2]
  have f4':∀d,d≠c→(X++((u++mt l :: v)++[l]) :: Y).flatten.filter (fe d)=(X++(mt l :: u) :: (l :: v) :: Y).flatten.filter (fe d):=fun d hd=>by
   have e1:fe d l=false:=fe_ne (by rw[hlc];exact hd.symm);have e2:fe d (mt l)=false:=fe_ne (by rw[mt_div,hlc];exact hd.symm)
   simp[List.filter_append,List.filter_cons,e1,e2]
  have hW4':Ws (2*A.n) (A.nS S) (X++((u++mt l :: v)++[l]) :: Y):=Ws.rot (u:=[l]) (v:=u++mt l :: v) (by simpa using hW4);have hl2:l<2*A.n:=hW4.mem.1 (by simp);have out:=flat_apart hn4 rfl (x:=l) (by simp);have out':=flat_apart hn4 rfl (x:=mt l) (by simp);have hwn:(l :: u++mt l :: v).Nodup:=word_nodup hn4 (by simp)
  have hwn':(l :: (u++mt l :: v)).Nodup:=by simpa using hwn
  rw[List.nodup_cons]at hwn'
  cases hov:ov h l with
  |true=>
   obtain⟨b1,b2⟩:=base _ hW4 f4
   refine lam_many hL hc hS hC hH b1 b2 hl ?_
   have:ov (dn (X++(l :: u++mt l :: v) :: Y).flatten) l=true:=by
    refine dn_desc (S:=S) _ l hl2 hSl ?_
    have e1:(X++(l :: u++mt l :: v) :: Y).flatten=(X.flatten++[l])++((u++mt l :: v)++Y.flatten):=by simp
    rw[e1]
    refine bef_split (by simp) ?_
    simp only[List.mem_append,List.mem_singleton,not_or]
    exact⟨out'.1,mt_ne l⟩
   have e:=ov_det (hov.trans this.symm)
   rwa [hlc]at e
  |false=>
   obtain⟨b1,b2⟩:=base _ hW4' f4'
   refine lam_many hL hc hS hC hH b1 b2 hl ?_
   have:ov (dn (X++((u++mt l :: v)++[l]) :: Y).flatten) (mt l)=true:=by
    refine dn_desc (S:=S) _ (mt l) (mt_lt.2 hl2) (by rw[mt_div];exact hSl) ?_
    rw[mt_mt]
    have e1:(X++((u++mt l :: v)++[l]) :: Y).flatten=(X.flatten++(u++mt l :: v))++([l]++Y.flatten):=by simp
    rw[e1]
    refine bef_split (by simp) ?_
    simp only[List.mem_append,not_or]at hwn' ⊢
    exact⟨out.1,hwn'.1.1,hwn'.1.2⟩
   have hov':ov h (mt l)=true:=by rw[ov_mt,hov];rfl
   have e:=ov_det (hov'.trans this.symm)
   rwa [mt_div,hlc]at e
end
end Go.Proofs.YtlicglicfijelaaGreat.Kn

namespace Go.Proofs.YtlicglicfijelaaGreat.Kn

section
variable {W:Type} {K:CA W} {A:Ar}
def sgl(A:Ar)(l:Nat):Bool:=if l%2=1 then A.sg (l / 2)else !A.sg (l / 2)
theorem sgh_ov(A:Ar)(h:St)(l:Nat):sgh A h (l / 2)=if ov h l then sgl A l else !sgl A l:=by
 unfold sgh sgl ov
 rcases Nat.mod_two_eq_zero_or_one l with e|e
 · rw[e];cases h (l / 2)<;>simp
 · rw[e];cases h (l / 2)<;>simp
def crB(S:St)(w2:List Nat)(x:Nat):Bool:=!S (x / 2)&&w2.contains (mt x)
def LK(A:Ar):Prop:=∀(S:St) (X Y:List (List Nat)) (w1 w2:List Nat),Ws (2*A.n) (A.nS S) (X++w1 :: w2 :: Y)→w1.countP (fun l=>crB S w2 l&&sgl A l)=w1.countP (fun l=>crB S w2 l && !sgl A l)
theorem it_two{α:Type}{f g:α→α}(h2:∀x,g (f x)=x)(h1:∀x,f (g x)=x)(a:Nat):∀y,g (it f a y)=it f a (g y):=by
 induction a with
 |zero=>intro y;rfl
 |succ a ih=>
  intro y
  show g (f (it f a y))=f (it f a (g y))
  rw[h2,←ih,h1]
theorem it_back{α:Type}{f g:α→α}(h2:∀x,g (f x)=x)(h1:∀x,f (g x)=x)(a:Nat):∀y,it f a (it g a y)=y:=by
 induction a with
 |zero=>intro y;rfl
 |succ a ih=>
  intro y
  show f (it f a (g (it g a y)))=y
  rw[←it_two h2 h1,ih,h1]
def foldC(K:CA W)(A:Ar)(S:St)(w2:List Nat)(d0 v:W):List Nat→W
 |[]=>d0
 |x :: xs=>if crB S w2 x then K.T (!sgl A x) (foldC K A S w2 d0 v xs) v else foldC K A S w2 d0 v xs
theorem foldC_it(S:St)(w2:List Nat)(d0 v:W):∀xs:List Nat,foldC K A S w2 d0 v xs =
 it (fun w=>K.T true w v) (xs.countP fun l=>crB S w2 l && !sgl A l) (it (fun w=>K.T false w v) (xs.countP fun l=>crB S w2 l&&sgl A l) d0)
 |[]=>rfl
 |x :: xs=>by
  have h1:∀w,(fun w=>K.T true w v) ((fun w=>K.T false w v) w)=w:=fun w=>K.inv false w v
  have h2:∀w,(fun w=>K.T false w v) ((fun w=>K.T true w v) w)=w:=fun w=>K.inv true w v
  rw[foldC,foldC_it S w2 d0 v xs,List.countP_cons,List.countP_cons]
  cases c:crB S w2 x with
  |false=>simp
  |true=>
   cases s:sgl A x with
   |true=>
    simp only[Bool.not_true,if_true,Bool.and_true,Bool.and_false,Bool.false_eq_true,if_false,Nat.add_zero]
    exact it_two (f:=fun w=>K.T true w v) (g:=fun w=>K.T false w v) h2 h1 _ _
   |false=>
    simp only[Bool.not_false,if_true,Bool.and_true,Bool.and_false,Bool.false_eq_true,if_false,Nat.add_zero]
    rfl
theorem foldC_same(S:St)(w2:List Nat)(d0 v:W){xs:List Nat}(e:(xs.countP fun l=>crB S w2 l&&sgl A l)=xs.countP fun l=>crB S w2 l && !sgl A l):foldC K A S w2 d0 v xs=d0:=by
 rw[foldC_it,e]
 exact it_back (f:=fun w=>K.T true w v) (g:=fun w=>K.T false w v) (fun w=>K.inv true w v) (fun w=>K.inv false w v) _ _
def trnS(S:St)(w2:List Nat)(h:St)(u:List Nat):St:=fun c=>if (u.any fun x=>decide (x / 2=c)&&crB S w2 x)=true then !h c else h c
theorem trnS_not{S:St}{w2 u:List Nat}{h:St}{c:Nat}(k:∀x∈u,x / 2=c→crB S w2 x=false):trnS S w2 h u c=h c:=by
 unfold trnS
 rw[if_neg];simp only[List.any_eq_true,Bool.and_eq_true,decide_eq_true_eq,not_exists,not_and]
 intro x hx e
 rw[k x hx e];simp
theorem trnS_is{S:St}{w2 u:List Nat}{h:St}{x:Nat}(hx:x∈u)(k:crB S w2 x=true):trnS S w2 h u (x / 2)=!h (x / 2):=by
 unfold trnS
 rw[if_pos];simp only[List.any_eq_true,Bool.and_eq_true,decide_eq_true_eq]
 exact⟨x,hx,rfl,k⟩
theorem crB_iff{S:St}{w2:List Nat}{x:Nat}:crB S w2 x=true↔S (x / 2)=false∧mt x∈w2:=by unfold crB;simp
theorem nodup3{X Y:List (List Nat)}{a b:List Nat}(hn:(X++a :: b :: Y).flatten.Nodup):
 (∀x∈a,x∉b∧x∉X.flatten∧x∉Y.flatten)∧(∀x∈b,x∉a∧x∉X.flatten∧x∉Y.flatten)∧a.Nodup∧b.Nodup:=by
 have h1:∀x∈a,x∉X.flatten∧x∉(b :: Y).flatten:=fun x hx=>flat_apart hn rfl hx
 have h2:∀x∈b,x∉(X++[a]).flatten∧x∉Y.flatten:=fun x hx=>flat_apart (X:=X++[a]) hn (by simp) hx
 refine⟨fun x hx=>?_,fun x hx=>?_,word_nodup hn (by simp),word_nodup hn (by simp)⟩
 · obtain⟨k1,k2⟩:=h1 x hx
   simp only[List.flatten_cons,List.mem_append,not_or]at k2
   exact⟨k2.1,k1,k2.2⟩
 · obtain⟨k1,k2⟩:=h2 x hx
   simp only[List.flatten_append,List.flatten_cons,List.flatten_nil,List.append_nil,List.mem_append,not_or]at k1
   exact⟨k1.2,k1.1,k2⟩
theorem filter_nil{e:Nat}{l:List Nat}(h:∀x∈l,x / 2≠e):l.filter (fe e)=[]:=by
 rw[List.filter_eq_nil_iff]
 intro x hx
 rw[fe_ne (h x hx)];simp
theorem swap_free(hLK:LK A){S:St}(IH:∀c,c<A.n→S c=false→AA K A (ad S c)){X Y:List (List Nat)}{w1 w2:List Nat}(hW:Ws (2*A.n) (A.nS S) (X++w1 :: w2 :: Y))
 (hf:∀x∈w2,S (x / 2)=false→mt x∉w2) (hG:Gd K A S (X++w1 :: w2 :: Y)):Gd K A S (X++w2 :: w1 :: Y):=by
 intro h hd
 obtain⟨d1,d2,n1,n2⟩:=nodup3 hW.nodup;have kS:=Ws.k_eq A hW;simp only[List.length_append,List.length_cons]at kS
 have over2:∀x∈w1,crB S w2 x=true→ov h x=false:=fun x hx k=>by
  obtain⟨k1,k2⟩:=crB_iff.1 k;have hx2:x<2*A.n:=hW.mem.1 (by simp[hx])
  have:ov h (mt x)=true:=by
   refine hd (mt x) (mt_lt.2 hx2) (by rw[mt_div];exact k1) ?_
   rw[mt_mt]
   have e1:(X++w2 :: w1 :: Y).flatten=(X.flatten++w2)++(w1++Y.flatten):=by simp
   rw[e1]
   refine bef_split (by simp[k2]) ?_
   simp only[List.mem_append,not_or]
   exact⟨(d1 x hx).2.1,(d1 x hx).1⟩
  rw[ov_mt]at this
  simpa using this
 have key:∀(v u:List Nat),w1=u++v→V K A S (trnS S w2 h u)=foldC K A S w2 (K.D (A.k S)) (K.D (A.k S-1)) v:=by
  intro v
  induction v with
  |nil=>
   intro u hu
   rw[List.append_nil]at hu;subst hu
   show _=K.D (A.k S)
   refine hG _ fun y hy hSy hb=>?_
   by_cases c:∃z∈w1,z / 2=y / 2∧crB S w2 z=true
   · obtain⟨z,hz,e,k⟩:=c
     have k2:=(crB_iff.1 k).2
     rcases of_div e.symm with rfl|rfl
     · have h1:=trnS_is (h:=h) hz k
       have h2:ov (trnS S w2 h w1) y=!ov h y:=by
        rw[←ov_fl h y]
        exact ov_congr (by rw[h1,fl_same])
       rw[h2,over2 y hz k];rfl
     · exfalso
       rw[mt_mt]at hb
       have e1:(X++w1 :: w2 :: Y).flatten=(X.flatten++w1)++(w2++Y.flatten):=by simp
       rw[e1]at hb
       refine not_bef hb (bef_split (by simp[hz]) ?_)
       simp only[List.mem_append,not_or]
       exact⟨(d2 _ k2).2.1,(d2 _ k2).1⟩
   · have h1:trnS S w2 h w1 (y / 2)=h (y / 2):=trnS_not fun x hx e=>by
      cases k:crB S w2 x with
      |false=>rfl
      |true=>exact absurd ⟨x,hx,e,k⟩ c
     rw[ov_congr h1]
     refine hd y hy hSy ((bef_congr (p:=fe (y / 2)) (by simp[fe]) (by simp[fe,mt_div]) ?_).2 hb)
     by_cases c1:∃z∈w1,z / 2=y / 2
     · obtain⟨z,hz,e⟩:=c1
       have:w2.filter (fe (y / 2))=[]:=filter_nil fun t ht et=>by
        rcases of_div (et.trans e.symm)with rfl|rfl
        · exact(d1 t hz).1 ht
        · exact c ⟨z,hz,e,crB_iff.2 ⟨by rw[e];exact hSy,ht⟩⟩
       simp[List.filter_append,this]
     · have:w1.filter (fe (y / 2))=[]:=filter_nil fun t ht et=>c1 ⟨t,ht,et⟩
       simp[List.filter_append,this]
  |cons x v ih=>
   intro u hu
   have ih':=ih (u++[x]) (by rw[hu];simp);rw[foldC]
   cases k:crB S w2 x with
   |false=>
    rw[if_neg (by simp),←ih']
    refine V_congr K A fun c _ _=>?_
    unfold trnS
    rw[List.any_append]
    simp[k]
   |true=>
    obtain⟨k1,k2⟩:=crB_iff.1 k
    have hxw:x∈w1:=by rw[hu];simp
    have hx2:x<2*A.n:=hW.mem.1 (by simp[hxw])
    have hc:x / 2<A.n:=by omega
    rw[hu]at n1;rw[List.nodup_append]at n1;obtain⟨nu,nxv,nuv⟩:=n1
    have hnot:trnS S w2 h u (x / 2)=h (x / 2):=trnS_not fun z hz e=>by
     cases kz:crB S w2 z with
     |false=>rfl
     |true=>
      rcases of_div e with rfl|rfl
      · exact absurd rfl (nuv z hz z (by simp))
      · exact absurd k2 (d1 _ (by rw[hu];simp[hz])).1
    have hflip:V K A S (fl (trnS S w2 h u) (x / 2))=V K A S (trnS S w2 h (u++[x])):=V_congr K A fun c _ _=>by
     by_cases e:c=x / 2
     · subst e
       rw[fl_same,hnot,trnS_is (u:=u++[x]) (by simp) k]
     · rw[fl_ne e]
       unfold trnS
       rw[List.any_append]
       have:decide (x / 2=c)=false:=by simpa using fun q=>e q.symm
       simp[this]
    have hsg:sgh A (trnS S w2 h u) (x / 2)=!sgl A x:=by
     rw[sgh_congr A hnot,sgh_ov,over2 x hxw k];simp
    have hval:V K A (ad S (x / 2)) (trnS S w2 h u)=K.D (A.k S-1):=by
     obtain⟨s,t,hst⟩:=List.append_of_mem k2
     have W1:Ws (2*A.n) (A.nS S) (X++(u++x :: v) :: (s++mt x :: t) :: Y):=by rw[←hu,←hst];exact hW
     have W2:=Ws.rot (u:=u) (v:=x :: v) W1
     have W3:Ws (2*A.n) (A.nS S) ((X++[x :: v++u])++(s++mt x :: t) :: Y):=by simpa using W2
     have W4:=Ws.rot (u:=s) (v:=mt x :: t) W3
     have W5:Ws (2*A.n) (A.nS S) (X++(x :: (v++u)) :: (mt x :: (t++s)) :: Y):=by simpa using W4
     have W6:=Ws.join A k1 W5
     have W7:Ws (2*A.n) (A.nS (ad S (x / 2))) (X++((x :: (t++s)++mt x :: v)++u) :: Y):=by simpa using W6
     have W8:=Ws.rot W7;have k8:=Ws.k_eq A W8;simp only[List.length_append,List.length_cons]at k8
     have e8:A.k S-1=A.k (ad S (x / 2)):=by omega
     rw[e8]
     refine IH _ hc k1 _ W8 _ fun y hy hSy hb=>?_
     have hne:y / 2≠x / 2:=fun e=>by rw[e,ad_same]at hSy;cases hSy
     rw[ad_ne hne]at hSy
     by_cases c:∃z∈u,z / 2=y / 2∧crB S w2 z=true
     · obtain⟨z,hz,e,kz⟩:=c
       have kz2:=(crB_iff.1 kz).2
       have hzw:z∈w1:=by rw[hu];simp[hz]
       rcases of_div e.symm with rfl|rfl
       · have h1:=trnS_is (h:=h) hz kz
         have h2:ov (trnS S w2 h u) y=!ov h y:=by
          rw[←ov_fl h y]
          exact ov_congr (by rw[h1,fl_same])
         rw[h2,over2 y hzw kz];rfl
       · exfalso
         rw[mt_mt]at hb
         have e1:(X++(u++(x :: (t++s)++mt x :: v)) :: Y).flatten=(X.flatten++u)++((x :: (t++s)++mt x :: v)++Y.flatten):=by simp
         rw[e1]at hb
         refine not_bef hb (bef_split (by simp[hz]) ?_)
         simp only[List.mem_append,not_or]
         refine⟨(d2 _ kz2).2.1,fun q=>(d2 _ kz2).1 ?_⟩
         rw[hu];simp[q]
     · have h1:trnS S w2 h u (y / 2)=h (y / 2):=trnS_not fun z hz e=>by
        cases kz:crB S w2 z with
        |false=>rfl
        |true=>exact absurd ⟨z,hz,e,kz⟩ c
       rw[ov_congr h1]
       refine hd y hy hSy ((bef_congr (p:=fe (y / 2)) (by simp[fe]) (by simp[fe,mt_div]) ?_).2 hb)
       have q1:fe (y / 2) x=false:=fe_ne hne.symm;have q2:fe (y / 2) (mt x)=false:=fe_ne (by rw[mt_div];exact hne.symm)
       have q3:s.filter (fe (y / 2))=[]∨t.filter (fe (y / 2))=[]:=by
        by_cases c1:∃z∈s,z / 2=y / 2
        · obtain⟨z,hz,e⟩:=c1
          right
          refine filter_nil fun r hr er=>?_
          have hzw:z∈w2:=by rw[hst];simp[hz]
          have hrw:r∈w2:=by rw[hst];simp[hr]
          rcases of_div (er.trans e.symm)with rfl|rfl
          · rw[hst,List.nodup_append]at n2
            exact n2.2.2 r hz r (by simp[hr]) rfl
          · exact hf z hzw (by rw[e];exact hSy) hrw
        · exact .inl (filter_nil fun r hr er=>c1 ⟨r,hr,er⟩)
       have q4:u.filter (fe (y / 2))=[]∨(s.filter (fe (y / 2))=[]∧t.filter (fe (y / 2))=[]):=by
        by_cases c1:∃z∈u,z / 2=y / 2
        · obtain⟨z,hz,e⟩:=c1
          have hzw:z∈w1:=by rw[hu];simp[hz]
          have:∀r∈w2,r / 2≠y / 2:=fun r hr er=>by
           rcases of_div (er.trans e.symm)with rfl|rfl
           · exact(d1 r hzw).1 hr
           · exact c ⟨z,hz,e,crB_iff.2 ⟨by rw[e];exact hSy,hr⟩⟩
          exact .inr ⟨filter_nil fun r hr=>this r (by rw[hst];simp[hr]),filter_nil fun r hr=>this r (by rw[hst];simp[hr])⟩
        · exact .inl (filter_nil fun r hr er=>c1 ⟨r,hr,er⟩)
       rw[hst,hu]
       rcases q4 with q4|⟨q4,q5⟩
       · rcases q3 with q3|q3
         · simp[List.filter_append,List.filter_cons,q1,q2,q3,q4]
         · simp[List.filter_append,List.filter_cons,q1,q2,q3,q4]
       · simp[List.filter_append,List.filter_cons,q1,q2,q4,q5]
    rw[if_pos rfl,skein K A S _ hc k1,hflip,ih',hsg,hval]
 have h0:=key w1 [] rfl
 have e0:V K A S (trnS S w2 h [])=V K A S h:=V_congr K A fun c _ _=>trnS_not fun x hx=>by cases hx
 rw[←e0,h0]
 exact foldC_same S w2 _ _ (hLK S X Y w1 w2 hW)
end
end Go.Proofs.YtlicglicfijelaaGreat.Kn

namespace Go.Proofs.YtlicglicfijelaaGreat.Kn

section
variable {W:Type} {K:CA W} {A:Ar}
theorem dn_c{n:Nat}{S:St}{F:List Nat}{l:Nat}(hl:l<2*n)(hS:S (l / 2)=false)(hb:bef F l (mt l)):ov (dn F) l=true:=dn_desc (n:=n) (S:=S) F l hl hS hb
theorem swap_self{S:St}(hAA:∀S',A.live S'<A.live S→AA K A S'){X Y:List (List Nat)}{w1 p q:List Nat}{l:Nat}(hS:S (l / 2)=false)(hW:Ws (2*A.n) (A.nS S) (X++w1 :: (l :: p++mt l :: q) :: Y))
 (hG:Gd K A S (X++w1 :: (l :: p++mt l :: q) :: Y)):Gd K A S (X++(l :: p++mt l :: q) :: w1 :: Y):=by
 intro h hd
 have hl:l<2*A.n:=hW.mem.1 (by simp)
 have hc:l / 2<A.n:=by omega
 have hlv:=A.live_ad hc hS
 have hL:∀e,e<A.n→S e=false→Lam K A (ad S e):=fun e he hSe=>by
  have:=A.live_ad he hSe
  exact lam_full (A.live (ad S e)) _ rfl fun S' h'=>hAA S' (by omega)
 have AAc:AA K A (ad S (l / 2)):=hAA _ (by omega);obtain⟨d1,d2,n1,n2⟩:=nodup3 hW.nodup
 have W1:Ws (2*A.n) (A.nS S) ((X++[w1])++(l :: p++mt l :: q) :: Y):=by simpa using hW
 have W2:=Ws.split A hS W1
 have P1:Ws (2*A.n) (A.nS (ad S (l / 2))) ((X++[w1,mt l :: p])++([l :: q]++Y)):=by simpa using W2
 have P2:Ws (2*A.n) (A.nS (ad S (l / 2))) ((X++[mt l :: p])++([w1,l :: q]++Y)):=W2.of_perm (List.perm_iff_count.2 fun z=>by simp only[List.count_append,List.count_cons,List.count_nil];omega);have P3:Ws (2*A.n) (A.nS (ad S (l / 2))) (X++(mt l :: p) :: (l :: q) :: w1 :: Y):=W2.of_perm (List.perm_iff_count.2 fun z=>by simp only[List.count_append,List.count_cons,List.count_nil];omega)
 have k1:A.k (ad S (l / 2))=A.k S+1:=by
  rw[Ws.k_eq A hW,Ws.k_eq A W2];simp only[List.length_append,List.length_cons,List.length_nil]
  omega
 have kpos:1≤A.k S:=by
  rw[Ws.k_eq A hW];simp only[List.length_append,List.length_cons]
  omega
 have f0:∀d,d≠l / 2→fe d l=false∧fe d (mt l)=false:=fun d hd=>⟨fe_ne hd.symm,fe_ne (by rw[mt_div];exact hd.symm)⟩
 rw[List.nodup_append]at n2;obtain⟨np,nq,npq⟩:=n2;rw[List.nodup_cons]at np nq
 obtain⟨F1,hF1⟩:∃F,F=(X++w1 :: (l :: p++mt l :: q) :: Y).flatten:=⟨_,rfl⟩
 obtain⟨F0,hF0⟩:∃F,F=X.flatten++(l :: p)++w1++(mt l :: q)++Y.flatten:=⟨_,rfl⟩
 have lfirst1:bef F1 l (mt l):=by
  have e1:F1=(X.flatten++w1++[l])++(p++mt l :: q++Y.flatten):=by rw[hF1];simp
  rw[e1]
  refine bef_split (by simp) ?_
  simp only[List.mem_append,List.mem_singleton,not_or]
  exact⟨⟨(d2 (mt l) (by simp)).2.1,(d2 (mt l) (by simp)).1⟩,mt_ne l⟩
 have lfirst0:bef F0 l (mt l):=by
  have e1:F0=(X.flatten++[l])++(p++w1++(mt l :: q)++Y.flatten):=by rw[hF0];simp
  rw[e1]
  refine bef_split (by simp) ?_
  simp only[List.mem_append,List.mem_singleton,not_or]
  exact⟨(d2 (mt l) (by simp)).2.1,mt_ne l⟩
 have lfirst:ov h l=true:=by
  refine hd l hl hS ?_
  have e1:(X++(l :: p++mt l :: q) :: w1 :: Y).flatten=(X.flatten++[l])++(p++mt l :: q++w1++Y.flatten):=by simp
  rw[e1]
  refine bef_split (by simp) ?_
  simp only[List.mem_append,List.mem_singleton,not_or]
  exact⟨(d2 (mt l) (by simp)).2.1,mt_ne l⟩
 obtain⟨Hi1,hHi1⟩:∃H:Nat→Bool,H=fun x=>(X++[w1,mt l :: p]).flatten.contains x:=⟨_,rfl⟩
 obtain⟨Hi2,hHi2⟩:∃H:Nat→Bool,H=fun x=>(X++[mt l :: p]).flatten.contains x:=⟨_,rfl⟩
 have C1:Clo (2*A.n) (A.nS (ad S (l / 2))) Hi1:=by rw[hHi1];exact P1.clo
 have C2:Clo (2*A.n) (A.nS (ad S (l / 2))) Hi2:=by rw[hHi2];exact P2.clo
 have mem1:∀x,Hi1 x=true↔x∈X.flatten∨x∈w1∨x=mt l∨x∈p:=fun x=>by rw[hHi1];simp
 have mem2:∀x,Hi2 x=true↔x∈X.flatten∨x=mt l∨x∈p:=fun x=>by rw[hHi2];simp
 have apart:∀H:Nat→Bool,H (mt l)=true→H l=false→H (2*(l / 2))≠H (2*(l / 2)+1):=fun H a b=>by
  rcases Nat.mod_two_eq_zero_or_one l with m|m
  · have e1:2*(l / 2)=l:=by omega
    have e2:mt l=l+1:=by unfold mt;rw[if_pos m]
    rw[e2]at a
    rw[e1,a,b];simp
  · have e1:2*(l / 2)+1=l:=by omega
    have e2:mt l=2*(l / 2):=by unfold mt;rw[if_neg (by omega)];omega
    rw[e2]at a
    rw[e1,a,b];simp
 have lX:l∉X.flatten:=(d2 l (by simp)).2.1;have lw:l∉w1:=(d2 l (by simp)).1
 have A1:Hi1 (2*(l / 2))≠Hi1 (2*(l / 2)+1):=apart _ ((mem1 _).2 (.inr (.inr (.inl rfl)))) (by
  cases e:Hi1 l with
  |false=>rfl
  |true=>
   rcases (mem1 _).1 e with k|k|k|k
   · exact absurd k lX
   · exact absurd k lw
   · exact absurd k.symm (mt_ne l)
   · exact absurd k np.1)
 have A2:Hi2 (2*(l / 2))≠Hi2 (2*(l / 2)+1):=apart _ ((mem2 _).2 (.inr (.inl rfl))) (by
  cases e:Hi2 l with
  |false=>rfl
  |true=>
   rcases (mem2 _).1 e with k|k|k
   · exact absurd k lX
   · exact absurd k.symm (mt_ne l)
   · exact absurd k np.1)
 have lay:∀(F G1 G2:List Nat) (Hi:Nat→Bool) (g:St),Desc A.n S g F→(∀d,d≠l / 2→F.filter (fe d)=(G1++G2).filter (fe d))→(∀x,x<2*A.n→x / 2≠l / 2→(Hi x=true↔x∈G1))→Lay A.n S (l / 2) Hi g:=by
  intro F G1 G2 Hi g hg hf hm y hy hSy hyc y1 y2
  refine hg y hy hSy ((bef_congr (p:=fe (y / 2)) (by simp[fe]) (by simp[fe,mt_div]) (hf _ hyc)).2 ?_)
  refine bef_split ((hm y hy hyc).1 y1) fun k=>?_
  rw[(hm _ (mt_lt.2 hy) (by rw[mt_div];exact hyc)).2 k]at y2
  cases y2
 have ne_l:∀x,x / 2≠l / 2→x≠l∧x≠mt l:=fun x hx=>⟨fun e=>hx (by rw[e]),fun e=>hx (by rw[e,mt_div])⟩
 have L1:Lay A.n S (l / 2) Hi1 (dn F1):=by
  refine lay F1 (X.flatten++w1++p) (q++Y.flatten) Hi1 _ (dn_desc _) (fun d hd=>?_) fun x _ hx=>?_
  · obtain⟨a,b⟩:=f0 d hd
    rw[hF1]
    simp[List.filter_append,List.filter_cons,a,b]
  · rw[mem1]
    simp only[List.mem_append];have:=(ne_l x hx).2
    constructor
    · rintro(k|k|k|k)
      · exact .inl (.inl k)
      · exact .inl (.inr k)
      · exact absurd k this
      · exact .inr k
    · rintro((k|k)|k)
      · exact .inl k
      · exact .inr (.inl k)
      · exact .inr (.inr (.inr k))
 have E1:K.σ (V K A S (dn F1))=V K A (ad S (l / 2)) (dn F1):=by
  have v1:V K A S (dn F1)=K.D (A.k S):=hG _ (by rw[hF1];exact dn_desc _)
  have v2:V K A (ad S (l / 2)) (dn F1)=K.D (A.k (ad S (l / 2))):=by
   refine AAc _ P1 _ ((dn_desc (n:=A.n) (S:=S) F1).ad fun d _ _ hd=>?_)
   obtain⟨a,b⟩:=f0 d hd;rw[hF1]
   simp[List.filter_append,List.filter_cons,a,b]
  rw[v1,v2,k1,K.σD _ kpos]
 have L0:Lay A.n S (l / 2) Hi1 (dn F0):=by
  refine lay F0 (X.flatten++p++w1) (q++Y.flatten) Hi1 _ (dn_desc _) (fun d hd=>?_) fun x _ hx=>?_
  · obtain⟨a,b⟩:=f0 d hd
    rw[hF0]
    simp[List.filter_append,List.filter_cons,a,b]
  · rw[mem1]
    simp only[List.mem_append];have:=(ne_l x hx).2
    constructor
    · rintro(k|k|k|k)
      · exact .inl (.inl k)
      · exact .inr k
      · exact absurd k this
      · exact .inl (.inr k)
    · rintro((k|k)|k)
      · exact .inl k
      · exact .inr (.inr (.inr k))
      · exact .inr (.inl k)
 have c01:dn F0 (l / 2)=dn F1 (l / 2):=ov_det ((dn_c hl hS lfirst0).trans (dn_c hl hS lfirst1).symm);have E0:K.σ (V K A S (dn F0))=V K A (ad S (l / 2)) (dn F0):=lam_many hL hc hS C1 A1 L1 E1 L0 c01
 have L0':Lay A.n S (l / 2) Hi2 (dn F0):=by
  refine lay F0 (X.flatten++p) (w1++q++Y.flatten) Hi2 _ (dn_desc _) (fun d hd=>?_) fun x _ hx=>?_
  · obtain⟨a,b⟩:=f0 d hd
    rw[hF0]
    simp[List.filter_append,List.filter_cons,a,b]
  · rw[mem2]
    simp only[List.mem_append];have:=(ne_l x hx).2
    constructor
    · rintro(k|k|k)
      · exact .inl k
      · exact absurd k this
      · exact .inr k
    · rintro(k|k)
      · exact .inl k
      · exact .inr (.inr k)
 have Lh:Lay A.n S (l / 2) Hi2 h:=by
  refine lay _ (X.flatten++p) (q++w1++Y.flatten) Hi2 _ hd (fun d hd=>?_) fun x _ hx=>?_
  · obtain⟨a,b⟩:=f0 d hd
    simp[List.filter_append,List.filter_cons,a,b]
  · rw[mem2]
    simp only[List.mem_append];have:=(ne_l x hx).2
    constructor
    · rintro(k|k|k)
      · exact .inl k
      · exact absurd k this
      · exact .inr k
    · rintro(k|k)
      · exact .inl k
      · exact .inr (.inr k)
 have Eh:K.σ (V K A S h)=V K A (ad S (l / 2)) h:=lam_many hL hc hS C2 A2 L0' E0 Lh (ov_det (lfirst.trans (dn_c hl hS lfirst0).symm))
 have v3:V K A (ad S (l / 2)) h=K.D (A.k (ad S (l / 2))):=by
  refine AAc _ P3 _ (hd.ad fun d _ _ hd=>?_)
  obtain⟨a,b⟩:=f0 d hd
  simp[List.filter_append,List.filter_cons,a,b]
 refine K.σi _ _ ?_
 rw[Eh,v3,k1,K.σD _ kpos]
theorem swap_any(hLK:LK A){S:St}(hAA:∀S',A.live S'<A.live S→AA K A S'){X Y:List (List Nat)}{w1 w2:List Nat}(hW:Ws (2*A.n) (A.nS S) (X++w1 :: w2 :: Y))
 (hG:Gd K A S (X++w1 :: w2 :: Y)):Gd K A S (X++w2 :: w1 :: Y):=by
 have IH:∀c,c<A.n→S c=false→AA K A (ad S c):=fun c c1 c2=>hAA _ (by have:=A.live_ad c1 c2;omega)
 by_cases hf:∀x∈w2,S (x / 2)=false→mt x∉w2
 · exact swap_free hLK IH hW hf hG
 · have:∃x,x∈w2∧S (x / 2)=false∧mt x∈w2:=Classical.byContradiction fun k=>hf fun x hx hS hm=>k ⟨x,hx,hS,hm⟩
   obtain⟨x,hx,hS,hm⟩:=this;obtain⟨s,t,hst⟩:=List.append_of_mem hx
   have hm':mt x∈t++s:=by
    rw[hst]at hm;simp only[List.mem_append,List.mem_cons]at hm ⊢
    rcases hm with k|k|k
    · exact .inr k
    · exact absurd k (mt_ne x)
    · exact .inl k
   obtain⟨p,q,hpq⟩:=List.append_of_mem hm'
   have W1:Ws (2*A.n) (A.nS S) ((X++[w1])++(s++x :: t) :: Y):=by rw[←hst];simpa using hW
   have G1:Gd K A S ((X++[w1])++(s++x :: t) :: Y):=by rw[←hst];simpa using hG
   have W2:=Ws.rot W1;have G2:=rot_any IH W1 G1
   have e2:x :: t++s=x :: p++mt x :: q:=by rw[List.cons_append,hpq];simp
   rw[e2]at W2 G2;have G3:=swap_self hAA (X:=X) (Y:=Y) (w1:=w1) (p:=p) (q:=q) hS (by simpa using W2) (by simpa using G2);have W3:Ws (2*A.n) (A.nS S) (X++(x :: p++mt x :: q) :: w1 :: Y):=Ws.swap (by simpa using W2);rw[←e2]at W3 G3;have G4:=rot_any IH (X:=X) (Y:=w1 :: Y) (u:=x :: t) (v:=s) W3 G3;rw[hst]
   exact G4
theorem front{N:Nat}{f:Nat→Nat}{P:List (List Nat)→Prop}(hs:∀X Y u v,Ws N f (X++u :: v :: Y)→P (X++u :: v :: Y)→P (X++v :: u :: Y)){w:List Nat}{R:List (List Nat)}:
 ∀{B Z:List (List Nat)},Ws N f (Z++(B++w :: R))→P (Z++(B++w :: R))→Ws N f (Z++w :: (B++R))∧P (Z++w :: (B++R))
 |[],Z,hW,hP=>⟨hW,hP⟩
 |b :: B,Z,hW,hP=>by
  obtain⟨h1,h2⟩:=front hs (B:=B) (Z:=Z++[b]) (by simpa using hW) (by simpa using hP)
  have h1':Ws N f (Z++b :: w :: (B++R)):=by simpa using h1
  exact⟨h1'.swap,hs _ _ _ _ h1' (by simpa using h2)⟩
theorem conn{N:Nat}{f:Nat→Nat}{P:List (List Nat)→Prop}(hs:∀X Y u v,Ws N f (X++u :: v :: Y)→P (X++u :: v :: Y)→P (X++v :: u :: Y))
 (hr:∀X Y u v,Ws N f (X++(u++v) :: Y)→P (X++(u++v) :: Y)→P (X++(v++u) :: Y)):∀{vs ws Z:List (List Nat)},Ws N f (Z++ws)→Ws N f (Z++vs)→P (Z++ws)→P (Z++vs)
 |[],ws,Z,hW,hV,hP=>by
  have:ws=[]:=by
   cases ws with
   |nil=>rfl
   |cons w ws=>
    have h1:=hW.perm.length_eq;have h2:=hV.perm.length_eq;have h3:=cy_ne (hW.cyc w (by simp));have h4:0<w.length:=List.length_pos_iff.2 h3;simp only[List.flatten_append,List.flatten_cons,List.length_append,List.flatten_nil,List.length_nil]at h1 h2
    omega
  rw[this]at hP;exact hP
 |v :: vs,ws,Z,hW,hV,hP=>by
  have hcv:=hV.cyc v (by simp)
  cases v with
  |nil=>exact absurd rfl (cy_ne hcv)
  |cons x u=>
   have hx:x<N:=hV.mem.1 (by simp);obtain⟨w,hw,hxw⟩:=hW.word hx;have hxZ:x∉Z.flatten:=(flat_apart hV.nodup rfl (x:=x) (by simp)).1
   have hww:w∈ws:=(List.mem_append.1 hw).resolve_left fun k=>hxZ (List.mem_flatten.2 ⟨w,k,hxw⟩)
   obtain⟨B,R,rfl⟩:=List.append_of_mem hww;obtain⟨W1,P1⟩:=front hs hW hP;obtain⟨s,t,rfl⟩:=List.append_of_mem hxw;have W2:=Ws.rot (u:=s) (v:=x :: t) W1;have P2:=hr _ _ _ _ W1 P1
   have e:t++s=u:=by
    have n1:(x :: t++s).Nodup:=word_nodup W2.nodup (by simp);have n2:(x :: u).Nodup:=word_nodup hV.nodup (by simp);rw[List.cons_append,List.nodup_cons]at n1;rw[List.nodup_cons]at n2
    exact cy_uniq (W2.cyc (x :: t++s) (by simp)) hcv n1.1 n2.1
   rw[List.cons_append,e]at W2 P2;have:=conn hs hr (vs:=vs) (ws:=B++R) (Z:=Z++[x :: u]) (by simpa using W2) (by simpa using hV) (by simpa using P2)
   simpa using this
theorem all_good(hLK:LK A):∀(m:Nat) (S:St),A.live S=m→AA K A S:=by
 intro m
 induction m using Nat.strongRecOn with
 |ind m ih=>
  intro S hm ws hW
  have hAA:∀S',A.live S'<A.live S→AA K A S':=fun S' h'=>ih _ (by omega) S' rfl
  have IH:∀c,c<A.n→S c=false→AA K A (ad S c):=fun c c1 c2=>hAA _ (by have:=A.live_ad c1 c2;omega)
  have:=conn (N:=2*A.n) (f:=A.nS S) (P:=fun ws=>Gd K A S ws) (fun X Y u v h1 h2=>swap_any hLK hAA h1 h2) (fun X Y u v h1 h2=>rot_any IH h1 h2)
   (vs:=ws) (ws:=A.ws0 S) (Z:=[]) (A.ws0_ok S) hW (fun h hd=>V_ws0 K A hd)
  exact this
theorem good(hLK:LK A)(S:St):AA K A S:=all_good hLK _ S rfl
end
end Go.Proofs.YtlicglicfijelaaGreat.Kn

namespace Go.Proofs.YtlicglicfijelaaGreat.Kn

abbrev Prs:=List (Nat×Nat)
def mate:Prs→Nat→Nat
 |[],x=>x
 |e :: es,x=>swp e.1 e.2 (mate es x)
def phi(σ:Nat→Nat)(es:Prs)(x:Nat):Nat:=mate es (σ x)
def com(σ:Nat→Nat):Prs→Nat→Nat→Prop
 |[]=>Orb σ
 |e :: es=>mrg (com σ es) e.1 e.2
def Good(N:Nat)(es:Prs):Prop:=∀e∈es,e.1<N∧e.2<N∧e.1≠e.2
section
variable {N:Nat} {σ:Nat→Nat}
theorem phi_cons(σ:Nat→Nat)(e:Nat×Nat)(es:Prs):phi σ (e :: es)=fun x=>swp e.1 e.2 (phi σ es x):=rfl
theorem Good.tail{e:Nat×Nat}{es:Prs}(h:Good N (e :: es)):Good N es:=fun x hx=>h x (by simp[hx])
theorem phi_pm(h:Pm N σ):∀{es:Prs},Good N es→Pm N (phi σ es)
 |[],_=>h
 |e :: es,hg=>by
  obtain⟨h1,h2,_⟩:=hg e (by simp)
  exact(phi_pm h hg.tail).swp h1 h2
theorem com_equiv(h:Pm N σ):∀es:Prs,Equivalence (com σ es)
 |[]=>h.equiv
 |_ :: es=>mrg_equiv (com_equiv h es) _ _
theorem com_sub:∀{es:Prs} {x y:Nat},Orb σ x y→com σ es x y
 |[],_,_,h=>h
 |_ :: es,_,_,h=>.inl (com_sub (es:=es) h)
theorem com_pair(h:Pm N σ):∀{es:Prs} {e:Nat×Nat},e∈es→com σ es e.1 e.2
 |[],_,he=>by cases he
 |d :: es,e,he=>by
  rcases List.mem_cons.1 he with rfl|he
  · exact .inr (.inl ⟨(com_equiv h es).refl _,(com_equiv h es).refl _⟩)
  · exact .inl (com_pair h he)
theorem orb_com(h:Pm N σ):∀{es:Prs},Good N es→∀{x y:Nat},Orb (phi σ es) x y→com σ es x y
 |[],_,_,_,k=>k
 |e :: es,hg,x,y,k=>by
  have:=orb_sub (phi_pm h hg.tail) k
  rcases this with k|⟨k1,k2⟩|⟨k1,k2⟩
  · exact .inl (orb_com h hg.tail k)
  · exact .inr (.inl ⟨orb_com h hg.tail k1,orb_com h hg.tail k2⟩)
  · exact .inr (.inr ⟨orb_com h hg.tail k1,orb_com h hg.tail k2⟩)
theorem com_least{R:Nat→Nat→Prop}(hR:Equivalence R)(hs:∀x,R x (σ x)):∀{es:Prs},(∀e∈es,R e.1 e.2)→∀{x y:Nat},com σ es x y→R x y
 |[],_,x,y,k=>k.ind (P:=fun y=>R x y) (fun z hz=>hR.trans hz (hs z)) (hR.refl x)
 |e :: es,he,x,y,k=>by
  have h1:=fun {x y}=>com_least hR hs (es:=es) (fun d hd=>he d (by simp[hd])) (x:=x) (y:=y)
  rcases k with k|⟨k1,k2⟩|⟨k1,k2⟩
  · exact h1 k
  · exact hR.trans (h1 k1) (hR.trans (he e (by simp)) (h1 k2))
  · exact hR.trans (h1 k1) (hR.trans (hR.symm (he e (by simp))) (h1 k2))
theorem euler(h:Pm N σ):∀{es:Prs},Good N es →
 cl N (Orb (phi σ es))+cl N (Orb σ)≤es.length+2*cl N (com σ es)∧(cl N (Orb (phi σ es))+cl N (Orb σ)+es.length)%2=0
 |[],_=>by
  show cl N (Orb σ)+cl N (Orb σ)≤0+2*cl N (Orb σ)∧(cl N (Orb σ)+cl N (Orb σ)+0)%2=0
  omega
 |e :: es,hg=>by
  obtain⟨h1,h2,h3⟩:=hg e (by simp);obtain⟨i1,i2⟩:=euler h hg.tail;have hp:=phi_pm h hg.tail;rw[phi_cons,List.length_cons]
  show _≤_+2*cl N (mrg (com σ es) e.1 e.2)∧_
  by_cases c:com σ es e.1 e.2
  · rw[cl_congr (mrg_same (com_equiv h es) c)]
    by_cases d:Orb (phi σ es) e.1 e.2
    · have:=cl_part hp h1 h2 h3 d
      omega
    · have:=cl_join hp h1 h2 d
      omega
  · have j1:=cl_mrg (com_equiv h es) h1 h2 c
    have j2:=cl_join hp h1 h2 fun k=>c (orb_com h hg.tail k)
    omega

def Dis(es:Prs):Prop:=es.Pairwise fun e d=>e.1≠d.1∧e.1≠d.2∧e.2≠d.1∧e.2≠d.2
def inPrs(es:Prs)(d:Nat):Prop:=∃e∈es,d=e.1∨d=e.2
structure Mark(es:Prs)(z:Nat→Bool):Prop where
 sup:∀d,z d=true→inPrs es d
 pair:∀e∈es,z e.1=z e.2
theorem Dis.out{e:Nat×Nat}{es:Prs}(h:Dis (e :: es)):¬inPrs es e.1∧¬inPrs es e.2:=by
 unfold Dis at h
 rw[List.pairwise_cons]at h
 constructor
 · rintro⟨d,hd,k|k⟩
   · exact(h.1 d hd).1 k
   · exact(h.1 d hd).2.1 k
 · rintro⟨d,hd,k|k⟩
   · exact(h.1 d hd).2.2.1 k
   · exact(h.1 d hd).2.2.2 k
theorem Dis.tail{e:Nat×Nat}{es:Prs}(h:Dis (e :: es)):Dis es:=(List.pairwise_cons.1 h).2
theorem mate_out:∀{es:Prs} {d:Nat},¬inPrs es d→mate es d=d
 |[],_,_=>rfl
 |e :: es,d,h=>by
  rw[mate,mate_out (es:=es) fun⟨x,hx,k⟩=>h ⟨x,by simp[hx],k⟩]
  exact swp_ne (fun k=>h ⟨e,by simp,.inl k⟩) fun k=>h ⟨e,by simp,.inr k⟩
theorem mate_pair:∀{es:Prs},Dis es→∀{e:Nat×Nat},e∈es→mate es e.1=e.2∧mate es e.2=e.1
 |[],_,_,he=>by cases he
 |d :: es,h,e,he=>by
  obtain⟨o1,o2⟩:=h.out
  rcases List.mem_cons.1 he with rfl|he
  · rw[mate,mate,mate_out o1,mate_out o2]
    exact⟨swp_a _ _,swp_b _ _⟩
  · obtain⟨i1,i2⟩:=mate_pair h.tail he
    rw[mate,mate,i1,i2]
    refine⟨swp_ne ?_ ?_,swp_ne ?_ ?_⟩
    · exact fun k=>o1 ⟨e,he,.inr k.symm⟩
    · exact fun k=>o2 ⟨e,he,.inr k.symm⟩
    · exact fun k=>o1 ⟨e,he,.inl k.symm⟩
    · exact fun k=>o2 ⟨e,he,.inl k.symm⟩
theorem Mark.tail{e:Nat×Nat}{es:Prs}{z:Nat→Bool}(h:Mark (e :: es) z)(h1:z e.1=false)(h2:z e.2=false):Mark es z:=by
 refine⟨fun d k=>?_,fun p hp=>h.pair p (by simp[hp])⟩
 obtain⟨x,hx,y⟩:=h.sup d k
 rcases List.mem_cons.1 hx with rfl|hx
 · rcases y with rfl|rfl
   · rw[h1]at k;cases k
   · rw[h2]at k;cases k
 · exact⟨x,hx,y⟩
end
end Go.Proofs.YtlicglicfijelaaGreat.Kn

namespace Go.Proofs.YtlicglicfijelaaGreat.Kn

section
variable {α β:Type} {g:α→β} {all:List α}
theorem mem_map_of{l:List α}{x:α}(hinj:∀x∈all,∀y∈all,g x=g y→x=y)(hl:∀y∈l,y∈all)(hx:x∈all):g x∈l.map g↔x∈l:=by
 rw[List.mem_map]
 constructor
 · rintro⟨y,hy,e⟩
   rw[←hinj y (hl y hy) x hx e];exact hy
 · exact fun h=>⟨x,h,rfl⟩
variable [DecidableEq α] [DecidableEq β] {nx:α→α} {ny:β→β}
theorem ring_map(hinj:∀x∈all,∀y∈all,g x=g y→x=y)(hall:∀x∈all,nx x∈all)(hg:∀x∈all,ny (g x)=g (nx x)):
 ∀(k:Nat) {seen:List α} {x:α},(∀y∈seen,y∈all)→x∈all→ring ny k (seen.map g) (g x)=(ring nx k seen x).map g
 |0,seen,x,_,_=>by rw[ring,ring];rfl
 |k+1,seen,x,hs,hx=>by
  have hm:=mem_map_of hinj hs hx
  by_cases c:x∈seen
  · rw[ring_seen nx c,ring_seen ny (hm.2 c)];rfl
  · have:=ring_map hinj hall hg k (seen:=seen++[x]) (x:=nx x) (fun y hy=>by
     rcases List.mem_append.1 hy with hy|hy
     · exact hs y hy
     · rw[List.mem_singleton]at hy;exact hy ▸ hx) (hall x hx)
    rw[List.map_append,List.map_singleton]at this;rw[ring_new nx c,ring_new ny (fun h=>c (hm.1 h)),List.map_cons,hg x hx,this]
theorem rings_map(hinj:∀x∈all,∀y∈all,g x=g y→x=y)(hall:∀x∈all,nx x∈all)(hg:∀x∈all,ny (g x)=g (nx x))(N:Nat):
 ∀{ds seen:List α},(∀y∈seen,y∈all)→(∀y∈ds,y∈all)→rings ny N (seen.map g) (ds.map g)=(rings nx N seen ds).map (List.map g)
 |[],seen,_,_=>by rw[List.map_nil,rings_nil,rings_nil];rfl
 |d :: ds,seen,hs,hd=>by
  have hx:=hd d (by simp);have hm:=mem_map_of hinj hs hx
  have hd':∀y∈ds,y∈all:=fun y hy=>hd y (by simp[hy])
  rw[List.map_cons]
  by_cases c:d∈seen
  · rw[rings_seen nx c,rings_seen ny (hm.2 c)]
    exact rings_map hinj hall hg N hs hd'
  · rw[rings_new nx c,rings_new ny (fun h=>c (hm.1 h)),List.map_cons,ring_map hinj hall hg N hs hx,←List.map_append]
    congr 1
    exact rings_map hinj hall hg N (fun y hy=>by
     rcases List.mem_append.1 hy with hy|hy
     · exact hs y hy
     · exact ring_sub nx hall N seen hx y hy) hd'
end

section
variable {M:Nat} {f:Nat→Nat}
theorem ring_orb(f:Nat→Nat):∀(k:Nat) (seen:List Nat) (x:Nat),∀y∈ring f k seen x,Orb f x y
 |0,seen,x,y,h=>by rw[ring]at h;cases h
 |k+1,seen,x,y,h=>by
  by_cases c:x∈seen
  · rw[ring_seen f c]at h;cases h
  · rw[ring_new f c]at h
    rcases List.mem_cons.1 h with rfl|h
    · exact Orb.refl f _
    · exact(Orb.one f x).trans (ring_orb f k _ _ y h)
theorem ring_next(h:Pm M f):∀(k:Nat) {seen:List Nat} {x:Nat},seen.Nodup→(∀y∈seen,y<M)→x<M→M<k+seen.length→∀y∈ring f k seen x,f y∈seen++ring f k seen x
 |0,seen,x,_,_,_,_,y,hy=>by rw[ring]at hy;cases hy
 |k+1,seen,x,hn,hs,hx,hk,y,hy=>by
  by_cases c:x∈seen
  · rw[ring_seen f c]at hy;cases hy
  · rw[ring_new f c]at hy ⊢
    have hs':∀y∈seen++[x],y<M:=fun y hy=>by
     rcases List.mem_append.1 hy with hy|hy
     · exact hs y hy
     · rw[List.mem_singleton]at hy;exact hy ▸ hx
    have e:seen++x :: ring f k (seen++[x]) (f x)=seen++[x]++ring f k (seen++[x]) (f x):=by simp
    rw[e]
    rcases List.mem_cons.1 hy with rfl|hy
    · by_cases d:f y∈seen++[y]
      · exact List.mem_append.2 (.inl d)
      · refine List.mem_append.2 (.inr (ring_head f d ?_))
        have:=nodup_le (nodup_snoc hn c) (m:=List.range M) fun z hz=>List.mem_range.2 (hs' z hz)
        simp at this hk
        omega
    · exact ring_next h k (nodup_snoc hn c) hs' (h.lt x hx) (by simp;omega) y hy
theorem ring_is(h:Pm M f){k:Nat}{seen:List Nat}{x:Nat}(hn:seen.Nodup)(hs:∀y∈seen,y<M)(hc:∀y,f y∈seen→y∈seen)(hx:x<M)(hx':x∉seen)(hk:M<k){y:Nat}:
 y∈ring f k seen x↔Orb f x y:=by
 refine⟨ring_orb f k seen x y,fun ho=>?_⟩
 have hnd:=ring_nodup f k (seen:=seen) x hn
 refine ho.ind (P:=fun y=>y∈ring f k seen x) (fun z hz=>?_) (ring_head f hx' (by omega))
 rcases List.mem_append.1 (ring_next h k hn hs hx (by omega) z hz)with h1|h1
 · exact absurd rfl ((List.nodup_append.1 hnd).2.2 z (hc z h1) z hz)
 · exact h1
theorem rings_is(h:Pm M f){N:Nat}(hN:M<N):∀{ds seen:List Nat},seen.Nodup→(∀y∈seen,y<M)→(∀y,f y∈seen→y∈seen)→(∀d∈ds,d<M)→∀r∈rings f N seen ds,∀x∈r,∀y,y∈r↔Orb f x y
 |[],seen,_,_,_,_,r,hr=>by rw[rings_nil]at hr;cases hr
 |d :: ds,seen,hn,hs,hc,hd,r,hr=>by
  have hd':∀y∈ds,y<M:=fun y hy=>hd y (by simp[hy])
  by_cases c:d∈seen
  · rw[rings_seen f c]at hr
    exact rings_is h hN hn hs hc hd' r hr
  · have hdm:=hd d (by simp)
    have hm:=fun y=>ring_is h (y:=y) hn hs hc hdm c hN
    rw[rings_new f c]at hr
    rcases List.mem_cons.1 hr with rfl|hr
    · intro x hx y
      rw[hm];have:=(hm x).1 hx
      exact⟨fun k=>(h.symm this).trans k,fun k=>this.trans k⟩
    · refine rings_is h hN (ring_nodup f N d hn) (fun y hy=>?_) (fun y hy=>?_) hd' r hr
      · rcases List.mem_append.1 hy with hy|hy
        · exact hs y hy
        · exact Orb.lt h hdm ((hm y).1 hy)
      · rcases List.mem_append.1 hy with hy|hy
        · exact List.mem_append.2 (.inl (hc y hy))
        · exact List.mem_append.2 (.inr ((hm y).2 (((hm _).1 hy).trans (h.back y))))
end

theorem one_least{R:Nat→Nat→Prop}(hR:Equivalence R){l:List Nat}(hn:l.Nodup)(hl:l≠[])(hc:∀x∈l,∀y,R x y→y∈l)(hi:∀x∈l,∀y∈l,R x y):l.countP (fun d=>tr (Least R d))=1:=by
 obtain⟨a,ha⟩:=List.exists_mem_of_ne_nil l hl;obtain⟨r,_,h2,h3⟩:=least_of hR a;have hr:r∈l:=hc a ha r (hR.symm h2)
 have:=countP_but hn (p:=fun d=>tr (Least R d)) (q:=fun _=>false) (x:=r) hr (tr_iff.2 h3) fun d hd=>by
  by_cases c:d=r
  · simp[c]
  · have:¬Least R d:=fun k=>c (least_eq hR k h3 (hi d hd r hr))
    rw[tr_false.2 this];rfl
 rw[←this]
 have h0:l.countP (fun _=>false)=0:=List.countP_eq_zero.2 fun x _=>by simp
 rw[h0]
theorem sum_one:∀{l:List (List Nat)} {p:Nat→Bool},(∀r∈l,r.countP p=1)→l.flatten.countP p=l.length
 |[],_,_=>rfl
 |r :: l,p,h=>by
  rw[List.flatten_cons,List.countP_append,h r (by simp),sum_one fun r hr=>h r (by simp[hr]),List.length_cons];omega
theorem cl_lists{N:Nat}{R:Nat→Nat→Prop}(hR:Equivalence R){ll:List (List Nat)}(hp:ll.flatten.Perm (List.range N))(hne:∀l∈ll,l≠[])(hc:∀l∈ll,∀x∈l,∀y,y∈l↔R x y):cl N R=ll.length:=by
 unfold cl
 rw[←hp.countP_eq]
 refine sum_one fun l hl=>?_
 refine one_least hR ?_ (hne l hl) (fun x hx y=>(hc l hl x hx y).2) fun x hx y hy=>(hc l hl x hx y).1 hy
 exact(hp.nodup_iff.2 List.nodup_range).sublist (List.sublist_flatten_of_mem hl)
end Go.Proofs.YtlicglicfijelaaGreat.Kn

namespace Go.Proofs.YtlicglicfijelaaGreat.Kn

def sig(n k:Nat):Nat:=if k<4*n then k / 4*4+(k%4+3)%4 else k
def ens(X:List Cr):Prs:=(arcs X).map fun a=>(pk (endP X true a),pk (endP X false a))
theorem sig_pm(n:Nat):Pm (4*n) (sig n):=by
 refine⟨fun x hx=>?_,fun x hx=>?_,fun x y e=>?_⟩
 · unfold sig;rw[if_pos hx];omega
 · unfold sig;rw[if_neg (by omega)]
 · unfold sig at e
   split at e<;>split at e<;>omega
theorem pk_inj{p q:Pl}(hp:p.2<4)(hq:q.2<4)(e:pk p=pk q):p=q:=by
 have:=congrArg pl e
 rwa [pl_pk hp,pl_pk hq]at this
theorem sig_pk{n:Nat}{p:Pl}(h1:p.1<n)(h2:p.2<4):sig n (pk p)=pk (p.1,(p.2+3)%4):=by
 unfold sig pk
 rw[if_pos (by omega)]
 simp only
 omega
theorem it_sig{n c:Nat}(hc:c<n){s:Nat}(hs:s<4):∀k,it (sig n) k (c*4+s)=c*4+(s+3*k)%4
 |0=>by rw[it];omega
 |k+1=>by
  rw[it,it_sig hc hs k]
  unfold sig
  rw[if_pos (by omega)]
  omega
theorem sig_orb{n x y:Nat}(hx:x<4*n):Orb (sig n) x y↔x / 4=y / 4:=by
 have e1:x / 4*4+x%4=x:=by omega
 constructor
 · rintro⟨k,e⟩
   rw[←e1,it_sig (by omega) (by omega)]at e
   omega
 · intro e
   refine⟨(x%4+4-y%4)%4,?_⟩
   rw[←e1,it_sig (by omega) (by omega)]
   omega
def blk(c:Nat):List Nat:=[c*4,c*4+1,c*4+2,c*4+3]
theorem mem_blk{x c:Nat}:x∈blk c↔x / 4=c:=by
 unfold blk
 simp only[List.mem_cons,List.not_mem_nil,or_false]
 omega
theorem range_blk(m:Nat):List.range (4*(m+1))=List.range (4*m)++blk m:=by
 rw[show 4*(m+1)=4*m+1+1+1+1 by omega,List.range_succ,List.range_succ,List.range_succ,List.range_succ]
 unfold blk
 simp[Nat.mul_comm]
theorem blks:∀n,(List.range n).flatMap blk=List.range (4*n)
 |0=>rfl
 |n+1=>by rw[List.range_succ,List.flatMap_append,blks n,range_blk];simp
theorem mem_blks{l:List Nat}{x:Nat}:x∈l.flatMap blk↔x / 4∈l:=by
 rw[List.mem_flatMap]
 constructor
 · rintro⟨c,hc,h⟩
   rw[mem_blk.1 h];exact hc
 · exact fun h=>⟨_,h,mem_blk.2 rfl⟩
theorem cl_sig(n:Nat):cl (4*n) (Orb (sig n))=n:=by
 have:=cl_lists (sig_pm n).equiv (ll:=(List.range n).map blk) (by rw[←List.flatMap_def,blks]) (fun l hl=>by
  obtain⟨c,_,rfl⟩:=List.mem_map.1 hl
  unfold blk;simp) (fun l hl x hx y=>by
  obtain⟨c,hc,rfl⟩:=List.mem_map.1 hl;rw[List.mem_range]at hc;rw[mem_blk]at hx ⊢;rw[sig_orb (by omega)]
  omega)
 rw[this];simp

section
variable {X:List Cr}
theorem Ok.ens_good(h:Ok X):Good (4*X.length) (ens X):=by
 intro e he
 obtain⟨a,ha,rfl⟩:=List.mem_map.1 he;have ha:=mem_arcs.1 ha
 refine⟨pk_lt (h.isPl_end ha),pk_lt (h.isPl_end ha),fun k=>?_⟩
 have:=pk_inj (h.isPl_end ha).2 (h.isPl_end ha).2 k;have h1:=h.cm_end (io:=true) ha;have h2:=h.cm_end (io:=false) ha
 rw[this,h2]at h1;cases h1
theorem Ok.ens_dis(h:Ok X):Dis (ens X):=by
 unfold Dis ens
 rw[List.pairwise_map]
 refine List.Pairwise.imp_of_mem (fun {a b} ha hb hne=>?_) (arcs_nodup X)
 have ha:=mem_arcs.1 ha;have hb:=mem_arcs.1 hb
 have key:∀io jo,pk (endP X io a)≠pk (endP X jo b):=fun io jo k=>by
  have:=pk_inj (h.isPl_end ha).2 (h.isPl_end hb).2 k;have h1:=h.arc_end (io:=io) ha;rw[this,h.arc_end hb]at h1
  exact hne h1.symm
 exact⟨key _ _,key _ _,key _ _,key _ _⟩
theorem Ok.mem_ens(h:Ok X){p:Pl}(hp:isPl X p):∃e∈ens X,(pk p=e.1∧pk (other X p)=e.2)∨(pk p=e.2∧pk (other X p)=e.1):=by
 have ha:=h.isArc hp;have he:=h.end_eq hp
 refine⟨_,List.mem_map.2 ⟨arcN X p,mem_arcs.2 ha,rfl⟩,?_⟩
 unfold other
 cases c:cm X p with
 |true=>
  rw[c]at he
  left;exact⟨by rw[he],rfl⟩
 |false=>
  rw[c]at he
  right;exact⟨by rw[he],rfl⟩
theorem Ok.mate_pk(h:Ok X){p:Pl}(hp:isPl X p):mate (ens X) (pk p)=pk (other X p):=by
 obtain⟨e,he,k⟩:=h.mem_ens hp;obtain⟨m1,m2⟩:=mate_pair h.ens_dis he
 rcases k with⟨k1,k2⟩|⟨k1,k2⟩
 · rw[k1,k2,m1]
 · rw[k1,k2,m2]
abbrev fac(X:List Cr):Nat→Nat:=phi (sig X.length) (ens X)
theorem Ok.fac_pk(h:Ok X){p:Pl}(hp:isPl X p):fac X (pk p)=pk (other X (p.1,(p.2+3)%4)):=by
 unfold fac phi
 rw[sig_pk hp.1 hp.2,h.mate_pk (isPl_turn hp 3)]
theorem Ok.fac_head(h:Ok X){d:Dt}(hd:Kn.isArc X d.1):fac X (pk (head X d))=pk (head X (left X d)):=h.fac_pk (h.isPl_head hd)
theorem Ok.head_inj(h:Ok X){d e:Dt}(hd:Kn.isArc X d.1)(he:Kn.isArc X e.1)(k:head X d=head X e):d=e:=by
 have h1:=h.arc_end (io:=!d.2) hd;have h2:=h.cm_end (io:=!d.2) hd;have k':endP X (!d.2) d.1=endP X (!e.2) e.1:=k;rw[k',h.arc_end he]at h1;rw[k',h.cm_end he]at h2;obtain⟨a,b⟩:=d;obtain⟨a',b'⟩:=e;simp only at h1 h2;rw[h1]
 cases b<;>cases b'<;>simp at h2<;>rfl
theorem Ok.faces_map(h:Ok X):rings (fac X) (4*X.length+1) [] ((darts X).map fun d=>pk (head X d))=(facesL X).map (List.map fun d=>pk (head X d)):=by
 have:=rings_map (nx:=left X) (ny:=fac X) (g:=fun d=>pk (head X d)) (all:=darts X) (fun d hd e he k=>by
  have h1:=mem_darts.1 hd;have h2:=mem_darts.1 he
  exact h.head_inj h1 h2 (pk_inj (h.isPl_head h1).2 (h.isPl_head h2).2 k))
  (fun d hd=>mem_darts.2 (h.isArc_left (mem_darts.1 hd))) (fun d hd=>h.fac_head (mem_darts.1 hd)) (4*X.length+1) (ds:=darts X) (seen:=[]) (fun y hy=>by cases hy) (fun y hy=>hy)
 exact this
theorem Ok.fac_pm(h:Ok X):Pm (4*X.length) (fac X):=phi_pm (sig_pm _) h.ens_good
theorem Ok.heads_lt(h:Ok X):∀y∈(darts X).map fun d=>pk (head X d),y<4*X.length:=fun y hy=>by
 obtain⟨d,hd,rfl⟩:=List.mem_map.1 hy
 exact pk_lt (h.isPl_head (mem_darts.1 hd))
theorem Ok.heads_perm(h:Ok X):((darts X).map fun d=>pk (head X d)).Perm (List.range (4*X.length)):=by
 refine perm_of_sub ?_ List.nodup_range (fun x hx=>List.mem_range.2 (h.heads_lt x hx)) (by simp[darts_length])
 rw[List.Nodup,List.pairwise_map]
 refine List.Pairwise.imp_of_mem (fun {d e} hd he hne k=>?_) (darts_nodup X)
 have h1:=mem_darts.1 hd;have h2:=mem_darts.1 he
 exact hne (h.head_inj h1 h2 (pk_inj (h.isPl_head h1).2 (h.isPl_head h2).2 k))
theorem Ok.faces_is(h:Ok X):∀r∈(facesL X).map (List.map fun d=>pk (head X d)),∀x∈r,∀y,y∈r↔Orb (fac X) x y:=by
 rw[←h.faces_map]
 exact rings_is h.fac_pm (by omega) (by simp) (fun y hy=>by cases hy) (fun y hy=>by cases hy) h.heads_lt
theorem Ok.faces_flat(h:Ok X):((facesL X).map (List.map fun d=>pk (head X d))).flatten.Perm (List.range (4*X.length)):=by
 rw[←List.map_flatten]
 exact((faces_perm h).map _).trans h.heads_perm
theorem faces_ne(X:List Cr):∀l∈facesL X,l≠[]:=rings_ne (left X) (by omega) (darts X) []
theorem Ok.cl_faces(h:Ok X):cl (4*X.length) (Orb (fac X))=(facesL X).length:=by
 have:=cl_lists h.fac_pm.equiv h.faces_flat (fun l hl=>by
  obtain⟨f,hf,rfl⟩:=List.mem_map.1 hl;have:=faces_ne X f hf
  simpa using this) h.faces_is
 rw[this,List.length_map]

abbrev pie(X:List Cr):Nat→Nat→Prop:=com (sig X.length) (ens X)
theorem Ok.pie_con(h:Ok X){x y:Nat}(hx:x<4*X.length):pie X x y↔Con X (x / 4) (y / 4):=by
 have hcm:=com_equiv (sig_pm X.length) (ens X)
 have same:∀{x y:Nat},x<4*X.length→x / 4=y / 4→pie X x y:=fun {x y} hx e=>com_sub ((sig_orb hx).2 e)
 constructor
 · intro k
   have:=com_least (R:=fun x y=>x=y∨(x<4*X.length∧y<4*X.length∧Con X (x / 4) (y / 4))) ⟨fun x=>.inl rfl,fun {x y} k=>?_,fun {x y z} k l=>?_⟩ (fun x=>?_) (fun e he=>?_) k
   · rcases this with rfl|⟨_,_,k⟩
     · exact .refl _
     · exact k
   · rcases k with rfl|⟨k1,k2,k3⟩
     · exact .inl rfl
     · exact .inr ⟨k2,k1,k3.symm h.nbc_symm⟩
   · rcases k with rfl|⟨k1,k2,k3⟩
     · exact l
     · rcases l with rfl|⟨l1,l2,l3⟩
       · exact .inr ⟨k1,k2,k3⟩
       · exact .inr ⟨k1,l2,k3.trans l3⟩
   · by_cases c:x<4*X.length
     · right
       refine⟨c,(sig_pm X.length).lt x c,?_⟩
       rw[←(sig_orb c).1 (Orb.one _ x)]
       exact .refl _
     · exact .inl ((sig_pm X.length).out x (by omega)).symm
   · obtain⟨a,ha,rfl⟩:=List.mem_map.1 he
     have ha:=mem_arcs.1 ha;have p1:=h.isPl_end (io:=true) ha;have p2:=h.isPl_end (io:=false) ha
     right
     refine⟨pk_lt p1,pk_lt p2,?_⟩
     have e1:∀{p:Pl},p.2<4→pk p / 4=p.1:=fun {p} hp=>by unfold pk;omega
     rw[e1 p1.2,e1 p2.2]
     refine .step (.refl _) ?_
     unfold nbc
     rw[if_pos p1.1]
     refine mem_nbs.2 ⟨(endP X true a).2,p1.2,?_⟩
     show _=(other X (endP X true a)).1
     unfold other
     rw[h.cm_end ha,h.arc_end ha];rfl
 · intro k
   have:∀{c d:Nat},Con X c d→c<X.length→∀x y,x / 4=c→y / 4=d→pie X x y:=fun {c d} k=>by
    induction k with
    |refl=>exact fun hc x y h1 h2=>same (by omega) (by omega)
    |step hd he ih=>
     rename_i dd ee
     intro hc x y h1 h2
     have hdl:=h.con_lt hc hd
     unfold nbc at he
     rw[if_pos hdl]at he;obtain⟨s,hs,e⟩:=mem_nbs.1 he;have hp:isPl X (dd,s):=⟨hdl,hs⟩;obtain⟨q,hq,k⟩:=h.mem_ens hp;have j1:pie X x (pk (dd,s)):=ih hc x (pk (dd,s)) h1 (by unfold pk;simp only;omega)
     have j2:pie X (pk (dd,s)) (pk (other X (dd,s))):=by
      have:=com_pair (sig_pm X.length) hq
      rcases k with⟨k1,k2⟩|⟨k1,k2⟩
      · rw[k1,k2];exact this
      · rw[k1,k2];exact hcm.symm this
     have j3:pie X (pk (other X (dd,s))) y:=same (pk_lt (h.isPl_other hp)) (by
      have:=(h.isPl_other hp).2
      unfold pk
      omega)
     exact hcm.trans j1 (hcm.trans j2 j3)
   exact this k (by omega) x y rfl rfl
theorem Ok.cl_pieces(h:Ok X):cl (4*X.length) (pie X)=(piecesL X).length:=by
 have:=cl_lists (com_equiv (sig_pm X.length) (ens X)) (ll:=(piecesL X).map fun l=>l.flatMap blk) (by
  have e:((piecesL X).map fun l=>l.flatMap blk).flatten=(piecesL X).flatten.flatMap blk:=by
   generalize piecesL X=P
   induction P with
   |nil=>rfl
   |cons p P ih=>rw[List.map_cons,List.flatten_cons,List.flatten_cons,List.flatMap_append,ih]
  rw[e,←blks]
  exact List.Perm.flatMap_right _ h.pieces_perm)
  (fun l hl=>by
   obtain⟨p,hp,rfl⟩:=List.mem_map.1 hl;obtain⟨c,hc⟩:=List.exists_mem_of_ne_nil _ (h.pieces_is p hp).ne;have:c*4∈p.flatMap blk:=mem_blks.2 (by rw[show c*4 / 4=c by omega];exact hc)
   exact List.ne_nil_of_mem this)
  (fun l hl x hx y=>by
   obtain⟨p,hp,rfl⟩:=List.mem_map.1 hl;rw[mem_blks]at hx ⊢;have hc:=(h.pieces_is p hp).con _ hx;rw[hc.2]
   exact(h.pie_con (by omega)).symm)
 rw[this,List.length_map]
theorem Ok.euler(h:Ok X):(facesL X).length≤X.length+2*(piecesL X).length∧((facesL X).length+X.length)%2=0:=by
 have h1:=Kn.euler (sig_pm X.length) h.ens_good;have h2:=h.cl_faces;have h3:=h.cl_pieces;have h4:=cl_sig X.length
 have h5:(ens X).length=2*X.length:=by unfold ens;rw[List.length_map,arcs_length];rfl
 unfold fac at h2
 unfold pie at h3
 rw[h2,h3,h4,h5]at h1
 omega
theorem sum_count{α:Type}{g:α→Nat}{m:Nat}:∀{l:List α},(∀f∈l,g f<m)→((List.range m).map fun i=>l.countP fun f=>decide (g f=i)).sum=l.length
 |[],_=>by
  have:∀k,((List.range k).map fun _=>0).sum=0:=fun k=>by
   induction k with
   |zero=>rfl
   |succ k ih=>rw[List.range_succ,List.map_append,List.sum_append,ih];rfl
  simpa using this m
 |f :: l,h=>by
  have h1:=sum_count (g:=g) (m:=m) (l:=l) fun x hx=>h x (by simp[hx])
  have h2:∀k,((List.range k).map fun i=>(f :: l).countP fun f=>decide (g f=i)).sum=((List.range k).map fun i=>l.countP fun f=>decide (g f=i)).sum+if g f<k then 1 else 0:=by
   intro k
   induction k with
   |zero=>simp
   |succ k ih=>
    rw[List.range_succ,List.map_append,List.map_append,List.sum_append,List.sum_append,ih];simp only[List.map_cons,List.map_nil,List.sum_cons,List.sum_nil,List.countP_cons,decide_eq_true_eq]
    split<;>split<;>split<;>omega
  rw[h2,h1,if_pos (h f (by simp)),List.length_cons]
theorem getD_map{α β:Type}(d:α)(g:α→β)(l:List α):(List.range l.length).map (fun i=>g (l.getD i d))=l.map g:=by
 refine List.ext_getElem (by simp) fun i h1 h2=>?_
 simp at h1
 simp[h1]
theorem sum_len:∀l:List (List Nat),(l.map fun p=>p.length+2).sum=l.flatten.length+2*l.length
 |[]=>rfl
 |p :: l=>by rw[List.map_cons,List.sum_cons,sum_len l,List.flatten_cons,List.length_append,List.length_cons];omega
theorem Ok.face_at(h:Ok X){f:List Dt}(hf:f∈facesL X):(head X (f.headD (0,false))).1<X.length:=by
 obtain⟨d,r,rfl⟩:∃d r,f=d :: r:=by
  cases f with
  |nil=>exact absurd rfl (faces_ne X _ hf)
  |cons d r=>exact⟨d,r,rfl⟩
 have:Kn.isArc X d.1:=mem_darts.1 ((faces_perm h).mem_iff.1 (List.mem_flatten.2 ⟨_,hf,by simp⟩))
 exact(h.isPl_head this).1
theorem Ok.pieceAt_lt(h:Ok X){c:Nat}(hc:c<X.length):pieceAt X c<(piecesL X).length:=by
 have hm:c∈(piecesL X).flatten:=h.pieces_perm.mem_iff.2 (List.mem_range.2 hc)
 unfold pieceAt
 rw[List.findIdx_lt_length];obtain⟨l,h1,h2⟩:=List.mem_flatten.1 hm
 exact⟨l,h1,by simpa using h2⟩
theorem Ok.faces_sum(h:Ok X):((List.range (piecesL X).length).map (facesAt X)).sum=(facesL X).length:=
 sum_count (g:=fun f:List Dt=>pieceAt X (head X (f.headD (0,false))).1) (l:=facesL X) fun _ hf=>h.pieceAt_lt (h.face_at hf)
theorem Ok.lens_sum(h:Ok X):((List.range (piecesL X).length).map fun i=>((piecesL X).getD i []).length+2).sum=X.length+2*(piecesL X).length:=by
 rw[getD_map [] (fun p:List Nat=>p.length+2),sum_len,h.pieces_perm.length_eq,List.length_range]
theorem Ok.planar_count(h:Ok X)(hp:planarB X=true):(facesL X).length=X.length+2*(piecesL X).length:=by
 rw[←h.faces_sum,←h.lens_sum]
 congr 1
 refine List.map_congr_left fun i hi=>?_
 have:=List.all_eq_true.1 hp i hi
 rwa [decide_eq_true_eq]at this
end
end Go.Proofs.YtlicglicfijelaaGreat.Kn

namespace Go.Proofs.YtlicglicfijelaaGreat.Kn

theorem cl_congr_lt{N:Nat}{R R':Nat→Nat→Prop}(h:∀x y,x<N→y<N→(R x y↔R' x y)):cl N R=cl N R':=by
 unfold cl
 refine countP_congr' fun d hd=>tr_congr ?_
 rw[List.mem_range]at hd
 exact forall_congr' fun e=>imp_congr_right fun he=>not_congr (h e d (by omega) hd)
theorem cl_some{N:Nat}{R:Nat→Nat→Prop}(hR:Equivalence R)(p:Nat→Bool){ll:List (List Nat)}(hp:ll.flatten.Perm ((List.range N).filter p))(hne:∀l∈ll,l≠[])(hc:∀l∈ll,∀x∈l,∀y,y∈l↔R x y)(hs:∀x,p x=false→∀y,R x y→y=x):
 cl N R=ll.length+((List.range N).filter fun x=>!p x).length:=by
 have h1:(((List.range N).filter fun x=>!p x).map fun x=>[x]).flatten=(List.range N).filter fun x=>!p x:=by
  generalize (List.range N).filter (fun x=>!p x)=l
  induction l with
  |nil=>rfl
  |cons a l ih=>rw[List.map_cons,List.flatten_cons,ih];rfl
 have:=cl_lists hR (N:=N) (ll:=ll++((List.range N).filter fun x=>!p x).map fun x=>[x]) (by
  rw[List.flatten_append,h1]
  exact(hp.append_right _).trans (List.filter_append_perm p _))
  (fun l hl=>by
   rcases List.mem_append.1 hl with hl|hl
   · exact hne l hl
   · obtain⟨x,_,rfl⟩:=List.mem_map.1 hl;simp)
  (fun l hl x hx y=>by
   rcases List.mem_append.1 hl with hl|hl
   · exact hc l hl x hx y
   · obtain⟨z,hz,rfl⟩:=List.mem_map.1 hl
     rw[List.mem_singleton]at hx ⊢;subst hx;have hp:=(List.mem_filter.1 hz).2;rw[Bool.not_eq_true']at hp
     exact⟨fun e=>e ▸ hR.refl _,fun h=>hs _ hp y h⟩)
 rw[this,List.length_append,List.length_map]
section
variable {X:List Cr} {l:List Nat}
def inL(l:List Nat)(x:Nat):Bool:=l.contains (x / 4)
theorem inL_iff{x:Nat}:inL l x=true↔x / 4∈l:=by unfold inL;simp
def sigL(X:List Cr)(l:List Nat)(x:Nat):Nat:=if inL l x then sig X.length x else x
def ensL(X:List Cr)(l:List Nat):Prs:=(ens X).filter fun e=>inL l e.1
theorem sig_div{n x:Nat}:sig n x / 4=x / 4:=by unfold sig;split<;>omega
theorem sigL_pm(X:List Cr)(l:List Nat):Pm (4*X.length) (sigL X l):=by
 have h:=sig_pm X.length
 refine⟨fun x hx=>?_,fun x hx=>?_,fun x y e=>?_⟩
 · unfold sigL;split
   · exact h.lt x hx
   · exact hx
 · unfold sigL;split
   · exact h.out x hx
   · rfl
 · have hd:∀x,sigL X l x / 4=x / 4:=fun x=>by unfold sigL;split;exact sig_div;rfl
   have e4:x / 4=y / 4:=by rw[←hd x,e,hd]
   unfold sigL inL at e
   rw[e4]at e
   split at e
   · exact h.inj x y e
   · exact e
theorem ensL_sub:∀e∈ensL X l,e∈ens X:=fun _ he=>(List.mem_filter.1 he).1
theorem Ok.ensL_good(h:Ok X):Good (4*X.length) (ensL X l):=fun e he=>h.ens_good e (ensL_sub e he)
theorem Ok.ensL_dis(h:Ok X):Dis (ensL X l):=by
 have:=h.ens_dis
 unfold Dis at this ⊢
 exact this.sublist List.filter_sublist
theorem IsPiece.other(h:IsPiece X l){p:Pl}(hp:isPl X p)(hX:Ok X):p.1∈l↔(other X p).1∈l:=by
 have step:∀{q:Pl},isPl X q→q.1∈l→(Kn.other X q).1∈l:=fun {q} hq hl=>by
  refine((h.con _ hl).2 _).2 (.step (.refl _) ?_)
  unfold nbc
  rw[if_pos hq.1]
  exact mem_nbs.2 ⟨q.2,hq.2,rfl⟩
 refine⟨step hp,fun k=>?_⟩
 have:=step (hX.isPl_other hp) k
 rwa [hX.other_other hp]at this
theorem pk_div{p:Pl}(hp:p.2<4):pk p / 4=p.1:=by unfold pk;omega
theorem Ok.ens_piece(hX:Ok X)(h:IsPiece X l){e:Nat×Nat}(he:e∈ens X):inL l e.1=inL l e.2:=by
 obtain⟨a,ha,rfl⟩:=List.mem_map.1 he;have ha:=mem_arcs.1 ha;have p1:=hX.isPl_end (io:=true) ha;have p2:=hX.isPl_end (io:=false) ha;rw[Bool.eq_iff_iff,inL_iff,inL_iff,pk_div p1.2,pk_div p2.2,h.other p1 hX]
 have:Kn.other X (endP X true a)=endP X false a:=by
  unfold Kn.other
  rw[hX.cm_end ha,hX.arc_end ha];rfl
 rw[this]
theorem Ok.mateL(hX:Ok X)(h:IsPiece X l){x:Nat}:mate (ensL X l) x=if inL l x then mate (ens X) x else x:=by
 by_cases c:inPrs (ens X) x
 · obtain⟨e,he,k⟩:=c
   have hl:inL l x=inL l e.1:=by
    rcases k with rfl|rfl
    · rfl
    · exact(hX.ens_piece h he).symm
   by_cases d:inL l e.1=true
   · rw[hl,if_pos d]
     have hm:e∈ensL X l:=List.mem_filter.2 ⟨he,d⟩;have m1:=mate_pair hX.ens_dis he;have m2:=mate_pair hX.ensL_dis hm
     rcases k with rfl|rfl
     · rw[m1.1,m2.1]
     · rw[m1.2,m2.2]
   · rw[hl,if_neg d]
     refine mate_out fun⟨e',he',k'⟩=>?_
     have hd:=(List.mem_filter.1 he').2
     have hl':inL l x=inL l e'.1:=by
      rcases k' with rfl|rfl
      · rfl
      · exact(hX.ens_piece h (ensL_sub _ he')).symm
     rw[←hl',hl]at hd
     exact d hd
 · rw[mate_out c,ite_self]
   exact mate_out fun⟨e,he,k⟩=>c ⟨e,ensL_sub e he,k⟩
theorem Ok.phiL(hX:Ok X)(h:IsPiece X l)(x:Nat):phi (sigL X l) (ensL X l) x=if inL l x then fac X x else x:=by
 unfold phi
 rw[hX.mateL h]
 have hi:inL l (sigL X l x)=inL l x:=by
  unfold inL sigL
  split
  · rw[sig_div]
  · rfl
 rw[hi]
 unfold sigL
 by_cases c:inL l x=true
 · rw[if_pos c,if_pos c,if_pos c];rfl
 · rw[if_neg c,if_neg c,if_neg c]
theorem orb_if{f g:Nat→Nat}{p:Nat→Bool}(hg:∀x,g x=if p x then f x else x)(hp:∀x,p x=true→p (f x)=true){x:Nat}(hx:p x=true){y:Nat}:Orb g x y↔Orb f x y:=by
 have key:∀n,it g n x=it f n x∧p (it f n x)=true:=by
  intro n
  induction n with
  |zero=>exact⟨rfl,hx⟩
  |succ n ih=>
   refine⟨?_,hp _ ih.2⟩
   rw[it,ih.1,hg,if_pos ih.2];rfl
 constructor
 · rintro⟨n,rfl⟩;exact⟨n,(key n).1.symm⟩
 · rintro⟨n,rfl⟩;exact⟨n,(key n).1⟩
theorem orb_not{f g:Nat→Nat}{p:Nat→Bool}(hg:∀x,g x=if p x then f x else x){x:Nat}(hx:p x=false){y:Nat}(h:Orb g x y):y=x:=
 h.ind (P:=fun y=>y=x) (fun z hz=>by rw[hz,hg,hx];rfl) rfl
theorem blks_perm(h:IsPiece X l):(l.flatMap blk).Perm ((List.range (4*X.length)).filter (inL l)):=by
 have hn:(l.flatMap blk).Nodup:=by
  rw[List.Nodup,List.pairwise_flatMap]
  refine⟨fun c _=>by unfold blk;simp,h.nodup.imp fun {a b} hne x hx y hy e=>?_⟩
  subst e
  exact hne ((mem_blk.1 hx).symm.trans (mem_blk.1 hy))
 refine(List.perm_ext_iff_of_nodup hn (List.nodup_range.sublist List.filter_sublist)).2 fun x=>?_
 rw[mem_blks,List.mem_filter,inL_iff,List.mem_range]
 exact⟨fun k=>⟨by have:=(h.con _ k).1;omega,k⟩,fun k=>k.2⟩
def facesIn(X:List Cr)(l:List Nat):List (List Dt):=(facesL X).filter fun f=>l.contains (head X (f.headD (0,false))).1
theorem Ok.fac_piece(hX:Ok X)(h:IsPiece X l){x:Nat}(hx:inL l x=true):inL l (fac X x)=true:=by
 rw[inL_iff]at hx ⊢;have hl:=(h.con _ hx).1
 have e:x=pk (pl x):=by unfold pk pl;simp only;omega
 have hp:isPl X (pl x):=isPl_pl (by omega);rw[e,hX.fac_pk hp,pk_div (hX.isPl_other (isPl_turn hp 3)).2]
 exact(h.other (isPl_turn hp 3) hX).1 (by show (pl x).1∈l;unfold pl;exact hx)
theorem flatten_filter{α:Type}(q:List α→Bool)(p:α→Bool):∀L:List (List α),(∀r∈L,∀x∈r,p x=q r)→(L.filter q).flatten=L.flatten.filter p
 |[],_=>rfl
 |r :: L,h=>by
  have ih:=flatten_filter q p L fun r hr=>h r (by simp[hr])
  rw[List.filter_cons,List.flatten_cons,List.filter_append]
  by_cases c:q r=true
  · have e:r.filter p=r:=List.filter_eq_self.2 fun x hx=>by rw[h r (by simp) x hx,c]
    rw[if_pos c,List.flatten_cons,ih,e]
  · have e:r.filter p=[]:=List.filter_eq_nil_iff.2 fun x hx=>by rw[h r (by simp) x hx];exact c
    rw[if_neg c,ih,e];rfl
theorem Ok.euler_piece(hX:Ok X)(h:IsPiece X l):(facesIn X l).length≤l.length+2:=by
 have hE:=(Kn.euler (sigL_pm X l) (hX.ensL_good (l:=l))).1
 obtain⟨K,hK⟩:∃K,K=((List.range (4*X.length)).filter fun x=>!inL l x).length:=⟨_,rfl⟩
 have hperm:=blks_perm h
 have hlen:(l.flatMap blk).length=4*l.length:=by
  have:∀l:List Nat,(l.flatMap blk).length=4*l.length:=fun l=>by
   induction l with
   |nil=>rfl
   |cons a l ih=>rw[List.flatMap_cons,List.length_append,ih,List.length_cons];unfold blk;simp;omega
  exact this l
 have hV:cl (4*X.length) (Orb (sigL X l))=l.length+K:=by
  rw[hK]
  have:=cl_some (sigL_pm X l).equiv (inL l) (ll:=l.map blk) (by rw[←List.flatMap_def];exact hperm) (fun b hb=>by
   obtain⟨c,_,rfl⟩:=List.mem_map.1 hb;unfold blk;simp)
   (fun b hb x hx y=>by
    obtain⟨c,hc,rfl⟩:=List.mem_map.1 hb;have hcl:=(h.con c hc).1;rw[mem_blk]at hx ⊢;have hin:inL l x=true:=inL_iff.2 (by rw[hx];exact hc);rw[orb_if (f:=sig X.length) (g:=sigL X l) (p:=inL l) (fun x=>rfl) (fun x hx=>by unfold inL at hx ⊢;rwa [sig_div]) hin,sig_orb (by omega)]
    omega)
   (fun x hx y hy=>orb_not (f:=sig X.length) (g:=sigL X l) (p:=inL l) (fun x=>rfl) hx hy)
  rw[this,List.length_map]
 have hF:cl (4*X.length) (Orb (phi (sigL X l) (ensL X l)))=(facesIn X l).length+K:=by
  rw[hK]
  have hal:∀f∈facesL X,∀d∈f,inL l (pk (head X d))=l.contains (head X (f.headD (0,false))).1:=fun f hf d hd=>by
   obtain⟨d0,r,rfl⟩:∃d r,f=d :: r:=by
    cases f with
    |nil=>exact absurd rfl (faces_ne X _ hf)
    |cons d r=>exact⟨d,r,rfl⟩
   have key:∀{d e:Dt},d∈d0 :: r→e∈d0 :: r→inL l (pk (head X d))=true→inL l (pk (head X e))=true:=fun {d e} hd he k=>by
    have:=(hX.faces_is _ (List.mem_map.2 ⟨_,hf,rfl⟩) (pk (head X d)) (List.mem_map.2 ⟨d,hd,rfl⟩) (pk (head X e))).1 (List.mem_map.2 ⟨e,he,rfl⟩)
    exact this.ind (P:=fun y=>inL l y=true) (fun z hz=>hX.fac_piece h hz) k
   have ha:Kn.isArc X d0.1:=mem_darts.1 ((faces_perm hX).mem_iff.1 (List.mem_flatten.2 ⟨_,hf,by simp⟩))
   have e0:inL l (pk (head X d0))=l.contains (head X d0).1:=by unfold inL;rw[pk_div (hX.isPl_head ha).2]
   show _=l.contains (head X d0).1
   rw[←e0,Bool.eq_iff_iff]
   exact⟨key hd (by simp),key (by simp) hd⟩
  have:=cl_some (phi_pm (sigL_pm X l) (hX.ensL_good (l:=l))).equiv (inL l) (ll:=(facesIn X l).map (List.map fun d=>pk (head X d))) (by
   have e:((facesIn X l).map (List.map fun d=>pk (head X d))).flatten=((facesL X).map (List.map fun d=>pk (head X d))).flatten.filter (inL l):=by
    rw[←List.map_flatten,←List.map_flatten,List.filter_map]
    congr 1
    exact flatten_filter _ _ _ fun f hf d hd=>hal f hf d hd
   rw[e]
   exact hX.faces_flat.filter _)
   (fun b hb=>by
    obtain⟨f,hf,rfl⟩:=List.mem_map.1 hb;have:=faces_ne X f (List.mem_filter.1 hf).1
    simpa using this)
   (fun b hb x hx y=>by
    obtain⟨f,hf,rfl⟩:=List.mem_map.1 hb;obtain⟨hf1,hf2⟩:=List.mem_filter.1 hf;rw[hX.faces_is _ (List.mem_map.2 ⟨f,hf1,rfl⟩) x hx];obtain⟨d,hd,rfl⟩:=List.mem_map.1 hx
    exact(orb_if (hX.phiL h) (fun x hx=>hX.fac_piece h hx) (by rw[hal f hf1 d hd];exact hf2)).symm)
   (fun x hx y hy=>orb_not (hX.phiL h) hx hy)
  rw[this,List.length_map]
 have hC:cl (4*X.length) (com (sigL X l) (ensL X l))=1+K:=by
  rw[hK];have heq:=com_equiv (sigL_pm X l) (ensL X l)
  have:=cl_some heq (inL l) (ll:=[l.flatMap blk]) (by simpa using hperm)
   (fun b hb=>by
    rw[List.mem_singleton]at hb;subst hb
    obtain⟨c,hc⟩:=List.exists_mem_of_ne_nil _ h.ne;have:c*4∈l.flatMap blk:=mem_blks.2 (by rw[show c*4 / 4=c by omega];exact hc)
    exact List.ne_nil_of_mem this)
   (fun b hb x hx y=>by
    rw[List.mem_singleton]at hb;subst hb
    rw[mem_blks]at hx ⊢
    constructor
    · intro hy
      have hxl:x<4*X.length:=by have:=(h.con _ hx).1;omega
      have hcon:pie X x y:=(hX.pie_con hxl).2 (((h.con _ hx).2 _).1 hy)
      have:=com_least (R:=fun x y=>(x / 4∈l↔y / 4∈l)∧(x / 4∈l→com (sigL X l) (ensL X l) x y)) (σ:=sig X.length) (es:=ens X)
       ⟨fun x=>⟨Iff.rfl,fun _=>heq.refl x⟩,fun {x y} k=>⟨k.1.symm,fun m=>heq.symm (k.2 (k.1.2 m))⟩,fun {x y z} k m=>⟨k.1.trans m.1,fun a=>heq.trans (k.2 a) (m.2 (k.1.1 a))⟩⟩
       (fun x=>⟨by rw[sig_div],fun m=>com_sub (by
        have:sigL X l x=sig X.length x:=by unfold sigL;rw[if_pos (inL_iff.2 m)]
        rw[←this];exact Orb.one _ x)⟩)
       (fun e he=>⟨by rw[←inL_iff,←inL_iff,hX.ens_piece h he],fun m=>com_pair (sigL_pm X l) (List.mem_filter.2 ⟨he,inL_iff.2 m⟩)⟩) hcon
      exact this.2 hx
    · intro k
      have:=com_least (R:=fun x y=>x / 4∈l↔y / 4∈l) (σ:=sigL X l) (es:=ensL X l) ⟨fun x=>Iff.rfl,fun k=>k.symm,fun k m=>k.trans m⟩
       (fun x=>by unfold sigL;split;rw[sig_div];rfl) (fun e he=>by rw[←inL_iff,←inL_iff,hX.ens_piece h (ensL_sub e he)]) k
      exact this.1 hx)
   (fun x hx y hy=>by
    have:=com_least (R:=fun x y=>x=y∨(inL l x=true∧inL l y=true)) (σ:=sigL X l) (es:=ensL X l)
     ⟨fun x=>.inl rfl,fun {x y} k=>by rcases k with rfl|⟨a,b⟩;exact .inl rfl;exact .inr ⟨b,a⟩,fun {x y z} k m=>by
      rcases k with rfl|⟨a,b⟩
      · exact m
      · rcases m with rfl|⟨c,d⟩
        · exact .inr ⟨a,b⟩
        · exact .inr ⟨a,d⟩⟩
     (fun x=>by
      by_cases c:inL l x=true
      · refine .inr ⟨c,?_⟩
        unfold sigL;rw[if_pos c];unfold inL at c ⊢;rwa [sig_div]
      · left;unfold sigL;rw[if_neg c])
     (fun e he=>.inr ⟨(List.mem_filter.1 he).2,by rw[←hX.ens_piece h (ensL_sub e he)];exact(List.mem_filter.1 he).2⟩) hy
    rcases this with e|⟨a,_⟩
    · exact e.symm
    · rw[hx]at a;cases a)
  rw[this];simp
 have hA:2*(ensL X l).length=4*l.length:=by
  rw[←hlen]
  have e:∀es:Prs,(es.flatMap fun e=>[e.1,e.2]).length=2*es.length:=fun es=>by
   induction es with
   |nil=>rfl
   |cons e es ih=>rw[List.flatMap_cons,List.length_append,ih,List.length_cons];simp;omega
  rw[←e]
  refine List.Perm.length_eq ((List.perm_ext_iff_of_nodup ?_ (hperm.nodup_iff.2 (List.nodup_range.sublist List.filter_sublist))).2 fun x=>?_)
  · rw[List.Nodup,List.pairwise_flatMap]
    refine⟨fun e he=>by
     have:=(hX.ensL_good e he).2.2
     simp[this],(hX.ensL_dis (l:=l)).imp fun {a b} k x hx y hy=>?_⟩
    simp only[List.mem_cons,List.not_mem_nil,or_false]at hx hy
    rcases hx with rfl|rfl<;>rcases hy with rfl|rfl
    · exact k.1
    · exact k.2.1
    · exact k.2.2.1
    · exact k.2.2.2
  · rw[mem_blks,List.mem_flatMap]
    constructor
    · rintro⟨e,he,hx⟩
      have h1:=(List.mem_filter.1 he).2;simp only[List.mem_cons,List.not_mem_nil,or_false]at hx
      rcases hx with rfl|rfl
      · exact inL_iff.1 h1
      · rw[hX.ens_piece h (ensL_sub e he)]at h1
        exact inL_iff.1 h1
    · intro hx
      have hxl:=(h.con _ hx).1
      have e0:x=pk (pl x):=by unfold pk pl;simp only;omega
      obtain⟨e,he,k⟩:=hX.mem_ens (isPl_pl (X:=X) (j:=x) (by omega));rw[←e0]at k
      have hk:x=e.1∨x=e.2:=k.elim (fun k=>.inl k.1) fun k=>.inr k.1
      refine⟨e,List.mem_filter.2 ⟨he,?_⟩,by simpa using hk⟩
      rcases hk with hk|hk
      · rw[←hk];exact inL_iff.2 hx
      · rw[hX.ens_piece h he,←hk];exact inL_iff.2 hx
 rw[hV,hF,hC]at hE
 omega
theorem Ok.facesAt_in(hX:Ok X){i:Nat}(hi:i<(piecesL X).length):facesAt X i=(facesIn X (piecesL X)[i]).length:=by
 unfold facesAt facesIn
 rw[List.countP_eq_length_filter]
 congr 1
 refine List.filter_congr fun f hf=>?_
 have hc:=hX.face_at hf
 obtain⟨c,hcd⟩:∃c,c=(head X (f.headD (0,false))).1:=⟨_,rfl⟩
 rw[←hcd]at hc ⊢;rw[Bool.eq_iff_iff,decide_eq_true_eq,List.contains_iff_mem];have hlt:=hX.pieceAt_lt hc
 have hmem:c∈(piecesL X)[pieceAt X c]:=by
  have hlt':(piecesL X).findIdx (fun l=>l.contains c)<(piecesL X).length:=hlt;have:((piecesL X)[pieceAt X c]).contains c=true:=List.findIdx_getElem (xs:=piecesL X) (p:=fun l=>l.contains c) (w:=hlt')
  exact List.contains_iff_mem.1 this
 constructor
 · intro e;subst e;exact hmem
 · intro k
   have hnd:(piecesL X).flatten.Nodup:=hX.pieces_perm.nodup_iff.2 List.nodup_range;have hp:=List.pairwise_iff_getElem.1 (List.pairwise_flatten.1 hnd).2
   rcases Nat.lt_trichotomy (pieceAt X c) i with d|d|d
   · exact absurd rfl (hp _ _ hlt hi d c hmem c k)
   · exact d
   · exact absurd rfl (hp _ _ hi hlt d c k c hmem)
theorem sum_le_eq{f g:Nat→Nat}:∀{m:Nat},(∀i,i<m→f i≤g i)→((List.range m).map f).sum=((List.range m).map g).sum→∀i,i<m→f i=g i
 |0,_,_,i,hi=>by omega
 |m+1,hle,hs,i,hi=>by
  have hle':∀k,k≤m→((List.range k).map f).sum≤((List.range k).map g).sum:=fun k=>by
   induction k with
   |zero=>intro _;exact Nat.le_refl _
   |succ k ih=>
    intro hk
    have:=ih (by omega);have:=hle k (by omega);rw[List.range_succ,List.map_append,List.map_append,List.sum_append,List.sum_append];simp only[List.map_cons,List.map_nil,List.sum_cons,List.sum_nil]
    omega
  rw[List.range_succ,List.map_append,List.map_append,List.sum_append,List.sum_append]at hs;simp only[List.map_cons,List.map_nil,List.sum_cons,List.sum_nil]at hs;have h1:=hle' m (Nat.le_refl _);have h2:=hle m (by omega)
  by_cases c:i=m
  · subst c;omega
  · exact sum_le_eq (m:=m) (fun i hi=>hle i (by omega)) (by omega) i (by omega)
theorem Ok.planar_iff(hX:Ok X):planarB X=true↔(facesL X).length=X.length+2*(piecesL X).length:=by
 refine⟨hX.planar_count,fun h=>?_⟩
 rw[←hX.faces_sum,←hX.lens_sum]at h
 refine List.all_eq_true.2 fun i hi=>?_
 rw[List.mem_range]at hi;rw[decide_eq_true_eq]
 refine sum_le_eq (g:=fun i=>((piecesL X).getD i []).length+2) (fun i hi=>?_) h i hi
 have e:(piecesL X).getD i []=(piecesL X)[i]:=by rw[List.getD_eq_getElem?_getD,List.getElem?_eq_getElem hi];rfl
 show _≤((piecesL X).getD i []).length+2
 rw[hX.facesAt_in hi,e]
 exact hX.euler_piece (hX.pieces_is _ (List.getElem_mem hi))
end
end Go.Proofs.YtlicglicfijelaaGreat.Kn

namespace Go.Proofs.YtlicglicfijelaaGreat.Kn

def Flat(N:Nat)(σ:Nat→Nat)(es:Prs):Prop:=cl N (Orb (phi σ es))+cl N (Orb σ)=es.length+2*cl N (com σ es)
section
variable {N:Nat} {σ:Nat→Nat}
theorem swp_inj1{a b x y:Nat}(h:swp a b x=swp a b y):x=y:=by
 have:=congrArg (swp a b) h
 rwa [swp_swp,swp_swp]at this
theorem mate_inj:∀{es:Prs} {x y:Nat},mate es x=mate es y→x=y
 |[],_,_,h=>h
 |_ :: _,_,_,h=>mate_inj (swp_inj1 h)
theorem inj_swp{f:Nat→Nat}(hf:∀{x y},f x=f y→x=y)(a b z:Nat):f (swp a b z)=swp (f a) (f b) (f z):=by
 by_cases h:z=a
 · subst h;rw[swp_a,swp_a]
 · by_cases k:z=b
   · subst k;rw[swp_b,swp_b]
   · rw[swp_ne h k,swp_ne (fun e=>h (hf e)) (fun e=>k (hf e))]
theorem mate_swp(es:Prs)(a b z:Nat):mate es (swp a b z)=swp (mate es a) (mate es b) (mate es z):=inj_swp mate_inj a b z
theorem com_mate(h:Pm N σ)(es:Prs)(x:Nat):com σ es x (mate es x):=by
 have key:∀(l:Prs),(∀e∈l,e∈es)→com σ es x (mate l x):=by
  intro l
  induction l with
  |nil=>intro _;exact(com_equiv h es).refl x
  |cons e l ih=>
   intro hl
   have i:=ih fun d hd=>hl d (by simp[hd])
   have p:=com_pair h (hl e (by simp))
   show com σ es x (swp e.1 e.2 (mate l x))
   by_cases c:mate l x=e.1
   · rw[c,swp_a];rw[c]at i;exact(com_equiv h es).trans i p
   · by_cases d:mate l x=e.2
     · rw[d,swp_b];rw[d]at i;exact(com_equiv h es).trans i ((com_equiv h es).symm p)
     · rw[swp_ne c d];exact i
 exact key es fun _ he=>he
theorem Good.mate_lt:∀{es:Prs},Good N es→∀{x:Nat},x<N→mate es x<N
 |[],_,_,hx=>hx
 |e :: es,h,x,hx=>by
  have i:=h.tail.mate_lt hx;obtain⟨h1,h2,_⟩:=h e (by simp)
  show swp e.1 e.2 (mate es x)<N
  unfold swp;split
  · exact h2
  · split
    · exact h1
    · exact i

theorem Flat.drop(h:Pm N σ){e:Nat×Nat}{es:Prs}(hg:Good N (e :: es))(hf:Flat N σ (e :: es)):Flat N σ es:=by
 unfold Flat at hf ⊢
 obtain⟨h1,h2,h3⟩:=hg e (by simp);have hE:=(euler h hg.tail).1;have hp:=phi_pm h hg.tail;rw[phi_cons,List.length_cons]at hf;have hf:cl N (Orb fun x=>swp e.1 e.2 (phi σ es x))+cl N (Orb σ)=es.length+1+2*cl N (mrg (com σ es) e.1 e.2):=hf
 by_cases d:Orb (phi σ es) e.1 e.2
 · have:=cl_part hp h1 h2 h3 d
   rw[cl_congr (mrg_same (com_equiv h es) (orb_com h hg.tail d))]at hf
   omega
 · have:=cl_join hp h1 h2 d
   by_cases c:com σ es e.1 e.2
   · rw[cl_congr (mrg_same (com_equiv h es) c)]at hf;omega
   · have:=cl_mrg (com_equiv h es) h1 h2 c
     omega
theorem com_split(h:Pm N σ){a b:Nat}(ha:a<N)(hb:b<N)(es:Prs)(k:Orb σ a b)(x y:Nat):com σ es x y↔mrg (com (fun x=>swp a b (σ x)) es) a b x y:=by
 have h':=h.swp ha hb;have hR:=mrg_equiv (com_equiv h' es) a b;have hab:mrg (com (fun x=>swp a b (σ x)) es) a b a b:=.inr (.inl ⟨(com_equiv h' es).refl _,(com_equiv h' es).refl _⟩)
 constructor
 · intro c
   refine com_least hR (fun z=>?_) (fun e he=>.inl (com_pair h' he)) c
   have o:mrg (com (fun x=>swp a b (σ x)) es) a b z (swp a b (σ z)):=.inl (com_sub (Orb.one (fun x=>swp a b (σ x)) z))
   by_cases c:σ z=a
   · rw[c,swp_a]at o;rw[c];exact hR.trans o (hR.symm hab)
   · by_cases d:σ z=b
     · rw[d,swp_b]at o;rw[d];exact hR.trans o hab
     · rwa [swp_ne c d]at o
 · have hE:=com_equiv h es
   have low:∀{x y},com (fun x=>swp a b (σ x)) es x y→com σ es x y:=fun {x y} c=>by
    refine com_least hE (fun z=>?_) (fun e he=>com_pair h he) c
    have o:com σ es z (σ z):=com_sub (Orb.one σ z);have ab:com σ es a b:=com_sub k
    show com σ es z (swp a b (σ z))
    by_cases c:σ z=a
    · rw[c,swp_a];rw[c]at o;exact hE.trans o ab
    · by_cases d:σ z=b
      · rw[d,swp_b];rw[d]at o;exact hE.trans o (hE.symm ab)
      · rwa [swp_ne c d]
   rintro(c|⟨c,d⟩|⟨c,d⟩)
   · exact low c
   · exact hE.trans (low c) (hE.trans (com_sub k) (low d))
   · exact hE.trans (low c) (hE.trans (hE.symm (com_sub k)) (low d))
theorem Flat.split(h:Pm N σ){es:Prs}(hg:Good N es){a b:Nat}(ha:a<N)(hb:b<N)(hne:a≠b)(k:Orb σ a b)(hf:Flat N σ es):Flat N (fun x=>swp a b (σ x)) es:=by
 unfold Flat at hf ⊢
 have h':=h.swp ha hb;have hE:=(euler h' hg).1;have hp:=phi_pm h hg
 have e:phi (fun x=>swp a b (σ x)) es=fun x=>swp (mate es a) (mate es b) (phi σ es x):=funext fun x=>mate_swp es a b (σ x)
 have hc:=cl_congr (N:=N) (com_split h ha hb es k);have hV:=cl_part h ha hb hne k;have hma:=hg.mate_lt ha;have hmb:=hg.mate_lt hb
 have hmn:mate es a≠mate es b:=fun c=>hne (mate_inj c)
 rw[e]at hE ⊢
 by_cases d:Orb (phi σ es) (mate es a) (mate es b)
 · have hF:=cl_part hp hma hmb hmn d
   by_cases c:com (fun x=>swp a b (σ x)) es a b
   · rw[cl_congr (mrg_same (com_equiv h' es) c)]at hc;omega
   · have:=cl_mrg (com_equiv h' es) ha hb c
     omega
 · have hF:=cl_join hp hma hmb d
   have j:=orb_join (a:=mate es a) (b:=mate es b) hp d;rw[←e]at j;have j:=orb_com h' hg j;have hE':=com_equiv h' es;have c:com (fun x=>swp a b (σ x)) es a b:=hE'.trans (com_mate h' es a) (hE'.trans j (hE'.symm (com_mate h' es b)));rw[cl_congr (mrg_same hE' c)]at hc
   omega
theorem Flat.congr(h:Pm N σ){es es':Prs}(hm:∀x,mate es x=mate es' x)(hl:es.length=es'.length)(h1:∀e∈es,com σ es' e.1 e.2)(h2:∀e∈es',com σ es e.1 e.2)(hf:Flat N σ es):Flat N σ es':=by
 unfold Flat at hf ⊢
 have e:phi σ es=phi σ es':=funext fun x=>hm (σ x)
 have c:∀x y,com σ es x y↔com σ es' x y:=fun x y=>
  ⟨fun k=>com_least (com_equiv h es') (fun z=>com_sub (Orb.one σ z)) h1 k,fun k=>com_least (com_equiv h es) (fun z=>com_sub (Orb.one σ z)) h2 k⟩
 rw[←e,←cl_congr c,←hl]
 exact hf
end
theorem Dis.perm{es es':Prs}(h:Dis es)(p:es.Perm es'):Dis es':=by
 refine(p.pairwise_iff ?_).1 h;rintro x y ⟨h1,h2,h3,h4⟩
 exact⟨fun e=>h1 e.symm,fun e=>h3 e.symm,fun e=>h2 e.symm,fun e=>h4 e.symm⟩
theorem mate_perm{es es':Prs}(h:Dis es)(p:es.Perm es')(x:Nat):mate es x=mate es' x:=by
 by_cases c:inPrs es x
 · obtain⟨e,he,k|k⟩:=c
   · rw[k,(mate_pair h he).1,(mate_pair (h.perm p) (p.mem_iff.1 he)).1]
   · rw[k,(mate_pair h he).2,(mate_pair (h.perm p) (p.mem_iff.1 he)).2]
 · rw[mate_out c,mate_out fun⟨e,he,k⟩=>c ⟨e,p.mem_iff.2 he,k⟩]
section
variable {N:Nat} {σ:Nat→Nat}
theorem Good.perm{es es':Prs}(h:Good N es)(p:es.Perm es'):Good N es':=fun e he=>h e (p.mem_iff.2 he)
theorem Flat.perm(h:Pm N σ){es es':Prs}(hd:Dis es)(p:es.Perm es')(hf:Flat N σ es):Flat N σ es':=
 hf.congr h (mate_perm hd p) p.length_eq (fun _ he=>com_pair h (p.mem_iff.1 he)) fun _ he=>com_pair h (p.mem_iff.2 he)
theorem com_flip(h:Pm N σ){a b:Nat}(es:Prs):∀e∈(a,b) :: es,com σ ((b,a) :: es) e.1 e.2:=fun e he=>by
 rcases List.mem_cons.1 he with rfl|he
 · exact(com_equiv h _).symm (com_pair h (e:=(b,a)) (List.mem_cons_self ..))
 · exact com_pair h (List.mem_cons_of_mem _ he)
theorem Flat.flip(h:Pm N σ){a b:Nat}{es:Prs}(hf:Flat N σ ((a,b) :: es)):Flat N σ ((b,a) :: es):=
 Flat.congr (es:=(a,b) :: es) (es':=(b,a) :: es) h (fun x=>swp_comm a b (mate es x)) rfl (com_flip h es) (com_flip h es) hf
theorem Flat.contract(h:Pm N σ){a b:Nat}{es:Prs}(hg:Good N ((a,b) :: es))(hd:Dis ((a,b) :: es))(k:¬Orb σ a b)(hf:Flat N σ ((a,b) :: es)):Flat N (fun x=>swp a b (σ x)) es:=by
 unfold Flat at hf ⊢
 obtain⟨ha,hb,hne⟩:a<N∧b<N∧a≠b:=hg (a,b) (List.mem_cons_self ..);obtain⟨o1,o2⟩:¬inPrs es a∧¬inPrs es b:=hd.out;have h':=h.swp ha hb
 have e:phi (fun x=>swp a b (σ x)) es=phi σ ((a,b) :: es):=funext fun x=>by
  show mate es (swp a b (σ x))=swp a b (mate es (σ x))
  rw[mate_swp,mate_out o1,mate_out o2]
 have hV:=cl_join h ha hb k;have j:=orb_join (a:=a) (b:=b) h k
 have c:∀x y,com (fun x=>swp a b (σ x)) es x y↔com σ ((a,b) :: es) x y:=fun x y=>by
  have:=com_split h' ha hb es j x y;rw[swp_twice σ a b]at this
  exact this
 rw[e,cl_congr c];rw[List.length_cons]at hf
 omega
theorem com_move(h:Pm N σ){p q v:Nat}(hp:p<N)(hv:v<N){es:Prs}(k:Orb σ v p)(x y:Nat):
 com σ ((v,q) :: es) x y↔mrg (com (fun x=>swp v p (σ x)) ((p,q) :: es)) v p x y:=by
 have h':=h.swp hv hp;have hR:=mrg_equiv (com_equiv h' ((p,q) :: es)) v p;have hvp:mrg (com (fun x=>swp v p (σ x)) ((p,q) :: es)) v p v p:=.inr (.inl ⟨(com_equiv h' _).refl _,(com_equiv h' _).refl _⟩);have hE:=com_equiv h ((v,q) :: es);have ab:com σ ((v,q) :: es) v p:=com_sub k
 constructor
 · intro c
   refine com_least hR (fun z=>?_) (fun e he=>?_) c
   · have o:mrg (com (fun x=>swp v p (σ x)) ((p,q) :: es)) v p z (swp v p (σ z)):=.inl (com_sub (Orb.one (fun x=>swp v p (σ x)) z))
     by_cases c:σ z=v
     · rw[c,swp_a]at o;rw[c];exact hR.trans o (hR.symm hvp)
     · by_cases d:σ z=p
       · rw[d,swp_b]at o;rw[d];exact hR.trans o hvp
       · rwa [swp_ne c d]at o
   · rcases List.mem_cons.1 he with rfl|he
     · exact hR.trans hvp (.inl (com_pair h' (e:=(p,q)) (List.mem_cons_self ..)))
     · exact .inl (com_pair h' (List.mem_cons_of_mem _ he))
 · have low:∀{x y},com (fun x=>swp v p (σ x)) ((p,q) :: es) x y→com σ ((v,q) :: es) x y:=fun {x y} c=>by
    refine com_least hE (fun z=>?_) (fun e he=>?_) c
    · have o:com σ ((v,q) :: es) z (σ z):=com_sub (Orb.one σ z)
      show com σ ((v,q) :: es) z (swp v p (σ z))
      by_cases c:σ z=v
      · rw[c,swp_a];rw[c]at o;exact hE.trans o ab
      · by_cases d:σ z=p
        · rw[d,swp_b];rw[d]at o;exact hE.trans o (hE.symm ab)
        · rwa [swp_ne c d]
    · rcases List.mem_cons.1 he with rfl|he
      · exact hE.trans (hE.symm ab) (com_pair h (e:=(v,q)) (List.mem_cons_self ..))
      · exact com_pair h (List.mem_cons_of_mem _ he)
   rintro(c|⟨c,d⟩|⟨c,d⟩)
   · exact low c
   · exact hE.trans (low c) (hE.trans ab (low d))
   · exact hE.trans (low c) (hE.trans (hE.symm ab) (low d))
theorem Flat.move(h:Pm N σ){p q v:Nat}{es:Prs}(hg:Good N ((v,q) :: es))(hd:Dis ((v,q) :: es))(hp:p<N)(hpv:p≠v)(hpq:p≠q)(ho:¬inPrs es p)(k:σ v=p)(hf:Flat N σ ((v,q) :: es)):Flat N (fun x=>swp v p (σ x)) ((p,q) :: es):=by
 obtain⟨hv,hq,hvq⟩:v<N∧q<N∧v≠q:=hg (v,q) (List.mem_cons_self ..);obtain⟨o1,o2⟩:¬inPrs es v∧¬inPrs es q:=hd.out;have h':=h.swp hv hp
 have hg':Good N ((p,q) :: es):=fun e he=>by
  rcases List.mem_cons.1 he with rfl|he
  · exact⟨hp,hq,hpq⟩
  · exact hg.tail e he
 have hE:=(euler h' hg').1;have ko:Orb σ v p:=⟨1,k⟩;have hV:=cl_part h hv hp (fun e=>hpv e.symm) ko
 have hm:∀z,swp p q (swp v p z)=swp v p (swp v q z):=fun z=>by
  have n1:¬v=p:=fun e=>hpv e.symm
  have n2:¬q=p:=fun e=>hpq e.symm
  have n3:¬q=v:=fun e=>hvq e.symm
  by_cases c1:z=v
  · subst c1;rw[swp_a,swp_a,swp_a,swp_ne n3 n2]
  · by_cases c2:z=p
    · subst c2;rw[swp_b,swp_ne n1 hvq,swp_ne c1 hpq,swp_b]
    · by_cases c3:z=q
      · subst c3;rw[swp_ne c1 c2,swp_b,swp_b,swp_a]
      · rw[swp_ne c1 c2,swp_ne c2 c3,swp_ne c1 c3,swp_ne c1 c2]
 have e:phi (fun x=>swp v p (σ x)) ((p,q) :: es)=fun x=>swp v p (phi σ ((v,q) :: es) x):=funext fun x=>by
  show swp p q (mate es (swp v p (σ x)))=swp v p (swp v q (mate es (σ x)))
  rw[mate_swp,mate_out o1,mate_out ho]
  exact hm _
 have kf:Orb (phi σ ((v,q) :: es)) v p:=⟨1,by
  show swp v q (mate es (σ v))=p
  rw[k,mate_out ho,swp_ne hpv hpq]⟩
 have hF:=cl_part (phi_pm h hg) hv hp (fun e=>hpv e.symm) kf;have hc:=cl_congr (N:=N) (com_move (q:=q) h hp hv (es:=es) ko)
 unfold Flat at hf ⊢
 rw[e]at hE ⊢;rw[List.length_cons]at hE hf ⊢
 by_cases c:com (fun x=>swp v p (σ x)) ((p,q) :: es) v p
 · rw[cl_congr (mrg_same (com_equiv h' _) c)]at hc;omega
 · have:=cl_mrg (com_equiv h' _) hv hp c
   omega
end
end Go.Proofs.YtlicglicfijelaaGreat.Kn

namespace Go.Proofs.YtlicglicfijelaaGreat.Kn

def lz(l:List Nat)(f:Nat→Int):Int:=(l.map f).sum
theorem lz_cons(a:Nat)(l:List Nat)(f:Nat→Int):lz (a :: l) f=f a+lz l f:=by unfold lz;simp
theorem lz_app(l m:List Nat)(f:Nat→Int):lz (l++m) f=lz l f+lz m f:=by unfold lz;simp
theorem lz_perm{l m:List Nat}(p:l.Perm m)(f:Nat→Int):lz l f=lz m f:=by
 induction p with
 |nil=>rfl
 |cons a _ ih=>rw[lz_cons,lz_cons,ih]
 |swap a b l=>rw[lz_cons,lz_cons,lz_cons,lz_cons];omega
 |trans _ _ h1 h2=>exact h1.trans h2
theorem lz_congr{f g:Nat→Int}:∀{l:List Nat},(∀d∈l,f d=g d)→lz l f=lz l g
 |[],_=>rfl
 |a :: l,h=>by rw[lz_cons,lz_cons,h a (by simp),lz_congr fun d hd=>h d (by simp[hd])]
theorem lz_add(f g:Nat→Int):∀l:List Nat,lz l (fun d=>f d+g d)=lz l f+lz l g
 |[]=>rfl
 |a :: l=>by rw[lz_cons,lz_cons,lz_cons,lz_add f g l];omega
theorem lz_mul(k:Int)(f:Nat→Int):∀l:List Nat,lz l (fun d=>k*f d)=k*lz l f
 |[]=>by unfold lz;simp
 |a :: l=>by rw[lz_cons,lz_cons,lz_mul k f l,Int.mul_add]
theorem lz_none:∀l:List Nat,lz l (fun _=>0)=0
 |[]=>rfl
 |a :: l=>by rw[lz_cons,lz_none l];rfl
theorem lz_map(g:Nat→Nat)(f:Nat→Int)(l:List Nat):lz (l.map g) f=lz l fun d=>f (g d):=by
 unfold lz;rw[List.map_map];rfl
abbrev sz(N:Nat)(f:Nat→Int):Int:=lz (List.range N) f
section
variable {N:Nat} {σ:Nat→Nat}
theorem sz_congr{f g:Nat→Int}(h:∀d,d<N→f d=g d):sz N f=sz N g:=lz_congr fun d hd=>h d (List.mem_range.1 hd)
theorem sz_pm(h:Pm N σ)(f:Nat→Int):sz N (fun d=>f (σ d))=sz N f:=by
 have h1:((List.range N).map σ).Perm (List.range N):=inj_perm List.nodup_range (fun x hx=>List.mem_range.2 (h.lt x (List.mem_range.1 hx))) fun x _ y _ e=>h.inj x y e
 have h2:=lz_perm h1 f;rw[lz_map]at h2
 exact h2
theorem sz_one{a:Nat}(ha:a<N)(v:Int):sz N (fun d=>if d=a then v else 0)=v:=by
 have key:∀l:List Nat,l.Nodup→a∈l→lz l (fun d=>if d=a then v else 0)=v:=by
  intro l
  induction l with
  |nil=>intro _ h;cases h
  |cons b l ih=>
   intro hn hm
   rw[List.nodup_cons]at hn;rw[lz_cons]
   by_cases e:b=a
   · subst e
     rw[if_pos rfl]
     have:lz l (fun d=>if d=b then v else 0)=lz l (fun _=>0):=lz_congr fun d hd=>if_neg fun k=>hn.1 (by rw[←k];exact hd)
     rw[this,lz_none];omega
   · rw[if_neg e,ih hn.2 ((List.mem_cons.1 hm).resolve_left fun k=>e k.symm)];omega
 exact key _ List.nodup_range (List.mem_range.2 ha)
structure MarkZ(es:Prs)(z:Nat→Int):Prop where
 sup:∀d,z d≠0→inPrs es d
 pair:∀e∈es,z e.1 = -z e.2
theorem MarkZ.zero:∀{es:Prs},Good N es→Dis es→∀{z:Nat→Int},MarkZ es z→sz N z=0
 |[],_,_,z,h=>by
  have:sz N z=sz N (fun _=>0):=sz_congr fun d _=>Classical.byContradiction fun k=>by
   obtain⟨e,he,_⟩:=h.sup d k
   cases he
  exact this.trans (lz_none _)
 |e :: es,hg,hd,z,h=>by
  obtain⟨g1,g2,g3⟩:=hg e (by simp);obtain⟨o1,o2⟩:=hd.out;have hz:=h.pair e (by simp)
  have h1:MarkZ es (fun d=>if d=e.1∨d=e.2 then 0 else z d):=by
   refine⟨fun d k=>?_,fun p hp=>?_⟩
   · by_cases c:d=e.1∨d=e.2
     · rw[if_pos c]at k;exact absurd rfl k
     · rw[if_neg c]at k
       obtain⟨x,hx,y⟩:=h.sup d k
       rcases List.mem_cons.1 hx with rfl|hx
       · exact absurd y c
       · exact⟨x,hx,y⟩
   · have a1:p.1≠e.1:=fun k=>o1 ⟨p,hp,.inl k.symm⟩
     have a2:p.2≠e.1:=fun k=>o1 ⟨p,hp,.inr k.symm⟩
     have a3:p.1≠e.2:=fun k=>o2 ⟨p,hp,.inl k.symm⟩
     have a4:p.2≠e.2:=fun k=>o2 ⟨p,hp,.inr k.symm⟩
     rw[if_neg (by simp[a1,a3]),if_neg (by simp[a2,a4])]
     exact h.pair p (by simp[hp])
  have h2:=MarkZ.zero hg.tail hd.tail h1
  have h3:sz N z=sz N (fun d=>(if d=e.1∨d=e.2 then 0 else z d)+((if d=e.1 then z e.1 else 0)+(if d=e.2 then z e.2 else 0))):=sz_congr fun d _=>by
   by_cases c:d=e.1
   · subst c
     rw[if_pos (.inl rfl),if_pos rfl,if_neg g3];omega
   · by_cases c':d=e.2
     · subst c'
       rw[if_pos (.inr rfl),if_neg c,if_pos rfl];omega
     · rw[if_neg (by simp[c,c']),if_neg c,if_neg c'];omega
  have k1:=sz_one g1 (z e.1);have k2:=sz_one g2 (z e.2)
  unfold sz at k1 k2 h3 h2 ⊢
  rw[h3,lz_add,lz_add,h2,k1,k2];omega
theorem MarkZ.tail{e:Nat×Nat}{es:Prs}{z:Nat→Int}(h:MarkZ (e :: es) z)(h1:z e.1=0)(h2:z e.2=0):MarkZ es z:=by
 refine⟨fun d k=>?_,fun p hp=>h.pair p (by simp[hp])⟩
 obtain⟨x,hx,y⟩:=h.sup d k
 rcases List.mem_cons.1 hx with rfl|hx
 · rcases y with rfl|rfl
   · exact absurd h1 k
   · exact absurd h2 k
 · exact⟨x,hx,y⟩
noncomputable def ti (p:Prop):Int:=if tr p then 1 else 0
theorem ti_one{p:Prop}(h:p):ti p=1:=by unfold ti;rw[tr_iff.2 h];rfl
theorem ti_zero{p:Prop}(h:¬p):ti p=0:=by unfold ti;rw[tr_false.2 h];rfl
theorem ti_congr{p q:Prop}(h:p↔q):ti p=ti q:=by unfold ti;rw[tr_congr h]
theorem colourZ(h:Pm N σ):∀{es:Prs},Good N es→Dis es→Flat N σ es →
 ∀{z:Nat→Int},MarkZ es z→(∀K:Nat→Int,(∀d,K (σ d)=K d)→sz N (fun d=>K d*z d)=0) →
 ∃col:Nat→Int,(∀d,col (phi σ es d)=col d)∧∀e∈es,col e.1-col e.2=z e.1
 |[],_,_,_,z,_,_=>⟨fun _=>0,fun _=>rfl,fun e he=>by cases he⟩
 |e :: es,hg,hd,heq,z,hz,hK=>by
  obtain⟨g1,g2,g3⟩:=hg e (by simp);obtain⟨o1,o2⟩:=hd.out;have hze:=hz.pair e (by simp);have hp:=phi_pm h hg.tail;have hc:=com_equiv h es;obtain⟨i1,_⟩:=euler h hg.tail
  unfold Flat at heq
  rw[phi_cons,List.length_cons]at heq
  change _=_+2*cl N (mrg (com σ es) e.1 e.2)at heq
  by_cases c:com σ es e.1 e.2
  · rw[cl_congr (mrg_same hc c)]at heq
    have ho:Orb (phi σ es) e.1 e.2:=Classical.byContradiction fun k=>by
     have:=cl_join hp g1 g2 k
     omega
    have hcl:=cl_part hp g1 g2 g3 ho
    have heq':Flat N σ es:=by unfold Flat;omega
    obtain⟨C,hC⟩:∃C:Nat→Int,∀d,C d=ti (Orb (phi σ (e :: es)) e.1 d):=⟨_,fun _=>rfl⟩
    have hp':=phi_pm h hg
    have hCi:∀d,C (phi σ (e :: es) d)=C d:=fun d=>by
     rw[hC,hC]
     exact ti_congr ⟨fun k=>k.trans (hp'.symm (Orb.one _ d)),fun k=>k.trans (Orb.one _ d)⟩
    have hCa:C e.1=1:=by rw[hC];exact ti_one (Orb.refl _ _)
    have hCb:C e.2=0:=by rw[hC];exact ti_zero (orb_part hp g3 ho)
    have m1:mate (e :: es) e.1=e.2:=(mate_pair hd (by simp)).1;have m2:mate (e :: es) e.2=e.1:=(mate_pair hd (by simp)).2
    obtain⟨z',hz'⟩:∃z':Nat→Int,∀d,z' d=z d+(z e.1*C (mate (e :: es) d)+(-z e.1)*C d):=⟨_,fun _=>rfl⟩
    have z1:z' e.1=0:=by rw[hz',m1,hCa,hCb];omega
    have z2:z' e.2=0:=by rw[hz',m2,hCa,hCb];omega
    have hm:MarkZ (e :: es) z':=by
     refine⟨fun d k=>Classical.byContradiction fun hn=>?_,fun p hp=>?_⟩
     · have h1:z d=0:=Classical.byContradiction fun k=>hn (hz.sup d k)
       refine k ?_
       rw[hz',h1,mate_out hn,Int.neg_mul]
       omega
     · obtain⟨q1,q2⟩:=mate_pair hd hp
       rw[hz',hz',q1,q2,hz.pair p hp];simp only[Int.neg_mul]
       omega
    have hK':∀K:Nat→Int,(∀d,K (σ d)=K d)→sz N (fun d=>K d*z' d)=0:=fun K hKs=>by
     have a1:=hK K hKs
     have a2:sz N (fun d=>K d*z' d)=sz N (fun d=>K d*z d+(z e.1*(K d*C (mate (e :: es) d))+(-z e.1)*(K d*C d))):=sz_congr fun d _=>by
      rw[hz',Int.mul_add,Int.mul_add,Int.mul_left_comm,Int.mul_left_comm (K d) (-z e.1)]
     have a5:sz N (fun d=>K d*C (mate (e :: es) d))=sz N (fun d=>K d*C d):=by
      rw[←sz_pm h]
      refine sz_congr fun d _=>?_
      have:C (mate (e :: es) (σ d))=C d:=hCi d;rw[hKs,this]
     unfold sz at a1 a2 a5 ⊢
     rw[a2,lz_add,lz_add,lz_mul,lz_mul,a1,a5,Int.neg_mul]
     omega
    obtain⟨col,c1,c2⟩:=colourZ h hg.tail hd.tail heq' (hm.tail z1 z2) hK';have hab:col e.1=col e.2:=(ho.ind (P:=fun y=>col y=col e.1) (fun x hx=>(c1 x).trans hx) rfl).symm
    refine⟨fun d=>col d+z e.1*C d,fun d=>?_,fun p hp=>?_⟩
    · show col (phi σ (e :: es) d)+z e.1*C (phi σ (e :: es) d)=_
      rw[hCi]
      have:col (phi σ (e :: es) d)=col d:=by
       rw[phi_cons]
       show col (swp e.1 e.2 (phi σ es d))=col d
       rw[←c1 d]
       by_cases k:phi σ es d=e.1
       · rw[k,swp_a,hab]
       · by_cases k':phi σ es d=e.2
         · rw[k',swp_b,hab]
         · rw[swp_ne k k']
      rw[this]
    · rcases List.mem_cons.1 hp with rfl|hp
      · show col p.1+z p.1*C p.1-(col p.2+z p.1*C p.2)=_
        rw[hCa,hCb,hab]
        omega
      · show col p.1+z e.1*C p.1-(col p.2+z e.1*C p.2)=_
        have q1:=(mate_pair hd (e:=p) (by simp[hp])).1;have q2:=c2 p hp;rw[hz',q1,Int.neg_mul]at q2
        omega
  · have j1:=cl_mrg hc g1 g2 c
    have j2:=cl_join hp g1 g2 fun k=>c (orb_com h hg.tail k)
    have heq':Flat N σ es:=by unfold Flat;omega
    obtain⟨K,hKd⟩:∃K:Nat→Int,∀d,K d=ti (com σ es e.1 d):=⟨_,fun _=>rfl⟩
    have hKc:∀{x y},com σ es x y→K x=K y:=fun {x y} k=>by
     rw[hKd,hKd];exact ti_congr ⟨fun l=>hc.trans l k,fun l=>hc.trans l (hc.symm k)⟩
    have hKa:K e.1=1:=by rw[hKd];exact ti_one (hc.refl _)
    have hKb:K e.2=0:=by rw[hKd];exact ti_zero c
    have hev:=hK K fun d=>(hKc (com_sub (Orb.one σ d))).symm
    have hm1:MarkZ es (fun d=>if d=e.1 then 0 else K d*z d):=by
     refine⟨fun d k=>?_,fun p hp=>?_⟩
     · by_cases c':d=e.1
       · rw[if_pos c']at k;exact absurd rfl k
       · rw[if_neg c']at k
         have:z d≠0:=fun k'=>k (by rw[k'];simp)
         obtain⟨x,hx,y⟩:=hz.sup d this
         rcases List.mem_cons.1 hx with rfl|hx
         · rcases y with y|y
           · exact absurd y c'
           · rw[y,hKb]at k;exact absurd (by simp) k
         · exact⟨x,hx,y⟩
     · have a1:p.1≠e.1:=fun k=>o1 ⟨p,hp,.inl k.symm⟩
       have a3:p.2≠e.1:=fun k=>o1 ⟨p,hp,.inr k.symm⟩
       rw[if_neg a1,if_neg a3,hz.pair p (by simp[hp]),hKc (com_pair h hp),Int.mul_neg]
    have hev1:=hm1.zero hg.tail hd.tail
    have hsum:sz N (fun d=>K d*z d)=sz N (fun d=>(if d=e.1 then 0 else K d*z d)+(if d=e.1 then z e.1 else 0)):=sz_congr fun d _=>by
     by_cases k:d=e.1
     · subst k;rw[hKa,if_pos rfl,if_pos rfl];omega
     · rw[if_neg k,if_neg k];omega
    have k1:=sz_one g1 (z e.1)
    have z1:z e.1=0:=by
     unfold sz at hev hev1 hsum k1
     rw[lz_add,hev1,k1,hev]at hsum
     omega
    obtain⟨col,c1,c2⟩:=colourZ h hg.tail hd.tail heq' (hz.tail z1 (by omega)) hK
    obtain⟨t,ht⟩:∃t,t=col e.1-col e.2:=⟨_,rfl⟩
    refine⟨fun d=>col d-t*K d,fun d=>?_,fun p hp=>?_⟩
    · show (fun d=>col d-t*K d) (swp e.1 e.2 (phi σ es d))=col d-t*K d
      have k1:K (phi σ es d)=K d:=(hKc (orb_com h hg.tail (Orb.one _ d))).symm;rw[←c1 d,←k1]
      by_cases k:phi σ es d=e.1
      · rw[k,swp_a]
        show col e.2-t*K e.2=col e.1-t*K e.1
        rw[hKa,hKb,ht];omega
      · by_cases k':phi σ es d=e.2
        · rw[k',swp_b]
          show col e.1-t*K e.1=col e.2-t*K e.2
          rw[hKa,hKb,ht];omega
        · rw[swp_ne k k']
    · rcases List.mem_cons.1 hp with rfl|hp
      · show col p.1-t*K p.1-(col p.2-t*K p.2)=z p.1
        rw[hKa,hKb,ht,z1];omega
      · show col p.1-t*K p.1-(col p.2-t*K p.2)=z p.1
        rw[hKc (com_pair h hp),←c2 p hp]
        omega
end
end Go.Proofs.YtlicglicfijelaaGreat.Kn

namespace Go.Proofs.YtlicglicfijelaaGreat.Kn
section
variable {N:Nat} {σ:Nat→Nat}
theorem inPrs_iff{es:Prs}(hg:Good N es)(hd:Dis es)(x:Nat):inPrs es x↔mate es x≠x:=by
 constructor
 · rintro⟨e,he,k|k⟩
   · rw[k,(mate_pair hd he).1];exact fun c=>(hg e he).2.2 c.symm
   · rw[k,(mate_pair hd he).2];exact(hg e he).2.2
 · intro k
   exact Classical.byContradiction fun c=>k (mate_out c)
theorem mate_mate{es:Prs}(hd:Dis es)(x:Nat):mate es (mate es x)=x:=by
 by_cases c:inPrs es x
 · obtain⟨e,he,k|k⟩:=c
   · rw[k,(mate_pair hd he).1,(mate_pair hd he).2]
   · rw[k,(mate_pair hd he).2,(mate_pair hd he).1]
 · rw[mate_out c,mate_out c]
theorem Dis.flip{a b:Nat}{es:Prs}(h:Dis ((a,b) :: es)):Dis ((b,a) :: es):=by
 unfold Dis at h ⊢
 rw[List.pairwise_cons]at h ⊢
 refine⟨fun d hd=>?_,h.2⟩
 obtain⟨h1,h2,h3,h4⟩:=h.1 d hd
 exact⟨h3,h4,h1,h2⟩
theorem Good.flip{a b:Nat}{es:Prs}(h:Good N ((a,b) :: es)):Good N ((b,a) :: es):=fun e he=>by
 rcases List.mem_cons.1 he with rfl|he
 · have:=h (a,b) (List.mem_cons_self ..)
   exact⟨this.2.1,this.1,fun c=>this.2.2 c.symm⟩
 · exact h.tail e he
theorem Flat.bring(h:Pm N σ){es:Prs}(hg:Good N es)(hd:Dis es){u:Nat}(hu:inPrs es u)(hf:Flat N σ es):
 ∃p es0,Good N ((u,p) :: es0)∧Dis ((u,p) :: es0)∧Flat N σ ((u,p) :: es0)∧∀z,mate ((u,p) :: es0) z=mate es z:=by
 obtain⟨⟨a,b⟩,he,k⟩:=hu;have P:=List.perm_cons_erase he;have hg':=hg.perm P;have hd':=hd.perm P;have hf':=hf.perm h hd P;have hm:=mate_perm hd P
 rcases k with k|k
 · have k:u=a:=k
   subst k
   exact⟨b,_,hg',hd',hf',fun z=>(hm z).symm⟩
 · have k:u=b:=k
   subst k
   exact⟨a,_,hg'.flip,hd'.flip,hf'.flip h,fun z=>by rw[hm z];exact swp_comm u a _⟩
theorem swp3{u v p:Nat}(huv:u≠v)(hup:u≠p)(hvp:v≠p)(z:Nat):swp v p (swp u v (swp u p z))=swp u v z:=by
 have n1:v≠u:=fun e=>huv e.symm
 have n2:p≠u:=fun e=>hup e.symm
 have n3:p≠v:=fun e=>hvp e.symm
 by_cases c1:z=u
 · subst c1;rw[swp_a,swp_ne n2 n3,swp_b,swp_a]
 · by_cases c2:z=v
   · subst c2;rw[swp_ne n1 hvp,swp_b,swp_ne huv hup]
   · by_cases c3:z=p
     · subst c3;rw[swp_b,swp_a,swp_a,swp_ne n2 n3]
     · rw[swp_ne c1 c3,swp_ne c1 c2,swp_ne c2 c3]
theorem Flat.suppress(h:Pm N σ){es:Prs}(hg:Good N es)(hd:Dis es){u v:Nat}(hne:u≠v)(huv:σ u=v)(hvu:σ v=u)(hu:inPrs es u)(hv:inPrs es v)(hf:Flat N σ es):
 ∃es',Good N es'∧Dis es'∧Flat N (fun x=>swp u v (σ x)) es'∧∀z,mate es' z=if z=u∨z=v then z else if mate es z=u then mate es v else if mate es z=v then mate es u else mate es z:=by
 obtain⟨p,es0,g0,d0,f0,m0⟩:=hf.bring h hg hd hu;obtain⟨hu',hp,hup⟩:u<N∧p<N∧u≠p:=g0 (u,p) (List.mem_cons_self ..);obtain⟨o1,o2⟩:¬inPrs es0 u∧¬inPrs es0 p:=d0.out
 have m0:∀z,mate es z=swp u p (mate es0 z):=fun z=>(m0 z).symm
 have hvN:v<N:=by
  have:=h.lt u hu';rwa [huv]at this
 by_cases c:p=v
 · subst c
   have f1:=(f0.drop h g0).split h g0.tail hu' hp hup ⟨1,huv⟩
   refine⟨es0,g0.tail,d0.tail,f1,fun z=>?_⟩
   by_cases c1:z=u∨z=p
   · rw[if_pos c1]
     rcases c1 with rfl|rfl
     · exact mate_out o1
     · exact mate_out o2
   · have c2:mate es0 z≠u:=fun k=>c1 (.inl (mate_inj (k.trans (mate_out o1).symm)))
     have c3:mate es0 z≠p:=fun k=>c1 (.inr (mate_inj (k.trans (mate_out o2).symm)))
     rw[if_neg c1,m0 z,swp_ne c2 c3,if_neg c2,if_neg c3]
 · have hpv:p≠v:=c
   have hvp:v≠p:=fun e=>c e.symm
   have hk:¬Orb σ u p:=by
    intro k
    have:p=u∨p=v:=k.ind (P:=fun y=>y=u∨y=v) (fun y hy=>by
     rcases hy with rfl|rfl
     · exact .inr huv
     · exact .inl hvu) (.inl rfl)
    rcases this with k|k
    · exact hup k.symm
    · exact hpv k
   have f1:=f0.contract h g0 d0 hk;have h1:Pm N (fun x=>swp u p (σ x)):=h.swp hu' hp
   have iv:inPrs es0 v:=by
    rw[inPrs_iff hg hd,m0 v]at hv;rw[inPrs_iff g0.tail d0.tail]
    intro k
    rw[k,swp_ne (fun e=>hne e.symm) hvp]at hv
    exact hv rfl
   obtain⟨q,es1,g1,d1,f2,m1⟩:=f1.bring h1 g0.tail d0.tail iv;obtain⟨_,hq,hvq⟩:v<N∧q<N∧v≠q:=g1 (v,q) (List.mem_cons_self ..);obtain⟨o3,o4⟩:¬inPrs es1 v∧¬inPrs es1 q:=d1.out
   have m1:∀z,mate es0 z=swp v q (mate es1 z):=fun z=>(m1 z).symm
   have f3:=f2.split h1 g1 hu' hvN hne ⟨1,by
    show swp u p (σ u)=v
    rw[huv];exact swp_ne (fun e=>hne e.symm) hvp⟩
   have h2:Pm N (fun x=>swp u v (swp u p (σ x))):=h1.swp hu' hvN
   have mq0:mate es0 q=v:=by rw[m1,mate_out o4,swp_b]
   have hpq:p≠q:=fun e=>by
    have:mate es0 p=p:=mate_out o2
    rw[e,mq0]at this;exact hvq this
   have huq:u≠q:=fun e=>by
    have:mate es0 u=u:=mate_out o1
    rw[e,mq0]at this;exact hvq this
   have out1:∀{z},¬inPrs es0 z→¬inPrs es1 z:=fun {z} hz k=>by
    have e1:mate es0 z=z:=mate_out hz;rw[m1]at e1;rw[inPrs_iff g1.tail d1.tail]at k
    by_cases c1:mate es1 z=v
    · exact k (by rw[c1];exact(mate_inj (c1.trans (mate_out o3).symm)).symm)
    · by_cases c2:mate es1 z=q
      · exact k (by rw[c2];exact(mate_inj (c2.trans (mate_out o4).symm)).symm)
      · rw[swp_ne c1 c2]at e1;exact k e1
   have f4:=f3.move h2 g1 d1 hp hpv hpq (out1 o2) (by
    show swp u v (swp u p (σ v))=p
    rw[hvu,swp_a];exact swp_ne (fun e=>hup e.symm) hpv)
   have g4:Good N ((p,q) :: es1):=fun e he=>by
    rcases List.mem_cons.1 he with rfl|he
    · exact⟨hp,hq,hpq⟩
    · exact g1.tail e he
   have d4:Dis ((p,q) :: es1):=by
    unfold Dis
    rw[List.pairwise_cons]
    refine⟨fun d hd=>⟨fun e=>out1 o2 ⟨d,hd,.inl e⟩,fun e=>out1 o2 ⟨d,hd,.inr e⟩,fun e=>o4 ⟨d,hd,.inl e⟩,fun e=>o4 ⟨d,hd,.inr e⟩⟩,d1.tail⟩
   refine⟨(p,q) :: es1,g4,d4,?_,fun z=>?_⟩
   · have e:(fun x=>swp v p (swp u v (swp u p (σ x))))=fun x=>swp u v (σ x):=funext fun x=>swp3 hne hup hvp _
     rw[←e];exact f4
   · have eu:mate es1 u=u:=mate_out (out1 o1)
     have ep:mate es1 p=p:=mate_out (out1 o2);have ev:mate es1 v=v:=mate_out o3;have eq:mate es1 q=q:=mate_out o4
     have mz:∀z,mate es z=swp u p (swp v q (mate es1 z)):=fun z=>by rw[m0,m1]
     have mu:mate es u=p:=by rw[mz,eu,swp_ne hne huq,swp_a]
     have mv:mate es v=q:=by rw[mz,ev,swp_a,swp_ne (fun e=>huq e.symm) (fun e=>hpq e.symm)]
     have mp:mate es p=u:=by rw[mz,ep,swp_ne hpv hpq,swp_b]
     have mq:mate es q=v:=by rw[mz,eq,swp_b,swp_ne (fun e=>hne e.symm) hvp]
     show swp p q (mate es1 z)=_
     by_cases c1:z=u
     · rw[if_pos (.inl c1),c1,eu,swp_ne hup huq]
     · by_cases c2:z=v
       · rw[if_pos (.inr c2),c2,ev,swp_ne hvp hvq]
       · rw[if_neg fun k=>k.elim c1 c2]
         by_cases c3:z=p
         · rw[c3,ep,swp_a,mp,if_pos rfl,mv]
         · by_cases c4:z=q
           · rw[c4,eq,swp_b,mq,if_neg (fun e=>hne e.symm),if_pos rfl,mu]
           · have w1:mate es1 z≠u:=fun k=>c1 (mate_inj (k.trans eu.symm))
             have w2:mate es1 z≠v:=fun k=>c2 (mate_inj (k.trans ev.symm))
             have w3:mate es1 z≠p:=fun k=>c3 (mate_inj (k.trans ep.symm))
             have w4:mate es1 z≠q:=fun k=>c4 (mate_inj (k.trans eq.symm))
             rw[swp_ne w3 w4,mz,swp_ne w2 w4,swp_ne w1 w3,if_neg w1,if_neg w2]
end
end Go.Proofs.YtlicglicfijelaaGreat.Kn

namespace Go.Proofs.YtlicglicfijelaaGreat.Kn
section
variable {N:Nat} {σ:Nat→Nat}
theorem Flat.kink(h:Pm N σ){es:Prs}(hg:Good N es)(hd:Dis es)(hf:Flat N σ es){A B C D:Nat}(hnd:[A,B,C,D].Nodup)
 (sA:σ A=D) (sD:σ D=C) (sC:σ C=B) (sB:σ B=A) (mA:mate es A=B) (iC:mate es C≠C) (iD:mate es D≠D):
 ∃es',Good N es'∧Dis es'∧Pm N (fun x=>if x∈[A,B,C,D]then x else σ x)∧Flat N (fun x=>if x∈[A,B,C,D]then x else σ x) es' ∧
  ∀z,mate es' z=if z∈[A,B,C,D]then z else if mate es z=C then mate es D else if mate es z=D then mate es C else mate es z:=by
 have hnd':=hnd;simp only[List.nodup_cons,List.mem_cons,List.not_mem_nil,or_false,not_or,List.nodup_nil,and_true,not_false_eq_true]at hnd';obtain⟨⟨nAB,nAC,nAD⟩,⟨nBC,nBD⟩,nCD⟩:=hnd'
 have nBA:¬B=A:=fun e=>nAB e.symm
 have nCA:¬C=A:=fun e=>nAC e.symm
 have nDA:¬D=A:=fun e=>nAD e.symm
 have nCB:¬C=B:=fun e=>nBC e.symm
 have nDB:¬D=B:=fun e=>nBD e.symm
 have nDC:¬D=C:=fun e=>nCD e.symm
 have iA:inPrs es A:=(inPrs_iff hg hd A).2 (by rw[mA];exact nBA);obtain⟨p,es0,g0,d0,f0,m0⟩:=hf.bring h hg hd iA;obtain⟨hA,hp,_⟩:A<N∧p<N∧A≠p:=g0 (A,p) (List.mem_cons_self ..);obtain⟨o1,o2⟩:¬inPrs es0 A∧¬inPrs es0 p:=d0.out
 have m0:∀z,mate es z=swp A p (mate es0 z):=fun z=>(m0 z).symm
 have hpB:p=B:=by rw[←mA,m0,mate_out o1,swp_a]
 subst hpB
 have hD:D<N:=by have:=h.lt A hA;rwa [sA]at this
 have hC:C<N:=by have:=h.lt D hD;rwa [sD]at this
 have f1:=(f0.drop h g0).split h g0.tail hA hD nAD ⟨1,sA⟩;have h1:Pm N (fun x=>swp A D (σ x)):=h.swp hA hD;have f2:=f1.split h1 g0.tail hp hD nBD ⟨1,by show swp A D (σ p)=D;rw[sB,swp_a]⟩;have h2:Pm N (fun x=>swp p D (swp A D (σ x))):=h1.swp hp hD
 have c0:∀{z},z≠A→z≠p→(mate es0 z≠A∧mate es0 z≠p∧mate es z=mate es0 z):=fun {z} h1 h2=>by
  have w1:mate es0 z≠A:=fun k=>h1 (mate_inj (k.trans (mate_out o1).symm))
  have w2:mate es0 z≠p:=fun k=>h2 (mate_inj (k.trans (mate_out o2).symm))
  exact⟨w1,w2,by rw[m0,swp_ne w1 w2]⟩
 have mC:=c0 nCA nCB;have mD:=c0 nDA nDB
 obtain⟨es',g',d',f',m'⟩:=f2.suppress h2 g0.tail d0.tail (u:=C) (v:=D) nCD
  (by show swp p D (swp A D (σ C))=D;rw[sC,swp_ne nBA nBD,swp_a])
  (by show swp p D (swp A D (σ D))=C;rw[sD,swp_ne nCA nCD,swp_ne nCB nCD])
  ((inPrs_iff g0.tail d0.tail C).2 (mC.2.2 ▸ iC)) ((inPrs_iff g0.tail d0.tail D).2 (mD.2.2 ▸ iD))
 have e:(fun x=>if x∈[A,p,C,D]then x else σ x)=fun x=>swp C D (swp p D (swp A D (σ x))):=funext fun x=>by
  by_cases c1:x=A
  · subst c1;simp[sA,swp, *]
  · by_cases c2:x=p
    · subst c2;simp[sB,swp, *]
    · by_cases c3:x=C
      · subst c3;simp[sC,swp, *]
      · by_cases c4:x=D
        · subst c4;simp[sD,swp, *]
        · have e1:¬σ x=A:=fun k=>c2 (h.inj _ _ (k.trans sB.symm))
          have e2:¬σ x=p:=fun k=>c3 (h.inj _ _ (k.trans sC.symm))
          have e3:¬σ x=C:=fun k=>c4 (h.inj _ _ (k.trans sD.symm))
          have e4:¬σ x=D:=fun k=>c1 (h.inj _ _ (k.trans sA.symm))
          simp[swp,e1,e2,e3,e4,c1,c2,c3,c4]
 refine⟨es',g',d',by rw[e];exact h2.swp hC hD,by rw[e];exact f',fun z=>?_⟩
 · rw[m']
   by_cases c1:z=A
   · subst c1
     rw[if_neg (by simp[nAC,nAD]),mate_out o1,if_neg nAC,if_neg nAD,if_pos (by simp)]
   · by_cases c2:z=p
     · subst c2
       rw[if_neg (by simp[nBC,nBD]),mate_out o2,if_neg nBC,if_neg nBD,if_pos (by simp)]
     · simp[c1,c2,(c0 c1 c2).2.2,mC.2.2,mD.2.2]
theorem Flat.bigon(h:Pm N σ){es:Prs}(hg:Good N es)(hd:Dis es)(hf:Flat N σ es){A B C D a b c d:Nat}(hnd:[A,B,C,D,a,b,c,d].Nodup)
 (sA:σ A=D) (sD:σ D=C) (sC:σ C=B) (sB:σ B=A) (sa:σ a=b) (sb:σ b=c) (sc:σ c=d) (sd:σ d=a)
 (mA:mate es A=a) (mB:mate es B=b) (iC:mate es C≠C) (iD:mate es D≠D) (ic:mate es c≠c) (id:mate es d≠d):
 ∃(es':Prs) (m1:Nat→Nat),Good N es'∧Dis es'∧Pm N (fun x=>if x∈[A,B,C,D,a,b,c,d]then x else σ x)∧Flat N (fun x=>if x∈[A,B,C,D,a,b,c,d]then x else σ x) es' ∧
  (∀z,z∉[A,B,a,b]→m1 z=if z=C∨z=c then z else if mate es z=C then mate es c else if mate es z=c then mate es C else mate es z) ∧
  ∀z,mate es' z=if z∈[A,B,C,D,a,b,c,d]then z else if m1 z=D then m1 d else if m1 z=d then m1 D else m1 z:=by
 have hnd':=hnd;simp only[List.nodup_cons,List.mem_cons,List.not_mem_nil,or_false,not_or,List.nodup_nil,and_true,not_false_eq_true]at hnd';obtain⟨⟨nAB,nAC,nAD,nAa,nAb,nAc,nAd⟩,⟨nBC,nBD,nBa,nBb,nBc,nBd⟩,⟨nCD,nCa,nCb,nCc,nCd⟩,⟨nDa,nDb,nDc,nDd⟩,⟨nab,nac,nad⟩,⟨nbc,nbd⟩,ncd⟩:=hnd'
 have nBA:¬B=A:=fun e=>nAB e.symm
 have nCA:¬C=A:=fun e=>nAC e.symm
 have nDA:¬D=A:=fun e=>nAD e.symm
 have naA:¬a=A:=fun e=>nAa e.symm
 have nbA:¬b=A:=fun e=>nAb e.symm
 have ncA:¬c=A:=fun e=>nAc e.symm
 have ndA:¬d=A:=fun e=>nAd e.symm
 have nCB:¬C=B:=fun e=>nBC e.symm
 have nDB:¬D=B:=fun e=>nBD e.symm
 have naB:¬a=B:=fun e=>nBa e.symm
 have nbB:¬b=B:=fun e=>nBb e.symm
 have ncB:¬c=B:=fun e=>nBc e.symm
 have ndB:¬d=B:=fun e=>nBd e.symm
 have nDC:¬D=C:=fun e=>nCD e.symm
 have naC:¬a=C:=fun e=>nCa e.symm
 have nbC:¬b=C:=fun e=>nCb e.symm
 have ncC:¬c=C:=fun e=>nCc e.symm
 have ndC:¬d=C:=fun e=>nCd e.symm
 have naD:¬a=D:=fun e=>nDa e.symm
 have nbD:¬b=D:=fun e=>nDb e.symm
 have ncD:¬c=D:=fun e=>nDc e.symm
 have ndD:¬d=D:=fun e=>nDd e.symm
 have nba:¬b=a:=fun e=>nab e.symm
 have nca:¬c=a:=fun e=>nac e.symm
 have nda:¬d=a:=fun e=>nad e.symm
 have ncb:¬c=b:=fun e=>nbc e.symm
 have ndb:¬d=b:=fun e=>nbd e.symm
 have ndc:¬d=c:=fun e=>ncd e.symm
 have iA:inPrs es A:=(inPrs_iff hg hd A).2 (by rw[mA];exact naA);obtain⟨p,es0,g0,d0,f0,m0⟩:=hf.bring h hg hd iA;obtain⟨hA,hp,_⟩:A<N∧p<N∧A≠p:=g0 (A,p) (List.mem_cons_self ..);obtain⟨o1,o2⟩:¬inPrs es0 A∧¬inPrs es0 p:=d0.out
 have m0:∀z,mate es z=swp A p (mate es0 z):=fun z=>(m0 z).symm
 have hpa:p=a:=by rw[←mA,m0,mate_out o1,swp_a]
 subst hpa
 have hD:D<N:=by have:=h.lt A hA;rwa [sA]at this
 have hC:C<N:=by have:=h.lt D hD;rwa [sD]at this
 have hB:B<N:=by have:=h.lt C hC;rwa [sC]at this
 have hb:b<N:=by have:=h.lt p hp;rwa [sa]at this
 have hc:c<N:=by have:=h.lt b hb;rwa [sb]at this
 have hd':d<N:=by have:=h.lt c hc;rwa [sc]at this
 have hk:¬Orb σ A p:=fun k=>by
  have:p=A∨p=B∨p=C∨p=D:=k.ind (P:=fun y=>y=A∨y=B∨y=C∨y=D) (fun y hy=>by
   rcases hy with rfl|rfl|rfl|rfl
   · exact .inr (.inr (.inr sA))
   · exact .inl sB
   · exact .inr (.inl sC)
   · exact .inr (.inr (.inl sD))) (.inl rfl)
  rcases this with k|k|k|k
  · exact naA k
  · exact naB k
  · exact naC k
  · exact naD k
 have f1:=f0.contract h g0 d0 hk;have h1:Pm N (fun x=>swp A p (σ x)):=h.swp hA hp
 have c0:∀{z},z≠A→z≠p→(mate es0 z≠A∧mate es0 z≠p∧mate es z=mate es0 z):=fun {z} h1 h2=>by
  have w1:mate es0 z≠A:=fun k=>h1 (mate_inj (k.trans (mate_out o1).symm))
  have w2:mate es0 z≠p:=fun k=>h2 (mate_inj (k.trans (mate_out o2).symm))
  exact⟨w1,w2,by rw[m0,swp_ne w1 w2]⟩
 have iB:inPrs es0 B:=(inPrs_iff g0.tail d0.tail B).2 (by rw[←(c0 nBA nBa).2.2,mB];exact nbB);obtain⟨q,es1,g1,d1,f2,m1⟩:=f1.bring h1 g0.tail d0.tail iB;obtain⟨o3,o4⟩:¬inPrs es1 B∧¬inPrs es1 q:=d1.out
 have m1:∀z,mate es0 z=swp B q (mate es1 z):=fun z=>(m1 z).symm
 have hqb:q=b:=by rw[←mB,(c0 nBA nBa).2.2,m1,mate_out o3,swp_a]
 subst hqb
 have c1:∀{z},z≠A→z≠p→z≠B→z≠q→mate es z=mate es1 z:=fun {z} h1 h2 h3 h4=>by
  have w1:mate es1 z≠B:=fun k=>h3 (mate_inj (k.trans (mate_out o3).symm))
  have w2:mate es1 z≠q:=fun k=>h4 (mate_inj (k.trans (mate_out o4).symm))
  rw[(c0 h1 h2).2.2,m1,swp_ne w1 w2]
 have f3:=f2.drop h1 g1;have f4:=f3.split h1 g1.tail hA hD nAD ⟨1,by show swp A p (σ A)=D;rw[sA,swp_ne nDA nDa]⟩;have h4:Pm N (fun x=>swp A D (swp A p (σ x))):=h1.swp hA hD;have f5:=f4.split h4 g1.tail hB hp nBa ⟨1,by show swp A D (swp A p (σ B))=p;rw[sB,swp_a,swp_ne naA naD]⟩;have h5:Pm N (fun x=>swp B p (swp A D (swp A p (σ x)))):=h4.swp hB hp;have f6:=f5.split h5 g1.tail hp hb nab ⟨1,by show swp B p (swp A D (swp A p (σ p)))=q;rw[sa,swp_ne nbA nba,swp_ne nbA nbD,swp_ne nbB nba]⟩
 have h6:Pm N (fun x=>swp p q (swp B p (swp A D (swp A p (σ x))))):=h5.swp hp hb;have f7:=f6.split h6 g1.tail hb hc nbc ⟨1,by show swp p q (swp B p (swp A D (swp A p (σ q))))=c;rw[sb,swp_ne ncA nca,swp_ne ncA ncD,swp_ne ncB nca,swp_ne nca ncb]⟩;have h7:Pm N (fun x=>swp q c (swp p q (swp B p (swp A D (swp A p (σ x)))))):=h6.swp hb hc
 have vC:swp q c (swp p q (swp B p (swp A D (swp A p (σ C)))))=c:=by rw[sC,swp_ne nBA nBa,swp_ne nBA nBD,swp_a,swp_a,swp_a]
 have vc:swp q c (swp p q (swp B p (swp A D (swp A p (σ c)))))=d:=by rw[sc,swp_ne ndA nda,swp_ne ndA ndD,swp_ne ndB nda,swp_ne nda ndb,swp_ne ndb ndc]
 have vD:swp q c (swp p q (swp B p (swp A D (swp A p (σ D)))))=C:=by rw[sD,swp_ne nCA nCa,swp_ne nCA nCD,swp_ne nCB nCa,swp_ne nCa nCb,swp_ne nCb nCc]
 have vd:swp q c (swp p q (swp B p (swp A D (swp A p (σ d)))))=D:=by rw[sd,swp_b,swp_a,swp_ne nDB nDa,swp_ne nDa nDb,swp_ne nDb nDc]
 have f8:=f7.split h7 g1.tail hC hd' nCd ⟨2,by
  show swp q c (swp p q (swp B p (swp A D (swp A p (σ (swp q c (swp p q (swp B p (swp A D (swp A p (σ C)))))))))))= d
  rw[vC,vc]⟩
 have h8:Pm N (fun x=>swp C d (swp q c (swp p q (swp B p (swp A D (swp A p (σ x))))))):=h7.swp hC hd';have mC:=c1 nCA nCa nCB nCb;have mD:=c1 nDA nDa nDB nDb;have mc:=c1 ncA nca ncB ncb;have md:=c1 ndA nda ndB ndb
 obtain⟨es2,g9,d9,f9,m9⟩:=f8.suppress h8 g1.tail d1.tail (u:=C) (v:=c) nCc
  (by show swp C d (swp q c (swp p q (swp B p (swp A D (swp A p (σ C))))))=c;rw[vC,swp_ne ncC ncd])
  (by show swp C d (swp q c (swp p q (swp B p (swp A D (swp A p (σ c))))))=C;rw[vc,swp_b])
  ((inPrs_iff g1.tail d1.tail C).2 (mC ▸ iC)) ((inPrs_iff g1.tail d1.tail c).2 (mc ▸ ic))
 have h9:Pm N (fun x=>swp C c (swp C d (swp q c (swp p q (swp B p (swp A D (swp A p (σ x)))))))):=h8.swp hC hc
 have inj1:∀{x y},mate es1 x=y→mate es1 y=x:=fun {x y} k=>by rw[←k,mate_mate d1.tail]
 have free:∀z,z≠C→z≠c→mate es1 z≠z→mate es2 z≠z:=fun z k1 k2 k3=>by
  rw[m9,if_neg fun k=>k.elim k1 k2]
  by_cases e1:mate es1 z=C
  · rw[if_pos e1]
    intro k
    have:=inj1 k
    rw[e1]at this;exact nCc this
  · rw[if_neg e1]
    by_cases e2:mate es1 z=c
    · rw[if_pos e2]
      intro k
      have:=inj1 k
      exact nCc (this.symm.trans e2)
    · rw[if_neg e2];exact k3
 obtain⟨es',g',d',f',m'⟩:=f9.suppress h9 g9 d9 (u:=D) (v:=d) nDd
  (by show swp C c (swp C d (swp q c (swp p q (swp B p (swp A D (swp A p (σ D)))))))=d;rw[vD,swp_a,swp_ne ndC ndc])
  (by show swp C c (swp C d (swp q c (swp p q (swp B p (swp A D (swp A p (σ d)))))))=D;rw[vd,swp_ne nDC nDd,swp_ne nDC nDc])
  ((inPrs_iff g9 d9 D).2 (free D nDC nDc (mD ▸ iD))) ((inPrs_iff g9 d9 d).2 (free d ndC ndc (md ▸ id)))
 have e:(fun x=>if x∈[A,B,C,D,p,q,c,d]then x else σ x)=fun x=>swp D d (swp C c (swp C d (swp q c (swp p q (swp B p (swp A D (swp A p (σ x)))))))):=funext fun x=>by
  by_cases c1:x=A
  · subst c1;rw[if_pos (by simp),sA,swp_ne nDA nDa,swp_b,swp_ne nAB nAa,swp_ne nAa nAb,swp_ne nAb nAc,swp_ne nAC nAd,swp_ne nAC nAc,swp_ne nAD nAd]
  by_cases c2:x=B
  · subst c2;rw[if_pos (by simp),sB,swp_a,swp_ne naA naD,swp_b,swp_ne nBa nBb,swp_ne nBb nBc,swp_ne nBC nBd,swp_ne nBC nBc,swp_ne nBD nBd]
  by_cases c3:x=C
  · subst c3;rw[if_pos (by simp),vC,swp_ne ncC ncd,swp_b,swp_ne nCD nCd]
  by_cases c4:x=D
  · subst c4;rw[if_pos (by simp),vD,swp_a,swp_ne ndC ndc,swp_b]
  by_cases c5:x=p
  · subst c5;rw[if_pos (by simp),sa,swp_ne nbA nba,swp_ne nbA nbD,swp_ne nbB nba,swp_b,swp_ne nab nac,swp_ne naC nad,swp_ne naC nac,swp_ne naD nad]
  by_cases c6:x=q
  · subst c6;rw[if_pos (by simp),sb,swp_ne ncA nca,swp_ne ncA ncD,swp_ne ncB nca,swp_ne nca ncb,swp_b,swp_ne nbC nbd,swp_ne nbC nbc,swp_ne nbD nbd]
  by_cases c7:x=c
  · subst c7;rw[if_pos (by simp),vc,swp_b,swp_a,swp_ne ncD ncd]
  by_cases c8:x=d
  · subst c8;rw[if_pos (by simp),vd,swp_ne nDC nDd,swp_ne nDC nDc,swp_a]
  have eA:σ x≠A:=fun k=>c2 (h.inj _ _ (k.trans sB.symm))
  have eB:σ x≠B:=fun k=>c3 (h.inj _ _ (k.trans sC.symm))
  have eC:σ x≠C:=fun k=>c4 (h.inj _ _ (k.trans sD.symm))
  have eD:σ x≠D:=fun k=>c1 (h.inj _ _ (k.trans sA.symm))
  have ea:σ x≠p:=fun k=>c8 (h.inj _ _ (k.trans sd.symm))
  have eb:σ x≠q:=fun k=>c5 (h.inj _ _ (k.trans sa.symm))
  have ec:σ x≠c:=fun k=>c6 (h.inj _ _ (k.trans sb.symm))
  have ed:σ x≠d:=fun k=>c7 (h.inj _ _ (k.trans sc.symm))
  rw[if_neg (by simp[c1,c2,c3,c4,c5,c6,c7,c8]),swp_ne eA ea,swp_ne eA eD,swp_ne eB ea,swp_ne ea eb,swp_ne eb ec,swp_ne eC ed,swp_ne eC ec,swp_ne eD ed]
 refine⟨es',mate es2,g',d',by rw[e];exact h9.swp hD hd',by rw[e];exact f',fun z hz=>?_,fun z=>?_⟩
 · simp only[List.mem_cons,List.not_mem_nil,or_false,not_or]at hz
   rw[m9,mC,mc,c1 hz.1 hz.2.2.1 hz.2.1 hz.2.2.2]
 · have out:∀z,mate es1 z=z→z≠C→z≠c→z≠D→z≠d→mate es' z=z:=fun z k1 k2 k3 k4 k5=>by
    have:mate es2 z=z:=by rw[m9,if_neg fun k=>k.elim k2 k3,k1,if_neg k2,if_neg k3]
    rw[m',if_neg fun k=>k.elim k4 k5,this,if_neg k4,if_neg k5]
   have oA:mate es1 A=A:=mate_out fun k=>by
    rw[inPrs_iff g1.tail d1.tail]at k;have e1:mate es0 A=A:=mate_out o1
    have w1:mate es1 A≠B:=fun k=>nAB (mate_inj (k.trans (mate_out o3).symm))
    have w2:mate es1 A≠q:=fun k=>nAb (mate_inj (k.trans (mate_out o4).symm))
    rw[m1,swp_ne w1 w2]at e1
    exact k e1
   have oa:mate es1 p=p:=mate_out fun k=>by
    rw[inPrs_iff g1.tail d1.tail]at k;have e1:mate es0 p=p:=mate_out o2
    have w1:mate es1 p≠B:=fun k=>naB (mate_inj (k.trans (mate_out o3).symm))
    have w2:mate es1 p≠q:=fun k=>nab (mate_inj (k.trans (mate_out o4).symm))
    rw[m1,swp_ne w1 w2]at e1
    exact k e1
   by_cases c1:z=A
   · subst c1;rw[if_pos (by simp)];exact out _ oA nAC nAc nAD nAd
   by_cases c2:z=B
   · subst c2;rw[if_pos (by simp)];exact out _ (mate_out o3) nBC nBc nBD nBd
   by_cases c5:z=p
   · subst c5;rw[if_pos (by simp)];exact out _ oa naC nac naD nad
   by_cases c6:z=q
   · subst c6;rw[if_pos (by simp)];exact out _ (mate_out o4) nbC nbc nbD nbd
   by_cases c4:z=D
   · rw[m',if_pos (.inl c4),if_pos (by simp[c4])]
   by_cases c8:z=d
   · rw[m',if_pos (.inr c8),if_pos (by simp[c8])]
   rw[m',if_neg fun k=>k.elim c4 c8]
   have hCc:∀y,y=C∨y=c→mate es2 y=y:=fun y hy=>by rw[m9,if_pos hy]
   by_cases c3:z=C
   · rw[if_pos (show z∈[A,B,C,D,p,q,c,d]by simp[c3]),hCc z (.inl c3),c3,if_neg nCD,if_neg nCd]
   by_cases c7:z=c
   · rw[if_pos (show z∈[A,B,C,D,p,q,c,d]by simp[c7]),hCc z (.inr c7),c7,if_neg ncD,if_neg ncd]
   rw[if_neg (show z∉[A,B,C,D,p,q,c,d]by simp[c1,c2,c3,c4,c5,c6,c7,c8])]
end
end Go.Proofs.YtlicglicfijelaaGreat.Kn

namespace Go.Proofs.YtlicglicfijelaaGreat.Kn

theorem com_id_equiv(es:Prs):Equivalence (com (fun x=>x) es):=com_equiv (N:=0) ⟨fun _ h=>h,fun _ _=>rfl,fun _ _ h=>h⟩ es
theorem com_id_pair{es:Prs}{e:Nat×Nat}(h:e∈es):com (fun x=>x) es e.1 e.2:=com_pair (N:=0) ⟨fun _ h=>h,fun _ _=>rfl,fun _ _ h=>h⟩ h
theorem com_id_nil{x y:Nat}:com (fun x=>x) [] x y↔x=y:=by
 constructor
 · rintro⟨n,hn⟩
   have:∀n,it (fun x:Nat=>x) n x=x:=fun n=>by
    induction n with
    |zero=>rfl
    |succ n ih=>exact ih
   rw[←hn,this]
 · rintro rfl;exact Orb.refl _ _
theorem com_id_mono{es es':Prs}(h:∀e∈es,com (fun x=>x) es' e.1 e.2){x y:Nat}(k:com (fun x=>x) es x y):com (fun x=>x) es' x y:=
 com_least (com_id_equiv es') (fun x=>(com_id_equiv es').refl x) h k

structure Tied(X:List Cr)(live:Pl→Prop)(E:Nat→Nat→Prop)(o:Pl→Pl):Prop where
 isP:∀p,live p→isPl X p
 lv:∀p,live p→live (o p)
 op:∀p,live p→cm X (o p)=!cm X p
 eq:∀p,live p→E (arcN X p) (arcN X (o p))
 un:∀p q,live p→live q→cm X p=cm X q→E (arcN X p) (arcN X q)→p=q
section
variable {X:List Cr} {live:Pl→Prop} {E:Nat→Nat→Prop} {o:Pl→Pl}
theorem Ok.tied(h:Ok X):Tied X (isPl X) (com (fun x=>x) []) (other X) where
 isP:=fun _ hp=>hp
 lv:=fun _ hp=>h.isPl_other hp
 op:=fun _ hp=>h.cm_other hp
 eq:=fun _ hp=>by rw[h.arc_other hp];exact com_id_nil.2 rfl
 un:=fun p q hp hq hc ha=>h.uniq p q hp hq hc (by rw[←h.arcN_eq hp,←h.arcN_eq hq,com_id_nil.1 ha])
theorem Tied.oo(h:Tied X live E o)(hE:Equivalence E){p:Pl}(hp:live p):o (o p)=p:=
 h.un _ _ (h.lv _ (h.lv _ hp)) hp (by rw[h.op _ (h.lv _ hp),h.op _ hp,Bool.not_not]) (hE.symm (hE.trans (h.eq _ hp) (h.eq _ (h.lv _ hp))))
theorem Tied.ne(h:Tied X live E o){p:Pl}(hp:live p):o p≠p:=fun e=>by
 have:=h.op p hp;rw[e]at this
 cases hh:cm X p<;>simp[hh]at this
theorem Tied.congr(h:Tied X live E o){live':Pl→Prop}{E':Nat→Nat→Prop}{o':Pl→Pl}(h1:∀p,live' p↔live p)(h2:∀x y,E' x y↔E x y)(h3:∀p,live p→o' p=o p):Tied X live' E' o' where
 isP:=fun p hp=>h.isP p ((h1 p).1 hp)
 lv:=fun p hp=>by rw[h3 p ((h1 p).1 hp)];exact(h1 _).2 (h.lv p ((h1 p).1 hp))
 op:=fun p hp=>by rw[h3 p ((h1 p).1 hp)];exact h.op p ((h1 p).1 hp)
 eq:=fun p hp=>by rw[h3 p ((h1 p).1 hp)];exact(h2 _ _).2 (h.eq p ((h1 p).1 hp))
 un:=fun p q hp hq hc ha=>h.un p q ((h1 p).1 hp) ((h1 q).1 hq) hc ((h2 _ _).1 ha)
theorem Tied.step(h:Tied X live E o)(hE:Equivalence E){u v:Pl}(hu:live u)(hv:live v)(hc:cm X v=!cm X u):
 Tied X (fun p=>live p∧p≠u∧p≠v) (mrg E (arcN X u) (arcN X v)) (fun p=>if o p=u then o v else if o p=v then o u else o p) where
 isP:=fun p hp=>h.isP p hp.1
 lv:=fun p ⟨hp,h1,h2⟩=>by
  show live (if _ then _ else _)∧_
  by_cases c:o p=u
  · simp only[if_pos c]
    refine⟨h.lv v hv,fun e=>h2 ?_,h.ne hv⟩
    rw[←h.oo hE hp,c,←e,h.oo hE hv]
  · simp only[if_neg c]
    by_cases d:o p=v
    · simp only[if_pos d]
      refine⟨h.lv u hu,h.ne hu,fun e=>h1 ?_⟩
      rw[←h.oo hE hp,d,←e,h.oo hE hu]
    · simp only[if_neg d]
      exact⟨h.lv p hp,c,d⟩
 op:=fun p ⟨hp,_,_⟩=>by
  have hop:=h.op p hp
  by_cases c:o p=u
  · simp only[if_pos c]
    rw[c]at hop
    rw[h.op v hv,hc,hop];simp
  · simp only[if_neg c]
    by_cases d:o p=v
    · simp only[if_pos d]
      rw[d,hc]at hop;rw[h.op u hu,hop]
    · simp only[if_neg d];exact hop
 eq:=fun p ⟨hp,_,_⟩=>by
  have he:=h.eq p hp
  by_cases c:o p=u
  · simp only[if_pos c]
    rw[c]at he
    exact .inr (.inl ⟨he,h.eq v hv⟩)
  · simp only[if_neg c]
    by_cases d:o p=v
    · simp only[if_pos d]
      rw[d]at he
      exact .inr (.inr ⟨he,h.eq u hu⟩)
    · simp only[if_neg d];exact .inl he
 un:=fun p q ⟨hp,p1,p2⟩ ⟨hq,q1,q2⟩ hcm ha=>by
  rcases ha with ha|⟨h1,h2⟩|⟨h1,h2⟩
  · exact h.un p q hp hq hcm ha
  · by_cases c:cm X p=cm X u
    · exact absurd (h.un p u hp hu c h1) p1
    · refine absurd (h.un v q hv hq ?_ h2).symm q2
      rw[hc,←hcm]
      cases hh:cm X p<;>cases hk:cm X u<;>simp[hh,hk]at c<;>rfl
  · by_cases c:cm X p=cm X v
    · exact absurd (h.un p v hp hv c h1) p2
    · refine absurd (h.un u q hu hq ?_ h2).symm q1
      rw[←hcm];rw[hc]at c
      cases hh:cm X p<;>cases hk:cm X u<;>simp[hh,hk]at c<;>rfl
theorem Tied.pass(h:Tied X live E o)(hE:Equivalence E){A C a c:Pl}(hA:live A)(hC:live C)(ha:live a)(hc:live c)(hAC:cm X C=!cm X A)(hac:cm X c=!cm X a)
 (hoA:o A=a) (n1:A≠c) (n2:C≠a) (n3:C≠c) (n4:A≠C) (n5:a≠c):
 Tied X (fun p=>live p∧p≠A∧p≠C∧p≠a∧p≠c) (mrg (mrg E (arcN X A) (arcN X C)) (arcN X a) (arcN X c)) (fun p=>if o p=C then o c else if o p=c then o C else o p):=by
 have n6:a≠A:=fun e=>h.ne hA (hoA.trans e)
 have hoa:o a=A:=by rw[←hoA,h.oo hE hA]
 have inj:∀{p q},live p→live q→o p=o q→p=q:=fun {p q} hp hq e=>by rw[←h.oo hE hp,e,h.oo hE hq]
 have s1:=h.step hE hA hC hAC;have s2:=s1.step (mrg_equiv hE _ _) (u:=a) (v:=c) ⟨ha,n6,fun e=>n2 e.symm⟩ ⟨hc,fun e=>n1 e.symm,fun e=>n3 e.symm⟩ hac
 refine s2.congr (fun p=>?_) (fun _ _=>Iff.rfl) fun p hp=>?_
 · constructor
   · rintro⟨h1,h2,h3,h4,h5⟩;exact⟨⟨h1,h2,h3⟩,h4,h5⟩
   · rintro⟨⟨h1,h2,h3⟩,h4,h5⟩;exact⟨h1,h2,h3,h4,h5⟩
 · obtain⟨⟨hp,p1,p2⟩,p3,p4⟩:=hp
   have oA:o p≠A:=fun e=>p3 (inj hp ha (e.trans hoa.symm))
   have oa:o p≠a:=fun e=>p1 (inj hp hA (e.trans hoA.symm))
   have ocA:o c≠A:=fun e=>n5 (inj hc ha (e.trans hoa.symm)).symm
   have vp:(if o p=A then o C else if o p=C then o A else o p)=if o p=C then a else o p:=by rw[if_neg oA,hoA]
   have vc:(if o c=A then o C else if o c=C then o A else o c)=if o c=C then a else o c:=by rw[if_neg ocA,hoA]
   have va:(if o a=A then o C else if o a=C then o A else o a)=o C:=by rw[if_pos hoa]
   simp only[vp,vc,va]
   by_cases c1:o p=C
   · rw[if_pos c1,if_pos c1,if_pos rfl]
     have:o c≠C:=fun e=>p4 (inj hp hc (c1.trans e.symm))
     rw[if_neg this]
   · rw[if_neg c1,if_neg c1,if_neg oa]
theorem Tied.kink(h:Tied X live E o)(hE:Equivalence E){A B C D:Pl}(hA:live A)(hB:live B)(hC:live C)(hD:live D)(hAC:cm X C=!cm X A)(hBD:cm X D=!cm X B)
 (hoA:o A=B) (n1:A≠C) (n2:A≠D) (n3:B≠C) (n4:B≠D) (n5:C≠D):
 Tied X (fun p=>live p∧p≠A∧p≠C∧p≠B∧p≠D) (mrg (mrg E (arcN X A) (arcN X C)) (arcN X B) (arcN X D)) (fun p=>if o p=C then o D else if o p=D then o C else o p):=h.pass hE hA hC hB hD hAC hBD hoA n2 (fun e=>n3 e.symm) n5 n1 n4
end
end Go.Proofs.YtlicglicfijelaaGreat.Kn

namespace Go.Proofs.YtlicglicfijelaaGreat.Kn

def ip(Y:List Cr)(k:Nat):Pl:=(k / 2,if k%2=0 then 0 else over (cr Y (k / 2)).p)
theorem over_lt(p:Bool):over p<4:=by cases p<;>decide
theorem over_pos(p:Bool):over p≠0:=by cases p<;>decide
theorem ip_pl{Y:List Cr}{k:Nat}(hk:k<nArcs Y):isPl Y (ip Y k):=by
 unfold nArcs at hk
 refine⟨by show k / 2<_;omega,?_⟩
 show (if k%2=0 then 0 else over (cr Y (k / 2)).p)<4
 split
 · omega
 · exact over_lt _
theorem ip_cm(Y:List Cr)(k:Nat):cm Y (ip Y k)=true:=by
 unfold cm ip Cr.comes
 simp only
 split<;>simp
theorem ip_inj{Y:List Cr}{j k:Nat}(h:ip Y j=ip Y k):j=k:=by
 unfold ip at h
 injection h with h1 h2
 rw[h1]at h2
 by_cases c:j%2=0<;>by_cases d:k%2=0
 · omega
 · rw[if_pos c,if_neg d]at h2;exact absurd h2.symm (over_pos _)
 · rw[if_neg c,if_pos d]at h2;exact absurd h2 (over_pos _)
 · omega
theorem ip_all{Y:List Cr}{p:Pl}(hp:isPl Y p)(hc:cm Y p=true):∃k,k<nArcs Y∧ip Y k=p:=by
 obtain⟨c,s⟩:=p;obtain⟨h1,h2⟩:=hp;simp only at h1 h2
 unfold cm Cr.comes at hc
 simp only[Bool.or_eq_true,decide_eq_true_eq]at hc
 unfold nArcs ip
 rcases hc with rfl|hs
 · exact⟨2*c,by omega,by rw[show 2*c / 2=c by omega,if_pos (by omega)]⟩
 · exact⟨2*c+1,by omega,by rw[show (2*c+1) / 2=c by omega,if_neg (by omega),hs]⟩

structure Cut(X Y:List Cr)(f g:Nat→Nat)(live:Pl→Prop)(E:Nat→Nat→Prop)(o:Pl→Pl):Prop where
 ok:Ok X
 mono:∀i j,i<j→j<Y.length→f i<f j
 lt:∀i,i<Y.length→f i<X.length
 alive:∀p,isPl X p→(live p↔∃i,i<Y.length∧f i=p.1)
 cr_:∀i,i<Y.length→cr Y i=(cr X (f i)).ren g
 tied:Tied X live E o
 eqv:Equivalence E
 same:∀p q,live p→live q→(g (arcN X p)=g (arcN X q)↔E (arcN X p) (arcN X q))
 rng:∀p,live p→1≤g (arcN X p)∧g (arcN X p)≤nArcs Y
section
variable {X Y:List Cr} {f g:Nat→Nat} {live:Pl→Prop} {E:Nat→Nat→Prop} {o:Pl→Pl}
theorem Cut.inj(h:Cut X Y f g live E o){i j:Nat}(hi:i<Y.length)(hj:j<Y.length)(e:f i=f j):i=j:=by
 rcases Nat.lt_trichotomy i j with c|c|c
 · have:=h.mono i j c hj;omega
 · exact c
 · have:=h.mono j i c hi;omega
theorem Cut.pl(h:Cut X Y f g live E o){p:Pl}(hp:isPl Y p):isPl X (onP f p):=⟨h.lt _ hp.1,hp.2⟩
theorem Cut.liv(h:Cut X Y f g live E o){p:Pl}(hp:isPl Y p):live (onP f p):=(h.alive _ (h.pl hp)).2 ⟨p.1,hp.1,rfl⟩
theorem Cut.back(h:Cut X Y f g live E o){q:Pl}(hq:live q):∃p,isPl Y p∧onP f p=q:=by
 obtain⟨i,hi,e⟩:=(h.alive q (h.tied.isP q hq)).1 hq
 exact⟨(i,q.2),⟨hi,(h.tied.isP q hq).2⟩,by unfold onP;rw[e]⟩
theorem Cut.at_(h:Cut X Y f g live E o){p:Pl}(hp:isPl Y p):at_ Y p=(g (arcN X (onP f p)):Nat):=by
 unfold Kn.at_ arcN Kn.at_ onP
 rw[h.cr_ _ hp.1,ren_arc]
theorem Cut.arcN(h:Cut X Y f g live E o){p:Pl}(hp:isPl Y p):arcN Y p=g (arcN X (onP f p)):=by unfold Kn.arcN;rw[h.at_ hp];rfl
theorem Cut.cm(h:Cut X Y f g live E o){p:Pl}(hp:isPl Y p):cm Y p=cm X (onP f p):=by
 unfold Kn.cm onP
 rw[h.cr_ _ hp.1];rfl
theorem Cut.onP_inj(h:Cut X Y f g live E o){p q:Pl}(hp:isPl Y p)(hq:isPl Y q)(e:onP f p=onP f q):p=q:=by
 obtain⟨a,b⟩:=p;obtain⟨c,d⟩:=q
 unfold onP at e
 injection e with e1 e2
 simp only at e1 e2;have e3:a=c:=h.inj hp.1 hq.1 e1;rw[e3,e2]
theorem Cut.uniq(h:Cut X Y f g live E o){p q:Pl}(hp:isPl Y p)(hq:isPl Y q)(hc:Kn.cm Y p=Kn.cm Y q)(ha:Kn.at_ Y p=Kn.at_ Y q):p=q:=by
 rw[h.at_ hp,h.at_ hq,Int.ofNat_inj]at ha
 exact h.onP_inj hp hq (h.tied.un _ _ (h.liv hp) (h.liv hq) (by rw[←h.cm hp,←h.cm hq,hc]) ((h.same _ _ (h.liv hp) (h.liv hq)).1 ha))
theorem Cut.okY(h:Cut X Y f g live E o):Ok Y:=by
 refine ok_mk (fun p hp=>?_) (fun io a ha=>?_) fun p q hp hq hc ha=>h.uniq hp hq hc ha
 · rw[h.at_ hp]
   have:=h.rng _ (h.liv hp);omega
 · have hin:∃p,isPl Y p∧Kn.cm Y p=true∧Kn.at_ Y p=a:=by
    have hr:∀k,k<nArcs Y→1≤Kn.arcN Y (ip Y k)∧Kn.arcN Y (ip Y k)≤nArcs Y:=fun k hk=>by
     rw[h.arcN (ip_pl hk)];exact h.rng _ (h.liv (ip_pl hk))
    have P:=inj_perm (l:=List.range (nArcs Y)) List.nodup_range (f:=fun k=>Kn.arcN Y (ip Y k)-1) (fun k hk=>by
     rw[List.mem_range]at hk ⊢
     have:=hr k hk;omega) fun j hj k hk e=>by
     rw[List.mem_range]at hj hk;have h1:=hr j hj;have h2:=hr k hk
     have e:Kn.arcN Y (ip Y j)=Kn.arcN Y (ip Y k):=by omega
     rw[h.arcN (ip_pl hj),h.arcN (ip_pl hk)]at e
     refine ip_inj (h.uniq (ip_pl hj) (ip_pl hk) (by rw[ip_cm,ip_cm]) ?_)
     rw[h.at_ (ip_pl hj),h.at_ (ip_pl hk),e]
    obtain⟨k,hk,e⟩:=List.mem_map.1 (P.mem_iff.2 (List.mem_range.2 (show a-1<nArcs Y by have:=ha.1;have:=ha.2;omega)));rw[List.mem_range]at hk
    refine⟨ip Y k,ip_pl hk,ip_cm Y k,?_⟩
    have h1:=hr k hk;have:=ha.1
    have e2:g (Kn.arcN X (onP f (ip Y k)))=a:=by rw[←h.arcN (ip_pl hk)];omega
    rw[h.at_ (ip_pl hk),e2]
   obtain⟨p,hp,hc,ha'⟩:=hin
   cases io with
   |true=>exact⟨p,hp,hc,ha'⟩
   |false=>
    obtain⟨q,hq,e⟩:=h.back (h.tied.lv _ (h.liv hp))
    refine⟨q,hq,?_,?_⟩
    · rw[h.cm hq,e,h.tied.op _ (h.liv hp),←h.cm hp,hc];rfl
    · rw[←ha',h.at_ hq,h.at_ hp,e,Int.ofNat_inj]
      exact((h.same _ _ (h.liv hp) (h.tied.lv _ (h.liv hp))).2 (h.tied.eq _ (h.liv hp))).symm
theorem Cut.other(h:Cut X Y f g live E o){p:Pl}(hp:isPl Y p):onP f (other Y p)=o (onP f p):=by
 have hY:=h.okY;obtain⟨q,hq,e⟩:=h.back (h.tied.lv _ (h.liv hp));rw[←e]
 congr 1
 refine h.uniq (hY.isPl_other hp) hq ?_ ?_
 · rw[hY.cm_other hp,h.cm hq,e,h.tied.op _ (h.liv hp),h.cm hp]
 · rw[←hY.arcN_eq (hY.isPl_other hp),hY.arc_other hp,h.at_ hq,h.arcN hp,e,Int.ofNat_inj]
   exact(h.same _ _ (h.liv hp) (h.tied.lv _ (h.liv hp))).2 (h.tied.eq _ (h.liv hp))
end

theorem cl_emb{N M:Nat}{k:Nat→Nat}(hm:∀i j,i<j→j<M→k i<k j)(hk:∀i,i<M→k i<N){R R':Nat→Nat→Prop}(h:∀i j,i<M→j<M→(R (k i) (k j)↔R' i j))(hs:∀y,(∀i,i<M→k i≠y)→∀x,R x y→x=y)(hR:Equivalence R):
 cl N R+M=cl M R'+N:=by
 have hinj:∀x∈List.range M,∀y∈List.range M,k x=k y→x=y:=fun x hx y hy e=>by
  rw[List.mem_range]at hx hy
  rcases Nat.lt_trichotomy x y with c|c|c
  · have:=hm x y c hy;omega
  · exact c
  · have:=hm y x c hx;omega
 have hn1:=map_nodup (l:=List.range M) List.nodup_range hinj;have hn2:((List.range N).filter fun y=>!((List.range M).map k).contains y).Nodup:=List.nodup_range.sublist List.filter_sublist
 have P:((List.range M).map k++(List.range N).filter fun y=>!((List.range M).map k).contains y).Perm (List.range N):=by
  refine(List.perm_ext_iff_of_nodup ?_ List.nodup_range).2 fun y=>?_
  · refine List.nodup_append.2 ⟨hn1,hn2,fun a ha b hb e=>?_⟩
    subst e;rw[List.mem_filter]at hb;have:=hb.2;simp only[Bool.not_eq_true',List.contains_eq_mem,decide_eq_false_iff_not]at this
    exact this ha
  · rw[List.mem_append,List.mem_filter,List.mem_range]
    constructor
    · rintro(k1|k1)
      · obtain⟨i,hi,rfl⟩:=List.mem_map.1 k1
        exact hk i (List.mem_range.1 hi)
      · exact k1.1
    · intro hy
      by_cases c:y∈(List.range M).map k
      · exact .inl c
      · exact .inr ⟨hy,by simpa using c⟩
 have hl:=P.length_eq;rw[List.length_append,List.length_map,List.length_range,List.length_range]at hl
 have hc:=P.countP_eq fun d=>tr (Least R d)
 rw[List.countP_append,List.countP_map]at hc
 have h1:(List.range M).countP ((fun d=>tr (Least R d))∘k)=cl M R':=by
  unfold cl
  refine countP_congr' fun z hz=>tr_congr ?_
  rw[List.mem_range]at hz
  constructor
  · intro l e he r
    exact l (k e) (hm e z he hz) ((h e z (by omega) hz).2 r)
  · intro l e he r
    by_cases c:∃i,i<M∧k i=e
    · obtain⟨i,hi,rfl⟩:=c
      have:i<z:=by
       rcases Nat.lt_trichotomy i z with c|c|c
       · exact c
       · subst c;omega
       · have:=hm z i c hi;omega
      exact l i this ((h i z hi hz).1 r)
    · have:=hs e (fun i hi he=>c ⟨i,hi,he⟩) (k z) (hR.symm r)
      omega
 have h2:((List.range N).filter fun y=>!((List.range M).map k).contains y).countP (fun d=>tr (Least R d))=((List.range N).filter fun y=>!((List.range M).map k).contains y).length:=by
  refine List.countP_eq_length.2 fun y hy=>tr_iff.2 fun e he r=>?_
  rw[List.mem_filter]at hy;have:=hy.2;simp only[Bool.not_eq_true',List.contains_eq_mem,decide_eq_false_iff_not]at this;have:=hs y (fun i hi c=>this (List.mem_map.2 ⟨i,List.mem_range.2 hi,c⟩)) e r
  omega
 rw[h1,h2]at hc
 show (List.range N).countP _+M=_
 omega
section
variable {N:Nat} {σ:Nat→Nat}
theorem Dis.len:∀{es:Prs},Good N es→Dis es→cl N (Orb (mate es))+es.length=N
 |[],_,_=>by
  show cl N (Orb fun x=>x)+0=N
  have:cl N (Orb fun x:Nat=>x)=cl N (fun x y=>x=y):=cl_congr fun x y=>(com_id_nil (x:=x) (y:=y))
  rw[this]
  unfold cl
  have hl:(List.range N).countP (fun d=>tr (Least (fun x y:Nat=>x=y) d))=(List.range N).length:=List.countP_eq_length.2 fun y _=>tr_iff.2 fun e he (r:e=y)=>by omega
  rw[hl,List.length_range];rfl
 |e :: es,hg,hd=>by
  have i:=Dis.len hg.tail hd.tail;obtain⟨h1,h2,h3⟩:=hg e (by simp);have hp:Pm N (phi (fun x=>x) es):=phi_pm ⟨fun _ h=>h,fun _ _=>rfl,fun _ _ h=>h⟩ hg.tail
  have hno:¬Orb (mate es) e.1 e.2:=by
   rintro⟨n,hn⟩
   have:∀n,it (mate es) n e.1=e.1:=fun n=>by
    induction n with
    |zero=>rfl
    |succ n ih=>rw[it,ih,mate_out hd.out.1]
   rw[this]at hn
   exact h3 hn
  have j:=cl_join (f:=mate es) hp h1 h2 hno
  show cl N (Orb fun x=>swp e.1 e.2 (mate es x))+(es.length+1)=N
  omega
theorem Flat.same(h:Pm N σ){es es':Prs}(hg:Good N es)(hd:Dis es)(hg':Good N es')(hd':Dis es')(hm:∀x,mate es x=mate es' x)(hf:Flat N σ es):Flat N σ es':=by
 have e:mate es=mate es':=funext hm;have h1:=Dis.len hg hd;have h2:=Dis.len hg' hd';rw[e]at h1
 refine hf.congr h hm (by omega) (fun d he=>?_) fun d he=>?_
 · rw[←(mate_pair hd he).1,hm];exact com_mate h es' d.1
 · rw[←(mate_pair hd' he).1,←hm];exact com_mate h es d.1
end
end Go.Proofs.YtlicglicfijelaaGreat.Kn

namespace Go.Proofs.YtlicglicfijelaaGreat.Kn

def kP(f:Nat→Nat)(z:Nat):Nat:=f (z / 4)*4+z%4
theorem kP_pk{f:Nat→Nat}{p:Pl}(hp:p.2<4):kP f (pk p)=pk (onP f p):=by
 unfold kP pk onP
 simp only
 rw[show (p.1*4+p.2) / 4=p.1 by omega,show (p.1*4+p.2)%4=p.2 by omega]
theorem mate_map{M:Nat}{k:Nat→Nat}(hk:∀i j,i<M→j<M→k i=k j→i=j):∀{es:Prs},Good M es→∀{z:Nat},z<M→mate (es.map fun e=>(k e.1,k e.2)) (k z)=k (mate es z)
 |[],_,_,_=>rfl
 |e :: es,hg,z,hz=>by
  have i:=mate_map hk hg.tail hz;have hw:=hg.tail.mate_lt hz;obtain⟨h1,h2,_⟩:=hg e (by simp)
  show swp (k e.1) (k e.2) (mate (es.map fun e=>(k e.1,k e.2)) (k z))=k (swp e.1 e.2 (mate es z))
  rw[i]
  by_cases c:mate es z=e.1
  · rw[c,swp_a,swp_a]
  · by_cases d:mate es z=e.2
    · rw[d,swp_b,swp_b]
    · rw[swp_ne c d,swp_ne (fun e=>c (hk _ _ hw h1 e)) fun e=>d (hk _ _ hw h2 e)]
theorem orb_emb{M:Nat}{k:Nat→Nat}(hk:∀i j,i<M→j<M→k i=k j→i=j){φ φ':Nat→Nat}(hl:∀z,z<M→φ' z<M)(he:∀z,z<M→φ (k z)=k (φ' z)){i j:Nat}(hi:i<M)(hj:j<M):Orb φ (k i) (k j)↔Orb φ' i j:=by
 have key:∀n,it φ' n i<M∧it φ n (k i)=k (it φ' n i):=fun n=>by
  induction n with
  |zero=>exact⟨hi,rfl⟩
  |succ n ih=>exact⟨hl _ ih.1,by rw[it,ih.2,he _ ih.1];rfl⟩
 constructor
 · rintro⟨n,hn⟩
   rw[(key n).2]at hn
   exact⟨n,hk _ _ (key n).1 hj hn⟩
 · rintro⟨n,hn⟩
   exact⟨n,by rw[(key n).2,hn]⟩
theorem orb_fix{N:Nat}{φ:Nat→Nat}(h:Pm N φ){x y:Nat}(hy:φ y=y)(k:Orb φ x y):x=y:=by
 obtain⟨n,hn⟩:=h.symm k
 have:∀n,it φ n y=y:=fun n=>by
  induction n with
  |zero=>rfl
  |succ n ih=>rw[it,ih,hy]
 rw[this]at hn
 exact hn.symm
section
variable {X Y:List Cr} {f g:Nat→Nat} {live:Pl→Prop} {E:Nat→Nat→Prop} {o:Pl→Pl}
theorem Cut.planar(h:Cut X Y f g live E o){σ:Nat→Nat}{es:Prs}(hσ:Pm (4*X.length) σ)(hg:Good (4*X.length) es)(hd:Dis es)(hf:Flat (4*X.length) σ es)
 (m1:∀p,live p→mate es (pk p)=pk (o p)) (m2:∀z,(∀p,live p→pk p≠z)→mate es z=z)
 (s1:∀p,live p→σ (pk p)=sig X.length (pk p)) (s2:∀z,(∀p,live p→pk p≠z)→σ z=z):planarB Y=true:=by
 have hY:=h.okY
 have km:∀i j,i<j→j<4*Y.length→kP f i<kP f j:=fun i j hij hj=>by
  unfold kP
  by_cases c:i / 4=j / 4
  · rw[c];omega
  · have:=h.mono (i / 4) (j / 4) (by omega) (by omega)
    omega
 have ki:∀i j,i<4*Y.length→j<4*Y.length→kP f i=kP f j→i=j:=fun i j hi hj e=>by
  rcases Nat.lt_trichotomy i j with c|c|c
  · have:=km i j c hj;omega
  · exact c
  · have:=km j i c hi;omega
 have kl:∀i,i<4*Y.length→kP f i<4*X.length:=fun i hi=>by
  have:=h.lt (i / 4) (by omega)
  unfold kP;omega
 have kpl:∀i,i<4*Y.length→kP f i=pk (onP f (Kn.pl i)):=fun i _=>rfl
 have klive:∀i,i<4*Y.length→live (onP f (Kn.pl i)):=fun i hi=>h.liv (isPl_pl hi)
 have kout:∀y,(∀i,i<4*Y.length→kP f i≠y)→∀p,live p→pk p≠y:=fun y hy p hp e=>by
  obtain⟨q,hq,rfl⟩:=h.back hp
  refine hy (pk q) (pk_lt hq) ?_
  rw[kP_pk hq.2,e]
 have G:=hY.ens_good;have D:=hY.ens_dis
 have g2:Good (4*X.length) ((ens Y).map fun e=>(kP f e.1,kP f e.2)):=fun e he=>by
  obtain⟨d,hd,rfl⟩:=List.mem_map.1 he;obtain⟨h1,h2,h3⟩:=G d hd
  exact⟨kl _ h1,kl _ h2,fun c=>h3 (ki _ _ h1 h2 c)⟩
 have d2:Dis ((ens Y).map fun e=>(kP f e.1,kP f e.2)):=by
  unfold Dis at D ⊢
  rw[List.pairwise_map]
  refine List.Pairwise.imp_of_mem (fun {a b} ha hb k=>?_) D
  obtain⟨a1,a2,_⟩:=G a ha;obtain⟨b1,b2,_⟩:=G b hb
  exact⟨fun c=>k.1 (ki _ _ a1 b1 c),fun c=>k.2.1 (ki _ _ a1 b2 c),fun c=>k.2.2.1 (ki _ _ a2 b1 c),fun c=>k.2.2.2 (ki _ _ a2 b2 c)⟩
 have mo:∀y,(∀i,i<4*Y.length→kP f i≠y)→mate ((ens Y).map fun e=>(kP f e.1,kP f e.2)) y=y:=fun y hy=>mate_out (by
  rintro⟨e,he,k⟩;obtain⟨d,hd,rfl⟩:=List.mem_map.1 he;obtain⟨h1,h2,h3⟩:=G d hd
  rcases k with k|k
  · exact hy _ h1 k.symm
  · exact hy _ h2 k.symm)
 have mi:∀z,z<4*Y.length→mate ((ens Y).map fun e=>(kP f e.1,kP f e.2)) (kP f z)=kP f (mate (ens Y) z):=fun z hz=>mate_map ki G hz
 have mm:∀y,mate es y=mate ((ens Y).map fun e=>(kP f e.1,kP f e.2)) y:=fun y=>by
  by_cases c:∃i,i<4*Y.length∧kP f i=y
  · obtain⟨i,hi,rfl⟩:=c
    rw[mi i hi];have hp:=isPl_pl (X:=Y) hi
    have e1:mate (ens Y) i=pk (Kn.other Y (Kn.pl i)):=by
     have:=hY.mate_pk hp
     rwa [show pk (Kn.pl i)=i by unfold pk Kn.pl;simp only;omega]at this
    rw[e1,kP_pk (hY.isPl_other hp).2,h.other hp,kpl i hi,m1 _ (klive i hi)]
  · have c':∀i,i<4*Y.length→kP f i≠y:=fun i hi e=>c ⟨i,hi,e⟩
    rw[mo y c',m2 y (kout y c')]
 have F:=hf.same hσ hg hd g2 d2 mm
 have se:∀z,z<4*Y.length→σ (kP f z)=kP f (sig Y.length z):=fun z hz=>by
  rw[kpl z hz,s1 _ (klive z hz),←kpl z hz];have h1:=kl z hz
  unfold sig
  rw[if_pos h1,if_pos hz]
  unfold kP
  rw[show (f (z / 4)*4+z%4) / 4=f (z / 4)by omega,show (f (z / 4)*4+z%4)%4=z%4 by omega,show (z / 4*4+(z%4+3)%4) / 4=z / 4 by omega,show (z / 4*4+(z%4+3)%4)%4=(z%4+3)%4 by omega]
 have so:∀y,(∀i,i<4*Y.length→kP f i≠y)→σ y=y:=fun y hy=>s2 y (kout y hy)
 have sl:=(sig_pm Y.length).lt;have hφ:=phi_pm hσ g2
 have cF:=cl_emb (k:=kP f) km kl (R:=Orb (phi σ ((ens Y).map fun e=>(kP f e.1,kP f e.2)))) (R':=Orb (fac Y)) (fun i j hi hj=>
  orb_emb ki (φ':=fac Y) hY.fac_pm.lt (fun z hz=>by
   show mate _ (σ (kP f z))=kP f (mate (ens Y) (sig Y.length z))
   rw[se z hz,mi _ (sl z hz)]) hi hj)
  (fun y hy x r=>orb_fix hφ (by
   show mate _ (σ y)=y
   rw[so y hy,mo y hy]) r) hφ.equiv
 have cV:=cl_emb (k:=kP f) km kl (R:=Orb σ) (R':=Orb (sig Y.length)) (fun i j hi hj=>orb_emb ki sl se hi hj)
  (fun y hy x r=>orb_fix hσ (so y hy) r) hσ.equiv
 have hE:=com_equiv hσ ((ens Y).map fun e=>(kP f e.1,kP f e.2));have hP:=com_equiv (sig_pm Y.length) (ens Y)
 have hS:Equivalence (fun x y=>x=y∨∃i j,i<4*Y.length∧j<4*Y.length∧kP f i=x∧kP f j=y∧pie Y i j):=by
  refine⟨fun x=>.inl rfl,fun {x y} k=>?_,fun {x y z} k l=>?_⟩
  · rcases k with k|⟨i,j,h1,h2,h3,h4,h5⟩
    · exact .inl k.symm
    · exact .inr ⟨j,i,h2,h1,h4,h3,hP.symm h5⟩
  · rcases k with k|⟨i,j,h1,h2,h3,h4,h5⟩
    · rw[k];exact l
    · rcases l with l|⟨i',j',k1,k2,k3,k4,k5⟩
      · rw[←l];exact .inr ⟨i,j,h1,h2,h3,h4,h5⟩
      · have:=ki j i' h2 k1 (h4.trans k3.symm)
        subst this
        exact .inr ⟨i,j',h1,k2,h3,k4,hP.trans h5 k5⟩
 have down:∀{x y},com σ ((ens Y).map fun e=>(kP f e.1,kP f e.2)) x y→x=y∨∃i j,i<4*Y.length∧j<4*Y.length∧kP f i=x∧kP f j=y∧pie Y i j:=fun {x y} k=>by
  refine com_least hS (fun z=>?_) (fun e he=>?_) k
  · by_cases c:∃i,i<4*Y.length∧kP f i=z
    · obtain⟨i,hi,rfl⟩:=c
      exact .inr ⟨i,sig Y.length i,hi,sl i hi,rfl,(se i hi).symm,com_sub (Orb.one _ i)⟩
    · exact .inl (so z fun i hi e=>c ⟨i,hi,e⟩).symm
  · obtain⟨d,hd,rfl⟩:=List.mem_map.1 he
    obtain⟨h1,h2,_⟩:=G d hd
    exact .inr ⟨d.1,d.2,h1,h2,rfl,rfl,com_pair (sig_pm Y.length) hd⟩
 have up:∀{i j},pie Y i j→i<4*Y.length→j<4*Y.length→com σ ((ens Y).map fun e=>(kP f e.1,kP f e.2)) (kP f i) (kP f j):=fun {i j} k hi hj=>by
  have hT:Equivalence (fun i j=>com σ ((ens Y).map fun e=>(kP f e.1,kP f e.2)) (kP f i) (kP f j)):=⟨fun x=>hE.refl _,fun k=>hE.symm k,fun k l=>hE.trans k l⟩
  refine com_least hT (fun z=>?_) (fun e he=>?_) k
  · by_cases c:z<4*Y.length
    · show com σ _ (kP f z) (kP f (sig Y.length z))
      rw[←se z c];exact com_sub (Orb.one _ _)
    · rw[(sig_pm Y.length).out z (by omega)];exact hE.refl _
  · exact com_pair hσ (e:=(kP f e.1,kP f e.2)) (List.mem_map.2 ⟨e,he,rfl⟩)
 have cC:=cl_emb (k:=kP f) km kl (R:=com σ ((ens Y).map fun e=>(kP f e.1,kP f e.2))) (R':=pie Y) (fun i j hi hj=>by
  constructor
  · intro k
    rcases down k with k|⟨i',j',h1,h2,h3,h4,h5⟩
    · rw[ki i j hi hj k];exact hP.refl _
    · rw[←ki i' i h1 hi h3,←ki j' j h2 hj h4];exact h5
  · exact fun k=>up k hi hj)
  (fun y hy x r=>by
   rcases down r with k|⟨i,j,_,h2,_,h4,_⟩
   · exact k
   · exact absurd h4 (hy j h2)) hE
 unfold Flat at F
 rw[List.length_map]at F
 have hl:(ens Y).length=nArcs Y:=by unfold ens;rw[List.length_map,arcs_length]
 have a1:=hY.cl_faces;have a2:=hY.cl_pieces;have a3:=cl_sig Y.length;rw[hY.planar_iff]
 unfold nArcs at hl
 omega
end
end Go.Proofs.YtlicglicfijelaaGreat.Kn

namespace Go.Proofs.YtlicglicfijelaaGreat.Kn

structure Rep(f:Nat→Nat)(E:Nat→Nat→Prop):Prop where
 iff:∀a b,f a=f b↔E a b
 le:∀a,f a≤a
 idem:∀a,f (f a)=f a
 pos:∀a,1≤a→1≤f a
def joinF(f:Nat→Nat)(u v a:Nat):Nat:=if f a=max (f u) (f v)then min (f u) (f v)else f a
theorem Rep.id:Rep (fun a=>a) (com (fun x=>x) []):=⟨fun _ _=>com_id_nil.symm,fun _=>Nat.le_refl _,fun _=>rfl,fun _ h=>h⟩
theorem Rep.join{f:Nat→Nat}{E:Nat→Nat→Prop}(h:Rep f E){u v:Nat}(hu:1≤u)(hv:1≤v):Rep (joinF f u v) (mrg E u v):=by
 have p1:=h.pos u hu;have p2:=h.pos v hv
 refine⟨fun a b=>?_,fun a=>?_,fun a=>?_,fun a ha=>?_⟩
 · have key:joinF f u v a=joinF f u v b↔f a=f b∨(f a=f u∧f v=f b)∨(f a=f v∧f u=f b):=by
    unfold joinF
    by_cases c:f a=max (f u) (f v)<;>by_cases d:f b=max (f u) (f v)
    · rw[if_pos c,if_pos d];omega
    · rw[if_pos c,if_neg d];omega
    · rw[if_neg c,if_pos d];omega
    · rw[if_neg c,if_neg d];omega
   rw[key,h.iff,h.iff,h.iff,h.iff,h.iff];rfl
 · unfold joinF
   have:=h.le a
   split<;>omega
 · have i1:=h.idem a
   have i2:=h.idem u;have i3:=h.idem v
   have m:min (f u) (f v)=f u∨min (f u) (f v)=f v:=by omega
   unfold joinF
   by_cases c:f a=max (f u) (f v)
   · rw[if_pos c]
     rcases m with m|m
     · rw[m,i2];split<;>omega
     · rw[m,i3];split<;>omega
   · rw[if_neg c,i1,if_neg c]
 · unfold joinF
   have:=h.pos a ha
   split<;>omega

def kept(n:Nat)(gone:Nat→Bool):List Nat:=(List.range n).filter fun c=>!gone c
def leftB(X:List Cr)(f:Nat→Nat)(gone:Nat→Bool)(r:Nat):Bool:=(kept X.length gone).any fun c=>(List.range 4).any fun s=>decide (f (arcN X (c,s))=r)
def rootB(X:List Cr)(f:Nat→Nat)(gone:Nat→Bool)(r:Nat):Bool:=decide (f r=r)&&leftB X f gone r
def numF(X:List Cr)(f:Nat→Nat)(gone:Nat→Bool)(v:Nat):Nat:=(List.range v).countP fun a=>rootB X f gone (a+1)
def withL(X:List Cr)(f:Nat→Nat)(gone:Nat→Bool):List Cr:=(kept X.length gone).map fun c=>(cr X c).ren fun a=>numF X f gone (f a)
def ringN(X:List Cr)(f:Nat→Nat)(gone:Nat→Bool):Nat:=(List.range (nArcs X)).countP fun a=>decide (f (a+1)=a+1) && !leftB X f gone (a+1)
theorem mem_kept{n c:Nat}{gone:Nat→Bool}:c∈kept n gone↔c<n∧gone c=false:=by unfold kept;simp
theorem leftB_iff{X:List Cr}{f:Nat→Nat}{gone:Nat→Bool}{r:Nat}:leftB X f gone r=true↔∃p,isPl X p∧gone p.1=false∧f (arcN X p)=r:=by
 unfold leftB
 simp only[List.any_eq_true,mem_kept,List.mem_range,decide_eq_true_eq]
 constructor
 · rintro⟨c,⟨h1,h2⟩,s,h3,h4⟩;exact⟨(c,s),⟨h1,h3⟩,h2,h4⟩
 · rintro⟨p,⟨h1,h3⟩,h2,h4⟩;exact⟨p.1,⟨h1,h2⟩,p.2,h3,h4⟩
section
variable {X:List Cr} {f:Nat→Nat} {gone:Nat→Bool}
theorem numF_succ(v:Nat):numF X f gone (v+1)=numF X f gone v+if rootB X f gone (v+1)then 1 else 0:=by
 unfold numF
 rw[List.range_succ,List.countP_append,List.countP_cons,List.countP_nil];simp
theorem numF_mono{v:Nat}:∀{w:Nat},v≤w→numF X f gone v≤numF X f gone w
 |0,h=>by rw[show v=0 by omega];exact Nat.le_refl _
 |w+1,h=>by
  by_cases c:v=w+1
  · rw[c];exact Nat.le_refl _
  · have:=numF_mono (v:=v) (w:=w) (by omega)
    rw[numF_succ];omega
theorem numF_lt{v w:Nat}(h:v<w)(hw:rootB X f gone w=true):numF X f gone v<numF X f gone w:=by
 obtain⟨u,rfl⟩:∃u,w=u+1:=⟨w-1,by omega⟩
 have:=numF_mono (X:=X) (f:=f) (gone:=gone) (v:=v) (w:=u) (by omega)
 rw[numF_succ,if_pos hw];omega
theorem withL_len:(withL X f gone).length=(kept X.length gone).length:=by unfold withL;rw[List.length_map]
theorem kept_lt{i:Nat}(h:i<(kept X.length gone).length):(kept X.length gone).getD i 0<X.length∧gone ((kept X.length gone).getD i 0)=false:=by
 rw[List.getD_eq_getElem?_getD,List.getElem?_eq_getElem h]
 exact mem_kept.1 (List.getElem_mem h)
theorem withL_cr{i:Nat}(h:i<(kept X.length gone).length):cr (withL X f gone) i=(cr X ((kept X.length gone).getD i 0)).ren fun a=>numF X f gone (f a):=by
 have e1:(kept X.length gone).getD i 0=(kept X.length gone)[i]:=by rw[List.getD_eq_getElem?_getD,List.getElem?_eq_getElem h];rfl
 rw[e1]
 show (withL X f gone).getD i default=_
 unfold withL
 rw[List.getD_eq_getElem?_getD,List.getElem?_map,List.getElem?_eq_getElem h];rfl
theorem kept_mono{n:Nat}{i j:Nat}(hij:i<j)(hj:j<(kept n gone).length):(kept n gone).getD i 0<(kept n gone).getD j 0:=by
 have h:(kept n gone).Pairwise (· < ·):=List.Pairwise.filter _ List.pairwise_lt_range;rw[List.getD_eq_getElem?_getD,List.getElem?_eq_getElem (by omega),List.getD_eq_getElem?_getD,List.getElem?_eq_getElem hj]
 exact List.pairwise_iff_getElem.1 h i j (by omega) hj hij
theorem kept_at{n c:Nat}(h:c<n)(hg:gone c=false):∃i,i<(kept n gone).length∧(kept n gone).getD i 0=c:=by
 obtain⟨i,hi,e⟩:=List.mem_iff_getElem.1 (mem_kept.2 ⟨h,hg⟩)
 exact⟨i,hi,by rw[List.getD_eq_getElem?_getD,List.getElem?_eq_getElem hi];exact e⟩
theorem with_cut(hX:Ok X){E:Nat→Nat→Prop}(hR:Rep f E)(hE:Equivalence E){live:Pl→Prop}{o:Pl→Pl}(hT:Tied X live E o)(hl:∀p,live p↔isPl X p∧gone p.1=false):
 Cut X (withL X f gone) (fun i=>(kept X.length gone).getD i 0) (fun a=>numF X f gone (f a)) live E o:=by
 have root:∀p,live p→rootB X f gone (f (arcN X p))=true:=fun p hp=>by
  unfold rootB
  rw[Bool.and_eq_true]
  exact⟨decide_eq_true (hR.idem _),leftB_iff.2 ⟨p,((hl p).1 hp).1,((hl p).1 hp).2,rfl⟩⟩
 have arcOf:∀p,live p→1≤f (arcN X p)∧f (arcN X p)≤nArcs X:=fun p hp=>by
  have:=hX.isArc (hT.isP p hp);have h1:=hR.pos _ this.1;have h2:=hR.le (arcN X p);have:=this.2
  omega
 refine⟨hX,fun i j hij hj=>kept_mono hij (withL_len ▸ hj),fun i hi=>(kept_lt (withL_len ▸ hi)).1,fun p hp=>?_,fun i hi=>withL_cr (withL_len ▸ hi),hT,hE,fun p q hp hq=>?_,fun p hp=>?_⟩
 · rw[hl p]
   constructor
   · rintro⟨h1,h2⟩
     obtain⟨i,hi,e⟩:=kept_at h1.1 h2
     exact⟨i,withL_len ▸ hi,e⟩
   · rintro⟨i,hi,e⟩
     exact⟨hp,by rw[←e];exact(kept_lt (withL_len ▸ hi)).2⟩
 · rw[←hR.iff]
   constructor
   · intro e
     rcases Nat.lt_trichotomy (f (arcN X p)) (f (arcN X q))with c|c|c
     · have:=numF_lt c (root q hq);omega
     · exact c
     · have:=numF_lt c (root p hp);omega
   · intro e;show numF X f gone _=numF X f gone _;rw[e]
 · have a1:=arcOf p hp
   have h0:=numF_lt (v:=0) (by omega) (root p hp)
   refine⟨by show 1≤numF X f gone _;omega,?_⟩
   have h1:=numF_mono (X:=X) (f:=f) (gone:=gone) a1.2
   refine Nat.le_trans h1 ?_
   unfold numF
   rw[List.countP_eq_length_filter]
   have hn:(((List.range (nArcs X)).filter fun a=>rootB X f gone (a+1)).map (· + 1)).Nodup:=
    map_nodup (List.nodup_range.sublist List.filter_sublist) fun x _ y _ e=>by
     have e:x+1=y+1:=e
     omega
   have:=nodup_le (m:=(List.range (nArcs (withL X f gone))).map fun k=>f (arcN X (onP (fun i=>(kept X.length gone).getD i 0) (ip (withL X f gone) k)))) hn fun r hr=>by
    obtain⟨a,ha,rfl⟩:=List.mem_map.1 hr;rw[List.mem_filter]at ha;have hb:=ha.2
    unfold rootB at hb
    rw[Bool.and_eq_true,leftB_iff]at hb;obtain⟨q,q1,q2,q3⟩:=hb.2;have hq:live q:=(hl q).2 ⟨q1,q2⟩
    have main:∀q,live q→cm X q=true→f (arcN X q)=a+1→a+1∈(List.range (nArcs (withL X f gone))).map fun k=>f (arcN X (onP (fun i=>(kept X.length gone).getD i 0) (ip (withL X f gone) k))):=fun q hq hc e=>by
     obtain⟨i,hi,ei⟩:=kept_at ((hl q).1 hq).1.1 ((hl q).1 hq).2;have hp:isPl (withL X f gone) (i,q.2):=⟨by rw[withL_len];exact hi,((hl q).1 hq).1.2⟩
     have e1:cm (withL X f gone) (i,q.2)=true:=by
      rw[←hc];unfold cm;rw[withL_cr hi];simp only;rw[ei];rfl
     obtain⟨k,hk,ek⟩:=ip_all hp e1
     refine List.mem_map.2 ⟨k,List.mem_range.2 hk,?_⟩
     show f (arcN X (onP (fun i=>(kept X.length gone).getD i 0) (ip (withL X f gone) k)))=a+1
     rw[ek]
     show f (arcN X ((kept X.length gone).getD i 0,q.2))=a+1
     rw[ei];exact e
    by_cases c:cm X q=true
    · exact main q hq c q3
    · refine main (o q) (hT.lv q hq) ?_ ?_
      · rw[hT.op q hq];simpa using c
      · rw[(hR.iff _ _).2 (hE.symm (hT.eq q hq))];exact q3
   rw[List.length_map,List.length_map,List.length_range]at this
   exact this
end
end Go.Proofs.YtlicglicfijelaaGreat.Kn

namespace Go.Proofs.YtlicglicfijelaaGreat.Kn

section
variable {M:Nat} {f:Nat→Nat}
theorem ring_zero(f:Nat→Nat){k:Nat}{seen:List Nat}{x:Nat}(h:0<(ring f k seen x).length):(ring f k seen x)[0]=x:=by
 cases k with
 |zero=>simp[ring]at h
 |succ k=>
  by_cases c:x∈seen
  · simp[ring_seen f c]at h
  · simp[ring_new f c]
theorem ring_succ(f:Nat→Nat):∀(k:Nat) {seen:List Nat} {x:Nat} {i:Nat} (h:i+1<(ring f k seen x).length),(ring f k seen x)[i+1]=f ((ring f k seen x)[i]'(by omega))
 |0,seen,x,i,h=>by simp[ring]at h
 |k+1,seen,x,i,h=>by
  by_cases c:x∈seen
  · simp[ring_seen f c]at h
  · have e:=ring_new f c (k:=k)
    have h':i<(ring f k (seen++[x]) (f x)).length:=by
     have h2:=h
     rw[e]at h2;simpa using h2
    have e1:(ring f (k+1) seen x)[i+1]=(ring f k (seen++[x]) (f x))[i]:=by simp[e]
    rw[e1]
    cases i with
    |zero=>
     rw[ring_zero f h']
     simp[e]
    |succ i=>
     rw[ring_succ f k h']
     simp[e]
def Cyc(f:Nat→Nat)(r:List Nat):Prop:=∀i (h:i<r.length),r[(i+1)%r.length]'(Nat.mod_lt _ (by omega))=f r[i]
theorem ring_cyc(h:Pm M f){k:Nat}{seen:List Nat}{x:Nat}(hn:seen.Nodup)(hs:∀y∈seen,y<M)(hc:∀y,f y∈seen→y∈seen)(hx:x<M)(hx':x∉seen)(hk:M<k):Cyc f (ring f k seen x):=by
 intro i hi
 by_cases c:i+1<(ring f k seen x).length
 · have e:(i+1)%(ring f k seen x).length=i+1:=Nat.mod_eq_of_lt c
   simp only[e]
   exact ring_succ f k c
 · have e0:i+1=(ring f k seen x).length:=by omega
   have e:(i+1)%(ring f k seen x).length=0:=by rw[e0,Nat.mod_self]
   simp only[e]
   have hm:=fun y=>ring_is h (y:=y) hn hs hc hx hx' hk
   have hin:f ((ring f k seen x)[i])∈ring f k seen x:=(hm _).2 (((hm _).1 (List.getElem_mem hi)).trans (Orb.one f _));obtain⟨j,hj,e1⟩:=List.getElem_of_mem hin
   cases j with
   |zero=>exact e1
   |succ j=>
    rw[ring_succ f k hj]at e1;have e2:=h.inj _ _ e1;have hnd:(ring f k seen x).Nodup:=(List.nodup_append.1 (ring_nodup f k (seen:=seen) x hn)).2.1;have:=(List.getElem_inj hnd).1 e2
    omega
theorem rings_cyc(h:Pm M f){N:Nat}(hN:M<N):∀{ds seen:List Nat},seen.Nodup→(∀y∈seen,y<M)→(∀y,f y∈seen→y∈seen)→(∀d∈ds,d<M)→∀r∈rings f N seen ds,Cyc f r
 |[],seen,_,_,_,_,r,hr=>by rw[rings_nil]at hr;cases hr
 |d :: ds,seen,hn,hs,hc,hd,r,hr=>by
  have hd':∀y∈ds,y<M:=fun y hy=>hd y (by simp[hy])
  by_cases c:d∈seen
  · rw[rings_seen f c]at hr
    exact rings_cyc h hN hn hs hc hd' r hr
  · have hdm:=hd d (by simp)
    have hm:=fun y=>ring_is h (y:=y) hn hs hc hdm c hN
    rw[rings_new f c]at hr
    rcases List.mem_cons.1 hr with rfl|hr
    · exact ring_cyc h hn hs hc hdm c hN
    · refine rings_cyc h hN (ring_nodup f N d hn) (fun y hy=>?_) (fun y hy=>?_) hd' r hr
      · rcases List.mem_append.1 hy with hy|hy
        · exact hs y hy
        · exact Orb.lt h hdm ((hm y).1 hy)
      · rcases List.mem_append.1 hy with hy|hy
        · exact List.mem_append.2 (.inl (hc y hy))
        · exact List.mem_append.2 (.inr ((hm y).2 (((hm _).1 hy).trans (h.back y))))
end

instance (X:List Cr) (a:Nat):Decidable (isArc X a):=inferInstanceAs (Decidable (_∧_))
def nxt(X:List Cr)(a:Nat):Nat:=if isArc X a then nextA X a else a
theorem comes_opp(x:Cr){s:Nat}(hs:s<4):x.comes ((s+2)%4)=!x.comes s:=by
 unfold Cr.comes over
 cases x.p<;>match s,hs with
  |0,_=>rfl
  |1,_=>rfl
  |2,_=>rfl
  |3,_=>rfl
section
variable {X:List Cr}
theorem cm_opp{p:Pl}(hp:isPl X p):cm X (p.1,(p.2+2)%4)=!cm X p:=comes_opp _ hp.2
theorem Ok.next_inj(h:Ok X){a b:Nat}(ha:Kn.isArc X a)(hb:Kn.isArc X b)(e:nextA X a=nextA X b):a=b:=by
 have p1:=h.isPl_end (io:=true) ha;have p2:=h.isPl_end (io:=true) hb;have q1:=isPl_turn p1 2;have q2:=isPl_turn p2 2
 have e1:at_ X ((endP X true a).1,((endP X true a).2+2)%4)=at_ X ((endP X true b).1,((endP X true b).2+2)%4):=by
  rw[←h.arcN_eq q1,←h.arcN_eq q2]
  exact congrArg _ e
 have e2:=h.uniq _ _ q1 q2 (by rw[cm_opp p1,cm_opp p2,h.cm_end ha,h.cm_end hb]) e1
 injection e2 with e3 e4
 have e5:endP X true a=endP X true b:=Prod.ext e3 (by have:=p1.2;have:=p2.2;omega);rw[←h.arc_end (io:=true) ha,e5,h.arc_end hb]
theorem Ok.nxt_pm(h:Ok X):Pm (nArcs X+1) (nxt X):=by
 have key:∀x,Kn.isArc X x→Kn.isArc X (nxt X x):=fun x hx=>by
  unfold nxt;rw[if_pos hx];exact h.isArc_next hx
 refine⟨fun x hx=>?_,fun x hx=>?_,fun x y e=>?_⟩
 · by_cases c:Kn.isArc X x
   · have:=(key x c).2;omega
   · unfold nxt;rw[if_neg c];exact hx
 · unfold nxt;rw[if_neg (fun c=>by have:=c.2;omega)]
 · by_cases c:Kn.isArc X x
   · by_cases d:Kn.isArc X y
     · unfold nxt at e;rw[if_pos c,if_pos d]at e;exact h.next_inj c d e
     · have:=key x c
       rw[e]at this
       unfold nxt at this;rw[if_neg d]at this
       exact absurd this d
   · by_cases d:Kn.isArc X y
     · have:=key y d
       rw[←e]at this
       unfold nxt at this;rw[if_neg c]at this
       exact absurd this c
     · unfold nxt at e;rw[if_neg c,if_neg d]at e;exact e
theorem Ok.strands_nxt(h:Ok X):rings (nxt X) (nArcs X+1+1) [] (arcs X)=strandsL X:=by
 have hall:∀x∈arcs X,nextA X x∈arcs X:=fun x hx=>mem_arcs.2 (h.isArc_next (mem_arcs.1 hx))
 have h1:=rings_map (nx:=nextA X) (ny:=nxt X) (g:=fun a=>a) (all:=arcs X) (fun _ _ _ _ e=>e) hall (fun x hx=>by unfold nxt;rw[if_pos (mem_arcs.1 hx)]) (nArcs X+1+1) (ds:=arcs X) (seen:=[]) (fun y hy=>by cases hy) (fun y hy=>hy)
 have h2:∀{N N':Nat} {ds seen:List Nat},nArcs X<N→nArcs X<N'→seen.Nodup→(∀y∈seen,y∈arcs X)→(∀y∈ds,y∈arcs X)→rings (nextA X) N seen ds=rings (nextA X) N' seen ds:=by
  have hr:∀{k k':Nat} {seen:List Nat} {x:Nat},nArcs X<k+seen.length→nArcs X<k'+seen.length→seen.Nodup→(∀y∈seen,y∈arcs X)→x∈arcs X→ring (nextA X) k seen x=ring (nextA X) k' seen x:=by
   intro k
   induction k with
   |zero=>
    intro k' seen x h1 _ h3 h4 _
    have:=nodup_le h3 h4;rw[arcs_length]at this
    omega
   |succ k ih=>
    intro k' seen x h1 h2 h3 h4 h5
    by_cases c:x∈seen
    · rw[ring_seen _ c,ring_seen _ c]
    · cases k' with
      |zero=>
       have:=nodup_le h3 h4;rw[arcs_length]at this
       omega
      |succ k'=>
       rw[ring_new _ c,ring_new _ c]
       rw[ih (k':=k') (by simp;omega) (by simp;omega) (nodup_snoc h3 c) (fun y hy=>by
        rcases List.mem_append.1 hy with hy|hy
        · exact h4 y hy
        · rw[List.mem_singleton]at hy;exact hy ▸ h5) (hall x h5)]
  intro N N' ds
  induction ds with
  |nil=>intro seen _ _ _ _ _;rw[rings_nil,rings_nil]
  |cons d ds ih=>
   intro seen h1 h2 h3 h4 h5
   have hd:=h5 d (by simp)
   by_cases c:d∈seen
   · rw[rings_seen _ c,rings_seen _ c]
     exact ih h1 h2 h3 h4 fun y hy=>h5 y (by simp[hy])
   · rw[rings_new _ c,rings_new _ c,hr (k:=N) (k':=N') (by omega) (by omega) h3 h4 hd]
     congr 1
     refine ih h1 h2 (ring_nodup _ _ d h3) (fun y hy=>?_) fun y hy=>h5 y (by simp[hy])
     rcases List.mem_append.1 hy with hy|hy
     · exact h4 y hy
     · exact ring_sub _ hall _ _ hd y hy
 have h3:(rings (nextA X) (nArcs X+1+1) [] (arcs X)).map (List.map fun a=>a)=rings (nextA X) (nArcs X+1+1) [] (arcs X):=by
  conv=>rhs;rw[←List.map_id (rings (nextA X) (nArcs X+1+1) [] (arcs X))]
  refine List.map_congr_left fun l _=>?_
  simp
 rw[List.map_nil,List.map_id',h3]at h1;rw[h1]
 exact h2 (by omega) (by omega) (by simp) (fun y hy=>by cases hy) (fun y hy=>hy)
theorem arcs_lt{y:Nat}(hy:y∈arcs X):y<nArcs X+1:=by have:=(mem_arcs.1 hy).2;omega
theorem strands_arc(h:Ok X){r:List Nat}(hr:r∈strandsL X){x:Nat}(hx:x∈r):Kn.isArc X x:=
 mem_arcs.1 ((strands_perm h).mem_iff.1 (List.mem_flatten.2 ⟨r,hr,hx⟩))
theorem Ok.strands_cyc(h:Ok X):∀r∈strandsL X,Cyc (nextA X) r:=by
 intro r hr i hi
 have h1:Cyc (nxt X) r:=by
  have hr':=hr;rw[←h.strands_nxt]at hr'
  exact rings_cyc h.nxt_pm (by omega) (by simp) (fun y hy=>by cases hy) (fun y hy=>by cases hy) (fun y hy=>arcs_lt hy) r hr'
 have h2:=h1 i hi;rw[h2]
 unfold nxt
 rw[if_pos (strands_arc h hr (List.getElem_mem hi))]
theorem strands_ne(X:List Cr):∀r∈strandsL X,r≠[]:=rings_ne (nextA X) (by omega) (arcs X) []

def along(X:List Cr)(a:Nat):Nat:=(strandsL X).flatten.idxOf a+1
end
end Go.Proofs.YtlicglicfijelaaGreat.Kn

namespace Go.Proofs.YtlicglicfijelaaGreat.Kn

def tieF(X:List Cr)(f:Nat→Nat)(c:Nat):Nat→Nat:=
 joinF (joinF f (arcN X (c,0)) (arcN X (c,2))) (arcN X (c,over (cr X c).p)) (arcN X (c,(over (cr X c).p+2)%4))
def tieE(X:List Cr)(es:Prs)(c:Nat):Prs:=
 (arcN X (c,over (cr X c).p),arcN X (c,(over (cr X c).p+2)%4)) :: (arcN X (c,0),arcN X (c,2)) :: es
def classF(X:List Cr)(gone:Nat→Bool):Nat→Nat→Nat
 |0=>fun a=>a
 |k+1=>if gone k then tieF X (classF X gone k) k else classF X gone k
def classE(X:List Cr)(gone:Nat→Bool):Nat→Prs
 |0=>[]
 |k+1=>if gone k then tieE X (classE X gone k) k else classE X gone k
def takeL(X:List Cr)(gone:Nat→Bool):List Cr:=withL X (classF X gone X.length) gone
def takeN(X:List Cr)(gone:Nat→Bool):Nat:=ringN X (classF X gone X.length) gone
section
variable {X:List Cr}
theorem Ok.class_rep(h:Ok X)(gone:Nat→Bool):∀k,k≤X.length→Rep (classF X gone k) (com (fun x=>x) (classE X gone k))
 |0,_=>Rep.id
 |k+1,hk=>by
  have i:=h.class_rep gone k (by omega)
  unfold classF classE
  split
  · have ar:∀s,s<4→1≤arcN X (k,s):=fun s hs=>(h.isArc (p:=(k,s)) ⟨by show k<_;omega,hs⟩).1
    exact(i.join (ar 0 (by omega)) (ar 2 (by omega))).join (ar _ (over_lt _)) (ar _ (Nat.mod_lt _ (by omega)))
  · exact i
theorem mem_classE{gone:Nat→Bool}{e:Nat×Nat}:∀{k:Nat},e∈classE X gone k↔∃c,c<k∧gone c=true∧(e=(arcN X (c,over (cr X c).p),arcN X (c,(over (cr X c).p+2)%4))∨e=(arcN X (c,0),arcN X (c,2)))
 |0=>by simp[classE]
 |k+1=>by
  unfold classE
  by_cases g:gone k=true
  · rw[if_pos g]
    unfold tieE
    rw[List.mem_cons,List.mem_cons,mem_classE]
    constructor
    · rintro(h|h|⟨c,h1,h2⟩)
      · exact⟨k,by omega,g,.inl h⟩
      · exact⟨k,by omega,g,.inr h⟩
      · exact⟨c,by omega,h2⟩
    · rintro⟨c,h1,h2,h3⟩
      by_cases e:c=k
      · subst e
        rcases h3 with h3|h3
        · exact .inl h3
        · exact .inr (.inl h3)
      · exact .inr (.inr ⟨c,by omega,h2,h3⟩)
  · rw[if_neg g,mem_classE]
    constructor
    · rintro⟨c,h1,h2⟩;exact⟨c,by omega,h2⟩
    · rintro⟨c,h1,h2,h3⟩
      refine⟨c,?_,h2,h3⟩
      by_cases e:c=k
      · subst e;exact absurd h2 g
      · omega
theorem over_or(p:Bool):over p=1∨over p=3:=by cases p<;>simp[over]
theorem tied_all{gone:Nat→Bool}{k c:Nat}(hc:c<k)(hg:gone c=true){s:Nat}(hs:s<4):com (fun x=>x) (classE X gone k) (arcN X (c,s)) (arcN X (c,(s+2)%4)):=by
 have hE:=com_id_equiv (classE X gone k);have h1:=com_id_pair (mem_classE (X:=X) (gone:=gone) (k:=k) |>.2 ⟨c,hc,hg,.inl rfl⟩);have h2:=com_id_pair (mem_classE (X:=X) (gone:=gone) (k:=k) |>.2 ⟨c,hc,hg,.inr rfl⟩);simp only at h1 h2
 have cases4:s=0∨s=1∨s=2∨s=3:=by omega
 rcases cases4 with rfl|rfl|rfl|rfl
 · exact h2
 · rcases over_or (cr X c).p with e|e<;>rw[e]at h1
   · exact h1
   · exact hE.symm h1
 · exact hE.symm h2
 · rcases over_or (cr X c).p with e|e<;>rw[e]at h1
   · exact hE.symm h1
   · exact h1
theorem tied_two{es:Prs}{c s:Nat}(h1:com (fun x=>x) es (arcN X (c,s)) (arcN X (c,(s+2)%4)))(h2:com (fun x=>x) es (arcN X (c,(s+1)%4)) (arcN X (c,(s+3)%4)))(hs:s<4){t:Nat}(ht:t<4):
 com (fun x=>x) es (arcN X (c,t)) (arcN X (c,(t+2)%4)):=by
 have hE:=com_id_equiv es
 have cases4:t=s∨t=(s+1)%4∨t=(s+2)%4∨t=(s+3)%4:=by omega
 rcases cases4 with e|e|e|e
 · rw[e];exact h1
 · rw[show (t+2)%4=(s+3)%4 by omega,e];exact h2
 · rw[show (t+2)%4=s by omega,e];exact hE.symm h1
 · rw[show (t+2)%4=(s+1)%4 by omega,e];exact hE.symm h2
theorem Ok.flat(h:Ok X)(hp:planarB X=true):Flat (4*X.length) (sig X.length) (ens X):=by
 have h0:=h.planar_iff.1 hp;have a1:=h.cl_faces;have a2:=h.cl_pieces;have a3:=cl_sig X.length
 have hl:(ens X).length=nArcs X:=by unfold ens;rw[List.length_map,arcs_length]
 unfold nArcs at hl
 unfold Flat
 have a1:cl (4*X.length) (Orb (phi (sig X.length) (ens X)))=(facesL X).length:=a1;have a2:cl (4*X.length) (com (sig X.length) (ens X))=(piecesL X).length:=a2
 omega
theorem Ok.mate_free(h:Ok X){p:Pl}(hp:isPl X p):mate (ens X) (pk p)≠pk p:=fun e=>by
 rw[h.mate_pk hp]at e;have:=pk_inj (h.isPl_other hp).2 hp.2 e;have h1:=h.cm_other hp;rw[this]at h1
 cases hh:cm X p<;>simp[hh]at h1
theorem Ok.mate_big(h:Ok X){z:Nat}(hz:4*X.length≤z):mate (ens X) z=z:=mate_out (by
 rintro⟨e,he,k⟩;obtain⟨h1,h2,_⟩:=h.ens_good e he
 omega)
theorem mem_four{c s z:Nat}(hs:s<4):z∈[pk (c,s),pk (c,(s+1)%4),pk (c,(s+2)%4),pk (c,(s+3)%4)]↔z / 4=c:=by
 unfold pk
 simp only[List.mem_cons,List.not_mem_nil,or_false]
 omega
theorem four_nodup{c s:Nat}(hs:s<4):[pk (c,s),pk (c,(s+1)%4),pk (c,(s+2)%4),pk (c,(s+3)%4)].Nodup:=by
 unfold pk
 simp only[List.nodup_cons,List.mem_cons,List.not_mem_nil,or_false,not_or,List.nodup_nil,and_true,not_false_eq_true]
 omega
theorem four_ne{c s:Nat}(hs:s<4):((c,s):Pl)≠(c,(s+1)%4)∧((c,s):Pl)≠(c,(s+2)%4)∧((c,s):Pl)≠(c,(s+3)%4)∧((c,(s+1)%4):Pl)≠(c,(s+2)%4)∧((c,(s+1)%4):Pl)≠(c,(s+3)%4)∧((c,(s+2)%4):Pl)≠(c,(s+3)%4):=by
 simp only[ne_eq,Prod.mk.injEq,true_and]
 omega
theorem of_four{c s:Nat}{p:Pl}(hs:s<4)(hp:p.2<4):p.1=c↔p=(c,s)∨p=(c,(s+1)%4)∨p=(c,(s+2)%4)∨p=(c,(s+3)%4):=by
 obtain⟨a,b⟩:=p;simp only[Prod.mk.injEq]at hp ⊢
 omega
theorem sig4{n c s:Nat}(hc:c<n)(hs:s<4):sig n (pk (c,s))=pk (c,(s+3)%4)∧sig n (pk (c,(s+3)%4))=pk (c,(s+2)%4)∧sig n (pk (c,(s+2)%4))=pk (c,(s+1)%4)∧sig n (pk (c,(s+1)%4))=pk (c,s):=by
 refine⟨sig_pk hc hs,?_,?_,?_⟩<;>rw[sig_pk (p:=(c,_)) hc (Nat.mod_lt _ (by omega))]<;>simp only<;>congr 2<;>omega
abbrev only(c:Nat):Nat→Bool:=fun d=>decide (d=c)
theorem Ok.take_kink(h:Ok X){c s:Nat}(hc:c<X.length)(hs:s<4)(ha:arcN X (c,s)=arcN X (c,(s+1)%4)):
 Ok (takeL X (only c))∧(planarB X=true→planarB (takeL X (only c))=true):=by
 have m4:∀k,(s+k)%4<4:=fun k=>Nat.mod_lt _ (by omega)
 have pA:isPl X (c,s):=⟨hc,hs⟩;have pB:isPl X (c,(s+1)%4):=⟨hc,m4 1⟩;have pC:isPl X (c,(s+2)%4):=⟨hc,m4 2⟩;have pD:isPl X (c,(s+3)%4):=⟨hc,m4 3⟩;obtain⟨nAB,nAC,nAD,nBC,nBD,nCD⟩:=four_ne (c:=c) hs
 have oA:other X (c,s)=(c,(s+1)%4):=by
  rcases (h.arc_eq pA pB).1 ha with e|e
  · exact absurd e.symm nAB
  · exact e.symm
 have cBD:cm X (c,(s+3)%4)=!cm X (c,(s+1)%4):=by
  have:=cm_opp pB
  rwa [show ((s+1)%4+2)%4=(s+3)%4 by omega]at this
 have T:=h.tied.kink (com_id_equiv []) pA pB pC pD (cm_opp pA) cBD oA nAC nAD nBC nBD nCD
 have T':Tied X (fun p=>isPl X p∧only c p.1=false) (com (fun x=>x) (classE X (only c) X.length)) (fun p=>if other X p=(c,(s+2)%4)then other X (c,(s+3)%4)else if other X p=(c,(s+3)%4)then other X (c,(s+2)%4)else other X p):=by
  refine T.congr (fun p=>?_) (fun x y=>?_) fun _ _=>rfl
  · constructor
    · rintro⟨h1,h2⟩
      have h2:¬p.1=c:=by simpa using h2
      rw[of_four hs h1.2]at h2;simp only[not_or]at h2
      exact⟨h1,h2.1,h2.2.2.1,h2.2.1,h2.2.2.2⟩
    · rintro⟨h1,h2,h3,h4,h5⟩
      refine⟨h1,?_⟩
      have:¬p.1=c:=by rw[of_four hs h1.2];simp only[not_or];exact⟨h2,h4,h3,h5⟩
      simpa using this
  · show com (fun x=>x) (classE X (only c) X.length) x y↔com (fun x=>x) [(arcN X (c,(s+1)%4),arcN X (c,(s+3)%4)),(arcN X (c,s),arcN X (c,(s+2)%4))] x y
    have g:only c c=true:=decide_eq_true rfl
    constructor
    · refine com_id_mono fun e he=>?_
      obtain⟨d,_,hd,k⟩:=mem_classE.1 he
      have hd:d=c:=by simpa using hd
      subst hd
      have q:=fun {t} (ht:t<4)=>tied_two (X:=X) (es:=[(arcN X (d,(s+1)%4),arcN X (d,(s+3)%4)),(arcN X (d,s),arcN X (d,(s+2)%4))]) (c:=d) (s:=s) (com_id_pair (e:=(arcN X (d,s),arcN X (d,(s+2)%4))) (by simp)) (com_id_pair (e:=(arcN X (d,(s+1)%4),arcN X (d,(s+3)%4))) (by simp)) hs (t:=t) ht
      rcases k with rfl|rfl
      · exact q (over_lt _)
      · exact q (t:=0) (by omega)
    · refine com_id_mono fun e he=>?_
      rw[List.mem_cons,List.mem_singleton]at he
      rcases he with rfl|rfl
      · have:=tied_all (X:=X) hc g (m4 1)
        rwa [show ((s+1)%4+2)%4=(s+3)%4 by omega]at this
      · exact tied_all (X:=X) hc g hs
 have cut:=with_cut h (h.class_rep (only c) X.length (Nat.le_refl _)) (com_id_equiv _) T' fun _=>Iff.rfl
 refine⟨cut.okY,fun hp=>?_⟩
 obtain⟨sA,sD,sC,sB⟩:=sig4 (n:=X.length) hc hs;obtain⟨es,g,d,pm,f,m⟩:=(h.flat hp).kink (sig_pm _) h.ens_good h.ens_dis (four_nodup (c:=c) hs) sA sD sC sB (by rw[h.mate_pk pA,oA]) (h.mate_free pC) (h.mate_free pD)
 have liv:∀z,(∀p,(isPl X p∧only c p.1=false)→pk p≠z)→4*X.length≤z∨z / 4=c:=fun z hz=>by
  by_cases k:4*X.length≤z
  · exact .inl k
  · refine .inr (Classical.byContradiction fun k'=>hz (pl z) ⟨isPl_pl (by omega),by simpa[pl]using k'⟩ ?_)
    unfold pk pl;simp only;omega
 have out:∀p,(isPl X p∧only c p.1=false)→pk p∉[pk (c,s),pk (c,(s+1)%4),pk (c,(s+2)%4),pk (c,(s+3)%4)]:=fun p hp=>by
  rw[mem_four hs,pk_div hp.1.2]
  simpa using hp.2
 refine cut.planar pm g d f (fun p hp=>?_) (fun z hz=>?_) (fun p hp=>?_) fun z hz=>?_
 · rw[m,if_neg (out p hp),h.mate_pk hp.1,h.mate_pk pD,h.mate_pk pC]
   have i:=fun {q} (hq:isPl X q)=>(show pk (other X p)=pk q↔other X p=q from⟨pk_inj (h.isPl_other hp.1).2 hq.2,fun e=>by rw[e]⟩)
   by_cases c1:other X p=(c,(s+2)%4)
   · rw[if_pos ((i pC).2 c1),if_pos c1]
   · rw[if_neg (fun e=>c1 ((i pC).1 e)),if_neg c1]
     by_cases c2:other X p=(c,(s+3)%4)
     · rw[if_pos ((i pD).2 c2),if_pos c2]
     · rw[if_neg (fun e=>c2 ((i pD).1 e)),if_neg c2]
 · rw[m]
   rcases liv z hz with k|k
   · have hz':=h.mate_big k
     have b1:=pk_lt pC;have b2:=pk_lt pD;rw[hz',if_neg (show ¬z=pk (c,(s+2)%4)by omega),if_neg (show ¬z=pk (c,(s+3)%4)by omega)]
     split<;>rfl
   · rw[if_pos ((mem_four hs).2 k)]
 · simp only[if_neg (out p hp)]
 · rcases liv z hz with k|k
   · simp only[(sig_pm X.length).out z k]
     split<;>rfl
   · simp only[if_pos ((mem_four hs).2 k)]
end
end Go.Proofs.YtlicglicfijelaaGreat.Kn
