/- Plain mathematics of diagrams, joined. -/
set_option linter.unusedVariables false
namespace Go.Proofs.YtfplmbmenjdlhaaGreatDoor
theorem jc.{u_1}:∀ {α:Type u_1} {l:List α} {i:Nat} {a:α},List.getD l i a=Option.getD l[i]? a:=@List.getD_eq_getElem?_getD
theorem je.{u_1}:∀ {α:Type u_1} {l:List α} {i:Nat} (h:i<List.length l),l[i]?=some l[i]:=@List.getElem?_eq_getElem
theorem jf.{u_1}:∀ {α:Type u_1} {i:Nat} {b:α} {xs:Array α},xs[i]?=some b↔∃h:i<xs.size,xs[i]=b:=@Array.getElem?_eq_some_iff
theorem jg.{u_1}:∀ {α:Type u_1} {i:Nat} {a:α} {l:List α},l[i]?=some a↔∃h:i<l.length,l[i]=a:=@List.getElem?_eq_some_iff
theorem jh:∀ {p:Prop} [Decidable p],(decide p=true)=p:=@decide_eq_true_eq
theorem jk:∀ {p:Prop} [Decidable p],p->decide p=true:=@decide_eq_true
theorem jl:∀ {p:Prop} [Decidable p],decide p=true->p:=@of_decide_eq_true
theorem jm:∀ {p:Prop} [Decidable p],¬p->decide p=false:=@decide_eq_false
theorem jp:∀ (a b:Bool),((a && b)=true)=(a=true/\b=true):=@Bool.and_eq_true
theorem jq.{u_1}:∀ {α:Type u_1} {i:Nat} {l:List α} (h:i<List.length l),List.take (i+1) l=List.take i l++[l[i]]:=@List.take_succ_eq_append_getElem
theorem jr.{u_1}:∀ {α:Type u_1} {a:α} [BEq α] [EquivBEq α] {l:List α},a∈l->List.idxOf a l<List.length l:=@List.idxOf_lt_length_of_mem
theorem js:∀ {p:Prop},(¬p->False)->p:=@Classical.byContradiction
theorem jt:∀ {p:Prop} [Decidable p],decide p=true↔p:=@decide_eq_true_iff
theorem ju.{u}:∀ {α:Type u} {«as» bs:List α},List.length («as»++bs)=List.length «as»+List.length bs:=@List.length_append
theorem jv.{u_1,u_2}:∀ {α:Type u_1} {β:Type u_2} {b:β} {f:α->β} {l:List α},b∈List.map f l↔∃a,a∈l/\f a=b:=@List.mem_map
theorem jw:∀ {m n:Nat},m∈List.range n↔m<n:=@List.mem_range
theorem jx.{u_1}:∀ {α:Type u_1} {a:α} {s t:List α},a∈s++t↔a∈s\/a∈t:=@List.mem_append
theorem jy.{u_1}:∀ {α:Type u_1} {b:α} {l:List α} {a:α},a∈b::l↔a=b\/a∈l:=@List.mem_cons
theorem jz.{u_1}:∀ {α:Type u_1} {a:α},¬a∈[]:=@List.not_mem_nil
theorem jA.{u_1,u_2}:∀ {α:Type u_1} {β:Type u_2} {«as»:List α} (f:α->β),List.length (List.map f «as»)=List.length «as»:=@List.length_map
theorem jB.{u_1}:∀ {α:Type u_1} {a b:α},a∈[b]↔a=b:=@List.mem_singleton
theorem jC.{u_1}:∀ {α:Type u_1} {p:α->Bool} {«as»:List α} {x:α},x∈List.filter p «as»↔x∈«as»/\p x=true:=@List.mem_filter
theorem jD:∀ {a b:Bool},a=b↔(a=true↔b=true):=@Bool.eq_iff_iff
theorem jE.{u}:∀ {α:Type u} {a:α} {«as»:List α},List.length (a::«as»)=List.length «as»+1:=@List.length_cons
theorem jF:∀ {p:Prop} {x:Decidable p},decide p=false↔¬p:=@decide_eq_false_iff_not
theorem jG.{u_1}:∀ {α:Type u_1} {p:α->Bool} {a:α} {l:List α},List.countP p (a::l)=List.countP p l+if p a=true then 1 else 0:=@List.countP_cons
theorem jH:∀ (n:Nat),n<=n:=@Nat.le_refl
theorem jI:∀ {n:Nat},n > 0->∀ {i j:Nat},i<=j->n ^ i<=n ^ j:=@Nat.pow_le_pow_right
theorem jJ:∀ {n m k:Nat},n<=m->m<=k->n<=k:=@Nat.le_trans
theorem jK:∀ {n:Nat},List.Nodup (List.range n):=@List.nodup_range
theorem jL:∀ {p q:Prop} {x:Decidable p} {x_1:Decidable q},decide p=decide q↔(p↔q):=@decide_eq_decide
theorem jM.{u_1}:∀ {α:Type u_1} {l:List α} {n:Nat} (h:n<List.length l),l[n]∈l:=@List.getElem_mem
theorem jN:(false=true)=False:=@Bool.false_eq_true
theorem jO:∀ {n:Nat},List.range (Nat.succ n)=List.range n++[n]:=@List.range_succ
theorem jP.{u_1,u_2}:∀ {α:Type u_1} {β:Type u_2} {f:α->β} {l₁ l₂:List α},List.map f (l₁++l₂)=List.map f l₁++List.map f l₂:=@List.map_append
theorem jQ:∀ (x:Nat) {y:Nat},0<y->x % y<y:=@Nat.mod_lt
theorem jR.{u_1}:∀ {α:Type u_1} {l₁ l₂:List α},List.Nodup l₁->List.Nodup l₂->(List.Perm l₁ l₂↔∀ (a:α),a∈l₁↔a∈l₂):=@List.perm_ext_iff_of_nodup
theorem jS:∀ {n:Nat},List.length (List.range n)=n:=@List.length_range
theorem jT:∀ {n m k:Nat},n<m->m<=k->n<k:=@Nat.lt_of_lt_of_le
theorem jU.{u_1}:∀ {α:Type u_1} {l₁ l₂:List α},List.Nodup (l₁++l₂)↔List.Nodup l₁/\List.Nodup l₂/\∀ (a:α),a∈l₁->∀ (b:α),b∈l₂->a ≠ b:=@List.nodup_append
end Go.Proofs.YtfplmbmenjdlhaaGreatDoor
namespace Go.Proofs.YtfplmbmenjdlhaaGreatDoor.Kn
open Bool (not_eq_true' not_not)
open List (Nodup all_eq_true append_assoc countP_append filter_sublist flatMap_cons flatten_cons map_cons map_flatten map_nil mem_cons_self mem_flatten ne_nil_of_mem nil_append nodup_cons pairwise_cons pairwise_map prefix_refl range sum_append sum_cons sum_nil)
open List.Pairwise (imp imp_of_mem)
open Nat (lt_trichotomy)
variable {io:Bool} {ll:List (List Nat)} {l m seen:List Nat} {N a i j k n r u v x y:Nat} {e:Nat×Nat} {gone p q:Nat->Bool} {f:Nat->Nat} {E E' R R':Nat->Nat->Prop}
section
variable {α:Type} [DecidableEq α] (nx:α->α)
def ring:Nat->List α->α->List α
 |0,_,_=>[]
 |k+1,seen,x=>if x∈seen then []else x :: ring k (seen++[x]) (nx x)
def rings(N:Nat):List α->List α->List (List α)
 |_,[]=>[]
 |seen,d :: ds=>if d∈seen then rings N seen ds else ring nx N seen d :: rings N (seen++ring nx N seen d) ds
theorem fV{seen:List α}{x:α}(h:x∈seen):ring nx k seen x=[]:=by
 cases k with
 |zero=>rfl
 |succ k=>rw[ring,if_pos h]
theorem iG{seen:List α}{x:α}(h:x∉seen):ring nx (k+1) seen x=x :: ring nx k (seen++[x]) (nx x):=by rw[ring,if_neg h]
theorem qA(N:Nat)(seen:List α):rings nx N seen []=[]:=by rw[rings]
theorem eN{seen ds:List α}{d:α}(h:d∈seen):rings nx N seen (d :: ds)=rings nx N seen ds:=by rw[rings,if_pos h]
theorem fU{seen ds:List α}{d:α}(h:d∉seen):rings nx N seen (d :: ds)=ring nx N seen d :: rings nx N (seen++ring nx N seen d) ds:=by rw[rings,if_neg h]
theorem ft:∀{l m:List α},l.Nodup->(∀x∈l,x∈m)->l.length<=m.length
 |[],_,_,_=>Nat.zero_le _
 |a :: l,m,hn,hs=>by
  have ha:a∈m:=hs a (by simp);rw[nodup_cons]at hn
  have h1:l.length<=(m.erase a).length:=ft hn.2 λx hx=>by
   have hne:x≠a:=λe=>hn.1 (e ▸ hx)
   exact(List.mem_erase_of_ne hne).2 (hs x (by simp[hx]))
  rw[List.length_erase_of_mem ha]at h1;have h2:0<m.length:=List.length_pos_of_mem ha
  simp only[jE];omega
theorem fuel{l m:List α}{x:α}(hn:l.Nodup)(hs:∀y∈l,y∈m)(hx:x∉l)(hm:x∈m):l.length+1<=m.length:=by
 have:=ft (l:=x :: l) (m:=m) (nodup_cons.2 ⟨hx,hn⟩) (λy hy=>by
  rcases jy.1 hy with rfl|h
  · exact hm
  exact hs y h)
 simpa using this
omit [DecidableEq α]in
theorem gK{l:List α}{x:α}(hn:l.Nodup)(hx:x∉l):(l++[x]).Nodup:=by
 rw[jU]
 exact⟨hn,by simp,λa ha b hb=>by
  rw[jB]at hb;subst hb;exact λe=>hx (e ▸ ha)⟩
theorem nT:∀(k:Nat) {seen:List α} (x:α),seen.Nodup->(seen++ring nx k seen x).Nodup
 |0,seen,x,h=>by rw[ring];simpa using h
 |k+1,seen,x,h=>by
  by_cases c:x∈seen
  · rw[fV nx c];simpa using h
  rw[iG nx c];have:=nT k (seen:=seen++[x]) (nx x) (gK h c);simpa using this
theorem xq{all:List α}(hall:∀x∈all,nx x∈all):∀(k:Nat) (seen:List α) {x:α},x∈all->∀y∈ring nx k seen x,y∈all
 |0,seen,x,h,y,hy=>by rw[ring]at hy;cases hy
 |k+1,seen,x,h,y,hy=>by
  by_cases c:x∈seen
  · rw[fV nx c]at hy;cases hy
  rw[iG nx c]at hy
  rcases jy.1 hy with rfl|hy
  · exact h
  exact xq hall k _ (hall x h) y hy
theorem uD{seen:List α}{x:α}(h:x∉seen)(hk:0<k):x∈ring nx k seen x:=by
 obtain⟨j,rfl⟩:∃j,k=j+1:=⟨k-1,by omega⟩
 rw[iG nx h];simp
theorem tF(N:Nat):∀(ds:List α) {seen:List α},seen.Nodup->(seen++(rings nx N seen ds).flatten).Nodup
 |[],seen,h=>by rw[rings];simpa using h
 |d :: ds,seen,h=>by
  by_cases c:d∈seen
  · rw[eN nx c];exact tF N ds h
  rw[fU nx c,flatten_cons,<-append_assoc];exact tF N ds (nT nx N d h)
theorem yR{all:List α}(hall:∀x∈all,nx x∈all)(N:Nat):∀(ds:List α) (seen:List α),(∀d∈ds,d∈all)->∀y∈(rings nx N seen ds).flatten,y∈all
 |[],seen,_,y,hy=>by rw[rings]at hy;cases hy
 |d :: ds,seen,h,y,hy=>by
  by_cases c:d∈seen
  · rw[eN nx c]at hy
    exact yR hall N ds seen (λx hx=>h x (by simp[hx])) y hy
  rw[fU nx c,flatten_cons,jx]at hy
  rcases hy with hy|hy
  · exact xq nx hall N seen (h d (by simp)) y hy
  exact yR hall N ds _ (λx hx=>h x (by simp[hx])) y hy
theorem tH{N:Nat}(hN:0<N):∀(ds:List α) (seen:List α) {x:α},(x∈seen\/x∈ds)->x∈seen++(rings nx N seen ds).flatten
 |[],seen,x,h=>by
  rw[rings]
  rcases h with h|h
  · simp[h]
  cases h
 |d :: ds,seen,x,h=>by
  by_cases c:d∈seen
  · rw[eN nx c]
    refine tH hN ds seen ?_
    rcases h with h|h
    · exact .inl h
    rcases jy.1 h with rfl|h
    · exact .inl c
    exact .inr h
  rw[fU nx c,flatten_cons,<-append_assoc]
  refine tH hN ds _ ?_
  rcases h with h|h
  · exact .inl (by simp[h])
  rcases jy.1 h with rfl|h
  · exact .inl (jx.2 (.inr (uD nx c hN)))
  exact .inr h
theorem yT(N:Nat):∀(ds seen:List α),(rings nx N seen ds).length<=ds.length
 |[],seen=>by rw[rings];exact jH _
 |d :: ds,seen=>by
  by_cases c:d∈seen
  · rw[eN nx c];have:=yT N ds seen;simp only[jE];omega
  rw[fU nx c];have:=yT N ds (seen++ring nx N seen d);simp only[jE];omega
theorem Ls{all:List α}(hn:all.Nodup)(hall:∀x∈all,nx x∈all)(hN:0<N):(rings nx N [] all).flatten.Perm all:=by
 have h1:=tF nx N all (seen:=[]) (by simp);have h2:=yR nx hall N all [] (λd h=>h)
 have h3:=λx hx=>tH nx hN all [] (x:=x) (.inr hx)
 rw[nil_append]at h1
 refine(jR h1 hn).2 λx=>⟨h2 x,λhx=>?_⟩
 have:=h3 x hx
 rwa [nil_append]at this
theorem xn{N:Nat}(hN:0<N):∀(ds:List α) (seen:List α),∀r∈rings nx N seen ds,r≠[]
 |[],seen,r,h=>by rw[rings]at h;cases h
 |d :: ds,seen,r,h=>by
  by_cases c:d∈seen
  · rw[eN nx c]at h
    exact xn hN ds seen r h
  rw[fU nx c]at h
  rcases jy.1 h with rfl|h
  · exact ne_nil_of_mem (uD nx c hN)
  exact xn hN ds _ r h
end
structure Cr where
 a:Int
 b:Int
 c:Int
 d:Int
 p:Bool
deriving DecidableEq,Inhabited
def Cr.ie(x:Cr)(s:Nat):Int:=if s=0 then x.a else if s=1 then x.b else if s=2 then x.c else x.d
def over(p:Bool):Nat:=if p then 3 else 1
def Cr.comes(x:Cr)(s:Nat):Bool:=decide (s=0)||decide (s=over x.p)
abbrev Pl:=Nat×Nat
def cr(X:List Cr)(c:Nat):Cr:=X.getD c default
def at_(X:List Cr)(p:Pl):Int:=(cr X p.1).ie p.2
def cm(X:List Cr)(p:Pl):Bool:=(cr X p.1).comes p.2
def pl(k:Nat):Pl:=(k / 4,k%4)
theorem EK{c s:Nat}(hs:s<4):pl (c*4+s)=(c,s):=by
 unfold pl;rw[show (c*4+s) / 4=c by omega,show (c*4+s)%4=s by omega]
def pk(p:Pl):Nat:=p.1*4+p.2
theorem jX{p:Pl}(h:p.2<4):pl (pk p)=p:=EK h
def cnt(X:List Cr)(io:Bool):Nat->Nat->Nat
 |0,_=>0
 |k+1,a=>cnt X io k a+if cm X (pl k)=io/\at_ X (pl k)=a then 1 else 0
def last(X:List Cr)(io:Bool):Nat->Nat->Pl
 |0,_=>(0,0)
 |k+1,a=>if cm X (pl k)=io/\at_ X (pl k)=a then pl k else last X io k a
theorem iL(X:List Cr)(io:Bool)(k a:Nat):cnt X io (k+1) a=cnt X io k a+if cm X (pl k)=io/\at_ X (pl k)=a then 1 else 0:=rfl
theorem nJ(X:List Cr)(io:Bool)(k a:Nat):last X io (k+1) a=if cm X (pl k)=io/\at_ X (pl k)=a then pl k else last X io k a:=rfl
theorem MU(X:List Cr)(io:Bool)(a:Nat):∀k,cnt X io k a<=k
 |0=>jH _
 |k+1=>by
  have:=MU X io a k
  rw[iL];split<;>omega
def ag(X:List Cr):Nat:=2*X.length
def Gu(X:List Cr)(k:Nat):Prop:=∀j,j<k->1<=at_ X (pl j)/\at_ X (pl j)<=(ag X:Int)
def once(X:List Cr)(m:Nat):Prop:=∀a,1<=a->a<=m->cnt X true (4*X.length) a=1/\cnt X false (4*X.length) a=1
def okB(X:List Cr):Bool:=
 (range (4*X.length)).all (λj=>decide (1<=at_ X (pl j))&&decide (at_ X (pl j)<=(ag X:Int))) &&
 (range (ag X)).all (λa=>decide (cnt X true (4*X.length) (a+1)=1)&&decide (cnt X false (4*X.length) (a+1)=1))
theorem uN(X:List Cr):okB X=true↔Gu X (4*X.length)/\once X (ag X):=by
 unfold okB Gu once;simp only[jp,all_eq_true,jw,jh]
 refine and_congr Iff.rfl ⟨λh a h1 h2=>?_,λh a h1=>h (a+1) (by omega) (by omega)⟩
 have:=h (a-1) (by omega)
 rwa [show a-1+1=a by omega]at this
def gY(X:List Cr)(L:Int):Bool:=decide (X.length<=16)&&decide (0<=L)&&decide (L<=16) && !(decide (X.length=0)&&decide (L=0))&&okB X
theorem Gr{X:List Cr}{io:Bool}{a:Nat}:∀{k:Nat},1<=cnt X io k a->∃j,j<k/\last X io k a=pl j/\cm X (pl j)=io/\at_ X (pl j)=a
 |0,h=>by simp[cnt]at h
 |k+1,h=>by
  rw[iL]at h;rw[nJ];by_cases c:cm X (pl k)=io/\at_ X (pl k)=a
  · rw[if_pos c];exact⟨k,by omega,rfl,c⟩
  rw[if_neg c]at h ⊢;obtain⟨j,hj,r⟩:=Gr (k:=k) (by omega);exact⟨j,by omega,r⟩
theorem Bp{X:List Cr}{io:Bool}{a:Nat}:∀{k j:Nat},j<k->cm X (pl j)=io->at_ X (pl j)=a->1<=cnt X io k a
 |k+1,j,hj,h1,h2=>by
  rw[iL];by_cases c:j=k
  · subst c;rw[if_pos ⟨h1,h2⟩];omega
  have:=Bp (k:=k) (j:=j) (by omega) h1 h2;omega
theorem GX{X:List Cr}{io:Bool}{a:Nat}:∀{k i j:Nat},i<j->j<k->cm X (pl i)=io->at_ X (pl i)=a->cm X (pl j)=io->at_ X (pl j)=a->2<=cnt X io k a
 |k+1,i,j,wB,hj,h1,h2,h3,h4=>by
  rw[iL];by_cases c:j=k
  · subst c
    have:=Bp (k:=j) wB h1 h2
    rw[if_pos ⟨h3,h4⟩];omega
  have:=GX (k:=k) wB (by omega) h1 h2 h3 h4;omega
def aq(X:List Cr)(p:Pl):Prop:=p.1<X.length/\p.2<4
def oM(X:List Cr)(a:Nat):Pl:=last X true (4*X.length) a
def fH(X:List Cr)(a:Nat):Pl:=last X false (4*X.length) a
def aF(X:List Cr)(io:Bool)(a:Nat):Pl:=last X io (4*X.length) a
structure Ok(X:List Cr):Prop where
 wN:∀p,aq X p->1<=at_ X p/\at_ X p<=(ag X:Int)
 end_:∀(io:Bool) (a:Nat),1<=a->a<=ag X->aq X (aF X io a)/\cm X (aF X io a)=io/\at_ X (aF X io a)=a
 uniq:∀p q,aq X p->aq X q->cm X p=cm X q->at_ X p=at_ X q->p=q
theorem fI{X:List Cr}(h:j<4*X.length):aq X (pl j):=⟨by unfold pl;simp only;omega,by unfold pl;simp only;omega⟩
theorem gi{X:List Cr}{p:Pl}(h:aq X p):pk p<4*X.length:=by
 unfold pk;have:=h.1;have:=h.2;omega
theorem Ct(X:List Cr):okB X=true↔Ok X:=by
 rw[uN];constructor
 · rintro⟨h1,h2⟩
   have hr:∀p,aq X p->1<=at_ X p/\at_ X p<=(ag X:Int):=λp hp=>by
    have:=h1 (pk p) (gi hp)
    rwa [jX hp.2]at this
   refine⟨hr,λio a ha hb=>?_,λp q hp hq hc ha=>?_⟩
   · have h3:1<=cnt X io (4*X.length) a:=by
      have:=h2 a ha hb
      cases io<;>omega
     obtain⟨j,hj,e,e1,e2⟩:=Gr h3;unfold aF;rw[e];exact⟨fI hj,e1,e2⟩
   obtain⟨h3,h4⟩:=hr p hp
   obtain⟨n,hn⟩:∃n:Nat,at_ X p=n:=⟨(at_ X p).toNat,by omega⟩
   have h5:=h2 n (by omega) (by omega)
   have h6:cnt X (cm X p) (4*X.length) n=1:=by cases cm X p<;>first|exact h5.2|exact h5.1
   rcases lt_trichotomy (pk p) (pk q)with c|c|c
   · have:=GX (X:=X) (io:=cm X p) (a:=n) c (gi hq) (by rw[jX hp.2]) (by rw[jX hp.2];exact hn) (by rw[jX hq.2];exact hc.symm) (by rw[jX hq.2,<-ha];exact hn)
     omega
   · have:pl (pk p)=pl (pk q):=by rw[c]
     rwa [jX hp.2,jX hq.2]at this
   have:=GX (X:=X) (io:=cm X p) (a:=n) c (gi hp) (by rw[jX hq.2];exact hc.symm) (by rw[jX hq.2,<-ha];exact hn) (by rw[jX hp.2]) (by rw[jX hp.2];exact hn);omega
 intro h;refine⟨λj hj=>h.wN _ (fI hj),λa ha hb=>?_⟩
 have key:∀io,cnt X io (4*X.length) a=1:=λio=>by
  obtain⟨h1,h2,h3⟩:=h.end_ io a ha hb;have hp:1<=cnt X io (4*X.length) a:=Bp (gi h1) (by rw[jX h1.2];exact h2) (by rw[jX h1.2];exact h3)
  have hu:∀k,k<=4*X.length->cnt X io k a<=if pk (aF X io a)<k then 1 else 0:=by
   intro k
   induction k with
   |zero=>intro _;simp[cnt]
   |succ k ih=>
    intro hk;have h4:=ih (by omega);rw[iL];by_cases c:cm X (pl k)=io/\at_ X (pl k)=a
    · have:pl k=aF X io a:=h.uniq _ _ (fI (by omega)) h1 (c.1.trans h2.symm) (c.2.trans h3.symm)
      have e:k=pk (aF X io a):=by
       rw[<-this];unfold pk pl;simp only;omega
      rw[<-e]at h4 ⊢;rw[if_neg (by omega)]at h4
      rw[if_pos c,if_pos (by omega)];omega
    rw[if_neg c]
    split at h4<;>split<;>omega
  have:=hu _ (jH _)
  split at this<;>omega
 exact⟨key true,key false⟩
instance (X:List Cr):Decidable (Ok X):=decidable_of_iff _ (Ct X)
def aa(X:List Cr)(p:Pl):Nat:=(at_ X p).toNat
def other(X:List Cr)(p:Pl):Pl:=aF X (!cm X p) (aa X p)
def Jl(X:List Cr)(a:Nat):Nat:=aa X ((aF X true a).1,((aF X true a).2+2)%4)
abbrev Dt:=Nat×Bool
def head(X:List Cr)(d:Dt):Pl:=aF X (!d.2) d.1
def left(X:List Cr)(d:Dt):Dt:=(aa X ((head X d).1,((head X d).2+3)%4),cm X ((head X d).1,((head X d).2+3)%4))
def ah(X:List Cr)(a:Nat):Prop:=1<=a/\a<=ag X
section
variable {X:List Cr}
theorem Ok.cT(h:Ok X){p:Pl}(hp:aq X p):((aa X p:Nat):Int)=at_ X p:=by
 have:=h.wN p hp;unfold aa;omega
theorem Ok.ah(h:Ok X){p:Pl}(hp:aq X p):ah X (aa X p):=by
 have:=h.wN p hp;have:=h.cT hp;unfold Kn.ah;omega
theorem Ok.aD(h:Ok X)(ha:Kn.ah X a):aq X (aF X io a):=(h.end_ io a ha.1 ha.2).1
theorem Ok.bT(h:Ok X)(ha:Kn.ah X a):cm X (aF X io a)=io:=(h.end_ io a ha.1 ha.2).2.1
theorem Ok.at_end(h:Ok X)(ha:Kn.ah X a):at_ X (aF X io a)=a:=(h.end_ io a ha.1 ha.2).2.2
theorem Ok.bH(h:Ok X)(ha:Kn.ah X a):aa X (aF X io a)=a:=by
 unfold aa;rw[h.at_end ha];rfl
theorem Ok.mK(h:Ok X){p:Pl}(hp:aq X p):aF X (cm X p) (aa X p)=p:=
 h.uniq _ _ (h.aD (h.ah hp)) hp (h.bT (h.ah hp)) (by rw[h.at_end (h.ah hp),h.cT hp])
theorem Ok.aM(h:Ok X){p:Pl}(hp:aq X p):aq X (other X p):=h.aD (h.ah hp)
theorem Ok.dA(h:Ok X){p:Pl}(hp:aq X p):cm X (other X p)=!cm X p:=h.bT (h.ah hp)
theorem Ok.cK(h:Ok X){p:Pl}(hp:aq X p):aa X (other X p)=aa X p:=h.bH (h.ah hp)
theorem Ok.bU(h:Ok X){p:Pl}(hp:aq X p):other X (other X p)=p:=by
 have h1:=h.mK hp
 show aF X (!cm X (other X p)) (aa X (other X p))=p
 rw[h.dA hp,h.cK hp,not_not,h1]
theorem dt{p:Pl}(hp:aq X p)(k:Nat):aq X (p.1,(p.2+k)%4):=⟨hp.1,jQ _ (by omega)⟩
theorem Ok.bg(h:Ok X){d:Dt}(ha:Kn.ah X d.1):aq X (head X d):=h.aD ha
theorem Ok.dD(h:Ok X){d:Dt}(ha:Kn.ah X d.1):Kn.ah X (left X d).1:=h.ah (dt (h.bg ha) 3)
end
def Ed(k:Nat):Dt:=(k / 2+1,decide (k%2=1))
def dM(X:List Cr):List Dt:=(range (4*X.length)).map Ed
def aA(X:List Cr):List (List Dt):=rings (left X) (4*X.length+1) [] (dM X)
def yA(X:List Cr):List Nat:=(range (ag X)).map (· + 1)
theorem mF(h:Ed j=Ed k):j=k:=by
 unfold Ed at h
 injection h with h1 h2
 have:(j%2=1)↔(k%2=1):=by
  constructor<;>intro e
  · exact jl (h2 ▸ jk e)
  exact jl (h2.symm ▸ jk e)
 omega
theorem pI(X:List Cr):(dM X).Nodup:=by
 unfold dM;rw[Nodup,pairwise_map];exact imp (λhne e=>hne (mF e)) (jK)
theorem bW{X:List Cr}{d:Dt}:d∈dM X↔ah X d.1:=by
 unfold dM ah ag;rw[jv];constructor
 · rintro⟨k,hk,rfl⟩
   rw[jw]at hk
   unfold Ed;simp only;omega
 rintro⟨h1,h2⟩;obtain⟨a,b⟩:=d;refine⟨2*(a-1)+if b then 1 else 0,jw.2 (by cases b<;>simp<;>simp only at h2<;>omega),?_⟩;unfold Ed
 cases b<;>simp<;>simp only at h1<;>omega
theorem fL(X:List Cr):(dM X).length=4*X.length:=by simp[dM]
theorem eI{X:List Cr}:a∈yA X↔ah X a:=by
 unfold yA ah;rw[jv];constructor
 · rintro⟨k,hk,rfl⟩
   rw[jw]at hk;omega
 rintro⟨h1,h2⟩;exact⟨a-1,jw.2 (by omega),by omega⟩
theorem wI(X:List Cr):(yA X).Nodup:=by
 unfold yA;rw[Nodup,pairwise_map];exact imp (λhne e=>hne (by omega)) (jK)
theorem pM(X:List Cr):(yA X).length=ag X:=by simp[yA]
theorem fK{X:List Cr}(h:Ok X):(aA X).flatten.Perm (dM X):=
 Ls _ (pI X) (λd hd=>bW.2 (h.dD (bW.1 hd))) (by omega)
section
variable (nb:Nat->List Nat) (seen:List Nat)
def mL:List Nat->List Nat->List Nat
 |l,[]=>l
 |l,k :: ks=>mL (if k∈seen\/k∈l then l else l++[k]) ks
def grow:Nat->Nat->List Nat->List Nat
 |0,_,l=>l
 |k+1,i,l=>if i<l.length then grow k (i+1) (mL seen l (nb (l.getD i 0)))else l
inductive yE:Nat->Nat->Prop
 |refl (c:Nat):yE c c
 |step {c d e:Nat}:yE c d->e∈nb d->yE c e
variable {nb seen}
theorem yE.trans{c d e:Nat}(h:yE nb c d)(k:yE nb d e):yE nb c e:=by
 induction k with
 |refl=>exact h
 |step _ he ih=>exact .step ih he
theorem yE.symm(hs:∀x y,y∈nb x->x∈nb y){c d:Nat}(h:yE nb c d):yE nb d c:=by
 induction h with
 |refl=>exact .refl _
 |step _ he ih=>exact(yE.step (.refl _) (hs _ _ he)).trans ih
theorem Yj:x∈(if k∈seen\/k∈l then l else l++[k])↔x∈l\/(x=k/\k∉seen):=by
 split
 · next h=>
   constructor
   · exact .inl
   rintro(h1|⟨rfl,h2⟩)
   · exact h1
   exact h.resolve_left h2
 next h=>
 rw[jx,jB];constructor
 · rintro(h1|rfl)
   · exact .inl h1
   exact .inr ⟨rfl,λe=>h (.inl e)⟩
 rintro(h1|⟨rfl,_⟩)
 · exact .inl h1
 exact .inr rfl
theorem tO:∀{ks l:List Nat} {x:Nat},x∈mL seen l ks↔x∈l\/(x∈ks/\x∉seen)
 |[],l,x=>by rw[mL];simp
 |k :: ks,l,x=>by
  rw[mL,tO,Yj,jy];constructor
  · rintro((h|⟨rfl,h⟩)|⟨h,h2⟩)
    · exact .inl h
    · exact .inr ⟨.inl rfl,h⟩
    exact .inr ⟨.inr h,h2⟩
  rintro(h|⟨rfl|h,h2⟩)
  · exact .inl (.inl h)
  · exact .inl (.inr ⟨rfl,h2⟩)
  exact .inr ⟨h,h2⟩
theorem X7(l:List Nat)(k:Nat):l <+: (if k∈seen\/k∈l then l else l++[k]):=by
 split
 · exact prefix_refl _
 exact List.prefix_append _ _
theorem Dv:∀(ks l:List Nat),l <+: mL seen l ks
 |[],l=>by rw[mL];exact prefix_refl _
 |k :: ks,l=>by rw[mL];exact(X7 l k).trans (Dv ks _)
theorem Qc(h:l.Nodup)(k:Nat):(if k∈seen\/k∈l then l else l++[k]).Nodup:=by
 split
 · exact h
 next c=>exact gK h λe=>c (.inr e)
theorem wK:∀(ks:List Nat) {l:List Nat},l.Nodup->(mL seen l ks).Nodup
 |[],l,h=>by rw[mL];exact h
 |k :: ks,l,h=>by rw[mL];exact wK ks (Qc h k)
theorem JP:∀(k i:Nat) (l:List Nat),l <+: grow nb seen k i l
 |0,_,l=>by rw[grow];exact prefix_refl _
 |k+1,i,l=>by
  rw[grow];split
  · exact(Dv _ _).trans (JP k _ _)
  exact prefix_refl _
theorem C0:∀(k i:Nat) {l:List Nat},l.Nodup->(grow nb seen k i l).Nodup
 |0,_,l,h=>by rw[grow];exact h
 |k+1,i,l,h=>by
  rw[grow];split
  · exact C0 k _ (wK _ h)
  exact h
theorem tY(h:i<l.length):l.getD i 0∈l:=by
 rw[jc,je h];exact jM h
theorem C3{P:Nat->Prop}(hP:∀x,P x->∀y∈nb x,y∉seen->P y):∀(k i:Nat) {l:List Nat},(∀x∈l,P x)->∀x∈grow nb seen k i l,P x
 |0,_,l,h=>by rw[grow];exact h
 |k+1,i,l,h=>by
  rw[grow];split
  · next c=>
    refine C3 hP k _ λx hx=>?_
    rcases tO.1 hx with h1|⟨h1,h2⟩
    · exact h x h1
    exact hP _ (h _ (tY c)) x h1 h2
  exact h
theorem Al{m:List Nat}(hm:∀x∈m,∀y∈nb x,y∈m):∀(k i:Nat) {l:List Nat},l.Nodup->(∀x∈l,x∈m)->(∀j,j<i->j<l.length->∀y∈nb (l.getD j 0),y∈seen\/y∈l)->m.length+1<=k+i ->
 ∀x∈grow nb seen k i l,∀y∈nb x,y∈seen\/y∈grow nb seen k i l
 |0,i,l,hn,hl,hc,hk,x,hx,y,hy=>by
  rw[grow]at hx ⊢;have:=ft hn hl;obtain⟨j,hj,rfl⟩:=List.getElem_of_mem hx
  refine hc j (by omega) hj y ?_
  rwa [jc,je hj]
 |k+1,i,l,hn,hl,hc,hk,x,hx,y,hy=>by
  rw[grow]at hx ⊢;by_cases c:i<l.length;rotate_left
  · rw[if_neg c]at hx ⊢
    obtain⟨j,hj,rfl⟩:=List.getElem_of_mem hx
    refine hc j (by omega) hj y ?_
    rwa [jc,je hj]
  rw[if_pos c]at hx ⊢
  refine Al hm k (i+1) (wK _ hn) (λx hx=>?_) (λj hj W6 y hy=>?_) (by omega) x hx y hy
  · rcases tO.1 hx with h1|⟨h1,h2⟩
    · exact hl x h1
    exact hm _ (hl _ (tY c)) x h1
  have ahR:j<l.length:=by omega
  have e:(mL seen l (nb (l.getD i 0))).getD j 0=l.getD j 0:=by
   obtain⟨t,ht⟩:=Dv (seen:=seen) (nb (l.getD i 0)) l;rw[<-ht,jc,List.getElem?_append_left ahR,jc]
  rw[e]at hy;by_cases d:y∈seen
  · exact .inl d
  right;rw[tO]
  rcases Nat.lt_or_ge j i with c1|c1
  · exact .inl ((hc j c1 ahR y hy).resolve_left d)
  obtain rfl:j=i:=by omega
  exact .inr ⟨hy,d⟩
theorem QY(hm:∀x∈m,∀y∈nb x,y∈m){c:Nat}(hc:c∈m)(hs:∀x y,y∈nb x->x∈nb y)(vB:∀x∈seen,∀y∈nb x,y∈seen)(hcs:c∉seen)(hk:m.length+1<=k):
 x∈grow nb seen k 0 [c]↔yE nb c x:=by
 constructor
 · intro h
   refine C3 (P:=yE nb c) (λx hx y hy _=>.step hx hy) k 0 (l:=[c]) (λx hx=>?_) x h
   rw[jB]at hx;subst hx;exact .refl _
 intro h;have GG:=Al (seen:=seen) hm k 0 (l:=[c]) (by simp) (λx hx=>by rw[jB]at hx;subst hx;exact hc) (λj hj=>by omega) (by omega)
 have hns:∀x∈grow nb seen k 0 [c],x∉seen:=C3 (P:=λx=>x∉seen) (λ_ _ _ _ h=>h) k 0 (l:=[c]) (λx hx=>by rw[jB]at hx;subst hx;exact hcs)
 induction h with
 |refl=>exact(JP k 0 [c]).subset (by simp)
 |step hd he ih=>
  rcases GG _ ih _ he with h1|h1
  · exact absurd (vB _ h1 _ (hs _ _ he)) (hns _ ih)
  exact h1
end
def ins(x:Nat):List Nat->List Nat
 |[]=>[x]
 |y :: ys=>if x<=y then x :: y :: ys else y :: ins x ys
def ou:List Nat->List Nat
 |[]=>[]
 |x :: xs=>ins x (ou xs)
theorem CO(x:Nat):∀l,(ins x l).Perm (x :: l)
 |[]=>.refl _
 |y :: ys=>by
  rw[ins];split
  · exact .refl _
  exact((CO x ys).cons y).trans (.swap _ _ _)
theorem lG:∀l,(ou l).Perm l
 |[]=>.refl _
 |x :: xs=>by rw[ou];exact(CO x _).trans ((lG xs).cons x)
theorem CN(x:Nat):∀{l:List Nat},l.Pairwise (·<=·)->(ins x l).Pairwise (·<=·)
 |[],_=>by rw[ins];simp
 |y :: ys,h=>by
  rw[pairwise_cons]at h
  rw[ins];split
  · next c=>
    rw[pairwise_cons,pairwise_cons];refine⟨λz hz=>?_,h⟩
    rcases jy.1 hz with rfl|hz
    · exact c
    exact jJ c (h.1 z hz)
  next c=>
  rw[pairwise_cons];refine⟨λz hz=>?_,CN x h.2⟩
  rcases jy.1 ((CO x ys).mem_iff.1 hz)with rfl|hz
  · omega
  exact h.1 z hz
theorem xR:∀l,(ou l).Pairwise (·<=·)
 |[]=>by rw[ou];simp
 |x :: xs=>by rw[ou];exact CN x (xR xs)
def KU(X:List Cr)(c:Nat):List Nat:=[(other X (c,0)).1,(other X (c,1)).1,(other X (c,2)).1,(other X (c,3)).1]
def eo(X:List Cr)(seen:List Nat)(c:Nat):List Nat:=grow (KU X) seen (X.length+1) 0 [c]
def cG(X:List Cr):List Nat->List Nat->List (List Nat)
 |_,[]=>[]
 |seen,c :: cs=>if c∈seen then cG X seen cs else ou (eo X seen c) :: cG X (seen++eo X seen c) cs
def aC(X:List Cr):List (List Nat):=cG X [] (range X.length)
theorem tK(X:List Cr)(seen:List Nat):cG X seen []=[]:=by rw[cG]
theorem sG{X:List Cr}{cs:List Nat}{c:Nat}(h:c∈seen):cG X seen (c :: cs)=cG X seen cs:=by rw[cG,if_pos h]
theorem tL{X:List Cr}{cs:List Nat}{c:Nat}(h:c∉seen):cG X seen (c :: cs)=ou (eo X seen c) :: cG X (seen++eo X seen c) cs:=by rw[cG,if_neg h]
section
variable {X:List Cr}
theorem uO{c e:Nat}:e∈KU X c↔∃s,s<4/\e=(other X (c,s)).1:=by
 unfold KU;simp only[jy,jz,or_false];constructor
 · rintro(h|h|h|h)
   · exact⟨0,by omega,h⟩
   · exact⟨1,by omega,h⟩
   · exact⟨2,by omega,h⟩
   exact⟨3,by omega,h⟩
 rintro⟨s,hs,h⟩
 match s,hs with
 |0,_=>exact .inl h
 |1,_=>exact .inr (.inl h)
 |2,_=>exact .inr (.inr (.inl h))
 |3,_=>exact .inr (.inr (.inr h))
theorem Ok.Gg(h:Ok X){c e:Nat}(hc:c<X.length)(he:e∈KU X c):e<X.length:=by
 obtain⟨s,hs,rfl⟩:=uO.1 he;exact(h.aM ⟨hc,hs⟩).1
theorem Ok.T8(h:Ok X){c e:Nat}(hc:c<X.length)(he:e∈KU X c):c∈KU X e:=by
 obtain⟨s,hs,rfl⟩:=uO.1 he;have hp:aq X (c,s):=⟨hc,hs⟩
 refine uO.2 ⟨(other X (c,s)).2,(h.aM hp).2,?_⟩
 have:=h.bU hp;rw[show ((other X (c,s)).1,(other X (c,s)).2)=other X (c,s)from rfl,this]
def D8(X:List Cr)(c:Nat):List Nat:=if c<X.length then KU X c else []
theorem Ok.xG(h:Ok X):∀x y,y∈D8 X x->x∈D8 X y:=by
 intro x y hy;unfold D8 at hy ⊢;by_cases c:x<X.length
 · rw[if_pos c]at hy
   rw[if_pos (h.Gg c hy)];exact h.T8 c hy
 rw[if_neg c]at hy;cases hy
theorem JQ(h:Ok X){seen:List Nat}:∀(k i:Nat) {l:List Nat},(∀x∈l,x<X.length)->grow (KU X) seen k i l=grow (D8 X) seen k i l
 |0,_,l,_=>by rw[grow,grow]
 |k+1,i,l,hl=>by
  rw[grow,grow];by_cases c:i<l.length
  · have hx:l.getD i 0<X.length:=hl _ (tY c)
    have e:D8 X (l.getD i 0)=KU X (l.getD i 0):=by unfold D8;rw[if_pos hx]
    rw[if_pos c,if_pos c,e]
    refine JQ h k _ λx OD=>?_
    rcases tO.1 OD with h1|⟨h1,_⟩
    · exact hl x h1
    exact h.Gg hx h1
  rw[if_neg c,if_neg c]
abbrev Z6(X:List Cr):Nat->Nat->Prop:=yE (D8 X)
theorem Ok.VI(h:Ok X){c d:Nat}(hc:c<X.length)(k:Z6 X c d):d<X.length:=by
 induction k with
 |refl=>exact hc
 |step hd he ih=>
  unfold D8 at he;rw[if_pos ih]at he;exact h.Gg ih he
theorem Ok.EU(h:Ok X){c:Nat}(hc:c<X.length)(vB:∀x∈seen,∀y∈D8 X x,y∈seen)(hcs:c∉seen):x∈eo X seen c↔Z6 X c x:=by
 unfold eo;rw[JQ h _ _ (by intro x hx;rw[jB]at hx;subst hx;exact hc)]
 refine QY (m:=range X.length) (λx hx y hy=>?_) (jw.2 hc) h.xG vB hcs (by simp)
 rw[jw]at hx ⊢;unfold D8 at hy;rw[if_pos hx]at hy;exact h.Gg hx hy
theorem D7(X:List Cr)(seen:List Nat)(c:Nat):(eo X seen c).Nodup:=C0 _ _ (by simp)
structure eM(X:List Cr)(l:List Nat):Prop where
 ne:l≠[]
 nodup:l.Nodup
 fA:∀c∈l,c<X.length/\∀x,x∈l↔Z6 X c x
theorem Ok.piece(h:Ok X){c:Nat}(hc:c<X.length)(vB:∀x∈seen,∀y∈D8 X x,y∈seen)(hcs:c∉seen):eM X (eo X seen c):=by
 have hm:=λx=>h.EU hc vB hcs (x:=x)
 refine⟨ne_nil_of_mem ((hm c).2 (.refl _)),D7 X seen c,λd hd=>?_⟩;have hcd:=(hm d).1 hd;refine⟨h.VI hc hcd,λx=>?_⟩;rw[hm];exact⟨λk=>(hcd.symm h.xG).trans k,λk=>hcd.trans k⟩
theorem eM.perm{l':List Nat}(h:eM X l)(hp:l'.Perm l):eM X l':=
 ⟨λe=>h.ne (by subst e;exact hp.symm.eq_nil),hp.nodup_iff.2 h.nodup,λc hc=>⟨(h.fA c (hp.mem_iff.1 hc)).1,λx=>hp.mem_iff.trans ((h.fA c (hp.mem_iff.1 hc)).2 x)⟩⟩
theorem Ok.pieces(h:Ok X):∀(cs:List Nat) {seen:List Nat},(∀c∈cs,c<X.length)->(∀x∈seen,∀y∈D8 X x,y∈seen)->seen.Nodup ->
 (∀l∈cG X seen cs,eM X l)/\(seen++(cG X seen cs).flatten).Nodup/\(∀x,x∈seen\/x∈cs->x∈seen++(cG X seen cs).flatten)/\∀x,x∈(cG X seen cs).flatten->x<X.length
 |[],seen,_,_,hn=>by
  rw[tK];simpa using hn
 |c :: cs,seen,hc,hs,hn=>by
  by_cases d:c∈seen
  · rw[sG d]
    obtain⟨h1,h2,h3,h4⟩:=h.pieces cs (λx hx=>hc x (by simp[hx])) hs hn;refine⟨h1,h2,λx hx=>h3 x ?_,h4⟩
    rcases hx with hx|hx
    · exact .inl hx
    rcases jy.1 hx with rfl|hx
    · exact .inl d
    exact .inr hx
  have GG:c<X.length:=hc c (by simp);have hp:=h.piece GG hs d
  have hm:=λx=>h.EU GG hs d (x:=x)
  have an5:∀x∈eo X seen c,x∉seen:=λx hx WZ=>by
   have:∀y,Z6 X x y->y∈seen:=λy hy=>by
    induction hy with
    |refl=>exact WZ
    |step _ he ih=>exact hs _ ih _ he
   exact d (this c (((hm x).1 hx).symm h.xG))
  have Gz:(seen++eo X seen c).Nodup:=by
   rw[jU];exact⟨hn,hp.nodup,λa ha b hb e=>an5 b hb (e ▸ ha)⟩
  have R7:∀x∈seen++eo X seen c,∀y∈D8 X x,y∈seen++eo X seen c:=λx hx y hy=>by
   rw[jx]at hx ⊢
   rcases hx with hx|hx
   · exact .inl (hs x hx y hy)
   exact .inr ((hm y).2 (.step ((hm x).1 hx) hy))
  obtain⟨h1,h2,h3,h4⟩:=h.pieces cs (λx hx=>hc x (by simp[hx])) R7 Gz;rw[tL d]
  have tV:(seen++(ou (eo X seen c) :: cG X (seen++eo X seen c) cs).flatten).Perm (seen++eo X seen c++(cG X (seen++eo X seen c) cs).flatten):=by
   rw[flatten_cons,append_assoc];exact List.Perm.append_left _ (List.Perm.append_right _ (lG _))
  refine⟨λl hl=>?_,tV.nodup_iff.2 h2,λx hx=>tV.mem_iff.2 (h3 x ?_),λx hx=>?_⟩
  · rcases jy.1 hl with rfl|hl
    · exact hp.perm (lG _)
    exact h1 l hl
  · rcases hx with hx|hx
    · exact .inl (by simp[hx])
    rcases jy.1 hx with rfl|hx
    · exact .inl (jx.2 (.inr ((hm _).2 (.refl _))))
    exact .inr hx
  rw[flatten_cons,jx]at hx
  rcases hx with hx|hx
  · exact(hp.fA x ((lG _).mem_iff.1 hx)).1
  exact h4 x hx
theorem Ok.eG(h:Ok X):(aC X).flatten.Perm (range X.length):=by
 obtain⟨_,h2,h3,h4⟩:=h.pieces (range X.length) (seen:=[]) (λc hc=>jw.1 hc) (λx hx=>by cases hx) (by simp);rw[nil_append]at h2
 refine(jR h2 jK).2 λx=>⟨λhx=>jw.2 (h4 x hx),λhx=>?_⟩
 have:=h3 x (.inr hx)
 rwa [nil_append]at this
theorem Ok.nE(h:Ok X):∀l∈aC X,eM X l:=
 (h.pieces (range X.length) (seen:=[]) (λc hc=>jw.1 hc) (λx hx=>by cases hx) (by simp)).1
end
def er(X:List Cr)(c:Nat):Nat:=(aC X).findIdx λl=>l.contains c
def nh(X:List Cr)(i:Nat):Nat:=(aA X).countP λf=>decide (er X (head X (f.headD (0,false))).1=i)
def aJ(X:List Cr):Bool:=(range (aC X).length).all λi=>decide (nh X i=((aC X).getD i []).length+2)
abbrev Vw:=List Nat×List Int
def N1(x:Cr):Int:=if x.p then 1 else 0
def xm(X:List Cr)(st:Vw)(p:Pl):Vw:=
 (if (other X p).1∈st.1 then st.1 else st.1++[(other X p).1],st.2++[((st.1.idxOf (other X p).1:Nat):Int),(((other X p).2:Nat):Int)])
def II(X:List Cr)(c:Nat):Nat->Vw->Vw
 |0,st=>st
 |k+1,st=>xm X (II X c k st) (c,k)
def Tf(X:List Cr)(st:Vw)(c:Nat):Vw:=II X c 4 (st.1,st.2++[N1 (cr X c)])
def BZ(X:List Cr):Nat->Nat->Vw->Vw
 |0,_,st=>st
 |k+1,i,st=>if i<st.1.length then BZ X k (i+1) (Tf X st (st.1.getD i 0))else st
def see(X:List Cr)(c:Nat):Vw:=BZ X (X.length+1) 0 ([c],[])
def GY(a b:Int):Int:=if a<b then -1 else if b<a then 1 else 0
def cmpL:List Int->List Int->Int
 |[],[]=>0
 |[],_ :: _=>-1
 |_ :: _,[]=>1
 |x :: xs,y :: ys=>if GY x y=0 then cmpL xs ys else GY x y
theorem Fp{a b:Int}:GY a b=0↔a=b:=by unfold GY;split<;>(try split)<;>omega
theorem Rc(a b:Int):GY b a = -GY a b:=by unfold GY;split<;>split<;>(try split)<;>omega
theorem Fo:∀l m:List Int,cmpL m l = -cmpL l m
 |[],[]=>rfl
 |[],_ :: _=>rfl
 |_ :: _,[]=>rfl
 |x :: xs,y :: ys=>by
  rw[cmpL,cmpL,Rc x y];by_cases c:GY x y=0
  · rw[if_pos (by omega),if_pos c,Fo xs ys]
  rw[if_neg (by omega),if_neg c]
theorem Fm:∀{l m:List Int},cmpL l m=0↔l=m
 |[],[]=>by simp[cmpL]
 |[],_ :: _=>by simp[cmpL]
 |_ :: _,[]=>by simp[cmpL]
 |x :: xs,y :: ys=>by
  rw[cmpL,List.cons.injEq];by_cases c:GY x y=0
  · rw[if_pos c,Fm,<-Fp];simp[c]
  rw[if_neg c,<-Fp (a:=x)];simp[c]
def meet(N:List Nat)(a:Nat):List Nat:=if a∈N then N else N++[a]
def Cr.ren(x:Cr)(f:Nat->Nat):Cr:=⟨f x.a.toNat,f x.b.toNat,f x.c.toNat,f x.d.toNat,x.p⟩
def chunk(X:List Cr)(l:List Nat)(c:Nat):List Int:=
 [N1 (cr X c),(l.idxOf (other X (c,0)).1:Nat),((other X (c,0)).2:Nat),(l.idxOf (other X (c,1)).1:Nat),((other X (c,1)).2:Nat),
  (l.idxOf (other X (c,2)).1:Nat),((other X (c,2)).2:Nat),(l.idxOf (other X (c,3)).1:Nat),((other X (c,3)).2:Nat)]
theorem Rf(X:List Cr)(l:List Nat)(c:Nat):(chunk X l c).length=9:=rfl
section
variable {X:List Cr}
theorem eM.le(h:eM X l):l.length<=X.length:=by
 have:=ft h.nodup (m:=range X.length) (λx hx=>jw.2 (h.fA x hx).1);simpa using this
theorem JT{f:Nat->List Int}(hf:∀c,(f c).length=9):(l.flatMap f).length=9*l.length:=by
 induction l with
 |nil=>rfl
 |cons x xs ih=>rw[flatMap_cons,ju,ih,hf,jE];omega
end
theorem tM(hl:l.Nodup)(hm:m.Nodup)(hs:∀x∈l,x∈m)(hlen:m.length<=l.length):l.Perm m:=by
 refine(jR hl hm).2 λx=>⟨hs x,λhx=>?_⟩
 refine js λc=>?_
 have:=fuel hl hs c hx;omega
theorem uR(hl:l.Nodup)(rP:∀x∈l,∀y∈l,f x=f y->x=y):(l.map f).Nodup:=by
 rw[Nodup,pairwise_map]
 refine imp_of_mem (λhx hy hne e=>?_) hl
 exact hne (rP _ hx _ hy e)
theorem xW(hl:l.Nodup)(hf:∀x∈l,f x∈l)(rP:∀x∈l,∀y∈l,f x=f y->x=y):(l.map f).Perm l:=
 tM (uR hl rP) hl (λx hx=>by obtain⟨y,hy,rfl⟩:=jv.1 hx;exact hf y hy) (by simp)
structure wQ(X Y:List Cr)(f t:Nat->Nat):Prop where
 len:Y.length=X.length
 lt:∀i,i<X.length->f i<X.length
 inj:∀i j,i<X.length->j<X.length->f i=f j->i=j
 cr_:∀i,i<X.length->cr Y i=(cr X (f i)).ren t
 tlt:∀a,ah X a->ah X (t a)
 ab0:∀a b,ah X a->ah X b->t a=t b->a=b
theorem F4(x:Cr)(t:Nat->Nat)(s:Nat):(x.ren t).ie s=(t (x.ie s).toNat:Nat):=by
 unfold Cr.ren Cr.ie;split
 · rfl
 split
 · rfl
 split<;>rfl
theorem Oe{X:List Cr}(h1:∀p,aq X p->1<=at_ X p/\at_ X p<=(ag X:Int))(h2:∀(io:Bool) (a:Nat),ah X a->∃p,aq X p/\cm X p=io/\at_ X p=a)
 (h3:∀p q,aq X p->aq X q->cm X p=cm X q->at_ X p=at_ X q->p=q):Ok X:=by
 refine⟨h1,λio a ha hb=>?_,h3⟩;obtain⟨p,hp,e1,e2⟩:=h2 io a ⟨ha,hb⟩;have DS:1<=cnt X io (4*X.length) a:=Bp (gi hp) (by rw[jX hp.2];exact e1) (by rw[jX hp.2];exact e2);obtain⟨j,hj,e,e3,e4⟩:=Gr DS;unfold aF;rw[e];exact⟨fI hj,e3,e4⟩
section
variable {X Y:List Cr} {f t:Nat->Nat}
theorem wQ.Pa(h:wQ X Y f t):ag Y=ag X:=by unfold ag;rw[h.len]
theorem wQ.aml(h:wQ X Y f t){c:Nat}(hc:c<X.length):∃i,i<X.length/\f i=c:=by
 have:=xW (l:=range X.length) jK (f:=f) (λx hx=>jw.2 (h.lt x (jw.1 hx))) (λx hx y hy=>h.inj x y (jw.1 hx) (jw.1 hy));obtain⟨i,hi,e⟩:=jv.1 (this.mem_iff.2 (jw.2 hc));exact⟨i,jw.1 hi,e⟩
theorem wQ.agc(h:wQ X Y f t){c:Nat}(hc:ah X c):∃i,ah X i/\t i=c:=by
 have:=xW (l:=yA X) (wI X) (f:=t) (λx hx=>eI.2 (h.tlt x (eI.1 hx))) (λx hx y hy=>h.ab0 x y (eI.1 hx) (eI.1 hy));obtain⟨i,hi,e⟩:=jv.1 (this.mem_iff.2 (eI.2 hc));exact⟨i,eI.1 hi,e⟩
def qE(f:Nat->Nat)(p:Pl):Pl:=(f p.1,p.2)
theorem wQ.ah(h:wQ X Y f t){a:Nat}:ah Y a↔ah X a:=by unfold Kn.ah;rw[h.Pa]
theorem wQ.aq(h:wQ X Y f t){p:Pl}(hp:aq Y p):aq X (qE f p):=⟨h.lt _ (by have:=hp.1;rwa [h.len]at this),hp.2⟩
theorem wQ.at_(h:wQ X Y f t){p:Pl}(hp:Kn.aq Y p):at_ Y p=(t (aa X (qE f p)):Nat):=by
 unfold Kn.at_ aa Kn.at_ qE;rw[h.cr_ _ (by have:=hp.1;rwa [h.len]at this),F4]
theorem wQ.cm(h:wQ X Y f t){p:Pl}(hp:Kn.aq Y p):cm Y p=cm X (qE f p):=by
 unfold Kn.cm qE;rw[h.cr_ _ (by have:=hp.1;rwa [h.len]at this)];rfl
theorem wQ.Gb(h:wQ X Y f t){p q:Pl}(hp:Kn.aq Y p)(hq:Kn.aq Y q)(e:qE f p=qE f q):p=q:=by
 obtain⟨a,b⟩:=p;obtain⟨c,d⟩:=q;unfold qE at e
 injection e with e1 e2
 simp only at e1 e2;rw[h.inj a c (by have:=hp.1;rwa [h.len]at this) (by have:=hq.1;rwa [h.len]at this) e1,e2]
theorem wQ.ok(h:wQ X Y f t)(hX:Ok X):Ok Y:=by
 refine Oe (λp hp=>?_) (λio a ha=>?_) (λp q hp hq hc ha=>?_)
 · rw[h.at_ hp,h.Pa]
   have:=h.tlt _ (hX.ah (h.aq hp))
   unfold Kn.ah at this;omega
 · obtain⟨b,hb,rfl⟩:=h.agc (h.ah.1 ha)
   have hq:=hX.aD (io:=io) hb;obtain⟨i,hi,e⟩:=h.aml hq.1;have hp:Kn.aq Y (i,(aF X io b).2):=⟨by rw[h.len];exact hi,hq.2⟩
   have ep:qE f (i,(aF X io b).2)=aF X io b:=by unfold qE;rw[e]
   refine⟨_,hp,?_,?_⟩
   · rw[h.cm hp,ep,hX.bT hb]
   rw[h.at_ hp,ep,hX.bH hb]
 refine h.Gb hp hq (hX.uniq _ _ (h.aq hp) (h.aq hq) (by rw[<-h.cm hp,<-h.cm hq,hc]) ?_)
 rw[h.at_ hp,h.at_ hq,Int.ofNat_inj]at ha;rw[<-hX.cT (h.aq hp),<-hX.cT (h.aq hq),h.ab0 _ _ (hX.ah (h.aq hp)) (hX.ah (h.aq hq)) ha]
theorem wQ.aa(h:wQ X Y f t){p:Pl}(hp:Kn.aq Y p):aa Y p=t (aa X (qE f p)):=by
 unfold Kn.aa;rw[h.at_ hp];rfl
theorem wQ.other(h:wQ X Y f t)(hX:Ok X){p:Pl}(hp:Kn.aq Y p):qE f (other Y p)=other X (qE f p):=by
 have hY:=h.ok hX;have ho:=hY.aM hp;have h1:=h.aq hp;have h2:=h.aq ho
 refine hX.uniq _ _ h2 (hX.aM h1) ?_ ?_
 · rw[<-h.cm ho,hY.dA hp,hX.dA h1,h.cm hp]
 have e:t (Kn.aa X (qE f (Kn.other Y p)))=t (Kn.aa X (qE f p)):=by rw[<-h.aa ho,<-h.aa hp,hY.cK hp]
 have:=h.ab0 _ _ (hX.ah h2) (hX.ah h1) e;rw[<-hX.cT h2,<-hX.cT (hX.aM h1),hX.cK h1,this]
theorem QE(rP:∀i j,i<n->j<n->f i=f j->i=j)(hl:∀x∈l,x<n)(ha:a<n):(l.map f).idxOf (f a)=l.idxOf a:=by
 induction l with
 |nil=>rfl
 |cons x xs ih=>
  rw[map_cons,List.idxOf_cons,List.idxOf_cons,ih (λy hy=>hl y (by simp[hy]))];by_cases c:x=a
  · subst c;simp
  have:¬f x=f a:=λe=>c (rP x a (hl x (by simp)) ha e)
  have e1:(x==a)=false:=by simpa using c
  have e2:(f x==f a)=false:=by simpa using this
  rw[e1,e2]
theorem Ac(rP:∀i j,i<n->j<n->f i=f j->i=j)(hl:∀x∈l,x<n)(ha:a<n):f a∈l.map f↔a∈l:=by
 rw[jv];exact⟨λ⟨x,hx,e⟩=>rP x a (hl x hx) ha e ▸ hx,λh=>⟨a,h,rfl⟩⟩
structure Rel(n:Nat)(f:Nat->Nat)(s u:Vw):Prop where
 fst:u.1=s.1.map f
 snd:u.2=s.2
 lt:∀x∈s.1,x<n
theorem wQ.xm(h:wQ X Y f t)(hX:Ok X){s u:Vw}(hr:Rel X.length f s u){p:Pl}(hp:Kn.aq Y p):Rel X.length f (xm Y s p) (xm X u (qE f p)):=by
 have ho:=h.other hX hp
 have hl:(Kn.other Y p).1<X.length:=by have:=((h.ok hX).aM hp).1;rwa [h.len]at this
 have e1:(Kn.other X (qE f p)).1=f (Kn.other Y p).1:=by rw[<-ho];rfl
 have e2:(Kn.other X (qE f p)).2=(Kn.other Y p).2:=by rw[<-ho];rfl
 unfold Kn.xm;refine⟨?_,?_,λx hx=>?_⟩
 · simp only
   rw[e1,hr.fst];by_cases c:(Kn.other Y p).1∈s.1
   · rw[if_pos c,if_pos ((Ac h.inj hr.lt hl).2 c)]
   rw[if_neg c,if_neg (λx=>c ((Ac h.inj hr.lt hl).1 x)),jP];rfl
 · simp only
   rw[e1,e2,hr.snd,hr.fst,QE h.inj hr.lt hl]
 simp only at hx;split at hx
 · exact hr.lt x hx
 rcases jx.1 hx with hx|hx
 · exact hr.lt x hx
 rw[jB]at hx;subst hx;exact hl
theorem wQ.Tf(h:wQ X Y f t)(hX:Ok X){s u:Vw}(hr:Rel X.length f s u){i:Nat}(hi:i<X.length):Rel X.length f (Tf Y s i) (Tf X u (f i)):=by
 have hp:∀k,k<4->Kn.aq Y (i,k):=λk hk=>⟨by rw[h.len];exact hi,hk⟩
 have h0:Rel X.length f (s.1,s.2++[N1 (cr Y i)]) (u.1,u.2++[N1 (cr X (f i))]):=by
  refine⟨hr.fst,?_,hr.lt⟩
  simp only
  rw[hr.snd,h.cr_ i hi];rfl
 exact h.xm hX (h.xm hX (h.xm hX (h.xm hX h0 (hp 0 (by omega))) (hp 1 (by omega))) (hp 2 (by omega))) (hp 3 (by omega))
theorem wQ.BZ(h:wQ X Y f t)(hX:Ok X):∀(k i:Nat) {s u:Vw},Rel X.length f s u->Rel X.length f (BZ Y k i s) (BZ X k i u)
 |0,_,s,u,hr=>by rw[Kn.BZ,Kn.BZ];exact hr
 |k+1,i,s,u,hr=>by
  rw[Kn.BZ,Kn.BZ]
  have hl:u.1.length=s.1.length:=by rw[hr.fst];simp
  by_cases c:i<s.1.length
  · rw[if_pos c,if_pos (by omega)]
    refine h.BZ hX k (i+1) ?_
    have e:u.1.getD i 0=f (s.1.getD i 0):=by
     rw[jc,jc,hr.fst,List.getElem?_map,je c];rfl
    rw[e];exact h.Tf hX hr (hr.lt _ (tY c))
  rw[if_neg c,if_neg (by omega)];exact hr
theorem wQ.see(h:wQ X Y f t)(hX:Ok X){i:Nat}(hi:i<X.length):Rel X.length f (see Y i) (see X (f i)):=by
 unfold Kn.see;rw[h.len];exact h.BZ hX _ _ ⟨rfl,rfl,λx hx=>by rw[jB]at hx;subst hx;exact hi⟩
end
def Nb(X:List Cr)(c:Nat)(k:List Int):Prop:=(∃d,Z6 X c d/\(see X d).2=k)/\∀d,Z6 X c d->cmpL k (see X d).2<=0
theorem Nb.uniq{X:List Cr}{c:Nat}{k k':List Int}(h:Nb X c k)(h':Nb X c k'):k=k':=by
 obtain⟨d,hd,rfl⟩:=h.1;obtain⟨d',wC,rfl⟩:=h'.1;have h1:=h.2 d' wC;have h2:=h'.2 d hd;have h3:=Fo (see X d).2 (see X d').2;exact Fm.1 (by omega)
structure aiT(X:List Cr)(v:Vw):Prop where
 piece:eM X v.1
 code:v.2=v.1.flatMap (chunk X v.1)
theorem aiT.len{X:List Cr}{v:Vw}(h:aiT X v):v.2.length=9*v.1.length:=by rw[h.code,JT (Rf X _)]
theorem Ok.p9{X:List Cr}(h:Ok X){p q:Pl}(hp:aq X p)(hq:aq X q):aa X p=aa X q↔q=p\/q=Kn.other X p:=by
 constructor
 · intro e
   have e':Kn.at_ X p=Kn.at_ X q:=by rw[<-h.cT hp,<-h.cT hq,e]
   by_cases c:Kn.cm X p=Kn.cm X q
   · exact .inl (h.uniq _ _ hp hq c e').symm
   right
   refine h.uniq _ _ hq (h.aM hp) ?_ ?_
   · rw[h.dA hp];revert c;cases Kn.cm X p<;>cases Kn.cm X q<;>simp
   rw[<-h.cT (h.aM hp),h.cK hp,h.cT hp,e']
 rintro(rfl|rfl)
 · rfl
 exact(h.cK hp).symm
noncomputable def tr (p:Prop):Bool:=@decide p (Classical.propDecidable p)
theorem bf{p:Prop}:tr p=true↔p:=@decide_eq_true_iff p (Classical.propDecidable p)
theorem fj{p q:Prop}(h:p↔q):tr p=tr q:=by
 rw[jD,bf,bf];exact h
theorem br{p:Prop}:tr p=false↔¬p:=by
 constructor
 · intro h k;rw[bf.2 k]at h;cases h
 intro h;cases c:tr p with
 |false=>rfl
 |true=>exact absurd (bf.1 c) h
def pN(R:Nat->Nat->Prop)(d:Nat):Prop:=∀e,e<d->¬R e d
noncomputable def cl (N:Nat) (R:Nat->Nat->Prop):Nat:=(range N).countP λd=>tr (pN R d)
theorem eK(h:∀x y,R x y↔R' x y):cl N R=cl N R':=by
 have:R=R':=funext λx=>funext λy=>propext (h x y)
 rw[this]
theorem dH(h:∀x∈l,p x=q x):l.countP p=l.countP q:=by
 induction l with
 |nil=>rfl
 |cons a l ih=>
  rw[jG,jG,ih λx hx=>h x (by simp[hx]),h a (by simp)]
theorem oy:∀{l:List Nat},l.Nodup->∀{p q:Nat->Bool} {x:Nat},x∈l->p x=true->(∀d∈l,q d=(p d&&decide (d≠x)))->l.countP q+1=l.countP p
 |[],_,_,_,_,hx,_,_=>by cases hx
 |a :: l,hn,p,q,x,hx,hp,hq=>by
  rw[nodup_cons]at hn;rw[jG,jG];have ha:=hq a (by simp);by_cases c:a=x
  · subst c
    have h1:l.countP q=l.countP p:=dH λd hd=>by
     rw[hq d (by simp[hd])]
     have:d≠a:=λe=>hn.1 (e ▸ hd)
     simp[this]
    rw[h1,ha,hp];simp
  have h1:=oy hn.2 (p:=p) (q:=q) (x:=x) ((jy.1 hx).resolve_left λe=>c e.symm) hp λd hd=>hq d (by simp[hd])
  rw[ha,jk c,Bool.and_true];omega
theorem xN(hR:Equivalence R)(a:Nat):∃r,r<=a/\R r a/\pN R r:=by
 induction a using Nat.strongRecOn with
 |ind a ih=>
  by_cases c:∃e,e<a/\R e a
  · obtain⟨e,he,hr⟩:=c
    obtain⟨r,h1,h2,h3⟩:=ih e he;exact⟨r,by omega,hR.trans h2 hr,h3⟩
  exact⟨a,jH _,hR.refl a,λe he hr=>c ⟨e,he,hr⟩⟩
theorem tP(hR:Equivalence R){s:Nat}(h:pN R r)(k:pN R s)(e:R r s):r=s:=by
 rcases lt_trichotomy r s with c|c|c
 · exact absurd e (k r c)
 · exact c
 exact absurd (hR.symm e) (h s c)
def qG(R:Nat->Nat->Prop)(a b x y:Nat):Prop:=R x y\/(R x a/\R b y)\/(R x b/\R a y)
theorem fw(hR:Equivalence R)(a b:Nat):Equivalence (qG R a b):=by
 refine⟨λx=>.inl (hR.refl x),λ{x y} h=>?_,λ{x y z} h k=>?_⟩
 · rcases h with h|⟨h1,h2⟩|⟨h1,h2⟩
   · exact .inl (hR.symm h)
   · exact .inr (.inr ⟨hR.symm h2,hR.symm h1⟩)
   exact .inr (.inl ⟨hR.symm h2,hR.symm h1⟩)
 rcases h with h|⟨h1,h2⟩|⟨h1,h2⟩<;>rcases k with k|⟨k1,k2⟩|⟨k1,k2⟩
 · exact .inl (hR.trans h k)
 · exact .inr (.inl ⟨hR.trans h k1,k2⟩)
 · exact .inr (.inr ⟨hR.trans h k1,k2⟩)
 · exact .inr (.inl ⟨h1,hR.trans h2 k⟩)
 · exact .inr (.inl ⟨h1,k2⟩)
 · exact .inl (hR.trans h1 k2)
 · exact .inr (.inr ⟨h1,hR.trans h2 k⟩)
 · exact .inl (hR.trans h1 k2)
 exact .inr (.inr ⟨h1,k2⟩)
theorem Jo(a b x y:Nat):qG R a b x y↔qG R b a x y:=by
 unfold qG
 constructor<;>rintro(h|h|h)
 · exact .inl h
 · exact .inr (.inr h)
 · exact .inr (.inl h)
 · exact .inl h
 · exact .inr (.inr h)
 exact .inr (.inl h)
theorem kD(hR:Equivalence R){a b:Nat}(h:R a b)(x y:Nat):qG R a b x y↔R x y:=by
 constructor
 · rintro(k|⟨k1,k2⟩|⟨k1,k2⟩)
   · exact k
   · exact hR.trans k1 (hR.trans h k2)
   exact hR.trans k1 (hR.trans (hR.symm h) k2)
 exact .inl
theorem Fq(hR:Equivalence R){a b ra rb:Nat}(hb:rb<N)(ha1:R ra a)(ha2:pN R ra)(hb1:R rb b)(hb2:pN R rb)(hlt:ra<rb):
 cl N (qG R a b)+1=cl N R:=by
 unfold cl
 refine oy jK (x:=rb) (jw.2 hb) (bf.2 hb2) λd _=>?_
 rw[jD,bf,jp,bf,jh];constructor
 · intro h
   refine⟨λe he hr=>h e he (.inl hr),?_⟩;rintro rfl;exact h ra hlt (.inr (.inl ⟨ha1,hR.symm hb1⟩))
 rintro⟨h,hne⟩ e he hm
 rcases hm with hm|⟨h1,h2⟩|⟨h1,h2⟩
 · exact h e he hm
 · exact hne (tP hR h hb2 (hR.trans (hR.symm h2) (hR.symm hb1)))
 have h3:d=ra:=tP hR h ha2 (hR.trans (hR.symm h2) (hR.symm ha1));subst h3;exact hb2 e (by omega) (hR.trans h1 (hR.symm hb1))
theorem zF(hR:Equivalence R){a b:Nat}(ha:a<N)(hb:b<N)(h:¬R a b):cl N (qG R a b)+1=cl N R:=by
 obtain⟨ra,a1,a2,a3⟩:=xN hR a;obtain⟨rb,b1,b2,b3⟩:=xN hR b
 rcases lt_trichotomy ra rb with c|c|c
 · exact Fq hR (by omega) a2 a3 b2 b3 c
 · subst c
   exact absurd (hR.trans (hR.symm a2) b2) h
 rw[eK (Jo a b)];exact Fq hR (by omega) b2 b3 a2 a3 c
def it{α:Type}(f:α->α):Nat->α->α
 |0,x=>x
 |n+1,x=>f (it f n x)
theorem CJ{α:Type}(f:α->α)(n:Nat)(x:α):∀m,it f (m+n) x=it f m (it f n x)
 |0=>by rw[Nat.zero_add];rfl
 |m+1=>by rw[Nat.succ_add,it,it,CJ f n x m]
def cW(f:Nat->Nat)(x y:Nat):Prop:=∃n,it f n x=y
structure Pm(N:Nat)(f:Nat->Nat):Prop where
 lt:∀x,x<N->f x<N
 out:∀x,N<=x->f x=x
 inj:∀x y,f x=f y->x=y
section
variable {N:Nat} {f:Nat->Nat}
theorem Pm.aaA(h:Pm N f){x:Nat}(hx:x<N):∀n,it f n x<N
 |0=>hx
 |n+1=>h.lt _ (h.aaA hx n)
theorem Pm.UG(h:Pm N f){x:Nat}(hx:N<=x):∀n,it f n x=x
 |0=>rfl
 |n+1=>by rw[it,h.UG hx n,h.out x hx]
theorem Pm.UH(h:Pm N f){x y:Nat}:∀{n:Nat},it f n x=it f n y->x=y
 |0,e=>e
 |n+1,e=>h.UH (h.inj _ _ e)
theorem vA{g:Nat->Nat}:∀{l:List Nat},l.Nodup->¬(l.map g).Nodup->∃i∈l,∃j∈l,i≠j/\g i=g j
 |[],_,h=>absurd (by simp) h
 |a :: l,hn,h=>by
  rw[nodup_cons]at hn;by_cases c:g a∈l.map g
  · obtain⟨j,hj,e⟩:=jv.1 c
    exact⟨a,by simp,j,by simp[hj],λe'=>hn.1 (e' ▸ hj),e.symm⟩
  have h2:¬(l.map g).Nodup:=λk=>h (by rw[map_cons,nodup_cons];exact⟨c,k⟩)
  obtain⟨i,hi,j,hj,h3⟩:=vA hn.2 h2;exact⟨i,by simp[hi],j,by simp[hj],h3⟩
theorem Pm.cycle(h:Pm N f)(x:Nat):∃n,0<n/\it f n x=x:=by
 by_cases hx:x<N;rotate_left
 · exact⟨1,by omega,h.UG (by omega) 1⟩
 have:¬((range (N+1)).map λn=>it f n x).Nodup:=λhn=>by
  have:=ft hn (m:=range N) λy hy=>by
   obtain⟨n,_,rfl⟩:=jv.1 hy;exact jw.2 (h.aaA hx n)
  simp at this;omega
 obtain⟨i,_,j,_,hne,e⟩:=vA jK this
 have key:∀i j,i<j->it f i x=it f j x->∃n,0<n/\it f n x=x:=λi j wB e=>by
  refine⟨j-i,by omega,?_⟩;have h1:=CJ f (j-i) x i;rw[show i+(j-i)=j by omega,<-e]at h1;exact(h.UH h1).symm
 rcases Nat.lt_or_ge i j with c|c
 · exact key i j c e
 exact key j i (by omega) e.symm
theorem cW.refl(f:Nat->Nat)(x:Nat):cW f x x:=⟨0,rfl⟩
theorem cW.trans{x y z:Nat}:cW f x y->cW f y z->cW f x z:=by
 rintro⟨m,rfl⟩ ⟨n,rfl⟩;exact⟨n+m,CJ f m x n⟩
theorem cW.one(f:Nat->Nat)(x:Nat):cW f x (f x):=⟨1,rfl⟩
theorem Pm.back(h:Pm N f)(x:Nat):cW f (f x) x:=by
 obtain⟨n,hn,e⟩:=h.cycle x
 obtain⟨m,rfl⟩:∃m,n=m+1:=⟨n-1,by omega⟩
 refine⟨m,?_⟩;have:=CJ f 1 x m;rw[e]at this;exact this.symm
theorem Pm.symm(h:Pm N f):cW f x y->cW f y x:=by
 rintro⟨n,rfl⟩
 induction n with
 |zero=>exact cW.refl f x
 |succ n ih=>exact(h.back _).trans ih
theorem Pm.equiv(h:Pm N f):Equivalence (cW f):=⟨cW.refl f,h.symm,cW.trans⟩
theorem cW.ind{P:Nat->Prop}(hP:∀x,P x->P (f x))(hx:P x):cW f x y->P y:=by
 rintro⟨n,rfl⟩
 induction n with
 |zero=>exact hx
 |succ n ih=>exact hP _ ih
theorem cW.lt(h:Pm N f){x y:Nat}(hx:x<N)(k:cW f x y):y<N:=k.ind (P:=λy=>y<N) h.lt hx
end
def swp(a b x:Nat):Nat:=if x=a then b else if x=b then a else x
theorem cp(a b:Nat):swp a b a=b:=if_pos rfl
theorem cY(a b:Nat):swp a b b=a:=by
 unfold swp;split
 · next h=>exact h
 exact if_pos rfl
theorem ak{a b x:Nat}(h:x≠a)(k:x≠b):swp a b x=x:=by unfold swp;rw[if_neg h,if_neg k]
theorem rC(a b x:Nat):swp a b (swp a b x)=x:=by
 by_cases h:x=a
 · subst h;rw[cp,cY]
 by_cases k:x=b
 · subst k;rw[cY,cp]
 rw[ak h k,ak h k]
theorem Ir(a b x:Nat):swp a b x=swp b a x:=by
 by_cases h:x=a
 · subst h;rw[cp,cY]
 by_cases k:x=b
 · subst k;rw[cY,cp]
 rw[ak h k,ak k h]
theorem Pm.swp{N:Nat}{f:Nat->Nat}(h:Pm N f){a b:Nat}(ha:a<N)(hb:b<N):Pm N (λx=>swp a b (f x)):=by
 refine⟨λx hx=>?_,λx hx=>?_,λx y e=>?_⟩
 · have:=h.lt x hx
   show Kn.swp a b (f x)<N
   unfold Kn.swp;split
   · exact hb
   split
   · exact ha
   exact this
 · show Kn.swp a b (f x)=x
   rw[h.out x hx,ak (by omega) (by omega)]
 refine h.inj x y ?_
 have e':Kn.swp a b (f x)=Kn.swp a b (f y):=e;rw[<-rC a b (f x),e',rC]
section
variable {N:Nat} {f:Nat->Nat} {a b:Nat}
theorem TN(h:Pm N f)(x:Nat):qG (cW f) a b x (swp a b (f x)):=by
 by_cases c:f x=a
 · rw[c,cp];exact .inr (.inl ⟨c ▸ cW.one f x,cW.refl f b⟩)
 by_cases d:f x=b
 · rw[d,cY];exact .inr (.inr ⟨d ▸ cW.one f x,cW.refl f a⟩)
 rw[ak c d];exact .inl (cW.one f x)
theorem F9(h:Pm N f)(k:cW (λx=>swp a b (f x)) x y):qG (cW f) a b x y:=
 k.ind (P:=λy=>qG (cW f) a b x y) (λz hz=>(fw h.equiv a b).trans hz (TN h z)) (.inl (cW.refl f x))
theorem uz(f:Nat->Nat)(a b:Nat):(λx=>swp a b ((λx=>swp a b (f x)) x))=f:=funext λx=>rC a b (f x)
theorem Cq(h:Pm N f)(k:¬cW f a b):cW (λx=>swp a b (f x)) a b:=by
 obtain⟨n,hn,e⟩:=h.cycle a
 have hex:∃n,0<n/\it f n a=a/\∀m,0<m->m<n->it f m a≠a:=by
  clear k
  induction n using Nat.strongRecOn with
  |ind n ih=>
   by_cases c:∃m,0<m/\m<n/\it f m a=a
   · obtain⟨m,h1,h2,h3⟩:=c
     exact ih m h2 h1 h3
   exact⟨n,hn,e,λm h1 h2 h3=>c ⟨m,h1,h2,h3⟩⟩
 obtain⟨n,hn,e,Ea⟩:=hex
 have key:∀m,m<n->it (λx=>swp a b (f x)) m a=it f m a:=by
  intro m
  induction m with
  |zero=>intro _;rfl
  |succ m ih=>
   intro hm;rw[it,ih (by omega)]
   show swp a b (it f (m+1) a)=_
   exact ak (Ea _ (by omega) hm) λe'=>k ⟨_,e'⟩
 refine⟨n,?_⟩
 obtain⟨m,rfl⟩:∃m,n=m+1:=⟨n-1,by omega⟩
 rw[it,key m (by omega)]
 show swp a b (it f (m+1) a)=b
 rw[e,cp]
theorem Ga(h:Pm N f)(ha:a<N)(hb:b<N)(k:¬cW f a b)(x y:Nat):cW (λx=>swp a b (f x)) x y↔qG (cW f) a b x y:=by
 have h':=h.swp ha hb;have hab:=Cq h k;refine⟨F9 h,λhm=>?_⟩
 have Gx:∀x y,cW f x y->cW (λx=>swp a b (f x)) x y:=λx y zm=>by
  have h1:cW (λx=>swp a b ((λx=>swp a b (f x)) x)) x y:=by rw[uz];exact zm
  exact(kD h'.equiv hab x y).1 (F9 h' h1)
 rcases hm with hm|⟨h1,h2⟩|⟨h1,h2⟩
 · exact Gx x y hm
 · exact(Gx _ _ h1).trans (hab.trans (Gx _ _ h2))
 exact(Gx _ _ h1).trans ((h'.symm hab).trans (Gx _ _ h2))
theorem Cp(h:Pm N f)(hne:a≠b)(k:cW f a b):¬cW (λx=>swp a b (f x)) a b:=by
 have hex:∃n,it f n a=b/\∀m,m<n->it f m a≠b:=by
  obtain⟨n,e⟩:=k
  induction n using Nat.strongRecOn with
  |ind n ih=>
   by_cases c:∃m,m<n/\it f m a=b
   · obtain⟨m,h2,h3⟩:=c
     exact ih m h2 h3
   exact⟨n,e,λm h2 h3=>c ⟨m,h2,h3⟩⟩
 obtain⟨n,e,Ea⟩:=hex
 have hn:0<n:=by
  rcases Nat.eq_zero_or_pos n with c|c
  · subst c;exact absurd e hne
  exact c
 have hback:∀m,0<m->m<n->it f m a≠a:=λm h1 h2 h3=>by
  have h4:=CJ f m a (n-m);rw[h3,show n-m+m=n by omega,e]at h4;exact Ea (n-m) (by omega) h4.symm
 intro ho
 have Be:∃m,m<n/\b=it f m a:=by
  refine ho.ind (P:=λy=>∃m,m<n/\y=it f m a) ?_ ⟨0,hn,rfl⟩
  rintro y ⟨m,hm,rfl⟩;by_cases c:m+1<n
  · refine⟨m+1,c,?_⟩
    show swp a b (it f (m+1) a)=_
    exact ak (hback _ (by omega) c) (Ea _ c)
  obtain rfl:n=m+1:=by omega
  refine⟨0,hn,?_⟩
  show swp a b (it f (m+1) a)=a
  rw[e,cY]
 obtain⟨m,hm,e'⟩:=Be;exact Ea m hm e'.symm
theorem nt(h:Pm N f)(ha:a<N)(hb:b<N)(k:¬cW f a b):cl N (cW (λx=>swp a b (f x)))+1=cl N (cW f):=by
 rw[eK (Ga h ha hb k)];exact zF h.equiv ha hb k
theorem pJ(h:Pm N f)(ha:a<N)(hb:b<N)(hne:a≠b)(k:cW f a b):cl N (cW f)+1=cl N (cW (λx=>swp a b (f x))):=by
 have:=nt (h.swp ha hb) ha hb (Cp h hne k)
 rwa [uz]at this
end
abbrev eW:=List (Nat×Nat)
def aB:eW->Nat->Nat
 |[],x=>x
 |e :: es,x=>swp e.1 e.2 (aB es x)
def oL(σ:Nat->Nat)(es:eW)(x:Nat):Nat:=aB es (σ x)
def bh(σ:Nat->Nat):eW->Nat->Nat->Prop
 |[]=>cW σ
 |e :: es=>qG (bh σ es) e.1 e.2
def Good(N:Nat)(es:eW):Prop:=∀e∈es,e.1<N/\e.2<N/\e.1≠e.2
section
variable {N:Nat} {σ:Nat->Nat}
theorem xy(σ:Nat->Nat)(e:Nat×Nat)(es:eW):oL σ (e :: es)=λx=>swp e.1 e.2 (oL σ es x):=rfl
theorem Good.tail{es:eW}(h:Good N (e :: es)):Good N es:=λx hx=>h x (by simp[hx])
theorem mG(h:Pm N σ):∀{es:eW},Good N es->Pm N (oL σ es)
 |[],_=>h
 |e :: es,hg=>by
  obtain⟨h1,h2,_⟩:=hg e (by simp);exact(mG h hg.tail).swp h1 h2
theorem aW(h:Pm N σ):∀es:eW,Equivalence (bh σ es)
 |[]=>h.equiv
 |_ :: es=>fw (aW h es) _ _
theorem eJ:∀{es:eW} {x y:Nat},cW σ x y->bh σ es x y
 |[],_,_,h=>h
 |_ :: es,_,_,h=>.inl (eJ (es:=es) h)
theorem dw(h:Pm N σ):∀{es:eW} {e:Nat×Nat},e∈es->bh σ es e.1 e.2
 |[],_,he=>by cases he
 |d :: es,e,he=>by
  rcases jy.1 he with rfl|he
  · exact .inr (.inl ⟨(aW h es).refl _,(aW h es).refl _⟩)
  exact .inl (dw h he)
theorem lU(h:Pm N σ):∀{es:eW},Good N es->∀{x y:Nat},cW (oL σ es) x y->bh σ es x y
 |[],_,_,_,k=>k
 |e :: es,hg,x,y,k=>by
  have:=F9 (mG h hg.tail) k
  rcases this with k|⟨k1,k2⟩|⟨k1,k2⟩
  · exact .inl (lU h hg.tail k)
  · exact .inr (.inl ⟨lU h hg.tail k1,lU h hg.tail k2⟩)
  exact .inr (.inr ⟨lU h hg.tail k1,lU h hg.tail k2⟩)
theorem bN{R:Nat->Nat->Prop}(hR:Equivalence R)(hs:∀x,R x (σ x)):∀{es:eW},(∀e∈es,R e.1 e.2)->∀{x y:Nat},bh σ es x y->R x y
 |[],_,x,y,k=>k.ind (P:=λy=>R x y) (λz hz=>hR.trans hz (hs z)) (hR.refl x)
 |e :: es,he,x,y,k=>by
  have h1:=λ{x y}=>bN hR hs (es:=es) (λd hd=>he d (by simp[hd])) (x:=x) (y:=y)
  rcases k with k|⟨k1,k2⟩|⟨k1,k2⟩
  · exact h1 k
  · exact hR.trans (h1 k1) (hR.trans (he e (by simp)) (h1 k2))
  exact hR.trans (h1 k1) (hR.trans (hR.symm (he e (by simp))) (h1 k2))
theorem vF(h:Pm N σ):∀{es:eW},Good N es ->
 cl N (cW (oL σ es))+cl N (cW σ)<=es.length+2*cl N (bh σ es)/\(cl N (cW (oL σ es))+cl N (cW σ)+es.length)%2=0
 |[],_=>by
  show cl N (cW σ)+cl N (cW σ)<=0+2*cl N (cW σ)/\(cl N (cW σ)+cl N (cW σ)+0)%2=0
  omega
 |e :: es,hg=>by
  obtain⟨h1,h2,h3⟩:=hg e (by simp);obtain⟨i1,i2⟩:=vF h hg.tail;have hp:=mG h hg.tail;rw[xy,jE]
  show _<=_+2*cl N (qG (bh σ es) e.1 e.2)/\_
  by_cases c:bh σ es e.1 e.2
  · rw[eK (kD (aW h es) c)]
    by_cases d:cW (oL σ es) e.1 e.2
    · have:=pJ hp h1 h2 h3 d
      omega
    have:=nt hp h1 h2 d;omega
  have j1:=zF (aW h es) h1 h2 c
  have j2:=nt hp h1 h2 λk=>c (lU h hg.tail k)
  omega
def ct(N:Nat)(p:Nat->Bool):Nat:=(range N).countP p
theorem Dg(p q:Nat->Bool):∀l:List Nat,(l.countP λd=>xor (p d) (q d))%2=(l.countP p+l.countP q)%2
 |[]=>rfl
 |a :: l=>by
  have:=Dg p q l;simp only[jG]
  cases p a<;>cases q a<;>simp<;>omega
theorem Df(p q:Nat->Bool):ct N (λd=>xor (p d) (q d))%2=(ct N p+ct N q)%2:=Dg p q _
theorem qO(h:∀d,d<N->p d=q d):ct N p=ct N q:=dH λd hd=>h d (jw.1 hd)
theorem ait(h:Pm N σ)(p:Nat->Bool):ct N (λd=>p (σ d))=ct N p:=by
 have h1:((range N).map σ).Perm (range N):=xW jK (λx hx=>jw.2 (h.lt x (jw.1 hx))) λx _ y _ e=>h.inj x y e
 have h2:=h1.countP_eq p;rw[List.countP_map]at h2;exact h2
theorem GQ:ct N (λ_=>false)=0:=by
 unfold ct;rw[List.countP_eq_zero]
 intro a _;simp
theorem MQ(ha:a<N)(t:Bool):ct N (λd=>t&&decide (d=a))=if t then 1 else 0:=by
 cases t with
 |false=>exact GQ
 |true=>
  have:=oy (l:=range N) jK (p:=λd=>true&&decide (d=a)) (q:=λ_=>false) (x:=a) (jw.2 ha) (by simp) λd _=>by simp
  have h0:=GQ (N:=N);unfold ct at h0 ⊢;rw[h0]at this;exact this.symm
def oO(es:eW):Prop:=es.Pairwise λe d=>e.1≠d.1/\e.1≠d.2/\e.2≠d.1/\e.2≠d.2
def dU(es:eW)(d:Nat):Prop:=∃e∈es,d=e.1\/d=e.2
structure Mark(es:eW)(z:Nat->Bool):Prop where
 sup:∀d,z d=true->dU es d
 pair:∀e∈es,z e.1=z e.2
theorem oO.out{es:eW}(h:oO (e :: es)):¬dU es e.1/\¬dU es e.2:=by
 unfold oO at h;rw[pairwise_cons]at h;constructor
 · rintro⟨d,hd,k|k⟩
   · exact(h.1 d hd).1 k
   exact(h.1 d hd).2.1 k
 rintro⟨d,hd,k|k⟩
 · exact(h.1 d hd).2.2.1 k
 exact(h.1 d hd).2.2.2 k
theorem oO.tail{es:eW}(h:oO (e :: es)):oO es:=(pairwise_cons.1 h).2
theorem aG:∀{es:eW} {d:Nat},¬dU es d->aB es d=d
 |[],_,_=>rfl
 |e :: es,d,h=>by
  rw[aB,aG (es:=es) λ⟨x,hx,k⟩=>h ⟨x,by simp[hx],k⟩]
  exact ak (λk=>h ⟨e,by simp,.inl k⟩) λk=>h ⟨e,by simp,.inr k⟩
theorem cJ:∀{es:eW},oO es->∀{e:Nat×Nat},e∈es->aB es e.1=e.2/\aB es e.2=e.1
 |[],_,_,he=>by cases he
 |d :: es,h,e,he=>by
  obtain⟨o1,o2⟩:=h.out
  rcases jy.1 he with rfl|he
  · rw[aB,aB,aG o1,aG o2]
    exact⟨cp _ _,cY _ _⟩
  obtain⟨i1,i2⟩:=cJ h.tail he;rw[aB,aB,i1,i2];refine⟨ak ?_ ?_,ak ?_ ?_⟩
  · exact λk=>o1 ⟨e,he,.inr k.symm⟩
  · exact λk=>o2 ⟨e,he,.inr k.symm⟩
  · exact λk=>o1 ⟨e,he,.inl k.symm⟩
  exact λk=>o2 ⟨e,he,.inl k.symm⟩
theorem Mark.even:∀{es:eW},Good N es->oO es->∀{z:Nat->Bool},Mark es z->ct N z%2=0
 |[],_,_,z,h=>by
  have:ct N z=ct N (λ_=>false):=qO λd _=>by
   cases hz:z d with
   |false=>rfl
   |true=>
    obtain⟨e,he,_⟩:=h.sup d hz;cases he
  rw[this,GQ]
 |e :: es,hg,hd,z,h=>by
  obtain⟨g1,g2,g3⟩:=hg e (by simp);obtain⟨o1,o2⟩:=hd.out;have hz:=h.pair e (by simp)
  have h1:Mark es (λd=>z d && !decide (d=e.1) && !decide (d=e.2)):=by
   refine⟨λd k=>?_,λp hp=>?_⟩
   · simp only[jp,not_eq_true',jF]at k
     obtain⟨x,hx,y⟩:=h.sup d k.1.1
     rcases jy.1 hx with rfl|hx
     · rcases y with y|y
       · exact absurd y k.1.2
       exact absurd y k.2
     exact⟨x,hx,y⟩
   have a1:p.1≠e.1:=λk=>o1 ⟨p,hp,.inl k.symm⟩
   have a2:p.1≠e.2:=λk=>o2 ⟨p,hp,.inl k.symm⟩
   have a3:p.2≠e.1:=λk=>o1 ⟨p,hp,.inr k.symm⟩
   have a4:p.2≠e.2:=λk=>o2 ⟨p,hp,.inr k.symm⟩
   simp only[h.pair p (by simp[hp]),a1,a2,a3,a4]
  have h2:=Mark.even hg.tail hd.tail h1
  have h3:ct N z=ct N (λd=>xor (z d && !decide (d=e.1) && !decide (d=e.2)) (xor (z e.1&&decide (d=e.1)) (z e.1&&decide (d=e.2)))):=qO λd _=>by
   by_cases c:d=e.1
   · subst c;simp[g3]
   by_cases c':d=e.2
   · have g4:e.2≠e.1:=λk=>g3 k.symm
     rw[c',<-hz];simp[g4]
   simp[c,c']
  have h4:=Df (N:=N) (λd=>z d && !decide (d=e.1) && !decide (d=e.2)) (λd=>xor (z e.1&&decide (d=e.1)) (z e.1&&decide (d=e.2)));have h5:=Df (N:=N) (λd=>z e.1&&decide (d=e.1)) (λd=>z e.1&&decide (d=e.2));rw[MQ g1,MQ g2]at h5;omega
theorem Mark.tail{es:eW}{z:Nat->Bool}(h:Mark (e :: es) z)(h1:z e.1=false)(h2:z e.2=false):Mark es z:=by
 refine⟨λd k=>?_,λp hp=>h.pair p (by simp[hp])⟩;obtain⟨x,hx,y⟩:=h.sup d k
 rcases jy.1 hx with rfl|hx
 · rcases y with rfl|rfl
   · rw[h1]at k;cases k
   rw[h2]at k;cases k
 exact⟨x,hx,y⟩
theorem MT(h:Pm N σ):∀{es:eW},Good N es->oO es->cl N (cW (oL σ es))+cl N (cW σ)=es.length+2*cl N (bh σ es) ->
 ∀{z:Nat->Bool},Mark es z->(∀K:Nat->Bool,(∀d,K (σ d)=K d)->ct N (λd=>K d&&z d)%2=0) ->
 ∃dm:Nat->Bool,(∀d,dm (oL σ es d)=dm d)/\∀e∈es,xor (dm e.1) (dm e.2)=z e.1
 |[],_,_,_,z,_,_=>⟨λ_=>false,λ_=>rfl,λe he=>by cases he⟩
 |e :: es,hg,hd,heq,z,hz,hK=>by
  obtain⟨g1,g2,g3⟩:=hg e (by simp);obtain⟨o1,o2⟩:=hd.out;have hze:=hz.pair e (by simp);have hp:=mG h hg.tail;have hc:=aW h es;obtain⟨i1,_⟩:=vF h hg.tail;rw[xy,jE]at heq;change _=_+2*cl N (qG (bh σ es) e.1 e.2)at heq;by_cases c:bh σ es e.1 e.2;rotate_left
  · have j1:=zF hc g1 g2 c
    have j2:=nt hp g1 g2 λk=>c (lU h hg.tail k)
    have ady:cl N (cW (oL σ es))+cl N (cW σ)=es.length+2*cl N (bh σ es):=by omega
    obtain⟨K,hKd⟩:∃K:Nat->Bool,∀d,K d=tr (bh σ es e.1 d):=⟨_,λ_=>rfl⟩
    have hKc:∀{x y},bh σ es x y->K x=K y:=λ{x y} k=>by
     rw[hKd,hKd];exact fj ⟨λl=>hc.trans l k,λl=>hc.trans l (hc.symm k)⟩
    have hKa:K e.1=true:=by rw[hKd];exact bf.2 (hc.refl _)
    have hKb:K e.2=false:=by rw[hKd];exact br.2 c
    have hev:=hK K λd=>(hKc (eJ (cW.one σ d))).symm
    have Aj:Mark es (λd=>K d&&z d && !decide (d=e.1)):=by
     refine⟨λd k=>?_,λp hp=>?_⟩
     · simp only[jp,not_eq_true',jF]at k
       obtain⟨x,hx,y⟩:=hz.sup d k.1.2
       rcases jy.1 hx with rfl|hx
       · rcases y with y|y
         · exact absurd y k.2
         rw[y,hKb]at k;exact absurd k.1.1 (by simp)
       exact⟨x,hx,y⟩
     have a1:p.1≠e.1:=λk=>o1 ⟨p,hp,.inl k.symm⟩
     have a3:p.2≠e.1:=λk=>o1 ⟨p,hp,.inr k.symm⟩
     simp only[hz.pair p (by simp[hp]),hKc (dw h hp),a1,a3]
    have hev1:=Aj.even hg.tail hd.tail;have ht:=Df (N:=N) (λd=>K d&&z d && !decide (d=e.1)) (λd=>z e.1&&decide (d=e.1));rw[MQ g1]at ht
    have ang:ct N (λd=>K d&&z d)=ct N (λd=>xor (K d&&z d && !decide (d=e.1)) (z e.1&&decide (d=e.1))):=qO λd _=>by
     by_cases k:d=e.1
     · subst k;rw[hKa];simp
     simp[k]
    have z1:z e.1=false:=by
     cases hh:z e.1 with
     |false=>rfl
     |true=>rw[hh]at ht ang;simp only[if_true]at ht;omega
    obtain⟨dm,c1,c2⟩:=MT h hg.tail hd.tail ady (hz.tail z1 (hze ▸ z1)) hK
    obtain⟨t,ht⟩:∃t,t=xor (dm e.1) (dm e.2):=⟨_,rfl⟩
    refine⟨λd=>xor (dm d) (K d&&t),λd=>?_,λp hp=>?_⟩
    · show (λd=>xor (dm d) (K d&&t)) (swp e.1 e.2 (oL σ es d))=xor (dm d) (K d&&t)
      have k1:K (oL σ es d)=K d:=(hKc (lU h hg.tail (cW.one _ d))).symm;rw[<-c1 d,<-k1];by_cases k:oL σ es d=e.1
      · rw[k,cp]
        show xor (dm e.2) (K e.2&&t)=xor (dm e.1) (K e.1&&t)
        rw[hKa,hKb,ht];cases dm e.1<;>cases dm e.2<;>rfl
      by_cases k':oL σ es d=e.2
      · rw[k',cY]
        show xor (dm e.1) (K e.1&&t)=xor (dm e.2) (K e.2&&t)
        rw[hKa,hKb,ht];cases dm e.1<;>cases dm e.2<;>rfl
      rw[ak k k']
    rcases jy.1 hp with rfl|hp
    · show xor (xor (dm p.1) (K p.1&&t)) (xor (dm p.2) (K p.2&&t))=z p.1
      rw[hKa,hKb,ht,z1];cases dm p.1<;>cases dm p.2<;>rfl
    show xor (xor (dm p.1) (K p.1&&t)) (xor (dm p.2) (K p.2&&t))=z p.1
    rw[hKc (dw h hp),<-c2 p hp]
    cases dm p.1<;>cases dm p.2<;>cases K p.2<;>cases t<;>rfl
  rw[eK (kD hc c)]at heq
  have ho:cW (oL σ es) e.1 e.2:=js λk=>by
   have:=nt hp g1 g2 k;omega
  have GG:=pJ hp g1 g2 g3 ho
  have ady:cl N (cW (oL σ es))+cl N (cW σ)=es.length+2*cl N (bh σ es):=by omega
  obtain⟨C,hC⟩:∃C:Nat->Bool,∀d,C d=tr (cW (oL σ (e :: es)) e.1 d):=⟨_,λ_=>rfl⟩
  have DS:=mG h hg
  have hCi:∀d,C (oL σ (e :: es) d)=C d:=λd=>by
   rw[hC,hC];exact fj ⟨λk=>k.trans (DS.symm (cW.one _ d)),λk=>k.trans (cW.one _ d)⟩
  have hCa:C e.1=true:=by rw[hC];exact bf.2 (cW.refl _ _)
  have hCb:C e.2=false:=by rw[hC];exact br.2 (Cp hp g3 ho)
  have m1:aB (e :: es) e.1=e.2:=(cJ hd (by simp)).1;have m2:aB (e :: es) e.2=e.1:=(cJ hd (by simp)).2
  obtain⟨z',Hm⟩:∃z':Nat->Bool,∀d,z' d=xor (z d) (z e.1&&xor (C d) (C (aB (e :: es) d))):=⟨_,λ_=>rfl⟩
  have z1:z' e.1=false:=by rw[Hm,m1,hCa,hCb];simp
  have z2:z' e.2=false:=by rw[Hm,m2,hCa,hCb,<-hze];simp
  have hm:Mark (e :: es) z':=by
   refine⟨λd k=>js λhn=>?_,λp hp=>?_⟩
   · have h1:z d=false:=by
      rw[<-Bool.not_eq_true];exact λk=>hn (hz.sup d k)
     rw[Hm,h1,aG hn]at k;simp at k
   obtain⟨q1,q2⟩:=cJ hd hp;rw[Hm,Hm,q1,q2,hz.pair p hp,Bool.xor_comm (C p.1)]
  have hK':∀K:Nat->Bool,(∀d,K (σ d)=K d)->ct N (λd=>K d&&z' d)%2=0:=λK hKs=>by
   have a1:=hK K hKs
   have a2:ct N (λd=>K d&&z' d)=ct N (λd=>xor (K d&&z d) (xor (z e.1&&(K d&&C d)) (z e.1&&(K d&&C (aB (e :: es) d))))):=qO λd _=>by
    rw[Hm]
    cases K d<;>cases z d<;>cases z e.1<;>cases C d<;>cases C (aB (e :: es) d)<;>rfl
   have a3:=Df (N:=N) (λd=>K d&&z d) (λd=>xor (z e.1&&(K d&&C d)) (z e.1&&(K d&&C (aB (e :: es) d))));have a4:=Df (N:=N) (λd=>z e.1&&(K d&&C d)) (λd=>z e.1&&(K d&&C (aB (e :: es) d)))
   have a5:ct N (λd=>z e.1&&(K d&&C (aB (e :: es) d)))=ct N (λd=>z e.1&&(K d&&C d)):=by
    rw[<-ait h]
    refine qO λd _=>?_
    have:C (aB (e :: es) (σ d))=C d:=hCi d;rw[hKs,this]
   omega
  obtain⟨dm,c1,c2⟩:=MT h hg.tail hd.tail ady (hm.tail z1 z2) hK';have hab:dm e.1=dm e.2:=(ho.ind (P:=λy=>dm y=dm e.1) (λx hx=>(c1 x).trans hx) rfl).symm;refine⟨λd=>xor (dm d) (z e.1&&C d),λd=>?_,λp hp=>?_⟩
  · show xor (dm (oL σ (e :: es) d)) (z e.1&&C (oL σ (e :: es) d))=_
    rw[hCi]
    have:dm (oL σ (e :: es) d)=dm d:=by
     rw[xy]
     show dm (swp e.1 e.2 (oL σ es d))=dm d
     rw[<-c1 d];by_cases k:oL σ es d=e.1
     · rw[k,cp,hab]
     by_cases k':oL σ es d=e.2
     · rw[k',cY,hab]
     rw[ak k k']
    rw[this]
  rcases jy.1 hp with rfl|hp
  · show xor (xor (dm p.1) (z p.1&&C p.1)) (xor (dm p.2) (z p.1&&C p.2))=_
    rw[hCa,hCb,hab]
    cases dm p.2<;>cases z p.1<;>rfl
  show xor (xor (dm p.1) (z e.1&&C p.1)) (xor (dm p.2) (z e.1&&C p.2))=_
  have q1:=(cJ hd (e:=p) (by simp[hp])).1;have q2:=c2 p hp;rw[Hm,q1]at q2
  revert q2
  cases dm p.1<;>cases dm p.2<;>cases z e.1<;>cases z p.1<;>cases C p.1<;>cases C p.2<;>simp
end
section
variable {α β:Type} {g:α->β} {all:List α}
theorem Cx{l:List α}{x:α}(rP:∀x∈all,∀y∈all,g x=g y->x=y)(hl:∀y∈l,y∈all)(hx:x∈all):g x∈l.map g↔x∈l:=by
 rw[jv];constructor
 · rintro⟨y,hy,e⟩
   rw[<-rP y (hl y hy) x hx e];exact hy
 exact λh=>⟨x,h,rfl⟩
variable [DecidableEq α] [DecidableEq β] {nx:α->α} {ny:β->β}
theorem IX(rP:∀x∈all,∀y∈all,g x=g y->x=y)(hall:∀x∈all,nx x∈all)(hg:∀x∈all,ny (g x)=g (nx x)):
 ∀(k:Nat) {seen:List α} {x:α},(∀y∈seen,y∈all)->x∈all->ring ny k (seen.map g) (g x)=(ring nx k seen x).map g
 |0,seen,x,_,_=>by rw[ring,ring];rfl
 |k+1,seen,x,hs,hx=>by
  have hm:=Cx rP hs hx;by_cases c:x∈seen
  · rw[fV nx c,fV ny (hm.2 c)];rfl
  have:=IX rP hall hg k (seen:=seen++[x]) (x:=nx x) (λy hy=>by
   rcases jx.1 hy with hy|hy
   · exact hs y hy
   rw[jB]at hy;exact hy ▸ hx) (hall x hx)
  rw[jP,List.map_singleton]at this;rw[iG nx c,iG ny (λh=>c (hm.1 h)),map_cons,hg x hx,this]
theorem yS(rP:∀x∈all,∀y∈all,g x=g y->x=y)(hall:∀x∈all,nx x∈all)(hg:∀x∈all,ny (g x)=g (nx x))(N:Nat):
 ∀{ds seen:List α},(∀y∈seen,y∈all)->(∀y∈ds,y∈all)->rings ny N (seen.map g) (ds.map g)=(rings nx N seen ds).map (List.map g)
 |[],seen,_,_=>by rw[map_nil,qA,qA];rfl
 |d :: ds,seen,hs,hd=>by
  have hx:=hd d (by simp);have hm:=Cx rP hs hx
  have wC:∀y∈ds,y∈all:=λy hy=>hd y (by simp[hy])
  rw[map_cons];by_cases c:d∈seen
  · rw[eN nx c,eN ny (hm.2 c)]
    exact yS rP hall hg N hs wC
  rw[fU nx c,fU ny (λh=>c (hm.1 h)),map_cons,IX rP hall hg N hs hx,<-jP]
  congr 1
  exact yS rP hall hg N (λy hy=>by
   rcases jx.1 hy with hy|hy
   · exact hs y hy
   exact xq nx hall N seen hx y hy) wC
end
section
variable {M:Nat} {f:Nat->Nat}
theorem IW(f:Nat->Nat):∀(k:Nat) (seen:List Nat) (x:Nat),∀y∈ring f k seen x,cW f x y
 |0,seen,x,y,h=>by rw[ring]at h;cases h
 |k+1,seen,x,y,h=>by
  by_cases c:x∈seen
  · rw[fV f c]at h;cases h
  rw[iG f c]at h
  rcases jy.1 h with rfl|h
  · exact cW.refl f _
  exact(cW.one f x).trans (IW f k _ _ y h)
theorem EB(h:Pm M f):∀(k:Nat) {seen:List Nat} {x:Nat},seen.Nodup->(∀y∈seen,y<M)->x<M->M<k+seen.length->∀y∈ring f k seen x,f y∈seen++ring f k seen x
 |0,seen,x,_,_,_,_,y,hy=>by rw[ring]at hy;cases hy
 |k+1,seen,x,hn,hs,hx,hk,y,hy=>by
  by_cases c:x∈seen
  · rw[fV f c]at hy;cases hy
  rw[iG f c]at hy ⊢
  have R7:∀y∈seen++[x],y<M:=λy hy=>by
   rcases jx.1 hy with hy|hy
   · exact hs y hy
   rw[jB]at hy;exact hy ▸ hx
  have e:seen++x :: ring f k (seen++[x]) (f x)=seen++[x]++ring f k (seen++[x]) (f x):=by simp
  rw[e]
  rcases jy.1 hy with rfl|hy
  · by_cases d:f y∈seen++[y]
    · exact jx.2 (.inl d)
    refine jx.2 (.inr (uD f d ?_))
    have:=ft (gK hn c) (m:=range M) λz hz=>jw.2 (R7 z hz)
    simp at this hk;omega
  exact EB h k (gK hn c) R7 (h.lt x hx) (by simp;omega) y hy
theorem XY(h:Pm M f)(hn:seen.Nodup)(hs:∀y∈seen,y<M)(hc:∀y,f y∈seen->y∈seen)(hx:x<M)(OD:x∉seen)(hk:M<k):
 y∈ring f k seen x↔cW f x y:=by
 refine⟨IW f k seen x y,λho=>?_⟩;have Gy:=nT f k (seen:=seen) x hn
 refine ho.ind (P:=λy=>y∈ring f k seen x) (λz hz=>?_) (uD f OD (by omega))
 rcases jx.1 (EB h k hn hs hx (by omega) z hz)with h1|h1
 · exact absurd rfl ((jU.1 Gy).2.2 z (hc z h1) z hz)
 exact h1
theorem Ce(h:Pm M f){N:Nat}(hN:M<N):∀{ds seen:List Nat},seen.Nodup->(∀y∈seen,y<M)->(∀y,f y∈seen->y∈seen)->(∀d∈ds,d<M)->∀r∈rings f N seen ds,∀x∈r,∀y,y∈r↔cW f x y
 |[],seen,_,_,_,_,r,hr=>by rw[qA]at hr;cases hr
 |d :: ds,seen,hn,hs,hc,hd,r,hr=>by
  have wC:∀y∈ds,y<M:=λy hy=>hd y (by simp[hy])
  by_cases c:d∈seen
  · rw[eN f c]at hr
    exact Ce h hN hn hs hc wC r hr
  have hdm:=hd d (by simp)
  have hm:=λy=>XY h (y:=y) hn hs hc hdm c hN
  rw[fU f c]at hr
  rcases jy.1 hr with rfl|hr
  · intro x hx y
    rw[hm];have:=(hm x).1 hx;exact⟨λk=>(h.symm this).trans k,λk=>this.trans k⟩
  refine Ce h hN (nT f N d hn) (λy hy=>?_) (λy hy=>?_) wC r hr
  · rcases jx.1 hy with hy|hy
    · exact hs y hy
    exact cW.lt h hdm ((hm y).1 hy)
  rcases jx.1 hy with hy|hy
  · exact jx.2 (.inl (hc y hy))
  exact jx.2 (.inr ((hm y).2 (((hm _).1 hy).trans (h.back y))))
end
theorem Qe(hR:Equivalence R)(hn:l.Nodup)(hl:l≠[])(hc:∀x∈l,∀y,R x y->y∈l)(hi:∀x∈l,∀y∈l,R x y):l.countP (λd=>tr (pN R d))=1:=by
 obtain⟨a,ha⟩:=List.exists_mem_of_ne_nil l hl;obtain⟨r,_,h2,h3⟩:=xN hR a;have hr:r∈l:=hc a ha r (hR.symm h2)
 have:=oy hn (p:=λd=>tr (pN R d)) (q:=λ_=>false) (x:=r) hr (bf.2 h3) λd hd=>by
  by_cases c:d=r
  · simp[c]
  have:¬pN R d:=λk=>c (tP hR k h3 (hi d hd r hr))
  rw[br.2 this];rfl
 rw[<-this]
 have h0:l.countP (λ_=>false)=0:=List.countP_eq_zero.2 λx _=>by simp
 rw[h0]
theorem NF:∀{l:List (List Nat)} {p:Nat->Bool},(∀r∈l,r.countP p=1)->l.flatten.countP p=l.length
 |[],_,_=>rfl
 |r :: l,p,h=>by
  rw[flatten_cons,countP_append,h r (by simp),NF λr hr=>h r (by simp[hr]),jE];omega
theorem yr(hR:Equivalence R)(hp:ll.flatten.Perm (range N))(hne:∀l∈ll,l≠[])(hc:∀l∈ll,∀x∈l,∀y,y∈l↔R x y):cl N R=ll.length:=by
 unfold cl;rw[<-hp.countP_eq]
 refine NF λl hl=>?_
 refine Qe hR ?_ (hne l hl) (λx hx y=>(hc l hl x hx y).2) λx hx y hy=>(hc l hl x hx y).1 hy
 exact(hp.nodup_iff.2 jK).sublist (List.sublist_flatten_of_mem hl)
def sig(n k:Nat):Nat:=if k<4*n then k / 4*4+(k%4+3)%4 else k
def mS(X:List Cr):eW:=(yA X).map λa=>(pk (aF X true a),pk (aF X false a))
theorem dI(n:Nat):Pm (4*n) (sig n):=by
 refine⟨λx hx=>?_,λx hx=>?_,λx y e=>?_⟩
 · unfold sig;rw[if_pos hx];omega
 · unfold sig;rw[if_neg (by omega)]
 unfold sig at e
 split at e<;>split at e<;>omega
theorem eP{p q:Pl}(hp:p.2<4)(hq:q.2<4)(e:pk p=pk q):p=q:=by
 have:=congrArg pl e
 rwa [jX hp,jX hq]at this
theorem FV{p:Pl}(h1:p.1<n)(h2:p.2<4):sig n (pk p)=pk (p.1,(p.2+3)%4):=by
 unfold sig pk;rw[if_pos (by omega)]
 simp only
 omega
theorem Mh{n c:Nat}(hc:c<n){s:Nat}(hs:s<4):∀k,it (sig n) k (c*4+s)=c*4+(s+3*k)%4
 |0=>by rw[it];omega
 |k+1=>by
  rw[it,Mh hc hs k];unfold sig;rw[if_pos (by omega)];omega
theorem uA(hx:x<4*n):cW (sig n) x y↔x / 4=y / 4:=by
 have e1:x / 4*4+x%4=x:=by omega
 constructor
 · rintro⟨k,e⟩
   rw[<-e1,Mh (by omega) (by omega)]at e;omega
 intro e;refine⟨(x%4+4-y%4)%4,?_⟩;rw[<-e1,Mh (by omega) (by omega)];omega
def blk(c:Nat):List Nat:=[c*4,c*4+1,c*4+2,c*4+3]
theorem uQ{x c:Nat}:x∈blk c↔x / 4=c:=by
 unfold blk;simp only[jy,jz,or_false];omega
theorem EE(m:Nat):range (4*(m+1))=range (4*m)++blk m:=by
 rw[show 4*(m+1)=4*m+1+1+1+1 by omega,jO,jO,jO,jO];unfold blk;simp[Nat.mul_comm]
theorem adZ:∀n,(range n).flatMap blk=range (4*n)
 |0=>rfl
 |n+1=>by rw[jO,List.flatMap_append,adZ n,EE];simp
theorem qI:x∈l.flatMap blk↔x / 4∈l:=by
 rw[List.mem_flatMap];constructor
 · rintro⟨c,hc,h⟩
   rw[uQ.1 h];exact hc
 exact λh=>⟨_,h,uQ.2 rfl⟩
theorem G1(n:Nat):cl (4*n) (cW (sig n))=n:=by
 have:=yr (dI n).equiv (ll:=(range n).map blk) (by rw[<-List.flatMap_def,adZ]) (λl hl=>by
  obtain⟨c,_,rfl⟩:=jv.1 hl
  unfold blk;simp) (λl hl x hx y=>by
  obtain⟨c,hc,rfl⟩:=jv.1 hl;rw[jw]at hc;rw[uQ]at hx ⊢;rw[uA (by omega)]
  omega)
 rw[this];simp
section
variable {X:List Cr}
theorem Ok.iJ(h:Ok X):Good (4*X.length) (mS X):=by
 intro e he;obtain⟨a,ha,rfl⟩:=jv.1 he;have ha:=eI.1 ha;refine⟨gi (h.aD ha),gi (h.aD ha),λk=>?_⟩;have:=eP (h.aD ha).2 (h.aD ha).2 k;have h1:=h.bT (io:=true) ha;have h2:=h.bT (io:=false) ha
 rw[this,h2]at h1;cases h1
theorem Ok.rX(h:Ok X):oO (mS X):=by
 unfold oO mS;rw[pairwise_map]
 refine imp_of_mem (λ{a b} ha hb hne=>?_) (wI X)
 have ha:=eI.1 ha;have hb:=eI.1 hb
 have key:∀io jo,pk (aF X io a)≠pk (aF X jo b):=λio jo k=>by
  have:=eP (h.aD ha).2 (h.aD hb).2 k;have h1:=h.bH (io:=io) ha;rw[this,h.bH hb]at h1;exact hne h1.symm
 exact⟨key _ _,key _ _,key _ _,key _ _⟩
theorem Ok.uP(h:Ok X){p:Pl}(hp:aq X p):∃e∈mS X,(pk p=e.1/\pk (other X p)=e.2)\/(pk p=e.2/\pk (other X p)=e.1):=by
 have ha:=h.ah hp;have he:=h.mK hp;refine⟨_,jv.2 ⟨aa X p,eI.2 ha,rfl⟩,?_⟩;unfold other
 cases c:cm X p with
 |true=>
  rw[c]at he
  left;exact⟨by rw[he],rfl⟩
 |false=>
  rw[c]at he
  right;exact⟨by rw[he],rfl⟩
theorem Ok.iQ(h:Ok X){p:Pl}(hp:aq X p):aB (mS X) (pk p)=pk (other X p):=by
 obtain⟨e,he,k⟩:=h.uP hp;obtain⟨m1,m2⟩:=cJ h.rX he
 rcases k with⟨k1,k2⟩|⟨k1,k2⟩
 · rw[k1,k2,m1]
 rw[k1,k2,m2]
abbrev ye(X:List Cr):Nat->Nat:=oL (sig X.length) (mS X)
theorem Ok.zx(h:Ok X){p:Pl}(hp:aq X p):ye X (pk p)=pk (other X (p.1,(p.2+3)%4)):=by
 unfold ye oL;rw[FV hp.1 hp.2,h.iQ (dt hp 3)]
theorem Ok.gL(h:Ok X){d:Dt}(hd:Kn.ah X d.1):ye X (pk (head X d))=pk (head X (left X d)):=h.zx (h.bg hd)
theorem Ok.tX(h:Ok X){d e:Dt}(hd:Kn.ah X d.1)(he:Kn.ah X e.1)(k:head X d=head X e):d=e:=by
 have h1:=h.bH (io:=!d.2) hd;have h2:=h.bT (io:=!d.2) hd;have k':aF X (!d.2) d.1=aF X (!e.2) e.1:=k;rw[k',h.bH he]at h1;rw[k',h.bT he]at h2;obtain⟨a,b⟩:=d;obtain⟨a',b'⟩:=e;simp only at h1 h2;rw[h1]
 cases b<;>cases b'<;>simp at h2<;>rfl
theorem Ok.Q2(h:Ok X):rings (ye X) (4*X.length+1) [] ((dM X).map λd=>pk (head X d))=(aA X).map (List.map λd=>pk (head X d)):=by
 have:=yS (nx:=left X) (ny:=ye X) (g:=λd=>pk (head X d)) (all:=dM X) (λd hd e he k=>by
  have h1:=bW.1 hd;have h2:=bW.1 he
  exact h.tX h1 h2 (eP (h.bg h1).2 (h.bg h2).2 k))
  (λd hd=>bW.2 (h.dD (bW.1 hd))) (λd hd=>h.gL (bW.1 hd)) (4*X.length+1) (ds:=dM X) (seen:=[]) (λy hy=>by cases hy) (λy hy=>hy)
 exact this
theorem Ok.pZ(h:Ok X):Pm (4*X.length) (ye X):=mG (dI _) h.iJ
theorem Ok.JL(h:Ok X):∀y∈(dM X).map λd=>pk (head X d),y<4*X.length:=λy hy=>by
 obtain⟨d,hd,rfl⟩:=jv.1 hy;exact gi (h.bg (bW.1 hd))
theorem Ok.My(h:Ok X):((dM X).map λd=>pk (head X d)).Perm (range (4*X.length)):=by
 refine tM ?_ jK (λx hx=>jw.2 (h.JL x hx)) (by simp[fL])
 rw[Nodup,pairwise_map]
 refine imp_of_mem (λ{d e} hd he hne k=>?_) (pI X)
 have h1:=bW.1 hd;have h2:=bW.1 he;exact hne (h.tX h1 h2 (eP (h.bg h1).2 (h.bg h2).2 k))
theorem Ok.ug(h:Ok X):∀r∈(aA X).map (List.map λd=>pk (head X d)),∀x∈r,∀y,y∈r↔cW (ye X) x y:=by
 rw[<-h.Q2];exact Ce h.pZ (by omega) (by simp) (λy hy=>by cases hy) (λy hy=>by cases hy) h.JL
theorem Ok.Da(h:Ok X):((aA X).map (List.map λd=>pk (head X d))).flatten.Perm (range (4*X.length)):=by
 rw[<-map_flatten];exact((fK h).map _).trans h.My
theorem uf(X:List Cr):∀l∈aA X,l≠[]:=xn (left X) (by omega) (dM X) []
theorem Ok.oD(h:Ok X):cl (4*X.length) (cW (ye X))=(aA X).length:=by
 have:=yr h.pZ.equiv h.Da (λl hl=>by
  obtain⟨f,hf,rfl⟩:=jv.1 hl;have:=uf X f hf
  simpa using this) h.ug
 rw[this,jA]
abbrev Ja(X:List Cr):Nat->Nat->Prop:=bh (sig X.length) (mS X)
theorem Ok.N3(h:Ok X)(hx:x<4*X.length):Ja X x y↔Z6 X (x / 4) (y / 4):=by
 have hcm:=aW (dI X.length) (mS X)
 have same:∀{x y:Nat},x<4*X.length->x / 4=y / 4->Ja X x y:=λ{x y} hx e=>eJ ((uA hx).2 e)
 constructor
 · intro k
   have:=bN (R:=λx y=>x=y\/(x<4*X.length/\y<4*X.length/\Z6 X (x / 4) (y / 4))) ⟨λx=>.inl rfl,λ{x y} k=>?_,λ{x y z} k l=>?_⟩ (λx=>?_) (λe he=>?_) k
   · rcases this with rfl|⟨_,_,k⟩
     · exact .refl _
     exact k
   · rcases k with rfl|⟨k1,k2,k3⟩
     · exact .inl rfl
     exact .inr ⟨k2,k1,k3.symm h.xG⟩
   · rcases k with rfl|⟨k1,k2,k3⟩
     · exact l
     rcases l with rfl|⟨l1,l2,l3⟩
     · exact .inr ⟨k1,k2,k3⟩
     exact .inr ⟨k1,l2,k3.trans l3⟩
   · by_cases c:x<4*X.length
     · right
       refine⟨c,(dI X.length).lt x c,?_⟩;rw[<-(uA c).1 (cW.one _ x)];exact .refl _
     exact .inl ((dI X.length).out x (by omega)).symm
   obtain⟨a,ha,rfl⟩:=jv.1 he;have ha:=eI.1 ha;have p1:=h.aD (io:=true) ha;have p2:=h.aD (io:=false) ha;right;refine⟨gi p1,gi p2,?_⟩
   have e1:∀{p:Pl},p.2<4->pk p / 4=p.1:=λ{p} hp=>by unfold pk;omega
   rw[e1 p1.2,e1 p2.2]
   refine .step (.refl _) ?_
   unfold D8;rw[if_pos p1.1]
   refine uO.2 ⟨(aF X true a).2,p1.2,?_⟩
   show _=(other X (aF X true a)).1
   unfold other
   rw[h.bT ha,h.bH ha];rfl
 intro k
 have:∀{c d:Nat},Z6 X c d->c<X.length->∀x y,x / 4=c->y / 4=d->Ja X x y:=λ{c d} k=>by
  induction k with
  |refl=>exact λhc x y h1 h2=>same (by omega) (by omega)
  |step hd he ih=>
   rename_i dd ee;intro hc x y h1 h2;have QQ:=h.VI hc hd;unfold D8 at he;rw[if_pos QQ]at he;obtain⟨s,hs,e⟩:=uO.1 he;have hp:aq X (dd,s):=⟨QQ,hs⟩;obtain⟨q,hq,k⟩:=h.uP hp;have j1:Ja X x (pk (dd,s)):=ih hc x (pk (dd,s)) h1 (by unfold pk;simp only;omega)
   have j2:Ja X (pk (dd,s)) (pk (other X (dd,s))):=by
    have:=dw (dI X.length) hq
    rcases k with⟨k1,k2⟩|⟨k1,k2⟩
    · rw[k1,k2];exact this
    rw[k1,k2];exact hcm.symm this
   have j3:Ja X (pk (other X (dd,s))) y:=same (gi (h.aM hp)) (by
    have:=(h.aM hp).2;unfold pk
    omega)
   exact hcm.trans j1 (hcm.trans j2 j3)
 exact this k (by omega) x y rfl rfl
theorem Ok.nL(h:Ok X):cl (4*X.length) (Ja X)=(aC X).length:=by
 have:=yr (aW (dI X.length) (mS X)) (ll:=(aC X).map λl=>l.flatMap blk) (by
  have e:((aC X).map λl=>l.flatMap blk).flatten=(aC X).flatten.flatMap blk:=by
   generalize aC X=P
   induction P with
   |nil=>rfl
   |cons p P ih=>rw[map_cons,flatten_cons,flatten_cons,List.flatMap_append,ih]
  rw[e,<-adZ]
  exact List.Perm.flatMap_right _ h.eG)
  (λl hl=>by
   obtain⟨p,hp,rfl⟩:=jv.1 hl;obtain⟨c,hc⟩:=List.exists_mem_of_ne_nil _ (h.nE p hp).ne;have:c*4∈p.flatMap blk:=qI.2 (by rw[show c*4 / 4=c by omega];exact hc)
   exact ne_nil_of_mem this)
  (λl hl x hx y=>by
   obtain⟨p,hp,rfl⟩:=jv.1 hl;rw[qI]at hx ⊢;have hc:=(h.nE p hp).fA _ hx;rw[hc.2]
   exact(h.N3 (by omega)).symm)
 rw[this,jA]
theorem Ok.vF(h:Ok X):(aA X).length<=X.length+2*(aC X).length/\((aA X).length+X.length)%2=0:=by
 have h1:=Kn.vF (dI X.length) h.iJ;have h2:=h.oD;have h3:=h.nL;have h4:=G1 X.length
 have h5:(mS X).length=2*X.length:=by unfold mS;rw[jA,pM];rfl
 unfold ye at h2;unfold Ja at h3;rw[h2,h3,h4,h5]at h1;omega
theorem Ex{α:Type}{g:α->Nat}{m:Nat}:∀{l:List α},(∀f∈l,g f<m)->((range m).map λi=>l.countP λf=>decide (g f=i)).sum=l.length
 |[],_=>by
  have:∀k,((range k).map λ_=>0).sum=0:=λk=>by
   induction k with
   |zero=>rfl
   |succ k ih=>rw[jO,jP,sum_append,ih];rfl
  simpa using this m
 |f :: l,h=>by
  have h1:=Ex (g:=g) (m:=m) (l:=l) λx hx=>h x (by simp[hx])
  have h2:∀k,((range k).map λi=>(f :: l).countP λf=>decide (g f=i)).sum=((range k).map λi=>l.countP λf=>decide (g f=i)).sum+if g f<k then 1 else 0:=by
   intro k
   induction k with
   |zero=>simp
   |succ k ih=>
    rw[jO,jP,jP,sum_append,sum_append,ih];simp only[map_cons,map_nil,sum_cons,sum_nil,jG,jh]
    split<;>split<;>split<;>omega
  rw[h2,h1,if_pos (h f (by simp)),jE]
theorem getD_map{α β:Type}(d:α)(g:α->β)(l:List α):(range l.length).map (λi=>g (l.getD i d))=l.map g:=by
 refine List.ext_getElem (by simp) λi h1 h2=>?_
 simp at h1;simp[h1]
theorem NG:∀l:List (List Nat),(l.map λp=>p.length+2).sum=l.flatten.length+2*l.length
 |[]=>rfl
 |p :: l=>by rw[map_cons,sum_cons,NG l,flatten_cons,ju,jE];omega
theorem Ok.OT(h:Ok X){f:List Dt}(hf:f∈aA X):(head X (f.headD (0,false))).1<X.length:=by
 obtain⟨d,r,rfl⟩:∃d r,f=d :: r:=by
  cases f with
  |nil=>exact absurd rfl (uf X _ hf)
  |cons d r=>exact⟨d,r,rfl⟩
 have:Kn.ah X d.1:=bW.1 ((fK h).mem_iff.1 (mem_flatten.2 ⟨_,hf,by simp⟩));exact(h.bg this).1
theorem Ok.Cn(h:Ok X){c:Nat}(hc:c<X.length):er X c<(aC X).length:=by
 have hm:c∈(aC X).flatten:=h.eG.mem_iff.2 (jw.2 hc);unfold er;rw[List.findIdx_lt_length];obtain⟨l,h1,h2⟩:=mem_flatten.1 hm;exact⟨l,h1,by simpa using h2⟩
theorem Ok.Fg(h:Ok X):((range (aC X).length).map (nh X)).sum=(aA X).length:=
 Ex (g:=λf:List Dt=>er X (head X (f.headD (0,false))).1) (l:=aA X) λ_ hf=>h.Cn (h.OT hf)
theorem Ok.Jy(h:Ok X):((range (aC X).length).map λi=>((aC X).getD i []).length+2).sum=X.length+2*(aC X).length:=by
 rw[getD_map [] (λp:List Nat=>p.length+2),NG,h.eG.length_eq,jS]
theorem Ok.xx(h:Ok X)(hp:aJ X=true):(aA X).length=X.length+2*(aC X).length:=by
 rw[<-h.Fg,<-h.Jy]
 congr 1
 refine List.map_congr_left λi hi=>?_
 have:=all_eq_true.1 hp i hi
 rwa [jh]at this
theorem VG{K:Nat->Bool}{n:Nat}(hK:∀d,K (sig n d)=K d):∀m,m<=n->ct (4*m) K%4=0
 |0,_=>rfl
 |m+1,hm=>by
  have h1:=VG hK m (by omega)
  have h2:∀s,s<4->K (m*4+s)=K (m*4):=λs hs=>by
   have:cW (sig n) (m*4) (m*4+s):=(uA (by omega)).2 (by omega);exact this.ind (P:=λy=>K y=K (m*4)) (λx hx=>(hK x).trans hx) rfl
  unfold ct at h1 ⊢;rw[EE,countP_append];unfold blk;simp only[jG,List.countP_nil,h2 1 (by omega),h2 2 (by omega),h2 3 (by omega)]
  split<;>omega
theorem Ok.aiC(h:Ok X)(hp:aJ X=true):∃dm:Pl->Bool,∀p,aq X p->dm (other X p)=!dm p/\dm (p.1,(p.2+3)%4)=!dm p:=by
 have hc:=h.xx hp;have h2:=h.oD;have h3:=h.nL;have h4:=G1 X.length
 have h5:(mS X).length=2*X.length:=by unfold mS;rw[jA,pM];rfl
 obtain⟨dm,c1,c2⟩:=MT (dI X.length) h.iJ h.rX (by
  unfold ye at h2;unfold Ja at h3
  rw[h2,h3,h4,h5];omega) (z:=λd=>decide (d<4*X.length))
  ⟨λd hd=>by
   have hd:d<4*X.length:=by simpa using hd
   obtain⟨e,he,k⟩:=h.uP (fI hd);refine⟨e,he,?_⟩
   have:pk (pl d)=d:=by unfold pk pl;simp only;omega
   rw[this]at k
   exact k.elim (λk=>.inl k.1) λk=>.inr k.1,
   λe he=>by
    obtain⟨g1,g2,_⟩:=h.iJ e he
    show decide _=decide _
    rw[jk g1,jk g2]⟩
  (λK hK=>by
   have h1:=VG hK X.length (jH _)
   have h2:ct (4*X.length) (λd=>K d&&decide (d<4*X.length))=ct (4*X.length) K:=qO λd hd=>by simp[hd]
   omega)
 have ho:∀p,aq X p->dm (pk (other X p))=!dm (pk p):=λp hp=>by
  obtain⟨e,he,k⟩:=h.uP hp;have h1:=c2 e he;rw[jk (h.iJ e he).1]at h1
  rcases k with⟨k1,k2⟩|⟨k1,k2⟩<;>rw[k1,k2]<;>revert h1<;>cases dm e.1<;>cases dm e.2<;>simp
 refine⟨λp=>dm (pk p),λp hp=>⟨ho p hp,?_⟩⟩;have h1:=c1 (pk p);have h0:oL (sig X.length) (mS X) (pk p)=pk (other X (p.1,(p.2+3)%4)):=h.zx hp;rw[h0,ho _ (dt hp 3)]at h1
 show dm (pk (p.1,(p.2+3)%4))=!dm (pk p)
 rw[<-h1];simp
end
theorem G0(hR:Equivalence R)(p:Nat->Bool)(hp:ll.flatten.Perm ((range N).filter p))(hne:∀l∈ll,l≠[])(hc:∀l∈ll,∀x∈l,∀y,y∈l↔R x y)(hs:∀x,p x=false->∀y,R x y->y=x):
 cl N R=ll.length+((range N).filter λx=>!p x).length:=by
 have h1:(((range N).filter λx=>!p x).map λx=>[x]).flatten=(range N).filter λx=>!p x:=by
  generalize (range N).filter (λx=>!p x)=l
  induction l with
  |nil=>rfl
  |cons a l ih=>rw[map_cons,flatten_cons,ih];rfl
 have:=yr hR (N:=N) (ll:=ll++((range N).filter λx=>!p x).map λx=>[x]) (by
  rw[List.flatten_append,h1]
  exact(hp.append_right _).trans (List.filter_append_perm p _))
  (λl hl=>by
   rcases jx.1 hl with hl|hl
   · exact hne l hl
   obtain⟨x,_,rfl⟩:=jv.1 hl;simp)
  (λl hl x hx y=>by
   rcases jx.1 hl with hl|hl
   · exact hc l hl x hx y
   obtain⟨z,hz,rfl⟩:=jv.1 hl;rw[jB]at hx ⊢;subst hx;have hp:=(jC.1 hz).2;rw[not_eq_true']at hp
   exact⟨λe=>e ▸ hR.refl _,λh=>hs _ hp y h⟩)
 rw[this,ju,jA]
section
variable {X:List Cr} {l:List Nat}
def qW(l:List Nat)(x:Nat):Bool:=l.contains (x / 4)
theorem fJ:qW l x=true↔x / 4∈l:=by unfold qW;simp
def nR(X:List Cr)(l:List Nat)(x:Nat):Nat:=if qW l x then sig X.length x else x
def zA(X:List Cr)(l:List Nat):eW:=(mS X).filter λe=>qW l e.1
theorem uB:sig n x / 4=x / 4:=by unfold sig;split<;>omega
theorem xh(X:List Cr)(l:List Nat):Pm (4*X.length) (nR X l):=by
 have h:=dI X.length;refine⟨λx hx=>?_,λx hx=>?_,λx y e=>?_⟩
 · unfold nR;split
   · exact h.lt x hx
   exact hx
 · unfold nR;split
   · exact h.out x hx
   rfl
 have hd:∀x,nR X l x / 4=x / 4:=λx=>by unfold nR;split;exact uB;rfl
 have e4:x / 4=y / 4:=by rw[<-hd x,e,hd]
 unfold nR qW at e;rw[e4]at e;split at e
 · exact h.inj x y e
 exact e
theorem qM:∀e∈zA X l,e∈mS X:=λ_ he=>(jC.1 he).1
theorem Ok.zy(h:Ok X):Good (4*X.length) (zA X l):=λe he=>h.iJ e (qM e he)
theorem Ok.JZ(h:Ok X):oO (zA X l):=by
 have:=h.rX;unfold oO at this ⊢;exact this.sublist filter_sublist
theorem eM.other(h:eM X l){p:Pl}(hp:aq X p)(hX:Ok X):p.1∈l↔(other X p).1∈l:=by
 have step:∀{q:Pl},aq X q->q.1∈l->(Kn.other X q).1∈l:=λ{q} hq hl=>by
  refine((h.fA _ hl).2 _).2 (.step (.refl _) ?_);unfold D8;rw[if_pos hq.1];exact uO.2 ⟨q.2,hq.2,rfl⟩
 refine⟨step hp,λk=>?_⟩;have:=step (hX.aM hp) k
 rwa [hX.bU hp]at this
theorem tJ{p:Pl}(hp:p.2<4):pk p / 4=p.1:=by unfold pk;omega
theorem Ok.lI(hX:Ok X)(h:eM X l)(he:e∈mS X):qW l e.1=qW l e.2:=by
 obtain⟨a,ha,rfl⟩:=jv.1 he;have ha:=eI.1 ha;have p1:=hX.aD (io:=true) ha;have p2:=hX.aD (io:=false) ha;rw[jD,fJ,fJ,tJ p1.2,tJ p2.2,h.other p1 hX]
 have:Kn.other X (aF X true a)=aF X false a:=by
  unfold Kn.other
  rw[hX.bT ha,hX.bH ha];rfl
 rw[this]
theorem Ok.agY(hX:Ok X)(h:eM X l):aB (zA X l) x=if qW l x then aB (mS X) x else x:=by
 by_cases c:dU (mS X) x;rotate_left
 · rw[aG c,ite_self]
   exact aG λ⟨e,he,k⟩=>c ⟨e,qM e he,k⟩
 obtain⟨e,he,k⟩:=c
 have hl:qW l x=qW l e.1:=by
  rcases k with rfl|rfl
  · rfl
  exact(hX.lI h he).symm
 by_cases d:qW l e.1=true
 · rw[hl,if_pos d]
   have hm:e∈zA X l:=jC.2 ⟨he,d⟩;have m1:=cJ hX.rX he;have m2:=cJ hX.JZ hm
   rcases k with rfl|rfl
   · rw[m1.1,m2.1]
   rw[m1.2,m2.2]
 rw[hl,if_neg d]
 refine aG λ⟨e',Hn,k'⟩=>?_
 have hd:=(jC.1 Hn).2
 have hl':qW l x=qW l e'.1:=by
  rcases k' with rfl|rfl
  · rfl
  exact(hX.lI h (qM _ Hn)).symm
 rw[<-hl',hl]at hd;exact d hd
theorem Ok.agy(hX:Ok X)(h:eM X l)(x:Nat):oL (nR X l) (zA X l) x=if qW l x then ye X x else x:=by
 unfold oL;rw[hX.agY h]
 have hi:qW l (nR X l x)=qW l x:=by
  unfold qW nR;split
  · rw[uB]
  rfl
 rw[hi];unfold nR;by_cases c:qW l x=true
 · rw[if_pos c,if_pos c,if_pos c];rfl
 rw[if_neg c,if_neg c,if_neg c]
theorem TP{g:Nat->Nat}(hg:∀x,g x=if p x then f x else x)(hp:∀x,p x=true->p (f x)=true)(hx:p x=true):cW g x y↔cW f x y:=by
 have key:∀n,it g n x=it f n x/\p (it f n x)=true:=by
  intro n
  induction n with
  |zero=>exact⟨rfl,hx⟩
  |succ n ih=>
   refine⟨?_,hp _ ih.2⟩
   rw[it,ih.1,hg,if_pos ih.2];rfl
 constructor
 · rintro⟨n,rfl⟩;exact⟨n,(key n).1.symm⟩
 rintro⟨n,rfl⟩;exact⟨n,(key n).1⟩
theorem Oa{g:Nat->Nat}(hg:∀x,g x=if p x then f x else x)(hx:p x=false)(h:cW g x y):y=x:=
 h.ind (P:=λy=>y=x) (λz hz=>by rw[hz,hg,hx];rfl) rfl
theorem Rj(h:eM X l):(l.flatMap blk).Perm ((range (4*X.length)).filter (qW l)):=by
 have hn:(l.flatMap blk).Nodup:=by
  rw[Nodup,List.pairwise_flatMap];refine⟨λc _=>by unfold blk;simp,h.nodup.imp λ{a b} hne x hx y hy e=>?_⟩;subst e;exact hne ((uQ.1 hx).symm.trans (uQ.1 hy))
 refine(jR hn (jK.sublist filter_sublist)).2 λx=>?_
 rw[qI,jC,fJ,jw];exact⟨λk=>⟨by have:=(h.fA _ k).1;omega,k⟩,λk=>k.2⟩
def uX(X:List Cr)(l:List Nat):List (List Dt):=(aA X).filter λf=>l.contains (head X (f.headD (0,false))).1
theorem Ok.Fj(hX:Ok X)(h:eM X l)(hx:qW l x=true):qW l (ye X x)=true:=by
 rw[fJ]at hx ⊢;have hl:=(h.fA _ hx).1
 have e:x=pk (pl x):=by unfold pk pl;simp only;omega
 have hp:aq X (pl x):=fI (by omega);rw[e,hX.zx hp,tJ (hX.aM (dt hp 3)).2];exact(h.other (dt hp 3) hX).1 (by show (pl x).1∈l;unfold pl;exact hx)
theorem tZ{α:Type}(q:List α->Bool)(p:α->Bool):∀L:List (List α),(∀r∈L,∀x∈r,p x=q r)->(L.filter q).flatten=L.flatten.filter p
 |[],_=>rfl
 |r :: L,h=>by
  have ih:=tZ q p L λr hr=>h r (by simp[hr])
  rw[List.filter_cons,flatten_cons,List.filter_append];by_cases c:q r=true
  · have e:r.filter p=r:=List.filter_eq_self.2 λx hx=>by rw[h r (by simp) x hx,c]
    rw[if_pos c,flatten_cons,ih,e]
  have e:r.filter p=[]:=List.filter_eq_nil_iff.2 λx hx=>by rw[h r (by simp) x hx];exact c
  rw[if_neg c,ih,e];rfl
theorem Ok.JY(hX:Ok X)(h:eM X l):(uX X l).length<=l.length+2:=by
 have hE:=(Kn.vF (xh X l) (hX.zy (l:=l))).1
 obtain⟨K,hK⟩:∃K,K=((range (4*X.length)).filter λx=>!qW l x).length:=⟨_,rfl⟩
 have tV:=Rj h
 have hlen:(l.flatMap blk).length=4*l.length:=by
  have:∀l:List Nat,(l.flatMap blk).length=4*l.length:=λl=>by
   induction l with
   |nil=>rfl
   |cons a l ih=>rw[flatMap_cons,ju,ih,jE];unfold blk;simp;omega
  exact this l
 have hV:cl (4*X.length) (cW (nR X l))=l.length+K:=by
  rw[hK]
  have:=G0 (xh X l).equiv (qW l) (ll:=l.map blk) (by rw[<-List.flatMap_def];exact tV) (λb hb=>by
   obtain⟨c,_,rfl⟩:=jv.1 hb;unfold blk;simp)
   (λb hb x hx y=>by
    obtain⟨c,hc,rfl⟩:=jv.1 hb;have GG:=(h.fA c hc).1;rw[uQ]at hx ⊢;have Be:qW l x=true:=fJ.2 (by rw[hx];exact hc);rw[TP (f:=sig X.length) (g:=nR X l) (p:=qW l) (λx=>rfl) (λx hx=>by unfold qW at hx ⊢;rwa [uB]) Be,uA (by omega)]
    omega)
   (λx hx y hy=>Oa (f:=sig X.length) (g:=nR X l) (p:=qW l) (λx=>rfl) hx hy)
  rw[this,jA]
 have hF:cl (4*X.length) (cW (oL (nR X l) (zA X l)))=(uX X l).length+K:=by
  rw[hK]
  have JN:∀f∈aA X,∀d∈f,qW l (pk (head X d))=l.contains (head X (f.headD (0,false))).1:=λf hf d hd=>by
   obtain⟨d0,r,rfl⟩:∃d r,f=d :: r:=by
    cases f with
    |nil=>exact absurd rfl (uf X _ hf)
    |cons d r=>exact⟨d,r,rfl⟩
   have key:∀{d e:Dt},d∈d0 :: r->e∈d0 :: r->qW l (pk (head X d))=true->qW l (pk (head X e))=true:=λ{d e} hd he k=>by
    have:=(hX.ug _ (jv.2 ⟨_,hf,rfl⟩) (pk (head X d)) (jv.2 ⟨d,hd,rfl⟩) (pk (head X e))).1 (jv.2 ⟨e,he,rfl⟩);exact this.ind (P:=λy=>qW l y=true) (λz hz=>hX.Fj h hz) k
   have ha:Kn.ah X d0.1:=bW.1 ((fK hX).mem_iff.1 (mem_flatten.2 ⟨_,hf,by simp⟩))
   have e0:qW l (pk (head X d0))=l.contains (head X d0).1:=by unfold qW;rw[tJ (hX.bg ha).2]
   show _=l.contains (head X d0).1
   rw[<-e0,jD];exact⟨key hd (by simp),key (by simp) hd⟩
  have:=G0 (mG (xh X l) (hX.zy (l:=l))).equiv (qW l) (ll:=(uX X l).map (List.map λd=>pk (head X d))) (by
   have e:((uX X l).map (List.map λd=>pk (head X d))).flatten=((aA X).map (List.map λd=>pk (head X d))).flatten.filter (qW l):=by
    rw[<-map_flatten,<-map_flatten,List.filter_map]
    congr 1
    exact tZ _ _ _ λf hf d hd=>JN f hf d hd
   rw[e]
   exact hX.Da.filter _)
   (λb hb=>by
    obtain⟨f,hf,rfl⟩:=jv.1 hb;have:=uf X f (jC.1 hf).1
    simpa using this)
   (λb hb x hx y=>by
    obtain⟨f,hf,rfl⟩:=jv.1 hb;obtain⟨Mx,hf2⟩:=jC.1 hf;rw[hX.ug _ (jv.2 ⟨f,Mx,rfl⟩) x hx];obtain⟨d,hd,rfl⟩:=jv.1 hx
    exact(TP (hX.agy h) (λx hx=>hX.Fj h hx) (by rw[JN f Mx d hd];exact hf2)).symm)
   (λx hx y hy=>Oa (hX.agy h) hx hy)
  rw[this,jA]
 have hC:cl (4*X.length) (bh (nR X l) (zA X l))=1+K:=by
  rw[hK];have heq:=aW (xh X l) (zA X l)
  have:=G0 heq (qW l) (ll:=[l.flatMap blk]) (by simpa using tV)
   (λb hb=>by
    rw[jB]at hb;subst hb
    obtain⟨c,hc⟩:=List.exists_mem_of_ne_nil _ h.ne;have:c*4∈l.flatMap blk:=qI.2 (by rw[show c*4 / 4=c by omega];exact hc)
    exact ne_nil_of_mem this)
   (λb hb x hx y=>by
    rw[jB]at hb;subst hb
    rw[qI]at hx ⊢;constructor
    · intro hy
      have hxl:x<4*X.length:=by have:=(h.fA _ hx).1;omega
      have hcon:Ja X x y:=(hX.N3 hxl).2 (((h.fA _ hx).2 _).1 hy)
      have:=bN (R:=λx y=>(x / 4∈l↔y / 4∈l)/\(x / 4∈l->bh (nR X l) (zA X l) x y)) (σ:=sig X.length) (es:=mS X)
       ⟨λx=>⟨Iff.rfl,λ_=>heq.refl x⟩,λ{x y} k=>⟨k.1.symm,λm=>heq.symm (k.2 (k.1.2 m))⟩,λ{x y z} k m=>⟨k.1.trans m.1,λa=>heq.trans (k.2 a) (m.2 (k.1.1 a))⟩⟩
       (λx=>⟨by rw[uB],λm=>eJ (by
        have:nR X l x=sig X.length x:=by unfold nR;rw[if_pos (fJ.2 m)]
        rw[<-this];exact cW.one _ x)⟩)
       (λe he=>⟨by rw[<-fJ,<-fJ,hX.lI h he],λm=>dw (xh X l) (jC.2 ⟨he,fJ.2 m⟩)⟩) hcon
      exact this.2 hx
    intro k
    have:=bN (R:=λx y=>x / 4∈l↔y / 4∈l) (σ:=nR X l) (es:=zA X l) ⟨λx=>Iff.rfl,λk=>k.symm,λk m=>k.trans m⟩
     (λx=>by unfold nR;split;rw[uB];rfl) (λe he=>by rw[<-fJ,<-fJ,hX.lI h (qM e he)]) k
    exact this.1 hx)
   (λx hx y hy=>by
    have:=bN (R:=λx y=>x=y\/(qW l x=true/\qW l y=true)) (σ:=nR X l) (es:=zA X l)
     ⟨λx=>.inl rfl,λ{x y} k=>by rcases k with rfl|⟨a,b⟩;exact .inl rfl;exact .inr ⟨b,a⟩,λ{x y z} k m=>by
      rcases k with rfl|⟨a,b⟩
      · exact m
      rcases m with rfl|⟨c,d⟩
      · exact .inr ⟨a,b⟩
      exact .inr ⟨a,d⟩⟩
     (λx=>by
      by_cases c:qW l x=true
      · refine .inr ⟨c,?_⟩
        unfold nR;rw[if_pos c];unfold qW at c ⊢;rwa [uB]
      left;unfold nR;rw[if_neg c])
     (λe he=>.inr ⟨(jC.1 he).2,by rw[<-hX.lI h (qM e he)];exact(jC.1 he).2⟩) hy
    rcases this with e|⟨a,_⟩
    · exact e.symm
    rw[hx]at a;cases a)
  rw[this];simp
 have hA:2*(zA X l).length=4*l.length:=by
  rw[<-hlen]
  have e:∀es:eW,(es.flatMap λe=>[e.1,e.2]).length=2*es.length:=λes=>by
   induction es with
   |nil=>rfl
   |cons e es ih=>rw[flatMap_cons,ju,ih,jE];simp;omega
  rw[<-e]
  refine List.Perm.length_eq ((jR ?_ (tV.nodup_iff.2 (jK.sublist filter_sublist))).2 λx=>?_)
  · rw[Nodup,List.pairwise_flatMap]
    refine⟨λe he=>by
     have:=(hX.zy e he).2.2
     simp[this],(hX.JZ (l:=l)).imp λ{a b} k x hx y hy=>?_⟩
    simp only[jy,jz,or_false]at hx hy
    rcases hx with rfl|rfl<;>rcases hy with rfl|rfl
    · exact k.1
    · exact k.2.1
    · exact k.2.2.1
    exact k.2.2.2
  rw[qI,List.mem_flatMap];constructor
  · rintro⟨e,he,hx⟩
    have h1:=(jC.1 he).2;simp only[jy,jz,or_false]at hx
    rcases hx with rfl|rfl
    · exact fJ.1 h1
    rw[hX.lI h (qM e he)]at h1;exact fJ.1 h1
  intro hx;have hxl:=(h.fA _ hx).1
  have e0:x=pk (pl x):=by unfold pk pl;simp only;omega
  obtain⟨e,he,k⟩:=hX.uP (fI (X:=X) (j:=x) (by omega));rw[<-e0]at k
  have hk:x=e.1\/x=e.2:=k.elim (λk=>.inl k.1) λk=>.inr k.1
  refine⟨e,jC.2 ⟨he,?_⟩,by simpa using hk⟩
  rcases hk with hk|hk
  · rw[<-hk];exact fJ.2 hx
  rw[hX.lI h he,<-hk];exact fJ.2 hx
 rw[hV,hF,hC]at hE;omega
theorem Ok.MH(hX:Ok X)(hi:i<(aC X).length):nh X i=(uX X (aC X)[i]).length:=by
 unfold nh uX;rw[List.countP_eq_length_filter]
 congr 1
 refine List.filter_congr λf hf=>?_
 have hc:=hX.OT hf
 obtain⟨c,hcd⟩:∃c,c=(head X (f.headD (0,false))).1:=⟨_,rfl⟩
 rw[<-hcd]at hc ⊢;rw[jD,jh,List.contains_iff_mem];have hlt:=hX.Cn hc
 have xY:c∈(aC X)[er X c]:=by
  have YG:(aC X).findIdx (λl=>l.contains c)<(aC X).length:=hlt;have:((aC X)[er X c]).contains c=true:=List.findIdx_getElem (xs:=aC X) (p:=λl=>l.contains c) (w:=YG);exact List.contains_iff_mem.1 this
 constructor
 · intro e;subst e;exact xY
 intro k;have Gy:(aC X).flatten.Nodup:=hX.eG.nodup_iff.2 jK;have hp:=List.pairwise_iff_getElem.1 (List.pairwise_flatten.1 Gy).2
 rcases lt_trichotomy (er X c) i with d|d|d
 · exact absurd rfl (hp _ _ hlt hi d c xY c k)
 · exact d
 exact absurd rfl (hp _ _ hi hlt d c k c xY)
theorem Ew{f g:Nat->Nat}:∀{m:Nat},(∀i,i<m->f i<=g i)->((range m).map f).sum=((range m).map g).sum->∀i,i<m->f i=g i
 |0,_,_,i,hi=>by omega
 |m+1,hle,hs,i,hi=>by
  have anF:∀k,k<=m->((range k).map f).sum<=((range k).map g).sum:=λk=>by
   induction k with
   |zero=>intro _;exact jH _
   |succ k ih=>
    intro hk;have:=ih (by omega);have:=hle k (by omega);rw[jO,jP,jP,sum_append,sum_append];simp only[map_cons,map_nil,sum_cons,sum_nil];omega
  rw[jO,jP,jP,sum_append,sum_append]at hs;simp only[map_cons,map_nil,sum_cons,sum_nil]at hs;have h1:=anF m (jH _);have h2:=hle m (by omega);by_cases c:i=m
  · subst c;omega
  exact Ew (m:=m) (λi hi=>hle i (by omega)) (by omega) i (by omega)
theorem Ok.rI(hX:Ok X):aJ X=true↔(aA X).length=X.length+2*(aC X).length:=by
 refine⟨hX.xx,λh=>?_⟩;rw[<-hX.Fg,<-hX.Jy]at h
 refine all_eq_true.2 λi hi=>?_
 rw[jw]at hi;rw[jh]
 refine Ew (g:=λi=>((aC X).getD i []).length+2) (λi hi=>?_) h i hi
 have e:(aC X).getD i []=(aC X)[i]:=by rw[jc,je hi];rfl
 show _<=((aC X).getD i []).length+2
 rw[hX.MH hi,e];exact hX.JY (hX.nE _ (jM hi))
end
def Flat(N:Nat)(σ:Nat->Nat)(es:eW):Prop:=cl N (cW (oL σ es))+cl N (cW σ)=es.length+2*cl N (bh σ es)
section
variable {N:Nat} {σ:Nat->Nat}
theorem SV{a b x y:Nat}(h:swp a b x=swp a b y):x=y:=by
 have:=congrArg (swp a b) h
 rwa [rC,rC]at this
theorem dh:∀{es:eW} {x y:Nat},aB es x=aB es y->x=y
 |[],_,_,h=>h
 |_ :: _,_,_,h=>dh (SV h)
theorem Yq(hf:∀{x y},f x=f y->x=y)(a b z:Nat):f (swp a b z)=swp (f a) (f b) (f z):=by
 by_cases h:z=a
 · subst h;rw[cp,cp]
 by_cases k:z=b
 · subst k;rw[cY,cY]
 rw[ak h k,ak (λe=>h (hf e)) (λe=>k (hf e))]
theorem Cz(es:eW)(a b z:Nat):aB es (swp a b z)=swp (aB es a) (aB es b) (aB es z):=Yq dh a b z
theorem yo(h:Pm N σ)(es:eW)(x:Nat):bh σ es x (aB es x):=by
 have key:∀(l:eW),(∀e∈l,e∈es)->bh σ es x (aB l x):=by
  intro l
  induction l with
  |nil=>intro _;exact(aW h es).refl x
  |cons e l ih=>
   intro hl
   have i:=ih λd hd=>hl d (by simp[hd])
   have p:=dw h (hl e (by simp))
   show bh σ es x (swp e.1 e.2 (aB l x))
   by_cases c:aB l x=e.1
   · rw[c,cp];rw[c]at i;exact(aW h es).trans i p
   by_cases d:aB l x=e.2
   · rw[d,cY];rw[d]at i;exact(aW h es).trans i ((aW h es).symm p)
   rw[ak c d];exact i
 exact key es λ_ he=>he
theorem Good.A8:∀{es:eW},Good N es->∀{x:Nat},x<N->aB es x<N
 |[],_,_,hx=>hx
 |e :: es,h,x,hx=>by
  have i:=h.tail.A8 hx;obtain⟨h1,h2,_⟩:=h e (by simp)
  show swp e.1 e.2 (aB es x)<N
  unfold swp;split
  · exact h2
  split
  · exact h1
  exact i
theorem Flat.drop(h:Pm N σ){es:eW}(hg:Good N (e :: es))(hf:Flat N σ (e :: es)):Flat N σ es:=by
 unfold Flat at hf ⊢;obtain⟨h1,h2,h3⟩:=hg e (by simp);have hE:=(vF h hg.tail).1;have hp:=mG h hg.tail;rw[xy,jE]at hf;have hf:cl N (cW λx=>swp e.1 e.2 (oL σ es x))+cl N (cW σ)=es.length+1+2*cl N (qG (bh σ es) e.1 e.2):=hf;by_cases d:cW (oL σ es) e.1 e.2
 · have:=pJ hp h1 h2 h3 d
   rw[eK (kD (aW h es) (lU h hg.tail d))]at hf;omega
 have:=nt hp h1 h2 d;by_cases c:bh σ es e.1 e.2
 · rw[eK (kD (aW h es) c)]at hf;omega
 have:=zF (aW h es) h1 h2 c;omega
theorem Fl(h:Pm N σ){a b:Nat}(ha:a<N)(hb:b<N)(es:eW)(k:cW σ a b)(x y:Nat):bh σ es x y↔qG (bh (λx=>swp a b (σ x)) es) a b x y:=by
 have h':=h.swp ha hb;have hR:=fw (aW h' es) a b;have hab:qG (bh (λx=>swp a b (σ x)) es) a b a b:=.inr (.inl ⟨(aW h' es).refl _,(aW h' es).refl _⟩);constructor
 · intro c
   refine bN hR (λz=>?_) (λe he=>.inl (dw h' he)) c
   have o:qG (bh (λx=>swp a b (σ x)) es) a b z (swp a b (σ z)):=.inl (eJ (cW.one (λx=>swp a b (σ x)) z));by_cases c:σ z=a
   · rw[c,cp]at o;rw[c];exact hR.trans o (hR.symm hab)
   by_cases d:σ z=b
   · rw[d,cY]at o;rw[d];exact hR.trans o hab
   rwa [ak c d]at o
 have hE:=aW h es
 have low:∀{x y},bh (λx=>swp a b (σ x)) es x y->bh σ es x y:=λ{x y} c=>by
  refine bN hE (λz=>?_) (λe he=>dw h he) c
  have o:bh σ es z (σ z):=eJ (cW.one σ z);have ab:bh σ es a b:=eJ k
  show bh σ es z (swp a b (σ z))
  by_cases c:σ z=a
  · rw[c,cp];rw[c]at o;exact hE.trans o ab
  by_cases d:σ z=b
  · rw[d,cY];rw[d]at o;exact hE.trans o (hE.symm ab)
  rwa [ak c d]
 rintro(c|⟨c,d⟩|⟨c,d⟩)
 · exact low c
 · exact hE.trans (low c) (hE.trans (eJ k) (low d))
 exact hE.trans (low c) (hE.trans (hE.symm (eJ k)) (low d))
theorem Flat.split(h:Pm N σ){es:eW}(hg:Good N es){a b:Nat}(ha:a<N)(hb:b<N)(hne:a≠b)(k:cW σ a b)(hf:Flat N σ es):Flat N (λx=>swp a b (σ x)) es:=by
 unfold Flat at hf ⊢;have h':=h.swp ha hb;have hE:=(vF h' hg).1;have hp:=mG h hg
 have e:oL (λx=>swp a b (σ x)) es=λx=>swp (aB es a) (aB es b) (oL σ es x):=funext λx=>Cz es a b (σ x)
 have hc:=eK (N:=N) (Fl h ha hb es k);have hV:=pJ h ha hb hne k;have hma:=hg.A8 ha;have yJ:=hg.A8 hb
 have hmn:aB es a≠aB es b:=λc=>hne (dh c)
 rw[e]at hE ⊢;by_cases d:cW (oL σ es) (aB es a) (aB es b)
 · have hF:=pJ hp hma yJ hmn d
   by_cases c:bh (λx=>swp a b (σ x)) es a b
   · rw[eK (kD (aW h' es) c)]at hc;omega
   have:=zF (aW h' es) ha hb c;omega
 have hF:=nt hp hma yJ d;have j:=Cq (a:=aB es a) (b:=aB es b) hp d;rw[<-e]at j;have j:=lU h' hg j;have sN:=aW h' es;have c:bh (λx=>swp a b (σ x)) es a b:=sN.trans (yo h' es a) (sN.trans j (sN.symm (yo h' es b)));rw[eK (kD sN c)]at hc;omega
theorem Flat.congr(h:Pm N σ){es es':eW}(hm:∀x,aB es x=aB es' x)(hl:es.length=es'.length)(h1:∀e∈es,bh σ es' e.1 e.2)(h2:∀e∈es',bh σ es e.1 e.2)(hf:Flat N σ es):Flat N σ es':=by
 unfold Flat at hf ⊢
 have e:oL σ es=oL σ es':=funext λx=>hm (σ x)
 have c:∀x y,bh σ es x y↔bh σ es' x y:=λx y=>
  ⟨λk=>bN (aW h es') (λz=>eJ (cW.one σ z)) h1 k,λk=>bN (aW h es) (λz=>eJ (cW.one σ z)) h2 k⟩
 rw[<-e,<-eK c,<-hl];exact hf
end
theorem oO.perm{es es':eW}(h:oO es)(p:es.Perm es'):oO es':=by
 refine(p.pairwise_iff ?_).1 h;rintro x y ⟨h1,h2,h3,h4⟩;exact⟨λe=>h1 e.symm,λe=>h3 e.symm,λe=>h2 e.symm,λe=>h4 e.symm⟩
theorem EW{es es':eW}(h:oO es)(p:es.Perm es')(x:Nat):aB es x=aB es' x:=by
 by_cases c:dU es x
 · obtain⟨e,he,k|k⟩:=c
   · rw[k,(cJ h he).1,(cJ (h.perm p) (p.mem_iff.1 he)).1]
   rw[k,(cJ h he).2,(cJ (h.perm p) (p.mem_iff.1 he)).2]
 rw[aG c,aG λ⟨e,he,k⟩=>c ⟨e,p.mem_iff.2 he,k⟩]
section
variable {N:Nat} {σ:Nat->Nat}
theorem Good.perm{es es':eW}(h:Good N es)(p:es.Perm es'):Good N es':=λe he=>h e (p.mem_iff.2 he)
theorem Flat.perm(h:Pm N σ){es es':eW}(hd:oO es)(p:es.Perm es')(hf:Flat N σ es):Flat N σ es':=
 hf.congr h (EW hd p) p.length_eq (λ_ he=>dw h (p.mem_iff.1 he)) λ_ he=>dw h (p.mem_iff.2 he)
theorem Kf(h:Pm N σ){a b:Nat}(es:eW):∀e∈(a,b) :: es,bh σ ((b,a) :: es) e.1 e.2:=λe he=>by
 rcases jy.1 he with rfl|he
 · exact(aW h _).symm (dw h (e:=(b,a)) (mem_cons_self ..))
 exact dw h (List.mem_cons_of_mem _ he)
theorem Flat.flip(h:Pm N σ){a b:Nat}{es:eW}(hf:Flat N σ ((a,b) :: es)):Flat N σ ((b,a) :: es):=
 Flat.congr (es:=(a,b) :: es) (es':=(b,a) :: es) h (λx=>Ir a b (aB es x)) rfl (Kf h es) (Kf h es) hf
theorem Flat.contract(h:Pm N σ){a b:Nat}{es:eW}(hg:Good N ((a,b) :: es))(hd:oO ((a,b) :: es))(k:¬cW σ a b)(hf:Flat N σ ((a,b) :: es)):Flat N (λx=>swp a b (σ x)) es:=by
 unfold Flat at hf ⊢;obtain⟨ha,hb,hne⟩:a<N/\b<N/\a≠b:=hg (a,b) (mem_cons_self ..);obtain⟨o1,o2⟩:¬dU es a/\¬dU es b:=hd.out;have h':=h.swp ha hb
 have e:oL (λx=>swp a b (σ x)) es=oL σ ((a,b) :: es):=funext λx=>by
  show aB es (swp a b (σ x))=swp a b (aB es (σ x))
  rw[Cz,aG o1,aG o2]
 have hV:=nt h ha hb k;have j:=Cq (a:=a) (b:=b) h k
 have c:∀x y,bh (λx=>swp a b (σ x)) es x y↔bh σ ((a,b) :: es) x y:=λx y=>by
  have:=Fl h' ha hb es j x y;rw[uz σ a b]at this;exact this
 rw[e,eK c];rw[jE]at hf;omega
theorem VJ(h:Pm N σ){p q:Nat}(hp:p<N)(hv:v<N){es:eW}(k:cW σ v p)(x y:Nat):
 bh σ ((v,q) :: es) x y↔qG (bh (λx=>swp v p (σ x)) ((p,q) :: es)) v p x y:=by
 have h':=h.swp hv hp;have hR:=fw (aW h' ((p,q) :: es)) v p;have hvp:qG (bh (λx=>swp v p (σ x)) ((p,q) :: es)) v p v p:=.inr (.inl ⟨(aW h' _).refl _,(aW h' _).refl _⟩);have hE:=aW h ((v,q) :: es);have ab:bh σ ((v,q) :: es) v p:=eJ k;constructor
 · intro c
   refine bN hR (λz=>?_) (λe he=>?_) c
   · have o:qG (bh (λx=>swp v p (σ x)) ((p,q) :: es)) v p z (swp v p (σ z)):=.inl (eJ (cW.one (λx=>swp v p (σ x)) z))
     by_cases c:σ z=v
     · rw[c,cp]at o;rw[c];exact hR.trans o (hR.symm hvp)
     by_cases d:σ z=p
     · rw[d,cY]at o;rw[d];exact hR.trans o hvp
     rwa [ak c d]at o
   rcases jy.1 he with rfl|he
   · exact hR.trans hvp (.inl (dw h' (e:=(p,q)) (mem_cons_self ..)))
   exact .inl (dw h' (List.mem_cons_of_mem _ he))
 have low:∀{x y},bh (λx=>swp v p (σ x)) ((p,q) :: es) x y->bh σ ((v,q) :: es) x y:=λ{x y} c=>by
  refine bN hE (λz=>?_) (λe he=>?_) c
  · have o:bh σ ((v,q) :: es) z (σ z):=eJ (cW.one σ z)
    show bh σ ((v,q) :: es) z (swp v p (σ z))
    by_cases c:σ z=v
    · rw[c,cp];rw[c]at o;exact hE.trans o ab
    by_cases d:σ z=p
    · rw[d,cY];rw[d]at o;exact hE.trans o (hE.symm ab)
    rwa [ak c d]
  rcases jy.1 he with rfl|he
  · exact hE.trans (hE.symm ab) (dw h (e:=(v,q)) (mem_cons_self ..))
  exact dw h (List.mem_cons_of_mem _ he)
 rintro(c|⟨c,d⟩|⟨c,d⟩)
 · exact low c
 · exact hE.trans (low c) (hE.trans ab (low d))
 exact hE.trans (low c) (hE.trans (hE.symm ab) (low d))
theorem Flat.move(h:Pm N σ){p q:Nat}{es:eW}(hg:Good N ((v,q) :: es))(hd:oO ((v,q) :: es))(hp:p<N)(Yz:p≠v)(Mq:p≠q)(ho:¬dU es p)(k:σ v=p)(hf:Flat N σ ((v,q) :: es)):Flat N (λx=>swp v p (σ x)) ((p,q) :: es):=by
 obtain⟨hv,hq,hvq⟩:v<N/\q<N/\v≠q:=hg (v,q) (mem_cons_self ..);obtain⟨o1,o2⟩:¬dU es v/\¬dU es q:=hd.out;have h':=h.swp hv hp
 have JK:Good N ((p,q) :: es):=λe he=>by
  rcases jy.1 he with rfl|he
  · exact⟨hp,hq,Mq⟩
  exact hg.tail e he
 have hE:=(vF h' JK).1;have ko:cW σ v p:=⟨1,k⟩;have hV:=pJ h hv hp (λe=>Yz e.symm) ko
 have hm:∀z,swp p q (swp v p z)=swp v p (swp v q z):=λz=>by
  have n1:¬v=p:=λe=>Yz e.symm
  have n2:¬q=p:=λe=>Mq e.symm
  have n3:¬q=v:=λe=>hvq e.symm
  by_cases c1:z=v
  · subst c1;rw[cp,cp,cp,ak n3 n2]
  by_cases c2:z=p
  · subst c2;rw[cY,ak n1 hvq,ak c1 Mq,cY]
  by_cases c3:z=q
  · subst c3;rw[ak c1 c2,cY,cY,cp]
  rw[ak c1 c2,ak c2 c3,ak c1 c3,ak c1 c2]
 have e:oL (λx=>swp v p (σ x)) ((p,q) :: es)=λx=>swp v p (oL σ ((v,q) :: es) x):=funext λx=>by
  show swp p q (aB es (swp v p (σ x)))=swp v p (swp v q (aB es (σ x)))
  rw[Cz,aG o1,aG ho];exact hm _
 have kf:cW (oL σ ((v,q) :: es)) v p:=⟨1,by
  show swp v q (aB es (σ v))=p
  rw[k,aG ho,ak Yz Mq]⟩
 have hF:=pJ (mG h hg) hv hp (λe=>Yz e.symm) kf;have hc:=eK (N:=N) (VJ (q:=q) h hp hv (es:=es) ko);unfold Flat at hf ⊢;rw[e]at hE ⊢;rw[jE]at hE hf ⊢;by_cases c:bh (λx=>swp v p (σ x)) ((p,q) :: es) v p
 · rw[eK (kD (aW h' _) c)]at hc;omega
 have:=zF (aW h' _) hv hp c;omega
end
section
variable {N:Nat} {σ:Nat->Nat}
theorem dP{es:eW}(hg:Good N es)(hd:oO es)(x:Nat):dU es x↔aB es x≠x:=by
 constructor
 · rintro⟨e,he,k|k⟩
   · rw[k,(cJ hd he).1];exact λc=>(hg e he).2.2 c.symm
   rw[k,(cJ hd he).2];exact(hg e he).2.2
 intro k
 exact js λc=>k (aG c)
theorem Qo{es:eW}(hd:oO es)(x:Nat):aB es (aB es x)=x:=by
 by_cases c:dU es x
 · obtain⟨e,he,k|k⟩:=c
   · rw[k,(cJ hd he).1,(cJ hd he).2]
   rw[k,(cJ hd he).2,(cJ hd he).1]
 rw[aG c,aG c]
theorem oO.flip{a b:Nat}{es:eW}(h:oO ((a,b) :: es)):oO ((b,a) :: es):=by
 unfold oO at h ⊢;rw[pairwise_cons]at h ⊢;refine⟨λd hd=>?_,h.2⟩;obtain⟨h1,h2,h3,h4⟩:=h.1 d hd;exact⟨h3,h4,h1,h2⟩
theorem Good.flip{a b:Nat}{es:eW}(h:Good N ((a,b) :: es)):Good N ((b,a) :: es):=λe he=>by
 rcases jy.1 he with rfl|he
 · have:=h (a,b) (mem_cons_self ..)
   exact⟨this.2.1,this.1,λc=>this.2.2 c.symm⟩
 exact h.tail e he
theorem Flat.bring(h:Pm N σ){es:eW}(hg:Good N es)(hd:oO es)(hu:dU es u)(hf:Flat N σ es):
 ∃p qX,Good N ((u,p) :: qX)/\oO ((u,p) :: qX)/\Flat N σ ((u,p) :: qX)/\∀z,aB ((u,p) :: qX) z=aB es z:=by
 obtain⟨⟨a,b⟩,he,k⟩:=hu;have P:=List.perm_cons_erase he;have JK:=hg.perm P;have wC:=hd.perm P;have hf':=hf.perm h hd P;have hm:=EW hd P
 rcases k with k|k
 · have k:u=a:=k
   subst k;exact⟨b,_,JK,wC,hf',λz=>(hm z).symm⟩
 have k:u=b:=k;subst k;exact⟨a,_,JK.flip,wC.flip,hf'.flip h,λz=>by rw[hm z];exact Ir u a _⟩
theorem amj{p:Nat}(OE:u≠v)(hup:u≠p)(hvp:v≠p)(z:Nat):swp v p (swp u v (swp u p z))=swp u v z:=by
 have n1:v≠u:=λe=>OE e.symm
 have n2:p≠u:=λe=>hup e.symm
 have n3:p≠v:=λe=>hvp e.symm
 by_cases c1:z=u
 · subst c1;rw[cp,ak n2 n3,cY,cp]
 by_cases c2:z=v
 · subst c2;rw[ak n1 hvp,cY,ak OE hup]
 by_cases c3:z=p
 · subst c3;rw[cY,cp,cp,ak n2 n3]
 rw[ak c1 c3,ak c1 c2,ak c2 c3]
theorem Flat.BR(h:Pm N σ){es:eW}(hg:Good N es)(hd:oO es)(hne:u≠v)(OE:σ u=v)(hvu:σ v=u)(hu:dU es u)(hv:dU es v)(hf:Flat N σ es):
 ∃es',Good N es'/\oO es'/\Flat N (λx=>swp u v (σ x)) es'/\∀z,aB es' z=if z=u\/z=v then z else if aB es z=u then aB es v else if aB es z=v then aB es u else aB es z:=by
 obtain⟨p,qX,g0,d0,f0,m0⟩:=hf.bring h hg hd hu;obtain⟨Yu,hp,hup⟩:u<N/\p<N/\u≠p:=g0 (u,p) (mem_cons_self ..);obtain⟨o1,o2⟩:¬dU qX u/\¬dU qX p:=d0.out
 have m0:∀z,aB es z=swp u p (aB qX z):=λz=>(m0 z).symm
 have hvN:v<N:=by
  have:=h.lt u Yu;rwa [OE]at this
 by_cases c:p=v
 · subst c
   have f1:=(f0.drop h g0).split h g0.tail Yu hp hup ⟨1,OE⟩;refine⟨qX,g0.tail,d0.tail,f1,λz=>?_⟩;by_cases c1:z=u\/z=p
   · rw[if_pos c1]
     rcases c1 with rfl|rfl
     · exact aG o1
     exact aG o2
   have c2:aB qX z≠u:=λk=>c1 (.inl (dh (k.trans (aG o1).symm)))
   have c3:aB qX z≠p:=λk=>c1 (.inr (dh (k.trans (aG o2).symm)))
   rw[if_neg c1,m0 z,ak c2 c3,if_neg c2,if_neg c3]
 have Yz:p≠v:=c
 have hvp:v≠p:=λe=>c e.symm
 have hk:¬cW σ u p:=by
  intro k
  have:p=u\/p=v:=k.ind (P:=λy=>y=u\/y=v) (λy hy=>by
   rcases hy with rfl|rfl
   · exact .inr OE
   exact .inl hvu) (.inl rfl)
  rcases this with k|k
  · exact hup k.symm
  exact Yz k
 have f1:=f0.contract h g0 d0 hk;have h1:Pm N (λx=>swp u p (σ x)):=h.swp Yu hp
 have iv:dU qX v:=by
  rw[dP hg hd,m0 v]at hv;rw[dP g0.tail d0.tail];intro k;rw[k,ak (λe=>hne e.symm) hvp]at hv;exact hv rfl
 obtain⟨q,mQ,g1,d1,f2,m1⟩:=f1.bring h1 g0.tail d0.tail iv;obtain⟨_,hq,hvq⟩:v<N/\q<N/\v≠q:=g1 (v,q) (mem_cons_self ..);obtain⟨o3,o4⟩:¬dU mQ v/\¬dU mQ q:=d1.out
 have m1:∀z,aB qX z=swp v q (aB mQ z):=λz=>(m1 z).symm
 have f3:=f2.split h1 g1 Yu hvN hne ⟨1,by
  show swp u p (σ u)=v
  rw[OE];exact ak (λe=>hne e.symm) hvp⟩
 have h2:Pm N (λx=>swp u v (swp u p (σ x))):=h1.swp Yu hvN
 have mq0:aB qX q=v:=by rw[m1,aG o4,cY]
 have Mq:p≠q:=λe=>by
  have:aB qX p=p:=aG o2
  rw[e,mq0]at this;exact hvq this
 have huq:u≠q:=λe=>by
  have:aB qX u=u:=aG o1
  rw[e,mq0]at this;exact hvq this
 have TM:∀{z},¬dU qX z->¬dU mQ z:=λ{z} hz k=>by
  have e1:aB qX z=z:=aG hz;rw[m1]at e1;rw[dP g1.tail d1.tail]at k;by_cases c1:aB mQ z=v
  · exact k (by rw[c1];exact(dh (c1.trans (aG o3).symm)).symm)
  by_cases c2:aB mQ z=q
  · exact k (by rw[c2];exact(dh (c2.trans (aG o4).symm)).symm)
  rw[ak c1 c2]at e1;exact k e1
 have f4:=f3.move h2 g1 d1 hp Yz Mq (TM o2) (by
  show swp u v (swp u p (σ v))=p
  rw[hvu,cp];exact ak (λe=>hup e.symm) Yz)
 have g4:Good N ((p,q) :: mQ):=λe he=>by
  rcases jy.1 he with rfl|he
  · exact⟨hp,hq,Mq⟩
  exact g1.tail e he
 have d4:oO ((p,q) :: mQ):=by
  unfold oO;rw[pairwise_cons];refine⟨λd hd=>⟨λe=>TM o2 ⟨d,hd,.inl e⟩,λe=>TM o2 ⟨d,hd,.inr e⟩,λe=>o4 ⟨d,hd,.inl e⟩,λe=>o4 ⟨d,hd,.inr e⟩⟩,d1.tail⟩
 refine⟨(p,q) :: mQ,g4,d4,?_,λz=>?_⟩
 · have e:(λx=>swp v p (swp u v (swp u p (σ x))))=λx=>swp u v (σ x):=funext λx=>amj hne hup hvp _
   rw[<-e];exact f4
 have eu:aB mQ u=u:=aG (TM o1);have ep:aB mQ p=p:=aG (TM o2);have ev:aB mQ v=v:=aG o3;have eq:aB mQ q=q:=aG o4
 have mz:∀z,aB es z=swp u p (swp v q (aB mQ z)):=λz=>by rw[m0,m1]
 have mu:aB es u=p:=by rw[mz,eu,ak hne huq,cp]
 have mv:aB es v=q:=by rw[mz,ev,cp,ak (λe=>huq e.symm) (λe=>Mq e.symm)]
 have mp:aB es p=u:=by rw[mz,ep,ak Yz Mq,cY]
 have mq:aB es q=v:=by rw[mz,eq,cY,ak (λe=>hne e.symm) hvp]
 show swp p q (aB mQ z)=_
 by_cases c1:z=u
 · rw[if_pos (.inl c1),c1,eu,ak hup huq]
 by_cases c2:z=v
 · rw[if_pos (.inr c2),c2,ev,ak hvp hvq]
 rw[if_neg λk=>k.elim c1 c2];by_cases c3:z=p
 · rw[c3,ep,cp,mp,if_pos rfl,mv]
 by_cases c4:z=q
 · rw[c4,eq,cY,mq,if_neg (λe=>hne e.symm),if_pos rfl,mu]
 have w1:aB mQ z≠u:=λk=>c1 (dh (k.trans eu.symm))
 have w2:aB mQ z≠v:=λk=>c2 (dh (k.trans ev.symm))
 have w3:aB mQ z≠p:=λk=>c3 (dh (k.trans ep.symm))
 have w4:aB mQ z≠q:=λk=>c4 (dh (k.trans eq.symm))
 rw[ak w3 w4,mz,ak w2 w4,ak w1 w3,if_neg w1,if_neg w2]
end
section
variable {N:Nat} {σ:Nat->Nat}
theorem Flat.Me(h:Pm N σ){es:eW}(hg:Good N es)(hd:oO es)(hf:Flat N σ es){A B C D:Nat}(Gy:[A,B,C,D].Nodup)
 (sA:σ A=D) (sD:σ D=C) (sC:σ C=B) (sB:σ B=A) (mA:aB es A=B) (iC:aB es C≠C) (iD:aB es D≠D):
 ∃es',Good N es'/\oO es'/\Pm N (λx=>if x∈[A,B,C,D]then x else σ x)/\Flat N (λx=>if x∈[A,B,C,D]then x else σ x) es' /\
  ∀z,aB es' z=if z∈[A,B,C,D]then z else if aB es z=C then aB es D else if aB es z=D then aB es C else aB es z:=by
 have U4:=Gy;simp only[nodup_cons,jy,jz,or_false,not_or,List.nodup_nil,and_true,not_false_eq_true]at U4;obtain⟨⟨Ye,R4,Oj⟩,⟨RZ,LQ⟩,Oi⟩:=U4
 have nBA:¬B=A:=λe=>Ye e.symm
 have nCA:¬C=A:=λe=>R4 e.symm
 have nDA:¬D=A:=λe=>Oj e.symm
 have nCB:¬C=B:=λe=>RZ e.symm
 have nDB:¬D=B:=λe=>LQ e.symm
 have nDC:¬D=C:=λe=>Oi e.symm
 have iA:dU es A:=(dP hg hd A).2 (by rw[mA];exact nBA);obtain⟨p,qX,g0,d0,f0,m0⟩:=hf.bring h hg hd iA;obtain⟨hA,hp,_⟩:A<N/\p<N/\A≠p:=g0 (A,p) (mem_cons_self ..);obtain⟨o1,o2⟩:¬dU qX A/\¬dU qX p:=d0.out
 have m0:∀z,aB es z=swp A p (aB qX z):=λz=>(m0 z).symm
 have hpB:p=B:=by rw[<-mA,m0,aG o1,cp]
 subst hpB
 have hD:D<N:=by have:=h.lt A hA;rwa [sA]at this
 have hC:C<N:=by have:=h.lt D hD;rwa [sD]at this
 have f1:=(f0.drop h g0).split h g0.tail hA hD Oj ⟨1,sA⟩;have h1:Pm N (λx=>swp A D (σ x)):=h.swp hA hD;have f2:=f1.split h1 g0.tail hp hD LQ ⟨1,by show swp A D (σ p)=D;rw[sB,cp]⟩;have h2:Pm N (λx=>swp p D (swp A D (σ x))):=h1.swp hp hD
 have c0:∀{z},z≠A->z≠p->(aB qX z≠A/\aB qX z≠p/\aB es z=aB qX z):=λ{z} h1 h2=>by
  have w1:aB qX z≠A:=λk=>h1 (dh (k.trans (aG o1).symm))
  have w2:aB qX z≠p:=λk=>h2 (dh (k.trans (aG o2).symm))
  exact⟨w1,w2,by rw[m0,ak w1 w2]⟩
 have mC:=c0 nCA nCB;have mD:=c0 nDA nDB
 obtain⟨es',g',d',f',m'⟩:=f2.BR h2 g0.tail d0.tail (u:=C) (v:=D) Oi
  (by show swp p D (swp A D (σ C))=D;rw[sC,ak nBA LQ,cp])
  (by show swp p D (swp A D (σ D))=C;rw[sD,ak nCA Oi,ak nCB Oi])
  ((dP g0.tail d0.tail C).2 (mC.2.2 ▸ iC)) ((dP g0.tail d0.tail D).2 (mD.2.2 ▸ iD))
 have e:(λx=>if x∈[A,p,C,D]then x else σ x)=λx=>swp C D (swp p D (swp A D (σ x))):=funext λx=>by
  by_cases c1:x=A
  · subst c1;simp[swp, *]
  by_cases c2:x=p
  · subst c2;simp[swp, *]
  by_cases c3:x=C
  · subst c3;simp[swp, *]
  by_cases c4:x=D
  · subst c4;simp[swp, *]
  have e1:¬σ x=A:=λk=>c2 (h.inj _ _ (k.trans sB.symm))
  have e2:¬σ x=p:=λk=>c3 (h.inj _ _ (k.trans sC.symm))
  have e3:¬σ x=C:=λk=>c4 (h.inj _ _ (k.trans sD.symm))
  have e4:¬σ x=D:=λk=>c1 (h.inj _ _ (k.trans sA.symm))
  simp[swp,e1,e2,e3,e4,c1,c2,c3,c4]
 refine⟨es',g',d',by rw[e];exact h2.swp hC hD,by rw[e];exact f',λz=>?_⟩;rw[m'];by_cases c1:z=A
 · subst c1
   rw[if_neg (by simp[R4,Oj]),aG o1,if_neg R4,if_neg Oj,if_pos (by simp)]
 by_cases c2:z=p
 · subst c2
   rw[if_neg (by simp[RZ,LQ]),aG o2,if_neg RZ,if_neg LQ,if_pos (by simp)]
 simp[c1,c2,(c0 c1 c2).2.2,mC.2.2,mD.2.2]
theorem Flat.VW(h:Pm N σ){es:eW}(hg:Good N es)(hd:oO es)(hf:Flat N σ es){A B C D a b c d:Nat}(Gy:[A,B,C,D,a,b,c,d].Nodup)
 (sA:σ A=D) (sD:σ D=C) (sC:σ C=B) (sB:σ B=A) (sa:σ a=b) (sb:σ b=c) (sc:σ c=d) (sd:σ d=a)
 (mA:aB es A=a) (mB:aB es B=b) (iC:aB es C≠C) (iD:aB es D≠D) (ic:aB es c≠c) (id:aB es d≠d):
 ∃(es':eW) (m1:Nat->Nat),Good N es'/\oO es'/\Pm N (λx=>if x∈[A,B,C,D,a,b,c,d]then x else σ x)/\Flat N (λx=>if x∈[A,B,C,D,a,b,c,d]then x else σ x) es' /\
  (∀z,z∉[A,B,a,b]->m1 z=if z=C\/z=c then z else if aB es z=C then aB es c else if aB es z=c then aB es C else aB es z) /\
  ∀z,aB es' z=if z∈[A,B,C,D,a,b,c,d]then z else if m1 z=D then m1 d else if m1 z=d then m1 D else m1 z:=by
 have U4:=Gy;simp only[nodup_cons,jy,jz,or_false,not_or,List.nodup_nil,and_true,not_false_eq_true]at U4;obtain⟨⟨Ye,R4,Oj,nAa,nAb,nAc,nAd⟩,⟨RZ,LQ,nBa,nBb,nBc,nBd⟩,⟨Oi,nCa,nCb,nCc,nCd⟩,⟨nDa,nDb,nDc,nDd⟩,⟨nab,nac,nad⟩,⟨D8,nbd⟩,ncd⟩:=U4
 have nBA:¬B=A:=λe=>Ye e.symm
 have nCA:¬C=A:=λe=>R4 e.symm
 have nDA:¬D=A:=λe=>Oj e.symm
 have naA:¬a=A:=λe=>nAa e.symm
 have nbA:¬b=A:=λe=>nAb e.symm
 have ncA:¬c=A:=λe=>nAc e.symm
 have ndA:¬d=A:=λe=>nAd e.symm
 have nCB:¬C=B:=λe=>RZ e.symm
 have nDB:¬D=B:=λe=>LQ e.symm
 have naB:¬a=B:=λe=>nBa e.symm
 have nbB:¬b=B:=λe=>nBb e.symm
 have ncB:¬c=B:=λe=>nBc e.symm
 have ndB:¬d=B:=λe=>nBd e.symm
 have nDC:¬D=C:=λe=>Oi e.symm
 have naC:¬a=C:=λe=>nCa e.symm
 have nbC:¬b=C:=λe=>nCb e.symm
 have ncC:¬c=C:=λe=>nCc e.symm
 have ndC:¬d=C:=λe=>nCd e.symm
 have naD:¬a=D:=λe=>nDa e.symm
 have nbD:¬b=D:=λe=>nDb e.symm
 have ncD:¬c=D:=λe=>nDc e.symm
 have ndD:¬d=D:=λe=>nDd e.symm
 have nba:¬b=a:=λe=>nab e.symm
 have WW:¬c=a:=λe=>nac e.symm
 have nda:¬d=a:=λe=>nad e.symm
 have ncb:¬c=b:=λe=>D8 e.symm
 have ndb:¬d=b:=λe=>nbd e.symm
 have ndc:¬d=c:=λe=>ncd e.symm
 have iA:dU es A:=(dP hg hd A).2 (by rw[mA];exact naA);obtain⟨p,qX,g0,d0,f0,m0⟩:=hf.bring h hg hd iA;obtain⟨hA,hp,_⟩:A<N/\p<N/\A≠p:=g0 (A,p) (mem_cons_self ..);obtain⟨o1,o2⟩:¬dU qX A/\¬dU qX p:=d0.out
 have m0:∀z,aB es z=swp A p (aB qX z):=λz=>(m0 z).symm
 have hpa:p=a:=by rw[<-mA,m0,aG o1,cp]
 subst hpa
 have hD:D<N:=by have:=h.lt A hA;rwa [sA]at this
 have hC:C<N:=by have:=h.lt D hD;rwa [sD]at this
 have hB:B<N:=by have:=h.lt C hC;rwa [sC]at this
 have hb:b<N:=by have:=h.lt p hp;rwa [sa]at this
 have hc:c<N:=by have:=h.lt b hb;rwa [sb]at this
 have wC:d<N:=by have:=h.lt c hc;rwa [sc]at this
 have hk:¬cW σ A p:=λk=>by
  have:p=A\/p=B\/p=C\/p=D:=k.ind (P:=λy=>y=A\/y=B\/y=C\/y=D) (λy hy=>by
   rcases hy with rfl|rfl|rfl|rfl
   · exact .inr (.inr (.inr sA))
   · exact .inl sB
   · exact .inr (.inl sC)
   exact .inr (.inr (.inl sD))) (.inl rfl)
  rcases this with k|k|k|k
  · exact naA k
  · exact naB k
  · exact naC k
  exact naD k
 have f1:=f0.contract h g0 d0 hk;have h1:Pm N (λx=>swp A p (σ x)):=h.swp hA hp
 have c0:∀{z},z≠A->z≠p->(aB qX z≠A/\aB qX z≠p/\aB es z=aB qX z):=λ{z} h1 h2=>by
  have w1:aB qX z≠A:=λk=>h1 (dh (k.trans (aG o1).symm))
  have w2:aB qX z≠p:=λk=>h2 (dh (k.trans (aG o2).symm))
  exact⟨w1,w2,by rw[m0,ak w1 w2]⟩
 have iB:dU qX B:=(dP g0.tail d0.tail B).2 (by rw[<-(c0 nBA nBa).2.2,mB];exact nbB);obtain⟨q,mQ,g1,d1,f2,m1⟩:=f1.bring h1 g0.tail d0.tail iB;obtain⟨o3,o4⟩:¬dU mQ B/\¬dU mQ q:=d1.out
 have m1:∀z,aB qX z=swp B q (aB mQ z):=λz=>(m1 z).symm
 have hqb:q=b:=by rw[<-mB,(c0 nBA nBa).2.2,m1,aG o3,cp]
 subst hqb
 have c1:∀{z},z≠A->z≠p->z≠B->z≠q->aB es z=aB mQ z:=λ{z} h1 h2 h3 h4=>by
  have w1:aB mQ z≠B:=λk=>h3 (dh (k.trans (aG o3).symm))
  have w2:aB mQ z≠q:=λk=>h4 (dh (k.trans (aG o4).symm))
  rw[(c0 h1 h2).2.2,m1,ak w1 w2]
 have f3:=f2.drop h1 g1;have f4:=f3.split h1 g1.tail hA hD Oj ⟨1,by show swp A p (σ A)=D;rw[sA,ak nDA nDa]⟩;have h4:Pm N (λx=>swp A D (swp A p (σ x))):=h1.swp hA hD;have f5:=f4.split h4 g1.tail hB hp nBa ⟨1,by show swp A D (swp A p (σ B))=p;rw[sB,cp,ak naA naD]⟩;have h5:Pm N (λx=>swp B p (swp A D (swp A p (σ x)))):=h4.swp hB hp;have f6:=f5.split h5 g1.tail hp hb nab ⟨1,by show swp B p (swp A D (swp A p (σ p)))=q;rw[sa,ak nbA nba,ak nbA nbD,ak nbB nba]⟩
 have h6:Pm N (λx=>swp p q (swp B p (swp A D (swp A p (σ x))))):=h5.swp hp hb;have f7:=f6.split h6 g1.tail hb hc D8 ⟨1,by show swp p q (swp B p (swp A D (swp A p (σ q))))=c;rw[sb,ak ncA WW,ak ncA ncD,ak ncB WW,ak WW ncb]⟩;have h7:Pm N (λx=>swp q c (swp p q (swp B p (swp A D (swp A p (σ x)))))):=h6.swp hb hc
 have vC:swp q c (swp p q (swp B p (swp A D (swp A p (σ C)))))=c:=by rw[sC,ak nBA nBa,ak nBA LQ,cp,cp,cp]
 have vc:swp q c (swp p q (swp B p (swp A D (swp A p (σ c)))))=d:=by rw[sc,ak ndA nda,ak ndA ndD,ak ndB nda,ak nda ndb,ak ndb ndc]
 have vD:swp q c (swp p q (swp B p (swp A D (swp A p (σ D)))))=C:=by rw[sD,ak nCA nCa,ak nCA Oi,ak nCB nCa,ak nCa nCb,ak nCb nCc]
 have vd:swp q c (swp p q (swp B p (swp A D (swp A p (σ d)))))=D:=by rw[sd,cY,cp,ak nDB nDa,ak nDa nDb,ak nDb nDc]
 have f8:=f7.split h7 g1.tail hC wC nCd ⟨2,by
  show swp q c (swp p q (swp B p (swp A D (swp A p (σ (swp q c (swp p q (swp B p (swp A D (swp A p (σ C)))))))))))= d
  rw[vC,vc]⟩
 have h8:Pm N (λx=>swp C d (swp q c (swp p q (swp B p (swp A D (swp A p (σ x))))))):=h7.swp hC wC;have mC:=c1 nCA nCa nCB nCb;have mD:=c1 nDA nDa nDB nDb;have mc:=c1 ncA WW ncB ncb;have md:=c1 ndA nda ndB ndb
 obtain⟨es2,g9,d9,f9,m9⟩:=f8.BR h8 g1.tail d1.tail (u:=C) (v:=c) nCc
  (by show swp C d (swp q c (swp p q (swp B p (swp A D (swp A p (σ C))))))=c;rw[vC,ak ncC ncd])
  (by show swp C d (swp q c (swp p q (swp B p (swp A D (swp A p (σ c))))))=C;rw[vc,cY])
  ((dP g1.tail d1.tail C).2 (mC ▸ iC)) ((dP g1.tail d1.tail c).2 (mc ▸ ic))
 have h9:Pm N (λx=>swp C c (swp C d (swp q c (swp p q (swp B p (swp A D (swp A p (σ x)))))))):=h8.swp hC hc
 have ahe:∀{x y},aB mQ x=y->aB mQ y=x:=λ{x y} k=>by rw[<-k,Qo d1.tail]
 have free:∀z,z≠C->z≠c->aB mQ z≠z->aB es2 z≠z:=λz k1 k2 k3=>by
  rw[m9,if_neg λk=>k.elim k1 k2];by_cases e1:aB mQ z=C
  · rw[if_pos e1]
    intro k;have:=ahe k
    rw[e1]at this;exact nCc this
  rw[if_neg e1];by_cases e2:aB mQ z=c
  · rw[if_pos e2]
    intro k;have:=ahe k;exact nCc (this.symm.trans e2)
  rw[if_neg e2];exact k3
 obtain⟨es',g',d',f',m'⟩:=f9.BR h9 g9 d9 (u:=D) (v:=d) nDd
  (by show swp C c (swp C d (swp q c (swp p q (swp B p (swp A D (swp A p (σ D)))))))=d;rw[vD,cp,ak ndC ndc])
  (by show swp C c (swp C d (swp q c (swp p q (swp B p (swp A D (swp A p (σ d)))))))=D;rw[vd,ak nDC nDd,ak nDC nDc])
  ((dP g9 d9 D).2 (free D nDC nDc (mD ▸ iD))) ((dP g9 d9 d).2 (free d ndC ndc (md ▸ id)))
 have e:(λx=>if x∈[A,B,C,D,p,q,c,d]then x else σ x)=λx=>swp D d (swp C c (swp C d (swp q c (swp p q (swp B p (swp A D (swp A p (σ x)))))))):=funext λx=>by
  by_cases c1:x=A
  · subst c1;rw[if_pos (by simp),sA,ak nDA nDa,cY,ak Ye nAa,ak nAa nAb,ak nAb nAc,ak R4 nAd,ak R4 nAc,ak Oj nAd]
  by_cases c2:x=B
  · subst c2;rw[if_pos (by simp),sB,cp,ak naA naD,cY,ak nBa nBb,ak nBb nBc,ak RZ nBd,ak RZ nBc,ak LQ nBd]
  by_cases c3:x=C
  · subst c3;rw[if_pos (by simp),vC,ak ncC ncd,cY,ak Oi nCd]
  by_cases c4:x=D
  · subst c4;rw[if_pos (by simp),vD,cp,ak ndC ndc,cY]
  by_cases c5:x=p
  · subst c5;rw[if_pos (by simp),sa,ak nbA nba,ak nbA nbD,ak nbB nba,cY,ak nab nac,ak naC nad,ak naC nac,ak naD nad]
  by_cases c6:x=q
  · subst c6;rw[if_pos (by simp),sb,ak ncA WW,ak ncA ncD,ak ncB WW,ak WW ncb,cY,ak nbC nbd,ak nbC D8,ak nbD nbd]
  by_cases c7:x=c
  · subst c7;rw[if_pos (by simp),vc,cY,cp,ak ncD ncd]
  by_cases c8:x=d
  · subst c8;rw[if_pos (by simp),vd,ak nDC nDd,ak nDC nDc,cp]
  have eA:σ x≠A:=λk=>c2 (h.inj _ _ (k.trans sB.symm))
  have eB:σ x≠B:=λk=>c3 (h.inj _ _ (k.trans sC.symm))
  have eC:σ x≠C:=λk=>c4 (h.inj _ _ (k.trans sD.symm))
  have eD:σ x≠D:=λk=>c1 (h.inj _ _ (k.trans sA.symm))
  have ea:σ x≠p:=λk=>c8 (h.inj _ _ (k.trans sd.symm))
  have eb:σ x≠q:=λk=>c5 (h.inj _ _ (k.trans sa.symm))
  have ec:σ x≠c:=λk=>c6 (h.inj _ _ (k.trans sb.symm))
  have ed:σ x≠d:=λk=>c7 (h.inj _ _ (k.trans sc.symm))
  rw[if_neg (by simp[c1,c2,c3,c4,c5,c6,c7,c8]),ak eA ea,ak eA eD,ak eB ea,ak ea eb,ak eb ec,ak eC ed,ak eC ec,ak eD ed]
 refine⟨es',aB es2,g',d',by rw[e];exact h9.swp hD wC,by rw[e];exact f',λz hz=>?_,λz=>?_⟩
 · simp only[jy,jz,or_false,not_or]at hz
   rw[m9,mC,mc,c1 hz.1 hz.2.2.1 hz.2.1 hz.2.2.2]
 have out:∀z,aB mQ z=z->z≠C->z≠c->z≠D->z≠d->aB es' z=z:=λz k1 k2 k3 k4 k5=>by
  have:aB es2 z=z:=by rw[m9,if_neg λk=>k.elim k2 k3,k1,if_neg k2,if_neg k3]
  rw[m',if_neg λk=>k.elim k4 k5,this,if_neg k4,if_neg k5]
 have oA:aB mQ A=A:=aG λk=>by
  rw[dP g1.tail d1.tail]at k;have e1:aB qX A=A:=aG o1
  have w1:aB mQ A≠B:=λk=>Ye (dh (k.trans (aG o3).symm))
  have w2:aB mQ A≠q:=λk=>nAb (dh (k.trans (aG o4).symm))
  rw[m1,ak w1 w2]at e1;exact k e1
 have oa:aB mQ p=p:=aG λk=>by
  rw[dP g1.tail d1.tail]at k;have e1:aB qX p=p:=aG o2
  have w1:aB mQ p≠B:=λk=>naB (dh (k.trans (aG o3).symm))
  have w2:aB mQ p≠q:=λk=>nab (dh (k.trans (aG o4).symm))
  rw[m1,ak w1 w2]at e1;exact k e1
 by_cases c1:z=A
 · subst c1;rw[if_pos (by simp)];exact out _ oA R4 nAc Oj nAd
 by_cases c2:z=B
 · subst c2;rw[if_pos (by simp)];exact out _ (aG o3) RZ nBc LQ nBd
 by_cases c5:z=p
 · subst c5;rw[if_pos (by simp)];exact out _ oa naC nac naD nad
 by_cases c6:z=q
 · subst c6;rw[if_pos (by simp)];exact out _ (aG o4) nbC D8 nbD nbd
 by_cases c4:z=D
 · rw[m',if_pos (.inl c4),if_pos (by simp[c4])]
 by_cases c8:z=d
 · rw[m',if_pos (.inr c8),if_pos (by simp[c8])]
 rw[m',if_neg λk=>k.elim c4 c8]
 have hCc:∀y,y=C\/y=c->aB es2 y=y:=λy hy=>by rw[m9,if_pos hy]
 by_cases c3:z=C
 · rw[if_pos (show z∈[A,B,C,D,p,q,c,d]by simp[c3]),hCc z (.inl c3),c3,if_neg Oi,if_neg nCd]
 by_cases c7:z=c
 · rw[if_pos (show z∈[A,B,C,D,p,q,c,d]by simp[c7]),hCc z (.inr c7),c7,if_neg ncD,if_neg ncd]
 rw[if_neg (show z∉[A,B,C,D,p,q,c,d]by simp[c1,c2,c3,c4,c5,c6,c7,c8])]
end
theorem aj(es:eW):Equivalence (bh (λx=>x) es):=aW (N:=0) ⟨λ_ h=>h,λ_ _=>rfl,λ_ _ h=>h⟩ es
theorem aX{es:eW}(h:e∈es):bh (λx=>x) es e.1 e.2:=dw (N:=0) ⟨λ_ h=>h,λ_ _=>rfl,λ_ _ h=>h⟩ h
theorem oC:bh (λx=>x) [] x y↔x=y:=by
 constructor
 · rintro⟨n,hn⟩
   have:∀n,it (λx:Nat=>x) n x=x:=λn=>by
    induction n with
    |zero=>rfl
    |succ n ih=>exact ih
   rw[<-hn,this]
 rintro rfl;exact cW.refl _ _
theorem b9{es es':eW}(h:∀e∈es,bh (λx=>x) es' e.1 e.2)(k:bh (λx=>x) es x y):bh (λx=>x) es' x y:=
 bN (aj es') (λx=>(aj es').refl x) h k
structure qf(X:List Cr)(live:Pl->Prop)(E:Nat->Nat->Prop)(o:Pl->Pl):Prop where
 isP:∀p,live p->aq X p
 lv:∀p,live p->live (o p)
 op:∀p,live p->cm X (o p)=!cm X p
 eq:∀p,live p->E (aa X p) (aa X (o p))
 un:∀p q,live p->live q->cm X p=cm X q->E (aa X p) (aa X q)->p=q
section
variable {X:List Cr} {live:Pl->Prop} {E:Nat->Nat->Prop} {o:Pl->Pl}
theorem Ok.tied(h:Ok X):qf X (aq X) (bh (λx=>x) []) (other X) where
 isP:=λ_ hp=>hp
 lv:=λ_ hp=>h.aM hp
 op:=λ_ hp=>h.dA hp
 eq:=λ_ hp=>by rw[h.cK hp];exact oC.2 rfl
 un:=λp q hp hq hc ha=>h.uniq p q hp hq hc (by rw[<-h.cT hp,<-h.cT hq,oC.1 ha])
theorem qf.oo(h:qf X live E o)(hE:Equivalence E){p:Pl}(hp:live p):o (o p)=p:=
 h.un _ _ (h.lv _ (h.lv _ hp)) hp (by rw[h.op _ (h.lv _ hp),h.op _ hp,not_not]) (hE.symm (hE.trans (h.eq _ hp) (h.eq _ (h.lv _ hp))))
theorem qf.ne(h:qf X live E o){p:Pl}(hp:live p):o p≠p:=λe=>by
 have:=h.op p hp;rw[e]at this
 cases hh:cm X p<;>simp[hh]at this
theorem qf.congr(h:qf X live E o){Uq:Pl->Prop}{o':Pl->Pl}(h1:∀p,Uq p↔live p)(h2:∀x y,E' x y↔E x y)(h3:∀p,live p->o' p=o p):qf X Uq E' o' where
 isP:=λp hp=>h.isP p ((h1 p).1 hp)
 lv:=λp hp=>by rw[h3 p ((h1 p).1 hp)];exact(h1 _).2 (h.lv p ((h1 p).1 hp))
 op:=λp hp=>by rw[h3 p ((h1 p).1 hp)];exact h.op p ((h1 p).1 hp)
 eq:=λp hp=>by rw[h3 p ((h1 p).1 hp)];exact(h2 _ _).2 (h.eq p ((h1 p).1 hp))
 un:=λp q hp hq hc ha=>h.un p q ((h1 p).1 hp) ((h1 q).1 hq) hc ((h2 _ _).1 ha)
theorem qf.step(h:qf X live E o)(hE:Equivalence E){u v:Pl}(hu:live u)(hv:live v)(hc:cm X v=!cm X u):
 qf X (λp=>live p/\p≠u/\p≠v) (qG E (aa X u) (aa X v)) (λp=>if o p=u then o v else if o p=v then o u else o p) where
 isP:=λp hp=>h.isP p hp.1
 lv:=λp ⟨hp,h1,h2⟩=>by
  show live (if _ then _ else _)/\_
  by_cases c:o p=u
  · simp only[if_pos c]
    refine⟨h.lv v hv,λe=>h2 ?_,h.ne hv⟩;rw[<-h.oo hE hp,c,<-e,h.oo hE hv]
  simp only[if_neg c];by_cases d:o p=v
  · simp only[if_pos d]
    refine⟨h.lv u hu,h.ne hu,λe=>h1 ?_⟩;rw[<-h.oo hE hp,d,<-e,h.oo hE hu]
  simp only[if_neg d];exact⟨h.lv p hp,c,d⟩
 op:=λp ⟨hp,_,_⟩=>by
  have hop:=h.op p hp;by_cases c:o p=u
  · simp only[if_pos c]
    rw[c]at hop
    rw[h.op v hv,hc,hop];simp
  simp only[if_neg c];by_cases d:o p=v
  · simp only[if_pos d]
    rw[d,hc]at hop;rw[h.op u hu,hop]
  simp only[if_neg d];exact hop
 eq:=λp ⟨hp,_,_⟩=>by
  have he:=h.eq p hp;by_cases c:o p=u
  · simp only[if_pos c]
    rw[c]at he;exact .inr (.inl ⟨he,h.eq v hv⟩)
  simp only[if_neg c];by_cases d:o p=v
  · simp only[if_pos d]
    rw[d]at he;exact .inr (.inr ⟨he,h.eq u hu⟩)
  simp only[if_neg d];exact .inl he
 un:=λp q ⟨hp,p1,p2⟩ ⟨hq,q1,q2⟩ hcm ha=>by
  rcases ha with ha|⟨h1,h2⟩|⟨h1,h2⟩
  · exact h.un p q hp hq hcm ha
  · by_cases c:cm X p=cm X u
    · exact absurd (h.un p u hp hu c h1) p1
    refine absurd (h.un v q hv hq ?_ h2).symm q2
    rw[hc,<-hcm]
    cases hh:cm X p<;>cases hk:cm X u<;>simp[hh,hk]at c<;>rfl
  by_cases c:cm X p=cm X v
  · exact absurd (h.un p v hp hv c h1) p2
  refine absurd (h.un u q hu hq ?_ h2).symm q1
  rw[<-hcm];rw[hc]at c
  cases hh:cm X p<;>cases hk:cm X u<;>simp[hh,hk]at c<;>rfl
theorem qf.pass(h:qf X live E o)(hE:Equivalence E){A C a c:Pl}(hA:live A)(hC:live C)(ha:live a)(hc:live c)(hAC:cm X C=!cm X A)(hac:cm X c=!cm X a)
 (hoA:o A=a) (n1:A≠c) (n2:C≠a) (n3:C≠c) (n4:A≠C) (n5:a≠c):
 qf X (λp=>live p/\p≠A/\p≠C/\p≠a/\p≠c) (qG (qG E (aa X A) (aa X C)) (aa X a) (aa X c)) (λp=>if o p=C then o c else if o p=c then o C else o p):=by
 have n6:a≠A:=λe=>h.ne hA (hoA.trans e)
 have hoa:o a=A:=by rw[<-hoA,h.oo hE hA]
 have inj:∀{p q},live p->live q->o p=o q->p=q:=λ{p q} hp hq e=>by rw[<-h.oo hE hp,e,h.oo hE hq]
 have s1:=h.step hE hA hC hAC;have s2:=s1.step (fw hE _ _) (u:=a) (v:=c) ⟨ha,n6,λe=>n2 e.symm⟩ ⟨hc,λe=>n1 e.symm,λe=>n3 e.symm⟩ hac
 refine s2.congr (λp=>?_) (λ_ _=>Iff.rfl) λp hp=>?_
 · constructor
   · rintro⟨h1,h2,h3,h4,h5⟩;exact⟨⟨h1,h2,h3⟩,h4,h5⟩
   rintro⟨⟨h1,h2,h3⟩,h4,h5⟩;exact⟨h1,h2,h3,h4,h5⟩
 obtain⟨⟨hp,p1,p2⟩,p3,p4⟩:=hp
 have oA:o p≠A:=λe=>p3 (inj hp ha (e.trans hoa.symm))
 have oa:o p≠a:=λe=>p1 (inj hp hA (e.trans hoA.symm))
 have ocA:o c≠A:=λe=>n5 (inj hc ha (e.trans hoa.symm)).symm
 have vp:(if o p=A then o C else if o p=C then o A else o p)=if o p=C then a else o p:=by rw[if_neg oA,hoA]
 have vc:(if o c=A then o C else if o c=C then o A else o c)=if o c=C then a else o c:=by rw[if_neg ocA,hoA]
 have va:(if o a=A then o C else if o a=C then o A else o a)=o C:=by rw[if_pos hoa]
 simp only[vp,vc,va];by_cases c1:o p=C
 · rw[if_pos c1,if_pos c1,if_pos rfl]
   have:o c≠C:=λe=>p4 (inj hp hc (c1.trans e.symm))
   rw[if_neg this]
 rw[if_neg c1,if_neg c1,if_neg oa]
theorem qf.Me(h:qf X live E o)(hE:Equivalence E){A B C D:Pl}(hA:live A)(hB:live B)(hC:live C)(hD:live D)(hAC:cm X C=!cm X A)(hBD:cm X D=!cm X B)
 (hoA:o A=B) (n1:A≠C) (n2:A≠D) (n3:B≠C) (n4:B≠D) (n5:C≠D):
 qf X (λp=>live p/\p≠A/\p≠C/\p≠B/\p≠D) (qG (qG E (aa X A) (aa X C)) (aa X B) (aa X D)) (λp=>if o p=C then o D else if o p=D then o C else o p):=h.pass hE hA hC hB hD hAC hBD hoA n2 (λe=>n3 e.symm) n5 n1 n4
end
def ip(Y:List Cr)(k:Nat):Pl:=(k / 2,if k%2=0 then 0 else over (cr Y (k / 2)).p)
theorem lT(p:Bool):over p<4:=by cases p<;>decide
theorem Jf(p:Bool):over p≠0:=by cases p<;>decide
theorem tT{Y:List Cr}(hk:k<ag Y):aq Y (ip Y k):=by
 unfold ag at hk;refine⟨by show k / 2<_;omega,?_⟩
 show (if k%2=0 then 0 else over (cr Y (k / 2)).p)<4
 split
 · omega
 exact lT _
theorem UK(Y:List Cr)(k:Nat):cm Y (ip Y k)=true:=by
 unfold cm ip Cr.comes
 simp only
 split<;>simp
theorem ac0{Y:List Cr}(h:ip Y j=ip Y k):j=k:=by
 unfold ip at h
 injection h with h1 h2
 rw[h1]at h2
 by_cases c:j%2=0<;>by_cases d:k%2=0
 · omega
 · rw[if_pos c,if_neg d]at h2;exact absurd h2.symm (Jf _)
 · rw[if_neg c,if_pos d]at h2;exact absurd h2 (Jf _)
 omega
theorem ac1{Y:List Cr}{p:Pl}(hp:aq Y p)(hc:cm Y p=true):∃k,k<ag Y/\ip Y k=p:=by
 obtain⟨c,s⟩:=p;obtain⟨h1,h2⟩:=hp;simp only at h1 h2;unfold cm Cr.comes at hc;simp only[Bool.or_eq_true,jh]at hc;unfold ag ip
 rcases hc with rfl|hs
 · exact⟨2*c,by omega,by rw[show 2*c / 2=c by omega,if_pos (by omega)]⟩
 exact⟨2*c+1,by omega,by rw[show (2*c+1) / 2=c by omega,if_neg (by omega),hs]⟩
structure Cut(X Y:List Cr)(f g:Nat->Nat)(live:Pl->Prop)(E:Nat->Nat->Prop)(o:Pl->Pl):Prop where
 ok:Ok X
 mono:∀i j,i<j->j<Y.length->f i<f j
 lt:∀i,i<Y.length->f i<X.length
 alive:∀p,aq X p->(live p↔∃i,i<Y.length/\f i=p.1)
 cr_:∀i,i<Y.length->cr Y i=(cr X (f i)).ren g
 tied:qf X live E o
 eqv:Equivalence E
 same:∀p q,live p->live q->(g (aa X p)=g (aa X q)↔E (aa X p) (aa X q))
 wN:∀p,live p->1<=g (aa X p)/\g (aa X p)<=ag Y
section
variable {X Y:List Cr} {f g:Nat->Nat} {live:Pl->Prop} {E:Nat->Nat->Prop} {o:Pl->Pl}
theorem Cut.inj(h:Cut X Y f g live E o)(hi:i<Y.length)(hj:j<Y.length)(e:f i=f j):i=j:=by
 rcases lt_trichotomy i j with c|c|c
 · have:=h.mono i j c hj;omega
 · exact c
 have:=h.mono j i c hi;omega
theorem Cut.pl(h:Cut X Y f g live E o){p:Pl}(hp:aq Y p):aq X (qE f p):=⟨h.lt _ hp.1,hp.2⟩
theorem Cut.AB(h:Cut X Y f g live E o){p:Pl}(hp:aq Y p):live (qE f p):=(h.alive _ (h.pl hp)).2 ⟨p.1,hp.1,rfl⟩
theorem Cut.back(h:Cut X Y f g live E o){q:Pl}(hq:live q):∃p,aq Y p/\qE f p=q:=by
 obtain⟨i,hi,e⟩:=(h.alive q (h.tied.isP q hq)).1 hq;exact⟨(i,q.2),⟨hi,(h.tied.isP q hq).2⟩,by unfold qE;rw[e]⟩
theorem Cut.at_(h:Cut X Y f g live E o){p:Pl}(hp:aq Y p):at_ Y p=(g (aa X (qE f p)):Nat):=by
 unfold Kn.at_ aa Kn.at_ qE;rw[h.cr_ _ hp.1,F4]
theorem Cut.aa(h:Cut X Y f g live E o){p:Pl}(hp:aq Y p):aa Y p=g (aa X (qE f p)):=by unfold Kn.aa;rw[h.at_ hp];rfl
theorem Cut.cm(h:Cut X Y f g live E o){p:Pl}(hp:aq Y p):cm Y p=cm X (qE f p):=by
 unfold Kn.cm qE
 rw[h.cr_ _ hp.1];rfl
theorem Cut.Gb(h:Cut X Y f g live E o){p q:Pl}(hp:aq Y p)(hq:aq Y q)(e:qE f p=qE f q):p=q:=by
 obtain⟨a,b⟩:=p;obtain⟨c,d⟩:=q;unfold qE at e
 injection e with e1 e2
 simp only at e1 e2;have e3:a=c:=h.inj hp.1 hq.1 e1;rw[e3,e2]
theorem Cut.uniq(h:Cut X Y f g live E o){p q:Pl}(hp:aq Y p)(hq:aq Y q)(hc:Kn.cm Y p=Kn.cm Y q)(ha:Kn.at_ Y p=Kn.at_ Y q):p=q:=by
 rw[h.at_ hp,h.at_ hq,Int.ofNat_inj]at ha;exact h.Gb hp hq (h.tied.un _ _ (h.AB hp) (h.AB hq) (by rw[<-h.cm hp,<-h.cm hq,hc]) ((h.same _ _ (h.AB hp) (h.AB hq)).1 ha))
theorem Cut.Og(h:Cut X Y f g live E o):Ok Y:=by
 refine Oe (λp hp=>?_) (λio a ha=>?_) λp q hp hq hc ha=>h.uniq hp hq hc ha
 · rw[h.at_ hp]
   have:=h.wN _ (h.AB hp);omega
 have Be:∃p,aq Y p/\Kn.cm Y p=true/\Kn.at_ Y p=a:=by
  have hr:∀k,k<ag Y->1<=Kn.aa Y (ip Y k)/\Kn.aa Y (ip Y k)<=ag Y:=λk hk=>by
   rw[h.aa (tT hk)];exact h.wN _ (h.AB (tT hk))
  have P:=xW (l:=range (ag Y)) jK (f:=λk=>Kn.aa Y (ip Y k)-1) (λk hk=>by
   rw[jw]at hk ⊢
   have:=hr k hk;omega) λj hj k hk e=>by
   rw[jw]at hj hk;have h1:=hr j hj;have h2:=hr k hk
   have e:Kn.aa Y (ip Y j)=Kn.aa Y (ip Y k):=by omega
   rw[h.aa (tT hj),h.aa (tT hk)]at e
   refine ac0 (h.uniq (tT hj) (tT hk) (by rw[UK,UK]) ?_)
   rw[h.at_ (tT hj),h.at_ (tT hk),e]
  obtain⟨k,hk,e⟩:=jv.1 (P.mem_iff.2 (jw.2 (show a-1<ag Y by have:=ha.1;have:=ha.2;omega)));rw[jw]at hk;refine⟨ip Y k,tT hk,UK Y k,?_⟩;have h1:=hr k hk;have:=ha.1
  have e2:g (Kn.aa X (qE f (ip Y k)))=a:=by rw[<-h.aa (tT hk)];omega
  rw[h.at_ (tT hk),e2]
 obtain⟨p,hp,hc,ha'⟩:=Be
 cases io with
 |true=>exact⟨p,hp,hc,ha'⟩
 |false=>
  obtain⟨q,hq,e⟩:=h.back (h.tied.lv _ (h.AB hp));refine⟨q,hq,?_,?_⟩
  · rw[h.cm hq,e,h.tied.op _ (h.AB hp),<-h.cm hp,hc];rfl
  rw[<-ha',h.at_ hq,h.at_ hp,e,Int.ofNat_inj];exact((h.same _ _ (h.AB hp) (h.tied.lv _ (h.AB hp))).2 (h.tied.eq _ (h.AB hp))).symm
theorem Cut.other(h:Cut X Y f g live E o){p:Pl}(hp:aq Y p):qE f (other Y p)=o (qE f p):=by
 have hY:=h.Og;obtain⟨q,hq,e⟩:=h.back (h.tied.lv _ (h.AB hp));rw[<-e]
 congr 1
 refine h.uniq (hY.aM hp) hq ?_ ?_
 · rw[hY.dA hp,h.cm hq,e,h.tied.op _ (h.AB hp),h.cm hp]
 rw[<-hY.cT (hY.aM hp),hY.cK hp,h.at_ hq,h.aa hp,e,Int.ofNat_inj];exact(h.same _ _ (h.AB hp) (h.tied.lv _ (h.AB hp))).2 (h.tied.eq _ (h.AB hp))
end
theorem MX{N M:Nat}{k:Nat->Nat}(hm:∀i j,i<j->j<M->k i<k j)(hk:∀i,i<M->k i<N)(h:∀i j,i<M->j<M->(R (k i) (k j)↔R' i j))(hs:∀y,(∀i,i<M->k i≠y)->∀x,R x y->x=y)(hR:Equivalence R):
 cl N R+M=cl M R'+N:=by
 have rP:∀x∈range M,∀y∈range M,k x=k y->x=y:=λx hx y hy e=>by
  rw[jw]at hx hy
  rcases lt_trichotomy x y with c|c|c
  · have:=hm x y c hy;omega
  · exact c
  have:=hm y x c hx;omega
 have zq:=uR (l:=range M) jK rP;have JI:((range N).filter λy=>!((range M).map k).contains y).Nodup:=jK.sublist filter_sublist
 have P:((range M).map k++(range N).filter λy=>!((range M).map k).contains y).Perm (range N):=by
  refine(jR ?_ jK).2 λy=>?_
  · refine jU.2 ⟨zq,JI,λa ha b hb e=>?_⟩
    subst e;rw[jC]at hb;have:=hb.2;simp only[not_eq_true',List.contains_eq_mem,jF]at this;exact this ha
  rw[jx,jC,jw];constructor
  · rintro(k1|k1)
    · obtain⟨i,hi,rfl⟩:=jv.1 k1
      exact hk i (jw.1 hi)
    exact k1.1
  intro hy;by_cases c:y∈(range M).map k
  · exact .inl c
  exact .inr ⟨hy,by simpa using c⟩
 have hl:=P.length_eq;rw[ju,jA,jS,jS]at hl
 have hc:=P.countP_eq λd=>tr (pN R d)
 rw[countP_append,List.countP_map]at hc
 have h1:(range M).countP ((λd=>tr (pN R d))∘k)=cl M R':=by
  unfold cl
  refine dH λz hz=>fj ?_
  rw[jw]at hz;constructor
  · intro l e he r
    exact l (k e) (hm e z he hz) ((h e z (by omega) hz).2 r)
  intro l e he r
  by_cases c:∃i,i<M/\k i=e
  · obtain⟨i,hi,rfl⟩:=c
    have:i<z:=by
     rcases lt_trichotomy i z with c|c|c
     · exact c
     · subst c;omega
     have:=hm z i c hi;omega
    exact l i this ((h i z hi hz).1 r)
  have:=hs e (λi hi he=>c ⟨i,hi,he⟩) (k z) (hR.symm r);omega
 have h2:((range N).filter λy=>!((range M).map k).contains y).countP (λd=>tr (pN R d))=((range N).filter λy=>!((range M).map k).contains y).length:=by
  refine List.countP_eq_length.2 λy hy=>bf.2 λe he r=>?_
  rw[jC]at hy;have:=hy.2;simp only[not_eq_true',List.contains_eq_mem,jF]at this;have:=hs y (λi hi c=>this (jv.2 ⟨i,jw.2 hi,c⟩)) e r;omega
 rw[h1,h2]at hc
 show (range N).countP _+M=_
 omega
section
variable {N:Nat} {σ:Nat->Nat}
theorem oO.len:∀{es:eW},Good N es->oO es->cl N (cW (aB es))+es.length=N
 |[],_,_=>by
  show cl N (cW λx=>x)+0=N
  have:cl N (cW λx:Nat=>x)=cl N (λx y=>x=y):=eK λx y=>(oC (x:=x) (y:=y))
  rw[this];unfold cl
  have hl:(range N).countP (λd=>tr (pN (λx y:Nat=>x=y) d))=(range N).length:=List.countP_eq_length.2 λy _=>bf.2 λe he (r:e=y)=>by omega
  rw[hl,jS];rfl
 |e :: es,hg,hd=>by
  have i:=oO.len hg.tail hd.tail;obtain⟨h1,h2,h3⟩:=hg e (by simp);have hp:Pm N (oL (λx=>x) es):=mG ⟨λ_ h=>h,λ_ _=>rfl,λ_ _ h=>h⟩ hg.tail
  have hno:¬cW (aB es) e.1 e.2:=by
   rintro⟨n,hn⟩
   have:∀n,it (aB es) n e.1=e.1:=λn=>by
    induction n with
    |zero=>rfl
    |succ n ih=>rw[it,ih,aG hd.out.1]
   rw[this]at hn;exact h3 hn
  have j:=nt (f:=aB es) hp h1 h2 hno
  show cl N (cW λx=>swp e.1 e.2 (aB es x))+(es.length+1)=N
  omega
theorem Flat.same(h:Pm N σ){es es':eW}(hg:Good N es)(hd:oO es)(JK:Good N es')(wC:oO es')(hm:∀x,aB es x=aB es' x)(hf:Flat N σ es):Flat N σ es':=by
 have e:aB es=aB es':=funext hm;have h1:=oO.len hg hd;have h2:=oO.len JK wC;rw[e]at h1
 refine hf.congr h hm (by omega) (λd he=>?_) λd he=>?_
 · rw[<-(cJ hd he).1,hm];exact yo h es' d.1
 rw[<-(cJ wC he).1,<-hm];exact yo h es d.1
end
def kP(f:Nat->Nat)(z:Nat):Nat:=f (z / 4)*4+z%4
theorem aaz{p:Pl}(hp:p.2<4):kP f (pk p)=pk (qE f p):=by
 unfold kP pk qE
 simp only
 rw[show (p.1*4+p.2) / 4=p.1 by omega,show (p.1*4+p.2)%4=p.2 by omega]
theorem Jt{M:Nat}{k:Nat->Nat}(hk:∀i j,i<M->j<M->k i=k j->i=j):∀{es:eW},Good M es->∀{z:Nat},z<M->aB (es.map λe=>(k e.1,k e.2)) (k z)=k (aB es z)
 |[],_,_,_=>rfl
 |e :: es,hg,z,hz=>by
  have i:=Jt hk hg.tail hz;have hw:=hg.tail.A8 hz;obtain⟨h1,h2,_⟩:=hg e (by simp)
  show swp (k e.1) (k e.2) (aB (es.map λe=>(k e.1,k e.2)) (k z))=k (swp e.1 e.2 (aB es z))
  rw[i];by_cases c:aB es z=e.1
  · rw[c,cp,cp]
  by_cases d:aB es z=e.2
  · rw[d,cY,cY]
  rw[ak c d,ak (λe=>c (hk _ _ hw h1 e)) λe=>d (hk _ _ hw h2 e)]
theorem Oc{M:Nat}{k:Nat->Nat}(hk:∀i j,i<M->j<M->k i=k j->i=j){φ φ':Nat->Nat}(hl:∀z,z<M->φ' z<M)(he:∀z,z<M->φ (k z)=k (φ' z))(hi:i<M)(hj:j<M):cW φ (k i) (k j)↔cW φ' i j:=by
 have key:∀n,it φ' n i<M/\it φ n (k i)=k (it φ' n i):=λn=>by
  induction n with
  |zero=>exact⟨hi,rfl⟩
  |succ n ih=>exact⟨hl _ ih.1,by rw[it,ih.2,he _ ih.1];rfl⟩
 constructor
 · rintro⟨n,hn⟩
   rw[(key n).2]at hn;exact⟨n,hk _ _ (key n).1 hj hn⟩
 rintro⟨n,hn⟩;exact⟨n,by rw[(key n).2,hn]⟩
theorem Ob{φ:Nat->Nat}(h:Pm N φ)(hy:φ y=y)(k:cW φ x y):x=y:=by
 obtain⟨n,hn⟩:=h.symm k
 have:∀n,it φ n y=y:=λn=>by
  induction n with
  |zero=>rfl
  |succ n ih=>rw[it,ih,hy]
 rw[this]at hn;exact hn.symm
section
variable {X Y:List Cr} {f g:Nat->Nat} {live:Pl->Prop} {E:Nat->Nat->Prop} {o:Pl->Pl}
theorem Cut.pS(h:Cut X Y f g live E o){σ:Nat->Nat}{es:eW}(hσ:Pm (4*X.length) σ)(hg:Good (4*X.length) es)(hd:oO es)(hf:Flat (4*X.length) σ es)
 (m1:∀p,live p->aB es (pk p)=pk (o p)) (m2:∀z,(∀p,live p->pk p≠z)->aB es z=z)
 (s1:∀p,live p->σ (pk p)=sig X.length (pk p)) (s2:∀z,(∀p,live p->pk p≠z)->σ z=z):aJ Y=true:=by
 have hY:=h.Og
 have km:∀i j,i<j->j<4*Y.length->kP f i<kP f j:=λi j wB hj=>by
  unfold kP;by_cases c:i / 4=j / 4
  · rw[c];omega
  have:=h.mono (i / 4) (j / 4) (by omega) (by omega);omega
 have ki:∀i j,i<4*Y.length->j<4*Y.length->kP f i=kP f j->i=j:=λi j hi hj e=>by
  rcases lt_trichotomy i j with c|c|c
  · have:=km i j c hj;omega
  · exact c
  have:=km j i c hi;omega
 have kl:∀i,i<4*Y.length->kP f i<4*X.length:=λi hi=>by
  have:=h.lt (i / 4) (by omega)
  unfold kP;omega
 have kpl:∀i,i<4*Y.length->kP f i=pk (qE f (Kn.pl i)):=λi _=>rfl
 have aaw:∀i,i<4*Y.length->live (qE f (Kn.pl i)):=λi hi=>h.AB (fI hi)
 have ag4:∀y,(∀i,i<4*Y.length->kP f i≠y)->∀p,live p->pk p≠y:=λy hy p hp e=>by
  obtain⟨q,hq,rfl⟩:=h.back hp
  refine hy (pk q) (gi hq) ?_
  rw[aaz hq.2,e]
 have G:=hY.iJ;have D:=hY.rX
 have g2:Good (4*X.length) ((mS Y).map λe=>(kP f e.1,kP f e.2)):=λe he=>by
  obtain⟨d,hd,rfl⟩:=jv.1 he;obtain⟨h1,h2,h3⟩:=G d hd;exact⟨kl _ h1,kl _ h2,λc=>h3 (ki _ _ h1 h2 c)⟩
 have d2:oO ((mS Y).map λe=>(kP f e.1,kP f e.2)):=by
  unfold oO at D ⊢;rw[pairwise_map]
  refine imp_of_mem (λ{a b} ha hb k=>?_) D
  obtain⟨a1,a2,_⟩:=G a ha;obtain⟨b1,b2,_⟩:=G b hb;exact⟨λc=>k.1 (ki _ _ a1 b1 c),λc=>k.2.1 (ki _ _ a1 b2 c),λc=>k.2.2.1 (ki _ _ a2 b1 c),λc=>k.2.2.2 (ki _ _ a2 b2 c)⟩
 have mo:∀y,(∀i,i<4*Y.length->kP f i≠y)->aB ((mS Y).map λe=>(kP f e.1,kP f e.2)) y=y:=λy hy=>aG (by
  rintro⟨e,he,k⟩;obtain⟨d,hd,rfl⟩:=jv.1 he;obtain⟨h1,h2,h3⟩:=G d hd
  rcases k with k|k
  · exact hy _ h1 k.symm
  exact hy _ h2 k.symm)
 have mi:∀z,z<4*Y.length->aB ((mS Y).map λe=>(kP f e.1,kP f e.2)) (kP f z)=kP f (aB (mS Y) z):=λz hz=>Jt ki G hz
 have mm:∀y,aB es y=aB ((mS Y).map λe=>(kP f e.1,kP f e.2)) y:=λy=>by
  by_cases c:∃i,i<4*Y.length/\kP f i=y
  · obtain⟨i,hi,rfl⟩:=c
    rw[mi i hi];have hp:=fI (X:=Y) hi
    have e1:aB (mS Y) i=pk (Kn.other Y (Kn.pl i)):=by
     have:=hY.iQ hp
     rwa [show pk (Kn.pl i)=i by unfold pk Kn.pl;simp only;omega]at this
    rw[e1,aaz (hY.aM hp).2,h.other hp,kpl i hi,m1 _ (aaw i hi)]
  have c':∀i,i<4*Y.length->kP f i≠y:=λi hi e=>c ⟨i,hi,e⟩
  rw[mo y c',m2 y (ag4 y c')]
 have F:=hf.same hσ hg hd g2 d2 mm
 have se:∀z,z<4*Y.length->σ (kP f z)=kP f (sig Y.length z):=λz hz=>by
  rw[kpl z hz,s1 _ (aaw z hz),<-kpl z hz];have h1:=kl z hz;unfold sig;rw[if_pos h1,if_pos hz];unfold kP;rw[show (f (z / 4)*4+z%4) / 4=f (z / 4)by omega,show (f (z / 4)*4+z%4)%4=z%4 by omega,show (z / 4*4+(z%4+3)%4) / 4=z / 4 by omega,show (z / 4*4+(z%4+3)%4)%4=(z%4+3)%4 by omega]
 have so:∀y,(∀i,i<4*Y.length->kP f i≠y)->σ y=y:=λy hy=>s2 y (ag4 y hy)
 have sl:=(dI Y.length).lt;have hφ:=mG hσ g2
 have cF:=MX (k:=kP f) km kl (R:=cW (oL σ ((mS Y).map λe=>(kP f e.1,kP f e.2)))) (R':=cW (ye Y)) (λi j hi hj=>
  Oc ki (φ':=ye Y) hY.pZ.lt (λz hz=>by
   show aB _ (σ (kP f z))=kP f (aB (mS Y) (sig Y.length z))
   rw[se z hz,mi _ (sl z hz)]) hi hj)
  (λy hy x r=>Ob hφ (by
   show aB _ (σ y)=y
   rw[so y hy,mo y hy]) r) hφ.equiv
 have cV:=MX (k:=kP f) km kl (R:=cW σ) (R':=cW (sig Y.length)) (λi j hi hj=>Oc ki sl se hi hj)
  (λy hy x r=>Ob hσ (so y hy) r) hσ.equiv
 have hE:=aW hσ ((mS Y).map λe=>(kP f e.1,kP f e.2));have hP:=aW (dI Y.length) (mS Y)
 have hS:Equivalence (λx y=>x=y\/∃i j,i<4*Y.length/\j<4*Y.length/\kP f i=x/\kP f j=y/\Ja Y i j):=by
  refine⟨λx=>.inl rfl,λ{x y} k=>?_,λ{x y z} k l=>?_⟩
  · rcases k with k|⟨i,j,h1,h2,h3,h4,h5⟩
    · exact .inl k.symm
    exact .inr ⟨j,i,h2,h1,h4,h3,hP.symm h5⟩
  rcases k with k|⟨i,j,h1,h2,h3,h4,h5⟩
  · rw[k];exact l
  rcases l with l|⟨i',j',k1,k2,k3,k4,k5⟩
  · rw[<-l];exact .inr ⟨i,j,h1,h2,h3,h4,h5⟩
  have:=ki j i' h2 k1 (h4.trans k3.symm);subst this;exact .inr ⟨i,j',h1,k2,h3,k4,hP.trans h5 k5⟩
 have down:∀{x y},bh σ ((mS Y).map λe=>(kP f e.1,kP f e.2)) x y->x=y\/∃i j,i<4*Y.length/\j<4*Y.length/\kP f i=x/\kP f j=y/\Ja Y i j:=λ{x y} k=>by
  refine bN hS (λz=>?_) (λe he=>?_) k
  · by_cases c:∃i,i<4*Y.length/\kP f i=z
    · obtain⟨i,hi,rfl⟩:=c
      exact .inr ⟨i,sig Y.length i,hi,sl i hi,rfl,(se i hi).symm,eJ (cW.one _ i)⟩
    exact .inl (so z λi hi e=>c ⟨i,hi,e⟩).symm
  obtain⟨d,hd,rfl⟩:=jv.1 he;obtain⟨h1,h2,_⟩:=G d hd;exact .inr ⟨d.1,d.2,h1,h2,rfl,rfl,dw (dI Y.length) hd⟩
 have up:∀{i j},Ja Y i j->i<4*Y.length->j<4*Y.length->bh σ ((mS Y).map λe=>(kP f e.1,kP f e.2)) (kP f i) (kP f j):=λ{i j} k hi hj=>by
  have hT:Equivalence (λi j=>bh σ ((mS Y).map λe=>(kP f e.1,kP f e.2)) (kP f i) (kP f j)):=⟨λx=>hE.refl _,λk=>hE.symm k,λk l=>hE.trans k l⟩
  refine bN hT (λz=>?_) (λe he=>?_) k
  · by_cases c:z<4*Y.length
    · show bh σ _ (kP f z) (kP f (sig Y.length z))
      rw[<-se z c];exact eJ (cW.one _ _)
    rw[(dI Y.length).out z (by omega)];exact hE.refl _
  exact dw hσ (e:=(kP f e.1,kP f e.2)) (jv.2 ⟨e,he,rfl⟩)
 have cC:=MX (k:=kP f) km kl (R:=bh σ ((mS Y).map λe=>(kP f e.1,kP f e.2))) (R':=Ja Y) (λi j hi hj=>by
  constructor
  · intro k
    rcases down k with k|⟨i',j',h1,h2,h3,h4,h5⟩
    · rw[ki i j hi hj k];exact hP.refl _
    rw[<-ki i' i h1 hi h3,<-ki j' j h2 hj h4];exact h5
  exact λk=>up k hi hj)
  (λy hy x r=>by
   rcases down r with k|⟨i,j,_,h2,_,h4,_⟩
   · exact k
   exact absurd h4 (hy j h2)) hE
 unfold Flat at F;rw[jA]at F
 have hl:(mS Y).length=ag Y:=by unfold mS;rw[jA,pM]
 have a1:=hY.oD;have a2:=hY.nL;have a3:=G1 Y.length;rw[hY.rI];unfold ag at hl;omega
end
structure M9(f:Nat->Nat)(E:Nat->Nat->Prop):Prop where
 iff:∀a b,f a=f b↔E a b
 le:∀a,f a<=a
 idem:∀a,f (f a)=f a
 pos:∀a,1<=a->1<=f a
def dG(f:Nat->Nat)(u v a:Nat):Nat:=if f a=max (f u) (f v)then min (f u) (f v)else f a
theorem M9.id:M9 (λa=>a) (bh (λx=>x) []):=⟨λ_ _=>oC.symm,λ_=>jH _,λ_=>rfl,λ_ h=>h⟩
theorem M9.join(h:M9 f E)(hu:1<=u)(hv:1<=v):M9 (dG f u v) (qG E u v):=by
 have p1:=h.pos u hu;have p2:=h.pos v hv;refine⟨λa b=>?_,λa=>?_,λa=>?_,λa ha=>?_⟩
 · have key:dG f u v a=dG f u v b↔f a=f b\/(f a=f u/\f v=f b)\/(f a=f v/\f u=f b):=by
    unfold dG
    by_cases c:f a=max (f u) (f v)<;>by_cases d:f b=max (f u) (f v)
    · rw[if_pos c,if_pos d];omega
    · rw[if_pos c,if_neg d];omega
    · rw[if_neg c,if_pos d];omega
    rw[if_neg c,if_neg d];omega
   rw[key,h.iff,h.iff,h.iff,h.iff,h.iff];rfl
 · unfold dG
   have:=h.le a
   split<;>omega
 · have i1:=h.idem a
   have i2:=h.idem u;have i3:=h.idem v
   have m:min (f u) (f v)=f u\/min (f u) (f v)=f v:=by omega
   unfold dG;by_cases c:f a=max (f u) (f v)
   · rw[if_pos c]
     rcases m with m|m
     · rw[m,i2];split<;>omega
     rw[m,i3];split<;>omega
   rw[if_neg c,i1,if_neg c]
 unfold dG;have:=h.pos a ha
 split<;>omega
def kept(n:Nat)(gone:Nat->Bool):List Nat:=(range n).filter λc=>!gone c
def gw(X:List Cr)(f:Nat->Nat)(gone:Nat->Bool)(r:Nat):Bool:=(kept X.length gone).any λc=>(range 4).any λs=>decide (f (aa X (c,s))=r)
def gh(X:List Cr)(f:Nat->Nat)(gone:Nat->Bool)(r:Nat):Bool:=decide (f r=r)&&gw X f gone r
def fC(X:List Cr)(f:Nat->Nat)(gone:Nat->Bool)(v:Nat):Nat:=(range v).countP λa=>gh X f gone (a+1)
def kR(X:List Cr)(f:Nat->Nat)(gone:Nat->Bool):List Cr:=(kept X.length gone).map λc=>(cr X c).ren λa=>fC X f gone (f a)
def IY(X:List Cr)(f:Nat->Nat)(gone:Nat->Bool):Nat:=(range (ag X)).countP λa=>decide (f (a+1)=a+1) && !gw X f gone (a+1)
theorem nY{n c:Nat}:c∈kept n gone↔c<n/\gone c=false:=by unfold kept;simp
theorem lD{X:List Cr}:gw X f gone r=true↔∃p,aq X p/\gone p.1=false/\f (aa X p)=r:=by
 unfold gw;simp only[List.any_eq_true,nY,jw,jh];constructor
 · rintro⟨c,⟨h1,h2⟩,s,h3,h4⟩;exact⟨(c,s),⟨h1,h3⟩,h2,h4⟩
 rintro⟨p,⟨h1,h3⟩,h2,h4⟩;exact⟨p.1,⟨h1,h2⟩,p.2,h3,h4⟩
section
variable {X:List Cr} {f:Nat->Nat} {gone:Nat->Bool}
theorem qF(v:Nat):fC X f gone (v+1)=fC X f gone v+if gh X f gone (v+1)then 1 else 0:=by
 unfold fC
 rw[jO,countP_append,jG,List.countP_nil];simp
theorem yU{v:Nat}:∀{w:Nat},v<=w->fC X f gone v<=fC X f gone w
 |0,h=>by rw[show v=0 by omega];exact jH _
 |w+1,h=>by
  by_cases c:v=w+1
  · rw[c];exact jH _
  have:=yU (v:=v) (w:=w) (by omega)
  rw[qF];omega
theorem xF{w:Nat}(h:v<w)(hw:gh X f gone w=true):fC X f gone v<fC X f gone w:=by
 obtain⟨u,rfl⟩:∃u,w=u+1:=⟨w-1,by omega⟩
 have:=yU (X:=X) (f:=f) (gone:=gone) (v:=v) (w:=u) (by omega)
 rw[qF,if_pos hw];omega
theorem fT:(kR X f gone).length=(kept X.length gone).length:=by unfold kR;rw[jA]
theorem xP(h:i<(kept X.length gone).length):(kept X.length gone).getD i 0<X.length/\gone ((kept X.length gone).getD i 0)=false:=by
 rw[jc,je h];exact nY.1 (jM h)
theorem wU(h:i<(kept X.length gone).length):cr (kR X f gone) i=(cr X ((kept X.length gone).getD i 0)).ren λa=>fC X f gone (f a):=by
 have e1:(kept X.length gone).getD i 0=(kept X.length gone)[i]:=by rw[jc,je h];rfl
 rw[e1]
 show (kR X f gone).getD i default=_
 unfold kR
 rw[jc,List.getElem?_map,je h];rfl
theorem Qx(wB:i<j)(hj:j<(kept n gone).length):(kept n gone).getD i 0<(kept n gone).getD j 0:=by
 have h:(kept n gone).Pairwise (· < ·):=List.Pairwise.filter _ List.pairwise_lt_range;rw[jc,je (by omega),jc,je hj];exact List.pairwise_iff_getElem.1 h i j (by omega) hj wB
theorem xQ{n c:Nat}(h:c<n)(hg:gone c=false):∃i,i<(kept n gone).length/\(kept n gone).getD i 0=c:=by
 obtain⟨i,hi,e⟩:=List.mem_iff_getElem.1 (nY.2 ⟨h,hg⟩);exact⟨i,hi,by rw[jc,je hi];exact e⟩
theorem BD(hX:Ok X)(hR:M9 f E)(hE:Equivalence E){live:Pl->Prop}{o:Pl->Pl}(hT:qf X live E o)(hl:∀p,live p↔aq X p/\gone p.1=false):
 Cut X (kR X f gone) (λi=>(kept X.length gone).getD i 0) (λa=>fC X f gone (f a)) live E o:=by
 have root:∀p,live p->gh X f gone (f (aa X p))=true:=λp hp=>by
  unfold gh;rw[jp];exact⟨jk (hR.idem _),lD.2 ⟨p,((hl p).1 hp).1,((hl p).1 hp).2,rfl⟩⟩
 have Pc:∀p,live p->1<=f (aa X p)/\f (aa X p)<=ag X:=λp hp=>by
  have:=hX.ah (hT.isP p hp);have h1:=hR.pos _ this.1;have h2:=hR.le (aa X p);have:=this.2;omega
 refine⟨hX,λi j wB hj=>Qx wB (fT ▸ hj),λi hi=>(xP (fT ▸ hi)).1,λp hp=>?_,λi hi=>wU (fT ▸ hi),hT,hE,λp q hp hq=>?_,λp hp=>?_⟩
 · rw[hl p]
   constructor
   · rintro⟨h1,h2⟩
     obtain⟨i,hi,e⟩:=xQ h1.1 h2;exact⟨i,fT ▸ hi,e⟩
   rintro⟨i,hi,e⟩;exact⟨hp,by rw[<-e];exact(xP (fT ▸ hi)).2⟩
 · rw[<-hR.iff]
   constructor
   · intro e
     rcases lt_trichotomy (f (aa X p)) (f (aa X q))with c|c|c
     · have:=xF c (root q hq);omega
     · exact c
     have:=xF c (root p hp);omega
   intro e;show fC X f gone _=fC X f gone _;rw[e]
 have a1:=Pc p hp;have h0:=xF (v:=0) (by omega) (root p hp);refine⟨by show 1<=fC X f gone _;omega,?_⟩;have h1:=yU (X:=X) (f:=f) (gone:=gone) a1.2
 refine jJ h1 ?_
 unfold fC;rw[List.countP_eq_length_filter]
 have hn:(((range (ag X)).filter λa=>gh X f gone (a+1)).map (· + 1)).Nodup:=
  uR (jK.sublist filter_sublist) λx _ y _ e=>by
   have e:x+1=y+1:=e;omega
 have:=ft (m:=(range (ag (kR X f gone))).map λk=>f (aa X (qE (λi=>(kept X.length gone).getD i 0) (ip (kR X f gone) k)))) hn λr hr=>by
  obtain⟨a,ha,rfl⟩:=jv.1 hr;rw[jC]at ha;have hb:=ha.2;unfold gh at hb;rw[jp,lD]at hb;obtain⟨q,q1,q2,q3⟩:=hb.2;have hq:live q:=(hl q).2 ⟨q1,q2⟩
  have main:∀q,live q->cm X q=true->f (aa X q)=a+1->a+1∈(range (ag (kR X f gone))).map λk=>f (aa X (qE (λi=>(kept X.length gone).getD i 0) (ip (kR X f gone) k))):=λq hq hc e=>by
   obtain⟨i,hi,ei⟩:=xQ ((hl q).1 hq).1.1 ((hl q).1 hq).2;have hp:aq (kR X f gone) (i,q.2):=⟨by rw[fT];exact hi,((hl q).1 hq).1.2⟩
   have e1:cm (kR X f gone) (i,q.2)=true:=by
    rw[<-hc];unfold cm;rw[wU hi];simp only;rw[ei];rfl
   obtain⟨k,hk,ek⟩:=ac1 hp e1
   refine jv.2 ⟨k,jw.2 hk,?_⟩
   show f (aa X (qE (λi=>(kept X.length gone).getD i 0) (ip (kR X f gone) k)))=a+1
   rw[ek]
   show f (aa X ((kept X.length gone).getD i 0,q.2))=a+1
   rw[ei];exact e
  by_cases c:cm X q=true
  · exact main q hq c q3
  refine main (o q) (hT.lv q hq) ?_ ?_
  · rw[hT.op q hq];simpa using c
  rw[(hR.iff _ _).2 (hE.symm (hT.eq q hq))];exact q3
 rw[jA,jA,jS]at this;exact this
end
end Go.Proofs.YtfplmbmenjdlhaaGreatDoor.Kn
namespace Pl
open Go.Proofs.YtfplmbmenjdlhaaGreatDoor
abbrev T:=Int×Int
def gF(l:List T)(f:Int->Int):Int:=(l.map λt=>t.2*f t.1).sum
theorem gR(f:Int->Int):gF [] f=0:=rfl
theorem bJ(t:T)(l:List T)(f:Int->Int):gF (t :: l) f=t.2*f t.1+gF l f:=by simp[gF]
theorem wW(l m:List T)(f:Int->Int):gF (l++m) f=gF l f+gF m f:=by simp[gF]
def vL(e:Int):Int->Int:=λx=>if x=e then 1 else 0
def co(l:List T)(e:Int):Int:=gF l (vL e)
theorem cO(t:T)(l:List T)(e:Int):co (t :: l) e=(if t.1=e then t.2 else 0)+co l e:=by
 simp only[co,bJ,vL]
 split<;>simp
theorem gM(e:Int):co [] e=0:=rfl
theorem gN(l m:List T)(e:Int):co (l++m) e=co l e+co m e:=wW _ _ _
theorem AW(l:List T)(f g:Int->Int):gF l (λx=>f x+g x)=gF l f+gF l g:=by
 induction l with
 |nil=>rfl
 |cons t l ih=>rw[bJ,bJ,bJ,ih,Int.mul_add];omega
theorem rq(l:List T)(k:Int)(f:Int->Int):gF l (λx=>k*f x)=k*gF l f:=by
 induction l with
 |nil=>simp[gR]
 |cons t l ih=>rw[bJ,bJ,ih,Int.mul_add,Int.mul_left_comm]
theorem SF(l:List T):gF l (λ_=>0)=0:=by
 induction l with
 |nil=>rfl
 |cons t l ih=>rw[bJ,ih];simp
def out(e:Int)(l:List T):List T:=l.filter λt=>t.1 != e
theorem FR(e:Int)(f:Int->Int):∀l:List T,gF l f=co l e*f e+gF (out e l) f
 |[]=>by simp[gR,gM,out]
 |t :: l=>by
  have ih:=FR e f l;rw[bJ,cO];by_cases h:t.1=e
  · have:out e (t :: l)=out e l:=by simp[out,h]
    rw[this,if_pos h,ih,Int.add_mul,h];omega
  have:out e (t :: l)=t :: out e l:=by simp[out,h]
  rw[this,if_neg h,bJ,ih];simp;omega
theorem VM(e x:Int)(l:List T):co (out e l) x=if x=e then 0 else co l x:=by
 have h:=FR e (vL x) l;by_cases c:x=e
 · subst c
   have h2:vL x x=1:=by simp[vL]
   rw[h2]at h;simp only[co]at *
   rw[if_pos trivial];omega
 have h2:vL x e=0:=by simp[vL];omega
 rw[h2]at h;simp only[co]at *
 rw[if_neg c];omega
theorem LI(t:T)(l:List T):(out t.1 (t :: l)).length<=l.length:=by
 have:out t.1 (t :: l)=out t.1 l:=by simp[out]
 rw[this];exact List.length_filter_le _ _
theorem zW(f:Int->Int):∀(n:Nat) (l:List T),l.length<=n->(∀e,co l e=0)->gF l f=0
 |_,[],_,_=>rfl
 |0,_ :: _,h,_=>by simp at h
 |n+1,t :: l,h,h0=>by
  rw[FR t.1 f (t :: l),h0,Int.zero_mul,Int.zero_add]
  refine zW f n _ (jJ (LI t l) (by simpa using h)) λe=>?_
  rw[VM,h0];simp
def neg(l:List T):List T:=l.map λt=>(t.1,-t.2)
theorem NA(l:List T)(f:Int->Int):gF (neg l) f = -gF l f:=by
 induction l with
 |nil=>rfl
 |cons t l ih=>
  show gF ((t.1,-t.2) :: neg l) f=_
  rw[bJ,bJ,ih,Int.neg_add,Int.neg_mul]
theorem uw{l m:List T}(h:∀e,co l e=co m e)(f:Int->Int):gF l f=gF m f:=by
 have:=zW f _ (l++neg m) (jH _) λe=>by
  rw[gN]
  show co l e+gF (neg m) (vL e)=0
  rw[NA,h e];show co m e + -co m e=0;omega
 rw[wW,NA]at this;omega
def mul(a b:List T):List T:=a.flatMap λs=>b.map λt=>(s.1+t.1,s.2*t.2)
theorem XG(s:T)(b:List T)(f:Int->Int):gF (b.map λt=>(s.1+t.1,s.2*t.2)) f=s.2*gF b (λy=>f (s.1+y)):=by
 induction b with
 |nil=>simp[gR]
 |cons t b ih=>rw[List.map_cons,bJ,bJ,ih,Int.mul_add,Int.mul_assoc]
theorem fO(a b:List T)(f:Int->Int):gF (mul a b) f=gF a λx=>gF b λy=>f (x+y):=by
 induction a with
 |nil=>rfl
 |cons s a ih=>
  show gF ((b.map λt=>(s.1+t.1,s.2*t.2))++mul a b) f=_
  rw[wW,XG,ih,bJ]
theorem SG(a b:List T)(g:Int->Int->Int):(gF a λx=>gF b λy=>g x y)=gF b λy=>gF a λx=>g x y:=by
 induction a with
 |nil=>rw[gR];simp only[gR];exact(SF b).symm
 |cons s a ih=>
  rw[bJ,ih];simp only[bJ];rw[AW,rq]
theorem mul_comm(a b:List T)(f:Int->Int):gF (mul a b) f=gF (mul b a) f:=by
 rw[fO,fO,SG];simp only[Int.add_comm]
theorem mul_assoc(a b c:List T)(f:Int->Int):gF (mul (mul a b) c) f=gF (mul a (mul b c)) f:=by
 rw[fO,fO,fO];simp only[fO,Int.add_assoc]
theorem mul_one(a:List T)(f:Int->Int):gF (mul a [(0,1)]) f=gF a f:=by
 rw[fO];simp only[bJ,gR,Int.add_zero,Int.one_mul]
theorem mul_congr{a a' b b':List T}(ha:∀e,co a e=co a' e)(hb:∀e,co b e=co b' e)(f:Int->Int):gF (mul a b) f=gF (mul a' b') f:=by
 rw[fO,fO,uw ha]
 congr 1
 funext x;exact uw hb _
def Form:List T->Prop
 |[]=>True
 |t :: l=>t.2≠0/\(∀u∈l,t.1<u.1)/\Form l
theorem iK{e:Int}:∀{l:List T},(∀u∈l,e<u.1)->co l e=0
 |[],_=>rfl
 |t :: l,h=>by
  rw[cO,iK λu hu=>h u (by simp[hu]),if_neg (by have:=h t (by simp);omega)];rfl
theorem Am:∀{l m:List T},Form l->Form m->(∀e,co l e=co m e)->l=m
 |[],[],_,_,_=>rfl
 |[],t :: m,_,hm,h=>by
  have:=h t.1;rw[gM,cO,if_pos rfl,iK hm.2.1]at this;exact absurd (by omega) hm.1
 |t :: l,[],hl,_,h=>by
  have:=h t.1;rw[gM,cO,if_pos rfl,iK hl.2.1]at this;exact absurd (by omega) hl.1
 |t :: l,u :: m,hl,hm,h=>by
  have e1:t.1=u.1:=by
   rcases Int.lt_trichotomy t.1 u.1 with c|c|c
   · have:=h t.1
     rw[cO,if_pos rfl,iK hl.2.1,iK (l:=u :: m) (λv hv=>by
      rcases jy.1 hv with rfl|hv
      · exact c
      have:=hm.2.1 v hv;omega)]at this
     exact absurd (by omega) hl.1
   · exact c
   have:=h u.1
   rw[cO u,if_pos rfl,iK hm.2.1,iK (l:=t :: l) (λv hv=>by
    rcases jy.1 hv with rfl|hv
    · exact c
    have:=hl.2.1 v hv;omega)]at this
   exact absurd (by omega) hm.1
  have e2:t.2=u.2:=by
   have:=h t.1;rw[cO,cO,if_pos rfl,if_pos e1.symm,iK hl.2.1,e1,iK hm.2.1]at this;omega
  have e3:t=u:=Prod.ext e1 e2;subst e3;rw[Am hl.2.2 hm.2.2 λe=>by have:=h e;rw[cO,cO]at this;omega]
def size(l:List T):Nat:=(l.map λt=>t.2.natAbs).sum
theorem size_cons(t:T)(l:List T):size (t :: l)=t.2.natAbs+size l:=by simp[size]
theorem fp(l m:List T):size (l++m)=size l+size m:=by simp[size]
theorem BT(e:Int):∀l:List T,(co l e).natAbs+size (out e l)<=size l
 |[]=>by simp[gM,out,size]
 |t :: l=>by
  have ih:=BT e l;rw[cO,size_cons];by_cases h:t.1=e
  · have:out e (t :: l)=out e l:=by simp[out,h]
    rw[this,if_pos h];omega
  have:out e (t :: l)=t :: out e l:=by simp[out,h]
  rw[this,if_neg h,size_cons,Int.zero_add];omega
theorem S8(s:T)(b:List T):size (b.map λt=>(s.1+t.1,s.2*t.2))=s.2.natAbs*size b:=by
 induction b with
 |nil=>rfl
 |cons t b ih=>rw[List.map_cons,size_cons,size_cons,ih,Int.natAbs_mul,Nat.mul_add]
theorem BU(a b:List T):size (mul a b)=size a*size b:=by
 induction a with
 |nil=>simp[mul,size]
 |cons s a ih=>
  show size ((b.map λt=>(s.1+t.1,s.2*t.2))++mul a b)=_
  rw[fp,S8,ih,size_cons,Nat.add_mul]
theorem yq{l:List T}{e:Int}(h:∀t∈l,t.1≠e):co l e=0:=by
 induction l with
 |nil=>rfl
 |cons u l ih=>rw[cO,if_neg (h u (by simp)),ih λt ht=>h t (by simp[ht])];rfl
theorem rV{m:List T}(hf:Form m){t:T}(ht:t∈m):co m t.1=t.2:=by
 induction m with
 |nil=>cases ht
 |cons u m ih=>
  rw[cO]
  rcases jy.1 ht with rfl|ht
  · rw[if_pos rfl,iK hf.2.1];omega
  rw[if_neg (by have:=hf.2.1 t ht;omega),ih hf.2.2 ht];omega
theorem Bj{m:List T}(hf:Form m){t:T}(ht:t∈m):t.2≠0:=by
 induction m with
 |nil=>cases ht
 |cons u m ih=>
  rcases jy.1 ht with rfl|ht
  · exact hf.1
  exact ih hf.2.2 ht
theorem C6{m l:List T}(hf:Form m)(h:∀e,co m e=co l e){t:T}(ht:t∈m):∃u∈l,u.1=t.1:=by
 refine js λc=>Bj hf ht ?_
 rw[<-rV hf ht,h]
 exact yq λu hu e=>c ⟨u,hu,e⟩
def Up:List Int->Prop
 |[]=>True
 |k :: l=>(∀x∈l,k<x)/\Up l
def ofMap(f:Int->Int):List Int->List T
 |[]=>[]
 |k :: l=>if f k=0 then ofMap f l else(k,f k) :: ofMap f l
theorem Qg{f:Int->Int}{ks:List Int}{t:T}(h:t∈ofMap f ks):t.1∈ks:=by
 induction ks with
 |nil=>cases h
 |cons k l ih=>
  unfold ofMap at h;split at h
  · exact List.mem_cons_of_mem _ (ih h)
  rcases jy.1 h with rfl|h
  · simp
  exact List.mem_cons_of_mem _ (ih h)
theorem wh{f:Int->Int}:∀{ks:List Int},Up ks->Form (ofMap f ks)
 |[],_=>trivial
 |k :: l,h=>by
  unfold ofMap;split
  · exact wh h.2
  next c=>exact⟨c,λu hu=>h.1 _ (Qg hu),wh h.2⟩
theorem Ji{f:Int->Int}(e:Int):∀{ks:List Int},Up ks->co (ofMap f ks) e=if e∈ks then f e else 0
 |[],_=>by simp[ofMap,gM]
 |k :: l,h=>by
  have ih:=Ji (f:=f) e h.2;unfold ofMap;by_cases c:e=k
  · subst c
    have hn:e∉l:=λx=>by have:=h.1 e x;omega
    rw[if_neg hn]at ih;split
    · next c0=>rw[ih,c0];simp
    rw[cO,if_pos rfl,ih];simp
  split
  · rw[ih];simp[c]
  rw[cO,if_neg λx=>c x.symm,ih];simp[c]
theorem pG{hi:Int}:∀{m:List T} {lo:Int},Form m->(∀t∈m,lo<=t.1/\t.1<=hi)->(m.length:Int)<=max 0 (hi-lo+1)
 |[],_,_,_=>by simp;omega
 |t :: m,lo,hf,h=>by
  have h1:=h t (by simp)
  have h2:=pG (lo:=t.1+1) hf.2.2 λu hu=>⟨by have:=hf.2.1 u hu;omega,(h u (by simp[hu])).2⟩
  rw[jE];omega
def May(m:List T):Prop:=m.length<=64/\Form m/\∀t∈m,(-1000<=t.1/\t.1<=1000)/\(-1000000<=t.2/\t.2<=1000000)
def In(N:Int)(S:Nat)(m:List T):Prop:=(∀t∈m,-N<=t.1/\t.1<=N)/\size m<=S
def Is(m l:List T):Prop:=Form m/\∀e,co m e=co l e
theorem Is.unique{m m' l l':List T}(h:Is m l)(h':Is m' l')(e:∀x,co l x=co l' x):m=m':=
 Am h.1 h'.1 λx=>by rw[h.2,h'.2,e]
def dJ(e:Int):Int:=if e%2=0 then 1 else -1
theorem XT(x y:Int):dJ (x+y)=dJ x*dJ y:=by
 unfold dJ
 have h1:x%2=0\/x%2=1:=by omega
 have h2:y%2=0\/y%2=1:=by omega
 rcases h1 with h1|h1<;>rcases h2 with h2|h2
 · rw[if_pos h1,if_pos h2,if_pos (by omega)];rfl
 · rw[if_pos h1,if_neg (by omega),if_neg (by omega)];rfl
 · rw[if_neg (by omega),if_pos h2,if_neg (by omega)];rfl
 rw[if_neg (show ¬x%2=0 by omega),if_neg (show ¬y%2=0 by omega),if_pos (show (x+y)%2=0 by omega)];rfl
theorem ER(f:Int->Int):∀ks ls:List Int,ofMap f (ks++ls)=ofMap f ks++ofMap f ls
 |[],_=>rfl
 |k :: ks,ls=>by
  show (if f k=0 then ofMap f (ks++ls)else(k,f k) :: ofMap f (ks++ls))=(if f k=0 then ofMap f ks else(k,f k) :: ofMap f ks)++ofMap f ls
  rw[ER f ks ls]
  split<;>rfl
def keys(k:Nat):List Int:=(List.range k).map fun(i:Nat)=>(i:Int)-4
end Pl
namespace Pl
open Go.Proofs.YtfplmbmenjdlhaaGreatDoor
theorem aiy(l:List T)(e:Int):-(size l:Int)<=co l e/\co l e<=size l:=by
 have:=BT e l;omega
theorem p6{l:List T}{S:Nat}(h:size l<=S)(e:Int):-(S:Int)<=co l e/\co l e<=S:=by
 have:=aiy l e;omega
theorem Ey:∀{d l:List T},d.Pairwise (λs t=>s.1≠t.1)->(∀t∈d,t.2=co l t.1)->size d<=size l
 |[],_,_,_=>Nat.zero_le _
 |t :: d,l,hp,hc=>by
  have h1:=BT t.1 l;have h2:=hc t (by simp);rw[List.pairwise_cons]at hp
  have h3:=Ey (l:=out t.1 l) hp.2 λu hu=>by
   rw[VM,if_neg λx=>hp.1 u hu x.symm];exact hc u (by simp[hu])
  rw[size_cons];omega
structure Part(l:List T)(left:Int->Bool)(done:List T):Prop where
 aiq:done.Pairwise (λs t=>s.1≠t.1)
 Zc:∀t∈done,t.2=co l t.1
 gone:∀t∈done,left t.1=false
 all:∀e,left e=false->co done e=co l e
 yf:∀t∈done,∃u∈l,u.1=t.1
theorem Part.start{l:List T}{left:Int->Bool}(h:∀e,left e=false->co l e=0):Part l left []:=
 ⟨List.Pairwise.nil,by simp,by simp,λe he=>by rw[gM,h e he],by simp⟩
theorem Part.step{l done:List T}{left Ow:Int->Bool}{x c:Int}(h:Part l left done)(hx:left x=true)(hl:∀e,Ow e=(left e && !decide (e=x)))(hc:c=co l x)(hk:∃u∈l,u.1=x):Part l Ow (done++[(x,c)]):=by
 have hne:∀t∈done,t.1≠x:=λt ht e=>by
  have:=h.gone t ht;rw[e,hx]at this;cases this
 refine⟨?_,λt ht=>?_,λt ht=>?_,λe he=>?_,λt ht=>?_⟩
 · rw[List.pairwise_append]
   exact⟨h.aiq,List.pairwise_singleton _ _,λs hs t ht=>by rw[jB]at ht;subst ht;exact hne s hs⟩
 · rcases jx.1 ht with ht|ht
   · exact h.Zc t ht
   rw[jB]at ht;subst ht;exact hc
 · rw[hl]
   rcases jx.1 ht with ht|ht
   · rw[h.gone t ht];rfl
   rw[jB]at ht;subst ht;simp
 · rw[hl]at he
   rw[gN,cO,gM];by_cases hex:e=x
   · subst hex
     have:co done e=0:=yq hne
     rw[this,if_pos rfl,hc];omega
   rw[if_neg λz=>hex z.symm,h.all e (by simpa[hex]using he)];omega
 rcases jx.1 ht with ht|ht
 · exact h.yf t ht
 rw[jB]at ht;subst ht;exact hk
theorem Part.size_le{l done:List T}{left:Int->Bool}(h:Part l left done):size done<=size l:=Ey h.aiq h.Zc
theorem Part.aiG{l done:List T}{left:Int->Bool}(h:Part l left done)(hl:∀e,left e=false)(e:Int):co done e=co l e:=h.all e (hl e)
theorem Ol(a b c:List T):mul (a++b) c=mul a c++mul b c:=by simp[mul]
theorem xH(x c:Int)(d:List T)(f g:Int):mul [(x,c)] (d++[(f,g)])=mul [(x,c)] d++[(x+f,c*g)]:=by simp[mul]
theorem Jn{a a' b b':List T}(ha:∀t∈a,∃u∈a',u.1=t.1)(hb:∀t∈b,∃u∈b',u.1=t.1):∀t∈mul a b,∃u∈mul a' b',u.1=t.1:=by
 intro t ht;simp only[mul,List.mem_flatMap,jv]at ht ⊢;obtain⟨s,hs,u,hu,rfl⟩:=ht;obtain⟨s',R7,e1⟩:=ha s hs;obtain⟨u',Yu,e2⟩:=hb u hu;exact⟨_,⟨s',R7,u',Yu,rfl⟩,by show s'.1+u'.1=s.1+u.1;omega⟩
theorem Ks{a a' b b':List T}(ha:∀t∈a,∃u∈a',u.1=t.1)(hb:∀t∈b,∃u∈b',u.1=t.1):∀t∈a++b,∃u∈a'++b',u.1=t.1:=by
 intro t ht
 rcases jx.1 ht with ht|ht
 · obtain⟨u,hu,e⟩:=ha t ht
   exact⟨u,jx.2 (.inl hu),e⟩
 obtain⟨u,hu,e⟩:=hb t ht;exact⟨u,jx.2 (.inr hu),e⟩
theorem qx(a:List T):∀t∈a,∃u∈a,u.1=t.1:=λt ht=>⟨t,ht,rfl⟩
theorem Th{la lb done d2:List T}{x c:Int}{f g:Int}(h1:size (done++[(x,c)])<=size la)(h2:size (d2++[(f,g)])<=size lb):size (mul done lb++mul [(x,c)] (d2++[(f,g)]))<=size la*size lb:=by
 rw[fp,BU,BU];rw[fp]at h1;have e1:size done*size lb+size [(x,c)]*size (d2++[(f,g)])<=size done*size lb+size [(x,c)]*size lb:=Nat.add_le_add_left (Nat.mul_le_mul_left _ h2) _
 have e2:size done*size lb+size [(x,c)]*size lb=(size done+size [(x,c)])*size lb:=by rw[Nat.add_mul]
 have e3:(size done+size [(x,c)])*size lb<=size la*size lb:=Nat.mul_le_mul_right _ h1;omega
theorem XV{lb done d2:List T}{x c:Int}(h:∀e,co d2 e=co lb e)(e:Int):co (mul done lb++mul [(x,c)] d2) e=co (mul (done++[(x,c)]) lb) e:=by
 rw[Ol,gN,gN];have:co (mul [(x,c)] d2) e=co (mul [(x,c)] lb) e:=mul_congr (λ_=>rfl) h _;rw[this]
end Pl
namespace Go.Proofs.YtfplmbmenjdlhaaGreatDoor.Kn
open List (cons_append flatMap_cons nodup_cons range)
variable {m n p q:Nat}
abbrev Qd:=Nat×Nat×Nat×Nat
def qd(x:Cr):Qd:=(x.a.toNat,x.b.toNat,x.c.toNat,x.d.toNat)
abbrev Rt:=List Nat×Nat
def rt(r:List Nat)(a:Nat):Nat:=r.getD a 0
def un(s:Rt)(a b:Nat):Rt:=if rt s.1 a=rt s.1 b then s else(s.1.map λz=>if z=rt s.1 a then rt s.1 b else z,s.2+1)
def unA(s:Rt)(x:Qd)(bit:Nat):Rt:=if bit=0 then un (un s x.1 x.2.1) x.2.2.1 x.2.2.2 else un (un s x.2.1 x.2.2.1) x.2.2.2 x.1
def ij:List Qd->Rt->Nat->Rt
 |[],s,_=>s
 |x :: X,s,st=>ij X (unA s x (st%2)) (st / 2)
def pop:Nat->Nat->Nat
 |0,_=>0
 |n+1,st=>st%2+pop n (st / 2)
def Iy{α:Type}(l:List α)(f:α->Int):Int:=l.foldr (λa s=>f a+s) 0
theorem SX{α:Type}(l m:List α)(f:α->Int):Iy (l++m) f=Iy l f+Iy m f:=by
 induction l with
 |nil=>simp[Iy]
 |cons a l ih=>simp only[Iy,cons_append,List.foldr_cons]at ih ⊢;rw[ih];omega
noncomputable def agw (a b:Nat) (l:List Nat):List Nat:=@List.rec Nat (λ_=>List Nat) [] (λz _ ih=>(bif Nat.beq z a then b else z) :: ih) l
noncomputable def ail (l:List Nat):Nat->Nat:=@List.rec Nat (λ_=>Nat->Nat) (λ_=>0) (λz _ ih k=>@Nat.rec (λ_=>Nat) z (λm _=>ih m) k) l
noncomputable def unR (r:List Nat) (m:Nat) (a b:Nat) (K:List Nat->Nat->Nat):Nat:=
 (λra rb=>bif Nat.beq ra rb then K r m else K (agw ra rb r) (m+1)) (ail r a) (ail r b)
noncomputable def agd (X:List Qd):List Nat->Nat->Nat:=
 @List.rec _ (λ_=>List Nat->Nat->Nat) (λ_ c=>2 ^ (16*c)) (λx _ ih r c=>
  Nat.add (unR r c x.1 x.2.1 λr c=>unR r c x.2.2.1 x.2.2.2 λr c=>ih r c) (unR r (c+25) x.2.1 x.2.2.1 λr c=>unR r c x.2.2.2 x.1 λr c=>ih r c)) X
def code(k:Nat×Nat):Nat:=25*k.1+k.2
def start(n:Nat):Rt:=(range (2*n+1),0)
noncomputable def hR (X:List Cr):Nat:=agd (X.map qd) (range (2*X.length+1)) 0
abbrev Ve(α:Type):=α->Bool
def dp{α:Type}(u v:Ve α):Ve α:=λx=>xor (u x) (v x)
def vz{α:Type}:Ve α:=λ_=>false
section
variable {α β:Type}
theorem iY(u:Ve α):dp u u=vz:=by funext x;simp[dp,vz]
theorem tj(u:Ve α):dp u vz=u:=by funext x;simp[dp,vz]
theorem FJ(u:Ve α):dp vz u=u:=by funext x;simp[dp,vz]
theorem Ep(u v:Ve α):dp u v=dp v u:=by funext x;simp[dp,Bool.xor_comm]
theorem fF(u v w:Ve α):dp (dp u v) w=dp u (dp v w):=by funext x;simp[dp]
theorem kq(u v:Ve α):dp u (dp u v)=v:=by rw[<-fF,iY,FJ]
inductive gP(l:List (Ve α)):Ve α->Prop
 |z:gP l vz
 |a {v u:Ve α}:v∈l->gP l u->gP l (dp v u)
theorem gP.mem{l:List (Ve α)}{v:Ve α}(h:v∈l):gP l v:=by have:=gP.a h (gP.z (l:=l));rwa [tj]at this
theorem gP.add{l:List (Ve α)}{u v:Ve α}(h:gP l u)(k:gP l v):gP l (dp u v):=by
 induction h with
 |z=>rwa [FJ]
 |a hm _ ih=>rw[fF];exact .a hm ih
theorem gP.sub{l l':List (Ve α)}(h:∀v∈l,gP l' v){u:Ve α}(k:gP l u):gP l' u:=by
 induction k with
 |z=>exact .z
 |a hm _ ih=>exact(h _ hm).add ih
theorem gP.mono{l l':List (Ve α)}(h:∀v∈l,v∈l'){u:Ve α}(k:gP l u):gP l' u:=k.sub λv hv=>.mem (h v hv)
theorem ab7{u:Ve α}(h:gP [] u):u=vz:=by
 cases h with
 |z=>rfl
 |a hm _=>cases hm
theorem xg{v:Ve α}{l:List (Ve α)}{u:Ve α}:gP (v :: l) u↔gP l u\/gP l (dp v u):=by
 constructor
 · intro h
   induction h with
   |z=>exact .inl .z
   |@a x y hm _ ih=>
    rcases jy.1 hm with rfl|hm
    · rcases ih with k|k
      · exact .inr (by rw[kq];exact k)
      exact .inl k
    rcases ih with k|k
    · exact .inl (.a hm k)
    refine .inr ?_
    rw[<-fF,Ep v x,fF];exact .a hm k
 rintro(h|h)
 · exact h.mono λv hv=>by simp[hv]
 have:=(gP.mem (l:=v :: l) (v:=v) (by simp)).add (h.mono (l':=v :: l) λv hv=>by simp[hv])
 rwa [kq]at this
inductive Rk:List (Ve α)->Nat->Prop
 |nil:Rk [] 0
 |in_ {v:Ve α} {l:List (Ve α)} {n:Nat}:gP l v->Rk l n->Rk (v :: l) n
 |out {v:Ve α} {l:List (Ve α)} {n:Nat}:¬gP l v->Rk l n->Rk (v :: l) (n+1)
theorem Rk.ex:∀l:List (Ve α),∃n,Rk l n
 |[]=>⟨0,.nil⟩
 |v :: l=>by
  obtain⟨n,h⟩:=Rk.ex l;by_cases k:gP l v
  · exact⟨n,.in_ k h⟩
  exact⟨n+1,.out k h⟩
theorem Rk.all{l:List (Ve α)}(h:Rk l n):∃S:List (Ve α),S.Nodup/\S.length=2 ^ n/\∀u,u∈S↔gP l u:=by
 induction h with
 |nil=>exact⟨[vz],by simp,rfl,λu=>⟨λh=>by rw[jB.1 h];exact .z,λh=>by rw[ab7 h];simp⟩⟩
 |@in_ v l n hs _ ih=>
  obtain⟨S,h1,h2,h3⟩:=ih;refine⟨S,h1,h2,λu=>?_⟩;rw[h3,xg];refine⟨.inl,λh=>h.elim id λh=>?_⟩;have:=hs.add h
  rwa [kq]at this
 |@out v l n hs _ ih=>
  obtain⟨S,h1,h2,h3⟩:=ih;refine⟨S++S.map (dp v),?_,?_,λu=>?_⟩
  · rw[jU]
    refine⟨h1,?_,λa ha b hb e=>?_⟩
    · rw[List.Nodup,List.pairwise_map]
      exact h1.imp λhne e=>hne (by have:=congrArg (dp v) e;rwa [kq,kq]at this)
    obtain⟨c,hc,rfl⟩:=jv.1 hb;subst e
    refine hs ?_
    have:=((h3 _).1 ha).add ((h3 _).1 hc)
    rwa [fF,iY,tj]at this
  · rw[ju,jA,h2,Nat.pow_succ];omega
  rw[jx,jv,xg,h3]
  refine or_congr Iff.rfl ⟨?_,λh=>⟨_,(h3 _).2 h,kq _ _⟩⟩
  rintro⟨c,hc,rfl⟩
  rw[kq];exact(h3 _).1 hc
theorem tN{γ:Type}:∀{l m:List γ},l.Nodup->(∀x∈l,x∈m)->l.length<=m.length
 |[],_,_,_=>Nat.zero_le _
 |a :: l,m,hn,hs=>by
  obtain⟨m1,m2,rfl⟩:=List.append_of_mem (hs a (by simp));rw[nodup_cons]at hn
  have:=tN (m:=m1++m2) hn.2 λx hx=>by
   have:=hs x (by simp[hx]);simp only[jx,jy]at this ⊢
   rcases this with h|rfl|h
   · exact .inl h
   · exact absurd hx hn.1
   exact .inr h
  simp only[ju,jE]at this ⊢;omega
theorem acu{a b:Nat}(h:2 ^ a<=2 ^ b):a<=b:=(Nat.pow_le_pow_iff_right (by omega)).1 h
theorem Rk.mono{l l':List (Ve α)}(h:Rk l n)(k:Rk l' m)(hs:∀v∈l,gP l' v):n<=m:=by
 obtain⟨S,a1,a2,a3⟩:=h.all;obtain⟨S',_,b2,b3⟩:=k.all
 refine acu ?_
 rw[<-a2,<-b2]
 exact tN a1 λx hx=>(b3 x).2 (((a3 x).1 hx).sub hs)
theorem Rk.uniq{l l':List (Ve α)}(h:Rk l n)(k:Rk l' m)(h1:∀v∈l,gP l' v)(h2:∀v∈l',gP l v):n=m:=
 Nat.le_antisymm (h.mono k h1) (k.mono h h2)
theorem Rk.one{l:List (Ve α)}(h:Rk l n)(k:Rk l m):n=m:=h.uniq k (λ_ hv=>.mem hv) λ_ hv=>.mem hv
def Zv(T:Ve α->Ve β):Prop:=∀u v,T (dp u v)=dp (T u) (T v)
theorem Zv.z{T:Ve α->Ve β}(h:Zv T):T vz=vz:=by
 have:=h vz vz
 rw[iY,iY]at this;exact this
theorem gP.map{T:Ve α->Ve β}(h:Zv T){l:List (Ve α)}{u:Ve α}(k:gP l u):gP (l.map T) (T u):=by
 induction k with
 |z=>rw[h.z];exact .z
 |a hm _ ih=>rw[h];exact .a (jv.2 ⟨_,hm,rfl⟩) ih
theorem gP.aga{T:Ve α->Ve β}(h:Zv T){l:List (Ve α)}{x:Ve β}(k:gP (l.map T) x):∃u,gP l u/\T u=x:=by
 induction k with
 |z=>exact⟨vz,.z,h.z⟩
 |a hm _ ih=>
  obtain⟨v,hv,rfl⟩:=jv.1 hm;obtain⟨u,hu,rfl⟩:=ih;exact⟨dp v u,.a hv hu,h _ _⟩
theorem Rk.map{T:Ve α->Ve β}(hT:Zv T){l:List (Ve α)}{n:Nat}(h:Rk l n)(hi:∀u,gP l u->T u=vz->u=vz):Rk (l.map T) n:=by
 induction h with
 |nil=>exact .nil
 |in_ hs _ ih=>exact .in_ (hs.map hT) (ih λu hu=>hi u (xg.2 (.inl hu)))
 |@out v l n hs _ ih=>
  refine .out (λh=>hs ?_) (ih λu hu=>hi u (xg.2 (.inl hu)))
  obtain⟨u,hu,e⟩:=h.aga hT;have:dp v u=vz:=hi _ (xg.2 (.inr (by rw[kq];exact hu))) (by rw[hT,e,iY])
  have e2:v=u:=by rw[<-kq u v,Ep u v,this,tj]
  rw[e2];exact hu
end
def par{α:Type}(l:List α)(p:α->Bool):Bool:=l.foldr (λx b=>xor (p x) b) false
section
variable {α:Type}
theorem F5(p:α->Bool):par [] p=false:=rfl
theorem dy(a:α)(l:List α)(p:α->Bool):par (a :: l) p=xor (p a) (par l p):=rfl
theorem uL(p q:α->Bool):∀l:List α,par l (λx=>xor (p x) (q x))=xor (par l p) (par l q)
 |[]=>rfl
 |a :: l=>by
  rw[dy,dy,dy,uL p q l]
  cases p a<;>cases q a<;>cases par l p<;>cases par l q<;>rfl
theorem gJ{p:α->Bool}:∀{l:List α},(∀x∈l,p x=false)->par l p=false
 |[],_=>rfl
 |a :: l,h=>by rw[dy,h a (by simp),gJ λx hx=>h x (by simp[hx])];rfl
theorem dW{p q:α->Bool}:∀{l:List α},(∀x∈l,p x=q x)->par l p=par l q
 |[],_=>rfl
 |a :: l,h=>by rw[dy,dy,h a (by simp),dW λx hx=>h x (by simp[hx])]
theorem rJ{p:α->Bool}:∀{l:List α},l.Nodup->∀{y:α},y∈l->(∀x∈l,x≠y->p x=false)->par l p=p y
 |[],_,_,hy,_=>by cases hy
 |a :: l,hn,y,hy,h=>by
  rw[nodup_cons]at hn;rw[dy]
  rcases jy.1 hy with rfl|hy
  · rw[gJ λx hx=>h x (by simp[hx]) λe=>hn.1 (e ▸ hx)];simp
  rw[h a (by simp) λe=>hn.1 (e ▸ hy),rJ hn.2 hy λx hx=>h x (by simp[hx])];simp
theorem gP.sum{l:List (Ve α)}(c:α->Bool)(f:α->Ve α):∀{L:List α},(∀y∈L,c y=true->gP l (f y))->gP l (λx=>par L λy=>c y&&f y x)
 |[],_=>gP.z
 |b :: L,h=>by
  have k:=gP.sum c f (L:=L) λy hy=>h y (by simp[hy])
  cases e:c b
  · have:(λx=>par (b :: L) λy=>c y&&f y x)=λx=>par L λy=>c y&&f y x:=by funext x;rw[dy,e];simp
    rw[this];exact k
  have:(λx=>par (b :: L) λy=>c y&&f y x)=dp (f b) λx=>par L λy=>c y&&f y x:=by funext x;rw[dy,e];simp[dp]
  rw[this];exact(h b (by simp) e).add k
def Dm(U:List α)(M:α->α->Bool)(v:Ve α):Ve α:=λx=>par U λy=>v y&&M y x
theorem Dm.WY(U:List α)(M:α->α->Bool):Zv (Dm U M):=λu v=>by
 funext x
 show par U _=xor (par U _) (par U _)
 rw[<-uL]
 exact dW λy _=>by simp[dp,Bool.and_xor_distrib_right]
theorem Dm.sum{U:List α}{M:α->α->Bool}(c:α->Bool)(f:α->Ve α):∀L:List α,Dm U M (λx=>par L λy=>c y&&f y x)=λx=>par L λy=>c y&&Dm U M (f y) x
 |[]=>(Dm.WY U M).z
 |a :: L=>by
  have e1:(λx=>par (a :: L) λy=>c y&&f y x)=dp (λx=>c a&&f a x) λx=>par L λy=>c y&&f y x:=rfl
  rw[e1,Dm.WY,Dm.sum c f L]
  have e2:Dm U M (λx=>c a&&f a x)=λx=>c a&&Dm U M (f a) x:=by
   cases c a
   · exact(Dm.WY U M).z
   simp
  rw[e2];rfl
structure uv(U:List α)(M:α->α->Bool)(κ:α->Nat)(φ ψ:α->α){γ:Type}(g:α->γ)(s:γ->γ):Prop where
 nd:U.Nodup
 sup:∀y∈U,∀x,M y x=true->x∈U
 dd:∀y∈U,Dm U M (M y)=vz
 J5:∀y∈U,∀x,M y x=true->g x=s (g y)
 acb:∀i j,s i=s j->i=j
 hk:∀x∈U,κ x=0\/κ x=1\/κ x=2
 hp:∀p∈U,κ p=1->φ p∈U/\κ (φ p)=2/\ψ (φ p)=p
 hq:∀q∈U,κ q=2->ψ q∈U/\κ (ψ q)=1/\φ (ψ q)=q
 hM:∀p∈U,κ p=1->∀q∈U,κ q=2->(M p q=true↔q=φ p)
def Ov(U:List α)(M:α->α->Bool)(κ:α->Nat)(φ:α->α)(y x:α):Bool:=
 decide (κ x=0)&&xor (M y x) (par U λp=>(decide (κ p=1)&&M y (φ p))&&M p x)
theorem gP.wR{l:List (Ve α)}{x:α}(h:∀v∈l,v x=false){u:Ve α}(k:gP l u):u x=false:=by
 induction k with
 |z=>rfl
 |a hm _ ih=>show xor _ _=false;rw[h _ hm,ih];rfl
section
variable {U:List α} {M:α->α->Bool} {κ:α->Nat} {φ ψ:α->α} {γ:Type} {g:α->γ} {s:γ->γ}
def bp(U:List α)(M:α->α->Bool)(κ:α->Nat)(φ:α->α)(y:α):Ve α:=dp (M y) λx=>par U λp=>(decide (κ p=1)&&M y (φ p))&&M p x
theorem uv.self(h:uv U M κ φ ψ g s){p:α}(hp:p∈U)(k:κ p=1):M p (φ p)=true:=(h.hM p hp k _ (h.hp p hp k).1 (h.hp p hp k).2.1).2 rfl
theorem uv.same(h:uv U M κ φ ψ g s){y p:α}(hy:y∈U)(hp:p∈U)(k:κ p=1)(e:M y (φ p)=true):g p=g y:=
 h.acb _ _ (by rw[<-h.J5 p hp _ (h.self hp k),<-h.J5 y hy _ e])
theorem uv.bp2(h:uv U M κ φ ψ g s){b q:α}(hq:q∈U)(k:κ q=2):bp U M κ φ b q=false:=by
 obtain⟨h1,h2,h3⟩:=h.hq q hq k
 show xor (M b q) (par U λp=>(decide (κ p=1)&&M b (φ p))&&M p q)=false
 rw[rJ h.nd h1 λx hx hne=>by
  by_cases e:κ x=1
  · by_cases e2:M x q=true
    · exact absurd (by rw[(h.hM x hx e q hq k).1 e2,(h.hp x hx e).2.2]) hne
    simp[e2]
  simp[e]]
 have:=h.self h1 h2;rw[h3]at this
 rw[h3,this];simp[h2]
theorem uv.bpd(h:uv U M κ φ ψ g s){b:α}(hb:b∈U):Dm U M (bp U M κ φ b)=vz:=by
 unfold bp;rw[Dm.WY,h.dd b hb,FJ,Dm.sum];funext x
 exact gJ λp hp=>by rw[h.dd p hp];simp[vz]
theorem uv.bps(h:uv U M κ φ ψ g s){b:α}(hb:b∈U){x:α}(hx:¬x∈U):bp U M κ φ b x=false:=by
 show xor (M b x) (par U _)=false
 rw[gJ λp hp=>?_]
 · cases e:M b x
   · rfl
   exact absurd (h.sup b hb x e) hx
 cases e:M p x
 · simp
 exact absurd (h.sup p hp x e) hx
theorem uv.ams(h:uv U M κ φ ψ g s)[DecidableEq γ](i:γ){n0:Nat}(hn:Rk ((U.filter λx=>decide (g x=i)).map M) n)
 (h0:Rk ((U.filter λx=>decide (g x=i/\κ x=0)).map (Ov U M κ φ)) n0):n=(U.filter λx=>decide (g x=i/\κ x=1)).length+n0:=by
 have mf:∀{p:α->Prop} [DecidablePred p] {x:α},x∈U.filter (λx=>decide (p x))↔x∈U/\p x:=λ{p _ x}=>by rw[jC,jt]
 obtain⟨m,hm⟩:=Rk.ex ((U.filter λx=>decide (g x=i/\κ x=0)).map (bp U M κ φ))
 have e0:m=n0:=by
  have hT:Zv λu:Ve α=>λx=>decide (κ x=0)&&u x:=λu v=>by funext x;simp[dp,Bool.and_xor_distrib_left]
  have k:=hm.map hT λu hu hz=>by
   have f1:∀x,¬x∈U->u x=false:=λx hx=>hu.wR λv hv=>by
    obtain⟨b,hb,rfl⟩:=jv.1 hv;exact h.bps (mf.1 hb).1 hx
   have f2:∀x∈U,κ x=2->u x=false:=λx hx k=>hu.wR λv hv=>by
    obtain⟨b,hb,rfl⟩:=jv.1 hv;exact h.bp2 hx k
   have f3:Dm U M u=vz:=by
    have:∀{u:Ve α},gP ((U.filter λx=>decide (g x=i/\κ x=0)).map (bp U M κ φ)) u->Dm U M u=vz:=λ{u} k=>by
     induction k with
     |z=>exact(Dm.WY U M).z
     |a hm _ ih=>
      obtain⟨b,hb,rfl⟩:=jv.1 hm;rw[Dm.WY,ih,h.bpd (mf.1 hb).1,tj]
    exact this hu
   have f4:∀x,κ x=0->u x=false:=λx hx=>by have:=congrFun hz x;simpa[hx,vz]using this
   funext x;by_cases hx:x∈U;rotate_left
   · exact f1 x hx
   rcases h.hk x hx with c|c|c
   · exact f4 x c
   · have k:=congrFun f3 (φ x)
     have:Dm U M u (φ x)=u x:=by
      unfold Dm;rw[rJ h.nd hx λy hy hne=>?_,h.self hx c]
      · simp
      rcases h.hk y hy with d|d|d
      · rw[f4 y d];rfl
      · cases e:M y (φ x)
        · simp
        have:=(h.hM y hy d _ (h.hp x hx c).1 (h.hp x hx c).2.1).1 e;exact absurd (by rw[<-(h.hp y hy d).2.2,<-this,(h.hp x hx c).2.2]) hne
      rw[f2 y hy d];rfl
     rw[this]at k;exact k
   exact f2 x hx c
  rw[List.map_map]at k;exact k.one h0
 have step:∀Pl:List α,Pl.Nodup->(∀p∈Pl,p∈U/\κ p=1)->Rk (Pl.map M++(U.filter λx=>decide (g x=i/\κ x=0)).map (bp U M κ φ)) (Pl.length+m):=by
  intro Pl
  induction Pl with
  |nil=>intro _ _;rw[List.map_nil,List.nil_append,List.length_nil,Nat.zero_add];exact hm
  |cons p Pl ih=>
   intro Gy hP;rw[nodup_cons]at Gy;rw[List.map_cons,cons_append,jE,Nat.add_right_comm]
   refine .out (λk=>?_) (ih Gy.2 λx hx=>hP x (by simp[hx]))
   obtain⟨hp,hk⟩:=hP p (by simp)
   have:=k.wR (x:=φ p) λv hv=>by
    rcases jx.1 hv with hv|hv
    · obtain⟨q,hq,rfl⟩:=jv.1 hv
      obtain⟨hqU,hqk⟩:=hP q (by simp[hq]);cases e:M q (φ p)
      · rfl
      have:=(h.hM q hqU hqk _ (h.hp p hp hk).1 (h.hp p hp hk).2.1).1 e;exact absurd (by rw[<-(h.hp p hp hk).2.2,this,(h.hp q hqU hqk).2.2];exact hq) Gy.1
    obtain⟨b,hb,rfl⟩:=jv.1 hv;exact h.bp2 (h.hp p hp hk).1 (h.hp p hp hk).2.1
   rw[h.self hp hk]at this;cases this
 have k:=step (U.filter λx=>decide (g x=i/\κ x=1)) (h.nd.filter _) λp hp=>⟨(mf.1 hp).1,(mf.1 hp).2.2⟩
 rw[e0]at k
 have agi:∀{L:List (Ve α)},(∀p∈U,g p=i->κ p=1->gP L (M p))->∀{b:α},b∈U->g b=i->gP L (λx=>par U λp=>(decide (κ p=1)&&M b (φ p))&&M p x):=λ{L} hL {b} hb hg=>
  gP.sum (λp=>decide (κ p=1)&&M b (φ p)) M λp hp e=>by
   simp only[jp,jt]at e;exact hL p hp ((h.same hb hp e.1 e.2).trans hg) e.1
 refine hn.uniq k ?_ ?_
 · have hP:∀p∈U,g p=i->κ p=1->gP ((U.filter λx=>decide (g x=i/\κ x=1)).map M++(U.filter λx=>decide (g x=i/\κ x=0)).map (bp U M κ φ)) (M p):=λp hp hg hk=>
    .mem (jx.2 (.inl (jv.2 ⟨p,mf.2 ⟨hp,hg,hk⟩,rfl⟩)))
   have h01:∀y∈U,g y=i->κ y≠2->gP ((U.filter λx=>decide (g x=i/\κ x=1)).map M++(U.filter λx=>decide (g x=i/\κ x=0)).map (bp U M κ φ)) (M y):=λy hy hg hk=>by
    rcases h.hk y hy with c|c|c
    · have e:M y=dp (bp U M κ φ y) λx=>par U λp=>(decide (κ p=1)&&M y (φ p))&&M p x:=by unfold bp;rw[fF,iY,tj]
      rw[e];exact(gP.mem (jx.2 (.inr (jv.2 ⟨y,mf.2 ⟨hy,hg,c⟩,rfl⟩)))).add (agi hP hy hg)
    · exact hP y hy hg c
    exact absurd c hk
   intro v hv;obtain⟨y,hy,rfl⟩:=jv.1 hv;obtain⟨hyU,hyg⟩:=mf.1 hy;by_cases c:κ y=2;rotate_left
   · exact h01 y hyU hyg c
   obtain⟨h1,h2,h3⟩:=h.hq y hyU c;have hd:=h.dd _ h1;have UZ:=h.self h1 h2;rw[h3]at UZ
   have e:M y=λx=>par U λz=>(M (ψ y) z && !decide (κ z=2))&&M z x:=by
    funext x;have k1:=congrFun hd x
    have k2:par U (λz=>M (ψ y) z&&M z x)=xor (par U λz=>(M (ψ y) z&&decide (κ z=2))&&M z x) (par U λz=>(M (ψ y) z && !decide (κ z=2))&&M z x):=by
     rw[<-uL]
     exact dW λz _=>by cases M (ψ y) z<;>cases M z x<;>cases decide (κ z=2)<;>rfl
    have k3:par U (λz=>(M (ψ y) z&&decide (κ z=2))&&M z x)=M y x:=by
     rw[rJ h.nd hyU λz hz hne=>?_,UZ]
     · simp[c]
     by_cases e2:κ z=2
     · cases e3:M (ψ y) z
       · simp
       exact absurd (((h.hM _ h1 h2 z hz e2).1 e3).trans h3) hne
     simp[e2]
    have k4:xor (M y x) (par U λz=>(M (ψ y) z && !decide (κ z=2))&&M z x)=false:=by rw[<-k3,<-k2];exact k1
    cases e4:M y x<;>cases e5:par U (λz=>(M (ψ y) z && !decide (κ z=2))&&M z x)<;>simp[e4,e5]at k4 ⊢
   rw[e]
   exact gP.sum (λz=>M (ψ y) z && !decide (κ z=2)) M λz hz e2=>by
    simp only[jp,Bool.not_eq_true',jF]at e2
    refine h01 z hz ?_ e2.2
    rw[h.J5 _ h1 z e2.1,<-h.J5 _ h1 y UZ,hyg]
 intro v hv
 have hA:∀p∈U,g p=i->gP ((U.filter λx=>decide (g x=i)).map M) (M p):=λp hp hg=>.mem (jv.2 ⟨p,mf.2 ⟨hp,hg⟩,rfl⟩)
 rcases jx.1 hv with hv|hv
 · obtain⟨p,hp,rfl⟩:=jv.1 hv
   exact hA p (mf.1 hp).1 (mf.1 hp).2.1
 obtain⟨b,hb,rfl⟩:=jv.1 hv;exact(hA b (mf.1 hb).1 (mf.1 hb).2.1).add (agi (λp hp hg _=>hA p hp hg) (mf.1 hb).1 (mf.1 hb).2.1)
end
end
section
variable {α β:Type}
theorem lu(p:α->Bool):∀l m:List α,par (l++m) p=xor (par l p) (par m p)
 |[],m=>by rw[List.nil_append,F5];simp
 |a :: l,m=>by rw[cons_append,dy,dy,lu p l m,Bool.xor_assoc]
theorem dK(F:α->List β)(p:β->Bool):∀l:List α,par (l.flatMap F) p=par l λx=>par (F x) p
 |[]=>rfl
 |a :: l=>by rw[flatMap_cons,lu,dy,dK F p l]
theorem lS(F:α->β)(p:β->Bool):∀l:List α,par (l.map F) p=par l λx=>p (F x)
 |[]=>rfl
 |a :: l=>by rw[List.map_cons,dy,dy,lS F p l]
def yM(l m:List α):Prop:=∀p:α->Bool,par l p=par m p
theorem yM.refl(l:List α):yM l l:=λ_=>rfl
theorem yM.symm{l m:List α}(h:yM l m):yM m l:=λp=>(h p).symm
theorem yM.trans{l m n:List α}(h:yM l m)(k:yM m n):yM l n:=λp=>(h p).trans (k p)
theorem yM.flat{l m:List α}(h:yM l m)(F:α->List β):yM (l.flatMap F) (m.flatMap F):=λp=>by rw[dK,dK];exact h _
theorem yM.MG{l:List α}{F G:α->List β}(h:∀x∈l,yM (F x) (G x)):yM (l.flatMap F) (l.flatMap G):=λp=>by
 rw[dK,dK];exact dW λx hx=>h x hx p
theorem yM.swap(a b:α):yM [a,b] [b,a]:=λp=>by simp[par,Bool.xor_comm]
theorem yM.two(a:α):yM [a,a] []:=λp=>by simp[par]
end
abbrev Mk:=Nat->Bool
abbrev Rl:=Nat->Nat->Prop
def j6(E:Rl)(f:Mk):Prop:=∀p q,E p q->f p=f q
noncomputable def st (E:Rl) (a:Nat) (f:Mk):Mk:=λq=>f q && !tr (E q a)
noncomputable def TE (E:Rl) (a:Nat) (f:Mk):Mk:=λq=>f q||tr (E q a)
noncomputable def xp (E:Rl) (p:Nat) (f:Mk):List Mk:=if f p then [st E p f]else []
noncomputable def KW (E':Rl) (a c:Nat) (f:Mk):List Mk:=if f a&&f c then [f]else if f a||f c then [st E' a f]else []
noncomputable def Iz (E':Rl) (a c:Nat) (f:Mk):List Mk:=if f a then [st E' a f,st E' c f]else [f]
structure lN(E E':Rl)(a c:Nat):Prop where
 eq:Equivalence E
 ap:¬E a c
 iff:∀x y,E' x y↔qG E a c x y
section
variable {E E':Rl} {a c:Nat}
theorem lN.sub(h:lN E E' a c){x y:Nat}(k:E x y):E' x y:=(h.iff x y).2 (.inl k)
theorem lN.ac(h:lN E E' a c):E' a c:=(h.iff _ _).2 (.inr (.inl ⟨h.eq.refl a,h.eq.refl c⟩))
theorem lN.kW(h:lN E E' a c):Equivalence E':=by
 have:E'=qG E a c:=funext λx=>funext λy=>propext (h.iff x y)
 rw[this];exact fw h.eq a c
theorem lN.sU(h:lN E E' a c)(q:Nat):E' q a↔E q a\/E q c:=by
 rw[h.iff];unfold qG
 constructor
 · rintro(k|⟨k,_⟩|⟨k,_⟩)
   · exact .inl k
   · exact .inl k
   exact .inr k
 rintro(k|k)
 · exact .inl k
 exact .inr (.inr ⟨k,h.eq.refl a⟩)
theorem lN.far(h:lN E E' a c)(hp:¬E' p a)(q:Nat):E' q p↔E q p:=by
 constructor
 · intro k
   rcases (h.iff q p).1 k with k|⟨_,k⟩|⟨_,k⟩
   · exact k
   · exact absurd ((h.sU p).2 (.inr (h.eq.symm k))) hp
   exact absurd ((h.sU p).2 (.inl (h.eq.symm k))) hp
 exact h.sub
theorem lN.fA(h:lN E E' a c){f:Mk}(hf:j6 E' f):j6 E f:=λp q k=>hf p q (h.sub k)
theorem l7{E E':Rl}(h:∀x,E x p↔E' x q)(f:Mk):st E p f=st E' q f:=funext λx=>by unfold st;rw[fj (h x)]
theorem AX(E E':Rl)(p q:Nat)(f:Mk):st E p (st E' q f)=st E' q (st E p f):=funext λx=>by
 unfold st;cases f x<;>cases tr (E x p)<;>cases tr (E' x q)<;>rfl
theorem kA(f:Mk)(h:E q p):st E p f q=false:=by unfold st;rw[bf.2 h];simp
theorem dC(f:Mk)(h:¬E q p):st E p f q=f q:=by unfold st;rw[br.2 h];simp
theorem ab6{E E':Rl}(h:∀x,E x p->E' x q)(f:Mk):st E' q (st E p f)=st E' q f:=funext λx=>by
 by_cases k:E' x q
 · rw[kA _ k,kA _ k]
 rw[dC _ k,dC _ k,dC _ λm=>k (h x m)]
theorem S4(hE:Equivalence E){f:Mk}(hf:j6 E f):j6 E (st E p f):=λx y k=>by
 unfold st;rw[hf x y k,fj (show E x p↔E y p from⟨λm=>hE.trans (hE.symm k) m,λm=>hE.trans k m⟩)]
theorem Cl(hE:Equivalence E){f:Mk}(hf:j6 E f):j6 E (TE E p f):=λx y k=>by
 unfold TE;rw[hf x y k,fj (show E x p↔E y p from⟨λm=>hE.trans (hE.symm k) m,λm=>hE.trans k m⟩)]
theorem I7(hE:Equivalence E)(p:Nat)(f:Mk):TE E p f p=true:=by unfold TE;rw[bf.2 (hE.refl p)];simp
theorem uI{f:Mk}(h:f q=true):TE E p f q=true:=by unfold TE;rw[h];rfl
theorem lN.acL(h:lN E E' a c){f:Mk}(hf:j6 E f):∀g∈KW E' a c f,j6 E' g:=by
 intro g hg;unfold KW at hg
 by_cases ha:f a=true<;>by_cases hc:f c=true<;>simp[ha,hc]at hg
 · subst hg
   intro p q k
   rcases (h.iff p q).1 k with k|⟨k,l⟩|⟨k,l⟩
   · exact hf p q k
   · rw[hf p a k,<-hf c q l,ha,hc]
   rw[hf p c k,<-hf a q l,ha,hc]
 all_goals
  subst hg;intro p q k;by_cases m:E' p a
  · rw[kA _ m,kA _ (h.kW.trans (h.kW.symm k) m)]
  have m2:¬E' q a:=λx=>m (h.kW.trans k x)
  rw[dC _ m,dC _ m2];exact hf p q ((h.far m2 p).1 k)
theorem lN.ab8(h:lN E E' a c){f:Mk}(hf:j6 E' f):∀g∈Iz E a c f,j6 E g:=by
 intro g hg;have hf':=h.fA hf;unfold Iz at hg
 by_cases ha:f a=true<;>simp[ha]at hg
 · rcases hg with rfl|rfl
   · exact S4 h.eq hf'
   exact S4 h.eq hf'
 subst hg;exact hf'
theorem lN.agX(h:lN E E' a c){f:Mk}(hf:j6 E f)(p:Nat):(xp E p f).flatMap (KW E' a c)=(KW E' a c f).flatMap (xp E' p):=by
 by_cases hp:E' p a
 · have s1:st E' a (st E p f)=st E' a f:=ab6 (λx k=>h.kW.trans (h.sub k) hp) f
   have s2:st E' p f=st E' a f:=l7 (λx=>⟨λk=>h.kW.trans k hp,λk=>h.kW.trans k (h.kW.symm hp)⟩) f;have s3:st E' a f p=false:=kA _ hp
   rcases (h.sU p).1 hp with k|k
   · have e:f p=f a:=hf _ _ k
     have g1:st E p f a=false:=kA _ (h.eq.symm k)
     have g2:st E p f c=f c:=dC _ λm=>h.ap (h.eq.symm (h.eq.trans m k))
     unfold xp KW
     cases ha:f a<;>cases hc:f c<;>simp[e,ha,hc,g1,g2,s1,s2,s3]
   have e:f p=f c:=hf _ _ k;have g1:st E p f c=false:=kA _ (h.eq.symm k)
   have g2:st E p f a=f a:=dC _ λm=>h.ap (h.eq.trans m k)
   unfold xp KW
   cases ha:f a<;>cases hc:f c<;>simp[e,ha,hc,g1,g2,s1,s2,s3]
 have g1:st E p f a=f a:=dC _ λm=>hp (h.kW.symm (h.sub m))
 have g2:st E p f c=f c:=dC _ λm=>hp (h.kW.trans (h.kW.symm (h.sub m)) (h.kW.symm h.ac))
 have s1:st E' p f=st E p f:=l7 (λx=>h.far hp x) f;have s2:st E' a f p=f p:=dC _ hp
 have s3:st E' p (st E' a f)=st E' a (st E p f):=by rw[AX,s1]
 unfold xp KW
 cases ha:f a<;>cases hc:f c<;>cases hq:f p<;>simp[ha,hc,hq,g1,g2,s1,s2,s3]
theorem lN.agk(h:lN E E' a c){f:Mk}(hf:j6 E' f)(p:Nat):(xp E' p f).flatMap (Iz E a c)=(Iz E a c f).flatMap (xp E p):=by
 by_cases hp:E' p a;rotate_left
 · have g1:st E' p f a=f a:=dC _ λm=>hp (h.kW.symm m)
   have s1:∀g,st E' p g=st E p g:=λg=>l7 (λx=>h.far hp x) g
   have n1:¬E p a:=λm=>hp (h.sub m)
   have n2:¬E p c:=λm=>hp (h.kW.trans (h.sub m) (h.kW.symm h.ac))
   have v1:st E a f p=f p:=dC _ n1;have v2:st E c f p=f p:=dC _ n2;unfold xp Iz
   cases ha:f a<;>cases hq:f p<;>simp[ha,hq,s1 f ▸ g1,s1,v1,v2,AX E E p]
 have e:f p=f a:=hf _ _ hp;have g1:st E' p f a=false:=kA _ (h.kW.symm hp);have s2:st E' p f=st E' a f:=l7 (λx=>⟨λk=>h.kW.trans k hp,λk=>h.kW.trans k (h.kW.symm hp)⟩) f
 have s4:st E a (st E c f)=st E' a f:=funext λx=>by
  unfold st;rw[fj (h.sU x)]
  by_cases k1:E x a<;>by_cases k2:E x c<;>cases f x<;>simp[bf.2,br.2,k1,k2]
 have s5:st E c (st E a f)=st E' a f:=by rw[AX,s4]
 rcases (h.sU p).1 hp with k|k
 · have k2:¬E p c:=λm=>h.ap (h.eq.trans (h.eq.symm k) m)
   have v1:st E a f p=false:=kA _ k;have v2:st E c f p=f p:=dC _ k2
   have s6:∀g,st E p g=st E a g:=λg=>l7 (λx=>⟨λm=>h.eq.trans m k,λm=>h.eq.trans m (h.eq.symm k)⟩) g
   unfold xp Iz
   cases ha:f a<;>simp[e,ha,s2 ▸ g1,s2,v1,v2,s6,s4]
 have k2:¬E p a:=λm=>h.ap (h.eq.trans (h.eq.symm m) k)
 have v1:st E a f p=f p:=dC _ k2;have v2:st E c f p=false:=kA _ k
 have s6:∀g,st E p g=st E c g:=λg=>l7 (λx=>⟨λm=>h.eq.trans m k,λm=>h.eq.trans m (h.eq.symm k)⟩) g
 unfold xp Iz
 cases ha:f a<;>simp[e,ha,s2 ▸ g1,s2,v1,v2,s6,s5]
end
def BB(E E':Rl)(a c:Nat):Prop:=lN E E' a c\/lN E' E a c
noncomputable def dE (E E':Rl) (a c:Nat) (f:Mk):List Mk:=if tr (E a c)then Iz E' a c f else KW E' a c f
section
variable {E E':Rl} {a c:Nat}
theorem BB.eq(h:BB E E' a c):Equivalence E:=h.elim (·.eq) (·.kW)
theorem lN.dE(h:lN E E' a c)(f:Mk):dE E E' a c f=KW E' a c f:=by unfold Kn.dE;rw[br.2 h.ap];simp
theorem lN.VB(h:lN E' E a c)(f:Mk):Kn.dE E E' a c f=Iz E' a c f:=by unfold Kn.dE;rw[bf.2 h.ac];simp
theorem BB.fA(h:BB E E' a c){f:Mk}(hf:j6 E f):∀g∈dE E E' a c f,j6 E' g:=by
 rcases h with h|h
 · rw[h.dE];exact h.acL hf
 rw[h.VB];exact h.ab8 hf
theorem BB.xp(h:BB E E' a c){f:Mk}(hf:j6 E f)(p:Nat):(Kn.xp E p f).flatMap (dE E E' a c)=(dE E E' a c f).flatMap (Kn.xp E' p):=by
 rcases h with h|h
 · rw[funext h.dE];exact h.agX hf p
 rw[funext h.VB];exact h.agk hf p
theorem af7(hE:Equivalence E){f:Mk}(hf:j6 E f)(h:f p=false):Kn.xp E p (TE E p f)=[f]:=by
 unfold Kn.xp;rw[I7 hE p f,if_pos rfl]
 congr 1
 funext q;unfold st TE;by_cases k:E q p
 · rw[hf _ _ k,h,bf.2 k];rfl
 rw[br.2 k];simp
theorem X1{f:Mk}(hf:j6 E f)(h:f p=true):TE E p f=f:=funext λq=>by
 unfold TE;by_cases k:E q p
 · rw[hf _ _ k,h];rfl
 rw[br.2 k];simp
structure Sqr(E E1 E2 E3:Rl)(a c a' c':Nat):Prop where
 k:BB E E1 a c
 l:BB E E2 a' c'
 kl:BB E1 E3 a' c'
 lk:BB E2 E3 a c
def Comm(E E1 E2 E3:Rl)(a c a' c':Nat)(f:Mk):Prop:=yM ((dE E E1 a c f).flatMap (dE E1 E3 a' c')) ((dE E E2 a' c' f).flatMap (dE E2 E3 a c))
theorem zv{α β γ:Type}(l:List α)(F:α->List β)(G:β->List γ):(l.flatMap F).flatMap G=l.flatMap λx=>(F x).flatMap G:=List.flatMap_assoc
variable {E1 E2 E3:Rl} {a' c':Nat}
theorem SA(h:BB E E1 a c)(h':BB E1 E3 a' c'){f:Mk}(hf:j6 E f)(p:Nat):
 (Kn.xp E p f).flatMap (λx=>(dE E E1 a c x).flatMap (dE E1 E3 a' c'))=((dE E E1 a c f).flatMap (dE E1 E3 a' c')).flatMap (Kn.xp E3 p):=by
 rw[<-zv,h.xp hf,zv,zv]
 have:∀l:List Mk,(∀g∈l,j6 E1 g)->l.flatMap (λx=>(Kn.xp E1 p x).flatMap (dE E1 E3 a' c'))=l.flatMap λx=>(dE E1 E3 a' c' x).flatMap (Kn.xp E3 p):=by
  intro l hl
  induction l with
  |nil=>rfl
  |cons x l ih=>rw[flatMap_cons,flatMap_cons,h'.xp (hl x (by simp)),ih λg hg=>hl g (by simp[hg])]
 exact this _ (h.fA hf)
theorem Sqr.down(h:Sqr E E1 E2 E3 a c a' c'){f:Mk}(hf:j6 E f)(p:Nat)(k:Comm E E1 E2 E3 a c a' c' (TE E p f)):Comm E E1 E2 E3 a c a' c' f:=by
 cases e:f p
 · have hg:=Cl h.k.eq (p:=p) hf
   have h1:=SA h.k h.kl hg p;have h2:=SA h.l h.lk hg p;rw[af7 h.k.eq hf e]at h1 h2;simp only[flatMap_cons,List.flatMap_nil,List.append_nil]at h1 h2;unfold Comm;rw[h1,h2];exact k.flat _
 rwa [X1 hf e]at k
theorem A6(f:Mk)(ha:f a=true)(hc:f c=true):KW E' a c f=[f]:=by unfold KW;simp[ha,hc]
theorem FT(f:Mk)(ha:f a=true):Iz E' a c f=[st E' a f,st E' c f]:=by unfold Iz;simp[ha]
theorem Sq(f:Mk)(ha:f a=true)(hc:f c=true):[st E' a f,st E' c f]=Kn.xp E' a f++Kn.xp E' c f:=by unfold Kn.xp;simp[ha,hc]
theorem NJ(h:lN E1 E a c)(h':BB E1 E3 a' c'){f:Mk}(hf:j6 E f)(ha:f a=true)(hc:f c=true):
 (dE E E1 a c f).flatMap (dE E1 E3 a' c')=(dE E1 E3 a' c' f).flatMap (Kn.xp E3 a)++(dE E1 E3 a' c' f).flatMap (Kn.xp E3 c):=by
 rw[h.VB,FT f ha,Sq f ha hc,List.flatMap_append,h'.xp (h.fA hf),h'.xp (h.fA hf)]
theorem Gj(h:lN E E1 a c){f:Mk}(ha:f a=true)(hc:f c=true):(dE E E1 a c f).flatMap (dE E1 E3 a' c')=dE E1 E3 a' c' f:=by
 rw[h.dE,A6 f ha hc];simp
theorem Sqr.plus(h:Sqr E E1 E2 E3 a c a' c'){f:Mk}(hf:j6 E f)(ha:f a=true)(hc:f c=true)(ha':f a'=true)(hc':f c'=true):Comm E E1 E2 E3 a c a' c' f:=by
 obtain⟨k,l,kl,lk⟩:=h;unfold Comm
 have SM:∀{E E1 E3:Rl} {a c a' c':Nat},lN E1 E a c->lN E1 E3 a' c'->j6 E f->f a=true->f c=true->f a'=true->f c'=true ->
  (dE E E1 a c f).flatMap (dE E1 E3 a' c')=[st E3 a f,st E3 c f]:=λk kl hf ha hc ha' hc'=>by
  rw[NJ k (.inl kl) hf ha hc,kl.dE,A6 f ha' hc',Sq f ha hc];simp
 have MS:∀{E E1 E3:Rl} {a c a' c':Nat},lN E E1 a c->lN E3 E1 a' c'->f a=true->f c=true->f a'=true->f c'=true ->
  (dE E E1 a c f).flatMap (dE E1 E3 a' c')=[st E3 a' f,st E3 c' f]:=λk kl ha hc ha' hc'=>by
  rw[Gj k ha hc,kl.VB,FT f ha']
 have SS:∀{E E1 E3:Rl} {a c a' c':Nat},lN E1 E a c->lN E3 E1 a' c'->j6 E f->f a=true->f c=true->f a'=true->f c'=true ->
  (dE E E1 a c f).flatMap (dE E1 E3 a' c')=(Kn.xp E3 a (st E3 a' f)++Kn.xp E3 a (st E3 c' f))++(Kn.xp E3 c (st E3 a' f)++Kn.xp E3 c (st E3 c' f)):=λk kl hf ha hc ha' hc'=>by
  rw[NJ k (.inr kl) hf ha hc,kl.VB,FT f ha'];simp
 rcases k with k|k<;>rcases kl with kl|kl<;>rcases l with l|l<;>rcases lk with lk|lk
 · rw[Gj k ha hc,Gj l ha' hc',kl.dE,lk.dE,A6 f ha hc,A6 f ha' hc'];exact .refl _
 · exact absurd (kl.sub k.ac) lk.ap
 · exact absurd (k.sub l.ac) kl.ap
 · exact absurd (k.sub l.ac) kl.ap
 · exact absurd (lk.sub l.ac) kl.ap
 · rw[MS k kl ha hc ha' hc',MS l lk ha' hc' ha hc]
   have e1:E1 a c:=k.ac
   have e:∀x y:Nat,(∀z,E3 z x↔E3 z y)->st E3 x f=st E3 y f:=λx y hz=>l7 hz f
   have sy:=@Equivalence.symm _ _ kl.eq;have Ic:=@Equivalence.trans _ _ kl.eq
   rcases (kl.iff a c).1 e1 with m|⟨m1,m2⟩|⟨m1,m2⟩
   · exact absurd m lk.ap
   · rw[e a a' λz=>⟨λq=>Ic q m1,λq=>Ic q (sy m1)⟩,e c c' λz=>⟨λq=>Ic q (sy m2),λq=>Ic q m2⟩];exact .refl _
   rw[e a c' λz=>⟨λq=>Ic q m1,λq=>Ic q (sy m1)⟩,e c a' λz=>⟨λq=>Ic q (sy m2),λq=>Ic q m2⟩];exact .swap _ _
 · rw[MS k kl ha hc ha' hc',SM l lk hf ha' hc' ha hc];exact .refl _
 · exact absurd (l.sub lk.ac) k.ap
 · exact absurd (l.sub k.ac) lk.ap
 · rw[SM k kl hf ha hc ha' hc',MS l lk ha' hc' ha hc];exact .refl _
 · rw[SM k kl hf ha hc ha' hc',SM l lk hf ha' hc' ha hc]
   have e:∀x y:Nat,E3 x y->st E3 x f=st E3 y f:=λx y m=>l7 (λz=>⟨λq=>kl.kW.trans q m,λq=>kl.kW.trans q (kl.kW.symm m)⟩) f
   rw[e a c lk.ac,e a' c' kl.ac];exact(yM.two _).trans (yM.two _).symm
 · exact absurd (lk.sub kl.ac) l.ap
 · exact absurd (k.sub kl.ac) l.ap
 · exact absurd (k.sub kl.ac) l.ap
 · exact absurd (kl.sub lk.ac) k.ap
 rw[SS k kl hf ha hc ha' hc',SS l lk hf ha' hc' ha hc]
 have e:∀x y:Nat,f x=true->f y=true->Kn.xp E3 x (st E3 y f)=Kn.xp E3 y (st E3 x f):=λx y hx hy=>by
  unfold Kn.xp;rw[AX E3 E3 x y];by_cases m:E3 x y
  · rw[kA _ m,kA _ (kl.eq.symm m)]
  rw[dC _ m,dC _ λn=>m (kl.eq.symm n),hx,hy]
 rw[e a a' ha ha',e a c' ha hc',e c a' hc ha',e c c' hc hc'];intro p;simp only[lu]
 cases par (Kn.xp E3 a' (st E3 a f)) p<;>cases par (Kn.xp E3 a' (st E3 c f)) p<;>cases par (Kn.xp E3 c' (st E3 a f)) p<;>cases par (Kn.xp E3 c' (st E3 c f)) p<;>rfl
theorem Sqr.comm(h:Sqr E E1 E2 E3 a c a' c'){f:Mk}(hf:j6 E f):Comm E E1 E2 E3 a c a' c' f:=by
 have hq:=h.k.eq;have c1:=Cl hq (p:=a) hf;have c2:=Cl hq (p:=c) c1;have c3:=Cl hq (p:=a') c2;have c4:=Cl hq (p:=c') c3
 refine h.down hf a (h.down c1 c (h.down c2 a' (h.down c3 c' (h.plus c4 ?_ ?_ ?_ ?_))))
 · exact uI (uI (uI (I7 hq _ _)))
 · exact uI (uI (I7 hq _ _))
 · exact uI (I7 hq _ _)
 exact I7 hq _ _
end
end Go.Proofs.YtfplmbmenjdlhaaGreatDoor.Kn
