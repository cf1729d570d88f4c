/- Words: the ranks gathered in a map; the rows of a group. -/
import Derived.Test.YtfplmbmenjdlhaaGreatDoorV15
namespace Go.Proofs.YtfplmbmenjdlhaaGreatDoor
open Go.RowKit Go.Shelf
open Kn (oV bM Kh Rk rkN pre zY)
open Kn (Cr rE)
variable {E G:List (Nat×Nat)} {bs:List Nat} {U j:Nat} {R:Nat->Nat->Bool} {a:Option Addr} {v:Value} {wd wx:World}
def th(l r:Int×Int->Int)(done:List (Int×Int))(a:Int×Int):Int:=(if a∈done then l a-r a else 0)-(if pre a∈done then r (pre a)else 0)
def nX(l r:Int×Int->Int)(done:List (Int×Int)):Int×Int->Option Value:=λa=>if a∈done\/pre a∈done then some (.int .i64 (th l r done a))else none
theorem TK(l r:Int×Int->Int):nX l r []=λ_=>none:=funext λa=>by simp[nX]
theorem xE(l r:Int×Int->Int)(done:List (Int×Int))(a:Int×Int):(nX l r done a).getD (.int .i64 0)=.int .i64 (th l r done a):=by
 unfold nX;by_cases c:a∈done\/pre a∈done
 · rw[if_pos c];rfl
 rw[if_neg c];unfold th
 rw[if_neg λh=>c (.inl h),if_neg λh=>c (.inr h)];rfl
theorem acs(d:Int×Int):pre d≠d:=λe=>by
 have:=congrArg Prod.fst e
 simp only[pre]at this;omega
theorem acf(d:Int×Int):zY d≠d:=λe=>by
 have:=congrArg Prod.fst e
 simp only[zY]at this;omega
theorem P9(l r:Int×Int->Int){done:List (Int×Int)}{d:Int×Int}(h:d∉done):
 gD (gD (nX l r done) d (some (.int .i64 (th l r done d+(l d-r d))))) (zY d) (some (.int .i64 (th l r done (zY d)-r d)))=nX l r (done++[d]):=funext λa=>by
 have ps:pre (zY d)=d:=Kn.A1 d
 have key:∀a,pre a=d↔a=zY d:=λa=>⟨λe=>by rw[<-e,Kn.NP],λe=>by rw[e,ps]⟩
 unfold gD;by_cases c:a=zY d
 · subst c
   rw[if_pos rfl];unfold nX;rw[if_pos (.inr (by rw[ps];simp))];unfold th;rw[ps,if_neg h]
   have e1:(zY d∈done++[d])↔zY d∈done:=by simp[acf d]
   by_cases c2:zY d∈done
   · rw[if_pos c2,if_pos (e1.2 c2),if_pos (by simp)];simp
   rw[if_neg c2,if_neg λx=>c2 (e1.1 x),if_pos (by simp)];simp
 rw[if_neg c]
 have e2:pre a≠d:=λe=>c ((key a).1 e)
 by_cases c2:a=d
 · subst c2
   rw[if_pos rfl];unfold nX;rw[if_pos (.inl (by simp))];unfold th
   have e1:(pre a∈done++[a])↔pre a∈done:=by simp[acs a]
   have m1:a∈done++[a]:=by simp
   rw[if_neg h,if_pos m1];by_cases c3:pre a∈done
   · rw[if_pos c3,if_pos (e1.2 c3)]
     congr 2;omega
   rw[if_neg c3,if_neg λx=>c3 (e1.1 x)]
   congr 2;omega
 rw[if_neg c2]
 have e1:(a∈done++[d])↔a∈done:=by simp[c2]
 have e3:(pre a∈done++[d])↔pre a∈done:=by simp[e2]
 unfold nX th;simp only[e1,e3]
theorem FO{l r:Int×Int->Int}{K:Int}(h:∀d,(0<=l d/\l d<=K)/\0<=r d/\r d<=K)(done:List (Int×Int))(a:Int×Int):-(2*K)<=th l r done a/\th l r done a<=2*K:=by
 unfold th;have h1:=h a;have h2:=h (pre a)
 split<;>split<;>omega
theorem dx.size_le{α:Type}[DecidableEq α]{K:TypeId}{mk:α->Value}{ok:α->Prop}{W:World}{mb n:Nat}{f:α->Option Value}{ks:List α}(h:dx K mk ok W mb n f ks){T e:TypeId}(ul:Tryz.prog.underlying T=some (.map K e)):ks.length<=n:=by
 obtain⟨D,hown,hd⟩:=h;have h1:=hown.len ul 0;obtain⟨es,clock,hb,F,hs,hD⟩:=hown
 have h2:(Builtin.len_ #[T] 0 #[.map (some mb)]).run Tryz.prog W=.ok (.int .i64 (es.size:Nat)) W:=by
  simp[Builtin.len_,run_underlying ul,MapKept.run_getObj_map hb,Result.andThen];rfl
 rw[h2]at h1;have:=Result.ok.inj h1;have e1:=(Value.int.inj this.1).2;rw[hd.size]at e1;omega
structure Rw(wd wx:World)(U:Nat)(R:Nat->Nat->Bool)(v:Value)(bs:List Nat)(j:Nat):Prop where
 new:New wd wx
 own:wx.ownsRow wd.heap.size 86 1 v j (bs.map λb=>.map (some b))
 len:bs.length=j
 nd:bs.Nodup
 lb:∀b∈bs,wd.heap.size<=b
 row:∀i b,bs[i]?=some b->eV U wx b (R i)
theorem Rw.start(wd:World)(U:Nat)(R:Nat->Nat->Bool):Rw wd wd U R (.slice none 0 0) [] 0:=
 ⟨Fr.refl _ _,World.ownsRow_nil _ _ _ _,rfl,List.nodup_nil,λ_ h=>(by cases h),λ_ _ h=>(by simp at h)⟩
theorem Rw.app{wm wz w':World}{v':Value}{rb:Nat}{o:Obj}(h:Rw wd wx U R v bs j)(hrb:wx.heap.size<=rb)(hN:New wx wm)(hF:Fr (λb=>b=rb) wm wz)(hR:eV U wz rb (R j))
 (hown:w'.ownsRow wd.heap.size 86 1 v' (j+1) ((bs.map λb=>.map (some b))++[.map (some rb)])) (hg:(wz.alloc o).grownBy w' v.ownBlock):Rw wd w' U R v' (bs++[rb]) (j+1):=by
 have hNz:New wx wz:=hN.next hF λi hi=>.inr (by rw[hi];exact hrb)
 have hFv:Fr (λk=>v.ownBlock=some k) wz w':=((Fr.refl _ wz).alloc o).grown hg λk e=>.inl e
 have amw:wz.ownsRow wd.heap.size 86 1 v j (bs.map λb=>.map (some b)):=hNz.owns h.own λ_ _ x=>x
 have ne:∀b,eV U wz b=eV U wz b->∀u,eV U wz b u->¬v.ownBlock=some b:=λb _ u hu e=>by
  obtain⟨cs,hc⟩:=fG amw b e;obtain⟨⟨ks,hk⟩,_⟩:=hu;obtain⟨es,ck,hb⟩:=hk.blk
  rw[hb]at hc;cases hc
 refine⟨(h.new.trans hNz).next hFv λi hi=>.inr (dR h.own i hi),by rw[jP];exact hown,by rw[ju,h.len];rfl,?_,λb hb=>?_,λi b e=>?_⟩
 · rw[jU]
   refine⟨h.nd,by simp,λa ha b hb e=>?_⟩
   have hb:b=rb:=by simpa using hb
   subst hb;subst e;obtain⟨i,hi,e⟩:=List.mem_iff_getElem.1 ha;have:=(h.row i a (by rw[je hi,e])).lt;omega
 · rcases jx.1 hb with hb|hb
   · exact h.lb b hb
   rw[jB.1 hb];have:=h.new.size;omega
 by_cases c:i<bs.length
 · rw[List.getElem?_append_left c]at e
   have h1:=h.row i b e
   have h2:=h1.fr hNz λx=>x
   exact h2.fr hFv (ne b rfl _ h2)
 have hi:i=bs.length:=by
  have:=(jg.1 e).1;rw[ju,List.length_singleton]at this;omega
 subst hi;rw[List.getElem?_append_right (jH _)]at e;simp at e;subst e;rw[h.len];exact hR.fr hFv (ne rb rfl _ hR)
theorem Rw.mps(h:Rw wd wx U R v bs j):∃a c,v=.slice a j c/\Pe wx a bs:=by
 obtain⟨a,c,rfl,_⟩:=dr h.own;refine⟨a,c,rfl,?_⟩;have hl:=h.len
 rcases h.own.2 with⟨hv,h0⟩|⟨g,cap,cur,hv,_⟩
 · left
   exact List.eq_nil_of_length_eq_zero (by omega)
 right
 injection hv with e1 e2 e3
 subst e1;refine⟨g,0,rfl,λi hi=>?_⟩
 have:=World.ownsRow.cells h.own (g:=g) rfl i (.map (some (bs.getD i 0))) (by
  rw[List.getElem?_map,je hi,jc,je hi];rfl)
 rw[dN]at this;exact this
theorem Rw.rows(h:Rw wd wx U R v bs j):(∀k∈bs,eV U wx k (R (bs.idxOf k)))/\bs.map (λk=>R (bs.idxOf k))=(List.range j).map R:=by
 refine⟨λk hk=>h.row _ k ?_,?_⟩
 · have:=List.getElem_idxOf (jr hk)
   rw[je (jr hk),this]
 refine List.ext_getElem (by simp[h.len]) λi h1 h2=>?_
 simp only[List.getElem_map,List.getElem_range]
 have hi:i<bs.length:=by simpa using h1
 rw[h.nd.idxOf_getElem i hi]
theorem Ci{α β:Type}(G:List α)(d:α)(F:α->β):(List.range G.length).map (λi=>F (G.getD i d))=G.map F:=by
 refine List.ext_getElem (by simp) λi h1 h2=>?_
 simp only[List.getElem_map,List.getElem_range]
 have hi:i<G.length:=by simpa using h1
 rw[jc,je hi];rfl
theorem EV:∀(G:List (Nat×Nat)) (i:Nat),i<G.length->(lz G)[i*2]?=some (.int .i64 ((G.getD i (0,0)).1:Nat))/\(lz G)[i*2+1]?=some (.int .i64 ((G.getD i (0,0)).2:Nat))
 |[],i,h=>by simp at h
 |p :: G,0,_=>⟨rfl,rfl⟩
 |p :: G,i+1,h=>by
  have ih:=EV G i (by simpa using h);have e:lz (p :: G)=.int .i64 (p.1:Nat) :: .int .i64 (p.2:Nat) :: lz G:=rfl;have g:(p :: G).getD (i+1) (0,0)=G.getD i (0,0):=rfl;rw[e,g,show (i+1)*2=i*2+1+1 by omega,List.getElem?_cons_succ,List.getElem?_cons_succ];exact ih
theorem Yg{w:World}{B c gl:Nat}(h:w.ownsRow B 82 2 (.slice a gl c) gl (lz G))(hl:gl=G.length)(hj:j<gl):∃g,a=some ⟨g,0,none⟩/\w.cell? ⟨g,j*2,none⟩=some (.int .i64 ((G.getD j (0,0)).1:Nat))/\w.cell? ⟨g,j*2+1,none⟩=some (.int .i64 ((G.getD j (0,0)).2:Nat)):=by
 rcases h.2 with⟨_,h0⟩|⟨g,cap,cur,e,_⟩
 · omega
 injection e with e1 e2 e3
 subst e1;obtain⟨m1,m2⟩:=EV G j (by omega);have c1:=World.ownsRow.cells h (g:=g) rfl (j*2) _ m1;have c2:=World.ownsRow.cells h (g:=g) rfl (j*2+1) _ m2;rw[dN,Nat.zero_add]at c1 c2;exact⟨g,rfl,c1,c2⟩
theorem ad4.at{w:World}{a:Option Addr}{l:List (Nat×Nat)}(h:ad4 w a l){k:Nat}(hk:k<l.length):∃b o,a=some ⟨b,o,none⟩/\w.cell? ⟨b,o+k*2,none⟩=some (.int .i64 ((l.getD k (0,0)).1:Nat))/\w.cell? ⟨b,o+k*2+1,none⟩=some (.int .i64 ((l.getD k (0,0)).2:Nat)):=by
 rcases h with rfl|⟨b,o,rfl,hc⟩
 · simp at hk
 exact⟨b,o,rfl,hc k hk⟩
theorem BJ{α:Type}(l:List α)(d:α){k:Nat}(hk:k<l.length):l.take (k+1)=l.take k++[l.getD k d]:=by
 rw[jq hk,jc,je hk];rfl
theorem ac3:(Tryz.prog.info? 86).map (λi=>(i.zero,i.size,i.bytes))=some (some (.map none),1,8):=by kernel_rfl
theorem VS(w:World)(x:Value)(t:TypeId):∀j u,[x][j]?=some u->(w.alloc (.cells #[x] t)).cell? ((⟨w.heap.size,0,none⟩:Addr).add j)=some u:=by
 have h:=heap_alloc_new w (.cells #[x] t);intro j u hj;rw[dN,Nat.zero_add]
 match j,hj with
 |0,hj=>cases hj;exact cell_of_row _ _ 0 _ t (0,0) h
def aeW(X:List Cr)(L:Nat)(w:World)(e:Ending)(w':World):Prop:=
 New w w'/\∃om n f ks,e=.returned (.map (some om))/\dx 50 yI vZ w' om n f ks/\n<=10000000/\(∀a,f a=none->Kh X L (bM X L) a=0)/\(∀a v,f a=some v->v=.int .i64 (Kh X L (bM X L) a))/\∀a,-2200000<=Kh X L (bM X L) a/\Kh X L (bM X L) a<=2200000
noncomputable def RV (X:List Cr) (L:Nat) (E:List (Nat×Nat)) (d:Int×Int):Int:=((rkN ((sO (λp=>zB X L p.1 p.2) E d).map λp=>l9 E (wY X L p X.length)):Nat):Int)
def Yo(X:List Cr)(L:Nat)(E:List (Nat×Nat))(d:Int×Int):Int:=((sO (λp=>zB X L p.1 p.2) E d).length:Int)
theorem acq(X:List Cr)(L:Nat)(E:List (Nat×Nat))(d:Int×Int):(0<=Yo X L E d/\Yo X L E d<=(E.length:Int))/\0<=RV X L E d/\RV X L E d<=(E.length:Int):=by
 have h1:(sO (λp=>zB X L p.1 p.2) E d).length<=E.length:=List.length_filter_le _ _
 have le:∀{l:List (Kn.Ve Nat)} {n:Nat},Rk l n->n<=l.length:=λh=>by
  induction h with
  |nil=>exact jH _
  |in_ _ _ ih=>rw[jE];omega
  |out _ _ ih=>rw[jE];omega
 have h2:=le (rE ((sO (λp=>zB X L p.1 p.2) E d).map λp=>l9 E (wY X L p X.length)));rw[jA]at h2;unfold Yo RV;omega
theorem abP{X:List Cr}{L:Nat}(h:Kn.Ok X)(hp:Kn.aJ X=true)(h6:X.length<=6)(hL:L<=2){done:List (Int×Int)}(hE:E=oV X L (2 ^ X.length))(hd:∀d,sO (λp=>zB X L p.1 p.2) E d≠[]->d∈done)(a:Int×Int):
 th (Yo X L E) (RV X L E) done a=Kh X L (bM X L) a:=by
 subst hE;rw[Ux h hp h6 hL a (rE _) (rE _)]
 have z:∀d,d∉done->Yo X L (oV X L (2 ^ X.length)) d=0/\RV X L (oV X L (2 ^ X.length)) d=0:=λd hn=>by
  have e:sO (λp=>zB X L p.1 p.2) (oV X L (2 ^ X.length)) d=[]:=js λk=>hn (hd d k)
  unfold Yo RV
  rw[e,List.map_nil,Kn.Cc .nil];exact⟨rfl,rfl⟩
 unfold th
 have e1:(if a∈done then Yo X L (oV X L (2 ^ X.length)) a-RV X L (oV X L (2 ^ X.length)) a else 0)=Yo X L (oV X L (2 ^ X.length)) a-RV X L (oV X L (2 ^ X.length)) a:=by
  by_cases c:a∈done
  · rw[if_pos c]
  rw[if_neg c,(z a c).1,(z a c).2];rfl
 have e2:(if pre a∈done then RV X L (oV X L (2 ^ X.length)) (pre a)else 0)=RV X L (oV X L (2 ^ X.length)) (pre a):=by
  by_cases c:pre a∈done
  · rw[if_pos c]
  rw[if_neg c,(z _ c).2]
 rw[e1,e2];rfl
theorem PB(X:List Cr)(L:Nat)(S:Nat->Bool)(k m:Nat):(Kn.oZ X L S k m).length<=2:=by
 unfold Kn.oZ
 repeat' split
 all_goals simp
theorem TU(b:Option Nat):∀u∈[Value.map b],u.oneCell'=true:=by
 intro u hu
 rw[jB.1 hu];rfl
end Go.Proofs.YtfplmbmenjdlhaaGreatDoor
