/- Words: a map keyed by kinds of states. -/
import Derived.Test.YtfplmbmenjdlhaaGreatDoorV4
set_option maxRecDepth 100000
set_option maxHeartbeats 16000000
namespace Go.Proofs.YtfplmbmenjdlhaaGreatDoor
open Go.RowKit Go.Shelf
open Go.ChangeMaps (setBlock heap_setBlock_same heap_setBlock_other)
open Go.WideMaps (KeyLaw)
open Go.WideElems (entry_then_store)
open Kn (Cr kc EL pw et bf two)
open List (range)
open Maps (has)
open Pl (T gN fp size_cons gF)
open Go.Proofs.Tryz (prog underlying3)
variable {sn:Array Nat} {D:DataW Unit} {Q:Exit->Act->World->Prop} {p:Int×Int} {X:List Cr} {L N k mb n r:Nat} {S:Nat->Prop} {v:Value} {W W' w w':World}
theorem Tryz.acm:(114:TypeId)<prog.types.size:=jl (by kernel_rfl)
theorem Tryz.abM:(match prog.underlying 114 with|some (.array _ _)|some (.struct _)=>true|_=>false)=true:=by kernel_rfl
theorem Tryz.acW:prog.keyTypeAt 2 114=true:=by kernel_rfl
theorem Tryz.Md:KeyLaw prog 114:=deep_law_laid Tryz.laidOut (m:=2) (by omega) Tryz.acm Tryz.acW Tryz.abM
theorem Tryz.rM:Maps.Keyed prog 114:=Maps.Keyed.of_law Tryz.Md
theorem Tryz.H9:prog.underlying 111=some (.map 114 3):=by kernel_rfl
abbrev kV(p:Int×Int):Value:=.agg #[.int .i64 p.1,.int .i64 p.2]
def isKind(p:Int×Int):Prop:=(-12<=p.1/\p.1<=12)/\0<=p.2/\p.2<=40
theorem QA:((range 25).all λa=>(range 41).all λs=>(keyOf prog 114 (kV ((a:Int)-12,(s:Int)))).isSome)=true:=by kernel_rfl
theorem acX(h:isKind p):∃l,keyOf prog 114 (kV p)=some l:=by
 obtain⟨⟨h1,h2⟩,h3,h4⟩:=h;have:=List.all_eq_true.1 (List.all_eq_true.1 QA (p.1+12).toNat (jw.2 (by omega))) p.2.toNat (jw.2 (by omega));rw[show (((p.1+12).toNat:Nat):Int)-12=p.1 by omega,show ((p.2.toNat:Nat):Int)=p.2 by omega]at this;exact Option.isSome_iff_exists.1 this
theorem UC{q:Int×Int}(h:kV p=kV q):p=q:=by
 obtain⟨a,b⟩:=p;obtain⟨c,d⟩:=q;simp only[kV,Value.agg.injEq,Array.mk.injEq,List.cons.injEq,Value.int.injEq,true_and,and_true]at h;rw[h.1,h.2]
def sM(p:Int×Int):Int:=kc p.1 p.2
theorem Gt{q:Int×Int}(h:isKind p)(k:isKind q)(e:sM p=sM q):p=q:=by
 obtain⟨⟨h1,h2⟩,h3,h4⟩:=h;obtain⟨⟨k1,k2⟩,k3,k4⟩:=k;unfold sM kc at e;exact Prod.ext (by omega) (by omega)
structure KD(D:DataW Unit)(l:List T):Prop where
 isMap:Maps.IsMap D
 val:∀p k,isKind p->keyOf prog 114 (kV p)=some k->D.atKey k (.lit (.int .i64 0))=.lit (.int .i64 (Pl.co l (sM p)))
 key:∀k,has D k=true->∃p,isKind p/\keyOf prog 114 (kV p)=some k/\∃t∈l,t.1=sM p
def uo(W:World)(mb n:Nat)(l:List T):Prop:=∃D:DataW Unit,W.ownsMap prog 114 (plainElem prog 3) mb n D/\KD D l
theorem KD.empty:KD (.map []) []:=⟨Maps.isMap_empty,(λ_ _ _ _=>rfl),(λ_ h=>by cases h)⟩
theorem KD.put{D:DataW Unit}{l:List T}(h:KD D l){p:Int×Int}(hp:isKind p){kl:Lit}(hk:keyOf prog 114 (kV p)=some kl):KD (D.put kl (.lit (.int .i64 (Pl.co l (sM p)+1)))) (l++[(sM p,1)]):=by
 have fY:=Tryz.rM.key hk
 have ne:∀q k,keyOf prog 114 (kV q)=some k->q≠p->k≠kl:=λq k hq hn e=>hn (UC (Tryz.rM.inj (e ▸ hq) hk))
 refine⟨h.isMap.put _ _,λq k hq' hq=>?_,λk hx=>?_⟩
 · by_cases c:q=p
   · subst c
     rw[hk]at hq;cases hq
     rw[Maps.atKey_put_same h.isMap fY,gN,Pl.cO,Pl.gM,if_pos rfl];simp
   rw[Maps.atKey_put_other (ne q k hq c),h.val q k hq' hq,gN,Pl.cO,Pl.gM,if_neg λe=>c (Gt hp hq' e).symm];simp
 by_cases c:k=kl
 · subst c
   exact⟨p,hp,hk,(sM p,1),by simp,rfl⟩
 rw[Maps.has_put_other c]at hx;obtain⟨q,hq',hq,t,ht,e⟩:=h.key k hx;exact⟨q,hq',hq,t,by simp[ht],e⟩
theorem uo.made(w:World):uo (w.alloc (.map #[] 0)) w.heap.size 0 []:=⟨_,World.ownsMap_made _ _ _ _,KD.empty⟩
theorem uo.fr{l:List T}(h:uo W mb n l)(hf:Fr S W W')(hs:¬S mb):uo W' mb n l:=by
 obtain⟨D,⟨es,ck,hb,r⟩,h1⟩:=h;exact⟨D,⟨es,ck,(hf.block mb (jf.1 hb).1 hs).trans hb,r⟩,h1⟩
theorem uo.lt{W:World}{mb n:Nat}{l:List T}(h:uo W mb n l):mb<W.heap.size:=by
 obtain⟨D,ho,_⟩:=h;exact ho.lt
theorem uo.look{l:List T}(h:uo W mb n l)(hp:isKind p):(Instr.lookup 111 (.map (some mb)) (kV p) false).run prog W=.ok (.int .i64 (Pl.co l (sM p))) W:=by
 obtain⟨D,hown,hd⟩:=h;obtain⟨kl,hk⟩:=acX hp;obtain⟨c,hrun,hat,_⟩:=hown.lookup_int Tryz.rM Tryz.H9 underlying3 (Tryz.FH _) hk;rw[hd.val p kl hp hk]at hat;have e:=(Lit.int.inj (DataW.lit.inj hat)).2
 rw[e];exact hrun
theorem uo.entry{l:List T}(h:uo W mb n l)(hn:n<maxLen)(hp:isKind p)(hc:-1000000<=Pl.co l (sM p)/\Pl.co l (sM p)<=1000000):
 ∃(v0:Value) (st:Int) (W1 W2:World),(Instr.mapEntry 111 (.map (some mb)) (kV p)).run prog W=.ok (.tuple #[v0,.int .i64 st]) W1/\Fr (λk=>k=mb) W W1/\(Instr.lookup 111 (.map (some mb)) (kV p) false).run prog W1=.ok (.int .i64 (Pl.co l (sM p))) W1 /\
  (Instr.entryStore 111 (.map (some mb)) (.int .i64 st) (.int .i64 (Pl.co l (sM p)+1))).run prog W1=.ok () W2/\uo W2 mb (n+1) (l++[(sM p,1)])/\Fr (λk=>k=mb) W W2:=by
 have hlk:=h.look hp;obtain⟨D,hown,hd⟩:=h;obtain⟨kl,hk⟩:=acX hp;have hpl:plainElem (H:=Unit) prog 3 (.int .i64 (Pl.co l (sM p)+1))=some (.lit (.int .i64 (Pl.co l (sM p)+1)),[]):=plainElem_int underlying3 (lg (by omega));obtain⟨w',hrun,mH,JK⟩:=hown.update Tryz.rM Tryz.H9 hn hk hpl;obtain⟨es,ck,hb,F,_⟩:=hown;obtain⟨v0,st,mQ,VP,hr1,_,hst⟩:=entry_then_store (w:=W) Tryz.Md Tryz.H9 (λu=>Tryz.FH u) hb F hk;have hb1:(setBlock W mb (.map mQ VP)).heap[mb]?=some (.map mQ VP):=heap_setBlock_same hb _
 obtain⟨es',ck',hr2,hr3⟩:=hst (setBlock W mb (.map mQ VP)) (.int .i64 (Pl.co l (sM p)+1)) hb1;rw[nS]at hr2
 have e:w'=setBlock W mb (.map es' ck'):=by
  rw[hrun]at hr3;cases hr3;rfl
 have hF:∀o,Fr (λk=>k=mb) W (setBlock W mb o):=λo=>⟨rfl,rfl,rfl,by simp[setBlock],λi _ hi=>heap_setBlock_other hb _ (λe=>hi e)⟩
 obtain⟨x0,c0,W0,e1,e2,e3⟩:=Dc (w:=W) Tryz.Md Tryz.H9 (λu=>Tryz.FH u) hb F.keys hk;rw[hr1]at e1;obtain⟨-,rfl⟩:=Result.ok.inj e1;rw[hlk]at e2;obtain⟨rfl,-⟩:=Result.ok.inj e2;refine⟨v0,st,_,_,hr1,hF _,e3,hr2,⟨_,?_,hd.put hp hk⟩,hF _⟩
 rw[<-e];exact mH
open Go.RowKit
theorem UM:∀{l:List Int},l.Nodup->(∀x∈l,-(N:Int)<=x/\x<=N)->l.length<=2*N+1:=by
 intro l hd hl
 have h1:(l.map λx:Int=>(x+(N:Int)).toNat).Nodup:=by
  rw[List.nodup_iff_pairwise_ne,List.pairwise_map];rw[List.nodup_iff_pairwise_ne]at hd
  refine List.Pairwise.imp_of_mem ?_ hd
  intro a b ha hb hne e;have:=hl a ha;have:=hl b hb;exact hne (by omega)
 have:=Kn.ft h1 (m:=range (2*N+1)) (λx hx=>by
  obtain⟨y,hy,rfl⟩:=jv.1 hx;have:=hl y hy
  exact jw.2 (by omega))
 simpa using this
theorem Wk.few{l:List T}(h:Wk w v l n)(he:∀t∈l,-(N:Int)<=t.1/\t.1<=N):Wk w v l (2*N+1):=by
 obtain⟨b,D,rfl,ho,hd⟩:=h;obtain⟨k1,k2,k3⟩:=rO ho
 have h1:=UM k1 (N:=N) λx hx=>by
  obtain⟨t,ht,rfl⟩:=hd.key x ((k2 x).1 hx);exact he t ht
 refine⟨b,D,rfl,?_,hd⟩;rw[k3]at h1;obtain⟨es,clock,hb,hf,hn,rfl⟩:=ho;refine⟨es,clock,hb,hf,?_,rfl⟩;rw[Maps.size_eq,length_sorted]at h1;simpa using h1
abbrev PwR(w:World)(v:Value)(k:Nat):Prop:=Wk w v (pw k) (4*k+1)
abbrev oI(base:Nat)(w:World)(v:Value)(m:Nat):Prop:=Rows PwR base 59 w v (range m)
theorem oI.new{base:Nat}{w w':World}{v:Value}{m:Nat}(h:oI base w v m)(hf:New w w'):oI base w' v m:=Rows.new h hf λ_ _ x=>New.wk hf x
theorem oI.at{base:Nat}{w:World}{v:Value}{m:Nat}(h:oI base w v m){i:Nat}(hi:i<m):∃g c b,v=.slice (some ⟨g,0,none⟩) m c/\w.cell? ⟨g,i,none⟩=some (.map (some b))/\Wk w (.map (some b)) (pw i) (4*i+1):=by
 obtain⟨vs,h1,h2⟩:=h
 have hl:vs.length=m:=by rw[h2.len,jS]
 rw[hl]at h1;obtain⟨a,c,rfl,_,h3⟩:=jZ h1;obtain⟨g,rfl,_,h4⟩:=h3 (by omega);have h5:=h2.at_ i (by omega) (by simpa using hi);rw[List.getElem_range]at h5;obtain⟨b,D,e,r⟩:=h5;refine⟨g,c,b,rfl,?_,⟨b,D,rfl,r⟩⟩;rw[h4 i (by omega),e]
theorem oI.sl{base:Nat}{m:Nat}(h:oI base w v m):∃a c,v=.slice a m c:=by
 obtain⟨vs,h1,h2⟩:=h;rw[show vs.length=m by rw[h2.len,jS]]at h1;obtain⟨a,c,rfl,_,_⟩:=jZ h1;exact⟨a,c,rfl⟩
theorem oh(X:List Cr)(L:Nat):∀k,Pl.size (Kn.df X L k)=k
 |0=>rfl
 |k+1=>by rw[Kn.rN,fp,oh X L k,size_cons];rfl
theorem N0(n:Nat):∀st,Kn.pop n st<=n:=by
 induction n with
 |zero=>intro st;exact jH _
 |succ n ih=>intro st;rw[Kn.pop];have:=ih (st / 2);omega
theorem CH(Vd:X.length<=12)(hL:2*X.length+L<=40)(st:Nat):isKind (Kn.xO X L st):=by
 have:=N0 X.length st
 have h2:et X L st<=40:=by unfold et;omega
 refine⟨⟨?_,?_⟩,?_,?_⟩<;>simp only[Kn.xO]<;>omega
theorem Tryz.ac6:(prog.info? 59).map (λi=>(i.zero,i.size,i.bytes))=some (some (.map none),1,8):=by kernel_rfl
theorem Ss:((range 17).all λn=>decide (wrap64 (2 ^ n)=((2 ^ n:Nat):Int)))=true:=by decide +kernel
open Go.RowKit
open Go.Maps (Keyed)
theorem ke{H:Type}{P:Program}(w:World){ops:Array Oper}{rest:List Oper}{o:Oper}{a:Act}
 (hg:o.guard=none) (m x v:Operand) (t:TypeId) (hop:o.op=Op.insert t m x v)
 (k e:TypeId) (K:Keyed P k) (ht:P.underlying t=some (.map k e)) (R:Value->Option (DataW H×List MemPlace)) (b n:Nat) (D:DataW H)
 (hm:a.eval m=.map (some b)) (hown:w.ownsMap P k R b n D) (hn:n<maxLen) (key val:Value) (kl:Lit) (hx:a.eval x=key) (hv:a.eval v=val) (hkey:keyOf P k key=some kl)
 (d:DataW H) (ps:List MemPlace) (hval:R val=some (d,ps))
 (hK:∀w',w'.ownsMap P k R b (n+1) (D.put kl d)->w.grownBy w' (some b)->wpList P ops Q rest (a.put o.dst undef) w'):
 wpList P ops Q (o :: rest) a w:=by
 refine wpList_plain hg λK' hK'=>?_
 obtain⟨w',hrun,r1,r2⟩:=hown.update K ht hn hkey hval;unfold Oper.wp;simp[execOp,hop,hm,hx,hv,hrun,Result.andThen];exact hK' _ _ (hK w' r1 r2)
theorem KD.A4{l:List T}(h:KD D l)(hp:isKind p){k:Lit}(hk:keyOf prog 114 (kV p)=some k)(hh:has D k=false):Pl.co l (sM p)=0:=by
 have h1:=h.val p k hp hk;rw[Maps.atKey_of_not_has hh]at h1;exact(Lit.int.inj (DataW.lit.inj h1)).2.symm
noncomputable def aau (left:Lit->Bool) (c:Int):Bool:=Kn.tr (∃p k,isKind p/\sM p=c/\keyOf prog 114 (kV p)=some k/\left k=true)
structure qU(D:DataW Unit)(l:List T)(left:Lit->Bool)(done:List T):Prop where
 kd:KD D l
 part:Pl.Part l (aau left) done
 sub:∀k,left k=true->has D k=true
theorem qU.start{D:DataW Unit}{l:List T}(h:KD D l)(hk:∀t∈l,∃p,isKind p/\sM p=t.1):qU D l (has D) []:=by
 refine⟨h,Pl.Part.start λc hc=>?_,λ_ x=>x⟩
 by_cases e:∃t∈l,t.1=c
 · obtain⟨t,ht,rfl⟩:=e
   obtain⟨p,hp,e1⟩:=hk t ht;obtain⟨k,CU⟩:=acX hp;rw[<-e1]
   refine h.A4 hp CU ?_
   cases hh:has D k with
   |false=>rfl
   |true=>exact absurd ⟨p,k,hp,e1,CU,hh⟩ (Kn.br.1 hc)
 exact Pl.yq λt ht e1=>e ⟨t,ht,e1⟩
theorem qU.step{D:DataW Unit}{l:List T}{left:Lit->Bool}{done:List T}(h:qU D l left done){p:Int×Int}{kl:Lit}(hp:isKind p)(hk:keyOf prog 114 (kV p)=some kl)(hl:left kl=true)(hm:∃t∈l,t.1=sM p):
 qU D l (λz=>left z && !z.sameKey kl) (done++[(sM p,Pl.co l (sM p))]):=by
 refine⟨h.kd,h.part.step (bf.2 ⟨p,kl,hp,rfl,hk,hl⟩) (λc=>?_) rfl hm,λk x=>h.sub k (by simp only[jp]at x;exact x.1)⟩;rw[jD,jp];unfold aau;rw[bf,bf];constructor
 · rintro⟨q,k,hq,rfl,OJ,hlk⟩
   simp only[jp,Bool.not_eq_true']at hlk;refine⟨⟨q,k,hq,rfl,OJ,hlk.1⟩,?_⟩;simp only[Bool.not_eq_true',jF];intro e;have:=Gt hq hp e;subst this
   rw[hk]at OJ;cases OJ
   rw[Go.WideAt.sameKey_self (Tryz.rM.key hk)]at hlk;exact absurd hlk.2 (by decide)
 rintro⟨⟨q,k,hq,rfl,OJ,hlk⟩,hne⟩;simp only[Bool.not_eq_true',jF]at hne;refine⟨q,k,hq,rfl,OJ,?_⟩
 have ne:¬k=kl:=λe'=>hne (by
  have anI:keyOf prog 114 (kV q)=some kl:=e' ▸ OJ
  have e2:q=p:=UC (Tryz.rM.inj anI hk)
  rw[e2])
 simp only[jp,Bool.not_eq_true'];exact⟨hlk,Go.Maps.sameKey_ne ne⟩
theorem qU.all{l:List T}{left:Lit->Bool}{done:List T}(h:qU D l left done)(hl:∀k,left k=false)(f:Int->Int):gF done f=gF l f:=
 Pl.uw (h.part.aiG λe=>Kn.br.2 λ⟨_,k,_,_,_,x⟩=>by rw[hl k]at x;cases x) f
abbrev Na(W:World)(mb r n:Nat)(D:DataW Unit)(left:Lit->Bool)(cnt:Nat):Prop:=W.ranges prog 114 (plainElem prog 3) mb r n D left cnt
theorem Na.fr{left:Lit->Bool}{cnt:Nat}(h:Na W mb r n D left cnt)(hF:Fr S W W')(h1:¬S mb)(h2:¬S r):Na W' mb r n D left cnt:=by
 have k1:=h.owns.lt;have k2:=h.lt;obtain⟨es,clock,since,seen,c0,hb,F,hs,hD,hr,rest⟩:=h;exact⟨es,clock,since,seen,c0,(hF.block mb k1 h1).trans hb,F,hs,hD,(hF.block r k2 h2).trans hr,rest⟩
theorem Na.new{left:Lit->Bool}{cnt:Nat}(h:Na W mb r n D left cnt)(hF:New W W'):Na W' mb r n D left cnt:=h.fr hF (λx=>x) (λx=>x)
section
variable {w:World} {ops:Array Oper} {rest:List Oper} {o:Oper} {a:Act} {Q:Exit->Act->World->Prop}
theorem yN(hg:o.guard=none)(it:Operand)(hop:o.op=Op.next it false)(mb r n:Nat)(D:DataW Unit)(l:List T)(left:Lit->Bool)(cnt:Nat)(done:List T)
 (hit:a.eval it=.pointer (some ⟨r,0,none⟩)) (h:Na w mb r n D left cnt) (hd:qU D l left done)
 (hDone:(∀kl,left kl=false)->wpList prog ops Q rest (a.put o.dst (.tuple #[.bool false])) w)
 (hMore:∀(m1 m2 c:Int) (kl:Lit) (w':World) (cnt':Nat),isKind (m1,m2)->c=Pl.co l (sM (m1,m2))->Na w' mb r n D (λz=>left z && !z.sameKey kl) cnt'->cnt'<cnt ->
  qU D l (λz=>left z && !z.sameKey kl) (done++[(sM (m1,m2),c)]) ->
  Fr (λk=>k=r) w w'->(Instr.entry (.pointer (some ⟨r,0,none⟩))).run prog w'=.ok (.tuple #[.agg #[.int .i64 m1,.int .i64 m2],.int .i64 c]) w' ->
  wpList prog ops Q rest (a.put o.dst (.tuple #[.bool true,.agg #[.int .i64 m1,.int .i64 m2],.int .i64 c])) w'):
 wpList prog ops Q (o :: rest) a w:=by
 refine wpList_next_ranges w hg it hop 114 Tryz.rM (plainElem prog 3) id id (λkey _ _=>⟨key,rfl⟩) (λv _ _=>⟨v,rfl⟩) mb r n D left cnt hit h (λ_ hl=>hDone hl) ?_
 intro x c kl y w' cnt' hk hl hR hat hrg hlt hgr _ hen;obtain⟨⟨m1,m2⟩,hp,uT,hm⟩:=hd.kd.key kl (hd.sub kl hl);have ex:x=kV (m1,m2):=Tryz.rM.inj hk uT;obtain⟨cc,ec,ey,_⟩:=plainElem_int_inv underlying3 hR;have e1:=hat (.lit (.int .i64 0));rw[hd.kd.val _ kl hp uT,ey]at e1;have e2:Pl.co l (sM (m1,m2))=cc:=(Lit.int.inj (DataW.lit.inj e1)).2
 have ec':c=.int .i64 (Pl.co l (sM (m1,m2))):=by rw[e2];exact ec
 subst ex ec';exact hMore m1 m2 _ kl w' cnt' hp rfl hrg hlt (hd.step hp uT hl hm) ⟨hgr.os,hgr.tape,hgr.output,hgr.size,λi hi hne=>hgr.block i hi (λe=>hne (Option.some.inj e))⟩ hen
end
theorem Wk.fr{b:Nat}{l:List T}(h:Wk w (.map (some b)) l n)(hF:Fr S w w')(hs:¬S b):Wk w' (.map (some b)) l n:=by
 obtain⟨b',D,e,⟨es,clock,hb,r⟩,hd⟩:=h;cases e;exact⟨b,D,rfl,⟨es,clock,(hF.block b (jf.1 hb).1 hs).trans hb,r⟩,hd⟩
theorem Wk.blk{l:List T}(h:Wk w v l n):∃b es ck,v=.map (some b)/\w.heap[b]?=some (.map es ck):=by
 obtain⟨b,D,rfl,⟨es,clock,hb,_⟩,_⟩:=h;exact⟨b,es,clock,rfl,hb⟩
theorem Wk.mono{w:World}{v:Value}{l:List T}{n n':Nat}(h:Wk w v l n)(hn:n<=n'):Wk w v l n':=by
 obtain⟨b,D,rfl,ho,hd⟩:=h;exact⟨b,D,rfl,ho.mono hn,hd⟩
theorem Wk.grown{base e sz m:Nat}{xs:List Value}{vr:Value}{w5 w7:World}{o:Obj}{v:Value}{l:List T}{n:Nat}(h:Wk w5 v l n)(hrow:w5.ownsRow base e sz vr m xs)(hg:(w5.alloc o).grownBy w7 vr.ownBlock):Wk w7 v l n:=by
 obtain⟨b,es,ck,rfl,hb⟩:=h.blk
 have hF:Fr (λk=>vr.ownBlock=some k) w5 w7:=((Fr.refl _ w5).alloc o).grown hg λk ek=>.inl ek
 refine h.fr hF λe'=>cM hrow hb b e' rfl
theorem oI.snoc{base m:Nat}{w5 w7:World}{o:Obj}{vs:List Value}{v v' x:Value}(h1:w5.ownsRow base 59 1 v m vs)(h2:KS (PwR w5) vs (range m))(hx:Wk w5 x (pw m) (4*m+1))(hown:w7.ownsRow base 59 1 v' (m+1) (vs++[x]))(hg:(w5.alloc o).grownBy w7 v.ownBlock):oI base w7 v' (m+1):=by
 have hl:vs.length=m:=by rw[h2.len,jS]
 refine⟨vs++[x],by rw[ju,hl];exact hown,?_⟩;rw[jO];exact KS.snoc (h2.mono λv k hv=>hv.grown h1 hg) (hx.grown h1 hg)
theorem X8(b:Nat):∀u∈[Value.map (some b)],u.oneCell'=true:=by simp[Value.oneCell']
theorem Mf(Vd:X.length<=12)(hL:2*X.length+L<=40)(k:Nat):∀t∈Kn.df X L k,∃p,isKind p/\sM p=t.1:=by
 intro t ht;obtain⟨st,_,rfl⟩:=jv.1 ht;exact⟨_,CH Vd hL st,rfl⟩
structure BO(done l:List T):Prop where
 co:∀x,Pl.co l x=gF done (EL x)
 yf:∀t∈l,-(150:Int)<=t.1/\t.1<=150
 size:Pl.size l<=Pl.size done*536870912
theorem BO.start:BO [] []:=⟨λ_=>rfl,(λt h=>by cases h),Nat.zero_le _⟩
theorem XO(q s:Int)(l:List T):Pl.size (sh q s l)=s.natAbs*Pl.size l:=by
 induction l with
 |nil=>rfl
 |cons t l ih=>
  show Pl.size ((t.1+q,s*t.2) :: sh q s l)=_
  rw[size_cons,size_cons,ih,Nat.mul_add,Int.natAbs_mul]
theorem BO.step{done l:List T}(h:BO done l){m1 m2 c:Int}(hk:isKind (m1,m2))(h1:1<=m2)(h30:m2<=30):BO (done++[(sM (m1,m2),c)]) (l++sh m1 c (pw (m2.toNat-1))):=by
 obtain⟨⟨a1,a2⟩,a3,a4⟩:=hk;simp only at a1 a2 a3 a4;refine⟨λx=>?_,λt ht=>?_,?_⟩
 · rw[gN,Pl.wW,h.co,Pl.bJ,Pl.gR,IG]
   unfold EL sM kc
   simp only
   rw[show (m1*64+m2)%64=m2 by omega,show (m1*64+m2) / 64=m1 by omega];omega
 · rcases jx.1 ht with ht|ht
   · exact h.yf t ht
   obtain⟨u,hu,rfl⟩:=jv.1 ht;have:=Kn.uF _ u hu
   simp only;omega
 rw[fp,fp,XO,Kn.xu,size_cons,Nat.add_mul];have h2:2 ^ (m2.toNat-1)<=2 ^ 29:=jI (by decide) (by omega);have h3:=Nat.mul_le_mul_left c.natAbs h2;have h4:=h.size;have h5:Pl.size ([]:List T)=0:=rfl;rw[h5]
 simp only
 omega
theorem Na.iter{left:Lit->Bool}{cnt:Nat}(h:Na W mb r n D left cnt):∃o a sn c,W.heap[r]?=some (.mapIter o a sn c):=by
 obtain⟨es,clock,since,seen,c0,_,_,_,_,hr,_⟩:=h;exact⟨_,_,_,_,hr⟩
theorem vy{base e sz:Nat}{xs:List Value}{o:Option Nat}{a c:Nat}(h:W.ownsRow base e sz v n xs)(hm:W.heap[r]?=some (.mapIter o a sn c)):∀k,v.ownBlock=some k->¬k=r:=by
 intro k hk e';subst e';obtain⟨o,ho,hc⟩:=nG h k hk;rw[hm]at ho
 cases ho;cases hc
theorem Wk.turn{l:List T}{o:Option Nat}{a c:Nat}(h:Wk w v l n)(hF:Fr (λk=>k=r) w w')(hr:w.heap[r]?=some (.mapIter o a sn c)):Wk w' v l n:=by
 obtain⟨b,es,ck,rfl,hb⟩:=h.blk
 exact h.fr hF λe=>by subst e;rw[hb]at hr;cases hr
theorem oI.turn{base m:Nat}{w w':World}{v:Value}{r:Nat}{o:Option Nat}{a c:Nat}{sn:Array Nat}(h:oI base w v m)(hF:Fr (λk=>k=r) w w')(hr:w.heap[r]?=some (.mapIter o a sn c)):oI base w' v m:=by
 obtain⟨vs,h1,h2⟩:=h;exact⟨vs,hF.owns h1 (vy h1 hr),h2.mono λ_ _ x=>x.turn hF hr⟩
theorem Na.grown{base e sz m:Nat}{xs:List Value}{vr:Value}{w5 w7:World}{o:Obj}{mb r n:Nat}{D:DataW Unit}{left:Lit->Bool}{cnt:Nat}(h:Na w5 mb r n D left cnt)(hrow:w5.ownsRow base e sz vr m xs)(hg:(w5.alloc o).grownBy w7 vr.ownBlock):Na w7 mb r n D left cnt:=by
 have hF:Fr (λk=>vr.ownBlock=some k) w5 w7:=((Fr.refl _ w5).alloc o).grown hg λk ek=>.inl ek
 obtain⟨o',a,sn,c,hr⟩:=h.iter;obtain⟨es,ck,hb,_⟩:=h.owns;exact h.fr hF (λe'=>cM hrow hb mb e' rfl) (λe'=>vy hrow hr r e' rfl)
theorem agA(h:w.ownsMap prog 114 (plainElem prog 3) mb n D)(hF:New w w'):w'.ownsMap prog 114 (plainElem prog 3) mb n D:=by
 obtain⟨es,ck,hb,r⟩:=h;exact⟨es,ck,(hF.block mb (jf.1 hb).1 (λx=>x)).trans hb,r⟩
theorem TI(w:World)(b:Nat):(w.alloc (.cells #[.map (some b)] 59)).ownsRow w.heap.size 59 1 (.slice (some ⟨w.heap.size,0,none⟩) 1 1) 1 [.map (some b)]:=
 ⟨rfl,.inr ⟨w.heap.size,1,#[.map (some b)],rfl,jH _,heap_alloc_new _ _,jH _,by unfold maxLen;omega,rfl,rfl⟩⟩
theorem oI.one{b base:Nat}(h:Wk w (.map (some b)) [(0,1)] 1)(hb:base<=w.heap.size):oI base (w.alloc (.cells #[.map (some b)] 59)) (.slice (some ⟨w.heap.size,0,none⟩) 1 1) 1:=
 ⟨[.map (some b)],qD (TI w b) hb,⟨rfl,λi h1 h2=>by
  obtain rfl:i=0:=by simpa using h1
  exact New.wk ((Fr.refl _ _).alloc _) h⟩⟩
theorem Tn(hX:Kn.Ok X){m1 m2:Int}(Vd:X.length<=12)(hL:2*X.length+L<=30)(h0:0<X.length+L)(hk:isKind (m1,m2))(h:∃u∈Kn.df X L k,u.1=sM (m1,m2)):1<=m2/\m2<=30:=by
 obtain⟨u,hu,e⟩:=h;obtain⟨st,_,rfl⟩:=jv.1 hu;have e2:=Gt (CH (L:=L) Vd (by omega) st) hk e;have h1:=hX.EA L st h0
 have h2:et X L st<=30:=by unfold et;omega
 have e3:(et X L st:Int)=m2:=congrArg Prod.snd e2;omega
def aag:Value->Nat
 |.slice _ n _=>n
 |_=>0
theorem aak(h:k<=1000):Hc 1000000000 (pw k):=λt ht=>by have:=Kn.uF k t ht;omega
theorem abT:Hc 1000000000 two:=λt ht=>by
 simp only[two,jy,jz,or_false]at ht
 rcases ht with rfl|rfl<;>simp
theorem I5{q:Nat}(h:q<=29):2 ^ q*Pl.size two<=1000000000000000000:=by
 have h2:2 ^ q<=2 ^ 29:=jI (by decide) h;have h3:Pl.size two=2:=rfl
 rw[h3];omega
theorem agl{q s:Int}(hk:k<=1000)(hq:-1000<=q/\q<=1000):Hc 1000000000 (sh q s (pw k)):=λt ht=>by
 obtain⟨u,hu,rfl⟩:=jv.1 ht;have:=Kn.uF k u hu
 simp only;omega
theorem Zp{K l:List T}{Ow:Lit->Bool}{done:List T}{t:T}{m1 c:Int}{j:Nat}(h2:BO (done++[t]) (l++sh m1 c (pw j)))(hk:qU D K Ow (done++[t]))(hs:Pl.size K<=4096):Pl.size l+Pl.size (sh m1 c (pw j))<=1000000000000000000:=by
 have h3:=h2.size;have h4:=hk.part.size_le;rw[fp]at h3;omega
end Go.Proofs.YtfplmbmenjdlhaaGreatDoor
