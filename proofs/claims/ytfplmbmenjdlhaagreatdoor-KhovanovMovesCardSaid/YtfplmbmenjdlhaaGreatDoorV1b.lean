/- What comes in: a diagram, as the walks want it. -/
import Derived.ProofKit
import Derived.OpenShut
import Derived.Test.YtfplmbmenjdlhaaGreatDoorW14
import Derived.WideKeyEntry
set_option maxRecDepth 100000
set_option maxHeartbeats 16000000
namespace Go.Proofs.YtfplmbmenjdlhaaGreatDoor
open Go.ChangeShapes Go.WideShapes Go.Deep Go.RowKit
open DataW (held trod_int)
open Instr (lookup mapEntry)
open List (cons range)
open Result (andThen)
open Go.Proofs.Tryz (prog underlying3)
variable {es:Array MapEntry} {p:List MemPlace} {kl:Lit} {mb n:Nat} {sp:Nat->Bool} {S:Nat->Prop} {H:Type} {W w:World}
theorem Tryz.Zi:prog.cellsOf 24=2:=by kernel_rfl
theorem Tryz.O5:prog.cellsOf 109=5:=by kernel_rfl
theorem Tryz.Zj:prog.cellsOf 22=1:=by kernel_rfl
theorem Tryz.Dq:prog.cellsOf 3=1:=by kernel_rfl
theorem Tryz.M0:prog.cellsOf 4=1:=by kernel_rfl
theorem VH{enc:TypeId×Value->H}{cs:List Value}{x:DataW H×List MemPlace}(h:DataW.trod enc prog w 0 sp true n 109 cs=some x):
 ∃y:Kn.Cr,cs=[.int .i64 y.a,.int .i64 y.b,.int .i64 y.c,.int .i64 y.d,.bool y.p]:=by
 obtain⟨xs,k,_,_,hl,hxl,hf⟩:=DataW.trod_struct Tryz.underlying109 h;rw[Tryz.O5]at hl
 match cs,hl,xs,hxl with
 |[c0,c1,c2,c3,c4],_,[y0,y1,y2,y3,y4],_=>
  have g0:=hf 0 _ rfl;have g1:=hf 1 _ rfl;have g2:=hf 2 _ rfl;have g3:=hf 3 _ rfl;have g4:=hf 4 _ rfl;simp[Tryz.Dq,Tryz.M0]at g0 g1 g2 g3 g4;obtain⟨n0,e0,_,_⟩:=trod_int underlying3 g0;obtain⟨n1,e1,_,_⟩:=trod_int underlying3 g1;obtain⟨n2,e2,_,_⟩:=trod_int underlying3 g2;obtain⟨n3,e3,_,_⟩:=trod_int underlying3 g3;obtain⟨b4,e4,_⟩:=DataW.trod_bool Tryz.underlying4 g4;simp only[cons.injEq,and_true]at e0 e1 e2 e3 e4;subst e0 e1 e2 e3 e4;exact⟨⟨n0,n1,n2,n3,b4⟩,rfl⟩
theorem Y7{enc:TypeId×Value->H}{base:Nat}{v:Value}{d:DataW H}(hv:Value.okWide prog w .any base 24 v)(h:DataW.Trod enc prog w 0 sp true 24 v d p):
 ∃a c X L,v=.agg #[.slice a X.length c,.int .i64 L]/\bV w a X/\X.length<=9223372036854775807/\-9223372036854775808<=L/\L<=9223372036854775807:=by
 obtain⟨cs,rfl,hs⟩:=okWide_struct Tryz.underlying24 hv;obtain⟨fuel,hf⟩:=h;have rQ:(Value.agg cs).cells.toList=cs.toList:=rfl;rw[rQ]at hf;obtain⟨y0,y1,n,_,hl,t0,t1⟩:=trod_struct2 Tryz.underlying24 hf;rw[Tryz.Zi]at hs
 obtain⟨c0,c1,rfl⟩:∃c0 c1,cs=#[c0,c1]:=by
  match cs,hs with
  |⟨[c0,c1]⟩,_=>exact⟨c0,c1,rfl⟩
 simp[Tryz.Zj,Tryz.Dq]at t0 t1;obtain⟨L,e1,_,hw⟩:=trod_int underlying3 t1;simp only[cons.injEq,and_true]at e1;subst e1;have hL:=bounds_i64 hw
 rcases open_slice Tryz.underlying22 t0 with⟨e0,_⟩|⟨a,len,cap,m,k,D,Pl,e0,_,hlc,hm,Ai,_,hx⟩
 · simp only[cons.injEq,and_true]at e0
   subst e0;exact⟨none,0,[],L,rfl,.inl rfl,by simp,by omega,by omega⟩
 simp only[cons.injEq,and_true]at e0;subst e0
 have hml:len<=m:=by rw[Ai];split<;>omega
 have each:∀i,i<len->∃y:Kn.Cr,w.cell? (a.add (i*5))=some (.int .i64 y.a)/\w.cell? (a.add (i*5+1))=some (.int .i64 y.b)/\w.cell? (a.add (i*5+2))=some (.int .i64 y.c)/\w.cell? (a.add (i*5+3))=some (.int .i64 y.d)/\w.cell? (a.add (i*5+4))=some (.bool y.p):=λi hi=>by
  obtain⟨cs',h1,h2⟩:=hx i (by omega);rw[Tryz.O5]at h1;obtain⟨_,_,hcell⟩:=World.cells?_some h1;obtain⟨y,rfl⟩:=VH h2;refine⟨y,?_,?_,?_,?_,?_⟩
  · have:=hcell 0 (by omega);rw[add_add]at this;simpa using this
  · have:=hcell 1 (by omega);rw[add_add]at this;simpa using this
  · have:=hcell 2 (by omega);rw[add_add]at this;simpa using this
  · have:=hcell 3 (by omega);rw[add_add]at this;simpa using this
  have:=hcell 4 (by omega);rw[add_add]at this;simpa using this
 obtain⟨Y,hY⟩:=choose_lt each;refine⟨some a,cap,(range len).map Y,L,by simp,?_,by simp;unfold maxLen at hm;omega,by omega,by omega⟩;by_cases h0:len=0
 · left;subst h0;rfl
 right;obtain⟨b,o,t⟩:=a
 have ht:t=none:=by
  have:=(hY 0 (by omega)).1;simpa[Addr.add]using World.cell?_spot this
 subst ht;refine⟨b,o,rfl,λi hi=>?_⟩
 have hi':i<len:=by simpa using hi
 have e:Kn.cr ((range len).map Y) i=Y i:=by
  unfold Kn.cr
  rw[jc,List.getElem?_map,List.getElem?_range hi'];rfl
 rw[e];obtain⟨h1,h2,h3,h4,h5⟩:=hY i hi';rw[dN]at h1 h2 h3 h4 h5;exact⟨h1,h2,h3,h4,h5⟩
open Go.RowKit Go.Shelf
open Go.ChangeMaps (setBlock heap_setBlock_same heap_setBlock_other)
open Go.WideMaps (KeyLaw)
open Go.WideElems (entry_then_store)
theorem Tryz.FH(w:World):(zeroValue 3).run prog w=.ok (.int .i64 0) w:=by kernel_rfl
theorem nS(w:World)(b:Nat)(x y:Obj):setBlock (setBlock w b x) b y=setBlock w b y:=by
 unfold setBlock
 congr 1
 apply Array.ext_getElem?;intro i;simp[Array.getElem?_setIfInBounds]
theorem D4{b:Nat}{o:Obj}(h:w.heap[b]?=some o):setBlock w b o=w:=by
 obtain⟨hl,e⟩:=jf.1 h
 have:w.heap.setIfInBounds b o=w.heap:=by
  apply Array.ext_getElem?;intro i;rw[Array.getElem?_setIfInBounds];split
  · rename_i c;subst c;rw[h]
  rfl
 unfold setBlock;rw[this]
theorem Dc{P:Program}{t k e:TypeId}{b:Nat}{clock:Nat}(K:KeyLaw P k)(ht:P.underlying t=some (.map k e)){z:Value}(hz:∀u:World,(zeroValue e).run P u=.ok z u)(hb:w.heap[b]?=some (.map es clock))
 (hk:∀x∈es.toList,∃l,keyOf P k x.key=some l) {key:Value} (hkey:keyOf P k key=some kl):
 ∃(x c:Value) (W1:World),(mapEntry t (.map (some b)) key).run P w=.ok x W1/\(lookup t (.map (some b)) key false).run P w=.ok c w/\(lookup t (.map (some b)) key false).run P W1=.ok c W1:=by
 rcases K.find w hkey es.toList hk with⟨h1,h2⟩|⟨j,e0,h1,h2,h3⟩
 · have hb1:(setBlock w b (.map (es.push ⟨key,z,clock⟩) (clock+1))).heap[b]?=some (.map (es.push ⟨key,z,clock⟩) (clock+1)):=heap_setBlock_same hb _
   refine⟨_,z,setBlock w b (.map (es.push ⟨key,z,clock⟩) (clock+1)),by simp[mapEntry,run_underlying ht,MapKept.run_getObj_map hb,K.check w false hkey,h1,hz,MapKept.run_setObj_map _ hb,andThen,setBlock];rfl,by simp[lookup,run_underlying ht,MapKept.run_getObj_map hb,K.check w _ hkey,h1,hz,andThen],?_⟩
   rcases K.find (setBlock w b (.map (es.push ⟨key,z,clock⟩) (clock+1))) hkey (es.push ⟨key,z,clock⟩).toList (λx hx=>by
    rw[Array.toList_push,jx,jB]at hx
    rcases hx with hx|rfl
    · exact hk x hx
    exact⟨kl,hkey⟩)with⟨_,g2⟩|⟨j,e0,g1,g2,g3⟩
   · exact absurd rfl (g2 ⟨key,z,clock⟩ (by simp))
   have hm:=List.mem_of_getElem? g2;rw[Array.toList_push,jx,jB]at hm
   have hv:e0.val=z:=by
    rcases hm with hm|rfl
    · exact absurd g3 (h2 e0 hm)
    rfl
   rw[hv]at g1;simp[lookup,run_underlying ht,MapKept.run_getObj_map hb1,K.check _ _ hkey,andThen];rw[Array.toList_push]at g1;simp[g1]
 have hj:es[j]?=some e0:=by simpa using h2
 have Ah:es.modify j (λe=>{ e with key:=key })=es:=by
  apply Array.ext_getElem?;intro i;rw[Array.getElem?_modify];split
  · rename_i c;subst c
    rw[hj]
    show some ({ e0 with key:=key }:MapEntry)=some e0
    rw[<-h3]
  rfl
 refine⟨_,e0.val,setBlock w b (.map es clock),by simp[mapEntry,run_underlying ht,MapKept.run_getObj_map hb,K.check w false hkey,h1,hj,h3,K.stays w hkey,Ah,MapKept.run_setObj_map _ hb,andThen,setBlock];rfl,by simp[lookup,run_underlying ht,MapKept.run_getObj_map hb,K.check w _ hkey,h1,andThen],?_⟩;rw[D4 hb];simp[lookup,run_underlying ht,MapKept.run_getObj_map hb,K.check w _ hkey,h1,andThen]
open Go.RowKit Go.Shelf
open Go.ChangeMaps (setBlock heap_setBlock_same heap_setBlock_other)
open Go.WideMaps (KeyLaw)
open Go.WideElems (entry_then_store)
abbrev hE:Value->Option (DataW Value×List MemPlace):=λv=>some (.held v,[])
structure GK{α:Type}(K:TypeId)(mk:α->Value)(ok:α->Prop):Prop where
 law:Maps.Keyed prog K
 key:∀p,ok p->∃l,keyOf prog K (mk p)=some l
 inj:∀p q,mk p=mk q->p=q
section
variable {α:Type} [DecidableEq α] {K:TypeId} {mk:α->Value} {ok:α->Prop}
abbrev gD(f:α->Option Value)(p:α)(v:Option Value):α->Option Value:=λq=>if q=p then v else f q
structure GD(K:TypeId)(mk:α->Value)(ok:α->Prop)(D:DataW Value)(f:α->Option Value)(ks:List α):Prop where
 isMap:Maps.IsMap D
 val:∀p k,keyOf prog K (mk p)=some k->∀z,D.atKey k (.held z)=.held ((f p).getD z)
 has:∀p k,keyOf prog K (mk p)=some k->Maps.has D k=(f p).isSome
 key:∀k,Maps.has D k=true->∃p,ok p/\keyOf prog K (mk p)=some k
 nd:ks.Nodup
 mem:∀p,p∈ks↔(f p).isSome=true
 okk:∀p∈ks,ok p
 size:Maps.size D=ks.length
def dx(K:TypeId)(mk:α->Value)(ok:α->Prop)(W:World)(mb n:Nat)(f:α->Option Value)(ks:List α):Prop:=∃D:DataW Value,W.ownsMap prog K hE mb n D/\GD K mk ok D f ks
omit [DecidableEq α] in
theorem GD.empty:GD K mk ok (.map []) (λ_=>none) []:=⟨Maps.isMap_empty,(λ_ _ _ _=>rfl),(λ_ _ _=>rfl),(λ_ h=>by cases h),List.nodup_nil,λp=>by simp,λ_ h=>(by cases h),rfl⟩
def Eh(ks:List α)(p:α):List α:=if p∈ks then ks else ks++[p]
theorem GD.put(hK:GK K mk ok){D:DataW Value}{f:α->Option Value}{ks:List α}(h:GD K mk ok D f ks)(ht:Maps.Tidy D){p:α}(hp:ok p){v:Value}{kl:Lit}(hk:keyOf prog K (mk p)=some kl):GD K mk ok (D.put kl (.held v)) (gD f p (some v)) (Eh ks p):=by
 have fY:=hK.law.key hk
 have ne:∀q k,keyOf prog K (mk q)=some k->q≠p->k≠kl:=λq k hq hn e=>hn (hK.inj _ _ (hK.law.inj (e ▸ hq) hk))
 have Be:p∈ks↔Maps.has D kl=true:=by rw[h.mem,h.has p kl hk]
 refine⟨h.isMap.put _ _,λq k hq z=>?_,λq k hq=>?_,λk hx=>?_,?_,λq=>?_,λq hq=>?_,?_⟩
 · by_cases c1:q=p
   · subst c1
     rw[hk]at hq;cases hq
     rw[Maps.atKey_put_same h.isMap fY];simp[gD]
   rw[Maps.atKey_put_other (ne q k hq c1),h.val q k hq];simp[gD,c1]
 · by_cases c1:q=p
   · subst c1
     rw[hk]at hq;cases hq
     rw[Maps.has_put_same h.isMap fY];simp[gD]
   rw[Maps.has_put_other (ne q k hq c1),h.has q k hq];simp[gD,c1]
 · by_cases c1:k=kl
   · subst c1;exact⟨p,hp,hk⟩
   rw[Maps.has_put_other c1]at hx;exact h.key k hx
 · unfold Eh
   split
   · exact h.nd
   rename_i c;rw[jU];exact⟨h.nd,by simp,λa ha b hb e=>c (by rw[jB.1 hb]at e;exact e ▸ ha)⟩
 · unfold Eh gD
   by_cases c1:q=p
   · subst c1
     by_cases c:q∈ks
     · simp[c]
     simp[c]
   have:=h.mem q;by_cases c:p∈ks
   · simp[c,c1,this]
   simp[c,c1,this]
 · unfold Eh at hq
   split at hq
   · exact h.okk q hq
   rcases jx.1 hq with hq|hq
   · exact h.okk q hq
   rw[jB.1 hq];exact hp
 rw[Maps.size_put ht,h.size];unfold Eh;by_cases c:p∈ks
 · rw[if_pos (Be.1 c),if_pos c]
 rw[if_neg (λe=>c (Be.2 e)),if_neg c];simp
def XZ(ks:List α)(p:α):List α:=ks.filter λq=>!decide (q=p)
theorem I1{p:α}:∀{ks:List α},ks.Nodup->(XZ ks p).length+(if p∈ks then 1 else 0)=ks.length
 |[],_=>rfl
 |a :: ks,h=>by
  rw[List.nodup_cons]at h;have ih:=I1 (p:=p) h.2;unfold XZ at ih ⊢;by_cases c:a=p
  · subst c
    rw[List.filter_cons_of_neg (by simp),if_pos (by simp)];rw[if_neg h.1]at ih
    simp at ih ⊢;omega
  rw[List.filter_cons_of_pos (by simp[c])]
  have e:(p∈a :: ks)↔p∈ks:=by simp[show ¬p=a from λq=>c q.symm]
  rw[jE,jE];by_cases d:p∈ks
  · rw[if_pos d]at ih;rw[if_pos (e.2 d)];omega
  rw[if_neg d]at ih;rw[if_neg (λq=>d (e.1 q))];omega
theorem GD.del(hK:GK K mk ok){D:DataW Value}{f:α->Option Value}{ks:List α}(h:GD K mk ok D f ks)(ht:Maps.Tidy D){p:α}{kl:Lit}(hk:keyOf prog K (mk p)=some kl):GD K mk ok (D.del kl) (gD f p none) (XZ ks p):=by
 have ne:∀q k,keyOf prog K (mk q)=some k->q≠p->k≠kl:=λq k hq hn e=>hn (hK.inj _ _ (hK.law.inj (e ▸ hq) hk))
 have Be:p∈ks↔Maps.has D kl=true:=by rw[h.mem,h.has p kl hk]
 refine⟨h.isMap.del _,λq k hq z=>?_,λq k hq=>?_,λk hx=>?_,h.nd.filter _,λq=>?_,λq hq=>?_,?_⟩
 · by_cases c1:q=p
   · subst c1
     rw[hk]at hq;cases hq
     rw[Maps.atKey_of_not_has Maps.has_del_same];simp[gD]
   rw[Maps.atKey_del_other (ne q k hq c1),h.val q k hq];simp[gD,c1]
 · by_cases c1:q=p
   · subst c1
     rw[hk]at hq;cases hq
     rw[Maps.has_del_same];simp[gD]
   rw[Maps.has_del_other (ne q k hq c1),h.has q k hq];simp[gD,c1]
 · by_cases c1:k=kl
   · subst c1;rw[Maps.has_del_same]at hx;cases hx
   rw[Maps.has_del_other c1]at hx;exact h.key k hx
 · unfold XZ gD
   by_cases c1:q=p
   · simp[c1]
   simp[c1,h.mem q]
 · exact h.okk q (jC.1 hq).1
 have h1:=Maps.size_del (k:=kl) ht;have h2:=I1 (p:=p) h.nd;rw[h.size]at h1;by_cases c:p∈ks
 · rw[if_pos (Be.1 c)]at h1;rw[if_pos c]at h2;omega
 rw[if_neg (λe=>c (Be.2 e))]at h1;rw[if_neg c]at h2;omega
omit [DecidableEq α] in
theorem dx.made(w:World):dx K mk ok (w.alloc (.map #[] 0)) w.heap.size 0 (λ_=>none) []:=⟨_,World.ownsMap_made _ _ _ _,GD.empty⟩
omit [DecidableEq α] in
theorem dx.fr{W':World}{f:α->Option Value}{ks:List α}(h:dx K mk ok W mb n f ks)(hf:Fr S W W')(hs:¬S mb):dx K mk ok W' mb n f ks:=by
 obtain⟨D,⟨es,ck,hb,r⟩,h1⟩:=h;exact⟨D,⟨es,ck,(hf.block mb (jf.1 hb).1 hs).trans hb,r⟩,h1⟩
omit [DecidableEq α] in
theorem dx.lt{W:World}{mb n:Nat}{f:α->Option Value}{ks:List α}(h:dx K mk ok W mb n f ks):mb<W.heap.size:=by
 obtain⟨D,ho,_⟩:=h;exact ho.lt
omit [DecidableEq α] in
theorem dx.mono{W:World}{mb n n':Nat}{f:α->Option Value}{ks:List α}(h:dx K mk ok W mb n f ks)(hn:n<=n'):dx K mk ok W mb n' f ks:=by
 obtain⟨D,ho,hd⟩:=h;exact⟨D,ho.mono hn,hd⟩
omit [DecidableEq α] in
theorem dx.blk{f:α->Option Value}{ks:List α}(h:dx K mk ok W mb n f ks):∃es ck,W.heap[mb]?=some (.map es ck):=by
 obtain⟨D,⟨es,ck,hb,_⟩,_⟩:=h;exact⟨es,ck,hb⟩
omit [DecidableEq α] in
theorem dx.look(hK:GK K mk ok){f:α->Option Value}{ks:List α}(h:dx K mk ok W mb n f ks){T e:TypeId}(ul:prog.underlying T=some (.map K e)){z:Value}(hz:(zeroValue e).run prog W=.ok z W){p:α}(hp:ok p):
 (lookup T (.map (some mb)) (mk p) false).run prog W=.ok ((f p).getD z) W:=by
 obtain⟨D,hown,hd⟩:=h;obtain⟨kl,hk⟩:=hK.key p hp;obtain⟨v,ps,hrun,hR⟩:=hown.lookup hK.law ul hz (R:=hE) (zd:=.held z) (zp:=[]) rfl hk;rw[hd.val p kl hk]at hR
 have e:v=(f p).getD z:=by
  have:=Option.some.inj hR;exact held.inj (Prod.ext_iff.1 this).1
 rw[<-e];exact hrun
omit [DecidableEq α] in
theorem dx.len{W:World}{mb n:Nat}{f:α->Option Value}{ks:List α}(h:dx K mk ok W mb n f ks){T e:TypeId}(ul:prog.underlying T=some (.map K e))(ty:TypeId):
 (Builtin.len_ #[T] ty #[.map (some mb)]).run prog W=.ok (.int .i64 (ks.length:Nat)) W:=by
 obtain⟨D,hown,hd⟩:=h
 rw[<-hd.size];exact hown.len ul ty
theorem dx.put(hK:GK K mk ok){W:World}{mb n:Nat}{f:α->Option Value}{ks:List α}(h:dx K mk ok W mb n f ks)(hn:n<maxLen){T e:TypeId}(ul:prog.underlying T=some (.map K e)){p:α}(hp:ok p)(v:Value):
 ∃w',(Instr.mapUpdate T (.map (some mb)) (mk p) v).run prog W=.ok () w'/\dx K mk ok w' mb (n+1) (gD f p (some v)) (Eh ks p)/\Fr (λk=>k=mb) W w':=by
 obtain⟨D,hown,hd⟩:=h;obtain⟨kl,hk⟩:=hK.key p hp;obtain⟨w',hrun,mH,JK⟩:=hown.update hK.law ul hn hk (d:=.held v) (ps:=[]) rfl;exact⟨w',hrun,⟨_,mH,hd.put hK (hown.tidy hK.law) hp hk⟩,(Fr.refl _ W).grown JK λk e=>.inl (Option.some.inj e).symm⟩
end
open Go.RowKit Go.Shelf
open Go.ChangeMaps (setBlock heap_setBlock_same heap_setBlock_other)
open Go.WideMaps (KeyLaw)
open Go.WideElems (entry_then_store)
section
variable {α:Type} [DecidableEq α] {K:TypeId} {mk:α->Value} {ok:α->Prop}
theorem dx.entry(hK:GK K mk ok)(KL:KeyLaw prog K){f:α->Option Value}{ks:List α}(h:dx K mk ok W mb n f ks)(hn:n<maxLen){T e:TypeId}(ul:prog.underlying T=some (.map K e)){z:Value}(hz:∀u:World,(zeroValue e).run prog u=.ok z u){p:α}(hp:ok p)(v:Value):
 ∃(v0:Value) (st:Int) (W1 W2:World),(mapEntry T (.map (some mb)) (mk p)).run prog W=.ok (.tuple #[v0,.int .i64 st]) W1/\Fr (λk=>k=mb) W W1/\(lookup T (.map (some mb)) (mk p) false).run prog W1=.ok ((f p).getD z) W1 /\
  (Instr.entryStore T (.map (some mb)) (.int .i64 st) v).run prog W1=.ok () W2/\dx K mk ok W2 mb (n+1) (gD f p (some v)) (Eh ks p)/\Fr (λk=>k=mb) W W2:=by
 have hlk:=h.look hK ul (hz W) hp;obtain⟨D,hown,hd⟩:=h;have htd:=hown.tidy hK.law;obtain⟨kl,hk⟩:=hK.key p hp;obtain⟨w',hrun,mH,JK⟩:=hown.update hK.law ul hn hk (d:=.held v) (ps:=[]) rfl;obtain⟨es,ck,hb,F,_⟩:=hown;obtain⟨v0,st,mQ,VP,hr1,_,hst⟩:=entry_then_store (w:=W) KL ul hz hb F hk;have hb1:(setBlock W mb (.map mQ VP)).heap[mb]?=some (.map mQ VP):=heap_setBlock_same hb _;obtain⟨es',ck',hr2,hr3⟩:=hst (setBlock W mb (.map mQ VP)) v hb1;rw[nS]at hr2
 have e:w'=setBlock W mb (.map es' ck'):=by
  rw[hrun]at hr3;cases hr3;rfl
 have hF:∀o,Fr (λk=>k=mb) W (setBlock W mb o):=λo=>⟨rfl,rfl,rfl,by simp[setBlock],λi _ hi=>heap_setBlock_other hb _ (λe=>hi e)⟩
 obtain⟨x0,c0,W0,e1,e2,e3⟩:=Dc (w:=W) KL ul hz hb F.keys hk;rw[hr1]at e1;obtain⟨-,rfl⟩:=Result.ok.inj e1;rw[hlk]at e2;obtain⟨rfl,-⟩:=Result.ok.inj e2;refine⟨v0,st,_,_,hr1,hF _,e3,hr2,⟨_,?_,hd.put hK htd hp hk⟩,hF _⟩
 rw[<-e];exact mH
structure mX(K:TypeId)(mk:α->Value)(ok:α->Prop)(D:DataW Value)(f:α->Option Value)(ks:List α)(left:Lit->Bool)(done:List α):Prop where
 pd:GD K mk ok D f ks
 sub:∀k,left k=true->Maps.has D k=true
 nd:done.Nodup
 mem:∀p∈done,p∈ks
 new:∀p∈done,∀k,keyOf prog K (mk p)=some k->left k=false
 all:∀p k,keyOf prog K (mk p)=some k->Maps.has D k=true->left k=false->p∈done
variable {D:DataW Value} {f:α->Option Value} {ks:List α} {left:Lit->Bool} {done:List α}
omit [DecidableEq α] in
theorem mX.start(h:GD K mk ok D f ks):mX K mk ok D f ks (Maps.has D) []:=
 ⟨h,λ_ x=>x,List.nodup_nil,λ_ h=>by (cases h),λ_ h=>by (cases h),λ_ _ _ h1 h2=>by rw[h1]at h2;cases h2⟩
omit [DecidableEq α] in
theorem mX.step(hK:GK K mk ok)(h:mX K mk ok D f ks left done){p:α}(hk:keyOf prog K (mk p)=some kl)(hl:left kl=true)(hm:p∈ks):
 mX K mk ok D f ks (λz=>left z && !z.sameKey kl) (done++[p]):=by
 have self:kl.sameKey kl=true:=Go.WideAt.sameKey_self (hK.law.key hk);refine⟨h.pd,λk x=>h.sub k (by simp only[jp]at x;exact x.1),?_,?_,?_,?_⟩
 · rw[jU]
   refine⟨h.nd,by simp,λa ha b hb e=>?_⟩
   have hb:b=p:=by simpa using hb
   subst hb;have:=h.new a ha kl (by rw[e];exact hk);rw[hl]at this;cases this
 · intro t ht
   rcases jx.1 ht with ht|ht
   · exact h.mem t ht
   obtain rfl:t=p:=by simpa using ht
   exact hm
 · intro t ht k CU
   rcases jx.1 ht with ht|ht
   · rw[h.new t ht k CU,Bool.false_and]
   obtain rfl:t=p:=by simpa using ht
   rw[hk]at CU;cases CU
   rw[self];simp
 intro q k OJ hh hl0;by_cases c:left k=true
 · have h1:k.sameKey kl=true:=by simpa[c]using hl0
   have e:k=kl:=by
    apply js;intro ne
    rw[Go.Maps.sameKey_ne ne]at h1;cases h1
   subst e;have:=hK.inj _ _ (hK.law.inj hk OJ);simp[this]
 have:=h.all q k OJ hh (by simpa using c);simp[this]
omit [DecidableEq α] in
theorem mX.perm(hK:GK K mk ok)(h:mX K mk ok D f ks left done)(hl:∀k,left k=false):done.Perm ks:=by
 refine(jR h.nd h.pd.nd).2 λp=>⟨h.mem p,λhp=>?_⟩
 obtain⟨k,hk⟩:=hK.key p (h.pd.okk p hp);exact h.all p k hk (by rw[h.pd.has p k hk];exact(h.pd.mem p).1 hp) (hl k)
abbrev Xv(K:TypeId)(W:World)(mb r n:Nat)(D:DataW Value)(left:Lit->Bool)(cnt:Nat):Prop:=W.ranges prog K hE mb r n D left cnt
theorem Xv.fr{W':World}{r:Nat}{cnt:Nat}(h:Xv K W mb r n D left cnt)(hF:Fr S W W')(h1:¬S mb)(h2:¬S r):Xv K W' mb r n D left cnt:=by
 have k1:=h.owns.lt;have k2:=h.lt;obtain⟨es,clock,since,seen,c0,hb,F,hs,hD,hr,rest⟩:=h;exact⟨es,clock,since,seen,c0,(hF.block mb k1 h1).trans hb,F,hs,hD,(hF.block r k2 h2).trans hr,rest⟩
variable {w:World} {ops:Array Oper} {rest:List Oper} {o:Oper} {a:Act} {Q:Exit->Act->World->Prop}
omit [DecidableEq α] in
theorem pR(hK:GK K mk ok)(hg:o.guard=none)(it:Operand)(hop:o.op=Op.next it false)(mb r n:Nat)(cnt:Nat)
 (hit:a.eval it=.pointer (some ⟨r,0,none⟩)) (h:Xv K w mb r n D left cnt) (hd:mX K mk ok D f ks left done)
 (hDone:(∀kl,left kl=false)->wpList prog ops Q rest (a.put o.dst (.tuple #[.bool false])) w)
 (hMore:∀(p:α) (v:Value) (kl:Lit) (w':World) (cnt':Nat),Hd (p∈ks)->Hd (f p=some v)->Xv K w' mb r n D (λz=>left z && !z.sameKey kl) cnt'->cnt'<cnt ->
  mX K mk ok D f ks (λz=>left z && !z.sameKey kl) (done++[p]) ->
  Fr (λk=>k=r) w w'->(Instr.entry (.pointer (some ⟨r,0,none⟩))).run prog w'=.ok (.tuple #[mk p,v]) w' ->
  wpList prog ops Q rest (a.put o.dst (.tuple #[.bool true,mk p,v])) w'):
 wpList prog ops Q (o :: rest) a w:=by
 refine wpList_next_ranges w hg it hop K hK.law hE id id (λkey _ _=>⟨key,rfl⟩) (λv _ _=>⟨v,rfl⟩) mb r n D left cnt hit h (λ_ hl=>hDone hl) ?_
 intro x c kl y w' cnt' hk hl hR hat hrg hlt hgr _ hen;obtain⟨p,_,uT⟩:=hd.pd.key kl (hd.sub kl hl);have ex:x=mk p:=hK.law.inj hk uT
 have hs:(f p).isSome=true:=by rw[<-hd.pd.has p kl uT];exact hd.sub kl hl
 have hm:p∈ks:=(hd.pd.mem p).2 hs;have e1:=hat (.held undef);rw[hd.pd.val p kl uT]at e1;have hy:y=(.held c,[]):=(Option.some.inj hR).symm;rw[hy]at e1;have e2:(f p).getD undef=c:=held.inj e1;obtain⟨v,hv⟩:=Option.isSome_iff_exists.1 hs;rw[hv]at e2;have ec:c=v:=e2.symm;subst ex ec;exact hMore p c kl w' cnt' (jd hm) (jd hv) hrg hlt (hd.step hK uT hl hm) ⟨hgr.os,hgr.tape,hgr.output,hgr.size,λi hi hne=>hgr.block i hi (λe=>hne (Option.some.inj e))⟩ hen
end
end Go.Proofs.YtfplmbmenjdlhaaGreatDoor
