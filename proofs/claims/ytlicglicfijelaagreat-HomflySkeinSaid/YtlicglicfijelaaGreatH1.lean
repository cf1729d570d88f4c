/- What comes in: a diagram, as the walks want it. -/
import Derived.ProofKit
import Derived.OpenShut
import Derived.ChangeOld
import Derived.Below
import Derived.Deep.Slices
import Derived.Test.YtlicglicfijelaaGreatW14
import Derived.Maps.RangeWalk
import Derived.WideKeyEntry
import Derived.Test.YtlicglicfijelaaGreatMAll
/- What comes in: a diagram, as the walks want it. -/
namespace Go.Proofs.YtlicglicfijelaaGreat
open Go.ChangeShapes Go.WideShapes Go.Deep Go.RowKit

theorem Tryz.cells24:Tryz.prog.cellsOf 24=2:=by kernel_rfl
theorem Tryz.cells58:Tryz.prog.cellsOf 41=5:=by kernel_rfl
theorem Tryz.cells22:Tryz.prog.cellsOf 22=1:=by kernel_rfl
theorem Tryz.cells3:Tryz.prog.cellsOf 3=1:=by kernel_rfl
theorem Tryz.cells4:Tryz.prog.cellsOf 4=1:=by kernel_rfl
set_option maxRecDepth 100000 in
theorem cross_in{H:Type}{enc:TypeId×Value→H}{w:World}{sp:Nat→Bool}{n:Nat}{cs:List Value}{x:DataW H×List MemPlace}(h:DataW.trod enc Tryz.prog w 0 sp true n 41 cs=some x):
 ∃y:Kn.Cr,cs=[.int .i64 y.a,.int .i64 y.b,.int .i64 y.c,.int .i64 y.d,.bool y.p]:=by
 obtain⟨xs,k,_,_,hl,hxl,hf⟩:=DataW.trod_struct Tryz.underlying41 h;rw[Tryz.cells58]at hl
 match cs,hl,xs,hxl with
 |[c0,c1,c2,c3,c4],_,[y0,y1,y2,y3,y4],_=>
  have g0:=hf 0 _ rfl;have g1:=hf 1 _ rfl;have g2:=hf 2 _ rfl;have g3:=hf 3 _ rfl;have g4:=hf 4 _ rfl
  simp[Tryz.cells3,Tryz.cells4]at g0 g1 g2 g3 g4
  obtain⟨n0,e0,_,_⟩:=DataW.trod_int Tryz.underlying3 g0;obtain⟨n1,e1,_,_⟩:=DataW.trod_int Tryz.underlying3 g1;obtain⟨n2,e2,_,_⟩:=DataW.trod_int Tryz.underlying3 g2;obtain⟨n3,e3,_,_⟩:=DataW.trod_int Tryz.underlying3 g3;obtain⟨b4,e4,_⟩:=DataW.trod_bool Tryz.underlying4 g4;simp only[List.cons.injEq,and_true]at e0 e1 e2 e3 e4;subst e0 e1 e2 e3 e4
  exact⟨⟨n0,n1,n2,n3,b4⟩,rfl⟩
set_option maxRecDepth 100000 in
theorem diag_in{H:Type}{enc:TypeId×Value→H}{w:World}{sp:Nat→Bool}{base:Nat}{v:Value}{d:DataW H}{p:List MemPlace}(hv:Value.okWide Tryz.prog w .any base 24 v)(h:DataW.Trod enc Tryz.prog w 0 sp true 24 v d p):
 ∃a c X L,v=.agg #[.slice a X.length c,.int .i64 L]∧CrsAt w a X∧X.length≤9223372036854775807∧-9223372036854775808≤L∧L≤9223372036854775807:=by
 obtain⟨cs,rfl,hs⟩:=okWide_struct Tryz.underlying24 hv;obtain⟨fuel,hf⟩:=h;have hcells:(Value.agg cs).cells.toList=cs.toList:=rfl;rw[hcells]at hf;obtain⟨y0,y1,n,_,hl,t0,t1⟩:=trod_struct2 Tryz.underlying24 hf;rw[Tryz.cells24]at hs
 obtain⟨c0,c1,rfl⟩:∃c0 c1,cs=#[c0,c1]:=by
  match cs,hs with
  |⟨[c0,c1]⟩,_=>exact⟨c0,c1,rfl⟩
 simp[Tryz.cells22,Tryz.cells3]at t0 t1
 obtain⟨L,e1,_,hw⟩:=DataW.trod_int Tryz.underlying3 t1;simp only[List.cons.injEq,and_true]at e1;subst e1;have hL:=bounds_i64 hw
 rcases open_slice Tryz.underlying22 t0 with⟨e0,_⟩|⟨a,len,cap,m,k,D,Pl,e0,_,hlc,hm,hmm,_,hx⟩
 · simp only[List.cons.injEq,and_true]at e0
   subst e0
   exact⟨none,0,[],L,rfl,.inl rfl,by simp,by omega,by omega⟩
 · simp only[List.cons.injEq,and_true]at e0
   subst e0
   have hml:len≤m:=by rw[hmm];split<;>omega
   have each:∀i,i<len→∃y:Kn.Cr,w.cell? (a.add (i*5))=some (.int .i64 y.a)∧w.cell? (a.add (i*5+1))=some (.int .i64 y.b)∧w.cell? (a.add (i*5+2))=some (.int .i64 y.c)∧w.cell? (a.add (i*5+3))=some (.int .i64 y.d)∧w.cell? (a.add (i*5+4))=some (.bool y.p):=fun i hi=>by
    obtain⟨cs',h1,h2⟩:=hx i (by omega);rw[Tryz.cells58]at h1;obtain⟨_,_,hcell⟩:=World.cells?_some h1;obtain⟨y,rfl⟩:=cross_in h2
    refine⟨y,?_,?_,?_,?_,?_⟩
    · have:=hcell 0 (by omega);rw[add_add]at this;simpa using this
    · have:=hcell 1 (by omega);rw[add_add]at this;simpa using this
    · have:=hcell 2 (by omega);rw[add_add]at this;simpa using this
    · have:=hcell 3 (by omega);rw[add_add]at this;simpa using this
    · have:=hcell 4 (by omega);rw[add_add]at this;simpa using this
   obtain⟨Y,hY⟩:=choose_lt each
   refine⟨some a,cap,(List.range len).map Y,L,by simp,?_,by simp;unfold maxLen at hm;omega,by omega,by omega⟩
   by_cases h0:len=0
   · left;subst h0;rfl
   · right
     obtain⟨b,o,t⟩:=a
     have ht:t=none:=by
      have:=(hY 0 (by omega)).1
      simpa[Addr.add]using World.cell?_spot this
     subst ht
     refine⟨b,o,rfl,fun i hi=>?_⟩
     have hi':i<len:=by simpa using hi
     have e:Kn.cr ((List.range len).map Y) i=Y i:=by
      unfold Kn.cr
      rw[List.getD_eq_getElem?_getD,List.getElem?_map,List.getElem?_range hi'];rfl
     rw[e];obtain⟨h1,h2,h3,h4,h5⟩:=hY i hi';rw[addr_add]at h1 h2 h3 h4 h5
     exact⟨h1,h2,h3,h4,h5⟩
end Go.Proofs.YtlicglicfijelaaGreat

/- Words: maps keyed by powers. -/
namespace Go.Proofs.YtlicglicfijelaaGreat
open Go.RowKit Go.Shelf
open Go.ChangeMaps (setBlock heap_setBlock_same heap_setBlock_other)
open Go.WideMaps (KeyLaw)
open Go.WideElems (entry_then_store)
open Kn (E2 L2 cf szL sl)

theorem Tryz.row56:(56:TypeId)<Tryz.prog.types.size:=of_decide_eq_true (by kernel_rfl)
theorem Tryz.wide56:(match Tryz.prog.underlying 56 with|some (.array _ _)|some (.struct _)=>true|_=>false)=true:=by kernel_rfl
theorem Tryz.key56:Tryz.prog.keyTypeAt 2 56=true:=by kernel_rfl
set_option maxRecDepth 10000 in
theorem Tryz.klaw56:KeyLaw Tryz.prog 56:=deep_law_laid Tryz.laidOut (m:=2) (by omega) Tryz.row56 Tryz.key56 Tryz.wide56
theorem Tryz.law56:Maps.Keyed Tryz.prog 56:=Maps.Keyed.of_law Tryz.klaw56
theorem Tryz.ul48:Tryz.prog.underlying 48=some (.map 56 3):=by kernel_rfl
theorem Tryz.zero3'(w:World):(zeroValue 3).run Tryz.prog w=.ok (.int .i64 0) w:=by kernel_rfl
theorem Tryz.un51 : (match Tryz.prog.underlying 56 with | some (.struct fs) => fs.toList.map (fun f => (f.name != "_", f.type, f.offset)) | _ => []) = [(true, 3, 0), (true, 3, 1)] := by kernel_rfl
theorem Tryz.size1:1≤Tryz.prog.types.size:=of_decide_eq_true (by kernel_rfl)
theorem Tryz.cells51:Tryz.prog.cellsOf 56=2:=by kernel_rfl
theorem Tryz.kt56:Tryz.prog.keyType 56=true:=by kernel_rfl
abbrev pV(p:E2):Value:=.agg #[.int .i64 p.1,.int .i64 p.2]
def isPw(p:E2):Prop:=(-1000000000≤p.1∧p.1≤1000000000)∧-1000000000≤p.2∧p.2≤1000000000
theorem pKey{p:E2}(h:isPw p):∃l,keyOf Tryz.prog 56 (pV p)=some l:=by
 have h1:(Lit.int .i64 p.1).wf=true:=wf64 (by have:=h.1;omega);have h2:(Lit.int .i64 p.2).wf=true:=wf64 (by have:=h.2;omega);have hu:=Tryz.un51
 cases e:Tryz.prog.underlying 56 with
 |none=>rw[e]at hu;cases hu
 |some d=>
  rw[e]at hu
  cases d<;>try (cases hu)
  rename_i fs
  simp only at hu
  cases hf:fs.toList with
  |nil=>rw[hf]at hu;simp at hu
  |cons f r=>
   rw[hf]at hu
   cases r with
   |nil=>simp at hu
   |cons g r=>
    cases r with
    |cons x y=>simp at hu
    |nil=>
     simp only[List.map_cons,List.map_nil,List.cons.injEq,Prod.mk.injEq,and_true]at hu;obtain⟨⟨f1,f2,f3⟩,g1,g2,g3⟩:=hu
     obtain⟨n,hn⟩:∃n,Tryz.prog.types.size=n+1:=⟨Tryz.prog.types.size-1,by have:=Tryz.size1;omega⟩
     have hall : fs.all (fun f => f.name != "_") = true := by
      rw[←Array.all_toList,hf]
      simp[f1,g1]
     have hall' : (fs.all fun x => !(x.name == "_")) = true := hall
     unfold keyOf
     rw[e];simp only[Tryz.kt56,Bool.true_and];rw[if_pos (by show Value.formed _ _ _=true;unfold Value.formed pV;rw[e];simp[Tryz.cells51])]
     have key:Tryz.prog.keyLits (n+1+1) 56 [.int .i64 p.1,.int .i64 p.2]=some [.int .i64 p.1,.int .i64 p.2]:=by
      unfold Program.keyLits
      simp only[e,Tryz.cells51];rw[if_pos ⟨rfl,hall⟩,hf];simp only[List.mapM_cons,List.mapM_nil,f2,f3,g2,g3,Tryz.cells3,List.drop_zero,List.take,List.drop]
      have k1:∀{a:Int},(Lit.int .i64 a).wf=true→Tryz.prog.keyLits (n+1) 3 [.int .i64 a]=some [.int .i64 a]:=fun {a} ha=>by
       unfold Program.keyLits
       simp only[Tryz.underlying3]
       simp[ha]
      rw[k1 h1,k1 h2]
      rfl
     have e2:(pV p).cells.toList=[.int .i64 p.1,.int .i64 p.2]:=rfl;rw[e2,hn,key]
     exact⟨_,rfl⟩
theorem pV_inj{p q:E2}(h:pV p=pV q):p=q:=by
 obtain⟨a,b⟩:=p;obtain⟨c,d⟩:=q;simp only[pV,Value.agg.injEq,Array.mk.injEq,List.cons.injEq,Value.int.injEq,true_and,and_true]at h;rw[h.1,h.2]
structure PD(D:DataW Unit)(l:L2):Prop where
 isMap:Maps.IsMap D
 val:∀(p:E2) k,keyOf Tryz.prog 56 (pV p)=some k→D.atKey k (.lit (.int .i64 0))=.lit (.int .i64 (cf l p))
 key:∀k,Maps.has D k=true→∃p:E2,keyOf Tryz.prog 56 (pV p)=some k∧∃t∈l,t.1=p
def PMap(W:World)(mb n:Nat)(l:L2):Prop:=∃D:DataW Unit,W.ownsMap Tryz.prog 56 (plainElem Tryz.prog 3) mb n D∧PD D l
theorem PD.empty:PD (.map []) []:=⟨Maps.isMap_empty,(fun _ _ _=>rfl),(fun _ h=>by cases h)⟩
theorem PD.congr{D:DataW Unit}{l m:L2}(h:PD D l)(e:∀a,cf l a=cf m a)(k:∀t∈l,∃s∈m,s.1=t.1):PD D m:=
 ⟨h.isMap,(fun p x hx=>by rw[h.val p x hx,e]),fun x hx=>by
  obtain⟨p,hp,t,ht,et⟩:=h.key x hx;obtain⟨s,hs,es⟩:=k t ht
  exact⟨p,hp,s,hs,es.trans et⟩⟩
theorem PD.put{D:DataW Unit}{l:L2}(h:PD D l){p:E2}{c:Int}{kl:Lit}(hk:keyOf Tryz.prog 56 (pV p)=some kl):PD (D.put kl (.lit (.int .i64 (cf l p+c)))) (l++[(p,c)]):=by
 have hkl:=Tryz.law56.key hk
 have ne:∀q k,keyOf Tryz.prog 56 (pV q)=some k→q≠p→k≠kl:=fun q k hq hn e=>hn (pV_inj (Tryz.law56.inj (e ▸ hq) hk))
 refine⟨h.isMap.put _ _,fun q k hq=>?_,fun k hx=>?_⟩
 · by_cases c1:q=p
   · subst c1
     rw[hk]at hq;cases hq
     rw[Maps.atKey_put_same h.isMap hkl,Kn.cf_app,Kn.cf_cons,if_pos rfl]
     simp[cf,Kn.tt_nil]
   · rw[Maps.atKey_put_other (ne q k hq c1),h.val q k hq,Kn.cf_app,Kn.cf_cons,if_neg fun e=>c1 e.symm]
     simp[cf,Kn.tt_nil]
 · by_cases c1:k=kl
   · subst c1
     exact⟨p,hk,(p,c),by simp,rfl⟩
   · rw[Maps.has_put_other c1]at hx
     obtain⟨q,hq,t,ht,e⟩:=h.key k hx
     exact⟨q,hq,t,by simp[ht],e⟩
theorem PMap.made(w:World):PMap (w.alloc (.map #[] 0)) w.heap.size 0 []:=⟨_,World.ownsMap_made _ _ _ _,PD.empty⟩
theorem PMap.fr{S:Nat→Prop}{W W':World}{mb n:Nat}{l:L2}(h:PMap W mb n l)(hf:Fr S W W')(hs:¬S mb):PMap W' mb n l:=by
 obtain⟨D,⟨es,ck,hb,r⟩,h1⟩:=h
 exact⟨D,⟨es,ck,(hf.block mb (Array.getElem?_eq_some_iff.1 hb).1 hs).trans hb,r⟩,h1⟩
theorem PMap.lt{W:World}{mb n:Nat}{l:L2}(h:PMap W mb n l):mb<W.heap.size:=by
 obtain⟨D,ho,_⟩:=h;exact ho.lt
theorem PMap.mono{W:World}{mb n n':Nat}{l:L2}(h:PMap W mb n l)(hn:n≤n'):PMap W mb n' l:=by
 obtain⟨D,ho,hd⟩:=h;exact⟨D,ho.mono hn,hd⟩
theorem PMap.blk{W:World}{mb n:Nat}{l:L2}(h:PMap W mb n l):∃es ck,W.heap[mb]?=some (.map es ck):=by
 obtain⟨D,⟨es,ck,hb,_⟩,_⟩:=h
 exact⟨es,ck,hb⟩
theorem PMap.congr{W:World}{mb n:Nat}{l m:L2}(h:PMap W mb n l)(e:∀a,cf l a=cf m a)(k:∀t∈l,∃s∈m,s.1=t.1):PMap W mb n m:=by
 obtain⟨D,ho,hd⟩:=h
 exact⟨D,ho,hd.congr e k⟩
theorem PMap.look{W:World}{mb n:Nat}{l:L2}(h:PMap W mb n l){p:E2}(hp:isPw p):(Instr.lookup 48 (.map (some mb)) (pV p) false).run Tryz.prog W=.ok (.int .i64 (cf l p)) W:=by
 obtain⟨D,hown,hd⟩:=h;obtain⟨kl,hk⟩:=pKey hp;obtain⟨c,hrun,hat,_⟩:=hown.lookup_int Tryz.law56 Tryz.ul48 Tryz.underlying3 (Tryz.zero3' _) hk;rw[hd.val p kl hk]at hat;have e:=(Lit.int.inj (DataW.lit.inj hat)).2
 rw[e];exact hrun
theorem setBlock_twice(w:World)(b:Nat)(x y:Obj):setBlock (setBlock w b x) b y=setBlock w b y:=by
 unfold setBlock
 congr 1
 apply Array.ext_getElem?
 intro i
 simp[Array.getElem?_setIfInBounds]
theorem setBlock_self{w:World}{b:Nat}{o:Obj}(h:w.heap[b]?=some o):setBlock w b o=w:=by
 obtain⟨hl,e⟩:=Array.getElem?_eq_some_iff.1 h
 have:w.heap.setIfInBounds b o=w.heap:=by
  apply Array.ext_getElem?
  intro i
  rw[Array.getElem?_setIfInBounds]
  split
  · rename_i c;subst c;rw[h]
  · rfl
 unfold setBlock
 rw[this]
theorem entry_look{P:Program}{t k e:TypeId}{w:World}{b:Nat}{es:Array MapEntry}{clock:Nat}(K:KeyLaw P k)(ht:P.underlying t=some (.map k e)){z:Value}(hz:∀u:World,(zeroValue e).run P u=.ok z u)(hb:w.heap[b]?=some (.map es clock))
 (hk:∀x∈es.toList,∃l,keyOf P k x.key=some l) {key:Value} {kl:Lit} (hkey:keyOf P k key=some kl):
 ∃(x c:Value) (W1:World),(Instr.mapEntry t (.map (some b)) key).run P w=.ok x W1∧(Instr.lookup t (.map (some b)) key false).run P w=.ok c w∧(Instr.lookup t (.map (some b)) key false).run P W1=.ok c W1:=by
 rcases K.find w hkey es.toList hk with⟨h1,h2⟩|⟨j,e0,h1,h2,h3⟩
 · have hb1:(setBlock w b (.map (es.push ⟨key,z,clock⟩) (clock+1))).heap[b]?=some (.map (es.push ⟨key,z,clock⟩) (clock+1)):=heap_setBlock_same hb _
   refine⟨_,z,setBlock w b (.map (es.push ⟨key,z,clock⟩) (clock+1)),by simp[Instr.mapEntry,run_underlying ht,MapKept.run_getObj_map hb,K.check w false hkey,h1,hz,MapKept.run_setObj_map _ hb,Result.andThen,setBlock];rfl,by simp[Instr.lookup,run_underlying ht,MapKept.run_getObj_map hb,K.check w _ hkey,h1,hz,Result.andThen],?_⟩
   rcases K.find (setBlock w b (.map (es.push ⟨key,z,clock⟩) (clock+1))) hkey (es.push ⟨key,z,clock⟩).toList (fun x hx=>by
    rw[Array.toList_push,List.mem_append,List.mem_singleton]at hx
    rcases hx with hx|rfl
    · exact hk x hx
    · exact⟨kl,hkey⟩)with⟨_,g2⟩|⟨j,e0,g1,g2,g3⟩
   · exact absurd rfl (g2 ⟨key,z,clock⟩ (by simp))
   · have hm:=List.mem_of_getElem? g2
     rw[Array.toList_push,List.mem_append,List.mem_singleton]at hm
     have hv:e0.val=z:=by
      rcases hm with hm|rfl
      · exact absurd g3 (h2 e0 hm)
      · rfl
     rw[hv]at g1
     simp[Instr.lookup,run_underlying ht,MapKept.run_getObj_map hb1,K.check _ _ hkey,Result.andThen]
     rw[Array.toList_push]at g1
     simp[g1]
 · have hj:es[j]?=some e0:=by simpa using h2
   have hsame:es.modify j (fun e=>{ e with key:=key })=es:=by
    apply Array.ext_getElem?
    intro i
    rw[Array.getElem?_modify]
    split
    · rename_i c;subst c
      rw[hj]
      show some ({ e0 with key:=key }:MapEntry)=some e0
      rw[←h3]
    · rfl
   refine⟨_,e0.val,setBlock w b (.map es clock),by simp[Instr.mapEntry,run_underlying ht,MapKept.run_getObj_map hb,K.check w false hkey,h1,hj,h3,K.stays w hkey,hsame,MapKept.run_setObj_map _ hb,Result.andThen,setBlock];rfl,by simp[Instr.lookup,run_underlying ht,MapKept.run_getObj_map hb,K.check w _ hkey,h1,Result.andThen],?_⟩
   rw[setBlock_self hb]
   simp[Instr.lookup,run_underlying ht,MapKept.run_getObj_map hb,K.check w _ hkey,h1,Result.andThen]
set_option maxRecDepth 100000 in
theorem PMap.entry{W:World}{mb n:Nat}{l:L2}(h:PMap W mb n l)(hn:n<maxLen){p:E2}(hp:isPw p){c:Int}(hc:-9000000000000000000≤cf l p+c∧cf l p+c≤9000000000000000000):
 ∃(v0:Value) (st:Int) (W1 W2:World),(Instr.mapEntry 48 (.map (some mb)) (pV p)).run Tryz.prog W=.ok (.tuple #[v0,.int .i64 st]) W1∧Fr (fun k=>k=mb) W W1∧(Instr.lookup 48 (.map (some mb)) (pV p) false).run Tryz.prog W1=.ok (.int .i64 (cf l p)) W1 ∧
  (Instr.entryStore 48 (.map (some mb)) (.int .i64 st) (.int .i64 (cf l p+c))).run Tryz.prog W1=.ok () W2∧PMap W2 mb (n+1) (l++[(p,c)])∧Fr (fun k=>k=mb) W W2:=by
 have hlk:=h.look hp;obtain⟨D,hown,hd⟩:=h;obtain⟨kl,hk⟩:=pKey hp;have hpl:plainElem (H:=Unit) Tryz.prog 3 (.int .i64 (cf l p+c))=some (.lit (.int .i64 (cf l p+c)),[]):=plainElem_int Tryz.underlying3 (wf64 (by omega));obtain⟨w',hrun,ho',hg'⟩:=hown.update Tryz.law56 Tryz.ul48 hn hk hpl;obtain⟨es,ck,hb,F,_⟩:=hown;obtain⟨v0,st,es1,ck1,hr1,_,hst⟩:=entry_then_store (w:=W) Tryz.klaw56 Tryz.ul48 (fun u=>Tryz.zero3' u) hb F hk;have hb1:(setBlock W mb (.map es1 ck1)).heap[mb]?=some (.map es1 ck1):=heap_setBlock_same hb _
 obtain⟨es',ck',hr2,hr3⟩:=hst (setBlock W mb (.map es1 ck1)) (.int .i64 (cf l p+c)) hb1;rw[setBlock_twice]at hr2
 have e:w'=setBlock W mb (.map es' ck'):=by
  rw[hrun]at hr3;cases hr3;rfl
 have hF:∀o,Fr (fun k=>k=mb) W (setBlock W mb o):=fun o=>⟨rfl,rfl,rfl,by simp[setBlock],fun i _ hi=>heap_setBlock_other hb _ (fun e=>hi e)⟩
 obtain⟨x0,c0,W0,e1,e2,e3⟩:=entry_look (w:=W) Tryz.klaw56 Tryz.ul48 (fun u=>Tryz.zero3' u) hb F.keys hk;rw[hr1]at e1;obtain⟨-,rfl⟩:=Result.ok.inj e1;rw[hlk]at e2;obtain⟨rfl,-⟩:=Result.ok.inj e2
 refine⟨v0,st,_,_,hr1,hF _,e3,hr2,⟨_,?_,hd.put hk⟩,hF _⟩
 rw[←e];exact ho'
structure PPart(D:DataW Unit)(l:L2)(left:Lit→Bool)(done:L2):Prop where
 pd:PD D l
 sub:∀k,left k=true→Maps.has D k=true
 nd:(done.map (·.1)).Nodup
 val:∀t∈done,t.2=cf l t.1
 mem:∀t∈done,∃s∈l,s.1=t.1
 new:∀t∈done,∀k,keyOf Tryz.prog 56 (pV t.1)=some k→left k=false
 all:∀p k,keyOf Tryz.prog 56 (pV p)=some k→Maps.has D k=true→left k=false→∃t∈done,t.1=p
theorem PPart.start{D:DataW Unit}{l:L2}(h:PD D l):PPart D l (Maps.has D) []:=
 ⟨h,fun _ x=>x,List.nodup_nil,fun _ h=>by (cases h),fun _ h=>by (cases h),fun _ h=>by (cases h),fun _ _ _ h1 h2=>by rw[h1]at h2;cases h2⟩
theorem PPart.step{D:DataW Unit}{l:L2}{left:Lit→Bool}{done:L2}(h:PPart D l left done){p:E2}{kl:Lit}(hk:keyOf Tryz.prog 56 (pV p)=some kl)(hl:left kl=true)(hm:∃t∈l,t.1=p):
 PPart D l (fun z=>left z && !z.sameKey kl) (done++[(p,cf l p)]):=by
 have self:kl.sameKey kl=true:=Go.WideAt.sameKey_self (Tryz.law56.key hk)
 refine⟨h.pd,fun k x=>h.sub k (by simp only[Bool.and_eq_true]at x;exact x.1),?_,?_,?_,?_,?_⟩
 · rw[List.map_append,List.nodup_append]
   refine⟨h.nd,by simp,fun a ha b hb e=>?_⟩
   obtain⟨t,ht,rfl⟩:=List.mem_map.1 ha
   have hb:b=p:=by simpa using hb
   subst hb;have:=h.new t ht kl (by rw[e];exact hk);rw[hl]at this
   cases this
 · intro t ht
   rcases List.mem_append.1 ht with ht|ht
   · exact h.val t ht
   · obtain rfl:t=(p,cf l p):=by simpa using ht
     rfl
 · intro t ht
   rcases List.mem_append.1 ht with ht|ht
   · exact h.mem t ht
   · obtain rfl:t=(p,cf l p):=by simpa using ht
     exact hm
 · intro t ht k hkk
   rcases List.mem_append.1 ht with ht|ht
   · rw[h.new t ht k hkk,Bool.false_and]
   · obtain rfl:t=(p,cf l p):=by simpa using ht
     rw[hk]at hkk;cases hkk
     rw[self];simp
 · intro q k hkq hh hl0
   by_cases c:left k=true
   · have h1:k.sameKey kl=true:=by simpa[c]using hl0
     have e:k=kl:=by
      apply Classical.byContradiction
      intro ne
      rw[Go.Maps.sameKey_ne ne]at h1;cases h1
     subst e
     exact⟨(p,cf l p),by simp,pV_inj (Tryz.law56.inj hk hkq)⟩
   · obtain⟨t,ht,e⟩:=h.all q k hkq hh (by simpa using c)
     exact⟨t,by simp[ht],e⟩
theorem cf_one{m:L2}(nd:(m.map (·.1)).Nodup){t:E2×Int}(ht:t∈m):cf m t.1=t.2:=by
 induction m with
 |nil=>cases ht
 |cons s m ih=>
  rw[List.map_cons,List.nodup_cons]at nd;rw[Kn.cf_cons]
  rcases List.mem_cons.1 ht with rfl|h
  · rw[if_pos rfl,Kn.cf_out (fun u hu e=>nd.1 (by rw[←e];exact List.mem_map_of_mem hu))];omega
  · rw[if_neg fun e=>nd.1 (by rw[e];exact List.mem_map_of_mem h),ih nd.2 h];omega
theorem PD.not_has{D:DataW Unit}{l:L2}(h:PD D l){p:E2}{k:Lit}(hk:keyOf Tryz.prog 56 (pV p)=some k)(hn:Maps.has D k=false):cf l p=0:=by
 have h1:=h.val p k hk;rw[Maps.atKey_of_not_has hn]at h1
 exact((Lit.int.inj (DataW.lit.inj h1)).2).symm
theorem PPart.cf{D:DataW Unit}{l:L2}{left:Lit→Bool}{done:L2}(h:PPart D l left done)(hl:∀k,left k=false)(hp:∀t∈l,isPw t.1)(a:E2):Kn.cf done a=Kn.cf l a:=by
 by_cases c:∃t∈done,t.1=a
 · obtain⟨t,ht,rfl⟩:=c
   rw[cf_one h.nd ht,h.val t ht]
 · rw[Kn.cf_out fun t ht e=>c ⟨t,ht,e⟩]
   by_cases c2:∃t∈l,t.1=a
   · obtain⟨t,ht,rfl⟩:=c2
     obtain⟨k,hk⟩:=pKey (hp t ht)
     cases hh:Maps.has D k with
     |false=>exact(h.pd.not_has hk hh).symm
     |true=>exact absurd (h.all _ k hk hh (hl k)) c
   · rw[Kn.cf_out fun t ht e=>c2 ⟨t,ht,e⟩]
theorem nd_sz:∀(n:Nat) (d m:L2),d.length=n→(d.map (·.1)).Nodup→(∀t∈d,t.2=cf m t.1)→szL d≤szL m:=by
 intro n
 induction n with
 |zero=>
  intro d m hn _ _
  cases d with
  |nil=>exact Nat.zero_le _
  |cons t l=>simp at hn
 |succ n ih=>
  intro d m hn hf he
  cases d with
  |nil=>simp at hn
  |cons t l=>
   have h1:=he t (by simp);rw[List.map_cons,List.nodup_cons]at hf
   have h2:=ih l (m.filter fun s=>!decide (s.1=t.1)) (by simpa using hn) hf.2 fun s hs=>by
    have hne:s.1≠t.1:=fun k=>hf.1 (by rw[←k];exact List.mem_map_of_mem hs)
    rw[Kn.cf_filter,if_neg hne]
    exact he s (by simp[hs])
   rw[Kn.szL_cons,h1]
   have h3:∀m:L2,(cf m t.1).natAbs+szL (m.filter fun s=>!decide (s.1=t.1))≤szL m:=by
    intro m
    induction m with
    |nil=>simp[cf,Kn.tt_nil,szL]
    |cons s m ihm=>
     rw[Kn.cf_cons,Kn.szL_cons]
     by_cases c:s.1=t.1
     · rw[if_pos c,List.filter_cons_of_neg (by simp[c])];omega
     · rw[if_neg c,List.filter_cons_of_pos (by simp[c]),Kn.szL_cons];omega
   have:=h3 m
   omega
theorem PPart.size{D:DataW Unit}{l:L2}{left:Lit→Bool}{done:L2}(h:PPart D l left done):szL done≤szL l:=nd_sz _ done l rfl h.nd h.val
abbrev PRg(W:World)(mb r n:Nat)(D:DataW Unit)(left:Lit→Bool)(cnt:Nat):Prop:=W.ranges Tryz.prog 56 (plainElem Tryz.prog 3) mb r n D left cnt
theorem PRg.fr{S:Nat→Prop}{W W':World}{mb r n:Nat}{D:DataW Unit}{left:Lit→Bool}{cnt:Nat}(h:PRg W mb r n D left cnt)(hF:Fr S W W')(h1:¬S mb)(h2:¬S r):PRg W' mb r n D left cnt:=by
 have k1:=h.owns.lt;have k2:=h.lt;obtain⟨es,clock,since,seen,c0,hb,F,hs,hD,hr,rest⟩:=h
 exact⟨es,clock,since,seen,c0,(hF.block mb k1 h1).trans hb,F,hs,hD,(hF.block r k2 h2).trans hr,rest⟩
section
variable {w:World} {ops:Array Oper} {rest:List Oper} {o:Oper} {a:Act} {Q:Exit→Act→World→Prop}
theorem wpList_next_pw(hg:o.guard=none)(it:Operand)(hop:o.op=Op.next it false)(mb r n:Nat)(D:DataW Unit)(l:L2)(left:Lit→Bool)(cnt:Nat)(done:L2)
 (hit:a.eval it=.pointer (some ⟨r,0,none⟩)) (h:PRg w mb r n D left cnt) (hd:PPart D l left done)
 (hDone:(∀kl,left kl=false)→wpList Tryz.prog ops Q rest (a.put o.dst (.tuple #[.bool false])) w)
 (hMore:∀(m1 m2 c:Int) (kl:Lit) (w':World) (cnt':Nat),Hid (∃t∈l,t.1=((m1,m2):E2))→Hid (c=cf l (m1,m2))→PRg w' mb r n D (fun z=>left z && !z.sameKey kl) cnt'→cnt'<cnt →
  PPart D l (fun z=>left z && !z.sameKey kl) (done++[((m1,m2),c)]) →
  Fr (fun k=>k=r) w w'→(Instr.entry (.pointer (some ⟨r,0,none⟩))).run Tryz.prog w'=.ok (.tuple #[.agg #[.int .i64 m1,.int .i64 m2],.int .i64 c]) w' →
  wpList Tryz.prog ops Q rest (a.put o.dst (.tuple #[.bool true,.agg #[.int .i64 m1,.int .i64 m2],.int .i64 c])) w'):
 wpList Tryz.prog ops Q (o :: rest) a w:=by
 refine wpList_next_ranges w hg it hop 56 Tryz.law56 (plainElem Tryz.prog 3) id id (fun key _ _=>⟨key,rfl⟩) (fun v _ _=>⟨v,rfl⟩) mb r n D left cnt hit h (fun _ hl=>hDone hl) ?_
 intro x c kl y w' cnt' hk hl hR hat hrg hlt hgr _ hen
 obtain⟨⟨m1,m2⟩,hkp,hm⟩:=hd.pd.key kl (hd.sub kl hl);have ex:x=pV (m1,m2):=Tryz.law56.inj hk hkp;obtain⟨cc,ec,ey,_⟩:=plainElem_int_inv Tryz.underlying3 hR;have e1:=hat (.lit (.int .i64 0));rw[hd.pd.val _ kl hkp,ey]at e1;have e2:cf l (m1,m2)=cc:=(Lit.int.inj (DataW.lit.inj e1)).2
 have ec':c=.int .i64 (cf l (m1,m2)):=by rw[e2];exact ec
 subst ex ec'
 exact hMore m1 m2 _ kl w' cnt' (Lib.hid hm) (Lib.hid rfl) hrg hlt (hd.step hkp hl hm) ⟨hgr.os,hgr.tape,hgr.output,hgr.size,fun i hi hne=>hgr.block i hi (fun e=>hne (Option.some.inj e))⟩ hen
end
end Go.Proofs.YtlicglicfijelaaGreat
