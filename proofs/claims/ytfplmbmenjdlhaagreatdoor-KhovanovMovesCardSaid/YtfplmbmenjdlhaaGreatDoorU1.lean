/- Words: keys: numbers, pairs of numbers. -/
import Derived.Test.YtfplmbmenjdlhaaGreatDoorV1b
import Derived.Deep.AppendLies
set_option maxRecDepth 100000
set_option maxHeartbeats 16000000
namespace Go.Proofs.YtfplmbmenjdlhaaGreatDoor
open Go.RowKit Go.Shelf
open Go.WideMaps (KeyLaw)
open Kn (Cr aa cr dG)
open Go.Proofs.Tryz (prog underlying3)
variable {L:Int} {ks:List (Nat×Nat)} {X Y:List Cr} {xs:List Value} {B:Nat} {p:Nat×Nat} {f:Nat->Nat} {W w wr:World}
abbrev yI(p:Int×Int):Value:=.agg #[.int .i64 p.1,.int .i64 p.2]
def vZ(p:Int×Int):Prop:=(-1000000000<=p.1/\p.1<=1000000000)/\-1000000000<=p.2/\p.2<=1000000000
theorem Tryz.acJ:1<=prog.types.size:=jl (by kernel_rfl)
theorem Ny {K : TypeId} (hu : (match prog.underlying K with | some (.struct fs) => fs.toList.map (λf => (f.name != "_", f.type, f.offset)) | _ => []) = [(true, 3, 0), (true, 3, 1)]) (hc : prog.cellsOf K = 2) (hkt : prog.keyType K = true) {p : Int × Int} (h : vZ p) : ∃ l, keyOf prog K (yI p) = some l := by
 have h1:(Lit.int .i64 p.1).wf=true:=lg (by have:=h.1;omega);have h2:(Lit.int .i64 p.2).wf=true:=lg (by have:=h.2;omega)
 cases e:prog.underlying K with
 |none=>rw[e]at hu;cases hu
 |some d=>
  rw[e]at hu
  cases d<;>try (cases hu)
  rename_i fs;simp only at hu
  cases hf:fs.toList with
  |nil=>rw[hf]at hu;simp at hu
  |cons f r=>
   rw[hf]at hu
   cases r with
   |nil=>simp at hu
   |cons g r=>
    cases r with
    |cons x y=>simp at hu
    |nil=>
     simp only[List.map_cons,List.map_nil,List.cons.injEq,Prod.mk.injEq,and_true]at hu;obtain⟨⟨f1,f2,f3⟩,g1,g2,g3⟩:=hu
     obtain⟨n,hn⟩:∃n,prog.types.size=n+1:=⟨prog.types.size-1,by have:=Tryz.acJ;omega⟩
     have hall : fs.all (λf => f.name != "_") = true := by
      rw[<-Array.all_toList,hf];simp[f1,g1]
     have asn : (fs.all λx => !(x.name == "_")) = true := hall; unfold keyOf; rw [e]; simp only [hkt, Bool.true_and]; rw [if_pos (by show Value.formed _ _ _ = true; unfold Value.formed yI; rw [e]; simp [hc])]
     have key:prog.keyLits (n+1+1) K [.int .i64 p.1,.int .i64 p.2]=some [.int .i64 p.1,.int .i64 p.2]:=by
      unfold Program.keyLits;simp only[e,hc];rw[if_pos ⟨rfl,hall⟩,hf];simp only[List.mapM_cons,List.mapM_nil,f2,f3,g2,g3,Tryz.Dq,List.drop_zero,List.take,List.drop]
      have k1:∀{a:Int},(Lit.int .i64 a).wf=true->prog.keyLits (n+1) 3 [.int .i64 a]=some [.int .i64 a]:=λ{a} ha=>by
       unfold Program.keyLits;simp only[underlying3];simp[ha]
      rw[k1 h1,k1 h2];rfl
     have e2:(yI p).cells.toList=[.int .i64 p.1,.int .i64 p.2]:=rfl;rw[e2,hn,key];exact⟨_,rfl⟩
theorem Om(p q:Int×Int)(h:yI p=yI q):p=q:=by
 obtain⟨a,b⟩:=p;obtain⟨c,d⟩:=q;simp only[yI,Value.agg.injEq,Array.mk.injEq,List.cons.injEq,Value.int.injEq,true_and,and_true]at h;rw[h.1,h.2]
theorem Tryz.Gh:KeyLaw prog 50:=deep_law_laid Tryz.laidOut (m:=2) (by omega) (jl (by kernel_rfl)) (by kernel_rfl) (by kernel_rfl)
theorem Tryz.Yh:KeyLaw prog 82:=deep_law_laid Tryz.laidOut (m:=2) (by omega) (jl (by kernel_rfl)) (by kernel_rfl) (by kernel_rfl)
theorem AF:GK 50 yI vZ:=⟨Maps.Keyed.of_law Tryz.Gh,λ_ h=>Ny (by kernel_rfl) (by kernel_rfl) (by kernel_rfl) h,Om⟩
theorem aik:GK 82 yI vZ:=⟨Maps.Keyed.of_law Tryz.Yh,λ_ h=>Ny (by kernel_rfl) (by kernel_rfl) (by kernel_rfl) h,Om⟩
abbrev KV(n:Nat):Value:=.int .i64 (n:Nat)
def Qf(n:Nat):Prop:=n<1000000000
theorem K7:GK 3 KV Qf:=⟨Maps.int_keyed underlying3,λp h=>⟨_,Maps.keyOf_int_mk underlying3 (lg (by unfold Qf at h;omega))⟩,λp q h=>by
 simp only[KV,Value.int.injEq,true_and]at h;omega⟩
theorem Tryz.Qm:prog.underlying 47=some (.map 50 3):=by kernel_rfl
theorem Tryz.Ub:prog.underlying 78=some (.map 50 83):=by kernel_rfl
theorem Tryz.acI:prog.underlying 79=some (.map 82 3):=by kernel_rfl
theorem Tryz.LS:prog.underlying 86=some (.map 3 4):=by kernel_rfl
theorem Tryz.Uc:prog.underlying 127=some (.map 3 86):=by kernel_rfl
theorem Tryz.Yf(w:World):(zeroValue 4).run prog w=.ok (.bool false) w:=by kernel_rfl
theorem Tryz.T9(w:World):(zeroValue 83).run prog w=.ok (.slice none 0 0) w:=by kernel_rfl
theorem Tryz.Jm(w:World):(zeroValue 86).run prog w=.ok (.map none) w:=by kernel_rfl
def vU(v:Nat->Bool):Nat->Option Value:=λp=>if v p then some (.bool true)else none
abbrev Ku(W:World)(mb n:Nat)(v:Nat->Bool)(ks:List Nat):Prop:=dx 3 KV Qf W mb n (vU v) ks
theorem Tk(v:Nat->Bool)(p:Nat):gD (vU v) p (some (.bool true))=vU (λq=>if q=p then true else v q):=funext λq=>by
 unfold gD vU
 by_cases c:q=p<;>simp[c]
theorem Tm(v:Nat->Bool)(p:Nat):gD (vU v) p none=vU (λq=>if q=p then false else v q):=funext λq=>by
 unfold gD vU
 by_cases c:q=p<;>simp[c]
theorem Tl(v:Nat->Bool)(p:Nat):(vU v p).getD (.bool false)=.bool (v p):=by
 unfold vU
 cases v p<;>rfl
open Go.RowKit Go.Shelf
abbrev mkM(p:Nat×Nat):Value:=.agg #[.int .i64 (p.1:Nat),.int .i64 (p.2:Nat)]
def okM(p:Nat×Nat):Prop:=p.1<1000000000/\p.2<1000000000
theorem gkM:GK 82 mkM okM:=⟨aik.law,λp h=>aik.key ((p.1:Int),(p.2:Int)) ⟨⟨by have:=h.1;show (-1000000000:Int)<=(p.1:Int);omega,by have:=h.1;show (p.1:Int)<=1000000000;omega⟩,by have:=h.2;show (-1000000000:Int)<=(p.2:Int);omega,by have:=h.2;show (p.2:Int)<=1000000000;omega⟩,λp q h=>by
 obtain⟨a,b⟩:=p;obtain⟨c,d⟩:=q;simp only[mkM,Value.agg.injEq,Array.mk.injEq,List.cons.injEq,Value.int.injEq,true_and,and_true]at h;obtain⟨h1,h2⟩:=h;have h1:(a:Int)=(c:Int):=h1;have h2:(b:Int)=(d:Int):=h2
 have e1:a=c:=by omega
 have e2:b=d:=by omega
 rw[e1,e2]⟩
def D9(ks:List (Nat×Nat)):Nat×Nat->Option Value:=λp=>if p∈ks then some (.int .i64 (ks.idxOf p:Nat))else none
theorem UN:D9 []=λ_=>none:=funext λp=>by simp[D9]
theorem QG(h:p∉ks):gD (D9 ks) p (some (.int .i64 (ks.length:Nat)))=D9 (ks++[p]):=funext λq=>by
 unfold gD D9;by_cases c:q=p
 · subst c
   rw[if_pos rfl,if_pos (by simp),List.idxOf_append,if_neg h];simp
 rw[if_neg c];by_cases d:q∈ks
 · rw[if_pos d,if_pos (by simp[d]),List.idxOf_append,if_pos d]
 rw[if_neg d,if_neg (by simp[d,c])]
theorem V8(h:p∉ks):Eh ks p=ks++[p]:=by unfold Eh;rw[if_neg h]
open Go.RowKit
theorem ym(X:List Cr)(x:Cr):bE (X++[x])=bE X++[.int .i64 x.a,.int .i64 x.b,.int .i64 x.c,.int .i64 x.d,.bool x.p]:=by
 apply List.ext_getElem?;intro j;by_cases c:j<X.length*5
 · rw[fM (by simp;omega),List.getElem?_append_left (by rw[cD];exact c),fM c]
   have:cr (X++[x]) (j / 5)=cr X (j / 5):=by
    unfold cr;rw[jc,jc,List.getElem?_append_left (by omega)]
   unfold wG;rw[this]
 by_cases c':j<X.length*5+5
 · rw[fM (by simp;omega),List.getElem?_append_right (by rw[cD];omega),cD]
   have e1:j / 5=X.length:=by omega
   have:cr (X++[x]) (j / 5)=x:=by
    unfold cr;rw[jc,e1];simp
   unfold wG;rw[this]
   obtain⟨k,hk,rfl⟩:∃k,k<5/\j=X.length*5+k:=⟨j-X.length*5,by omega,by omega⟩
   rw[show (X.length*5+k)%5=k by omega,show X.length*5+k-X.length*5=k by omega]
   match k,hk with
   |0,_=>rfl
   |1,_=>rfl
   |2,_=>rfl
   |3,_=>rfl
   |4,_=>rfl
 rw[List.getElem?_eq_none (by rw[cD];simp;omega),List.getElem?_eq_none (by simp[cD];omega)]
theorem fS.loops{b:Nat}(h:fS w b X L):w.cell? ⟨b,1,none⟩=some (.int .i64 L):=by
 obtain⟨v,bi,bo,base,s⟩:=h;exact s.c2.2.1
theorem fS.uh{b:Nat}(h:fS w b X L):∃a c,w.cell? ⟨b,0,none⟩=some (.slice a X.length c)/\w.cell? ⟨b,1,none⟩=some (.int .i64 L)/\bV w a X:=by
 obtain⟨v,bi,bo,base,s⟩:=h;obtain⟨a,c,rfl,hc⟩:=bV.gu s.own
 exact⟨a,c,s.c2.1,s.c2.2.1,hc⟩
theorem G5(hX:Kn.Ok X){c:Nat}(hc:c<X.length):(cr X c).a=(aa X (c,0):Nat)/\(cr X c).b=(aa X (c,1):Nat)/\(cr X c).c=(aa X (c,2):Nat)/\(cr X c).d=(aa X (c,3):Nat)/\∀s,s<4->aa X (c,s)<=2*X.length:=by
 have h:∀s,s<4->Kn.at_ X (c,s)=(aa X (c,s):Nat)/\aa X (c,s)<=2*X.length:=λs hs=>by
  have h1:=hX.ah (X:=X) (p:=(c,s)) ⟨hc,hs⟩;unfold Kn.ah Kn.ag at h1;refine⟨?_,h1.2⟩;have h2:=h1.1;unfold aa at h2 ⊢;omega
 exact⟨(h 0 (by omega)).1,(h 1 (by omega)).1,(h 2 (by omega)).1,(h 3 (by omega)).1,λs hs=>(h s hs).2⟩
theorem wD{a b c d e:Value}{t:TypeId}(hB:B=w.heap.size):∀(j:Nat) (u:Value),[a,b,c,d,e][j]?=some u->(w.alloc (.cells #[a,b,c,d,e] t)).cell? ((⟨B,0,none⟩:Addr).add j)=some u:=by
 subst hB;have h:=heap_alloc_new w (.cells #[a,b,c,d,e] t);intro j u hj;rw[dN,Nat.zero_add]
 match j,hj with
 |0,hj=>cases hj;exact cell_of_row _ _ 0 _ t (0,0) h
 |1,hj=>cases hj;exact cell_of_row _ _ 1 _ t (0,0) h
 |2,hj=>cases hj;exact cell_of_row _ _ 2 _ t (0,0) h
 |3,hj=>cases hj;exact cell_of_row _ _ 3 _ t (0,0) h
 |4,hj=>cases hj;exact cell_of_row _ _ 4 _ t (0,0) h
theorem Cs(a b c d:Int)(p:Bool):∀u∈[Value.int .i64 a,.int .i64 b,.int .i64 c,.int .i64 d,.bool p],u.oneCell'=true:=by
 intro u hu;simp only[jy,jz,or_false]at hu
 rcases hu with rfl|rfl|rfl|rfl|rfl<;>rfl
theorem bD{t:Nat}{a b:Value}(hb:W.heap[B]?=some (.cells #[a,b] t (0,0)))(v:Value):(W.setCell ⟨B,0,none⟩ v).heap[B]?=some (.cells #[v,b] t (0,0))/\(W.setCell ⟨B,1,none⟩ v).heap[B]?=some (.cells #[a,v] t (0,0)):=by
 constructor<;>(unfold World.setCell;simp[Array.getElem?_modify,hb])
theorem ay{t:Nat}{a b:Value}(h:W.heap[B]?=some (.cells #[a,b] t (0,0))):W.cell? ⟨B,0,none⟩=some a/\W.cell? ⟨B,1,none⟩=some b/\W.frozen? ⟨B,0,none⟩=false/\W.frozen? ⟨B,1,none⟩=false:=
 ⟨cell_of_row _ _ 0 _ t (0,0) h,cell_of_row _ _ 1 _ t (0,0) h,by simp[World.frozen?,h],by simp[World.frozen?,h]⟩
open Go.RowKit
theorem uM{base e sz g c n:Nat}(h:w.ownsRow base e sz (.slice (some ⟨g,0,none⟩) n c) n xs)(j:Nat)(v:Value):
 (w.setCell ⟨g,j,none⟩ v).ownsRow base e sz (.slice (some ⟨g,0,none⟩) n c) n (xs.set j v):=by
 rcases h.2 with⟨he,hn⟩|⟨g',cap,cur,he,hb,hg,h1,h2,h3,h4⟩
 · cases he
 injection he with e1 e2 e3
 injection e1 with e1
 injection e1 with e1 _ _
 subst e1;subst e3;refine⟨by rw[List.length_set];exact h.1,.inr ⟨g,c,cur.setIfInBounds j v,rfl,hb,?_,h1,h2,by simpa using h3,?_⟩⟩
 · simp[World.setCell,Array.getElem?_modify,hg]
 rw[Array.toList_setIfInBounds,<-h4,List.take_set]
theorem Jd{base e sz g c n:Nat}(h:w.ownsRow base e sz (.slice (some ⟨g,0,none⟩) n c) n xs)(j:Nat):w.frozen? ⟨g,j,none⟩=false:=by
 rcases h.2 with⟨he,hn⟩|⟨g',cap,cur,he,hb,hg,_⟩
 · cases he
 injection he with e1 e2 e3
 injection e1 with e1
 injection e1 with e1 _ _
 subst e1;simp[World.frozen?,hg]
theorem Ka{k:Nat}(hk:k<Y.length)(x:Cr):
 (((((bE Y).set (k*5) (.int .i64 x.a)).set (k*5+1) (.int .i64 x.b)).set (k*5+2) (.int .i64 x.c)).set (k*5+3) (.int .i64 x.d)).set (k*5+4) (.bool x.p)=bE (Y.set k x):=by
 apply List.ext_getElem?;intro j;by_cases c:j<Y.length*5;rotate_left
 · rw[List.getElem?_eq_none (by simp[cD];omega),List.getElem?_eq_none (by simp[cD];omega)]
 rw[fM (X:=Y.set k x) (by rw[List.length_set];exact c)]
 have iw:∀i,cr (Y.set k x) i=if i=k then x else cr Y i:=λi=>by
  unfold cr;rw[jc,jc,List.getElem?_set];by_cases e:k=i
  · subst e;simp[hk]
  rw[if_neg e,if_neg (λh=>e h.symm)]
 have rQ:=fM c;unfold wG;rw[iw];simp only[List.getElem?_set,List.length_set,cD];by_cases e:j / 5=k
 · rw[if_pos e]
   obtain⟨s,hs,rfl⟩:∃s,s<5/\j=k*5+s:=⟨j-k*5,by omega,by omega⟩
   rw[show (k*5+s)%5=s by omega]
   match s,hs with
   |0,_=>simp;omega
   |1,_=>simp;omega
   |2,_=>simp;omega
   |3,_=>simp;omega
   |4,_=>simp;omega
 rw[if_neg e,if_neg (by omega),if_neg (by omega),if_neg (by omega),if_neg (by omega),if_neg (by omega),rQ];rfl
theorem Kn.uY(X:List Cr)(k:Nat):∃a b c d p,Hd (cr X k=⟨a,b,c,d,p⟩):=⟨_,_,_,_,_,jd rfl⟩
abbrev Te(w:World)(g j:Nat)(a b c d:Int)(p:Bool):World:=((((w.setCell ⟨g,j*5,none⟩ (.int .i64 a)).setCell ⟨g,j*5+1,none⟩ (.int .i64 b)).setCell ⟨g,j*5+2,none⟩ (.int .i64 c)).setCell ⟨g,j*5+3,none⟩ (.int .i64 d)).setCell ⟨g,j*5+4,none⟩ (.bool p)
theorem TH{base g c n j:Nat}(h:w.ownsRow base 109 5 (.slice (some ⟨g,0,none⟩) n c) n (bE Y))(hj:j<Y.length)(x:Cr):
 (Te w g j x.a x.b x.c x.d x.p).ownsRow base 109 5 (.slice (some ⟨g,0,none⟩) n c) n (bE (Y.set j x)):=by
 rw[<-Ka hj x];exact uM (uM (uM (uM (uM h _ _) _ _) _ _) _ _) _ _
theorem OO(w:World)(g j:Nat)(a b c d:Int)(p:Bool):Fr (λk=>k=g) w (Te w g j a b c d p):=
 (((((Fr.refl (λk=>k=g) w).setCell (a:=⟨g,j*5,none⟩) (.inl rfl) _).setCell (a:=⟨g,j*5+1,none⟩) (.inl rfl) _).setCell (a:=⟨g,j*5+2,none⟩) (.inl rfl) _).setCell (a:=⟨g,j*5+3,none⟩) (.inl rfl) _).setCell (a:=⟨g,j*5+4,none⟩) (.inl rfl) _
theorem Je{base g c n:Nat}(h:w.ownsRow base 109 5 (.slice (some ⟨g,0,none⟩) n c) n (bE Y))(hn:n=Y.length){j:Nat}(hj:j<Y.length):Em w g (j*5) (cr Y j):=by
 subst hn;obtain⟨a,c',e,hc⟩:=bV.gu h;cases e;obtain⟨b,o,e,hx⟩:=hc.at hj;cases e
 rwa [Nat.zero_add]at hx
open Go.RowKit
structure JA(w wr:World)(cB rB m:Nat)(f:Nat->Nat):Prop where
 fr:Fr (λk=>k=rB) w wr
 cls:wr.cell? ⟨cB,0,none⟩=some (.slice (some ⟨rB,0,none⟩) m m)
 row:wr.rowIs rB 3 m (bS f)
 ne:¬cB=rB
theorem JA.cl{cB rB m:Nat}(h:JA w wr cB rB m f)(a x:Nat):JA w (wr.setCell ⟨rB,a,none⟩ (.int .i64 (x:Nat))) cB rB m (λy=>if y=a then x else f y):=by
 have hF:Fr (λk=>k=rB) wr (wr.setCell ⟨rB,a,none⟩ (.int .i64 (x:Nat))):=(Fr.refl (λk=>k=rB) wr).setCell (a:=⟨rB,a,none⟩) (.inl rfl) _;exact⟨h.fr.trans hF,hF.cell h.cls h.ne,gI h.row a x,h.ne⟩
theorem JA.congr{cB rB m:Nat}{g:Nat->Nat}(h:JA w wr cB rB m f)(hg:∀j,j<m->g j=f j):JA w wr cB rB m g:=
 ⟨h.fr,h.cls,bu h.row λj hj=>by unfold bS;rw[hg j hj],h.ne⟩
theorem JA.drew{cB rB m:Nat}(h:JA w wr cB rB m f)(n:Nat):JA w (wr.drewN n) cB rB m f:=
 ⟨h.fr.drewN n,((Fr.refl (λ_=>False) wr).drewN n).cell h.cls λx=>x,((Fr.refl (λ_=>False) wr).drewN n).row h.row λx=>x,h.ne⟩
theorem UE(cB rB mm u v:Nat)(F:Nat->Nat)(w:World)(hc:w.cell? ⟨cB,0,none⟩=some (.slice (some ⟨rB,0,none⟩) mm mm))(hr:w.rowIs rB 3 mm (bS F))(hne:¬cB=rB)(hu:u<mm)(hv:v<mm)(hm:mm<=33):
 Calls prog 47 #[.int .i64 (u:Nat),.int .i64 (v:Nat),.pointer (some ⟨cB,0,none⟩)] w (λe w'=>e=.returned (.tuple #[])/\Fr (λk=>k=rB) w w'/\w'.rowIs rB 3 mm (bS (dG F u v))):=by
 have ZX:Hd (JA w w cB rB mm F):=jd ⟨Fr.refl _ w,hc,hr,hne⟩
 obtain⟨fu,Z1⟩:∃q,Hd (F u=q):=⟨_,jd rfl⟩
 obtain⟨fv,HFV⟩:∃q,Hd (F v=q):=⟨_,jd rfl⟩
 clear hc hr hne
 go_enter Tryz.func47,Tryz.ntmps47
 go_wp2_with fail;have z0:=ZX.o.cls;have z3:=ZX.o.row.cell (i:=u) hu;have z4:=ZX.o.row.cell (i:=v) hv;simp only[bS,Z1.o,HFV.o]at z3 z4
 have b1:(0:Int)<=(u:Int):=by omega
 have b2:(u:Int)<(mm:Int):=by omega
 have b3:(0:Int)<=(v:Int):=by omega
 have b4:(v:Int)<(mm:Int):=by omega
 go_quiet (fail)
 clear z0 z3 z4
 obtain⟨fr,QP⟩:∃q:Nat,q=max fu fv:=⟨_,rfl⟩
 obtain⟨fn,hfn⟩:∃q:Nat,q=min fu fv:=⟨_,rfl⟩
 rw[show max (fu:Int) (fv:Int)=(fr:Int)by omega,show min (fu:Int) (fv:Int)=(fn:Int)by omega];have HJF:Hd (∀x,dG F u v x=if F x=fr then fn else F x):=jd (λx=>by unfold dG;rw[Z1.o,HFV.o,QP,hfn]);clear QP hfn;have HJq:Hd (JA w (w.drewN nq) cB rB mm F):=jd (ZX.o.drew nq);obtain⟨wq,Zz⟩:=jb (w.drewN nq);rw[<-Zz.o]at HJq ⊢;have q0:=HJq.o.cls;go_wp2;clear q0;have HQ0:Hd (JA w wq cB rB mm (λx=>if x<0 then dG F u v x else F x)):=jd (HJq.o.congr λx _=>by simp)
 go_loopw [28] (λi wr=>∃a:Nat,a<=mm/\i=.int .i64 a/\Hd (JA w wr cB rB mm (λx=>if x<a then dG F u v x else F x))) (λi _=>mm-(intOf i).toNat)
 case atStart=>exact⟨0,by omega,rfl,HQ0⟩
 case round=>
 obtain⟨a,ha,rfl,HA⟩:=hrel;by_cases ham:a<mm;rotate_left
 · obtain rfl:mm=a:=by omega
   have q0:=HA.o.cls;go_wp2;go_end0;exact⟨rfl,HA.o.fr,(HA.o.congr λx hx=>by rw[if_pos hx]).row⟩
 have q0:=HA.o.cls;have q1:=HA.o.row.cell (i:=a) ham;have q2:=HA.o.row.frozen a
 obtain⟨fa,Ha⟩:∃q,Hd (F a=q):=⟨_,jd rfl⟩
 simp only[bS,Nat.lt_irrefl,if_false,Ha.o]at q1
 have b5:(0:Int)<=(a:Int):=by omega
 have b6:(a:Int)<(mm:Int):=by omega
 by_cases W8:fa=fr
 · subst W8
   have bq:((fa:Int)==(fa:Int))=true:=by simp
   go_wp2;go_roundw
   case rel=>
    refine⟨a+1,by omega,by go_num,jd ((HA.o.cl a fn).congr λx _=>?_)⟩;by_cases e:x=a
    · rw[if_pos e,if_pos (by omega),e,HJF.o,Ha.o,if_pos rfl]
    rw[if_neg e];by_cases e2:x<a
    · rw[if_pos e2,if_pos (by omega)]
    rw[if_neg e2,if_neg (by omega)]
   case measure=>simp[intOf];omega
 have bq:((fa:Int)==(fr:Int))=false:=by simp;omega
 have bq2:¬((fa:Int)=(fr:Int)):=by omega
 go_wp2;go_roundw
 case rel=>
  refine⟨a+1,by omega,by go_num,jd (HA.o.congr λx _=>?_)⟩;by_cases e2:x<a
  · rw[if_pos e2,if_pos (by omega)]
  by_cases e:x=a
  · rw[if_neg e2,e,if_pos (by omega),HJF.o,Ha.o,if_neg W8]
  rw[if_neg e2,if_neg (by omega)]
 case measure=>simp[intOf];omega
end Go.Proofs.YtfplmbmenjdlhaaGreatDoor
