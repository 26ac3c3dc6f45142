/- Merged by program. -/
import Derived.Test.YtfgjaafcgghnoaaGreatDoorCNp6
import Derived.Shelf.Strings.Repeat
import Derived.Test.YtfgjaafcgghnoaaGreatDoorProg
import Derived.Room.AppendFits
import Derived.Lib.UnsafeStr
set_option linter.all false
set_option maxRecDepth 1000000
set_option maxHeartbeats 16000000
namespace Go.Proofs.YtfgjaafcgghnoaaGreatDoor
open Go Go.RowKit
def NP (l:List Pg):Nat:=l.countP (·.d)
structure Rw (P:NI)(txt:Int->Bytes)(K:Nat):Prop where
 aok:P.A.Ok
 asz:P.A.size<=1000
 keys:∀x,x∈P.l.map (·.k)↔P.A.held x
 nd:(P.l.map (·.k)).Nodup
 rng:∀g∈P.l,0<=g.k/\g.k<(P.L.length:Int)
 tx:∀g∈P.l,g.t=txt g.k
 cl:∀g∈P.l,g.d=false->P.D.now g.k=txt g.k
 out:∀x,0<=x->x<(P.L.length:Int)->¬P.A.held x->P.D.now x=txt x
 len:∀x,0<=x->x<(P.L.length:Int)->(txt x).length=512
 down:P.D.down=false
 due:P.D.due=0
 B:P.D.B=P.L.length
 N:P.D.N=1
 ca:P.D.calls+(NP P.l:Int)<=(K:Int)
 cc:P.D.cache.length+NP P.l<=K
 Oi:P.D.Oi.length<=17592186044416
def UI (txt:Int->Bytes)(no:Int)(wt:Option Bytes):Int->Bytes:=λx=>if x=no then wt.getD (txt x) else txt x
theorem Uw (txt:Int->Bytes)(no:Int):UI txt no none=txt:=by
 funext x
 unfold UI
 split<;>rfl
theorem NU (txt:Int->Bytes)(no:Int)(wt:Option Bytes):UI txt no wt no=wt.getD (txt no):=if_pos O
theorem Nn (txt:Int->Bytes){no x:Int}(wt:Option Bytes)(h:x≠no):UI txt no wt x=txt x:=if_neg h
def wN (wt:Option Bytes):Nat:=if wt.isSome then 1 else 0
theorem z07 (D:Dev)(n x:Int)(s:Bytes):((D.push n s).count).now x=if n=x then s else D.now x:=by
 unfold Dev.now Dev.count Dev.push
 dsimp only
 rw[z2i]
 split<;>rfl
theorem XM (D:Dev)(z:Int)(x:Int):({D with reads:=z}:Dev).now x=D.now x:=rfl
section
variable {P:NI}{txt:Int->Bytes}{K:Nat}{no:Int}{wt:Option Bytes}
theorem Vz (no:Int)(t:Bytes):∀{l:List Pg},(l.map (·.k)).Nodup->NP (NA l no t true)<=NP l+1
 |[],_=>Nat.zero_le _
 | g :: l, hn => by
   rw[List.map_cons,List.nodup_cons] at hn;by_cases h:g.k=no
   ·have e:NA l no t true=l:=by
     unfold NA
     conv=>rhs;rw[<-List.map_id l]
     refine List.map_congr_left λg' cN=>?_;rw[if_neg λe=>hn.1 (List.mem_map.2 ⟨g',cN,by rw[e,h]⟩)];rfl
    have e2:NA (g::l) no t true={g with t:=t,d:=true}::l:=by
     show(if g.k=no then _ else g)::NA l no t true=_;rw[if_pos h,e]
    rw[e2];unfold NP;rw[List.countP_cons,List.countP_cons];split<;>split<;>omega
   ·have ih:=Vz no t hn.2
    have e2:NA (g::l) no t true=g::NA l no t true:=by
     show(if g.k=no then _ else g)::NA l no t true=_;rw[if_neg h]
    rw[e2];unfold NP at*;rw[List.countP_cons,List.countP_cons];omega
theorem X9 {l:List Pg}(hn:(l.map (·.k)).Nodup){g:Pg}(hg:g∈l):NA l g.k g.t g.d=l:=by
 unfold NA
 conv=>rhs;rw[<-List.map_id l]
 refine List.map_congr_left λg' cN=>?_
 by_cases h:g'.k=g.k
 ·rw[if_pos h,Ox hn cN hg h];rfl
 ·rw[if_neg h];rfl
theorem z3o (l:List Pg)(k:Int)(t:Bytes)(d:Bool):(NA l k t d).map (·.k)=l.map (·.k):=by
 unfold NA
 rw[List.map_map]
 refine List.map_congr_left λg _=>?_
 by_cases h:g.k=k
 ·simp only[Function.comp_apply,if_pos h]
 ·simp only[Function.comp_apply,if_neg h]
theorem Vc {l:List Pg}{k:Int}{t:Bytes}{d:Bool}{g:Pg}(h:g∈NA l k t d):(g∈l/\g.k≠k)\/(g.k=k/\g.t=t/\g.d=d/\∃g'∈l,g'.k=k):=by
 obtain⟨g',cN,rfl⟩:=List.mem_map.1 h
 by_cases e:g'.k=k
 ·rw[if_pos e];exact .inr ⟨e,rfl,rfl,g',cN,e⟩
 ·rw[if_neg e];exact .inl ⟨cN,e⟩
theorem Rw.UG (h:Rw P txt K){g:Pg}(hg:g∈P.l)(ov:∀t,wt=some t->t.length=512){P':NI}(hA:P'.A=(P.A.Nk g.k).1)(hl:P'.l=NA P.l g.k (wt.getD g.t) (wt.isSome ||g.d))(hL:P'.L=P.L)(hD:P'.D=P.D):Rw P' (UI txt g.k wt) (K+wN wt):=by
 have ht:=Arc.WS h.aok g.k
 have bE:P.A.held g.k:=(h.keys _).1 (List.mem_map.2 ⟨g,hg,rfl⟩)
 have g7:=ht.no (ht.UG.2 bE)
 have ue:∀x,P'.A.held x↔P.A.held x:=λx=>by
  rw[hA,ht.held,g7];constructor
  ·rintro(e|e)
   ·rw[e];exact bE
   ·exact e.1
  ·intro e;exact .inr ⟨e,by simp⟩
 have hr:=h.rng g hg
 have uf:NP P'.l<=NP P.l+wN wt:=by
  rw[hl]
  cases wt with
  |none=>rw[show(none:Option Bytes).getD g.t=g.t from rfl,show((none:Option Bytes).isSome ||g.d)=g.d from rfl,X9 h.nd hg];exact Nat.le_add_right _ _
  |some t=>exact Vz _ _ h.nd
 have FJ:=h.ca
 have D8:=h.cc
 refine⟨by rw[hA];exact ht.ok,by rw[hA,ht.size];exact h.asz,λx=>by rw[hl,z3o,h.keys,ue],by rw[hl,z3o];exact h.nd,λg' cN=>?_,λg' cN=>?_,λg' cN hd=>?_,λx h0 h1 hx=>?_,λx h0 h1=>?_,by rw[hD];exact h.down,by rw[hD];exact h.due,by rw[hD,hL];exact h.B,by rw[hD];exact h.N,by rw[hD];omega,by rw[hD];omega,by rw[hD];exact h.Oi⟩
 ·rw[hL];rw[hl] at cN;rcases Vc cN with e| e
  ·exact h.rng g' e.1
  ·rw[e.1];exact hr
 ·rw[hl] at cN;rcases Vc cN with e| e
  ·rw[Nn _ _ e.2];exact h.tx g' e.1
  ·rw[e.1,NU,e.2.1,h.tx g hg]
 ·rw[hD];rw[hl] at cN;rcases Vc cN with e| e
  ·rw[Nn _ _ e.2];exact h.cl g' e.1 hd
  ·rw[e.2.2.1] at hd
   have hw:wt=none:=by
    cases wt with
    |none=>rfl
    |some t=>cases hd
   rw[e.1,hw,Uw];rw[hw] at hd;exact h.cl g hg hd
 ·rw[hL] at h1;rw[ue] at hx;have bN:x≠g.k:=λe=>hx (e▸bE);rw[hD,Nn _ _ bN];exact h.out x h0 h1 hx
 ·rw[hL] at h1;by_cases e:x=g.k
  ·rw[e,NU]
   cases hw:wt with
   |none=>exact h.len _ (e▸h0) (e▸h1)
   |some t=>exact ov t hw
  ·rw[Nn _ _ e];exact h.len x h0 h1
def dropPg:List Pg->Int->List Pg
 |[],_=>[]
 |g::l,k=>if g.k=k then l else g::dropPg l k
theorem QE (g:Pg)(l:List Pg)(k:Int):dropPg (g::l) k=if g.k=k then l else g::dropPg l k:=rfl
theorem Y0 (l:List Pg)(k:Int):delL (Qw l) k=Qw (dropPg l k):=by
 induction l with
 |nil=>rfl
 | cons g l ih =>
   show(if k=g.k then Qw l else(g.k,ptr g.b 0)::delL (Qw l) k)=_;rw[QE];by_cases h:k=g.k
   ·rw[if_pos h,if_pos h.symm]
   ·rw[if_neg h,if_neg (λe=>h e.symm),ih];rfl
theorem OD:∀(l:List Pg) (k:Int),(dropPg l k).Sublist l
 |[],_=>List.Sublist.refl _
 | g :: l, k => by
   rw[QE];split
   ·exact List.sublist_cons_self _ _
   ·exact(OD l k).cons_cons _
theorem WD {l:List Pg}(hn:(l.map (·.k)).Nodup)(k x:Int):x∈(dropPg l k).map (·.k)↔x∈l.map (·.k)/\x≠k:=by
 induction l with
 |nil=>simp[dropPg]
 | cons g l ih =>
   rw[List.map_cons,List.nodup_cons] at hn;rw[QE];by_cases h:g.k=k
   ·rw[if_pos h,List.map_cons,List.mem_cons];constructor
    ·intro e;exact⟨.inr e,λe2=>hn.1 (by rw[h,<-e2];exact e)⟩
    ·rintro⟨e|e,e2⟩
     ·exact absurd (e.trans h) e2
     ·exact e
   ·rw[if_neg h,List.map_cons,List.map_cons,List.mem_cons,List.mem_cons];have:=ih hn.2;rw[this];constructor
    ·rintro(e|e)
     ·exact⟨.inl e,λe2=>h (by rw[<-e,e2])⟩
     ·exact⟨.inr e.1,e.2⟩
    ·rintro⟨e|e,e2⟩
     ·exact .inl e
     ·exact .inr ⟨e,e2⟩
theorem Z3 {l:List Pg}{g:Pg}(hn:(l.map (·.k)).Nodup)(hg:g∈l):NP (dropPg l g.k)+(if g.d then 1 else 0)=NP l:=by
 induction l with
 |nil=>cases hg
 | cons a l ih =>
   rw[List.map_cons,List.nodup_cons] at hn;rw[QE];by_cases h:a.k=g.k
   ·rw[if_pos h]
    have e:a=g:=by
     rcases List.mem_cons.1 hg with e| e
     ·exact e.symm
     ·exact absurd (List.mem_map.2 ⟨g,e,h.symm⟩) hn.1
    rw[e];unfold NP;rw[List.countP_cons]
   ·rw[if_neg h]
    have aa:g∈l:=by
     rcases List.mem_cons.1 hg with e| e
     ·exact absurd (by rw[e]) h
     ·exact e
    have:=ih hn.2 aa;unfold NP at*;rw[List.countP_cons,List.countP_cons];omega
structure z7X (P:NI)(txt:Int->Bytes)(K:Nat)(g:Option Int)(D':Dev)(l':List Pg):Prop where
 now:∀x,0<=x->x<(P.L.length:Int)->x∉l'.map (·.k)->D'.now x=txt x
 cl:∀q∈l',q.d=false->D'.now q.k=txt q.k
 sub:l'.Sublist P.l
 keys:∀x,x∈l'.map (·.k)↔x∈P.l.map (·.k)/\g≠some x
 down:D'.down=false
 due:D'.due=0
 B:D'.B=P.D.B
 N:D'.N=P.D.N
 ca:D'.calls+(NP l':Int)<=(K:Int)
 cc:D'.cache.length+NP l'<=K
 Oi:D'.Oi.length<=17592186044416
theorem Rw.zcL (h:Rw P txt K):z7X P txt K none P.D P.l:=
 ⟨λx h0 h1 hx=>h.out x h0 h1 λe=>hx ((h.keys x).2 e),h.cl,List.Sublist.refl _,λx=>by simp,h.down,h.due,rfl,rfl,h.ca,h.cc,h.Oi⟩
theorem Rw.zdq (h:Rw P txt K){g:Pg}(hg:g∈P.l):z7X P txt K (some g.k) (if g.d then(P.D.push g.k g.t).count else P.D) (dropPg P.l g.k):=by
 have xQ:=Z3 h.nd hg
 have hk:=WD h.nd g.k
 have FJ:=h.ca
 have D8:=h.cc
 have dx:=OD P.l g.k
 have jk:∀x,0<=x->x<(P.L.length:Int)->x∉(dropPg P.l g.k).map (·.k)->x=g.k\/¬P.A.held x:=λx h0 h1 hx=>by
  rw[hk,not_and] at hx;by_cases e:x=g.k
  ·exact .inl e
  ·exact .inr λe2=>hx ((h.keys x).2 e2) e
 have g9:∀q∈dropPg P.l g.k,q∈P.l/\q.k≠g.k:=λq hq=>⟨dx.subset hq,((hk q.k).1 (List.mem_map.2 ⟨q,hq,rfl⟩)).2⟩
 have qI:∀x,x∈(dropPg P.l g.k).map (·.k)↔x∈P.l.map (·.k)/\some g.k≠some x:=λx=>by
  rw[hk];simp only[ne_eq,Option.some.injEq];constructor
  ·rintro⟨a,b⟩;exact⟨a,λe=>b e.symm⟩
  ·rintro⟨a,b⟩;exact⟨a,λe=>b e.symm⟩
 cases hd:g.d with
 | true =>
   rw[hd] at xQ;rw[if_pos O] at xQ⊢;refine⟨λx h0 h1 hx=>?_,λq hq sw=>?_,dx,qI,h.down,?_,rfl,rfl,?_,?_,h.Oi⟩
   ·rw[z07];rcases jk x h0 h1 hx with e| e
    ·rw[if_pos e.symm,e,h.tx g hg]
    ·by_cases e2:g.k=x
     ·rw[if_pos e2,<-e2,h.tx g hg]
     ·rw[if_neg e2];exact h.out x h0 h1 e
   ·obtain⟨a,b⟩:=g9 q hq;rw[z07,if_neg λe=>b e.symm];exact h.cl q a sw
   ·have:=h.due;show(if P.D.due=0 then(0:Int) else _)=0;rw[if_pos this]
   ·show P.D.calls+1+_<=_;omega
   ·show(P.D.cache++[_]).length+_<=_
    rw[List.length_append,List.length_singleton];omega
 | false =>
   rw[hd] at xQ;rw[if_neg (by simp)] at xQ⊢;refine⟨λx h0 h1 hx=>?_,λq hq sw=>?_,dx,qI,h.down,h.due,rfl,rfl,by omega,by omega,h.Oi⟩
   ·rcases jk x h0 h1 hx with e| e
    ·rw[e];exact h.cl g hg hd
    ·exact h.out x h0 h1 e
   ·exact h.cl q (g9 q hq).1 sw
theorem Rw.zdX (h:Rw P txt K)(h0:0<=no)(h1:no<(P.L.length:Int))(hh:¬P.A.held no)(ov:∀t,wt=some t->t.length=512){D':Dev}{l':List Pg}(hg:z7X P txt K (P.A.Nk no).2.2 D' l'){P':NI}{b:Nat}{z:Int}
  (hA:P'.A=(P.A.Nk no).1) (hl:P'.l=l'++[⟨no,b,wt.getD (txt no),wt.isSome⟩]) (hL:P'.L=P.L) (hD:P'.D={D' with reads:=z}):Rw P' (UI txt no wt) (K+wN wt):=by
 have ht:=Arc.WS h.aok no
 have IJ:=hg.ca
 have IK:=hg.cc
 have jL:∀x,x∈P'.l.map (·.k)↔x=no\/x∈l'.map (·.k):=λx=>by
  rw[hl,List.map_append,List.mem_append,List.map_singleton,List.mem_singleton,or_comm]
 have ue:∀x,P'.A.held x↔x=no\/x∈l'.map (·.k):=λx=>by
  rw[hA,ht.held,hg.keys,h.keys]
 have lw:no∉l'.map (·.k):=λe=>hh ((h.keys no).1 ((hg.keys no).1 e).1)
 have uf:NP P'.l=NP l'+wN wt:=by
  rw[hl];unfold NP wN;rw[List.countP_append,List.countP_singleton]
 refine⟨by rw[hA];exact ht.ok,by rw[hA,ht.size];exact h.asz,λx=>by rw[jL,ue],?_,λg je=>?_,λg je=>?_,λg je hd=>?_,λx x0 x1 hx=>?_,λx x0 x1=>?_,by rw[hD];exact hg.down,by rw[hD];exact hg.due,by rw[hD,hL];exact hg.B.trans h.B,by rw[hD];exact hg.N.trans h.N,by rw[hD];show D'.calls+_<=_;omega,by rw[hD];show D'.cache.length+_<=_;omega,by rw[hD];exact hg.Oi⟩
 ·rw[hl,List.map_append,List.nodup_append];refine⟨(hg.sub.map _).nodup h.nd,by simp,λa ha c hc e=>?_⟩;rw[List.map_singleton,List.mem_singleton] at hc;exact lw (by rw[<-show a=no from e.trans hc];exact ha)
 ·rw[hL];rw[hl] at je;rcases List.mem_append.1 je with e| e
  ·exact h.rng g (hg.sub.subset e)
  ·rw[List.mem_singleton.1 e];exact⟨h0,h1⟩
 ·rw[hl] at je;rcases List.mem_append.1 je with e| e
  ·rw[Nn _ _ (λe2=>lw (by rw[<-e2];exact List.mem_map.2 ⟨g,e,rfl⟩))];exact h.tx g (hg.sub.subset e)
  ·rw[List.mem_singleton.1 e,NU]
 ·rw[hD,XM];rw[hl] at je;rcases List.mem_append.1 je with e| e
  ·rw[Nn _ _ (λe2=>lw (by rw[<-e2];exact List.mem_map.2 ⟨g,e,rfl⟩))];exact hg.cl g e hd
  ·rw[List.mem_singleton.1 e] at hd⊢
   have hw:wt=none:=by
    cases wt with
    |none=>rfl
    |some t=>cases hd
   rw[hw,Uw];exact hg.now no h0 h1 lw
 ·rw[hL] at x1;rw[ue,not_or] at hx;rw[hD,XM,Nn _ _ hx.1];exact hg.now x x0 x1 hx.2
 ·rw[hL] at x1;by_cases e:x=no
  ·rw[e,NU]
   cases hw:wt with
   |none=>exact h.len _ h0 h1
   |some t=>exact ov t hw
  ·rw[Nn _ _ e];exact h.len x x0 x1
end
section
variable {w w' w0:World}{P P0 P':NI}{S:Nat->Prop}{txt:Int->Bytes}{K:Nat}
theorem PW.cells (h:PW w P):Lq w P.s [ptr P.d 0,ptr P.m 0,ptr P.c 0,.map (some P.pm),I (P.fr:Int),I P.h,I P.mi,I P.wr,I 0,I 0,I 0,.bool false] 103:=h.Lg
theorem Rw.zaS (h:Rw P txt K):P.D.Small K:=⟨by have:=h.ca;omega,by have:=h.cc;omega,trivial,h.Oi⟩
theorem Wm (h:PW w P)(hN:P.D.N=1):LP Tryz.prog 56 [ptr P.s 0] w λv w'=>v=I 512/\w'=w:=by
 have hB:=h.cells
 have cF:=z5g h.dev
 rw[hN] at cF
 refine Lb (e:=[(0,_)]) Tryz.func56 O Tryz.ntmps56 O O$ qN O$ Lk O$ run_seq$ qN O$ Le O$ qV (Ml SJ O O)$ Lf$ An O$ py$ qN O$ Le O$ LU O$ Lt QL O ?_
 refine qV (Lj U27 O O hB O)$ LD za3 O (cF) ?_
 rintro _ w ⟨rfl,rfl⟩
 refine Lk O$ Lh Tryz.func56 O ?_
 exact⟨_,rfl,rfl,rfl⟩
theorem z5o (h:PW w P):LP Tryz.prog 129 [ptr P.s 0] w λv w'=>v=ptr P.d 0/\w'=w:=by
 have hB:=h.cells
 refine Lb (e:=[(0,_)]) Tryz.func129 O Tryz.ntmps129 O O$ qN O$ Lk O$ run_seq$ qN O$ Le O$ qV (Ml SJ O O)$ Lf$ An O$ py$ qN O$ Le O$ LU O$ Lt QL O ?_
 refine qV (Lj U27 O O hB O)$ Lk O$ Lh Tryz.func129 O ?_
 exact⟨_,rfl,rfl,rfl⟩
theorem z4A (h:PW w P):LP Tryz.prog 13 [ptr P.s 0] w λv w'=>v=ptr P.m 0/\w'=w:=by
 have hB:=h.cells
 refine Lb (e:=[(0,_)]) Tryz.func13 O Tryz.ntmps13 O O$ qN O$ Lk O$ run_seq$ qN O$ Le O$ qV (Ml SJ O O)$ Lf$ An O$ py$ qN O$ Le O$ LU O$ Lt Yu O ?_
 refine qV (Lj Xj O O hB O)$ Lk O$ Lh Tryz.func13 O ?_
 exact⟨_,rfl,rfl,rfl⟩
theorem Vg (h:PW w P)(hd:P.D.down=false):LP Tryz.prog 109 [ptr P.s 0] w λv w'=>v=I 0/\w'=w:=by
 have hB:=h.cells
 have uf:=z4f h.dev
 rw[hd] at uf
 refine Lb (e:=[(0,_)]) Tryz.func109 O Tryz.ntmps109 O O$ qN O$ Lk O$ run_seq$ Lc$ qN O$ Le O$ qV (Ml SJ O O)$ Lk O$ An O$ qN O$ Le O$ LU O$ Lt z2Q O ?_
 refine qV (Lj U4 O O hB O)$ Lu O O$ LU O$ Lt QL O$ qV (Lj U27 O O hB O)$ LD zcT O (uf) ?_
 rintro _ w ⟨rfl,rfl⟩
 refine M8 O O$ Lk O$ An O$ py$ Ld$ qN O$ Lk O$ Lh Tryz.func109 O ?_
 exact⟨_,rfl,rfl,rfl⟩
theorem ZF (h:PW w P)(sE:P.D.Small K)(uf:P.D.down=false)(IL:P.D.due=0)(IM:P.D.B=P.L.length)(kf:P.D.N=1)(hK:K<1000000000000){b:Nat}{t:Bytes}{d:Bool}{no:Int}(h0:0<=no)(h1:no<(P.L.length:Int))(ht:t.length=512)(hb:Lq w b (pgC t d) 219)(me:∀i,¬P.cp i b):
  LP Tryz.prog 151 [ptr P.s 0,I no,ptr b 0] w λv w'=>v=I 0/\∃Fd' wr',PW w' {P with D:=if d then(P.D.push no t).count else P.D,Fd:=Fd',wr:=wr'}/\Kp (λj=>j=b\/P.cp 0 j\/P.cp 1 j) w w'/\(∀j,Fd' j->P.Fd j\/w.heap.size<=j):=by
 replace hb:Lq w b [S t,.bool d,I 0] 219:=hb
 have hB:=h.cells
 have hg:=Ext.LC w
 have qj:P.s≠b:=λe=>me 0 e.symm
 have FK:¬P.Fd P.s:=λe=>h.Rf 0 1 (by decide) P.s O e
 have D9:¬P.Fd b:=me 1
 refine Lb (e:=[(0,_),(1,_),(2,_)]) Tryz.func151 O Tryz.ntmps151 O O ?_
 cases d with
 | false =>
   refine qN O$ Lk O$ run_seq$ qN O$ Le O$ LU O$ Lt Rq O$ Lt YJ O$ qV (Lj U4 O O hb O)$ qV ((by first|exact Mh O|exact NL O)) ?_;refine Lf$ Lr O$ qN O$ Lk O$ Lh Tryz.func151 O (⟨_,rfl,rfl,P.Fd,P.wr,?_,Kp.refl _ _,λj e=> .inl e⟩);rw[if_neg (by simp)]
   exact h
 | true =>
   refine qN O$ Lk O$ run_seq$ qN O$ Le O$ LU O$ Lt Rq O$ Lt YJ O$ qV (Lj U4 O O hb O)$ qV ((by first|exact Mh O|exact NL O)) ?_;have Da:=z2j no t (h.dev.ext hg) sE hK;rw[z7l uf IL ⟨h0,by rw[IM];exact h1⟩ (by rw[kf];exact ht)] at Da;dsimp only at Da;refine Lf$ An O$ py$ run_seq$ run_seq$ N7 (λw'=>Kp P.Fd w w') O$ LA 0 O O (hg.kp)$ Ll 1 O (Mo O) (hg.kp)$ Ll 2 O (LV QL O) (hg.kp)$ qT 3 O (λ_ h=>(by first|exact Lj U27 O O (h.Lg hB FK) O|exact Lj U27 O O (h.Lg hb D9) O)) (hg.kp) ?_;refine LA 4 O O (hg.kp)$ LA 5 O O (hg.kp)$ Ll 6 O (Mo O) (hg.kp)$ Ll 7 O (LV Rq O) (hg.kp)$ Ll 8 O (LV YU O) (hg.kp)$ qT 9 O (λ_ h=>(by first|exact Lj U9 O O (h.Lg hB FK) O|exact Lj U9 O O (h.Lg hb D9) O)) (hg.kp) ?_;refine OA 10 O zcU O (Da) ?_;rintro _ w1 ⟨rfl,mA⟩;refine⟨hg.kp.trans mA.kpF,?_⟩;obtain⟨Fd',cZ,o6⟩:=((h.r (Ext.refl w)).ext hg).dev mA;have aN:Kp P.Fd w w1:=hg.kp.trans mA.kpF;have ph:∀j,Fd' j->P.Fd j\/w.heap.size<=j:=λj e=>(o6 j e).imp id λe=>by have:=hg.size;omega
   refine Ll 11 O (Ni O) (hg.kp.trans mA.kpF)$ qE$ qN O$ Le O$ Mu O O ?_;have ai:=cZ.m.cells;refine Lf$ An O$ py$ qN O$ Le O$ LU O$ Lt SD O$ Lt z6e O$ qV (Lj U3 O O ai O)$ qV (z6D O O)$ LU O$ Lt SD O$ Lt z6e O$ Ls O (MY Md O O O ai (by simp)) ?_;rintro w2 ⟨am,ao⟩;obtain⟨z,hz⟩:∃z,IntKind.i64.wrap (P.wr+1)=z:=⟨_,rfl⟩;rw[hz] at am;have dP:=cZ.cnt (a:=P.h) (b:=P.mi) (c:=z) am ao;have c6:=ao.Lg (aN.Lg hb D9) (λe=>qj e.symm);refine Lf$ LS.qb (e:=[(2,_),(6,_)]) ?_;refine qN O$ Le O$ LU O$ Lt Rq O$ Lt YJ O$ Ls O (MY Rz O O O c6 (by simp)) ?_;rintro w3 ⟨eB,ax⟩
   have Db:∀i,¬NI.cp {P with D:=(P.D.push no t).count,Fd:=Fd',h:=P.h,mi:=P.mi,wr:=z} i b:=λi e=>by
    match i,e with
    |0,e=>exact me 0 e
    | 1, e =>
      rcases ph b e with e| e
      ·exact me 1 e
      ·have:=hb.lt;omega
    |2,e=>exact me 2 e
    |3,e=>exact me 3 e
    |4,e=>exact me 4 e
    |5,e=>exact me 5 e
   refine qM O$ Lk O$ Lh Tryz.func151 O (⟨_,rfl,rfl,Fd',z,?_,?_,ph⟩)
   ·rw[if_pos O];exact dP.m.kp ax λj ⟨i,hj⟩ e=>Db i (e▸hj)
   ·exact((aN.Lv λj e=> .inr (.inr e)).trans (ao.Lv λj e=> .inr (.inl e))).trans (ax.Lv λj e=> .inl e)
end
structure NI.Same (P P':NI):Prop where
 s:P'.s=P.s
 d:P'.d=P.d
 m:P'.m=P.m
 gi:P'.gi=P.gi
 c:P'.c=P.c
 pm:P'.pm=P.pm
 p:P'.p=P.p
 fr:P'.fr=P.fr
 L:P'.L=P.L
theorem NI.Same.trans {P P' P2:NI}(h:P.Same P')(h2:P'.Same P2):P.Same P2:=
 ⟨h2.s.trans h.s,h2.d.trans h.d,h2.m.trans h.m,h2.gi.trans h.gi,h2.c.trans h.c,h2.pm.trans h.pm,h2.p.trans h.p,h2.fr.trans h.fr,h2.L.trans h.L⟩
theorem Wc {l:List Pg}{k:Int}{b:Nat}{t0 t:Bytes}{d0 d:Bool}(h:k∉l.map (·.k)):NA (l++[⟨k,b,t0,d0⟩]) k t d=l++[⟨k,b,t,d⟩]:=by
 unfold NA
 rw[List.map_append]
 congr 1
 ·conv=>rhs;rw[<-List.map_id l]
  refine List.map_congr_left λg hg=>?_;rw[if_neg λe=>h (List.mem_map.2 ⟨g,hg,e⟩)];rfl
 ·show [if k=k then _ else _]=_;rw[if_pos O]
section
variable {w w' w0:World}{P P0 P':NI}{S':Nat->Prop}{txt:Int->Bytes}{K:Nat}
theorem PW.get (h:PW w P){q:Pg}(hq:q∈P.l):getL (Qw P.l) q.k=some (ptr q.b 0):=
 z0l h.mp.nd (List.mem_map.2 ⟨q,hq,rfl⟩)
theorem PY.write (h:PY w0 P0 w P){D':Dev}{Fd':Nat->Prop}{wr':Int}{b:Nat}(hm:PW w' {P with D:=D',Fd:=Fd',wr:=wr'})(hk:Kp (λj=>j=b\/P.cp 0 j\/P.cp 1 j) w w')(hF:∀j,Fd' j->P.Fd j\/w.heap.size<=j)(hb:P0.fp b\/w0.heap.size<=b):PY w0 P0 w' {P with D:=D',Fd:=Fd',wr:=wr'}:=
 ⟨hm,λj ⟨i,hj⟩=>by
  match i,hj with
  |0,e=>exact h.fp j ⟨0,e⟩
  | 1, e =>
    rcases hF j e with e| e
    ·exact h.fp j ⟨1,e⟩
    ·exact .inr (by have:=h.k.size;omega)
  |2,e=>exact h.fp j ⟨2,e⟩
  |3,e=>exact h.fp j ⟨3,e⟩
  |4,e=>exact h.fp j ⟨4,e⟩
  |5,e=>exact h.fp j ⟨5,e⟩,h.k.It hk λj e=>by
  rcases e with e|e| e
  ·rw[e];exact hb.symm
  ·exact(h.fp j ⟨0,e⟩).symm
  ·exact(h.fp j ⟨1,e⟩).symm⟩
theorem Vt (hr : PY w0 P0 w P)(hI : Rw P txt K)(hK : K < 1000000000000){no : Int}(h0 : 0 <= no)(h1 : no < (P.L.length : Int))(wt : Option Bytes)(ov : ∀ t, wt = some t -> t.length = 512){x : Nat}{x0 : Value}(jk : w0.heap.size <= x)(ey : ∀ i, ¬ P.cp i x)(ft : Lq w x [x0] 9){f : Nat}(oD : CF Tryz.prog f)
  (Dc:∀(w1:World) (b:Nat) (t:Bytes) (d:Bool),b≠x->Lq w1 b (pgC t d) 219->Lq w1 x [x0] 9->LP Tryz.prog f [ptr b 0,ptr x 0] w1 λv w2=>v= .tuple #[]/\Lq w2 b (pgC (wt.getD t) (wt.isSome ||d)) 219/\Lq w2 x [S (wt.getD t)] 9/\Kp (λj=>j=if wt.isSome then b else x) w1 w2):
  LP Tryz.prog 110 [ptr P.s 0,I no,.bool wt.isSome,.func (.func f) #[] #[ptr x 0]] w λv w'=>v=I 0/\Lq w' x [S (wt.getD (txt no))] 9/\∃P',PY w0 P0 w' P'/\Rw P' (UI txt no wt) (K+wN wt)/\P.Same P'/\∀i,¬P'.cp i x:=by
 have hB:=hr.m.cells
 have eT:=S9 hr.m.dev
 rw[hI.B] at eT
 have lx:=ft.lt
 have gd:=Arc.WS hI.aok no
 obtain⟨T,hT⟩:∃T,P.A.Nk no=T:=⟨_,rfl⟩
 have eM:=z2o hr.m.arc hI.aok hI.asz (k:=no)
 rw[hT] at gd eM
 obtain⟨A2,UG,g⟩:=T
 dsimp only at gd eM
 have n4096:=hr.m.ext.n
 refine Lb (e:=[(0,_),(1,_),(2,_),(3,_)]) Tryz.func110 O Tryz.ntmps110 O O$ qN O$ Lk O$ run_seq$ qN O$ Le O$ Mw O O$ M5$ Lu O O$ Le O$ LU O$ Lt QL O$ qV (Lj U27 O O hB O)$ LD Zs O (eT) ?_
 rintro _ w ⟨rfl,rfl⟩
 refine Pa O O$ M5$ M8 O O$ Lf$ An O$ py$ qN O$ Le O$ LU O$ Lt z2J O$ qV (Lj z3Z O O hB O)$ Le O$ LD zdH O (eM) ?_
 rintro _ w1 ⟨rfl,V2,qK⟩
 have cZ:=hr.arc qK
 have Dd:=qK.k.Lg ft (ey 3)
 have z1:=qK.k.size
 refine Le O$ qV (Nq (v:=z8E UG g) O O)$ qV (Nq (v:=I 0) O O)$ Lm O O (NJ (cs:=[_,_,_]) LW O) ?_
 rintro _ w2 ⟨b9,rfl,mz,ag,cM⟩
 have z2:=ag.size
 refine Ls O (M7 (news:=Nv UG g) LW O O O O cM (by simp)) ?_
 rintro w3 ⟨ck,ax⟩
 replace ck:Lq w3 b9 [.bool UG,.bool g.isSome,I (g.getD 0)] 265:=ck
 have aL:Ext w1 w3:=ag.It ax (λj e=>by omega)
 have cd:=cZ.ext aL
 have xR:=aL.Lg Dd
 have z01:=cZ.k.size
 have z13:=aL.size
 have eF:∀i,¬NI.cp {P with A:=A2,V:=V2} i x:=λi e=>by
  match i,e with
  |0,e=>exact ey 0 e
  |1,e=>exact ey 1 e
  |2,e=>exact ey 2 e
  | 3, e =>
    rcases qK.fp x e with e| e
    ·exact ey 3 e
    ·omega
  |4,e=>exact ey 4 e
  |5,e=>exact ey 5 e
 have xS:∀i,¬NI.cp {P with A:=A2,V:=V2} i b9:=cZ.m.new (by omega)
 have KT:b9≠x:=by omega
 have l93:=ck.lt
 have j3:=cd.m.cells
 dsimp only at j3
 refine Lk O$ LS.qb (e:=[(0,_),(1,_),(2,_),(3,_),(8,_),(9,_),(10,_)]) ?_
 refine run_seq$ qN O$ Le O$ Mu O O$ Lf$ An O$ py$ run_seq$ qN O$ Lt z8P O ?_
 cases UG with
 | true =>
   have bE:=gd.UG.1 O
   obtain⟨q,hq,De⟩:∃q∈P.l,q.k=no:=by
    obtain⟨q,a,b⟩:=List.mem_map.1 ((hI.keys no).2 bE);exact⟨q,a,b⟩
   subst De;refine qV (Lj U4 O O ck O)$ Lf$ Lr O$ qN O$ Le O$ LU O$ Lt SD O$ Lt z7b O$ qV (Lj U3 O O j3 O)$ qV (z6D O O)$ LU O$ Lt SD O$ Lt z7b O$ Ls O (MY Md O O O j3 (by simp)) ?_;rintro w4 ⟨aF,av⟩;obtain⟨z,hz⟩:∃z,IntKind.i64.wrap (P.h+1)=z:=⟨_,rfl⟩;rw[hz] at aF;have bH:=cd.cnt (a:=z) (b:=P.mi) (c:=P.wr) aF av;have ge:=bH.m.cells;dsimp only at ge;have pP:=av.Lg xR (ey 0);have dS:=bH.m.get hq;dsimp only at dS;have qi:Lq w4 q.b (pgC q.t q.d) 219:=bH.m.pg q hq;have ox:q.b≠x:=λe=>ey 5 ⟨q,hq,e⟩;refine qM O$ Lu O O$ LU O$ Lt R9 O$ qV (Lj RF O O ge O)$ Le O$ qV (ylk (k:=q.k) (K:=KI) RF (NX U3) z63 O O bH.m.mp.l) ?_;dsimp only;rw[dS];refine MK O O (NW oD O O) (Dc w4 q.b q.t q.d ox qi pP) ?_;rintro _ w5 ⟨rfl,Df,pQ,ak⟩;refine Lf$ LS.qb (e:=[(0,_),(1,_),(2,_),(3,_),(8,_),(9,_),(10,_)]) ?_;refine qN O$ Lk O$ Lh Tryz.func110 O ?_;have Dg:=hI.tx q hq;refine⟨_,rfl,rfl,by rw[<-Dg];exact pQ,?_⟩
   cases wt with
   | none =>
     have pR:∀i,¬NI.cp {P with A:=A2,V:=V2,h:=z,mi:=P.mi,wr:=P.wr} i x:=λi e2=>by
      match i,e2 with
      |0,e2=>exact eF 0 e2
      |1,e2=>exact eF 1 e2
      |2,e2=>exact eF 2 e2
      |3,e2=>exact eF 3 e2
      |4,e2=>exact eF 4 e2
      |5,e2=>exact eF 5 e2
     refine⟨_,bH.loc ak (λj e=>⟨.inr (by rw[show j=x from e];exact jk),by rw[show j=x from e];exact pR⟩),hI.UG hq ov (by rw[hT]) ?_ O O,⟨rfl,rfl,rfl,rfl,rfl,rfl,rfl,rfl,rfl⟩,pR⟩;show P.l=NA P.l q.k q.t q.d
     exact(X9 hI.nd hq).symm
   | some t =>
     refine⟨_,bH.zbp hq Df ak,hI.UG hq ov (by rw[hT]) O O O,⟨rfl,rfl,rfl,rfl,rfl,rfl,rfl,rfl,rfl⟩,λi e2=>?_⟩
     match i,e2 with
     |0,e2=>exact eF 0 e2
     |1,e2=>exact eF 1 e2
     |2,e2=>exact eF 2 e2
     |3,e2=>exact eF 3 e2
     |4,e2=>exact eF 4 e2
     | 5, ⟨g', cN, e2⟩ =>
       have h3:g'.b∈P.l.map (·.b):=by rw[<-YA P.l q.k];exact List.mem_map.2 ⟨g',cN,rfl⟩
       obtain⟨g2,a,b⟩:=List.mem_map.1 h3
       exact eF 5 ⟨g2,a,b.trans e2⟩
 | false =>
   have Dh:¬P.A.held no:=λe=>by have:=gd.UG.2 e;cases this
   refine qV (Lj U4 O O ck O)$ Lf$ An O$ py$ qN O$ Le O$ LU O$ Lt SD O$ Lt z6G O$ qV (Lj U3 O O j3 O)$ qV (z6D O O)$ LU O$ Lt SD O$ Lt z6G O ?_;refine Ls O (MY Md O O O j3 (by simp)) ?_;rintro w4 ⟨aF,av⟩;obtain⟨z,hz⟩:∃z,IntKind.i64.wrap (P.mi+1)=z:=⟨_,rfl⟩;rw[hz] at aF;have bH:=cd.cnt (a:=P.h) (b:=z) (c:=P.wr) aF av;have ge:=bH.m.cells;dsimp only at ge;have pP:=av.Lg xR (ey 0);have zI:b9≠P.s:=λe=>xS 0 e;have jY:=av.Lg ck zI;have z4:=av.size;refine Lf$ run_seq$ qN O$ Lt z80 O$ qV (Lj U4 O O jY O)$ Lf ?_
   have IN:∀(D':Dev) (Fd':Nat->Prop) (l':List Pg) (wr':Int),(∀j,Fd' j->P.Fd j\/w.heap.size<=j)->l'.Sublist P.l->∀b,(∀i,¬NI.cp {P with A:=A2,V:=V2} i b)->b<w.heap.size\/(∀j,Fd' j->j≠b)->∀i,¬NI.cp {P with A:=A2,V:=V2,D:=D',Fd:=Fd',l:=l',mi:=z,wr:=wr'} i b:=λD' Fd' l' wr' hF hl b hb c6 i e=>by
    match i,e with
    |0,e=>exact hb 0 e
    | 1, e =>
      rcases c6 with h| h
      ·rcases hF b e with e| e
       ·exact hb 1 e
       ·omega
      ·exact h b e O
    |2,e=>exact hb 2 e
    |3,e=>exact hb 3 e
    |4,e=>exact hb 4 e
    |5,⟨q,hq,e⟩=>exact hb 5 ⟨q,hl.subset hq,e⟩
   refine M6 (λe' w'=>e'=[(0,ptr P.s 0),(1,I no),(2,.bool wt.isSome),(3,.func (.func f) #[] #[ptr x 0])]/\∃D' Fd' l' wr',PY w0 P0 w' {P with A:=A2,V:=V2,D:=D',Fd:=Fd',l:=l',mi:=z,wr:=wr'}/\z7X P txt K g D' l'/\Lq w' x [x0] 9/\(∀j,Fd' j->P.Fd j\/w.heap.size<=j/\j≠x)) ?et$ λet=>?iv
   case et =>
    rintro e' w5 ⟨rfl,D',Fd',l',wr',cb,dZ,pQ,tX⟩;have lw:no∉l'.map (·.k):=λe=>Dh ((hI.keys no).1 ((dZ.keys no).1 e).1);have z5:=cb.k.size;have lx5:=pQ.lt
    have eG:∀i,¬NI.cp {P with A:=A2,V:=V2,D:=D',Fd:=Fd',l:=l',mi:=z,wr:=wr'} i x:=λi e=>by
     match i,e with
     |0,e=>exact ey 0 e
     | 1, e =>
       rcases tX x e with e| e
       ·exact ey 1 e
       ·exact e.2 O
     |2,e=>exact ey 2 e
     |3,e=>exact eF 3 e
     |4,e=>exact ey 4 e
     |5,⟨q,hq,e⟩=>exact ey 5 ⟨q,dZ.sub.subset hq,e⟩
    refine qN O$ qV (O6 (cs:=[_,_,_]) zdk O zc7 O O)$ Lm O O (Nc O (cs:=pgC [] false) O) ?_;rintro _ w6 ⟨b,rfl,hb,aK,aR⟩;replace aR:Lq w6 b [S [],.bool false,I 0] 219:=aR;have cB:=cb.ext aK;have nC:=aK.Lg pQ;have nD:b≠x:=by omega
    have gh:∀i,¬NI.cp {P with A:=A2,V:=V2,D:=D',Fd:=Fd',l:=l',mi:=z,wr:=wr'} i b:=cb.m.new (by omega);have lb6:=aR.lt
    have xT:getL (Qw l') no=none:=XU λe=>lw (by
     unfold Qw at e;rw[List.map_map] at e
     exact e)
    refine Lk O$ run_seq$ qN O$ Le O$ qV ((by first|exact Mh O|exact NL O)) ?_
    cases wt with
    | none =>
      refine Lf$ Lr O ?_;have lV:=cB.m.cells;dsimp only at lV;have dV:=z3R no cB.m.dev (k:=K) ⟨by have:=dZ.ca;show D'.calls<=_;omega,by have:=dZ.cc;show D'.cache.length<=_;omega,trivial,dZ.Oi⟩ hK
      have IP:D'.read no=({D' with reads:=IntKind.i64.wrap (D'.reads+1)},txt no,0):=by
       have hh:D'.has no=true:=by
        have:=dZ.B;have:=hI.B;simp[Dev.has];omega
       unfold Dev.read;rw[if_neg (by rw[dZ.down];simp),if_neg (by rw[hh];simp),dZ.now no h0 h1 lw]
      dsimp only at dV;rw[IP] at dV;dsimp only at dV;refine qN O$ Lu O O$ LU O$ Lt QL O$ qV (Lj U27 O O lV O)$ Le O$ LD zbT O (dV) ?_;rintro _ w7 ⟨rfl,qC⟩;obtain⟨Fd7,xU,xV⟩:=cB.dev qC;have hH:Kp Fd' w6 w7:=qC.kpF;have bJ:=hH.Lg aR (gh 1);have sR:=hH.Lg nC (eG 1);refine Le O$ qV (Nq (v:=S (txt no)) O O)$ qV (Nq (v:=I 0) O O)$ LU O$ Lt Rq O$ Lt YU O$ Ls O (MY XB O O O bJ (by simp)) ?_;rintro w8 ⟨cu,bB⟩;replace cu:Lq w8 b (pgC (txt no) false) 219:=cu
      have sS:∀i,¬NI.cp {P with A:=A2,V:=V2,D:={D' with reads:=IntKind.i64.wrap (D'.reads+1)},Fd:=Fd7,l:=l',mi:=z,wr:=wr'} i b:=λi e=>by
       match i,e with
       |0,e=>exact gh 0 e
       | 1, e =>
         rcases xV b e with e| e
         ·exact gh 1 e
         ·omega
       |2,e=>exact gh 2 e
       |3,e=>exact gh 3 e
       |4,e=>exact gh 4 e
       |5,e=>exact gh 5 e
      have kg:∀i,¬NI.cp {P with A:=A2,V:=V2,D:={D' with reads:=IntKind.i64.wrap (D'.reads+1)},Fd:=Fd7,l:=l',mi:=z,wr:=wr'} i x:=λi e=>by
       match i,e with
       |0,e=>exact eG 0 e
       | 1, e =>
         rcases xV x e with e| e
         ·exact eG 1 e
         ·have:=nC.lt;omega
       |2,e=>exact eG 2 e
       |3,e=>exact eG 3 e
       |4,e=>exact eG 4 e
       |5,e=>exact eG 5 e
      have fx:=xU.loc bB (λj e=>by rw[show j=b from e];exact⟨.inr (by omega),sS⟩);have Di:=bB.Lg sR (λe=>nD e.symm);have xW:=fx.m.cells;dsimp only at xW;refine Lw O$ qM O$ Le O$ Mu O O$ Lf$ LS.qb (e:=[(0,_),(1,_),(3,_),(10,_),(13,_),(106,_)]) ?_;refine An O$ py$ qN O$ Le O$ LU O$ Lt R9 O$ qV (Lj RF O O xW O)$ Lu O O$ Ls O (zao (k:=no) (K:=KI) RF (NX U3) O O O fx.m.mp) ?_;rintro w9 ⟨pS,aP⟩;dsimp only at pS;rw[Qo _ _ _ xT] at pS;have gL:=fx.ins (g:=⟨no,b,txt no,false⟩) ⟨by dsimp only;omega,sS⟩ cu (by unfold Qw at pS⊢;rw[List.map_append];exact pS) aP;have cM:=aP.Lg cu (sS 4);have sT:=aP.Lg Di (kg 4);refine qM O$ Lu O O$ MK O O (NW oD O O) (Dc w9 b (txt no) false nD cM sT) ?_;rintro _ w10 ⟨rfl,qP,nE,ar⟩;refine qM O$ Lk O$ Lh Tryz.func110 O ?_
      have pR:∀i,¬NI.cp {P with A:=A2,V:=V2,D:={D' with reads:=IntKind.i64.wrap (D'.reads+1)},Fd:=Fd7,l:=l'++[⟨no,b,txt no,false⟩],mi:=z,wr:=wr'} i x:=λi e2=>by
       match i,e2 with
       |0,e2=>exact kg 0 e2
       |1,e2=>exact kg 1 e2
       |2,e2=>exact kg 2 e2
       |3,e2=>exact kg 3 e2
       |4,e2=>exact kg 4 e2
       | 5, ⟨q, hq, e2⟩ =>
         rcases List.mem_append.1 hq with e3|e3
         ·exact kg 5 ⟨q,e3,e2⟩
         ·rw[List.mem_singleton.1 e3] at e2;exact nD e2
      exact⟨_,rfl,rfl,nE,_,gL.loc ar (λj e=>⟨.inr (by rw[show j=x from e];exact jk),by rw[show j=x from e];exact pR⟩),hI.zdX h0 h1 Dh ov (by rw[hT];exact dZ) (by rw[hT]) O O O,⟨rfl,rfl,rfl,rfl,rfl,rfl,rfl,rfl,rfl⟩,pR⟩
    | some t =>
      refine Lf$ An O ?_;have lV:=cB.m.cells;dsimp only at lV;refine py$ qN O$ Le O$ LU O$ Lt R9 O$ qV (Lj RF O O lV O)$ Lu O O$ Ls O (zao (k:=no) (K:=KI) RF (NX U3) O O O cB.m.mp) ?_;rintro w9 ⟨pS,aP⟩;dsimp only at pS;rw[Qo _ _ _ xT] at pS;have gL:=cB.ins (g:=⟨no,b,[],false⟩) ⟨by dsimp only;omega,gh⟩ aR (by unfold Qw at pS⊢;rw[List.map_append];exact pS) aP;have cM:=aP.Lg aR (gh 4);have sT:=aP.Lg nC (eG 4);refine qM O$ Lu O O$ MK O O (NW oD O O) (Dc w9 b [] false nD cM sT) ?_;rintro _ w10 ⟨rfl,qP,nE,ar⟩;refine qM O$ Lk O$ Lh Tryz.func110 O ?_;have nl:=gL.zbp (g:=⟨no,b,[],false⟩) (List.mem_append_right _ (List.mem_singleton.2 O)) qP ar;refine⟨_,rfl,rfl,nE,_,nl,hI.zdX h0 h1 Dh ov (by rw[hT];exact dZ) (by rw[hT]) (Wc lw) O O,⟨rfl,rfl,rfl,rfl,rfl,rfl,rfl,rfl,rfl⟩,λi e2=>?_⟩
      match i,e2 with
      |0,e2=>exact eG 0 e2
      |1,e2=>exact eG 1 e2
      |2,e2=>exact eG 2 e2
      |3,e2=>exact eG 3 e2
      |4,e2=>exact eG 4 e2
      | 5, ⟨q, hq, e2⟩ =>
        have e4:=Wc (b:=b) (t0:=[]) (t:=(some t).getD []) (d0:=false) (d:=(some t).isSome ||false) lw;have IQ:q∈l'++[⟨no,b,(some t).getD [],(some t).isSome ||false⟩]:=by rw[<-e4];exact hq
        rcases List.mem_append.1 IQ with e3|e3
        ·exact eG 5 ⟨q,e3,e2⟩
        ·rw[List.mem_singleton.1 e3] at e2;exact nD e2
   case iv=>
    cases g with
    | none =>
      refine An O$ py ?_
      exact(et _ _ ⟨rfl,_,_,_,P.wr,bH,hI.zcL,pP,λj e=> .inl e⟩).qb
    | some gk =>
      obtain⟨IR,IS⟩:=gd.gone gk O
      obtain⟨q,hq,De⟩:∃q∈P.l,q.k=gk:=by
       obtain⟨q,a,b⟩:=List.mem_map.1 ((hI.keys gk).2 IR);exact⟨q,a,b⟩
      subst De;have dS:=bH.m.get hq;dsimp only at dS;have af:=Ext.LC w4;refine Lr O$ run_seq$ N7 (λw'=>Ext w4 w') O$ LA 0 O O (af)$ Ll 1 O (Mo O) af$ Ll 2 O (LV R9 O) af$ qT 3 O (λ_ h=>(by first|exact Lj RF O O (h.Lg ge) O|exact Lj RF O O (h.Lg jY) O)) af ?_;refine Ll 4 O (LV YW O) af$ qT 5 O (λ_ h=>(by first|exact Lj U3 O O (h.Lg ge) O|exact Lj U3 O O (h.Lg jY) O)) af ?_;refine qT 6 O (λ_ h=>ylk (k:=q.k) (K:=KI) RF (NX U3) z63 O O (bH.m.ext' h).mp.l) af ?_;dsimp only;rw[dS];refine Ll 7 O (Ni O) af$ qE$ LS.qb (e:=[(0,_),(1,_),(2,_),(3,_),(8,_),(9,_),(10,_),(11,_)]) ?_;refine run_seq ?_;have dY:=Ext.LC w4.drew;have kh:=af.Lg ge;have gG:=af.Lg jY;have cb:=bH.ext (af.trans dY);refine LH [6] (λw'=>Ext w4.drew w') (by kernel_rfl) O$ qL [1,2,3,6] 0 O (λ_ h=>M0 O) dY$ qL [2,3,6] 1 O (λ_ h=>Mo O) dY$ qL [3,6] 2 O (λ_ h=>LV R9 O) dY$ qL [6] 3 O (λ_ h=>(by first|exact Lj RF O O (h.Lg kh) O|exact Lj RF O O (h.Lg gG) O)) dY ?_;refine qL [5,6] 4 O (λ_ h=>LV YW O) dY$ qL [6] 5 O (λ_ h=>(by first|exact Lj U3 O O (h.Lg kh) O|exact Lj U3 O O (h.Lg gG) O)) dY ?_;refine OY [6]$ qO 6$ z77 (i:=6) O O (zaU (k:=q.k) (K:=KI) RF (NX U3) O O cb.m.mp O) ?_;rintro _ w6 ⟨Dj,aU⟩;refine⟨trivial,?_⟩;dsimp only at Dj;rw[Y0] at Dj;have cB:=cb.del (OD P.l q.k) Dj aU;have Dk:Lq w4 q.b (pgC q.t q.d) 219:=bH.m.pg q hq;have xX:q.b≠P.pm:=λe=>bH.m.Rf 5 4 (by decide) q.b ⟨q,hq,rfl⟩ e;have rM:=aU.Lg ((af.trans dY).Lg Dk) xX
      have gh:∀i,¬NI.cp {P with A:=A2,V:=V2,h:=P.h,mi:=z,wr:=P.wr,l:=dropPg P.l q.k} i q.b:=λi e=>by
       match i,e with
       |0,e=>exact bH.m.Rf 5 0 (by decide) q.b ⟨q,hq,rfl⟩ e
       |1,e=>exact bH.m.Rf 5 1 (by decide) q.b ⟨q,hq,rfl⟩ e
       |2,e=>exact bH.m.Rf 5 2 (by decide) q.b ⟨q,hq,rfl⟩ e
       |3,e=>exact bH.m.Rf 5 3 (by decide) q.b ⟨q,hq,rfl⟩ e
       |4,e=>exact xX e
       | 5, ⟨q2, eC, e⟩ =>
         have e2:q2=q:=Ox bH.m.pnd ((OD P.l q.k).subset eC) hq e;have:=((WD hI.nd q.k q2.k).1 (List.mem_map.2 ⟨q2,eC,rfl⟩)).2;exact this (by rw[e2])
      have pT:=hI.rng q hq;have Dg:=hI.tx q hq;have wu:q.t.length=512:=by rw[Dg];exact hI.len q.k pT.1 pT.2
      have nC:=aU.Lg ((af.trans dY).Lg pP) (eF 4);have lV:=cB.m.cells;have Dl:=aU.Lg ((af.trans dY).Lg jY) (xS 4);have z46:=(af.trans dY).size;have z56:=aU.size;refine qE$ qN O$ Le O$ Lt YW O$ qV (Lj U3 O O Dl O)$ Le O$ LD zdF O (ZF cB.m hI.zaS hI.down hI.due hI.B hI.N hK pT.1 pT.2 wu rM gh) ?_;rintro _ w7 ⟨rfl,Fd7,wr7,g8,aC,xV⟩;have xU:=cB.write g8 aC xV (bH.fp q.b ⟨5,q,hq,rfl⟩);have ox:q.b≠x:=λe=>ey 5 ⟨q,hq,e⟩
      have sR:=aC.Lg nC (λe=>by
       rcases e with e|e| e
       ·exact ox e.symm
       ·exact ey 0 e
       ·exact ey 1 e)
      refine Lw O$ qM O$ Le O$ Mu O O$ Lf$ An O$ py ?_;exact(et _ _ ⟨rfl,_,Fd7,_,wr7,xU,hI.zdq hq,sR,λj e=>(xV j e).imp id λe=>⟨by omega,by omega⟩⟩).qb
end
section
variable {w w' w0:World}{P P0 P':NI}{S':Nat->Prop}{txt:Int->Bytes}{K:Nat}
theorem z4x {b x:Nat}{t:Bytes}{d:Bool}{x0:Value}(ft:b≠x)(hb:Lq w b (pgC t d) 219)(hx:Lq w x [x0] 9):LP Tryz.prog 111 [ptr b 0,ptr x 0] w λv w2=>v= .tuple #[]/\Lq w2 b (pgC t d) 219/\Lq w2 x [S t] 9/\Kp (λj=>j=x) w w2:=by
 replace hb:Lq w b [S t,.bool d,I 0] 219:=hb
 refine Lb (e:=[(0,_),(1,_)]) Tryz.func111 O Tryz.ntmps111 O O$ Li O$ Le O$ LU O$ Lt Rq O$ Lt YU O$ qV (Lj U9 O O hb O)$ Ls O (MY XB O O O hx (by simp)) ?_
 rintro w1 ⟨ad,aN⟩
 refine Lf$ ME Tryz.func111 O ?_
 exact⟨_,rfl,rfl,aN.Lg hb ft,ad,aN⟩
theorem z1o {b x:Nat}{t s:Bytes}{d:Bool}(ft:b≠x)(hb:Lq w b (pgC t d) 219)(hx:Lq w x [S s] 9):LP Tryz.prog 112 [ptr b 0,ptr x 0] w λv w2=>v= .tuple #[]/\Lq w2 b (pgC s true) 219/\Lq w2 x [S s] 9/\Kp (λj=>j=b) w w2:=by
 replace hb:Lq w b [S t,.bool d,I 0] 219:=hb
 refine Lb (e:=[(0,_),(1,_)]) Tryz.func112 O Tryz.ntmps112 O O$ Li O$ Le O$ qV (Lj U9 O O hx O)$ qV (O6 (cs:=[_,_]) z3g O zdB O O)$ LU O$ Lt Rq O$ Ls O (M7 (news:=[S s,.bool true]) z3g O O O O hb (by simp)) ?_
 rintro w1 ⟨bR,aN⟩
 refine Lf$ ME Tryz.func112 O ?_
 exact⟨_,rfl,rfl,bR,aN.Lg hx (λe=>ft e.symm),aN⟩
theorem z1w (hm:PW w P)(hI:Rw P txt K)(hK:K<1000000000000){no:Int}(h0:0<=no)(h1:no<(P.L.length:Int)):LP Tryz.prog 71 [ptr P.s 0,I no] w λv w'=>v= .tuple #[S (txt no),I 0]/\∃P',PY w P w' P'/\Rw P' txt K/\P.Same P':=by
 refine Lb (e:=[(0,_),(1,_)]) Tryz.func71 O Tryz.ntmps71 O O$ qN O$ Lm O O (NJ (cs:=[_]) XB O) ?_
 rintro _ w1 ⟨x,rfl,hx,ad,hB⟩
 have cZ:=hm.r ad
 have ey:∀i,¬P.cp i x:=hm.new (by omega)
 refine Lk O$ run_seq$ qN O$ Le O$ LD z9A O (Vg cZ.m hI.down) ?_
 rintro _ w1 ⟨rfl,rfl⟩
 refine Lw O$ qM O$ Le O$ Mu O O$ Lf$ An O$ py$ qN O$ Lu O O$ qV (Z9 (first:=[]) (caps:=[.tmp 4]) O O)$ LD z9d O (Vt cZ hI hK h0 h1 none (λt e=>by cases e) (by omega) ey hB zbl (λw1 b t d ft hb hx=>z4x ft hb hx)) ?_
 rintro _ w2 ⟨rfl,am,P',dP,cP,cW,xY⟩
 rw[Uw] at cP
 replace am:Lq w2 x [S (txt no)] 9:=am
 refine Lw O$ qM O$ qV (Lj U9 O O am O)$ Le O$ Ls O (MY XB O O O am (by simp)) ?_
 rintro w3 ⟨aq,ax⟩
 replace aq:Lq w3 x [S (txt no)] 9:=aq
 refine Lk O$ LL Tryz.func71 (.cell1 U9 O O ((aq).cell _) (.tmp O .nil)) ?_
 exact⟨_,rfl,rfl,P',dP.loc ax (λj e=>by rw[show j=x from e];exact⟨.inr (by omega),xY⟩),cP,cW⟩
theorem z3S (hm:PW w P)(hI:Rw P txt K)(hK:K<1000000000000){no:Int}(h0:0<=no)(h1:no<(P.L.length:Int))(t:Bytes)(ht:t.length=512):LP Tryz.prog 72 [ptr P.s 0,I no,S t] w λv w'=>v=I 0/\∃P',PY w P w' P'/\Rw P' (UI txt no (some t)) (K+1)/\P.Same P':=by
 refine Lb (e:=[(0,_),(1,_),(2,_)]) Tryz.func72 O Tryz.ntmps72 O O$ qN O$ Lm O O (Nc O (cs:=[S t]) O) ?_
 rintro _ w1 ⟨x,rfl,hx,ad,hB⟩
 have cZ:=hm.r ad
 have ey:∀i,¬P.cp i x:=hm.new (by omega)
 refine Lk O$ run_seq$ qN O$ Le O$ LD z9A O (Vg cZ.m hI.down) ?_
 rintro _ w1 ⟨rfl,rfl⟩
 refine Lw O$ qM O$ Le O$ Mu O O ?_
 have hg:=Ext.LC w1
 refine Lf$ An O$ py$ run_seq$ run_seq$ N7 (λw'=>Ext w1 w') O$ qT 0 O (λ_ h=>Lj U9 O O (h.Lg hB) O) hg$ Ll 1 O (RK U9 O) hg$ LA 2 O O (hg)$ OA 3 O z0i O (Wm (cZ.m.ext' hg) hI.N) ?_
 rintro _ w2 ⟨rfl,rfl⟩
 refine⟨hg,?_⟩
 refine Ll 4 O (yne O O) hg$ PU$ qE$ An O$ py$ qN O$ Lu O O$ qV (Z9 (first:=[]) (caps:=[.tmp 5]) O O)$ LD z9d O (Vt (cZ.ext hg) hI hK h0 h1 (some t) (λs e=>by cases e;exact ht) (by omega) ey (hg.Lg hB) zbn (λw1 b t2 d ft hb hx=>z1o ft hb hx)) ?_
 rintro _ w2 ⟨rfl,am,P',dP,cP,cW,xY⟩
 refine Lk O$ Lh Tryz.func72 O ?_
 exact⟨_,rfl,rfl,P',dP,cP,cW⟩
theorem z2c (hm:PW w P){a n:Nat}(hp:Pre P.L a)(cT:1<=n)(ou:a+n<=P.L.length):LP Tryz.prog 57 [ptr P.s 0,I (n:Int)] w λv w'=>v= .tuple #[.agg #[I (a:Int),I (n:Int)],I 0]/\PY w P w' {P with L:=MZ P.L a n true}:=by
 refine Lb (e:=[(0,_),(1,_)]) Tryz.func57 O Tryz.ntmps57 O O$ qN O$ Lm O O (NJ (cs:=[_,_]) MX O) ?_
 rintro _ w1 ⟨x,rfl,hx,ad,hB⟩
 have cZ:=hm.r ad
 have ey:∀i,¬P.cp i x:=hm.new (by omega)
 have jl:=cZ.m.cells
 refine Lk O$ run_seq$ qN O$ Le O$ qV (Ml SJ O O)$ Lf$ An O$ py$ qN O$ Le O$ LU O$ Lt Yu O$ qV (Lj Xj O O jl O)$ Le O ?_
 refine LD zf1 O (ZM cZ.m.ext hp cT ou) ?_
 rintro _ w2 ⟨rfl,en,ao⟩
 have dP:=cZ.exM en ao
 have am:=ao.Lg hB (λe=>ey 2 (.inr e))
 refine qV (Nq (v:= .agg #[I (a:Int),I (n:Int)]) O O)$ qV (Nq (v:=I 0) O O)$ Ls O (M7 (news:=[I (a:Int),I (n:Int)]) MX O O O O am (by simp)) ?_
 rintro w3 ⟨aq,ax⟩
 replace aq:Lq w3 x [I (a:Int),I (n:Int)] 108:=aq
 refine Lk O$ LL Tryz.func57 (.cell S2 O MX O (Lq.cells (n:=2) aq (news:=[_,_]) O) O (.tmp O .nil)) ?_
 refine⟨_,rfl,rfl,dP.loc ax (λj e=>by
  rw[show j=x from e];refine⟨.inr (by omega),λi e2=>?_⟩
  match i,e2 with
  |0,e2=>exact ey 0 e2
  |1,e2=>exact ey 1 e2
  |2,e2=>exact ey 2 e2
  |3,e2=>exact ey 3 e2
  |4,e2=>exact ey 4 e2
  |5,e2=>exact ey 5 e2)⟩
theorem Rw.MD (h:Rw P txt K){L':List Bool}(hl:L'.length=P.L.length):Rw {P with L:=L'} txt K:=
 ⟨h.aok,h.asz,h.keys,h.nd,λg hg=>by rw[hl];exact h.rng g hg,h.tx,h.cl,λx h0 h1=>by rw[hl] at h1;exact h.out x h0 h1,λx h0 h1=>by rw[hl] at h1;exact h.len x h0 h1,h.down,h.due,h.B.trans hl.symm,h.N,h.ca,h.cc,h.Oi⟩
theorem z4W {d m gi:Nat}{L:List Bool}{Fd:Nat->Prop}(hd:RI w d (Dev.fresh L.length 1) Fd)(he:SY w m gi L)(zJ:¬Fd m/\¬Fd gi)(n:Nat)(cT:1<=n)(jc:n<=1000):LP Tryz.prog 29 [ptr d 0,I (n:Int),ptr m 0] w λv w'=>∃P,v= .tuple #[ptr P.s 0,I 0]/\PW w' P/\Rw P (λ_=>zeros 512) 0/\P.m=m/\P.gi=gi/\P.L=L/\(∀b,P.fp b->Fd b\/b=m\/b=gi\/w.heap.size<=b)/\Ext w w':=by
 refine Lb (e:=[(0,_),(1,_),(2,_)]) Tryz.func29 O Tryz.ntmps29 O O$ qN O$ Lw O$ Lk O$ run_seq$ Lc$ qN O$ Le O$ qV (Ml U27 O O)$ Lu O O$ qV (Ml Xj O O)$ M8 O O$ Lk O$ An O ?_
 refine qN O$ Le O$ Mw O O$ M5$ Lu O O$ MH O O$ M5$ M8 O O$ Lk O$ An O$ py$ Ld$ qN O$ Le O ?_
 refine LD zfH O (z6h n cT (by omega) w) ?_
 rintro _ w1 ⟨c,V,p,rfl,kA,iA,ad⟩
 refine Le O$ qV (Nq (v:=ptr c 0) O O)$ qV (Nq (v:=I 0) O O)$ Lw O$ Lk O$ LS.qb (e:=[(0,_),(1,_),(2,_),(6,_),(7,_),(8,_),(9,_)]) ?_
 refine run_seq$ qN O$ Le O$ Mu O O$ Lf$ An O$ py$ qN O$ Lu O O$ Le O$ Lm O O (pmm) ?_
 rintro _ w2 ⟨pm,rfl,Is,ag,cK⟩
 have mf:Oo KI w2 pm []:=Oo.new cK
 have lpm:=mf.lt
 refine Le O$ qV (O6 (cs:=[_,_,_,_,_,_,_]) za9 O zeF O O)$ qV (O6 (cs:=[_,_,_,_,_,_,_,_,_,_,_,_]) zaY O ze1 O O)$ Lm O O (Nc O (cs:=plC ⟨0,d,m,gi,c,pm,p,n,V,Dev.fresh L.length 1,z2v n,[],L,Fd,0,0,0⟩) O) ?_
 rintro _ w3 ⟨s,rfl,hs,ah,aq⟩
 refine Lw O$ Lk O$ Lh Tryz.func29 O ?_
 have z1:=ad.size
 have z2:=ag.size
 have ek:=ag.trans ah
 have db:=ad.trans ek
 have mI:=kA.ext ek
 have Dm:∀{b:Nat},On c V p b->b<w1.heap.size:=kA.lt
 have Dn:=hd.lt
 have ltm:=he.ltm
 have ltg:=he.ltg
 refine⟨_,rfl,⟨s,d,m,gi,c,pm,p,n,V,Dev.fresh L.length 1,z2v n,[],L,Fd,0,0,0⟩,rfl,⟨aq,hd.ext db,he.ext db,mI,mf.ext ah,(λg hg=>by cases hg),List.nodup_nil,?_⟩,⟨z81 cT,jc,λx=>?_,List.nodup_nil,(λg hg=>by cases hg),(λg hg=>by cases hg),(λg hg=>by cases hg),λx _ _ _=>rfl,λx _ _=>by simp[zeros],rfl,rfl,rfl,rfl,Int.le_refl _,Nat.le_refl _,Nat.zero_le _⟩,rfl,rfl,rfl,λb ⟨i,hb⟩=>?_,db⟩
 ·intro i j ne b hb c6
  have cls:∀i,NI.cp ⟨s,d,m,gi,c,pm,p,n,V,Dev.fresh L.length 1,z2v n,[],L,Fd,0,0,0⟩ i b->(i=0/\b=s)\/(i=1/\Fd b/\b<w.heap.size)\/(i=2/\(b=m\/b=gi)/\b<w.heap.size)\/(i=3/\w.heap.size<=b/\b<w1.heap.size)\/(i=4/\b=pm):=λi hb=>by
   match i,hb with
   |0,e=>exact .inl ⟨rfl,e⟩
   |1,e=>exact .inr (.inl ⟨rfl,e,Dn b e⟩)
   |2,e=>exact .inr (.inr (.inl ⟨rfl,e,by have e':b=m\/b=gi:=e;omega⟩))
   |3,e=>exact .inr (.inr (.inr (.inl ⟨rfl,iA b e,Dm e⟩)))
   |4,e=>exact .inr (.inr (.inr (.inr ⟨rfl,e⟩)))
   |5,⟨g,hg,e⟩=>cases hg
  have h1:=cls i hb;have h2:=cls j c6;rcases h1 with⟨e,h1⟩|⟨e,h1,tO⟩|⟨e,h1,tO⟩|⟨e,h1,tO⟩|⟨e,h1⟩<;>rcases h2 with⟨f,h2⟩|⟨f,h2,FM⟩|⟨f,h2,FM⟩|⟨f,h2,FM⟩|⟨f,h2⟩<;>first|omega|skip
  ·rcases h2 with e| e
   ·exact zJ.1 (e▸h1)
   ·exact zJ.2 (e▸h1)
  ·rcases h1 with e| e
   ·exact zJ.1 (e▸h2)
   ·exact zJ.2 (e▸h2)
 ·constructor
  ·intro e;cases e
  ·intro e;rcases e with e|e<;>cases e
 ·match i,hb with
  |0,e=>exact .inr (.inr (.inr (by have:b=s:=e;omega)))
  |1,e=>exact .inl e
  |2,e=>rcases e with e|e;exact .inr (.inl e);exact .inr (.inr (.inl e))
  |3,e=>exact .inr (.inr (.inr (iA b e)))
  |4,e=>exact .inr (.inr (.inr (by have:b=pm:=e;omega)))
  |5,⟨g,hg,e⟩=>cases hg
end
theorem z4u {l:List (Int×Bytes)}{n:Int}{t:Bytes}(h:S4 l n=some t):∃x∈l,x.2=t:=by
 unfold S4 at h
 obtain⟨x,hx,e⟩:=Option.map_eq_some_iff.1 h
 exact⟨x,List.mem_reverse.1 (List.mem_of_find?_eq_some hx),e⟩
theorem Dev.Ok.z8U {D:Dev}(h:D.Ok)(n:Int):(D.now n).length=512*D.N:=by
 unfold Dev.now
 cases hl:S4 D.cache n with
 |none=>exact h.kept n
 | some t =>
   obtain⟨x,hx,rfl⟩:=z4u hl;exact(h.cache x hx).2.2
section
variable {w w' w0:World}{P P0 P':NI}{S':Nat->Prop}{txt:Int->Bytes}{K:Nat}
theorem Rw.zdz (h:Rw P txt K)(aw:P.D.Ok){k:Int}:Rw {P with A:=P.A.drop k,l:=dropPg P.l k} (λx=>if x=k then P.D.now k else txt x) K:=by
 have hk:=WD h.nd k
 have dx:=OD P.l k
 have bE:=Arc.z50 h.aok k
 have FJ:=h.ca
 have D8:=h.cc
 have xQ:NP (dropPg P.l k)<=NP P.l:=dx.countP_le
 have g9:∀q∈dropPg P.l k,q∈P.l/\q.k≠k:=λq hq=>⟨dx.subset hq,((hk q.k).1 (List.mem_map.2 ⟨q,hq,rfl⟩)).2⟩
 refine⟨h.aok.drop k,h.asz,λx=>by dsimp only;rw[hk,bE,h.keys],(dx.map _).nodup h.nd,λq hq=>h.rng q (g9 q hq).1,λq hq=>?_,λq hq hd=>?_,λx h0 h1 hx=>?_,λx h0 h1=>?_,h.down,h.due,h.B,h.N,by dsimp only;omega,by dsimp only;omega,h.Oi⟩
 ·rw[if_neg (g9 q hq).2];exact h.tx q (g9 q hq).1
 ·rw[if_neg (g9 q hq).2];exact h.cl q (g9 q hq).1 hd
 ·dsimp only at h1 hx⊢;rw[bE,not_and] at hx;by_cases e:x=k
  ·rw[if_pos e,e]
  ·rw[if_neg e];exact h.out x h0 h1 λe2=>hx e2 e
 ·dsimp only at h1⊢;by_cases e:x=k
  ·rw[if_pos e,aw.z8U,h.N]
  ·rw[if_neg e];exact h.len x h0 h1
theorem Rw.z7L (h:Rw P txt K)(hA:P'.A=P.A)(hl:P'.l=P.l)(hD:P'.D=P.D)(hL:P'.L=P.L):Rw P' txt K:=by
 obtain⟨a1,a2,a3,a4,a5,a6,a7,a8,a9,b1,b2,b3,b4,b5,b6,b7⟩:=h
 constructor<;>simp only[hA,hl,hD,hL]<;>assumption
theorem PW.dok (h:PW w P):P.D.Ok:=by
 obtain⟨m,kp,ca,h1,-⟩:=h.dev
 exact h1.ok
theorem z47 (l:List Pg)(k:Int):(k∉l.map (·.k)/\getL (Qw l) k=none)\/∃q∈l,q.k=k/\getL (Qw l) k=some (ptr q.b 0):=by
 induction l with
 |nil=>exact .inl ⟨by simp,rfl⟩
 | cons g l ih =>
   show _\/_;by_cases h:k=g.k
   ·exact .inr ⟨g,List.mem_cons_self,h.symm,if_pos h⟩
   ·have e:getL (Qw (g::l)) k=getL (Qw l) k:=if_neg h;rw[e];rcases ih with⟨a,b⟩|⟨q,a,b,c⟩
    ·exact .inl ⟨by simp[h] at a⊢;exact a,b⟩
    ·exact .inr ⟨q,List.mem_cons_of_mem _ a,b,c⟩
theorem z2h (hm : PW w P)(hI : Rw P txt K){s n : Nat}(cT : 1 <= n)(iC : s + n <= P.L.length) : LP Tryz.prog 103 [ptr P.s 0, .agg #[I (s : Int), I (n : Int)]] w λv w' => v = I 0 /\ ∃ P' txt', PY w P w' P' /\ Rw P' txt' K /\ (∀ x : Int, x < (s : Int) \/ (s : Int) + (n : Int) <= x -> txt' x = txt x) /\ P.Same P' := by
 have eu:=hm.ext.n
 have jl:=hm.cells
 refine Lb (e:=[(0,_),(1,_)]) Tryz.func103 O Tryz.ntmps103 O O$ qN O$ Lm O O (Nc O (cs:=[I (s:Int),I (n:Int)]) O) ?_
 rintro _ w1 ⟨b3,rfl,eB,ad,aq⟩
 have cZ:=hm.r ad
 have lH:∀i,¬P.cp i b3:=hm.new (by omega)
 have iw:=ad.Lg jl
 have hg:=Ext.LC w1
 have eT:=S9 (cZ.m.dev.ext hg)
 rw[hI.B] at eT
 refine Lk O$ run_seq$ Lc$ qN O$ Le O$ qV (Ml SJ O O)$ Lk O$ An O$ qN O$ Le O$ LU O$ Lt z2Q O$ qV (Lj U4 O O iw O)$ Lk O ?_
 refine An O$ run_seq$ N7 (λw'=>Ext w1 w') O$ Ll 0 O (LV N2 O) hg$ qT 1 O (λ_ h=>(by first|exact Lj U3 O O (h.Lg aq) O|exact Lj U3 O O (h.Lg iw) O)) hg ?_
 refine Ll 2 O (Wr O O) hg$ PU$ LA 3 O O (hg)$ Ll 4 O (LV MV O) hg$ qT 5 O (λ_ h=>(by first|exact Lj U3 O O (h.Lg aq) O|exact Lj U3 O O (h.Lg iw) O)) hg ?_
 refine Ll 6 O (Wr O O) hg$ PU$ Ll 7 O (Qt O O) hg$ LA 8 O O (hg)$ Ll 9 O (LV MV O) hg$ qT 10 O (λ_ h=>(by first|exact Lj U3 O O (h.Lg aq) O|exact Lj U3 O O (h.Lg iw) O)) hg ?_
 refine LA 11 O O (hg)$ Ll 12 O (Mo O) hg$ Ll 13 O (LV QL O) hg$ qT 14 O (λ_ h=>(by first|exact Lj U27 O O (h.Lg aq) O|exact Lj U27 O O (h.Lg iw) O)) hg ?_
 refine OA 15 O Zs O (eT) ?_
 rintro _ w2 ⟨rfl,rfl⟩
 refine⟨hg,?_⟩
 refine Ll 16 O (yge O O) hg$ PU$ Ll 17 O (Qt O O) hg$ LA 18 O O (hg)$ Ll 19 O (LV N2 O) hg$ qT 20 O (λ_ h=>(by first|exact Lj U3 O O (h.Lg aq) O|exact Lj U3 O O (h.Lg iw) O)) hg ?_
 refine LA 21 O O (hg)$ Ll 22 O (Mo O) hg$ Ll 23 O (LV QL O) hg$ qT 24 O (λ_ h=>(by first|exact Lj U27 O O (h.Lg aq) O|exact Lj U27 O O (h.Lg iw) O)) hg ?_
 refine Ll 26 O (LV MV O) hg$ qT 27 O (λ_ h=>(by first|exact Lj U3 O O (h.Lg aq) O|exact Lj U3 O O (h.Lg iw) O)) hg ?_
 refine OA 25 O Zs O (eT) ?_
 rintro _ w2 ⟨rfl,rfl⟩
 refine⟨hg,?_⟩
 refine Ll 28 O (SR O O (by omega)) hg$ Ll 29 O (TN O O) hg$ PU$ Ll 30 O (Qt O O) hg$ Ll 31 O (Ni O) hg ?_
 obtain⟨w2,mg⟩:∃w2,w1.drew=w2:=⟨_,rfl⟩
 rw[mg] at hg⊢
 have cU:=hg.Lg aq
 have dP:=cZ.ext hg
 have j4:=hg.Lg iw
 have l3:=cU.lt
 refine qE$ LS.qb (e:=[(0,_),(3,_),(4,_),(16,_)]) ?_
 refine An O$ py$ Ld$ run_seq$ qN O$ Lt N2 O$ qV (Lj U3 O O cU O)$ Le O$ Lf$ Lc$ Nj (α:=Nat) (0) (λi=>[(0,ptr P.s 0),(3,ptr b3 0),(49,I (n:Int)),(50,I (i:Int))]) (λi w'=>Ext w2 w'/\i<=n) (λi=>n-i) ?hI ?hround
 case hI=>exact⟨Ext.refl _,Nat.zero_le _⟩
 case hround =>
  rintro i w3 ⟨ah,hi⟩ ih;have cd:=dP.ext ah;have j3:=ah.Lg j4;have dl:=ah.Lg cU;have ae:=Ext.LC w3
  try dsimp only
  refine qN O$ Mw O O$ Lf$ run_seq$ Lp O (λh0=>?_)$ λh0=>?_
  ·refine py$ run_seq$ Lc$ qN O$ Le O$ Lk O$ run_seq$ N7 (λw'=>Ext w3 w') O$ LA 0 O O (ae)$ Ll 1 O (Mo O) ae$ Ll 2 O (LV R9 O) ae$ qT 3 O (λ_ h=>(by first|exact Lj RF O O (h.Lg dl) O|exact Lj RF O O (h.Lg j3) O)) ae ?_;refine Ll 4 O (LV MV O) ae$ qT 5 O (λ_ h=>(by first|exact Lj U3 O O (h.Lg dl) O|exact Lj U3 O O (h.Lg j3) O)) ae ?_;refine LA 6 O O (ae)$ Ll 7 O (Qu O O (by omega)) ae ?_;rw[show(s:Int)+(i:Int)=((s+i:Nat):Int) by omega];refine qT 8 O (λ_ hS=>ylk (k:=((s+i:Nat):Int)) (K:=KI) RF (NX U3) z63 O O (cd.m.ext' hS).mp.l) ae ?_;rcases z47 P.l ((s+i:Nat):Int) with⟨-,dS⟩|⟨q,hq,-,dS⟩
   ·rw[dS];refine Ll 9 O (Ni O) ae$ qE$ qN O$ Le O$ qV (ZV zcn O O)$ Le O$ qS$ qS$ qS$ qS$ qS$ M8 O O$ Lf$ An O ?_;refine py$ Ld$ Li O$ Mb O O$ Le O$ Lf ?_;exact(ih (i+1) _ ⟨ah.trans ae,by omega⟩ (by omega)).qb
   ·rw[dS];have qi:=(ae.Lg (cd.m.pg q hq):Lq w3.drew q.b [S q.t,.bool q.d,I 0] 219);refine Ll 9 O (Ni O) ae$ qE$ qN O$ Le O$ qV (ZV zcn O O)$ Lu O O$ LU O$ Lt z8i O$ qV (Lj U3 O O qi O)$ MH O O$ M5$ MU O O$ Lf$ An O ?_;refine py$ Ld$ Li O$ Mb O O$ Le O$ Lf ?_;exact(ih (i+1) _ ⟨ah.trans ae,by omega⟩ (by omega)).qb
  ·have aT : i = n := by omega
   subst aT;refine Ln O$ run_seq$ qN O$ Lt N2 O$ qV (Lj U3 O O dl O)$ Le O$ Lf$ Lc$ Nj (α:=Nat×NI×(Int->Bytes)) ((0,P,txt)) (λy=>[(0,ptr P.s 0),(3,ptr b3 0),(73,I (i:Int)),(74,I (y.1:Int))]) (λy w'=>PY w P w' y.2.1/\Rw y.2.1 y.2.2 K/\y.1<=i/\P.Same y.2.1/\(∀x:Int,x<(s:Int)\/(s:Int)+(i:Int)<=x->y.2.2 x=txt x)/\Lq w' b3 [I (s:Int),I (i:Int)] 108/\∀j,¬y.2.1.cp j b3) (λy=>i-y.1) ?hI ?hround
   case hI=>exact⟨cd,hI,Nat.zero_le _,⟨rfl,rfl,rfl,rfl,rfl,rfl,rfl,rfl,rfl⟩,λx _=>rfl,dl,lH⟩
   case hround =>
    rintro⟨j,Pj,tj⟩ w4 ⟨bH,jU,hj,cf,iD,dg,nv⟩ ih2;dsimp only at bH jU hj cf iD dg nv ih2⊢;have ge:=bH.m.cells;rw[cf.s] at ge;have af:=Ext.LC w4;have dY:=Ext.LC w4.drew
    try dsimp only
    refine qN O$ Mw O O$ Lf$ run_seq$ Lp O (λh2=>?_)$ λh2=>?_
    ·refine py$ run_seq$ Lc$ qN O$ Le O$ Lk O$ run_seq$ LH [8] (λw'=>Ext w4 w') (by kernel_rfl) O$ qL [1,2,3,8] 0 O (λ_ h=>M0 O) af$ qL [2,3,8] 1 O (λ_ h=>Mo O) af$ qL [3,8] 2 O (λ_ h=>LV R9 O) af$ qL [8] 3 O (λ_ h=>(by first|exact Lj RF O O (h.Lg dg) O|exact Lj RF O O (h.Lg ge) O)) af ?_;refine qL [5,7,8] 4 O (λ_ h=>LV MV O) af$ qL [7,8] 5 O (λ_ h=>(by first|exact Lj U3 O O (h.Lg dg) O|exact Lj U3 O O (h.Lg ge) O)) af ?_;refine qL [7,8] 6 O (λ_ h=>M0 O) af$ qL [8] 7 O (λ_ h=>Qu O O (by omega)) af$ OY [8] ?_;rw[show(s:Int)+(j:Int)=((s+j:Nat):Int) by omega];refine qO 8$ z77 (i:=8) O O (zaU (k:=((s+j:Nat):Int)) (K:=KI) RF (NX U3) O O (bH.ext af).m.mp O) ?_;rintro _ w5 ⟨u9,ak⟩;refine⟨trivial,?_⟩;rw[Y0] at u9;have cb:=(bH.ext af).del (OD _ _) u9 ak;have cy:=ak.Lg (af.Lg dg) (nv 4);have kh:=cb.m.cells;dsimp only at kh;rw[cf.s] at kh;have dw:=Ext.LC w5;have cB:=cb.ext dw;refine qE$ LH [8] (λw'=>Ext w5 w') (by kernel_rfl) O$ qL [1,2,3,8] 0 O (λ_ h=>M0 O) dw$ qL [2,3,8] 1 O (λ_ h=>Mo O) dw$ qL [3,8] 2 O (λ_ h=>LV z2J O) dw$ qL [8] 3 O (λ_ h=>(by first|exact Lj z3Z O O (h.Lg cy) O|exact Lj z3Z O O (h.Lg kh) O)) dw ?_;refine qL [5,7,8] 4 O (λ_ h=>LV MV O) dw$ qL [7,8] 5 O (λ_ h=>(by first|exact Lj U3 O O (h.Lg cy) O|exact Lj U3 O O (h.Lg kh) O)) dw ?_;refine qL [7,8] 6 O (λ_ h=>M0 O) dw$ qL [8] 7 O (λ_ h=>Qu O O (by omega)) dw$ OY [8] ?_;rw[show(s:Int)+(j:Int)=((s+j:Nat):Int) by omega];refine OA 8 O zci O (z4k cB.m.arc (k:=((s+j:Nat):Int))) ?_;rintro _ w6 ⟨⟨z,rfl⟩,V6,qK⟩;refine⟨trivial,?_⟩;have xU:=cB.arc qK;have jA:=qK.k.Lg (dw.Lg cy) (nv 3);refine qE$ Ld$ Li O$ Mb O O$ Le O$ Lf ((ih2 (j+1,_,_) _ ⟨xU,(jU.zdz bH.m.dok (k:=((s+j:Nat):Int))).z7L O O O O,by dsimp only;omega,⟨cf.s,cf.d,cf.m,cf.gi,cf.c,cf.pm,cf.p,cf.fr,cf.L⟩,λx hx=>?_,jA,λi2 e=>?_⟩ (by dsimp only;omega)).qb)
     ·show(if x=((s+j:Nat):Int) then Pj.D.now ((s+j:Nat):Int) else tj x)=txt x;rw[if_neg (by omega)];exact iD x hx
     ·match i2,e with
      |0,e=>exact nv 0 e
      |1,e=>exact nv 1 e
      |2,e=>exact nv 2 e
      | 3, e =>
        rcases qK.fp b3 e with e| e
        ·exact nv 3 e
        ·have:=(dw.Lg cy).lt;omega
      |4,e=>exact nv 4 e
      |5,⟨q,hq,e⟩=>exact nv 5 ⟨q,(OD _ _).subset hq,e⟩
    ·have qw:j=i:=by omega
     subst qw;refine Ln O$ qN O$ Lk O$ Lh Tryz.func103 O ?_;exact⟨_,rfl,rfl,Pj,tj,bH,jU,iD,cf⟩
theorem z1H (hm:PW w P)(hI:Rw P txt K){s n:Nat}(cT:1<=n)(cW:2<=s)(iC:s+n<=P.L.length)(hc:∀i,s<=i->i<s+n->P.L[i]? =some true):LP Tryz.prog 65 [ptr P.s 0,.agg #[I (s:Int),I (n:Int)]] w λv w'=>v=I 0/\∃P' txt',PY w P w' {P' with L:=MZ P.L s n false}/\Rw {P' with L:=MZ P.L s n false} txt' K/\(∀x:Int,x<(s:Int)\/(s:Int)+(n:Int)<=x->txt' x=txt x)/\P.Same P':=by
 refine Lb (e:=[(0,_),(1,_)]) Tryz.func65 O Tryz.ntmps65 O O$ qN O$ Lm O O (Nc O (cs:=[I (s:Int),I (n:Int)]) O) ?_
 rintro _ w1 ⟨b3,rfl,eB,ad,aq⟩
 have cZ:=hm.r ad
 have lH:∀i,¬P.cp i b3:=hm.new (by omega)
 refine Lk O$ run_seq$ qN O$ Le O$ qV (LM (news:=[I (s:Int),I (n:Int)]) S2 O MX O (Lq.cells (n:=2) aq O) O)$ LD zbb O (z2h cZ.m hI cT iC) ?_
 rintro _ w2 ⟨rfl,P',txt',dP,cP,iD,cf⟩
 have l3:=aq.lt
 have cU:=dP.k.Lg aq (λ⟨i,e⟩=>lH i e)
 have sU:=cZ.trans dP
 have j4:=sU.m.cells
 rw[cf.s] at j4
 refine Lw O$ qM O$ Le O$ Mu O O ?_
 have aa:=Ext.LC w2
 have kM:=(sU.ext aa).m.ext
 rw[cf.L] at kM
 refine Lf$ An O$ py$ run_seq$ LH [5,6] (λw'=>Ext w2 w') (by kernel_rfl) O$ qL [1,2,3,5,6] 0 O (λ_ h=>M0 O) aa$ qL [2,3,5,6] 1 O (λ_ h=>Mo O) aa$ qL [3,5,6] 2 O (λ_ h=>LV Yu O) aa$ qL [5,6] 3 O (λ_ h=>Lj Xj O O (h.Lg j4) O) aa$ qL [5,6] 4 O (λ_ h=>LM (news:=[I (s:Int),I (n:Int)]) S2 O MX O (Lq.cells (n:=2) (h.Lg cU) O) O) aa$ OY [5]$ OA 5 O ze4 O (z1v kM s n cT cW iC hc) ?_
 rintro _ w3 ⟨rfl,Fj,av⟩
 refine⟨trivial,?_⟩
 have cd:=(sU.ext aa).exM Fj av
 refine Ll 6 O (Ni O) trivial$ qE$ Lh Tryz.func65 O ?_
 exact⟨_,rfl,rfl,P',txt',cd,cP.MD (by rw[N6 iC,cf.L]),iD,cf⟩
end
def Sp (Q:NI)(txt:Int->Bytes)(K:Nat)(X:Nat->Prop)(w:World):Prop:=∃P,PW w P/\Rw P txt K/\Q.Same P/\∀b,P.fp b->¬X b
section
variable {w w' w0:World}{Q Q' P P':NI}{X Y S':Nat->Prop}{txt txt':Int->Bytes}{K K':Nat}
theorem Sp.step (h:Sp Q txt K X w)(hk:Kp S' w w')(hS:∀b,S' b->X b)(hY:∀b,Y b->X b\/w.heap.size<=b):Sp Q txt K Y w':=by
 obtain⟨P,hm,hI,hs,hf⟩:=h
 refine⟨P,hm.kp hk λb hb e=>hf b hb (hS b e),hI,hs,λb hb e=>?_⟩
 rcases hY b e with e| e
 ·exact hf b hb e
 ·have:=hm.lt hb;omega
theorem Sp.ext (h:Sp Q txt K X w)(hx:Ext w w')(hY:∀b,Y b->X b\/w.heap.size<=b):Sp Q txt K Y w':=h.step (S':=λ_=>False) hx (λ_ e=>e.elim) hY
theorem Sp.ext' (h:Sp Q txt K X w)(hx:Ext w w'):Sp Q txt K X w':=h.ext hx λ_ e=> .inl e
theorem Sp.own (h:Sp Q txt K X w)(hk:Kp S' w w')(hS:∀b,S' b->X b):Sp Q txt K X w':=h.step hk hS λ_ e=> .inl e
theorem Sp.of (hf:∀b,P.fp b->¬X b)(hX:∀b,X b->b<w.heap.size)(hr:PY w P w' P')(hI:Rw P' txt' K')(hs:Q'.Same P'):Sp Q' txt' K' X w'/\Kp (λb=>¬X b) w w':=
 ⟨⟨P',hr.m,hI,hs,λb hb e=>by
  rcases hr.fp b hb with h| h
  ·exact hf b h e
  ·have:=hX b e;omega⟩,hr.k.Lv hf⟩
theorem Rw.more (h:Rw P txt K)(hK:K<=K'):Rw P txt K':=by
 obtain⟨a1,a2,a3,a4,a5,a6,a7,a8,a9,b1,b2,b3,b4,b5,b6,b7⟩:=h
 exact⟨a1,a2,a3,a4,a5,a6,a7,a8,a9,b1,b2,b3,b4,by omega,by omega,b7⟩
theorem Sp.more (h:Sp Q txt K X w)(hK:K<=K'):Sp Q txt K' X w:=by
 obtain⟨P,hm,hI,hs,hf⟩:=h
 exact⟨P,hm,hI.more hK,hs,hf⟩
theorem Sp.less (h:Sp Q txt K X w)(hY:∀b,Y b->X b):Sp Q txt K Y w:=by
 obtain⟨P,hm,hI,hs,hf⟩:=h
 exact⟨P,hm,hI,hs,λb hb e=>hf b hb (hY b e)⟩
theorem Sp.size (h:Sp Q txt K X w):LP Tryz.prog 56 [ptr Q.s 0] w λv w'=>v=I 512/\w'=w:=by
 obtain⟨P,hm,hI,hs,-⟩:=h
 rw[<-hs.s]
 exact Wm hm hI.N
theorem Sp.dev (h:Sp Q txt K X w):LP Tryz.prog 129 [ptr Q.s 0] w λv w'=>v=ptr Q.d 0/\w'=w:=by
 obtain⟨P,hm,hI,hs,-⟩:=h
 rw[<-hs.s,<-hs.d]
 exact z5o hm
theorem Sp.blocks (h:Sp Q txt K X w):LP Tryz.prog 130 [ptr Q.d 0] w λv w'=>v=I (Q.L.length:Int)/\w'=w:=by
 obtain⟨P,hm,hI,hs,-⟩:=h
 have hb:=S9 hm.dev
 rw[hI.B] at hb
 rw[<-hs.d,<-hs.L]
 exact hb
theorem Sp.map (h:Sp Q txt K X w):LP Tryz.prog 13 [ptr Q.s 0] w λv w'=>v=ptr Q.m 0/\w'=w:=by
 obtain⟨P,hm,hI,hs,-⟩:=h
 rw[<-hs.s,<-hs.m]
 exact z4A hm
theorem Sp.room (h:Sp Q txt K X w){a:Nat}(hp:Pre Q.L a)(ha:a<Q.L.length):LP Tryz.prog 14 [ptr Q.m 0] w λv w'=>v=I ((Q.L.length-a:Nat):Int)/\Ext w w':=by
 obtain⟨P,hm,hI,hs,-⟩:=h
 rw[<-hs.m]
 rw[<-hs.L] at hp ha⊢
 exact z1Z hm.ext hp ha
theorem Sp.X4 (h:Sp Q txt K X w){x:Int}(h0:0<=x)(h1:x<(Q.L.length:Int)):(txt x).length=512:=by
 obtain⟨P,hm,hI,hs,-⟩:=h
 exact hI.len x h0 (by rw[hs.L];exact h1)
theorem Sp.n (h:Sp Q txt K X w):Q.L.length<=4096:=by
 obtain⟨P,hm,hI,hs,-⟩:=h
 rw[<-hs.L]
 exact hm.ext.n
theorem Sp.read (h:Sp Q txt K X w)(hX:∀b,X b->b<w.heap.size)(hK:K<1000000000000){no:Int}(h0:0<=no)(h1:no<(Q.L.length:Int)):LP Tryz.prog 71 [ptr Q.s 0,I no] w λv w'=>v= .tuple #[S (txt no),I 0]/\Sp Q txt K X w'/\Kp (λb=>¬X b) w w':=by
 obtain⟨P,hm,hI,hs,hf⟩:=h
 rw[<-hs.s]
 refine(z1w hm hI hK h0 (by rw[hs.L];exact h1)).mono λv w' ⟨hv,P',hr,xZ,nx⟩=>⟨hv,Sp.of hf hX hr xZ (hs.trans nx)⟩
theorem Sp.write (h:Sp Q txt K X w)(hX:∀b,X b->b<w.heap.size)(hK:K<1000000000000){no:Int}(h0:0<=no)(h1:no<(Q.L.length:Int))(t:Bytes)(ht:t.length=512):LP Tryz.prog 72 [ptr Q.s 0,I no,S t] w λv w'=>v=I 0/\Sp Q (UI txt no (some t)) (K+1) X w'/\Kp (λb=>¬X b) w w':=by
 obtain⟨P,hm,hI,hs,hf⟩:=h
 rw[<-hs.s]
 refine(z3S hm hI hK h0 (by rw[hs.L];exact h1) t ht).mono λv w' ⟨hv,P',hr,xZ,nx⟩=>⟨hv,Sp.of hf hX hr xZ (hs.trans nx)⟩
def NI.MD (Q:NI)(L:List Bool):NI:={Q with L:=L}
theorem NI.Same.MD (h:Q.Same P)(L:List Bool):(Q.MD L).Same {P with L:=L}:=⟨h.s,h.d,h.m,h.gi,h.c,h.pm,h.p,h.fr,rfl⟩
theorem Sp.take (h:Sp Q txt K X w)(hX:∀b,X b->b<w.heap.size){a n:Nat}(hp:Pre Q.L a)(cT:1<=n)(ou:a+n<=Q.L.length):LP Tryz.prog 57 [ptr Q.s 0,I (n:Int)] w λv w'=>v= .tuple #[.agg #[I (a:Int),I (n:Int)],I 0]/\Sp (Q.MD (MZ Q.L a n true)) txt K X w'/\Kp (λb=>¬X b) w w':=by
 obtain⟨P,hm,hI,hs,hf⟩:=h
 rw[<-hs.s]
 rw[<-hs.L] at hp ou
 refine(z2c hm hp cT ou).mono λv w' ⟨hv,hr⟩=>⟨hv,?_⟩
 rw[<-hs.L]
 exact Sp.of hf hX hr (hI.MD (by rw[N6 ou])) (hs.MD _)
theorem Sp.zeT (h:Sp Q txt K X w)(hX:∀b,X b->b<w.heap.size){s n:Nat}(cT:1<=n)(cW:2<=s)(iC:s+n<=Q.L.length)(hc:∀i,s<=i->i<s+n->Q.L[i]? =some true):LP Tryz.prog 65 [ptr Q.s 0,.agg #[I (s:Int),I (n:Int)]] w λv w'=>v=I 0/\∃txt',Sp (Q.MD (MZ Q.L s n false)) txt' K X w'/\(∀x:Int,x<(s:Int)\/(s:Int)+(n:Int)<=x->txt' x=txt x)/\Kp (λb=>¬X b) w w':=by
 obtain⟨P,hm,hI,hs,hf⟩:=h
 rw[<-hs.s]
 rw[<-hs.L] at iC hc
 refine(z1H hm hI cT cW iC hc).mono λv w' ⟨hv,P',txt',hr,xZ,iD,nx⟩=>⟨hv,txt',?_⟩
 obtain⟨h1,h2⟩:=Sp.of hf hX hr xZ ((hs.trans nx).MD _)
 rw[<-hs.L]
 exact⟨h1,iD,h2⟩
end
end Go.Proofs.YtfgjaafcgghnoaaGreatDoor
namespace Go.Proofs.YtfgjaafcgghnoaaGreatDoor
open Go Go.Proofs Go.Shelf
def z0a:Go.Shelf.Ren:=⟨fun|105=>101|212=>136|99=>137|165=>138|166=>78|170=>139|169=>79|263=>171|264=>172|206=>173|240=>115|241=>174|276=>155|277=>207|n=>n,fun|9=>9|3=>3|4=>4|20=>20|0=>0|46=>172|109=>252|5=>5|72=>177|76=>180|51=>46|146=>295|53=>41|148=>297|70=>175|37=>171|75=>179|127=>224|164=>271|80=>182|n=>n,fun|n=>n⟩
theorem zaI:Go.Proofs.Lays.n105 Tryz.prog z0a:={
 mixed:=by kernel_rfl
 f99:=Tryz.func137.trans (congrArg some (by kernel_rfl))
 f105:=Tryz.func101.trans (congrArg some (by kernel_rfl))
 f165:=Tryz.func138.trans (congrArg some (by kernel_rfl))
 f166:=Tryz.func78.trans (congrArg some (by kernel_rfl))
 f169:=Tryz.func79.trans (congrArg some (by kernel_rfl))
 f170:=Tryz.func139.trans (congrArg some (by kernel_rfl))
 f206:=Tryz.func173.trans (congrArg some (by kernel_rfl))
 f212:=Tryz.func136.trans (congrArg some (by kernel_rfl))
 f240:=Tryz.func115.trans (congrArg some (by kernel_rfl))
 f241:=Tryz.func174.trans (congrArg some (by kernel_rfl))
 f263:=Tryz.func171.trans (congrArg some (by kernel_rfl))
 f264:=Tryz.func172.trans (congrArg some (by kernel_rfl))
 f276:=Tryz.func155.trans (congrArg some (by kernel_rfl))
 f277:=Tryz.func207.trans (congrArg some (by kernel_rfl))
 t0:=Tryz.underlying0
 a0:=Tryz.isAgg0
 z0:=Tryz.sizeOf0
 v0:=Tryz.zeroValue0
 t3:=Tryz.underlying3
 a3:=Tryz.isAgg3
 z3:=Tryz.sizeOf3
 v3:=Tryz.zeroValue3
 t4:=Tryz.underlying4
 a4:=Tryz.isAgg4
 z4:=Tryz.sizeOf4
 v4:=Tryz.zeroValue4
 t5:=Tryz.underlying5
 a5:=Tryz.isAgg5
 z5:=Tryz.sizeOf5
 v5:=Tryz.zeroValue5
 t9:=Tryz.underlying9
 a9:=Tryz.isAgg9
 z9:=Tryz.sizeOf9
 v9:=Tryz.zeroValue9
 t20:=Tryz.underlying20
 a20:=Tryz.isAgg20
 z20:=Tryz.sizeOf20
 v20:=Tryz.zeroValue20
 t37:=Tryz.underlying171
 a37:=Tryz.isAgg171
 z37:=Tryz.sizeOf171
 v37:=Tryz.zeroValue171
 t46:=Tryz.underlying172
 a46:=Tryz.isAgg172
 z46:=Tryz.sizeOf172
 v46:=Tryz.zeroValue172
 t51:=Tryz.underlying46
 a51:=Tryz.isAgg46
 z51:=Tryz.sizeOf46
 v51:=Tryz.zeroValue46
 t53:=Tryz.underlying41
 a53:=Tryz.isAgg41
 z53:=Tryz.sizeOf41
 v53:=Tryz.zeroValue41
 t70:=Tryz.underlying175
 a70:=Tryz.isAgg175
 z70:=Tryz.sizeOf175
 v70:=Tryz.zeroValue175
 t72:=Tryz.underlying177
 a72:=Tryz.isAgg177
 z72:=Tryz.sizeOf177
 v72:=Tryz.zeroValue177
 t75:=Tryz.underlying179
 a75:=Tryz.isAgg179
 z75:=Tryz.sizeOf179
 v75:=Tryz.zeroValue179
 t76:=Tryz.underlying180
 a76:=Tryz.isAgg180
 z76:=Tryz.sizeOf180
 v76:=Tryz.zeroValue180
 t109:=Tryz.underlying252
 a109:=Tryz.isAgg252
 z109:=Tryz.sizeOf252
 v109:=Tryz.zeroValue252
 t127:=Tryz.underlying224
 a127:=Tryz.isAgg224
 z127:=Tryz.sizeOf224
 v127:=Tryz.zeroValue224
 t146:=Tryz.underlying295
 a146:=Tryz.isAgg295
 z146:=Tryz.sizeOf295
 v146:=Tryz.zeroValue295
 t148:=Tryz.underlying297
 a148:=Tryz.isAgg297
 z148:=Tryz.sizeOf297
 v148:=Tryz.zeroValue297
 t164:=Tryz.underlying271
 a164:=Tryz.isAgg271
 z164:=Tryz.sizeOf271
 v164:=Tryz.zeroValue271}
end Go.Proofs.YtfgjaafcgghnoaaGreatDoor
namespace Go.Proofs.YtfgjaafcgghnoaaGreatDoor
open Go Go.RowKit Go.Shelf
/-! ### A builder of strings -/
theorem zaT:Builder.Extra Tryz.prog z0a where
 sizeBuilder:=by kernel_rfl
 liesBuilder:=by kernel_rfl
 t5:=by kernel_rfl
 a5:=λ_=>by kernel_rfl
 z5:=λ_=>by kernel_rfl
 v5:=λw=>TI.zero (w:=w) Tq
 infoByte:=by kernel_rfl
 cellsByte:=by kernel_rfl
 sizeByte:=by kernel_rfl
 neB5:=by decide
section
variable {w:World}
end
theorem z38 (l:Bytes):∀n,Lib.repeatL l n=(List.replicate n l).flatten
 |0=>rfl
 |n+1=>by rw[Lib.repeatL,z38 l n];rfl
theorem Uv (l:Bytes)(n:Nat)(hl:l.length<=100)(hn:n<=1000000)(w:World):LP Tryz.prog 101 [S l,I (n:Int)] w λv w'=>v=S (List.replicate n l).flatten/\Ext w w':=by
 have h2:n*l.length<=1000000*100:=Nat.mul_le_mul hn hl
 have:=Any.strings_Repeat zaI zaT ⟨l.toArray⟩ n w (by omega) (by rw[OC,Nat.mul_comm];omega)
 refine Calls.mono this λ_ _ ⟨he,hw⟩=>⟨_,he,?_,Ext.z6l hw⟩
 show Value.string ⟨(Lib.repeatL l n).toArray⟩=_
 rw[z38]
end Go.Proofs.YtfgjaafcgghnoaaGreatDoor
namespace Go.Proofs.YtfgjaafcgghnoaaGreatDoor
open Go Go.RowKit
def QU (w n:Nat):Bytes:=(List.range w).map λk=>UInt8.ofNat (n / 2^(8*(w-1-k)))
theorem Mi (w n:Nat):(QU w n).length=w:=by simp[QU]
theorem z5F (w n:Nat):QU (w+1) n=UInt8.ofNat (n / 2^(8*w))::QU w n:=by
 unfold QU
 rw[List.range_succ_eq_map,List.map_cons,List.map_map]
 congr 1
 refine List.map_congr_left λk hk=>?_
 show UInt8.ofNat (n / 2^(8*(w+1-1-(k+1))))=_
 rw[show w+1-1-(k+1)=w-1-k by omega]
theorem UY:∀(w n:Nat),LF (QU w n)=bitsN (8*w) n
 |0,n=>rfl
 | w + 1, n => by
   rw[z5F,Ps,UY w n,show 8*(w+1)=8+8*w by omega,NM]
   congr 1
   refine Sa ?_;have:(UInt8.ofNat (n / 2^(8*w))).toNat=n / 2^(8*w)%256:=by simp
   rw[this];omega
theorem Yn {w n:Nat}(h:n<2^(8*w)):valB (LF (QU w n))=n:=by
 rw[UY,Me,Nat.mod_eq_of_lt h]
theorem z82 (s:Bytes):QU s.length (valB (LF s))=s:=by
 have h1:LF (QU s.length (valB (LF s)))=LF s:=by
  rw[UY];have:=X7 (LF s);rw[bitsT_length] at this;exact this
 have inj : ∀ a b : Bytes, a.length = b.length -> LF a = LF b -> a = b := λa => by
  induction a with
  | nil => intro b hb _; cases b with
    |nil=>rfl
    |cons=>cases hb
  | cons c a ih =>
    intro b hb he
    cases b with
    |nil=>cases hb
    | cons d b =>
      rw[Ps,Ps] at he;obtain⟨e1,e2⟩:=List.append_inj he (by rw[bitsN_length,bitsN_length]);rw[ih b (by simpa using hb) e2]
      congr 1
      have:=congrArg valB e1;rw[Me,Me] at this;have h3:=c.toNat_lt;have h4:=d.toNat_lt;exact UInt8.toNat_inj.1 (by omega)
 exact inj _ _ (Mi _ _) h1
def Laid (txt:Int->Bytes)(a:Nat)(T:Bytes):Prop:=∀k,512*k<T.length->(txt ((a+k:Nat):Int)).take (T.length-512*k)=(T.drop (512*k)).take 512
section
variable {txt txt':Int->Bytes}{a n:Nat}{T:Bytes}
theorem Laid.piece (h:Laid txt a T){off n:Nat}(h1:off+n<=T.length)(h2:n<=512-off%512):((txt ((a+off / 512:Nat):Int)).drop (off%512)).take n=(T.drop off).take n:=by
 by_cases hn:n=0
 ·subst hn;simp
 have hk:=h (off / 512) (by omega)
 have e:=congrArg (λl=>(l.drop (off%512)).take n) hk
 try dsimp only at e
 rw[List.drop_take,List.take_take,Nat.min_eq_left (by omega),List.drop_take,List.take_take,List.drop_drop,Nat.min_eq_left (by omega),show 512*(off / 512)+off%512=off by omega] at e
 exact e
theorem Laid.z7L (h:Laid txt a T)(e:∀k,512*k<T.length->txt' ((a+k:Nat):Int)=txt ((a+k:Nat):Int)):Laid txt' a T:=λk hk=>by rw[e k hk];exact h k hk
theorem Laid.of (h:∀k,512*k<T.length->(txt ((a+k:Nat):Int)).length=512/\∃r,txt ((a+k:Nat):Int)=(T.drop (512*k)).take 512++r):Laid txt a T:=λk hk=>by
 obtain⟨hl,r,e⟩:=h k hk
 have h1:((T.drop (512*k)).take 512).length=min 512 (T.length-512*k):=by simp
 rw[e,List.length_append,h1] at hl
 rw[e]
 by_cases hc:T.length-512*k<=512
 ·exact List.take_left' (by rw[h1];omega)
 ·have:r=[]:=List.eq_nil_of_length_eq_zero (by omega);rw[this,List.append_nil,List.take_of_length_le (by rw[h1];omega)]
end
def VcT (txt:Int->Bytes)(st width each:Nat)(xs:List Nat):Prop:=∀i x,xs[i]? =some x->((txt ((st+i / each:Nat):Int)).drop (i%each*width)).take width=QU width x/\x<2^(8*width)
theorem Xn (a b c:Bytes){k n:Nat}(hn:k+n<=a.length):((a++b++c).drop k).take n=(a.drop k).take n:=by
 rw[List.append_assoc,List.drop_append_of_le_length (by omega),List.take_append_of_le_length (by rw[List.length_drop];omega)]
section
variable {txt txt':Int->Bytes}{st width each:Nat}{xs:List Nat}
theorem VcT.set (h:VcT txt st width each xs)(he:1<=each){i x:Nat}(hx:x<2^(8*width))(hi:i<xs.length){t:Bytes}(ht:txt ((st+i / each:Nat):Int)=t)(hl:i%each*width+width<=t.length):VcT (UI txt ((st+i / each:Nat):Int) (some (t.take (i%each*width)++QU width x++t.drop (i%each*width+width)))) st width each (xs.set i x):=λj y hy=>by
 by_cases hb:j / each=i / each
 ·rw[hb,NU];show((t.take (i%each*width)++QU width x++t.drop (i%each*width+width)).drop (j%each*width)).take width=_/\_;have aV:(t.take (i%each*width)).length=i%each*width:=by rw[List.length_take];omega
  by_cases gW:j=i
  ·subst gW;rw[List.getElem?_set_self hi] at hy;cases hy;refine⟨?_,hx⟩;rw[List.append_assoc,List.drop_left' aV,List.take_left' (Mi _ _)]
  ·rw[List.getElem?_set_ne (λe=>gW e.symm)] at hy;obtain⟨h1,h2⟩:=h j y hy;refine⟨?_,h2⟩;rw[hb,ht] at h1;rw[<-h1];have og:=Nat.div_add_mod i each;have m9:=Nat.div_add_mod j each;rw[hb] at m9;have bN:j%each≠i%each:=λe=>gW (by omega);rcases Nat.lt_or_gt_of_ne bN with oB|KU
   ·have hm:(j%each+1)*width<=i%each*width:=Nat.mul_le_mul_right _ (by omega);rw[Nat.add_mul,Nat.one_mul] at hm;rw[Xn _ _ _ (by omega),List.drop_take,List.take_take,Nat.min_eq_left (by omega)]
   ·have hm:(i%each+1)*width<=j%each*width:=Nat.mul_le_mul_right _ (by omega);rw[Nat.add_mul,Nat.one_mul] at hm;rw[List.drop_append,List.drop_of_length_le (by rw[List.length_append,aV,Mi];omega),List.nil_append,List.length_append,aV,Mi,List.drop_drop,show i%each*width+width+(j%each*width-(i%each*width+width))=j%each*width by omega]
 ·have gW:j≠i:=λe=>hb (by rw[e]);rw[List.getElem?_set_ne (λe=>gW e.symm)] at hy;rw[Nn _ _ (by omega)];exact h j y hy
theorem WI {l z:Bytes}{w:Nat}(hl:l.length=w):∀(e k:Nat),k<e->(((List.replicate e l).flatten++z).drop (k*w)).take w=l
 |0,k,h=>by omega
 | e + 1, 0, h => by
   rw[Nat.zero_mul,List.drop_zero,List.replicate_succ,List.flatten_cons,List.append_assoc]
   exact List.take_left' hl
 | e + 1, k + 1, h => by
   rw[List.replicate_succ,List.flatten_cons,List.append_assoc,List.drop_append,List.drop_of_length_le (by rw[hl,Nat.add_mul];omega),List.nil_append,hl,Nat.add_mul,Nat.one_mul,Nat.add_sub_cancel];exact WI hl e k (by omega)
theorem VcT.fill {n x:Nat}(hx:x<2^(8*width))(he:1<=each)(h:∀i,i<n->∃z,txt ((st+i / each:Nat):Int)=(List.replicate each (QU width x)).flatten++z):VcT txt st width each (List.replicate n x):=λi y hy=>by
 rw[List.getElem?_replicate] at hy
 split at hy
 ·rename_i hi
  cases hy;obtain⟨z,e⟩:=h i hi;rw[e];exact⟨WI (Mi _ _) each _ (Nat.mod_lt _ he),hx⟩
 ·cases hy
end
def WK (n wd k:Nat):List Value:=(List.range wd).map λi=>if i<k then P9 (UInt8.ofNat (n / 2^(8*(wd-1-i)))) else .int .u8 0
@[simp] theorem beTo_length (n wd k:Nat):(WK n wd k).length=wd:=by simp[WK]
theorem XC (n wd:Nat):WK n wd 0=List.replicate wd (.int .u8 0):=by
 apply List.ext_getElem<;>simp[WK]
theorem ZH (n wd:Nat):WK n wd wd=(QU wd n).map P9:=by
 simp only[WK,QU,List.map_map]
 apply List.map_congr_left
 intro i hi
 rw[if_pos (by simpa using hi)];rfl
theorem z0O (n wd k:Nat)(h:k<wd):(WK n wd k).set (0+k*1) (.int .u8 ((n / 2^(8*(wd-1-k))%256:Nat):Int))=WK n wd (k+1):=by
 apply List.ext_getElem
 ·simp
 ·intro j h1 h2;have hj:j<wd:=by simpa using h2
  simp only[WK,List.getElem_set,List.getElem_map,List.getElem_range];by_cases Ca:j=k
  ·subst Ca;simp[P9]
  ·rw[if_neg (by omega)];by_cases aV:j<k
   ·rw[if_pos aV,if_pos (by omega)]
   ·rw[if_neg aV,if_neg (by omega)]
theorem Vn (n wd:Nat)(w:World)(hn:n<18446744073709551616)(ot:wd<=8):LP Tryz.prog 97 [Ly n,I (wd:Int)] w λv w'=>v=S (QU wd n)/\Ext w w':=by
 have ev:maxLen=9223372036854775807:=rfl
 refine Lb (e:=[(0,_),(1,_)]) Tryz.func97 O Tryz.ntmps97 O O$ qN O$ Lw O$ qM O$ Le O$ Lm O O (pmk (c:=wd) (n:=wd) Mz Tq O O O (by omega) (by omega) (by omega)) ?_
 rintro _ w1 ⟨b1,rfl,⟨bR,ad,ai⟩,-⟩
 refine Lk O$ run_seq$ qN O$ Le O$ Nd Mz O$ Le O$ Lf$ Lc ?_
 rw[<-XC n wd] at ai
 refine Nj (α:=Nat) (0) (λk=>[(0,Ly n),(1,I (wd:Int)),(5,.slice (some ⟨b1,0,none⟩) wd wd),(10,I (wd:Int)),(11,I (k:Int))]) (λk w'=>k<=wd/\Lq w' b1 (WK n wd k) 5/\Ext w w') (λk=>wd-k) ?hI ?hround
 case hI=>exact⟨by omega,ai,ad⟩
 case hround=>
  rintro k w2 ⟨hk,am,ag⟩ ih
  try dsimp only
  refine qN O$ Mw O O$ Lf$ run_seq$ Lp O (λaV=>?_)$ λaV=>?_
  ·have Do:k<wd:=by omega
   refine py$ run_seq$ Lc$ qN O$ Le O$ Lk O$ Li O$ Lu O O$ Lu O O$ Np O O$ Le O$ Np O O$ qV (T6 O O (by omega)) ?_;rw[show(8:Int)*(((wd:Int)-1)-(k:Int))=((8*(wd-1-k):Nat):Int) from by omega];refine qV (Qg (8*(wd-1-k)) (2^(8*(wd-1-k))) O O (by simp only[IntKind.bits];omega) O) ?_;refine qV (z7M O MP U5)$ qV (M9 Mz Tq O O (by omega))$ Ls O (MY Tq O O O am (by simp;omega)) ?_;rintro w3 ⟨aq,ax⟩;rw[z0O n wd k Do] at aq;refine Lf$ Ld$ Li O$ Mb O O$ Le O$ Lf ?_;exact(ih (k+1) w3 ⟨by omega,aq,ag.It ax (λi hi=>by rw[hi,bR];exact Nat.le_refl _)⟩ (by omega)).qb
  ·have:k=wd:=by omega
   subst this;rw[ZH] at am;refine Ln O$ qN O$ Le O$ qV (z3I (l:=QU k n) Mz U5 U9 O am (by rw[List.drop_zero];exact List.take_of_length_le (by rw[List.length_map,Mi];omega)) (by simp[QU])) ?_;refine Lk O$ Lh Tryz.func97 O ?_;exact⟨_,rfl,rfl,ag⟩
theorem XQ (s:Bytes)(hs:s.length<=8)(w:World):LP Tryz.prog 98 [S s] w λv w'=>v=Ly (valB (LF s))/\Ext w w':=by
 refine Lb (e:=[(0,_)]) Tryz.func98 O Tryz.ntmps98 O O$ qN O$ Lk O$ run_seq$ qN O$ Le O$ Lm O O (z5X U9 Mz U5 O) ?_
 rintro _ w1 ⟨b7,c7,rest,rfl,⟨kW,ad,ai⟩,BG⟩
 refine Nd Mz O$ Le O$ Lf$ Lc$ Nj (α:=Nat) (0) (λi=>[(2,Ly (valB (LF (s.take i)))),(6,.slice (some ⟨b7,0,none⟩) s.length c7),(7,I (s.length:Int)),(8,I (i:Int))]) (λi w'=>w'=w1/\i<=s.length) (λi=>s.length-i) ?hI ?hround
 case hI=>exact⟨rfl,Nat.zero_le _⟩
 case hround=>
  rintro i w2 ⟨rfl,hi⟩ ih
  try dsimp only
  refine qN O$ Mw O O$ Lf$ run_seq$ Lp O (λh0=>?_)$ λh0=>?_
  ·obtain⟨c,hc⟩:∃c,s[i]? =some c:=⟨_,List.getElem?_eq_getElem (by omega)⟩;have dt:=c.toNat_lt;have eL:=Wo hc
   have aV:valB (LF (s.take i))<72057594037927936:=by
    have h1:=N1 (LF (s.take i));rw[bitsT_length,List.length_take] at h1;have h2:2^(8*min i s.length)<=2^56:=Nat.pow_le_pow_right (by decide) (by omega);omega
   have aZ:w2.cell? ⟨b7,0+i*1,none⟩=some (P9 c):=by
    rw[ai.cell,Nat.zero_add,Nat.mul_one,List.getElem?_append_left (by rw[List.length_map];omega),List.getElem?_map,hc];rfl
   refine py$ run_seq$ Lc$ qN O$ qV (M9 Mz Tq O O (by omega))$ qV (LN U5 O O aZ) ?_
   generalize valB (LF (s.take i))=q at eL aV
   refine Lk O$ Li O$ Le O$ qV (Na 8 256 O O (by decide) O)$ Le O$ qV ((by first|exact z4t O U5 MP (by decide)|exact Mc O U5 MP (by omega))) ?_;refine qV (Xi O O (by omega) (by omega)) ?_
   have nZ:(q*256%18446744073709551616 |||c.toNat)=valB (LF (s.take (i+1))):=by
    rw[eL,Nat.mod_eq_of_lt (by omega),Nat.mul_comm q];exact(Nat.two_pow_add_eq_or_of_lt (i:=8) dt q).symm
   rw[nZ];refine Lk O$ Ld$ Li O$ Mb O O$ Le O$ Lf ?_;exact(ih (i+1) _ ⟨rfl,by omega⟩ (by omega)).qb
  ·have cE:i=s.length:=by omega
   subst cE;rw[List.take_length];refine Ln O$ qN O$ Le O$ Lk O$ Lh Tryz.func98 O ?_;exact⟨_,rfl,rfl,ad⟩
def vcC (n width each st len s:Nat)(cl:Bool):List Value:=[I (n:Int),I (width:Int),I (each:Int),I (st:Int),I (len:Int),ptr s 0,.bool cl]
def RJ (n each:Nat):Nat:=max 1 ((n+each-1) / each)
structure Ts (Q:NI)(txt:Int->Bytes)(vb width st:Nat)(xs:List Nat)(w:World):Prop where
 Lg:Lq w vb (vcC xs.length width (512 / width) st (RJ xs.length (512 / width)) Q.s false) 145
 wd:width=1\/width=2\/width=4\/width=8
 t:VcT txt st width (512 / width) xs
 n:xs.length<=4194304
 fit:st+RJ xs.length (512 / width)<=Q.L.length
theorem z2a {n each:Nat}(he:1<=each){i:Nat}(hi:i<n):i / each<RJ n each:=by
 unfold RJ
 have h1:i / each<=(n-1) / each:=Nat.div_le_div_right (by omega)
 have h2:(n+each-1) / each=(n-1) / each+1:=by
  rw[show n+each-1=(n-1)+each by omega,Nat.add_div_right _ (by omega)]
 omega
section
variable {w w':World}{Q Q':NI}{txt txt':Int->Bytes}{vb width st:Nat}{xs ys:List Nat}{S':Nat->Prop}
theorem Ts.e (h:Ts Q txt vb width st xs w):64<=512 / width/\512 / width<=512/\512 / width*width=512/\1<=width/\width<=8:=by
 rcases h.wd with e|e|e|e<;>subst e<;>decide
theorem Ts.kp (h:Ts Q txt vb width st xs w)(hk:Kp S' w w')(hn:¬S' vb):Ts Q txt vb width st xs w':=⟨hk.Lg h.Lg hn,h.wd,h.t,h.n,h.fit⟩
theorem Ts.ext (h:Ts Q txt vb width st xs w)(hx:Ext w w'):Ts Q txt vb width st xs w':=h.kp (S':=λ_=>False) hx id
theorem Ts.lt (h:Ts Q txt vb width st xs w):vb<w.heap.size:=h.Lg.lt
theorem Ts.at_ (h:Ts Q txt vb width st xs w){i:Nat}(hi:i<xs.length):st+i / (512 / width)<Q.L.length/\i%(512 / width)*width+width<=512/\i / (512 / width)<RJ xs.length (512 / width):=by
 obtain⟨h1,h2,h3,h4,h5⟩:=h.e
 have h6:=z2a (each:=512 / width) (by omega) hi
 have h7:=h.fit
 have h8:(i%(512 / width)+1)*width<=512 / width*width:=Nat.mul_le_mul_right _ (Nat.mod_lt _ (by omega))
 rw[Nat.add_mul,Nat.one_mul] at h8
 refine⟨by omega,by omega,h6⟩
theorem Ts.cells (h:Ts Q txt vb width st xs w):Lq w vb [I (xs.length:Int),I (width:Int),I ((512 / width:Nat):Int),I (st:Int),I (RJ xs.length (512 / width):Int),ptr Q.s 0,.bool false] 145:=h.Lg
def VcW (Q:NI)(txt:Int->Bytes)(K:Nat)(X:Nat->Prop)(vb width st:Nat)(ys:List Nat)(w w':World):Prop:=
 ∃txt',Sp Q txt' K X w'/\Ts Q txt' vb width st ys w'/\(∀y:Int,y<(st:Int)\/(st:Int)+(RJ ys.length (512 / width):Int)<=y->txt' y=txt y)/\Kp (λb=>¬X b) w w'
end
end Go.Proofs.YtfgjaafcgghnoaaGreatDoor
namespace Go.Proofs.YtfgjaafcgghnoaaGreatDoor.Sums
def bit (c:Nat):Nat:=if c%2=1 then(c / 2)^^^2197175160 else c / 2
def z9q (c:Nat):Nat:=bit (bit (bit (bit (bit (bit (bit (bit c)))))))
def byte (c:Nat)(b:UInt8):Nat:=z9q (c^^^b.toNat)
def raw (c:Nat)(l:List UInt8):Nat:=l.foldl byte c
def neg (c:Nat):Nat:=4294967295^^^c
def on (c:Nat)(l:List UInt8):Nat:=neg (raw (neg c) l)
def crc (l:List UInt8):Nat:=on 0 l
def num (l:List UInt8):Nat:=(l.getD 0 0).toNat*16777216+(l.getD 1 0).toNat*65536+(l.getD 2 0).toNat*256+(l.getD 3 0).toNat
def be4 (n:Nat):List UInt8:=[UInt8.ofNat (n / 16777216),UInt8.ofNat (n / 65536),UInt8.ofNat (n / 256),UInt8.ofNat n]
@[simp] theorem be4_length (n:Nat):(be4 n).length=4:=rfl
def head (k:UInt8)(p:List UInt8):List UInt8:=k::be4 p.length
def frame (k:UInt8)(p:List UInt8):List UInt8:=head k p++be4 (crc (head k p++p))++p
@[simp] theorem head_length (k:UInt8) (p:List UInt8):(head k p).length=5:=rfl
theorem z6a (c:Nat):(c / 2)^^^(2197175160&&&((4294967296-(c&&&1))%4294967296))=bit c:=by
 have h1:c&&&1=c%2:=Nat.and_two_pow_sub_one_eq_mod c 1
 rw[h1]
 unfold bit
 by_cases h:c%2=1
 ·rw[if_pos h,h]
  congr 1
 ·have h0:c%2=0:=by omega
  rw[if_neg h,h0];simp
theorem TQ {a b:Nat}(ha:a<4294967296)(hb:b<4294967296):a^^^b<4294967296:=Nat.xor_lt_two_pow (n:=32) ha hb
theorem Rl {c:Nat}(h:c<4294967296):bit c<4294967296:=by
 unfold bit
 split
 ·exact TQ (by omega) (by omega)
 ·omega
theorem z6U {c:Nat}(h:c<4294967296):z9q c<4294967296:=Rl (Rl (Rl (Rl (Rl (Rl (Rl (Rl h)))))))
theorem z3z {c:Nat}(h:c<4294967296)(b:UInt8):byte c b<4294967296:=z6U (TQ h (by have:=b.toNat_lt;omega))
theorem z6K:∀(l:List UInt8) {c:Nat},c<4294967296->raw c l<4294967296
 |[],_,h=>h
 |b::l,_,h=>z6K l (z3z h b)
theorem z1h {c:Nat}(h:c<4294967296):neg c<4294967296:=TQ (by omega) h
theorem z99 {c:Nat}(l:List UInt8)(h:c<4294967296):on c l<4294967296:=z1h (z6K l (z1h h))
theorem za8 (l:List UInt8):crc l<4294967296:=z99 l (by omega)
theorem z2B (c:Nat)(a b:List UInt8):raw c (a++b)=raw (raw c a) b:=List.foldl_append ..
/-! ### The step is linear -/
/-! ### Linear maps, by their table -/
def iter (L:Nat->Nat):Nat->Nat->Nat
 |0,x=>x
 |n+1,x=>iter L n (L x)
/-! ### Frames -/
@[simp] theorem frame_length (k:UInt8) (p:List UInt8):(frame k p).length=9+p.length:=by simp[frame];omega
/-! ### A byte that is turned is told -/
theorem getD_take (s:List UInt8)(n i:Nat)(h:i<n):(s.take n).getD i 0=s.getD i 0:=by simp[List.getD,h]
def z5A (s:List UInt8)(i:Nat)(d:UInt8):List UInt8:=s.set i (s.getD i 0^^^d)
@[simp] theorem turned_length (s:List UInt8) (i:Nat) (d:UInt8):(z5A s i d).length=s.length:=by simp[z5A]
end Go.Proofs.YtfgjaafcgghnoaaGreatDoor.Sums
namespace Go.Proofs.YtfgjaafcgghnoaaGreatDoor
open Go Go.RowKit
set_option linter.unusedVariables false
abbrev U (n:Nat):Value:= .int .u32 (n:Int)
theorem z5O (c:Nat)(b:UInt8)(p:Nat)(T:TypeId)(w:World)(hB:Lq w p [U c] T)(hc:c<4294967296):
  LP Tryz.prog 131 [P9 b,ptr p 0] w λv w'=>v= .tuple #[]/\Lq w' p [U (Sums.byte c b)] T/\Kp (λk=>k=p) w w':=by
 have hb:=b.toNat_lt
 have hx:=Sums.TQ hc (show b.toNat<4294967296 by omega)
 refine Lb (e:=[(0,_),(1,_)]) Tryz.func131 O Tryz.ntmps131 O O$ qN O$ qV (Lj Mx O O hB O)$ Le O$ qV ((by first|exact z4t O U5 Mx (by decide)|exact z7S O U5 Mx (by omega))) ?_
 refine qV (z8W O O (by omega) (by omega))$ Ls O (MY Lz O O O hB (by simp)) ?_
 rintro w1 ⟨ai,aN⟩
 refine qM O$ Le O$ Lf$ Lc$ Nj (α:=Nat×Nat) ((0,c^^^b.toNat)) (λx=>[(0,P9 b),(1,ptr p 0),(7,I (x.1:Int))]) (λx w'=>x.1<=8/\x.2<4294967296/\Sums.iter Sums.bit (8-x.1) x.2=Sums.byte c b/\Lq w' p [U x.2] T/\Kp (λk=>k=p) w w') (λx=>8-x.1) ?hI ?hround
 case hI=>exact⟨by omega,hx,rfl,ai,aN⟩
 case hround=>
  rintro⟨k,d⟩ w2 ⟨bB,hd,hs,am,ao⟩ ih
  try dsimp only
  refine qN O$ Mw O O$ Lf$ run_seq$ Lp O (λaV=>?_)$ λaV=>?_
  ·have jr:d&&&1<4294967296:=Nat.lt_of_le_of_lt Nat.and_le_right (by omega);have sV:(4294967296-(d&&&1))%4294967296<4294967296:=Nat.mod_lt _ (by omega);have iG:2197175160&&&((4294967296-(d&&&1))%4294967296)<4294967296:=Nat.lt_of_le_of_lt Nat.and_le_left (by omega);refine py$ run_seq$ Lc$ Li O$ qV (Lj Mx O O am O)$ qV (Qg 1 2 O O (by decide) O)$ qV (Lj Mx O O am O)$ qV (z9L O O (by omega) (by omega))$ qV (zen O (by omega))$ qV (z9L O O (by omega) (by omega))$ qV (z8W O O (by omega) (by omega))$ Ls O (MY Lz O O O am (by simp)) ?_;rintro w3 ⟨aq,ax⟩;refine Lf$ Ld$ Li O$ Mb O O$ Le O$ Lf ?_;simp only[List.set_cons_zero] at aq;rw[Sums.z6a] at aq;refine(ih (k+1,Sums.bit d) w3 ⟨by dsimp only at*;omega,Sums.Rl hd,?_,aq,ao.trans ax⟩ (by dsimp only at*;omega)).qb;have h8:8-k=(8-(k+1))+1:=by dsimp only at*;omega
   dsimp only at hs⊢;rw[h8] at hs;exact hs
  ·refine Ln O$ ME Tryz.func131 O ?_;have hk:k=8:=by dsimp only at*;omega
   subst hk;refine⟨_,rfl,rfl,?_,ao⟩;have:d=Sums.byte c b:=hs;rw[<-this];exact am
theorem zah {l:List UInt8}{rest:List Value}{k:Nat}(h:k<l.length):(l.map P9++rest)[0+k*1]? =some (P9 (l.getD k 0)):=by
 rw[Nat.zero_add,Nat.mul_one,List.getElem?_append_left (by simpa using h)]
 simp[h,List.getD]
theorem Xx (c:Nat)(l:List UInt8)(k:Nat)(h:k<l.length):Sums.raw c (l.take (k+1))=Sums.byte (Sums.raw c (l.take k)) (l.getD k 0):=by
 rw[List.take_succ_eq_append_getElem h,Sums.z2B]
 simp[Sums.raw,List.getD,h]
theorem z6R (c:Nat)(l:List UInt8)(w:World)(hc:c<4294967296)(hl:l.length<=9223372036854775807):
  LP Tryz.prog 96 [U c,S l] w λv w'=>v=U (Sums.on c l)/\Ext w w':=by
 refine Lb (e:=[(0,_),(1,_)]) Tryz.func96 O Tryz.ntmps96 O O$ qN O$ Lm O O (Nc O O) ?_
 rintro _ w1 ⟨b1,rfl,bR,ad,ai⟩
 refine Lw O$ qM O$ qV (Lj Mx O O ai O)$ qV (z9r O (by omega))$ Ls O (MY Lz O O O ai (by simp)) ?_
 rintro w2 ⟨am,ao⟩
 simp only[List.set_cons_zero] at am
 have ag:Ext w w2:=ad.It ao (λi hi=>by rw[hi,bR];exact Nat.le_refl _)
 refine qM O$ qV (Z9 (first:=[]) (caps:=[.tmp 2]) O O)$ Lk O$ run_seq$ qN O$ Le O$ Lm O O (z5X U9 Mz U5 O) ?_
 rintro _ w3 ⟨b3,cap,rest,rfl,⟨eB,ah,aq⟩,jt⟩
 refine Nd Mz O$ Le O$ Lf$ Lc ?_
 have bN:b3≠b1:=by have:=am.lt;omega
 refine Nj (α:=Nat×Nat) ((0,Sums.neg c)) (λx=>[(2,ptr b1 0),(5,.func (.func 131) #[] #[ptr b1 0]),(12,.slice (some ⟨b3,0,none⟩) l.length cap),(13,I (l.length:Int)),(14,I (x.1:Int))]) (λx w'=>x.1<=l.length/\x.2<4294967296/\x.2=Sums.raw (Sums.neg c) (l.take x.1)/\Lq w' b1 [U x.2] 46/\Lq w' b3 (l.map P9++rest) 5/\Ext w w') (λx=>l.length-x.1) ?hI ?hround
 case hI=>exact⟨by simp,Sums.z1h hc,rfl,ah.Lg am,aq,ag.trans ah⟩
 case hround=>
  rintro⟨k,d⟩ w4 ⟨hk,hd,hs,aF,aI,ay⟩ ih;dsimp only at hk hd hs aF
  try dsimp only
  refine qN O$ Mw O O$ Lf$ run_seq$ Lp O (λaV=>?_)$ λaV=>?_
  ·have jL:k<l.length:=by omega
   refine py$ run_seq$ Lc$ qN O$ qV (M9 Mz Tq O O (by omega))$ qV (Lj U5 O O aI (zah jL))$ Lk O$ Li O$ Lu O O$ MK O O (NW zek O O) (z5O d (l.getD k 0) b1 _ w4 aF hd) ?_;rintro _ w5 ⟨rfl,aR,aU⟩;refine Lf$ Ld$ Li O$ Mb O O$ Le O$ Lf ((ih (k+1,Sums.byte d (l.getD k 0)) w5 ⟨jL,Sums.z3z hd _,?_,aR,aU.Lg aI bN,ay.It aU (λi hi=>by rw[hi,bR];exact Nat.le_refl _)⟩ (by dsimp only;omega)).qb);rw[Xx _ _ _ jL,<-hs]
  ·refine Ln O$ qN O$ qV (Lj Mx O O aF O)$ qV (z9r O (by omega))$ Lk O$ Lh Tryz.func96 O (⟨_,rfl,?_,ay⟩);have jd:k=l.length:=by omega
   subst jd;rw[List.take_length] at hs;show U (Sums.neg d)=_;rw[hs]
   rfl
theorem z3l (l:List UInt8)(w:World)(hl:l.length<=9223372036854775807):
  LP Tryz.prog 91 [S l] w λv w'=>v=U (Sums.crc l)/\Ext w w':=by
 refine Lb (e:=[(0,_)]) Tryz.func91 O Tryz.ntmps91 O O$ qN O$ Lw O$ qM O$ Le O$ LD zec O (z6R 0 l _ (by omega) hl) ?_
 rintro _ w1 ⟨rfl,ad⟩
 refine Lk O$ Lh Tryz.func91 O ?_
 exact⟨_,rfl,rfl,ad⟩
theorem Wg (s:Bytes):Lib.strCells ⟨s.toArray⟩=s.map P9:=by simp[Lib.strCells,P9]
section
variable {P:Program}{e:Env}{d:Option Nat}{ty t tu tn el:TypeId}{pos:String}{aft:Array Edge}{g:Option (Nat×Bool)}{x y:Operand}{w w':World}{n k:Nat}{v:Value}{cs:List Value}{s:Bytes}{kn:IntKind}{za:Int}
theorem z0C (ht:P.underlying t=some (.slice el))(hu:P.underlying tu=some .string)(hs:TI P el (.int .u8 0) 1 1)(hv:Sl w v el 1 n cs)(hb:n+s.length<=140737488355328):
  ∃v' w',(Builtin.append_ #[t,tu] ty #[v,S s]).run P w= .ok v' w'/\Sl w' v' el 1 (n+s.length) (cs++s.map P9)/\Kp (λk=>v.ownBlock=some k) w w'/\(∀g,v'.ownBlock=some g->v.ownBlock=some g\/w.heap.size<=g):=by
 have ev:maxLen=9223372036854775807:=rfl
 obtain⟨i,hi,oA,jp,qd⟩:=hs
 have e1:=OC s
 have e2:=Wg s
 rcases id hv.2 with⟨rfl,rfl⟩|⟨g,cap,cur,rfl,FN,hg,j8,mj,fB,FO⟩
 ·have hx:cs=[]:=List.eq_nil_of_length_eq_zero (by simpa using hv.1);subst hx;obtain⟨v',w',hr,ho,hg,-⟩:=Lib.run_append_own_string (P:=P) w w.heap.size t tu ty el i ht hu hi oA jp qd (.slice none 0 0) 0 [] (World.ownsRow_nil w w.heap.size el 1) ⟨s.toArray⟩ (by rw[e1];omega) (by rw[e1];exact hb) (Nat.le_refl _);rw[e1,e2] at ho;refine⟨v',w',hr,⟨ho.1,?_⟩,Kp.Ql hg,λg hg=> .inr (World.ownsRow.lt ho g hg).1⟩;rcases ho.2 with IT|⟨g,cap2,cur2,jf,c6,dP⟩
  ·exact .inl IT
  ·exact .inr ⟨g,cap2,cur2,jf,Nat.zero_le _,dP⟩
 ·by_cases fh:n+s.length<=cap
  ·by_cases hc:0<cap
   ·obtain⟨w',hr,ho,cN⟩:=Lib.run_append_fits_string (P:=P) w 0 t tu ty el i ht hu hi jp (some ⟨g,0,none⟩) n cap cs hv ⟨s.toArray⟩ hc (by rw[e1];exact fh);rw[e1,e2] at ho;rw[e1] at hr;exact⟨_,w',hr,ho,Kp.Ql cN,λg' cN=> .inl (by simpa[Value.ownBlock] using cN)⟩
   ·obtain⟨v',w',hr,ho,cN,-⟩:=Lib.run_append_own_string (P:=P) w 0 t tu ty el i ht hu hi oA jp qd (.slice (some ⟨g,0,none⟩) n cap) n cs hv ⟨s.toArray⟩ (by rw[e1];omega) (by rw[e1];exact hb) (Nat.zero_le _);have IU:s=[]:=List.eq_nil_of_length_eq_zero (by omega);subst IU;have dP:=Lib.run_append_room_string (P:=P) w t tu ty el i ht hu hi jp g n cap cur hg ⟨[].toArray⟩ (by rw[e1];exact fh) (by rw[e1];simp only[Nat.mul_one] at fB;simp only[List.length_nil];omega);rw[dP] at hr;cases hr;rw[e1,e2] at ho;exact⟨_,_,dP,ho,Kp.Ql cN,λg' cN=> .inl (by simpa[Value.ownBlock] using cN)⟩
  ·obtain⟨v',w',hr,ho,cN,-⟩:=Lib.run_append_own_string (P:=P) w 0 t tu ty el i ht hu hi oA jp qd (.slice (some ⟨g,0,none⟩) n cap) n cs hv ⟨s.toArray⟩ (by rw[e1];omega) (by rw[e1];exact hb) (Nat.zero_le _);have dP:=Lib.run_append_grow_string (P:=P) w t tu ty el i (.int .u8 0) ht hu hi oA ⟨g,0,none⟩ n cap cs (by rw[jp];exact hv.1) (World.ownsRow.cells hv (g:=g) O) ⟨s.toArray⟩ (by rw[e1];omega) (by rw[e1];omega) (by rw[e1];exact growslice_fits (by omega) (by rw[qd];omega));rw[dP] at hr;cases hr;rw[e1,e2] at ho;refine⟨_,_,dP,by rw[<-e1] at ho⊢;exact ho,Kp.Ql cN,λg' cN=> .inr ?_⟩;simp[Value.ownBlock] at cN;omega
theorem zbF (ht:P.underlying t=some (.slice el))(hu:P.underlying tu=some .string)(hs:TI P el (.int .u8 0) 1 1)(hx:look e x=some v)(hy:look e y=some (S s))(hv:Sl w v el 1 n cs)(hb:n+s.length<=140737488355328):
  Yp P e ⟨d,.call ⟨.builtin .append,#[x,y],#[t,tu]⟩,ty,pos,aft,g⟩ w λv' w'=>Sl w' v' el 1 (n+s.length) (cs++s.map P9)/\Kp (λk=>v.ownBlock=some k) w w'/\(∀g,v'.ownBlock=some g->v.ownBlock=some g\/w.heap.size<=g):=by
 obtain⟨v',w',hr,nn⟩:=z0C (P:=P) (ty:=ty) ht hu hs hv hb
 refine⟨v',w',fun ρ hρ=>?_,nn⟩
 simp[execOp,resolve,invoke,builtin,hρ _ _ hx,hρ _ _ hy,hr]
theorem Zg (k:Nat):Builtin.zeroCells (Value.int .u8 0).cells k=(Lib.strCells ⟨(zeros k).toArray⟩).toArray:=by
 rw[Wg]
 apply Array.ext'
 rw[SW (.int .u8 0) k O]
 simp[zeros,P9]
theorem zdQ [qX:OQ za k](ht:P.underlying t=some (.slice el))(hn:P.underlying tn=some (.int kn))(hu:P.underlying tu=some .string)(hs:TI P el (.int .u8 0) 1 1)(hx:look e x=some v)(hy:look e y=some (I za))(hv:Sl w v el 1 n cs)(hb:n+k<=140737488355328):
  Yp P e ⟨d,.call ⟨.builtin .append,#[x,y],#[t,tn]⟩,ty,pos,aft,g⟩ w λv' w'=>Sl w' v' el 1 (n+k) (cs++(zeros k).map P9)/\Kp (λk=>v.ownBlock=some k) w w'/\(∀g,v'.ownBlock=some g->v.ownBlock=some g\/w.heap.size<=g):=by
 obtain⟨rfl⟩:=qX
 have hl:(zeros k).length=k:=by simp[zeros]
 obtain⟨v',w',hr,h1,h2⟩:=z0C (P:=P) (ty:=ty) (s:=zeros k) ht hu hs hv (by rw[hl];exact hb)
 rw[hl] at h1
 have he:(Builtin.append_ #[t,tn] ty #[v,I (k:Int)]).run P w= .ok v' w':=by
  rw[<-hr];obtain⟨i,hi,oA,jp,qd⟩:=hs;have hw:IntKind.i64.wrap (k:Int)=k:=by rw[IntKind.wrap_i64];omega
  have sV:¬((k:Int)<0):=by omega
  have FP:¬(281474976710656<(k:Int)*(i.bytes:Int)):=by rw[qd];omega
  have hf:=λw=>Lib.run_firstCells_string (P:=P) w i.size ⟨(zeros k).toArray⟩;have cF:(ByteArray.mk (zeros k).toArray).size=k:=by rw[OC,hl]
  rw[cF] at hf
  obtain⟨a,c,IV⟩:∃a c,v= .slice a n c:=by
   rcases hv.2 with⟨rfl,rfl⟩|⟨g,cap,cur,rfl,_⟩
   ·exact⟨_,_,rfl⟩
   ·exact⟨_,_,rfl⟩
  subst IV;have IW:k=0->(Lib.strCells ⟨(zeros k).toArray⟩).toArray=#[]:=λe=>by subst e;rfl
  have IX:c<=maxLen/\n<=c:=by
   rcases hv.2 with⟨h,h'⟩|⟨g,cap,cur,h,_,_,h1,h2,_⟩
   ·cases h;exact⟨by simp[maxLen],by omega⟩
   ·cases h;exact⟨h2,h1⟩
  have ct:n+k<=c\/¬(281474976710656<Builtin.nextslicecap (n+k) c*i.bytes):=by
   by_cases hr:n+k<=c
   ·exact .inl hr
   ·have:=growslice_fits (need:=n+k) (old:=c) (bytes:=i.bytes) (by omega) (by rw[qd];omega);exact .inr (by omega)
  have Dp:¬(9223372036854775807<((n:Int)+(k:Int))):=by omega
  by_cases hk:k=0
  ·subst hk;have e0:=IW O;have gA:n<=c:=IX.2;have mC:IntKind.i64.wrap 0=0:=by rw[IntKind.wrap_i64];omega
   have iA:=hf w;rw[jp,e0] at iA;simp[Builtin.append_,run_underlying ht,run_underlying hn,run_underlying hu,sizeOf,typeInfo,zeroValue,hi,oA,jp,asInt,asIntOf,mC,Builtin.lenOf,cF,gA,iA]
  ·have bu:=Zg k;have rg:∀w,(Builtin.firstCells 1 k (.string ⟨(zeros k).toArray⟩)).run P w= .ok (Builtin.zeroCells (Value.int .u8 0).cells k) w:=λw=>by rw[bu];have:=hf w;rw[jp] at this;exact this
   have fw:¬(k*i.size=0):=by rw[jp];omega
   by_cases hr:n+k<=c
   ·simp[Builtin.append_,run_underlying ht,run_underlying hn,run_underlying hu,sizeOf,typeInfo,zeroValue,hi,oA,jp,asInt,asIntOf,hw,sV,FP,Builtin.lenOf,cF,hr,rg,hk]
   ·have Dq:=ct.resolve_left hr;simp[Builtin.append_,run_underlying ht,run_underlying hn,run_underlying hu,sizeOf,typeInfo,zeroValue,hi,oA,jp,asInt,asIntOf,hw,sV,FP,Builtin.lenOf,cF,hr,rg,hk,Dp,Dq]
 refine⟨v',w',fun ρ hρ=>?_,h1,h2⟩
 simp[execOp,resolve,invoke,builtin,hρ _ _ hx,hρ _ _ hy,he]
end
/-! ### Writers -/
def swC (s st len:Nat)(rest:Value)(at' n:Nat)(sum:Nat)(put:Value)(dn:Bool):List Value:=[ptr s 0,I (st:Int),I (len:Int),rest,I (at':Int),I (n:Int),U sum,put,.bool dn]
section
variable {w w':World}{Q:NI}{txt:Int->Bytes}{K:Nat}{X:Nat->Prop}
theorem YP (n:Nat)(hn:n<=2000000)(w:World):LP Tryz.prog 55 [I 512,I (n:Int)] w λv w'=>v= .tuple #[I (((n+523) / 512:Nat):Int),I 0]/\w'=w:=by
 refine Lb (e:=[(0,_),(1,_)]) Tryz.func55 O Tryz.ntmps55 O O$ qN O$ Lw O$ Lk O$ run_seq$ qN O$ Le O$ Mw O O$ M5$ Lu O O$ MH O O$ M5$ M8 O O$ Lu O O ?_
 refine qV (yre O O (by omega))$ Mu O O$ M5$ M8 O O$ Lu O O$ Mw O O$ M5$ M8 O O$ Lu O O$ Le O$ qV (T6 O O (by omega))$ Np O O$ MH O O$ M5 ?_
 refine M8 O O$ Lf$ LS.qb (e:=[(0,_),(1,_),(4,_),(5,_),(27,_)]) ?_
 refine An O$ py$ qN O$ Le O$ Mb O O$ Le O$ Mb O O$ Np O O$ Le O$ qV (SC O O (by omega))$ Lw O$ Lk O ?_
 rw[show((n:Int)+12+512-1) / 512=(((n+523) / 512:Nat):Int) by omega]
 refine Lh Tryz.func55 O ?_
 exact⟨_,rfl,rfl,rfl⟩
theorem VA (h:Sp Q txt K X w){st len:Nat}(h1:1<=len)(h2:st+len<=Q.L.length):LP Tryz.prog 92 [.agg #[ptr Q.s 0,I (st:Int),I (len:Int)]] w λv w'=>v=I 0/\Ext w w':=by
 have eu:=h.n
 refine Lb (e:=[(0,_)]) Tryz.func92 O Tryz.ntmps92 O O$ qN O$ Lm O O (Nc O (cs:=[ptr Q.s 0,I (st:Int),I (len:Int)]) O) ?_
 rintro _ w1 ⟨b1,rfl,bR,ad,ai⟩
 have hP:=h.ext' ad
 have hg:=Ext.LC w1
 have FQ:=(hP.ext' hg).dev
 have FS:=(hP.ext' hg).blocks
 refine Lk O$ run_seq$ Lc$ qN O$ Lt QN O$ qV (Lj SJ O O ai O)$ qV (Ml SJ O O)$ Lk O$ An O$ run_seq$ N7 (λw'=>Ext w1 w') O$ Ll 0 O (LV PJ O) hg$ Ll 1 O (LV N2 O) hg$ qT 2 O (λ_ h=>Lj U3 O O (h.Lg ai) O) hg ?_
 refine Ll 3 O (Wr O O) hg$ PU$ LA 4 O O (hg)$ Ll 5 O (LV PJ O) hg$ Ll 6 O (LV MV O) hg$ qT 7 O (λ_ h=>Lj U3 O O (h.Lg ai) O) hg$ Ll 8 O (Wr O O) hg$ PU$ Ll 9 O (Qt O O) hg$ LA 10 O O (hg)$ Ll 11 O (LV PJ O) hg$ Ll 12 O (LV MV O) hg$ qT 13 O (λ_ h=>Lj U3 O O (h.Lg ai) O) hg$ Ll 14 O (LV QN O) hg ?_
 refine qT 15 O (λ_ h=>Lj SJ O O (h.Lg ai) O) hg$ OA 16 O z92 O (FQ) ?_
 rintro _ w2 ⟨rfl,rfl⟩
 refine⟨hg,?_⟩
 refine OA 17 O Zs O (FS) ?_
 rintro _ w2 ⟨rfl,rfl⟩
 refine⟨hg,?_⟩
 refine Ll 18 O (yge O O) hg$ PU$ Ll 19 O (Qt O O) hg$ LA 20 O O (hg)$ Ll 21 O (LV PJ O) hg$ Ll 22 O (LV N2 O) hg$ qT 23 O (λ_ h=>Lj U3 O O (h.Lg ai) O) hg$ Ll 24 O (LV QN O) hg$ qT 25 O (λ_ h=>Lj SJ O O (h.Lg ai) O) hg$ Ll 28 O (LV PJ O) hg$ Ll 29 O (LV MV O) hg$ qT 30 O (λ_ h=>Lj U3 O O (h.Lg ai) O) hg$ OA 26 O z92 O (FQ) ?_
 rintro _ w2 ⟨rfl,rfl⟩
 refine⟨hg,?_⟩
 refine OA 27 O Zs O (FS) ?_
 rintro _ w2 ⟨rfl,rfl⟩
 refine⟨hg,?_⟩
 refine Ll 31 O (SR O O (by omega)) hg$ Ll 32 O (TN O O) hg$ PU$ Ll 33 O (Qt O O) hg$ Ll 34 O (Ni O) hg$ qE$ LS.qb (e:=[(2,_),(7,_)]) ?_
 refine An O$ py$ Ld$ qN O$ Lk O$ Lh Tryz.func92 O ?_
 exact⟨_,rfl,rfl,ad.trans hg⟩
theorem Wj (h:Sp Q txt K X w){st len:Nat}(h2:len<=100000):LP Tryz.prog 99 [.agg #[ptr Q.s 0,I (st:Int),I (len:Int)]] w λv w'=>v=I ((len:Int)*512-12)/\Ext w w':=by
 refine Lb (e:=[(0,_)]) Tryz.func99 O Tryz.ntmps99 O O$ qN O$ Lm O O (Nc O (cs:=[ptr Q.s 0,I (st:Int),I (len:Int)]) O) ?_
 rintro _ w1 ⟨b1,rfl,bR,ad,ai⟩
 have hP:=h.ext' ad
 have hg:=Ext.LC w1
 have IY:=(hP.ext' hg).size
 refine Lk O$ run_seq$ N7 (λw'=>Ext w1 w') O$ Ll 0 O (LV PJ O) hg$ Ll 1 O (LV N2 O) hg$ qT 2 O (λ_ h=>Lj U3 O O (h.Lg ai) O) hg$ Ll 3 O (LV QN O) hg$ qT 4 O (λ_ h=>Lj SJ O O (h.Lg ai) O) hg$ OA 5 O z0i O (IY) ?_
 rintro _ w2 ⟨rfl,rfl⟩
 refine⟨hg,?_⟩
 refine Ll 6 O (T6 O O (by omega)) hg$ Ll 7 O (SR O O (by omega)) hg$ Ll 8 O (Ni O) hg$ qE$ Lh Tryz.func99 O ?_
 exact⟨_,rfl,rfl,ad.trans hg⟩
theorem Ty {wb s st len at' n sum:Nat}{rest put:Value}(hB:Lq w wb (swC s st len rest at' n sum put false) 200):LP Tryz.prog 94 [ptr wb 0] w λv w'=>v=I 0/\w'=w:=by
 replace hB:Lq w wb [ptr s 0,I (st:Int),I (len:Int),rest,I (at':Int),I (n:Int),U sum,put,.bool false] 200:=hB
 refine Lb (e:=[(0,_)]) Tryz.func94 O Tryz.ntmps94 O O$ qN O$ Lk O$ run_seq$ Lc$ qN O$ Le O$ qV (Ml S6 O O)$ Lk O$ An O$ qN O$ Le O$ LU O$ Lt TW O ?_
 refine qV (Lj U4 O O hB O)$ Lk O$ An O$ py$ Ld$ qN O$ Lk O$ Lh Tryz.func94 O ?_
 exact⟨_,rfl,rfl,rfl⟩
theorem Zy (h:Sp Q txt K X w){wb st len at' n sum:Nat}{rest put:Value}(h2:len<=100000)(hn:n<=100000000)(hB:Lq w wb (swC Q.s st len rest at' n sum put false) 200):LP Tryz.prog 95 [ptr wb 0] w λv w'=>v=I ((len:Int)*512-12-(n:Int))/\Ext w w':=by
 replace hB:Lq w wb [ptr Q.s 0,I (st:Int),I (len:Int),rest,I (at':Int),I (n:Int),U sum,put,.bool false] 200:=hB
 have hg:=Ext.LC w
 have IZ:=Wj (h.ext' hg) (st:=st) h2
 refine Lb (e:=[(0,_)]) Tryz.func95 O Tryz.ntmps95 O O$ qN O$ Lk O$ run_seq$ qN O$ Le O$ qV (Ml S6 O O)$ Lu O O$ LU O$ Lt TW O$ qV (Lj U4 O O hB O)$ M8 O O$ Lf$ An O ?_
 refine py$ run_seq$ N7 (λw'=>Ext w w') O$ LA 0 O O (hg)$ Ll 1 O (Mo O) hg$ Ll 2 O (LV SE O) hg$ qT 3 O (λ_ h=>LM z6C O RU O (Lq.cells (n:=3) (h.Lg hB) (news:=[_,_,_]) O) O) hg$ LA 5 O O (hg)$ Ll 6 O (Mo O) hg$ Ll 7 O (LV VT O) hg$ qT 8 O (λ_ h=>Lj U3 O O (h.Lg hB) O) hg$ OA 4 O zbk O (IZ) ?_
 rintro _ w2 ⟨rfl,ag⟩
 refine⟨(hg.trans ag),?_⟩
 refine Ll 9 O (SR O O (by omega)) ((hg.trans ag))$ Ll 10 O (Ni O) ((hg.trans ag))$ qE$ Lh Tryz.func95 O ?_
 exact⟨_,rfl,rfl,hg.trans ag⟩
end
def W9 (bs bx bw:Nat):Value:= .func (.func 93) #[] #[ptr bs 0,ptr bx 0,ptr bw 0]
structure Zb (s st len wb bs bx bw:Nat)(rest:Value)(at' n sum:Nat)(w:World):Prop where
 wr:Lq w wb (swC s st len rest at' n sum (W9 bs bx bw) false) 200
 sb:Lq w bs [ptr s 0] 28
 xb:Lq w bx [I (st:Int),I (len:Int)] 108
 pb:Lq w bw [ptr wb 0] 133
 ne:bs≠wb/\bx≠wb/\bw≠wb
section
variable {w w':World}{Q:NI}{txt:Int->Bytes}{K:Nat}{X S':Nat->Prop}{s st len wb bs bx bw at' n sum:Nat}{rest:Value}
theorem Zb.kp (h:Zb s st len wb bs bx bw rest at' n sum w)(hk:Kp S' w w')(h1:¬S' wb)(h2:¬S' bs)(h3:¬S' bx)(h4:¬S' bw):Zb s st len wb bs bx bw rest at' n sum w':=
 ⟨hk.Lg h.wr h1,hk.Lg h.sb h2,hk.Lg h.xb h3,hk.Lg h.pb h4,h.ne⟩
theorem Zb.ext (h:Zb s st len wb bs bx bw rest at' n sum w)(hx:Ext w w'):Zb s st len wb bs bx bw rest at' n sum w':=h.kp (S':=λ_=>False) hx id id id id
theorem Zb.re {rest2:Value}{at2 n2 sum2:Nat}(h:Zb s st len wb bs bx bw rest at' n sum w)(hk:Kp (λb=>b=wb) w w')(hB:Lq w' wb (swC s st len rest2 at2 n2 sum2 (W9 bs bx bw) false) 200):Zb s st len wb bs bx bw rest2 at2 n2 sum2 w':=
 ⟨hB,hk.Lg h.sb h.ne.1,hk.Lg h.xb h.ne.2.1,hk.Lg h.pb h.ne.2.2,h.ne⟩
theorem Zb.cells (h:Zb s st len wb bs bx bw rest at' n sum w):Lq w wb [ptr s 0,I (st:Int),I (len:Int),rest,I (at':Int),I (n:Int),U sum,W9 bs bx bw,.bool false] 200:=h.wr
theorem UF (hP:Sp Q txt K X w)(hX:∀b,X b->b<w.heap.size)(hK:K<1000000000000)(h:Zb Q.s st len wb bs bx bw rest at' n sum w)(aT:X wb/\X bs/\X bx/\X bw)(zK:st+at'<Q.L.length)(t:Bytes)(ht:t.length=512):
  LP Tryz.prog 93 [S t,ptr bs 0,ptr bx 0,ptr bw 0] w λv w'=>v=I 0/\Sp Q (UI txt ((st+at':Nat):Int) (some t)) (K+1) X w'/\Zb Q.s st len wb bs bx bw rest (at'+1) n sum w'/\Kp (λb=>¬X b\/b=wb) w w':=by
 have eu:=hP.n
 have jl:=h.sb
 have gt:=h.xb
 have jn:=h.pb
 have hB:=h.cells
 have hg:=Ext.LC w
 refine Lb (e:=[(0,_),(1,_),(2,_),(3,_)]) Tryz.func93 O Tryz.ntmps93 O O$ qN O$ Lk O$ run_seq$ N7 (λw'=>Kp (λb=>¬X b) w w') O$ qT 0 O (λ_ hS=>(by first|exact Lj SJ O O (hS.Lg jl (λe=>e aT.2.1)) O|exact Lj SJ O O (hS.Lg gt (λe=>e aT.2.2.1)) O|exact Lj SJ O O (hS.Lg jn (λe=>e aT.2.2.2)) O|exact Lj SJ O O (hS.Lg hB (λe=>e aT.1)) O)) (hg.kp) ?_
 refine Ll 1 O (LV MV O) (hg.kp)$ qT 2 O (λ_ hS=>(by first|exact Lj U3 O O (hS.Lg jl (λe=>e aT.2.1)) O|exact Lj U3 O O (hS.Lg gt (λe=>e aT.2.2.1)) O|exact Lj U3 O O (hS.Lg jn (λe=>e aT.2.2.2)) O|exact Lj U3 O O (hS.Lg hB (λe=>e aT.1)) O)) (hg.kp) ?_
 refine qT 3 O (λ_ hS=>(by first|exact Lj S6 O O (hS.Lg jl (λe=>e aT.2.1)) O|exact Lj S6 O O (hS.Lg gt (λe=>e aT.2.2.1)) O|exact Lj S6 O O (hS.Lg jn (λe=>e aT.2.2.2)) O|exact Lj S6 O O (hS.Lg hB (λe=>e aT.1)) O)) (hg.kp) ?_
 refine Ll 4 O (Mo O) (hg.kp)$ Ll 5 O (LV Tz O) (hg.kp)$ qT 6 O (λ_ hS=>(by first|exact Lj U3 O O (hS.Lg jl (λe=>e aT.2.1)) O|exact Lj U3 O O (hS.Lg gt (λe=>e aT.2.2.1)) O|exact Lj U3 O O (hS.Lg jn (λe=>e aT.2.2.2)) O|exact Lj U3 O O (hS.Lg hB (λe=>e aT.1)) O)) (hg.kp) ?_
 refine Ll 7 O (Qu O O (by omega)) (hg.kp)$ LA 8 O O (hg.kp) ?_
 rw[show(st:Int)+(at':Int)=((st+at':Nat):Int) by omega]
 refine OA 9 O zaO O ((hP.ext' hg).write (λb hb=>by have:=hX b hb;have:=hg.size;omega) hK (no:=((st+at':Nat):Int)) (by omega) (by omega) t ht) ?_
 rintro _ w1 ⟨rfl,jo,aN⟩
 refine⟨hg.kp.trans aN,?_⟩
 have ik:Kp (λb=>¬X b) w w1:=hg.kp.trans aN
 have h1:=h.kp ik (λe=>e aT.1) (λe=>e aT.2.1) (λe=>e aT.2.2.1) (λe=>e aT.2.2.2)
 have ai:=h1.cells
 have y5:=h1.pb
 have kO:∀b,X b->b<w1.heap.size:=λb hb=>by have:=hX b hb;have:=ik.size;omega
 refine Ll 10 O (Ni O) (hg.kp.trans aN)$ qE$ qN O$ qV ((by first|exact Lj S6 O O y5 O|exact Lj S6 O O ai O)) ?_
 refine LU O$ Lt Tz O$ qV ((by first|exact Lj U3 O O y5 O|exact Lj U3 O O ai O)) ?_
 refine Mb O O$ LU O$ Lt Tz O$ Ls O (MY Md O O O ai (by simp)) ?_
 rintro w2 ⟨am,ao⟩
 have ez:Lq w2 wb (swC Q.s st len rest (at'+1) n sum (W9 bs bx bw) false) 200:=am
 have h2:=h1.re ao ez
 have pU:=h2.cells
 have sW:=h2.pb
 have aa:=Ext.LC w2
 have eZ:=jo.own ao (λb e=>by rw[e];exact aT.1)
 refine Lf$ run_seq$ LH [11] (λw'=>Ext w2 w') (by kernel_rfl) O$ qL [9,10,11] 0 O (λ_ h=>(by first|exact Lj S6 O O (h.Lg sW) O|exact Lj S6 O O (h.Lg pU) O)) aa ?_
 refine qL [2,3,4,5,6,7,8,9,10,11] 1 O (λ_ h=>(by first|exact Lj S6 O O (h.Lg sW) O|exact Lj S6 O O (h.Lg pU) O)) aa ?_
 refine qL [3,4,5,6,7,8,9,10,11] 2 O (λ_ h=>Mo O) aa$ qL [4,5,6,7,8,9,10,11] 3 O (λ_ h=>LV TW O) aa$ qL [5,6,7,8,9,10,11] 4 O (λ_ h=>(by first|exact Lj U4 O O (h.Lg sW) O|exact Lj U4 O O (h.Lg pU) O)) aa ?_
 refine qL [6,7,8,9,10,11] 5 O (λ_ h=>M0 O) aa$ qL [7,8,9,10,11] 6 O (λ_ h=>M0 O) aa$ qL [8,9,10,11] 7 O (λ_ h=>yne O O) aa$ qL [9,10,11] 8 O (λ_ h=>Qt O O) aa$ qL [10,11] 9 O (λ_ h=>Mo O) aa$ qL [11] 10 O (λ_ h=>LV TW O) aa$ OY [11] ?_
 have aq:=aa.Lg pU
 refine qO 11$ M1 (i:=11) O O (MY Rz O O O aq (by simp)) ?_
 rintro w3 ⟨kd,ax⟩
 refine⟨trivial,?_⟩
 refine qE$ LS.qb (e:=[(5,_),(6,_)]) ?_
 refine qN O$ Le O$ Lk O$ Lh Tryz.func93 O ?_
 have h3:=(h2.ext aa).re ax (show Lq w3 wb (swC Q.s st len rest (at'+1) n sum (W9 bs bx bw) false) 200 from kd)
 exact⟨_,rfl,rfl,(eZ.ext' aa).own ax (λb e=>by rw[e];exact aT.1),h3,((ik.Lv λb e=> .inl e).trans (ao.Lv λb e=> .inr e)).trans (aa.kp.trans (ax.Lv λb e=> .inr e))⟩
end
section
variable {P:Program}{e:Env}{d:Option Nat}{ty t t' el:TypeId}{pos:String}{aft:Array Edge}{g:Option (Nat×Bool)}{x:Operand}{w:World}{l:Bytes}{v:Value}
theorem zai (hs:P.underlying t=some (.slice el))(he:P.underlying el=some (.int .u8))(hd:P.underlying t'=some .string)(hx:look e x=some v)(hr:Rd w v 1 l.length (l.map P9))(hl:0<l.length):
  Y P e ⟨d,.convert t t' x,ty,pos,aft,g⟩ (S l) w w:=fun ρ hρ=>by
 rcases hr.2 with⟨⟨ca,c⟩,hv,h0⟩|⟨b,off,cap,hv,hc⟩
 ·omega
 ·subst hv;have hr:=run_convert_bytes_back (P:=P) w t t' el ⟨b,off,none⟩ cap l hs he hd (λj hj=>by rw[Ng];exact hc j _ (by simp[hj,P9]));simp[execOp,hρ _ _ hx,hr]
end
section
variable {w w':World}{Q:NI}{txt:Int->Bytes}{K:Nat}{X S':Nat->Prop}{s st len wb bs bx bw at' n sum:Nat}{rest:Value}
theorem Ys (hP:Sp Q txt K X w){st len:Nat}(h1:1<=len)(h2:st+len<=Q.L.length):
  LP Tryz.prog 58 [ptr Q.s 0,.agg #[I (st:Int),I (len:Int)]] w λv w'=>∃wb bs bx bw sum,v= .tuple #[ptr wb 0,I 0]/\sum<4294967296/\Zb Q.s st len wb bs bx bw (.slice none 0 0) 0 0 sum w'/\(w.heap.size<=wb/\w.heap.size<=bs/\w.heap.size<=bx/\w.heap.size<=bw)/\Ext w w':=by
 have tL:Sums.crc []<4294967296:=Sums.za8 _
 obtain⟨c0,sX⟩:∃c0,Sums.crc []=c0:=⟨_,rfl⟩
 rw[sX] at tL
 refine Lb (e:=[(0,_),(1,_)]) Tryz.func58 O Tryz.ntmps58 O O$ qN O$ Lm O O (Nc O (cs:=[ptr Q.s 0]) O) ?_
 rintro _ w1 ⟨bs,rfl,vX,ad,jl⟩
 refine Lm O O (Nc O (cs:=[I (st:Int),I (len:Int)]) O) ?_
 rintro _ w2 ⟨bx,rfl,ft,ag,gt⟩
 have j4:=ag.Lg jl
 have J0:=hP.ext' (ad.trans ag)
 have aj:=Ext.LC w2
 have bu:=aj.size
 refine Lw O$ Lk O$ run_seq$ M6 (λe' w'=>∃wb bw,e'=[(2,ptr bs 0),(3,ptr bx 0),(6,ptr bw 0)]/\Lq w' wb [ptr Q.s 0,I (st:Int),I (len:Int),.slice none 0 0,I 0,I 0,U c0,.nilFunc,.bool false] 200/\Lq w' bw [ptr wb 0] 133/\Ext w2 w'/\w2.heap.size<=wb/\w2.heap.size<=bw/\wb≠bw) ?cD$ λcD=>?cQ
 case cD=>
  rintro e' w3 ⟨wb,bw,rfl,aq,lF,ah,nj,Dr,bN⟩;have lbs:=jl.lt;have lbx:=gt.lt;have ek:=ag.size;have gu:=J0.ext' ah;refine run_seq$ qN O$ qV ((by first|exact Lj S6 O O lF O|exact Lj S6 O O aq O)) ?_;refine LU O$ Lt SE O$ qV ((by first|exact LM z6C O RU O (Lq.cells (n:=3) lF (news:=[_,_,_]) O) O|exact LM z6C O RU O (Lq.cells (n:=3) aq (news:=[_,_,_]) O) O)) ?_;refine LD zbm O (VA gu h1 h2) ?_;rintro _ w4 ⟨rfl,ay⟩;have lE:=ay.Lg lF;have aF:=ay.Lg aq;refine Lw O$ qM O$ Le O$ Mu O O$ Lf$ An O$ py$ qN O$ qV ((by first|exact Lj S6 O O lE O|exact Lj S6 O O aF O)) ?_;refine qV (Z9 (first:=[]) (caps:=[.tmp 2,.tmp 3,.tmp 6]) O O)$ LU O$ Lt W1 O$ Ls O (MY zaR O O O aF (by simp)) ?_;rintro w5 ⟨aI,ak⟩;have zr:=ak.Lg lE (λe=>bN e.symm);refine qM O$ qV (Lj S6 O O zr O)$ Lw O$ Lk O$ Lh Tryz.func58 O ?_;have ia:Ext w2 w5:=(ah.trans ay).It ak (λj e=>by omega);refine⟨_,rfl,wb,bs,bx,bw,c0,rfl,tL,⟨aI,ia.Lg j4,ia.Lg gt,zr,⟨by omega,by omega,λe=>bN e.symm⟩⟩,⟨by omega,by omega,by omega,by omega⟩,(ad.trans ag).trans ia⟩
 case cQ=>
 refine LH [7] (λw'=>Ext w2 w') (by kernel_rfl) O$ qL [2,4,5,7] 0 O (λ_ h=>(by first|exact Lj SJ O O (h.Lg j4) O|exact Lj SJ O O (h.Lg gt) O)) aj ?_
 refine qL [2,4,5,7] 1 O (λ_ hS=>(by first|exact LM S2 O MX O (Lq.cells (n:=2) (hS.Lg j4) (news:=[_,_]) O) O|exact LM S2 O MX O (Lq.cells (n:=2) (hS.Lg gt) (news:=[_,_]) O) O)) aj ?_
 refine qL [4,5,7] 2 O (λ_ h=>O6 (cs:=[_,_,_]) RU O z9x O O) aj$ SL (i:=3) (j:=6) (by kernel_rfl) ?_ ?_
 ·refine ND (i:=3) O O O (yc (args:=[.const (Value.string (⟨#[]⟩))]) zaZ O) (z3l [] _ (by simp)) ?_;rintro _ w3 ⟨rfl,ah⟩;refine⟨aj.trans ah,?_⟩;rw[sX];have aj:=aj.trans ah
  try have aR:=ah.Lg aR
  have bu:=Nat.le_trans bu ah.size;refine qL [5,7] 4 O (λ_ h=>O6 (cs:=[_,_,_,_,_,_,_,_,_]) z96 O z9W O O) aj$ SL (i:=5) (j:=6) (by kernel_rfl) ?_ ?_
  ·refine Ms (i:=5) O O O (Nc O (cs:=[ptr Q.s 0,I (st:Int),I (len:Int),.slice none 0 0,I 0,I 0,U c0,.nilFunc,.bool false]) O) ?_;rintro _ w5 ⟨wb,rfl,nj,aX,aI⟩;refine⟨aj.trans aX,?_⟩;have aj:=aj.trans aX
   try have aR:=aX.Lg aR
   have s6:w2.heap.size<=wb:=by omega
   have bu:=Nat.le_trans bu aX.size;refine N4 (i:=6) (by kernel_rfl)$ Ms (i:=6) O O O (NJ (cs:=[_]) XW O) ?_;rintro _ w6 ⟨bw,rfl,Dr,aK,aR⟩;refine⟨aj.trans aK,?_⟩;have aj:=aj.trans aK
   try have aI:=aK.Lg aI
   have y6:w2.heap.size<=bw:=by omega
   have bu:=Nat.le_trans bu aK.size;refine OY [7]$ qO 7$ M1 (i:=7) O O (MY XW O O O aR (by simp)) ?_;rintro w7 ⟨bJ,aC⟩;refine⟨trivial,?_⟩;refine qE ?_;replace bJ:Lq w7 bw [ptr wb 0] 133:=bJ
   have j5:wb≠bw:=by
    intro e;have h5:=aI;rw[e] at h5;obtain⟨fz,h5,-⟩:=h5;obtain⟨fz6,h6,-⟩:=aR;rw[h5] at h6;cases h6
   have jv:=aC.Lg aI j5;exact(cD _ _ ⟨wb,bw,rfl,jv,bJ,aj.It aC (λj e=>by omega),s6,y6,j5⟩).qb
  ·refine Ms (i:=6) O O O (NJ (cs:=[_]) XW O) ?_;rintro _ w6 ⟨bw,rfl,Dr,aK,aR⟩;refine⟨aj.trans aK,?_⟩;have aj:=aj.trans aK
   try have aI:=aK.Lg aI
   have y6:w2.heap.size<=bw:=by omega
   have bu:=Nat.le_trans bu aK.size;refine N4 (i:=5) (by kernel_rfl)$ Ms (i:=5) O O O (Nc O (cs:=[ptr Q.s 0,I (st:Int),I (len:Int),.slice none 0 0,I 0,I 0,U c0,.nilFunc,.bool false]) O) ?_;rintro _ w5 ⟨wb,rfl,nj,aX,aI⟩;refine⟨aj.trans aX,?_⟩;have aj:=aj.trans aX
   try have aR:=aX.Lg aR
   have s6:w2.heap.size<=wb:=by omega
   have bu:=Nat.le_trans bu aX.size;refine OY [7]$ qO 7$ M1 (i:=7) O O (MY XW O O O aR (by simp)) ?_;rintro w7 ⟨bJ,aC⟩;refine⟨trivial,?_⟩;refine qE ?_;replace bJ:Lq w7 bw [ptr wb 0] 133:=bJ
   have j5:wb≠bw:=by
    intro e;have h5:=aI;rw[e] at h5;obtain⟨fz,h5,-⟩:=h5;obtain⟨fz6,h6,-⟩:=aR;rw[h5] at h6;cases h6
   have jv:=aC.Lg aI j5;exact(cD _ _ ⟨wb,bw,rfl,jv,bJ,aj.It aC (λj e=>by omega),s6,y6,j5⟩).qb
 ·refine Ms (i:=6) O O O (NJ (cs:=[_]) XW O) ?_;rintro _ w6 ⟨bw,rfl,Dr,aK,aR⟩;refine⟨aj.trans aK,?_⟩;have aj:=aj.trans aK
  try have aI:=aK.Lg aI
  have y6:w2.heap.size<=bw:=by omega
  have bu:=Nat.le_trans bu aK.size;refine N4 (i:=3) (by kernel_rfl)$ ND (i:=3) O O O (yc (args:=[.const (Value.string (⟨#[]⟩))]) zaZ O) (z3l [] _ (by simp)) ?_;rintro _ w3 ⟨rfl,ah⟩;refine⟨aj.trans ah,?_⟩;rw[sX];have aj:=aj.trans ah
  try have aR:=ah.Lg aR
  have bu:=Nat.le_trans bu ah.size;refine qL [5,7] 4 O (λ_ h=>O6 (cs:=[_,_,_,_,_,_,_,_,_]) z96 O z9W O O) aj$ N4 (i:=5) (by kernel_rfl)$ Ms (i:=5) O O O (Nc O (cs:=[ptr Q.s 0,I (st:Int),I (len:Int),.slice none 0 0,I 0,I 0,U c0,.nilFunc,.bool false]) O) ?_;rintro _ w5 ⟨wb,rfl,nj,aX,aI⟩;refine⟨aj.trans aX,?_⟩;have aj:=aj.trans aX
  try have aR:=aX.Lg aR
  have s6:w2.heap.size<=wb:=by omega
  have bu:=Nat.le_trans bu aX.size;refine OY [7]$ qO 7$ M1 (i:=7) O O (MY XW O O O aR (by simp)) ?_;rintro w7 ⟨bJ,aC⟩;refine⟨trivial,?_⟩;refine qE ?_;replace bJ:Lq w7 bw [ptr wb 0] 133:=bJ
  have j5:wb≠bw:=by
   intro e;have h5:=aI;rw[e] at h5;obtain⟨fz,h5,-⟩:=h5;obtain⟨fz6,h6,-⟩:=aR;rw[h5] at h6;cases h6
  have jv:=aC.Lg aI j5;exact(cD _ _ ⟨wb,bw,rfl,jv,bJ,aj.It aC (λj e=>by omega),s6,y6,j5⟩).qb
end
section
variable {w w':World}{Q:NI}{txt:Int->Bytes}{K:Nat}{X S':Nat->Prop}{st len wb bs bx bw at' n sum:Nat}{rest:Value}{T:Bytes}
theorem z5p (T:Bytes)(k:Nat):((T.drop (512*k)).map P9).drop 512=(T.drop (512*(k+1))).map P9:=by
 rw[<-List.map_drop,List.drop_drop]
 congr 2
def SwI (Q:NI)(txt:Int->Bytes)(K:Nat)(X:Nat->Prop)(st len wb bs bx bw:Nat)(T:Bytes)(sum:Nat)(w:World)(k:Nat)(w':World):Prop:=
 ∃txt' rest,Sp Q txt' (K+k) (λb=>X b\/rest.ownBlock=some b) w'/\Zb Q.s st len wb bs bx bw rest k T.length sum w'/\Sl w' rest 5 1 (T.length-512*k) ((T.drop (512*k)).map P9)/\(∀j,j<k->txt' ((st+j:Nat):Int)=(T.drop (512*j)).take 512)/\(∀y:Int,y<(st:Int)\/(st:Int)+(k:Int)<=y->txt' y=txt y)/\Kp (λb=>¬X b\/b=wb) w w'/\(∀b,rest.ownBlock=some b->w.heap.size<=b)
theorem z0x (hP:Sp Q txt K X w)(hX:∀b,X b->b<w.heap.size)(hK:K<=100000000000)(h:Zb Q.s st len wb bs bx bw (.slice none 0 0) 0 0 sum w)(gB:sum<4294967296)(aT:X wb/\X bs/\X bx/\X bw)(ct:st+len<=Q.L.length)(h1:1<=len)(hT:T.length<=len*512-12):
  LP Tryz.prog 59 [ptr wb 0,S T] w λv w'=>v=I 0/\∃sum',sum'<4294967296/\SwI Q txt K X st len wb bs bx bw T sum' w (T.length / 512) w':=by
 have ev:maxLen=9223372036854775807:=rfl
 have eu:=hP.n
 refine Lb (e:=[(0,_),(1,_)]) Tryz.func59 O Tryz.ntmps59 O O$ qN O$ Lk O$ run_seq$ qN O$ Le O$ LD zdg O (Ty h.wr) ?_
 rintro _ w ⟨rfl,rfl⟩
 refine Lw O$ qM O$ Le O$ Mu O O$ Lf$ An O$ py$ run_seq$ qN O$ Le O$ qV (RK U9 O)$ Le O$ LD zev O (Zy hP (by omega) (by omega) h.wr) ?_
 rintro _ w1 ⟨rfl,ad⟩
 have jo:=hP.ext' ad
 have dU:=h.ext ad
 have ai:=dU.cells
 refine MH O O$ M5$ Lf$ An O$ py$ qN O$ Le O$ LU O$ Lt VT O$ qV (Lj U3 O O ai O)$ Le O$ qV (RK U9 O)$ Mb O O$ LU O ?_
 refine Lt VT O ?_
 rw[show((0:Nat):Int)+(T.length:Int)=(T.length:Int) by omega]
 refine Ls O (MY Md O O O ai (by simp)) ?_
 rintro w2 ⟨am,ao⟩
 have cW:=dU.re ao (show Lq w2 wb (swC Q.s st len (.slice none 0 0) 0 T.length sum (W9 bs bx bw) false) 200 from am)
 have eZ:=jo.own ao (λb e=>by rw[e];exact aT.1)
 have ez:=cW.cells
 refine qM O$ Lu O O$ LU O$ Lt Yt O$ qV (Lj Mx O O ez O)$ Le O$ LD zec O (z6R sum T _ gB (by omega)) ?_
 rintro _ w3 ⟨rfl,ah⟩
 have qQ:=Sums.z99 T gB
 obtain⟨sum3,iu⟩:∃sum3,Sums.on sum T=sum3:=⟨_,rfl⟩
 rw[iu] at qQ⊢
 have ob:=cW.ext ah
 have aq:=ob.cells
 refine LU O$ Lt Yt O$ Ls O (MY Lz O O O aq (by simp)) ?_
 rintro w4 ⟨aF,av⟩
 have mb:=ob.re av (show Lq w4 wb (swC Q.s st len (.slice none 0 0) 0 T.length sum3 (W9 bs bx bw) false) 200 from aF)
 have jG:=(eZ.ext' ah).own av (λb e=>by rw[e];exact aT.1)
 have er:=mb.cells
 refine Lf$ LS.qb (e:=[(0,_),(1,_),(4,_)]) ?_
 refine qN O$ Lu O O$ LU O$ Lt OB O$ qV (Lj Mz O O er O)$ Le O$ Lm O O (zbF Mz U9 Tq O O (Sl.nil w4 _ 1) (by omega)) ?_
 rintro v5 w5 ⟨fD,ak,oW⟩
 simp only[List.nil_append,Nat.zero_add] at fD
 replace ak:Ext w4 w5:=ak.Lv (λb e=>by cases e)
 have sY:∀b,v5.ownBlock=some b->w4.heap.size<=b:=λb e=>(oW b e).elim (λe=>by cases e) id
 obtain⟨a5,c5,rfl,-⟩:=fD.rd.shape
 have o5:=mb.ext ak
 have aI:=o5.cells
 have bK:Kp (λb=>¬X b\/b=wb) w w5:=(((ad.kp.trans (ao.Lv λb e=> .inr e)).trans ah.kp).trans (av.Lv λb e=> .inr e)).trans ak.kp
 have z4:w.heap.size<=w4.heap.size:=by have:=ad.size;have:=ao.size;have:=ah.size;have:=av.size;omega
 have lwb:=aI.lt
 have lwb0:=hX _ aT.1
 refine LU O$ Lt OB O$ Ls O (MY SV O O O aI (by simp)) ?_
 rintro w6 ⟨aR,aU⟩
 have CU:=o5.re aU (show Lq w6 wb (swC Q.s st len (.slice a5 T.length c5) 0 T.length sum3 (W9 bs bx bw) false) 200 from aR)
 have pV:Sp Q txt K (λb=>X b\/(Value.slice a5 T.length c5).ownBlock=some b) w6:=(jG.ext ak (λb e=>e.imp id (sY b))).own aU (λb e=> .inl (by rw[e];exact aT.1))
 have eK:=fD.kp aU (λb hb e=>by have:=sY b hb;omega)
 have mu:=CU.cells
 have ie:=bK.trans (aU.Lv λb e=>Or.inr e)
 refine qM O$ Le O$ LU O$ Lt SE O$ Lt QN O$ qV (Lj SJ O O mu O)$ LD z0i O (pV.size) ?_
 rintro _ w6 ⟨rfl,rfl⟩
 refine Lk O$ run_seq$ Lc$ Nj (α:=Nat) (0) (λk=>[(0,ptr wb 0),(6,I 512)]) (λk w'=>k<=T.length / 512/\SwI Q txt K X st len wb bs bx bw T sum3 w k w') (λk=>T.length / 512-k) ?hI ?hround
 case hI=>exact⟨Nat.zero_le _,txt,_,pV,CU,eK,λj hj=>by omega,λy hy=>rfl,ie,λb hb=>by have:=sY b hb;omega⟩
 case hround=>
  rintro k w8 ⟨hk,txt1,rest,ol,vw,eJ,iD,zL,bB,kw⟩ ih;obtain⟨a8,c8,rfl,-⟩:=eJ.rd.shape;have cu:=vw.cells;have EM:=bB.size
  try dsimp only
  refine run_seq$ qN O$ Le O$ LU O$ Lt OB O$ qV (Lj Mz O O cu O)$ Nd Mz O$ Le O$ Pa O O$ Lf$ Lp O (λh0=>?_)$ λh0=>?_
  ·have J1:512*k+512<=T.length:=by omega
   rcases eJ.shape with⟨e,pE⟩|⟨gb,cc,e,D8⟩
   ·omega
   cases e;have Ie:=kw gb O;have hg:=Ext.LC w8;have eH:((T.drop (512*k)).take 512).length=512:=by rw[List.length_take,List.length_drop];omega
   have Dt:Rd w8 (.slice (some ⟨gb,0,none⟩) 512 c8) 1 ((T.drop (512*k)).take 512).length (((T.drop (512*k)).take 512).map P9):=by
    rw[eH,List.map_take];exact P6 eJ.rd (by omega)
   have J2:∀b,(X b\/(Value.slice (some ⟨gb,0,none⟩) (T.length-512*k) c8).ownBlock=some b)->b<w8.heap.size:=λb hb=>by
    rcases hb with e| e
    ·have:=hX b e;omega
    ·exact eJ.lt e
   refine py$ Lc$ run_seq$ run_seq$ LH [11,12] (λw'=>Ext w8 w') (by kernel_rfl) O$ qL [1,2,3,11,12] 0 O (λ_ h=>M0 O) hg$ qL [2,3,11,12] 1 O (λ_ h=>Mo O) hg$ qL [3,11,12] 2 O (λ_ h=>LV W1 O) hg$ qL [11,12] 3 O (λ_ h=>Lj U58 O O (h.Lg cu) O) hg$ qL [5,6,7,9,10,11,12] 4 O (λ_ h=>M0 O) hg$ qL [6,7,9,10,11,12] 5 O (λ_ h=>Mo O) hg$ qL [7,9,10,11,12] 6 O (λ_ h=>LV OB O) hg$ qL [9,10,11,12] 7 O (λ_ h=>Lj Mz O O (h.Lg cu) O) hg$ qL [9,10,11,12] 8 O (λ_ h=>M0 O) hg ?_;refine qL [10,11,12] 9 O (λ_ h=>z7c Mz Tq O O (by omega)) hg$ qL [11,12] 10 O (λ_ hS=>zai (l:=(T.drop (512*k)).take 512) Mz U5 U9 O (Dt.ext hS) (by omega)) hg$ OY [11]$ qO 11$ RT (i:=11) O O O (NW za4 O O) (UF (ol.ext' hg) (λb hb=>by have:=J2 b hb;have:=hg.size;omega) (by omega) (vw.ext hg) ⟨.inl aT.1,.inl aT.2.1,.inl aT.2.2.1,.inl aT.2.2.2⟩ (by omega) ((T.drop (512*k)).take 512) eH) ?_;rintro _ w9 ⟨rfl,ug,zI,aP⟩;refine⟨trivial,?_⟩;refine Ll 12 O (Ni O) trivial$ qE$ qN O$ Le O$ Mu O O ?_;have cM:=zI.cells;have sZ:=hg.kp.trans aP
   have uC:=eJ.kp sZ (λb hb e=>by
    rcases e with e| e
    ·exact e (.inr hb)
    ·have e1:gb=b:=ML hb
     omega)
   have EN:=sZ.size;refine Lf$ An O$ py$ Li O$ Lu O O$ LU O$ Lt OB O$ qV (Lj Mz O O cM O)$ Le O$ qV (T7 Mz Tq O O (by omega) (by omega))$ Lm O O (pap Mz Tq O (by decide) O O (Sl.nil w9 _ 1) (Of (i:=512) uC.rd (by omega) (by omega)) (λc hc=>by obtain⟨z,-,rfl⟩:=List.mem_map.1 (List.mem_of_mem_drop hc);rfl) (by omega) (by omega)) ?_;rintro v10 w10 ⟨bh,ar,ba,-⟩;rw[List.nil_append,z5p,Nat.zero_add,show T.length-512*k-512=T.length-512*(k+1) by omega] at bh;replace ar:Ext w9 w10:=ar.Lv (λb e=>by cases e);have nF:∀b,v10.ownBlock=some b->w9.heap.size<=b:=λb e=>(ba b e).elim (λe=>by cases e) id;obtain⟨a10,c10,rfl,-⟩:=bh.rd.shape;have y7:=zI.ext ar;have dc:=y7.cells;refine LU O$ Lt OB O$ Ls O (MY SV O O O dc (by simp)) ?_;rintro w11 ⟨aH,bA⟩;have Du:=y7.re bA (show Lq w11 wb (swC Q.s st len (.slice a10 (T.length-512*(k+1)) c10) (k+1) T.length sum3 (W9 bs bx bw) false) 200 from aH);have Dv:Sp Q (UI txt1 ((st+k:Nat):Int) (some ((T.drop (512*k)).take 512))) (K+k+1) (λb=>X b\/(Value.slice a10 (T.length-512*(k+1)) c10).ownBlock=some b) w11:=(ug.ext ar (λb e=>e.elim (λe=> .inl (.inl e)) (λe=> .inr (nF b e)))).own bA (λb e=> .inl (by rw[e];exact aT.1));have jz:=bh.kp bA (λb hb e=>by have:=nF b hb;omega);refine Lf$ Ld ((ih (k+1) w11 ⟨by omega,_,_,Dv,Du,jz,λj hj=>?_,λy hy=>?_,?_,λb hb=>by have:=nF b hb;omega⟩ (by omega)).qb)
   ·by_cases e:j=k
    ·subst e;exact NU _ _ _
    ·rw[Nn _ _ (by omega)];exact iD j (by omega)
   ·rw[Nn _ _ (by omega)];exact zL y (by omega)
   ·refine(bB.It sZ λb e=>?_).trans (ar.kp.trans (bA.Lv λb e=> .inr e));rcases e with e| e
    ·by_cases hb:X b
     ·exact absurd (.inl hb) e
     ·exact .inr (.inl hb)
    ·exact .inr (.inr e)
  ·have J3:k=T.length / 512:=by omega
   subst J3;refine Ln O$ qN O$ Lk O$ Lh Tryz.func59 O ?_;exact⟨_,rfl,rfl,sum3,qQ,txt1,_,ol,vw,eJ,iD,zL,bB,kw⟩
end
section
variable {w w':World}{Q:NI}{txt:Int->Bytes}{K:Nat}{X S':Nat->Prop}{st len wb bs bx bw at' n sum:Nat}{rest:Value}{T:Bytes}
def SQ (n sum:Nat):Bytes:=QU 8 n++QU 4 sum
theorem Yi (n sum:Nat):(SQ n sum).length=12:=by simp[SQ,Mi]
theorem z0c (hP:Sp Q txt K (λb=>X b\/rest.ownBlock=some b) w)(hX:∀b,X b->b<w.heap.size)(hK:K<=200000000000)(h:Zb Q.s st len wb bs bx bw rest (T.length / 512) T.length sum w)(gB:sum<4294967296)(aT:X wb/\X bs/\X bx/\X bw)(ct:st+len<=Q.L.length)(aD:len=(T.length+523) / 512)
  (hS:Sl w rest 5 1 (T.length%512) ((T.drop (512*(T.length / 512))).map P9)) (bN:∀b,rest.ownBlock=some b->¬X b) (iD:∀j,j<T.length / 512->txt ((st+j:Nat):Int)=(T.drop (512*j)).take 512):
  LP Tryz.prog 60 [ptr wb 0] w λv w'=>v=I 0/\∃txt',Sp Q txt' (K+2) X w'/\(∀j,512*j<T.length->∃z,txt' ((st+j:Nat):Int)=(T.drop (512*j)).take 512++z)/\(∃z,txt' ((st+(len-1):Nat):Int)=z++SQ T.length sum/\z.length=500)/\(∀y:Int,y<(st:Int)\/(st:Int)+(len:Int)<=y->txt' y=txt y)/\Kp (λb=>¬X b\/b=wb) w w':=by
 have ev:maxLen=9223372036854775807:=rfl
 have eu:=hP.n
 obtain⟨a0,c0,rfl,-⟩:=hS.rd.shape
 have hB:=h.cells
 have J4:∀b,(Value.slice a0 (T.length%512) c0).ownBlock=some b->b<w.heap.size:=λb hb=>hS.lt hb
 have hg:=Ext.LC w
 refine Lb (e:=[(0,_)]) Tryz.func60 O Tryz.ntmps60 O O$ qN O$ Lk O$ run_seq$ qN O$ Le O$ LD zdg O (Ty h.wr) ?_
 rintro _ w ⟨rfl,rfl⟩
 refine Lw O$ qM O$ Le O$ Mu O O$ Lf$ An O$ py$ qN O$ Le O$ LU O$ Lt SE O$ Lt QN O$ qV (Lj SJ O O hB O)$ LD z0i O (hP.size) ?_
 rintro _ w ⟨rfl,rfl⟩
 refine Lk O$ run_seq$ run_seq$ M6 (λe' w'=>∃q,e'=[(0,ptr wb 0),(4,I 512),(38,.bool q)]/\(q=true↔T.length / 512<len-1)/\Ext w w') ?e8$ λe8=>?eS
 case e8=>
  rintro e' w1 ⟨q,rfl,hq,ad⟩;have jo:=hP.ext' ad;have h1:=h.ext ad;have iE:=hS.ext ad;have ai:=h1.cells;have m5:=ad.size;refine M6 (λe' w'=>e'=[(0,ptr wb 0),(4,I 512)]/\∃txt1 rest1 at1 l,Sp Q txt1 (K+1) (λb=>X b\/rest1.ownBlock=some b) w'/\Zb Q.s st len wb bs bx bw rest1 at1 T.length sum w'/\Sl w' rest1 5 1 l.length (l.map P9)/\l.length<=500/\(∀b,rest1.ownBlock=some b->¬X b)/\l=T.drop (512*(len-1))/\(∀j,j<len-1->512*j<T.length->∃z,txt1 ((st+j:Nat):Int)=(T.drop (512*j)).take 512++z)/\(∀y:Int,y<(st:Int)\/(st:Int)+(len:Int)<=y->txt1 y=txt y)/\Kp (λb=>¬X b\/b=wb) w w') ?au$ λau=>?dz
  case au=>
   rintro e' w2 ⟨rfl,txt1,rest1,at1,l,eZ,h2,cG,EY,fC,hl,Dw,Dx,ao⟩;obtain⟨a2,c2,rfl,-⟩:=cG.rd.shape;have am:=h2.cells;have aa:=Ext.LC w2;have m8:=ao.size;refine run_seq$ N7 (λw'=>Kp (λb=>(Value.slice a2 l.length c2).ownBlock=some b) w2 w') O$ LA 0 O O (aa.kp)$ Ll 1 O (Mo O) (aa.kp)$ Ll 2 O (LV OB O) (aa.kp)$ qT 3 O (λ_ h=>Lj Mz O O (h.Lg am (λe=>fC _ e aT.1)) O) (aa.kp)$ LA 4 O O (aa.kp)$ Ll 5 O (SR O O (by omega)) (aa.kp)$ LA 6 O O (aa.kp)$ Ll 7 O (Mo O) (aa.kp)$ Ll 8 O (LV OB O) (aa.kp)$ qT 9 O (λ_ h=>Lj Mz O O (h.Lg am (λe=>fC _ e aT.1)) O) (aa.kp)$ Ll 10 O (Ol Mz O) (aa.kp)$ Ll 11 O (SR O O (by omega)) (aa.kp) ?_;rw[show(512:Int)-12-(l.length:Int)=((500-l.length:Nat):Int) by omega];refine qO 12$ NY (i:=12) O O O (zdQ Mz U3 U9 Tq O O (cG.ext aa) (by omega)) ?_;rintro v3 w3 ⟨cC,ax,md⟩;refine⟨aa.kp.trans ax,?_⟩;have y8:l.length+(500-l.length)=500:=by omega
   rw[y8,<-List.map_append] at cC;obtain⟨a3,c3,rfl,-⟩:=cC.rd.shape;have dH:=aa.kp.trans ax
   have eR:∀b,(Value.slice a3 500 c3).ownBlock=some b->¬X b:=λb hb e=>by
    rcases md b hb with e2|e2
    ·exact fC b e2 e
    ·have:=hX b e;have:=aa.size;omega
   have gu:Sp Q txt1 (K+1) (λb=>X b\/(Value.slice a3 500 c3).ownBlock=some b) w3:=eZ.step dH (λb e=> .inr e) (λb e=>e.elim (λe=> .inl (.inl e)) (λe=>(md b e).imp .inr (λe=>by have:=aa.size;omega)));have h3:=h2.kp dH (λe=>fC _ e aT.1) (λe=>fC _ e aT.2.1) (λe=>fC _ e aT.2.2.1) (λe=>fC _ e aT.2.2.2);have aq:=h3.cells;have cA:Kp (λb=>¬X b\/b=wb) w w3:=ao.It dH (λb e=> .inr (.inl (fC b e)));refine Ll 13 O (Ni O) (aa.kp.trans ax)$ qE$ qN O$ Lu O O$ LU O$ Lt SE O$ Lt PJ O$ Lt N2 O$ qV (Lj U3 O O aq O)$ Np O O$ LU O$ Lt Tz O ?_;rw[show(len:Int)-1=((len-1:Nat):Int) by omega];refine Ls O (MY Md O O O aq (by simp)) ?_;rintro w4 ⟨aF,av⟩;have h4:=h3.re av (show Lq w4 wb (swC Q.s st len (.slice a2 l.length c2) (len-1) T.length sum (W9 bs bx bw) false) 200 from aF);have jG:=gu.own av (λb e=> .inl (by rw[e];exact aT.1));have dT:=cC.kp av (λb hb e=>eR b hb (by rw[e];exact aT.1));have er:=h4.cells;have af:=Ext.LC w4;have jX:=cA.trans (av.Lv λb e=>Or.inr e);have ja:=Mi 8 T.length;have gn:=Mi 4 sum;have t8:(l++zeros (500-l.length)).length=500:=by rw[List.length_append,show(zeros (500-l.length)).length=500-l.length by simp[zeros]];omega
   rw[List.length_append] at t8;refine Lf$ LS.qb (e:=[(0,_),(6,_)]) ?_;refine run_seq$ LH [20,21] (λw'=>Ext w4 w') (by kernel_rfl) O$ qL [1,2,3,20,21] 0 O (λ_ h=>M0 O) af$ qL [2,3,20,21] 1 O (λ_ h=>Mo O) af$ qL [3,20,21] 2 O (λ_ h=>LV W1 O) af$ qL [20,21] 3 O (λ_ h=>Lj U58 O O (h.Lg er) O) af$ qL [5,12,19,20,21] 4 O (λ_ h=>M0 O) af$ qL [7,8,9,10,11,12,18,19,20,21] 6 O (λ_ h=>M0 O) af$ qL [8,9,10,11,12,18,19,20,21] 7 O (λ_ h=>Mo O) af$ qL [9,10,11,12,18,19,20,21] 8 O (λ_ h=>LV VT O) af$ qL [10,11,12,18,19,20,21] 9 O (λ_ h=>Lj U3 O O (h.Lg er) O) af$ qL [11,12,18,19,20,21] 10 O (λ_ h=>(by first|exact Mc O U3 MP (by omega)|exact Ny O U3 MP)) af ?_;refine qL [14,15,16,17,18,19,20,21] 13 O (λ_ h=>M0 O) af$ qL [15,16,17,18,19,20,21] 14 O (λ_ h=>Mo O) af$ qL [16,17,18,19,20,21] 15 O (λ_ h=>LV Yt O) af$ qL [17,18,19,20,21] 16 O (λ_ h=>Lj Mx O O (h.Lg er) O) af$ qL [18,19,20,21] 17 O (λ_ h=>Mc O Mx MP (by omega)) af$ qL [12,19,20,21] 5 O (λ_ h=>zai (l:=l++zeros (500-l.length)) Mz U5 U9 O (by rw[List.length_append,t8];exact dT.rd.ext h) (by rw[List.length_append];omega)) af ?_;refine N4 (i:=11) (by kernel_rfl)$ ND (i:=11) O O O (yc zcs O) (Vn T.length 8 _ (by omega) (by omega)) ?_;rintro _ w5 ⟨rfl,aX⟩;refine⟨af.trans aX,?_⟩;refine qL [19,20,21] 12 O (λ_ h=>Ua O O (by first|omega|(simp;done)|(simp;omega))) (af.trans aX) ?_;refine N4 (i:=18) (by kernel_rfl)$ ND (i:=18) O O O (yc zcs O) (Vn sum 4 _ (by omega) (by omega)) ?_;rintro _ w6 ⟨rfl,aK⟩;refine⟨(af.trans aX).trans aK,?_⟩;have cO:=(af.trans aX).trans aK
   have ki:∀b,(X b\/(Value.slice a3 500 c3).ownBlock=some b)->b<w6.heap.size:=λb hb=>by
    have:=cO.size;have:=av.size;have:=dH.size;rcases hb with e| e
    ·have:=hX b e;omega
    ·have:=cC.lt e;omega
   refine qL [20,21] 19 O (λ_ h=>Ua O O (by first|omega|(simp;done)|(simp;omega))) ((af.trans aX).trans aK) ?_;refine OY [20] ?_;have lz:(l++zeros (500-l.length)++QU 8 T.length++QU 4 sum).length=512:=by rw[List.length_append,List.length_append,List.length_append,t8,Mi,Mi]
   refine qO 20$ RT (i:=20) O O O (NW za4 O O) (UF (jG.ext' cO) ki (by omega) (h4.ext cO) ⟨.inl aT.1,.inl aT.2.1,.inl aT.2.2.1,.inl aT.2.2.2⟩ (by omega) _ lz) ?_;rintro _ w7 ⟨rfl,y9,h7,aC⟩;refine⟨trivial,?_⟩;have bJ:=h7.cells;refine Ll 21 O (Ni O) trivial$ qE$ qN O$ Le O$ LU O$ Lt TW O$ Ls O (MY Rz O O O bJ (by simp)) ?_;rintro w8 ⟨cu,bB⟩;have ol:=(y9.own bB (λb e=> .inl (by rw[e];exact aT.1))).less (Y:=X) (λb e=> .inl e);refine Lf$ LS.qb (e:=[(7,_)]) ?_;refine qN O$ Le O$ Lk O$ Lh Tryz.func60 O (⟨_,rfl,rfl,_,ol,λj hj=>?_,⟨l++zeros (500-l.length),?_,by rw[List.length_append,t8]⟩,λy hy=>?_,?_⟩)
   ·by_cases e:j=len-1
    ·subst e;refine⟨zeros (500-l.length)++QU 8 T.length++QU 4 sum,?_⟩;rw[NU];show l++_++_++_=_;rw[<-hl,List.take_of_length_le (by omega)];simp only[List.append_assoc]
    ·obtain⟨z,hz⟩:=Dw j (by omega) hj;exact⟨z,by rw[Nn _ _ (by omega)];exact hz⟩
   ·rw[NU];show _++_++_=_;unfold SQ;simp only[List.append_assoc]
   ·rw[Nn _ _ (by omega)];exact Dx y hy
   ·refine((jX.trans cO.kp).It aC λb e=>?_).trans (bB.Lv λb e=> .inr e);rcases e with e| e
    ·by_cases hb:X b
     ·exact absurd (.inl hb) e
     ·exact .inr (.inl hb)
    ·exact .inr (.inr e)
  case dz=>
   refine Mg O (λeC=>?_)$ λeC=>?_
   ·have wu:=hq.1 eC;have hr:500<T.length%512/\T.length / 512=len-2/\2<=len:=by omega
    have aJ:=Ext.LC w1;refine run_seq$ run_seq$ LH [17,18] (λw'=>Kp (λb=>(Value.slice a0 (T.length%512) c0).ownBlock=some b) w1 w') (by kernel_rfl) O$ qL [1,2,3,17,18] 0 O (λ_ h=>M0 O) (aJ.kp)$ qL [2,3,17,18] 1 O (λ_ h=>Mo O) (aJ.kp)$ qL [3,17,18] 2 O (λ_ h=>LV W1 O) (aJ.kp)$ qL [17,18] 3 O (λ_ h=>Lj U58 O O (h.Lg ai (λe=>bN _ e aT.1)) O) (aJ.kp)$ qL [5,6,7,15,16,17,18] 4 O (λ_ h=>M0 O) (aJ.kp)$ qL [6,7,15,16,17,18] 5 O (λ_ h=>Mo O) (aJ.kp)$ qL [7,15,16,17,18] 6 O (λ_ h=>LV OB O) (aJ.kp)$ qL [15,16,17,18] 7 O (λ_ h=>Lj Mz O O (h.Lg ai (λe=>bN _ e aT.1)) O) (aJ.kp)$ qL [14,15,16,17,18] 8 O (λ_ h=>M0 O) (aJ.kp)$ qL [10,11,12,13,14,15,16,17,18] 9 O (λ_ h=>M0 O) (aJ.kp)$ qL [11,12,13,14,15,16,17,18] 10 O (λ_ h=>Mo O) (aJ.kp) ?_;refine qL [12,13,14,15,16,17,18] 11 O (λ_ h=>LV OB O) (aJ.kp)$ qL [13,14,15,16,17,18] 12 O (λ_ h=>Lj Mz O O (h.Lg ai (λe=>bN _ e aT.1)) O) (aJ.kp)$ qL [14,15,16,17,18] 13 O (λ_ h=>Ol Mz O) (aJ.kp)$ qL [15,16,17,18] 14 O (λ_ h=>SR O O (by omega)) (aJ.kp) ?_;rw[show(512:Int)-((T.length%512:Nat):Int)=((512-T.length%512:Nat):Int) by omega];refine N4 (i:=15) (by kernel_rfl)$ Ms (i:=15) O O O (zdQ Mz U3 U9 Tq O O (iE.ext aJ) (by omega)) ?_;rintro v2 w2 ⟨cG,ao,rg⟩;refine⟨aJ.kp.trans ao,?_⟩;rw[show T.length%512+(512-T.length%512)=512 by omega,<-List.map_append] at cG;have t8:(T.drop (512*(T.length / 512))++zeros (512-T.length%512)).length=512:=by rw[List.length_append,List.length_drop,show(zeros (512-T.length%512)).length=512-T.length%512 by simp[zeros]];omega
    refine N4 (i:=16) (by kernel_rfl)$ z98 (i:=16) O O O (zai (l:=T.drop (512*(T.length / 512))++zeros (512-T.length%512)) Mz U5 U9 O (by rw[t8];exact cG.rd) (by omega)) (aJ.kp.trans ao) ?_;have aS:=aJ.kp.trans ao;have eZ:Sp Q txt K X w2:=jo.step aS (λb e=> .inr e) (λb e=> .inl (.inl e));have h2:=h1.kp aS (λe=>bN _ e aT.1) (λe=>bN _ e aT.2.1) (λe=>bN _ e aT.2.2.1) (λe=>bN _ e aT.2.2.2);have m8:=aS.size;refine OY [17]$ qO 17$ RT (i:=17) O O O (NW za4 O O) (UF eZ (λb hb=>by have:=hX b hb;omega) (by omega) h2 aT (by omega) _ t8) ?_;rintro _ w3 ⟨rfl,gu,h3,ax⟩;refine⟨trivial,?_⟩;have aq:=h3.cells;refine Ll 18 O (Ni O) trivial$ qE$ qN O$ Le O$ Mu O O$ Lf$ An O$ py$ Li O$ Le O$ LU O$ Lt OB O$ Ls O (MY SV O O O aq (by simp)) ?_;rintro w4 ⟨aF,av⟩;have h4:=h3.re av (show Lq w4 wb (swC Q.s st len (.slice none 0 0) (T.length / 512+1) T.length sum (W9 bs bx bw) false) 200 from aF);have jG:=gu.own av (λb e=>by rw[e];exact aT.1);have km:(T.drop (512*(T.length / 512))).take 512=T.drop (512*(T.length / 512)):=List.take_of_length_le (by rw[List.length_drop];omega);refine Lf$ LS.qb (e:=[(0,_),(4,_)]) ?_;refine(au _ _ ⟨rfl,_,.slice none 0 0,_,[],jG.less (λb e=>e.elim id (λe=>by cases e)),h4,Sl.nil w4 _ 1,Nat.zero_le _,(λb e=>by cases e),(List.drop_of_length_le (by omega)).symm,λj hj ky=>?_,λy hy=>?_,?_⟩).qb
    ·by_cases e:j=T.length / 512
     ·subst e;exact⟨zeros (512-T.length%512),by rw[NU,km];rfl⟩
     ·exact⟨[],by rw[Nn _ _ (by omega),List.append_nil];exact iD j (by omega)⟩
    ·rw[Nn _ _ (by omega)]
    ·refine((ad.kp.It aS λb e=> .inr (.inl (bN b e))).trans ax).trans (av.Lv λb e=> .inr e)
   ·have wu:¬T.length / 512<len-1:=λe=>by rw[hq.2 e] at eC;cases eC
    have J5:T.length / 512=len-1:=by omega
    have dN:(T.drop (512*(T.length / 512))).length=T.length%512:=by rw[List.length_drop];omega
    refine py ((au _ _ ⟨rfl,txt,.slice a0 (T.length%512) c0,T.length / 512,T.drop (512*(T.length / 512)),jo.more (by omega),h1,by rw[dN];exact iE,by omega,bN,by rw[J5],λj hj ky=>⟨[],by rw[List.append_nil];exact iD j (by omega)⟩,λy hy=>rfl,ad.kp⟩).qb)
 case eS=>
  refine N7 (λw'=>Ext w w') O$ LA 0 O O (hg)$ Ll 1 O (Mo O) hg$ Ll 2 O (LV Tz O) hg$ qT 3 O (λ_ h=>Lj U3 O O (h.Lg hB) O) hg$ LA 4 O O (hg)$ Ll 5 O (Mo O) hg$ Ll 6 O (LV SE O) hg$ Ll 7 O (LV PJ O) hg$ Ll 8 O (LV N2 O) hg$ qT 9 O (λ_ h=>Lj U3 O O (h.Lg hB) O) hg$ Ll 10 O (SR O O (by omega)) hg ?_;rw[show(len:Int)-1=((len-1:Nat):Int) by omega];rcases Nat.lt_or_ge (T.length / 512) (len-1) with hq|hq
  ·refine Ll 11 O (Wr O O) hg$ Pu$ LA 12 O O (hg)$ LA 13 O O (hg)$ Ll 14 O (Mo O) hg$ Ll 15 O (LV OB O) hg$ qT 16 O (λ_ h=>Lj Mz O O (h.Lg hB) O) hg$ Ll 17 O (Ol Mz O) hg$ Ll 18 O (TN O O) hg$ Pu$ Ll 19 O (Qy O O) hg$ qE$ LS.qb (e:=[(0,_),(2,_),(4,_),(38,_)]) ?_;exact(e8 _ _ ⟨true,rfl,⟨λ_=>hq,λ_=>rfl⟩,hg⟩).qb
  ·refine Ll 11 O (Wr O O) hg$ PU$ LA 12 O O (hg)$ qJ 13 O (hg)$ qJ 14 O (hg)$ qJ 15 O (hg)$ qJ 16 O (hg)$ qJ 17 O (hg)$ qJ 18 O (hg)$ Ll 19 O (Qt O O) hg$ qE$ LS.qb (e:=[(0,_),(2,_),(4,_),(38,_)]) ?_;exact(e8 _ _ ⟨false,rfl,⟨λe=>(by cases e),λe=>by omega⟩,hg⟩).qb
end
end Go.Proofs.YtfgjaafcgghnoaaGreatDoor
namespace Go.Proofs.YtfgjaafcgghnoaaGreatDoor
open Go Go.RowKit Go.Shelf
def BdM (w:World)(b:Nat)(l:Bytes)(v:Value):Prop:=(∃p,(p= .pointer none\/p=ptr b 0)/\Lq w b [p,v] 177)/\Sl w v 5 1 l.length (l.map P9)/\v.ownBlock≠some b
section
variable {w w':World}{b:Nat}{l s:Bytes}{v:Value}{S':Nat->Prop}
theorem BdM.kp (h:BdM w b l v)(hk:Kp S' w w')(h1:¬S' b)(h2:∀g,v.ownBlock=some g->¬S' g):BdM w' b l v:=by
 obtain⟨⟨p,hp,hB⟩,hS,hn⟩:=h
 exact⟨⟨p,hp,hk.Lg hB h1⟩,hS.kp hk h2,hn⟩
theorem BdM.new (h:Lq w b [.pointer none,.slice none 0 0] 177):BdM w b [] (.slice none 0 0):=⟨⟨_,.inl O,h⟩,Sl.nil w _ 1,λe=>by cases e⟩
theorem Lq.shape {cs:List Value}{T:TypeId}(h:Lq w b cs T):w.shape? b=some (T,cs.length):=by
 obtain⟨fz,hb,-⟩:=h
 simp[World.shape?,hb]
theorem z7k (h:BdM w b l v):LP Tryz.prog 115 [ptr b 0] w λr w'=>r= .tuple #[]/\BdM w' b l v/\Kp (λk=>k=b) w w':=by
 obtain⟨⟨p,hp,hB⟩,hS,hn⟩:=h
 rcases hp with rfl|rfl
 ·refine Calls.mono (Any.Builder_copyCheck_fresh {zaI with} zaT.toX72 b w (hB.cell 0) hB.shape (hB.free (i:=0) (by simp))) λ_ _ ⟨he,hw⟩=>⟨_,he,rfl,?_,?_⟩
  ·rw[hw];have hk:=Pr w b 0 (ptr b 0);exact⟨⟨_,.inr O,S1 hB 0 (ptr b 0)⟩,hS.kp hk (λg hg e=>hn (e▸hg)),hn⟩
  ·rw[hw];exact Pr w b 0 _
 ·exact Calls.mono (Any.Builder_copyCheck_used {zaI with} zaT.toX72 b w (hB.cell 0)) λ_ _ ⟨he,hw⟩=>⟨_,he,rfl,by rw[hw];exact⟨⟨_,.inr O,hB⟩,hS,hn⟩,by rw[hw];exact Kp.refl _ _⟩
theorem z6O (h:BdM w b l v)(s:Bytes)(hl:l.length+s.length<=140737488355328):LP Tryz.prog 78 [ptr b 0,S s] w λ_ w'=>∃v',BdM w' b (l++s) v'/\Kp (λk=>k=b\/v.ownBlock=some k) w w'/\(∀g,v'.ownBlock=some g->v.ownBlock=some g\/w.heap.size<=g):=by
 refine Lb (e:=[(0,_),(1,_)]) Tryz.func78 O Tryz.ntmps78 O O$ qN O$ Lw O$ Lw O$ qM O$ Le O$ LD zcG O (z7k h) ?_
 rintro _ w1 ⟨rfl,⟨⟨p,hp,ai⟩,iE,cT⟩,aN⟩
 have m5:=aN.size
 have l1:=ai.lt
 refine qM O$ Lu O O$ LU O$ Lt VW O$ qV (Lj Mz O O ai O)$ Le O$ Lm O O (zbF Mz U9 Tq O O iE hl) ?_
 rintro v2 w2 ⟨cG,ao,pM⟩
 have am:=ao.Lg ai cT
 have m8:=ao.size
 have jc:v2.ownBlock≠some b:=λe=>by
  rcases pM b e with e| e
  ·exact cT e
  ·omega
 refine LU O$ Lt VW O$ Ls O (MY SV O O (Sw cG) am (by simp)) ?_
 rintro w3 ⟨aq,ax⟩
 refine qM O$ Le O$ qV (RK U9 O)$ Lw O$ Lk O$ Lh Tryz.func78 O ?_
 rw[<-List.length_append,<-List.map_append] at cG
 refine⟨_,rfl,v2,⟨⟨p,hp,aq⟩,cG.kp ax (λg hg e=>jc (e▸hg)),jc⟩,((aN.Lv λk e=> .inl e).trans (ao.Lv λk e=> .inr e)).trans (ax.Lv λk e=> .inl e),λg hg=>(pM g hg).imp id λe=>by omega⟩
theorem z4G (w:World)(a:Addr)(n:Nat):Kp (λk=>k=a.block) w (w.freeze a n):=by
 by_cases h0:n=0
 ·subst h0;rw[show w.freeze a 0=w by simp[World.freeze]];exact Kp.refl _ w
 ·unfold World.freeze;rw[if_neg h0]
  exact⟨rfl,rfl,rfl,by simp,λk _ hn=>by
   simp only[Array.getElem?_modify]
   rw[if_neg (λh=>hn h.symm)]⟩
section
variable {P:Program}{e:Env}{d:Option Nat}{ty t it el:TypeId}{pos:String}{aft:Array Edge}{g:Option (Nat×Bool)}{x y:Operand}{n c:Nat}{a:Option Addr}
theorem zfm (hx:look e x=some (.slice a n c))(hc:a≠none->c≠0):Y P e ⟨d,.call ⟨.builtin .unsafeSliceData,#[x],#[t]⟩,ty,pos,aft,g⟩ (.pointer a) w w:=fun ρ hρ=>by
 have hr:∀w,(Builtin.unsafeSliceData_ #[t] ty #[.slice a n c]).run P w= .ok (.pointer a) w:=λw=>by
  cases a with
  |none=>rfl
  |some a=>exact Lib.run_unsafeSliceData_row (P:=P) w #[t] ty a n c (hc (by simp))
 simp[execOp,resolve,invoke,builtin,hρ _ _ hx,hr]
theorem zf4 (hp:P.underlying t=some (.pointer el))(hc:P.cellsOf el=1)(hx:look e x=some (.pointer a))(hy:look e y=some (I (l.length:Int)))(hS:Sl w (.slice a l.length c) el 1 l.length (l.map P9))(Dp:l.length<=9223372036854775807)(h0:l=[]\/∃g,a=some ⟨g,0,none⟩):
  Yp P e ⟨d,.call ⟨.builtin .unsafeString,#[x,y],#[t,it]⟩,ty,pos,aft,g⟩ w λr w'=>r=S l/\Kp (λk=>(Value.slice a l.length c).ownBlock=some k) w w':=by
 by_cases hl:l=[]
 ·subst hl;have hr:=Lib.run_unsafeString_none (P:=P) w t it ty a;refine⟨_,w,fun ρ hρ=>?_,rfl,Kp.refl _ _⟩;have h1:=hρ _ _ hx;have h2:ρ y= .int .i64 0:=hρ _ _ hy;simp[execOp,resolve,invoke,builtin,h1,h2,hr]
  rfl
 ·obtain⟨b,rfl⟩:=h0.resolve_left hl;obtain⟨cur,jq,j8,mj,aD,js⟩:=hS.row;have aZ:=World.ownsRow.cells hS (g:=b) O;simp only[Nat.mul_one] at aD js
  have hr:=Lib.run_unsafeString_row (P:=P) w t it ty el hp hc b cur.length (by unfold Qz at jq;simp[World.shape?,jq]) l hl (by omega) Dp (λj x hj=>by
   have:=aZ j (P9 x) (by rw[List.getElem?_map,hj];rfl)
   exact this)
  refine⟨_,_,fun ρ hρ=>?_,rfl,(z4G w ⟨b,0,none⟩ l.length).Lv λk e=>by rw[show k=b from e];rfl⟩;simp[execOp,resolve,invoke,builtin,hρ _ _ hx,hρ _ _ hy,hr]
end
theorem z5u (h:BdM w b l v)(h0:l=[]->v= .slice none 0 0)(hl:l.length<=140737488355328):LP Tryz.prog 79 [ptr b 0] w λr w'=>r=S l/\Kp (λk=>v.ownBlock=some k) w w':=by
 obtain⟨⟨p,hp,hB⟩,hS,hn⟩:=h
 obtain⟨a,c,rfl,ha⟩:=hS.rd.shape
 have hg:=Ext.LC w
 have zx:l=[]\/∃g,a=some ⟨g,0,none⟩:=by
  rcases hS.shape with⟨e,h1⟩|⟨g,cap,e,h1⟩
  ·exact .inl (List.eq_nil_of_length_eq_zero h1)
  ·cases e;exact .inr ⟨g,rfl⟩
 have tL:a≠none->c≠0:=λe=>by
  by_cases rL:l=[]
  ·have:=h0 rL
   injection this with e1 _ _
   exact absurd e1 e
  ·have qG:l.length≠0:=by simpa using rL
   rcases hS.shape with⟨_,h1⟩|⟨g,cap,e2,h1⟩
   ·omega
   ·cases e2;omega
 refine Lb (e:=[(0,_)]) Tryz.func79 O Tryz.ntmps79 O O$ qN O$ Lk O$ run_seq$ LH [10,11] (λw'=>Ext w w') (by kernel_rfl) O$ qL [1,2,3,4,10,11] 0 O (λ_ h=>M0 O) hg$ qL [2,3,4,10,11] 1 O (λ_ h=>Mo O) hg$ qL [3,4,10,11] 2 O (λ_ h=>LV VW O) hg$ qL [4,10,11] 3 O (λ_ h=>Lj Mz O O (h.Lg hB) O) hg$ qL [6,7,8,9,10,11] 5 O (λ_ h=>M0 O) hg$ qL [7,8,9,10,11] 6 O (λ_ h=>Mo O) hg$ qL [8,9,10,11] 7 O (λ_ h=>LV VW O) hg$ qL [9,10,11] 8 O (λ_ h=>Lj Mz O O (h.Lg hB) O) hg$ qL [10,11] 9 O (λ_ h=>Ol Mz O) hg ?_
 refine qL [10,11] 4 O (λ_ h=>zfm O tL) hg$ OY [10]$ qO 10$ NY (i:=10) O O O (zf4 zfI (by kernel_rfl) O O (hS.ext hg) (by omega) zx) ?_
 rintro _ w1 ⟨rfl,aN⟩
 refine⟨trivial,?_⟩
 refine Ll 11 O (Ni O) trivial$ qE$ Lh Tryz.func79 O ?_
 exact⟨_,rfl,rfl,hg.kp.trans aN⟩
end
end Go.Proofs.YtfgjaafcgghnoaaGreatDoor
namespace Go.Proofs.YtfgjaafcgghnoaaGreatDoor
open Go Go.RowKit
def srC (s st len n sum:Nat):List Value:=[ptr s 0,I (st:Int),I (len:Int),I (n:Int),U sum]
section
variable {w w':World}{Q:NI}{txt:Int->Bytes}{K:Nat}{X S':Nat->Prop}{st len n sum rb:Nat}{T:Bytes}
theorem z1J (hP:Sp Q txt K X w)(hX:∀b,X b->b<w.heap.size)(hK:K<1000000000000)(h1:1<=len)(ct:st+len<=Q.L.length)(hn:n<=len*512-12)(gB:sum<4294967296)(hf:∃z,txt ((st+(len-1):Nat):Int)=z++SQ n sum/\z.length=500):
  LP Tryz.prog 61 [ptr Q.s 0,.agg #[I (st:Int),I (len:Int)]] w λv w'=>∃rb,v= .tuple #[ptr rb 0,I 0]/\Lq w' rb (srC Q.s st len n sum) 204/\w.heap.size<=rb/\Sp Q txt K (λb=>X b\/b=rb) w'/\Kp (λb=>¬X b) w w':=by
 have eu:=hP.n
 obtain⟨z,hz,ve⟩:=hf
 have lz:=Yi n sum
 refine Lb (e:=[(0,_),(1,_)]) Tryz.func61 O Tryz.ntmps61 O O$ qN O$ Lm O O (Nc O (cs:=[I (st:Int),I (len:Int)]) O) ?_
 rintro _ w1 ⟨bx,rfl,ft,ad,gt⟩
 refine Lw O$ Lw O$ qM O$ Le O$ qV (LM (news:=[I (st:Int),I (len:Int)]) S2 O MX O (gt.cells (n:=2) O) O)$ qV (O6 (cs:=[_,_,_]) RU O z9x O O)$ qV (O6 (cs:=[_,_,_,_,_]) zd3 O zdM O O)$ Lm O O (Nc O (cs:=[ptr Q.s 0,I (st:Int),I (len:Int),I 0,U 0]) O) ?_
 rintro _ w2 ⟨rb,rfl,ER,ag,am⟩
 have aG:=ad.trans ag
 have Dy:=ag.Lg gt
 have z1:=ad.size
 have z2:=ag.size
 have eZ:Sp Q txt K (λb=>X b\/b=rb) w2:=hP.ext aG (λb e=>e.imp id λe=>by omega)
 refine Lk O$ run_seq$ qN O$ Le O$ LU O$ Lt TR O$ qV (LM z6C O RU O (Lq.cells (n:=3) am (news:=[_,_,_]) O) O)$ LD zbm O (VA eZ h1 ct) ?_
 rintro _ w3 ⟨rfl,ah⟩
 have gu:=eZ.ext' ah
 have aq:=ah.Lg am
 have ya:=ah.Lg Dy
 have z3:=ah.size
 have l2:=am.lt
 have dV:=gu.read (λb hb=>by
  rcases hb with e| e
  ·have:=hX b e;omega
  ·omega) hK (no:=((st+(len-1):Nat):Int)) (by omega) (by omega)
 rw[hz] at dV
 refine Lw O$ qM O$ Le O$ Mu O O$ Lf$ An O$ py$ qN O$ Le O$ Lt MV O$ qV (Lj U3 O O ya O)$ Lt N2 O$ qV (Lj U3 O O ya O)$ Mb O O ?_
 refine Np O O ?_
 rw[show(st:Int)+(len:Int)-1=((st+(len-1):Nat):Int) by omega]
 refine LD z88 O (dV) ?_
 rintro _ w4 ⟨rfl,jG,av⟩
 have aF:=av.Lg aq (λe=>e (.inr O))
 refine Le O$ Mp O O$ Mp O O$ Lw O$ Lk O$ LS.qb (e:=[(4,_),(5,_),(6,_),(8,_),(9,_)]) ?_
 refine run_seq$ qN O$ Le O$ Mu O O$ Lf$ An O$ py$ qN O$ Lu O O$ qV (RK U9 O) ?_
 rw[show((z++SQ n sum).length:Int)=512 by rw[List.length_append,lz,ve];rfl]
 refine Np O O ?_
 rw[show(512:Int)-12=((500:Nat):Int) by omega]
 refine qV (Xg (m:=500) U9 O O (by rw[List.length_append,lz,ve];omega)) ?_
 rw[show(z++SQ n sum).drop 500=SQ n sum from List.drop_left' ve]
 refine Lw O$ qM O$ Le O$ qV (Zr (m:=8) U9 O O (by rw[lz];omega)) ?_
 rw[show(SQ n sum).take 8=QU 8 n from List.take_left' (Mi _ _)]
 have ri:valB (LF (QU 8 n))=n:=Yn (by omega)
 have Dz:valB (LF (QU 4 sum))=sum:=Yn (by omega)
 have ja:=Mi 8 n
 have gn:=Mi 4 sum
 refine LD zcD O (XQ (QU 8 n) (by omega) _) ?_
 rintro _ w5 ⟨rfl,aX⟩
 rw[ri]
 have aI:=aX.Lg aF
 have gS:=jG.ext' aX
 refine Lk O$ run_seq$ qN O$ Lu O O$ LU O$ Lt TR O$ qV (LM z6C O RU O (Lq.cells (n:=3) aI (news:=[_,_,_]) O) O)$ LD zbk O (Wj gS (by omega)) ?_
 rintro _ w6 ⟨rfl,aK⟩
 have aR:=aK.Lg aI
 have pV:=gS.ext' aK
 refine qV ((by first|exact Mc O U3 MP (by omega)|exact Ny O U3 MP)) ?_
 refine MH O O$ M5$ Lf$ LS.qb (e:=[(4,_),(5,_),(6,_),(10,_),(11,_),(54,_)]) ?_
 refine An O$ py$ qN O$ Lu O O$ Le O$ qV (M3 O MP U3 (by omega))$ Le O$ qV (Xg (m:=8) U9 O O (by rw[lz];omega)) ?_
 rw[show(SQ n sum).drop 8=QU 4 sum from List.drop_left' (Mi _ _)]
 refine LD zcD O (XQ (QU 4 sum) (by omega) _) ?_
 rintro _ w7 ⟨rfl,cg⟩
 rw[Dz]
 have bJ:=cg.Lg aR
 refine qV (WA O MP Mx)$ LU O$ Lt W2 O$ Ls O (MY Md O O O bJ (by simp)) ?_
 rintro w8 ⟨cu,bB⟩
 replace cu:Lq w8 rb [ptr Q.s 0,I (st:Int),I (len:Int),I (n:Int),U 0] 204:=cu
 refine LU O$ Lt z8j O ?_
 rw[Nat.mod_eq_of_lt (show sum<2^32 by omega)]
 refine Ls O (MY Lz O O O cu (by simp)) ?_
 rintro w9 ⟨cM,aP⟩
 refine qM O$ Le O$ Lw O$ Lk O$ Lh Tryz.func61 O ?_
 have ug:=(((pV.ext' cg).own bB (λb e=> .inr e)).own aP (λb e=> .inr e))
 refine⟨_,rfl,rb,rfl,cM,by omega,ug,?_⟩
 have DA:Kp (λb=>¬X b) w w4:=((aG.trans ah).kp (S:=λb=>¬X b)).trans (av.Lv λb e e2=>e (.inl e2))
 refine(((DA.trans (aX.trans (aK.trans cg)).kp).It bB λb e=> .inl (by omega)).It aP λb e=> .inl (by omega))
theorem z58 (hB:Lq w rb (srC Q.s st len n sum) 204):LP Tryz.prog 278 [ptr rb 0] w λv w'=>v=I (n:Int)/\w'=w:=by
 replace hB:Lq w rb [ptr Q.s 0,I (st:Int),I (len:Int),I (n:Int),U sum] 204:=hB
 refine Lb (e:=[(0,_)]) Tryz.func278 O Tryz.ntmps278 O O$ qN O$ Lk O$ run_seq$ qN O$ Le O$ qV (Ml z7R O O)$ Lf$ An O$ py$ qN O$ Le O$ LU O$ Lt W2 O ?_
 refine qV (Lj U3 O O hB O)$ Lk O$ Lh Tryz.func278 O ?_
 exact⟨_,rfl,rfl,rfl⟩
theorem z6m (hP:Sp Q txt K (λb=>X b\/b=rb) w)(hX:∀b,X b->b<w.heap.size)(ta:¬X rb)(hK:K<1000000000000)(ct:st+len<=Q.L.length)(hL:Laid txt st T)(hB:Lq w rb (srC Q.s st len T.length sum) 204)(hT:T.length<=len*512)(off n:Nat)(ho:off+n<=T.length):
  LP Tryz.prog 279 [ptr rb 0,I (off:Int),I (n:Int)] w λv w'=>v= .tuple #[S ((T.drop off).take n),I 0]/\Sp Q txt K (λb=>X b\/b=rb) w'/\Lq w' rb (srC Q.s st len T.length sum) 204/\Kp (λb=>¬X b) w w':=by
 have eu:=hP.n
 have lrb:=hB.lt
 replace hB:Lq w rb [ptr Q.s 0,I (st:Int),I (len:Int),I (T.length:Int),U sum] 204:=hB
 refine Lb (e:=[(0,_),(1,_),(2,_)]) Tryz.func279 O Tryz.ntmps279 O O$ qN O$ Lw O$ Lk O$ run_seq$ Lc$ qN O$ Le O$ qV (Ml z7R O O)$ Lk O$ An O$ qN O$ Le O$ Mw O O ?_
 refine M5$ Lu O O$ Mw O O$ M5$ M8 O O$ Lu O O$ Le O$ LU O$ Lt W2 O$ qV (Lj U3 O O hB O)$ MH O O$ M5$ M8 O O$ Lu O O ?_
 refine Le O$ LU O$ Lt W2 O$ qV (Lj U3 O O hB O)$ Le O$ Np O O$ MH O O$ M5$ M8 O O$ Lk O$ LS.qb (e:=[(0,_),(1,_),(2,_),(6,_),(7,_),(15,_)]) ?_
 refine An O$ py$ Ld$ qN O$ Le O$ LU O$ Lt TR O$ Lt QN O$ qV (Lj SJ O O hB O)$ LD z0i O (hP.size) ?_
 rintro _ w ⟨rfl,rfl⟩
 refine Lw O$ qM O$ Lm O O (NJ (cs:=[_,_]) zb6 O) ?_
 rintro _ w1 ⟨bb,rfl,uA,ad,zF⟩
 have DB:=BdM.new zF
 have z1:=ad.size
 refine Lf$ run_seq$ Lc$ Nj (α:=Nat×Value) ((0,Value.slice none 0 0)) (λy=>[(0,ptr rb 0),(1,I ((off+y.1:Nat):Int)),(2,I ((n-y.1:Nat):Int)),(8,I 512),(9,ptr bb 0)]) (λy w'=>y.1<=n/\BdM w' bb ((T.drop off).take y.1) y.2/\(y.1=0->y.2= .slice none 0 0)/\(∀g,y.2.ownBlock=some g->w.heap.size<=g)/\Sp Q txt K (λb=>(X b\/b=rb)\/b=bb\/y.2.ownBlock=some b) w'/\Kp (λb=>¬(X b\/b=rb)) w w') (λy=>n-y.1) ?hI ?hround
 case hI=>exact⟨Nat.zero_le _,DB,λ_=>rfl,λg hg=>(by cases hg),hP.ext ad (λb e=>e.imp id λe=>e.elim (λe=>by omega) (λe=>by cases e)),ad.kp⟩
 case hround=>
  rintro⟨m,v⟩ w2 ⟨hm,qF,FT,di,eZ,ao⟩ ih;dsimp only at hm qF FT di eZ ih⊢;have am:=ao.Lg hB (λe=>e (.inr O));have hg:=Ext.LC w2;have z2:=ao.size;have lbb:bb<w2.heap.size:=by obtain⟨⟨p,hp,hb⟩,-,-⟩:=qF;exact hb.lt
  have oB:∀b,((X b\/b=rb)\/b=bb\/v.ownBlock=some b)->b<w2.heap.size:=λb hb=>by
   rcases hb with(e|e)|e| e
   ·have:=hX b e;omega
   ·omega
   ·omega
   ·exact qF.2.1.lt e
  try dsimp only
  refine run_seq$ qN O$ Le O$ MH O O$ Lf$ Lp O (λh0=>?_)$ λh0=>?_
  ·obtain⟨q,hq⟩:∃q,min (n-m) (512-(off+m)%512)=q:=⟨_,rfl⟩;have eH:=eZ.X4 (x:=((st+(off+m) / 512:Nat):Int)) (by omega) (by omega);have kV:=hL.piece (off:=off+m) (n:=q) (by omega) (by omega);have dV:=(eZ.ext' hg).read (λb hb=>by have:=oB b hb;have:=hg.size;omega) hK (no:=((st+(off+m) / 512:Nat):Int)) (by omega) (by omega);obtain⟨t,ht⟩:∃t,txt ((st+(off+m) / 512:Nat):Int)=t:=⟨_,rfl⟩;rw[ht] at eH kV dV;refine py$ Lc$ run_seq$ N7 (λw'=>Kp (λb=>¬((X b\/b=rb)\/b=bb\/v.ownBlock=some b)) w2 w') O$ LA 0 O O (hg.kp)$ Ll 1 O (Mo O) (hg.kp)$ Ll 2 O (LV TR O) (hg.kp)$ Ll 3 O (LV QN O) (hg.kp)$ qT 4 O (λ_ hS=>Lj SJ O O (hS.Lg am (λe=>e (.inl (.inr O)))) O) (hg.kp)$ LA 5 O O (hg.kp)$ Ll 6 O (Mo O) (hg.kp)$ Ll 7 O (LV TR O) (hg.kp)$ Ll 8 O (LV PJ O) (hg.kp)$ Ll 9 O (LV MV O) (hg.kp) ?_;refine qT 10 O (λ_ hS=>Lj U3 O O (hS.Lg am (λe=>e (.inl (.inr O)))) O) (hg.kp)$ LA 11 O O (hg.kp)$ LA 12 O O (hg.kp)$ Ll 13 O (SC O O (by omega)) (hg.kp)$ Ll 14 O (Qu O O (by omega)) (hg.kp) ?_;rw[show(st:Int)+((off+m:Nat):Int) / 512=((st+(off+m) / 512:Nat):Int) by omega];refine OA 15 O z88 O (dV) ?_;rintro _ w3 ⟨rfl,gu,ax⟩;refine⟨hg.kp.trans ax,?_⟩;have dH:=hg.kp.trans ax;have DC:=qF.kp dH (λe=>e (.inr (.inl O))) (λg hg e=>e (.inr (.inr hg)));refine LA 16 O O (hg.kp.trans ax)$ Ll 17 O (Nq O O) (hg.kp.trans ax)$ Ll 18 O (Nq O O) (hg.kp.trans ax)$ Ll 19 O (Ni O) (hg.kp.trans ax)$ Ll 20 O (Ni O) (hg.kp.trans ax)$ qE$ run_seq$ qN O$ Le O$ Mu O O$ Lf$ An O$ py$ qN O ?_;refine Lu O O$ Le O$ qV (yre O O (by omega)) ?_;rw[show((off+m:Nat):Int)%512=(((off+m)%512:Nat):Int) by omega];refine qV (Xg U9 O O (by omega))$ Lw O$ qM O$ Lu O O$ Le O$ qV (RK U9 O)$ qV (ymi O O) ?_;rw[show min ((n-m:Nat):Int) ((t.drop ((off+m)%512)).length:Int)=((q:Nat):Int) by rw[List.length_drop];omega];refine qV (Zr (m:=q) U9 O O (by rw[List.length_drop];omega)) ?_;rw[kV];have BP:((T.drop (off+m)).take q).length=q:=by rw[List.length_take,List.length_drop];omega
   have gZ:((T.drop off).take m).length<=m:=by rw[List.length_take];omega
   refine Lw O$ qM O$ Le O$ LD zeO O (z6O DC ((T.drop (off+m)).take q) (by omega)) ?_;rintro _ w4 ⟨v4,DD,av,qg⟩;have z3:=dH.size;refine qM O$ Lu O O$ qV (RK U9 O) ?_;rw[BP];refine Mb O O$ Lk O$ Li O$ Lu O O$ qV (RK U9 O) ?_;rw[BP];refine Np O O$ Lk O$ Ld ?_;rw[show((off+m:Nat):Int)+(q:Int)=((off+(m+q):Nat):Int) by omega,show((n-m:Nat):Int)-(q:Int)=((n-(m+q):Nat):Int) by omega];refine(ih (m+q,v4) _ ⟨by dsimp only;omega,?_,λe=>by dsimp only at e;omega,λg hg=>(qg g hg).elim (di g) (λe=>by omega),?_,?_⟩ (by dsimp only;omega)).qb
   ·dsimp only;rw[List.take_add,List.drop_drop];exact DD
   ·exact gu.step av (λb e=> .inr e) (λb e=>by
     rcases e with e|e| e
     ·exact .inl (.inl e)
     ·exact .inl (.inr (.inl e))
     ·exact(qg b e).imp (λe=> .inr (.inr e)) id)
   ·refine(ao.trans (dH.Lv λb e e2=>e (.inl e2))).It av λb e=> .inl ?_;rcases e with e| e
    ·omega
    ·exact di b e
  ·have J6:m=n:=by omega
   subst J6;refine Ln O$ qN O$ LD zfJ O (z5u qF (λe=>FT (by have:=congrArg List.length e;rw[List.length_take,List.length_drop,List.length_nil] at this;omega)) (by rw[List.length_take,List.length_drop];omega)) ?_;rintro _ w3 ⟨rfl,ax⟩;refine Lw O$ Lk O$ Lh Tryz.func279 O ?_;have cA:Kp (λb=>¬(X b\/b=rb)) w w3:=ao.It ax (λb e=> .inl (di b e));exact⟨_,rfl,rfl,eZ.step ax (λb e=> .inr (.inr e)) (λb e=> .inl (.inl e)),cA.Lg hB (λe=>e (.inr O)),cA.Lv λb e e2=>e (.inl e2)⟩
end
section
variable {t:TypeId}{u:Value}{p:Mq}{g:List (List Nat)}{E:List (Nat×Nat)}{R:Src t u (T3 p g E)}{k x:Nat}{X Y S:Nat->Prop}{w w':World}
theorem z1d (k v:Nat)(w:World):LP Tryz.prog 75 [ptr k 0,I (v:Int)] w λr w'=>∃bk bi,r= .func (.func 113) #[] #[ptr bk 0,ptr bi 0]/\Lq w' bk [ptr k 0] 29/\Lq w' bi [I (v:Int)] 3/\w.heap.size<=bk/\w.heap.size<=bi/\Ext w w':=by
 refine Lb (e:=[(0,_),(1,_)]) Tryz.func75 O Tryz.ntmps75 O O$ qN O$ Lm O O (Nc O (cs:=[ptr k 0]) O) ?_
 rintro _ w1 ⟨bk,rfl,gp,ad,tW⟩
 refine Lm O O (Nc O (cs:=[I (v:Int)]) O) ?_
 rintro _ w2 ⟨bi,rfl,uh,ag,DE⟩
 refine Lw O$ qM O$ qV (Z9 (first:=[]) (caps:=[.tmp 2,.tmp 3]) O O)$ Lk O$ Lh Tryz.func75 O ?_
 have:=ad.size
 exact⟨_,rfl,bk,bi,rfl,ag.Lg tW,DE,by omega,by omega,ad.trans ag⟩
theorem z1M {l bk bi v:Nat}(iS:g.length<50)(hv:v<g.length)(h:Qs R k x X w)(gp:Lq w bk [ptr k 0] 29)(uh:Lq w bi [I (v:Int)] 3)(Z:Nat->Prop)(hZ:∀j,Z j->X j)(J:(Nat->Prop)->Nat->World->Prop)(F:World->Prop)
  (h0:∀(Y:Nat->Prop) (w':World),(∀j,X j->Y j)->(∀j,Y j->X j\/w.heap.size<=j)->Qs R k x Y w'->Kp (λj=>¬X j) w w'->J Y 0 w')
  (hround:∀(Y:Nat->Prop) (i s:Nat) (w':World),(∀j,X j->Y j)->(∀j,Y j->X j\/w.heap.size<=j)->(Lo g v)[i]? =some s->J Y i w'->Z6 Tryz.prog l [LO s,I 0] w' λr w''=>(r= .bool true/\J Y (i+1) w''/\Kp (λj=>¬Y j\/Z j) w' w'')\/(r= .bool false/\F w'')):
  LP Tryz.prog 113 [.func (.yield l) #[] #[],ptr bk 0,ptr bi 0] w λr w'=>r= .tuple #[]/\((∃Y,(∀j,X j->Y j)/\(∀j,Y j->X j\/w.heap.size<=j)/\J Y (Lo g v).length w')\/F w'):=by
 have aV:=h.lt
 have fm:(Lo g v).length<=g.length:=by
  unfold Lo;rw[List.getElem?_eq_getElem hv];exact h.ok.gr.len (List.getElem_mem hv)
 refine Lb (e:=[(0,_),(1,_),(2,_)]) Tryz.func113 O Tryz.ntmps113 O O$ qN O$ qV ((by first|exact Lj Zl O O gp O|exact Lj Zl O O uh O)) ?_
 refine qV ((by first|exact Lj U3 O O gp O|exact Lj U3 O O uh O)) ?_
 refine LD zcj O (z1t iS hv h) ?_
 rintro _ w1 ⟨vv,rfl,iE,iA,h1,aN⟩
 have dV:=iE.rd
 obtain⟨a,c,rfl,ha⟩:=dV.shape
 refine Le O$ qV (Nq (v:= .slice a (Lo g v).length c) O O)$ qV (Nq (v:=I 0) O O)$ Lw O$ Lk O$ run_seq$ qN O$ Le O$ Mu O O$ Lf$ An O$ py$ qN O$ Le O ?_
 refine Nd LI O$ Le O$ Lf$ Lc ?_
 obtain⟨Y,hY⟩:∃Y:Nat->Prop,(λj=>X j\/(Value.slice a (Lo g v).length c).ownBlock=some j)=Y:=⟨_,rfl⟩
 rw[hY] at h1
 have bY:∀j,X j->Y j:=λj hj=>by rw[<-hY];exact .inl hj
 have kR:∀j,Y j->X j\/w.heap.size<=j:=λj hj=>by
  rw[<-hY] at hj;exact hj.imp id (iA j)
 have FU:∀j,(Value.slice a (Lo g v).length c).ownBlock=some j->Y j/\¬Z j:=λj hj=>⟨by rw[<-hY];exact .inr hj,λe=>by have h2:=iA j hj;have h3:=aV j (hZ j e);omega⟩
 refine Nj (α:=Nat) (0) (λi=>[(0,.func (.yield l) #[] #[]),(19,.slice a (Lo g v).length c),(20,I ((Lo g v).length:Int)),(21,I (i:Int))]) (λi w'=>i<=(Lo g v).length/\J Y i w'/\Rd w' (.slice a (Lo g v).length c) 1 (Lo g v).length ((Lo g v).map LO)) (λi=>(Lo g v).length-i) ?hI ?hround
 case hI=>exact⟨Nat.zero_le _,h0 Y w1 bY kR h1 aN,dV⟩
 case hround=>
  rintro i w2 ⟨hi,hJ,yb⟩ ih
  try dsimp only
  refine qN O$ Mw O O$ Lf$ run_seq$ Lp O (λhq=>?_)$ λhq=>?_
  ·obtain⟨s,hs⟩:∃s,(Lo g v)[i]? =some s:=⟨_,List.getElem?_eq_getElem (by omega)⟩;rcases yb.2 with⟨⟨ca,cc⟩,fd,pE⟩|⟨b,off,cap,fd,hc⟩
   ·omega
   cases fd;have aZ:w2.cell? ⟨b,off+i*1,none⟩=some (LO s):=hc (i*1) _ (by rw[Nat.mul_one,List.getElem?_map,hs];rfl);refine py$ run_seq$ Lc$ qN O$ qV (M9 LI Lz O O (by omega))$ qV (LN Mx O O aZ)$ Lw O$ qM O$ Lu O O$ z1j O O (yy O O) (hround Y i s w2 bY kR hs hJ) ?_;rintro r w3 fB;rcases fB with⟨rfl,J7,ax⟩|⟨rfl,hF⟩
   ·refine qV ((by first|exact Mh O|exact NL O)) ?_;refine Lf$ An O$ py$ Ld$ Li O$ Mb O O$ Le O$ Lf ?_;exact(ih (i+1) _ ⟨by omega,J7,yb.kp ax (λj hj e=>e.elim (λe=>e (FU j hj).1) (FU j hj).2)⟩ (by omega)).qb
   ·refine qV ((by first|exact Mh O|exact NL O)) ?_;refine Lf$ Lr O$ Lh Tryz.func113 O ?_;exact⟨_,rfl,rfl,.inr hF⟩
  ·have cE:i=(Lo g v).length:=by omega
   subst cE;refine Ln O$ ME Tryz.func113 O ?_;exact⟨_,rfl,rfl,.inl ⟨Y,bY,kR,hJ⟩⟩
end
structure StO (Q:NI)(txt:Int->Bytes)(K st len:Nat)(T:Bytes):Prop where
 k:K<1000000000000
 fit:st+len<=Q.L.length
 laid:Laid txt st T
 len:T.length<=len*512
def z44 {Q:NI}{txt:Int->Bytes}{K st len:Nat}{T:Bytes}(o:StO Q txt K st len T)(rb sum:Nat):Src 136 (ptr rb 0) T where
 inv X w:=Sp Q txt K (λb=>X b\/b=rb) w/\Lq w rb (srC Q.s st len T.length sum) 204/\¬X rb
 fl:=278
 fr:=279
 cl:=zde
 cr:=zbL
 ml:=by kernel_rfl
 mr:=by kernel_rfl
 ext:=λh hx hY=>⟨h.1.ext hx λb e=>e.elim (λe=>(hY b e).elim (λe=> .inl (.inl e)) .inr) (λe=> .inl (.inr e)),hx.Lg h.2.1,λe=>(hY _ e).elim h.2.2 (λe=>by have:=h.2.1.lt;omega)⟩
 step:=λh hk hS hY=>⟨h.1.step hk (λb e=> .inl (hS b e)) λb e=>e.elim (λe=>(hY b e).elim (λe=> .inl (.inl e)) .inr) (λe=> .inl (.inr e)),hk.Lg h.2.1 (λe=>h.2.2 (hS _ e)),λe=>(hY _ e).elim h.2.2 (λe=>by have:=h.2.1.lt;omega)⟩
 len:=λh=>(z58 (Q:=Q) h.2.1).mono λv w' ⟨hv,hw⟩=>⟨hv,by rw[hw];exact Ext.refl _⟩
 rd:=λoff n h hX zw=>(z6m h.1 hX h.2.2 o.k o.fit o.laid h.2.1 o.len off n zw).mono λv w' ⟨hv,h1,h2,h3⟩=>⟨hv,⟨h1,h2,h.2.2⟩,h3⟩
section
variable {t:TypeId}{u:Value}{p:Mq}{g:List (List Nat)}{E:List (Nat×Nat)}{k x:Nat}{X Y S:Nat->Prop}{w w':World}
theorem Qs.re {R R':Src t u (T3 p g E)}(h:Qs R k x X w)(hk:Kp S w w')(hS:∀j,S j->j≠k/\j≠x/\j≠0/\j≠1)(hI:R'.inv X w'):Qs R' k x X w':=
 ⟨h.ok,hk.Lg h.Lg (λe=>(hS _ e).1 O),hk.Lg h.ix (λe=>(hS _ e).2.1 O),h.xk,h.xx,hI,λj hj=>by have:=h.lt j hj;have:=hk.size;omega,h.x1,h.x2,hk.Lg h.gam (λe=>(hS _ e).2.2.1 O),hk.Lg h.una (λe=>(hS _ e).2.2.2 O)⟩
theorem z1m {Q:NI}{txt:Int->Bytes}{K st len rb sum:Nat}(hp:OH p g E)(o:StO Q txt K st len (T3 p g E))(hI:(z44 o rb sum).inv X w)(hX:∀j,X j->j<w.heap.size)(x1:X 0)(x2:X 1)(hG:Lq w 0 (Og .gamma) 260)(hU:Lq w 1 (Og .unary) 260):
  LP Tryz.prog 62 [ptr rb 0] w λv w'=>∃k x,v= .tuple #[ptr k 0,I 0]/\w.heap.size<=k/\w.heap.size<=x/\Qs (z44 o rb sum) k x (λj=>X j\/j=x\/j=k) w'/\Kp (λj=>¬X j) w w':=by
 refine Lb (e:=[(0,_)]) Tryz.func62 O Tryz.ntmps62 O O$ qN O$ Lw O$ Lk O$ run_seq$ qN O$ Le O$ qV (Ml z7R O O)$ Lf$ An O$ py$ qN O$ Le O$ qV (zcJ z7R (λ_ h=>by cases h) rfl) ?_
 refine LD zb5 O (z1W hp (z44 o rb sum) hI hX) ?_
 rintro _ w1 ⟨k,x,rfl,ai,am,hx,hk,bN,lP,aN⟩
 refine Mp O O$ Mp O O$ Lw O$ Lk O$ Lh Tryz.func62 O ?_
 have z1:=aN.size
 have l1:=ai.lt
 have l2:=am.lt
 refine⟨_,rfl,k,x,rfl,hk,hx,⟨hp,ai,am,.inr (.inr O),.inr (.inl O),lP,λj hj=>?_,.inl x1,.inl x2,aN.Lg hG (λe=>e x1),aN.Lg hU (λe=>e x2)⟩,aN⟩
 rcases hj with e|e| e
 ·have:=hX j e;omega
 ·omega
 ·omega
end
theorem z8v {n each:Nat}(he:1<=each):max (1:Int) (((n:Int)+(each:Int)-1) / (each:Int))=((RJ n each:Nat):Int):=by
 unfold RJ
 rw[show(n:Int)+(each:Int)-1=((n+each-1:Nat):Int) by omega]
 have h:((n+each-1:Nat):Int) / (each:Int)=(((n+each-1) / each:Nat):Int):=rfl
 rw[h]
 generalize (n+each-1) / each=q
 omega
section
variable {w w':World}{Q:NI}{txt:Int->Bytes}{K:Nat}{X:Nat->Prop}{vb width st each n:Nat}{xs:List Nat}
abbrev shV (n width each:Nat):Value:= .agg #[I (n:Int),I (width:Int),I (each:Int)]
theorem U7 (n width each:Nat)(he:1<=each/\each<=512)(hn:n<=4194304)(w:World):LP Tryz.prog 63 [shV n width each] w λv w'=>v=I (RJ n each:Int)/\Ext w w':=by
 refine Lb (e:=[(0,_)]) Tryz.func63 O Tryz.ntmps63 O O$ qN O$ Lm O O (Nc O (cs:=[I (n:Int),I (width:Int),I (each:Int)]) O) ?_
 rintro _ w1 ⟨b1,rfl,bR,ad,ai⟩
 refine Lw O$ qM O$ Lt VK O$ qV (Lj U3 O O ai O)$ Lt TF O$ qV (Lj U3 O O ai O)$ Mb O O$ Np O O$ Lt TF O$ qV (Lj U3 O O ai O)$ qV (SC O O (by omega))$ qV (yma O O)$ Lk O ?_
 rw[z8v he.1]
 refine Lh Tryz.func63 O ?_
 exact⟨_,rfl,rfl,ad⟩
theorem WU (n width each x:Nat)(hw:width=1\/width=2\/width=4\/width=8)(hx:x<2^(8*width))(w:World):LP Tryz.prog 69 [shV n width each,Ly x] w λv w'=>v= .bool true/\Ext w w':=by
 refine Lb (e:=[(0,_),(1,_)]) Tryz.func69 O Tryz.ntmps69 O O$ qN O$ Lm O O (Nc O (cs:=[I (n:Int),I (width:Int),I (each:Int)]) O) ?_
 rintro _ w1 ⟨b1,rfl,bR,ad,ai⟩
 refine Lw O$ qM O$ Lt Rt O$ qV (Lj U3 O O ai O) ?_
 by_cases h8:width=8
 ·refine Nb O O$ Ns$ Le O$ qS$ qS$ qS$ qS$ qS$ qS$ MU O O$ Lk O$ Lh Tryz.func69 O ?_;exact⟨_,rfl,rfl,ad⟩
 ·have J8:8*width<=32:=by omega
  have hp:1*2^(8*width)%18446744073709551616=2^(8*width):=by
   have:=Nat.pow_le_pow_right (show 0<2 by decide) J8;rw[Nat.one_mul,Nat.mod_eq_of_lt (by omega)]
  refine Nb O O$ M5$ Lu O O$ Lt Rt O$ qV (Lj U3 O O ai O)$ qV (T6 O O (by omega)) ?_;rw[show(8:Int)*(width:Int)=((8*width:Nat):Int) by omega];refine qV (Na (8*width) (2^(8*width)) O O (by omega) O) ?_;rw[hp]
  generalize 2^(8*width)=P at hx⊢
  refine Mw O O$ Ns$ M8 O O$ Lk O$ Lh Tryz.func69 O ?_;exact⟨_,rfl,rfl,ad⟩
theorem Tn (n width each x:Nat)(hw:width<=8)(hx:x<18446744073709551616)(w:World):LP Tryz.prog 73 [shV n width each,Ly x] w λv w'=>v=S (QU width x)/\Ext w w':=by
 have ev:maxLen=9223372036854775807:=rfl
 refine Lb (e:=[(0,_),(1,_)]) Tryz.func73 O Tryz.ntmps73 O O$ qN O$ Lm O O (Nc O (cs:=[I (n:Int),I (width:Int),I (each:Int)]) O) ?_
 rintro _ w0 ⟨b0,rfl,xu,jk,jb⟩
 refine Lw O$ qM O$ Lt Rt O$ qV (Lj U3 O O jb O)$ Lm O O (pmk (c:=width) (n:=width) Mz Tq O O O (by omega) (by omega) (by omega)) ?_
 rintro _ w1 ⟨b1,rfl,⟨bR,ad,ai⟩,-⟩
 refine Lk O$ run_seq$ qN O$ Le O$ Nd Mz O$ Le O$ Lf$ Lc ?_
 rw[<-XC x width] at ai
 have l0:=jb.lt
 refine Nj (α:=Nat) (0) (λk=>[(1,Ly x),(2,ptr b0 0),(5,.slice (some ⟨b1,0,none⟩) width width),(11,I (width:Int)),(12,I (k:Int))]) (λk w'=>k<=width/\Lq w' b1 (WK x width k) 5/\Lq w' b0 [I (n:Int),I (width:Int),I (each:Int)] 143/\Ext w0 w') (λk=>width-k) ?hI ?hround
 case hI=>exact⟨by omega,ai,ad.Lg jb,ad⟩
 case hround=>
  rintro k w2 ⟨hk,am,yd,ag⟩ ih
  try dsimp only
  refine qN O$ Mw O O$ Lf$ run_seq$ Lp O (λaV=>?_)$ λaV=>?_
  ·have Do:k<width:=by omega
   refine py$ run_seq$ Lc$ qN O$ Le O$ Lk O$ Li O$ Lu O O$ Le O$ Lt Rt O$ qV (Lj U3 O O yd O)$ Np O O$ Le O$ Np O O ?_;refine qV (T6 O O (by omega)) ?_;rw[show(8:Int)*(((width:Int)-1)-(k:Int))=((8*(width-1-k):Nat):Int) from by omega];refine qV (Qg (8*(width-1-k)) (2^(8*(width-1-k))) O O (by simp only[IntKind.bits];omega) O) ?_;refine qV (z7M O MP U5)$ qV (M9 Mz Tq O O (by omega))$ Ls O (MY Tq O O O am (by simp;omega)) ?_;rintro w3 ⟨aq,ax⟩;rw[z0O x width k Do] at aq;refine Lf$ Ld$ Li O$ Mb O O$ Le O$ Lf ?_;exact(ih (k+1) w3 ⟨by omega,aq,ax.Lg yd (by omega),ag.It ax (λi hi=>by rw[hi,bR];exact Nat.le_refl _)⟩ (by omega)).qb
  ·have:k=width:=by omega
   subst this;rw[ZH] at am;refine Ln O$ qN O$ Le O$ qV (z3I (l:=QU k x) Mz U5 U9 O am (by rw[List.drop_zero];exact List.take_of_length_le (by rw[List.length_map,Mi];omega)) (by simp[QU])) ?_;refine Lk O$ Lh Tryz.func73 O ?_;exact⟨_,rfl,rfl,jk.trans ag⟩
theorem PD (h:Ts Q txt vb width st xs w):LP Tryz.prog 68 [ptr vb 0] w λv w'=>v=I 0/\w'=w:=by
 have hB:=h.cells
 refine Lb (e:=[(0,_)]) Tryz.func68 O Tryz.ntmps68 O O$ qN O$ Lk O$ run_seq$ Lc$ qN O$ Le O$ qV (Ml U90 O O)$ Lk O$ An O$ qN O$ Le O$ LU O$ Lt z3A O ?_
 refine qV (Lj U4 O O hB O)$ Lk O$ An O$ py$ Ld$ qN O$ Lk O$ Lh Tryz.func68 O ?_
 exact⟨_,rfl,rfl,rfl⟩
theorem ZB (h:Ts Q txt vb width st xs w){i:Nat}(hi:i<xs.length)(hn:Q.L.length<=4096):LP Tryz.prog 70 [ptr vb 0,I (i:Int)] w λv w'=>v= .tuple #[I ((st+i / (512 / width):Nat):Int),I ((i%(512 / width)*width:Nat):Int)]/\Ext w w':=by
 have hB:=h.cells
 have hg:=Ext.LC w
 obtain⟨e1,e2,e3,e4,e5⟩:=h.e
 obtain⟨a1,a2,a3⟩:=h.at_ hi
 have iF:=h.n
 have hd:((i:Nat):Int) / ((512 / width:Nat):Int)=((i / (512 / width):Nat):Int):=rfl
 have hm:((i:Nat):Int)%((512 / width:Nat):Int)=((i%(512 / width):Nat):Int):=rfl
 have CX:((i%(512 / width):Nat):Int)*(width:Int)=((i%(512 / width)*width:Nat):Int):=by rw[Int.natCast_mul]
 have eL:(st:Int)+((i / (512 / width):Nat):Int)=((st+i / (512 / width):Nat):Int):=by rw[Int.natCast_add]
 generalize i / (512 / width)=q at*
 generalize i%(512 / width)=r at*
 generalize 512 / width=each at*
 refine Lb (e:=[(0,_),(1,_)]) Tryz.func70 O Tryz.ntmps70 O O$ qN O$ Lw O$ Lk O$ run_seq$ N7 (λw'=>Ext w w') O$ LA 0 O O (hg)$ Ll 1 O (Mo O) hg$ Ll 2 O (LV VZ O) hg$ Ll 3 O (LV MV O) hg$ qT 4 O (λ_ h=>Lj U3 O O (h.Lg hB) O) hg$ LA 5 O O (hg)$ LA 6 O O (hg)$ Ll 7 O (Mo O) hg ?_
 refine Ll 8 O (LV NO O) hg$ Ll 9 O (LV TF O) hg$ qT 10 O (λ_ h=>Lj U3 O O (h.Lg hB) O) hg$ LA 13 O O (hg)$ LA 14 O O (hg)$ Ll 15 O (Mo O) hg$ Ll 16 O (LV NO O) hg$ Ll 17 O (LV TF O) hg$ qT 18 O (λ_ h=>Lj U3 O O (h.Lg hB) O) hg$ LA 20 O O (hg)$ Ll 21 O (Mo O) hg$ Ll 22 O (LV NO O) hg$ Ll 23 O (LV Rt O) hg$ qT 24 O (λ_ h=>Lj U3 O O (h.Lg hB) O) hg ?_
 refine Ll 11 O (SC O O (by omega)) hg ?_
 rw[hd]
 refine Ll 12 O (Qu O O (by omega)) hg$ Ll 26 O (Ni O) hg ?_
 rw[eL]
 refine Ll 19 O (yre O O (by omega)) hg ?_
 rw[hm]
 refine Ll 25 O (T6 O O (by rw[CX];omega)) hg ?_
 rw[CX]
 refine Ll 27 O (Ni O) hg$ qE$ LS.qb (e:=[(4,_),(5,_)]) ?_
 refine Lh Tryz.func70 O ?_
 exact⟨_,rfl,rfl,hg⟩
end
section
variable {w w':World}{Q:NI}{txt:Int->Bytes}{K:Nat}{X:Nat->Prop}{vb width st each n:Nat}{xs:List Nat}
theorem Ts.z8a (h:Ts Q txt vb width st xs w){i x:Nat}(hi:xs[i]? =some x):x<2^(8*width)/\x<18446744073709551616:=by
 have h1:=(h.t i x hi).2
 have:=Nat.pow_le_pow_right (show 0<2 by decide) (show 8*width<=64 by have:=h.e;omega)
 exact⟨h1,by omega⟩
theorem UK (hP:Sp Q txt K X w)(hX:∀b,X b->b<w.heap.size)(hK:K<1000000000000)(hv:Ts Q txt vb width st xs w)(ew:X vb){i x:Nat}(hi:xs[i]? =some x):
  LP Tryz.prog 40 [ptr vb 0,I (i:Int)] w λv w'=>v= .tuple #[Ly x,I 0]/\Sp Q txt K X w'/\Kp (λb=>¬X b) w w':=by
 have eu:=hP.n
 have aT:i<xs.length:=by
  rcases Nat.lt_or_ge i xs.length with h| h
  ·exact h
  ·rw[List.getElem?_eq_none h] at hi;cases hi
 have zK:=ZB hv aT eu
 obtain⟨a1,a2,a3⟩:=hv.at_ aT
 have zM:=(hv.t i x hi).1
 have lX:=(hv.z8a hi).1
 have eH:=hP.X4 (x:=((st+i / (512 / width):Nat):Int)) (Int.natCast_nonneg _) (Int.ofNat_lt.2 a1)
 have iF:=hv.n
 have KV:=hv.e.2.2.2.2
 have nG:∀w1,Ext w w1->LP Tryz.prog 71 [ptr Q.s 0,I ((st+i / (512 / width):Nat):Int)] w1 λv w'=>v= .tuple #[S (txt ((st+i / (512 / width):Nat):Int)),I 0]/\Sp Q txt K X w'/\Kp (λb=>¬X b) w1 w':=λw1 ad=>(hP.ext' ad).read (λb hb=>by have:=hX b hb;have:=ad.size;omega) hK (Int.natCast_nonneg _) (Int.ofNat_lt.2 a1)
 generalize i / (512 / width)=q at*
 generalize i%(512 / width)=r at*
 generalize ho:r*width=o at*
 obtain⟨t,ht⟩:∃t,txt ((st+q:Nat):Int)=t:=⟨_,rfl⟩
 rw[ht] at zM eH nG
 have hB:=hv.cells
 refine Lb (e:=[(0,_),(1,_)]) Tryz.func40 O Tryz.ntmps40 O O$ qN O$ Lw O$ Lk O$ run_seq$ qN O$ Le O$ LD z7w O (PD hv) ?_
 rintro _ w ⟨rfl,rfl⟩
 refine Lw O$ qM O$ Le O$ Mu O O$ Lf$ An O$ py$ run_seq$ qN O$ Le O$ Mw O O$ M5$ Lu O O$ Le O ?_
 refine LU O$ Lt NO O$ Lt VK O$ qV (Lj U3 O O hB O)$ Pa O O$ M5$ M8 O O$ Lf$ An O$ py$ qN O$ Lu O O$ LD zcZ O (zK) ?_
 rintro _ w1 ⟨rfl,ad⟩
 have ai:=ad.Lg hB
 refine Le O$ Mp O O$ Mp O O$ Lw O$ Lk O$ LS.qb (e:=[(0,_),(4,_),(5,_),(7,_),(8,_)]) ?_
 refine qN O$ Le O$ LU O$ Lt SB O$ qV (Lj SJ O O ai O)$ Le O$ LD z88 O (nG w1 ad) ?_
 rintro _ w2 ⟨rfl,eZ,ao⟩
 have am:=ao.Lg ai (λe=>e ew)
 refine Le O$ Mp O O$ Mp O O$ Lw O$ Lk O$ run_seq$ qN O$ Le O$ Mu O O$ Lf$ An O$ py$ qN O$ Lk O ?_
 refine run_seq$ qN O$ Lu O O$ Lu O O$ LU O$ Lt NO O$ Lt Rt O$ qV (Lj U3 O O am O)$ Mb O O ?_
 rw[show(o:Int)+(width:Int)=((o+width:Nat):Int) by omega]
 refine qV (zfS (m:=o) (n:=o+width) U9 O O O (by omega)) ?_
 rw[show o+width-o=width by omega,zM]
 have eT:=Mi width x
 obtain⟨s,hs⟩:∃s,QU width x=s:=⟨_,rfl⟩
 have mO:valB (LF s)=x:=by rw[<-hs];exact Yn lX
 rw[hs] at eT⊢
 refine Lm O O (z5X U9 Mz U5 O) ?_
 rintro _ w3 ⟨b7,c7,rest,rfl,⟨kW,ah,aq⟩,BG⟩
 refine Nd Mz O$ Le O$ Lf$ LS.qb (e:=[(4,_),(5,_),(11,_),(58,_),(59,_),(60,_)]) ?_
 refine Lc$ Nj (α:=Nat) (0) (λi=>[(11,Ly (valB (LF (s.take i)))),(58,.slice (some ⟨b7,0,none⟩) s.length c7),(59,I (s.length:Int)),(60,I (i:Int))]) (λi w'=>w'=w3/\i<=s.length) (λi=>s.length-i) ?hI ?hround
 case hI=>exact⟨rfl,Nat.zero_le _⟩
 case hround=>
  rintro i w4 ⟨rfl,hi⟩ ih
  try dsimp only
  refine qN O$ Mw O O$ Lf$ run_seq$ Lp O (λh0=>?_)$ λh0=>?_
  ·obtain⟨c,hc⟩:∃c,s[i]? =some c:=⟨_,List.getElem?_eq_getElem (by omega)⟩;have dt:=c.toNat_lt;have eL:=Wo hc
   have aV:valB (LF (s.take i))<72057594037927936:=by
    have h1:=N1 (LF (s.take i));rw[bitsT_length,List.length_take] at h1;have h2:2^(8*min i s.length)<=2^56:=Nat.pow_le_pow_right (by decide) (by omega);omega
   have aZ:w4.cell? ⟨b7,0+i*1,none⟩=some (P9 c):=by
    rw[aq.cell,Nat.zero_add,Nat.mul_one,List.getElem?_append_left (by rw[List.length_map];omega),List.getElem?_map,hc];rfl
   refine py$ run_seq$ Lc$ qN O$ qV (M9 Mz Tq O O (by omega))$ qV (LN U5 O O aZ) ?_
   generalize valB (LF (s.take i))=q at eL aV
   refine Lk O$ Li O$ Le O$ qV (Na 8 256 O O (by decide) O)$ Le O$ qV ((by first|exact z4t O U5 MP (by decide)|exact Mc O U5 MP (by omega))) ?_;refine qV (Xi O O (by omega) (by omega)) ?_
   have nZ:(q*256%18446744073709551616 |||c.toNat)=valB (LF (s.take (i+1))):=by
    rw[eL,Nat.mod_eq_of_lt (by omega),Nat.mul_comm q];exact(Nat.two_pow_add_eq_or_of_lt (i:=8) dt q).symm
   rw[nZ];refine Lk O$ Ld$ Li O$ Mb O O$ Le O$ Lf ?_;exact(ih (i+1) _ ⟨rfl,by omega⟩ (by omega)).qb
  ·have cE:i=s.length:=by omega
   subst cE;rw[List.take_length,mO];refine Ln O$ qN O$ Le O$ Lw O$ Lk O$ Lh Tryz.func40 O ?_;exact⟨_,rfl,rfl,eZ.ext' ah,(ad.kp.trans ao).trans ah.kp⟩
theorem UM (hP:Sp Q txt K X w)(hX:∀b,X b->b<w.heap.size)(hK:K<1000000000000)(hv:Ts Q txt vb width st xs w)(ew:X vb){i x:Nat}(hi:i<xs.length)(hx:x<2^(8*width)):
  LP Tryz.prog 36 [ptr vb 0,I (i:Int),Ly x] w λv w'=>v=I 0/\VcW Q txt (K+1) X vb width st (xs.set i x) w w':=by
 have eu:=hP.n
 have zK:∀w1,Ext w w1->LP Tryz.prog 70 [ptr vb 0,I (i:Int)] w1 λv w'=>v= .tuple #[I ((st+i / (512 / width):Nat):Int),I ((i%(512 / width)*width:Nat):Int)]/\Ext w1 w':=λw1 ad=>ZB (hv.ext ad) hi eu
 obtain⟨a1,a2,a3⟩:=hv.at_ hi
 obtain⟨e1,e2,e3,e4,e5⟩:=hv.e
 have lX:x<18446744073709551616:=by
  have:=Nat.pow_le_pow_right (show 0<2 by decide) (show 8*width<=64 by omega);omega
 have eH:=hP.X4 (x:=((st+i / (512 / width):Nat):Int)) (Int.natCast_nonneg _) (Int.ofNat_lt.2 a1)
 have iF:=hv.n
 obtain⟨t,ht⟩:∃t,txt ((st+i / (512 / width):Nat):Int)=t:=⟨_,rfl⟩
 have gx:=hv.t.set (by omega) hx hi ht (by rw[ht] at eH;omega)
 have nG:∀w1,Ext w w1->LP Tryz.prog 71 [ptr Q.s 0,I ((st+i / (512 / width):Nat):Int)] w1 λv w'=>v= .tuple #[S (txt ((st+i / (512 / width):Nat):Int)),I 0]/\Sp Q txt K X w'/\Kp (λb=>¬X b) w1 w':=λw1 ad=>(hP.ext' ad).read (λb hb=>by have:=hX b hb;have:=ad.size;omega) hK (Int.natCast_nonneg _) (Int.ofNat_lt.2 a1)
 have gR:(xs.set i x).length=xs.length:=by simp
 have hB:=hv.cells
 have ot:=hv.wd
 have ct:=hv.fit
 rw[ht] at eH nG
 have DF:∀w',Lq w' vb [I (xs.length:Int),I (width:Int),I ((512 / width:Nat):Int),I (st:Int),I (RJ xs.length (512 / width):Int),ptr Q.s 0,.bool false] 145->Ts Q (UI txt ((st+i / (512 / width):Nat):Int) (some (t.take (i%(512 / width)*width)++QU width x++t.drop (i%(512 / width)*width+width)))) vb width st (xs.set i x) w':=λw' hb=>⟨by rw[gR];exact hb,ot,gx,by rw[gR];exact iF,by rw[gR];exact ct⟩
 clear gx
 have mh:st+i / (512 / width)<Q.L.length:=a1
 generalize i / (512 / width)=q at*
 generalize i%(512 / width)=r at*
 generalize ho:r*width=o at*
 have eT:=Mi width x
 have pA:(t.take o++QU width x++t.drop (o+width)).length=512:=by rw[List.length_append,List.length_append,List.length_take,List.length_drop,eT];omega
 refine Lb (e:=[(0,_),(1,_),(2,_)]) Tryz.func36 O Tryz.ntmps36 O O$ qN O$ Lk O$ run_seq$ qN O$ Le O$ LD z7w O (PD hv) ?_
 rintro _ w ⟨rfl,rfl⟩
 refine Lw O$ qM O$ Le O$ Mu O O$ Lf$ An O$ py$ run_seq$ qN O$ Le O$ Mw O O$ M5$ Lu O O$ Le O ?_
 refine LU O$ Lt NO O$ Lt VK O$ qV (Lj U3 O O hB O)$ Pa O O$ M5$ M8 O O$ Lu O O$ LU O$ Lt NO O$ qV (LM z4w O TC O (Lq.cells (n:=3) hB (news:=[_,_,_]) O) O)$ Le O$ LD zba O (WU xs.length width (512 / width) x ot hx w) ?_
 rintro _ w1 ⟨rfl,ad⟩
 have ai:=ad.Lg hB
 refine qV ((by first|exact Mh O|exact NL O)) ?_
 refine M8 O O$ Lf$ LS.qb (e:=[(0,_),(1,_),(2,_),(6,_),(36,_)]) ?_
 refine An O$ py$ qN O$ Lu O O$ LD zcZ O (zK w1 ad) ?_
 rintro _ w2 ⟨rfl,ag⟩
 have am:=ag.Lg ai
 refine Le O$ Mp O O$ Mp O O$ Lw O$ Lw O$ qM O$ Le O$ LU O$ Lt SB O$ qV (Lj SJ O O am O)$ Le O$ LD z88 O (nG w2 (ad.trans ag)) ?_
 rintro _ w3 ⟨rfl,gu,ax⟩
 have aq:=ax.Lg am (λe=>e ew)
 have ae:=Ext.LC w3
 have cA:Kp (λb=>¬X b) w w3:=(ad.trans ag).kp.trans ax
 have aV:(t.take o).length=o:=by rw[List.length_take];omega
 have J9:(t.drop (o+width)).length=512-(o+width):=by rw[List.length_drop];omega
 refine Le O$ Mp O O$ Mp O O$ Lw O$ Lk O$ run_seq$ qN O$ Le O$ Mu O O$ Lf$ LS.qb (e:=[(0,_),(2,_),(6,_),(8,_),(9,_),(10,_),(11,_),(53,_)]) ?_
 refine An O$ py$ run_seq$ N7 (λw'=>Kp (λb=>¬X b) w3 w') O$ LA 0 O O (ae.kp)$ Ll 1 O (Mo O) (ae.kp)$ Ll 2 O (LV SB O) (ae.kp)$ qT 3 O (λ_ h=>Lj SJ O O (h.Lg aq (λe=>e ew)) O) (ae.kp)$ LA 4 O O (ae.kp)$ LA 5 O O (ae.kp)$ LA 6 O O (ae.kp)$ Ll 7 O (Zr U9 O O (by omega)) (ae.kp)$ LA 8 O O (ae.kp)$ Ll 9 O (Mo O) (ae.kp) ?_
 refine Ll 10 O (LV NO O) (ae.kp)$ qT 11 O (λ_ hS=>LM z4w O TC O (Lq.cells (n:=3) (hS.Lg aq (λe=>e ew)) (news:=[_,_,_]) O) O) (ae.kp)$ LA 12 O O (ae.kp)$ LA 15 O O (ae.kp)$ LA 16 O O (ae.kp)$ LA 17 O O (ae.kp)$ Ll 18 O (Mo O) (ae.kp)$ Ll 19 O (LV NO O) (ae.kp)$ Ll 20 O (LV Rt O) (ae.kp)$ qT 21 O (λ_ h=>Lj U3 O O (h.Lg aq (λe=>e ew)) O) (ae.kp)$ Ll 22 O (Qu O O (by omega)) (ae.kp) ?_
 rw[show(o:Int)+(width:Int)=((o+width:Nat):Int) by omega]
 refine Ll 23 O (Xg U9 O O (by omega)) (ae.kp)$ OA 13 O zat O (Tn _ _ _ x e5 lX _) ?_
 rintro _ w4 ⟨rfl,ay⟩
 refine⟨ae.kp.trans ay.kp,?_⟩
 have cx:=ae.trans ay
 refine Ll 14 O (Ua O O (by first|omega|(simp;done)|(simp;omega))) (ae.kp.trans ay.kp) ?_
 refine Ll 24 O (Ua O O (by rw[List.length_append,aV,eT,J9];omega)) (ae.kp.trans ay.kp) ?_
 refine OA 25 O zaO O ((gu.ext' cx).write (λb hb=>by have:=hX b hb;have:=cA.size;have:=cx.size;omega) hK (no:=((st+q:Nat):Int)) (by omega) (by omega) _ pA) ?_
 rintro _ w5 ⟨rfl,gS,ak⟩
 refine⟨cx.kp.trans ak,?_⟩
 have j6:Kp (λb=>¬X b) w3 w5:=cx.kp.trans ak
 refine Ll 26 O (Ni O) (cx.kp.trans ak)$ qE$ LS.qb (e:=[(6,_)]) ?_
 refine Lh Tryz.func36 O ?_
 exact⟨_,rfl,rfl,_,gS,DF w5 (j6.Lg aq (λe=>e ew)),λy hy=>Nn _ _ (by rw[gR] at hy;omega),cA.trans j6⟩
end
end Go.Proofs.YtfgjaafcgghnoaaGreatDoor
