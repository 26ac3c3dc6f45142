/- Merged by program. -/
import Derived.Test.YtfgjaafcgghnoaaGreatDoorCTp6
import Derived.Shelf.Strings.Repeat
import Derived.Test.YtfgjaafcgghnoaaGreatDoorProg
import Derived.Room.AppendFits
import Derived.Lib.UnsafeStr
set_option linter.all false
set_option maxRecDepth 1000000
set_option maxHeartbeats 16000000
namespace Go.Proofs.YtfgjaafcgghnoaaGreatDoor
open Go Go.RowKit
def OB (l:List Pg):Nat:=l.countP (·.d)
structure Sw (P:Ol)(txt:Int->Bytes)(K:Nat):Prop where
 aok:P.A.Ok
 asz:P.A.size<=1000
 keys:∀x,x∈P.l.map (·.k)↔P.A.held x
 nd:(P.l.map (·.k)).Nodup
 rng:∀g∈P.l,0<=g.k/\g.k<(P.L.length:Int)
 tx:∀g∈P.l,g.t=txt g.k
 cl:∀g∈P.l,g.d=false->P.D.now g.k=txt g.k
 out:∀x,0<=x->x<(P.L.length:Int)->¬P.A.held x->P.D.now x=txt x
 len:∀x,0<=x->x<(P.L.length:Int)->(txt x).length=512
 down:P.D.down=false
 due:P.D.due=0
 B:P.D.B=P.L.length
 N:P.D.N=1
 ca:P.D.calls+(OB P.l:Int)<=(K:Int)
 cc:P.D.cache.length+OB P.l<=K
 P5:P.D.P5.length<=17592186044416
def Vp (txt:Int->Bytes)(no:Int)(wt:Option Bytes):Int->Bytes:=λx=>if x=no then wt.getD (txt x) else txt x
theorem Vs (txt:Int->Bytes)(no:Int):Vp txt no none=txt:=by
 funext x
 unfold Vp
 split<;>rfl
theorem OI (txt:Int->Bytes)(no:Int)(wt:Option Bytes):Vp txt no wt no=wt.getD (txt no):=if_pos O
theorem Od (txt:Int->Bytes){no x:Int}(wt:Option Bytes)(h:x≠no):Vp txt no wt x=txt x:=if_neg h
def wN (wt:Option Bytes):Nat:=if wt.isSome then 1 else 0
theorem z1n (D:Dev)(n x:Int)(s:Bytes):((D.push n s).count).now x=if n=x then s else D.now x:=by
 unfold Dev.now Dev.count Dev.push
 dsimp only
 rw[z2F]
 split<;>rfl
theorem Z8 (D:Dev)(z:Int)(x:Int):({D with reads:=z}:Dev).now x=D.now x:=rfl
section
variable {P:Ol}{txt:Int->Bytes}{K:Nat}{no:Int}{wt:Option Bytes}
theorem Wc (no:Int)(t:Bytes):∀{l:List Pg},(l.map (·.k)).Nodup->OB (On l no t true)<=OB l+1
 |[],_=>Nat.zero_le _
 | g :: l, hn => by
   rw[List.map_cons,List.nodup_cons] at hn;by_cases h:g.k=no
   ·have e:On l no t true=l:=by
     unfold On
     conv=>rhs;rw[<-List.map_id l]
     refine List.map_congr_left λg' cO=>?_;rw[if_neg λe=>hn.1 (List.mem_map.2 ⟨g',cO,by rw[e,h]⟩)];rfl
    have e2:On (g::l) no t true={g with t:=t,d:=true}::l:=by
     show(if g.k=no then _ else g)::On l no t true=_;rw[if_pos h,e]
    rw[e2];unfold OB;rw[List.countP_cons,List.countP_cons];split<;>split<;>omega
   ·have ih:=Wc no t hn.2
    have e2:On (g::l) no t true=g::On l no t true:=by
     show(if g.k=no then _ else g)::On l no t true=_;rw[if_neg h]
    rw[e2];unfold OB at*;rw[List.countP_cons,List.countP_cons];omega
theorem Yg {l:List Pg}(hn:(l.map (·.k)).Nodup){g:Pg}(hg:g∈l):On l g.k g.t g.d=l:=by
 unfold On
 conv=>rhs;rw[<-List.map_id l]
 refine List.map_congr_left λg' cO=>?_
 by_cases h:g'.k=g.k
 ·rw[if_pos h,Pp hn cO hg h];rfl
 ·rw[if_neg h];rfl
theorem z4F (l:List Pg)(k:Int)(t:Bytes)(d:Bool):(On l k t d).map (·.k)=l.map (·.k):=by
 unfold On
 rw[List.map_map]
 refine List.map_congr_left λg _=>?_
 by_cases h:g.k=k
 ·simp only[Function.comp_apply,if_pos h]
 ·simp only[Function.comp_apply,if_neg h]
theorem VC {l:List Pg}{k:Int}{t:Bytes}{d:Bool}{g:Pg}(h:g∈On l k t d):(g∈l/\g.k≠k)\/(g.k=k/\g.t=t/\g.d=d/\∃g'∈l,g'.k=k):=by
 obtain⟨g',cO,rfl⟩:=List.mem_map.1 h
 by_cases e:g'.k=k
 ·rw[if_pos e];exact .inr ⟨e,rfl,rfl,g',cO,e⟩
 ·rw[if_neg e];exact .inl ⟨cO,e⟩
theorem Sw.VR (h:Sw P txt K){g:Pg}(hg:g∈P.l)(oJ:∀t,wt=some t->t.length=512){P':Ol}(hA:P'.A=(P.A.Oc g.k).1)(hl:P'.l=On P.l g.k (wt.getD g.t) (wt.isSome ||g.d))(hL:P'.L=P.L)(hD:P'.D=P.D):Sw P' (Vp txt g.k wt) (K+wN wt):=by
 have ht:=Arc.XU h.aok g.k
 have bD:P.A.held g.k:=(h.keys _).1 (List.mem_map.2 ⟨g,hg,rfl⟩)
 have gd:=ht.no (ht.VR.2 bD)
 have uE:∀x,P'.A.held x↔P.A.held x:=λx=>by
  rw[hA,ht.held,gd];constructor
  ·rintro(e|e)
   ·rw[e];exact bD
   ·exact e.1
  ·intro e;exact .inr ⟨e,by simp⟩
 have hr:=h.rng g hg
 have qe:OB P'.l<=OB P.l+wN wt:=by
  rw[hl]
  cases wt with
  |none=>rw[show(none:Option Bytes).getD g.t=g.t from rfl,show((none:Option Bytes).isSome ||g.d)=g.d from rfl,Yg h.nd hg];exact Nat.le_add_right _ _
  |some t=>exact Wc _ _ h.nd
 have Gi:=h.ca
 have Dz:=h.cc
 refine⟨by rw[hA];exact ht.ok,by rw[hA,ht.size];exact h.asz,λx=>by rw[hl,z4F,h.keys,uE],by rw[hl,z4F];exact h.nd,λg' cO=>?_,λg' cO=>?_,λg' cO hd=>?_,λx h0 h1 hx=>?_,λx h0 h1=>?_,by rw[hD];exact h.down,by rw[hD];exact h.due,by rw[hD,hL];exact h.B,by rw[hD];exact h.N,by rw[hD];omega,by rw[hD];omega,by rw[hD];exact h.P5⟩
 ·rw[hL];rw[hl] at cO;rcases VC cO with e| e
  ·exact h.rng g' e.1
  ·rw[e.1];exact hr
 ·rw[hl] at cO;rcases VC cO with e| e
  ·rw[Od _ _ e.2];exact h.tx g' e.1
  ·rw[e.1,OI,e.2.1,h.tx g hg]
 ·rw[hD];rw[hl] at cO;rcases VC cO with e| e
  ·rw[Od _ _ e.2];exact h.cl g' e.1 hd
  ·rw[e.2.2.1] at hd
   have hw:wt=none:=by
    cases wt with
    |none=>rfl
    |some t=>cases hd
   rw[e.1,hw,Vs];rw[hw] at hd;exact h.cl g hg hd
 ·rw[hL] at h1;rw[uE] at hx;have bO:x≠g.k:=λe=>hx (e▸bD);rw[hD,Od _ _ bO];exact h.out x h0 h1 hx
 ·rw[hL] at h1;by_cases e:x=g.k
  ·rw[e,OI]
   cases hw:wt with
   |none=>exact h.len _ (e▸h0) (e▸h1)
   |some t=>exact oJ t hw
  ·rw[Od _ _ e];exact h.len x h0 h1
def dropPg:List Pg->Int->List Pg
 |[],_=>[]
 |g::l,k=>if g.k=k then l else g::dropPg l k
theorem RG (g:Pg)(l:List Pg)(k:Int):dropPg (g::l) k=if g.k=k then l else g::dropPg l k:=rfl
theorem YE (l:List Pg)(k:Int):delL (Rs l) k=Rs (dropPg l k):=by
 induction l with
 |nil=>rfl
 | cons g l ih =>
   show(if k=g.k then Rs l else(g.k,ptr g.b 0)::delL (Rs l) k)=_;rw[RG];by_cases h:k=g.k
   ·rw[if_pos h,if_pos h.symm]
   ·rw[if_neg h,if_neg (λe=>h e.symm),ih];rfl
theorem PB:∀(l:List Pg) (k:Int),(dropPg l k).Sublist l
 |[],_=>List.Sublist.refl _
 | g :: l, k => by
   rw[RG];split
   ·exact List.sublist_cons_self _ _
   ·exact(PB l k).cons_cons _
theorem Xx {l:List Pg}(hn:(l.map (·.k)).Nodup)(k x:Int):x∈(dropPg l k).map (·.k)↔x∈l.map (·.k)/\x≠k:=by
 induction l with
 |nil=>simp[dropPg]
 | cons g l ih =>
   rw[List.map_cons,List.nodup_cons] at hn;rw[RG];by_cases h:g.k=k
   ·rw[if_pos h,List.map_cons,List.mem_cons];constructor
    ·intro e;exact⟨.inr e,λe2=>hn.1 (by rw[h,<-e2];exact e)⟩
    ·rintro⟨e|e,e2⟩
     ·exact absurd (e.trans h) e2
     ·exact e
   ·rw[if_neg h,List.map_cons,List.map_cons,List.mem_cons,List.mem_cons];have:=ih hn.2;rw[this];constructor
    ·rintro(e|e)
     ·exact⟨.inl e,λe2=>h (by rw[<-e,e2])⟩
     ·exact⟨.inr e.1,e.2⟩
    ·rintro⟨e|e,e2⟩
     ·exact .inl e
     ·exact .inr ⟨e,e2⟩
theorem ZA {l:List Pg}{g:Pg}(hn:(l.map (·.k)).Nodup)(hg:g∈l):OB (dropPg l g.k)+(if g.d then 1 else 0)=OB l:=by
 induction l with
 |nil=>cases hg
 | cons a l ih =>
   rw[List.map_cons,List.nodup_cons] at hn;rw[RG];by_cases h:a.k=g.k
   ·rw[if_pos h]
    have e:a=g:=by
     rcases List.mem_cons.1 hg with e| e
     ·exact e.symm
     ·exact absurd (List.mem_map.2 ⟨g,e,h.symm⟩) hn.1
    rw[e];unfold OB;rw[List.countP_cons]
   ·rw[if_neg h]
    have aa:g∈l:=by
     rcases List.mem_cons.1 hg with e| e
     ·exact absurd (by rw[e]) h
     ·exact e
    have:=ih hn.2 aa;unfold OB at*;rw[List.countP_cons,List.countP_cons];omega
structure z9G (P:Ol)(txt:Int->Bytes)(K:Nat)(g:Option Int)(D':Dev)(l':List Pg):Prop where
 now:∀x,0<=x->x<(P.L.length:Int)->x∉l'.map (·.k)->D'.now x=txt x
 cl:∀q∈l',q.d=false->D'.now q.k=txt q.k
 sub:l'.Sublist P.l
 keys:∀x,x∈l'.map (·.k)↔x∈P.l.map (·.k)/\g≠some x
 down:D'.down=false
 due:D'.due=0
 B:D'.B=P.D.B
 N:D'.N=P.D.N
 ca:D'.calls+(OB l':Int)<=(K:Int)
 cc:D'.cache.length+OB l'<=K
 P5:D'.P5.length<=17592186044416
theorem Sw.zeM (h:Sw P txt K):z9G P txt K none P.D P.l:=
 ⟨λx h0 h1 hx=>h.out x h0 h1 λe=>hx ((h.keys x).2 e),h.cl,List.Sublist.refl _,λx=>by simp,h.down,h.due,rfl,rfl,h.ca,h.cc,h.P5⟩
theorem Sw.zcr (h:Sw P txt K){g:Pg}(hg:g∈P.l):z9G P txt K (some g.k) (if g.d then(P.D.push g.k g.t).count else P.D) (dropPg P.l g.k):=by
 have yd:=ZA h.nd hg
 have hk:=Xx h.nd g.k
 have Gi:=h.ca
 have Dz:=h.cc
 have dv:=PB P.l g.k
 have gP:∀x,0<=x->x<(P.L.length:Int)->x∉(dropPg P.l g.k).map (·.k)->x=g.k\/¬P.A.held x:=λx h0 h1 hx=>by
  rw[hk,not_and] at hx;by_cases e:x=g.k
  ·exact .inl e
  ·exact .inr λe2=>hx ((h.keys x).2 e2) e
 have gh:∀q∈dropPg P.l g.k,q∈P.l/\q.k≠g.k:=λq hq=>⟨dv.subset hq,((hk q.k).1 (List.mem_map.2 ⟨q,hq,rfl⟩)).2⟩
 have ru:∀x,x∈(dropPg P.l g.k).map (·.k)↔x∈P.l.map (·.k)/\some g.k≠some x:=λx=>by
  rw[hk];simp only[ne_eq,Option.some.injEq];constructor
  ·rintro⟨a,b⟩;exact⟨a,λe=>b e.symm⟩
  ·rintro⟨a,b⟩;exact⟨a,λe=>b e.symm⟩
 cases hd:g.d with
 | true =>
   rw[hd] at yd;rw[if_pos O] at yd⊢;refine⟨λx h0 h1 hx=>?_,λq hq sS=>?_,dv,ru,h.down,?_,rfl,rfl,?_,?_,h.P5⟩
   ·rw[z1n];rcases gP x h0 h1 hx with e| e
    ·rw[if_pos e.symm,e,h.tx g hg]
    ·by_cases e2:g.k=x
     ·rw[if_pos e2,<-e2,h.tx g hg]
     ·rw[if_neg e2];exact h.out x h0 h1 e
   ·obtain⟨a,b⟩:=gh q hq;rw[z1n,if_neg λe=>b e.symm];exact h.cl q a sS
   ·have:=h.due;show(if P.D.due=0 then(0:Int) else _)=0;rw[if_pos this]
   ·show P.D.calls+1+_<=_;omega
   ·show(P.D.cache++[_]).length+_<=_
    rw[List.length_append,List.length_singleton];omega
 | false =>
   rw[hd] at yd;rw[if_neg (by simp)] at yd⊢;refine⟨λx h0 h1 hx=>?_,λq hq sS=>?_,dv,ru,h.down,h.due,rfl,rfl,by omega,by omega,h.P5⟩
   ·rcases gP x h0 h1 hx with e| e
    ·rw[e];exact h.cl g hg hd
    ·exact h.out x h0 h1 e
   ·exact h.cl q (gh q hq).1 sS
theorem Sw.zdf (h:Sw P txt K)(h0:0<=no)(h1:no<(P.L.length:Int))(hh:¬P.A.held no)(oJ:∀t,wt=some t->t.length=512){D':Dev}{l':List Pg}(hg:z9G P txt K (P.A.Oc no).2.2 D' l'){P':Ol}{b:Nat}{z:Int}
  (hA:P'.A=(P.A.Oc no).1) (hl:P'.l=l'++[⟨no,b,wt.getD (txt no),wt.isSome⟩]) (hL:P'.L=P.L) (hD:P'.D={D' with reads:=z}):Sw P' (Vp txt no wt) (K+wN wt):=by
 have ht:=Arc.XU h.aok no
 have Je:=hg.ca
 have Jf:=hg.cc
 have jV:∀x,x∈P'.l.map (·.k)↔x=no\/x∈l'.map (·.k):=λx=>by
  rw[hl,List.map_append,List.mem_append,List.map_singleton,List.mem_singleton,or_comm]
 have uE:∀x,P'.A.held x↔x=no\/x∈l'.map (·.k):=λx=>by
  rw[hA,ht.held,hg.keys,h.keys]
 have lI:no∉l'.map (·.k):=λe=>hh ((h.keys no).1 ((hg.keys no).1 e).1)
 have qe:OB P'.l=OB l'+wN wt:=by
  rw[hl];unfold OB wN;rw[List.countP_append,List.countP_singleton]
 refine⟨by rw[hA];exact ht.ok,by rw[hA,ht.size];exact h.asz,λx=>by rw[jV,uE],?_,λg jn=>?_,λg jn=>?_,λg jn hd=>?_,λx x0 x1 hx=>?_,λx x0 x1=>?_,by rw[hD];exact hg.down,by rw[hD];exact hg.due,by rw[hD,hL];exact hg.B.trans h.B,by rw[hD];exact hg.N.trans h.N,by rw[hD];show D'.calls+_<=_;omega,by rw[hD];show D'.cache.length+_<=_;omega,by rw[hD];exact hg.P5⟩
 ·rw[hl,List.map_append,List.nodup_append];refine⟨(hg.sub.map _).nodup h.nd,by simp,λa ha c hc e=>?_⟩;rw[List.map_singleton,List.mem_singleton] at hc;exact lI (by rw[<-show a=no from e.trans hc];exact ha)
 ·rw[hL];rw[hl] at jn;rcases List.mem_append.1 jn with e| e
  ·exact h.rng g (hg.sub.subset e)
  ·rw[List.mem_singleton.1 e];exact⟨h0,h1⟩
 ·rw[hl] at jn;rcases List.mem_append.1 jn with e| e
  ·rw[Od _ _ (λe2=>lI (by rw[<-e2];exact List.mem_map.2 ⟨g,e,rfl⟩))];exact h.tx g (hg.sub.subset e)
  ·rw[List.mem_singleton.1 e,OI]
 ·rw[hD,Z8];rw[hl] at jn;rcases List.mem_append.1 jn with e| e
  ·rw[Od _ _ (λe2=>lI (by rw[<-e2];exact List.mem_map.2 ⟨g,e,rfl⟩))];exact hg.cl g e hd
  ·rw[List.mem_singleton.1 e] at hd⊢
   have hw:wt=none:=by
    cases wt with
    |none=>rfl
    |some t=>cases hd
   rw[hw,Vs];exact hg.now no h0 h1 lI
 ·rw[hL] at x1;rw[uE,not_or] at hx;rw[hD,Z8,Od _ _ hx.1];exact hg.now x x0 x1 hx.2
 ·rw[hL] at x1;by_cases e:x=no
  ·rw[e,OI]
   cases hw:wt with
   |none=>exact h.len _ h0 h1
   |some t=>exact oJ t hw
  ·rw[Od _ _ e];exact h.len x x0 x1
end
section
variable {w w' w0:World}{P P0 P':Ol}{S:Nat->Prop}{txt:Int->Bytes}{K:Nat}
theorem R1.cells (h:R1 w P):M7 w P.s [ptr P.d 0,ptr P.m 0,ptr P.c 0,.map (some P.pm),I (P.fr:Int),I P.h,I P.mi,I P.wr,I 0,I 0,I 0,.bool false] 103:=h.LY
theorem Sw.zbb (h:Sw P txt K):P.D.Small K:=⟨by have:=h.ca;omega,by have:=h.cc;omega,trivial,h.P5⟩
theorem XZ (h:R1 w P)(hN:P.D.N=1):Mw Tryz.prog 56 [ptr P.s 0] w λv w'=>v=I 512/\w'=w:=by
 have hB:=h.cells
 have cG:=z63 h.dev
 rw[hN] at cG
 refine It (e:=[(0,_)]) Tryz.func56 O Tryz.ntmps56 O O$ qN O$ M4 O$ run_seq$ qN O$ LW O$ qV (N7 To O O)$ LX$ An O$ py$ qN O$ LW O$ MC O$ Ma RF O ?_
 refine qV (M1 U27 O O hB O)$ Mn zbn O (cG) ?_
 rintro _ w ⟨rfl,rfl⟩
 refine M4 O$ LZ Tryz.func56 O ?_
 exact⟨_,rfl,rfl,rfl⟩
theorem z61 (h:R1 w P):Mw Tryz.prog 129 [ptr P.s 0] w λv w'=>v=ptr P.d 0/\w'=w:=by
 have hB:=h.cells
 refine It (e:=[(0,_)]) Tryz.func129 O Tryz.ntmps129 O O$ qN O$ M4 O$ run_seq$ qN O$ LW O$ qV (N7 To O O)$ LX$ An O$ py$ qN O$ LW O$ MC O$ Ma RF O ?_
 refine qV (M1 U27 O O hB O)$ M4 O$ LZ Tryz.func129 O ?_
 exact⟨_,rfl,rfl,rfl⟩
theorem Wi (h:R1 w P)(hd:P.D.down=false):Mw Tryz.prog 109 [ptr P.s 0] w λv w'=>v=I 0/\w'=w:=by
 have hB:=h.cells
 have qe:=z4K h.dev
 rw[hd] at qe
 refine It (e:=[(0,_)]) Tryz.func109 O Tryz.ntmps109 O O$ qN O$ M4 O$ run_seq$ LU$ qN O$ LW O$ qV (N7 To O O)$ M4 O$ An O$ qN O$ LW O$ MC O$ Ma z4u O ?_
 refine qV (M1 U4 O O hB O)$ Md O O$ MC O$ Ma RF O$ qV (M1 U27 O O hB O)$ Mn zcV O (qe) ?_
 rintro _ w ⟨rfl,rfl⟩
 refine MN O O$ M4 O$ An O$ py$ LV$ qN O$ M4 O$ LZ Tryz.func109 O ?_
 exact⟨_,rfl,rfl,rfl⟩
theorem z0D (h:R1 w P)(sZ:P.D.Small K)(qe:P.D.down=false)(Jg:P.D.due=0)(Jh:P.D.B=P.L.length)(jb:P.D.N=1)(hK:K<1000000000000){b:Nat}{t:Bytes}{d:Bool}{no:Int}(h0:0<=no)(h1:no<(P.L.length:Int))(ht:t.length=512)(hb:M7 w b (pgC t d) 219)(ll:∀i,¬P.cp i b):
  Mw Tryz.prog 151 [ptr P.s 0,I no,ptr b 0] w λv w'=>v=I 0/\∃Fd' wr',R1 w' {P with D:=if d then(P.D.push no t).count else P.D,Fd:=Fd',wr:=wr'}/\Kp (λj=>j=b\/P.cp 0 j\/P.cp 1 j) w w'/\(∀j,Fd' j->P.Fd j\/w.heap.size<=j):=by
 replace hb:M7 w b [S t,.bool d,I 0] 219:=hb
 have hB:=h.cells
 have hg:=Ext.Mm w
 have qC:P.s≠b:=λe=>ll 0 e.symm
 have Gj:¬P.Fd P.s:=λe=>h.S4 0 1 (by decide) P.s O e
 have DA:¬P.Fd b:=ll 1
 refine It (e:=[(0,_),(1,_),(2,_)]) Tryz.func151 O Tryz.ntmps151 O O ?_
 cases d with
 | false =>
   refine qN O$ M4 O$ run_seq$ qN O$ LW O$ MC O$ Ma S5 O$ Ma ZJ O$ qV (M1 U4 O O hb O)$ qV ((by first|exact MX O|exact Oy O)) ?_;refine LX$ M9 O$ qN O$ M4 O$ LZ Tryz.func151 O (⟨_,rfl,rfl,P.Fd,P.wr,?_,Kp.refl _ _,λj e=> .inl e⟩);rw[if_neg (by simp)]
   exact h
 | true =>
   refine qN O$ M4 O$ run_seq$ qN O$ LW O$ MC O$ Ma S5 O$ Ma ZJ O$ qV (M1 U4 O O hb O)$ qV ((by first|exact MX O|exact Oy O)) ?_;have DB:=z2x no t (h.dev.ext hg) sZ hK;rw[z80 qe Jg ⟨h0,by rw[Jh];exact h1⟩ (by rw[jb];exact ht)] at DB;dsimp only at DB;refine LX$ An O$ py$ run_seq$ run_seq$ NV (λw'=>Kp P.Fd w w') O$ Mj 0 O O (hg.kp)$ M3 1 O (N4 O) (hg.kp)$ M3 2 O (My RF O) (hg.kp)$ qT 3 O (λ_ h=>(by first|exact M1 U27 O O (h.LY hB Gj) O|exact M1 U27 O O (h.LY hb DA) O)) (hg.kp) ?_;refine Mj 4 O O (hg.kp)$ Mj 5 O O (hg.kp)$ M3 6 O (N4 O) (hg.kp)$ M3 7 O (My S5 O) (hg.kp)$ M3 8 O (My ZO O) (hg.kp)$ qT 9 O (λ_ h=>(by first|exact M1 U9 O O (h.LY hB Gj) O|exact M1 U9 O O (h.LY hb DA) O)) (hg.kp) ?_;refine Pm 10 O zeg O (DB) ?_;rintro _ w1 ⟨rfl,mK⟩;refine⟨hg.kp.trans mK.kpF,?_⟩;obtain⟨Fd',cW,oq⟩:=((h.r (Ext.refl w)).ext hg).dev mK;have aK:Kp P.Fd w w1:=hg.kp.trans mK.kpF;have pF:∀j,Fd' j->P.Fd j\/w.heap.size<=j:=λj e=>(oq j e).imp id λe=>by have:=hg.size;omega
   refine M3 11 O (NX O) (hg.kp.trans mK.kpF)$ qE$ qN O$ LW O$ N9 O O ?_;have aj:=cW.m.cells;refine LX$ An O$ py$ qN O$ LW O$ MC O$ Ma TA O$ Ma z8n O$ qV (M1 U3 O O aj O)$ qV (z7j O O)$ MC O$ Ma TA O$ Ma z8n O$ Mb O (NT MV O O O aj (by simp)) ?_;rintro w2 ⟨am,ao⟩;obtain⟨z,hz⟩:∃z,IntKind.i64.wrap (P.wr+1)=z:=⟨_,rfl⟩;rw[hz] at am;have dB:=cW.cnt (a:=P.h) (b:=P.mi) (c:=z) am ao;have bY:=ao.LY (aK.LY hb DA) (λe=>qC e.symm);refine LX$ Mz.qb (e:=[(2,_),(6,_)]) ?_;refine qN O$ LW O$ MC O$ Ma S5 O$ Ma ZJ O$ Mb O (NT Sx O O O bY (by simp)) ?_;rintro w3 ⟨ek,au⟩
   have DC:∀i,¬Ol.cp {P with D:=(P.D.push no t).count,Fd:=Fd',h:=P.h,mi:=P.mi,wr:=z} i b:=λi e=>by
    match i,e with
    |0,e=>exact ll 0 e
    | 1, e =>
      rcases pF b e with e| e
      ·exact ll 1 e
      ·have:=hb.lt;omega
    |2,e=>exact ll 2 e
    |3,e=>exact ll 3 e
    |4,e=>exact ll 4 e
    |5,e=>exact ll 5 e
   refine qM O$ M4 O$ LZ Tryz.func151 O (⟨_,rfl,rfl,Fd',z,?_,?_,pF⟩)
   ·rw[if_pos O];exact dB.m.kp au λj ⟨i,hj⟩ e=>DC i (e▸hj)
   ·exact((aK.Mc λj e=> .inr (.inr e)).trans (ao.Mc λj e=> .inr (.inl e))).trans (au.Mc λj e=> .inl e)
end
structure Ol.Same (P P':Ol):Prop where
 s:P'.s=P.s
 d:P'.d=P.d
 m:P'.m=P.m
 gi:P'.gi=P.gi
 c:P'.c=P.c
 pm:P'.pm=P.pm
 p:P'.p=P.p
 fr:P'.fr=P.fr
 L:P'.L=P.L
theorem Ol.Same.trans {P P' P2:Ol}(h:P.Same P')(h2:P'.Same P2):P.Same P2:=
 ⟨h2.s.trans h.s,h2.d.trans h.d,h2.m.trans h.m,h2.gi.trans h.gi,h2.c.trans h.c,h2.pm.trans h.pm,h2.p.trans h.p,h2.fr.trans h.fr,h2.L.trans h.L⟩
theorem XI {l:List Pg}{k:Int}{b:Nat}{t0 t:Bytes}{d0 d:Bool}(h:k∉l.map (·.k)):On (l++[⟨k,b,t0,d0⟩]) k t d=l++[⟨k,b,t,d⟩]:=by
 unfold On
 rw[List.map_append]
 congr 1
 ·conv=>rhs;rw[<-List.map_id l]
  refine List.map_congr_left λg hg=>?_;rw[if_neg λe=>h (List.mem_map.2 ⟨g,hg,e⟩)];rfl
 ·show [if k=k then _ else _]=_;rw[if_pos O]
section
variable {w w' w0:World}{P P0 P':Ol}{S':Nat->Prop}{txt:Int->Bytes}{K:Nat}
theorem R1.get (h:R1 w P){q:Pg}(hq:q∈P.l):getL (Rs P.l) q.k=some (ptr q.b 0):=
 z0E h.mp.nd (List.mem_map.2 ⟨q,hq,rfl⟩)
theorem QQ.write (h:QQ w0 P0 w P){D':Dev}{Fd':Nat->Prop}{wr':Int}{b:Nat}(hm:R1 w' {P with D:=D',Fd:=Fd',wr:=wr'})(hk:Kp (λj=>j=b\/P.cp 0 j\/P.cp 1 j) w w')(hF:∀j,Fd' j->P.Fd j\/w.heap.size<=j)(hb:P0.fp b\/w0.heap.size<=b):QQ w0 P0 w' {P with D:=D',Fd:=Fd',wr:=wr'}:=
 ⟨hm,λj ⟨i,hj⟩=>by
  match i,hj with
  |0,e=>exact h.fp j ⟨0,e⟩
  | 1, e =>
    rcases hF j e with e| e
    ·exact h.fp j ⟨1,e⟩
    ·exact .inr (by have:=h.k.size;omega)
  |2,e=>exact h.fp j ⟨2,e⟩
  |3,e=>exact h.fp j ⟨3,e⟩
  |4,e=>exact h.fp j ⟨4,e⟩
  |5,e=>exact h.fp j ⟨5,e⟩,h.k.LS hk λj e=>by
  rcases e with e|e| e
  ·rw[e];exact hb.symm
  ·exact(h.fp j ⟨0,e⟩).symm
  ·exact(h.fp j ⟨1,e⟩).symm⟩
theorem Wy (hr : QQ w0 P0 w P)(hI : Sw P txt K)(hK : K < 1000000000000){no : Int}(h0 : 0 <= no)(h1 : no < (P.L.length : Int))(wt : Option Bytes)(oJ : ∀ t, wt = some t -> t.length = 512){x : Nat}{x0 : Value}(gP : w0.heap.size <= x)(ew : ∀ i, ¬ P.cp i x)(eZ : M7 w x [x0] 9){f : Nat}(oR : CF Tryz.prog f)
  (DD:∀(w1:World) (b:Nat) (t:Bytes) (d:Bool),b≠x->M7 w1 b (pgC t d) 219->M7 w1 x [x0] 9->Mw Tryz.prog f [ptr b 0,ptr x 0] w1 λv w2=>v= .tuple #[]/\M7 w2 b (pgC (wt.getD t) (wt.isSome ||d)) 219/\M7 w2 x [S (wt.getD t)] 9/\Kp (λj=>j=if wt.isSome then b else x) w1 w2):
  Mw Tryz.prog 110 [ptr P.s 0,I no,.bool wt.isSome,.func (.func f) #[] #[ptr x 0]] w λv w'=>v=I 0/\M7 w' x [S (wt.getD (txt no))] 9/\∃P',QQ w0 P0 w' P'/\Sw P' (Vp txt no wt) (K+wN wt)/\P.Same P'/\∀i,¬P'.cp i x:=by
 have hB:=hr.m.cells
 have fj:=T3 hr.m.dev
 rw[hI.B] at fj
 have lx:=eZ.lt
 have gj:=Arc.XU hI.aok no
 obtain⟨T,hT⟩:∃T,P.A.Oc no=T:=⟨_,rfl⟩
 have eM:=z2T hr.m.arc hI.aok hI.asz (k:=no)
 rw[hT] at gj eM
 obtain⟨A2,VR,g⟩:=T
 dsimp only at gj eM
 have n4096:=hr.m.ext.n
 refine It (e:=[(0,_),(1,_),(2,_),(3,_)]) Tryz.func110 O Tryz.ntmps110 O O$ qN O$ M4 O$ run_seq$ qN O$ LW O$ Ni O O$ ML$ Md O O$ LW O$ MC O$ Ma RF O$ qV (M1 U27 O O hB O)$ Mn z0v O (fj) ?_
 rintro _ w ⟨rfl,rfl⟩
 refine PD O O$ ML$ MN O O$ LX$ An O$ py$ qN O$ LW O$ MC O$ Ma z4y O$ qV (M1 z5F O O hB O)$ LW O$ Mn zcc O (eM) ?_
 rintro _ w1 ⟨rfl,V2,rv⟩
 have cW:=hr.arc rv
 have DE:=rv.k.LY eZ (ew 3)
 have z1:=rv.k.size
 refine LW O$ qV (O6 (v:=z8N VR g) O O)$ qV (O6 (v:=I 0) O O)$ M5 O O (Oo (cs:=[_,_,_]) MD O) ?_
 rintro _ w2 ⟨b9,rfl,mJ,af,cJ⟩
 have z2:=af.size
 refine Mb O (MO (news:=Oj VR g) MD O O O O cJ (by simp)) ?_
 rintro w3 ⟨cm,au⟩
 replace cm:M7 w3 b9 [.bool VR,.bool g.isSome,I (g.getD 0)] 265:=cm
 have aN:Ext w1 w3:=af.LS au (λj e=>by omega)
 have ci:=cW.ext aN
 have ye:=aN.LY DE
 have z01:=cW.k.size
 have z13:=aN.size
 have eE:∀i,¬Ol.cp {P with A:=A2,V:=V2} i x:=λi e=>by
  match i,e with
  |0,e=>exact ew 0 e
  |1,e=>exact ew 1 e
  |2,e=>exact ew 2 e
  | 3, e =>
    rcases rv.fp x e with e| e
    ·exact ew 3 e
    ·omega
  |4,e=>exact ew 4 e
  |5,e=>exact ew 5 e
 have yf:∀i,¬Ol.cp {P with A:=A2,V:=V2} i b9:=cW.m.new (by omega)
 have Lx:b9≠x:=by omega
 have l93:=cm.lt
 have jc:=ci.m.cells
 dsimp only at jc
 refine M4 O$ Mz.qb (e:=[(0,_),(1,_),(2,_),(3,_),(8,_),(9,_),(10,_)]) ?_
 refine run_seq$ qN O$ LW O$ N9 O O$ LX$ An O$ py$ run_seq$ qN O$ Ma z8Y O ?_
 cases VR with
 | true =>
   have bD:=gj.VR.1 O
   obtain⟨q,hq,DF⟩:∃q∈P.l,q.k=no:=by
    obtain⟨q,a,b⟩:=List.mem_map.1 ((hI.keys no).2 bD);exact⟨q,a,b⟩
   subst DF;refine qV (M1 U4 O O cm O)$ LX$ M9 O$ qN O$ LW O$ MC O$ Ma TA O$ Ma z7d O$ qV (M1 U3 O O jc O)$ qV (z7j O O)$ MC O$ Ma TA O$ Ma z7d O$ Mb O (NT MV O O O jc (by simp)) ?_;rintro w4 ⟨aH,av⟩;obtain⟨z,hz⟩:∃z,IntKind.i64.wrap (P.h+1)=z:=⟨_,rfl⟩;rw[hz] at aH;have bH:=ci.cnt (a:=z) (b:=P.mi) (c:=P.wr) aH av;have gl:=bH.m.cells;dsimp only at gl;have qf:=av.LY ye (ew 0);have ev:=bH.m.get hq;dsimp only at ev;have qB:M7 w4 q.b (pgC q.t q.d) 219:=bH.m.pg q hq;have oK:q.b≠x:=λe=>ew 5 ⟨q,hq,e⟩;refine qM O$ Md O O$ MC O$ Ma Sj O$ qV (M1 SE O O gl O)$ LW O$ qV (ylk (k:=q.k) (K:=KI) SE (OL U3) z7g O O bH.m.mp.l) ?_;dsimp only;rw[ev];refine Ny O O (OK oR O O) (DD w4 q.b q.t q.d oK qB qf) ?_;rintro _ w5 ⟨rfl,DG,qg,ak⟩;refine LX$ Mz.qb (e:=[(0,_),(1,_),(2,_),(3,_),(8,_),(9,_),(10,_)]) ?_;refine qN O$ M4 O$ LZ Tryz.func110 O ?_;have DH:=hI.tx q hq;refine⟨_,rfl,rfl,by rw[<-DH];exact qg,?_⟩
   cases wt with
   | none =>
     have yg:∀i,¬Ol.cp {P with A:=A2,V:=V2,h:=z,mi:=P.mi,wr:=P.wr} i x:=λi e2=>by
      match i,e2 with
      |0,e2=>exact eE 0 e2
      |1,e2=>exact eE 1 e2
      |2,e2=>exact eE 2 e2
      |3,e2=>exact eE 3 e2
      |4,e2=>exact eE 4 e2
      |5,e2=>exact eE 5 e2
     refine⟨_,bH.loc ak (λj e=>⟨.inr (by rw[show j=x from e];exact gP),by rw[show j=x from e];exact yg⟩),hI.VR hq oJ (by rw[hT]) ?_ O O,⟨rfl,rfl,rfl,rfl,rfl,rfl,rfl,rfl,rfl⟩,yg⟩;show P.l=On P.l q.k q.t q.d
     exact(Yg hI.nd hq).symm
   | some t =>
     refine⟨_,bH.zdF hq DG ak,hI.VR hq oJ (by rw[hT]) O O O,⟨rfl,rfl,rfl,rfl,rfl,rfl,rfl,rfl,rfl⟩,λi e2=>?_⟩
     match i,e2 with
     |0,e2=>exact eE 0 e2
     |1,e2=>exact eE 1 e2
     |2,e2=>exact eE 2 e2
     |3,e2=>exact eE 3 e2
     |4,e2=>exact eE 4 e2
     | 5, ⟨g', cO, e2⟩ =>
       have h3:g'.b∈P.l.map (·.b):=by rw[<-ZP P.l q.k];exact List.mem_map.2 ⟨g',cO,rfl⟩
       obtain⟨g2,a,b⟩:=List.mem_map.1 h3
       exact eE 5 ⟨g2,a,b.trans e2⟩
 | false =>
   have DI:¬P.A.held no:=λe=>by have:=gj.VR.2 e;cases this
   refine qV (M1 U4 O O cm O)$ LX$ An O$ py$ qN O$ LW O$ MC O$ Ma TA O$ Ma z6C O$ qV (M1 U3 O O jc O)$ qV (z7j O O)$ MC O$ Ma TA O$ Ma z6C O ?_;refine Mb O (NT MV O O O jc (by simp)) ?_;rintro w4 ⟨aH,av⟩;obtain⟨z,hz⟩:∃z,IntKind.i64.wrap (P.mi+1)=z:=⟨_,rfl⟩;rw[hz] at aH;have bH:=ci.cnt (a:=P.h) (b:=z) (c:=P.wr) aH av;have gl:=bH.m.cells;dsimp only at gl;have qf:=av.LY ye (ew 0);have A3:b9≠P.s:=λe=>yf 0 e;have kk:=av.LY cm A3;have z4:=av.size;refine LX$ run_seq$ qN O$ Ma z8X O$ qV (M1 U4 O O kk O)$ LX ?_
   have Ji:∀(D':Dev) (Fd':Nat->Prop) (l':List Pg) (wr':Int),(∀j,Fd' j->P.Fd j\/w.heap.size<=j)->l'.Sublist P.l->∀b,(∀i,¬Ol.cp {P with A:=A2,V:=V2} i b)->b<w.heap.size\/(∀j,Fd' j->j≠b)->∀i,¬Ol.cp {P with A:=A2,V:=V2,D:=D',Fd:=Fd',l:=l',mi:=z,wr:=wr'} i b:=λD' Fd' l' wr' hF hl b hb bY i e=>by
    match i,e with
    |0,e=>exact hb 0 e
    | 1, e =>
      rcases bY with h| h
      ·rcases hF b e with e| e
       ·exact hb 1 e
       ·omega
      ·exact h b e O
    |2,e=>exact hb 2 e
    |3,e=>exact hb 3 e
    |4,e=>exact hb 4 e
    |5,⟨q,hq,e⟩=>exact hb 5 ⟨q,hl.subset hq,e⟩
   refine MM (λe' w'=>e'=[(0,ptr P.s 0),(1,I no),(2,.bool wt.isSome),(3,.func (.func f) #[] #[ptr x 0])]/\∃D' Fd' l' wr',QQ w0 P0 w' {P with A:=A2,V:=V2,D:=D',Fd:=Fd',l:=l',mi:=z,wr:=wr'}/\z9G P txt K g D' l'/\M7 w' x [x0] 9/\(∀j,Fd' j->P.Fd j\/w.heap.size<=j/\j≠x)) ?eu$ λeu=>?iE
   case eu =>
    rintro e' w5 ⟨rfl,D',Fd',l',wr',cg,eg,qg,uv⟩;have lI:no∉l'.map (·.k):=λe=>DI ((hI.keys no).1 ((eg.keys no).1 e).1);have z5:=cg.k.size;have lx5:=qg.lt
    have eF:∀i,¬Ol.cp {P with A:=A2,V:=V2,D:=D',Fd:=Fd',l:=l',mi:=z,wr:=wr'} i x:=λi e=>by
     match i,e with
     |0,e=>exact ew 0 e
     | 1, e =>
       rcases uv x e with e| e
       ·exact ew 1 e
       ·exact e.2 O
     |2,e=>exact ew 2 e
     |3,e=>exact eE 3 e
     |4,e=>exact ew 4 e
     |5,⟨q,hq,e⟩=>exact ew 5 ⟨q,eg.sub.subset hq,e⟩
    refine qN O$ qV (OO (cs:=[_,_,_]) zd4 O zc5 O O)$ M5 O O (O2 O (cs:=pgC [] false) O) ?_;rintro _ w6 ⟨b,rfl,hb,aJ,aS⟩;replace aS:M7 w6 b [S [],.bool false,I 0] 219:=aS;have cD:=cg.ext aJ;have nL:=aJ.LY qg;have nM:b≠x:=by omega
    have gm:∀i,¬Ol.cp {P with A:=A2,V:=V2,D:=D',Fd:=Fd',l:=l',mi:=z,wr:=wr'} i b:=cg.m.new (by omega);have lb6:=aS.lt
    have yh:getL (Rs l') no=none:=YO λe=>lI (by
     unfold Rs at e;rw[List.map_map] at e
     exact e)
    refine M4 O$ run_seq$ qN O$ LW O$ qV ((by first|exact MX O|exact Oy O)) ?_
    cases wt with
    | none =>
      refine LX$ M9 O ?_;have ma:=cD.m.cells;dsimp only at ma;have dX:=z57 no cD.m.dev (k:=K) ⟨by have:=eg.ca;show D'.calls<=_;omega,by have:=eg.cc;show D'.cache.length<=_;omega,trivial,eg.P5⟩ hK
      have Jj:D'.read no=({D' with reads:=IntKind.i64.wrap (D'.reads+1)},txt no,0):=by
       have hh:D'.has no=true:=by
        have:=eg.B;have:=hI.B;simp[Dev.has];omega
       unfold Dev.read;rw[if_neg (by rw[eg.down];simp),if_neg (by rw[hh];simp),eg.now no h0 h1 lI]
      dsimp only at dX;rw[Jj] at dX;dsimp only at dX;refine qN O$ Md O O$ MC O$ Ma RF O$ qV (M1 U27 O O ma O)$ LW O$ Mn zdH O (dX) ?_;rintro _ w7 ⟨rfl,ro⟩;obtain⟨Fd7,yi,yj⟩:=cD.dev ro;have ic:Kp Fd' w6 w7:=ro.kpF;have bK:=ic.LY aS (gm 1);have tv:=ic.LY nL (eF 1);refine LW O$ qV (O6 (v:=S (txt no)) O O)$ qV (O6 (v:=I 0) O O)$ MC O$ Ma S5 O$ Ma ZO O$ Mb O (NT Z0 O O O bK (by simp)) ?_;rintro w8 ⟨cu,bz⟩;replace cu:M7 w8 b (pgC (txt no) false) 219:=cu
      have tw:∀i,¬Ol.cp {P with A:=A2,V:=V2,D:={D' with reads:=IntKind.i64.wrap (D'.reads+1)},Fd:=Fd7,l:=l',mi:=z,wr:=wr'} i b:=λi e=>by
       match i,e with
       |0,e=>exact gm 0 e
       | 1, e =>
         rcases yj b e with e| e
         ·exact gm 1 e
         ·omega
       |2,e=>exact gm 2 e
       |3,e=>exact gm 3 e
       |4,e=>exact gm 4 e
       |5,e=>exact gm 5 e
      have kw:∀i,¬Ol.cp {P with A:=A2,V:=V2,D:={D' with reads:=IntKind.i64.wrap (D'.reads+1)},Fd:=Fd7,l:=l',mi:=z,wr:=wr'} i x:=λi e=>by
       match i,e with
       |0,e=>exact eF 0 e
       | 1, e =>
         rcases yj x e with e| e
         ·exact eF 1 e
         ·have:=nL.lt;omega
       |2,e=>exact eF 2 e
       |3,e=>exact eF 3 e
       |4,e=>exact eF 4 e
       |5,e=>exact eF 5 e
      have fu:=yi.loc bz (λj e=>by rw[show j=b from e];exact⟨.inr (by omega),tw⟩);have DJ:=bz.LY tv (λe=>nM e.symm);have yk:=fu.m.cells;dsimp only at yk;refine Me O$ qM O$ LW O$ N9 O O$ LX$ Mz.qb (e:=[(0,_),(1,_),(3,_),(10,_),(13,_),(106,_)]) ?_;refine An O$ py$ qN O$ LW O$ MC O$ Ma Sj O$ qV (M1 SE O O yk O)$ Md O O$ Mb O (zbL (k:=no) (K:=KI) SE (OL U3) O O O fu.m.mp) ?_;rintro w9 ⟨qh,aO⟩;dsimp only at qh;rw[R3 _ _ _ yh] at qh;have gS:=fu.ins (g:=⟨no,b,txt no,false⟩) ⟨by dsimp only;omega,tw⟩ cu (by unfold Rs at qh⊢;rw[List.map_append];exact qh) aO;have cJ:=aO.LY cu (tw 4);have tz:=aO.LY DJ (kw 4);refine qM O$ Md O O$ Ny O O (OK oR O O) (DD w9 b (txt no) false nM cJ tz) ?_;rintro _ w10 ⟨rfl,rx,nN,aq⟩;refine qM O$ M4 O$ LZ Tryz.func110 O ?_
      have yg:∀i,¬Ol.cp {P with A:=A2,V:=V2,D:={D' with reads:=IntKind.i64.wrap (D'.reads+1)},Fd:=Fd7,l:=l'++[⟨no,b,txt no,false⟩],mi:=z,wr:=wr'} i x:=λi e2=>by
       match i,e2 with
       |0,e2=>exact kw 0 e2
       |1,e2=>exact kw 1 e2
       |2,e2=>exact kw 2 e2
       |3,e2=>exact kw 3 e2
       |4,e2=>exact kw 4 e2
       | 5, ⟨q, hq, e2⟩ =>
         rcases List.mem_append.1 hq with e3|e3
         ·exact kw 5 ⟨q,e3,e2⟩
         ·rw[List.mem_singleton.1 e3] at e2;exact nM e2
      exact⟨_,rfl,rfl,nN,_,gS.loc aq (λj e=>⟨.inr (by rw[show j=x from e];exact gP),by rw[show j=x from e];exact yg⟩),hI.zdf h0 h1 DI oJ (by rw[hT];exact eg) (by rw[hT]) O O O,⟨rfl,rfl,rfl,rfl,rfl,rfl,rfl,rfl,rfl⟩,yg⟩
    | some t =>
      refine LX$ An O ?_;have ma:=cD.m.cells;dsimp only at ma;refine py$ qN O$ LW O$ MC O$ Ma Sj O$ qV (M1 SE O O ma O)$ Md O O$ Mb O (zbL (k:=no) (K:=KI) SE (OL U3) O O O cD.m.mp) ?_;rintro w9 ⟨qh,aO⟩;dsimp only at qh;rw[R3 _ _ _ yh] at qh;have gS:=cD.ins (g:=⟨no,b,[],false⟩) ⟨by dsimp only;omega,gm⟩ aS (by unfold Rs at qh⊢;rw[List.map_append];exact qh) aO;have cJ:=aO.LY aS (gm 4);have tz:=aO.LY nL (eF 4);refine qM O$ Md O O$ Ny O O (OK oR O O) (DD w9 b [] false nM cJ tz) ?_;rintro _ w10 ⟨rfl,rx,nN,aq⟩;refine qM O$ M4 O$ LZ Tryz.func110 O ?_;have nw:=gS.zdF (g:=⟨no,b,[],false⟩) (List.mem_append_right _ (List.mem_singleton.2 O)) rx aq;refine⟨_,rfl,rfl,nN,_,nw,hI.zdf h0 h1 DI oJ (by rw[hT];exact eg) (by rw[hT]) (XI lI) O O,⟨rfl,rfl,rfl,rfl,rfl,rfl,rfl,rfl,rfl⟩,λi e2=>?_⟩
      match i,e2 with
      |0,e2=>exact eF 0 e2
      |1,e2=>exact eF 1 e2
      |2,e2=>exact eF 2 e2
      |3,e2=>exact eF 3 e2
      |4,e2=>exact eF 4 e2
      | 5, ⟨q, hq, e2⟩ =>
        have e4:=XI (b:=b) (t0:=[]) (t:=(some t).getD []) (d0:=false) (d:=(some t).isSome ||false) lI;have Jk:q∈l'++[⟨no,b,(some t).getD [],(some t).isSome ||false⟩]:=by rw[<-e4];exact hq
        rcases List.mem_append.1 Jk with e3|e3
        ·exact eF 5 ⟨q,e3,e2⟩
        ·rw[List.mem_singleton.1 e3] at e2;exact nM e2
   case iE=>
    cases g with
    | none =>
      refine An O$ py ?_
      exact(eu _ _ ⟨rfl,_,_,_,P.wr,bH,hI.zeM,qf,λj e=> .inl e⟩).qb
    | some gk =>
      obtain⟨Jl,Jm⟩:=gj.gone gk O
      obtain⟨q,hq,DF⟩:∃q∈P.l,q.k=gk:=by
       obtain⟨q,a,b⟩:=List.mem_map.1 ((hI.keys gk).2 Jl);exact⟨q,a,b⟩
      subst DF;have ev:=bH.m.get hq;dsimp only at ev;have ag:=Ext.Mm w4;refine M9 O$ run_seq$ NV (λw'=>Ext w4 w') O$ Mj 0 O O (ag)$ M3 1 O (N4 O) ag$ M3 2 O (My Sj O) ag$ qT 3 O (λ_ h=>(by first|exact M1 SE O O (h.LY gl) O|exact M1 SE O O (h.LY kk) O)) ag ?_;refine M3 4 O (My Zy O) ag$ qT 5 O (λ_ h=>(by first|exact M1 U3 O O (h.LY gl) O|exact M1 U3 O O (h.LY kk) O)) ag ?_;refine qT 6 O (λ_ h=>ylk (k:=q.k) (K:=KI) SE (OL U3) z7g O O (bH.m.ext' h).mp.l) ag ?_;dsimp only;rw[ev];refine M3 7 O (NX O) ag$ qE$ Mz.qb (e:=[(0,_),(1,_),(2,_),(3,_),(8,_),(9,_),(10,_),(11,_)]) ?_;refine run_seq ?_;have ee:=Ext.Mm w4.drew;have ky:=ag.LY gl;have gL:=ag.LY kk;have cg:=bH.ext (ag.trans ee);refine Mo [6] (λw'=>Ext w4.drew w') (by kernel_rfl) O$ qL [1,2,3,6] 0 O (λ_ h=>MH O) ee$ qL [2,3,6] 1 O (λ_ h=>N4 O) ee$ qL [3,6] 2 O (λ_ h=>My Sj O) ee$ qL [6] 3 O (λ_ h=>(by first|exact M1 SE O O (h.LY ky) O|exact M1 SE O O (h.LY gL) O)) ee ?_;refine qL [5,6] 4 O (λ_ h=>My Zy O) ee$ qL [6] 5 O (λ_ h=>(by first|exact M1 U3 O O (h.LY ky) O|exact M1 U3 O O (h.LY gL) O)) ee ?_;refine PH [6]$ qO 6$ z7X (i:=6) O O (zbo (k:=q.k) (K:=KI) SE (OL U3) O O cg.m.mp O) ?_;rintro _ w6 ⟨DK,aR⟩;refine⟨trivial,?_⟩;dsimp only at DK;rw[YE] at DK;have cD:=cg.del (PB P.l q.k) DK aR;have DL:M7 w4 q.b (pgC q.t q.d) 219:=bH.m.pg q hq;have yl:q.b≠P.pm:=λe=>bH.m.S4 5 4 (by decide) q.b ⟨q,hq,rfl⟩ e;have sk:=aR.LY ((ag.trans ee).LY DL) yl
      have gm:∀i,¬Ol.cp {P with A:=A2,V:=V2,h:=P.h,mi:=z,wr:=P.wr,l:=dropPg P.l q.k} i q.b:=λi e=>by
       match i,e with
       |0,e=>exact bH.m.S4 5 0 (by decide) q.b ⟨q,hq,rfl⟩ e
       |1,e=>exact bH.m.S4 5 1 (by decide) q.b ⟨q,hq,rfl⟩ e
       |2,e=>exact bH.m.S4 5 2 (by decide) q.b ⟨q,hq,rfl⟩ e
       |3,e=>exact bH.m.S4 5 3 (by decide) q.b ⟨q,hq,rfl⟩ e
       |4,e=>exact yl e
       | 5, ⟨q2, fR, e⟩ =>
         have e2:q2=q:=Pp bH.m.pnd ((PB P.l q.k).subset fR) hq e;have:=((Xx hI.nd q.k q2.k).1 (List.mem_map.2 ⟨q2,fR,rfl⟩)).2;exact this (by rw[e2])
      have qi:=hI.rng q hq;have DH:=hI.tx q hq;have wX:q.t.length=512:=by rw[DH];exact hI.len q.k qi.1 qi.2
      have nL:=aR.LY ((ag.trans ee).LY qf) (eE 4);have ma:=cD.m.cells;have DM:=aR.LY ((ag.trans ee).LY kk) (yf 4);have z46:=(ag.trans ee).size;have z56:=aR.size;refine qE$ qN O$ LW O$ Ma Zy O$ qV (M1 U3 O O DM O)$ LW O$ Mn zcj O (z0D cD.m hI.zbb hI.down hI.due hI.B hI.N hK qi.1 qi.2 wX sk gm) ?_;rintro _ w7 ⟨rfl,Fd7,wr7,ge,aD,yj⟩;have yi:=cD.write ge aD yj (bH.fp q.b ⟨5,q,hq,rfl⟩);have oK:q.b≠x:=λe=>ew 5 ⟨q,hq,e⟩
      have tv:=aD.LY nL (λe=>by
       rcases e with e|e| e
       ·exact oK e.symm
       ·exact ew 0 e
       ·exact ew 1 e)
      refine Me O$ qM O$ LW O$ N9 O O$ LX$ An O$ py ?_;exact(eu _ _ ⟨rfl,_,Fd7,_,wr7,yi,hI.zcr hq,tv,λj e=>(yj j e).imp id λe=>⟨by omega,by omega⟩⟩).qb
end
section
variable {w w' w0:World}{P P0 P':Ol}{S':Nat->Prop}{txt:Int->Bytes}{K:Nat}
theorem z5W {b x:Nat}{t:Bytes}{d:Bool}{x0:Value}(eZ:b≠x)(hb:M7 w b (pgC t d) 219)(hx:M7 w x [x0] 9):Mw Tryz.prog 111 [ptr b 0,ptr x 0] w λv w2=>v= .tuple #[]/\M7 w2 b (pgC t d) 219/\M7 w2 x [S t] 9/\Kp (λj=>j=x) w w2:=by
 replace hb:M7 w b [S t,.bool d,I 0] 219:=hb
 refine It (e:=[(0,_),(1,_)]) Tryz.func111 O Tryz.ntmps111 O O$ M0 O$ LW O$ MC O$ Ma S5 O$ Ma ZO O$ qV (M1 U9 O O hb O)$ Mb O (NT Z0 O O O hx (by simp)) ?_
 rintro w1 ⟨ad,aK⟩
 refine LX$ Nq Tryz.func111 O ?_
 exact⟨_,rfl,rfl,aK.LY hb eZ,ad,aK⟩
theorem z2t {b x:Nat}{t s:Bytes}{d:Bool}(eZ:b≠x)(hb:M7 w b (pgC t d) 219)(hx:M7 w x [S s] 9):Mw Tryz.prog 112 [ptr b 0,ptr x 0] w λv w2=>v= .tuple #[]/\M7 w2 b (pgC s true) 219/\M7 w2 x [S s] 9/\Kp (λj=>j=b) w w2:=by
 replace hb:M7 w b [S t,.bool d,I 0] 219:=hb
 refine It (e:=[(0,_),(1,_)]) Tryz.func112 O Tryz.ntmps112 O O$ M0 O$ LW O$ qV (M1 U9 O O hx O)$ qV (OO (cs:=[_,_]) z4g O zeU O O)$ MC O$ Ma S5 O$ Mb O (MO (news:=[S s,.bool true]) z4g O O O O hb (by simp)) ?_
 rintro w1 ⟨bR,aK⟩
 refine LX$ Nq Tryz.func112 O ?_
 exact⟨_,rfl,rfl,bR,aK.LY hx (λe=>eZ e.symm),aK⟩
theorem z2e (hm:R1 w P)(hI:Sw P txt K)(hK:K<1000000000000){no:Int}(h0:0<=no)(h1:no<(P.L.length:Int)):Mw Tryz.prog 71 [ptr P.s 0,I no] w λv w'=>v= .tuple #[S (txt no),I 0]/\∃P',QQ w P w' P'/\Sw P' txt K/\P.Same P':=by
 refine It (e:=[(0,_),(1,_)]) Tryz.func71 O Tryz.ntmps71 O O$ qN O$ M5 O O (Oo (cs:=[_]) Z0 O) ?_
 rintro _ w1 ⟨x,rfl,hx,ad,hB⟩
 have cW:=hm.r ad
 have ew:∀i,¬P.cp i x:=hm.new (by omega)
 refine M4 O$ run_seq$ qN O$ LW O$ Mn zac O (Wi cW.m hI.down) ?_
 rintro _ w1 ⟨rfl,rfl⟩
 refine Me O$ qM O$ LW O$ N9 O O$ LX$ An O$ py$ qN O$ Md O O$ qV (Zm (first:=[]) (caps:=[.tmp 4]) O O)$ Mn zau O (Wy cW hI hK h0 h1 none (λt e=>by cases e) (by omega) ew hB zf2 (λw1 b t d eZ hb hx=>z5W eZ hb hx)) ?_
 rintro _ w2 ⟨rfl,am,P',dB,cF,cY,ym⟩
 rw[Vs] at cF
 replace am:M7 w2 x [S (txt no)] 9:=am
 refine Me O$ qM O$ qV (M1 U9 O O am O)$ LW O$ Mb O (NT Z0 O O O am (by simp)) ?_
 rintro w3 ⟨ar,au⟩
 replace ar:M7 w3 x [S (txt no)] 9:=ar
 refine M4 O$ Mt Tryz.func71 (.cell1 U9 O O ((ar).cell _) (.tmp O .nil)) ?_
 exact⟨_,rfl,rfl,P',dB.loc au (λj e=>by rw[show j=x from e];exact⟨.inr (by omega),ym⟩),cF,cY⟩
theorem z5R (hm:R1 w P)(hI:Sw P txt K)(hK:K<1000000000000){no:Int}(h0:0<=no)(h1:no<(P.L.length:Int))(t:Bytes)(ht:t.length=512):Mw Tryz.prog 72 [ptr P.s 0,I no,S t] w λv w'=>v=I 0/\∃P',QQ w P w' P'/\Sw P' (Vp txt no (some t)) (K+1)/\P.Same P':=by
 refine It (e:=[(0,_),(1,_),(2,_)]) Tryz.func72 O Tryz.ntmps72 O O$ qN O$ M5 O O (O2 O (cs:=[S t]) O) ?_
 rintro _ w1 ⟨x,rfl,hx,ad,hB⟩
 have cW:=hm.r ad
 have ew:∀i,¬P.cp i x:=hm.new (by omega)
 refine M4 O$ run_seq$ qN O$ LW O$ Mn zac O (Wi cW.m hI.down) ?_
 rintro _ w1 ⟨rfl,rfl⟩
 refine Me O$ qM O$ LW O$ N9 O O ?_
 have hg:=Ext.Mm w1
 refine LX$ An O$ py$ run_seq$ run_seq$ NV (λw'=>Ext w1 w') O$ qT 0 O (λ_ h=>M1 U9 O O (h.LY hB) O) hg$ M3 1 O (Rr U9 O) hg$ Mj 2 O O (hg)$ Pm 3 O z0Y O (XZ (cW.m.ext' hg) hI.N) ?_
 rintro _ w2 ⟨rfl,rfl⟩
 refine⟨hg,?_⟩
 refine M3 4 O (yne O O) hg$ QT$ qE$ An O$ py$ qN O$ Md O O$ qV (Zm (first:=[]) (caps:=[.tmp 5]) O O)$ Mn zau O (Wy (cW.ext hg) hI hK h0 h1 (some t) (λs e=>by cases e;exact ht) (by omega) ew (hg.LY hB) zcO (λw1 b t2 d eZ hb hx=>z2t eZ hb hx)) ?_
 rintro _ w2 ⟨rfl,am,P',dB,cF,cY,ym⟩
 refine M4 O$ LZ Tryz.func72 O ?_
 exact⟨_,rfl,rfl,P',dB,cF,cY⟩
theorem z2Z (hm:R1 w P){a n:Nat}(hp:Pre P.L a)(cU:1<=n)(oI:a+n<=P.L.length):Mw Tryz.prog 57 [ptr P.s 0,I (n:Int)] w λv w'=>v= .tuple #[.agg #[I (a:Int),I (n:Int)],I 0]/\QQ w P w' {P with L:=NU P.L a n true}:=by
 refine It (e:=[(0,_),(1,_)]) Tryz.func57 O Tryz.ntmps57 O O$ qN O$ M5 O O (Oo (cs:=[_,_]) NO O) ?_
 rintro _ w1 ⟨x,rfl,hx,ad,hB⟩
 have cW:=hm.r ad
 have ew:∀i,¬P.cp i x:=hm.new (by omega)
 have hC:=cW.m.cells
 refine M4 O$ run_seq$ qN O$ LW O$ qV (N7 To O O)$ LX$ An O$ py$ qN O$ LW O$ MC O$ Ma z3M O$ qV (M1 Yn O O hC O)$ LW O ?_
 refine Mn zgu O (z1N cW.m.ext hp cU oI) ?_
 rintro _ w2 ⟨rfl,dD,ao⟩
 have dB:=cW.exM dD ao
 have am:=ao.LY hB (λe=>ew 2 (.inr e))
 refine qV (O6 (v:= .agg #[I (a:Int),I (n:Int)]) O O)$ qV (O6 (v:=I 0) O O)$ Mb O (MO (news:=[I (a:Int),I (n:Int)]) NO O O O O am (by simp)) ?_
 rintro w3 ⟨ar,au⟩
 replace ar:M7 w3 x [I (a:Int),I (n:Int)] 108:=ar
 refine M4 O$ Mt Tryz.func57 (.cell SO O NO O (M7.cells (n:=2) ar (news:=[_,_]) O) O (.tmp O .nil)) ?_
 refine⟨_,rfl,rfl,dB.loc au (λj e=>by
  rw[show j=x from e];refine⟨.inr (by omega),λi e2=>?_⟩
  match i,e2 with
  |0,e2=>exact ew 0 e2
  |1,e2=>exact ew 1 e2
  |2,e2=>exact ew 2 e2
  |3,e2=>exact ew 3 e2
  |4,e2=>exact ew 4 e2
  |5,e2=>exact ew 5 e2)⟩
theorem Sw.Nr (h:Sw P txt K){L':List Bool}(hl:L'.length=P.L.length):Sw {P with L:=L'} txt K:=
 ⟨h.aok,h.asz,h.keys,h.nd,λg hg=>by rw[hl];exact h.rng g hg,h.tx,h.cl,λx h0 h1=>by rw[hl] at h1;exact h.out x h0 h1,λx h0 h1=>by rw[hl] at h1;exact h.len x h0 h1,h.down,h.due,h.B.trans hl.symm,h.N,h.ca,h.cc,h.P5⟩
theorem z4P {d m gi:Nat}{L:List Bool}{Fd:Nat->Prop}(hd:SF w d (Dev.fresh L.length 1) Fd)(he:TW w m gi L)(A4:¬Fd m/\¬Fd gi)(n:Nat)(cU:1<=n)(ia:n<=1000):Mw Tryz.prog 29 [ptr d 0,I (n:Int),ptr m 0] w λv w'=>∃P,v= .tuple #[ptr P.s 0,I 0]/\R1 w' P/\Sw P (λ_=>zeros 512) 0/\P.m=m/\P.gi=gi/\P.L=L/\(∀b,P.fp b->Fd b\/b=m\/b=gi\/w.heap.size<=b)/\Ext w w':=by
 refine It (e:=[(0,_),(1,_),(2,_)]) Tryz.func29 O Tryz.ntmps29 O O$ qN O$ Me O$ M4 O$ run_seq$ LU$ qN O$ LW O$ qV (N7 U27 O O)$ Md O O$ qV (N7 Yn O O)$ MN O O$ M4 O$ An O ?_
 refine qN O$ LW O$ Ni O O$ ML$ Md O O$ Ng O O$ ML$ MN O O$ M4 O$ An O$ py$ LV$ qN O$ LW O ?_
 refine Mn zfy O (z7S n cU (by omega) w) ?_
 rintro _ w1 ⟨c,V,p,rfl,kM,iI,ad⟩
 refine LW O$ qV (O6 (v:=ptr c 0) O O)$ qV (O6 (v:=I 0) O O)$ Me O$ M4 O$ Mz.qb (e:=[(0,_),(1,_),(2,_),(6,_),(7,_),(8,_),(9,_)]) ?_
 refine run_seq$ qN O$ LW O$ N9 O O$ LX$ An O$ py$ qN O$ Md O O$ LW O$ M5 O O (pmm) ?_
 rintro _ w2 ⟨pm,rfl,J0,af,cM⟩
 have mw:Pk KI w2 pm []:=Pk.new cM
 have lpm:=mw.lt
 refine LW O$ qV (OO (cs:=[_,_,_,_,_,_,_]) zby O zgr O O)$ qV (OO (cs:=[_,_,_,_,_,_,_,_,_,_,_,_]) zcC O zeV O O)$ M5 O O (O2 O (cs:=plC ⟨0,d,m,gi,c,pm,p,n,V,Dev.fresh L.length 1,z1S n,[],L,Fd,0,0,0⟩) O) ?_
 rintro _ w3 ⟨s,rfl,hs,ai,ar⟩
 refine Me O$ M4 O$ LZ Tryz.func29 O ?_
 have z1:=ad.size
 have z2:=af.size
 have dC:=af.trans ai
 have db:=ad.trans dC
 have mS:=kM.ext dC
 have DN:∀{b:Nat},Pf c V p b->b<w1.heap.size:=kM.lt
 have DO:=hd.lt
 have ltm:=he.ltm
 have ltg:=he.ltg
 refine⟨_,rfl,⟨s,d,m,gi,c,pm,p,n,V,Dev.fresh L.length 1,z1S n,[],L,Fd,0,0,0⟩,rfl,⟨ar,hd.ext db,he.ext db,mS,mw.ext ai,(λg hg=>by cases hg),List.nodup_nil,?_⟩,⟨z8G cU,ia,λx=>?_,List.nodup_nil,(λg hg=>by cases hg),(λg hg=>by cases hg),(λg hg=>by cases hg),λx _ _ _=>rfl,λx _ _=>by simp[zeros],rfl,rfl,rfl,rfl,Int.le_refl _,Nat.le_refl _,Nat.zero_le _⟩,rfl,rfl,rfl,λb ⟨i,hb⟩=>?_,db⟩
 ·intro i j ne b hb bY
  have cls:∀i,Ol.cp ⟨s,d,m,gi,c,pm,p,n,V,Dev.fresh L.length 1,z1S n,[],L,Fd,0,0,0⟩ i b->(i=0/\b=s)\/(i=1/\Fd b/\b<w.heap.size)\/(i=2/\(b=m\/b=gi)/\b<w.heap.size)\/(i=3/\w.heap.size<=b/\b<w1.heap.size)\/(i=4/\b=pm):=λi hb=>by
   match i,hb with
   |0,e=>exact .inl ⟨rfl,e⟩
   |1,e=>exact .inr (.inl ⟨rfl,e,DO b e⟩)
   |2,e=>exact .inr (.inr (.inl ⟨rfl,e,by have e':b=m\/b=gi:=e;omega⟩))
   |3,e=>exact .inr (.inr (.inr (.inl ⟨rfl,iI b e,DN e⟩)))
   |4,e=>exact .inr (.inr (.inr (.inr ⟨rfl,e⟩)))
   |5,⟨g,hg,e⟩=>cases hg
  have h1:=cls i hb;have h2:=cls j bY;rcases h1 with⟨e,h1⟩|⟨e,h1,ii⟩|⟨e,h1,ii⟩|⟨e,h1,ii⟩|⟨e,h1⟩<;>rcases h2 with⟨f,h2⟩|⟨f,h2,oL⟩|⟨f,h2,oL⟩|⟨f,h2,oL⟩|⟨f,h2⟩<;>first|omega|skip
  ·rcases h2 with e| e
   ·exact A4.1 (e▸h1)
   ·exact A4.2 (e▸h1)
  ·rcases h1 with e| e
   ·exact A4.1 (e▸h2)
   ·exact A4.2 (e▸h2)
 ·constructor
  ·intro e;cases e
  ·intro e;rcases e with e|e<;>cases e
 ·match i,hb with
  |0,e=>exact .inr (.inr (.inr (by have:b=s:=e;omega)))
  |1,e=>exact .inl e
  |2,e=>rcases e with e|e;exact .inr (.inl e);exact .inr (.inr (.inl e))
  |3,e=>exact .inr (.inr (.inr (iI b e)))
  |4,e=>exact .inr (.inr (.inr (by have:b=pm:=e;omega)))
  |5,⟨g,hg,e⟩=>cases hg
end
theorem z5s {l:List (Int×Bytes)}{n:Int}{t:Bytes}(h:SU l n=some t):∃x∈l,x.2=t:=by
 unfold SU at h
 obtain⟨x,hx,e⟩:=Option.map_eq_some_iff.1 h
 exact⟨x,List.mem_reverse.1 (List.mem_of_find?_eq_some hx),e⟩
theorem Dev.Ok.z9b {D:Dev}(h:D.Ok)(n:Int):(D.now n).length=512*D.N:=by
 unfold Dev.now
 cases hl:SU D.cache n with
 |none=>exact h.kept n
 | some t =>
   obtain⟨x,hx,rfl⟩:=z5s hl;exact(h.cache x hx).2.2
section
variable {w w' w0:World}{P P0 P':Ol}{S':Nat->Prop}{txt:Int->Bytes}{K:Nat}
theorem Sw.zcw (h:Sw P txt K)(az:P.D.Ok){k:Int}:Sw {P with A:=P.A.drop k,l:=dropPg P.l k} (λx=>if x=k then P.D.now k else txt x) K:=by
 have hk:=Xx h.nd k
 have dv:=PB P.l k
 have bD:=Arc.z4J h.aok k
 have Gi:=h.ca
 have Dz:=h.cc
 have yd:OB (dropPg P.l k)<=OB P.l:=dv.countP_le
 have gh:∀q∈dropPg P.l k,q∈P.l/\q.k≠k:=λq hq=>⟨dv.subset hq,((hk q.k).1 (List.mem_map.2 ⟨q,hq,rfl⟩)).2⟩
 refine⟨h.aok.drop k,h.asz,λx=>by dsimp only;rw[hk,bD,h.keys],(dv.map _).nodup h.nd,λq hq=>h.rng q (gh q hq).1,λq hq=>?_,λq hq hd=>?_,λx h0 h1 hx=>?_,λx h0 h1=>?_,h.down,h.due,h.B,h.N,by dsimp only;omega,by dsimp only;omega,h.P5⟩
 ·rw[if_neg (gh q hq).2];exact h.tx q (gh q hq).1
 ·rw[if_neg (gh q hq).2];exact h.cl q (gh q hq).1 hd
 ·dsimp only at h1 hx⊢;rw[bD,not_and] at hx;by_cases e:x=k
  ·rw[if_pos e,e]
  ·rw[if_neg e];exact h.out x h0 h1 λe2=>hx e2 e
 ·dsimp only at h1⊢;by_cases e:x=k
  ·rw[if_pos e,az.z9b,h.N]
  ·rw[if_neg e];exact h.len x h0 h1
theorem Sw.z0C (h:Sw P txt K)(hA:P'.A=P.A)(hl:P'.l=P.l)(hD:P'.D=P.D)(hL:P'.L=P.L):Sw P' txt K:=by
 obtain⟨a1,a2,a3,a4,a5,a6,a7,a8,a9,b1,b2,b3,b4,b5,b6,b7⟩:=h
 constructor<;>simp only[hA,hl,hD,hL]<;>assumption
theorem R1.dok (h:R1 w P):P.D.Ok:=by
 obtain⟨m,kp,ca,h1,-⟩:=h.dev
 exact h1.ok
theorem z58 (l:List Pg)(k:Int):(k∉l.map (·.k)/\getL (Rs l) k=none)\/∃q∈l,q.k=k/\getL (Rs l) k=some (ptr q.b 0):=by
 induction l with
 |nil=>exact .inl ⟨by simp,rfl⟩
 | cons g l ih =>
   show _\/_;by_cases h:k=g.k
   ·exact .inr ⟨g,List.mem_cons_self,h.symm,if_pos h⟩
   ·have e:getL (Rs (g::l)) k=getL (Rs l) k:=if_neg h;rw[e];rcases ih with⟨a,b⟩|⟨q,a,b,c⟩
    ·exact .inl ⟨by simp[h] at a⊢;exact a,b⟩
    ·exact .inr ⟨q,List.mem_cons_of_mem _ a,b,c⟩
theorem z2X (hm : R1 w P)(hI : Sw P txt K){s n : Nat}(cU : 1 <= n)(iK : s + n <= P.L.length) : Mw Tryz.prog 103 [ptr P.s 0, .agg #[I (s : Int), I (n : Int)]] w λv w' => v = I 0 /\ ∃ P' txt', QQ w P w' P' /\ Sw P' txt' K /\ (∀ x : Int, x < (s : Int) \/ (s : Int) + (n : Int) <= x -> txt' x = txt x) /\ P.Same P' := by
 have dT:=hm.ext.n
 have hC:=hm.cells
 refine It (e:=[(0,_),(1,_)]) Tryz.func103 O Tryz.ntmps103 O O$ qN O$ M5 O O (O2 O (cs:=[I (s:Int),I (n:Int)]) O) ?_
 rintro _ w1 ⟨b3,rfl,ek,ad,ar⟩
 have cW:=hm.r ad
 have lS:∀i,¬P.cp i b3:=hm.new (by omega)
 have iF:=ad.LY hC
 have hg:=Ext.Mm w1
 have fj:=T3 (cW.m.dev.ext hg)
 rw[hI.B] at fj
 refine M4 O$ run_seq$ LU$ qN O$ LW O$ qV (N7 To O O)$ M4 O$ An O$ qN O$ LW O$ MC O$ Ma z4u O$ qV (M1 U4 O O iF O)$ M4 O ?_
 refine An O$ run_seq$ NV (λw'=>Ext w1 w') O$ M3 0 O (My NQ O) hg$ qT 1 O (λ_ h=>(by first|exact M1 U3 O O (h.LY ar) O|exact M1 U3 O O (h.LY iF) O)) hg ?_
 refine M3 2 O (Xc O O) hg$ QT$ Mj 3 O O (hg)$ M3 4 O (My NK O) hg$ qT 5 O (λ_ h=>(by first|exact M1 U3 O O (h.LY ar) O|exact M1 U3 O O (h.LY iF) O)) hg ?_
 refine M3 6 O (Xc O O) hg$ QT$ M3 7 O (Ro O O) hg$ Mj 8 O O (hg)$ M3 9 O (My NK O) hg$ qT 10 O (λ_ h=>(by first|exact M1 U3 O O (h.LY ar) O|exact M1 U3 O O (h.LY iF) O)) hg ?_
 refine Mj 11 O O (hg)$ M3 12 O (N4 O) hg$ M3 13 O (My RF O) hg$ qT 14 O (λ_ h=>(by first|exact M1 U27 O O (h.LY ar) O|exact M1 U27 O O (h.LY iF) O)) hg ?_
 refine Pm 15 O z0v O (fj) ?_
 rintro _ w2 ⟨rfl,rfl⟩
 refine⟨hg,?_⟩
 refine M3 16 O (yge O O) hg$ QT$ M3 17 O (Ro O O) hg$ Mj 18 O O (hg)$ M3 19 O (My NQ O) hg$ qT 20 O (λ_ h=>(by first|exact M1 U3 O O (h.LY ar) O|exact M1 U3 O O (h.LY iF) O)) hg ?_
 refine Mj 21 O O (hg)$ M3 22 O (N4 O) hg$ M3 23 O (My RF O) hg$ qT 24 O (λ_ h=>(by first|exact M1 U27 O O (h.LY ar) O|exact M1 U27 O O (h.LY iF) O)) hg ?_
 refine M3 26 O (My NK O) hg$ qT 27 O (λ_ h=>(by first|exact M1 U3 O O (h.LY ar) O|exact M1 U3 O O (h.LY iF) O)) hg ?_
 refine Pm 25 O z0v O (fj) ?_
 rintro _ w2 ⟨rfl,rfl⟩
 refine⟨hg,?_⟩
 refine M3 28 O (TO O O (by omega)) hg$ M3 29 O (UL O O) hg$ QT$ M3 30 O (Ro O O) hg$ M3 31 O (NX O) hg ?_
 obtain⟨w2,ln⟩:∃w2,w1.drew=w2:=⟨_,rfl⟩
 rw[ln] at hg⊢
 have cV:=hg.LY ar
 have dB:=cW.ext hg
 have jd:=hg.LY iF
 have l3:=cV.lt
 refine qE$ Mz.qb (e:=[(0,_),(3,_),(4,_),(16,_)]) ?_
 refine An O$ py$ LV$ run_seq$ qN O$ Ma NQ O$ qV (M1 U3 O O cV O)$ LW O$ LX$ LU$ Oh (α:=Nat) (0) (λi=>[(0,ptr P.s 0),(3,ptr b3 0),(49,I (n:Int)),(50,I (i:Int))]) (λi w'=>Ext w2 w'/\i<=n) (λi=>n-i) ?hI ?hround
 case hI=>exact⟨Ext.refl _,Nat.zero_le _⟩
 case hround =>
  rintro i w3 ⟨ai,hi⟩ ih;have ci:=dB.ext ai;have jc:=ai.LY jd;have dl:=ai.LY cV;have ae:=Ext.Mm w3
  try dsimp only
  refine qN O$ Ni O O$ LX$ run_seq$ M8 O (λh0=>?_)$ λh0=>?_
  ·refine py$ run_seq$ LU$ qN O$ LW O$ M4 O$ run_seq$ NV (λw'=>Ext w3 w') O$ Mj 0 O O (ae)$ M3 1 O (N4 O) ae$ M3 2 O (My Sj O) ae$ qT 3 O (λ_ h=>(by first|exact M1 SE O O (h.LY dl) O|exact M1 SE O O (h.LY jc) O)) ae ?_;refine M3 4 O (My NK O) ae$ qT 5 O (λ_ h=>(by first|exact M1 U3 O O (h.LY dl) O|exact M1 U3 O O (h.LY jc) O)) ae ?_;refine Mj 6 O O (ae)$ M3 7 O (R4 O O (by omega)) ae ?_;rw[show(s:Int)+(i:Int)=((s+i:Nat):Int) by omega];refine qT 8 O (λ_ hS=>ylk (k:=((s+i:Nat):Int)) (K:=KI) SE (OL U3) z7g O O (ci.m.ext' hS).mp.l) ae ?_;rcases z58 P.l ((s+i:Nat):Int) with⟨-,ev⟩|⟨q,hq,-,ev⟩
   ·rw[ev];refine M3 9 O (NX O) ae$ qE$ qN O$ LW O$ qV (z1H zdT O O)$ LW O$ qS$ qS$ qS$ qS$ qS$ MN O O$ LX$ An O ?_;refine py$ LV$ M0 O$ MT O O$ LW O$ LX ?_;exact(ih (i+1) _ ⟨ai.trans ae,by omega⟩ (by omega)).qb
   ·rw[ev];have qB:=(ae.LY (ci.m.pg q hq):M7 w3.drew q.b [S q.t,.bool q.d,I 0] 219);refine M3 9 O (NX O) ae$ qE$ qN O$ LW O$ qV (z1H zdT O O)$ Md O O$ MC O$ Ma z9w O$ qV (M1 U3 O O qB O)$ Ng O O$ ML$ NC O O$ LX$ An O ?_;refine py$ LV$ M0 O$ MT O O$ LW O$ LX ?_;exact(ih (i+1) _ ⟨ai.trans ae,by omega⟩ (by omega)).qb
  ·have aU : i = n := by omega
   subst aU;refine M6 O$ run_seq$ qN O$ Ma NQ O$ qV (M1 U3 O O dl O)$ LW O$ LX$ LU$ Oh (α:=Nat×Ol×(Int->Bytes)) ((0,P,txt)) (λy=>[(0,ptr P.s 0),(3,ptr b3 0),(73,I (i:Int)),(74,I (y.1:Int))]) (λy w'=>QQ w P w' y.2.1/\Sw y.2.1 y.2.2 K/\y.1<=i/\P.Same y.2.1/\(∀x:Int,x<(s:Int)\/(s:Int)+(i:Int)<=x->y.2.2 x=txt x)/\M7 w' b3 [I (s:Int),I (i:Int)] 108/\∀j,¬y.2.1.cp j b3) (λy=>i-y.1) ?hI ?hround
   case hI=>exact⟨ci,hI,Nat.zero_le _,⟨rfl,rfl,rfl,rfl,rfl,rfl,rfl,rfl,rfl⟩,λx _=>rfl,dl,lS⟩
   case hround =>
    rintro⟨j,Pj,tj⟩ w4 ⟨bH,kh,hj,cj,iL,dg,nE⟩ ih2;dsimp only at bH kh hj cj iL dg nE ih2⊢;have gl:=bH.m.cells;rw[cj.s] at gl;have ag:=Ext.Mm w4;have ee:=Ext.Mm w4.drew
    try dsimp only
    refine qN O$ Ni O O$ LX$ run_seq$ M8 O (λh2=>?_)$ λh2=>?_
    ·refine py$ run_seq$ LU$ qN O$ LW O$ M4 O$ run_seq$ Mo [8] (λw'=>Ext w4 w') (by kernel_rfl) O$ qL [1,2,3,8] 0 O (λ_ h=>MH O) ag$ qL [2,3,8] 1 O (λ_ h=>N4 O) ag$ qL [3,8] 2 O (λ_ h=>My Sj O) ag$ qL [8] 3 O (λ_ h=>(by first|exact M1 SE O O (h.LY dg) O|exact M1 SE O O (h.LY gl) O)) ag ?_;refine qL [5,7,8] 4 O (λ_ h=>My NK O) ag$ qL [7,8] 5 O (λ_ h=>(by first|exact M1 U3 O O (h.LY dg) O|exact M1 U3 O O (h.LY gl) O)) ag ?_;refine qL [7,8] 6 O (λ_ h=>MH O) ag$ qL [8] 7 O (λ_ h=>R4 O O (by omega)) ag$ PH [8] ?_;rw[show(s:Int)+(j:Int)=((s+j:Nat):Int) by omega];refine qO 8$ z7X (i:=8) O O (zbo (k:=((s+j:Nat):Int)) (K:=KI) SE (OL U3) O O (bH.ext ag).m.mp O) ?_;rintro _ w5 ⟨uC,ak⟩;refine⟨trivial,?_⟩;rw[YE] at uC;have cg:=(bH.ext ag).del (PB _ _) uC ak;have cB:=ak.LY (ag.LY dg) (nE 4);have ky:=cg.m.cells;dsimp only at ky;rw[cj.s] at ky;have du:=Ext.Mm w5;have cD:=cg.ext du;refine qE$ Mo [8] (λw'=>Ext w5 w') (by kernel_rfl) O$ qL [1,2,3,8] 0 O (λ_ h=>MH O) du$ qL [2,3,8] 1 O (λ_ h=>N4 O) du$ qL [3,8] 2 O (λ_ h=>My z4y O) du$ qL [8] 3 O (λ_ h=>(by first|exact M1 z5F O O (h.LY cB) O|exact M1 z5F O O (h.LY ky) O)) du ?_;refine qL [5,7,8] 4 O (λ_ h=>My NK O) du$ qL [7,8] 5 O (λ_ h=>(by first|exact M1 U3 O O (h.LY cB) O|exact M1 U3 O O (h.LY ky) O)) du ?_;refine qL [7,8] 6 O (λ_ h=>MH O) du$ qL [8] 7 O (λ_ h=>R4 O O (by omega)) du$ PH [8] ?_;rw[show(s:Int)+(j:Int)=((s+j:Nat):Int) by omega];refine Pm 8 O zeE O (z52 cD.m.arc (k:=((s+j:Nat):Int))) ?_;rintro _ w6 ⟨⟨z,rfl⟩,V6,rv⟩;refine⟨trivial,?_⟩;have yi:=cD.arc rv;have jI:=rv.k.LY (du.LY cB) (nE 3);refine qE$ LV$ M0 O$ MT O O$ LW O$ LX ((ih2 (j+1,_,_) _ ⟨yi,(kh.zcw bH.m.dok (k:=((s+j:Nat):Int))).z0C O O O O,by dsimp only;omega,⟨cj.s,cj.d,cj.m,cj.gi,cj.c,cj.pm,cj.p,cj.fr,cj.L⟩,λx hx=>?_,jI,λi2 e=>?_⟩ (by dsimp only;omega)).qb)
     ·show(if x=((s+j:Nat):Int) then Pj.D.now ((s+j:Nat):Int) else tj x)=txt x;rw[if_neg (by omega)];exact iL x hx
     ·match i2,e with
      |0,e=>exact nE 0 e
      |1,e=>exact nE 1 e
      |2,e=>exact nE 2 e
      | 3, e =>
        rcases rv.fp b3 e with e| e
        ·exact nE 3 e
        ·have:=(du.LY cB).lt;omega
      |4,e=>exact nE 4 e
      |5,⟨q,hq,e⟩=>exact nE 5 ⟨q,(PB _ _).subset hq,e⟩
    ·have qY:j=i:=by omega
     subst qY;refine M6 O$ qN O$ M4 O$ LZ Tryz.func103 O ?_;exact⟨_,rfl,rfl,Pj,tj,bH,kh,iL,cj⟩
theorem z2p (hm:R1 w P)(hI:Sw P txt K){s n:Nat}(cU:1<=n)(cY:2<=s)(iK:s+n<=P.L.length)(hc:∀i,s<=i->i<s+n->P.L[i]? =some true):Mw Tryz.prog 65 [ptr P.s 0,.agg #[I (s:Int),I (n:Int)]] w λv w'=>v=I 0/\∃P' txt',QQ w P w' {P' with L:=NU P.L s n false}/\Sw {P' with L:=NU P.L s n false} txt' K/\(∀x:Int,x<(s:Int)\/(s:Int)+(n:Int)<=x->txt' x=txt x)/\P.Same P':=by
 refine It (e:=[(0,_),(1,_)]) Tryz.func65 O Tryz.ntmps65 O O$ qN O$ M5 O O (O2 O (cs:=[I (s:Int),I (n:Int)]) O) ?_
 rintro _ w1 ⟨b3,rfl,ek,ad,ar⟩
 have cW:=hm.r ad
 have lS:∀i,¬P.cp i b3:=hm.new (by omega)
 refine M4 O$ run_seq$ qN O$ LW O$ qV (Mv (news:=[I (s:Int),I (n:Int)]) SO O NO O (M7.cells (n:=2) ar O) O)$ Mn zbV O (z2X cW.m hI cU iK) ?_
 rintro _ w2 ⟨rfl,P',txt',dB,cF,iL,cj⟩
 have l3:=ar.lt
 have cV:=dB.k.LY ar (λ⟨i,e⟩=>lS i e)
 have tA:=cW.trans dB
 have jd:=tA.m.cells
 rw[cj.s] at jd
 refine Me O$ qM O$ LW O$ N9 O O ?_
 have aa:=Ext.Mm w2
 have kX:=(tA.ext aa).m.ext
 rw[cj.L] at kX
 refine LX$ An O$ py$ run_seq$ Mo [5,6] (λw'=>Ext w2 w') (by kernel_rfl) O$ qL [1,2,3,5,6] 0 O (λ_ h=>MH O) aa$ qL [2,3,5,6] 1 O (λ_ h=>N4 O) aa$ qL [3,5,6] 2 O (λ_ h=>My z3M O) aa$ qL [5,6] 3 O (λ_ h=>M1 Yn O O (h.LY jd) O) aa$ qL [5,6] 4 O (λ_ h=>Mv (news:=[I (s:Int),I (n:Int)]) SO O NO O (M7.cells (n:=2) (h.LY cV) O) O) aa$ PH [5]$ Pm 5 O zfb O (z2O kX s n cU cY iK hc) ?_
 rintro _ w3 ⟨rfl,FQ,av⟩
 refine⟨trivial,?_⟩
 have ci:=(tA.ext aa).exM FQ av
 refine M3 6 O (NX O) trivial$ qE$ LZ Tryz.func65 O ?_
 exact⟨_,rfl,rfl,P',txt',ci,cF.Nr (by rw[NP iK,cj.L]),iL,cj⟩
end
def Sp (Q:Ol)(txt:Int->Bytes)(K:Nat)(X:Nat->Prop)(w:World):Prop:=∃P,R1 w P/\Sw P txt K/\Q.Same P/\∀b,P.fp b->¬X b
section
variable {w w' w0:World}{Q Q' P P':Ol}{X Y S':Nat->Prop}{txt txt':Int->Bytes}{K K':Nat}
theorem Sp.step (h:Sp Q txt K X w)(hk:Kp S' w w')(hS:∀b,S' b->X b)(hY:∀b,Y b->X b\/w.heap.size<=b):Sp Q txt K Y w':=by
 obtain⟨P,hm,hI,hs,hf⟩:=h
 refine⟨P,hm.kp hk λb hb e=>hf b hb (hS b e),hI,hs,λb hb e=>?_⟩
 rcases hY b e with e| e
 ·exact hf b hb e
 ·have:=hm.lt hb;omega
theorem Sp.ext (h:Sp Q txt K X w)(hx:Ext w w')(hY:∀b,Y b->X b\/w.heap.size<=b):Sp Q txt K Y w':=h.step (S':=λ_=>False) hx (λ_ e=>e.elim) hY
theorem Sp.ext' (h:Sp Q txt K X w)(hx:Ext w w'):Sp Q txt K X w':=h.ext hx λ_ e=> .inl e
theorem Sp.own (h:Sp Q txt K X w)(hk:Kp S' w w')(hS:∀b,S' b->X b):Sp Q txt K X w':=h.step hk hS λ_ e=> .inl e
theorem Sp.of (hf:∀b,P.fp b->¬X b)(hX:∀b,X b->b<w.heap.size)(hr:QQ w P w' P')(hI:Sw P' txt' K')(hs:Q'.Same P'):Sp Q' txt' K' X w'/\Kp (λb=>¬X b) w w':=
 ⟨⟨P',hr.m,hI,hs,λb hb e=>by
  rcases hr.fp b hb with h| h
  ·exact hf b h e
  ·have:=hX b e;omega⟩,hr.k.Mc hf⟩
theorem Sw.more (h:Sw P txt K)(hK:K<=K'):Sw P txt K':=by
 obtain⟨a1,a2,a3,a4,a5,a6,a7,a8,a9,b1,b2,b3,b4,b5,b6,b7⟩:=h
 exact⟨a1,a2,a3,a4,a5,a6,a7,a8,a9,b1,b2,b3,b4,by omega,by omega,b7⟩
theorem Sp.more (h:Sp Q txt K X w)(hK:K<=K'):Sp Q txt K' X w:=by
 obtain⟨P,hm,hI,hs,hf⟩:=h
 exact⟨P,hm,hI.more hK,hs,hf⟩
theorem Sp.less (h:Sp Q txt K X w)(hY:∀b,Y b->X b):Sp Q txt K Y w:=by
 obtain⟨P,hm,hI,hs,hf⟩:=h
 exact⟨P,hm,hI,hs,λb hb e=>hf b hb (hY b e)⟩
theorem Sp.size (h:Sp Q txt K X w):Mw Tryz.prog 56 [ptr Q.s 0] w λv w'=>v=I 512/\w'=w:=by
 obtain⟨P,hm,hI,hs,-⟩:=h
 rw[<-hs.s]
 exact XZ hm hI.N
theorem Sp.dev (h:Sp Q txt K X w):Mw Tryz.prog 129 [ptr Q.s 0] w λv w'=>v=ptr Q.d 0/\w'=w:=by
 obtain⟨P,hm,hI,hs,-⟩:=h
 rw[<-hs.s,<-hs.d]
 exact z61 hm
theorem Sp.blocks (h:Sp Q txt K X w):Mw Tryz.prog 130 [ptr Q.d 0] w λv w'=>v=I (Q.L.length:Int)/\w'=w:=by
 obtain⟨P,hm,hI,hs,-⟩:=h
 have hb:=T3 hm.dev
 rw[hI.B] at hb
 rw[<-hs.d,<-hs.L]
 exact hb
theorem Sp.room (h:Sp Q txt K X w){a:Nat}(hp:Pre Q.L a)(ha:a<Q.L.length):Mw Tryz.prog 14 [ptr Q.m 0] w λv w'=>v=I ((Q.L.length-a:Nat):Int)/\Ext w w':=by
 obtain⟨P,hm,hI,hs,-⟩:=h
 rw[<-hs.m]
 rw[<-hs.L] at hp ha⊢
 exact z2s hm.ext hp ha
theorem Sp.VM (h:Sp Q txt K X w){x:Int}(h0:0<=x)(h1:x<(Q.L.length:Int)):(txt x).length=512:=by
 obtain⟨P,hm,hI,hs,-⟩:=h
 exact hI.len x h0 (by rw[hs.L];exact h1)
theorem Sp.n (h:Sp Q txt K X w):Q.L.length<=4096:=by
 obtain⟨P,hm,hI,hs,-⟩:=h
 rw[<-hs.L]
 exact hm.ext.n
theorem Sp.read (h:Sp Q txt K X w)(hX:∀b,X b->b<w.heap.size)(hK:K<1000000000000){no:Int}(h0:0<=no)(h1:no<(Q.L.length:Int)):Mw Tryz.prog 71 [ptr Q.s 0,I no] w λv w'=>v= .tuple #[S (txt no),I 0]/\Sp Q txt K X w'/\Kp (λb=>¬X b) w w':=by
 obtain⟨P,hm,hI,hs,hf⟩:=h
 rw[<-hs.s]
 refine(z2e hm hI hK h0 (by rw[hs.L];exact h1)).mono λv w' ⟨hv,P',hr,yn,nG⟩=>⟨hv,Sp.of hf hX hr yn (hs.trans nG)⟩
theorem Sp.write (h:Sp Q txt K X w)(hX:∀b,X b->b<w.heap.size)(hK:K<1000000000000){no:Int}(h0:0<=no)(h1:no<(Q.L.length:Int))(t:Bytes)(ht:t.length=512):Mw Tryz.prog 72 [ptr Q.s 0,I no,S t] w λv w'=>v=I 0/\Sp Q (Vp txt no (some t)) (K+1) X w'/\Kp (λb=>¬X b) w w':=by
 obtain⟨P,hm,hI,hs,hf⟩:=h
 rw[<-hs.s]
 refine(z5R hm hI hK h0 (by rw[hs.L];exact h1) t ht).mono λv w' ⟨hv,P',hr,yn,nG⟩=>⟨hv,Sp.of hf hX hr yn (hs.trans nG)⟩
def Ol.Nr (Q:Ol)(L:List Bool):Ol:={Q with L:=L}
theorem Ol.Same.Nr (h:Q.Same P)(L:List Bool):(Q.Nr L).Same {P with L:=L}:=⟨h.s,h.d,h.m,h.gi,h.c,h.pm,h.p,h.fr,rfl⟩
theorem Sp.take (h:Sp Q txt K X w)(hX:∀b,X b->b<w.heap.size){a n:Nat}(hp:Pre Q.L a)(cU:1<=n)(oI:a+n<=Q.L.length):Mw Tryz.prog 57 [ptr Q.s 0,I (n:Int)] w λv w'=>v= .tuple #[.agg #[I (a:Int),I (n:Int)],I 0]/\Sp (Q.Nr (NU Q.L a n true)) txt K X w'/\Kp (λb=>¬X b) w w':=by
 obtain⟨P,hm,hI,hs,hf⟩:=h
 rw[<-hs.s]
 rw[<-hs.L] at hp oI
 refine(z2Z hm hp cU oI).mono λv w' ⟨hv,hr⟩=>⟨hv,?_⟩
 rw[<-hs.L]
 exact Sp.of hf hX hr (hI.Nr (by rw[NP oI])) (hs.Nr _)
theorem Sp.zfO (h:Sp Q txt K X w)(hX:∀b,X b->b<w.heap.size){s n:Nat}(cU:1<=n)(cY:2<=s)(iK:s+n<=Q.L.length)(hc:∀i,s<=i->i<s+n->Q.L[i]? =some true):Mw Tryz.prog 65 [ptr Q.s 0,.agg #[I (s:Int),I (n:Int)]] w λv w'=>v=I 0/\∃txt',Sp (Q.Nr (NU Q.L s n false)) txt' K X w'/\(∀x:Int,x<(s:Int)\/(s:Int)+(n:Int)<=x->txt' x=txt x)/\Kp (λb=>¬X b) w w':=by
 obtain⟨P,hm,hI,hs,hf⟩:=h
 rw[<-hs.s]
 rw[<-hs.L] at iK hc
 refine(z2p hm hI cU cY iK hc).mono λv w' ⟨hv,P',txt',hr,yn,iL,nG⟩=>⟨hv,txt',?_⟩
 obtain⟨h1,h2⟩:=Sp.of hf hX hr yn ((hs.trans nG).Nr _)
 rw[<-hs.L]
 exact⟨h1,iL,h2⟩
end
end Go.Proofs.YtfgjaafcgghnoaaGreatDoor
namespace Go.Proofs.YtfgjaafcgghnoaaGreatDoor
open Go Go.Proofs Go.Shelf
def z1u:Go.Shelf.Ren:=⟨fun|105=>101|212=>136|99=>137|165=>138|166=>78|170=>139|169=>79|263=>171|264=>172|206=>173|240=>115|241=>174|276=>155|277=>207|n=>n,fun|9=>9|3=>3|4=>4|20=>20|0=>0|46=>172|109=>252|5=>5|72=>177|76=>180|51=>46|146=>295|53=>41|148=>297|70=>175|37=>171|75=>179|127=>224|164=>271|80=>182|n=>n,fun|n=>n⟩
theorem zaZ:Go.Proofs.Lays.n105 Tryz.prog z1u:={
 mixed:=by kernel_rfl
 f99:=Tryz.func137.trans (congrArg some (by kernel_rfl))
 f105:=Tryz.func101.trans (congrArg some (by kernel_rfl))
 f165:=Tryz.func138.trans (congrArg some (by kernel_rfl))
 f166:=Tryz.func78.trans (congrArg some (by kernel_rfl))
 f169:=Tryz.func79.trans (congrArg some (by kernel_rfl))
 f170:=Tryz.func139.trans (congrArg some (by kernel_rfl))
 f206:=Tryz.func173.trans (congrArg some (by kernel_rfl))
 f212:=Tryz.func136.trans (congrArg some (by kernel_rfl))
 f240:=Tryz.func115.trans (congrArg some (by kernel_rfl))
 f241:=Tryz.func174.trans (congrArg some (by kernel_rfl))
 f263:=Tryz.func171.trans (congrArg some (by kernel_rfl))
 f264:=Tryz.func172.trans (congrArg some (by kernel_rfl))
 f276:=Tryz.func155.trans (congrArg some (by kernel_rfl))
 f277:=Tryz.func207.trans (congrArg some (by kernel_rfl))
 t0:=Tryz.underlying0
 a0:=Tryz.isAgg0
 z0:=Tryz.sizeOf0
 v0:=Tryz.zeroValue0
 t3:=Tryz.underlying3
 a3:=Tryz.isAgg3
 z3:=Tryz.sizeOf3
 v3:=Tryz.zeroValue3
 t4:=Tryz.underlying4
 a4:=Tryz.isAgg4
 z4:=Tryz.sizeOf4
 v4:=Tryz.zeroValue4
 t5:=Tryz.underlying5
 a5:=Tryz.isAgg5
 z5:=Tryz.sizeOf5
 v5:=Tryz.zeroValue5
 t9:=Tryz.underlying9
 a9:=Tryz.isAgg9
 z9:=Tryz.sizeOf9
 v9:=Tryz.zeroValue9
 t20:=Tryz.underlying20
 a20:=Tryz.isAgg20
 z20:=Tryz.sizeOf20
 v20:=Tryz.zeroValue20
 t37:=Tryz.underlying171
 a37:=Tryz.isAgg171
 z37:=Tryz.sizeOf171
 v37:=Tryz.zeroValue171
 t46:=Tryz.underlying172
 a46:=Tryz.isAgg172
 z46:=Tryz.sizeOf172
 v46:=Tryz.zeroValue172
 t51:=Tryz.underlying46
 a51:=Tryz.isAgg46
 z51:=Tryz.sizeOf46
 v51:=Tryz.zeroValue46
 t53:=Tryz.underlying41
 a53:=Tryz.isAgg41
 z53:=Tryz.sizeOf41
 v53:=Tryz.zeroValue41
 t70:=Tryz.underlying175
 a70:=Tryz.isAgg175
 z70:=Tryz.sizeOf175
 v70:=Tryz.zeroValue175
 t72:=Tryz.underlying177
 a72:=Tryz.isAgg177
 z72:=Tryz.sizeOf177
 v72:=Tryz.zeroValue177
 t75:=Tryz.underlying179
 a75:=Tryz.isAgg179
 z75:=Tryz.sizeOf179
 v75:=Tryz.zeroValue179
 t76:=Tryz.underlying180
 a76:=Tryz.isAgg180
 z76:=Tryz.sizeOf180
 v76:=Tryz.zeroValue180
 t109:=Tryz.underlying252
 a109:=Tryz.isAgg252
 z109:=Tryz.sizeOf252
 v109:=Tryz.zeroValue252
 t127:=Tryz.underlying224
 a127:=Tryz.isAgg224
 z127:=Tryz.sizeOf224
 v127:=Tryz.zeroValue224
 t146:=Tryz.underlying295
 a146:=Tryz.isAgg295
 z146:=Tryz.sizeOf295
 v146:=Tryz.zeroValue295
 t148:=Tryz.underlying297
 a148:=Tryz.isAgg297
 z148:=Tryz.sizeOf297
 v148:=Tryz.zeroValue297
 t164:=Tryz.underlying271
 a164:=Tryz.isAgg271
 z164:=Tryz.sizeOf271
 v164:=Tryz.zeroValue271}
end Go.Proofs.YtfgjaafcgghnoaaGreatDoor
namespace Go.Proofs.YtfgjaafcgghnoaaGreatDoor
open Go Go.RowKit Go.Shelf
/-! ### A builder of strings -/
theorem zaT:Builder.Extra Tryz.prog z1u where
 sizeBuilder:=by kernel_rfl
 liesBuilder:=by kernel_rfl
 t5:=by kernel_rfl
 a5:=λ_=>by kernel_rfl
 z5:=λ_=>by kernel_rfl
 v5:=λw=>TI.zero (w:=w) TS
 infoByte:=by kernel_rfl
 cellsByte:=by kernel_rfl
 sizeByte:=by kernel_rfl
 neB5:=by decide
section
variable {w:World}
end
theorem z3Q (l:Bytes):∀n,Lib.repeatL l n=(List.replicate n l).flatten
 |0=>rfl
 |n+1=>by rw[Lib.repeatL,z3Q l n];rfl
theorem VU (l:Bytes)(n:Nat)(hl:l.length<=100)(hn:n<=1000000)(w:World):Mw Tryz.prog 101 [S l,I (n:Int)] w λv w'=>v=S (List.replicate n l).flatten/\Ext w w':=by
 have h2:n*l.length<=1000000*100:=Nat.mul_le_mul hn hl
 have:=Any.strings_Repeat zaZ zaT ⟨l.toArray⟩ n w (by omega) (by rw[Pw,Nat.mul_comm];omega)
 refine Calls.mono this λ_ _ ⟨he,hw⟩=>⟨_,he,?_,Ext.z7H hw⟩
 show Value.string ⟨(Lib.repeatL l n).toArray⟩=_
 rw[z3Q]
end Go.Proofs.YtfgjaafcgghnoaaGreatDoor
namespace Go.Proofs.YtfgjaafcgghnoaaGreatDoor
open Go Go.RowKit
def Q4 (w n:Nat):Bytes:=(List.range w).map λk=>UInt8.ofNat (n / 2^(8*(w-1-k)))
theorem Mu (w n:Nat):(Q4 w n).length=w:=by simp[Q4]
theorem z7B (w n:Nat):Q4 (w+1) n=UInt8.ofNat (n / 2^(8*w))::Q4 w n:=by
 unfold Q4
 rw[List.range_succ_eq_map,List.map_cons,List.map_map]
 congr 1
 refine List.map_congr_left λk hk=>?_
 show UInt8.ofNat (n / 2^(8*(w+1-1-(k+1))))=_
 rw[show w+1-1-(k+1)=w-1-k by omega]
theorem VG:∀(w n:Nat),Ml (Q4 w n)=bitsN (8*w) n
 |0,n=>rfl
 | w + 1, n => by
   rw[z7B,Qc,VG w n,show 8*(w+1)=8+8*w by omega,OC]
   congr 1
   refine SK ?_;have:(UInt8.ofNat (n / 2^(8*w))).toNat=n / 2^(8*w)%256:=by simp
   rw[this];omega
theorem Tv {w n:Nat}(h:n<2^(8*w)):valB (Ml (Q4 w n))=n:=by
 rw[VG,MW,Nat.mod_eq_of_lt h]
theorem z4n (s:Bytes):Q4 s.length (valB (Ml s))=s:=by
 have h1:Ml (Q4 s.length (valB (Ml s)))=Ml s:=by
  rw[VG];have:=Yf (Ml s);rw[bitsT_length] at this;exact this
 have inj : ∀ a b : Bytes, a.length = b.length -> Ml a = Ml b -> a = b := λa => by
  induction a with
  | nil => intro b hb _; cases b with
    |nil=>rfl
    |cons=>cases hb
  | cons c a ih =>
    intro b hb he
    cases b with
    |nil=>cases hb
    | cons d b =>
      rw[Qc,Qc] at he;obtain⟨e1,e2⟩:=List.append_inj he (by rw[bitsN_length,bitsN_length]);rw[ih b (by simpa using hb) e2]
      congr 1
      have:=congrArg valB e1;rw[MW,MW] at this;have h3:=c.toNat_lt;have h4:=d.toNat_lt;exact UInt8.toNat_inj.1 (by omega)
 exact inj _ _ (Mu _ _) h1
def Laid (txt:Int->Bytes)(a:Nat)(T:Bytes):Prop:=∀k,512*k<T.length->(txt ((a+k:Nat):Int)).take (T.length-512*k)=(T.drop (512*k)).take 512
section
variable {txt txt':Int->Bytes}{a n:Nat}{T:Bytes}
theorem Laid.piece (h:Laid txt a T){off n:Nat}(h1:off+n<=T.length)(h2:n<=512-off%512):((txt ((a+off / 512:Nat):Int)).drop (off%512)).take n=(T.drop off).take n:=by
 by_cases hn:n=0
 ·subst hn;simp
 have hk:=h (off / 512) (by omega)
 have e:=congrArg (λl=>(l.drop (off%512)).take n) hk
 try dsimp only at e
 rw[List.drop_take,List.take_take,Nat.min_eq_left (by omega),List.drop_take,List.take_take,List.drop_drop,Nat.min_eq_left (by omega),show 512*(off / 512)+off%512=off by omega] at e
 exact e
theorem Laid.z0C (h:Laid txt a T)(e:∀k,512*k<T.length->txt' ((a+k:Nat):Int)=txt ((a+k:Nat):Int)):Laid txt' a T:=λk hk=>by rw[e k hk];exact h k hk
theorem Laid.of (h:∀k,512*k<T.length->(txt ((a+k:Nat):Int)).length=512/\∃r,txt ((a+k:Nat):Int)=(T.drop (512*k)).take 512++r):Laid txt a T:=λk hk=>by
 obtain⟨hl,r,e⟩:=h k hk
 have h1:((T.drop (512*k)).take 512).length=min 512 (T.length-512*k):=by simp
 rw[e,List.length_append,h1] at hl
 rw[e]
 by_cases hc:T.length-512*k<=512
 ·exact List.take_left' (by rw[h1];omega)
 ·have:r=[]:=List.eq_nil_of_length_eq_zero (by omega);rw[this,List.append_nil,List.take_of_length_le (by rw[h1];omega)]
end
def VcT (txt:Int->Bytes)(st width each:Nat)(xs:List Nat):Prop:=∀i x,xs[i]? =some x->((txt ((st+i / each:Nat):Int)).drop (i%each*width)).take width=Q4 width x/\x<2^(8*width)
theorem Yu (a b c:Bytes){k n:Nat}(hn:k+n<=a.length):((a++b++c).drop k).take n=(a.drop k).take n:=by
 rw[List.append_assoc,List.drop_append_of_le_length (by omega),List.take_append_of_le_length (by rw[List.length_drop];omega)]
section
variable {txt txt':Int->Bytes}{st width each:Nat}{xs:List Nat}
theorem VcT.z0C (h:VcT txt st width each xs)(e:∀i,i<xs.length->txt' ((st+i / each:Nat):Int)=txt ((st+i / each:Nat):Int)):VcT txt' st width each xs:=λi x hx=>by
 have hi:i<xs.length:=by
  rcases Nat.lt_or_ge i xs.length with h| h
  ·exact h
  ·rw[List.getElem?_eq_none h] at hx;cases hx
 rw[e i hi]
 exact h i x hx
theorem VcT.set (h:VcT txt st width each xs)(he:1<=each){i x:Nat}(hx:x<2^(8*width))(hi:i<xs.length){t:Bytes}(ht:txt ((st+i / each:Nat):Int)=t)(hl:i%each*width+width<=t.length):VcT (Vp txt ((st+i / each:Nat):Int) (some (t.take (i%each*width)++Q4 width x++t.drop (i%each*width+width)))) st width each (xs.set i x):=λj y hy=>by
 by_cases hb:j / each=i / each
 ·rw[hb,OI];show((t.take (i%each*width)++Q4 width x++t.drop (i%each*width+width)).drop (j%each*width)).take width=_/\_;have aP:(t.take (i%each*width)).length=i%each*width:=by rw[List.length_take];omega
  by_cases i7:j=i
  ·subst i7;rw[List.getElem?_set_self hi] at hy;cases hy;refine⟨?_,hx⟩;rw[List.append_assoc,List.drop_left' aP,List.take_left' (Mu _ _)]
  ·rw[List.getElem?_set_ne (λe=>i7 e.symm)] at hy;obtain⟨h1,h2⟩:=h j y hy;refine⟨?_,h2⟩;rw[hb,ht] at h1;rw[<-h1];have oB:=Nat.div_add_mod i each;have iQ:=Nat.div_add_mod j each;rw[hb] at iQ;have bO:j%each≠i%each:=λe=>i7 (by omega);rcases Nat.lt_or_gt_of_ne bO with ly|Ly
   ·have hm:(j%each+1)*width<=i%each*width:=Nat.mul_le_mul_right _ (by omega);rw[Nat.add_mul,Nat.one_mul] at hm;rw[Yu _ _ _ (by omega),List.drop_take,List.take_take,Nat.min_eq_left (by omega)]
   ·have hm:(i%each+1)*width<=j%each*width:=Nat.mul_le_mul_right _ (by omega);rw[Nat.add_mul,Nat.one_mul] at hm;rw[List.drop_append,List.drop_of_length_le (by rw[List.length_append,aP,Mu];omega),List.nil_append,List.length_append,aP,Mu,List.drop_drop,show i%each*width+width+(j%each*width-(i%each*width+width))=j%each*width by omega]
 ·have i7:j≠i:=λe=>hb (by rw[e]);rw[List.getElem?_set_ne (λe=>i7 e.symm)] at hy;rw[Od _ _ (by omega)];exact h j y hy
theorem Xn {l z:Bytes}{w:Nat}(hl:l.length=w):∀(e k:Nat),k<e->(((List.replicate e l).flatten++z).drop (k*w)).take w=l
 |0,k,h=>by omega
 | e + 1, 0, h => by
   rw[Nat.zero_mul,List.drop_zero,List.replicate_succ,List.flatten_cons,List.append_assoc]
   exact List.take_left' hl
 | e + 1, k + 1, h => by
   rw[List.replicate_succ,List.flatten_cons,List.append_assoc,List.drop_append,List.drop_of_length_le (by rw[hl,Nat.add_mul];omega),List.nil_append,hl,Nat.add_mul,Nat.one_mul,Nat.add_sub_cancel];exact Xn hl e k (by omega)
theorem VcT.fill {n x:Nat}(hx:x<2^(8*width))(he:1<=each)(h:∀i,i<n->∃z,txt ((st+i / each:Nat):Int)=(List.replicate each (Q4 width x)).flatten++z):VcT txt st width each (List.replicate n x):=λi y hy=>by
 rw[List.getElem?_replicate] at hy
 split at hy
 ·rename_i hi
  cases hy;obtain⟨z,e⟩:=h i hi;rw[e];exact⟨Xn (Mu _ _) each _ (Nat.mod_lt _ he),hx⟩
 ·cases hy
theorem VcT.block (h:VcT txt st width each xs){b:Nat}(hl:each*width<=(txt ((st+b:Nat):Int)).length):∀m,m<=each->b*each+m<=xs.length->(txt ((st+b:Nat):Int)).take (m*width)=((xs.drop (b*each)).take m).flatMap (Q4 width)
 |0,_,_=>by simp
 | m + 1, hm, hx => by
   have ih:=h.block hl m (by omega) (by omega);have aP:b*each+m<xs.length:=by omega
   have h1:=(h (b*each+m) xs[b*each+m] (List.getElem?_eq_getElem aP)).1;have dD:(m+1)*width<=each*width:=Nat.mul_le_mul_right _ hm;rw[Nat.add_mul,Nat.one_mul] at dD;rw[show(b*each+m) / each=b from by rw[Nat.mul_comm,Nat.mul_add_div (by omega),Nat.div_eq_of_lt (by omega),Nat.add_zero],show(b*each+m)%each=m from by rw[Nat.mul_comm,Nat.mul_add_mod,Nat.mod_eq_of_lt (by omega)]] at h1
   have h2:(xs.drop (b*each)).take (m+1)=(xs.drop (b*each)).take m++[xs[b*each+m]]:=by
    rw[List.take_add_one,List.getElem?_drop,List.getElem?_eq_getElem aP];rfl
   rw[h2,List.flatMap_append,<-ih,Nat.add_mul,Nat.one_mul,List.take_add,h1];simp
def T0 (width:Nat)(xs:List Nat):Bytes:=xs.flatMap (Q4 width)
def Qu (width n:Nat)(s:Bytes):List Nat:=(List.range n).map λi=>valB (Ml ((s.drop (i*width)).take width))
theorem UF (width n:Nat)(s:Bytes):(Qu width n s).length=n:=by simp[Qu]
theorem Qz (width:Nat):∀xs:List Nat,(T0 width xs).length=xs.length*width
 |[]=>by simp[T0]
 | x :: xs => by
   have:=Qz width xs;unfold T0 at*;rw[List.flatMap_cons,List.length_append,Mu,this,List.length_cons,Nat.add_mul];omega
theorem XL {width:Nat}:∀{xs:List Nat},(∀x∈xs,x<2^(8*width))->Qu width xs.length (T0 width xs)=xs
 |[],_=>rfl
 | x :: xs, h => by
   have ih:=XL (xs:=xs) λy hy=>h y (List.mem_cons_of_mem _ hy);unfold Qu T0 at*;rw[List.length_cons,List.range_succ_eq_map,List.map_cons,List.map_map,List.flatMap_cons]
   congr 1
   ·rw[Nat.zero_mul,List.drop_zero,List.take_left' (Mu _ _),Tv (h x List.mem_cons_self)]
   ·conv=>rhs;rw[<-ih]
    refine List.map_congr_left λi _=>?_;show valB (Ml (List.take width (List.drop ((i+1)*width) _)))=_;rw[Nat.add_mul,Nat.one_mul,List.drop_append,List.drop_of_length_le (by rw[Mu];omega),List.nil_append,Mu,Nat.add_sub_cancel]
theorem VcT.load {n:Nat}{s:Bytes}(hs:s.length=n*width)(he:1<=each)(h:∀i,i<n->∃z,txt ((st+i / each:Nat):Int)=(s.drop (i / each*(each*width))).take (each*width)++z):VcT txt st width each (Qu width n s):=λi y hy=>by
 unfold Qu at hy
 rw[List.getElem?_map] at hy
 by_cases hi:i<n
 ·rw[List.getElem?_range hi] at hy;cases hy;obtain⟨z,e⟩:=h i hi;have hd:=Nat.div_add_mod i each;have Jn:=Nat.mod_lt i he
  have aA:((s.drop (i*width)).take width).length=width:=by
   have:(i+1)*width<=n*width:=Nat.mul_le_mul_right _ (by omega);rw[Nat.add_mul,Nat.one_mul] at this;rw[List.length_take,List.length_drop,hs];omega
  have e1:i*width=i / each*(each*width)+i%each*width:=by
   rw[<-Nat.mul_assoc,<-Nat.add_mul,Nat.mul_comm (i / each)];rw[hd]
  have dD:(i%each+1)*width<=each*width:=Nat.mul_le_mul_right _ (by omega);rw[Nat.add_mul,Nat.one_mul] at dD;have aU:(i+1)*width<=n*width:=Nat.mul_le_mul_right _ (by omega);rw[Nat.add_mul,Nat.one_mul] at aU;refine⟨?_,?_⟩
  ·have hb:=z4n ((s.drop (i*width)).take width);rw[aA] at hb;rw[hb,e]
   have hc:i%each*width+width<=((s.drop (i / each*(each*width))).take (each*width)).length:=by
    rw[List.length_take,List.length_drop,hs];omega
   rw[List.drop_append_of_le_length (by omega),List.take_append_of_le_length (by rw[List.length_drop];omega),List.drop_take,List.take_take,List.drop_drop,Nat.min_eq_left (by omega),<-e1]
  ·have h1:=NA (Ml ((s.drop (i*width)).take width));rw[bitsT_length,aA] at h1;exact h1
 ·rw[List.getElem?_eq_none (by simpa using hi)] at hy;cases hy
end
def Ye (n wd k:Nat):List Value:=(List.range wd).map λi=>if i<k then PF (UInt8.ofNat (n / 2^(8*(wd-1-i)))) else .int .u8 0
@[simp] theorem beTo_length (n wd k:Nat):(Ye n wd k).length=wd:=by simp[Ye]
theorem YD (n wd:Nat):Ye n wd 0=List.replicate wd (.int .u8 0):=by
 apply List.ext_getElem<;>simp[Ye]
theorem z0p (n wd:Nat):Ye n wd wd=(Q4 wd n).map PF:=by
 simp only[Ye,Q4,List.map_map]
 apply List.map_congr_left
 intro i hi
 rw[if_pos (by simpa using hi)];rfl
theorem z0X (n wd k:Nat)(h:k<wd):(Ye n wd k).set (0+k*1) (.int .u8 ((n / 2^(8*(wd-1-k))%256:Nat):Int))=Ye n wd (k+1):=by
 apply List.ext_getElem
 ·simp
 ·intro j h1 h2;have hj:j<wd:=by simpa using h2
  simp only[Ye,List.getElem_set,List.getElem_map,List.getElem_range];by_cases CD:j=k
  ·subst CD;simp[PF]
  ·rw[if_neg (by omega)];by_cases aP:j<k
   ·rw[if_pos aP,if_pos (by omega)]
   ·rw[if_neg aP,if_neg (by omega)]
theorem Ws (n wd:Nat)(w:World)(hn:n<18446744073709551616)(oG:wd<=8):Mw Tryz.prog 97 [Mh n,I (wd:Int)] w λv w'=>v=S (Q4 wd n)/\Ext w w':=by
 have eH:maxLen=9223372036854775807:=rfl
 refine It (e:=[(0,_),(1,_)]) Tryz.func97 O Tryz.ntmps97 O O$ qN O$ Me O$ qM O$ LW O$ M5 O O (pmk (c:=wd) (n:=wd) Nc TS O O O (by omega) (by omega) (by omega)) ?_
 rintro _ w1 ⟨b1,rfl,⟨bR,ad,aj⟩,-⟩
 refine M4 O$ run_seq$ qN O$ LW O$ O9 Nc O$ LW O$ LX$ LU ?_
 rw[<-YD n wd] at aj
 refine Oh (α:=Nat) (0) (λk=>[(0,Mh n),(1,I (wd:Int)),(5,.slice (some ⟨b1,0,none⟩) wd wd),(10,I (wd:Int)),(11,I (k:Int))]) (λk w'=>k<=wd/\M7 w' b1 (Ye n wd k) 5/\Ext w w') (λk=>wd-k) ?hI ?hround
 case hI=>exact⟨by omega,aj,ad⟩
 case hround=>
  rintro k w2 ⟨hk,am,af⟩ ih
  try dsimp only
  refine qN O$ Ni O O$ LX$ run_seq$ M8 O (λaP=>?_)$ λaP=>?_
  ·have DP:k<wd:=by omega
   refine py$ run_seq$ LU$ qN O$ LW O$ M4 O$ M0 O$ Md O O$ Md O O$ Oa O O$ LW O$ Oa O O$ qV (SB O O (by omega)) ?_;rw[show(8:Int)*(((wd:Int)-1)-(k:Int))=((8*(wd-1-k):Nat):Int) from by omega];refine qV (Qy (8*(wd-1-k)) (2^(8*(wd-1-k))) O O (by simp only[IntKind.bits];omega) O) ?_;refine qV (z0L O Nv U5)$ qV (MS Nc TS O O (by omega))$ Mb O (NT TS O O O am (by simp;omega)) ?_;rintro w3 ⟨ar,au⟩;rw[z0X n wd k DP] at ar;refine LX$ LV$ M0 O$ MT O O$ LW O$ LX ?_;exact(ih (k+1) w3 ⟨by omega,ar,af.LS au (λi hi=>by rw[hi,bR];exact Nat.le_refl _)⟩ (by omega)).qb
  ·have:k=wd:=by omega
   subst this;rw[z0p] at am;refine M6 O$ qN O$ LW O$ qV (z2u (l:=Q4 k n) Nc U5 U9 O am (by rw[List.drop_zero];exact List.take_of_length_le (by rw[List.length_map,Mu];omega)) (by simp[Q4])) ?_;refine M4 O$ LZ Tryz.func97 O ?_;exact⟨_,rfl,rfl,af⟩
theorem Zc (s:Bytes)(hs:s.length<=8)(w:World):Mw Tryz.prog 98 [S s] w λv w'=>v=Mh (valB (Ml s))/\Ext w w':=by
 refine It (e:=[(0,_)]) Tryz.func98 O Tryz.ntmps98 O O$ qN O$ M4 O$ run_seq$ qN O$ LW O$ M5 O O (z5y U9 Nc U5 O) ?_
 rintro _ w1 ⟨b7,c7,rest,rfl,⟨kF,ad,aj⟩,zK⟩
 refine O9 Nc O$ LW O$ LX$ LU$ Oh (α:=Nat) (0) (λi=>[(2,Mh (valB (Ml (s.take i)))),(6,.slice (some ⟨b7,0,none⟩) s.length c7),(7,I (s.length:Int)),(8,I (i:Int))]) (λi w'=>w'=w1/\i<=s.length) (λi=>s.length-i) ?hI ?hround
 case hI=>exact⟨rfl,Nat.zero_le _⟩
 case hround=>
  rintro i w2 ⟨rfl,hi⟩ ih
  try dsimp only
  refine qN O$ Ni O O$ LX$ run_seq$ M8 O (λh0=>?_)$ λh0=>?_
  ·obtain⟨c,hc⟩:∃c,s[i]? =some c:=⟨_,List.getElem?_eq_getElem (by omega)⟩;have dN:=c.toNat_lt;have g8:=Vf hc
   have aP:valB (Ml (s.take i))<72057594037927936:=by
    have h1:=NA (Ml (s.take i));rw[bitsT_length,List.length_take] at h1;have h2:2^(8*min i s.length)<=2^56:=Nat.pow_le_pow_right (by decide) (by omega);omega
   have aV:w2.cell? ⟨b7,0+i*1,none⟩=some (PF c):=by
    rw[aj.cell,Nat.zero_add,Nat.mul_one,List.getElem?_append_left (by rw[List.length_map];omega),List.getElem?_map,hc];rfl
   refine py$ run_seq$ LU$ qN O$ qV (MS Nc TS O O (by omega))$ qV (MA U5 O O aV) ?_
   generalize valB (Ml (s.take i))=q at g8 aP
   refine M4 O$ M0 O$ LW O$ qV (NW 8 256 O O (by decide) O)$ LW O$ qV ((by first|exact z2n O U5 Nv (by decide)|exact MQ O U5 Nv (by omega))) ?_;refine qV (W3 O O (by omega) (by omega)) ?_
   have mm:(q*256%18446744073709551616 |||c.toNat)=valB (Ml (s.take (i+1))):=by
    rw[g8,Nat.mod_eq_of_lt (by omega),Nat.mul_comm q];exact(Nat.two_pow_add_eq_or_of_lt (i:=8) dN q).symm
   rw[mm];refine M4 O$ LV$ M0 O$ MT O O$ LW O$ LX ?_;exact(ih (i+1) _ ⟨rfl,by omega⟩ (by omega)).qb
  ·have cy:i=s.length:=by omega
   subst cy;rw[List.take_length];refine M6 O$ qN O$ LW O$ M4 O$ LZ Tryz.func98 O ?_;exact⟨_,rfl,rfl,ad⟩
def vcC (n width each st len s:Nat)(cl:Bool):List Value:=[I (n:Int),I (width:Int),I (each:Int),I (st:Int),I (len:Int),ptr s 0,.bool cl]
def R8 (n each:Nat):Nat:=max 1 ((n+each-1) / each)
structure Sn (Q:Ol)(txt:Int->Bytes)(vb width st:Nat)(xs:List Nat)(w:World):Prop where
 LY:M7 w vb (vcC xs.length width (512 / width) st (R8 xs.length (512 / width)) Q.s false) 145
 wd:width=1\/width=2\/width=4\/width=8
 t:VcT txt st width (512 / width) xs
 n:xs.length<=4194304
 fit:st+R8 xs.length (512 / width)<=Q.L.length
theorem Vt {n each:Nat}(he:1<=each){i:Nat}(hi:i<n):i / each<R8 n each:=by
 unfold R8
 have h1:i / each<=(n-1) / each:=Nat.div_le_div_right (by omega)
 have h2:(n+each-1) / each=(n-1) / each+1:=by
  rw[show n+each-1=(n-1)+each by omega,Nat.add_div_right _ (by omega)]
 omega
section
variable {w w':World}{Q Q':Ol}{txt txt':Int->Bytes}{vb width st:Nat}{xs ys:List Nat}{S':Nat->Prop}
theorem Sn.e (h:Sn Q txt vb width st xs w):64<=512 / width/\512 / width<=512/\512 / width*width=512/\1<=width/\width<=8:=by
 rcases h.wd with e|e|e|e<;>subst e<;>decide
theorem Sn.kp (h:Sn Q txt vb width st xs w)(hk:Kp S' w w')(hn:¬S' vb):Sn Q txt vb width st xs w':=⟨hk.LY h.LY hn,h.wd,h.t,h.n,h.fit⟩
theorem Sn.ext (h:Sn Q txt vb width st xs w)(hx:Ext w w'):Sn Q txt vb width st xs w':=h.kp (S':=λ_=>False) hx id
theorem Sn.z0C (h:Sn Q txt vb width st xs w)(e:∀y:Int,(st:Int)<=y->y<(st:Int)+(R8 xs.length (512 / width):Int)->txt' y=txt y):Sn Q txt' vb width st xs w:=
 ⟨h.LY,h.wd,h.t.z0C λi hi=>by
  have:=Vt (each:=512 / width) (by have:=h.e;omega) hi
  generalize i / (512 / width)=q at this⊢
  exact e _ (by omega) (by omega),h.n,h.fit⟩
theorem Sn.q (h:Sn Q txt vb width st xs w)(hs:Q'.s=Q.s)(hl:Q'.L.length=Q.L.length):Sn Q' txt vb width st xs w:=⟨by rw[hs];exact h.LY,h.wd,h.t,h.n,by rw[hl];exact h.fit⟩
theorem Sn.lt (h:Sn Q txt vb width st xs w):vb<w.heap.size:=h.LY.lt
theorem Sn.at_ (h:Sn Q txt vb width st xs w){i:Nat}(hi:i<xs.length):st+i / (512 / width)<Q.L.length/\i%(512 / width)*width+width<=512/\i / (512 / width)<R8 xs.length (512 / width):=by
 obtain⟨h1,h2,h3,h4,h5⟩:=h.e
 have h6:=Vt (each:=512 / width) (by omega) hi
 have h7:=h.fit
 have h8:(i%(512 / width)+1)*width<=512 / width*width:=Nat.mul_le_mul_right _ (Nat.mod_lt _ (by omega))
 rw[Nat.add_mul,Nat.one_mul] at h8
 refine⟨by omega,by omega,h6⟩
theorem Sn.cells (h:Sn Q txt vb width st xs w):M7 w vb [I (xs.length:Int),I (width:Int),I ((512 / width:Nat):Int),I (st:Int),I (R8 xs.length (512 / width):Int),ptr Q.s 0,.bool false] 145:=h.LY
def VcW (Q:Ol)(txt:Int->Bytes)(K:Nat)(X:Nat->Prop)(vb width st:Nat)(ys:List Nat)(w w':World):Prop:=
 ∃txt',Sp Q txt' K X w'/\Sn Q txt' vb width st ys w'/\(∀y:Int,y<(st:Int)\/(st:Int)+(R8 ys.length (512 / width):Int)<=y->txt' y=txt y)/\Kp (λb=>¬X b) w w'
end
end Go.Proofs.YtfgjaafcgghnoaaGreatDoor
namespace Go.Proofs.YtfgjaafcgghnoaaGreatDoor.Sums
def bit (c:Nat):Nat:=if c%2=1 then(c / 2)^^^2197175160 else c / 2
def zaz (c:Nat):Nat:=bit (bit (bit (bit (bit (bit (bit (bit c)))))))
def byte (c:Nat)(b:UInt8):Nat:=zaz (c^^^b.toNat)
def raw (c:Nat)(l:List UInt8):Nat:=l.foldl byte c
def neg (c:Nat):Nat:=4294967295^^^c
def on (c:Nat)(l:List UInt8):Nat:=neg (raw (neg c) l)
def crc (l:List UInt8):Nat:=on 0 l
def num (l:List UInt8):Nat:=(l.getD 0 0).toNat*16777216+(l.getD 1 0).toNat*65536+(l.getD 2 0).toNat*256+(l.getD 3 0).toNat
def be4 (n:Nat):List UInt8:=[UInt8.ofNat (n / 16777216),UInt8.ofNat (n / 65536),UInt8.ofNat (n / 256),UInt8.ofNat n]
@[simp] theorem be4_length (n:Nat):(be4 n).length=4:=rfl
def head (k:UInt8)(p:List UInt8):List UInt8:=k::be4 p.length
def frame (k:UInt8)(p:List UInt8):List UInt8:=head k p++be4 (crc (head k p++p))++p
@[simp] theorem head_length (k:UInt8) (p:List UInt8):(head k p).length=5:=rfl
theorem z84 (c:Nat):(c / 2)^^^(2197175160&&&((4294967296-(c&&&1))%4294967296))=bit c:=by
 have h1:c&&&1=c%2:=Nat.and_two_pow_sub_one_eq_mod c 1
 rw[h1]
 unfold bit
 by_cases h:c%2=1
 ·rw[if_pos h,h]
  congr 1
 ·have h0:c%2=0:=by omega
  rw[if_neg h,h0];simp
theorem Vl {a b:Nat}(ha:a<4294967296)(hb:b<4294967296):a^^^b<4294967296:=Nat.xor_lt_two_pow (n:=32) ha hb
theorem Sh {c:Nat}(h:c<4294967296):bit c<4294967296:=by
 unfold bit
 split
 ·exact Vl (by omega) (by omega)
 ·omega
theorem z6w {c:Nat}(h:c<4294967296):zaz c<4294967296:=Sh (Sh (Sh (Sh (Sh (Sh (Sh (Sh h)))))))
theorem z3D {c:Nat}(h:c<4294967296)(b:UInt8):byte c b<4294967296:=z6w (Vl h (by have:=b.toNat_lt;omega))
theorem z7L:∀(l:List UInt8) {c:Nat},c<4294967296->raw c l<4294967296
 |[],_,h=>h
 |b::l,_,h=>z7L l (z3D h b)
theorem z3g {c:Nat}(h:c<4294967296):neg c<4294967296:=Vl (by omega) h
theorem z9X {c:Nat}(l:List UInt8)(h:c<4294967296):on c l<4294967296:=z3g (z7L l (z3g h))
theorem zaW (l:List UInt8):crc l<4294967296:=z9X l (by omega)
theorem z2W (c:Nat)(a b:List UInt8):raw c (a++b)=raw (raw c a) b:=List.foldl_append ..
/-! ### The step is linear -/
/-! ### Linear maps, by their table -/
def iter (L:Nat->Nat):Nat->Nat->Nat
 |0,x=>x
 |n+1,x=>iter L n (L x)
/-! ### Frames -/
@[simp] theorem frame_length (k:UInt8) (p:List UInt8):(frame k p).length=9+p.length:=by simp[frame];omega
/-! ### A byte that is turned is told -/
theorem getD_take (s:List UInt8)(n i:Nat)(h:i<n):(s.take n).getD i 0=s.getD i 0:=by simp[List.getD,h]
def z7f (s:List UInt8)(i:Nat)(d:UInt8):List UInt8:=s.set i (s.getD i 0^^^d)
@[simp] theorem turned_length (s:List UInt8) (i:Nat) (d:UInt8):(z7f s i d).length=s.length:=by simp[z7f]
end Go.Proofs.YtfgjaafcgghnoaaGreatDoor.Sums
namespace Go.Proofs.YtfgjaafcgghnoaaGreatDoor
open Go Go.RowKit
set_option linter.unusedVariables false
abbrev U (n:Nat):Value:= .int .u32 (n:Int)
theorem z77 (c:Nat)(b:UInt8)(p:Nat)(T:TypeId)(w:World)(hB:M7 w p [U c] T)(hc:c<4294967296):
  Mw Tryz.prog 131 [PF b,ptr p 0] w λv w'=>v= .tuple #[]/\M7 w' p [U (Sums.byte c b)] T/\Kp (λk=>k=p) w w':=by
 have hb:=b.toNat_lt
 have hx:=Sums.Vl hc (show b.toNat<4294967296 by omega)
 refine It (e:=[(0,_),(1,_)]) Tryz.func131 O Tryz.ntmps131 O O$ qN O$ qV (M1 Np O O hB O)$ LW O$ qV ((by first|exact z2n O U5 Np (by decide)|exact z8L O U5 Np (by omega))) ?_
 refine qV (zaj O O (by omega) (by omega))$ Mb O (NT Mi O O O hB (by simp)) ?_
 rintro w1 ⟨aj,aK⟩
 refine qM O$ LW O$ LX$ LU$ Oh (α:=Nat×Nat) ((0,c^^^b.toNat)) (λx=>[(0,PF b),(1,ptr p 0),(7,I (x.1:Int))]) (λx w'=>x.1<=8/\x.2<4294967296/\Sums.iter Sums.bit (8-x.1) x.2=Sums.byte c b/\M7 w' p [U x.2] T/\Kp (λk=>k=p) w w') (λx=>8-x.1) ?hI ?hround
 case hI=>exact⟨by omega,hx,rfl,aj,aK⟩
 case hround=>
  rintro⟨k,d⟩ w2 ⟨bz,hd,hs,am,ao⟩ ih
  try dsimp only
  refine qN O$ Ni O O$ LX$ run_seq$ M8 O (λaP=>?_)$ λaP=>?_
  ·have jy:d&&&1<4294967296:=Nat.lt_of_le_of_lt Nat.and_le_right (by omega);have tB:(4294967296-(d&&&1))%4294967296<4294967296:=Nat.mod_lt _ (by omega);have iO:2197175160&&&((4294967296-(d&&&1))%4294967296)<4294967296:=Nat.lt_of_le_of_lt Nat.and_le_left (by omega);refine py$ run_seq$ LU$ M0 O$ qV (M1 Np O O am O)$ qV (Qy 1 2 O O (by decide) O)$ qV (M1 Np O O am O)$ qV (zai O O (by omega) (by omega))$ qV (zeK O (by omega))$ qV (zai O O (by omega) (by omega))$ qV (zaj O O (by omega) (by omega))$ Mb O (NT Mi O O O am (by simp)) ?_;rintro w3 ⟨ar,au⟩;refine LX$ LV$ M0 O$ MT O O$ LW O$ LX ?_;simp only[List.set_cons_zero] at ar;rw[Sums.z84] at ar;refine(ih (k+1,Sums.bit d) w3 ⟨by dsimp only at*;omega,Sums.Sh hd,?_,ar,ao.trans au⟩ (by dsimp only at*;omega)).qb;have h8:8-k=(8-(k+1))+1:=by dsimp only at*;omega
   dsimp only at hs⊢;rw[h8] at hs;exact hs
  ·refine M6 O$ Nq Tryz.func131 O ?_;have hk:k=8:=by dsimp only at*;omega
   subst hk;refine⟨_,rfl,rfl,?_,ao⟩;have:d=Sums.byte c b:=hs;rw[<-this];exact am
theorem zaQ {l:List UInt8}{rest:List Value}{k:Nat}(h:k<l.length):(l.map PF++rest)[0+k*1]? =some (PF (l.getD k 0)):=by
 rw[Nat.zero_add,Nat.mul_one,List.getElem?_append_left (by simpa using h)]
 simp[h,List.getD]
theorem Ym (c:Nat)(l:List UInt8)(k:Nat)(h:k<l.length):Sums.raw c (l.take (k+1))=Sums.byte (Sums.raw c (l.take k)) (l.getD k 0):=by
 rw[List.take_succ_eq_append_getElem h,Sums.z2W]
 simp[Sums.raw,List.getD,h]
theorem z7p (c:Nat)(l:List UInt8)(w:World)(hc:c<4294967296)(hl:l.length<=9223372036854775807):
  Mw Tryz.prog 96 [U c,S l] w λv w'=>v=U (Sums.on c l)/\Ext w w':=by
 refine It (e:=[(0,_),(1,_)]) Tryz.func96 O Tryz.ntmps96 O O$ qN O$ M5 O O (O2 O O) ?_
 rintro _ w1 ⟨b1,rfl,bR,ad,aj⟩
 refine Me O$ qM O$ qV (M1 Np O O aj O)$ qV (za9 O (by omega))$ Mb O (NT Mi O O O aj (by simp)) ?_
 rintro w2 ⟨am,ao⟩
 simp only[List.set_cons_zero] at am
 have af:Ext w w2:=ad.LS ao (λi hi=>by rw[hi,bR];exact Nat.le_refl _)
 refine qM O$ qV (Zm (first:=[]) (caps:=[.tmp 2]) O O)$ M4 O$ run_seq$ qN O$ LW O$ M5 O O (z5y U9 Nc U5 O) ?_
 rintro _ w3 ⟨b3,cap,rest,rfl,⟨ek,ai,ar⟩,jA⟩
 refine O9 Nc O$ LW O$ LX$ LU ?_
 have bO:b3≠b1:=by have:=am.lt;omega
 refine Oh (α:=Nat×Nat) ((0,Sums.neg c)) (λx=>[(2,ptr b1 0),(5,.func (.func 131) #[] #[ptr b1 0]),(12,.slice (some ⟨b3,0,none⟩) l.length cap),(13,I (l.length:Int)),(14,I (x.1:Int))]) (λx w'=>x.1<=l.length/\x.2<4294967296/\x.2=Sums.raw (Sums.neg c) (l.take x.1)/\M7 w' b1 [U x.2] 46/\M7 w' b3 (l.map PF++rest) 5/\Ext w w') (λx=>l.length-x.1) ?hI ?hround
 case hI=>exact⟨by simp,Sums.z3g hc,rfl,ai.LY am,ar,af.trans ai⟩
 case hround=>
  rintro⟨k,d⟩ w4 ⟨hk,hd,hs,aH,aI,ay⟩ ih;dsimp only at hk hd hs aH
  try dsimp only
  refine qN O$ Ni O O$ LX$ run_seq$ M8 O (λaP=>?_)$ λaP=>?_
  ·have jV:k<l.length:=by omega
   refine py$ run_seq$ LU$ qN O$ qV (MS Nc TS O O (by omega))$ qV (M1 U5 O O aI (zaQ jV))$ M4 O$ M0 O$ Md O O$ Ny O O (OK zes O O) (z77 d (l.getD k 0) b1 _ w4 aH hd) ?_;rintro _ w5 ⟨rfl,aS,aR⟩;refine LX$ LV$ M0 O$ MT O O$ LW O$ LX ((ih (k+1,Sums.byte d (l.getD k 0)) w5 ⟨jV,Sums.z3D hd _,?_,aS,aR.LY aI bO,ay.LS aR (λi hi=>by rw[hi,bR];exact Nat.le_refl _)⟩ (by dsimp only;omega)).qb);rw[Ym _ _ _ jV,<-hs]
  ·refine M6 O$ qN O$ qV (M1 Np O O aH O)$ qV (za9 O (by omega))$ M4 O$ LZ Tryz.func96 O (⟨_,rfl,?_,ay⟩);have jm:k=l.length:=by omega
   subst jm;rw[List.take_length] at hs;show U (Sums.neg d)=_;rw[hs]
   rfl
theorem z4C (l:List UInt8)(w:World)(hl:l.length<=9223372036854775807):
  Mw Tryz.prog 91 [S l] w λv w'=>v=U (Sums.crc l)/\Ext w w':=by
 refine It (e:=[(0,_)]) Tryz.func91 O Tryz.ntmps91 O O$ qN O$ Me O$ qM O$ LW O$ Mn zcs O (z7p 0 l _ (by omega) hl) ?_
 rintro _ w1 ⟨rfl,ad⟩
 refine M4 O$ LZ Tryz.func91 O ?_
 exact⟨_,rfl,rfl,ad⟩
theorem XR (s:Bytes):Lib.strCells ⟨s.toArray⟩=s.map PF:=by simp[Lib.strCells,PF]
section
variable {P:Program}{e:Env}{d:Option Nat}{ty t tu tn el:TypeId}{pos:String}{aft:Array Edge}{g:Option (Nat×Bool)}{x y:Operand}{w w':World}{n k:Nat}{v:Value}{cs:List Value}{s:Bytes}{kn:IntKind}{za:Int}
theorem z0P (ht:P.underlying t=some (.slice el))(hu:P.underlying tu=some .string)(hs:TI P el (.int .u8 0) 1 1)(hv:Sl w v el 1 n cs)(hb:n+s.length<=140737488355328):
  ∃v' w',(Builtin.append_ #[t,tu] ty #[v,S s]).run P w= .ok v' w'/\Sl w' v' el 1 (n+s.length) (cs++s.map PF)/\Kp (λk=>v.ownBlock=some k) w w'/\(∀g,v'.ownBlock=some g->v.ownBlock=some g\/w.heap.size<=g):=by
 have eH:maxLen=9223372036854775807:=rfl
 obtain⟨i,hi,oP,jw,qu⟩:=hs
 have e1:=Pw s
 have e2:=XR s
 rcases id hv.2 with⟨rfl,rfl⟩|⟨g,cap,cur,rfl,Gk,hg,jh,mz,fA,Gl⟩
 ·have hx:cs=[]:=List.eq_nil_of_length_eq_zero (by simpa using hv.1);subst hx;obtain⟨v',w',hr,ho,hg,-⟩:=Lib.run_append_own_string (P:=P) w w.heap.size t tu ty el i ht hu hi oP jw qu (.slice none 0 0) 0 [] (World.ownsRow_nil w w.heap.size el 1) ⟨s.toArray⟩ (by rw[e1];omega) (by rw[e1];exact hb) (Nat.le_refl _);rw[e1,e2] at ho;refine⟨v',w',hr,⟨ho.1,?_⟩,Kp.QX hg,λg hg=> .inr (World.ownsRow.lt ho g hg).1⟩;rcases ho.2 with Jo|⟨g,cap2,cur2,jo,bY,dB⟩
  ·exact .inl Jo
  ·exact .inr ⟨g,cap2,cur2,jo,Nat.zero_le _,dB⟩
 ·by_cases hH:n+s.length<=cap
  ·by_cases hc:0<cap
   ·obtain⟨w',hr,ho,cO⟩:=Lib.run_append_fits_string (P:=P) w 0 t tu ty el i ht hu hi jw (some ⟨g,0,none⟩) n cap cs hv ⟨s.toArray⟩ hc (by rw[e1];exact hH);rw[e1,e2] at ho;rw[e1] at hr;exact⟨_,w',hr,ho,Kp.QX cO,λg' cO=> .inl (by simpa[Value.ownBlock] using cO)⟩
   ·obtain⟨v',w',hr,ho,cO,-⟩:=Lib.run_append_own_string (P:=P) w 0 t tu ty el i ht hu hi oP jw qu (.slice (some ⟨g,0,none⟩) n cap) n cs hv ⟨s.toArray⟩ (by rw[e1];omega) (by rw[e1];exact hb) (Nat.zero_le _);have Jp:s=[]:=List.eq_nil_of_length_eq_zero (by omega);subst Jp;have dB:=Lib.run_append_room_string (P:=P) w t tu ty el i ht hu hi jw g n cap cur hg ⟨[].toArray⟩ (by rw[e1];exact hH) (by rw[e1];simp only[Nat.mul_one] at fA;simp only[List.length_nil];omega);rw[dB] at hr;cases hr;rw[e1,e2] at ho;exact⟨_,_,dB,ho,Kp.QX cO,λg' cO=> .inl (by simpa[Value.ownBlock] using cO)⟩
  ·obtain⟨v',w',hr,ho,cO,-⟩:=Lib.run_append_own_string (P:=P) w 0 t tu ty el i ht hu hi oP jw qu (.slice (some ⟨g,0,none⟩) n cap) n cs hv ⟨s.toArray⟩ (by rw[e1];omega) (by rw[e1];exact hb) (Nat.zero_le _);have dB:=Lib.run_append_grow_string (P:=P) w t tu ty el i (.int .u8 0) ht hu hi oP ⟨g,0,none⟩ n cap cs (by rw[jw];exact hv.1) (World.ownsRow.cells hv (g:=g) O) ⟨s.toArray⟩ (by rw[e1];omega) (by rw[e1];omega) (by rw[e1];exact growslice_fits (by omega) (by rw[qu];omega));rw[dB] at hr;cases hr;rw[e1,e2] at ho;refine⟨_,_,dB,by rw[<-e1] at ho⊢;exact ho,Kp.QX cO,λg' cO=> .inr ?_⟩;simp[Value.ownBlock] at cO;omega
theorem zeN (ht:P.underlying t=some (.slice el))(hu:P.underlying tu=some .string)(hs:TI P el (.int .u8 0) 1 1)(hx:look e x=some v)(hy:look e y=some (S s))(hv:Sl w v el 1 n cs)(hb:n+s.length<=140737488355328):
  Yp P e ⟨d,.call ⟨.builtin .append,#[x,y],#[t,tu]⟩,ty,pos,aft,g⟩ w λv' w'=>Sl w' v' el 1 (n+s.length) (cs++s.map PF)/\Kp (λk=>v.ownBlock=some k) w w'/\(∀g,v'.ownBlock=some g->v.ownBlock=some g\/w.heap.size<=g):=by
 obtain⟨v',w',hr,nx⟩:=z0P (P:=P) (ty:=ty) ht hu hs hv hb
 refine⟨v',w',fun ρ hρ=>?_,nx⟩
 simp[execOp,resolve,invoke,builtin,hρ _ _ hx,hρ _ _ hy,hr]
theorem z0T (k:Nat):Builtin.zeroCells (Value.int .u8 0).cells k=(Lib.strCells ⟨(zeros k).toArray⟩).toArray:=by
 rw[XR]
 apply Array.ext'
 rw[TT (.int .u8 0) k O]
 simp[zeros,PF]
theorem zd8 [rD:PS za k](ht:P.underlying t=some (.slice el))(hn:P.underlying tn=some (.int kn))(hu:P.underlying tu=some .string)(hs:TI P el (.int .u8 0) 1 1)(hx:look e x=some v)(hy:look e y=some (I za))(hv:Sl w v el 1 n cs)(hb:n+k<=140737488355328):
  Yp P e ⟨d,.call ⟨.builtin .append,#[x,y],#[t,tn]⟩,ty,pos,aft,g⟩ w λv' w'=>Sl w' v' el 1 (n+k) (cs++(zeros k).map PF)/\Kp (λk=>v.ownBlock=some k) w w'/\(∀g,v'.ownBlock=some g->v.ownBlock=some g\/w.heap.size<=g):=by
 obtain⟨rfl⟩:=rD
 have hl:(zeros k).length=k:=by simp[zeros]
 obtain⟨v',w',hr,h1,h2⟩:=z0P (P:=P) (ty:=ty) (s:=zeros k) ht hu hs hv (by rw[hl];exact hb)
 rw[hl] at h1
 have he:(Builtin.append_ #[t,tn] ty #[v,I (k:Int)]).run P w= .ok v' w':=by
  rw[<-hr];obtain⟨i,hi,oP,jw,qu⟩:=hs;have hw:IntKind.i64.wrap (k:Int)=k:=by rw[IntKind.wrap_i64];omega
  have tB:¬((k:Int)<0):=by omega
  have Gm:¬(281474976710656<(k:Int)*(i.bytes:Int)):=by rw[qu];omega
  have hf:=λw=>Lib.run_firstCells_string (P:=P) w i.size ⟨(zeros k).toArray⟩;have cG:(ByteArray.mk (zeros k).toArray).size=k:=by rw[Pw,hl]
  rw[cG] at hf
  obtain⟨a,c,Jq⟩:∃a c,v= .slice a n c:=by
   rcases hv.2 with⟨rfl,rfl⟩|⟨g,cap,cur,rfl,_⟩
   ·exact⟨_,_,rfl⟩
   ·exact⟨_,_,rfl⟩
  subst Jq;have A7:k=0->(Lib.strCells ⟨(zeros k).toArray⟩).toArray=#[]:=λe=>by subst e;rfl
  have Jr:c<=maxLen/\n<=c:=by
   rcases hv.2 with⟨h,h'⟩|⟨g,cap,cur,h,_,_,h1,h2,_⟩
   ·cases h;exact⟨by simp[maxLen],by omega⟩
   ·cases h;exact⟨h2,h1⟩
  have bP:n+k<=c\/¬(281474976710656<Builtin.nextslicecap (n+k) c*i.bytes):=by
   by_cases hr:n+k<=c
   ·exact .inl hr
   ·have:=growslice_fits (need:=n+k) (old:=c) (bytes:=i.bytes) (by omega) (by rw[qu];omega);exact .inr (by omega)
  have DQ:¬(9223372036854775807<((n:Int)+(k:Int))):=by omega
  by_cases hk:k=0
  ·subst hk;have e0:=A7 O;have jE:n<=c:=Jr.2;have mM:IntKind.i64.wrap 0=0:=by rw[IntKind.wrap_i64];omega
   have iI:=hf w;rw[jw,e0] at iI;simp[Builtin.append_,run_underlying ht,run_underlying hn,run_underlying hu,sizeOf,typeInfo,zeroValue,hi,oP,jw,asInt,asIntOf,mM,Builtin.lenOf,cG,jE,iI]
  ·have bc:=z0T k;have rH:∀w,(Builtin.firstCells 1 k (.string ⟨(zeros k).toArray⟩)).run P w= .ok (Builtin.zeroCells (Value.int .u8 0).cells k) w:=λw=>by rw[bc];have:=hf w;rw[jw] at this;exact this
   have eV:¬(k*i.size=0):=by rw[jw];omega
   by_cases hr:n+k<=c
   ·simp[Builtin.append_,run_underlying ht,run_underlying hn,run_underlying hu,sizeOf,typeInfo,zeroValue,hi,oP,jw,asInt,asIntOf,hw,tB,Gm,Builtin.lenOf,cG,hr,rH,hk]
   ·have DR:=bP.resolve_left hr;simp[Builtin.append_,run_underlying ht,run_underlying hn,run_underlying hu,sizeOf,typeInfo,zeroValue,hi,oP,jw,asInt,asIntOf,hw,tB,Gm,Builtin.lenOf,cG,hr,rH,hk,DQ,DR]
 refine⟨v',w',fun ρ hρ=>?_,h1,h2⟩
 simp[execOp,resolve,invoke,builtin,hρ _ _ hx,hρ _ _ hy,he]
end
/-! ### Writers -/
def swC (s st len:Nat)(rest:Value)(at' n:Nat)(sum:Nat)(put:Value)(dn:Bool):List Value:=[ptr s 0,I (st:Int),I (len:Int),rest,I (at':Int),I (n:Int),U sum,put,.bool dn]
section
variable {w w':World}{Q:Ol}{txt:Int->Bytes}{K:Nat}{X:Nat->Prop}
theorem ZZ (n:Nat)(hn:n<=2000000)(w:World):Mw Tryz.prog 55 [I 512,I (n:Int)] w λv w'=>v= .tuple #[I (((n+523) / 512:Nat):Int),I 0]/\w'=w:=by
 refine It (e:=[(0,_),(1,_)]) Tryz.func55 O Tryz.ntmps55 O O$ qN O$ Me O$ M4 O$ run_seq$ qN O$ LW O$ Ni O O$ ML$ Md O O$ Ng O O$ ML$ MN O O$ Md O O ?_
 refine qV (yre O O (by omega))$ N9 O O$ ML$ MN O O$ Md O O$ Ni O O$ ML$ MN O O$ Md O O$ LW O$ qV (SB O O (by omega))$ Oa O O$ Ng O O$ ML ?_
 refine MN O O$ LX$ Mz.qb (e:=[(0,_),(1,_),(4,_),(5,_),(27,_)]) ?_
 refine An O$ py$ qN O$ LW O$ MT O O$ LW O$ MT O O$ Oa O O$ LW O$ qV (Te O O (by omega))$ Me O$ M4 O ?_
 rw[show((n:Int)+12+512-1) / 512=(((n+523) / 512:Nat):Int) by omega]
 refine LZ Tryz.func55 O ?_
 exact⟨_,rfl,rfl,rfl⟩
theorem Wf (h:Sp Q txt K X w){st len:Nat}(h1:1<=len)(h2:st+len<=Q.L.length):Mw Tryz.prog 92 [.agg #[ptr Q.s 0,I (st:Int),I (len:Int)]] w λv w'=>v=I 0/\Ext w w':=by
 have dT:=h.n
 refine It (e:=[(0,_)]) Tryz.func92 O Tryz.ntmps92 O O$ qN O$ M5 O O (O2 O (cs:=[ptr Q.s 0,I (st:Int),I (len:Int)]) O) ?_
 rintro _ w1 ⟨b1,rfl,bR,ad,aj⟩
 have hP:=h.ext' ad
 have hg:=Ext.Mm w1
 have Gn:=(hP.ext' hg).dev
 have Gp:=(hP.ext' hg).blocks
 refine M4 O$ run_seq$ LU$ qN O$ Ma RB O$ qV (M1 To O O aj O)$ qV (N7 To O O)$ M4 O$ An O$ run_seq$ NV (λw'=>Ext w1 w') O$ M3 0 O (My QL O) hg$ M3 1 O (My NQ O) hg$ qT 2 O (λ_ h=>M1 U3 O O (h.LY aj) O) hg ?_
 refine M3 3 O (Xc O O) hg$ QT$ Mj 4 O O (hg)$ M3 5 O (My QL O) hg$ M3 6 O (My NK O) hg$ qT 7 O (λ_ h=>M1 U3 O O (h.LY aj) O) hg$ M3 8 O (Xc O O) hg$ QT$ M3 9 O (Ro O O) hg$ Mj 10 O O (hg)$ M3 11 O (My QL O) hg$ M3 12 O (My NK O) hg$ qT 13 O (λ_ h=>M1 U3 O O (h.LY aj) O) hg$ M3 14 O (My RB O) hg ?_
 refine qT 15 O (λ_ h=>M1 To O O (h.LY aj) O) hg$ Pm 16 O z9T O (Gn) ?_
 rintro _ w2 ⟨rfl,rfl⟩
 refine⟨hg,?_⟩
 refine Pm 17 O z0v O (Gp) ?_
 rintro _ w2 ⟨rfl,rfl⟩
 refine⟨hg,?_⟩
 refine M3 18 O (yge O O) hg$ QT$ M3 19 O (Ro O O) hg$ Mj 20 O O (hg)$ M3 21 O (My QL O) hg$ M3 22 O (My NQ O) hg$ qT 23 O (λ_ h=>M1 U3 O O (h.LY aj) O) hg$ M3 24 O (My RB O) hg$ qT 25 O (λ_ h=>M1 To O O (h.LY aj) O) hg$ M3 28 O (My QL O) hg$ M3 29 O (My NK O) hg$ qT 30 O (λ_ h=>M1 U3 O O (h.LY aj) O) hg$ Pm 26 O z9T O (Gn) ?_
 rintro _ w2 ⟨rfl,rfl⟩
 refine⟨hg,?_⟩
 refine Pm 27 O z0v O (Gp) ?_
 rintro _ w2 ⟨rfl,rfl⟩
 refine⟨hg,?_⟩
 refine M3 31 O (TO O O (by omega)) hg$ M3 32 O (UL O O) hg$ QT$ M3 33 O (Ro O O) hg$ M3 34 O (NX O) hg$ qE$ Mz.qb (e:=[(2,_),(7,_)]) ?_
 refine An O$ py$ LV$ qN O$ M4 O$ LZ Tryz.func92 O ?_
 exact⟨_,rfl,rfl,ad.trans hg⟩
theorem Xq (h:Sp Q txt K X w){st len:Nat}(h2:len<=100000):Mw Tryz.prog 99 [.agg #[ptr Q.s 0,I (st:Int),I (len:Int)]] w λv w'=>v=I ((len:Int)*512-12)/\Ext w w':=by
 refine It (e:=[(0,_)]) Tryz.func99 O Tryz.ntmps99 O O$ qN O$ M5 O O (O2 O (cs:=[ptr Q.s 0,I (st:Int),I (len:Int)]) O) ?_
 rintro _ w1 ⟨b1,rfl,bR,ad,aj⟩
 have hP:=h.ext' ad
 have hg:=Ext.Mm w1
 have Js:=(hP.ext' hg).size
 refine M4 O$ run_seq$ NV (λw'=>Ext w1 w') O$ M3 0 O (My QL O) hg$ M3 1 O (My NQ O) hg$ qT 2 O (λ_ h=>M1 U3 O O (h.LY aj) O) hg$ M3 3 O (My RB O) hg$ qT 4 O (λ_ h=>M1 To O O (h.LY aj) O) hg$ Pm 5 O z0Y O (Js) ?_
 rintro _ w2 ⟨rfl,rfl⟩
 refine⟨hg,?_⟩
 refine M3 6 O (SB O O (by omega)) hg$ M3 7 O (TO O O (by omega)) hg$ M3 8 O (NX O) hg$ qE$ LZ Tryz.func99 O ?_
 exact⟨_,rfl,rfl,ad.trans hg⟩
theorem UD {wb s st len at' n sum:Nat}{rest put:Value}(hB:M7 w wb (swC s st len rest at' n sum put false) 200):Mw Tryz.prog 94 [ptr wb 0] w λv w'=>v=I 0/\w'=w:=by
 replace hB:M7 w wb [ptr s 0,I (st:Int),I (len:Int),rest,I (at':Int),I (n:Int),U sum,put,.bool false] 200:=hB
 refine It (e:=[(0,_)]) Tryz.func94 O Tryz.ntmps94 O O$ qN O$ M4 O$ run_seq$ LU$ qN O$ LW O$ qV (N7 SW O O)$ M4 O$ An O$ qN O$ LW O$ MC O$ Ma Vj O ?_
 refine qV (M1 U4 O O hB O)$ M4 O$ An O$ py$ LV$ qN O$ M4 O$ LZ Tryz.func94 O ?_
 exact⟨_,rfl,rfl,rfl⟩
theorem z1a (h:Sp Q txt K X w){wb st len at' n sum:Nat}{rest put:Value}(h2:len<=100000)(hn:n<=100000000)(hB:M7 w wb (swC Q.s st len rest at' n sum put false) 200):Mw Tryz.prog 95 [ptr wb 0] w λv w'=>v=I ((len:Int)*512-12-(n:Int))/\Ext w w':=by
 replace hB:M7 w wb [ptr Q.s 0,I (st:Int),I (len:Int),rest,I (at':Int),I (n:Int),U sum,put,.bool false] 200:=hB
 have hg:=Ext.Mm w
 have Jt:=Xq (h.ext' hg) (st:=st) h2
 refine It (e:=[(0,_)]) Tryz.func95 O Tryz.ntmps95 O O$ qN O$ M4 O$ run_seq$ qN O$ LW O$ qV (N7 SW O O)$ Md O O$ MC O$ Ma Vj O$ qV (M1 U4 O O hB O)$ MN O O$ LX$ An O ?_
 refine py$ run_seq$ NV (λw'=>Ext w w') O$ Mj 0 O O (hg)$ M3 1 O (N4 O) hg$ M3 2 O (My TE O) hg$ qT 3 O (λ_ h=>Mv z7a O SM O (M7.cells (n:=3) (h.LY hB) (news:=[_,_,_]) O) O) hg$ Mj 5 O O (hg)$ M3 6 O (N4 O) hg$ M3 7 O (My WN O) hg$ qT 8 O (λ_ h=>M1 U3 O O (h.LY hB) O) hg$ Pm 4 O zdX O (Jt) ?_
 rintro _ w2 ⟨rfl,af⟩
 refine⟨(hg.trans af),?_⟩
 refine M3 9 O (TO O O (by omega)) ((hg.trans af))$ M3 10 O (NX O) ((hg.trans af))$ qE$ LZ Tryz.func95 O ?_
 exact⟨_,rfl,rfl,hg.trans af⟩
end
def Xy (bs bx bw:Nat):Value:= .func (.func 93) #[] #[ptr bs 0,ptr bx 0,ptr bw 0]
structure SwM (s st len wb bs bx bw:Nat)(rest:Value)(at' n sum:Nat)(w:World):Prop where
 wr:M7 w wb (swC s st len rest at' n sum (Xy bs bx bw) false) 200
 sb:M7 w bs [ptr s 0] 28
 xb:M7 w bx [I (st:Int),I (len:Int)] 108
 pb:M7 w bw [ptr wb 0] 133
 ne:bs≠wb/\bx≠wb/\bw≠wb
section
variable {w w':World}{Q:Ol}{txt:Int->Bytes}{K:Nat}{X S':Nat->Prop}{s st len wb bs bx bw at' n sum:Nat}{rest:Value}
theorem SwM.kp (h:SwM s st len wb bs bx bw rest at' n sum w)(hk:Kp S' w w')(h1:¬S' wb)(h2:¬S' bs)(h3:¬S' bx)(h4:¬S' bw):SwM s st len wb bs bx bw rest at' n sum w':=
 ⟨hk.LY h.wr h1,hk.LY h.sb h2,hk.LY h.xb h3,hk.LY h.pb h4,h.ne⟩
theorem SwM.ext (h:SwM s st len wb bs bx bw rest at' n sum w)(hx:Ext w w'):SwM s st len wb bs bx bw rest at' n sum w':=h.kp (S':=λ_=>False) hx id id id id
theorem SwM.re {rest2:Value}{at2 n2 sum2:Nat}(h:SwM s st len wb bs bx bw rest at' n sum w)(hk:Kp (λb=>b=wb) w w')(hB:M7 w' wb (swC s st len rest2 at2 n2 sum2 (Xy bs bx bw) false) 200):SwM s st len wb bs bx bw rest2 at2 n2 sum2 w':=
 ⟨hB,hk.LY h.sb h.ne.1,hk.LY h.xb h.ne.2.1,hk.LY h.pb h.ne.2.2,h.ne⟩
theorem SwM.cells (h:SwM s st len wb bs bx bw rest at' n sum w):M7 w wb [ptr s 0,I (st:Int),I (len:Int),rest,I (at':Int),I (n:Int),U sum,Xy bs bx bw,.bool false] 200:=h.wr
theorem VX (hP:Sp Q txt K X w)(hX:∀b,X b->b<w.heap.size)(hK:K<1000000000000)(h:SwM Q.s st len wb bs bx bw rest at' n sum w)(aU:X wb/\X bs/\X bx/\X bw)(A8:st+at'<Q.L.length)(t:Bytes)(ht:t.length=512):
  Mw Tryz.prog 93 [S t,ptr bs 0,ptr bx 0,ptr bw 0] w λv w'=>v=I 0/\Sp Q (Vp txt ((st+at':Nat):Int) (some t)) (K+1) X w'/\SwM Q.s st len wb bs bx bw rest (at'+1) n sum w'/\Kp (λb=>¬X b\/b=wb) w w':=by
 have dT:=hP.n
 have hC:=h.sb
 have gC:=h.xb
 have jv:=h.pb
 have hB:=h.cells
 have hg:=Ext.Mm w
 refine It (e:=[(0,_),(1,_),(2,_),(3,_)]) Tryz.func93 O Tryz.ntmps93 O O$ qN O$ M4 O$ run_seq$ NV (λw'=>Kp (λb=>¬X b) w w') O$ qT 0 O (λ_ hS=>(by first|exact M1 To O O (hS.LY hC (λe=>e aU.2.1)) O|exact M1 To O O (hS.LY gC (λe=>e aU.2.2.1)) O|exact M1 To O O (hS.LY jv (λe=>e aU.2.2.2)) O|exact M1 To O O (hS.LY hB (λe=>e aU.1)) O)) (hg.kp) ?_
 refine M3 1 O (My NK O) (hg.kp)$ qT 2 O (λ_ hS=>(by first|exact M1 U3 O O (hS.LY hC (λe=>e aU.2.1)) O|exact M1 U3 O O (hS.LY gC (λe=>e aU.2.2.1)) O|exact M1 U3 O O (hS.LY jv (λe=>e aU.2.2.2)) O|exact M1 U3 O O (hS.LY hB (λe=>e aU.1)) O)) (hg.kp) ?_
 refine qT 3 O (λ_ hS=>(by first|exact M1 SW O O (hS.LY hC (λe=>e aU.2.1)) O|exact M1 SW O O (hS.LY gC (λe=>e aU.2.2.1)) O|exact M1 SW O O (hS.LY jv (λe=>e aU.2.2.2)) O|exact M1 SW O O (hS.LY hB (λe=>e aU.1)) O)) (hg.kp) ?_
 refine M3 4 O (N4 O) (hg.kp)$ M3 5 O (My UN O) (hg.kp)$ qT 6 O (λ_ hS=>(by first|exact M1 U3 O O (hS.LY hC (λe=>e aU.2.1)) O|exact M1 U3 O O (hS.LY gC (λe=>e aU.2.2.1)) O|exact M1 U3 O O (hS.LY jv (λe=>e aU.2.2.2)) O|exact M1 U3 O O (hS.LY hB (λe=>e aU.1)) O)) (hg.kp) ?_
 refine M3 7 O (R4 O O (by omega)) (hg.kp)$ Mj 8 O O (hg.kp) ?_
 rw[show(st:Int)+(at':Int)=((st+at':Nat):Int) by omega]
 refine Pm 9 O zbt O ((hP.ext' hg).write (λb hb=>by have:=hX b hb;have:=hg.size;omega) hK (no:=((st+at':Nat):Int)) (by omega) (by omega) t ht) ?_
 rintro _ w1 ⟨rfl,iN,aK⟩
 refine⟨hg.kp.trans aK,?_⟩
 have iw:Kp (λb=>¬X b) w w1:=hg.kp.trans aK
 have h1:=h.kp iw (λe=>e aU.1) (λe=>e aU.2.1) (λe=>e aU.2.2.1) (λe=>e aU.2.2.2)
 have aj:=h1.cells
 have yo:=h1.pb
 have kZ:∀b,X b->b<w1.heap.size:=λb hb=>by have:=hX b hb;have:=iw.size;omega
 refine M3 10 O (NX O) (hg.kp.trans aK)$ qE$ qN O$ qV ((by first|exact M1 SW O O yo O|exact M1 SW O O aj O)) ?_
 refine MC O$ Ma UN O$ qV ((by first|exact M1 U3 O O yo O|exact M1 U3 O O aj O)) ?_
 refine MT O O$ MC O$ Ma UN O$ Mb O (NT MV O O O aj (by simp)) ?_
 rintro w2 ⟨am,ao⟩
 have ey:M7 w2 wb (swC Q.s st len rest (at'+1) n sum (Xy bs bx bw) false) 200:=am
 have h2:=h1.re ao ey
 have qj:=h2.cells
 have tC:=h2.pb
 have aa:=Ext.Mm w2
 have eh:=iN.own ao (λb e=>by rw[e];exact aU.1)
 refine LX$ run_seq$ Mo [11] (λw'=>Ext w2 w') (by kernel_rfl) O$ qL [9,10,11] 0 O (λ_ h=>(by first|exact M1 SW O O (h.LY tC) O|exact M1 SW O O (h.LY qj) O)) aa ?_
 refine qL [2,3,4,5,6,7,8,9,10,11] 1 O (λ_ h=>(by first|exact M1 SW O O (h.LY tC) O|exact M1 SW O O (h.LY qj) O)) aa ?_
 refine qL [3,4,5,6,7,8,9,10,11] 2 O (λ_ h=>N4 O) aa$ qL [4,5,6,7,8,9,10,11] 3 O (λ_ h=>My Vj O) aa$ qL [5,6,7,8,9,10,11] 4 O (λ_ h=>(by first|exact M1 U4 O O (h.LY tC) O|exact M1 U4 O O (h.LY qj) O)) aa ?_
 refine qL [6,7,8,9,10,11] 5 O (λ_ h=>MH O) aa$ qL [7,8,9,10,11] 6 O (λ_ h=>MH O) aa$ qL [8,9,10,11] 7 O (λ_ h=>yne O O) aa$ qL [9,10,11] 8 O (λ_ h=>Ro O O) aa$ qL [10,11] 9 O (λ_ h=>N4 O) aa$ qL [11] 10 O (λ_ h=>My Vj O) aa$ PH [11] ?_
 have ar:=aa.LY qj
 refine qO 11$ MI (i:=11) O O (NT Sx O O O ar (by simp)) ?_
 rintro w3 ⟨kq,au⟩
 refine⟨trivial,?_⟩
 refine qE$ Mz.qb (e:=[(5,_),(6,_)]) ?_
 refine qN O$ LW O$ M4 O$ LZ Tryz.func93 O ?_
 have h3:=(h2.ext aa).re au (show M7 w3 wb (swC Q.s st len rest (at'+1) n sum (Xy bs bx bw) false) 200 from kq)
 exact⟨_,rfl,rfl,(eh.ext' aa).own au (λb e=>by rw[e];exact aU.1),h3,((iw.Mc λb e=> .inl e).trans (ao.Mc λb e=> .inr e)).trans (aa.kp.trans (au.Mc λb e=> .inr e))⟩
end
section
variable {P:Program}{e:Env}{d:Option Nat}{ty t t' el:TypeId}{pos:String}{aft:Array Edge}{g:Option (Nat×Bool)}{x:Operand}{w:World}{l:Bytes}{v:Value}
theorem zbz (hs:P.underlying t=some (.slice el))(he:P.underlying el=some (.int .u8))(hd:P.underlying t'=some .string)(hx:look e x=some v)(hr:Rd w v 1 l.length (l.map PF))(hl:0<l.length):
  Y P e ⟨d,.convert t t' x,ty,pos,aft,g⟩ (S l) w w:=fun ρ hρ=>by
 rcases hr.2 with⟨⟨ca,c⟩,hv,h0⟩|⟨b,off,cap,hv,hc⟩
 ·omega
 ·subst hv;have hr:=run_convert_bytes_back (P:=P) w t t' el ⟨b,off,none⟩ cap l hs he hd (λj hj=>by rw[NS];exact hc j _ (by simp[hj,PF]));simp[execOp,hρ _ _ hx,hr]
end
section
variable {w w':World}{Q:Ol}{txt:Int->Bytes}{K:Nat}{X S':Nat->Prop}{s st len wb bs bx bw at' n sum:Nat}{rest:Value}
theorem ZL (hP:Sp Q txt K X w){st len:Nat}(h1:1<=len)(h2:st+len<=Q.L.length):
  Mw Tryz.prog 58 [ptr Q.s 0,.agg #[I (st:Int),I (len:Int)]] w λv w'=>∃wb bs bx bw sum,v= .tuple #[ptr wb 0,I 0]/\sum<4294967296/\SwM Q.s st len wb bs bx bw (.slice none 0 0) 0 0 sum w'/\(w.heap.size<=wb/\w.heap.size<=bs/\w.heap.size<=bx/\w.heap.size<=bw)/\Ext w w':=by
 have qw:Sums.crc []<4294967296:=Sums.zaW _
 obtain⟨c0,tD⟩:∃c0,Sums.crc []=c0:=⟨_,rfl⟩
 rw[tD] at qw
 refine It (e:=[(0,_),(1,_)]) Tryz.func58 O Tryz.ntmps58 O O$ qN O$ M5 O O (O2 O (cs:=[ptr Q.s 0]) O) ?_
 rintro _ w1 ⟨bs,rfl,wL,ad,hC⟩
 refine M5 O O (O2 O (cs:=[I (st:Int),I (len:Int)]) O) ?_
 rintro _ w2 ⟨bx,rfl,eZ,af,gC⟩
 have jd:=af.LY hC
 have Ju:=hP.ext' (ad.trans af)
 have ah:=Ext.Mm w2
 have bc:=ah.size
 refine Me O$ M4 O$ run_seq$ MM (λe' w'=>∃wb bw,e'=[(2,ptr bs 0),(3,ptr bx 0),(6,ptr bw 0)]/\M7 w' wb [ptr Q.s 0,I (st:Int),I (len:Int),.slice none 0 0,I 0,I 0,U c0,.nilFunc,.bool false] 200/\M7 w' bw [ptr wb 0] 133/\Ext w2 w'/\w2.heap.size<=wb/\w2.heap.size<=bw/\wb≠bw) ?cA$ λcA=>?cS
 case cA=>
  rintro e' w3 ⟨wb,bw,rfl,ar,lQ,ai,nv,DS,bO⟩;have lbs:=hC.lt;have lbx:=gC.lt;have dC:=af.size;have fx:=Ju.ext' ai;refine run_seq$ qN O$ qV ((by first|exact M1 SW O O lQ O|exact M1 SW O O ar O)) ?_;refine MC O$ Ma TE O$ qV ((by first|exact Mv z7a O SM O (M7.cells (n:=3) lQ (news:=[_,_,_]) O) O|exact Mv z7a O SM O (M7.cells (n:=3) ar (news:=[_,_,_]) O) O)) ?_;refine Mn ze8 O (Wf fx h1 h2) ?_;rintro _ w4 ⟨rfl,ay⟩;have lP:=ay.LY lQ;have aH:=ay.LY ar;refine Me O$ qM O$ LW O$ N9 O O$ LX$ An O$ py$ qN O$ qV ((by first|exact M1 SW O O lP O|exact M1 SW O O aH O)) ?_;refine qV (Zm (first:=[]) (caps:=[.tmp 2,.tmp 3,.tmp 6]) O O)$ MC O$ Ma WG O$ Mb O (NT zbO O O O aH (by simp)) ?_;rintro w5 ⟨aI,ak⟩;have zR:=ak.LY lP (λe=>bO e.symm);refine qM O$ qV (M1 SW O O zR O)$ Me O$ M4 O$ LZ Tryz.func58 O ?_;have im:Ext w2 w5:=(ai.trans ay).LS ak (λj e=>by omega);refine⟨_,rfl,wb,bs,bx,bw,c0,rfl,qw,⟨aI,im.LY jd,im.LY gC,zR,⟨by omega,by omega,λe=>bO e.symm⟩⟩,⟨by omega,by omega,by omega,by omega⟩,(ad.trans af).trans im⟩
 case cS=>
 refine Mo [7] (λw'=>Ext w2 w') (by kernel_rfl) O$ qL [2,4,5,7] 0 O (λ_ h=>(by first|exact M1 To O O (h.LY jd) O|exact M1 To O O (h.LY gC) O)) ah ?_
 refine qL [2,4,5,7] 1 O (λ_ hS=>(by first|exact Mv SO O NO O (M7.cells (n:=2) (hS.LY jd) (news:=[_,_]) O) O|exact Mv SO O NO O (M7.cells (n:=2) (hS.LY gC) (news:=[_,_]) O) O)) ah ?_
 refine qL [4,5,7] 2 O (λ_ h=>OO (cs:=[_,_,_]) SM O zay O O) ah$ T5 (i:=3) (j:=6) (by kernel_rfl) ?_ ?_
 ·refine Og (i:=3) O O O (yc (args:=[.const (Value.string (⟨#[]⟩))]) zdR O) (z4C [] _ (by simp)) ?_;rintro _ w3 ⟨rfl,ai⟩;refine⟨ah.trans ai,?_⟩;rw[tD];have ah:=ah.trans ai
  try have aS:=ai.LY aS
  have bc:=Nat.le_trans bc ai.size;refine qL [5,7] 4 O (λ_ h=>OO (cs:=[_,_,_,_,_,_,_,_,_]) z9N O z9R O O) ah$ T5 (i:=5) (j:=6) (by kernel_rfl) ?_ ?_
  ·refine N8 (i:=5) O O O (O2 O (cs:=[ptr Q.s 0,I (st:Int),I (len:Int),.slice none 0 0,I 0,I 0,U c0,.nilFunc,.bool false]) O) ?_;rintro _ w5 ⟨wb,rfl,nv,aW,aI⟩;refine⟨ah.trans aW,?_⟩;have ah:=ah.trans aW
   try have aS:=aW.LY aS
   have sE:w2.heap.size<=wb:=by omega
   have bc:=Nat.le_trans bc aW.size;refine NL (i:=6) (by kernel_rfl)$ N8 (i:=6) O O O (Oo (cs:=[_]) Z1 O) ?_;rintro _ w6 ⟨bw,rfl,DS,aJ,aS⟩;refine⟨ah.trans aJ,?_⟩;have ah:=ah.trans aJ
   try have aI:=aJ.LY aI
   have yp:w2.heap.size<=bw:=by omega
   have bc:=Nat.le_trans bc aJ.size;refine PH [7]$ qO 7$ MI (i:=7) O O (NT Z1 O O O aS (by simp)) ?_;rintro w7 ⟨bK,aD⟩;refine⟨trivial,?_⟩;refine qE ?_;replace bK:M7 w7 bw [ptr wb 0] 133:=bK
   have je:wb≠bw:=by
    intro e;have h5:=aI;rw[e] at h5;obtain⟨fz,h5,-⟩:=h5;obtain⟨fz6,h6,-⟩:=aS;rw[h5] at h6;cases h6
   have jD:=aD.LY aI je;exact(cA _ _ ⟨wb,bw,rfl,jD,bK,ah.LS aD (λj e=>by omega),sE,yp,je⟩).qb
  ·refine N8 (i:=6) O O O (Oo (cs:=[_]) Z1 O) ?_;rintro _ w6 ⟨bw,rfl,DS,aJ,aS⟩;refine⟨ah.trans aJ,?_⟩;have ah:=ah.trans aJ
   try have aI:=aJ.LY aI
   have yp:w2.heap.size<=bw:=by omega
   have bc:=Nat.le_trans bc aJ.size;refine NL (i:=5) (by kernel_rfl)$ N8 (i:=5) O O O (O2 O (cs:=[ptr Q.s 0,I (st:Int),I (len:Int),.slice none 0 0,I 0,I 0,U c0,.nilFunc,.bool false]) O) ?_;rintro _ w5 ⟨wb,rfl,nv,aW,aI⟩;refine⟨ah.trans aW,?_⟩;have ah:=ah.trans aW
   try have aS:=aW.LY aS
   have sE:w2.heap.size<=wb:=by omega
   have bc:=Nat.le_trans bc aW.size;refine PH [7]$ qO 7$ MI (i:=7) O O (NT Z1 O O O aS (by simp)) ?_;rintro w7 ⟨bK,aD⟩;refine⟨trivial,?_⟩;refine qE ?_;replace bK:M7 w7 bw [ptr wb 0] 133:=bK
   have je:wb≠bw:=by
    intro e;have h5:=aI;rw[e] at h5;obtain⟨fz,h5,-⟩:=h5;obtain⟨fz6,h6,-⟩:=aS;rw[h5] at h6;cases h6
   have jD:=aD.LY aI je;exact(cA _ _ ⟨wb,bw,rfl,jD,bK,ah.LS aD (λj e=>by omega),sE,yp,je⟩).qb
 ·refine N8 (i:=6) O O O (Oo (cs:=[_]) Z1 O) ?_;rintro _ w6 ⟨bw,rfl,DS,aJ,aS⟩;refine⟨ah.trans aJ,?_⟩;have ah:=ah.trans aJ
  try have aI:=aJ.LY aI
  have yp:w2.heap.size<=bw:=by omega
  have bc:=Nat.le_trans bc aJ.size;refine NL (i:=3) (by kernel_rfl)$ Og (i:=3) O O O (yc (args:=[.const (Value.string (⟨#[]⟩))]) zdR O) (z4C [] _ (by simp)) ?_;rintro _ w3 ⟨rfl,ai⟩;refine⟨ah.trans ai,?_⟩;rw[tD];have ah:=ah.trans ai
  try have aS:=ai.LY aS
  have bc:=Nat.le_trans bc ai.size;refine qL [5,7] 4 O (λ_ h=>OO (cs:=[_,_,_,_,_,_,_,_,_]) z9N O z9R O O) ah$ NL (i:=5) (by kernel_rfl)$ N8 (i:=5) O O O (O2 O (cs:=[ptr Q.s 0,I (st:Int),I (len:Int),.slice none 0 0,I 0,I 0,U c0,.nilFunc,.bool false]) O) ?_;rintro _ w5 ⟨wb,rfl,nv,aW,aI⟩;refine⟨ah.trans aW,?_⟩;have ah:=ah.trans aW
  try have aS:=aW.LY aS
  have sE:w2.heap.size<=wb:=by omega
  have bc:=Nat.le_trans bc aW.size;refine PH [7]$ qO 7$ MI (i:=7) O O (NT Z1 O O O aS (by simp)) ?_;rintro w7 ⟨bK,aD⟩;refine⟨trivial,?_⟩;refine qE ?_;replace bK:M7 w7 bw [ptr wb 0] 133:=bK
  have je:wb≠bw:=by
   intro e;have h5:=aI;rw[e] at h5;obtain⟨fz,h5,-⟩:=h5;obtain⟨fz6,h6,-⟩:=aS;rw[h5] at h6;cases h6
  have jD:=aD.LY aI je;exact(cA _ _ ⟨wb,bw,rfl,jD,bK,ah.LS aD (λj e=>by omega),sE,yp,je⟩).qb
end
section
variable {w w':World}{Q:Ol}{txt:Int->Bytes}{K:Nat}{X S':Nat->Prop}{st len wb bs bx bw at' n sum:Nat}{rest:Value}{T:Bytes}
theorem z5J (T:Bytes)(k:Nat):((T.drop (512*k)).map PF).drop 512=(T.drop (512*(k+1))).map PF:=by
 rw[<-List.map_drop,List.drop_drop]
 congr 2
def SwI (Q:Ol)(txt:Int->Bytes)(K:Nat)(X:Nat->Prop)(st len wb bs bx bw:Nat)(T:Bytes)(sum:Nat)(w:World)(k:Nat)(w':World):Prop:=
 ∃txt' rest,Sp Q txt' (K+k) (λb=>X b\/rest.ownBlock=some b) w'/\SwM Q.s st len wb bs bx bw rest k T.length sum w'/\Sl w' rest 5 1 (T.length-512*k) ((T.drop (512*k)).map PF)/\(∀j,j<k->txt' ((st+j:Nat):Int)=(T.drop (512*j)).take 512)/\(∀y:Int,y<(st:Int)\/(st:Int)+(k:Int)<=y->txt' y=txt y)/\Kp (λb=>¬X b\/b=wb) w w'/\(∀b,rest.ownBlock=some b->w.heap.size<=b)
theorem z0I (hP:Sp Q txt K X w)(hX:∀b,X b->b<w.heap.size)(hK:K<=100000000000)(h:SwM Q.s st len wb bs bx bw (.slice none 0 0) 0 0 sum w)(gI:sum<4294967296)(aU:X wb/\X bs/\X bx/\X bw)(bP:st+len<=Q.L.length)(h1:1<=len)(hT:T.length<=len*512-12):
  Mw Tryz.prog 59 [ptr wb 0,S T] w λv w'=>v=I 0/\∃sum',sum'<4294967296/\SwI Q txt K X st len wb bs bx bw T sum' w (T.length / 512) w':=by
 have eH:maxLen=9223372036854775807:=rfl
 have dT:=hP.n
 refine It (e:=[(0,_),(1,_)]) Tryz.func59 O Tryz.ntmps59 O O$ qN O$ M4 O$ run_seq$ qN O$ LW O$ Mn zdP O (UD h.wr) ?_
 rintro _ w ⟨rfl,rfl⟩
 refine Me O$ qM O$ LW O$ N9 O O$ LX$ An O$ py$ run_seq$ qN O$ LW O$ qV (Rr U9 O)$ LW O$ Mn zgq O (z1a hP (by omega) (by omega) h.wr) ?_
 rintro _ w1 ⟨rfl,ad⟩
 have iN:=hP.ext' ad
 have dW:=h.ext ad
 have aj:=dW.cells
 refine Ng O O$ ML$ LX$ An O$ py$ qN O$ LW O$ MC O$ Ma WN O$ qV (M1 U3 O O aj O)$ LW O$ qV (Rr U9 O)$ MT O O$ MC O ?_
 refine Ma WN O ?_
 rw[show((0:Nat):Int)+(T.length:Int)=(T.length:Int) by omega]
 refine Mb O (NT MV O O O aj (by simp)) ?_
 rintro w2 ⟨am,ao⟩
 have cY:=dW.re ao (show M7 w2 wb (swC Q.s st len (.slice none 0 0) 0 T.length sum (Xy bs bx bw) false) 200 from am)
 have eh:=iN.own ao (λb e=>by rw[e];exact aU.1)
 have ey:=cY.cells
 refine qM O$ Md O O$ MC O$ Ma z04 O$ qV (M1 Np O O ey O)$ LW O$ Mn zcs O (z7p sum T _ gI (by omega)) ?_
 rintro _ w3 ⟨rfl,ai⟩
 have ry:=Sums.z9X T gI
 obtain⟨sum3,gD⟩:∃sum3,Sums.on sum T=sum3:=⟨_,rfl⟩
 rw[gD] at ry⊢
 have oy:=cY.ext ai
 have ar:=oy.cells
 refine MC O$ Ma z04 O$ Mb O (NT Mi O O O ar (by simp)) ?_
 rintro w4 ⟨aH,av⟩
 have ul:=oy.re av (show M7 w4 wb (swC Q.s st len (.slice none 0 0) 0 T.length sum3 (Xy bs bx bw) false) 200 from aH)
 have iX:=(eh.ext' ai).own av (λb e=>by rw[e];exact aU.1)
 have et:=ul.cells
 refine LX$ Mz.qb (e:=[(0,_),(1,_),(4,_)]) ?_
 refine qN O$ Md O O$ MC O$ Ma Pv O$ qV (M1 Nc O O et O)$ LW O$ M5 O O (zeN Nc U9 TS O O (Sl.nil w4 _ 1) (by omega)) ?_
 rintro v5 w5 ⟨fC,ak,pn⟩
 simp only[List.nil_append,Nat.zero_add] at fC
 replace ak:Ext w4 w5:=ak.Mc (λb e=>by cases e)
 have tE:∀b,v5.ownBlock=some b->w4.heap.size<=b:=λb e=>(pn b e).elim (λe=>by cases e) id
 obtain⟨a5,c5,rfl,-⟩:=fC.rd.shape
 have oo:=ul.ext ak
 have aI:=oo.cells
 have bG:Kp (λb=>¬X b\/b=wb) w w5:=(((ad.kp.trans (ao.Mc λb e=> .inr e)).trans ai.kp).trans (av.Mc λb e=> .inr e)).trans ak.kp
 have z4:w.heap.size<=w4.heap.size:=by have:=ad.size;have:=ao.size;have:=ai.size;have:=av.size;omega
 have lwb:=aI.lt
 have lwb0:=hX _ aU.1
 refine MC O$ Ma Pv O$ Mb O (NT TU O O O aI (by simp)) ?_
 rintro w6 ⟨aS,aR⟩
 have Dn:=oo.re aR (show M7 w6 wb (swC Q.s st len (.slice a5 T.length c5) 0 T.length sum3 (Xy bs bx bw) false) 200 from aS)
 have qk:Sp Q txt K (λb=>X b\/(Value.slice a5 T.length c5).ownBlock=some b) w6:=(iX.ext ak (λb e=>e.imp id (tE b))).own aR (λb e=> .inl (by rw[e];exact aU.1))
 have eL:=fC.kp aR (λb hb e=>by have:=tE b hb;omega)
 have mF:=Dn.cells
 have iq:=bG.trans (aR.Mc λb e=>Or.inr e)
 refine qM O$ LW O$ MC O$ Ma TE O$ Ma RB O$ qV (M1 To O O mF O)$ Mn z0Y O (qk.size) ?_
 rintro _ w6 ⟨rfl,rfl⟩
 refine M4 O$ run_seq$ LU$ Oh (α:=Nat) (0) (λk=>[(0,ptr wb 0),(6,I 512)]) (λk w'=>k<=T.length / 512/\SwI Q txt K X st len wb bs bx bw T sum3 w k w') (λk=>T.length / 512-k) ?hI ?hround
 case hI=>exact⟨Nat.zero_le _,txt,_,qk,Dn,eL,λj hj=>by omega,λy hy=>rfl,iq,λb hb=>by have:=tE b hb;omega⟩
 case hround=>
  rintro k w8 ⟨hk,txt1,rest,oD,vQ,eK,iL,A9,bz,kJ⟩ ih;obtain⟨a8,c8,rfl,-⟩:=eK.rd.shape;have cu:=vQ.cells;have Fr:=bz.size
  try dsimp only
  refine run_seq$ qN O$ LW O$ MC O$ Ma Pv O$ qV (M1 Nc O O cu O)$ O9 Nc O$ LW O$ PD O O$ LX$ M8 O (λh0=>?_)$ λh0=>?_
  ·have Jv:512*k+512<=T.length:=by omega
   rcases eK.shape with⟨e,rk⟩|⟨gb,cc,e,Dz⟩
   ·omega
   cases e;have IJ:=kJ gb O;have hg:=Ext.Mm w8;have dj:((T.drop (512*k)).take 512).length=512:=by rw[List.length_take,List.length_drop];omega
   have DT:Rd w8 (.slice (some ⟨gb,0,none⟩) 512 c8) 1 ((T.drop (512*k)).take 512).length (((T.drop (512*k)).take 512).map PF):=by
    rw[dj,List.map_take];exact PW eK.rd (by omega)
   have Jw:∀b,(X b\/(Value.slice (some ⟨gb,0,none⟩) (T.length-512*k) c8).ownBlock=some b)->b<w8.heap.size:=λb hb=>by
    rcases hb with e| e
    ·have:=hX b e;omega
    ·exact eK.lt e
   refine py$ LU$ run_seq$ run_seq$ Mo [11,12] (λw'=>Ext w8 w') (by kernel_rfl) O$ qL [1,2,3,11,12] 0 O (λ_ h=>MH O) hg$ qL [2,3,11,12] 1 O (λ_ h=>N4 O) hg$ qL [3,11,12] 2 O (λ_ h=>My WG O) hg$ qL [11,12] 3 O (λ_ h=>M1 U58 O O (h.LY cu) O) hg$ qL [5,6,7,9,10,11,12] 4 O (λ_ h=>MH O) hg$ qL [6,7,9,10,11,12] 5 O (λ_ h=>N4 O) hg$ qL [7,9,10,11,12] 6 O (λ_ h=>My Pv O) hg$ qL [9,10,11,12] 7 O (λ_ h=>M1 Nc O O (h.LY cu) O) hg$ qL [9,10,11,12] 8 O (λ_ h=>MH O) hg ?_;refine qL [10,11,12] 9 O (λ_ h=>z7M Nc TS O O (by omega)) hg$ qL [11,12] 10 O (λ_ hS=>zbz (l:=(T.drop (512*k)).take 512) Nc U5 U9 O (DT.ext hS) (by omega)) hg$ PH [11]$ qO 11$ SJ (i:=11) O O O (OK zaS O O) (VX (oD.ext' hg) (λb hb=>by have:=Jw b hb;have:=hg.size;omega) (by omega) (vQ.ext hg) ⟨.inl aU.1,.inl aU.2.1,.inl aU.2.2.1,.inl aU.2.2.2⟩ (by omega) ((T.drop (512*k)).take 512) dj) ?_;rintro _ w9 ⟨rfl,uF,A3,aO⟩;refine⟨trivial,?_⟩;refine M3 12 O (NX O) trivial$ qE$ qN O$ LW O$ N9 O O ?_;have cJ:=A3.cells;have tF:=hg.kp.trans aO
   have uW:=eK.kp tF (λb hb e=>by
    rcases e with e| e
    ·exact e (.inr hb)
    ·have e1:gb=b:=NF hb
     omega)
   have Fs:=tF.size;refine LX$ An O$ py$ M0 O$ Md O O$ MC O$ Ma Pv O$ qV (M1 Nc O O cJ O)$ LW O$ qV (Ua Nc TS O O (by omega) (by omega))$ M5 O O (pap Nc TS O (by decide) O O (Sl.nil w9 _ 1) (P8 (i:=512) uW.rd (by omega) (by omega)) (λc hc=>by obtain⟨z,-,rfl⟩:=List.mem_map.1 (List.mem_of_mem_drop hc);rfl) (by omega) (by omega)) ?_;rintro v10 w10 ⟨bq,aq,bh,-⟩;rw[List.nil_append,z5J,Nat.zero_add,show T.length-512*k-512=T.length-512*(k+1) by omega] at bq;replace aq:Ext w9 w10:=aq.Mc (λb e=>by cases e);have nO:∀b,v10.ownBlock=some b->w9.heap.size<=b:=λb e=>(bh b e).elim (λe=>by cases e) id;obtain⟨a10,c10,rfl,-⟩:=bq.rd.shape;have yr:=A3.ext aq;have fi:=yr.cells;refine MC O$ Ma Pv O$ Mb O (NT TU O O O fi (by simp)) ?_;rintro w11 ⟨aL,bC⟩;have DU:=yr.re bC (show M7 w11 wb (swC Q.s st len (.slice a10 (T.length-512*(k+1)) c10) (k+1) T.length sum3 (Xy bs bx bw) false) 200 from aL);have kz:Sp Q (Vp txt1 ((st+k:Nat):Int) (some ((T.drop (512*k)).take 512))) (K+k+1) (λb=>X b\/(Value.slice a10 (T.length-512*(k+1)) c10).ownBlock=some b) w11:=(uF.ext aq (λb e=>e.elim (λe=> .inl (.inl e)) (λe=> .inr (nO b e)))).own bC (λb e=> .inl (by rw[e];exact aU.1));have s6:=bq.kp bC (λb hb e=>by have:=nO b hb;omega);refine LX$ LV ((ih (k+1) w11 ⟨by omega,_,_,kz,DU,s6,λj hj=>?_,λy hy=>?_,?_,λb hb=>by have:=nO b hb;omega⟩ (by omega)).qb)
   ·by_cases e:j=k
    ·subst e;exact OI _ _ _
    ·rw[Od _ _ (by omega)];exact iL j (by omega)
   ·rw[Od _ _ (by omega)];exact A9 y (by omega)
   ·refine(bz.LS tF λb e=>?_).trans (aq.kp.trans (bC.Mc λb e=> .inr e));rcases e with e| e
    ·by_cases hb:X b
     ·exact absurd (.inl hb) e
     ·exact .inr (.inl hb)
    ·exact .inr (.inr e)
  ·have DV:k=T.length / 512:=by omega
   subst DV;refine M6 O$ qN O$ M4 O$ LZ Tryz.func59 O ?_;exact⟨_,rfl,rfl,sum3,ry,txt1,_,oD,vQ,eK,iL,A9,bz,kJ⟩
end
section
variable {w w':World}{Q:Ol}{txt:Int->Bytes}{K:Nat}{X S':Nat->Prop}{st len wb bs bx bw at' n sum:Nat}{rest:Value}{T:Bytes}
def TK (n sum:Nat):Bytes:=Q4 8 n++Q4 4 sum
theorem ZU (n sum:Nat):(TK n sum).length=12:=by simp[TK,Mu]
theorem z0N (hP:Sp Q txt K (λb=>X b\/rest.ownBlock=some b) w)(hX:∀b,X b->b<w.heap.size)(hK:K<=200000000000)(h:SwM Q.s st len wb bs bx bw rest (T.length / 512) T.length sum w)(gI:sum<4294967296)(aU:X wb/\X bs/\X bx/\X bw)(bP:st+len<=Q.L.length)(aA:len=(T.length+523) / 512)
  (hS:Sl w rest 5 1 (T.length%512) ((T.drop (512*(T.length / 512))).map PF)) (bO:∀b,rest.ownBlock=some b->¬X b) (iL:∀j,j<T.length / 512->txt ((st+j:Nat):Int)=(T.drop (512*j)).take 512):
  Mw Tryz.prog 60 [ptr wb 0] w λv w'=>v=I 0/\∃txt',Sp Q txt' (K+2) X w'/\(∀j,512*j<T.length->∃z,txt' ((st+j:Nat):Int)=(T.drop (512*j)).take 512++z)/\(∃z,txt' ((st+(len-1):Nat):Int)=z++TK T.length sum/\z.length=500)/\(∀y:Int,y<(st:Int)\/(st:Int)+(len:Int)<=y->txt' y=txt y)/\Kp (λb=>¬X b\/b=wb) w w':=by
 have eH:maxLen=9223372036854775807:=rfl
 have dT:=hP.n
 obtain⟨a0,c0,rfl,-⟩:=hS.rd.shape
 have hB:=h.cells
 have Jy:∀b,(Value.slice a0 (T.length%512) c0).ownBlock=some b->b<w.heap.size:=λb hb=>hS.lt hb
 have hg:=Ext.Mm w
 refine It (e:=[(0,_)]) Tryz.func60 O Tryz.ntmps60 O O$ qN O$ M4 O$ run_seq$ qN O$ LW O$ Mn zdP O (UD h.wr) ?_
 rintro _ w ⟨rfl,rfl⟩
 refine Me O$ qM O$ LW O$ N9 O O$ LX$ An O$ py$ qN O$ LW O$ MC O$ Ma TE O$ Ma RB O$ qV (M1 To O O hB O)$ Mn z0Y O (hP.size) ?_
 rintro _ w ⟨rfl,rfl⟩
 refine M4 O$ run_seq$ run_seq$ MM (λe' w'=>∃q,e'=[(0,ptr wb 0),(4,I 512),(38,.bool q)]/\(q=true↔T.length / 512<len-1)/\Ext w w') ?dO$ λdO=>?eS
 case dO=>
  rintro e' w1 ⟨q,rfl,hq,ad⟩;have iN:=hP.ext' ad;have h1:=h.ext ad;have iM:=hS.ext ad;have aj:=h1.cells;have mh:=ad.size;refine MM (λe' w'=>e'=[(0,ptr wb 0),(4,I 512)]/\∃txt1 rest1 at1 l,Sp Q txt1 (K+1) (λb=>X b\/rest1.ownBlock=some b) w'/\SwM Q.s st len wb bs bx bw rest1 at1 T.length sum w'/\Sl w' rest1 5 1 l.length (l.map PF)/\l.length<=500/\(∀b,rest1.ownBlock=some b->¬X b)/\l=T.drop (512*(len-1))/\(∀j,j<len-1->512*j<T.length->∃z,txt1 ((st+j:Nat):Int)=(T.drop (512*j)).take 512++z)/\(∀y:Int,y<(st:Int)\/(st:Int)+(len:Int)<=y->txt1 y=txt y)/\Kp (λb=>¬X b\/b=wb) w w') ?ax$ λax=>?dx
  case ax=>
   rintro e' w2 ⟨rfl,txt1,rest1,at1,l,eh,h2,cH,FD,fB,hl,DW,DX,ao⟩;obtain⟨a2,c2,rfl,-⟩:=cH.rd.shape;have am:=h2.cells;have aa:=Ext.Mm w2;have mq:=ao.size;refine run_seq$ NV (λw'=>Kp (λb=>(Value.slice a2 l.length c2).ownBlock=some b) w2 w') O$ Mj 0 O O (aa.kp)$ M3 1 O (N4 O) (aa.kp)$ M3 2 O (My Pv O) (aa.kp)$ qT 3 O (λ_ h=>M1 Nc O O (h.LY am (λe=>fB _ e aU.1)) O) (aa.kp)$ Mj 4 O O (aa.kp)$ M3 5 O (TO O O (by omega)) (aa.kp)$ Mj 6 O O (aa.kp)$ M3 7 O (N4 O) (aa.kp)$ M3 8 O (My Pv O) (aa.kp)$ qT 9 O (λ_ h=>M1 Nc O O (h.LY am (λe=>fB _ e aU.1)) O) (aa.kp)$ M3 10 O (Pb Nc O) (aa.kp)$ M3 11 O (TO O O (by omega)) (aa.kp) ?_;rw[show(512:Int)-12-(l.length:Int)=((500-l.length:Nat):Int) by omega];refine qO 12$ ON (i:=12) O O O (zd8 Nc U3 U9 TS O O (cH.ext aa) (by omega)) ?_;rintro v3 w3 ⟨cE,au,pA⟩;refine⟨aa.kp.trans au,?_⟩;have yt:l.length+(500-l.length)=500:=by omega
   rw[yt,<-List.map_append] at cE;obtain⟨a3,c3,rfl,-⟩:=cE.rd.shape;have cR:=aa.kp.trans au
   have eR:∀b,(Value.slice a3 500 c3).ownBlock=some b->¬X b:=λb hb e=>by
    rcases pA b hb with e2|e2
    ·exact fB b e2 e
    ·have:=hX b e;have:=aa.size;omega
   have fx:Sp Q txt1 (K+1) (λb=>X b\/(Value.slice a3 500 c3).ownBlock=some b) w3:=eh.step cR (λb e=> .inr e) (λb e=>e.elim (λe=> .inl (.inl e)) (λe=>(pA b e).imp .inr (λe=>by have:=aa.size;omega)));have h3:=h2.kp cR (λe=>fB _ e aU.1) (λe=>fB _ e aU.2.1) (λe=>fB _ e aU.2.2.1) (λe=>fB _ e aU.2.2.2);have ar:=h3.cells;have cC:Kp (λb=>¬X b\/b=wb) w w3:=ao.LS cR (λb e=> .inr (.inl (fB b e)));refine M3 13 O (NX O) (aa.kp.trans au)$ qE$ qN O$ Md O O$ MC O$ Ma TE O$ Ma QL O$ Ma NQ O$ qV (M1 U3 O O ar O)$ Oa O O$ MC O$ Ma UN O ?_;rw[show(len:Int)-1=((len-1:Nat):Int) by omega];refine Mb O (NT MV O O O ar (by simp)) ?_;rintro w4 ⟨aH,av⟩;have h4:=h3.re av (show M7 w4 wb (swC Q.s st len (.slice a2 l.length c2) (len-1) T.length sum (Xy bs bx bw) false) 200 from aH);have iX:=fx.own av (λb e=> .inl (by rw[e];exact aU.1));have dV:=cE.kp av (λb hb e=>eR b hb (by rw[e];exact aU.1));have et:=h4.cells;have ag:=Ext.Mm w4;have kj:=cC.trans (av.Mc λb e=>Or.inr e);have jk:=Mu 8 T.length;have f9:=Mu 4 sum;have tG:(l++zeros (500-l.length)).length=500:=by rw[List.length_append,show(zeros (500-l.length)).length=500-l.length by simp[zeros]];omega
   rw[List.length_append] at tG;refine LX$ Mz.qb (e:=[(0,_),(6,_)]) ?_;refine run_seq$ Mo [20,21] (λw'=>Ext w4 w') (by kernel_rfl) O$ qL [1,2,3,20,21] 0 O (λ_ h=>MH O) ag$ qL [2,3,20,21] 1 O (λ_ h=>N4 O) ag$ qL [3,20,21] 2 O (λ_ h=>My WG O) ag$ qL [20,21] 3 O (λ_ h=>M1 U58 O O (h.LY et) O) ag$ qL [5,12,19,20,21] 4 O (λ_ h=>MH O) ag$ qL [7,8,9,10,11,12,18,19,20,21] 6 O (λ_ h=>MH O) ag$ qL [8,9,10,11,12,18,19,20,21] 7 O (λ_ h=>N4 O) ag$ qL [9,10,11,12,18,19,20,21] 8 O (λ_ h=>My WN O) ag$ qL [10,11,12,18,19,20,21] 9 O (λ_ h=>M1 U3 O O (h.LY et) O) ag$ qL [11,12,18,19,20,21] 10 O (λ_ h=>(by first|exact MQ O U3 Nv (by omega)|exact Ob O U3 Nv)) ag ?_;refine qL [14,15,16,17,18,19,20,21] 13 O (λ_ h=>MH O) ag$ qL [15,16,17,18,19,20,21] 14 O (λ_ h=>N4 O) ag$ qL [16,17,18,19,20,21] 15 O (λ_ h=>My z04 O) ag$ qL [17,18,19,20,21] 16 O (λ_ h=>M1 Np O O (h.LY et) O) ag$ qL [18,19,20,21] 17 O (λ_ h=>MQ O Np Nv (by omega)) ag$ qL [12,19,20,21] 5 O (λ_ h=>zbz (l:=l++zeros (500-l.length)) Nc U5 U9 O (by rw[List.length_append,tG];exact dV.rd.ext h) (by rw[List.length_append];omega)) ag ?_;refine NL (i:=11) (by kernel_rfl)$ Og (i:=11) O O O (yc zdp O) (Ws T.length 8 _ (by omega) (by omega)) ?_;rintro _ w5 ⟨rfl,aW⟩;refine⟨ag.trans aW,?_⟩;refine qL [19,20,21] 12 O (λ_ h=>Sz O O (by first|omega|(simp;done)|(simp;omega))) (ag.trans aW) ?_;refine NL (i:=18) (by kernel_rfl)$ Og (i:=18) O O O (yc zdp O) (Ws sum 4 _ (by omega) (by omega)) ?_;rintro _ w6 ⟨rfl,aJ⟩;refine⟨(ag.trans aW).trans aJ,?_⟩;have cP:=(ag.trans aW).trans aJ
   have nP:∀b,(X b\/(Value.slice a3 500 c3).ownBlock=some b)->b<w6.heap.size:=λb hb=>by
    have:=cP.size;have:=av.size;have:=cR.size;rcases hb with e| e
    ·have:=hX b e;omega
    ·have:=cE.lt e;omega
   refine qL [20,21] 19 O (λ_ h=>Sz O O (by first|omega|(simp;done)|(simp;omega))) ((ag.trans aW).trans aJ) ?_;refine PH [20] ?_;have lK:(l++zeros (500-l.length)++Q4 8 T.length++Q4 4 sum).length=512:=by rw[List.length_append,List.length_append,List.length_append,tG,Mu,Mu]
   refine qO 20$ SJ (i:=20) O O O (OK zaS O O) (VX (iX.ext' cP) nP (by omega) (h4.ext cP) ⟨.inl aU.1,.inl aU.2.1,.inl aU.2.2.1,.inl aU.2.2.2⟩ (by omega) _ lK) ?_;rintro _ w7 ⟨rfl,yu,h7,aD⟩;refine⟨trivial,?_⟩;have bK:=h7.cells;refine M3 21 O (NX O) trivial$ qE$ qN O$ LW O$ MC O$ Ma Vj O$ Mb O (NT Sx O O O bK (by simp)) ?_;rintro w8 ⟨cu,bz⟩;have oD:=(yu.own bz (λb e=> .inl (by rw[e];exact aU.1))).less (Y:=X) (λb e=> .inl e);refine LX$ Mz.qb (e:=[(7,_)]) ?_;refine qN O$ LW O$ M4 O$ LZ Tryz.func60 O (⟨_,rfl,rfl,_,oD,λj hj=>?_,⟨l++zeros (500-l.length),?_,by rw[List.length_append,tG]⟩,λy hy=>?_,?_⟩)
   ·by_cases e:j=len-1
    ·subst e;refine⟨zeros (500-l.length)++Q4 8 T.length++Q4 4 sum,?_⟩;rw[OI];show l++_++_++_=_;rw[<-hl,List.take_of_length_le (by omega)];simp only[List.append_assoc]
    ·obtain⟨z,hz⟩:=DW j (by omega) hj;exact⟨z,by rw[Od _ _ (by omega)];exact hz⟩
   ·rw[OI];show _++_++_=_;unfold TK;simp only[List.append_assoc]
   ·rw[Od _ _ (by omega)];exact DX y hy
   ·refine((kj.trans cP.kp).LS aD λb e=>?_).trans (bz.Mc λb e=> .inr e);rcases e with e| e
    ·by_cases hb:X b
     ·exact absurd (.inl hb) e
     ·exact .inr (.inl hb)
    ·exact .inr (.inr e)
  case dx=>
   refine MZ O (λfR=>?_)$ λfR=>?_
   ·have wX:=hq.1 fR;have hr:500<T.length%512/\T.length / 512=len-2/\2<=len:=by omega
    have aw:=Ext.Mm w1;refine run_seq$ run_seq$ Mo [17,18] (λw'=>Kp (λb=>(Value.slice a0 (T.length%512) c0).ownBlock=some b) w1 w') (by kernel_rfl) O$ qL [1,2,3,17,18] 0 O (λ_ h=>MH O) (aw.kp)$ qL [2,3,17,18] 1 O (λ_ h=>N4 O) (aw.kp)$ qL [3,17,18] 2 O (λ_ h=>My WG O) (aw.kp)$ qL [17,18] 3 O (λ_ h=>M1 U58 O O (h.LY aj (λe=>bO _ e aU.1)) O) (aw.kp)$ qL [5,6,7,15,16,17,18] 4 O (λ_ h=>MH O) (aw.kp)$ qL [6,7,15,16,17,18] 5 O (λ_ h=>N4 O) (aw.kp)$ qL [7,15,16,17,18] 6 O (λ_ h=>My Pv O) (aw.kp)$ qL [15,16,17,18] 7 O (λ_ h=>M1 Nc O O (h.LY aj (λe=>bO _ e aU.1)) O) (aw.kp)$ qL [14,15,16,17,18] 8 O (λ_ h=>MH O) (aw.kp)$ qL [10,11,12,13,14,15,16,17,18] 9 O (λ_ h=>MH O) (aw.kp)$ qL [11,12,13,14,15,16,17,18] 10 O (λ_ h=>N4 O) (aw.kp) ?_;refine qL [12,13,14,15,16,17,18] 11 O (λ_ h=>My Pv O) (aw.kp)$ qL [13,14,15,16,17,18] 12 O (λ_ h=>M1 Nc O O (h.LY aj (λe=>bO _ e aU.1)) O) (aw.kp)$ qL [14,15,16,17,18] 13 O (λ_ h=>Pb Nc O) (aw.kp)$ qL [15,16,17,18] 14 O (λ_ h=>TO O O (by omega)) (aw.kp) ?_;rw[show(512:Int)-((T.length%512:Nat):Int)=((512-T.length%512:Nat):Int) by omega];refine NL (i:=15) (by kernel_rfl)$ N8 (i:=15) O O O (zd8 Nc U3 U9 TS O O (iM.ext aw) (by omega)) ?_;rintro v2 w2 ⟨cH,ao,rH⟩;refine⟨aw.kp.trans ao,?_⟩;rw[show T.length%512+(512-T.length%512)=512 by omega,<-List.map_append] at cH;have tG:(T.drop (512*(T.length / 512))++zeros (512-T.length%512)).length=512:=by rw[List.length_append,List.length_drop,show(zeros (512-T.length%512)).length=512-T.length%512 by simp[zeros]];omega
    refine NL (i:=16) (by kernel_rfl)$ z9I (i:=16) O O O (zbz (l:=T.drop (512*(T.length / 512))++zeros (512-T.length%512)) Nc U5 U9 O (by rw[tG];exact cH.rd) (by omega)) (aw.kp.trans ao) ?_;have aY:=aw.kp.trans ao;have eh:Sp Q txt K X w2:=iN.step aY (λb e=> .inr e) (λb e=> .inl (.inl e));have h2:=h1.kp aY (λe=>bO _ e aU.1) (λe=>bO _ e aU.2.1) (λe=>bO _ e aU.2.2.1) (λe=>bO _ e aU.2.2.2);have mq:=aY.size;refine PH [17]$ qO 17$ SJ (i:=17) O O O (OK zaS O O) (VX eh (λb hb=>by have:=hX b hb;omega) (by omega) h2 aU (by omega) _ tG) ?_;rintro _ w3 ⟨rfl,fx,h3,au⟩;refine⟨trivial,?_⟩;have ar:=h3.cells;refine M3 18 O (NX O) trivial$ qE$ qN O$ LW O$ N9 O O$ LX$ An O$ py$ M0 O$ LW O$ MC O$ Ma Pv O$ Mb O (NT TU O O O ar (by simp)) ?_;rintro w4 ⟨aH,av⟩;have h4:=h3.re av (show M7 w4 wb (swC Q.s st len (.slice none 0 0) (T.length / 512+1) T.length sum (Xy bs bx bw) false) 200 from aH);have iX:=fx.own av (λb e=>by rw[e];exact aU.1);have kE:(T.drop (512*(T.length / 512))).take 512=T.drop (512*(T.length / 512)):=List.take_of_length_le (by rw[List.length_drop];omega);refine LX$ Mz.qb (e:=[(0,_),(4,_)]) ?_;refine(ax _ _ ⟨rfl,_,.slice none 0 0,_,[],iX.less (λb e=>e.elim id (λe=>by cases e)),h4,Sl.nil w4 _ 1,Nat.zero_le _,(λb e=>by cases e),(List.drop_of_length_le (by omega)).symm,λj hj kK=>?_,λy hy=>?_,?_⟩).qb
    ·by_cases e:j=T.length / 512
     ·subst e;exact⟨zeros (512-T.length%512),by rw[OI,kE];rfl⟩
     ·exact⟨[],by rw[Od _ _ (by omega),List.append_nil];exact iL j (by omega)⟩
    ·rw[Od _ _ (by omega)]
    ·refine((ad.kp.LS aY λb e=> .inr (.inl (bO b e))).trans au).trans (av.Mc λb e=> .inr e)
   ·have wX:¬T.length / 512<len-1:=λe=>by rw[hq.2 e] at fR;cases fR
    have Jz:T.length / 512=len-1:=by omega
    have fd:(T.drop (512*(T.length / 512))).length=T.length%512:=by rw[List.length_drop];omega
    refine py ((ax _ _ ⟨rfl,txt,.slice a0 (T.length%512) c0,T.length / 512,T.drop (512*(T.length / 512)),iN.more (by omega),h1,by rw[fd];exact iM,by omega,bO,by rw[Jz],λj hj kK=>⟨[],by rw[List.append_nil];exact iL j (by omega)⟩,λy hy=>rfl,ad.kp⟩).qb)
 case eS=>
  refine NV (λw'=>Ext w w') O$ Mj 0 O O (hg)$ M3 1 O (N4 O) hg$ M3 2 O (My UN O) hg$ qT 3 O (λ_ h=>M1 U3 O O (h.LY hB) O) hg$ Mj 4 O O (hg)$ M3 5 O (N4 O) hg$ M3 6 O (My TE O) hg$ M3 7 O (My QL O) hg$ M3 8 O (My NQ O) hg$ qT 9 O (λ_ h=>M1 U3 O O (h.LY hB) O) hg$ M3 10 O (TO O O (by omega)) hg ?_;rw[show(len:Int)-1=((len-1:Nat):Int) by omega];rcases Nat.lt_or_ge (T.length / 512) (len-1) with hq|hq
  ·refine M3 11 O (Xc O O) hg$ QB$ Mj 12 O O (hg)$ Mj 13 O O (hg)$ M3 14 O (N4 O) hg$ M3 15 O (My Pv O) hg$ qT 16 O (λ_ h=>M1 Nc O O (h.LY hB) O) hg$ M3 17 O (Pb Nc O) hg$ M3 18 O (UL O O) hg$ QB$ M3 19 O (RM O O) hg$ qE$ Mz.qb (e:=[(0,_),(2,_),(4,_),(38,_)]) ?_;exact(dO _ _ ⟨true,rfl,⟨λ_=>hq,λ_=>rfl⟩,hg⟩).qb
  ·refine M3 11 O (Xc O O) hg$ QT$ Mj 12 O O (hg)$ qJ 13 O (hg)$ qJ 14 O (hg)$ qJ 15 O (hg)$ qJ 16 O (hg)$ qJ 17 O (hg)$ qJ 18 O (hg)$ M3 19 O (Ro O O) hg$ qE$ Mz.qb (e:=[(0,_),(2,_),(4,_),(38,_)]) ?_;exact(dO _ _ ⟨false,rfl,⟨λe=>(by cases e),λe=>by omega⟩,hg⟩).qb
end
end Go.Proofs.YtfgjaafcgghnoaaGreatDoor
namespace Go.Proofs.YtfgjaafcgghnoaaGreatDoor
open Go Go.RowKit Go.Shelf
def BdM (w:World)(b:Nat)(l:Bytes)(v:Value):Prop:=(∃p,(p= .pointer none\/p=ptr b 0)/\M7 w b [p,v] 177)/\Sl w v 5 1 l.length (l.map PF)/\v.ownBlock≠some b
section
variable {w w':World}{b:Nat}{l s:Bytes}{v:Value}{S':Nat->Prop}
theorem BdM.kp (h:BdM w b l v)(hk:Kp S' w w')(h1:¬S' b)(h2:∀g,v.ownBlock=some g->¬S' g):BdM w' b l v:=by
 obtain⟨⟨p,hp,hB⟩,hS,hn⟩:=h
 exact⟨⟨p,hp,hk.LY hB h1⟩,hS.kp hk h2,hn⟩
theorem BdM.new (h:M7 w b [.pointer none,.slice none 0 0] 177):BdM w b [] (.slice none 0 0):=⟨⟨_,.inl O,h⟩,Sl.nil w _ 1,λe=>by cases e⟩
theorem M7.shape {cs:List Value}{T:TypeId}(h:M7 w b cs T):w.shape? b=some (T,cs.length):=by
 obtain⟨fz,hb,-⟩:=h
 simp[World.shape?,hb]
theorem z6Z (h:BdM w b l v):Mw Tryz.prog 115 [ptr b 0] w λr w'=>r= .tuple #[]/\BdM w' b l v/\Kp (λk=>k=b) w w':=by
 obtain⟨⟨p,hp,hB⟩,hS,hn⟩:=h
 rcases hp with rfl|rfl
 ·refine Calls.mono (Any.Builder_copyCheck_fresh {zaZ with} zaT.toX72 b w (hB.cell 0) hB.shape (hB.free (i:=0) (by simp))) λ_ _ ⟨he,hw⟩=>⟨_,he,rfl,?_,?_⟩
  ·rw[hw];have hk:=Qf w b 0 (ptr b 0);exact⟨⟨_,.inr O,SX hB 0 (ptr b 0)⟩,hS.kp hk (λg hg e=>hn (e▸hg)),hn⟩
  ·rw[hw];exact Qf w b 0 _
 ·exact Calls.mono (Any.Builder_copyCheck_used {zaZ with} zaT.toX72 b w (hB.cell 0)) λ_ _ ⟨he,hw⟩=>⟨_,he,rfl,by rw[hw];exact⟨⟨_,.inr O,hB⟩,hS,hn⟩,by rw[hw];exact Kp.refl _ _⟩
theorem z0j (h:BdM w b l v)(s:Bytes)(hl:l.length+s.length<=140737488355328):Mw Tryz.prog 78 [ptr b 0,S s] w λ_ w'=>∃v',BdM w' b (l++s) v'/\Kp (λk=>k=b\/v.ownBlock=some k) w w'/\(∀g,v'.ownBlock=some g->v.ownBlock=some g\/w.heap.size<=g):=by
 refine It (e:=[(0,_),(1,_)]) Tryz.func78 O Tryz.ntmps78 O O$ qN O$ Me O$ Me O$ qM O$ LW O$ Mn zcY O (z6Z h) ?_
 rintro _ w1 ⟨rfl,⟨⟨p,hp,aj⟩,iM,cU⟩,aK⟩
 have mh:=aK.size
 have l1:=aj.lt
 refine qM O$ Md O O$ MC O$ Ma WZ O$ qV (M1 Nc O O aj O)$ LW O$ M5 O O (zeN Nc U9 TS O O iM hl) ?_
 rintro v2 w2 ⟨cH,ao,qa⟩
 have am:=ao.LY aj cU
 have mq:=ao.size
 have ia:v2.ownBlock≠some b:=λe=>by
  rcases qa b e with e| e
  ·exact cU e
  ·omega
 refine MC O$ Ma WZ O$ Mb O (NT TU O O (Tc cH) am (by simp)) ?_
 rintro w3 ⟨ar,au⟩
 refine qM O$ LW O$ qV (Rr U9 O)$ Me O$ M4 O$ LZ Tryz.func78 O ?_
 rw[<-List.length_append,<-List.map_append] at cH
 refine⟨_,rfl,v2,⟨⟨p,hp,ar⟩,cH.kp au (λg hg e=>ia (e▸hg)),ia⟩,((aK.Mc λk e=> .inl e).trans (ao.Mc λk e=> .inr e)).trans (au.Mc λk e=> .inl e),λg hg=>(qa g hg).imp id λe=>by omega⟩
theorem z6b (w:World)(a:Addr)(n:Nat):Kp (λk=>k=a.block) w (w.freeze a n):=by
 by_cases h0:n=0
 ·subst h0;rw[show w.freeze a 0=w by simp[World.freeze]];exact Kp.refl _ w
 ·unfold World.freeze;rw[if_neg h0]
  exact⟨rfl,rfl,rfl,by simp,λk _ hn=>by
   simp only[Array.getElem?_modify]
   rw[if_neg (λh=>hn h.symm)]⟩
section
variable {P:Program}{e:Env}{d:Option Nat}{ty t it el:TypeId}{pos:String}{aft:Array Edge}{g:Option (Nat×Bool)}{x y:Operand}{n c:Nat}{a:Option Addr}
theorem zfE (hx:look e x=some (.slice a n c))(hc:a≠none->c≠0):Y P e ⟨d,.call ⟨.builtin .unsafeSliceData,#[x],#[t]⟩,ty,pos,aft,g⟩ (.pointer a) w w:=fun ρ hρ=>by
 have hr:∀w,(Builtin.unsafeSliceData_ #[t] ty #[.slice a n c]).run P w= .ok (.pointer a) w:=λw=>by
  cases a with
  |none=>rfl
  |some a=>exact Lib.run_unsafeSliceData_row (P:=P) w #[t] ty a n c (hc (by simp))
 simp[execOp,resolve,invoke,builtin,hρ _ _ hx,hr]
theorem zfR (hp:P.underlying t=some (.pointer el))(hc:P.cellsOf el=1)(hx:look e x=some (.pointer a))(hy:look e y=some (I (l.length:Int)))(hS:Sl w (.slice a l.length c) el 1 l.length (l.map PF))(DQ:l.length<=9223372036854775807)(h0:l=[]\/∃g,a=some ⟨g,0,none⟩):
  Yp P e ⟨d,.call ⟨.builtin .unsafeString,#[x,y],#[t,it]⟩,ty,pos,aft,g⟩ w λr w'=>r=S l/\Kp (λk=>(Value.slice a l.length c).ownBlock=some k) w w':=by
 by_cases hl:l=[]
 ·subst hl;have hr:=Lib.run_unsafeString_none (P:=P) w t it ty a;refine⟨_,w,fun ρ hρ=>?_,rfl,Kp.refl _ _⟩;have h1:=hρ _ _ hx;have h2:ρ y= .int .i64 0:=hρ _ _ hy;simp[execOp,resolve,invoke,builtin,h1,h2,hr]
  rfl
 ·obtain⟨b,rfl⟩:=h0.resolve_left hl;obtain⟨cur,jx,jh,mz,aA,jz⟩:=hS.row;have aV:=World.ownsRow.cells hS (g:=b) O;simp only[Nat.mul_one] at aA jz
  have hr:=Lib.run_unsafeString_row (P:=P) w t it ty el hp hc b cur.length (by unfold Rt at jx;simp[World.shape?,jx]) l hl (by omega) DQ (λj x hj=>by
   have:=aV j (PF x) (by rw[List.getElem?_map,hj];rfl)
   exact this)
  refine⟨_,_,fun ρ hρ=>?_,rfl,(z6b w ⟨b,0,none⟩ l.length).Mc λk e=>by rw[show k=b from e];rfl⟩;simp[execOp,resolve,invoke,builtin,hρ _ _ hx,hρ _ _ hy,hr]
end
theorem YW (h:BdM w b l v)(h0:l=[]->v= .slice none 0 0)(hl:l.length<=140737488355328):Mw Tryz.prog 79 [ptr b 0] w λr w'=>r=S l/\Kp (λk=>v.ownBlock=some k) w w':=by
 obtain⟨⟨p,hp,hB⟩,hS,hn⟩:=h
 obtain⟨a,c,rfl,ha⟩:=hS.rd.shape
 have hg:=Ext.Mm w
 have zV:l=[]\/∃g,a=some ⟨g,0,none⟩:=by
  rcases hS.shape with⟨e,h1⟩|⟨g,cap,e,h1⟩
  ·exact .inl (List.eq_nil_of_length_eq_zero h1)
  ·cases e;exact .inr ⟨g,rfl⟩
 have qw:a≠none->c≠0:=λe=>by
  by_cases sj:l=[]
  ·have:=h0 sj
   injection this with e1 _ _
   exact absurd e1 e
  ·have rq:l.length≠0:=by simpa using sj
   rcases hS.shape with⟨_,h1⟩|⟨g,cap,e2,h1⟩
   ·omega
   ·cases e2;omega
 refine It (e:=[(0,_)]) Tryz.func79 O Tryz.ntmps79 O O$ qN O$ M4 O$ run_seq$ Mo [10,11] (λw'=>Ext w w') (by kernel_rfl) O$ qL [1,2,3,4,10,11] 0 O (λ_ h=>MH O) hg$ qL [2,3,4,10,11] 1 O (λ_ h=>N4 O) hg$ qL [3,4,10,11] 2 O (λ_ h=>My WZ O) hg$ qL [4,10,11] 3 O (λ_ h=>M1 Nc O O (h.LY hB) O) hg$ qL [6,7,8,9,10,11] 5 O (λ_ h=>MH O) hg$ qL [7,8,9,10,11] 6 O (λ_ h=>N4 O) hg$ qL [8,9,10,11] 7 O (λ_ h=>My WZ O) hg$ qL [9,10,11] 8 O (λ_ h=>M1 Nc O O (h.LY hB) O) hg$ qL [10,11] 9 O (λ_ h=>Pb Nc O) hg ?_
 refine qL [10,11] 4 O (λ_ h=>zfE O qw) hg$ PH [10]$ qO 10$ ON (i:=10) O O O (zfR zgD (by kernel_rfl) O O (hS.ext hg) (by omega) zV) ?_
 rintro _ w1 ⟨rfl,aK⟩
 refine⟨trivial,?_⟩
 refine M3 11 O (NX O) trivial$ qE$ LZ Tryz.func79 O ?_
 exact⟨_,rfl,rfl,hg.kp.trans aK⟩
end
end Go.Proofs.YtfgjaafcgghnoaaGreatDoor
namespace Go.Proofs.YtfgjaafcgghnoaaGreatDoor
open Go Go.RowKit
def srC (s st len n sum:Nat):List Value:=[ptr s 0,I (st:Int),I (len:Int),I (n:Int),U sum]
section
variable {w w':World}{Q:Ol}{txt:Int->Bytes}{K:Nat}{X S':Nat->Prop}{st len n sum rb:Nat}{T:Bytes}
theorem z2j (hP:Sp Q txt K X w)(hX:∀b,X b->b<w.heap.size)(hK:K<1000000000000)(h1:1<=len)(bP:st+len<=Q.L.length)(hn:n<=len*512-12)(gI:sum<4294967296)(hf:∃z,txt ((st+(len-1):Nat):Int)=z++TK n sum/\z.length=500):
  Mw Tryz.prog 61 [ptr Q.s 0,.agg #[I (st:Int),I (len:Int)]] w λv w'=>∃rb,v= .tuple #[ptr rb 0,I 0]/\M7 w' rb (srC Q.s st len n sum) 204/\w.heap.size<=rb/\Sp Q txt K (λb=>X b\/b=rb) w'/\Kp (λb=>¬X b) w w':=by
 have dT:=hP.n
 obtain⟨z,hz,vJ⟩:=hf
 have lK:=ZU n sum
 refine It (e:=[(0,_),(1,_)]) Tryz.func61 O Tryz.ntmps61 O O$ qN O$ M5 O O (O2 O (cs:=[I (st:Int),I (len:Int)]) O) ?_
 rintro _ w1 ⟨bx,rfl,eZ,ad,gC⟩
 refine Me O$ Me O$ qM O$ LW O$ qV (Mv (news:=[I (st:Int),I (len:Int)]) SO O NO O (gC.cells (n:=2) O) O)$ qV (OO (cs:=[_,_,_]) SM O zay O O)$ qV (OO (cs:=[_,_,_,_,_]) zea O zdY O O)$ M5 O O (O2 O (cs:=[ptr Q.s 0,I (st:Int),I (len:Int),I 0,U 0]) O) ?_
 rintro _ w2 ⟨rb,rfl,Fw,af,am⟩
 have aG:=ad.trans af
 have DY:=af.LY gC
 have z1:=ad.size
 have z2:=af.size
 have eh:Sp Q txt K (λb=>X b\/b=rb) w2:=hP.ext aG (λb e=>e.imp id λe=>by omega)
 refine M4 O$ run_seq$ qN O$ LW O$ MC O$ Ma Vb O$ qV (Mv z7a O SM O (M7.cells (n:=3) am (news:=[_,_,_]) O) O)$ Mn ze8 O (Wf eh h1 bP) ?_
 rintro _ w3 ⟨rfl,ai⟩
 have fx:=eh.ext' ai
 have ar:=ai.LY am
 have yv:=ai.LY DY
 have z3:=ai.size
 have l2:=am.lt
 have dX:=fx.read (λb hb=>by
  rcases hb with e| e
  ·have:=hX b e;omega
  ·omega) hK (no:=((st+(len-1):Nat):Int)) (by omega) (by omega)
 rw[hz] at dX
 refine Me O$ qM O$ LW O$ N9 O O$ LX$ An O$ py$ qN O$ LW O$ Ma NK O$ qV (M1 U3 O O yv O)$ Ma NQ O$ qV (M1 U3 O O yv O)$ MT O O ?_
 refine Oa O O ?_
 rw[show(st:Int)+(len:Int)-1=((st+(len-1):Nat):Int) by omega]
 refine Mn z6U O (dX) ?_
 rintro _ w4 ⟨rfl,iX,av⟩
 have aH:=av.LY ar (λe=>e (.inr O))
 refine LW O$ N5 O O$ N5 O O$ Me O$ M4 O$ Mz.qb (e:=[(4,_),(5,_),(6,_),(8,_),(9,_)]) ?_
 refine run_seq$ qN O$ LW O$ N9 O O$ LX$ An O$ py$ qN O$ Md O O$ qV (Rr U9 O) ?_
 rw[show((z++TK n sum).length:Int)=512 by rw[List.length_append,lK,vJ];rfl]
 refine Oa O O ?_
 rw[show(512:Int)-12=((500:Nat):Int) by omega]
 refine qV (Ww (m:=500) U9 O O (by rw[List.length_append,lK,vJ];omega)) ?_
 rw[show(z++TK n sum).drop 500=TK n sum from List.drop_left' vJ]
 refine Me O$ qM O$ LW O$ qV (XN (m:=8) U9 O O (by rw[lK];omega)) ?_
 rw[show(TK n sum).take 8=Q4 8 n from List.take_left' (Mu _ _)]
 have rJ:valB (Ml (Q4 8 n))=n:=Tv (by omega)
 have DZ:valB (Ml (Q4 4 sum))=sum:=Tv (by omega)
 have jk:=Mu 8 n
 have f9:=Mu 4 sum
 refine Mn zeB O (Zc (Q4 8 n) (by omega) _) ?_
 rintro _ w5 ⟨rfl,aW⟩
 rw[rJ]
 have aI:=aW.LY aH
 have gA:=iX.ext' aW
 refine M4 O$ run_seq$ qN O$ Md O O$ MC O$ Ma Vb O$ qV (Mv z7a O SM O (M7.cells (n:=3) aI (news:=[_,_,_]) O) O)$ Mn zdX O (Xq gA (by omega)) ?_
 rintro _ w6 ⟨rfl,aJ⟩
 have aS:=aJ.LY aI
 have qk:=gA.ext' aJ
 refine qV ((by first|exact MQ O U3 Nv (by omega)|exact Ob O U3 Nv)) ?_
 refine Ng O O$ ML$ LX$ Mz.qb (e:=[(4,_),(5,_),(6,_),(10,_),(11,_),(54,_)]) ?_
 refine An O$ py$ qN O$ Md O O$ LW O$ qV (MK O Nv U3 (by omega))$ LW O$ qV (Ww (m:=8) U9 O O (by rw[lK];omega)) ?_
 rw[show(TK n sum).drop 8=Q4 4 sum from List.drop_left' (Mu _ _)]
 refine Mn zeB O (Zc (Q4 4 sum) (by omega) _) ?_
 rintro _ w7 ⟨rfl,ck⟩
 rw[DZ]
 have bK:=ck.LY aS
 refine qV (Xb O Nv Np)$ MC O$ Ma WK O$ Mb O (NT MV O O O bK (by simp)) ?_
 rintro w8 ⟨cu,bz⟩
 replace cu:M7 w8 rb [ptr Q.s 0,I (st:Int),I (len:Int),I (n:Int),U 0] 204:=cu
 refine MC O$ Ma z8M O ?_
 rw[Nat.mod_eq_of_lt (show sum<2^32 by omega)]
 refine Mb O (NT Mi O O O cu (by simp)) ?_
 rintro w9 ⟨cJ,aO⟩
 refine qM O$ LW O$ Me O$ M4 O$ LZ Tryz.func61 O ?_
 have uF:=(((qk.ext' ck).own bz (λb e=> .inr e)).own aO (λb e=> .inr e))
 refine⟨_,rfl,rb,rfl,cJ,by omega,uF,?_⟩
 have E0:Kp (λb=>¬X b) w w4:=((aG.trans ai).kp (S:=λb=>¬X b)).trans (av.Mc λb e e2=>e (.inl e2))
 refine(((E0.trans (aW.trans (aJ.trans ck)).kp).LS bz λb e=> .inl (by omega)).LS aO λb e=> .inl (by omega))
theorem z5b (hB:M7 w rb (srC Q.s st len n sum) 204):Mw Tryz.prog 278 [ptr rb 0] w λv w'=>v=I (n:Int)/\w'=w:=by
 replace hB:M7 w rb [ptr Q.s 0,I (st:Int),I (len:Int),I (n:Int),U sum] 204:=hB
 refine It (e:=[(0,_)]) Tryz.func278 O Tryz.ntmps278 O O$ qN O$ M4 O$ run_seq$ qN O$ LW O$ qV (N7 z9j O O)$ LX$ An O$ py$ qN O$ LW O$ MC O$ Ma WK O ?_
 refine qV (M1 U3 O O hB O)$ M4 O$ LZ Tryz.func278 O ?_
 exact⟨_,rfl,rfl,rfl⟩
theorem z71 (hP:Sp Q txt K (λb=>X b\/b=rb) w)(hX:∀b,X b->b<w.heap.size)(tH:¬X rb)(hK:K<1000000000000)(bP:st+len<=Q.L.length)(hL:Laid txt st T)(hB:M7 w rb (srC Q.s st len T.length sum) 204)(hT:T.length<=len*512)(off n:Nat)(ho:off+n<=T.length):
  Mw Tryz.prog 279 [ptr rb 0,I (off:Int),I (n:Int)] w λv w'=>v= .tuple #[S ((T.drop off).take n),I 0]/\Sp Q txt K (λb=>X b\/b=rb) w'/\M7 w' rb (srC Q.s st len T.length sum) 204/\Kp (λb=>¬X b) w w':=by
 have dT:=hP.n
 have lrb:=hB.lt
 replace hB:M7 w rb [ptr Q.s 0,I (st:Int),I (len:Int),I (T.length:Int),U sum] 204:=hB
 refine It (e:=[(0,_),(1,_),(2,_)]) Tryz.func279 O Tryz.ntmps279 O O$ qN O$ Me O$ M4 O$ run_seq$ LU$ qN O$ LW O$ qV (N7 z9j O O)$ M4 O$ An O$ qN O$ LW O$ Ni O O ?_
 refine ML$ Md O O$ Ni O O$ ML$ MN O O$ Md O O$ LW O$ MC O$ Ma WK O$ qV (M1 U3 O O hB O)$ Ng O O$ ML$ MN O O$ Md O O ?_
 refine LW O$ MC O$ Ma WK O$ qV (M1 U3 O O hB O)$ LW O$ Oa O O$ Ng O O$ ML$ MN O O$ M4 O$ Mz.qb (e:=[(0,_),(1,_),(2,_),(6,_),(7,_),(15,_)]) ?_
 refine An O$ py$ LV$ qN O$ LW O$ MC O$ Ma Vb O$ Ma RB O$ qV (M1 To O O hB O)$ Mn z0Y O (hP.size) ?_
 rintro _ w ⟨rfl,rfl⟩
 refine Me O$ qM O$ M5 O O (Oo (cs:=[_,_]) za2 O) ?_
 rintro _ w1 ⟨bb,rfl,ui,ad,uB⟩
 have tI:=BdM.new uB
 have z1:=ad.size
 refine LX$ run_seq$ LU$ Oh (α:=Nat×Value) ((0,Value.slice none 0 0)) (λy=>[(0,ptr rb 0),(1,I ((off+y.1:Nat):Int)),(2,I ((n-y.1:Nat):Int)),(8,I 512),(9,ptr bb 0)]) (λy w'=>y.1<=n/\BdM w' bb ((T.drop off).take y.1) y.2/\(y.1=0->y.2= .slice none 0 0)/\(∀g,y.2.ownBlock=some g->w.heap.size<=g)/\Sp Q txt K (λb=>(X b\/b=rb)\/b=bb\/y.2.ownBlock=some b) w'/\Kp (λb=>¬(X b\/b=rb)) w w') (λy=>n-y.1) ?hI ?hround
 case hI=>exact⟨Nat.zero_le _,tI,λ_=>rfl,λg hg=>(by cases hg),hP.ext ad (λb e=>e.imp id λe=>e.elim (λe=>by omega) (λe=>by cases e)),ad.kp⟩
 case hround=>
  rintro⟨m,v⟩ w2 ⟨hm,ku,Gq,gn,eh,ao⟩ ih;dsimp only at hm ku Gq gn eh ih⊢;have am:=ao.LY hB (λe=>e (.inr O));have hg:=Ext.Mm w2;have z2:=ao.size;have lbb:bb<w2.heap.size:=by obtain⟨⟨p,hp,hb⟩,-,-⟩:=ku;exact hb.lt
  have ly:∀b,((X b\/b=rb)\/b=bb\/v.ownBlock=some b)->b<w2.heap.size:=λb hb=>by
   rcases hb with(e|e)|e| e
   ·have:=hX b e;omega
   ·omega
   ·omega
   ·exact ku.2.1.lt e
  try dsimp only
  refine run_seq$ qN O$ LW O$ Ng O O$ LX$ M8 O (λh0=>?_)$ λh0=>?_
  ·obtain⟨q,hq⟩:∃q,min (n-m) (512-(off+m)%512)=q:=⟨_,rfl⟩;have dj:=eh.VM (x:=((st+(off+m) / 512:Nat):Int)) (by omega) (by omega);have jj:=hL.piece (off:=off+m) (n:=q) (by omega) (by omega);have dX:=(eh.ext' hg).read (λb hb=>by have:=ly b hb;have:=hg.size;omega) hK (no:=((st+(off+m) / 512:Nat):Int)) (by omega) (by omega);obtain⟨t,ht⟩:∃t,txt ((st+(off+m) / 512:Nat):Int)=t:=⟨_,rfl⟩;rw[ht] at dj jj dX;refine py$ LU$ run_seq$ NV (λw'=>Kp (λb=>¬((X b\/b=rb)\/b=bb\/v.ownBlock=some b)) w2 w') O$ Mj 0 O O (hg.kp)$ M3 1 O (N4 O) (hg.kp)$ M3 2 O (My Vb O) (hg.kp)$ M3 3 O (My RB O) (hg.kp)$ qT 4 O (λ_ hS=>M1 To O O (hS.LY am (λe=>e (.inl (.inr O)))) O) (hg.kp)$ Mj 5 O O (hg.kp)$ M3 6 O (N4 O) (hg.kp)$ M3 7 O (My Vb O) (hg.kp)$ M3 8 O (My QL O) (hg.kp)$ M3 9 O (My NK O) (hg.kp) ?_;refine qT 10 O (λ_ hS=>M1 U3 O O (hS.LY am (λe=>e (.inl (.inr O)))) O) (hg.kp)$ Mj 11 O O (hg.kp)$ Mj 12 O O (hg.kp)$ M3 13 O (Te O O (by omega)) (hg.kp)$ M3 14 O (R4 O O (by omega)) (hg.kp) ?_;rw[show(st:Int)+((off+m:Nat):Int) / 512=((st+(off+m) / 512:Nat):Int) by omega];refine Pm 15 O z6U O (dX) ?_;rintro _ w3 ⟨rfl,fx,au⟩;refine⟨hg.kp.trans au,?_⟩;have cR:=hg.kp.trans au;have tJ:=ku.kp cR (λe=>e (.inr (.inl O))) (λg hg e=>e (.inr (.inr hg)));refine Mj 16 O O (hg.kp.trans au)$ M3 17 O (O6 O O) (hg.kp.trans au)$ M3 18 O (O6 O O) (hg.kp.trans au)$ M3 19 O (NX O) (hg.kp.trans au)$ M3 20 O (NX O) (hg.kp.trans au)$ qE$ run_seq$ qN O$ LW O$ N9 O O$ LX$ An O$ py$ qN O ?_;refine Md O O$ LW O$ qV (yre O O (by omega)) ?_;rw[show((off+m:Nat):Int)%512=(((off+m)%512:Nat):Int) by omega];refine qV (Ww U9 O O (by omega))$ Me O$ qM O$ Md O O$ LW O$ qV (Rr U9 O)$ qV (ymi O O) ?_;rw[show min ((n-m:Nat):Int) ((t.drop ((off+m)%512)).length:Int)=((q:Nat):Int) by rw[List.length_drop];omega];refine qV (XN (m:=q) U9 O O (by rw[List.length_drop];omega)) ?_;rw[jj];have Ci:((T.drop (off+m)).take q).length=q:=by rw[List.length_take,List.length_drop];omega
   have gH:((T.drop off).take m).length<=m:=by rw[List.length_take];omega
   refine Me O$ qM O$ LW O$ Mn zc0 O (z0j tJ ((T.drop (off+m)).take q) (by omega)) ?_;rintro _ w4 ⟨v4,ql,av,mI⟩;have z3:=cR.size;refine qM O$ Md O O$ qV (Rr U9 O) ?_;rw[Ci];refine MT O O$ M4 O$ M0 O$ Md O O$ qV (Rr U9 O) ?_;rw[Ci];refine Oa O O$ M4 O$ LV ?_;rw[show((off+m:Nat):Int)+(q:Int)=((off+(m+q):Nat):Int) by omega,show((n-m:Nat):Int)-(q:Int)=((n-(m+q):Nat):Int) by omega];refine(ih (m+q,v4) _ ⟨by dsimp only;omega,?_,λe=>by dsimp only at e;omega,λg hg=>(mI g hg).elim (gn g) (λe=>by omega),?_,?_⟩ (by dsimp only;omega)).qb
   ·dsimp only;rw[List.take_add,List.drop_drop];exact ql
   ·exact fx.step av (λb e=> .inr e) (λb e=>by
     rcases e with e|e| e
     ·exact .inl (.inl e)
     ·exact .inl (.inr (.inl e))
     ·exact(mI b e).imp (λe=> .inr (.inr e)) id)
   ·refine(ao.trans (cR.Mc λb e e2=>e (.inl e2))).LS av λb e=> .inl ?_;rcases e with e| e
    ·omega
    ·exact gn b e
  ·have JA:m=n:=by omega
   subst JA;refine M6 O$ qN O$ Mn zcg O (YW ku (λe=>Gq (by have:=congrArg List.length e;rw[List.length_take,List.length_drop,List.length_nil] at this;omega)) (by rw[List.length_take,List.length_drop];omega)) ?_;rintro _ w3 ⟨rfl,au⟩;refine Me O$ M4 O$ LZ Tryz.func279 O ?_;have cC:Kp (λb=>¬(X b\/b=rb)) w w3:=ao.LS au (λb e=> .inl (gn b e));exact⟨_,rfl,rfl,eh.step au (λb e=> .inr (.inr e)) (λb e=> .inl (.inl e)),cC.LY hB (λe=>e (.inr O)),cC.Mc λb e e2=>e (.inl e2)⟩
end
section
variable {t:TypeId}{u:Value}{p:Nb}{g:List (List Nat)}{E:List (Nat×Nat)}{R:Src t u (Ug p g E)}{k x:Nat}{X Y S:Nat->Prop}{w w':World}
theorem z2B (k v:Nat)(w:World):Mw Tryz.prog 75 [ptr k 0,I (v:Int)] w λr w'=>∃bk bi,r= .func (.func 113) #[] #[ptr bk 0,ptr bi 0]/\M7 w' bk [ptr k 0] 29/\M7 w' bi [I (v:Int)] 3/\w.heap.size<=bk/\w.heap.size<=bi/\Ext w w':=by
 refine It (e:=[(0,_),(1,_)]) Tryz.func75 O Tryz.ntmps75 O O$ qN O$ M5 O O (O2 O (cs:=[ptr k 0]) O) ?_
 rintro _ w1 ⟨bk,rfl,gy,ad,uu⟩
 refine M5 O O (O2 O (cs:=[I (v:Int)]) O) ?_
 rintro _ w2 ⟨bi,rfl,uG,af,E1⟩
 refine Me O$ qM O$ qV (Zm (first:=[]) (caps:=[.tmp 2,.tmp 3]) O O)$ M4 O$ LZ Tryz.func75 O ?_
 have:=ad.size
 exact⟨_,rfl,bk,bi,rfl,af.LY uu,E1,by omega,by omega,ad.trans af⟩
theorem z3h {l bk bi v:Nat}(j4:g.length<50)(hv:v<g.length)(h:Rn R k x X w)(gy:M7 w bk [ptr k 0] 29)(uG:M7 w bi [I (v:Int)] 3)(Z:Nat->Prop)(hZ:∀j,Z j->X j)(J:(Nat->Prop)->Nat->World->Prop)(F:World->Prop)
  (h0:∀(Y:Nat->Prop) (w':World),(∀j,X j->Y j)->(∀j,Y j->X j\/w.heap.size<=j)->Rn R k x Y w'->Kp (λj=>¬X j) w w'->J Y 0 w')
  (hround:∀(Y:Nat->Prop) (i s:Nat) (w':World),(∀j,X j->Y j)->(∀j,Y j->X j\/w.heap.size<=j)->(Mg g v)[i]? =some s->J Y i w'->z05 Tryz.prog l [Mx s,I 0] w' λr w''=>(r= .bool true/\J Y (i+1) w''/\Kp (λj=>¬Y j\/Z j) w' w'')\/(r= .bool false/\F w'')):
  Mw Tryz.prog 113 [.func (.yield l) #[] #[],ptr bk 0,ptr bi 0] w λr w'=>r= .tuple #[]/\((∃Y,(∀j,X j->Y j)/\(∀j,Y j->X j\/w.heap.size<=j)/\J Y (Mg g v).length w')\/F w'):=by
 have aP:=h.lt
 have fT:(Mg g v).length<=g.length:=by
  unfold Mg;rw[List.getElem?_eq_getElem hv];exact h.ok.gr.len (List.getElem_mem hv)
 refine It (e:=[(0,_),(1,_),(2,_)]) Tryz.func113 O Tryz.ntmps113 O O$ qN O$ qV ((by first|exact M1 Ze O O gy O|exact M1 Ze O O uG O)) ?_
 refine qV ((by first|exact M1 U3 O O gy O|exact M1 U3 O O uG O)) ?_
 refine Mn zeX O (z26 j4 hv h) ?_
 rintro _ w1 ⟨vv,rfl,iM,iI,h1,aK⟩
 have dX:=iM.rd
 obtain⟨a,c,rfl,ha⟩:=dX.shape
 refine LW O$ qV (O6 (v:= .slice a (Mg g v).length c) O O)$ qV (O6 (v:=I 0) O O)$ Me O$ M4 O$ run_seq$ qN O$ LW O$ N9 O O$ LX$ An O$ py$ qN O$ LW O ?_
 refine O9 Mr O$ LW O$ LX$ LU ?_
 obtain⟨Y,hY⟩:∃Y:Nat->Prop,(λj=>X j\/(Value.slice a (Mg g v).length c).ownBlock=some j)=Y:=⟨_,rfl⟩
 rw[hY] at h1
 have bM:∀j,X j->Y j:=λj hj=>by rw[<-hY];exact .inl hj
 have uH:∀j,Y j->X j\/w.heap.size<=j:=λj hj=>by
  rw[<-hY] at hj;exact hj.imp id (iI j)
 have Gs:∀j,(Value.slice a (Mg g v).length c).ownBlock=some j->Y j/\¬Z j:=λj hj=>⟨by rw[<-hY];exact .inr hj,λe=>by have h2:=iI j hj;have h3:=aP j (hZ j e);omega⟩
 refine Oh (α:=Nat) (0) (λi=>[(0,.func (.yield l) #[] #[]),(19,.slice a (Mg g v).length c),(20,I ((Mg g v).length:Int)),(21,I (i:Int))]) (λi w'=>i<=(Mg g v).length/\J Y i w'/\Rd w' (.slice a (Mg g v).length c) 1 (Mg g v).length ((Mg g v).map Mx)) (λi=>(Mg g v).length-i) ?hI ?hround
 case hI=>exact⟨Nat.zero_le _,h0 Y w1 bM uH h1 aK,dX⟩
 case hround=>
  rintro i w2 ⟨hi,hJ,yw⟩ ih
  try dsimp only
  refine qN O$ Ni O O$ LX$ run_seq$ M8 O (λhq=>?_)$ λhq=>?_
  ·obtain⟨s,hs⟩:∃s,(Mg g v)[i]? =some s:=⟨_,List.getElem?_eq_getElem (by omega)⟩;rcases yw.2 with⟨⟨ca,cc⟩,fH,rk⟩|⟨b,off,cap,fH,hc⟩
   ·omega
   cases fH;have aV:w2.cell? ⟨b,off+i*1,none⟩=some (Mx s):=hc (i*1) _ (by rw[Nat.mul_one,List.getElem?_map,hs];rfl);refine py$ run_seq$ LU$ qN O$ qV (MS Mr Mi O O (by omega))$ qV (MA Np O O aV)$ Me O$ qM O$ Md O O$ z2D O O (yy O O) (hround Y i s w2 bM uH hs hJ) ?_;rintro r w3 fA;rcases fA with⟨rfl,JB,au⟩|⟨rfl,hF⟩
   ·refine qV ((by first|exact MX O|exact Oy O)) ?_;refine LX$ An O$ py$ LV$ M0 O$ MT O O$ LW O$ LX ?_;exact(ih (i+1) _ ⟨by omega,JB,yw.kp au (λj hj e=>e.elim (λe=>e (Gs j hj).1) (Gs j hj).2)⟩ (by omega)).qb
   ·refine qV ((by first|exact MX O|exact Oy O)) ?_;refine LX$ M9 O$ LZ Tryz.func113 O ?_;exact⟨_,rfl,rfl,.inr hF⟩
  ·have cy:i=(Mg g v).length:=by omega
   subst cy;refine M6 O$ Nq Tryz.func113 O ?_;exact⟨_,rfl,rfl,.inl ⟨Y,bM,uH,hJ⟩⟩
end
structure StO (Q:Ol)(txt:Int->Bytes)(K st len:Nat)(T:Bytes):Prop where
 k:K<1000000000000
 fit:st+len<=Q.L.length
 laid:Laid txt st T
 len:T.length<=len*512
def z4Z {Q:Ol}{txt:Int->Bytes}{K st len:Nat}{T:Bytes}(o:StO Q txt K st len T)(rb sum:Nat):Src 136 (ptr rb 0) T where
 inv X w:=Sp Q txt K (λb=>X b\/b=rb) w/\M7 w rb (srC Q.s st len T.length sum) 204/\¬X rb
 fl:=278
 fr:=279
 cl:=zcm
 cr:=zeQ
 ml:=by kernel_rfl
 mr:=by kernel_rfl
 ext:=λh hx hY=>⟨h.1.ext hx λb e=>e.elim (λe=>(hY b e).elim (λe=> .inl (.inl e)) .inr) (λe=> .inl (.inr e)),hx.LY h.2.1,λe=>(hY _ e).elim h.2.2 (λe=>by have:=h.2.1.lt;omega)⟩
 step:=λh hk hS hY=>⟨h.1.step hk (λb e=> .inl (hS b e)) λb e=>e.elim (λe=>(hY b e).elim (λe=> .inl (.inl e)) .inr) (λe=> .inl (.inr e)),hk.LY h.2.1 (λe=>h.2.2 (hS _ e)),λe=>(hY _ e).elim h.2.2 (λe=>by have:=h.2.1.lt;omega)⟩
 len:=λh=>(z5b (Q:=Q) h.2.1).mono λv w' ⟨hv,hw⟩=>⟨hv,by rw[hw];exact Ext.refl _⟩
 rd:=λoff n h hX zU=>(z71 h.1 hX h.2.2 o.k o.fit o.laid h.2.1 o.len off n zU).mono λv w' ⟨hv,h1,h2,h3⟩=>⟨hv,⟨h1,h2,h.2.2⟩,h3⟩
section
variable {t:TypeId}{u:Value}{p:Nb}{g:List (List Nat)}{E:List (Nat×Nat)}{k x:Nat}{X Y S:Nat->Prop}{w w':World}
theorem Rn.re {R R':Src t u (Ug p g E)}(h:Rn R k x X w)(hk:Kp S w w')(hS:∀j,S j->j≠k/\j≠x/\j≠0/\j≠1)(hI:R'.inv X w'):Rn R' k x X w':=
 ⟨h.ok,hk.LY h.LY (λe=>(hS _ e).1 O),hk.LY h.ix (λe=>(hS _ e).2.1 O),h.xk,h.xx,hI,λj hj=>by have:=h.lt j hj;have:=hk.size;omega,h.x1,h.x2,hk.LY h.gam (λe=>(hS _ e).2.2.1 O),hk.LY h.una (λe=>(hS _ e).2.2.2 O)⟩
theorem z2v {Q:Ol}{txt:Int->Bytes}{K st len rb sum:Nat}(hp:Py p g E)(o:StO Q txt K st len (Ug p g E))(hI:(z4Z o rb sum).inv X w)(hX:∀j,X j->j<w.heap.size)(x1:X 0)(x2:X 1)(hG:M7 w 0 (OZ .gamma) 260)(hU:M7 w 1 (OZ .unary) 260):
  Mw Tryz.prog 62 [ptr rb 0] w λv w'=>∃k x,v= .tuple #[ptr k 0,I 0]/\w.heap.size<=k/\w.heap.size<=x/\Rn (z4Z o rb sum) k x (λj=>X j\/j=x\/j=k) w'/\Kp (λj=>¬X j) w w':=by
 refine It (e:=[(0,_)]) Tryz.func62 O Tryz.ntmps62 O O$ qN O$ Me O$ M4 O$ run_seq$ qN O$ LW O$ qV (N7 z9j O O)$ LX$ An O$ py$ qN O$ LW O$ qV (zfh z9j (λ_ h=>by cases h) rfl) ?_
 refine Mn zbR O (z3b hp (z4Z o rb sum) hI hX) ?_
 rintro _ w1 ⟨k,x,rfl,aj,am,hx,hk,bO,m5,aK⟩
 refine N5 O O$ N5 O O$ Me O$ M4 O$ LZ Tryz.func62 O ?_
 have z1:=aK.size
 have l1:=aj.lt
 have l2:=am.lt
 refine⟨_,rfl,k,x,rfl,hk,hx,⟨hp,aj,am,.inr (.inr O),.inr (.inl O),m5,λj hj=>?_,.inl x1,.inl x2,aK.LY hG (λe=>e x1),aK.LY hU (λe=>e x2)⟩,aK⟩
 rcases hj with e|e| e
 ·have:=hX j e;omega
 ·omega
 ·omega
end
theorem z8s {n each:Nat}(he:1<=each):max (1:Int) (((n:Int)+(each:Int)-1) / (each:Int))=((R8 n each:Nat):Int):=by
 unfold R8
 rw[show(n:Int)+(each:Int)-1=((n+each-1:Nat):Int) by omega]
 have h:((n+each-1:Nat):Int) / (each:Int)=(((n+each-1) / each:Nat):Int):=rfl
 rw[h]
 generalize (n+each-1) / each=q
 omega
section
variable {w w':World}{Q:Ol}{txt:Int->Bytes}{K:Nat}{X:Nat->Prop}{vb width st each n:Nat}{xs:List Nat}
abbrev shV (n width each:Nat):Value:= .agg #[I (n:Int),I (width:Int),I (each:Int)]
theorem US (n width each:Nat)(he:1<=each/\each<=512)(hn:n<=4194304)(w:World):Mw Tryz.prog 63 [shV n width each] w λv w'=>v=I (R8 n each:Int)/\Ext w w':=by
 refine It (e:=[(0,_)]) Tryz.func63 O Tryz.ntmps63 O O$ qN O$ M5 O O (O2 O (cs:=[I (n:Int),I (width:Int),I (each:Int)]) O) ?_
 rintro _ w1 ⟨b1,rfl,bR,ad,aj⟩
 refine Me O$ qM O$ Ma Tw O$ qV (M1 U3 O O aj O)$ Ma Sg O$ qV (M1 U3 O O aj O)$ MT O O$ Oa O O$ Ma Sg O$ qV (M1 U3 O O aj O)$ qV (Te O O (by omega))$ qV (yma O O)$ M4 O ?_
 rw[z8s he.1]
 refine LZ Tryz.func63 O ?_
 exact⟨_,rfl,rfl,ad⟩
theorem Xa (n width each x:Nat)(hw:width=1\/width=2\/width=4\/width=8)(hx:x<2^(8*width))(w:World):Mw Tryz.prog 69 [shV n width each,Mh x] w λv w'=>v= .bool true/\Ext w w':=by
 refine It (e:=[(0,_),(1,_)]) Tryz.func69 O Tryz.ntmps69 O O$ qN O$ M5 O O (O2 O (cs:=[I (n:Int),I (width:Int),I (each:Int)]) O) ?_
 rintro _ w1 ⟨b1,rfl,bR,ad,aj⟩
 refine Me O$ qM O$ Ma Qp O$ qV (M1 U3 O O aj O) ?_
 by_cases h8:width=8
 ·refine O3 O O$ O4$ LW O$ qS$ qS$ qS$ qS$ qS$ qS$ NC O O$ M4 O$ LZ Tryz.func69 O ?_;exact⟨_,rfl,rfl,ad⟩
 ·have JC:8*width<=32:=by omega
  have hp:1*2^(8*width)%18446744073709551616=2^(8*width):=by
   have:=Nat.pow_le_pow_right (show 0<2 by decide) JC;rw[Nat.one_mul,Nat.mod_eq_of_lt (by omega)]
  refine O3 O O$ ML$ Md O O$ Ma Qp O$ qV (M1 U3 O O aj O)$ qV (SB O O (by omega)) ?_;rw[show(8:Int)*(width:Int)=((8*width:Nat):Int) by omega];refine qV (NW (8*width) (2^(8*width)) O O (by omega) O) ?_;rw[hp]
  generalize 2^(8*width)=P at hx⊢
  refine Ni O O$ O4$ MN O O$ M4 O$ LZ Tryz.func69 O ?_;exact⟨_,rfl,rfl,ad⟩
theorem Ub (n width each x:Nat)(hw:width<=8)(hx:x<18446744073709551616)(w:World):Mw Tryz.prog 73 [shV n width each,Mh x] w λv w'=>v=S (Q4 width x)/\Ext w w':=by
 have eH:maxLen=9223372036854775807:=rfl
 refine It (e:=[(0,_),(1,_)]) Tryz.func73 O Tryz.ntmps73 O O$ qN O$ M5 O O (O2 O (cs:=[I (n:Int),I (width:Int),I (each:Int)]) O) ?_
 rintro _ w0 ⟨b0,rfl,rj,gP,jl⟩
 refine Me O$ qM O$ Ma Qp O$ qV (M1 U3 O O jl O)$ M5 O O (pmk (c:=width) (n:=width) Nc TS O O O (by omega) (by omega) (by omega)) ?_
 rintro _ w1 ⟨b1,rfl,⟨bR,ad,aj⟩,-⟩
 refine M4 O$ run_seq$ qN O$ LW O$ O9 Nc O$ LW O$ LX$ LU ?_
 rw[<-YD x width] at aj
 have l0:=jl.lt
 refine Oh (α:=Nat) (0) (λk=>[(1,Mh x),(2,ptr b0 0),(5,.slice (some ⟨b1,0,none⟩) width width),(11,I (width:Int)),(12,I (k:Int))]) (λk w'=>k<=width/\M7 w' b1 (Ye x width k) 5/\M7 w' b0 [I (n:Int),I (width:Int),I (each:Int)] 143/\Ext w0 w') (λk=>width-k) ?hI ?hround
 case hI=>exact⟨by omega,aj,ad.LY jl,ad⟩
 case hround=>
  rintro k w2 ⟨hk,am,yx,af⟩ ih
  try dsimp only
  refine qN O$ Ni O O$ LX$ run_seq$ M8 O (λaP=>?_)$ λaP=>?_
  ·have DP:k<width:=by omega
   refine py$ run_seq$ LU$ qN O$ LW O$ M4 O$ M0 O$ Md O O$ LW O$ Ma Qp O$ qV (M1 U3 O O yx O)$ Oa O O$ LW O$ Oa O O ?_;refine qV (SB O O (by omega)) ?_;rw[show(8:Int)*(((width:Int)-1)-(k:Int))=((8*(width-1-k):Nat):Int) from by omega];refine qV (Qy (8*(width-1-k)) (2^(8*(width-1-k))) O O (by simp only[IntKind.bits];omega) O) ?_;refine qV (z0L O Nv U5)$ qV (MS Nc TS O O (by omega))$ Mb O (NT TS O O O am (by simp;omega)) ?_;rintro w3 ⟨ar,au⟩;rw[z0X x width k DP] at ar;refine LX$ LV$ M0 O$ MT O O$ LW O$ LX ?_;exact(ih (k+1) w3 ⟨by omega,ar,au.LY yx (by omega),af.LS au (λi hi=>by rw[hi,bR];exact Nat.le_refl _)⟩ (by omega)).qb
  ·have:k=width:=by omega
   subst this;rw[z0p] at am;refine M6 O$ qN O$ LW O$ qV (z2u (l:=Q4 k x) Nc U5 U9 O am (by rw[List.drop_zero];exact List.take_of_length_le (by rw[List.length_map,Mu];omega)) (by simp[Q4])) ?_;refine M4 O$ LZ Tryz.func73 O ?_;exact⟨_,rfl,rfl,gP.trans af⟩
theorem OS (h:Sn Q txt vb width st xs w):Mw Tryz.prog 68 [ptr vb 0] w λv w'=>v=I 0/\w'=w:=by
 have hB:=h.cells
 refine It (e:=[(0,_)]) Tryz.func68 O Tryz.ntmps68 O O$ qN O$ M4 O$ run_seq$ LU$ qN O$ LW O$ qV (N7 U90 O O)$ M4 O$ An O$ qN O$ LW O$ MC O$ Ma z4e O ?_
 refine qV (M1 U4 O O hB O)$ M4 O$ An O$ py$ LV$ qN O$ M4 O$ LZ Tryz.func68 O ?_
 exact⟨_,rfl,rfl,rfl⟩
theorem z1J (h:Sn Q txt vb width st xs w){i:Nat}(hi:i<xs.length)(hn:Q.L.length<=4096):Mw Tryz.prog 70 [ptr vb 0,I (i:Int)] w λv w'=>v= .tuple #[I ((st+i / (512 / width):Nat):Int),I ((i%(512 / width)*width:Nat):Int)]/\Ext w w':=by
 have hB:=h.cells
 have hg:=Ext.Mm w
 obtain⟨e1,e2,e3,e4,e5⟩:=h.e
 obtain⟨a1,a2,a3⟩:=h.at_ hi
 have i5:=h.n
 have hd:((i:Nat):Int) / ((512 / width:Nat):Int)=((i / (512 / width):Nat):Int):=rfl
 have hm:((i:Nat):Int)%((512 / width:Nat):Int)=((i%(512 / width):Nat):Int):=rfl
 have zY:((i%(512 / width):Nat):Int)*(width:Int)=((i%(512 / width)*width:Nat):Int):=by rw[Int.natCast_mul]
 have g8:(st:Int)+((i / (512 / width):Nat):Int)=((st+i / (512 / width):Nat):Int):=by rw[Int.natCast_add]
 generalize i / (512 / width)=q at*
 generalize i%(512 / width)=r at*
 generalize 512 / width=each at*
 refine It (e:=[(0,_),(1,_)]) Tryz.func70 O Tryz.ntmps70 O O$ qN O$ Me O$ M4 O$ run_seq$ NV (λw'=>Ext w w') O$ Mj 0 O O (hg)$ M3 1 O (N4 O) hg$ M3 2 O (My Uu O) hg$ M3 3 O (My NK O) hg$ qT 4 O (λ_ h=>M1 U3 O O (h.LY hB) O) hg$ Mj 5 O O (hg)$ Mj 6 O O (hg)$ M3 7 O (N4 O) hg ?_
 refine M3 8 O (My NM O) hg$ M3 9 O (My Sg O) hg$ qT 10 O (λ_ h=>M1 U3 O O (h.LY hB) O) hg$ Mj 13 O O (hg)$ Mj 14 O O (hg)$ M3 15 O (N4 O) hg$ M3 16 O (My NM O) hg$ M3 17 O (My Sg O) hg$ qT 18 O (λ_ h=>M1 U3 O O (h.LY hB) O) hg$ Mj 20 O O (hg)$ M3 21 O (N4 O) hg$ M3 22 O (My NM O) hg$ M3 23 O (My Qp O) hg$ qT 24 O (λ_ h=>M1 U3 O O (h.LY hB) O) hg ?_
 refine M3 11 O (Te O O (by omega)) hg ?_
 rw[hd]
 refine M3 12 O (R4 O O (by omega)) hg$ M3 26 O (NX O) hg ?_
 rw[g8]
 refine M3 19 O (yre O O (by omega)) hg ?_
 rw[hm]
 refine M3 25 O (SB O O (by rw[zY];omega)) hg ?_
 rw[zY]
 refine M3 27 O (NX O) hg$ qE$ Mz.qb (e:=[(4,_),(5,_)]) ?_
 refine LZ Tryz.func70 O ?_
 exact⟨_,rfl,rfl,hg⟩
end
section
variable {w w':World}{Q:Ol}{txt:Int->Bytes}{K:Nat}{X:Nat->Prop}{vb width st each n:Nat}{xs:List Nat}
theorem Sn.z9g (h:Sn Q txt vb width st xs w){i x:Nat}(hi:xs[i]? =some x):x<2^(8*width)/\x<18446744073709551616:=by
 have h1:=(h.t i x hi).2
 have:=Nat.pow_le_pow_right (show 0<2 by decide) (show 8*width<=64 by have:=h.e;omega)
 exact⟨h1,by omega⟩
theorem Vz (hP:Sp Q txt K X w)(hX:∀b,X b->b<w.heap.size)(hK:K<1000000000000)(hv:Sn Q txt vb width st xs w)(dh:X vb){i x:Nat}(hi:xs[i]? =some x):
  Mw Tryz.prog 40 [ptr vb 0,I (i:Int)] w λv w'=>v= .tuple #[Mh x,I 0]/\Sp Q txt K X w'/\Kp (λb=>¬X b) w w':=by
 have dT:=hP.n
 have aU:i<xs.length:=by
  rcases Nat.lt_or_ge i xs.length with h| h
  ·exact h
  ·rw[List.getElem?_eq_none h] at hi;cases hi
 have A8:=z1J hv aU dT
 obtain⟨a1,a2,a3⟩:=hv.at_ aU
 have Aa:=(hv.t i x hi).1
 have mb:=(hv.z9g hi).1
 have dj:=hP.VM (x:=((st+i / (512 / width):Nat):Int)) (Int.natCast_nonneg _) (Int.ofNat_lt.2 a1)
 have i5:=hv.n
 have Lz:=hv.e.2.2.2.2
 have nQ:∀w1,Ext w w1->Mw Tryz.prog 71 [ptr Q.s 0,I ((st+i / (512 / width):Nat):Int)] w1 λv w'=>v= .tuple #[S (txt ((st+i / (512 / width):Nat):Int)),I 0]/\Sp Q txt K X w'/\Kp (λb=>¬X b) w1 w':=λw1 ad=>(hP.ext' ad).read (λb hb=>by have:=hX b hb;have:=ad.size;omega) hK (Int.natCast_nonneg _) (Int.ofNat_lt.2 a1)
 generalize i / (512 / width)=q at*
 generalize i%(512 / width)=r at*
 generalize ho:r*width=o at*
 obtain⟨t,ht⟩:∃t,txt ((st+q:Nat):Int)=t:=⟨_,rfl⟩
 rw[ht] at Aa dj nQ
 have hB:=hv.cells
 refine It (e:=[(0,_),(1,_)]) Tryz.func40 O Tryz.ntmps40 O O$ qN O$ Me O$ M4 O$ run_seq$ qN O$ LW O$ Mn z2m O (OS hv) ?_
 rintro _ w ⟨rfl,rfl⟩
 refine Me O$ qM O$ LW O$ N9 O O$ LX$ An O$ py$ run_seq$ qN O$ LW O$ Ni O O$ ML$ Md O O$ LW O ?_
 refine MC O$ Ma NM O$ Ma Tw O$ qV (M1 U3 O O hB O)$ PD O O$ ML$ MN O O$ LX$ An O$ py$ qN O$ Md O O$ Mn zcL O (A8) ?_
 rintro _ w1 ⟨rfl,ad⟩
 have aj:=ad.LY hB
 refine LW O$ N5 O O$ N5 O O$ Me O$ M4 O$ Mz.qb (e:=[(0,_),(4,_),(5,_),(7,_),(8,_)]) ?_
 refine qN O$ LW O$ MC O$ Ma Sc O$ qV (M1 To O O aj O)$ LW O$ Mn z6U O (nQ w1 ad) ?_
 rintro _ w2 ⟨rfl,eh,ao⟩
 have am:=ao.LY aj (λe=>e dh)
 refine LW O$ N5 O O$ N5 O O$ Me O$ M4 O$ run_seq$ qN O$ LW O$ N9 O O$ LX$ An O$ py$ qN O$ M4 O ?_
 refine run_seq$ qN O$ Md O O$ Md O O$ MC O$ Ma NM O$ Ma Qp O$ qV (M1 U3 O O am O)$ MT O O ?_
 rw[show(o:Int)+(width:Int)=((o+width:Nat):Int) by omega]
 refine qV (zbm (m:=o) (n:=o+width) U9 O O O (by omega)) ?_
 rw[show o+width-o=width by omega,Aa]
 have fj:=Mu width x
 obtain⟨s,hs⟩:∃s,Q4 width x=s:=⟨_,rfl⟩
 have mW:valB (Ml s)=x:=by rw[<-hs];exact Tv mb
 rw[hs] at fj⊢
 refine M5 O O (z5y U9 Nc U5 O) ?_
 rintro _ w3 ⟨b7,c7,rest,rfl,⟨kF,ai,ar⟩,zK⟩
 refine O9 Nc O$ LW O$ LX$ Mz.qb (e:=[(4,_),(5,_),(11,_),(58,_),(59,_),(60,_)]) ?_
 refine LU$ Oh (α:=Nat) (0) (λi=>[(11,Mh (valB (Ml (s.take i)))),(58,.slice (some ⟨b7,0,none⟩) s.length c7),(59,I (s.length:Int)),(60,I (i:Int))]) (λi w'=>w'=w3/\i<=s.length) (λi=>s.length-i) ?hI ?hround
 case hI=>exact⟨rfl,Nat.zero_le _⟩
 case hround=>
  rintro i w4 ⟨rfl,hi⟩ ih
  try dsimp only
  refine qN O$ Ni O O$ LX$ run_seq$ M8 O (λh0=>?_)$ λh0=>?_
  ·obtain⟨c,hc⟩:∃c,s[i]? =some c:=⟨_,List.getElem?_eq_getElem (by omega)⟩;have dN:=c.toNat_lt;have g8:=Vf hc
   have aP:valB (Ml (s.take i))<72057594037927936:=by
    have h1:=NA (Ml (s.take i));rw[bitsT_length,List.length_take] at h1;have h2:2^(8*min i s.length)<=2^56:=Nat.pow_le_pow_right (by decide) (by omega);omega
   have aV:w4.cell? ⟨b7,0+i*1,none⟩=some (PF c):=by
    rw[ar.cell,Nat.zero_add,Nat.mul_one,List.getElem?_append_left (by rw[List.length_map];omega),List.getElem?_map,hc];rfl
   refine py$ run_seq$ LU$ qN O$ qV (MS Nc TS O O (by omega))$ qV (MA U5 O O aV) ?_
   generalize valB (Ml (s.take i))=q at g8 aP
   refine M4 O$ M0 O$ LW O$ qV (NW 8 256 O O (by decide) O)$ LW O$ qV ((by first|exact z2n O U5 Nv (by decide)|exact MQ O U5 Nv (by omega))) ?_;refine qV (W3 O O (by omega) (by omega)) ?_
   have mm:(q*256%18446744073709551616 |||c.toNat)=valB (Ml (s.take (i+1))):=by
    rw[g8,Nat.mod_eq_of_lt (by omega),Nat.mul_comm q];exact(Nat.two_pow_add_eq_or_of_lt (i:=8) dN q).symm
   rw[mm];refine M4 O$ LV$ M0 O$ MT O O$ LW O$ LX ?_;exact(ih (i+1) _ ⟨rfl,by omega⟩ (by omega)).qb
  ·have cy:i=s.length:=by omega
   subst cy;rw[List.take_length,mW];refine M6 O$ qN O$ LW O$ Me O$ M4 O$ LZ Tryz.func40 O ?_;exact⟨_,rfl,rfl,eh.ext' ai,(ad.kp.trans ao).trans ai.kp⟩
theorem Vu (hP:Sp Q txt K X w)(hX:∀b,X b->b<w.heap.size)(hK:K<1000000000000)(hv:Sn Q txt vb width st xs w)(dh:X vb){i x:Nat}(hi:i<xs.length)(hx:x<2^(8*width)):
  Mw Tryz.prog 36 [ptr vb 0,I (i:Int),Mh x] w λv w'=>v=I 0/\VcW Q txt (K+1) X vb width st (xs.set i x) w w':=by
 have dT:=hP.n
 have A8:∀w1,Ext w w1->Mw Tryz.prog 70 [ptr vb 0,I (i:Int)] w1 λv w'=>v= .tuple #[I ((st+i / (512 / width):Nat):Int),I ((i%(512 / width)*width:Nat):Int)]/\Ext w1 w':=λw1 ad=>z1J (hv.ext ad) hi dT
 obtain⟨a1,a2,a3⟩:=hv.at_ hi
 obtain⟨e1,e2,e3,e4,e5⟩:=hv.e
 have mb:x<18446744073709551616:=by
  have:=Nat.pow_le_pow_right (show 0<2 by decide) (show 8*width<=64 by omega);omega
 have dj:=hP.VM (x:=((st+i / (512 / width):Nat):Int)) (Int.natCast_nonneg _) (Int.ofNat_lt.2 a1)
 have i5:=hv.n
 obtain⟨t,ht⟩:∃t,txt ((st+i / (512 / width):Nat):Int)=t:=⟨_,rfl⟩
 have gE:=hv.t.set (by omega) hx hi ht (by rw[ht] at dj;omega)
 have nQ:∀w1,Ext w w1->Mw Tryz.prog 71 [ptr Q.s 0,I ((st+i / (512 / width):Nat):Int)] w1 λv w'=>v= .tuple #[S (txt ((st+i / (512 / width):Nat):Int)),I 0]/\Sp Q txt K X w'/\Kp (λb=>¬X b) w1 w':=λw1 ad=>(hP.ext' ad).read (λb hb=>by have:=hX b hb;have:=ad.size;omega) hK (Int.natCast_nonneg _) (Int.ofNat_lt.2 a1)
 have gz:(xs.set i x).length=xs.length:=by simp
 have hB:=hv.cells
 have oG:=hv.wd
 have bP:=hv.fit
 rw[ht] at dj nQ
 have tK:∀w',M7 w' vb [I (xs.length:Int),I (width:Int),I ((512 / width:Nat):Int),I (st:Int),I (R8 xs.length (512 / width):Int),ptr Q.s 0,.bool false] 145->Sn Q (Vp txt ((st+i / (512 / width):Nat):Int) (some (t.take (i%(512 / width)*width)++Q4 width x++t.drop (i%(512 / width)*width+width)))) vb width st (xs.set i x) w':=λw' hb=>⟨by rw[gz];exact hb,oG,gE,by rw[gz];exact i5,by rw[gz];exact bP⟩
 clear gE
 have mx:st+i / (512 / width)<Q.L.length:=a1
 generalize i / (512 / width)=q at*
 generalize i%(512 / width)=r at*
 generalize ho:r*width=o at*
 have fj:=Mu width x
 have oH:(t.take o++Q4 width x++t.drop (o+width)).length=512:=by rw[List.length_append,List.length_append,List.length_take,List.length_drop,fj];omega
 refine It (e:=[(0,_),(1,_),(2,_)]) Tryz.func36 O Tryz.ntmps36 O O$ qN O$ M4 O$ run_seq$ qN O$ LW O$ Mn z2m O (OS hv) ?_
 rintro _ w ⟨rfl,rfl⟩
 refine Me O$ qM O$ LW O$ N9 O O$ LX$ An O$ py$ run_seq$ qN O$ LW O$ Ni O O$ ML$ Md O O$ LW O ?_
 refine MC O$ Ma NM O$ Ma Tw O$ qV (M1 U3 O O hB O)$ PD O O$ ML$ MN O O$ Md O O$ MC O$ Ma NM O$ qV (Mv z4X O UQ O (M7.cells (n:=3) hB (news:=[_,_,_]) O) O)$ LW O$ Mn zeT O (Xa xs.length width (512 / width) x oG hx w) ?_
 rintro _ w1 ⟨rfl,ad⟩
 have aj:=ad.LY hB
 refine qV ((by first|exact MX O|exact Oy O)) ?_
 refine MN O O$ LX$ Mz.qb (e:=[(0,_),(1,_),(2,_),(6,_),(36,_)]) ?_
 refine An O$ py$ qN O$ Md O O$ Mn zcL O (A8 w1 ad) ?_
 rintro _ w2 ⟨rfl,af⟩
 have am:=af.LY aj
 refine LW O$ N5 O O$ N5 O O$ Me O$ Me O$ qM O$ LW O$ MC O$ Ma Sc O$ qV (M1 To O O am O)$ LW O$ Mn z6U O (nQ w2 (ad.trans af)) ?_
 rintro _ w3 ⟨rfl,fx,au⟩
 have ar:=au.LY am (λe=>e dh)
 have ae:=Ext.Mm w3
 have cC:Kp (λb=>¬X b) w w3:=(ad.trans af).kp.trans au
 have aP:(t.take o).length=o:=by rw[List.length_take];omega
 have yz:(t.drop (o+width)).length=512-(o+width):=by rw[List.length_drop];omega
 refine LW O$ N5 O O$ N5 O O$ Me O$ M4 O$ run_seq$ qN O$ LW O$ N9 O O$ LX$ Mz.qb (e:=[(0,_),(2,_),(6,_),(8,_),(9,_),(10,_),(11,_),(53,_)]) ?_
 refine An O$ py$ run_seq$ NV (λw'=>Kp (λb=>¬X b) w3 w') O$ Mj 0 O O (ae.kp)$ M3 1 O (N4 O) (ae.kp)$ M3 2 O (My Sc O) (ae.kp)$ qT 3 O (λ_ h=>M1 To O O (h.LY ar (λe=>e dh)) O) (ae.kp)$ Mj 4 O O (ae.kp)$ Mj 5 O O (ae.kp)$ Mj 6 O O (ae.kp)$ M3 7 O (XN U9 O O (by omega)) (ae.kp)$ Mj 8 O O (ae.kp)$ M3 9 O (N4 O) (ae.kp) ?_
 refine M3 10 O (My NM O) (ae.kp)$ qT 11 O (λ_ hS=>Mv z4X O UQ O (M7.cells (n:=3) (hS.LY ar (λe=>e dh)) (news:=[_,_,_]) O) O) (ae.kp)$ Mj 12 O O (ae.kp)$ Mj 15 O O (ae.kp)$ Mj 16 O O (ae.kp)$ Mj 17 O O (ae.kp)$ M3 18 O (N4 O) (ae.kp)$ M3 19 O (My NM O) (ae.kp)$ M3 20 O (My Qp O) (ae.kp)$ qT 21 O (λ_ h=>M1 U3 O O (h.LY ar (λe=>e dh)) O) (ae.kp)$ M3 22 O (R4 O O (by omega)) (ae.kp) ?_
 rw[show(o:Int)+(width:Int)=((o+width:Nat):Int) by omega]
 refine M3 23 O (Ww U9 O O (by omega)) (ae.kp)$ Pm 13 O zbs O (Ub _ _ _ x e5 mb _) ?_
 rintro _ w4 ⟨rfl,ay⟩
 refine⟨ae.kp.trans ay.kp,?_⟩
 have cx:=ae.trans ay
 refine M3 14 O (Sz O O (by first|omega|(simp;done)|(simp;omega))) (ae.kp.trans ay.kp) ?_
 refine M3 24 O (Sz O O (by rw[List.length_append,aP,fj,yz];omega)) (ae.kp.trans ay.kp) ?_
 refine Pm 25 O zbt O ((fx.ext' cx).write (λb hb=>by have:=hX b hb;have:=cC.size;have:=cx.size;omega) hK (no:=((st+q:Nat):Int)) (by omega) (by omega) _ oH) ?_
 rintro _ w5 ⟨rfl,gA,ak⟩
 refine⟨cx.kp.trans ak,?_⟩
 have jf:Kp (λb=>¬X b) w3 w5:=cx.kp.trans ak
 refine M3 26 O (NX O) (cx.kp.trans ak)$ qE$ Mz.qb (e:=[(6,_)]) ?_
 refine LZ Tryz.func36 O ?_
 exact⟨_,rfl,rfl,_,gA,tK w5 (jf.LY ar (λe=>e dh)),λy hy=>Od _ _ (by rw[gz] at hy;omega),cC.trans jf⟩
end
end Go.Proofs.YtfgjaafcgghnoaaGreatDoor
