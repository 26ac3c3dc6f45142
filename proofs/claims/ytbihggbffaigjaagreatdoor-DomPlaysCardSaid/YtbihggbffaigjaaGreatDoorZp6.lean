/- Merged by program. -/
import Derived.Test.YtbihggbffaigjaaGreatDoorZp5
import Derived.Shelf.Strings.Repeat
import Derived.Test.YtbihggbffaigjaaGreatDoorProg
import Derived.Room.AppendFits
set_option linter.all false
set_option maxRecDepth 1000000
set_option maxHeartbeats 16000000
namespace Go.Proofs.YtbihggbffaigjaaGreatDoor
open Go Go.RowKit Go.Proofs.Tryz
variable {A A' A2:Arc}{D':Dev}{K a b each i p s st width:Nat}{L':List Bool}{S' X:Nat->Prop}{T k:Int}{V V' V2:Nat->Value×Value}{t:Sa}{txt txt':Int->Sa}{w w' w0 w2:World}{x0:Value}{xs:List Nat}
def Ve (hit:Bool)(g:Option Int):List Value:=[.bool hit,.bool g.isSome,I (g.getD 0)]
abbrev zgT (hit:Bool)(g:Option Int):Value:= .agg (Ve hit g).toArray
section
variable {c:Nat}
def Arc.Ok.lens (h:A.Ok)(d:A.size<=1000)(j:Nat):(A.li j).length<=2000:=by
 have e:=h.held
 have f:=h.first
 have g:=h.total
 have l:=A.Ur
 unfold Arc.li
 split<;>omega
theorem Xq (h:Wo w c A V p)(t:A.Ok)(cR:A.size<=1000)(W:Bool):SG prog 191 [ptr c 0,.bool W] w λv w'=>v=zgT false (A.room W).2/\∃V',z09 w c V p w' (A.room W).1 V':=by
 have K:=t.lens cR 2
 have oE:=t.lens cR 3
 have sX:=t.tg
 have ja:=t.pos
 have g8:=t.nd
 unfold Arc.all at g8
 rw[y0N] at g8
 obtain⟨a3,a1,Q⟩:=g8
 rw[y0N] at a1
 obtain⟨a4,a2,s⟩:=a1
 rw[y0N] at a2
 obtain⟨a5,a6,a7⟩:=a2
 have aN:∀{b:Nat},Wj c V p b->b<w.heap.size:=h.lt
 refine py (e:=[(0,_),(1,_)]) func191 O ntmps191 O O<|qN O<|Sd O O (UK (cs:=[_,_,_]) SZ O) ?_
 rintro _ w1⟨B,rfl,fO,aa,aG⟩
 have iZ:=h.ext aa
 have D:∀b,Wj c V p b->b≠B:=λb d e=>by have:=aN d;omega
 refine S5<|SX O<|Sr ziC O (z6k iZ t cR) ?_
 rintro _ w2⟨rfl,ae⟩
 have C:=ae.S4 aG
 have z:=aa.trans ae
 have y:=h.ext z
 by_cases P:¬A.once.length+A.often.length=A.size
 ·rw[decide_eq_false P];have N:A.room W=(A,none):=by unfold Arc.room;rw[if_neg P]
  refine qV (Vn O) (S5 (Sb O (qN O (qV (SO (news:=Ve false none) VG O SZ O (Sk.cells (n:=3) C O) O) (Sm O (Ta (news:=Ve false none) SZ O O O O C ξ) ?_)))));rintro Y⟨eC,ar⟩;replace eC:Sk Y B [.bool false,.bool false,I 0] 261:=eC;refine S5<|SF func191 (.cell VG O SZ O (Sk.cells (n:=3) eC (news:=[_,_,_]) O) O .nil) ?_;rw[N];exact⟨_,O,O,V,y.kp ar (λb d=>D b d),λb d=> .inl d,(z.An ar (λj e=>ω)).kp⟩
 ·have P := Classical.not_not.1 P; rw [decide_eq_true P]; refine qV (Vn O) (S5 (S9 O ?_)); have U := y.cells; obtain ⟨a0, c0, e0, -⟩ : ∃ a c, (V 0).1 = .slice a A.once.length c /\ _ := (h.q 0 ψ).sl.rd.shape; rw [e0] at U; have f0 := Zy y (j := 0) ψ; have f1 := Zy y (j := 1) ψ; rw [show A.li 0 = A.once from rfl] at f0; rw [show A.li 1 = A.often from rfl] at f1
  cases l:A.once with
  | nil =>
    cases J:A.often with
    | nil =>
      exfalso;rw[l,J] at P;simp at P
      omega
    | cons x1 R =>
      have N:A.room W=({A with often:=R,Ss:=A.Ss++[x1]},some x1):=by unfold Arc.room;rw[if_pos P,l,J]
      have OQ:A.once.length=0:=by rw[l];rfl
      have T:z1n A.once= .tuple #[I 0,.bool false]:=by rw[l];rfl
      have X:z1n A.often= .tuple #[I x1,.bool true]:=by rw[J];rfl
      rw[T] at f0;rw[X] at f1;refine S6<|TV O<|SC O<|Sn Uf O<|Sr z2g O f0 ?_;rintro _ w2⟨rfl,rfl⟩;refine Sf O<|qV (UY (v:=I 0) O O)<|qV (UY (v:= .bool false) O O)<|Vj O<|Up O<|Sz O<|SC O<|Sn UT O<|Sr z2g O f1 ?_;rintro _ w2⟨rfl,rfl⟩;refine Sf O<|qV (UY (v:=I x1) O O)<|qV (UY (v:= .bool true) O O)<|To O<|SI.qb (e:=[(0,_),(1,_),(4,_),(5,_),(6,_),(7,_),(8,_)]) ?_;refine SE O<|SC O<|Sn Uf O<|Sn TH O<|qV (Sc Tx O O U O)<|UR Tx O<|TR O<|WZ O<|T0<|Sf O<|Ua<|Ua<|Ua<|Ua ?_;refine Ua<|Ua<|Ua<|Ua<|qS<|Td O<|Sq O<|SI.qb (e:=[(0,_),(4,_),(5,_),(6,_),(7,_),(8,_),(10,_)]) ?_;refine It<|TV O<|qS<|Td O<|Sz O<|qV (Vn O)<|Sz O<|qV (Vn O)<|Uj O<|Td O<|Tt O<|SE O<|SC O<|Sn UT O ?_;refine Sf O (Sr Wt O (TN y (j:=1) (k:=x1) ψ) ?_);rintro _ Y⟨rfl,Z,g⟩;have L:(A.li 1).erase x1=R:=by show A.often.erase x1=R;rw[J];simp
      rw[L] at g
      have H:x1∉(A.Tl 1 R).li 3:=by
       show x1∉A.Ss;intro e;exact s x1 (by rw[J];simp) x1 (by simp[e]) O
      refine qM O (Sf O (SC O (Sn UN O (Sf O (Sr Xf O (Uq g.m (j:=3) (k:=x1) ψ H (by show A.Ss.length<=_;exact y0d oE ψ)) ?_)))));rintro _ i⟨rfl,o,E⟩;have hr:=(y.r (Ext.refl w2)).trans (g.trans E);have F:=hr.k.S4 C (λe=>D _ e O);refine S5<|SI.qb (e:=[(4,_),(7,_)]) ?_;refine SE O (qV (VI (cs:=[_,_,_]) SZ O z04 O O) (Sm O (Ta (news:=Ve false (some x1)) SZ O O O O F ξ) ?_));rintro M⟨f,u⟩;replace f:Sk M B [.bool false,.bool true,I x1] 261:=f;refine S5<|SF func191 (.cell VG O SZ O (Sk.cells (n:=3) f (news:=[_,_,_]) O) O .nil) ?_
      have G:∀b,Wj c o p b->b≠B:=λb d e=>by
       rcases hr.fp b d with x|x
       ·exact D b x e
       ·have:=C.lt;omega
      rw[N]
      exact⟨_,O,O,o,hr.m.kp u G,λb d=>(hr.fp b d).imp id (λe=>by have:=z.size;omega),(z.kp.trans hr.k).An u (λj e=> .inl ω)⟩
  | cons x0 r0 =>
    have OQ:1<=A.once.length:=by rw[l];simp
    cases J:A.often with
    | nil =>
      have N:A.room W=({A with once:=r0,Sw:=A.Sw++[x0]},some x0):=by unfold Arc.room;rw[if_pos P,l,J]
      have T:z1n A.once= .tuple #[I x0,.bool true]:=by rw[l];rfl
      have X:z1n A.often= .tuple #[I 0,.bool false]:=by rw[J];rfl
      rw[T] at f0;rw[X] at f1;refine S6<|TV O<|SC O<|Sn Uf O<|Sr z2g O f0 ?_;rintro _ w2⟨rfl,rfl⟩;refine Sf O<|qV (UY (v:=I x0) O O)<|qV (UY (v:= .bool true) O O)<|Vj O<|Up O<|Sz O<|SC O<|Sn UT O<|Sr z2g O f1 ?_;rintro _ w2⟨rfl,rfl⟩;refine Sf O<|qV (UY (v:=I 0) O O)<|qV (UY (v:= .bool false) O O)<|To O<|SI.qb (e:=[(0,_),(1,_),(4,_),(5,_),(6,_),(7,_),(8,_)]) ?_;refine SE O<|SC O<|Sn Uf O<|Sn TH O<|qV (Sc Tx O O U O)<|UR Tx O<|TR O<|WZ O<|Ue<|Sf O ?_
      by_cases h1:(A.once.length:Int)>A.target
      ·skip
       refine Sz O<|SC O<|Sn UP O<|qV (Sc U3 O O U O)<|Ub O<|Ue<|Sf O<|Ua<|Ua<|Ua<|Ua<|qS<|Uj O<|Uj O ?_;refine Sq O<|SI.qb (e:=[(0,_),(4,_),(5,_),(6,_),(7,_),(8,_),(10,_)]) ?_;refine It<|TV O<|Sf O<|Uj O<|Sf O<|Ua<|Ua<|Ua<|Uj O<|S5<|Sb O<|SE O<|SC O<|Sn Uf O ?_;refine Sf O (Sr Wt O (TN y (j:=0) (k:=x0) ψ) ?_);rintro _ Y⟨rfl,Z,g⟩;have L:(A.li 0).erase x0=r0:=by show A.once.erase x0=r0;rw[l];simp
       rw[L] at g
       have H:x0∉(A.Tl 0 r0).li 2:=by
        show x0∉A.Sw;intro e;exact Q x0 (by rw[l];simp) x0 (by simp[e]) O
       refine qM O (Sf O (SC O (Sn Uv O (Sf O (Sr Xf O (Uq g.m (j:=2) (k:=x0) ψ H (by show A.Sw.length<=_;exact y0d K ψ)) ?_)))));rintro _ i⟨rfl,o,E⟩;have hr:=(y.r (Ext.refl w2)).trans (g.trans E);have F:=hr.k.S4 C (λe=>D _ e O);refine S5<|SI.qb (e:=[(0,_),(4,_),(5,_),(7,_)]) ?_;refine SE O (qV (VI (cs:=[_,_,_]) SZ O z04 O O) (Sm O (Ta (news:=Ve false (some x0)) SZ O O O O F ξ) ?_));rintro M⟨f,u⟩;replace f:Sk M B [.bool false,.bool true,I x0] 261:=f;refine S5<|SF func191 (.cell VG O SZ O (Sk.cells (n:=3) f (news:=[_,_,_]) O) O .nil) ?_
       have G:∀b,Wj c o p b->b≠B:=λb d e=>by
        rcases hr.fp b d with x|x
        ·exact D b x e
        ·have:=C.lt;omega
       rw[N];exact⟨_,O,O,o,hr.m.kp u G,λb d=>(hr.fp b d).imp id (λe=>by have:=z.size;omega),(z.kp.trans hr.k).An u (λj e=> .inl ω)⟩
      ·refine Sz O<|SC O<|Sn UP O<|qV (Sc U3 O O U O)<|Ub O<|T0<|Sf O ?_;by_cases h2:(A.once.length:Int)=A.target
       ·refine Sz O<|SC O<|Sn UP O<|qV (Sc U3 O O U O)<|U7 O<|Ue<|Sf O ?_
        cases W with
        | true =>
          refine Sf O ?_
          skip
          refine Uj O<|Td O<|Uj O<|Sq O<|SI.qb (e:=[(0,_),(4,_),(5,_),(6,_),(7,_),(8,_),(10,_)]) ?_;refine It<|TV O<|Sf O<|Uj O<|Sf O<|Ua<|Ua<|Ua<|Uj O<|S5<|Sb O<|SE O<|SC O<|Sn Uf O ?_;refine Sf O (Sr Wt O (TN y (j:=0) (k:=x0) ψ) ?_);rintro _ Y⟨rfl,Z,g⟩;have L:(A.li 0).erase x0=r0:=by show A.once.erase x0=r0;rw[l];simp
          rw[L] at g
          have H:x0∉(A.Tl 0 r0).li 2:=by
           show x0∉A.Sw;intro e;exact Q x0 (by rw[l];simp) x0 (by simp[e]) O
          refine qM O (Sf O (SC O (Sn Uv O (Sf O (Sr Xf O (Uq g.m (j:=2) (k:=x0) ψ H (by show A.Sw.length<=_;exact y0d K ψ)) ?_)))));rintro _ i⟨rfl,o,E⟩;have hr:=(y.r (Ext.refl w2)).trans (g.trans E);have F:=hr.k.S4 C (λe=>D _ e O);refine S5<|SI.qb (e:=[(0,_),(4,_),(5,_),(7,_)]) ?_;refine SE O (qV (VI (cs:=[_,_,_]) SZ O z04 O O) (Sm O (Ta (news:=Ve false (some x0)) SZ O O O O F ξ) ?_));rintro M⟨f,u⟩;replace f:Sk M B [.bool false,.bool true,I x0] 261:=f;refine S5<|SF func191 (.cell VG O SZ O (Sk.cells (n:=3) f (news:=[_,_,_]) O) O .nil) ?_
          have G:∀b,Wj c o p b->b≠B:=λb d e=>by
           rcases hr.fp b d with x|x
           ·exact D b x e
           ·have:=C.lt;omega
          rw[N]
          exact⟨_,O,O,o,hr.m.kp u G,λb d=>(hr.fp b d).imp id (λe=>by have:=z.size;omega),(z.kp.trans hr.k).An u (λj e=> .inl ω)⟩
        | false =>
          refine Sf O ?_
          skip
          refine Uj O<|Td O<|Uj O<|Sq O<|SI.qb (e:=[(0,_),(4,_),(5,_),(6,_),(7,_),(8,_),(10,_)]) ?_;refine It<|TV O<|qS<|Td O<|Sz O<|qV (Vn O)<|Sz O<|qV (Vn O)<|Uj O<|Td O<|S5<|Sb O<|SE O<|SC O ?_;refine Sn Uf O (Sf O (Sr Wt O (TN y (j:=0) (k:=x0) ψ) ?_));rintro _ Y⟨rfl,Z,g⟩;have L:(A.li 0).erase x0=r0:=by show A.once.erase x0=r0;rw[l];simp
          rw[L] at g
          have H:x0∉(A.Tl 0 r0).li 2:=by
           show x0∉A.Sw;intro e;exact Q x0 (by rw[l];simp) x0 (by simp[e]) O
          refine qM O (Sf O (SC O (Sn Uv O (Sf O (Sr Xf O (Uq g.m (j:=2) (k:=x0) ψ H (by show A.Sw.length<=_;exact y0d K ψ)) ?_)))));rintro _ i⟨rfl,o,E⟩;have hr:=(y.r (Ext.refl w2)).trans (g.trans E);have F:=hr.k.S4 C (λe=>D _ e O);refine S5<|SI.qb (e:=[(0,_),(4,_),(5,_),(7,_)]) ?_;refine SE O (qV (VI (cs:=[_,_,_]) SZ O z04 O O) (Sm O (Ta (news:=Ve false (some x0)) SZ O O O O F ξ) ?_));rintro M⟨f,u⟩;replace f:Sk M B [.bool false,.bool true,I x0] 261:=f;refine S5<|SF func191 (.cell VG O SZ O (Sk.cells (n:=3) f (news:=[_,_,_]) O) O .nil) ?_
          have G:∀b,Wj c o p b->b≠B:=λb d e=>by
           rcases hr.fp b d with x|x
           ·exact D b x e
           ·have:=C.lt;omega
          rw[N];exact⟨_,O,O,o,hr.m.kp u G,λb d=>(hr.fp b d).imp id (λe=>by have:=z.size;omega),(z.kp.trans hr.k).An u (λj e=> .inl ω)⟩
       ·refine Sz O<|SC O<|Sn UP O<|qV (Sc U3 O O U O)<|U7 O<|T0<|Sf O ?_
        skip
        refine qS<|Td O<|Td O<|Uj O<|Sq O<|SI.qb (e:=[(0,_),(4,_),(5,_),(6,_),(7,_),(8,_),(10,_)]) ?_;refine It<|TV O<|qS<|Td O<|Sz O<|qV (Vn O)<|Sz O<|qV (Vn O)<|Uj O<|Td O<|S5<|Sb O<|SE O<|SC O ?_;refine Sn Uf O (Sf O (Sr Wt O (TN y (j:=0) (k:=x0) ψ) ?_));rintro _ Y⟨rfl,Z,g⟩;have L:(A.li 0).erase x0=r0:=by show A.once.erase x0=r0;rw[l];simp
        rw[L] at g
        have H:x0∉(A.Tl 0 r0).li 2:=by
         show x0∉A.Sw;intro e;exact Q x0 (by rw[l];simp) x0 (by simp[e]) O
        refine qM O (Sf O (SC O (Sn Uv O (Sf O (Sr Xf O (Uq g.m (j:=2) (k:=x0) ψ H (by show A.Sw.length<=_;exact y0d K ψ)) ?_)))));rintro _ i⟨rfl,o,E⟩;have hr:=(y.r (Ext.refl w2)).trans (g.trans E);have F:=hr.k.S4 C (λe=>D _ e O);refine S5<|SI.qb (e:=[(0,_),(4,_),(5,_),(7,_)]) ?_;refine SE O (qV (VI (cs:=[_,_,_]) SZ O z04 O O) (Sm O (Ta (news:=Ve false (some x0)) SZ O O O O F ξ) ?_));rintro M⟨f,u⟩;replace f:Sk M B [.bool false,.bool true,I x0] 261:=f;refine S5<|SF func191 (.cell VG O SZ O (Sk.cells (n:=3) f (news:=[_,_,_]) O) O .nil) ?_
        have G:∀b,Wj c o p b->b≠B:=λb d e=>by
         rcases hr.fp b d with x|x
         ·exact D b x e
         ·have:=C.lt;omega
        rw[N]
        exact⟨_,O,O,o,hr.m.kp u G,λb d=>(hr.fp b d).imp id (λe=>by have:=z.size;omega),(z.kp.trans hr.k).An u (λj e=> .inl ω)⟩
    | cons x1 R =>
      have T:z1n A.once= .tuple #[I x0,.bool true]:=by rw[l];rfl
      have X:z1n A.often= .tuple #[I x1,.bool true]:=by rw[J];rfl
      rw[T] at f0;rw[X] at f1;refine S6<|TV O<|SC O<|Sn Uf O<|Sr z2g O f0 ?_;rintro _ w2⟨rfl,rfl⟩;refine Sf O<|qV (UY (v:=I x0) O O)<|qV (UY (v:= .bool true) O O)<|Vj O<|Up O<|Sz O<|SC O<|Sn UT O<|Sr z2g O f1 ?_;rintro _ w2⟨rfl,rfl⟩;refine Sf O<|qV (UY (v:=I x1) O O)<|qV (UY (v:= .bool true) O O)<|To O<|SI.qb (e:=[(0,_),(1,_),(4,_),(5,_),(6,_),(7,_),(8,_)]) ?_;refine SE O<|SC O<|Sn Uf O<|Sn TH O<|qV (Sc Tx O O U O)<|UR Tx O<|TR O<|WZ O<|Ue<|Sf O ?_
      by_cases h1:(A.once.length:Int)>A.target
      ·have N:A.room W=({A with once:=r0,Sw:=A.Sw++[x0]},some x0):=by unfold Arc.room;rw[if_pos P,l,J];exact if_pos (by rw[<-l];exact .inl h1)
       refine Sz O<|SC O<|Sn UP O<|qV (Sc U3 O O U O)<|Ub O<|Ue<|Sf O<|Ua<|Ua<|Ua<|Ua<|qS<|Uj O<|Uj O ?_;refine Sq O<|SI.qb (e:=[(0,_),(4,_),(5,_),(6,_),(7,_),(8,_),(10,_)]) ?_;refine It<|TV O<|Sf O<|Uj O<|Sf O<|Ua<|Ua<|Ua<|Uj O<|S5<|Sb O<|SE O<|SC O<|Sn Uf O ?_;refine Sf O (Sr Wt O (TN y (j:=0) (k:=x0) ψ) ?_);rintro _ Y⟨rfl,Z,g⟩;have L:(A.li 0).erase x0=r0:=by show A.once.erase x0=r0;rw[l];simp
       rw[L] at g
       have H:x0∉(A.Tl 0 r0).li 2:=by
        show x0∉A.Sw;intro e;exact Q x0 (by rw[l];simp) x0 (by simp[e]) O
       refine qM O (Sf O (SC O (Sn Uv O (Sf O (Sr Xf O (Uq g.m (j:=2) (k:=x0) ψ H (by show A.Sw.length<=_;exact y0d K ψ)) ?_)))));rintro _ i⟨rfl,o,E⟩;have hr:=(y.r (Ext.refl w2)).trans (g.trans E);have F:=hr.k.S4 C (λe=>D _ e O);refine S5<|SI.qb (e:=[(0,_),(4,_),(5,_),(7,_)]) ?_;refine SE O (qV (VI (cs:=[_,_,_]) SZ O z04 O O) (Sm O (Ta (news:=Ve false (some x0)) SZ O O O O F ξ) ?_));rintro M⟨f,u⟩;replace f:Sk M B [.bool false,.bool true,I x0] 261:=f;refine S5<|SF func191 (.cell VG O SZ O (Sk.cells (n:=3) f (news:=[_,_,_]) O) O .nil) ?_
       have G:∀b,Wj c o p b->b≠B:=λb d e=>by
        rcases hr.fp b d with x|x
        ·exact D b x e
        ·have:=C.lt;omega
       rw[N];exact⟨_,O,O,o,hr.m.kp u G,λb d=>(hr.fp b d).imp id (λe=>by have:=z.size;omega),(z.kp.trans hr.k).An u (λj e=> .inl ω)⟩
      ·refine Sz O<|SC O<|Sn UP O<|qV (Sc U3 O O U O)<|Ub O<|T0<|Sf O ?_;by_cases h2:(A.once.length:Int)=A.target
       ·refine Sz O<|SC O<|Sn UP O<|qV (Sc U3 O O U O)<|U7 O<|Ue<|Sf O ?_
        cases W with
        | true =>
          refine Sf O ?_;have N:A.room true=({A with once:=r0,Sw:=A.Sw++[x0]},some x0):=by unfold Arc.room;rw[if_pos P,l,J];exact if_pos (by rw[<-l];exact .inr ⟨h2,O⟩)
          refine Uj O<|Td O<|Uj O<|Sq O<|SI.qb (e:=[(0,_),(4,_),(5,_),(6,_),(7,_),(8,_),(10,_)]) ?_;refine It<|TV O<|Sf O<|Uj O<|Sf O<|Ua<|Ua<|Ua<|Uj O<|S5<|Sb O<|SE O<|SC O<|Sn Uf O ?_;refine Sf O (Sr Wt O (TN y (j:=0) (k:=x0) ψ) ?_);rintro _ Y⟨rfl,Z,g⟩;have L:(A.li 0).erase x0=r0:=by show A.once.erase x0=r0;rw[l];simp
          rw[L] at g
          have H:x0∉(A.Tl 0 r0).li 2:=by
           show x0∉A.Sw;intro e;exact Q x0 (by rw[l];simp) x0 (by simp[e]) O
          refine qM O (Sf O (SC O (Sn Uv O (Sf O (Sr Xf O (Uq g.m (j:=2) (k:=x0) ψ H (by show A.Sw.length<=_;exact y0d K ψ)) ?_)))));rintro _ i⟨rfl,o,E⟩;have hr:=(y.r (Ext.refl w2)).trans (g.trans E);have F:=hr.k.S4 C (λe=>D _ e O);refine S5<|SI.qb (e:=[(0,_),(4,_),(5,_),(7,_)]) ?_;refine SE O (qV (VI (cs:=[_,_,_]) SZ O z04 O O) (Sm O (Ta (news:=Ve false (some x0)) SZ O O O O F ξ) ?_));rintro M⟨f,u⟩;replace f:Sk M B [.bool false,.bool true,I x0] 261:=f;refine S5<|SF func191 (.cell VG O SZ O (Sk.cells (n:=3) f (news:=[_,_,_]) O) O .nil) ?_
          have G:∀b,Wj c o p b->b≠B:=λb d e=>by
           rcases hr.fp b d with x|x
           ·exact D b x e
           ·have:=C.lt;omega
          rw[N]
          exact⟨_,O,O,o,hr.m.kp u G,λb d=>(hr.fp b d).imp id (λe=>by have:=z.size;omega),(z.kp.trans hr.k).An u (λj e=> .inl ω)⟩
        | false =>
          refine Sf O ?_;have N:A.room false=({A with often:=R,Ss:=A.Ss++[x1]},some x1):=by unfold Arc.room;rw[if_pos P,l,J];exact if_neg (by rw[<-l];rintro(e|⟨e,e2⟩);exact h1 e;cases e2)
          refine Uj O<|Td O<|Uj O<|Sq O<|SI.qb (e:=[(0,_),(4,_),(5,_),(6,_),(7,_),(8,_),(10,_)]) ?_;refine It<|TV O<|qS<|Td O<|Sz O<|qV (Vn O)<|Sz O<|qV (Vn O)<|Uj O<|Td O<|Tt O<|SE O<|SC O<|Sn UT O ?_;refine Sf O (Sr Wt O (TN y (j:=1) (k:=x1) ψ) ?_);rintro _ Y⟨rfl,Z,g⟩;have L:(A.li 1).erase x1=R:=by show A.often.erase x1=R;rw[J];simp
          rw[L] at g
          have H:x1∉(A.Tl 1 R).li 3:=by
           show x1∉A.Ss;intro e;exact s x1 (by rw[J];simp) x1 (by simp[e]) O
          refine qM O (Sf O (SC O (Sn UN O (Sf O (Sr Xf O (Uq g.m (j:=3) (k:=x1) ψ H (by show A.Ss.length<=_;exact y0d oE ψ)) ?_)))));rintro _ i⟨rfl,o,E⟩;have hr:=(y.r (Ext.refl w2)).trans (g.trans E);have F:=hr.k.S4 C (λe=>D _ e O);refine S5<|SI.qb (e:=[(4,_),(7,_)]) ?_;refine SE O (qV (VI (cs:=[_,_,_]) SZ O z04 O O) (Sm O (Ta (news:=Ve false (some x1)) SZ O O O O F ξ) ?_));rintro M⟨f,u⟩;replace f:Sk M B [.bool false,.bool true,I x1] 261:=f;refine S5<|SF func191 (.cell VG O SZ O (Sk.cells (n:=3) f (news:=[_,_,_]) O) O .nil) ?_
          have G:∀b,Wj c o p b->b≠B:=λb d e=>by
           rcases hr.fp b d with x|x
           ·exact D b x e
           ·have:=C.lt;omega
          rw[N];exact⟨_,O,O,o,hr.m.kp u G,λb d=>(hr.fp b d).imp id (λe=>by have:=z.size;omega),(z.kp.trans hr.k).An u (λj e=> .inl ω)⟩
       ·refine Sz O<|SC O<|Sn UP O<|qV (Sc U3 O O U O)<|U7 O<|T0<|Sf O ?_;have N:A.room W=({A with often:=R,Ss:=A.Ss++[x1]},some x1):=by unfold Arc.room;rw[if_pos P,l,J];exact if_neg (by rw[<-l];rintro(e|⟨e,e2⟩);exact h1 e;exact h2 e)
        refine qS<|Td O<|Td O<|Uj O<|Sq O<|SI.qb (e:=[(0,_),(4,_),(5,_),(6,_),(7,_),(8,_),(10,_)]) ?_;refine It<|TV O<|qS<|Td O<|Sz O<|qV (Vn O)<|Sz O<|qV (Vn O)<|Uj O<|Td O<|Tt O<|SE O<|SC O<|Sn UT O ?_;refine Sf O (Sr Wt O (TN y (j:=1) (k:=x1) ψ) ?_);rintro _ Y⟨rfl,Z,g⟩;have L:(A.li 1).erase x1=R:=by show A.often.erase x1=R;rw[J];simp
        rw[L] at g
        have H:x1∉(A.Tl 1 R).li 3:=by
         show x1∉A.Ss;intro e;exact s x1 (by rw[J];simp) x1 (by simp[e]) O
        refine qM O (Sf O (SC O (Sn UN O (Sf O (Sr Xf O (Uq g.m (j:=3) (k:=x1) ψ H (by show A.Ss.length<=_;exact y0d oE ψ)) ?_)))));rintro _ i⟨rfl,o,E⟩;have hr:=(y.r (Ext.refl w2)).trans (g.trans E);have F:=hr.k.S4 C (λe=>D _ e O);refine S5<|SI.qb (e:=[(4,_),(7,_)]) ?_;refine SE O (qV (VI (cs:=[_,_,_]) SZ O z04 O O) (Sm O (Ta (news:=Ve false (some x1)) SZ O O O O F ξ) ?_));rintro M⟨f,u⟩;replace f:Sk M B [.bool false,.bool true,I x1] 261:=f;refine S5<|SF func191 (.cell VG O SZ O (Sk.cells (n:=3) f (news:=[_,_,_]) O) O .nil) ?_
        have G:∀b,Wj c o p b->b≠B:=λb d e=>by
         rcases hr.fp b d with x|x
         ·exact D b x e
         ·have:=C.lt;omega
        rw[N];exact⟨_,O,O,o,hr.m.kp u G,λb d=>(hr.fp b d).imp id (λe=>by have:=z.size;omega),(z.kp.trans hr.k).An u (λj e=> .inl ω)⟩
end
def Arc.Ok.zmX (h:A.Ok):(A.Tl 2 (A.Sw.drop 1)).Ok:=by
 have d:(A.Tl 2 (A.Sw.drop 1)).all.Sublist A.all:=(((y1t 1 A.Sw).append_right A.Ss).append_left A.often).append_left A.once
 have:=h.first
 have e:=d.length_le
 have f:=h.total
 exact⟨h.pos,h.nd.sublist d,h.held,by show A.once.length+(A.Sw.drop 1).length<=A.size;rw[y08];omega,y0d e f,h.tg⟩
def Arc.Ok.znD (h:A.Ok):(A.Tl 3 (A.Ss.drop 1)).Ok:=by
 have d:(A.Tl 3 (A.Ss.drop 1)).all.Sublist A.all:=(((y1t 1 A.Ss).append_left A.Sw).append_left A.often).append_left A.once
 exact⟨h.pos,h.nd.sublist d,h.held,h.first,y0d d.length_le h.total,h.tg⟩
section
variable {c:Nat}
theorem Wo.head (h:Wo w c A V p){j:Nat}(m:j<4){x:Int}{r:List Int}(g:A.li j=x::r):∃b o cp,(V j).1= .slice (some ⟨b,o,none⟩) (A.li j).length cp/\w.cell? ⟨b,o+0*1,none⟩=some (I x):=by
 have d:=(h.q j m).sl.rd
 rcases d.2 with⟨c,e,f⟩|⟨b,off,l,e,-⟩
 ·rw[g] at f;simp at f
 ·rw[e] at d;exact⟨b,off,l,e,TF d (i:=0) (by rw[g];rfl)⟩
theorem z5t (h:Wo w c A V p)(D:A.Ok)(t:A.size<=1000):SG prog 192 [ptr c 0] w λv w'=>v=zgT false A.add.2/\∃V',z09 w c V p w' A.add.1 V':=by
 have oA:=D.lens t 0
 have yU:=D.lens t 1
 have jK:=D.lens t 2
 have oE:=D.lens t 3
 have ja:=D.pos
 have fC:=A.Ur
 have zh:=D.held
 have RA:=D.first
 have fL:=D.total
 have aN:∀{b:Nat},Wj c V p b->b<w.heap.size:=h.lt
 rw[show A.li 0=A.once from rfl] at oA
 rw[show A.li 1=A.often from rfl] at yU
 rw[show A.li 2=A.Sw from rfl] at jK
 rw[show A.li 3=A.Ss from rfl] at oE
 have hB:=h.cells
 obtain⟨a0,c0,e0,-⟩:∃a c,(V 0).1= .slice a A.once.length c/\_:=(h.q 0 ψ).sl.rd.shape
 obtain⟨a1,c1,e1,-⟩:∃a c,(V 1).1= .slice a A.often.length c/\_:=(h.q 1 ψ).sl.rd.shape
 obtain⟨a2,c2,K,-⟩:∃a c,(V 2).1= .slice a A.Sw.length c/\_:=(h.q 2 ψ).sl.rd.shape
 obtain⟨a3,c3,T,-⟩:∃a c,(V 3).1= .slice a A.Ss.length c/\_:=(h.q 3 ψ).sl.rd.shape
 rw[e0,e1,K,T] at hB
 refine py (e:=[(0,_)]) func192 O ntmps192 O O<|qN O<|Sd O O (UK (cs:=[_,_,_]) SZ O) ?_
 rintro _ w1⟨b2,rfl,bS,s,ak⟩
 replace ak:Sk w1 b2 [.bool false,.bool false,I 0] 261:=ak
 have n2:∀b,Wj c V p b->b≠b2:=λb z e=>by have:=aN z;omega
 have aj:=s.S4 hB
 have o:=Ext.Sv w1
 refine S5<|It<|Ux (λw'=>Ext w1 w') O<|St 0 O O o<|S8 1 O (Tu O) o<|S8 2 O (SN Uf O) o<|S8 3 O (SN TH O) o<|qT 4 O (λ_ h=>Sc Tx O O (h.S4 aj) O) o<|S8 5 O (VQ Tx O) o<|St 6 O O o<|S8 7 O (Tu O) o<|S8 8 O (SN Uv O) o<|S8 9 O (SN TH O) o<|qT 10 O (λ_ h=>Sc Tx O O (h.S4 aj) O) o ?_
 refine S8 11 O (VQ Tx O) o<|S8 12 O (YB O O ω) o<|S8 13 O (UU O) o<|qE<|It ?_
 rw[show(A.once.length:Int)+(A.Sw.length:Int)=((A.once.length+A.Sw.length:Nat):Int) by omega]
 have l:=Ext.Sv w1.drew
 have lY:=o.S4 aj
 refine Ux (λw'=>Ext w1.drew w') O<|St 0 O O l<|St 1 O O l<|S8 2 O (Tu O) l<|S8 3 O (SN UT O) l<|S8 4 O (SN TH O) l<|qT 5 O (λ_ h=>Sc Tx O O (h.S4 lY) O) l<|S8 6 O (VQ Tx O) l<|S8 7 O (YB O O ω) l<|St 8 O O l<|S8 9 O (Tu O) l<|S8 10 O (SN UN O) l<|S8 11 O (SN TH O) l<|qT 12 O (λ_ h=>Sc Tx O O (h.S4 lY) O) l ?_
 refine S8 13 O (VQ Tx O) l<|S8 14 O (YB O O ω) l<|S8 15 O (UU O) l ?_
 rw[show((A.once.length+A.Sw.length:Nat):Int)+(A.often.length:Int)+(A.Ss.length:Int)=(A.all.length:Int) by omega]
 have J:=(s.trans o).trans l
 obtain⟨w2,mQ⟩:∃w2,w1.drew.drew=w2:=⟨_,O⟩
 rw[mQ] at J
 have aw:=o.trans l
 rw[mQ] at aw⊢
 have G:=h.ext J
 have E:=G.cells
 rw[e0,e1,K,T] at E
 have M:=aw.S4 ak
 have d:=Ext.Sv w2
 refine qE<|SI.qb (e:=[(0,_),(2,_),(3,_),(4,_)]) ?_
 refine It<|Tc (λe' w'=>e'=[(0,ptr c 0),(2,ptr b2 0)]/\∃A' V',A'.Ok/\A'.size=A.size/\z09 w2 c V p w' A' V'/\Sk w' b2 [.bool false,.bool false,I 0] 261/\A.add=A'.room false/\w2.heap.size<=w'.heap.size) ?eg<|λeg=>?lZ
 case eg=>
  rintro e' w3⟨rfl,A',V',OR,BR,cw,au,W,z3⟩;refine SE O (Sr z4M O (Xq cw.m OR ω false) ?_);rintro _ w4⟨rfl,V4,bI⟩;have hr:=cw.trans bI
  have n3:∀b,Wj c V' p b->b≠b2:=λb z e=>by
   rcases cw.fp b z with C|C
   ·exact n2 b C e
   ·have:=M.lt;omega
  have n4:∀b,Wj c V4 p b->b≠b2:=λb z e=>by
   rcases hr.fp b z with C|C
   ·exact n2 b C e
   ·have:=M.lt;omega
  have ft:=bI.k.S4 au (λe=>n3 _ e O);obtain⟨g,hg⟩:∃g,(A'.room false).2=g:=⟨_,O⟩;rw[hg];refine Sm O (Ta (news:=Ve false g) SZ O O O O ft ξ) ?_;rintro P⟨u,R⟩;replace u:Sk P b2 [.bool false,.bool g.isSome,I (g.getD 0)] 261:=u;refine S5<|SF func192 (.cell VG O SZ O (Sk.cells (n:=3) u (news:=[_,_,_]) O) O .nil) ?_;rw[W,hg];have z1:=s.size;have z2:=J.size;exact⟨_,O,O,V4,hr.m.kp R n4,λb z=>(hr.fp b z).imp id (λe=>ω),(J.kp.trans hr.k).An R (λj e=> .inl ω)⟩
 case lZ =>
  have a4:(A.all.length:Int)=(A.all.length:Int):=rfl;have H:=G.ext d;have sY:=d.S4 E;have cd:=d.S4 M;have z1:=s.size;have z2:=J.size;by_cases L:A.once.length+A.Sw.length=A.size
  ·by_cases X:A.once.length<A.size
   ·refine S7<|It<|Ux (λw'=>Ext w2 w') O<|St 0 O O d<|St 1 O O d<|S8 2 O (Tu O) d<|S8 3 O (SN Wf O) d<|qT 4 O (λ_ h=>Sc U3 O O (h.S4 E) O) d<|S8 5 O (yeq O O) d<|Xl<|St 6 O O d<|St 7 O O d<|S8 8 O (Tu O) d<|S8 9 O (SN Uf O) d ?_;refine S8 10 O (SN TH O) d<|qT 11 O (λ_ h=>Sc Tx O O (h.S4 E) O) d<|S8 12 O (VQ Tx O) d<|St 13 O O d<|S8 14 O (Tu O) d<|S8 15 O (SN Wf O) d<|qT 16 O (λ_ h=>Sc U3 O O (h.S4 E) O) d<|S8 17 O (ylt O O) d<|Xl<|S8 18 O (YD O O) d<|S8 19 O (UU O) d<|qE<|Sb O ?_
    obtain⟨x,r,B⟩:∃x r,A.Sw=x::r:=by
     cases Y:A.Sw with
     |nil=>rw[Y] at L;simp at L;omega
     |cons x r=>exact⟨x,r,O⟩
    obtain⟨lb,lo,lc,Z,-⟩:=G.head (j:=2) ψ B;rw[K] at Z;cases Z;have U:=(H.q 2 ψ).sl.rd;rw[K] at U;have uL:0<A.Sw.length:=by rw[B];simp
    have kR:((A.li 2).map I)[0]? =some (I x):=by show(A.Sw.map I)[0]? =_;rw[B];rfl
    have f:=Ext.Sv w2.drew;refine Sx [10] (λw'=>Ext w2.drew w') y00 O (Te 0 O O f (SB 1 O (Tu O) f (SB 2 O (SN Uv O) f (Te 3 O O f (SB 4 O (Tu O) f (SB 5 O (SN Uv O) f (SB 6 O (SN TH O) f (qL 7 O (λ_ h=>Sc Tx O O (h.S4 (d.S4 E)) O) f (SB 8 O (Tm Tx T8 O O ω) f (qL 9 O (λ_ h=>SQ U3 O O (TF (U.ext h) (i:=0) kR)) f (Wg [10] (VF 10 O Wt O (TN (H.ext f) (j:=2) (k:=x) ψ) ?_))))))))))));rintro _ P⟨rfl,N,F⟩;refine⟨trivial,?_⟩;have Q:(A.li 2).erase x=A.Sw.drop 1:=by show A.Sw.erase x=A.Sw.drop 1;rw[B];simp
    rw[Q] at F;have y:=(G.r (d.trans f)).trans F;have u:=y.k.S4 M (λe=>n2 _ e O);refine qE<|SI.qb (e:=[(0,_),(2,_)]) ?_;refine S2 ?_;exact(eg _ _ ⟨O,_,N,D.zmX,(z3V A (j:=2) ψ _).1,y,u,by unfold Arc.add;rw[if_pos L,if_pos X];rfl,y.k.size⟩).qb
   ·refine S7<|It<|Ux (λw'=>Ext w2 w') O<|St 0 O O d<|St 1 O O d<|S8 2 O (Tu O) d<|S8 3 O (SN Wf O) d<|qT 4 O (λ_ h=>Sc U3 O O (h.S4 E) O) d<|S8 5 O (yeq O O) d<|Xl<|St 6 O O d<|St 7 O O d<|S8 8 O (Tu O) d<|S8 9 O (SN Uf O) d ?_;refine S8 10 O (SN TH O) d<|qT 11 O (λ_ h=>Sc Tx O O (h.S4 E) O) d<|S8 12 O (VQ Tx O) d<|St 13 O O d<|S8 14 O (Tu O) d<|S8 15 O (SN Wf O) d<|qT 16 O (λ_ h=>Sc U3 O O (h.S4 E) O) d<|S8 17 O (ylt O O) d<|WW<|S8 18 O (YD O O) d<|S8 19 O (UU O) d<|qE<|S9 O<|TV O ?_;refine SC O<|Sn Wf O<|qV (Sc U3 O O sY O)<|U7 O<|Ue<|Sq O<|SI.qb (e:=[(0,_),(2,_),(4,_),(66,_)]) ?_;refine Sb O<|TV O<|SC O<|Sn Uf O ?_
    obtain⟨x,r,B⟩:∃x r,A.once=x::r:=by
     cases Y:A.once with
     |nil=>rw[Y] at X;simp at X;omega
     |cons x r=>exact⟨x,r,O⟩
    have f0:=Zy H (j:=0) ψ;rw[show A.li 0=A.once from rfl,show z1n A.once= .tuple #[I x,.bool true] by rw[B];rfl] at f0;obtain⟨w3,sZ⟩:∃w3,w2.drew=w3:=⟨_,O⟩;rw[sZ] at f0 H cd d⊢;refine Sr z2g O f0 ?_;rintro _ w3⟨rfl,rfl⟩;refine Sf O (qV (UY (v:=I x) O O) (qV (UY (v:= .bool true) O O) (Vj O (TR O (SC O (Sn Uf O (Sf O (Sr Wt O (TN H (j:=0) (k:=x) ψ) ?_))))))));rintro _ P⟨rfl,N,F⟩;have Q:(A.li 0).erase x=A.once.drop 1:=by show A.once.erase x=A.once.drop 1;rw[B];simp
    rw[Q] at F;have y:=(G.r d).trans F;have u:=y.k.S4 M (λe=>n2 _ e O);refine qM O (Sf O (qV (VI (cs:=[_,_,_]) SZ O z04 O O) (Sm O (Ta (news:=Ve false (some x)) SZ O O O O u ξ) ?_)));rintro w6⟨iI,aI⟩;replace iI:Sk w6 b2 [.bool false,.bool true,I x] 261:=iI;refine S5<|SF func192 (.cell VG O SZ O (Sk.cells (n:=3) iI (news:=[_,_,_]) O) O .nil) ?_
    have n5:∀b,Wj c N p b->b≠b2:=λb z e=>by
     rcases y.fp b z with C|C
     ·exact n2 b C e
     ·have:=M.lt;omega
    have W:A.add=(A.Tl 0 (A.once.drop 1),some x):=by unfold Arc.add;rw[if_pos L,if_neg X,B];rfl
    rw[W];exact⟨_,O,O,N,y.m.kp aI n5,λb z=>(y.fp b z).imp id (λe=>ω),(J.kp.trans y.k).An aI (λj e=> .inl ω)⟩
  ·refine S7<|It<|Ux (λw'=>Ext w2 w') O<|St 0 O O d<|St 1 O O d<|S8 2 O (Tu O) d<|S8 3 O (SN Wf O) d<|qT 4 O (λ_ h=>Sc U3 O O (h.S4 E) O) d<|S8 5 O (yeq O O) d<|WW<|St 6 O O d<|qJ 7 O d<|qJ 8 O d<|qJ 9 O d ?_;refine qJ 10 O d<|qJ 11 O d<|qJ 12 O d<|qJ 13 O d<|qJ 14 O d<|qJ 15 O d<|qJ 16 O d<|qJ 17 O d<|S8 18 O (Xg O O) d<|S8 19 O (UU O) d<|qE<|S9 O<|TV O<|SC O ?_;refine Sn Wf O<|qV (Sc U3 O O sY O)<|U7 O<|T0<|Sq O<|SI.qb (e:=[(0,_),(2,_),(4,_),(66,_)]) ?_;refine S9 O<|TV O<|SC O<|Sn Wf O<|qV (Sc U3 O O sY O) ?_;by_cases h4:A.all.length<A.size
   ·refine TW O (Ue (Sq O (Sb O (qN O (qV (VI (cs:=[_,_,_]) SZ O z04 O O) (Sm O (Ta (news:=Ve false none) SZ O O O O cd ξ) ?_))))));rintro P⟨u,R⟩;replace u:Sk P b2 [.bool false,.bool false,I 0] 261:=u;refine S5<|SF func192 (.cell VG O SZ O (Sk.cells (n:=3) u (news:=[_,_,_]) O) O .nil) ?_;have W:A.add=(A,none):=by unfold Arc.add;rw[if_neg L,if_pos h4]
    rw[W];exact⟨_,O,O,V,H.kp R n2,λb z=> .inl z,((J.trans d).An R (λj e=>ω)).kp⟩
   ·refine TW O (T0 (Sq O (S9 O (TV O (SC O (Sn Wf O (qV (Sc U3 O O sY O) (qV (Zf O O ω) ?_))))))));by_cases C:A.all.length=2*A.size
    ·refine U7 O<|Ue<|Sq O<|Sb O ?_
     obtain⟨x,r,B⟩:∃x r,A.Ss=x::r:=by
      cases Y:A.Ss with
      |nil=>rw[Y] at fC;simp at fC;omega
      |cons x r=>exact⟨x,r,O⟩
     obtain⟨lb,lo,lc,Z,-⟩:=G.head (j:=3) ψ B;rw[T] at Z;cases Z;have U:=(H.q 3 ψ).sl.rd;rw[T] at U;have uL:0<A.Ss.length:=by rw[B];simp
     have kR:((A.li 3).map I)[0]? =some (I x):=by show(A.Ss.map I)[0]? =_;rw[B];rfl
     have f:=Ext.Sv w2.drew;refine Sx [10] (λw'=>Ext w2.drew w') y00 O (Te 0 O O f (SB 1 O (Tu O) f (SB 2 O (SN UN O) f (Te 3 O O f (SB 4 O (Tu O) f (SB 5 O (SN UN O) f (SB 6 O (SN TH O) f (qL 7 O (λ_ h=>Sc Tx O O (h.S4 (d.S4 E)) O) f (SB 8 O (Tm Tx T8 O O ω) f (qL 9 O (λ_ h=>SQ U3 O O (TF (U.ext h) (i:=0) kR)) f (Wg [10] (VF 10 O Wt O (TN (H.ext f) (j:=3) (k:=x) ψ) ?_))))))))))));rintro _ P⟨rfl,N,F⟩;refine⟨trivial,?_⟩;have Q:(A.li 3).erase x=A.Ss.drop 1:=by show A.Ss.erase x=A.Ss.drop 1;rw[B];simp
     rw[Q] at F;have y:=(G.r (d.trans f)).trans F;have u:=y.k.S4 M (λe=>n2 _ e O);refine qE<|SI.qb (e:=[(0,_),(2,_)]) ?_;refine S2 ?_;exact(eg _ _ ⟨O,_,N,D.znD,(z3V A (j:=3) ψ _).1,y,u,by unfold Arc.add;rw[if_neg L,if_neg h4,if_pos C];rfl,y.k.size⟩).qb
    ·refine U7 O<|T0<|Sq O<|VP O<|S2 ?_;exact(eg _ _ ⟨O,A,V,D,O,G.r d,cd,by unfold Arc.add;rw[if_neg L,if_neg h4,if_neg C],d.size⟩).qb
end
section
variable {c:Nat}
def Wo.z2O (h:Wo w c A V p)(hB:Sk w' c (acC A.size T V p) 190)(g:Kp (λb=>b=c) w w'):z09 w c V p w' {A with target:=T} V:=
 ⟨⟨hB,λj f=>by
  have e:({A with target:=T}:Arc).li j=A.li j:=by match j,f with|0,_|1,_|2,_|3,_=>rfl
  rw[e]
  exact(h.q j f).kp g λb d e=>h.nc j f (e▸d),g.map h.pins (λe=>h.cp e.symm),h.YA,h.nc,h.np,h.cp⟩,λb d=> .inl d,g.Se λb e=> .inl e⟩
def Arc.Ok.z2O (h:A.Ok)(d:0<=T/\T<=A.size):({A with target:=T}:Arc).Ok:=⟨h.pos,h.nd,h.held,h.first,h.total,d⟩
def z09.mono (h:z09 w c V p w' A' V')(f:∀j,Wj c V p j->j≠b)(l:b<w.heap.size):∀j,Wj c V' p j->j≠b:=λj g e=>by
 rcases h.fp j g with d|d
 ·exact f j d e
 ·omega
theorem z9Y (h:Wo w c A V p)(hA:A.Ok)(cR:A.size<=1000):SG prog 156 [ptr c 0,I k] w λv w'=>v= .tuple #[zgT (A.UX k).2.1 (A.UX k).2.2,I 0]/\∃V',z09 w c V p w' (A.UX k).1 V':=by
 have yU:=hA.lens cR 1
 have jK:=hA.lens cR 2
 have oE:=hA.lens cR 3
 have sX:=hA.tg
 have ja:=hA.pos
 have fC:=A.Ur
 have X:=hA.total
 have g8:=hA.nd
 unfold Arc.all at g8
 rw[y0N] at g8
 obtain⟨a5,a1,a6⟩:=g8
 rw[y0N] at a1
 obtain⟨a4,a7,a8⟩:=a1
 have aN:∀{b:Nat},Wj c V p b->b<w.heap.size:=h.lt
 rw[show A.li 1=A.often from rfl] at yU
 rw[show A.li 2=A.Sw from rfl] at jK
 rw[show A.li 3=A.Ss from rfl] at oE
 refine py (e:=[(0,_),(1,_)]) func156 O ntmps156 O O<|qN O<|Sd O O (UK (cs:=[_,_,_]) SZ O) ?_
 rintro _ w1⟨E,rfl,fO,aa,aG⟩
 replace aG:Sk w1 E [.bool false,.bool false,I 0] 261:=aG
 have n4:∀b,Wj c V p b->b≠E:=λb y e=>by have:=aN y;omega
 have l4:=aG.lt
 have h1:=h.ext aa
 have z1:=aa.size
 refine Sq O<|SX O<|qV (T9 zee O O)<|Tt O<|It<|TV O<|Sr ziA O (z6p h1 (k:=k)) ?_
 rintro _ w1⟨rfl,rfl⟩
 by_cases bF:k∈A.once\/k∈A.often
 ·rw[decide_eq_true bF];refine S5 (Sb O (SE O (SC O (Sn Uf O (Sf O (Sr Wt O (TN h1 (j:=0) (k:=k) ψ) ?_))))));rintro _ w2⟨rfl,V2,dr⟩;refine qM O (Sf O (SC O (Sn UT O (Sf O (Sr Wt O (TN dr.m (j:=1) (k:=k) ψ) ?_)))));rintro _ w3⟨rfl,V3,cw⟩;refine qM O<|Sf O<|SC O<|Sn UT O<|Sf O ?_
  have yW:k∉((A.Tl 0 ((A.li 0).erase k)).Tl 1 (((A.Tl 0 ((A.li 0).erase k)).li 1).erase k)).li 1:=by
   show k∉A.often.erase k;exact a4.not_mem_erase
  have iJ:(((A.Tl 0 ((A.li 0).erase k)).Tl 1 (((A.Tl 0 ((A.li 0).erase k)).li 1).erase k)).li 1).length<=8191:=by
   show(A.often.erase k).length<=_;have:=(y27:(A.often.erase k).length<=A.often.length);omega
  refine Sr Xf O (Uq cw.m (j:=1) (k:=k) ψ yW iJ) ?_;rintro _ w4⟨rfl,V4,bI⟩;have hr:=(dr.trans cw).trans bI;have cK:=hr.k.S4 aG (λe=>n4 _ e O);refine qM O (qV (VI (cs:=[_,_,_]) SZ O z04 O O) (Sm O (Ta (news:=Ve true none) SZ O O O O cK ξ) ?_));rintro w5⟨aP,ai⟩;replace aP:Sk w5 E [.bool true,.bool false,I 0] 261:=aP;refine Sq O<|SI.qb (e:=[(0,_),(1,_),(4,_),(5,_)]) ?_;refine SF func156 (.cell VG O SZ O (Sk.cells (n:=3) aP (news:=[_,_,_]) O) O (.tmp O .nil)) ?_;have X:A.UX k=({A with once:=A.once.erase k,often:=A.often.erase k++[k]},true,none):=by unfold Arc.UX;rw[if_pos bF]
  rw[X];exact⟨_,O,O,V4,hr.m.kp ai (hr.mono n4 l4),λb y=>(hr.fp b y).imp id (λe=>ω),(aa.kp.trans hr.k).An ai (λj e=> .inl ω)⟩
 ·rw [decide_eq_false bF]; have iU : k ∉ A.once := λe => bF (.inl e); have aR : k ∉ A.often := λe => bF (.inr e); have nD : ¬ A.held k := bF; refine S5 (S9 O ?_); have f0 := Zy h1 (j := 0) ψ; have f1 := Zy h1 (j := 1) ψ; rw [show A.li 0 = A.once from rfl] at f0; rw [show A.li 1 = A.often from rfl] at f1
  obtain⟨v0,o0,e0,q0⟩:∃x o,z1n A.once= .tuple #[I x,.bool o]/\(o=true↔A.once≠[]):=by
   cases A.once with
   |nil=>exact⟨_,_,O,ξ⟩
   |cons x r=>exact⟨_,_,O,ξ⟩
  obtain⟨v1,o1,e1,q1⟩:∃x o,z1n A.often= .tuple #[I x,.bool o]/\(o=true↔A.often≠[]):=by
   cases A.often with
   |nil=>exact⟨_,_,O,ξ⟩
   |cons x r=>exact⟨_,_,O,ξ⟩
  rw[e0] at f0;rw[e1] at f1;refine S6<|TV O<|SC O<|Sn Uf O<|Sr z2g O f0 ?_;rintro _ w1⟨rfl,rfl⟩;refine Sf O<|qV (UY (v:=I v0) O O)<|qV (UY (v:= .bool o0) O O)<|Vj O<|Up O<|Sz O<|SC O<|Sn UT O<|Sr z2g O f1 ?_;rintro _ w1⟨rfl,rfl⟩;refine Sf O<|qV (UY (v:=I v1) O O)<|qV (UY (v:= .bool o1) O O)<|To O<|SI.qb (e:=[(0,_),(1,_),(4,_),(5,_),(7,_),(9,_)]) ?_;refine SX O<|Sr ziC O (z6k h1 hA cR) ?_;rintro _ w2⟨rfl,ae⟩;have h2:=h1.ext ae;have bE:=ae.S4 aG;have aL:=aa.trans ae;have z2:=ae.size;have U:=h2.cells;have d:=Ext.Sv w2;obtain⟨a2,c2,e2,-⟩:∃a c,(V 2).1= .slice a A.Sw.length c/\_:=(h.q 2 ψ).sl.rd.shape;obtain⟨a3,c3,e3,-⟩:∃a c,(V 3).1= .slice a A.Ss.length c/\_:=(h.q 3 ψ).sl.rd.shape;rw[e2,e3] at U;have mQ:=Zc h2 (j:=2) (k:=k) ψ;have sZ:=Zc h2 (j:=3) (k:=k) ψ;rw[show A.li 2=A.Sw from rfl] at mQ;rw[show A.li 3=A.Ss from rfl] at sZ;have z:∀b,Wj c V p b->b≠E:=n4;have a0:E<w2.heap.size:=ω
  by_cases ck:A.once.length+A.often.length=A.size
  ·rw [decide_eq_true ck]
   cases LF:o0 with
   | true =>
     subst LF;refine Sz O<|qV (Vn O)<|Uj O<|Sf O<|Ua<|Td O<|Tt O<|TZ<|SE O<|SC O<|Sn Uv O<|Sf O<|Sr z1h O mQ ?_;rintro _ w2⟨rfl,rfl⟩;by_cases hg:k∈A.Sw
     ·rw[decide_eq_true hg];refine Sq O<|Sb O<|It ?_;have uL:0<A.Sw.length:=y1L hg;obtain⟨q,K⟩:∃q,A.Ss.length / A.Sw.length=q:=⟨_,O⟩;have ia:q<=2000:=by rw[<-K];exact y0d (y0S _ _) oE
      have oG:(A.Ss.length:Int) / (A.Sw.length:Int)=(q:Int):=by rw[<-K];exact(y24 _ _).symm
      refine Sx [27] (λw'=>Ext w2 w') y00 O<|Te 0 O O d<|Te 1 O O d<|SB 2 O (Tu O) d<|SB 3 O (SN Wf O) d<|qL 4 O (λ_ h=>Sc U3 O O (h.S4 U) O) d<|Te 5 O O d<|SB 6 O (Tu O) d<|SB 7 O (SN UP O) d<|qL 8 O (λ_ h=>Sc U3 O O (h.S4 U) O) d<|Te 9 O O d<|SB 10 O (Tu O) d<|SB 11 O (SN UN O) d<|SB 12 O (SN TH O) d ?_;refine qL 13 O (λ_ h=>Sc Tx O O (h.S4 U) O) d (SB 14 O (VQ Tx O) d (Te 15 O O d (SB 16 O (Tu O) d (SB 17 O (SN Uv O) d (SB 18 O (SN TH O) d (qL 19 O (λ_ h=>Sc Tx O O (h.S4 U) O) d (SB 20 O (VQ Tx O) d (SB 21 O (yqu O O ⟨ω,ω,ω⟩) d ?_))))))));rw[oG];refine SB 22 O (yma O O) d (SB 23 O (YB O O ω) d (SB 24 O (ymi O O) d (SB 25 O (Tu O) d (SB 26 O (SN UP O) d (Wg [27] (qO 27 (SY (i:=27) O O (TO T8 O O O (d.S4 U) ξ) ?_)))))));rintro w5⟨P,ai⟩;refine⟨trivial,?_⟩;obtain⟨T,hT⟩:∃T:Int,min (A.size:Int) (A.target+max 1 (q:Int))=T:=⟨_,O⟩;have pV:0<=T/\T<=A.size:=ω
      rw[hT] at P
      replace P:Sk w5 c (acC A.size T V p) 190:=by
       show Sk w5 c [I (A.size:Int),(V 0).1,(V 0).2,(V 1).1,(V 1).2,(V 2).1,(V 2).2,(V 3).1,(V 3).2,I T,.map (some p)] _;rw[e2,e3];exact P
      have t:=(h2.ext d).z2O P ai;have Q:=hA.z2O pV;obtain⟨C,J⟩:∃C:Arc,{A with target:=T}=C:=⟨_,O⟩;have ot:C.size=A.size:=by rw[<-J]
      have pW:¬C.held k:=by rw[<-J];exact nD
      have uG:k∈C.Sw:=by rw[<-J];exact hg
      rw[J] at t Q;refine qE<|SI.qb (e:=[(0,_),(1,_),(4,_),(5,_)]) ?_;refine SE O (Sr z4M O (Xq t.m Q ω false) ?_);rintro _ w6⟨rfl,V6,L⟩;have R:=Arc.X7 Q false;obtain⟨r6,W⟩:∃r,C.room false=r:=⟨_,O⟩;rw[W] at L R⊢;obtain⟨l,g⟩:=r6;dsimp only at L R⊢;have gS:=R.perm.length_eq;have ku:=l.Ur;have pX:=C.Ur;have pY:=Q.total;have u:=((h2.r d).trans t).trans L;have bY:=u.k.S4 bE (λe=>z _ e O);refine Sm O (Ta (news:=Ve false g) SZ O O O O bY ξ) ?_;rintro w7⟨H,G⟩;replace H:Sk w7 E [.bool false,.bool g.isSome,I (g.getD 0)] 261:=H;have B:=u.mono z a0;have iq:=u.m.kp G B;refine qM O (Sf O (SC O (Sn Uv O (Sf O (Sr Wt O (TN iq (j:=2) (k:=k) ψ) ?_)))));rintro _ w8⟨rfl,V8,gP⟩
      have en:k∉(l.Tl 2 ((l.li 2).erase k)).li 1:=by
       show k∉l.often;exact λe=>pW ((R.gone k).1 (.inr e)).1
      refine S5 (Uw O (SC O (Sn UT O (Sf O (Sr Xf O (Uq gP.m (j:=1) (k:=k) ψ en (by show l.often.length<=_;omega)) ?_)))));rintro _ w9⟨rfl,F,iR⟩;have D:=gP.trans iR;have bU:=D.k.S4 H (λe=>B _ e O);have s:=bU
      have Y:∀b,Wj c F p b->Wj c V p b\/w2.heap.size<=b:=λb y=>by
       rcases D.fp b y with f|f
       ·exact u.fp b f
       ·have:=u.k.size;have:=G.size;exact .inr ω
      have aK:Kp (λj=>Wj c V p j\/j=E) w2 w9:=((u.k.Se λj e=> .inl e).trans (G.Se λj e=> .inr e)).An D.k (λj e=>by
       rcases u.fp j e with f|f
       ·exact .inr (.inl f)
       ·exact .inl f)
      refine S5 (S2 (qN O (qV (SO (news:=Ve false g) VG O SZ O (Sk.cells (n:=3) s O) O) (Sm O (Ta (news:=Ve false g) SZ O O O O s ξ) ?_))));rintro we⟨M,Z⟩;replace M:Sk we E [.bool false,.bool g.isSome,I (g.getD 0)] 261:=M;refine Sq O<|SF func156 (.cell VG O SZ O (Sk.cells (n:=3) M (news:=[_,_,_]) O) O (.tmp O .nil)) ?_
      have N:∀b,Wj c F p b->b≠E:=λb y e=>by
       rcases Y b y with f|f
       ·exact z b f e
       ·omega
      have X:A.UX k=({l with Sw:=l.Sw.erase k,often:=l.often++[k]},false,g):=by
       unfold Arc.UX;rw[if_neg bF,if_pos hg];dsimp only;rw[K,hT,J,W]
      rw[X]
      exact⟨_,rfl,rfl,F,D.m.kp Z N,λb y=>(Y b y).imp id (λe=>ω),(aL.kp.An aK (λj e=>by
       rcases e with e| e
       ·exact .inr e
       ·exact .inl ω)).An Z (λj e=> .inl ω)⟩
     ·have uM:=hg;rw[decide_eq_false hg];refine Sq O<|S9 O<|SE O<|SC O<|Sn UN O<|Sf O<|Sr z1h O sZ ?_;rintro _ w2⟨rfl,rfl⟩;by_cases hg:k∈A.Ss
      ·rw[decide_eq_true hg];refine Sq O<|SI.qb (e:=[(0,_),(1,_),(4,_),(5,_),(111,_)]) ?_;refine Sb O<|It ?_;have uL:0<A.Ss.length:=y1L hg;obtain⟨q,K⟩:∃q,A.Sw.length / A.Ss.length=q:=⟨_,O⟩;have ia:q<=2000:=by rw[<-K];exact y0d (y0S _ _) jK
       have oG:(A.Sw.length:Int) / (A.Ss.length:Int)=(q:Int):=by rw[<-K];exact(y24 _ _).symm
       refine Sx [23] (λw'=>Ext w2 w') y00 O<|Te 0 O O d<|Te 1 O O d<|SB 2 O (Tu O) d<|SB 3 O (SN UP O) d<|qL 4 O (λ_ h=>Sc U3 O O (h.S4 U) O) d<|Te 5 O O d<|SB 6 O (Tu O) d<|SB 7 O (SN Uv O) d<|SB 8 O (SN TH O) d<|qL 9 O (λ_ h=>Sc Tx O O (h.S4 U) O) d<|SB 10 O (VQ Tx O) d<|Te 11 O O d<|SB 12 O (Tu O) d ?_;refine SB 13 O (SN UN O) d (SB 14 O (SN TH O) d (qL 15 O (λ_ h=>Sc Tx O O (h.S4 U) O) d (SB 16 O (VQ Tx O) d (SB 17 O (yqu O O ⟨ω,ω,ω⟩) d ?_))));rw[oG];refine SB 18 O (yma O O) d (SB 19 O (ysb O O ω) d (SB 20 O (yma O O) d (SB 21 O (Tu O) d (SB 22 O (SN UP O) d (Wg [23] (qO 23 (SY (i:=23) O O (TO T8 O O O (d.S4 U) ξ) ?_)))))));rintro w5⟨P,ai⟩;refine⟨trivial,?_⟩;obtain⟨T,hT⟩:∃T:Int,max 0 (A.target-max 1 (q:Int))=T:=⟨_,O⟩;have pV:0<=T/\T<=A.size:=ω
       rw[hT] at P
       replace P:Sk w5 c (acC A.size T V p) 190:=by
        show Sk w5 c [I (A.size:Int),(V 0).1,(V 0).2,(V 1).1,(V 1).2,(V 2).1,(V 2).2,(V 3).1,(V 3).2,I T,.map (some p)] _;rw[e2,e3];exact P
       have t:=(h2.ext d).z2O P ai;have Q:=hA.z2O pV;obtain⟨C,J⟩:∃C:Arc,{A with target:=T}=C:=⟨_,O⟩;have ot:C.size=A.size:=by rw[<-J]
       have pW:¬C.held k:=by rw[<-J];exact nD
       have uG:k∈C.Ss:=by rw[<-J];exact hg
       rw[J] at t Q;refine qE<|SI.qb (e:=[(0,_),(1,_),(4,_),(5,_)]) ?_;refine SE O (Sr z4M O (Xq t.m Q ω true) ?_);rintro _ w6⟨rfl,V6,L⟩;have R:=Arc.X7 Q true;obtain⟨r6,W⟩:∃r,C.room true=r:=⟨_,O⟩;rw[W] at L R⊢;obtain⟨l,g⟩:=r6;dsimp only at L R⊢;have gS:=R.perm.length_eq;have ku:=l.Ur;have pX:=C.Ur;have pY:=Q.total;have u:=((h2.r d).trans t).trans L;have bY:=u.k.S4 bE (λe=>z _ e O);refine Sm O (Ta (news:=Ve false g) SZ O O O O bY ξ) ?_;rintro w7⟨H,G⟩;replace H:Sk w7 E [.bool false,.bool g.isSome,I (g.getD 0)] 261:=H;have B:=u.mono z a0;have iq:=u.m.kp G B;refine qM O (Sf O (SC O (Sn UN O (Sf O (Sr Wt O (TN iq (j:=3) (k:=k) ψ) ?_)))));rintro _ w8⟨rfl,V8,gP⟩
       have en:k∉(l.Tl 3 ((l.li 3).erase k)).li 1:=by
        show k∉l.often;exact λe=>pW ((R.gone k).1 (.inr e)).1
       refine S5 (Uw O (SC O (Sn UT O (Sf O (Sr Xf O (Uq gP.m (j:=1) (k:=k) ψ en (by show l.often.length<=_;omega)) ?_)))));rintro _ w9⟨rfl,F,iR⟩;have D:=gP.trans iR;have bU:=D.k.S4 H (λe=>B _ e O);have s:=bU
       have Y:∀b,Wj c F p b->Wj c V p b\/w2.heap.size<=b:=λb y=>by
        rcases D.fp b y with f|f
        ·exact u.fp b f
        ·have:=u.k.size;have:=G.size;exact .inr ω
       have aK:Kp (λj=>Wj c V p j\/j=E) w2 w9:=((u.k.Se λj e=> .inl e).trans (G.Se λj e=> .inr e)).An D.k (λj e=>by
        rcases u.fp j e with f|f
        ·exact .inr (.inl f)
        ·exact .inl f)
       refine S5 (S2 (qN O (qV (SO (news:=Ve false g) VG O SZ O (Sk.cells (n:=3) s O) O) (Sm O (Ta (news:=Ve false g) SZ O O O O s ξ) ?_))));rintro we⟨M,Z⟩;replace M:Sk we E [.bool false,.bool g.isSome,I (g.getD 0)] 261:=M;refine Sq O<|SF func156 (.cell VG O SZ O (Sk.cells (n:=3) M (news:=[_,_,_]) O) O (.tmp O .nil)) ?_
       have N:∀b,Wj c F p b->b≠E:=λb y e=>by
        rcases Y b y with f|f
        ·exact z b f e
        ·omega
       have X:A.UX k=({l with Ss:=l.Ss.erase k,often:=l.often++[k]},false,g):=by
        unfold Arc.UX;rw[if_neg bF,if_neg uM,if_pos hg];dsimp only;rw[K,hT,J,W]
       rw[X]
       exact⟨_,rfl,rfl,F,D.m.kp Z N,λb y=>(Y b y).imp id (λe=>ω),(aL.kp.An aK (λj e=>by
        rcases e with e| e
        ·exact .inr e
        ·exact .inl ω)).An Z (λj e=> .inl ω)⟩
      ·rw[decide_eq_false hg];refine Sq O<|SI.qb (e:=[(0,_),(1,_),(4,_),(5,_),(111,_)]) ?_;refine S9 O<|SE O<|Sr zfU O (z5t h2 hA cR) ?_;rintro _ w6⟨rfl,V6,L⟩;have ek:=Arc.z6U hA;obtain⟨r6,W⟩:∃r,A.add=r:=⟨_,O⟩;rw[W] at L ek⊢;obtain⟨l,g⟩:=r6;dsimp only at L ek⊢;obtain⟨gy,-,-⟩:=ek;have ku:=l.Ur;have u:=L;have bY:=u.k.S4 bE (λe=>z _ e O);refine Sm O (Ta (news:=Ve false g) SZ O O O O bY ξ) ?_;rintro w7⟨H,G⟩;replace H:Sk w7 E [.bool false,.bool g.isSome,I (g.getD 0)] 261:=H;have B:=u.mono z a0;have iq:=u.m.kp G B
       have en:k∉l.li 0:=by
        show k∉l.once;exact λe=>nD ((gy.gone k).1 (.inl e)).1
       have oC:=gy.z2k;refine S5 (Uw O (SC O (Sn Uf O (Sf O (Sr Xf O (Uq iq (j:=0) (k:=k) ψ en (by show l.once.length<=_;omega)) ?_)))));rintro _ w9⟨rfl,F,iR⟩;have D:=iR;have bU:=D.k.S4 H (λe=>B _ e O);have s:=bU
       have Y:∀b,Wj c F p b->Wj c V p b\/w2.heap.size<=b:=λb y=>by
        rcases D.fp b y with f|f
        ·exact u.fp b f
        ·have:=u.k.size;have:=G.size;exact .inr ω
       have aK:Kp (λj=>Wj c V p j\/j=E) w2 w9:=((u.k.Se λj e=> .inl e).trans (G.Se λj e=> .inr e)).An D.k (λj e=>by
        rcases u.fp j e with f|f
        ·exact .inr (.inl f)
        ·exact .inl f)
       refine S5 (S2 (qN O (qV (SO (news:=Ve false g) VG O SZ O (Sk.cells (n:=3) s O) O) (Sm O (Ta (news:=Ve false g) SZ O O O O s ξ) ?_))));rintro we⟨M,Z⟩;replace M:Sk we E [.bool false,.bool g.isSome,I (g.getD 0)] 261:=M;refine Sq O<|SF func156 (.cell VG O SZ O (Sk.cells (n:=3) M (news:=[_,_,_]) O) O (.tmp O .nil)) ?_
       have N:∀b,Wj c F p b->b≠E:=λb y e=>by
        rcases Y b y with f|f
        ·exact z b f e
        ·omega
       have X:A.UX k=({l with once:=l.once++[k]},false,g):=by
        unfold Arc.UX;rw[if_neg bF,if_neg uM,if_neg hg];dsimp only;rw[W]
       rw[X]
       exact⟨_,rfl,rfl,F,D.m.kp Z N,λb y=>(Y b y).imp id (λe=>ω),(aL.kp.An aK (λj e=>by
        rcases e with e| e
        ·exact .inr e
        ·exact .inl ω)).An Z (λj e=> .inl ω)⟩
   | false =>
     subst LF
     have BQ:o1=true:=by
      have e:A.once=[]:=Classical.not_not.1 λe=>by have:=q0.2 e;cases this
      rw[e] at ck;exact q1.2 λe=>by rw[e] at ck;simp at ck;omega
     subst BQ;refine Sz O<|qV (Vn O)<|Uj O<|Sz O<|qV (Vn O)<|Uj O<|Tt O<|TZ<|SE O<|SC O<|Sn Uv O<|Sf O<|Sr z1h O mQ ?_;rintro _ w2⟨rfl,rfl⟩;by_cases hg:k∈A.Sw
     ·rw[decide_eq_true hg];refine Sq O<|Sb O<|It ?_;have uL:0<A.Sw.length:=y1L hg;obtain⟨q,K⟩:∃q,A.Ss.length / A.Sw.length=q:=⟨_,O⟩;have ia:q<=2000:=by rw[<-K];exact y0d (y0S _ _) oE
      have oG:(A.Ss.length:Int) / (A.Sw.length:Int)=(q:Int):=by rw[<-K];exact(y24 _ _).symm
      refine Sx [27] (λw'=>Ext w2 w') y00 O<|Te 0 O O d<|Te 1 O O d<|SB 2 O (Tu O) d<|SB 3 O (SN Wf O) d<|qL 4 O (λ_ h=>Sc U3 O O (h.S4 U) O) d<|Te 5 O O d<|SB 6 O (Tu O) d<|SB 7 O (SN UP O) d<|qL 8 O (λ_ h=>Sc U3 O O (h.S4 U) O) d<|Te 9 O O d<|SB 10 O (Tu O) d<|SB 11 O (SN UN O) d<|SB 12 O (SN TH O) d ?_;refine qL 13 O (λ_ h=>Sc Tx O O (h.S4 U) O) d (SB 14 O (VQ Tx O) d (Te 15 O O d (SB 16 O (Tu O) d (SB 17 O (SN Uv O) d (SB 18 O (SN TH O) d (qL 19 O (λ_ h=>Sc Tx O O (h.S4 U) O) d (SB 20 O (VQ Tx O) d (SB 21 O (yqu O O ⟨ω,ω,ω⟩) d ?_))))))));rw[oG];refine SB 22 O (yma O O) d (SB 23 O (YB O O ω) d (SB 24 O (ymi O O) d (SB 25 O (Tu O) d (SB 26 O (SN UP O) d (Wg [27] (qO 27 (SY (i:=27) O O (TO T8 O O O (d.S4 U) ξ) ?_)))))));rintro w5⟨P,ai⟩;refine⟨trivial,?_⟩;obtain⟨T,hT⟩:∃T:Int,min (A.size:Int) (A.target+max 1 (q:Int))=T:=⟨_,O⟩;have pV:0<=T/\T<=A.size:=ω
      rw[hT] at P
      replace P:Sk w5 c (acC A.size T V p) 190:=by
       show Sk w5 c [I (A.size:Int),(V 0).1,(V 0).2,(V 1).1,(V 1).2,(V 2).1,(V 2).2,(V 3).1,(V 3).2,I T,.map (some p)] _;rw[e2,e3];exact P
      have t:=(h2.ext d).z2O P ai;have Q:=hA.z2O pV;obtain⟨C,J⟩:∃C:Arc,{A with target:=T}=C:=⟨_,O⟩;have ot:C.size=A.size:=by rw[<-J]
      have pW:¬C.held k:=by rw[<-J];exact nD
      have uG:k∈C.Sw:=by rw[<-J];exact hg
      rw[J] at t Q;refine qE<|SI.qb (e:=[(0,_),(1,_),(4,_),(5,_)]) ?_;refine SE O (Sr z4M O (Xq t.m Q ω false) ?_);rintro _ w6⟨rfl,V6,L⟩;have R:=Arc.X7 Q false;obtain⟨r6,W⟩:∃r,C.room false=r:=⟨_,O⟩;rw[W] at L R⊢;obtain⟨l,g⟩:=r6;dsimp only at L R⊢;have gS:=R.perm.length_eq;have ku:=l.Ur;have pX:=C.Ur;have pY:=Q.total;have u:=((h2.r d).trans t).trans L;have bY:=u.k.S4 bE (λe=>z _ e O);refine Sm O (Ta (news:=Ve false g) SZ O O O O bY ξ) ?_;rintro w7⟨H,G⟩;replace H:Sk w7 E [.bool false,.bool g.isSome,I (g.getD 0)] 261:=H;have B:=u.mono z a0;have iq:=u.m.kp G B;refine qM O (Sf O (SC O (Sn Uv O (Sf O (Sr Wt O (TN iq (j:=2) (k:=k) ψ) ?_)))));rintro _ w8⟨rfl,V8,gP⟩
      have en:k∉(l.Tl 2 ((l.li 2).erase k)).li 1:=by
       show k∉l.often;exact λe=>pW ((R.gone k).1 (.inr e)).1
      refine S5 (Uw O (SC O (Sn UT O (Sf O (Sr Xf O (Uq gP.m (j:=1) (k:=k) ψ en (by show l.often.length<=_;omega)) ?_)))));rintro _ w9⟨rfl,F,iR⟩;have D:=gP.trans iR;have bU:=D.k.S4 H (λe=>B _ e O);have s:=bU
      have Y:∀b,Wj c F p b->Wj c V p b\/w2.heap.size<=b:=λb y=>by
       rcases D.fp b y with f|f
       ·exact u.fp b f
       ·have:=u.k.size;have:=G.size;exact .inr ω
      have aK:Kp (λj=>Wj c V p j\/j=E) w2 w9:=((u.k.Se λj e=> .inl e).trans (G.Se λj e=> .inr e)).An D.k (λj e=>by
       rcases u.fp j e with f|f
       ·exact .inr (.inl f)
       ·exact .inl f)
      refine S5 (S2 (qN O (qV (SO (news:=Ve false g) VG O SZ O (Sk.cells (n:=3) s O) O) (Sm O (Ta (news:=Ve false g) SZ O O O O s ξ) ?_))));rintro we⟨M,Z⟩;replace M:Sk we E [.bool false,.bool g.isSome,I (g.getD 0)] 261:=M;refine Sq O<|SF func156 (.cell VG O SZ O (Sk.cells (n:=3) M (news:=[_,_,_]) O) O (.tmp O .nil)) ?_
      have N:∀b,Wj c F p b->b≠E:=λb y e=>by
       rcases Y b y with f|f
       ·exact z b f e
       ·omega
      have X:A.UX k=({l with Sw:=l.Sw.erase k,often:=l.often++[k]},false,g):=by
       unfold Arc.UX;rw[if_neg bF,if_pos hg];dsimp only;rw[K,hT,J,W]
      rw[X]
      exact⟨_,rfl,rfl,F,D.m.kp Z N,λb y=>(Y b y).imp id (λe=>ω),(aL.kp.An aK (λj e=>by
       rcases e with e| e
       ·exact .inr e
       ·exact .inl ω)).An Z (λj e=> .inl ω)⟩
     ·have uM:=hg;rw[decide_eq_false hg];refine Sq O<|S9 O<|SE O<|SC O<|Sn UN O<|Sf O<|Sr z1h O sZ ?_;rintro _ w2⟨rfl,rfl⟩;by_cases hg:k∈A.Ss
      ·rw[decide_eq_true hg];refine Sq O<|SI.qb (e:=[(0,_),(1,_),(4,_),(5,_),(111,_)]) ?_;refine Sb O<|It ?_;have uL:0<A.Ss.length:=y1L hg;obtain⟨q,K⟩:∃q,A.Sw.length / A.Ss.length=q:=⟨_,O⟩;have ia:q<=2000:=by rw[<-K];exact y0d (y0S _ _) jK
       have oG:(A.Sw.length:Int) / (A.Ss.length:Int)=(q:Int):=by rw[<-K];exact(y24 _ _).symm
       refine Sx [23] (λw'=>Ext w2 w') y00 O<|Te 0 O O d<|Te 1 O O d<|SB 2 O (Tu O) d<|SB 3 O (SN UP O) d<|qL 4 O (λ_ h=>Sc U3 O O (h.S4 U) O) d<|Te 5 O O d<|SB 6 O (Tu O) d<|SB 7 O (SN Uv O) d<|SB 8 O (SN TH O) d<|qL 9 O (λ_ h=>Sc Tx O O (h.S4 U) O) d<|SB 10 O (VQ Tx O) d<|Te 11 O O d<|SB 12 O (Tu O) d ?_;refine SB 13 O (SN UN O) d (SB 14 O (SN TH O) d (qL 15 O (λ_ h=>Sc Tx O O (h.S4 U) O) d (SB 16 O (VQ Tx O) d (SB 17 O (yqu O O ⟨ω,ω,ω⟩) d ?_))));rw[oG];refine SB 18 O (yma O O) d (SB 19 O (ysb O O ω) d (SB 20 O (yma O O) d (SB 21 O (Tu O) d (SB 22 O (SN UP O) d (Wg [23] (qO 23 (SY (i:=23) O O (TO T8 O O O (d.S4 U) ξ) ?_)))))));rintro w5⟨P,ai⟩;refine⟨trivial,?_⟩;obtain⟨T,hT⟩:∃T:Int,max 0 (A.target-max 1 (q:Int))=T:=⟨_,O⟩;have pV:0<=T/\T<=A.size:=ω
       rw[hT] at P
       replace P:Sk w5 c (acC A.size T V p) 190:=by
        show Sk w5 c [I (A.size:Int),(V 0).1,(V 0).2,(V 1).1,(V 1).2,(V 2).1,(V 2).2,(V 3).1,(V 3).2,I T,.map (some p)] _;rw[e2,e3];exact P
       have t:=(h2.ext d).z2O P ai;have Q:=hA.z2O pV;obtain⟨C,J⟩:∃C:Arc,{A with target:=T}=C:=⟨_,O⟩;have ot:C.size=A.size:=by rw[<-J]
       have pW:¬C.held k:=by rw[<-J];exact nD
       have uG:k∈C.Ss:=by rw[<-J];exact hg
       rw[J] at t Q;refine qE<|SI.qb (e:=[(0,_),(1,_),(4,_),(5,_)]) ?_;refine SE O (Sr z4M O (Xq t.m Q ω true) ?_);rintro _ w6⟨rfl,V6,L⟩;have R:=Arc.X7 Q true;obtain⟨r6,W⟩:∃r,C.room true=r:=⟨_,O⟩;rw[W] at L R⊢;obtain⟨l,g⟩:=r6;dsimp only at L R⊢;have gS:=R.perm.length_eq;have ku:=l.Ur;have pX:=C.Ur;have pY:=Q.total;have u:=((h2.r d).trans t).trans L;have bY:=u.k.S4 bE (λe=>z _ e O);refine Sm O (Ta (news:=Ve false g) SZ O O O O bY ξ) ?_;rintro w7⟨H,G⟩;replace H:Sk w7 E [.bool false,.bool g.isSome,I (g.getD 0)] 261:=H;have B:=u.mono z a0;have iq:=u.m.kp G B;refine qM O (Sf O (SC O (Sn UN O (Sf O (Sr Wt O (TN iq (j:=3) (k:=k) ψ) ?_)))));rintro _ w8⟨rfl,V8,gP⟩
       have en:k∉(l.Tl 3 ((l.li 3).erase k)).li 1:=by
        show k∉l.often;exact λe=>pW ((R.gone k).1 (.inr e)).1
       refine S5 (Uw O (SC O (Sn UT O (Sf O (Sr Xf O (Uq gP.m (j:=1) (k:=k) ψ en (by show l.often.length<=_;omega)) ?_)))));rintro _ w9⟨rfl,F,iR⟩;have D:=gP.trans iR;have bU:=D.k.S4 H (λe=>B _ e O);have s:=bU
       have Y:∀b,Wj c F p b->Wj c V p b\/w2.heap.size<=b:=λb y=>by
        rcases D.fp b y with f|f
        ·exact u.fp b f
        ·have:=u.k.size;have:=G.size;exact .inr ω
       have aK:Kp (λj=>Wj c V p j\/j=E) w2 w9:=((u.k.Se λj e=> .inl e).trans (G.Se λj e=> .inr e)).An D.k (λj e=>by
        rcases u.fp j e with f|f
        ·exact .inr (.inl f)
        ·exact .inl f)
       refine S5 (S2 (qN O (qV (SO (news:=Ve false g) VG O SZ O (Sk.cells (n:=3) s O) O) (Sm O (Ta (news:=Ve false g) SZ O O O O s ξ) ?_))));rintro we⟨M,Z⟩;replace M:Sk we E [.bool false,.bool g.isSome,I (g.getD 0)] 261:=M;refine Sq O<|SF func156 (.cell VG O SZ O (Sk.cells (n:=3) M (news:=[_,_,_]) O) O (.tmp O .nil)) ?_
       have N:∀b,Wj c F p b->b≠E:=λb y e=>by
        rcases Y b y with f|f
        ·exact z b f e
        ·omega
       have X:A.UX k=({l with Ss:=l.Ss.erase k,often:=l.often++[k]},false,g):=by
        unfold Arc.UX;rw[if_neg bF,if_neg uM,if_pos hg];dsimp only;rw[K,hT,J,W]
       rw[X]
       exact⟨_,rfl,rfl,F,D.m.kp Z N,λb y=>(Y b y).imp id (λe=>ω),(aL.kp.An aK (λj e=>by
        rcases e with e| e
        ·exact .inr e
        ·exact .inl ω)).An Z (λj e=> .inl ω)⟩
      ·rw[decide_eq_false hg];refine Sq O<|SI.qb (e:=[(0,_),(1,_),(4,_),(5,_),(111,_)]) ?_;refine S9 O<|SE O<|Sr zfU O (z5t h2 hA cR) ?_;rintro _ w6⟨rfl,V6,L⟩;have ek:=Arc.z6U hA;obtain⟨r6,W⟩:∃r,A.add=r:=⟨_,O⟩;rw[W] at L ek⊢;obtain⟨l,g⟩:=r6;dsimp only at L ek⊢;obtain⟨gy,-,-⟩:=ek;have ku:=l.Ur;have u:=L;have bY:=u.k.S4 bE (λe=>z _ e O);refine Sm O (Ta (news:=Ve false g) SZ O O O O bY ξ) ?_;rintro w7⟨H,G⟩;replace H:Sk w7 E [.bool false,.bool g.isSome,I (g.getD 0)] 261:=H;have B:=u.mono z a0;have iq:=u.m.kp G B
       have en:k∉l.li 0:=by
        show k∉l.once;exact λe=>nD ((gy.gone k).1 (.inl e)).1
       have oC:=gy.z2k;refine S5 (Uw O (SC O (Sn Uf O (Sf O (Sr Xf O (Uq iq (j:=0) (k:=k) ψ en (by show l.once.length<=_;omega)) ?_)))));rintro _ w9⟨rfl,F,iR⟩;have D:=iR;have bU:=D.k.S4 H (λe=>B _ e O);have s:=bU
       have Y:∀b,Wj c F p b->Wj c V p b\/w2.heap.size<=b:=λb y=>by
        rcases D.fp b y with f|f
        ·exact u.fp b f
        ·have:=u.k.size;have:=G.size;exact .inr ω
       have aK:Kp (λj=>Wj c V p j\/j=E) w2 w9:=((u.k.Se λj e=> .inl e).trans (G.Se λj e=> .inr e)).An D.k (λj e=>by
        rcases u.fp j e with f|f
        ·exact .inr (.inl f)
        ·exact .inl f)
       refine S5 (S2 (qN O (qV (SO (news:=Ve false g) VG O SZ O (Sk.cells (n:=3) s O) O) (Sm O (Ta (news:=Ve false g) SZ O O O O s ξ) ?_))));rintro we⟨M,Z⟩;replace M:Sk we E [.bool false,.bool g.isSome,I (g.getD 0)] 261:=M;refine Sq O<|SF func156 (.cell VG O SZ O (Sk.cells (n:=3) M (news:=[_,_,_]) O) O (.tmp O .nil)) ?_
       have N:∀b,Wj c F p b->b≠E:=λb y e=>by
        rcases Y b y with f|f
        ·exact z b f e
        ·omega
       have X:A.UX k=({l with once:=l.once++[k]},false,g):=by
        unfold Arc.UX;rw[if_neg bF,if_neg uM,if_neg hg];dsimp only;rw[W]
       rw[X]
       exact⟨_,rfl,rfl,F,D.m.kp Z N,λb y=>(Y b y).imp id (λe=>ω),(aL.kp.An aK (λj e=>by
        rcases e with e| e
        ·exact .inr e
        ·exact .inl ω)).An Z (λj e=> .inl ω)⟩
  ·rw [decide_eq_false ck]; refine Sf O (Ua (Td O (Sf O (Ua (Td O (Tt O (TZ (SE O (SC O (Sn Uv O (Sf O (Sr z1h O mQ ?_)))))))))))); rintro _ w2⟨rfl, rfl⟩; by_cases hg : k ∈ A.Sw
   ·rw[decide_eq_true hg];refine Sq O<|Sb O<|It ?_;have uL:0<A.Sw.length:=y1L hg;obtain⟨q,K⟩:∃q,A.Ss.length / A.Sw.length=q:=⟨_,O⟩;have ia:q<=2000:=by rw[<-K];exact y0d (y0S _ _) oE
    have oG:(A.Ss.length:Int) / (A.Sw.length:Int)=(q:Int):=by rw[<-K];exact(y24 _ _).symm
    refine Sx [27] (λw'=>Ext w2 w') y00 O<|Te 0 O O d<|Te 1 O O d<|SB 2 O (Tu O) d<|SB 3 O (SN Wf O) d<|qL 4 O (λ_ h=>Sc U3 O O (h.S4 U) O) d<|Te 5 O O d<|SB 6 O (Tu O) d<|SB 7 O (SN UP O) d<|qL 8 O (λ_ h=>Sc U3 O O (h.S4 U) O) d<|Te 9 O O d<|SB 10 O (Tu O) d<|SB 11 O (SN UN O) d<|SB 12 O (SN TH O) d ?_;refine qL 13 O (λ_ h=>Sc Tx O O (h.S4 U) O) d (SB 14 O (VQ Tx O) d (Te 15 O O d (SB 16 O (Tu O) d (SB 17 O (SN Uv O) d (SB 18 O (SN TH O) d (qL 19 O (λ_ h=>Sc Tx O O (h.S4 U) O) d (SB 20 O (VQ Tx O) d (SB 21 O (yqu O O ⟨ω,ω,ω⟩) d ?_))))))));rw[oG];refine SB 22 O (yma O O) d (SB 23 O (YB O O ω) d (SB 24 O (ymi O O) d (SB 25 O (Tu O) d (SB 26 O (SN UP O) d (Wg [27] (qO 27 (SY (i:=27) O O (TO T8 O O O (d.S4 U) ξ) ?_)))))));rintro w5⟨P,ai⟩;refine⟨trivial,?_⟩;obtain⟨T,hT⟩:∃T:Int,min (A.size:Int) (A.target+max 1 (q:Int))=T:=⟨_,O⟩;have pV:0<=T/\T<=A.size:=ω
    rw[hT] at P
    replace P:Sk w5 c (acC A.size T V p) 190:=by
     show Sk w5 c [I (A.size:Int),(V 0).1,(V 0).2,(V 1).1,(V 1).2,(V 2).1,(V 2).2,(V 3).1,(V 3).2,I T,.map (some p)] _;rw[e2,e3];exact P
    have t:=(h2.ext d).z2O P ai;have Q:=hA.z2O pV;obtain⟨C,J⟩:∃C:Arc,{A with target:=T}=C:=⟨_,O⟩;have ot:C.size=A.size:=by rw[<-J]
    have pW:¬C.held k:=by rw[<-J];exact nD
    have uG:k∈C.Sw:=by rw[<-J];exact hg
    rw[J] at t Q;refine qE<|SI.qb (e:=[(0,_),(1,_),(4,_),(5,_)]) ?_;refine SE O (Sr z4M O (Xq t.m Q ω false) ?_);rintro _ w6⟨rfl,V6,L⟩;have R:=Arc.X7 Q false;obtain⟨r6,W⟩:∃r,C.room false=r:=⟨_,O⟩;rw[W] at L R⊢;obtain⟨l,g⟩:=r6;dsimp only at L R⊢;have gS:=R.perm.length_eq;have ku:=l.Ur;have pX:=C.Ur;have pY:=Q.total;have u:=((h2.r d).trans t).trans L;have bY:=u.k.S4 bE (λe=>z _ e O);refine Sm O (Ta (news:=Ve false g) SZ O O O O bY ξ) ?_;rintro w7⟨H,G⟩;replace H:Sk w7 E [.bool false,.bool g.isSome,I (g.getD 0)] 261:=H;have B:=u.mono z a0;have iq:=u.m.kp G B;refine qM O (Sf O (SC O (Sn Uv O (Sf O (Sr Wt O (TN iq (j:=2) (k:=k) ψ) ?_)))));rintro _ w8⟨rfl,V8,gP⟩
    have en:k∉(l.Tl 2 ((l.li 2).erase k)).li 1:=by
     show k∉l.often;exact λe=>pW ((R.gone k).1 (.inr e)).1
    refine S5 (Uw O (SC O (Sn UT O (Sf O (Sr Xf O (Uq gP.m (j:=1) (k:=k) ψ en (by show l.often.length<=_;omega)) ?_)))));rintro _ w9⟨rfl,F,iR⟩;have D:=gP.trans iR;have bU:=D.k.S4 H (λe=>B _ e O);have s:=bU
    have Y:∀b,Wj c F p b->Wj c V p b\/w2.heap.size<=b:=λb y=>by
     rcases D.fp b y with f|f
     ·exact u.fp b f
     ·have:=u.k.size;have:=G.size;exact .inr ω
    have aK:Kp (λj=>Wj c V p j\/j=E) w2 w9:=((u.k.Se λj e=> .inl e).trans (G.Se λj e=> .inr e)).An D.k (λj e=>by
     rcases u.fp j e with f|f
     ·exact .inr (.inl f)
     ·exact .inl f)
    refine S5 (S2 (qN O (qV (SO (news:=Ve false g) VG O SZ O (Sk.cells (n:=3) s O) O) (Sm O (Ta (news:=Ve false g) SZ O O O O s ξ) ?_))));rintro we⟨M,Z⟩;replace M:Sk we E [.bool false,.bool g.isSome,I (g.getD 0)] 261:=M;refine Sq O<|SF func156 (.cell VG O SZ O (Sk.cells (n:=3) M (news:=[_,_,_]) O) O (.tmp O .nil)) ?_
    have N:∀b,Wj c F p b->b≠E:=λb y e=>by
     rcases Y b y with f|f
     ·exact z b f e
     ·omega
    have X:A.UX k=({l with Sw:=l.Sw.erase k,often:=l.often++[k]},false,g):=by
     unfold Arc.UX;rw[if_neg bF,if_pos hg];dsimp only;rw[K,hT,J,W]
    rw[X]
    exact⟨_,rfl,rfl,F,D.m.kp Z N,λb y=>(Y b y).imp id (λe=>ω),(aL.kp.An aK (λj e=>by
     rcases e with e| e
     ·exact .inr e
     ·exact .inl ω)).An Z (λj e=> .inl ω)⟩
   ·have uM:=hg;rw[decide_eq_false hg];refine Sq O<|S9 O<|SE O<|SC O<|Sn UN O<|Sf O<|Sr z1h O sZ ?_;rintro _ w2⟨rfl,rfl⟩;by_cases hg:k∈A.Ss
    ·rw[decide_eq_true hg];refine Sq O<|SI.qb (e:=[(0,_),(1,_),(4,_),(5,_),(111,_)]) ?_;refine Sb O<|It ?_;have uL:0<A.Ss.length:=y1L hg;obtain⟨q,K⟩:∃q,A.Sw.length / A.Ss.length=q:=⟨_,O⟩;have ia:q<=2000:=by rw[<-K];exact y0d (y0S _ _) jK
     have oG:(A.Sw.length:Int) / (A.Ss.length:Int)=(q:Int):=by rw[<-K];exact(y24 _ _).symm
     refine Sx [23] (λw'=>Ext w2 w') y00 O<|Te 0 O O d<|Te 1 O O d<|SB 2 O (Tu O) d<|SB 3 O (SN UP O) d<|qL 4 O (λ_ h=>Sc U3 O O (h.S4 U) O) d<|Te 5 O O d<|SB 6 O (Tu O) d<|SB 7 O (SN Uv O) d<|SB 8 O (SN TH O) d<|qL 9 O (λ_ h=>Sc Tx O O (h.S4 U) O) d<|SB 10 O (VQ Tx O) d<|Te 11 O O d<|SB 12 O (Tu O) d ?_;refine SB 13 O (SN UN O) d (SB 14 O (SN TH O) d (qL 15 O (λ_ h=>Sc Tx O O (h.S4 U) O) d (SB 16 O (VQ Tx O) d (SB 17 O (yqu O O ⟨ω,ω,ω⟩) d ?_))));rw[oG];refine SB 18 O (yma O O) d (SB 19 O (ysb O O ω) d (SB 20 O (yma O O) d (SB 21 O (Tu O) d (SB 22 O (SN UP O) d (Wg [23] (qO 23 (SY (i:=23) O O (TO T8 O O O (d.S4 U) ξ) ?_)))))));rintro w5⟨P,ai⟩;refine⟨trivial,?_⟩;obtain⟨T,hT⟩:∃T:Int,max 0 (A.target-max 1 (q:Int))=T:=⟨_,O⟩;have pV:0<=T/\T<=A.size:=ω
     rw[hT] at P
     replace P:Sk w5 c (acC A.size T V p) 190:=by
      show Sk w5 c [I (A.size:Int),(V 0).1,(V 0).2,(V 1).1,(V 1).2,(V 2).1,(V 2).2,(V 3).1,(V 3).2,I T,.map (some p)] _;rw[e2,e3];exact P
     have t:=(h2.ext d).z2O P ai;have Q:=hA.z2O pV;obtain⟨C,J⟩:∃C:Arc,{A with target:=T}=C:=⟨_,O⟩;have ot:C.size=A.size:=by rw[<-J]
     have pW:¬C.held k:=by rw[<-J];exact nD
     have uG:k∈C.Ss:=by rw[<-J];exact hg
     rw[J] at t Q;refine qE<|SI.qb (e:=[(0,_),(1,_),(4,_),(5,_)]) ?_;refine SE O (Sr z4M O (Xq t.m Q ω true) ?_);rintro _ w6⟨rfl,V6,L⟩;have R:=Arc.X7 Q true;obtain⟨r6,W⟩:∃r,C.room true=r:=⟨_,O⟩;rw[W] at L R⊢;obtain⟨l,g⟩:=r6;dsimp only at L R⊢;have gS:=R.perm.length_eq;have ku:=l.Ur;have pX:=C.Ur;have pY:=Q.total;have u:=((h2.r d).trans t).trans L;have bY:=u.k.S4 bE (λe=>z _ e O);refine Sm O (Ta (news:=Ve false g) SZ O O O O bY ξ) ?_;rintro w7⟨H,G⟩;replace H:Sk w7 E [.bool false,.bool g.isSome,I (g.getD 0)] 261:=H;have B:=u.mono z a0;have iq:=u.m.kp G B;refine qM O (Sf O (SC O (Sn UN O (Sf O (Sr Wt O (TN iq (j:=3) (k:=k) ψ) ?_)))));rintro _ w8⟨rfl,V8,gP⟩
     have en:k∉(l.Tl 3 ((l.li 3).erase k)).li 1:=by
      show k∉l.often;exact λe=>pW ((R.gone k).1 (.inr e)).1
     refine S5 (Uw O (SC O (Sn UT O (Sf O (Sr Xf O (Uq gP.m (j:=1) (k:=k) ψ en (by show l.often.length<=_;omega)) ?_)))));rintro _ w9⟨rfl,F,iR⟩;have D:=gP.trans iR;have bU:=D.k.S4 H (λe=>B _ e O);have s:=bU
     have Y:∀b,Wj c F p b->Wj c V p b\/w2.heap.size<=b:=λb y=>by
      rcases D.fp b y with f|f
      ·exact u.fp b f
      ·have:=u.k.size;have:=G.size;exact .inr ω
     have aK:Kp (λj=>Wj c V p j\/j=E) w2 w9:=((u.k.Se λj e=> .inl e).trans (G.Se λj e=> .inr e)).An D.k (λj e=>by
      rcases u.fp j e with f|f
      ·exact .inr (.inl f)
      ·exact .inl f)
     refine S5 (S2 (qN O (qV (SO (news:=Ve false g) VG O SZ O (Sk.cells (n:=3) s O) O) (Sm O (Ta (news:=Ve false g) SZ O O O O s ξ) ?_))));rintro we⟨M,Z⟩;replace M:Sk we E [.bool false,.bool g.isSome,I (g.getD 0)] 261:=M;refine Sq O<|SF func156 (.cell VG O SZ O (Sk.cells (n:=3) M (news:=[_,_,_]) O) O (.tmp O .nil)) ?_
     have N:∀b,Wj c F p b->b≠E:=λb y e=>by
      rcases Y b y with f|f
      ·exact z b f e
      ·omega
     have X:A.UX k=({l with Ss:=l.Ss.erase k,often:=l.often++[k]},false,g):=by
      unfold Arc.UX;rw[if_neg bF,if_neg uM,if_pos hg];dsimp only;rw[K,hT,J,W]
     rw[X]
     exact⟨_,rfl,rfl,F,D.m.kp Z N,λb y=>(Y b y).imp id (λe=>ω),(aL.kp.An aK (λj e=>by
      rcases e with e| e
      ·exact .inr e
      ·exact .inl ω)).An Z (λj e=> .inl ω)⟩
    ·rw[decide_eq_false hg];refine Sq O<|SI.qb (e:=[(0,_),(1,_),(4,_),(5,_),(111,_)]) ?_;refine S9 O<|SE O<|Sr zfU O (z5t h2 hA cR) ?_;rintro _ w6⟨rfl,V6,L⟩;have ek:=Arc.z6U hA;obtain⟨r6,W⟩:∃r,A.add=r:=⟨_,O⟩;rw[W] at L ek⊢;obtain⟨l,g⟩:=r6;dsimp only at L ek⊢;obtain⟨gy,-,-⟩:=ek;have ku:=l.Ur;have u:=L;have bY:=u.k.S4 bE (λe=>z _ e O);refine Sm O (Ta (news:=Ve false g) SZ O O O O bY ξ) ?_;rintro w7⟨H,G⟩;replace H:Sk w7 E [.bool false,.bool g.isSome,I (g.getD 0)] 261:=H;have B:=u.mono z a0;have iq:=u.m.kp G B
     have en:k∉l.li 0:=by
      show k∉l.once;exact λe=>nD ((gy.gone k).1 (.inl e)).1
     have oC:=gy.z2k;refine S5 (Uw O (SC O (Sn Uf O (Sf O (Sr Xf O (Uq iq (j:=0) (k:=k) ψ en (by show l.once.length<=_;omega)) ?_)))));rintro _ w9⟨rfl,F,iR⟩;have D:=iR;have bU:=D.k.S4 H (λe=>B _ e O);have s:=bU
     have Y:∀b,Wj c F p b->Wj c V p b\/w2.heap.size<=b:=λb y=>by
      rcases D.fp b y with f|f
      ·exact u.fp b f
      ·have:=u.k.size;have:=G.size;exact .inr ω
     have aK:Kp (λj=>Wj c V p j\/j=E) w2 w9:=((u.k.Se λj e=> .inl e).trans (G.Se λj e=> .inr e)).An D.k (λj e=>by
      rcases u.fp j e with f|f
      ·exact .inr (.inl f)
      ·exact .inl f)
     refine S5 (S2 (qN O (qV (SO (news:=Ve false g) VG O SZ O (Sk.cells (n:=3) s O) O) (Sm O (Ta (news:=Ve false g) SZ O O O O s ξ) ?_))));rintro we⟨M,Z⟩;replace M:Sk we E [.bool false,.bool g.isSome,I (g.getD 0)] 261:=M;refine Sq O<|SF func156 (.cell VG O SZ O (Sk.cells (n:=3) M (news:=[_,_,_]) O) O (.tmp O .nil)) ?_
     have N:∀b,Wj c F p b->b≠E:=λb y e=>by
      rcases Y b y with f|f
      ·exact z b f e
      ·omega
     have X:A.UX k=({l with once:=l.once++[k]},false,g):=by
      unfold Arc.UX;rw[if_neg bF,if_neg uM,if_neg hg];dsimp only;rw[W]
     rw[X]
     exact⟨_,rfl,rfl,F,D.m.kp Z N,λb y=>(Y b y).imp id (λe=>ω),(aL.kp.An aK (λj e=>by
      rcases e with e| e
      ·exact .inr e
      ·exact .inl ω)).An Z (λj e=> .inl ω)⟩
end
def Arc.zcG (A:Arc)(k:Int):Nat->Arc
 |0=>A
 |i+1=>(A.zcG k i).Tl i (((A.zcG k i).li i).erase k)
def Arc.drop (A:Arc)(k:Int):Arc:=A.zcG k 4
theorem Arc.drop_eq (A:Arc)(k:Int):A.drop k={A with once:=A.once.erase k,often:=A.often.erase k,Sw:=A.Sw.erase k,Ss:=A.Ss.erase k}:=rfl
theorem Arc.Ok.drop (h:A.Ok)(k:Int):(A.drop k).Ok:=by
 rw[Arc.drop_eq]
 have d:(A.once.erase k++(A.often.erase k++(A.Sw.erase k++A.Ss.erase k))).Sublist A.all:=y2X.append (y2X.append (y2X.append y2X))
 have e:(A.once.erase k).length<=A.once.length:=y27
 have a2:(A.often.erase k).length<=A.often.length:=y27
 have f:(A.Sw.erase k).length<=A.Sw.length:=y27
 have g:=h.held
 have j:=h.first
 exact⟨h.pos,h.nd.sublist d,by dsimp only;omega,by dsimp only;omega,y0d d.length_le h.total,h.tg⟩
theorem Arc.zcN (h:A.Ok)(k x:Int):(A.drop k).held x↔A.held x/\x≠k:=by
 have e:=h.nd
 unfold Arc.all at e
 rw[y0N] at e
 obtain⟨f,d,-⟩:=e
 rw[y0N] at d
 obtain⟨g,-,-⟩:=d
 rw[Arc.drop_eq]
 unfold Arc.held
 dsimp only
 rw[f.mem_erase_iff,g.mem_erase_iff]
 constructor
 ·rintro(⟨a,b⟩|⟨a,b⟩)
  ·exact⟨.inl b,a⟩
  ·exact⟨.inr b,a⟩
 ·rintro⟨b|b,a⟩
  ·exact .inl ⟨a,b⟩
  ·exact .inr ⟨a,b⟩
section
variable {c:Nat}
theorem zdG (h:Wo w c A V p):SG prog 145 [ptr c 0,I k] w λv w'=>(∃z,v=I z)/\∃V',z09 w c V p w' (A.drop k) V':=by
 have hB:=h.cells
 have E:=Zc h (j:=2) (k:=k) ψ
 have F:=Zc h (j:=3) (k:=k) ψ
 rw[show A.li 2=A.Sw from rfl] at E
 rw[show A.li 3=A.Ss from rfl] at F
 refine py (e:=[(0,_),(1,_)]) func145 O ntmps145 O O<|TU O<|It<|Tc (λy w'=>y=[(0,ptr c 0),(1,I k)]/\w'=w) ?eg<|λeg=>?lZ
 case eg=>
  rintro y w1⟨rfl,rfl⟩;have hg:=Ext.Sv w1;refine It<|It<|Ux (λw'=>Ext w1 w') O<|St 0 O O (hg)<|S8 1 O (Tu O) hg<|S8 2 O (SN Uf O) hg<|St 3 O O (hg)<|S8 4 O (Tu O) hg<|S8 5 O (SN UT O) hg<|St 6 O O (hg)<|S8 7 O (Tu O) hg<|S8 8 O (SN Uv O) hg<|St 9 O O (hg)<|S8 10 O (Tu O) hg ?_;refine S8 11 O (SN UN O) hg (St 14 O O (hg) (qO 12 (z1Y (i:=12) O O O (pbs (cs:=[_,_,_,_]) (zs:=[Value.pointer none,Value.pointer none,Value.pointer none,Value.pointer none]) zkw ziN O y00 O O O ψ) ?_)));rintro _ w2⟨d,rfl,⟨G,o,W⟩,BT⟩;refine⟨hg.trans o,?_⟩;have B:=hg.trans o;refine S8 13 O (VQ zkw O) (hg.trans o)<|qE<|S7 ?_;have M:∀{b:Nat},Wj c V p b->b<w1.heap.size:=h.lt;have Z:=BT.lt (g:=d) O;have U:=hg.size;have H:=BT.rd;refine UW (α:=Nat×(Nat->Value×Value)) (0,V) (λx=>[(1,I k),(51,.slice (some ⟨d,0,none⟩) 4 4),(52,I 4),(53,I (x.1:Int))]) (λx w'=>x.1<=4/\z09 w2 c V p w' (A.zcG k x.1) x.2/\Rd w' (.slice (some ⟨d,0,none⟩) 4 4) 1 4 [ptr c 1,ptr c 3,ptr c 5,ptr c 7]) (λx=>4-x.1) ?hI ?hround
  case hI=>exact⟨y02 _,(h.ext B).r (Ext.refl w2),H⟩
  case hround=>
   rintro⟨i,L⟩ a ⟨hi,f,t8⟩ D;dsimp only at hi f t8 D⊢
   try dsimp only
   refine qN O<|TW O<|S5<|It<|So O (λN=>?_)<|λN=>?_
   ·have l:i<4:=ω
    have R:([ptr c 1,ptr c 3,ptr c 5,ptr c 7]:List Value)[i]? =some (ptr c (1+2*i)):=by
     match i,l with
     |0,_|1,_|2,_|3,_=>rfl
    refine S6 (TZ (qN O (qV (Tm zkw ziN O O ω) (qV (SQ zp3 O O (TF t8 R)) (Sq O (Sg O (Sz O (Sr Wt O (TN f.m (j:=i) (k:=k) l) ?_))))))));rintro _ s⟨rfl,J,C⟩;refine S5 (S2 (Sg O (Tr O (Sf O (S5 ((D (i+1,J) _ ⟨l,f.trans C,t8.kp C.k λg e Q=>?_⟩ (by dsimp only;omega)).qb))))));have y:d=g:=UC e;rcases f.fp _ Q with e| e
    ·have:=M e;have Y:d=w1.drew.heap.size:=G;omega
    ·omega
   ·have l:i=4:=ω
    subst l;refine Sh O<|TU O<|S3 func145 O ?_;exact⟨_,O,⟨0,O⟩,L,(h.r B).trans f⟩
 case lZ =>
  refine S7<|SE O<|qV (T9 zee O O)<|Sq O<|S9 O<|TV O<|Sr ziA O (z6p h (k:=k)) ?_;rintro _ w⟨rfl,rfl⟩;by_cases n:k∈A.once\/k∈A.often
  ·rw[decide_eq_true n];refine qV (Vn O)<|Sf O<|Ua<|Ua<|Ua<|Td O<|Sf O<|Ua<|Ua<|Ua<|Td O<|Sq O<|SI.qb (e:=[(0,_),(1,_),(4,_),(10,_)]) ?_;refine S9 O<|SE O<|SC O<|Sn z4a O<|qV (Sc z08 O O hB O)<|Sf O<|qV (ylk (k:=k) (K:=KI) z08 (VH U3) T8 O O h.pins)<|Ub O<|T0<|Sq O<|VP O<|S2 ?_;exact(eg _ _ ⟨O,O⟩).qb
  ·rw [decide_eq_false n]; refine qV (Vn O) (Sz O (SC O (Sn Uv O (Sf O (Sr z1h O E ?_))))); rintro _ w⟨rfl, rfl⟩; by_cases q : k ∈ A.Sw
   ·rw[decide_eq_true q];refine qV (Vn O)<|Uj O<|Sf O<|Ua<|Ua<|Ua<|Td O<|Sq O<|SI.qb (e:=[(0,_),(1,_),(4,_),(10,_)]) ?_;refine S9 O<|SE O<|SC O<|Sn z4a O<|qV (Sc z08 O O hB O)<|Sf O<|qV (ylk (k:=k) (K:=KI) z08 (VH U3) T8 O O h.pins)<|Ub O<|T0<|Sq O<|VP O<|S2 ?_;exact(eg _ _ ⟨O,O⟩).qb
   ·rw[decide_eq_false q];refine qV (Vn O)<|Uj O<|Sz O<|SC O<|Sn UN O<|Sf O<|Sr z1h O F ?_;rintro _ w⟨rfl,rfl⟩;by_cases u:k∈A.Ss
    ·rw[decide_eq_true u];refine qV (Vn O)<|Uj O<|Sq O<|SI.qb (e:=[(0,_),(1,_),(4,_),(10,_)]) ?_;refine S9 O<|SE O<|SC O<|Sn z4a O<|qV (Sc z08 O O hB O)<|Sf O<|qV (ylk (k:=k) (K:=KI) z08 (VH U3) T8 O O h.pins)<|Ub O<|T0<|Sq O<|VP O<|S2 ?_;exact(eg _ _ ⟨O,O⟩).qb
    ·rw[decide_eq_false u];refine qV (Vn O)<|Uj O<|Sq O<|SI.qb (e:=[(0,_),(1,_),(4,_),(10,_)]) ?_;refine Sb O<|TU O<|S3 func145 O ?_
     have P:A.drop k=A:=by
      rw[Arc.drop_eq,y1F (λe=>n (.inl e)),y1F (λe=>n (.inr e)),y1F q,y1F u]
     rw[P];exact⟨_,O,⟨6,O⟩,V,h.r (Ext.refl w)⟩
end
structure Pg where
 k:Int
 b:Nat
 t:Sa
 d:Bool
def XK (l:List Pg):List (Int×Value):=l.map λg=>(g.k,ptr g.b 0)
def pgC (t:Sa)(d:Bool):List Value:=[S t,.bool d,I 0]
structure UB where
 s:Nat
 d:Nat
 m:Nat
 gi:Nat
 c:Nat
 pm:Nat
 p:Nat
 fr:Nat
 V:Nat->Value×Value
 D:Dev
 A:Arc
 l:List Pg
 L:List Bool
 Fd:Nat->Prop
 h:Int
 mi:Int
 wr:Int
def UB.cp (P:UB):Nat->Nat->Prop
 |0,b=>b=P.s
 |1,b=>P.Fd b
 |2,b=>b=P.m\/b=P.gi
 |3,b=>Wj P.c P.V P.p b
 |4,b=>b=P.pm
 |5,b=>∃g∈P.l,g.b=b
 |_,_=>False
def UB.fp (P:UB)(b:Nat):Prop:=∃i,P.cp i b
def plC (P:UB):List Value:=[ptr P.d 0,ptr P.m 0,ptr P.c 0,.map (some P.pm),I (P.fr:Int),I P.h,I P.mi,I P.wr,I 0,I 0,I 0,.bool false]
def Dis (f:Nat->Nat->Prop):Prop:=∀i j,i≠j->∀b,f i b->¬f j b
structure Y8 (w:World)(P:UB):Prop where
 S4:Sk w P.s (plC P) 119
 dev:z07 w P.d P.D P.Fd
 ext:ExM w P.m P.gi P.L
 arc:Wo w P.c P.A P.V P.p
 mp:Wk KI w P.pm (XK P.l)
 pg:∀g∈P.l,Sk w g.b (pgC g.t g.d) 220
 pnd:(P.l.map (·.b)).Nodup
 YA:Dis P.cp
section
variable {P P0 P':UB}{S:Nat->Prop}{i0:Nat}
theorem Y8.lt (h:Y8 w P)(c:P.fp b):b<w.heap.size:=by
 obtain⟨i,hi⟩:=c
 match i,hi with
 |0,e=>rw[show b=P.s from e];exact h.S4.lt
 |1,e=>exact h.dev.lt b e
 | 2, e =>
   rcases e with e| e
   ·rw[e];exact h.ext.ltm
   ·rw[e];exact h.ext.ltg
 |3,e=>exact h.arc.lt e
 |4,e=>rw[show b=P.pm from e];exact h.mp.lt
 |5,⟨g,hg,e⟩=>rw[<-e];exact(h.pg g hg).lt
def Y8.kp (h:Y8 w P)(d:Kp S w w')(c:∀b,P.fp b->¬S b):Y8 w' P:=
 ⟨d.S4 h.S4 (c _ ⟨0,rfl⟩),h.dev.kp d λb e=>c b ⟨1,e⟩,h.ext.kp d (c _ ⟨2,.inl O⟩) (c _ ⟨2,.inr O⟩),h.arc.kp d λb e=>c b ⟨3,e⟩,h.mp.kp d (c _ ⟨4,rfl⟩),λg hg=>d.S4 (h.pg g hg) (c _ ⟨5,g,hg,rfl⟩),h.pnd,h.YA⟩
theorem Y8.ext' (h:Y8 w P)(c:Ext w w'):Y8 w' P:=h.kp (S:=λ_=>False) c λ_ _=>id
def Y8.zds (h:Y8 w P)(c:Kp (P.cp i0) w w')(ne:0≠i0):Sk w' P.s (plC P) 119:=c.S4 h.S4 (h.YA 0 i0 ne _ O)
theorem Y8.zek (h:Y8 w P)(e:Kp (P.cp i0) w w')(ne:1≠i0):z07 w' P.d P.D P.Fd:=h.dev.kp e λb c=>h.YA 1 i0 ne b c
def Y8.text (h:Y8 w P)(c:Kp (P.cp i0) w w')(ne:2≠i0):ExM w' P.m P.gi P.L:=h.ext.kp c (h.YA 2 i0 ne _ (.inl O)) (h.YA 2 i0 ne _ (.inr O))
theorem Y8.zeb (h:Y8 w P)(e:Kp (P.cp i0) w w')(ne:3≠i0):Wo w' P.c P.A P.V P.p:=h.arc.kp e λb d=>h.YA 3 i0 ne b d
def Y8.tmp (h:Y8 w P)(c:Kp (P.cp i0) w w')(ne:4≠i0):Wk KI w' P.pm (XK P.l):=h.mp.kp c (h.YA 4 i0 ne _ O)
def Y8.tpg (h:Y8 w P)(c:Kp (P.cp i0) w w')(ne:5≠i0):∀g∈P.l,Sk w' g.b (pgC g.t g.d) 220:=λg hg=>c.S4 (h.pg g hg) (h.YA 5 i0 ne _ ⟨g,hg,rfl⟩)
def Y8.zfv (h:Y8 w P)(l:∀i,i≠i0->P'.cp i=P.cp i)(hi:∀b,P'.cp i0 b->P.cp i0 b\/∀i,¬P.cp i b):Dis P'.cp:=λi j ne b g c=>by
 by_cases e:i=i0
 ·have d:j≠i0:=λd=>ne (e.trans d.symm);rw[e] at g;rw[l j d] at c;rcases hi b g with f|f
  ·exact h.YA i0 j (λm=>d m.symm) b f c
  ·exact f j c
 ·rw[l i e] at g;by_cases d:j=i0
  ·rw[d] at c;rcases hi b c with f|f
   ·exact h.YA i i0 e b g f
   ·exact f i g
  ·rw[l j d] at c;exact h.YA i j ne b g c
def Y8.new (h:Y8 w P)(c:w.heap.size<=b):∀i,¬P.cp i b:=λi e=>by have:=h.lt ⟨i,e⟩;omega
structure Y4 (w0:World)(P0:UB)(w:World)(P:UB):Prop where
 m:Y8 w P
 fp:∀b,P.fp b->P0.fp b\/w0.heap.size<=b
 k:Kp P0.fp w0 w
theorem Y8.r (h:Y8 w P)(c:Ext w w'):Y4 w P w' P:=⟨h.ext' c,λb d=> .inl d,c.kp⟩
theorem Y4.ext (h:Y4 w0 P0 w P)(c:Ext w w'):Y4 w0 P0 w' P:=⟨h.m.ext' c,h.fp,h.k.trans c.kp⟩
theorem Y4.loc (h:Y4 w0 P0 w P)(d:Kp S w w')(c:∀b,S b->(P0.fp b\/w0.heap.size<=b)/\∀i,¬P.cp i b):Y4 w0 P0 w' P:=
 ⟨h.m.kp d λb ⟨i,f⟩ e=>(c b e).2 i f,h.fp,h.k.An d λb e=>(c b e).1.symm⟩
theorem Y4.part (h:Y4 w0 P0 w P)(i0:Nat)(g:Y8 w' P')(j:∀i,i≠i0->P'.cp i=P.cp i)(hi:∀b,P'.cp i0 b->P.cp i0 b\/w0.heap.size<=b)(f:Kp (P.cp i0) w w'):Y4 w0 P0 w' P':=
 ⟨g,λb ⟨i,c⟩=>by
  by_cases e:i=i0
  ·rw[e] at c;rcases hi b c with d|d
   ·exact h.fp b ⟨i0,d⟩
   ·exact .inr d
  ·rw[j i e] at c
   exact h.fp b ⟨i,c⟩,h.k.An f λb c=>(h.fp b ⟨i0,c⟩).symm⟩
theorem Y4.trans {f:UB}(h:Y4 w0 P0 w P)(c:Y4 w P w2 f):Y4 w0 P0 w2 f:=
 ⟨c.m,λb d=>by
  rcases c.fp b d with e| e
  ·exact h.fp b e
  ·exact .inr (by have:=h.k.size;omega),h.k.An c.k λb d=>(h.fp b d).symm⟩
theorem Y4.dev (h:Y4 w0 P0 w P)(ht:zdl w P.d P.Fd D' w'):∃f,Y4 w0 P0 w' {P with D:=D',Fd:=f}/\∀b,f b->P.Fd b\/w.heap.size<=b:=by
 obtain⟨l,o,g⟩:=ht
 have n:∀i,i≠1->UB.cp {P with D:=D',Fd:=l} i=P.cp i:=λi e=>by
  match i,e with
  |0,_|2,_|3,_|4,_|5,_=>rfl
  |i+6,_=>rfl
 have c:Kp (P.cp 1) w w':=g.1
 refine⟨l,h.part 1 ⟨h.m.zds c ψ,o,h.m.text c ψ,h.m.zeb c ψ,h.m.tmp c ψ,h.m.tpg c ψ,h.m.pnd,h.m.zfv n λb j=>?_⟩ n (λb j=>?_) c,g.2⟩
 ·exact(g.2 b j).imp id λe=>h.m.new e
 ·exact(g.2 b j).imp id λe=>by have:=h.k.size;omega
theorem Y4.arc (h:Y4 w0 P0 w P)(hr:z09 w P.c P.V P.p w' A' V'):Y4 w0 P0 w' {P with A:=A',V:=V'}:=by
 have g:∀i,i≠3->UB.cp {P with A:=A',V:=V'} i=P.cp i:=λi e=>by
  match i,e with
  |0,_|1,_|2,_|4,_|5,_=>rfl
  |i+6,_=>rfl
 have d:Kp (P.cp 3) w w':=hr.k
 refine h.part 3 ⟨h.m.zds d ψ,h.m.zek d ψ,h.m.text d ψ,hr.m,h.m.tmp d ψ,h.m.tpg d ψ,h.m.pnd,h.m.zfv g λb f=>?_⟩ g (λb f=>?_) d
 ·exact(hr.fp b f).imp id λe=>h.m.new e
 ·exact(hr.fp b f).imp id λe=>by have:=h.k.size;omega
theorem Y4.exM (h:Y4 w0 P0 w P)(g:ExM w' P.m P.gi L')(c:Kp (λb=>b=P.gi) w w'):Y4 w0 P0 w' {P with L:=L'}:=by
 have f:∀i,i≠2->UB.cp {P with L:=L'} i=P.cp i:=λi e=>by
  match i,e with
  |0,_|1,_|3,_|4,_|5,_=>rfl
  |i+6,_=>rfl
 have c:Kp (P.cp 2) w w':=c.Se λb e=> .inr e
 exact h.part 2 ⟨h.m.zds c ψ,h.m.zek c ψ,g,h.m.zeb c ψ,h.m.tmp c ψ,h.m.tpg c ψ,h.m.pnd,h.m.zfv f λb d=> .inl d⟩ f (λb d=> .inl d) c
theorem Y4.cnt (h:Y4 w0 P0 w P){a b c:Int}(hB:Sk w' P.s (plC {P with h:=a,mi:=b,wr:=c}) 119)(d:Kp (λb=>b=P.s) w w'):Y4 w0 P0 w' {P with h:=a,mi:=b,wr:=c}:=by
 have g:∀i,i≠0->UB.cp {P with h:=a,mi:=b,wr:=c} i=P.cp i:=λi e=>by
  match i,e with
  |1,_|2,_|3,_|4,_|5,_=>rfl
  |i+6,_=>rfl
 have d:Kp (P.cp 0) w w':=d
 exact h.part 0 ⟨hB,h.m.zek d ψ,h.m.text d ψ,h.m.zeb d ψ,h.m.tmp d ψ,h.m.tpg d ψ,h.m.pnd,h.m.zfv g λb f=> .inl f⟩ g (λb f=> .inl f) d
theorem Y4.del (h:Y4 w0 P0 w P){l':List Pg}(n:l'.Sublist P.l)(q:Wk KI w' P.pm (XK l'))(c:Kp (λb=>b=P.pm) w w'):Y4 w0 P0 w' {P with l:=l'}:=by
 have c:Kp (P.cp 4) w w':=c
 have f:∀i b,UB.cp {P with l:=l'} i b->P.cp i b:=λi b d=>by
  match i,d with
  |0,e|1,e|2,e|3,e|4,e=>exact e
  |5,⟨g,hg,e⟩=>exact⟨g,n.subset hg,e⟩
 have r:=h.m.tpg c ψ
 exact⟨⟨h.m.zds c ψ,h.m.zek c ψ,h.m.text c ψ,h.m.zeb c ψ,q,λg hg=>r g (n.subset hg),(n.map _).nodup h.m.pnd,λi j ne b d o=>h.m.YA i j ne b (f i b d) (f j b o)⟩,λb ⟨i,d⟩=>h.fp b ⟨i,f i b d⟩,h.k.An c λb d=>(h.fp b ⟨4,d⟩).symm⟩
theorem Y4.ins (h:Y4 w0 P0 w P){g:Pg}(hg:w0.heap.size<=g.b/\∀i,¬P.cp i g.b)(c:Sk w g.b (pgC g.t g.d) 220)(y:Wk KI w' P.pm (XK (P.l++[g])))(n:Kp (λb=>b=P.pm) w w'):Y4 w0 P0 w' {P with l:=P.l++[g]}:=by
 have n:Kp (P.cp 4) w w':=n
 have z:=h.m.tpg n ψ
 have u:∀i b,UB.cp {P with l:=P.l++[g]} i b->P.cp i b\/(i=5/\b=g.b):=λi b c=>by
  match i,c with
  |0,e|1,e|2,e|3,e|4,e=>exact .inl e
  | 5, ⟨r, q, e⟩ =>
    rcases y0y.1 q with o|o
    ·exact .inl ⟨r,o,e⟩
    ·rw[y0F.1 o] at e;exact .inr ⟨O,e.symm⟩
 refine⟨⟨h.m.zds n ψ,h.m.zek n ψ,h.m.text n ψ,h.m.zeb n ψ,y,λr q=>?_,?_,λi j ne b c v=>?_⟩,λb ⟨i,c⟩=>?_,h.k.An n λb c=>(h.fp b ⟨4,c⟩).symm⟩
 ·rcases y0y.1 q with e| e
  ·exact z r e
  ·rw[y0F.1 e];exact n.S4 c (hg.2 4)
 ·show((P.l++[g]).map (·.b)).Nodup;rw[y0f,y0N];refine⟨h.m.pnd,ξ,λa x b c e=>?_⟩;obtain⟨r,q,rfl⟩:=y0k.1 x;rw[y2B,y0F] at c;exact hg.2 5 ⟨r,q,e.trans c⟩
 ·rcases u i b c with e|⟨e,o⟩
  ·rcases u j b v with f|⟨f,f2⟩
   ·exact h.m.YA i j ne b e f
   ·rw[f2] at e;exact hg.2 i e
  ·rcases u j b v with f|⟨f,f2⟩
   ·rw[o] at f;exact hg.2 j f
   ·exact ne (e.trans f.symm)
 ·rcases u i b c with e|⟨e,o⟩
  ·exact h.fp b ⟨i,e⟩
  ·rw[o];exact .inr hg.1
theorem Wr {α β:Type}{f:α->β}:∀{l:List α},(l.map f).Nodup->∀{a b:α},a∈l->b∈l->f a=f b->a=b
 |[],_,a,b,ha,_,_=>by cases ha
 | x :: l, hn, a, b, ha, hb, e => by
   rw[y0o,y19] at hn;rcases y0m.1 ha with d|d
   ·rcases y0m.1 hb with c|c
    ·rw[d,c]
    ·exact absurd (y0k.2 ⟨b,c,by rw[<-e,d]⟩) hn.1
   ·rcases y0m.1 hb with c|c
    ·exact absurd (y0k.2 ⟨a,d,by rw[e,c]⟩) hn.1
    ·exact Wr hn.2 d c e
def Vh (l:List Pg)(k:Int)(t:Sa)(d:Bool):List Pg:=l.map λg=>if g.k=k then {g with t:=t,d:=d} else g
theorem zf8 (l:List Pg)(k:Int)(t:Sa)(d:Bool):XK (Vh l k t d)=XK l:=by
 unfold XK Vh
 rw[y1l]
 refine y0O λg _=>?_
 by_cases h:g.k=k
 ·simp only[y31,if_pos h]
 ·simp only[y31,if_neg h]
theorem z7r (l:List Pg)(k:Int)(t:Sa)(d:Bool):(Vh l k t d).map (·.b)=l.map (·.b):=by
 unfold Vh
 rw[y1l]
 refine y0O λg _=>?_
 show Pg.b (if _ then _ else _)=_
 split<;>rfl
theorem Y4.zm9 (h:Y4 w0 P0 w P){g:Pg}(hg:g∈P.l){d:Bool}(j:Sk w' g.b (pgC t d) 220)(v:Kp (λb=>b=g.b) w w'):Y4 w0 P0 w' {P with l:=Vh P.l g.k t d}:=by
 have u:=h.m.mp.nd
 have B:∀b,(∃c∈Vh P.l g.k t d,c.b=b)↔∃c∈P.l,c.b=b:=λb=>by
  have e:=z7r P.l g.k t d;constructor
  ·rintro⟨c,o,rfl⟩;have:c.b∈P.l.map (·.b):=by rw[<-e];exact y0k.2 ⟨c,o,O⟩
   obtain⟨f,a,b⟩:=y0k.1 this;exact⟨f,a,b⟩
  ·rintro⟨c,o,rfl⟩;have:c.b∈(Vh P.l g.k t d).map (·.b):=by rw[e];exact y0k.2 ⟨c,o,O⟩
   obtain⟨f,a,b⟩:=y0k.1 this;exact⟨f,a,b⟩
 have x:∀i,i≠5->UB.cp {P with l:=Vh P.l g.k t d} i=P.cp i:=λi e=>by
  match i,e with
  |0,_|1,_|2,_|3,_|4,_=>rfl
  |i+6,_=>rfl
 have n:Kp (P.cp 5) w w':=v.Se λb e=>⟨g,hg,e.symm⟩
 have hi:∀b,UB.cp {P with l:=Vh P.l g.k t d} 5 b->P.cp 5 b:=λb j=>(B b).1 j
 refine h.part 5 ⟨h.m.zds n ψ,h.m.zek n ψ,h.m.text n ψ,h.m.zeb n ψ,?_,λc o=>?_,?_,h.m.zfv x λb j=> .inl (hi b j)⟩ x (λb j=> .inl (hi b j)) n
 ·show Wk KI w' P.pm (XK (Vh P.l g.k t d));rw[zf8];exact h.m.tmp n ψ
 ·obtain⟨f,q,rfl⟩:=y0k.1 o;by_cases e:f.k=g.k
  ·rw[if_pos e]
   have r:f=g:=by
    unfold XK at u;rw[y1l] at u;have y:(P.l.map (·.k)).Nodup:=u;exact Wr y q hg e
   rw[r];exact j
  ·rw[if_neg e];have z:f.b≠g.b:=λr=>e (by rw[Wr h.m.pnd q hg r]);exact v.S4 (h.m.pg f q) z
 ·show((Vh P.l g.k t d).map (·.b)).Nodup;rw[z7r];exact h.m.pnd
end
def Vt (l:List Pg):Nat:=l.countP (·.d)
structure ZX (P:UB)(txt:Int->Sa)(K:Nat):Prop where
 aok:P.A.Ok
 asz:P.A.size<=1000
 keys:∀x,x∈P.l.map (·.k)↔P.A.held x
 nd:(P.l.map (·.k)).Nodup
 rng:∀g∈P.l,0<=g.k/\g.k<(P.L.length:Int)
 tx:∀g∈P.l,g.t=txt g.k
 cl:∀g∈P.l,g.d=false->P.D.now g.k=txt g.k
 out:∀x,0<=x->x<(P.L.length:Int)->¬P.A.held x->P.D.now x=txt x
 len:∀x,0<=x->x<(P.L.length:Int)->(txt x).length=512
 down:P.D.down=false
 due:P.D.due=0
 B:P.D.B=P.L.length
 N:P.D.N=1
 ca:P.D.calls+(Vt P.l:Int)<=(K:Int)
 cc:P.D.cache.length+Vt P.l<=K
 W8:P.D.W8.length<=17592186044416
def z2K (txt:Int->Sa)(no:Int)(wt:Option Sa):Int->Sa:=λx=>if x=no then wt.getD (txt x) else txt x
theorem z2L (txt:Int->Sa)(no:Int):z2K txt no none=txt:=by
 funext x
 unfold z2K
 split<;>rfl
theorem VC (txt:Int->Sa)(no:Int)(wt:Option Sa):z2K txt no wt no=wt.getD (txt no):=if_pos O
theorem UZ (txt:Int->Sa){no x:Int}(wt:Option Sa)(h:x≠no):z2K txt no wt x=txt x:=if_neg h
def wN (wt:Option Sa):Nat:=if wt.isSome then 1 else 0
theorem z7D (D:Dev)(n x:Int)(s:Sa):((D.push n s).count).now x=if n=x then s else D.now x:=by
 unfold Dev.now Dev.count Dev.push
 dsimp only
 rw[z9X]
 split<;>rfl
theorem z6r (D:Dev)(z:Int)(x:Int):({D with reads:=z}:Dev).now x=D.now x:=rfl
section
variable {P:UB}{no:Int}{wt:Option Sa}
def z3p (no:Int)(t:Sa):∀{l:List Pg},(l.map (·.k)).Nodup->Vt (Vh l no t true)<=Vt l+1
 |[],_=>y02 _
 | g :: l, hn => by
   rw[y0o,y19] at hn;by_cases h:g.k=no
   ·have e:Vh l no t true=l:=by
     unfold Vh
     conv=>rhs;rw[<-y30 l]
     refine y0O λj f=>?_;rw[if_neg λe=>hn.1 (y0k.2 ⟨j,f,by rw[e,h]⟩)];rfl
    have c:Vh (g::l) no t true={g with t:=t,d:=true}::l:=by
     show(if g.k=no then _ else g)::Vh l no t true=_;rw[if_pos h,e]
    rw[c];unfold Vt;rw[y12,y12];split<;>split<;>omega
   ·have m:=z3p no t hn.2
    have c:Vh (g::l) no t true=g::Vh l no t true:=by
     show(if g.k=no then _ else g)::Vh l no t true=_;rw[if_neg h]
    rw[c];unfold Vt at*;rw[y12,y12];omega
theorem z5e {l:List Pg}(f:(l.map (·.k)).Nodup){g:Pg}(hg:g∈l):Vh l g.k g.t g.d=l:=by
 unfold Vh
 conv=>rhs;rw[<-y30 l]
 refine y0O λe c=>?_
 by_cases h:e.k=g.k
 ·rw[if_pos h,Wr f c hg h];rfl
 ·rw[if_neg h];rfl
theorem zch (l:List Pg)(k:Int)(t:Sa)(d:Bool):(Vh l k t d).map (·.k)=l.map (·.k):=by
 unfold Vh
 rw[y1l]
 refine y0O λg _=>?_
 by_cases h:g.k=k
 ·simp only[y31,if_pos h]
 ·simp only[y31,if_neg h]
def z2Q {l:List Pg}{d:Bool}{g:Pg}(h:g∈Vh l k t d):(g∈l/\g.k≠k)\/(g.k=k/\g.t=t/\g.d=d/\∃c∈l,c.k=k):=by
 obtain⟨c,f,rfl⟩:=y0k.1 h
 by_cases e:c.k=k
 ·rw[if_pos e];exact .inr ⟨e,O,O,c,f,e⟩
 ·rw[if_neg e];exact .inl ⟨f,e⟩
theorem ZX.hit (h:ZX P txt K){g:Pg}(hg:g∈P.l)(H:∀t,wt=some t->t.length=512){j:UB}(z:j.A=(P.A.UX g.k).1)(n:j.l=Vh P.l g.k (wt.getD g.t) (wt.isSome ||g.d))(u:j.L=P.L)(c:j.D=P.D):ZX j (z2K txt g.k wt) (K+wN wt):=by
 have ht:=Arc.z4p h.aok g.k
 have y:P.A.held g.k:=(h.keys _).1 (y0k.2 ⟨g,hg,O⟩)
 have G:=ht.no (ht.hit.2 y)
 have E:∀x,j.A.held x↔P.A.held x:=λx=>by
  rw[z,ht.held,G];constructor
  ·rintro(e|e)
   ·rw[e];exact y
   ·exact e.1
  ·intro e;exact .inr ⟨e,ξ⟩
 have hr:=h.rng g hg
 have M:Vt j.l<=Vt P.l+wN wt:=by
  rw[n]
  cases wt with
  |none=>rw[show(none:Option Sa).getD g.t=g.t from rfl,show((none:Option Sa).isSome ||g.d)=g.d from rfl,z5e h.nd hg];exact Nat.le_add_right _ _
  |some t=>exact z3p _ _ h.nd
 have J:=h.ca
 have I:=h.cc
 refine⟨by rw[z];exact ht.ok,by rw[z,ht.size];exact h.asz,λx=>by rw[n,zch,h.keys,E],by rw[n,zch];exact h.nd,λo f=>?_,λo f=>?_,λo f q=>?_,λx r m C=>?_,λx r m=>?_,by rw[c];exact h.down,by rw[c];exact h.due,by rw[c,u];exact h.B,by rw[c];exact h.N,by rw[c];omega,by rw[c];omega,by rw[c];exact h.W8⟩
 ·rw[u];rw[n] at f;rcases z2Q f with e| e
  ·exact h.rng o e.1
  ·rw[e.1];exact hr
 ·rw[n] at f;rcases z2Q f with e| e
  ·rw[UZ _ _ e.2];exact h.tx o e.1
  ·rw[e.1,VC,e.2.1,h.tx g hg]
 ·rw[c];rw[n] at f;rcases z2Q f with e| e
  ·rw[UZ _ _ e.2];exact h.cl o e.1 q
  ·rw[e.2.2.1] at q
   have v:wt=none:=by
    cases wt with
    |none=>rfl
    |some t=>cases q
   rw[e.1,v,z2L];rw[v] at q;exact h.cl g hg q
 ·rw[u] at m;rw[E] at C;have F:x≠g.k:=λe=>C (e▸y);rw[c,UZ _ _ F];exact h.out x r m C
 ·rw[u] at m;by_cases e:x=g.k
  ·rw[e,VC]
   cases v:wt with
   |none=>exact h.len _ (e▸r) (e▸m)
   |some t=>exact H t v
  ·rw[UZ _ _ e];exact h.len x r m
def Wl:List Pg->Int->List Pg
 |[],_=>[]
 |g::l,k=>if g.k=k then l else g::Wl l k
theorem YL (g:Pg)(l:List Pg)(k:Int):Wl (g::l) k=if g.k=k then l else g::Wl l k:=rfl
theorem z5T (l:List Pg)(k:Int):delL (XK l) k=XK (Wl l k):=by
 induction l with
 |nil=>rfl
 | cons g l c =>
   show(if k=g.k then XK l else(g.k,ptr g.b 0)::delL (XK l) k)=_;rw[YL];by_cases h:k=g.k
   ·rw[if_pos h,if_pos h.symm]
   ·rw[if_neg h,if_neg (λe=>h e.symm),c];rfl
def WI:∀(l:List Pg)(k:Int),(Wl l k).Sublist l
 |[],_=>y3s _
 | g :: l, k => by
   rw[YL];split
   ·exact y2g _ _
   ·exact(WI l k).cons_cons _
def z4k {l:List Pg}(d:(l.map (·.k)).Nodup)(k x:Int):x∈(Wl l k).map (·.k)↔x∈l.map (·.k)/\x≠k:=by
 induction l with
 |nil=>simp[Wl]
 | cons g l f =>
   rw[y0o,y19] at d;rw[YL];by_cases h:g.k=k
   ·rw[if_pos h,y0o,y0m];constructor
    ·intro e;exact⟨.inr e,λc=>d.1 (by rw[h,<-c];exact e)⟩
    ·rintro⟨e|e,c⟩
     ·exact absurd (e.trans h) c
     ·exact e
   ·rw[if_neg h,y0o,y0o,y0m,y0m];have:=f d.2;rw[this];constructor
    ·rintro(e|e)
     ·exact⟨.inl e,λc=>h (by rw[<-e,c])⟩
     ·exact⟨.inr e.1,e.2⟩
    ·rintro⟨e|e,c⟩
     ·exact .inl e
     ·exact .inr ⟨e,c⟩
theorem z6H {l:List Pg}{g:Pg}(c:(l.map (·.k)).Nodup)(hg:g∈l):Vt (Wl l g.k)+(if g.d then 1 else 0)=Vt l:=by
 induction l with
 |nil=>cases hg
 | cons a l j =>
   rw[y0o,y19] at c;rw[YL];by_cases h:a.k=g.k
   ·rw[if_pos h]
    have e:a=g:=by
     rcases y0m.1 hg with e| e
     ·exact e.symm
     ·exact absurd (y0k.2 ⟨g,e,h.symm⟩) c.1
    rw[e];unfold Vt;rw[y12]
   ·rw[if_neg h]
    have f:g∈l:=by
     rcases y0m.1 hg with e| e
     ·exact absurd (by rw[e]) h
     ·exact e
    have:=j c.2 f;unfold Vt at*;rw[y12,y12];omega
structure zhv (P:UB)(txt:Int->Sa)(K:Nat)(g:Option Int)(D':Dev)(l':List Pg):Prop where
 now:∀x,0<=x->x<(P.L.length:Int)->x∉l'.map (·.k)->D'.now x=txt x
 cl:∀q∈l',q.d=false->D'.now q.k=txt q.k
 sub:l'.Sublist P.l
 keys:∀x,x∈l'.map (·.k)↔x∈P.l.map (·.k)/\g≠some x
 down:D'.down=false
 due:D'.due=0
 B:D'.B=P.D.B
 N:D'.N=P.D.N
 ca:D'.calls+(Vt l':Int)<=(K:Int)
 cc:D'.cache.length+Vt l'<=K
 W8:D'.W8.length<=17592186044416
def ZX.zmT (h:ZX P txt K):zhv P txt K none P.D P.l:=
 ⟨λx c d f=>h.out x c d λe=>f ((h.keys x).2 e),h.cl,y3s _,λx=>ξ,h.down,h.due,rfl,rfl,h.ca,h.cc,h.W8⟩
theorem ZX.zlC (h:ZX P txt K){g:Pg}(hg:g∈P.l):zhv P txt K (some g.k) (if g.d then(P.D.push g.k g.t).count else P.D) (Wl P.l g.k):=by
 have o:=z6H h.nd hg
 have v:=z4k h.nd g.k
 have F:=h.ca
 have E:=h.cc
 have r:=WI P.l g.k
 have B:∀x,0<=x->x<(P.L.length:Int)->x∉(Wl P.l g.k).map (·.k)->x=g.k\/¬P.A.held x:=λx c f m=>by
  rw[v,not_and] at m;by_cases e:x=g.k
  ·exact .inl e
  ·exact .inr λn=>m ((h.keys x).2 n) e
 have z:∀q∈Wl P.l g.k,q∈P.l/\q.k≠g.k:=λq j=>⟨r.subset j,((v q.k).1 (y0k.2 ⟨q,j,O⟩)).2⟩
 have C:∀x,x∈(Wl P.l g.k).map (·.k)↔x∈P.l.map (·.k)/\some g.k≠some x:=λx=>by
  rw[v];simp only[ne_eq,y3D];constructor
  ·rintro⟨a,b⟩;exact⟨a,λe=>b e.symm⟩
  ·rintro⟨a,b⟩;exact⟨a,λe=>b e.symm⟩
 cases u:g.d with
 | true =>
   rw[u] at o;rw[if_pos O] at o⊢;refine⟨λx c f m=>?_,λq j y=>?_,r,C,h.down,?_,O,O,?_,?_,h.W8⟩
   ·rw[z7D];rcases B x c f m with e| e
    ·rw[if_pos e.symm,e,h.tx g hg]
    ·by_cases n:g.k=x
     ·rw[if_pos n,<-n,h.tx g hg]
     ·rw[if_neg n];exact h.out x c f e
   ·obtain⟨a,b⟩:=z q j;rw[z7D,if_neg λe=>b e.symm];exact h.cl q a y
   ·have:=h.due;show(if P.D.due=0 then(0:Int) else _)=0;rw[if_pos this]
   ·show P.D.calls+1+_<=_;omega
   ·show(P.D.cache++[_]).length+_<=_
    rw[y01,y1q];omega
 | false =>
   rw[u] at o;rw[if_neg ξ] at o⊢;refine⟨λx c f m=>?_,λq j y=>?_,r,C,h.down,h.due,O,O,ω,ω,h.W8⟩
   ·rcases B x c f m with e| e
    ·rw[e];exact h.cl g hg u
    ·exact h.out x c f e
   ·exact h.cl q (z q j).1 y
theorem ZX.zm3 (h:ZX P txt K)(r:0<=no)(u:no<(P.L.length:Int))(I:¬P.A.held no)(M:∀t,wt=some t->t.length=512){l':List Pg}(hg:zhv P txt K (P.A.UX no).2.2 D' l'){f:UB}{z:Int}
  (v:f.A=(P.A.UX no).1) (m:f.l=l'++[⟨no,b,wt.getD (txt no),wt.isSome⟩]) (n:f.L=P.L) (d:f.D={D' with reads:=z}):ZX f (z2K txt no wt) (K+wN wt):=by
 have ht:=Arc.z4p h.aok no
 have Q:=hg.ca
 have R:=hg.cc
 have J:∀x,x∈f.l.map (·.k)↔x=no\/x∈l'.map (·.k):=λx=>by
  rw[m,y0f,y0y,y2B,y0F,or_comm]
 have G:∀x,f.A.held x↔x=no\/x∈l'.map (·.k):=λx=>by
  rw[v,ht.held,hg.keys,h.keys]
 have o:no∉l'.map (·.k):=λe=>I ((h.keys no).1 ((hg.keys no).1 e).1)
 have S:Vt f.l=Vt l'+wN wt:=by
  rw[m];unfold Vt wN;rw[y2Q,y2C]
 refine⟨by rw[v];exact ht.ok,by rw[v,ht.size];exact h.asz,λx=>by rw[J,G],?_,λg j=>?_,λg j=>?_,λg j y=>?_,λx x0 x1 E=>?_,λx x0 x1=>?_,by rw[d];exact hg.down,by rw[d];exact hg.due,by rw[d,n];exact hg.B.trans h.B,by rw[d];exact hg.N.trans h.N,by rw[d];show D'.calls+_<=_;omega,by rw[d];show D'.cache.length+_<=_;omega,by rw[d];exact hg.W8⟩
 ·rw[m,y0f,y0N];refine⟨(hg.sub.map _).nodup h.nd,ξ,λa H c F e=>?_⟩;rw[y2B,y0F] at F;exact o (by rw[<-show a=no from e.trans F];exact H)
 ·rw[n];rw[m] at j;rcases y0y.1 j with e| e
  ·exact h.rng g (hg.sub.subset e)
  ·rw[y0F.1 e];exact⟨r,u⟩
 ·rw[m] at j;rcases y0y.1 j with e| e
  ·rw[UZ _ _ (λq=>o (by rw[<-q];exact y0k.2 ⟨g,e,O⟩))];exact h.tx g (hg.sub.subset e)
  ·rw[y0F.1 e,VC]
 ·rw[d,z6r];rw[m] at j;rcases y0y.1 j with e| e
  ·rw[UZ _ _ (λq=>o (by rw[<-q];exact y0k.2 ⟨g,e,O⟩))];exact hg.cl g e y
  ·rw[y0F.1 e] at y⊢
   have C:wt=none:=by
    cases wt with
    |none=>rfl
    |some t=>cases y
   rw[C,z2L];exact hg.now no r u o
 ·rw[n] at x1;rw[G,not_or] at E;rw[d,z6r,UZ _ _ E.1];exact hg.now x x0 x1 E.2
 ·rw[n] at x1;by_cases e:x=no
  ·rw[e,VC]
   cases C:wt with
   |none=>exact h.len _ r u
   |some t=>exact M t C
  ·rw[UZ _ _ e];exact h.len x x0 x1
end
section
variable {P:UB}{S:Nat->Prop}
theorem Y8.cells (h:Y8 w P):Sk w P.s [ptr P.d 0,ptr P.m 0,ptr P.c 0,.map (some P.pm),I (P.fr:Int),I P.h,I P.mi,I P.wr,I 0,I 0,I 0,.bool false] 119:=h.S4
def ZX.zjZ (h:ZX P txt K):P.D.Small K:=⟨by have:=h.ca;omega,by have:=h.cc;omega,trivial,h.W8⟩
def z4f (h:Y8 w P)(hN:P.D.N=1):SG prog 65 [ptr P.s 0] w λv w'=>v=I 512/\w'=w:=by
 have hB:=h.cells
 have c:=zdy h.dev
 rw[hN] at c
 refine py (e:=[(0,_)]) func65 O ntmps65 O O<|TU O<|SX O<|qV (T9 Zh O O)<|Tt O<|SE O<|SC O<|Sn YM O<|qV (Sc U26 O O hB O)<|Sr zkt O c ?_
 rintro _ w⟨rfl,rfl⟩
 refine Sq O<|S3 func65 O ?_
 exact⟨_,O,O,O⟩
def zcZ (h:Y8 w P):SG prog 137 [ptr P.s 0] w λv w'=>v=ptr P.d 0/\w'=w:=by
 have hB:=h.cells
 refine py (e:=[(0,_)]) func137 O ntmps137 O O<|TU O<|SX O<|qV (T9 Zh O O)<|Tt O<|SE O<|SC O<|Sn YM O<|qV (Sc U26 O O hB O)<|Sq O<|S3 func137 O ?_
 exact⟨_,O,O,O⟩
def ze6 (h:Y8 w P):SG prog 24 [ptr P.s 0] w λv w'=>v=ptr P.m 0/\w'=w:=by
 have hB:=h.cells
 refine py (e:=[(0,_)]) func24 O ntmps24 O O<|TU O<|SX O<|qV (T9 Zh O O)<|Tt O<|SE O<|SC O<|Sn z7k O<|qV (Sc U66 O O hB O)<|Sq O<|S3 func24 O ?_
 exact⟨_,O,O,O⟩
def z3F (h:Y8 w P)(d:P.D.down=false):SG prog 119 [ptr P.s 0] w λv w'=>v=I 0/\w'=w:=by
 have hB:=h.cells
 have c:=zdW h.dev
 rw[d] at c
 refine py (e:=[(0,_)]) func119 O ntmps119 O O<|TU O<|TZ<|SE O<|qV (T9 Zh O O)<|Sq O<|S9 O<|SE O<|SC O<|Sn zck O<|qV (Sc U4 O O hB O)<|Sz O<|SC O<|Sn YM O ?_
 refine qV (Sc U26 O O hB O)<|Sr zme O c ?_
 rintro _ w⟨rfl,rfl⟩
 refine Td O<|Sq O<|VP O<|S2<|TU O<|S3 func119 O ?_
 exact⟨_,O,O,O⟩
theorem z8U (h:Y8 w P)(V:P.D.Small K)(zi:P.D.down=false)(M:P.D.due=0)(Q:P.D.B=P.L.length)(T:P.D.N=1)(k:K<1000000000000){d:Bool}{no:Int}(Y:0<=no)(Z:no<(P.L.length:Int))(ht:t.length=512)(l:Sk w b (pgC t d) 220)(g:∀i,¬P.cp i b):
  SG prog 157 [ptr P.s 0,I no,ptr b 0] w λv w'=>v=I 0/\∃f u,Y8 w' {P with D:=if d then(P.D.push no t).count else P.D,Fd:=f,wr:=u}/\Kp (λj=>j=b\/P.cp 0 j\/P.cp 1 j) w w'/\(∀j,f j->P.Fd j\/w.heap.size<=j):=by
 replace l:Sk w b [S t,.bool d,I 0] 220:=l
 have hB:=h.cells
 have hg:=Ext.Sv w
 have uf:P.s≠b:=λe=>g 0 e.symm
 have R:¬P.Fd P.s:=λe=>h.YA 0 1 ψ P.s O e
 have x:¬P.Fd b:=g 1
 refine py (e:=[(0,_),(1,_),(2,_)]) func157 O ntmps157 O O ?_
 cases d with
 | false =>
   refine TU O<|SX O<|SC O<|Sn ZG O<|Sn z6D O<|qV (Sc U4 O O l O)<|qV (Vn O)<|S5<|Sb O<|TU O<|S3 func157 O (⟨_,O,O,P.Fd,P.wr,?_,Kp.refl _ _,λj e=> .inl e⟩);rw[if_neg ξ]
   exact h
 | true =>
   refine TU O<|SX O<|SC O<|Sn ZG O<|Sn z6D O<|qV (Sc U4 O O l O)<|qV (Vn O) ?_;have o:=zb7 no t (h.dev.ext hg) V k;rw[zf7 zi M ⟨Y,by rw[Q];exact Z⟩ (by rw[T];exact ht)] at o;dsimp only at o;refine Tt O<|It<|It<|Ux (λw'=>Kp P.Fd w w') O<|St 0 O O hg.kp<|S8 1 O (Tu O) hg.kp<|S8 2 O (SN YM O) hg.kp<|qT 3 O (λ_ h=>(Sc U26 O O (h.S4 hB R) O)) hg.kp<|St 4 O O hg.kp<|St 5 O O hg.kp<|S8 6 O (Tu O) hg.kp<|S8 7 O (SN ZG O) hg.kp<|S8 8 O (SN z6N O) hg.kp<|qT 9 O (λ_ h=>(Sc U9 O O (h.S4 l x) O)) hg.kp ?_;refine VF 10 O zmE O o ?_;rintro _ w1⟨rfl,n⟩;refine⟨hg.kp.trans n.kpF,?_⟩;obtain⟨f,G,X⟩:=((h.r (Ext.refl w)).ext hg).dev n;have y:Kp P.Fd w w1:=hg.kp.trans n.kpF;have H:∀j,f j->P.Fd j\/w.heap.size<=j:=λj e=>(X j e).imp id λe=>by have:=hg.size;omega
   refine S8 11 O (UU O) (hg.kp.trans n.kpF)<|qE<|SE O<|TK O ?_;have C:=G.m.cells;refine Tt O (SE O (SC O (Sn ZN O (Sn zf1 O (qV (Sc U3 O O C O) (qV (zf2 O O) (SC O (Sn ZN O (Sn zf1 O (Sm O (TO T8 O O O C ξ) ?_))))))))));rintro w2⟨E,q⟩;obtain⟨z,A⟩:∃z,IntKind.i64.wrap (P.wr+1)=z:=⟨_,O⟩;rw[A] at E;have W:=G.cnt (a:=P.h) (b:=P.mi) (c:=z) E q;have U:=q.S4 (y.S4 l x) (λe=>uf e.symm);refine S5<|SI.qb (e:=[(2,_),(6,_)]) ?_;refine SE O (SC O (Sn ZG O (Sn z6D O (Sm O (TO Xh O O O U ξ) ?_))));rintro w3⟨dS,F⟩
   have J:∀i,¬UB.cp {P with D:=(P.D.push no t).count,Fd:=f,h:=P.h,mi:=P.mi,wr:=z} i b:=λi e=>by
    match i,e with
    |0,e=>exact g 0 e
    | 1, e =>
      rcases H b e with e| e
      ·exact g 1 e
      ·have:=l.lt;omega
    |2,e=>exact g 2 e
    |3,e=>exact g 3 e
    |4,e=>exact g 4 e
    |5,e=>exact g 5 e
   refine qM O<|Sq O<|S3 func157 O (⟨_,O,O,f,z,?_,?_,H⟩)
   ·rw[if_pos O];exact W.m.kp F λj ⟨i,p⟩ e=>J i (e▸p)
   ·exact((y.Se λj e=> .inr (.inr e)).trans (q.Se λj e=> .inr (.inl e))).trans (F.Se λj e=> .inl e)
end
structure UB.Same (P P':UB):Prop where
 s:P'.s=P.s
 d:P'.d=P.d
 m:P'.m=P.m
 gi:P'.gi=P.gi
 c:P'.c=P.c
 pm:P'.pm=P.pm
 p:P'.p=P.p
 fr:P'.fr=P.fr
 L:P'.L=P.L
theorem UB.Same.trans {P P' f:UB}(h:P.Same P')(e:P'.Same f):P.Same f:=
 ⟨e.s.trans h.s,e.d.trans h.d,e.m.trans h.m,e.gi.trans h.gi,e.c.trans h.c,e.pm.trans h.pm,e.p.trans h.p,e.fr.trans h.fr,e.L.trans h.L⟩
def z4A {l:List Pg}{t0:Sa}{d0 d:Bool}(h:k∉l.map (·.k)):Vh (l++[⟨k,b,t0,d0⟩]) k t d=l++[⟨k,b,t,d⟩]:=by
 unfold Vh
 rw[y0f]
 congr 1
 ·conv=>rhs;rw[<-y30 l]
  refine y0O λg hg=>?_;rw[if_neg λe=>h (y0k.2 ⟨g,hg,e⟩)];rfl
 ·show [if k=k then _ else _]=_;rw[if_pos O]
section
variable {P P0 P':UB}
theorem Y8.get (h:Y8 w P){q:Pg}(c:q∈P.l):UM (XK P.l) q.k=some (ptr q.b 0):=
 z8f h.mp.nd (y0k.2 ⟨q,c,rfl⟩)
theorem Y4.write (h:Y4 w0 P0 w P){c:Nat->Prop}{d:Int}(n:Y8 w' {P with D:=D',Fd:=c,wr:=d})(m:Kp (λj=>j=b\/P.cp 0 j\/P.cp 1 j) w w')(f:∀j,c j->P.Fd j\/w.heap.size<=j)(g:P0.fp b\/w0.heap.size<=b):Y4 w0 P0 w' {P with D:=D',Fd:=c,wr:=d}:=
 ⟨n,λj ⟨i,l⟩=>by
  match i,l with
  |0,e=>exact h.fp j ⟨0,e⟩
  | 1, e =>
    rcases f j e with e| e
    ·exact h.fp j ⟨1,e⟩
    ·exact .inr (by have:=h.k.size;omega)
  |2,e=>exact h.fp j ⟨2,e⟩
  |3,e=>exact h.fp j ⟨3,e⟩
  |4,e=>exact h.fp j ⟨4,e⟩
  |5,e=>exact h.fp j ⟨5,e⟩,h.k.An m λj e=>by
  rcases e with e|e| e
  ·rw[e];exact g.symm
  ·exact(h.fp j ⟨0,e⟩).symm
  ·exact(h.fp j ⟨1,e⟩).symm⟩
theorem z3i (hr:Y4 w0 P0 w P)(u:ZX P txt K)(hK:K<1000000000000){no:Int}(h0:0<=no)(h1:no<(P.L.length:Int))(M:Option Sa)(oH:∀t,M=some t->t.length=512){x:Nat}(kR:w0.heap.size<=x)(F:∀i,¬P.cp i x)(gd:Sk w x [x0] 9){f:Nat}(rI:CF prog f)
  (I5:∀(w1:World)(b:Nat) (t:Sa) (d:Bool),b≠x->Sk w1 b (pgC t d) 220->Sk w1 x [x0] 9->SG prog f [ptr b 0,ptr x 0] w1 λv w2=>v= .tuple #[]/\Sk w2 b (pgC (M.getD t) (M.isSome ||d)) 220/\Sk w2 x [S (M.getD t)] 9/\Kp (λj=>j=if M.isSome then b else x) w1 w2):
  SG prog 120 [ptr P.s 0,I no,.bool M.isSome,.func (.func f) #[] #[ptr x 0]] w λv w'=>v=I 0/\Sk w' x [S (M.getD (txt no))] 9/\∃P',Y4 w0 P0 w' P'/\ZX P' (z2K txt no M) (K+wN M)/\P.Same P'/\∀i,¬P'.cp i x:=by
 have hB:=hr.m.cells
 have gt:=z0y hr.m.dev
 rw[u.B] at gt
 have lx:=gd.lt
 have iu:=Arc.z4p u.aok no
 obtain⟨T,hT⟩:∃T,P.A.UX no=T:=⟨_,O⟩
 have fL:=z9Y hr.m.arc u.aok u.asz (k:=no)
 rw[hT] at iu fL
 obtain⟨A2,hit,g⟩:=T
 dsimp only at iu fL
 have a0:=hr.m.ext.n
 refine py (e:=[(0,_),(1,_),(2,_),(3,_)]) func120 O ntmps120 O O<|TU O<|SX O<|TW O<|T0<|Sz O<|Sf O<|SC O<|Sn YM O<|qV (Sc U26 O O hB O)<|Sr z7N O gt ?_
 rintro _ w⟨rfl,rfl⟩
 refine WZ O<|T0<|Td O<|Tt O<|SE O<|SC O<|Sn zbE O<|qV (Sc zee O O hB O)<|Sf O<|Sr zkB O fL ?_
 rintro _ w1⟨rfl,V2,uO⟩
 have cS:=hr.arc uO
 have I6:=uO.k.S4 gd (F 3)
 have z1:=uO.k.size
 refine Sf O<|qV (UY (v:=zgT hit g) O O)<|qV (UY (v:=I 0) O O)<|Sd O O (UK (cs:=[_,_,_]) SZ O) ?_
 rintro _ w2⟨b9,rfl,oU,ae,cI⟩
 have z2:=ae.size
 refine Sm O (Ta (news:=Ve hit g) SZ O O O O cI ξ) ?_
 rintro w3⟨dg,ar⟩
 replace dg:Sk w3 b9 [.bool hit,.bool g.isSome,I (g.getD 0)] 261:=dg
 have aT:Ext w1 w3:=ae.An ar (λj e=>ω)
 have cw:=cS.ext aT
 have BW:=aT.S4 I6
 have a6:=cS.k.size
 have a7:=aT.size
 have H:∀i,¬UB.cp {P with A:=A2,V:=V2} i x:=λi e=>by
  match i,e with
  |0,e=>exact F 0 e
  |1,e=>exact F 1 e
  |2,e=>exact F 2 e
  | 3, e =>
    rcases uO.fp x e with e| e
    ·exact F 3 e
    ·omega
  |4,e=>exact F 4 e
  |5,e=>exact F 5 e
 have BX:∀i,¬UB.cp {P with A:=A2,V:=V2} i b9:=cS.m.new ω
 have RB:b9≠x:=ω
 have a3:=dg.lt
 have m7:=cw.m.cells
 dsimp only at m7
 refine Sq O<|SI.qb (e:=[(0,_),(1,_),(2,_),(3,_),(8,_),(9,_),(10,_)]) ?_
 refine SX O<|TK O<|Tt O<|It<|qN O<|Sn zhe O ?_
 cases hit with
 | true =>
   have bF:=iu.hit.1 O
   obtain⟨q,r,I7⟩:∃q∈P.l,q.k=no:=by
    obtain⟨q,a,b⟩:=y0k.1 ((u.keys no).2 bF);exact⟨q,a,b⟩
   subst I7;refine qV (Sc U4 O O dg O) (S5 (Sb O (SE O (SC O (Sn ZN O (Sn zfR O (qV (Sc U3 O O m7 O) (qV (zf2 O O) (SC O (Sn ZN O (Sn zfR O (Sm O (TO T8 O O O m7 ξ) ?_))))))))))));rintro p⟨aG,ao⟩;obtain⟨z,hz⟩:∃z,IntKind.i64.wrap (P.h+1)=z:=⟨_,O⟩;rw[hz] at aG;have E:=cw.cnt (a:=z) (b:=P.mi) (c:=P.wr) aG ao;have ju:=E.m.cells;dsimp only at ju;have ta:=ao.S4 BW (F 0);have eA:=E.m.get r;dsimp only at eA;have ue:Sk p q.b (pgC q.t q.d) 220:=E.m.pg q r;have xh:q.b≠x:=λe=>F 5 ⟨q,r,e⟩;refine qM O<|Sz O<|SC O<|Sn YS O<|qV (Sc z0w O O ju O)<|Sf O<|qV (ylk (k:=q.k) (K:=KI) z0w (VH U3) zfK O O E.m.mp.l) ?_;dsimp only;rw[eA];refine Uk O O (Vc rI O O) (I5 p q.b q.t q.d xh ue ta) ?_;rintro _ w5⟨rfl,I8,te,ai⟩;refine S5<|SI.qb (e:=[(0,_),(1,_),(2,_),(3,_),(8,_),(9,_),(10,_)]) ?_;refine TU O<|S3 func120 O ?_;have I9:=u.tx q r;refine⟨_,O,O,by rw[<-I9];exact te,?_⟩
   cases M with
   | none =>
     have BY:∀i,¬UB.cp {P with A:=A2,V:=V2,h:=z,mi:=P.mi,wr:=P.wr} i x:=λi o=>by
      match i,o with
      |0,o=>exact H 0 o
      |1,o=>exact H 1 o
      |2,o=>exact H 2 o
      |3,o=>exact H 3 o
      |4,o=>exact H 4 o
      |5,o=>exact H 5 o
     refine⟨_,E.loc ai (λj e=>⟨.inr (by rw[show j=x from e];exact kR),by rw[show j=x from e];exact BY⟩),u.hit r oH (by rw[hT]) ?_ O O,⟨O,O,O,O,O,O,O,O,O⟩,BY⟩;show P.l=Vh P.l q.k q.t q.d
     exact(z5e u.nd r).symm
   | some t =>
     refine⟨_,E.zm9 r I8 ai,u.hit r oH (by rw[hT]) O O O,⟨rfl,rfl,rfl,rfl,rfl,rfl,rfl,rfl,rfl⟩,λi o=>?_⟩
     match i,o with
     |0,o=>exact H 0 o
     |1,o=>exact H 1 o
     |2,o=>exact H 2 o
     |3,o=>exact H 3 o
     |4,o=>exact H 4 o
     | 5, ⟨g', da, o⟩ =>
       have h3:g'.b∈P.l.map (·.b):=by rw[<-z7r P.l q.k];exact y0k.2 ⟨g',da,O⟩
       obtain⟨g2,a,b⟩:=y0k.1 h3
       exact H 5 ⟨g2,a,b.trans o⟩
 | false =>
   have Ia:¬P.A.held no:=λe=>by have:=iu.hit.2 e;cases this
   refine qV (Sc U4 O O dg O) (Tt O (SE O (SC O (Sn ZN O (Sn zgn O (qV (Sc U3 O O m7 O) (qV (zf2 O O) (SC O (Sn ZN O (Sn zgn O (Sm O (TO T8 O O O m7 ξ) ?_)))))))))));rintro p⟨aG,ao⟩;obtain⟨z,hz⟩:∃z,IntKind.i64.wrap (P.mi+1)=z:=⟨_,O⟩;rw[hz] at aG;have E:=cw.cnt (a:=P.h) (b:=z) (c:=P.wr) aG ao;have ju:=E.m.cells;dsimp only at ju;have ta:=ao.S4 BW (F 0);have Eu:b9≠P.s:=λe=>BX 0 e;have kq:=ao.S4 dg Eu;have z4:=ao.size;refine S5<|It<|qN O<|Sn zhi O<|qV (Sc U4 O O kq O)<|S5 ?_
   have OY:∀(D':Dev)(y:Nat->Prop) (l':List Pg) (C:Int),(∀j,y j->P.Fd j\/w.heap.size<=j)->l'.Sublist P.l->∀b,(∀i,¬UB.cp {P with A:=A2,V:=V2} i b)->b<w.heap.size\/(∀j,y j->j≠b)->∀i,¬UB.cp {P with A:=A2,V:=V2,D:=D',Fd:=y,l:=l',mi:=z,wr:=C} i b:=λD' y l' C hF hl b hb bS i e=>by
    match i,e with
    |0,e=>exact hb 0 e
    | 1, e =>
      rcases bS with h| h
      ·rcases hF b e with e| e
       ·exact hb 1 e
       ·omega
      ·exact h b e O
    |2,e=>exact hb 2 e
    |3,e=>exact hb 3 e
    |4,e=>exact hb 4 e
    |5,⟨q,r,e⟩=>exact hb 5 ⟨q,hl.subset r,e⟩
   refine Tc (λe' w'=>e'=[(0,ptr P.s 0),(1,I no),(2,.bool M.isSome),(3,.func (.func f) #[] #[ptr x 0])]/\∃D' y l' C,Y4 w0 P0 w' {P with A:=A2,V:=V2,D:=D',Fd:=y,l:=l',mi:=z,wr:=C}/\zhv P txt K g D' l'/\Sk w' x [x0] 9/\(∀j,y j->P.Fd j\/w.heap.size<=j/\j≠x)) ?eg<|λeg=>?lZ
   case eg =>
    rintro e' w5⟨rfl,D',y,l',C,co,Y,te,yS⟩;have ns:no∉l'.map (·.k):=λe=>Ia ((u.keys no).1 ((Y.keys no).1 e).1);have z5:=co.k.size;have a5:=te.lt
    have J:∀i,¬UB.cp {P with A:=A2,V:=V2,D:=D',Fd:=y,l:=l',mi:=z,wr:=C} i x:=λi e=>by
     match i,e with
     |0,e=>exact F 0 e
     | 1, e =>
       rcases yS x e with e| e
       ·exact F 1 e
       ·exact e.2 O
     |2,e=>exact F 2 e
     |3,e=>exact H 3 e
     |4,e=>exact F 4 e
     |5,⟨q,r,e⟩=>exact F 5 ⟨q,Y.sub.subset r,e⟩
    refine qN O<|qV (VI (cs:=[_,_,_]) zlM O zlX O O)<|Sd O O (UD O (cs:=pgC [] false) O) ?_;rintro _ w6⟨b,rfl,hb,aM,aW⟩;replace aW:Sk w6 b [S [],.bool false,I 0] 220:=aW;have W:=co.ext aM;have pZ:=aM.S4 te;have q9:b≠x:=ω
    have U:∀i,¬UB.cp {P with A:=A2,V:=V2,D:=D',Fd:=y,l:=l',mi:=z,wr:=C} i b:=co.m.new ω;have a4:=aW.lt
    have BZ:UM (XK l') no=none:=z6h λe=>ns (by
     unfold XK at e;rw[y1l] at e
     exact e)
    refine Sq O<|SX O<|qV (Vn O) ?_
    cases M with
    | none =>
      refine S5<|Sb O ?_;have nR:=W.m.cells;dsimp only at nR;have eH:=zdn no W.m.dev (k:=K) ⟨by have:=Y.ca;show D'.calls<=_;omega,by have:=Y.cc;show D'.cache.length<=_;omega,trivial,Y.W8⟩ hK
      have OZ:D'.read no=({D' with reads:=IntKind.i64.wrap (D'.reads+1)},txt no,0):=by
       have hh:D'.has no=true:=by
        have:=Y.B;have:=u.B;simp[Dev.has];omega
       unfold Dev.read;rw[if_neg (by rw[Y.down];simp),if_neg (by rw[hh];simp),Y.now no h0 h1 ns]
      dsimp only at eH;rw[OZ] at eH;dsimp only at eH;refine TV O<|SC O<|Sn YM O<|qV (Sc U26 O O nR O)<|Sf O<|Sr zmk O eH ?_;rintro _ w7⟨rfl,uH⟩;obtain⟨Q,C1,C2⟩:=W.dev uH;have jb:Kp y w6 w7:=uH.kpF;have cm:=jb.S4 aW (U 1);have xi:=jb.S4 pZ (J 1);refine Sf O (qV (UY (v:=S (txt no)) O O) (qV (UY (v:=I 0) O O) (SC O (Sn ZG O (Sn z6N O (Sm O (TO ti9 O O O cm ξ) ?_))))));rintro w8⟨aZ,aH⟩;replace aZ:Sk w8 b (pgC (txt no) false) 220:=aZ
      have xj:∀i,¬UB.cp {P with A:=A2,V:=V2,D:={D' with reads:=IntKind.i64.wrap (D'.reads+1)},Fd:=Q,l:=l',mi:=z,wr:=C} i b:=λi e=>by
       match i,e with
       |0,e=>exact U 0 e
       | 1, e =>
         rcases C2 b e with e| e
         ·exact U 1 e
         ·omega
       |2,e=>exact U 2 e
       |3,e=>exact U 3 e
       |4,e=>exact U 4 e
       |5,e=>exact U 5 e
      have m8:∀i,¬UB.cp {P with A:=A2,V:=V2,D:={D' with reads:=IntKind.i64.wrap (D'.reads+1)},Fd:=Q,l:=l',mi:=z,wr:=C} i x:=λi e=>by
       match i,e with
       |0,e=>exact J 0 e
       | 1, e =>
         rcases C2 x e with e| e
         ·exact J 1 e
         ·have:=pZ.lt;omega
       |2,e=>exact J 2 e
       |3,e=>exact J 3 e
       |4,e=>exact J 4 e
       |5,e=>exact J 5 e
      have gP:=C1.loc aH (λj e=>by rw[show j=b from e];exact⟨.inr ω,xj⟩);have Ib:=aH.S4 xi (λe=>q9 e.symm);have C3:=gP.m.cells;dsimp only at C3;refine TR O<|TK O<|S5<|SI.qb (e:=[(0,_),(1,_),(3,_),(10,_),(13,_),(106,_)]) ?_;refine VP O<|SE O<|SC O<|Sn YS O<|qV (Sc z0w O O C3 O)<|Sz O<|Sm O (zkj (k:=no) (K:=KI) z0w (VH U3) O O O gP.m.mp) ?_;rintro w9⟨Z,X⟩;dsimp only at Z;rw[Yq _ _ _ BZ] at Z;have iR:=gP.ins (g:=⟨no,b,txt no,false⟩) ⟨by dsimp only;omega,xj⟩ aZ (by unfold XK at Z⊢;rw[y0f];exact Z) X;have cI:=X.S4 aZ (xj 4);have xl:=X.S4 Ib (m8 4);refine qM O<|Sz O<|Uk O O (Vc rI O O) (I5 w9 b (txt no) false q9 cI xl) ?_;rintro _ a1⟨rfl,uP,qa,aD⟩;refine qM O<|Sq O<|S3 func120 O ?_
      have BY:∀i,¬UB.cp {P with A:=A2,V:=V2,D:={D' with reads:=IntKind.i64.wrap (D'.reads+1)},Fd:=Q,l:=l'++[⟨no,b,txt no,false⟩],mi:=z,wr:=C} i x:=λi o=>by
       match i,o with
       |0,o=>exact m8 0 o
       |1,o=>exact m8 1 o
       |2,o=>exact m8 2 o
       |3,o=>exact m8 3 o
       |4,o=>exact m8 4 o
       | 5, ⟨q, r, o⟩ =>
         rcases y0y.1 r with e3|e3
         ·exact m8 5 ⟨q,e3,o⟩
         ·rw[y0F.1 e3] at o;exact q9 o
      exact⟨_,O,O,qa,_,iR.loc aD (λj e=>⟨.inr (by rw[show j=x from e];exact kR),by rw[show j=x from e];exact BY⟩),u.zm3 h0 h1 Ia oH (by rw[hT];exact Y) (by rw[hT]) O O O,⟨O,O,O,O,O,O,O,O,O⟩,BY⟩
    | some t =>
      refine S5<|S9 O ?_;have nR:=W.m.cells;dsimp only at nR;refine S6<|SE O<|SC O<|Sn YS O<|qV (Sc z0w O O nR O)<|Sz O<|Sm O (zkj (k:=no) (K:=KI) z0w (VH U3) O O O W.m.mp) ?_;rintro w9⟨Z,X⟩;dsimp only at Z;rw[Yq _ _ _ BZ] at Z;have iR:=W.ins (g:=⟨no,b,[],false⟩) ⟨by dsimp only;omega,U⟩ aW (by unfold XK at Z⊢;rw[y0f];exact Z) X;have cI:=X.S4 aW (U 4);have xl:=X.S4 pZ (J 4);refine qM O<|Sz O<|Uk O O (Vc rI O O) (I5 w9 b [] false q9 cI xl) ?_;rintro _ a1⟨rfl,uP,qa,aD⟩;refine qM O<|Sq O<|S3 func120 O ?_;have pK:=iR.zm9 (g:=⟨no,b,[],false⟩) (List.mem_append_right _ (y0F.2 O)) uP aD;refine⟨_,O,O,qa,_,pK,u.zm3 h0 h1 Ia oH (by rw[hT];exact Y) (by rw[hT]) (z4A ns) O O,⟨rfl,rfl,rfl,rfl,rfl,rfl,rfl,rfl,rfl⟩,λi o=>?_⟩
      match i,o with
      |0,o=>exact J 0 o
      |1,o=>exact J 1 o
      |2,o=>exact J 2 o
      |3,o=>exact J 3 o
      |4,o=>exact J 4 o
      | 5, ⟨q, r, o⟩ =>
        have e4:=z4A (b:=b) (t0:=[]) (t:=(some t).getD []) (d0:=false) (d:=(some t).isSome ||false) ns;have P3:q∈l'++[⟨no,b,(some t).getD [],(some t).isSome ||false⟩]:=by rw[<-e4];exact r
        rcases y0y.1 P3 with e3|e3
        ·exact J 5 ⟨q,e3,o⟩
        ·rw[y0F.1 e3] at o;exact q9 o
   case lZ=>
    cases g with
    | none =>
      refine VP O ?_
      exact(eg _ _ ⟨O,_,_,_,P.wr,E,u.zmT,ta,λj e=> .inl e⟩).qb
    | some gk =>
      obtain⟨P4,P5⟩:=iu.gone gk O
      obtain⟨q,r,I7⟩:∃q∈P.l,q.k=gk:=by
       obtain⟨q,a,b⟩:=y0k.1 ((u.keys gk).2 P4);exact⟨q,a,b⟩
      subst I7;have eA:=E.m.get r;dsimp only at eA;have G:=Ext.Sv p;refine Sb O<|It<|Ux (λw'=>Ext p w') O<|St 0 O O G<|S8 1 O (Tu O) G<|S8 2 O (SN YS O) G<|qT 3 O (λ_ h=>(Sc z0w O O (h.S4 ju) O)) G<|S8 4 O (SN z7q O) G<|qT 5 O (λ_ h=>(Sc U3 O O (h.S4 kq) O)) G<|qT 6 O (λ_ h=>ylk (k:=q.k) (K:=KI) z0w (VH U3) zfK O O (E.m.ext' h).mp.l) G ?_;dsimp only;rw[eA];refine S8 7 O (UU O) G<|qE<|SI.qb (e:=[(0,_),(1,_),(2,_),(3,_),(8,_),(9,_),(10,_),(11,_)]) ?_;refine It ?_;have R:=Ext.Sv p.drew;have qc:=G.S4 ju;have kd:=G.S4 kq;have co:=E.ext (G.trans R);refine Sx [6] (λw'=>Ext p.drew w') y00 O<|Te 0 O O R<|SB 1 O (Tu O) R<|SB 2 O (SN YS O) R<|qL 3 O (λ_ h=>(Sc z0w O O (h.S4 qc) O)) R<|SB 4 O (SN z7q O) R<|qL 5 O (λ_ h=>(Sc U3 O O (h.S4 kd) O)) R<|Wg [6]<|qO 6<|zg7 (i:=6) O O (zjS (k:=q.k) (K:=KI) z0w (VH U3) O O co.m.mp O) ?_;rintro _ w6⟨zj,aI⟩;refine⟨trivial,?_⟩;dsimp only at zj;rw[z5T] at zj;have W:=co.del (WI P.l q.k) zj aI;have Ic:Sk p q.b (pgC q.t q.d) 220:=E.m.pg q r;have C4:q.b≠P.pm:=λe=>E.m.YA 5 4 ψ q.b ⟨q,r,O⟩ e;have vM:=aI.S4 ((G.trans R).S4 Ic) C4
      have U:∀i,¬UB.cp {P with A:=A2,V:=V2,h:=P.h,mi:=z,wr:=P.wr,l:=Wl P.l q.k} i q.b:=λi e=>by
       match i,e with
       |0,e=>exact E.m.YA 5 0 ψ q.b ⟨q,r,O⟩ e
       |1,e=>exact E.m.YA 5 1 ψ q.b ⟨q,r,O⟩ e
       |2,e=>exact E.m.YA 5 2 ψ q.b ⟨q,r,O⟩ e
       |3,e=>exact E.m.YA 5 3 ψ q.b ⟨q,r,O⟩ e
       |4,e=>exact C4 e
       | 5, ⟨q2, ia, e⟩ =>
         have o:q2=q:=Wr E.m.pnd ((WI P.l q.k).subset ia) r e;have:=((z4k u.nd q.k q2.k).1 (y0k.2 ⟨q2,ia,O⟩)).2;exact this (by rw[o])
      have tf:=u.rng q r;have I9:=u.tx q r;have B1:q.t.length=512:=by rw[I9];exact u.len q.k tf.1 tf.2
      have pZ:=aI.S4 ((G.trans R).S4 ta) (H 4);have nR:=W.m.cells;have Id:=aI.S4 ((G.trans R).S4 kq) (BX 4);have a8:=(G.trans R).size;have a9:=aI.size;refine qE<|SE O<|Sn z7q O<|qV (Sc U3 O O Id O)<|Sf O<|Sr zlz O (z8U W.m u.zjZ u.down u.due u.B u.N hK tf.1 tf.2 B1 vM U) ?_;rintro _ w7⟨rfl,Q,a2,iq,ay,C2⟩;have C1:=W.write iq ay C2 (E.fp q.b ⟨5,q,r,O⟩);have xh:q.b≠x:=λe=>F 5 ⟨q,r,e⟩
      have xi:=ay.S4 pZ (λe=>by
       rcases e with e|e| e
       ·exact xh e.symm
       ·exact F 0 e
       ·exact F 1 e)
      refine TR O<|TK O<|Tt O ?_;exact(eg _ _ ⟨O,_,Q,_,a2,C1,u.zlC r,xi,λj e=>(C2 j e).imp id λe=>⟨ω,ω⟩⟩).qb
end
section
variable {P P':UB}
def zdi {x:Nat}{d:Bool}(h:b≠x)(c:Sk w b (pgC t d) 220)(l:Sk w x [x0] 9):SG prog 121 [ptr b 0,ptr x 0] w λv w2=>v= .tuple #[]/\Sk w2 b (pgC t d) 220/\Sk w2 x [S t] 9/\Kp (λj=>j=x) w w2:=by
 replace c:Sk w b [S t,.bool d,I 0] 220:=c
 refine py (e:=[(0,_),(1,_)]) func121 O ntmps121 O O<|Uw O<|SC O<|Sn ZG O<|Sn z6N O<|qV (Sc U9 O O c O)<|Sm O (TO ti9 O O O l ξ) ?_
 rintro w1⟨g,f⟩
 refine S5<|Tv func121 O ?_
 exact⟨_,O,O,f.S4 c h,g,f⟩
def zaK {x:Nat}{s:Sa}{d:Bool}(l:b≠x)(c:Sk w b (pgC t d) 220)(g:Sk w x [S s] 9):SG prog 139 [ptr b 0,ptr x 0] w λv w2=>v= .tuple #[]/\Sk w2 b (pgC s true) 220/\Sk w2 x [S s] 9/\Kp (λj=>j=b) w w2:=by
 replace c:Sk w b [S t,.bool d,I 0] 220:=c
 refine py (e:=[(0,_),(1,_)]) func139 O ntmps139 O O<|Uw O<|qV (Sc U9 O O g O)<|qV (VI (cs:=[_,_]) zcm O zo0 O O)<|SC O<|Sn ZG O<|Sm O (Ta (news:=[S s,.bool true]) zcm O O O O c ξ) ?_
 rintro w1⟨h,f⟩
 refine S5<|Tv func139 O ?_
 exact⟨_,O,O,h,f.S4 g (λe=>l e.symm),f⟩
theorem z9L (n:Y8 w P)(l:ZX P txt K)(G:K<1000000000000){no:Int}(E:0<=no)(F:no<(P.L.length:Int)):SG prog 83 [ptr P.s 0,I no] w λv w'=>v= .tuple #[S (txt no),I 0]/\∃P',Y4 w P w' P'/\ZX P' txt K/\P.Same P':=by
 refine py (e:=[(0,_),(1,_)]) func83 O ntmps83 O O<|qN O<|Sd O O (UK (cs:=[_]) ti9 O) ?_
 rintro _ w1⟨x,rfl,o,u,hB⟩
 have h:=n.r u
 have B:∀i,¬P.cp i x:=n.new ω
 refine Sq O<|SX O<|Sr zj0 O (z3F h.m l.down) ?_
 rintro _ w1⟨rfl,rfl⟩
 refine TR O<|TK O<|Tt O<|TV O<|qV (ymf (first:=[]) (caps:=[.tmp 4]) O O)<|Sr zii O (z3i h l G E F none (λt e=>by cases e) ω B hB zkG (λw1 b t d D H o=>zdi D H o)) ?_
 rintro _ w2⟨rfl,c,P',C,g,z,q⟩
 rw[z2L] at g
 replace c:Sk w2 x [S (txt no)] 9:=c
 refine Up O<|qV (Sc U9 O O c O)<|Sf O<|Sm O (TO ti9 O O O c ξ) ?_
 rintro J⟨f,y⟩
 replace f:Sk J x [S (txt no)] 9:=f
 refine Sq O<|SF func83 (.cell1 U9 O O ((f).cell _) (.tmp O .nil)) ?_
 exact⟨_,O,O,P',C.loc y (λj e=>by rw[show j=x from e];exact⟨.inr ω,q⟩),g,z⟩
theorem zd1 (g:Y8 w P)(f:ZX P txt K)(C:K<1000000000000){no:Int}(z:0<=no)(B:no<(P.L.length:Int))(t:Sa)(ht:t.length=512):SG prog 100 [ptr P.s 0,I no,S t] w λv w'=>v=I 0/\∃P',Y4 w P w' P'/\ZX P' (z2K txt no (some t)) (K+1)/\P.Same P':=by
 refine py (e:=[(0,_),(1,_),(2,_)]) func100 O ntmps100 O O<|qN O<|Sd O O (UD O (cs:=[S t]) O) ?_
 rintro _ w1⟨x,rfl,j,l,hB⟩
 have c:=g.r l
 have q:∀i,¬P.cp i x:=g.new ω
 refine Sq O<|SX O<|Sr zj0 O (z3F c.m f.down) ?_
 rintro _ w1⟨rfl,rfl⟩
 refine TR O<|TK O ?_
 have hg:=Ext.Sv w1
 refine Tt O<|It<|It<|Ux (λw'=>Ext w1 w') O<|qT 0 O (λ_ h=>Sc U9 O O (h.S4 hB) O) hg<|S8 1 O (Ys U9 O) hg<|St 2 O O hg<|VF 3 O z82 O (z4f (c.m.ext' hg) f.N) ?_
 rintro _ w2⟨rfl,rfl⟩
 refine⟨hg,?_⟩
 refine S8 4 O (yne O O) hg<|WW<|qE<|VP O<|TV O<|qV (ymf (first:=[]) (caps:=[.tmp 5]) O O)<|Sr zii O (z3i (c.ext hg) f C z B (some t) (λs e=>by cases e;exact ht) ω q (hg.S4 hB) zo5 (λw1 b t2 d y D j=>zaK y D j)) ?_
 rintro _ w2⟨rfl,F,P',u,n,o,E⟩
 refine Sq O<|S3 func100 O ?_
 exact⟨_,O,O,P',u,n,o⟩
theorem zaZ (l:Y8 w P){n:Nat}(C:Pre P.L a)(y:1<=n)(E:a+n<=P.L.length):SG prog 66 [ptr P.s 0,I (n:Int)] w λv w'=>v= .tuple #[.agg #[I (a:Int),I (n:Int)],I 0]/\Y4 w P w' {P with L:=Th P.L a n true}:=by
 refine py (e:=[(0,_),(1,_)]) func66 O ntmps66 O O<|qN O<|Sd O O (UK (cs:=[_,_]) UF O) ?_
 rintro _ w1⟨x,rfl,G,o,hB⟩
 have g:=l.r o
 have d:∀i,¬P.cp i x:=l.new ω
 have D:=g.m.cells
 refine Sq O<|SX O<|qV (T9 Zh O O)<|Tt O<|SE O<|SC O<|Sn z7k O<|qV (Sc U66 O O D O)<|Sf O<|Sr zpp O (z8i g.m.ext C y E) ?_
 rintro _ w2⟨rfl,B,h⟩
 have z:=g.exM B h
 have q:=h.S4 hB (λe=>d 2 (.inr e))
 refine qV (UY (v:= .agg #[I (a:Int),I (n:Int)]) O O)<|qV (UY (v:=I 0) O O)<|Sm O (Ta (news:=[I (a:Int),I (n:Int)]) UF O O O O q ξ) ?_
 rintro F⟨f,u⟩
 replace f:Sk F x [I (a:Int),I (n:Int)] 124:=f
 refine Sq O<|SF func66 (.cell Z1 O UF O (Sk.cells (n:=2) f (news:=[_,_]) O) O (.tmp O .nil)) ?_
 refine⟨_,rfl,rfl,z.loc u (λj e=>by
  rw[show j=x from e];refine⟨.inr ω,λi c=>?_⟩
  match i,c with
  |0,c=>exact d 0 c
  |1,c=>exact d 1 c
  |2,c=>exact d 2 c
  |3,c=>exact d 3 c
  |4,c=>exact d 4 c
  |5,c=>exact d 5 c)⟩
theorem ZX.Tl (h:ZX P txt K)(d:L'.length=P.L.length):ZX {P with L:=L'} txt K:=
 ⟨h.aok,h.asz,h.keys,h.nd,λg hg=>by rw[d];exact h.rng g hg,h.tx,h.cl,λx e c=>by rw[d] at c;exact h.out x e c,λx e c=>by rw[d] at c;exact h.len x e c,h.down,h.due,h.B.trans d.symm,h.N,h.ca,h.cc,h.W8⟩
theorem zcQ {d m gi:Nat}{L:List Bool}{Fd:Nat->Prop}(G:z07 w d (Dev.fresh L.length 1) Fd)(y:ExM w m gi L)(r:¬Fd m/\¬Fd gi)(n:Nat)(E:1<=n)(Y:n<=1000):SG prog 32 [ptr d 0,I (n:Int),ptr m 0] w λv w'=>∃P,v= .tuple #[ptr P.s 0,I 0]/\Y8 w' P/\ZX P (λ_=>zeros 512) 0/\P.m=m/\P.gi=gi/\P.L=L/\(∀b,P.fp b->Fd b\/b=m\/b=gi\/w.heap.size<=b)/\Ext w w':=by
 refine py (e:=[(0,_),(1,_),(2,_)]) func32 O ntmps32 O O<|qN O<|To O<|TZ<|SE O<|qV (T9 U26 O O)<|Sz O<|qV (T9 U66 O O)<|Td O<|Sq O<|S9 O<|SE O<|TW O<|T0 ?_
 refine Sz O<|Ub O<|T0<|Td O<|Sq O<|VP O<|S2<|SE O<|Sr zpg O (zf0 n E ω w) ?_
 rintro _ w1⟨c,V,p,rfl,M,H,B⟩
 refine Sf O<|qV (UY (v:=ptr c 0) O O)<|qV (UY (v:=I 0) O O)<|To O<|SI.qb (e:=[(0,_),(1,_),(2,_),(6,_),(7,_),(8,_),(9,_)]) ?_
 refine SX O<|TK O<|Tt O<|TV O<|Sf O<|Sd O O pmm ?_
 rintro _ w2⟨pm,rfl,k,C,W⟩
 have J:Wk KI w2 pm []:=Wk.new W
 have Z:=J.lt
 refine Sf O<|qV (VI (cs:=[_,_,_,_,_,_,_]) z5H O zoq O O)<|qV (VI (cs:=[_,_,_,_,_,_,_,_,_,_,_,_]) zmD O zlo O O)<|Sd O O (UD O (cs:=plC ⟨0,d,m,gi,c,pm,p,n,V,Dev.fresh L.length 1,zab n,[],L,Fd,0,0,0⟩) O) ?_
 rintro _ K⟨s,rfl,A,D,S⟩
 refine To O<|S3 func32 O ?_
 have T:=B.size
 have X:=C.size
 have F:=C.trans D
 have u:=B.trans F
 have a:=M.ext F
 have Q:∀{b:Nat},Wj c V p b->b<w1.heap.size:=M.lt
 have R:=G.lt
 have ltm:=y.ltm
 have ltg:=y.ltg
 refine⟨_,O,⟨s,d,m,gi,c,pm,p,n,V,Dev.fresh L.length 1,zab n,[],L,Fd,0,0,0⟩,O,⟨S,G.ext u,y.ext u,a,J.ext D,(λg hg=>by cases hg),y1G,?_⟩,⟨zgJ E,Y,λx=>?_,y1G,(λg hg=>by cases hg),(λg hg=>by cases hg),(λg hg=>by cases hg),λx _ _ _=>rfl,λx _ _=>by simp[zeros],rfl,rfl,rfl,rfl,Int.le_refl _,y07 _,y02 _⟩,O,O,O,λb ⟨i,q⟩=>?_,u⟩
 ·intro i j ne b q U
  have o:∀i,UB.cp ⟨s,d,m,gi,c,pm,p,n,V,Dev.fresh L.length 1,zab n,[],L,Fd,0,0,0⟩ i b->(i=0/\b=s)\/(i=1/\Fd b/\b<w.heap.size)\/(i=2/\(b=m\/b=gi)/\b<w.heap.size)\/(i=3/\w.heap.size<=b/\b<w1.heap.size)\/(i=4/\b=pm):=λi q=>by
   match i,q with
   |0,e=>exact .inl ⟨O,e⟩
   |1,e=>exact .inr (.inl ⟨O,e,R b e⟩)
   |2,e=>exact .inr (.inr (.inl ⟨O,e,by have t:b=m\/b=gi:=e;omega⟩))
   |3,e=>exact .inr (.inr (.inr (.inl ⟨O,H b e,Q e⟩)))
   |4,e=>exact .inr (.inr (.inr (.inr ⟨O,e⟩)))
   |5,⟨g,hg,e⟩=>cases hg
  have h:=o i q;have l:=o j U;rcases h with⟨e,h⟩|⟨e,h,N⟩|⟨e,h,N⟩|⟨e,h,N⟩|⟨e,h⟩<;>rcases l with⟨f,l⟩|⟨f,l,z⟩|⟨f,l,z⟩|⟨f,l,z⟩|⟨f,l⟩<;>first|omega|skip
  ·rcases l with e| e
   ·exact r.1 (e▸h)
   ·exact r.2 (e▸h)
  ·rcases h with e| e
   ·exact r.1 (e▸l)
   ·exact r.2 (e▸l)
 ·constructor
  ·intro e;cases e
  ·intro e;rcases e with e|e<;>cases e
 ·match i,q with
  |0,e=>exact .inr (.inr (.inr (by have:b=s:=e;omega)))
  |1,e=>exact .inl e
  |2,e=>rcases e with e|e;exact .inr (.inl e);exact .inr (.inr (.inl e))
  |3,e=>exact .inr (.inr (.inr (H b e)))
  |4,e=>exact .inr (.inr (.inr (by have:b=pm:=e;omega)))
  |5,⟨g,hg,e⟩=>cases hg
end
def zdZ {l:List (Int×Sa)}{n:Int}(h:z0n l n=some t):∃x∈l,x.2=t:=by
 unfold z0n at h
 obtain⟨x,c,e⟩:=y1W.1 h
 exact⟨x,List.mem_reverse.1 (List.mem_of_find?_eq_some c),e⟩
theorem Dev.Ok.zh5 {D:Dev}(h:D.Ok)(n:Int):(D.now n).length=512*D.N:=by
 unfold Dev.now
 cases c:z0n D.cache n with
 |none=>exact h.kept n
 | some t =>
   obtain⟨x,d,rfl⟩:=zdZ c;exact(h.cache x d).2.2
section
variable {P P':UB}
theorem ZX.zm5 (h:ZX P txt K)(r:P.D.Ok):ZX {P with A:=P.A.drop k,l:=Wl P.l k} (λx=>if x=k then P.D.now k else txt x) K:=by
 have o:=z4k h.nd k
 have g:=WI P.l k
 have n:=Arc.zcN h.aok k
 have C:=h.ca
 have z:=h.cc
 have y:Vt (Wl P.l k)<=Vt P.l:=g.countP_le
 have f:∀q∈Wl P.l k,q∈P.l/\q.k≠k:=λq c=>⟨g.subset c,((o q.k).1 (y0k.2 ⟨q,c,O⟩)).2⟩
 refine⟨h.aok.drop k,h.asz,λx=>by dsimp only;rw[o,n,h.keys],(g.map _).nodup h.nd,λq c=>h.rng q (f q c).1,λq c=>?_,λq c v=>?_,λx j d m=>?_,λx j d=>?_,h.down,h.due,h.B,h.N,by dsimp only;omega,by dsimp only;omega,h.W8⟩
 ·rw[if_neg (f q c).2];exact h.tx q (f q c).1
 ·rw[if_neg (f q c).2];exact h.cl q (f q c).1 v
 ·dsimp only at d m⊢;rw[n,not_and] at m;by_cases e:x=k
  ·rw[if_pos e,e]
  ·rw[if_neg e];exact h.out x j d λu=>m u e
 ·dsimp only at d⊢;by_cases e:x=k
  ·rw[if_pos e,r.zh5,h.N]
  ·rw[if_neg e];exact h.len x j d
def ZX.z0c (h:ZX P txt K)(c:P'.A=P.A)(f:P'.l=P.l)(d:P'.D=P.D)(e:P'.L=P.L):ZX P' txt K:=by
 obtain⟨g,a2,j,m,n,o,q,r,u,b1,b2,b3,v,b5,b6,b7⟩:=h
 constructor<;>simp only[c,f,d,e]<;>assumption
def Y8.dok (h:Y8 w P):P.D.Ok:=by
 obtain⟨m,kp,ca,c,-⟩:=h.dev
 exact c.ok
theorem zed (l:List Pg)(k:Int):(k∉l.map (·.k)/\UM (XK l) k=none)\/∃q∈l,q.k=k/\UM (XK l) k=some (ptr q.b 0):=by
 induction l with
 |nil=>exact .inl ⟨ξ,O⟩
 | cons g l d =>
   show _\/_;by_cases h:k=g.k
   ·exact .inr ⟨g,y0s,h.symm,if_pos h⟩
   ·have e:UM (XK (g::l)) k=UM (XK l) k:=if_neg h;rw[e];rcases d with⟨a,b⟩|⟨q,a,b,c⟩
    ·exact .inl ⟨by simp[h] at a⊢;exact a,b⟩
    ·exact .inr ⟨q,y0u _ a,b,c⟩
theorem zaz (J:Y8 w P)(hI:ZX P txt K){n:Nat}(cy:1<=n)(jE:s+n<=P.L.length):SG prog 108 [ptr P.s 0,.agg #[I (s:Int),I (n:Int)]] w λv w'=>v=I 0/\∃P' txt',Y4 w P w' P'/\ZX P' txt' K/\(∀x:Int,x<(s:Int)\/(s:Int)+(n:Int)<=x->txt' x=txt x)/\P.Same P':=by
 have eE:=J.ext.n
 have nP:=J.cells
 refine py (e:=[(0,_),(1,_)]) func108 O ntmps108 O O<|qN O<|Sd O O (UD O (cs:=[I (s:Int),I (n:Int)]) O) ?_
 rintro _ w1⟨b3,rfl,dS,aa,E⟩
 have cS:=J.r aa
 have pC:∀i,¬P.cp i b3:=J.new ω
 have M:=aa.S4 nP
 have hg:=Ext.Sv w1
 have Z:=z0y (cS.m.dev.ext hg)
 rw[hI.B] at Z
 refine Sq O<|TZ<|SE O<|qV (T9 Zh O O)<|Sq O<|S9 O<|SE O<|SC O<|Sn zck O<|qV (Sc U4 O O M O)<|Sq O<|S9 O<|It<|Ux (λw'=>Ext w1 w') O ?_
 refine S8 0 O (SN UI O) hg<|qT 1 O (λ_ h=>(Sc U3 O O (h.S4 E) O)) hg<|S8 2 O (ylt O O) hg<|WW<|St 3 O O hg<|S8 4 O (SN Us O) hg<|qT 5 O (λ_ h=>(Sc U3 O O (h.S4 E) O)) hg<|S8 6 O (ylt O O) hg<|WW<|S8 7 O (Xg O O) hg<|St 8 O O hg<|S8 9 O (SN Us O) hg<|qT 10 O (λ_ h=>(Sc U3 O O (h.S4 E) O)) hg<|St 11 O O hg ?_
 refine S8 12 O (Tu O) hg<|S8 13 O (SN YM O) hg<|qT 14 O (λ_ h=>(Sc U26 O O (h.S4 M) O)) hg<|VF 15 O z7N O Z ?_
 rintro _ w2⟨rfl,rfl⟩
 refine⟨hg,?_⟩
 refine S8 16 O (yge O O) hg<|WW<|S8 17 O (Xg O O) hg<|St 18 O O hg<|S8 19 O (SN UI O) hg<|qT 20 O (λ_ h=>(Sc U3 O O (h.S4 E) O)) hg<|St 21 O O hg<|S8 22 O (Tu O) hg<|S8 23 O (SN YM O) hg<|qT 24 O (λ_ h=>(Sc U26 O O (h.S4 M) O)) hg<|S8 26 O (SN Us O) hg<|qT 27 O (λ_ h=>(Sc U3 O O (h.S4 E) O)) hg<|VF 25 O z7N O Z ?_
 rintro _ w2⟨rfl,rfl⟩
 refine⟨hg,?_⟩
 refine S8 28 O (ysb O O ω) hg<|S8 29 O (ygt O O) hg<|WW<|S8 30 O (Xg O O) hg<|S8 31 O (UU O) hg ?_
 obtain⟨w2,mQ⟩:∃w2,w1.drew=w2:=⟨_,O⟩
 rw[mQ] at hg⊢
 have U:=hg.S4 E
 have dr:=cS.ext hg
 have ma:=hg.S4 M
 have l3:=U.lt
 refine qE<|SI.qb (e:=[(0,_),(3,_),(4,_),(16,_)]) ?_
 refine VP O<|S2<|It<|qN O<|Sn UI O<|qV (Sc U3 O O U O)<|Sf O<|S5<|S7<|UW (α:=Nat) (0) (λi=>[(0,ptr P.s 0),(3,ptr b3 0),(49,I (n:Int)),(50,I (i:Int))]) (λi w'=>Ext w2 w'/\i<=n) (λi=>n-i) ?hI ?hround
 case hI=>exact⟨Ext.refl _,y02 _⟩
 case hround =>
  rintro i w3⟨G,hi⟩ ih;have Q:=dr.ext G;have m7:=G.S4 ma;have Y:=G.S4 U;have f:=Ext.Sv w3
  try dsimp only
  refine qN O<|TW O<|S5<|It<|So O (λh0=>?_)<|λh0=>?_
  ·refine S6 (TZ (SE O (Sq O (It (Ux (λw'=>Ext w3 w') O (St 0 O O f (S8 1 O (Tu O) f (S8 2 O (SN YS O) f (qT 3 O (λ_ h=>(Sc z0w O O (h.S4 m7) O)) f (S8 4 O (SN Us O) f (qT 5 O (λ_ h=>(Sc U3 O O (h.S4 Y) O)) f (St 6 O O f (S8 7 O (YB O O ω) f ?_)))))))))))));rw[show(s:Int)+(i:Int)=((s+i:Nat):Int) by omega];refine qT 8 O (λ_ hS=>ylk (k:=((s+i:Nat):Int)) (K:=KI) z0w (VH U3) zfK O O (Q.m.ext' hS).mp.l) f ?_;rcases zed P.l ((s+i:Nat):Int) with⟨-,W⟩|⟨q,a,-,W⟩
   ·rw[W];refine S8 9 O (UU O) f<|qE<|SE O<|qV (z8Y zm0 O O)<|Sf O<|Ua<|Ua<|qS<|Td O<|Tt O<|S2<|Sg O<|Tr O<|Sf O ?_;refine S5 ?_;exact(ih (i+1) _ ⟨G.trans f,ω⟩ ω).qb
   ·rw[W];have ue:=(f.S4 (Q.m.pg q a):Sk w3.drew q.b [S q.t,.bool q.d,I 0] 220);refine S8 9 O (UU O) f<|qE<|SE O<|qV (z8Y zm0 O O)<|Sz O<|SC O<|Sn zgP O<|qV (Sc U3 O O ue O)<|Ub O<|T0<|Uj O<|Tt O<|S2<|Sg O ?_;refine Tr O<|Sf O<|S5 ?_;exact(ih (i+1) _ ⟨G.trans f,ω⟩ ω).qb
  ·have aO : i = n := by omega
   subst aO;refine Sh O<|It<|qN O<|Sn UI O<|qV (Sc U3 O O Y O)<|Sf O<|S5<|S7<|UW (α:=Nat×UB×(Int->Sa)) (0,P,txt) (λy=>[(0,ptr P.s 0),(3,ptr b3 0),(73,I (i:Int)),(74,I (y.1:Int))]) (λy w'=>Y4 w P w' y.2.1/\ZX y.2.1 y.2.2 K/\y.1<=i/\P.Same y.2.1/\(∀x:Int,x<(s:Int)\/(s:Int)+(i:Int)<=x->y.2.2 x=txt x)/\Sk w' b3 [I (s:Int),I (i:Int)] 124/\∀j,¬y.2.1.cp j b3) (λy=>i-y.1) ?hI ?hround
   case hI=>exact⟨Q,hI,y02 _,⟨rfl,rfl,rfl,rfl,rfl,rfl,rfl,rfl,rfl⟩,λx _=>rfl,Y,pC⟩
   case hround =>
    rintro⟨j,Pj,tj⟩ w4 ⟨F,T,hj,g,A,R,C⟩ H;dsimp only at F T hj g A R C H⊢;have ju:=F.m.cells;rw[g.s] at ju;have o:=Ext.Sv w4;have cY:=Ext.Sv w4.drew
    try dsimp only
    refine qN O<|TW O<|S5<|It<|So O (λh2=>?_)<|λh2=>?_
    ·refine S6 (TZ (SE O (Sq O (It (Sx [8] (λw'=>Ext w4 w') y00 O (Te 0 O O o (SB 1 O (Tu O) o (SB 2 O (SN YS O) o (qL 3 O (λ_ h=>(Sc z0w O O (h.S4 ju) O)) o (SB 4 O (SN Us O) o (qL 5 O (λ_ h=>(Sc U3 O O (h.S4 R) O)) o (Te 6 O O o (SB 7 O (YB O O ω) o ?_)))))))))))));refine Wg [8] ?_;rw[show(s:Int)+(j:Int)=((s+j:Nat):Int) by omega];refine qO 8<|zg7 (i:=8) O O (zjS (k:=((s+j:Nat):Int)) (K:=KI) z0w (VH U3) O O (F.ext o).m.mp O) ?_;rintro _ w5⟨sU,ai⟩;refine⟨trivial,?_⟩;rw[z5T] at sU;have co:=(F.ext o).del (WI _ _) sU ai;have N:=ai.S4 (o.S4 R) (C 4);have V:=co.m.cells;dsimp only at V;rw[g.s] at V;have u:=Ext.Sv w5;have cQ:=co.ext u;refine qE (Sx [8] (λw'=>Ext w5 w') y00 O (Te 0 O O u (SB 1 O (Tu O) u (SB 2 O (SN zbE O) u (qL 3 O (λ_ h=>(Sc zee O O (h.S4 V) O)) u (SB 4 O (SN Us O) u (qL 5 O (λ_ h=>(Sc U3 O O (h.S4 N) O)) u (Te 6 O O u (SB 7 O (YB O O ω) u (Wg [8] ?_))))))))));rw[show(s:Int)+(j:Int)=((s+j:Nat):Int) by omega];refine VF 8 O zmL O (zdG cQ.m.arc (k:=((s+j:Nat):Int))) ?_;rintro _ w6⟨⟨z,rfl⟩,V6,X⟩;refine⟨trivial,?_⟩;have C1:=cQ.arc X;have jS:=X.k.S4 (u.S4 N) (C 3);refine qE<|S2<|Sg O<|Tr O<|Sf O<|S5 ((H (j+1,_,_) _ ⟨C1,(T.zm5 F.m.dok (k:=((s+j:Nat):Int))).z0c O O O O,by dsimp only;omega,⟨g.s,g.d,g.m,g.gi,g.c,g.pm,g.p,g.fr,g.L⟩,λx hx=>?_,jS,λi2 e=>?_⟩ (by dsimp only;omega)).qb)
     ·show(if x=((s+j:Nat):Int) then Pj.D.now ((s+j:Nat):Int) else tj x)=txt x;rw[if_neg ω];exact A x hx
     ·match i2,e with
      |0,e=>exact C 0 e
      |1,e=>exact C 1 e
      |2,e=>exact C 2 e
      | 3, e =>
        rcases X.fp b3 e with e| e
        ·exact C 3 e
        ·have:=(u.S4 N).lt;omega
      |4,e=>exact C 4 e
      |5,⟨q,a,e⟩=>exact C 5 ⟨q,(WI _ _).subset a,e⟩
    ·have uv:j=i:=ω
     subst uv;refine Sh O<|TU O<|S3 func108 O ?_;exact⟨_,O,O,Pj,tj,F,T,A,g⟩
theorem zan (u:Y8 w P)(J:ZX P txt K){n:Nat}(o:1<=n)(G:2<=s)(g:s+n<=P.L.length)(M:∀i,s<=i->i<s+n->P.L[i]? =some true):SG prog 73 [ptr P.s 0,.agg #[I (s:Int),I (n:Int)]] w λv w'=>v=I 0/\∃P' txt',Y4 w P w' {P' with L:=Th P.L s n false}/\ZX {P' with L:=Th P.L s n false} txt' K/\(∀x:Int,x<(s:Int)\/(s:Int)+(n:Int)<=x->txt' x=txt x)/\P.Same P':=by
 refine py (e:=[(0,_),(1,_)]) func73 O ntmps73 O O<|qN O<|Sd O O (UD O (cs:=[I (s:Int),I (n:Int)]) O) ?_
 rintro _ w1⟨b3,rfl,R,C,f⟩
 have l:=u.r C
 have Q:∀i,¬P.cp i b3:=u.new ω
 refine Sq O<|SX O<|qV (SO (news:=[I (s:Int),I (n:Int)]) Z1 O UF O (Sk.cells (n:=2) f O) O)<|Sr znZ O (zaz l.m J o g) ?_
 rintro _ w2⟨rfl,P',txt',q,E,N,d⟩
 have S:=f.lt
 have H:=q.k.S4 f (λ⟨i,e⟩=>Q i e)
 have j:=l.trans q
 have z:=j.m.cells
 rw[d.s] at z
 refine TR O<|TK O ?_
 have c:=Ext.Sv w2
 have y:=(j.ext c).m.ext
 rw[d.L] at y
 refine Tt O<|It<|Sx [5,6] (λw'=>Ext w2 w') y00 O<|Te 0 O O c<|SB 1 O (Tu O) c<|SB 2 O (SN z7k O) c<|qL 3 O (λ_ h=>Sc U66 O O (h.S4 z) O) c<|qL 4 O (λ_ h=>SO (news:=[I (s:Int),I (n:Int)]) Z1 O UF O (Sk.cells (n:=2) (h.S4 H) O) O) c<|Wg [5]<|VF 5 O zlE O (zaw y s n o G g M) ?_
 rintro _ U⟨rfl,B,D⟩
 refine⟨trivial,?_⟩
 have F:=(j.ext c).exM B D
 refine S8 6 O (UU O) trivial<|qE<|S3 func73 O ?_
 exact⟨_,O,O,P',txt',F,E.Tl (by rw[TE g,d.L]),N,d⟩
end
def Sp (Q:UB)(txt:Int->Sa)(K:Nat)(X:Nat->Prop)(w:World):Prop:=∃P,Y8 w P/\ZX P txt K/\Q.Same P/\∀b,P.fp b->¬X b
section
variable {Q Q' P P':UB}{Y:Nat->Prop}{K':Nat}
theorem Sp.step (h:Sp Q txt K X w)(m:Kp S' w w')(j:∀b,S' b->X b)(l:∀b,Y b->X b\/w.heap.size<=b):Sp Q txt K Y w':=by
 obtain⟨P,f,g,n,d⟩:=h
 refine⟨P,f.kp m λb c e=>d b c (j b e),g,n,λb c e=>?_⟩
 rcases l b e with e| e
 ·exact d b c e
 ·have:=f.lt c;omega
theorem Sp.ext (h:Sp Q txt K X w)(d:Ext w w')(c:∀b,Y b->X b\/w.heap.size<=b):Sp Q txt K Y w':=h.step (S':=λ_=>False) d (λ_ e=>e.elim) c
def Sp.ext' (h:Sp Q txt K X w)(c:Ext w w'):Sp Q txt K X w':=h.ext c λ_ e=> .inl e
def Sp.own (h:Sp Q txt K X w)(d:Kp S' w w')(c:∀b,S' b->X b):Sp Q txt K X w':=h.step d c λ_ e=> .inl e
theorem Sp.of (c:∀b,P.fp b->¬X b)(f:∀b,X b->b<w.heap.size)(hr:Y4 w P w' P')(d:ZX P' txt' K')(j:Q'.Same P'):Sp Q' txt' K' X w'/\Kp (λb=>¬X b) w w':=
 ⟨⟨P',hr.m,d,j,λb g e=>by
  rcases hr.fp b g with h| h
  ·exact c b h e
  ·have:=f b e;omega⟩,hr.k.Se c⟩
def ZX.more (h:ZX P txt K)(o:K<=K'):ZX P txt K':=by
 obtain⟨c,a2,d,e,f,g,j,l,m,b1,b2,b3,n,b5,b6,b7⟩:=h
 exact⟨c,a2,d,e,f,g,j,l,m,b1,b2,b3,n,ω,ω,b7⟩
theorem Sp.more (h:Sp Q txt K X w)(d:K<=K'):Sp Q txt K' X w:=by
 obtain⟨P,f,c,g,e⟩:=h
 exact⟨P,f,c.more d,g,e⟩
theorem Sp.less (h:Sp Q txt K X w)(d:∀b,Y b->X b):Sp Q txt K Y w:=by
 obtain⟨P,j,c,l,g⟩:=h
 exact⟨P,j,c,l,λb f e=>g b f (d b e)⟩
theorem Sp.size (h:Sp Q txt K X w):SG prog 65 [ptr Q.s 0] w λv w'=>v=I 512/\w'=w:=by
 obtain⟨P,d,c,e,-⟩:=h
 rw[<-e.s]
 exact z4f d c.N
theorem Sp.dev (h:Sp Q txt K X w):SG prog 137 [ptr Q.s 0] w λv w'=>v=ptr Q.d 0/\w'=w:=by
 obtain⟨P,e,f,c,-⟩:=h
 rw[<-c.s,<-c.d]
 exact zcZ e
theorem Sp.blocks (h:Sp Q txt K X w):SG prog 138 [ptr Q.d 0] w λv w'=>v=I (Q.L.length:Int)/\w'=w:=by
 obtain⟨P,g,f,e,-⟩:=h
 have c:=z0y g.dev
 rw[f.B] at c
 rw[<-e.d,<-e.L]
 exact c
theorem Sp.map (h:Sp Q txt K X w):SG prog 24 [ptr Q.s 0] w λv w'=>v=ptr Q.m 0/\w'=w:=by
 obtain⟨P,d,e,c,-⟩:=h
 rw[<-c.s,<-c.m]
 exact ze6 d
theorem Sp.room (h:Sp Q txt K X w)(d:Pre Q.L a)(c:a<Q.L.length):SG prog 25 [ptr Q.m 0] w λv w'=>v=I ((Q.L.length-a:Nat):Int)/\Ext w w':=by
 obtain⟨P,f,g,e,-⟩:=h
 rw[<-e.m]
 rw[<-e.L] at d c⊢
 exact zaI f.ext d c
theorem Sp.z3f (h:Sp Q txt K X w){x:Int}(c:0<=x)(d:x<(Q.L.length:Int)):(txt x).length=512:=by
 obtain⟨P,g,e,f,-⟩:=h
 exact e.len x c (by rw[f.L];exact d)
theorem Sp.n (h:Sp Q txt K X w):Q.L.length<=4096:=by
 obtain⟨P,c,e,d,-⟩:=h
 rw[<-d.L]
 exact c.ext.n
theorem Sp.read (h:Sp Q txt K X w)(l:∀b,X b->b<w.heap.size)(j:K<1000000000000){no:Int}(e:0<=no)(f:no<(Q.L.length:Int)):SG prog 83 [ptr Q.s 0,I no] w λv w'=>v= .tuple #[S (txt no),I 0]/\Sp Q txt K X w'/\Kp (λb=>¬X b) w w':=by
 obtain⟨P,n,g,c,m⟩:=h
 rw[<-c.s]
 refine(z9L n g j e (by rw[c.L];exact f)).mono λv w' ⟨o,P',hr,d,q⟩=>⟨o,Sp.of m l hr d (c.trans q)⟩
theorem Sp.write (h:Sp Q txt K X w)(l:∀b,X b->b<w.heap.size)(j:K<1000000000000){no:Int}(e:0<=no)(f:no<(Q.L.length:Int))(t:Sa)(ht:t.length=512):SG prog 100 [ptr Q.s 0,I no,S t] w λv w'=>v=I 0/\Sp Q (z2K txt no (some t)) (K+1) X w'/\Kp (λb=>¬X b) w w':=by
 obtain⟨P,n,g,c,m⟩:=h
 rw[<-c.s]
 refine(zd1 n g j e (by rw[c.L];exact f) t ht).mono λv w' ⟨o,P',hr,d,q⟩=>⟨o,Sp.of m l hr d (c.trans q)⟩
def UB.Tl (Q:UB)(L:List Bool):UB:={Q with L:=L}
theorem UB.Same.Tl (h:Q.Same P)(L:List Bool):(Q.Tl L).Same {P with L:=L}:=⟨h.s,h.d,h.m,h.gi,h.c,h.pm,h.p,h.fr,rfl⟩
theorem Sp.take (h:Sp Q txt K X w)(j:∀b,X b->b<w.heap.size){n:Nat}(e:Pre Q.L a)(f:1<=n)(d:a+n<=Q.L.length):SG prog 66 [ptr Q.s 0,I (n:Int)] w λv w'=>v= .tuple #[.agg #[I (a:Int),I (n:Int)],I 0]/\Sp (Q.Tl (Th Q.L a n true)) txt K X w'/\Kp (λb=>¬X b) w w':=by
 obtain⟨P,m,g,c,l⟩:=h
 rw[<-c.s]
 rw[<-c.L] at e d
 refine(zaZ m e f d).mono λv w' ⟨o,hr⟩=>⟨o,?_⟩
 rw[<-c.L]
 exact Sp.of l j hr (g.Tl (by rw[TE d])) (c.Tl _)
theorem Sp.zoZ (h:Sp Q txt K X w)(q:∀b,X b->b<w.heap.size){n:Nat}(g:1<=n)(j:2<=s)(e:s+n<=Q.L.length)(d:∀i,s<=i->i<s+n->Q.L[i]? =some true):SG prog 73 [ptr Q.s 0,.agg #[I (s:Int),I (n:Int)]] w λv w'=>v=I 0/\∃txt',Sp (Q.Tl (Th Q.L s n false)) txt' K X w'/\(∀x:Int,x<(s:Int)\/(s:Int)+(n:Int)<=x->txt' x=txt x)/\Kp (λb=>¬X b) w w':=by
 obtain⟨P,u,o,c,r⟩:=h
 rw[<-c.s]
 rw[<-c.L] at e d
 refine(zan u o g j e d).mono λv w' ⟨y,P',txt',hr,f,z,B⟩=>⟨y,txt',?_⟩
 obtain⟨l,m⟩:=Sp.of r q hr f ((c.trans B).Tl _)
 rw[<-c.L]
 exact⟨l,z,m⟩
end
open Go.Proofs Go.Shelf
def z8T:Go.Shelf.Ren:=⟨fun|105=>76|212=>110|99=>111|165=>112|166=>84|170=>113|169=>85|263=>148|264=>149|206=>150|240=>122|241=>151|276=>159|277=>182|n=>n,fun|9=>9|3=>3|4=>4|20=>20|0=>0|46=>172|109=>205|5=>5|72=>175|76=>179|51=>42|146=>252|53=>39|148=>254|70=>173|37=>113|75=>178|127=>222|164=>265|80=>181|n=>n,fun|n=>n⟩
def zjw:Go.Proofs.Lays.n105 prog z8T:={
 mixed:=y00
 f99:=func111.trans (congrArg some y00)
 f105:=func76.trans (congrArg some y00)
 f165:=func112.trans (congrArg some y00)
 f166:=func84.trans (congrArg some y00)
 f169:=func85.trans (congrArg some y00)
 f170:=func113.trans (congrArg some y00)
 f206:=func150.trans (congrArg some y00)
 f212:=func110.trans (congrArg some y00)
 f240:=func122.trans (congrArg some y00)
 f241:=func151.trans (congrArg some y00)
 f263:=func148.trans (congrArg some y00)
 f264:=func149.trans (congrArg some y00)
 f276:=func159.trans (congrArg some y00)
 f277:=func182.trans (congrArg some y00)
 t0:=underlying0
 a0:=isAgg0
 z0:=sizeOf0
 v0:=zeroValue0
 t3:=underlying3
 a3:=isAgg3
 z3:=sizeOf3
 v3:=zeroValue3
 t4:=underlying4
 a4:=isAgg4
 z4:=sizeOf4
 v4:=zeroValue4
 t5:=underlying5
 a5:=isAgg5
 z5:=sizeOf5
 v5:=zeroValue5
 t9:=underlying9
 a9:=isAgg9
 z9:=sizeOf9
 v9:=zeroValue9
 t20:=underlying20
 a20:=isAgg20
 z20:=sizeOf20
 v20:=zeroValue20
 t37:=underlying113
 a37:=isAgg113
 z37:=sizeOf113
 v37:=zeroValue113
 t46:=underlying172
 a46:=isAgg172
 z46:=sizeOf172
 v46:=zeroValue172
 t51:=underlying42
 a51:=isAgg42
 z51:=sizeOf42
 v51:=zeroValue42
 t53:=underlying39
 a53:=isAgg39
 z53:=sizeOf39
 v53:=zeroValue39
 t70:=underlying173
 a70:=isAgg173
 z70:=sizeOf173
 v70:=zeroValue173
 t72:=underlying175
 a72:=isAgg175
 z72:=sizeOf175
 v72:=zeroValue175
 t75:=underlying178
 a75:=isAgg178
 z75:=sizeOf178
 v75:=zeroValue178
 t76:=underlying179
 a76:=isAgg179
 z76:=sizeOf179
 v76:=zeroValue179
 t109:=underlying205
 a109:=isAgg205
 z109:=sizeOf205
 v109:=zeroValue205
 t127:=underlying222
 a127:=isAgg222
 z127:=sizeOf222
 v127:=zeroValue222
 t146:=underlying252
 a146:=isAgg252
 z146:=sizeOf252
 v146:=zeroValue252
 t148:=underlying254
 a148:=isAgg254
 z148:=sizeOf254
 v148:=zeroValue254
 t164:=underlying265
 a164:=isAgg265
 z164:=sizeOf265
 v164:=zeroValue265}
/-! ### A builder of strings -/
theorem zjE:Builder.Extra prog z8T where
 sizeBuilder:=y00
 liesBuilder:=y00
 t5:=y00
 a5:=λ_=>y00
 z5:=λ_=>y00
 v5:=λw=>TI.zero (w:=w) ti5
 infoByte:=y00
 cellsByte:=y00
 sizeByte:=y00
 neB5:=ψ
section
end
theorem zbH (l:Sa):∀n,Lib.repeatL l n=(List.replicate n l).flatten
 |0=>rfl
 |n+1=>by rw[Lib.repeatL,zbH l n];rfl
def z3g (l:Sa)(n:Nat)(d:l.length<=100)(e:n<=1000000)(w:World):SG prog 76 [S l,I (n:Int)] w λv w'=>v=S (List.replicate n l).flatten/\Ext w w':=by
 have g:n*l.length<=1000000*100:=y1k e d
 have:=Any.strings_Repeat zjw zjE ⟨l.toArray⟩ n w ω (by rw[WG,y0H];omega)
 refine y1P this λ_ _ ⟨c,f⟩=>⟨_,c,?_,Ext.zfN f⟩
 show Value.string ⟨(Lib.repeatL l n).toArray⟩=_
 rw[zbH]
def WY (w n:Nat):Sa:=(List.range w).map λk=>UInt8.ofNat (n / 2^(8*(w-1-k)))
theorem T6 (w n:Nat):(WY w n).length=w:=by simp[WY]
theorem zf6 (w n:Nat):WY (w+1) n=UInt8.ofNat (n / 2^(8*w))::WY w n:=by
 unfold WY
 rw[List.range_succ_eq_map,y0o,y1l]
 congr 1
 refine y0O λk c=>?_
 show UInt8.ofNat (n / 2^(8*(w+1-1-(k+1))))=_
 rw[show w+1-1-(k+1)=w-1-k by omega]
theorem z3b:∀(w n:Nat),SA (WY w n)=SJ (8*w) n
 |0,n=>rfl
 | w + 1, n => by
   rw[zf6,Xs,z3b w n,show 8*(w+1)=8+8*w by omega,Vv]
   congr 1
   refine z0B ?_;have:(UInt8.ofNat (n / 2^(8*w))).toNat=n / 2^(8*w)%256:=ξ
   rw[this];omega
theorem z3N {w n:Nat}(h:n<2^(8*w)):T2 (SA (WY w n))=n:=by
 rw[z3b,TD,y0e h]
theorem zbG (s:Sa):WY s.length (T2 (SA s))=s:=by
 have j:SA (WY s.length (T2 (SA s)))=SA s:=by
  rw[z3b];have:=z54 (SA s);rw[bitsT_length] at this;exact this
 have inj:∀a b:Sa,a.length=b.length->SA a=SA b->a=b:=λa=>by
  induction a with
  | nil => intro b e _; cases b with
    |nil=>rfl
    |cons=>cases e
  | cons c a l =>
    intro b e f
    cases b with
    |nil=>cases e
    | cons d b =>
      rw[Xs,Xs] at f;obtain⟨g,h⟩:=List.append_inj f (by rw[bitsN_length,bitsN_length]);rw[l b (by simpa using e) h]
      congr 1
      have:=congrArg T2 g;rw[TD,TD] at this;have m:=c.toNat_lt;have o:=d.toNat_lt;exact UInt8.toNat_inj.1 ω
 exact inj _ _ (T6 _ _) j
def Laid (txt:Int->Sa)(a:Nat)(T:Sa):Prop:=∀k,512*k<T.length->(txt ((a+k:Nat):Int)).take (T.length-512*k)=(T.drop (512*k)).take 512
section
variable {n:Nat}{T:Sa}
def Laid.piece (h:Laid txt a T){off n:Nat}(f:off+n<=T.length)(g:n<=512-off%512):((txt ((a+off / 512:Nat):Int)).drop (off%512)).take n=(T.drop off).take n:=by
 by_cases d:n=0
 ·subst d;simp
 have c:=h (off / 512) ω
 have e:=congrArg (λl=>(l.drop (off%512)).take n) c
 try dsimp only at e
 rw[y1u,y1n,y0A ω,y1u,y1n,y0G,y0A ω,show 512*(off / 512)+off%512=off by omega] at e
 exact e
def Laid.z0c (h:Laid txt a T)(e:∀k,512*k<T.length->txt' ((a+k:Nat):Int)=txt ((a+k:Nat):Int)):Laid txt' a T:=λk c=>by rw[e k c];exact h k c
def Laid.of (h:∀k,512*k<T.length->(txt ((a+k:Nat):Int)).length=512/\∃r,txt ((a+k:Nat):Int)=(T.drop (512*k)).take 512++r):Laid txt a T:=λk d=>by
 obtain⟨f,r,e⟩:=h k d
 have c:((T.drop (512*k)).take 512).length=min 512 (T.length-512*k):=ξ
 rw[e,y01,c] at f
 rw[e]
 by_cases g:T.length-512*k<=512
 ·exact y1a (by rw[c];omega)
 ·have:r=[]:=y0x ω;rw[this,y0q,y0B (by rw[c];omega)]
end
def VcT (txt:Int->Sa)(st width each:Nat)(xs:List Nat):Prop:=∀i x,xs[i]? =some x->((txt ((st+i / each:Nat):Int)).drop (i%each*width)).take width=WY width x/\x<2^(8*width)
theorem z5z (a b c:Sa){k n:Nat}(d:k+n<=a.length):((a++b++c).drop k).take n=(a.drop k).take n:=by
 rw[y06,y1j ω,y1v (by rw[y08];omega)]
section
def VcT.z0c (h:VcT txt st width each xs)(e:∀i,i<xs.length->txt' ((st+i / each:Nat):Int)=txt ((st+i / each:Nat):Int)):VcT txt' st width each xs:=λi x c=>by
 have hi:i<xs.length:=by
  rcases y0a i xs.length with h| h
  ·exact h
  ·rw[y0n h] at c;cases c
 rw[e i hi]
 exact h i x c
theorem VcT.set (h:VcT txt st width each xs)(v:1<=each){x:Nat}(q:x<2^(8*width))(hi:i<xs.length)(ht:txt ((st+i / each:Nat):Int)=t)(z:i%each*width+width<=t.length):VcT (z2K txt ((st+i / each:Nat):Int) (some (t.take (i%each*width)++WY width x++t.drop (i%each*width+width)))) st width each (xs.set i x):=λj y c=>by
 by_cases f:j / each=i / each
 ·rw[f,VC];show((t.take (i%each*width)++WY width x++t.drop (i%each*width+width)).drop (j%each*width)).take width=_/\_;have g:(t.take (i%each*width)).length=i%each*width:=by rw[y0c];omega
  by_cases d:j=i
  ·subst d;rw[y0X hi] at c;cases c;refine⟨?_,q⟩;rw[y06,y11 g,y1a (T6 _ _)]
  ·rw[y0M (λe=>d e.symm)] at c;obtain⟨m,o⟩:=h j y c;refine⟨?_,o⟩;rw[f,ht] at m;rw[<-m];have C:=y2c i each;have r:=y2c j each;rw[f] at r;have n:j%each≠i%each:=λe=>d ω;rcases Nat.lt_or_gt_of_ne n with B|u
   ·have l:(j%each+1)*width<=i%each*width:=y0Y _ ω;rw[y0r,y0Q] at l;rw[z5z _ _ _ ω,y1u,y1n,y0A ω]
   ·have l:(i%each+1)*width<=j%each*width:=y0Y _ ω;rw[y0r,y0Q] at l;rw[y3C,y2m (by rw[y01,g,T6];omega),y18,y01,g,T6,y0G,show i%each*width+width+(j%each*width-(i%each*width+width))=j%each*width by omega]
 ·have d:j≠i:=λe=>f (by rw[e]);rw[y0M (λe=>d e.symm)] at c;rw[UZ _ _ ω];exact h j y c
def z4j {l z:Sa}{w:Nat}(c:l.length=w):∀(e k:Nat),k<e->(((List.replicate e l).flatten++z).drop (k*w)).take w=l
 |0,k,h=>ω
 | e + 1, 0, h => by
   rw[y1m,y0V,y17,y3G,y06]
   exact y1a c
 | e + 1, k + 1, h => by
   rw[y17,y3G,y06,y3C,y2m (by rw[c,y0r];omega),y18,c,y0r,y0Q,y1h];exact z4j c e k ω
theorem VcT.fill {n x:Nat}(f:x<2^(8*width))(d:1<=each)(h:∀i,i<n->∃z,txt ((st+i / each:Nat):Int)=(List.replicate each (WY width x)).flatten++z):VcT txt st width each (List.replicate n x):=λi y c=>by
 rw[y0Z] at c
 split at c
 ·rename_i hi
  cases c;obtain⟨z,e⟩:=h i hi;rw[e];exact⟨z4j (T6 _ _) each _ (y13 _ d),f⟩
 ·cases c
theorem VcT.block (h:VcT txt st width each xs)(g:each*width<=(txt ((st+b:Nat):Int)).length):∀m,m<=each->b*each+m<=xs.length->(txt ((st+b:Nat):Int)).take (m*width)=((xs.drop (b*each)).take m).flatMap (WY width)
 |0,_,_=>ξ
 | m + 1, hm, hx => by
   have j:=h.block g m ω ω;have c:b*each+m<xs.length:=ω
   have d:=(h (b*each+m) xs[b*each+m] (y04 c)).1;have e:(m+1)*width<=each*width:=y0Y _ hm;rw[y0r,y0Q] at e;rw[show(b*each+m) / each=b from by rw[y0H,Nat.mul_add_div ω,y2h ω,y1b],show(b*each+m)%each=m from by rw[y0H,Nat.mul_add_mod,y0e ω]] at d
   have f:(xs.drop (b*each)).take (m+1)=(xs.drop (b*each)).take m++[xs[b*each+m]]:=by
    rw[List.take_add_one,y1J,y04 c];rfl
   rw[f,y1Y,<-j,y0r,y0Q,y2V,d];simp
def YH (width:Nat)(xs:List Nat):Sa:=xs.flatMap (WY width)
def z3m (width n:Nat)(s:Sa):List Nat:=(List.range n).map λi=>T2 (SA ((s.drop (i*width)).take width))
def z6x (width n:Nat)(s:Sa):(z3m width n s).length=n:=by simp[z3m]
theorem WR (width:Nat):∀xs:List Nat,(YH width xs).length=xs.length*width
 |[]=>by simp[YH]
 | x :: xs => by
   have:=WR width xs;unfold YH at*;rw[y0W,y01,T6,this,y03,y0r];omega
theorem z5j {width:Nat}:∀{xs:List Nat},(∀x∈xs,x<2^(8*width))->z3m width xs.length (YH width xs)=xs
 |[],_=>rfl
 | x :: xs, h => by
   have d:=z5j (xs:=xs) λy c=>h y (y0u _ c);unfold z3m YH at*;rw[y03,List.range_succ_eq_map,y0o,y1l,y0W]
   congr 1
   ·rw[y1m,y0V,y1a (T6 _ _),z3N (h x y0s)]
   ·conv=>rhs;rw[<-d]
    refine y0O λi _=>?_;show T2 (SA (List.take width (List.drop ((i+1)*width) _)))=_;rw[y0r,y0Q,y3C,y2m (by rw[T6];omega),y18,T6,y1h]
def VcT.load {n:Nat}{s:Sa}(j:s.length=n*width)(r:1<=each)(h:∀i,i<n->∃z,txt ((st+i / each:Nat):Int)=(s.drop (i / each*(each*width))).take (each*width)++z):VcT txt st width each (z3m width n s):=λi y c=>by
 unfold z3m at c
 rw[y0l] at c
 by_cases hi:i<n
 ·rw[y1z hi] at c;cases c;obtain⟨z,e⟩:=h i hi;have q:=y2c i each;have u:=y13 i r
  have d:((s.drop (i*width)).take width).length=width:=by
   have:(i+1)*width<=n*width:=y0Y _ ω;rw[y0r,y0Q] at this;rw[y0c,y08,j];omega
  have o:i*width=i / each*(each*width)+i%each*width:=by
   rw[<-y23,<-y0r,y0H (i / each)];rw[q]
  have m:(i%each+1)*width<=each*width:=y0Y _ ω;rw[y0r,y0Q] at m;have l:(i+1)*width<=n*width:=y0Y _ ω;rw[y0r,y0Q] at l;refine⟨?_,?_⟩
  ·have g:=zbG ((s.drop (i*width)).take width);rw[d] at g;rw[g,e]
   have v:i%each*width+width<=((s.drop (i / each*(each*width))).take (each*width)).length:=by
    rw[y0c,y08,j];omega
   rw[y1j ω,y1v (by rw[y08];omega),y1u,y1n,y0G,y0A ω,<-o]
  ·have f:=Uy (SA ((s.drop (i*width)).take width));rw[bitsT_length,d] at f;exact f
 ·rw[y0n (by simpa using hi)] at c;cases c
end
def z4S (n wd k:Nat):List Value:=(List.range wd).map λi=>if i<k then WD (UInt8.ofNat (n / 2^(8*(wd-1-i)))) else .int .u8 0
@[simp] theorem beTo_length (n wd k:Nat):(z4S n wd k).length=wd:=by simp[z4S]
theorem z6t (n wd:Nat):z4S n wd 0=List.replicate wd (.int .u8 0):=by
 apply y25<;>simp[z4S]
theorem z7S (n wd:Nat):z4S n wd wd=(WY wd n).map WD:=by
 simp only[z4S,WY,y1l]
 apply y0O
 intro i hi
 rw[if_pos (by simpa using hi)];rfl
theorem z8y (n wd k:Nat)(h:k<wd):(z4S n wd k).set (0+k*1) (.int .u8 ((n / 2^(8*(wd-1-k))%256:Nat):Int))=z4S n wd (k+1):=by
 apply y25
 ·simp
 ·intro j f e;have g:j<wd:=by simpa using e
  simp only[z4S,List.getElem_set,List.getElem_map,List.getElem_range];by_cases d:j=k
  ·subst d;simp[WD]
  ·rw[if_neg ω];by_cases c:j<k
   ·rw[if_pos c,if_pos ω]
   ·rw[if_neg c,if_neg ω]
theorem z3j (n wd:Nat)(w:World)(B:n<18446744073709551616)(C:wd<=8):SG prog 104 [Su n,I (wd:Int)] w λv w'=>v=S (WY wd n)/\Ext w w':=by
 have y:maxLen=9223372036854775807:=rfl
 refine py (e:=[(0,_),(1,_)]) func104 O ntmps104 O O<|qN O<|TR O<|Sd O O (pmk (c:=wd) (n:=wd) TT ti5 O O O ω ω ω) ?_
 rintro _ w1⟨b1,rfl,⟨r,o,g⟩,-⟩
 refine Sq O<|SX O<|UR TT O<|Sf O<|S5<|S7 ?_
 rw[<-z6t n wd] at g
 refine UW (α:=Nat) (0) (λk=>[(0,Su n),(1,I (wd:Int)),(5,.slice (some ⟨b1,0,none⟩) wd wd),(10,I (wd:Int)),(11,I (k:Int))]) (λk w'=>k<=wd/\Sk w' b1 (z4S n wd k) 5/\Ext w w') (λk=>wd-k) ?hI ?hround
 case hI=>exact⟨ω,g,o⟩
 case hround=>
  rintro k w2⟨z,d,f⟩ u
  try dsimp only
  refine qN O<|TW O<|S5<|It<|So O (λm=>?_)<|λm=>?_
  ·have j:k<wd:=ω
   refine S6 (TZ (SE O (Sq O (Sg O (Sz O (Sz O (UO O (Sf O (UO O (qV (Zf O O ω) ?_))))))))));rw[show(8:Int)*(((wd:Int)-1)-(k:Int))=((8*(wd-1-k):Nat):Int) from by omega];refine qV (XE (8*(wd-1-k)) (2^(8*(wd-1-k))) O O (by simp only[IntKind.bits];omega) O) ?_;refine qV (z7z O Va U5) (qV (Tm TT ti5 O O ω) (Sm O (TO ti5 O O O d (by simp;omega)) ?_));rintro x⟨h,q⟩;rw[z8y n wd k j] at h;refine S5<|S2<|Sg O<|Tr O<|Sf O<|S5 ?_;exact(u (k+1) x ⟨ω,h,f.An q (λi hi=>by rw[hi,r];exact y07 _)⟩ ω).qb
  ·have:k=wd:=ω
   subst this;rw[z7S] at d;refine Sh O (SE O (qV (zbn (l:=WY k n) TT U5 U9 O d (by rw[y0V];exact y0B (by rw[y0h,T6];omega)) (by simp[WY])) ?_));refine Sq O<|S3 func104 O ?_;exact⟨_,O,O,f⟩
theorem z64 (s:Sa)(B:s.length<=8)(w:World):SG prog 105 [S s] w λv w'=>v=Su (T2 (SA s))/\Ext w w':=by
 refine py (e:=[(0,_)]) func105 O ntmps105 O O<|TU O<|SX O<|Sd O O (zfx U9 TT U5 O) ?_
 rintro _ w1⟨b7,c7,rest,rfl,⟨C,h,j⟩,y⟩
 refine UR TT O<|Sf O<|S5<|S7<|UW (α:=Nat) (0) (λi=>[(2,Su (T2 (SA (s.take i)))),(6,.slice (some ⟨b7,0,none⟩) s.length c7),(7,I (s.length:Int)),(8,I (i:Int))]) (λi w'=>w'=w1/\i<=s.length) (λi=>s.length-i) ?hI ?hround
 case hI=>exact⟨O,y02 _⟩
 case hround=>
  rintro i w2⟨rfl,hi⟩ u
  try dsimp only
  refine qN O<|TW O<|S5<|It<|So O (λo=>?_)<|λo=>?_
  ·obtain⟨c,f⟩:∃c,s[i]? =some c:=⟨_,y04 ω⟩;have n:=c.toNat_lt;have d:=z5d f
   have g:T2 (SA (s.take i))<72057594037927936:=by
    have r:=Uy (SA (s.take i));rw[bitsT_length,y0c] at r;have z:2^(8*min i s.length)<=2^56:=y0v ψ ω;omega
   have l:w2.cell? ⟨b7,0+i*1,none⟩=some (WD c):=by
    rw[j.cell,y0g,y0j,y0I (by rw[y0h];omega),y0l,f];rfl
   refine S6<|TZ<|qN O<|qV (Tm TT ti5 O O ω)<|qV (SQ U5 O O l) ?_
   generalize T2 (SA (s.take i))=q at d g
   refine Sq O<|Uw O<|qV (UQ 8 256 O O ψ O)<|Sf O<|qV (z6A O U5 Va ψ)<|qV (z4i O O ω ω) ?_
   have x:(q*256%18446744073709551616 |||c.toNat)=T2 (SA (s.take (i+1))):=by
    rw[d,y0e ω,y0H q];exact(y28 (i:=8) n q).symm
   rw[x];refine Sq O<|S2<|Sg O<|Tr O<|Sf O<|S5 ?_;exact(u (i+1) _ ⟨O,ω⟩ ω).qb
  ·have m:i=s.length:=ω
   subst m;rw[y0K];refine Sh O<|SE O<|Sq O<|S3 func105 O ?_;exact⟨_,O,O,h⟩
def vcC (n width each st len s:Nat)(cl:Bool):List Value:=[I (n:Int),I (width:Int),I (each:Int),I (st:Int),I (len:Int),ptr s 0,.bool cl]
def vcL (n each:Nat):Nat:=max 1 ((n+each-1) / each)
structure YJ (Q:UB)(txt:Int->Sa)(vb width st:Nat)(xs:List Nat)(w:World):Prop where
 S4:Sk w vb (vcC xs.length width (512 / width) st (vcL xs.length (512 / width)) Q.s false) 164
 wd:width=1\/width=2\/width=4\/width=8
 t:VcT txt st width (512 / width) xs
 n:xs.length<=4194304
 fit:st+vcL xs.length (512 / width)<=Q.L.length
def z2I {n:Nat}(e:1<=each)(hi:i<n):i / each<vcL n each:=by
 unfold vcL
 have c:i / each<=(n-1) / each:=y1Q ω
 have d:(n+each-1) / each=(n-1) / each+1:=by
  rw[show n+each-1=(n-1)+each by omega,Nat.add_div_right _ ω]
 omega
section
variable {Q Q':UB}{vb:Nat}{ys:List Nat}
theorem YJ.e (h:YJ Q txt vb width st xs w):64<=512 / width/\512 / width<=512/\512 / width*width=512/\1<=width/\width<=8:=by
 rcases h.wd with e|e|e|e<;>subst e<;>decide
theorem YJ.kp (h:YJ Q txt vb width st xs w)(c:Kp S' w w')(d:¬S' vb):YJ Q txt vb width st xs w':=⟨c.S4 h.S4 d,h.wd,h.t,h.n,h.fit⟩
theorem YJ.ext (h:YJ Q txt vb width st xs w)(c:Ext w w'):YJ Q txt vb width st xs w':=h.kp (S':=λ_=>False) c id
theorem YJ.z0c (h:YJ Q txt vb width st xs w)(e:∀y:Int,(st:Int)<=y->y<(st:Int)+(vcL xs.length (512 / width):Int)->txt' y=txt y):YJ Q txt' vb width st xs w:=
 ⟨h.S4,h.wd,h.t.z0c λi hi=>by
  have:=z2I (each:=512 / width) (by have:=h.e;omega) hi
  generalize i / (512 / width)=q at this⊢
  exact e _ ω ω,h.n,h.fit⟩
theorem YJ.q (h:YJ Q txt vb width st xs w)(d:Q'.s=Q.s)(c:Q'.L.length=Q.L.length):YJ Q' txt vb width st xs w:=⟨by rw[d];exact h.S4,h.wd,h.t,h.n,by rw[c];exact h.fit⟩
def YJ.lt (h:YJ Q txt vb width st xs w):vb<w.heap.size:=h.S4.lt
theorem YJ.at_ (h:YJ Q txt vb width st xs w)(hi:i<xs.length):st+i / (512 / width)<Q.L.length/\i%(512 / width)*width+width<=512/\i / (512 / width)<vcL xs.length (512 / width):=by
 obtain⟨f,g,j,l,m⟩:=h.e
 have c:=z2I (each:=512 / width) ω hi
 have n:=h.fit
 have d:(i%(512 / width)+1)*width<=512 / width*width:=y0Y _ (y13 _ ω)
 rw[y0r,y0Q] at d
 refine⟨ω,ω,c⟩
theorem YJ.cells (h:YJ Q txt vb width st xs w):Sk w vb [I (xs.length:Int),I (width:Int),I ((512 / width:Nat):Int),I (st:Int),I (vcL xs.length (512 / width):Int),ptr Q.s 0,.bool false] 164:=h.S4
def VcW (Q:UB)(txt:Int->Sa)(K:Nat)(X:Nat->Prop)(vb width st:Nat)(ys:List Nat)(w w':World):Prop:=
 ∃txt',Sp Q txt' K X w'/\YJ Q txt' vb width st ys w'/\(∀y:Int,y<(st:Int)\/(st:Int)+(vcL ys.length (512 / width):Int)<=y->txt' y=txt y)/\Kp (λb=>¬X b) w w'
end
end Go.Proofs.YtbihggbffaigjaaGreatDoor
namespace Go.Proofs.YtbihggbffaigjaaGreatDoor.Sums
variable {A:Arc}{a b i p s:Nat}{k:Int}{t:Sa}
def bit (c:Nat):Nat:=if c%2=1 then(c / 2)^^^2197175160 else c / 2
def zia (c:Nat):Nat:=bit (bit (bit (bit (bit (bit (bit (bit c)))))))
def byte (c:Nat)(b:UInt8):Nat:=zia (c^^^b.toNat)
def raw (c:Nat)(l:List UInt8):Nat:=l.foldl byte c
def neg (c:Nat):Nat:=4294967295^^^c
def on (c:Nat)(l:List UInt8):Nat:=neg (raw (neg c) l)
def crc (l:List UInt8):Nat:=on 0 l
def num (l:List UInt8):Nat:=(l.getD 0 0).toNat*16777216+(l.getD 1 0).toNat*65536+(l.getD 2 0).toNat*256+(l.getD 3 0).toNat
def be4 (n:Nat):List UInt8:=[UInt8.ofNat (n / 16777216),UInt8.ofNat (n / 65536),UInt8.ofNat (n / 256),UInt8.ofNat n]
@[simp] theorem be4_length (n:Nat):(be4 n).length=4:=rfl
def head (k:UInt8)(p:List UInt8):List UInt8:=k::be4 p.length
def frame (k:UInt8)(p:List UInt8):List UInt8:=head k p++be4 (crc (head k p++p))++p
@[simp] theorem head_length (k:UInt8) (p:List UInt8):(head k p).length=5:=rfl
theorem zfH (c:Nat):(c / 2)^^^(2197175160&&&((4294967296-(c&&&1))%4294967296))=bit c:=by
 have e:c&&&1=c%2:=y14 c 1
 rw[e]
 unfold bit
 by_cases h:c%2=1
 ·rw[if_pos h,h]
  congr 1
 ·have d:c%2=0:=ω
  rw[if_neg h,d];simp
def z2x (c:a<4294967296)(d:b<4294967296):a^^^b<4294967296:=y2f (n:=32) c d
def ZS {c:Nat}(h:c<4294967296):bit c<4294967296:=by
 unfold bit
 split
 ·exact z2x ω ω
 ·omega
def zg5 {c:Nat}(h:c<4294967296):zia c<4294967296:=ZS (ZS (ZS (ZS (ZS (ZS (ZS (ZS h)))))))
def zcj {c:Nat}(h:c<4294967296)(b:UInt8):byte c b<4294967296:=zg5 (z2x h (by have:=b.toNat_lt;omega))
def zfG:∀(l:List UInt8) {c:Nat},c<4294967296->raw c l<4294967296
 |[],_,h=>h
 |b::l,_,h=>zfG l (zcj h b)
def za5 {c:Nat}(h:c<4294967296):neg c<4294967296:=z2x ω h
def zin {c:Nat}(l:List UInt8)(h:c<4294967296):on c l<4294967296:=za5 (zfG l (za5 h))
def zjW (l:List UInt8):crc l<4294967296:=zin l ω
theorem za3 (c:Nat)(a b:List UInt8):raw c (a++b)=raw (raw c a) b:=y2Y ..
/-! ### The step is linear -/
/-! ### Linear maps, by their table -/
def iter (L:Nat->Nat):Nat->Nat->Nat
 |0,x=>x
 |n+1,x=>iter L n (L x)
/-! ### Frames -/
theorem zca {n:Nat}(h:n<4294967296)(t:List UInt8):num (be4 n++t)=n:=by
 simp[num,be4]
 omega
@[simp] theorem frame_length (k:UInt8) (p:List UInt8):(frame k p).length=9+p.length:=by simp[frame];omega
/-! ### A byte that is turned is told -/
theorem getD_take (s:List UInt8)(n i:Nat)(h:i<n):(s.take n).getD i 0=s.getD i 0:=by simp[List.getD,h]
theorem TY (s:List UInt8)(n i:Nat)(x:UInt8)(h:i≠n):(s.set n x).getD i 0=s.getD i 0:=by
 simp only[List.getD,List.getElem?_set]
 rw[if_neg (λe=>h e.symm)]
def zfw (s:List UInt8)(i:Nat)(d:UInt8):List UInt8:=s.set i (s.getD i 0^^^d)
@[simp] theorem turned_length (s:List UInt8) (i:Nat) (d:UInt8):(zfw s i d).length=s.length:=by simp[zfw]
end Go.Proofs.YtbihggbffaigjaaGreatDoor.Sums
namespace Go.Proofs.YtbihggbffaigjaaGreatDoor
open Go Go.RowKit Go.Proofs.Tryz
set_option linter.unusedVariables false
variable {A:Arc}{K a at' b i p s st sum wb:Nat}{X:Nat->Prop}{T k:Int}{V:Nat->Value×Value}{t:Sa}{txt:Int->Sa}{w w' w2:World}
abbrev U (n:Nat):Value:= .int .u32 (n:Int)
def or3 (a b c d:Nat)(g:a<256)(h:b<256)(j:c<256)(l:d<256):
  a*16777216 |||b*65536=a*16777216+b*65536/\a*16777216 |||b*65536 |||c*256=a*16777216+b*65536+c*256/\a*16777216 |||b*65536 |||c*256 |||d=a*16777216+b*65536+c*256+d:=by
 have e:a*16777216 |||b*65536=a*16777216+b*65536:=nat_join 24 _ _ ω ω
 have f:a*16777216 |||b*65536 |||c*256=a*16777216+b*65536+c*256:=by rw[e];exact nat_join 16 _ _ ω ω
 refine⟨e,f,?_⟩
 rw[f]
 exact nat_join 8 _ _ ω ω
theorem zgi (c:Nat)(b:UInt8)(p:Nat)(T:TypeId)(w:World)(hB:Sk w p [U c] T)(r:c<4294967296):
  SG prog 140 [WD b,ptr p 0] w λv w'=>v= .tuple #[]/\Sk w' p [U (Sums.byte c b)] T/\Kp (λk=>k=p) w w':=by
 have E:=b.toNat_lt
 have z:=Sums.z2x r (show b.toNat<4294967296 by omega)
 refine py (e:=[(0,_),(1,_)]) func140 O ntmps140 O O<|qN O<|qV (Sc U0 O O hB O)<|Sf O<|qV (z6A O U5 U0 ψ)<|qV (zi5 O O ω ω)<|Sm O (TO Sy O O O hB ξ) ?_
 rintro w1⟨n,m⟩
 refine qM O<|Sf O<|S5<|S7<|UW (α:=Nat×Nat) (0,c^^^b.toNat) (λx=>[(0,WD b),(1,ptr p 0),(7,I (x.1:Int))]) (λx w'=>x.1<=8/\x.2<4294967296/\Sums.iter Sums.bit (8-x.1) x.2=Sums.byte c b/\Sk w' p [U x.2] T/\Kp (λk=>k=p) w w') (λx=>8-x.1) ?hI ?hround
 case hI=>exact⟨ω,z,O,n,m⟩
 case hround=>
  rintro⟨k,d⟩ w2 ⟨D,u,g,f,j⟩ B
  try dsimp only
  refine qN O<|TW O<|S5<|It<|So O (λl=>?_)<|λl=>?_
  ·have G:d&&&1<4294967296:=y1Z y2d ω;have H:(4294967296-(d&&&1))%4294967296<4294967296:=y13 _ ω;have F:2197175160&&&((4294967296-(d&&&1))%4294967296)<4294967296:=y1Z y2I ω;refine S6 (TZ (Sg O (qV (Sc U0 O O f O) (qV (XE 1 2 O O ψ O) (qV (Sc U0 O O f O) (qV (zj4 O O ω ω) (qV (zkR O ω) (qV (zj4 O O ω ω) (qV (zi5 O O ω ω) (Sm O (TO Sy O O O f ξ) ?_))))))))));rintro C⟨h,o⟩;refine S5<|S2<|Sg O<|Tr O<|Sf O<|S5 ?_;simp only[y2E] at h;rw[Sums.zfH] at h;refine(B (k+1,Sums.bit d) C ⟨by dsimp only at*;omega,Sums.ZS u,?_,h,j.trans o⟩ (by dsimp only at*;omega)).qb;have q:8-k=(8-(k+1))+1:=by dsimp only at*;omega
   dsimp only at g⊢;rw[q] at g;exact g
  ·refine Sh O<|Tv func140 O ?_;have y:k=8:=by dsimp only at*;omega
   subst y;refine⟨_,O,O,?_,j⟩;have:d=Sums.byte c b:=g;rw[<-this];exact f
def zjB {l:List UInt8}{rest:List Value}{k:Nat}(h:k<l.length):(l.map WD++rest)[0+k*1]? =some (WD (l.getD k 0)):=by
 rw[y0g,y0j,y0I (by simpa using h)]
 simp[h,List.getD]
theorem z5I (c:Nat)(l:List UInt8)(k:Nat)(h:k<l.length):Sums.raw c (l.take (k+1))=Sums.byte (Sums.raw c (l.take k)) (l.getD k 0):=by
 rw[y3w h,Sums.za3]
 simp[Sums.raw,List.getD,h]
theorem zf3 (c:Nat)(l:List UInt8)(w:World)(J:c<4294967296)(R:l.length<=9223372036854775807):
  SG prog 103 [U c,S l] w λv w'=>v=U (Sums.on c l)/\Ext w w':=by
 refine py (e:=[(0,_),(1,_)]) func103 O ntmps103 O O<|qN O<|Sd O O (UD O O) ?_
 rintro _ w1⟨b1,rfl,y,C,u⟩
 refine Up O<|qV (Sc U0 O O u O)<|qV (zi8 O ω)<|Sm O (TO Sy O O O u ξ) ?_
 rintro w2⟨h,E⟩
 simp only[y2E] at h
 have D:Ext w w2:=C.An E (λi hi=>by rw[hi,y];exact y07 _)
 refine qM O<|qV (ymf (first:=[]) (caps:=[.tmp 2]) O O)<|Sq O<|SX O<|Sd O O (zfx U9 TT U5 O) ?_
 rintro _ Y⟨b3,cap,rest,rfl,⟨Q,r,F⟩,W⟩
 refine UR TT O<|Sf O<|S5<|S7 ?_
 have G:b3≠b1:=by have:=h.lt;omega
 refine UW (α:=Nat×Nat) (0,Sums.neg c) (λx=>[(2,ptr b1 0),(5,.func (.func 140) #[] #[ptr b1 0]),(12,.slice (some ⟨b3,0,none⟩) l.length cap),(13,I (l.length:Int)),(14,I (x.1:Int))]) (λx w'=>x.1<=l.length/\x.2<4294967296/\x.2=Sums.raw (Sums.neg c) (l.take x.1)/\Sk w' b1 [U x.2] 42/\Sk w' b3 (l.map WD++rest) 5/\Ext w w') (λx=>l.length-x.1) ?hI ?hround
 case hI=>exact⟨ξ,Sums.za5 J,O,r.S4 h,F,D.trans r⟩
 case hround=>
  rintro⟨k,d⟩ N ⟨L,j,f,g,o,n⟩ M;dsimp only at L j f g
  try dsimp only
  refine qN O<|TW O<|S5<|It<|So O (λz=>?_)<|λz=>?_
  ·have m:k<l.length:=ω
   refine S6 (TZ (qN O (qV (Tm TT ti5 O O ω) (qV (Sc U5 O O o (zjB m)) (Sq O (Sg O (Sz O (Uk O O (Vc zlW O O) (zgi d (l.getD k 0) b1 _ N g j) ?_))))))));rintro _ P⟨rfl,B,q⟩;refine S5 (S2 (Sg O (Tr O (Sf O (S5 ((M (k+1,Sums.byte d (l.getD k 0)) P ⟨m,Sums.zcj j _,?_,B,q.S4 o G,n.An q (λi hi=>by rw[hi,y];exact y07 _)⟩ (by dsimp only;omega)).qb))))));rw[z5I _ _ _ m,<-f]
  ·refine Sh O (qN O (qV (Sc U0 O O g O) (qV (zi8 O ω) (Sq O (S3 func103 O (⟨_,O,?_,n⟩))))));have H:k=l.length:=ω
   subst H;rw[y0K] at f;show U (Sums.neg d)=_;rw[f]
   rfl
def zbS (l:List UInt8)(w:World)(d:l.length<=9223372036854775807):
  SG prog 97 [S l] w λv w'=>v=U (Sums.crc l)/\Ext w w':=by
 refine py (e:=[(0,_)]) func97 O ntmps97 O O<|qN O<|TR O<|Sr zik O (zf3 0 l _ ω d) ?_
 rintro _ w1⟨rfl,c⟩
 refine Sq O<|S3 func97 O ?_
 exact⟨_,O,O,c⟩
theorem z4z (s:Sa):Lib.strCells ⟨s.toArray⟩=s.map WD:=by simp[Lib.strCells,WD]
section
variable {P:Program}{e:Env}{d:Option Nat}{ty t tu tn el:TypeId}{pos:String}{aft:Array Edge}{g:Option (Nat×Bool)}{x y:Operand}{n k:Nat}{v:Value}{cs:List Value}{s:Sa}{kn:IntKind}{za:Int}
theorem z7C (ht:P.underlying t=some (.slice el))(o:P.underlying tu=some .string)(M:TI P el (.int .u8 0) 1 1)(l:Sl w v el 1 n cs)(E:n+s.length<=140737488355328):
  ∃m w',(Builtin.append_ #[t,tu] ty #[v,S s]).run P w= .ok m w'/\Sl w' m el 1 (n+s.length) (cs++s.map WD)/\Kp (λk=>v.ownBlock=some k) w w'/\(∀g,m.ownBlock=some g->v.ownBlock=some g\/w.heap.size<=g):=by
 have Z:maxLen=9223372036854775807:=rfl
 obtain⟨i,hi,B,q,C⟩:=M
 have c:=WG s
 have z:=z4z s
 rcases id l.2 with⟨rfl,rfl⟩|⟨g,cap,D,rfl,W,hg,a,b,R,U⟩
 ·have N:cs=[]:=y0x (by simpa using l.1);subst N;obtain⟨m,w',hr,f,hg,-⟩:=y3I (P:=P) w w.heap.size t tu ty el i ht o hi B q C (.slice none 0 0) 0 [] (y35 w w.heap.size el 1) ⟨s.toArray⟩ (by rw[c];omega) (by rw[c];exact E) (y07 _);rw[c,z] at f;refine⟨m,w',hr,⟨f.1,?_⟩,Kp.Yt hg,λg hg=> .inr (y3g f g hg).1⟩;rcases f.2 with H|⟨g,r,u,J,Y,j⟩
  ·exact .inl H
  ·exact .inr ⟨g,r,u,J,y02 _,j⟩
 ·by_cases F:n+s.length<=cap
  ·by_cases L:0<cap
   ·obtain⟨w',hr,f,h⟩:=Lib.run_append_fits_string (P:=P) w 0 t tu ty el i ht o hi q (some ⟨g,0,none⟩) n cap cs l ⟨s.toArray⟩ L (by rw[c];exact F);rw[c,z] at f;rw[c] at hr;exact⟨_,w',hr,f,Kp.Yt h,λG h=> .inl (by simpa[Value.ownBlock] using h)⟩
   ·obtain⟨m,w',hr,f,h,-⟩:=y3I (P:=P) w 0 t tu ty el i ht o hi B q C (.slice (some ⟨g,0,none⟩) n cap) n cs l ⟨s.toArray⟩ (by rw[c];omega) (by rw[c];exact E) (y02 _);have I:s=[]:=y0x ω;subst I;have j:=Lib.run_append_room_string (P:=P) w t tu ty el i ht o hi q g n cap D hg ⟨[].toArray⟩ (by rw[c];exact F) (by rw[c];simp only[y0j] at R;simp only[y1e];omega);rw[j] at hr;cases hr;rw[c,z] at f;exact⟨_,_,j,f,Kp.Yt h,λG h=> .inl (by simpa[Value.ownBlock] using h)⟩
  ·obtain⟨m,w',hr,f,h,-⟩:=y3I (P:=P) w 0 t tu ty el i ht o hi B q C (.slice (some ⟨g,0,none⟩) n cap) n cs l ⟨s.toArray⟩ (by rw[c];omega) (by rw[c];exact E) (y02 _);have j:=Lib.run_append_grow_string (P:=P) w t tu ty el i (.int .u8 0) ht o hi B ⟨g,0,none⟩ n cap cs (by rw[q];exact l.1) (y2w l (g:=g) O) ⟨s.toArray⟩ (by rw[c];omega) (by rw[c];omega) (by rw[c];exact growslice_fits ω (by rw[C];omega));rw[j] at hr;cases hr;rw[c,z] at f;refine⟨_,_,j,by rw[<-c] at f⊢;exact f,Kp.Yt h,λG h=> .inr ?_⟩;simp[Value.ownBlock] at h;omega
def zl1 (ht:P.underlying t=some (.slice el))(l:P.underlying tu=some .string)(j:TI P el (.int .u8 0) 1 1)(o:look e x=some v)(q:look e y=some (S s))(m:Sl w v el 1 n cs)(h:n+s.length<=140737488355328):
  Yp P e ⟨d,.call ⟨.builtin .append,#[x,y],#[t,tu]⟩,ty,pos,aft,g⟩ w λc w'=>Sl w' c el 1 (n+s.length) (cs++s.map WD)/\Kp (λk=>v.ownBlock=some k) w w'/\(∀g,c.ownBlock=some g->v.ownBlock=some g\/w.heap.size<=g):=by
 obtain⟨c,w',hr,r⟩:=z7C (P:=P) (ty:=ty) ht l j m h
 refine⟨c,w',fun ρ f=>?_,r⟩
 simp[execOp,resolve,invoke,builtin,f _ _ o,f _ _ q,hr]
def z9a (k:Nat):Builtin.zeroCells (Value.int .u8 0).cells k=(Lib.strCells ⟨(zeros k).toArray⟩).toArray:=by
 rw[z4z]
 apply Array.ext'
 rw[z1q (.int .u8 0) k O]
 simp[zeros,WD]
theorem zkC [uZ:WX za k](ht:P.underlying t=some (.slice el))(C:P.underlying tn=some (.int kn))(o:P.underlying tu=some .string)(G:TI P el (.int .u8 0) 1 1)(V:look e x=some v)(X:look e y=some (I za))(D:Sl w v el 1 n cs)(K:n+k<=140737488355328):
  Yp P e ⟨d,.call ⟨.builtin .append,#[x,y],#[t,tn]⟩,ty,pos,aft,g⟩ w λj w'=>Sl w' j el 1 (n+k) (cs++(zeros k).map WD)/\Kp (λk=>v.ownBlock=some k) w w'/\(∀g,j.ownBlock=some g->v.ownBlock=some g\/w.heap.size<=g):=by
 obtain⟨rfl⟩:=uZ
 have B:(zeros k).length=k:=by simp[zeros]
 obtain⟨j,w',hr,m,r⟩:=z7C (P:=P) (ty:=ty) (s:=zeros k) ht o G D (by rw[B];exact K)
 rw[B] at m
 have T:(Builtin.append_ #[t,tn] ty #[v,I (k:Int)]).run P w= .ok j w':=by
  rw[<-hr];obtain⟨i,hi,E,f,N⟩:=G;have H:IntKind.i64.wrap (k:Int)=k:=by rw[y3u];omega
  have R:¬((k:Int)<0):=ω
  have F:¬(281474976710656<(k:Int)*(i.bytes:Int)):=by rw[N];omega
  have u:=λw=>Lib.run_firstCells_string (P:=P) w i.size ⟨(zeros k).toArray⟩;have l:(ByteArray.mk (zeros k).toArray).size=k:=by rw[WG,B]
  rw[l] at u
  obtain⟨a,c,W⟩:∃a c,v= .slice a n c:=by
   rcases D.2 with⟨rfl,rfl⟩|⟨g,cap,q,rfl,_⟩
   ·exact⟨_,_,O⟩
   ·exact⟨_,_,O⟩
  subst W;have Y:k=0->(Lib.strCells ⟨(zeros k).toArray⟩).toArray=#[]:=λe=>by subst e;rfl
  have Z:c<=maxLen/\n<=c:=by
   rcases D.2 with⟨h,h'⟩|⟨g,cap,q,h,_,_,m,r,_⟩
   ·cases h;exact⟨by simp[maxLen],ω⟩
   ·cases h;exact⟨r,m⟩
  have b:n+k<=c\/¬(281474976710656<Builtin.nextslicecap (n+k) c*i.bytes):=by
   by_cases hr:n+k<=c
   ·exact .inl hr
   ·have:=growslice_fits (need:=n+k) (old:=c) (bytes:=i.bytes) ω (by rw[N];omega);exact .inr ω
  have S:¬(9223372036854775807<((n:Int)+(k:Int))):=ω
  by_cases z:k=0
  ·subst z;have A:=Y O;have iJ:n<=c:=Z.2;have oX:IntKind.i64.wrap 0=0:=by rw[y3u];omega
   have L:=u w;rw[f,A] at L;simp[Builtin.append_,run_underlying ht,run_underlying C,run_underlying o,sizeOf,typeInfo,zeroValue,hi,E,f,asInt,asIntOf,oX,Builtin.lenOf,l,iJ,L]
  ·have p:=z9a k;have M:∀w,(Builtin.firstCells 1 k (.string ⟨(zeros k).toArray⟩)).run P w= .ok (Builtin.zeroCells (Value.int .u8 0).cells k) w:=λw=>by rw[p];have:=u w;rw[f] at this;exact this
   have eu:¬(k*i.size=0):=by rw[f];omega
   by_cases hr:n+k<=c
   ·simp[Builtin.append_,run_underlying ht,run_underlying C,run_underlying o,sizeOf,typeInfo,zeroValue,hi,E,f,asInt,asIntOf,H,R,F,Builtin.lenOf,l,hr,M,z]
   ·have U:=b.resolve_left hr;simp[Builtin.append_,run_underlying ht,run_underlying C,run_underlying o,sizeOf,typeInfo,zeroValue,hi,E,f,asInt,asIntOf,H,R,F,Builtin.lenOf,l,hr,M,z,S,U]
 refine⟨j,w',fun ρ J=>?_,m,r⟩
 simp[execOp,resolve,invoke,builtin,J _ _ V,J _ _ X,T]
end
/-! ### Writers -/
def swC (s st len:Nat)(rest:Value)(at' n:Nat)(sum:Nat)(put:Value)(c:Bool):List Value:=[ptr s 0,I (st:Int),I (len:Int),rest,I (at':Int),I (n:Int),U sum,put,.bool c]
section
variable {Q:UB}
def z7x (n:Nat)(c:n<=2000000)(w:World):SG prog 64 [I 512,I (n:Int)] w λv w'=>v= .tuple #[I (((n+523) / 512:Nat):Int),I 0]/\w'=w:=by
 refine py (e:=[(0,_),(1,_)]) func64 O ntmps64 O O<|qN O<|To O<|SX O<|TW O<|T0<|Sz O<|Ub O<|T0<|Td O<|Sz O<|qV (yre O O ω)<|TK O<|T0 ?_
 refine Td O<|Sz O<|TW O<|T0<|Td O<|Sz O<|Sf O<|qV (Zf O O ω)<|UO O<|Ub O<|T0<|Td O<|S5<|SI.qb (e:=[(0,_),(1,_),(4,_),(5,_),(27,_)]) ?_
 refine VP O<|SE O<|Tr O<|Sf O<|Tr O<|UO O<|Sf O<|qV (yqu O O ω)<|To O ?_
 rw[show((n:Int)+12+512-1) / 512=(((n+523) / 512:Nat):Int) by omega]
 refine S3 func64 O ?_
 exact⟨_,O,O,O⟩
theorem z3E (h:Sp Q txt K X w){len:Nat}(r:1<=len)(u:st+len<=Q.L.length):SG prog 98 [.agg #[ptr Q.s 0,I (st:Int),I (len:Int)]] w λv w'=>v=I 0/\Ext w w':=by
 have q:=h.n
 refine py (e:=[(0,_)]) func98 O ntmps98 O O<|qN O<|Sd O O (UD O (cs:=[ptr Q.s 0,I (st:Int),I (len:Int)]) O) ?_
 rintro _ w1⟨b1,rfl,o,l,c⟩
 have m:=h.ext' l
 have hg:=Ext.Sv w1
 have f:=(m.ext' hg).dev
 have j:=(m.ext' hg).blocks
 refine Sq O<|TZ<|qN O<|Sn YU O<|qV (Sc Zh O O c O)<|qV (T9 Zh O O)<|Sq O<|S9 O<|It<|Ux (λw'=>Ext w1 w') O<|S8 0 O (SN XS O) hg<|S8 1 O (SN UI O) hg<|qT 2 O (λ_ h=>Sc U3 O O (h.S4 c) O) hg<|S8 3 O (ylt O O) hg ?_
 refine WW<|St 4 O O hg<|S8 5 O (SN XS O) hg<|S8 6 O (SN Us O) hg<|qT 7 O (λ_ h=>Sc U3 O O (h.S4 c) O) hg<|S8 8 O (ylt O O) hg<|WW<|S8 9 O (Xg O O) hg<|St 10 O O hg<|S8 11 O (SN XS O) hg<|S8 12 O (SN Us O) hg<|qT 13 O (λ_ h=>Sc U3 O O (h.S4 c) O) hg<|S8 14 O (SN YU O) hg<|qT 15 O (λ_ h=>Sc Zh O O (h.S4 c) O) hg ?_
 refine VF 16 O zj8 O f ?_
 rintro _ w2⟨rfl,rfl⟩
 refine⟨hg,?_⟩
 refine VF 17 O z7N O j ?_
 rintro _ w2⟨rfl,rfl⟩
 refine⟨hg,?_⟩
 refine S8 18 O (yge O O) hg<|WW<|S8 19 O (Xg O O) hg<|St 20 O O hg<|S8 21 O (SN XS O) hg<|S8 22 O (SN UI O) hg<|qT 23 O (λ_ h=>Sc U3 O O (h.S4 c) O) hg<|S8 24 O (SN YU O) hg<|qT 25 O (λ_ h=>Sc Zh O O (h.S4 c) O) hg<|S8 28 O (SN XS O) hg<|S8 29 O (SN Us O) hg<|qT 30 O (λ_ h=>Sc U3 O O (h.S4 c) O) hg<|VF 26 O zj8 O f ?_
 rintro _ w2⟨rfl,rfl⟩
 refine⟨hg,?_⟩
 refine VF 27 O z7N O j ?_
 rintro _ w2⟨rfl,rfl⟩
 refine⟨hg,?_⟩
 refine S8 31 O (ysb O O ω) hg<|S8 32 O (ygt O O) hg<|WW<|S8 33 O (Xg O O) hg<|S8 34 O (UU O) hg<|qE<|SI.qb (e:=[(2,_),(7,_)]) ?_
 refine VP O<|S2<|TU O<|S3 func98 O ?_
 exact⟨_,O,O,l.trans hg⟩
theorem z50 (h:Sp Q txt K X w){len:Nat}(o:len<=100000):SG prog 106 [.agg #[ptr Q.s 0,I (st:Int),I (len:Int)]] w λv w'=>v=I ((len:Int)*512-12)/\Ext w w':=by
 refine py (e:=[(0,_)]) func106 O ntmps106 O O<|qN O<|Sd O O (UD O (cs:=[ptr Q.s 0,I (st:Int),I (len:Int)]) O) ?_
 rintro _ w1⟨b1,rfl,m,c,f⟩
 have l:=h.ext' c
 have hg:=Ext.Sv w1
 have j:=(l.ext' hg).size
 refine Sq O<|It<|Ux (λw'=>Ext w1 w') O<|S8 0 O (SN XS O) hg<|S8 1 O (SN UI O) hg<|qT 2 O (λ_ h=>Sc U3 O O (h.S4 f) O) hg<|S8 3 O (SN YU O) hg<|qT 4 O (λ_ h=>Sc Zh O O (h.S4 f) O) hg<|VF 5 O z82 O j ?_
 rintro _ w2⟨rfl,rfl⟩
 refine⟨hg,?_⟩
 refine S8 6 O (Zf O O ω) hg<|S8 7 O (ysb O O ω) hg<|S8 8 O (UU O) hg<|qE<|S3 func106 O ?_
 exact⟨_,O,O,c.trans hg⟩
def z2A {len n:Nat}{rest put:Value}(hB:Sk w wb (swC s st len rest at' n sum put false) 197):SG prog 101 [ptr wb 0] w λv w'=>v=I 0/\w'=w:=by
 replace hB:Sk w wb [ptr s 0,I (st:Int),I (len:Int),rest,I (at':Int),I (n:Int),U sum,put,.bool false] 197:=hB
 refine py (e:=[(0,_)]) func101 O ntmps101 O O<|TU O<|TZ<|SE O<|qV (T9 z7c O O)<|Sq O<|S9 O<|SE O<|SC O<|Sn z2D O<|qV (Sc U4 O O hB O)<|Sq O<|VP O<|S2 ?_
 refine TU O<|S3 func101 O ?_
 exact⟨_,O,O,O⟩
theorem z9n (h:Sp Q txt K X w){len n:Nat}{rest put:Value}(j:len<=100000)(l:n<=100000000)(hB:Sk w wb (swC Q.s st len rest at' n sum put false) 197):SG prog 102 [ptr wb 0] w λv w'=>v=I ((len:Int)*512-12-(n:Int))/\Ext w w':=by
 replace hB:Sk w wb [ptr Q.s 0,I (st:Int),I (len:Int),rest,I (at':Int),I (n:Int),U sum,put,.bool false] 197:=hB
 have hg:=Ext.Sv w
 have f:=z50 (h.ext' hg) (st:=st) j
 refine py (e:=[(0,_)]) func102 O ntmps102 O O<|TU O<|SX O<|qV (T9 z7c O O)<|Sz O<|SC O<|Sn z2D O<|qV (Sc U4 O O hB O)<|Td O<|Tt O<|It<|Ux (λw'=>Ext w w') O<|St 0 O O hg<|S8 1 O (Tu O) hg ?_
 refine S8 2 O (SN z0S O) hg<|qT 3 O (λ_ h=>SO z6E O z1g O (Sk.cells (n:=3) (h.S4 hB) (news:=[_,_,_]) O) O) hg<|St 5 O O hg<|S8 6 O (Tu O) hg<|S8 7 O (SN z47 O) hg<|qT 8 O (λ_ h=>Sc U3 O O (h.S4 hB) O) hg<|VF 4 O ziq O f ?_
 rintro _ w2⟨rfl,c⟩
 refine⟨(hg.trans c),?_⟩
 refine S8 9 O (ysb O O ω) (hg.trans c)<|S8 10 O (UU O) (hg.trans c)<|qE<|S3 func102 O ?_
 exact⟨_,O,O,hg.trans c⟩
end
end Go.Proofs.YtbihggbffaigjaaGreatDoor
