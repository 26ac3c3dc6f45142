/- Merged by program. -/
import Derived.Test.YtbihggbffaigjaaGreatDoorZg5
import Derived.Shelf.Strings.Repeat
import Derived.Test.YtbihggbffaigjaaGreatDoorProg
import Derived.Room.AppendFits
set_option linter.all false
set_option maxRecDepth 1000000
set_option maxHeartbeats 16000000
namespace Go.Proofs.YtbihggbffaigjaaGreatDoor
open Go Go.RowKit Go.Proofs.Tryz
variable {A A' A2:Arc}{D':Dev}{K a b c each i p s st width:Nat}{L':List Bool}{S' X:Nat->Prop}{T k:Int}{V V' V2:Nat->Value×Value}{t:P8}{txt txt':Int->P8}{w w' w0 w2:World}{x0:Value}{xs:List Nat}
def S7 (hit:Bool)(g:Option Int):List Value:=[.bool hit,.bool g.isSome,I (g.getD 0)]
abbrev zdN (hit:Bool)(g:Option Int):Value:= .agg (S7 hit g).toArray
section
def Arc.Ok.lens (h:A.Ok)(d:A.size<=1000)(j:Nat):(A.li j).length<=2000:=by
 have e:=h.held
 have f:=h.first
 have g:=h.total
 have l:=A.Rn
 unfold Arc.li
 split<;>omega
theorem Ug (h:Tg w c A V p)(K:A.Ok)(cO:A.size<=1000)(Y:Bool):PN prog 191 [ptr c 0,.bool Y] w λv w'=>v=zdN false (A.room Y).2/\∃V',WV w c V p w' (A.room Y).1 V':=by
 have T:=K.lens cO 2
 have mS:=K.lens cO 3
 have FA:=K.tg
 have ip:=K.pos
 have eA:=K.nd
 unfold Arc.all at eA
 rw[y0L] at eA
 obtain⟨a3,a1,R⟩:=eA
 rw[y0L] at a1
 obtain⟨a4,a2,t⟩:=a1
 rw[y0L] at a2
 obtain⟨a5,a6,a7⟩:=a2
 have aP:∀{b:Nat},T5 c V p b->b<w.heap.size:=h.lt
 refine py (e:=[(0,_),(1,_)]) func191 O ntmps191 O O<|qN O<|Pb O O (S5 (cs:=[_,_,_]) PW O) ?_
 rintro _ w1⟨C,rfl,g7,ad,aF⟩
 have ku:=h.ext ad
 have E:∀b,T5 c V p b->b≠C:=λb f e=>by have:=aP f;omega
 refine P4<|Qi O<|Px zfr O (z3c ku K cO) ?_
 rintro _ w2⟨rfl,ae⟩
 have D:=ae.OZ aF
 have B:=ad.trans ae
 have z:=h.ext B
 by_cases Q:¬A.once.length+A.often.length=A.size
 ·rw[decide_eq_false Q];have P:A.room Y=(A,none):=by unfold Arc.room;rw[if_neg Q]
  refine qV (SD O) (P4 (Pp O (qN O (qV (PO (news:=S7 false none) Sy O PW O (Pm.cells (n:=3) D O) O) (Po O (Qh (news:=S7 false none) PW O O O O D ξ) ?_)))));rintro Z⟨dW,aq⟩;replace dW:Pm Z C [.bool false,.bool false,I 0] 261:=dW;refine P4<|PK func191 (.cell Sy O PW O (Pm.cells (n:=3) dW (news:=[_,_,_]) O) O .nil) ?_;rw[P];exact⟨_,O,O,V,z.kp aq (λb f=>E b f),λb f=> .inl f,(B.It aq (λj e=>ω)).kp⟩
 ·have Q := Classical.not_not.1 Q; rw [decide_eq_true Q]; refine qV (SD O) (P4 (P9 O ?_)); have W := z.cells; obtain ⟨a0, c0, e0, -⟩ : ∃ a c, (V 0).1 = .slice a A.once.length c /\ _ := (h.q 0 ψ).sl.rd.shape; rw [e0] at W; have f0 := Wc z (j := 0) ψ; have f1 := Wc z (j := 1) ψ; rw [show A.li 0 = A.once from rfl] at f0; rw [show A.li 1 = A.often from rfl] at f1
  cases o:A.once with
  | nil =>
    cases L:A.often with
    | nil =>
      exfalso;rw[o,L] at Q;simp at Q
      omega
    | cons x1 U =>
      have P:A.room Y=({A with often:=U,Ps:=A.Ps++[x1]},some x1):=by unfold Arc.room;rw[if_pos Q,o,L]
      have Mi:A.once.length=0:=by rw[o];rfl
      have X:Yq A.once= .tuple #[I 0,.bool false]:=by rw[o];rfl
      have g1:Yq A.often= .tuple #[I x1,.bool true]:=by rw[L];rfl
      rw[X] at f0;rw[g1] at f1;refine P5<|QG O<|PQ O<|Pr R6 O<|Px Zn O f0 ?_;rintro _ w2⟨rfl,rfl⟩;refine Ph O<|qV (S9 (v:=I 0) O O)<|qV (S9 (v:= .bool false) O O)<|SO O<|Ro O<|PB O<|PQ O<|Pr RT O<|Px Zn O f1 ?_;rintro _ w2⟨rfl,rfl⟩;refine Ph O<|qV (S9 (v:=I x1) O O)<|qV (S9 (v:= .bool true) O O)<|QS O<|PM.qb (e:=[(0,_),(1,_),(4,_),(5,_),(6,_),(7,_),(8,_)]) ?_;refine PL O<|PQ O<|Pr R6 O<|Pr QB O<|qV (Pl Rp O O W O)<|RQ Rp O<|Rq O<|Uj O<|Qb<|Ph O<|QV<|QV<|QV<|QV ?_;refine QV<|QV<|QV<|QV<|qS<|Ql O<|Pq O<|PM.qb (e:=[(0,_),(4,_),(5,_),(6,_),(7,_),(8,_),(10,_)]) ?_;refine OY<|QG O<|qS<|Ql O<|PB O<|qV (SD O)<|PB O<|qV (SD O)<|Rr O<|Ql O<|QC O<|PL O<|PQ O<|Pr RT O ?_;refine Ph O (Px Th O (QI z (j:=1) (k:=x1) ψ) ?_);rintro _ Z⟨rfl,i,l⟩;have M:(A.li 1).erase x1=U:=by show A.often.erase x1=U;rw[L];simp
      rw[M] at l
      have H:x1∉(A.Qq 1 U).li 3:=by
       show x1∉A.Ps;intro e;exact t x1 (by rw[L];simp) x1 (by simp[e]) O
      refine qM O (Ph O (PQ O (Pr RM O (Ph O (Px TQ O (Rl l.m (j:=3) (k:=x1) ψ H (by show A.Ps.length<=_;exact y0b mS ψ)) ?_)))));rintro _ s⟨rfl,u,F⟩;have d:=(z.r (Ext.refl w2)).trans (l.trans F);have G:=d.k.OZ D (λe=>E _ e O);refine P4<|PM.qb (e:=[(4,_),(7,_)]) ?_;refine PL O (qV (T3 (cs:=[_,_,_]) PW O WL O O) (Po O (Qh (news:=S7 false (some x1)) PW O O O O G ξ) ?_));rintro N⟨g,x⟩;replace g:Pm N C [.bool false,.bool true,I x1] 261:=g;refine P4<|PK func191 (.cell Sy O PW O (Pm.cells (n:=3) g (news:=[_,_,_]) O) O .nil) ?_
      have J:∀b,T5 c u p b->b≠C:=λb f e=>by
       rcases d.fp b f with y|y
       ·exact E b y e
       ·have:=D.lt;omega
      rw[P]
      exact⟨_,O,O,u,d.m.kp x J,λb f=>(d.fp b f).imp id (λe=>by have:=B.size;omega),(B.kp.trans d.k).It x (λj e=> .inl ω)⟩
  | cons x0 r0 =>
    have Mi:1<=A.once.length:=by rw[o];simp
    cases L:A.often with
    | nil =>
      have P:A.room Y=({A with once:=r0,Pw:=A.Pw++[x0]},some x0):=by unfold Arc.room;rw[if_pos Q,o,L]
      have X:Yq A.once= .tuple #[I x0,.bool true]:=by rw[o];rfl
      have g1:Yq A.often= .tuple #[I 0,.bool false]:=by rw[L];rfl
      rw[X] at f0;rw[g1] at f1;refine P5<|QG O<|PQ O<|Pr R6 O<|Px Zn O f0 ?_;rintro _ w2⟨rfl,rfl⟩;refine Ph O<|qV (S9 (v:=I x0) O O)<|qV (S9 (v:= .bool true) O O)<|SO O<|Ro O<|PB O<|PQ O<|Pr RT O<|Px Zn O f1 ?_;rintro _ w2⟨rfl,rfl⟩;refine Ph O<|qV (S9 (v:=I 0) O O)<|qV (S9 (v:= .bool false) O O)<|QS O<|PM.qb (e:=[(0,_),(1,_),(4,_),(5,_),(6,_),(7,_),(8,_)]) ?_;refine PL O<|PQ O<|Pr R6 O<|Pr QB O<|qV (Pl Rp O O W O)<|RQ Rp O<|Rq O<|Uj O<|RO<|Ph O ?_
      by_cases h1:(A.once.length:Int)>A.target
      ·skip
       refine PB O<|PQ O<|Pr RK O<|qV (Pl U3 O O W O)<|R8 O<|RO<|Ph O<|QV<|QV<|QV<|QV<|qS<|Rr O<|Rr O ?_;refine Pq O<|PM.qb (e:=[(0,_),(4,_),(5,_),(6,_),(7,_),(8,_),(10,_)]) ?_;refine OY<|QG O<|Ph O<|Rr O<|Ph O<|QV<|QV<|QV<|Rr O<|P4<|Pp O<|PL O<|PQ O<|Pr R6 O ?_;refine Ph O (Px Th O (QI z (j:=0) (k:=x0) ψ) ?_);rintro _ Z⟨rfl,i,l⟩;have M:(A.li 0).erase x0=r0:=by show A.once.erase x0=r0;rw[o];simp
       rw[M] at l
       have H:x0∉(A.Qq 0 r0).li 2:=by
        show x0∉A.Pw;intro e;exact R x0 (by rw[o];simp) x0 (by simp[e]) O
       refine qM O (Ph O (PQ O (Pr Rk O (Ph O (Px TQ O (Rl l.m (j:=2) (k:=x0) ψ H (by show A.Pw.length<=_;exact y0b T ψ)) ?_)))));rintro _ s⟨rfl,u,F⟩;have d:=(z.r (Ext.refl w2)).trans (l.trans F);have G:=d.k.OZ D (λe=>E _ e O);refine P4<|PM.qb (e:=[(0,_),(4,_),(5,_),(7,_)]) ?_;refine PL O (qV (T3 (cs:=[_,_,_]) PW O WL O O) (Po O (Qh (news:=S7 false (some x0)) PW O O O O G ξ) ?_));rintro N⟨g,x⟩;replace g:Pm N C [.bool false,.bool true,I x0] 261:=g;refine P4<|PK func191 (.cell Sy O PW O (Pm.cells (n:=3) g (news:=[_,_,_]) O) O .nil) ?_
       have J:∀b,T5 c u p b->b≠C:=λb f e=>by
        rcases d.fp b f with y|y
        ·exact E b y e
        ·have:=D.lt;omega
       rw[P];exact⟨_,O,O,u,d.m.kp x J,λb f=>(d.fp b f).imp id (λe=>by have:=B.size;omega),(B.kp.trans d.k).It x (λj e=> .inl ω)⟩
      ·refine PB O<|PQ O<|Pr RK O<|qV (Pl U3 O O W O)<|R8 O<|Qb<|Ph O ?_;by_cases h2:(A.once.length:Int)=A.target
       ·refine PB O<|PQ O<|Pr RK O<|qV (Pl U3 O O W O)<|Rx O<|RO<|Ph O ?_
        cases Y with
        | true =>
          refine Ph O ?_
          skip
          refine Rr O<|Ql O<|Rr O<|Pq O<|PM.qb (e:=[(0,_),(4,_),(5,_),(6,_),(7,_),(8,_),(10,_)]) ?_;refine OY<|QG O<|Ph O<|Rr O<|Ph O<|QV<|QV<|QV<|Rr O<|P4<|Pp O<|PL O<|PQ O<|Pr R6 O ?_;refine Ph O (Px Th O (QI z (j:=0) (k:=x0) ψ) ?_);rintro _ Z⟨rfl,i,l⟩;have M:(A.li 0).erase x0=r0:=by show A.once.erase x0=r0;rw[o];simp
          rw[M] at l
          have H:x0∉(A.Qq 0 r0).li 2:=by
           show x0∉A.Pw;intro e;exact R x0 (by rw[o];simp) x0 (by simp[e]) O
          refine qM O (Ph O (PQ O (Pr Rk O (Ph O (Px TQ O (Rl l.m (j:=2) (k:=x0) ψ H (by show A.Pw.length<=_;exact y0b T ψ)) ?_)))));rintro _ s⟨rfl,u,F⟩;have d:=(z.r (Ext.refl w2)).trans (l.trans F);have G:=d.k.OZ D (λe=>E _ e O);refine P4<|PM.qb (e:=[(0,_),(4,_),(5,_),(7,_)]) ?_;refine PL O (qV (T3 (cs:=[_,_,_]) PW O WL O O) (Po O (Qh (news:=S7 false (some x0)) PW O O O O G ξ) ?_));rintro N⟨g,x⟩;replace g:Pm N C [.bool false,.bool true,I x0] 261:=g;refine P4<|PK func191 (.cell Sy O PW O (Pm.cells (n:=3) g (news:=[_,_,_]) O) O .nil) ?_
          have J:∀b,T5 c u p b->b≠C:=λb f e=>by
           rcases d.fp b f with y|y
           ·exact E b y e
           ·have:=D.lt;omega
          rw[P]
          exact⟨_,O,O,u,d.m.kp x J,λb f=>(d.fp b f).imp id (λe=>by have:=B.size;omega),(B.kp.trans d.k).It x (λj e=> .inl ω)⟩
        | false =>
          refine Ph O ?_
          skip
          refine Rr O<|Ql O<|Rr O<|Pq O<|PM.qb (e:=[(0,_),(4,_),(5,_),(6,_),(7,_),(8,_),(10,_)]) ?_;refine OY<|QG O<|qS<|Ql O<|PB O<|qV (SD O)<|PB O<|qV (SD O)<|Rr O<|Ql O<|P4<|Pp O<|PL O<|PQ O ?_;refine Pr R6 O (Ph O (Px Th O (QI z (j:=0) (k:=x0) ψ) ?_));rintro _ Z⟨rfl,i,l⟩;have M:(A.li 0).erase x0=r0:=by show A.once.erase x0=r0;rw[o];simp
          rw[M] at l
          have H:x0∉(A.Qq 0 r0).li 2:=by
           show x0∉A.Pw;intro e;exact R x0 (by rw[o];simp) x0 (by simp[e]) O
          refine qM O (Ph O (PQ O (Pr Rk O (Ph O (Px TQ O (Rl l.m (j:=2) (k:=x0) ψ H (by show A.Pw.length<=_;exact y0b T ψ)) ?_)))));rintro _ s⟨rfl,u,F⟩;have d:=(z.r (Ext.refl w2)).trans (l.trans F);have G:=d.k.OZ D (λe=>E _ e O);refine P4<|PM.qb (e:=[(0,_),(4,_),(5,_),(7,_)]) ?_;refine PL O (qV (T3 (cs:=[_,_,_]) PW O WL O O) (Po O (Qh (news:=S7 false (some x0)) PW O O O O G ξ) ?_));rintro N⟨g,x⟩;replace g:Pm N C [.bool false,.bool true,I x0] 261:=g;refine P4<|PK func191 (.cell Sy O PW O (Pm.cells (n:=3) g (news:=[_,_,_]) O) O .nil) ?_
          have J:∀b,T5 c u p b->b≠C:=λb f e=>by
           rcases d.fp b f with y|y
           ·exact E b y e
           ·have:=D.lt;omega
          rw[P];exact⟨_,O,O,u,d.m.kp x J,λb f=>(d.fp b f).imp id (λe=>by have:=B.size;omega),(B.kp.trans d.k).It x (λj e=> .inl ω)⟩
       ·refine PB O<|PQ O<|Pr RK O<|qV (Pl U3 O O W O)<|Rx O<|Qb<|Ph O ?_
        skip
        refine qS<|Ql O<|Ql O<|Rr O<|Pq O<|PM.qb (e:=[(0,_),(4,_),(5,_),(6,_),(7,_),(8,_),(10,_)]) ?_;refine OY<|QG O<|qS<|Ql O<|PB O<|qV (SD O)<|PB O<|qV (SD O)<|Rr O<|Ql O<|P4<|Pp O<|PL O<|PQ O ?_;refine Pr R6 O (Ph O (Px Th O (QI z (j:=0) (k:=x0) ψ) ?_));rintro _ Z⟨rfl,i,l⟩;have M:(A.li 0).erase x0=r0:=by show A.once.erase x0=r0;rw[o];simp
        rw[M] at l
        have H:x0∉(A.Qq 0 r0).li 2:=by
         show x0∉A.Pw;intro e;exact R x0 (by rw[o];simp) x0 (by simp[e]) O
        refine qM O (Ph O (PQ O (Pr Rk O (Ph O (Px TQ O (Rl l.m (j:=2) (k:=x0) ψ H (by show A.Pw.length<=_;exact y0b T ψ)) ?_)))));rintro _ s⟨rfl,u,F⟩;have d:=(z.r (Ext.refl w2)).trans (l.trans F);have G:=d.k.OZ D (λe=>E _ e O);refine P4<|PM.qb (e:=[(0,_),(4,_),(5,_),(7,_)]) ?_;refine PL O (qV (T3 (cs:=[_,_,_]) PW O WL O O) (Po O (Qh (news:=S7 false (some x0)) PW O O O O G ξ) ?_));rintro N⟨g,x⟩;replace g:Pm N C [.bool false,.bool true,I x0] 261:=g;refine P4<|PK func191 (.cell Sy O PW O (Pm.cells (n:=3) g (news:=[_,_,_]) O) O .nil) ?_
        have J:∀b,T5 c u p b->b≠C:=λb f e=>by
         rcases d.fp b f with y|y
         ·exact E b y e
         ·have:=D.lt;omega
        rw[P]
        exact⟨_,O,O,u,d.m.kp x J,λb f=>(d.fp b f).imp id (λe=>by have:=B.size;omega),(B.kp.trans d.k).It x (λj e=> .inl ω)⟩
    | cons x1 U =>
      have X:Yq A.once= .tuple #[I x0,.bool true]:=by rw[o];rfl
      have g1:Yq A.often= .tuple #[I x1,.bool true]:=by rw[L];rfl
      rw[X] at f0;rw[g1] at f1;refine P5<|QG O<|PQ O<|Pr R6 O<|Px Zn O f0 ?_;rintro _ w2⟨rfl,rfl⟩;refine Ph O<|qV (S9 (v:=I x0) O O)<|qV (S9 (v:= .bool true) O O)<|SO O<|Ro O<|PB O<|PQ O<|Pr RT O<|Px Zn O f1 ?_;rintro _ w2⟨rfl,rfl⟩;refine Ph O<|qV (S9 (v:=I x1) O O)<|qV (S9 (v:= .bool true) O O)<|QS O<|PM.qb (e:=[(0,_),(1,_),(4,_),(5,_),(6,_),(7,_),(8,_)]) ?_;refine PL O<|PQ O<|Pr R6 O<|Pr QB O<|qV (Pl Rp O O W O)<|RQ Rp O<|Rq O<|Uj O<|RO<|Ph O ?_
      by_cases h1:(A.once.length:Int)>A.target
      ·have P:A.room Y=({A with once:=r0,Pw:=A.Pw++[x0]},some x0):=by unfold Arc.room;rw[if_pos Q,o,L];exact if_pos (by rw[<-o];exact .inl h1)
       refine PB O<|PQ O<|Pr RK O<|qV (Pl U3 O O W O)<|R8 O<|RO<|Ph O<|QV<|QV<|QV<|QV<|qS<|Rr O<|Rr O ?_;refine Pq O<|PM.qb (e:=[(0,_),(4,_),(5,_),(6,_),(7,_),(8,_),(10,_)]) ?_;refine OY<|QG O<|Ph O<|Rr O<|Ph O<|QV<|QV<|QV<|Rr O<|P4<|Pp O<|PL O<|PQ O<|Pr R6 O ?_;refine Ph O (Px Th O (QI z (j:=0) (k:=x0) ψ) ?_);rintro _ Z⟨rfl,i,l⟩;have M:(A.li 0).erase x0=r0:=by show A.once.erase x0=r0;rw[o];simp
       rw[M] at l
       have H:x0∉(A.Qq 0 r0).li 2:=by
        show x0∉A.Pw;intro e;exact R x0 (by rw[o];simp) x0 (by simp[e]) O
       refine qM O (Ph O (PQ O (Pr Rk O (Ph O (Px TQ O (Rl l.m (j:=2) (k:=x0) ψ H (by show A.Pw.length<=_;exact y0b T ψ)) ?_)))));rintro _ s⟨rfl,u,F⟩;have d:=(z.r (Ext.refl w2)).trans (l.trans F);have G:=d.k.OZ D (λe=>E _ e O);refine P4<|PM.qb (e:=[(0,_),(4,_),(5,_),(7,_)]) ?_;refine PL O (qV (T3 (cs:=[_,_,_]) PW O WL O O) (Po O (Qh (news:=S7 false (some x0)) PW O O O O G ξ) ?_));rintro N⟨g,x⟩;replace g:Pm N C [.bool false,.bool true,I x0] 261:=g;refine P4<|PK func191 (.cell Sy O PW O (Pm.cells (n:=3) g (news:=[_,_,_]) O) O .nil) ?_
       have J:∀b,T5 c u p b->b≠C:=λb f e=>by
        rcases d.fp b f with y|y
        ·exact E b y e
        ·have:=D.lt;omega
       rw[P];exact⟨_,O,O,u,d.m.kp x J,λb f=>(d.fp b f).imp id (λe=>by have:=B.size;omega),(B.kp.trans d.k).It x (λj e=> .inl ω)⟩
      ·refine PB O<|PQ O<|Pr RK O<|qV (Pl U3 O O W O)<|R8 O<|Qb<|Ph O ?_;by_cases h2:(A.once.length:Int)=A.target
       ·refine PB O<|PQ O<|Pr RK O<|qV (Pl U3 O O W O)<|Rx O<|RO<|Ph O ?_
        cases Y with
        | true =>
          refine Ph O ?_;have P:A.room true=({A with once:=r0,Pw:=A.Pw++[x0]},some x0):=by unfold Arc.room;rw[if_pos Q,o,L];exact if_pos (by rw[<-o];exact .inr ⟨h2,O⟩)
          refine Rr O<|Ql O<|Rr O<|Pq O<|PM.qb (e:=[(0,_),(4,_),(5,_),(6,_),(7,_),(8,_),(10,_)]) ?_;refine OY<|QG O<|Ph O<|Rr O<|Ph O<|QV<|QV<|QV<|Rr O<|P4<|Pp O<|PL O<|PQ O<|Pr R6 O ?_;refine Ph O (Px Th O (QI z (j:=0) (k:=x0) ψ) ?_);rintro _ Z⟨rfl,i,l⟩;have M:(A.li 0).erase x0=r0:=by show A.once.erase x0=r0;rw[o];simp
          rw[M] at l
          have H:x0∉(A.Qq 0 r0).li 2:=by
           show x0∉A.Pw;intro e;exact R x0 (by rw[o];simp) x0 (by simp[e]) O
          refine qM O (Ph O (PQ O (Pr Rk O (Ph O (Px TQ O (Rl l.m (j:=2) (k:=x0) ψ H (by show A.Pw.length<=_;exact y0b T ψ)) ?_)))));rintro _ s⟨rfl,u,F⟩;have d:=(z.r (Ext.refl w2)).trans (l.trans F);have G:=d.k.OZ D (λe=>E _ e O);refine P4<|PM.qb (e:=[(0,_),(4,_),(5,_),(7,_)]) ?_;refine PL O (qV (T3 (cs:=[_,_,_]) PW O WL O O) (Po O (Qh (news:=S7 false (some x0)) PW O O O O G ξ) ?_));rintro N⟨g,x⟩;replace g:Pm N C [.bool false,.bool true,I x0] 261:=g;refine P4<|PK func191 (.cell Sy O PW O (Pm.cells (n:=3) g (news:=[_,_,_]) O) O .nil) ?_
          have J:∀b,T5 c u p b->b≠C:=λb f e=>by
           rcases d.fp b f with y|y
           ·exact E b y e
           ·have:=D.lt;omega
          rw[P]
          exact⟨_,O,O,u,d.m.kp x J,λb f=>(d.fp b f).imp id (λe=>by have:=B.size;omega),(B.kp.trans d.k).It x (λj e=> .inl ω)⟩
        | false =>
          refine Ph O ?_;have P:A.room false=({A with often:=U,Ps:=A.Ps++[x1]},some x1):=by unfold Arc.room;rw[if_pos Q,o,L];exact if_neg (by rw[<-o];rintro(e|⟨e,e2⟩);exact h1 e;cases e2)
          refine Rr O<|Ql O<|Rr O<|Pq O<|PM.qb (e:=[(0,_),(4,_),(5,_),(6,_),(7,_),(8,_),(10,_)]) ?_;refine OY<|QG O<|qS<|Ql O<|PB O<|qV (SD O)<|PB O<|qV (SD O)<|Rr O<|Ql O<|QC O<|PL O<|PQ O<|Pr RT O ?_;refine Ph O (Px Th O (QI z (j:=1) (k:=x1) ψ) ?_);rintro _ Z⟨rfl,i,l⟩;have M:(A.li 1).erase x1=U:=by show A.often.erase x1=U;rw[L];simp
          rw[M] at l
          have H:x1∉(A.Qq 1 U).li 3:=by
           show x1∉A.Ps;intro e;exact t x1 (by rw[L];simp) x1 (by simp[e]) O
          refine qM O (Ph O (PQ O (Pr RM O (Ph O (Px TQ O (Rl l.m (j:=3) (k:=x1) ψ H (by show A.Ps.length<=_;exact y0b mS ψ)) ?_)))));rintro _ s⟨rfl,u,F⟩;have d:=(z.r (Ext.refl w2)).trans (l.trans F);have G:=d.k.OZ D (λe=>E _ e O);refine P4<|PM.qb (e:=[(4,_),(7,_)]) ?_;refine PL O (qV (T3 (cs:=[_,_,_]) PW O WL O O) (Po O (Qh (news:=S7 false (some x1)) PW O O O O G ξ) ?_));rintro N⟨g,x⟩;replace g:Pm N C [.bool false,.bool true,I x1] 261:=g;refine P4<|PK func191 (.cell Sy O PW O (Pm.cells (n:=3) g (news:=[_,_,_]) O) O .nil) ?_
          have J:∀b,T5 c u p b->b≠C:=λb f e=>by
           rcases d.fp b f with y|y
           ·exact E b y e
           ·have:=D.lt;omega
          rw[P];exact⟨_,O,O,u,d.m.kp x J,λb f=>(d.fp b f).imp id (λe=>by have:=B.size;omega),(B.kp.trans d.k).It x (λj e=> .inl ω)⟩
       ·refine PB O<|PQ O<|Pr RK O<|qV (Pl U3 O O W O)<|Rx O<|Qb<|Ph O ?_;have P:A.room Y=({A with often:=U,Ps:=A.Ps++[x1]},some x1):=by unfold Arc.room;rw[if_pos Q,o,L];exact if_neg (by rw[<-o];rintro(e|⟨e,e2⟩);exact h1 e;exact h2 e)
        refine qS<|Ql O<|Ql O<|Rr O<|Pq O<|PM.qb (e:=[(0,_),(4,_),(5,_),(6,_),(7,_),(8,_),(10,_)]) ?_;refine OY<|QG O<|qS<|Ql O<|PB O<|qV (SD O)<|PB O<|qV (SD O)<|Rr O<|Ql O<|QC O<|PL O<|PQ O<|Pr RT O ?_;refine Ph O (Px Th O (QI z (j:=1) (k:=x1) ψ) ?_);rintro _ Z⟨rfl,i,l⟩;have M:(A.li 1).erase x1=U:=by show A.often.erase x1=U;rw[L];simp
        rw[M] at l
        have H:x1∉(A.Qq 1 U).li 3:=by
         show x1∉A.Ps;intro e;exact t x1 (by rw[L];simp) x1 (by simp[e]) O
        refine qM O (Ph O (PQ O (Pr RM O (Ph O (Px TQ O (Rl l.m (j:=3) (k:=x1) ψ H (by show A.Ps.length<=_;exact y0b mS ψ)) ?_)))));rintro _ s⟨rfl,u,F⟩;have d:=(z.r (Ext.refl w2)).trans (l.trans F);have G:=d.k.OZ D (λe=>E _ e O);refine P4<|PM.qb (e:=[(4,_),(7,_)]) ?_;refine PL O (qV (T3 (cs:=[_,_,_]) PW O WL O O) (Po O (Qh (news:=S7 false (some x1)) PW O O O O G ξ) ?_));rintro N⟨g,x⟩;replace g:Pm N C [.bool false,.bool true,I x1] 261:=g;refine P4<|PK func191 (.cell Sy O PW O (Pm.cells (n:=3) g (news:=[_,_,_]) O) O .nil) ?_
        have J:∀b,T5 c u p b->b≠C:=λb f e=>by
         rcases d.fp b f with y|y
         ·exact E b y e
         ·have:=D.lt;omega
        rw[P];exact⟨_,O,O,u,d.m.kp x J,λb f=>(d.fp b f).imp id (λe=>by have:=B.size;omega),(B.kp.trans d.k).It x (λj e=> .inl ω)⟩
end
def Arc.Ok.zjy (h:A.Ok):(A.Qq 2 (A.Pw.drop 1)).Ok:=by
 have d:(A.Qq 2 (A.Pw.drop 1)).all.Sublist A.all:=(((y1o 1 A.Pw).append_right A.Ps).append_left A.often).append_left A.once
 have:=h.first
 have e:=d.length_le
 have f:=h.total
 exact⟨h.pos,h.nd.sublist d,h.held,by show A.once.length+(A.Pw.drop 1).length<=A.size;rw[y07];omega,y0b e f,h.tg⟩
def Arc.Ok.zir (h:A.Ok):(A.Qq 3 (A.Ps.drop 1)).Ok:=by
 have d:(A.Qq 3 (A.Ps.drop 1)).all.Sublist A.all:=(((y1o 1 A.Ps).append_left A.Pw).append_left A.often).append_left A.once
 exact⟨h.pos,h.nd.sublist d,h.held,h.first,y0b d.length_le h.total,h.tg⟩
section
theorem Tg.head (h:Tg w c A V p){j:Nat}(m:j<4){x:Int}{r:List Int}(g:A.li j=x::r):∃b o cp,(V j).1= .slice (some ⟨b,o,none⟩) (A.li j).length cp/\w.cell? ⟨b,o+0*1,none⟩=some (I x):=by
 have d:=(h.q j m).sl.rd
 rcases d.2 with⟨c,e,f⟩|⟨b,off,l,e,-⟩
 ·rw[g] at f;simp at f
 ·rw[e] at d;exact⟨b,off,l,e,Qs d (i:=0) (by rw[g];rfl)⟩
theorem z2k (h:Tg w c A V p)(D:A.Ok)(s:A.size<=1000):PN prog 192 [ptr c 0] w λv w'=>v=zdN false A.add.2/\∃V',WV w c V p w' A.add.1 V':=by
 have tJ:=D.lens s 0
 have wM:=D.lens s 1
 have j6:=D.lens s 2
 have mS:=D.lens s 3
 have ip:=D.pos
 have i8:=A.Rn
 have wS:=D.held
 have OD:=D.first
 have eY:=D.total
 have aP:∀{b:Nat},T5 c V p b->b<w.heap.size:=h.lt
 rw[show A.li 0=A.once from rfl] at tJ
 rw[show A.li 1=A.often from rfl] at wM
 rw[show A.li 2=A.Pw from rfl] at j6
 rw[show A.li 3=A.Ps from rfl] at mS
 have hB:=h.cells
 obtain⟨a0,c0,e0,-⟩:∃a c,(V 0).1= .slice a A.once.length c/\_:=(h.q 0 ψ).sl.rd.shape
 obtain⟨a1,c1,e1,-⟩:∃a c,(V 1).1= .slice a A.often.length c/\_:=(h.q 1 ψ).sl.rd.shape
 obtain⟨a2,c2,t,-⟩:∃a c,(V 2).1= .slice a A.Pw.length c/\_:=(h.q 2 ψ).sl.rd.shape
 obtain⟨a3,c3,K,-⟩:∃a c,(V 3).1= .slice a A.Ps.length c/\_:=(h.q 3 ψ).sl.rd.shape
 rw[e0,e1,t,K] at hB
 refine py (e:=[(0,_)]) func192 O ntmps192 O O<|qN O<|Pb O O (S5 (cs:=[_,_,_]) PW O) ?_
 rintro _ w1⟨b2,rfl,bU,Z,ak⟩
 replace ak:Pm w1 b2 [.bool false,.bool false,I 0] 261:=ak
 have n2:∀b,T5 c V p b->b≠b2:=λb z e=>by have:=aP z;omega
 have aj:=Z.OZ hB
 have o:=Ext.Pz w1
 refine P4<|OY<|RI (λw'=>Ext w1 w') O<|Pu 0 O O o<|P7 1 O (QL O) o<|P7 2 O (PU R6 O) o<|P7 3 O (PU QB O) o<|qT 4 O (λ_ h=>Pl Rp O O (h.OZ aj) O) o<|P7 5 O (T7 Rp O) o<|Pu 6 O O o<|P7 7 O (QL O) o<|P7 8 O (PU Rk O) o<|P7 9 O (PU QB O) o<|qT 10 O (λ_ h=>Pl Rp O O (h.OZ aj) O) o ?_
 refine P7 11 O (T7 Rp O) o<|P7 12 O (Vu O O ω) o<|P7 13 O (S6 O) o<|qE<|OY ?_
 rw[show(A.once.length:Int)+(A.Pw.length:Int)=((A.once.length+A.Pw.length:Nat):Int) by omega]
 have l:=Ext.Pz w1.drew
 have sx:=o.OZ aj
 refine RI (λw'=>Ext w1.drew w') O<|Pu 0 O O l<|Pu 1 O O l<|P7 2 O (QL O) l<|P7 3 O (PU RT O) l<|P7 4 O (PU QB O) l<|qT 5 O (λ_ h=>Pl Rp O O (h.OZ sx) O) l<|P7 6 O (T7 Rp O) l<|P7 7 O (Vu O O ω) l<|Pu 8 O O l<|P7 9 O (QL O) l<|P7 10 O (PU RM O) l<|P7 11 O (PU QB O) l<|qT 12 O (λ_ h=>Pl Rp O O (h.OZ sx) O) l ?_
 refine P7 13 O (T7 Rp O) l<|P7 14 O (Vu O O ω) l<|P7 15 O (S6 O) l ?_
 rw[show((A.once.length+A.Pw.length:Nat):Int)+(A.often.length:Int)+(A.Ps.length:Int)=(A.all.length:Int) by omega]
 have H:=(Z.trans o).trans l
 obtain⟨w2,mT⟩:∃w2,w1.drew.drew=w2:=⟨_,O⟩
 rw[mT] at H
 have aI:=o.trans l
 rw[mT] at aI⊢
 have F:=h.ext H
 have mt:=F.cells
 rw[e0,e1,t,K] at mt
 have L:=aI.OZ ak
 have d:=Ext.Pz w2
 refine qE<|PM.qb (e:=[(0,_),(2,_),(3,_),(4,_)]) ?_
 refine OY<|Qf (λe' w'=>e'=[(0,ptr c 0),(2,ptr b2 0)]/\∃A' V',A'.Ok/\A'.size=A.size/\WV w2 c V p w' A' V'/\Pm w' b2 [.bool false,.bool false,I 0] 261/\A.add=A'.room false/\w2.heap.size<=w'.heap.size) ?dM<|λdM=>?kE
 case dM=>
  rintro e' w3⟨rfl,A',V',Mj,A0,cg,ao,U,z3⟩;refine PL O (Px z1W O (Ug cg.m Mj ω false) ?_);rintro _ w4⟨rfl,V4,bF⟩;have X:=cg.trans bF
  have n3:∀b,T5 c V' p b->b≠b2:=λb z e=>by
   rcases cg.fp b z with C|C
   ·exact n2 b C e
   ·have:=L.lt;omega
  have n4:∀b,T5 c V4 p b->b≠b2:=λb z e=>by
   rcases X.fp b z with C|C
   ·exact n2 b C e
   ·have:=L.lt;omega
  have eK:=bF.k.OZ ao (λe=>n3 _ e O);obtain⟨g,hg⟩:∃g,(A'.room false).2=g:=⟨_,O⟩;rw[hg];refine Po O (Qh (news:=S7 false g) PW O O O O eK ξ) ?_;rintro N⟨u,Q⟩;replace u:Pm N b2 [.bool false,.bool g.isSome,I (g.getD 0)] 261:=u;refine P4<|PK func192 (.cell Sy O PW O (Pm.cells (n:=3) u (news:=[_,_,_]) O) O .nil) ?_;rw[U,hg];have z1:=Z.size;have z2:=H.size;exact⟨_,O,O,V4,X.m.kp Q n4,λb z=>(X.fp b z).imp id (λe=>ω),(H.kp.trans X.k).It Q (λj e=> .inl ω)⟩
 case kE =>
  have a4:(A.all.length:Int)=(A.all.length:Int):=rfl;have G:=F.ext d;have qP:=d.OZ mt;have cP:=d.OZ L;have z1:=Z.size;have z2:=H.size;by_cases J:A.once.length+A.Pw.length=A.size
  ·by_cases T:A.once.length<A.size
   ·refine P6<|OY<|RI (λw'=>Ext w2 w') O<|Pu 0 O O d<|Pu 1 O O d<|P7 2 O (QL O) d<|P7 3 O (PU SW O) d<|qT 4 O (λ_ h=>Pl U3 O O (h.OZ mt) O) d<|P7 5 O (yeq O O) d<|TW<|Pu 6 O O d<|Pu 7 O O d<|P7 8 O (QL O) d<|P7 9 O (PU R6 O) d ?_;refine P7 10 O (PU QB O) d<|qT 11 O (λ_ h=>Pl Rp O O (h.OZ mt) O) d<|P7 12 O (T7 Rp O) d<|Pu 13 O O d<|P7 14 O (QL O) d<|P7 15 O (PU SW O) d<|qT 16 O (λ_ h=>Pl U3 O O (h.OZ mt) O) d<|P7 17 O (ZQ O O) d<|TW<|P7 18 O (Ux O O) d<|P7 19 O (S6 O) d<|qE<|Pp O ?_
    obtain⟨x,r,B⟩:∃x r,A.Pw=x::r:=by
     cases W:A.Pw with
     |nil=>rw[W] at J;simp at J;omega
     |cons x r=>exact⟨x,r,O⟩
    obtain⟨lb,lo,lc,Y,-⟩:=F.head (j:=2) ψ B;rw[t] at Y;cases Y;have R:=(G.q 2 ψ).sl.rd;rw[t] at R;have sA:0<A.Pw.length:=by rw[B];simp
    have jJ:((A.li 2).map I)[0]? =some (I x):=by show(A.Pw.map I)[0]? =_;rw[B];rfl
    have f:=Ext.Pz w2.drew;refine PC [10] (λw'=>Ext w2.drew w') Pd O (Qm 0 O O f (PH 1 O (QL O) f (PH 2 O (PU Rk O) f (Qm 3 O O f (PH 4 O (QL O) f (PH 5 O (PU Rk O) f (PH 6 O (PU QB O) f (qL 7 O (λ_ h=>Pl Rp O O (h.OZ (d.OZ mt)) O) f (PH 8 O (Qc Rp Qe O O ω) f (qL 9 O (λ_ h=>PG U3 O O (Qs (R.ext h) (i:=0) jJ)) f (TV [10] (Tl 10 O Th O (QI (G.ext f) (j:=2) (k:=x) ψ) ?_))))))))))));rintro _ N⟨rfl,M,E⟩;refine⟨trivial,?_⟩;have P:(A.li 2).erase x=A.Pw.drop 1:=by show A.Pw.erase x=A.Pw.drop 1;rw[B];simp
    rw[P] at E;have y:=(F.r (d.trans f)).trans E;have u:=y.k.OZ L (λe=>n2 _ e O);refine qE<|PM.qb (e:=[(0,_),(2,_)]) ?_;refine An ?_;exact(dM _ _ ⟨O,_,M,D.zjy,(z1m A (j:=2) ψ _).1,y,u,by unfold Arc.add;rw[if_pos J,if_pos T];rfl,y.k.size⟩).qb
   ·refine P6<|OY<|RI (λw'=>Ext w2 w') O<|Pu 0 O O d<|Pu 1 O O d<|P7 2 O (QL O) d<|P7 3 O (PU SW O) d<|qT 4 O (λ_ h=>Pl U3 O O (h.OZ mt) O) d<|P7 5 O (yeq O O) d<|TW<|Pu 6 O O d<|Pu 7 O O d<|P7 8 O (QL O) d<|P7 9 O (PU R6 O) d ?_;refine P7 10 O (PU QB O) d<|qT 11 O (λ_ h=>Pl Rp O O (h.OZ mt) O) d<|P7 12 O (T7 Rp O) d<|Pu 13 O O d<|P7 14 O (QL O) d<|P7 15 O (PU SW O) d<|qT 16 O (λ_ h=>Pl U3 O O (h.OZ mt) O) d<|P7 17 O (ZQ O O) d<|TJ<|P7 18 O (Ux O O) d<|P7 19 O (S6 O) d<|qE<|P9 O<|QG O ?_;refine PQ O<|Pr SW O<|qV (Pl U3 O O qP O)<|Rx O<|RO<|Pq O<|PM.qb (e:=[(0,_),(2,_),(4,_),(66,_)]) ?_;refine Pp O<|QG O<|PQ O<|Pr R6 O ?_
    obtain⟨x,r,B⟩:∃x r,A.once=x::r:=by
     cases W:A.once with
     |nil=>rw[W] at T;simp at T;omega
     |cons x r=>exact⟨x,r,O⟩
    have f0:=Wc G (j:=0) ψ;rw[show A.li 0=A.once from rfl,show Yq A.once= .tuple #[I x,.bool true] by rw[B];rfl] at f0;obtain⟨w3,qQ⟩:∃w3,w2.drew=w3:=⟨_,O⟩;rw[qQ] at f0 G cP d⊢;refine Px Zn O f0 ?_;rintro _ w3⟨rfl,rfl⟩;refine Ph O (qV (S9 (v:=I x) O O) (qV (S9 (v:= .bool true) O O) (SO O (Rq O (PQ O (Pr R6 O (Ph O (Px Th O (QI G (j:=0) (k:=x) ψ) ?_))))))));rintro _ N⟨rfl,M,E⟩;have P:(A.li 0).erase x=A.once.drop 1:=by show A.once.erase x=A.once.drop 1;rw[B];simp
    rw[P] at E;have y:=(F.r d).trans E;have u:=y.k.OZ L (λe=>n2 _ e O);refine qM O (Ph O (qV (T3 (cs:=[_,_,_]) PW O WL O O) (Po O (Qh (news:=S7 false (some x)) PW O O O O u ξ) ?_)));rintro w6⟨gY,aG⟩;replace gY:Pm w6 b2 [.bool false,.bool true,I x] 261:=gY;refine P4<|PK func192 (.cell Sy O PW O (Pm.cells (n:=3) gY (news:=[_,_,_]) O) O .nil) ?_
    have n5:∀b,T5 c M p b->b≠b2:=λb z e=>by
     rcases y.fp b z with C|C
     ·exact n2 b C e
     ·have:=L.lt;omega
    have U:A.add=(A.Qq 0 (A.once.drop 1),some x):=by unfold Arc.add;rw[if_pos J,if_neg T,B];rfl
    rw[U];exact⟨_,O,O,M,y.m.kp aG n5,λb z=>(y.fp b z).imp id (λe=>ω),(H.kp.trans y.k).It aG (λj e=> .inl ω)⟩
  ·refine P6<|OY<|RI (λw'=>Ext w2 w') O<|Pu 0 O O d<|Pu 1 O O d<|P7 2 O (QL O) d<|P7 3 O (PU SW O) d<|qT 4 O (λ_ h=>Pl U3 O O (h.OZ mt) O) d<|P7 5 O (yeq O O) d<|TJ<|Pu 6 O O d<|qJ 7 O d<|qJ 8 O d<|qJ 9 O d ?_;refine qJ 10 O d<|qJ 11 O d<|qJ 12 O d<|qJ 13 O d<|qJ 14 O d<|qJ 15 O d<|qJ 16 O d<|qJ 17 O d<|P7 18 O (U0 O O) d<|P7 19 O (S6 O) d<|qE<|P9 O<|QG O<|PQ O ?_;refine Pr SW O<|qV (Pl U3 O O qP O)<|Rx O<|Qb<|Pq O<|PM.qb (e:=[(0,_),(2,_),(4,_),(66,_)]) ?_;refine P9 O<|QG O<|PQ O<|Pr SW O<|qV (Pl U3 O O qP O) ?_;by_cases h4:A.all.length<A.size
   ·refine QY O (RO (Pq O (Pp O (qN O (qV (T3 (cs:=[_,_,_]) PW O WL O O) (Po O (Qh (news:=S7 false none) PW O O O O cP ξ) ?_))))));rintro N⟨u,Q⟩;replace u:Pm N b2 [.bool false,.bool false,I 0] 261:=u;refine P4<|PK func192 (.cell Sy O PW O (Pm.cells (n:=3) u (news:=[_,_,_]) O) O .nil) ?_;have U:A.add=(A,none):=by unfold Arc.add;rw[if_neg J,if_pos h4]
    rw[U];exact⟨_,O,O,V,G.kp Q n2,λb z=> .inl z,((H.trans d).It Q (λj e=>ω)).kp⟩
   ·refine QY O (Qb (Pq O (P9 O (QG O (PQ O (Pr SW O (qV (Pl U3 O O qP O) (qV (Y8 O O ω) ?_))))))));by_cases C:A.all.length=2*A.size
    ·refine Rx O<|RO<|Pq O<|Pp O ?_
     obtain⟨x,r,B⟩:∃x r,A.Ps=x::r:=by
      cases W:A.Ps with
      |nil=>rw[W] at i8;simp at i8;omega
      |cons x r=>exact⟨x,r,O⟩
     obtain⟨lb,lo,lc,Y,-⟩:=F.head (j:=3) ψ B;rw[K] at Y;cases Y;have R:=(G.q 3 ψ).sl.rd;rw[K] at R;have sA:0<A.Ps.length:=by rw[B];simp
     have jJ:((A.li 3).map I)[0]? =some (I x):=by show(A.Ps.map I)[0]? =_;rw[B];rfl
     have f:=Ext.Pz w2.drew;refine PC [10] (λw'=>Ext w2.drew w') Pd O (Qm 0 O O f (PH 1 O (QL O) f (PH 2 O (PU RM O) f (Qm 3 O O f (PH 4 O (QL O) f (PH 5 O (PU RM O) f (PH 6 O (PU QB O) f (qL 7 O (λ_ h=>Pl Rp O O (h.OZ (d.OZ mt)) O) f (PH 8 O (Qc Rp Qe O O ω) f (qL 9 O (λ_ h=>PG U3 O O (Qs (R.ext h) (i:=0) jJ)) f (TV [10] (Tl 10 O Th O (QI (G.ext f) (j:=3) (k:=x) ψ) ?_))))))))))));rintro _ N⟨rfl,M,E⟩;refine⟨trivial,?_⟩;have P:(A.li 3).erase x=A.Ps.drop 1:=by show A.Ps.erase x=A.Ps.drop 1;rw[B];simp
     rw[P] at E;have y:=(F.r (d.trans f)).trans E;have u:=y.k.OZ L (λe=>n2 _ e O);refine qE<|PM.qb (e:=[(0,_),(2,_)]) ?_;refine An ?_;exact(dM _ _ ⟨O,_,M,D.zir,(z1m A (j:=3) ψ _).1,y,u,by unfold Arc.add;rw[if_neg J,if_neg h4,if_pos C];rfl,y.k.size⟩).qb
    ·refine Rx O<|Qb<|Pq O<|Tj O<|An ?_;exact(dM _ _ ⟨O,A,V,D,O,F.r d,cP,by unfold Arc.add;rw[if_neg J,if_neg h4,if_neg C],d.size⟩).qb
end
section
def Tg.z0h (h:Tg w c A V p)(hB:Pm w' c (acC A.size T V p) 190)(g:Kp (λb=>b=c) w w'):WV w c V p w' {A with target:=T} V:=
 ⟨⟨hB,λj f=>by
  have e:({A with target:=T}:Arc).li j=A.li j:=by match j,f with|0,_|1,_|2,_|3,_=>rfl
  rw[e]
  exact(h.q j f).kp g λb d e=>h.nc j f (e▸d),g.map h.pins (λe=>h.cp e.symm),h.VH,h.nc,h.np,h.cp⟩,λb d=> .inl d,g.Pk λb e=> .inl e⟩
def Arc.Ok.z0h (h:A.Ok)(d:0<=T/\T<=A.size):({A with target:=T}:Arc).Ok:=⟨h.pos,h.nd,h.held,h.first,h.total,d⟩
def WV.mono (h:WV w c V p w' A' V')(f:∀j,T5 c V p j->j≠b)(l:b<w.heap.size):∀j,T5 c V' p j->j≠b:=λj g e=>by
 rcases h.fp j g with d|d
 ·exact f j d e
 ·omega
theorem z71 (h:Tg w c A V p)(X:A.Ok)(cO:A.size<=1000):PN prog 156 [ptr c 0,I k] w λv w'=>v= .tuple #[zdN (A.RY k).2.1 (A.RY k).2.2,I 0]/\∃V',WV w c V p w' (A.RY k).1 V':=by
 have wM:=X.lens cO 1
 have j6:=X.lens cO 2
 have mS:=X.lens cO 3
 have FA:=X.tg
 have ip:=X.pos
 have i8:=A.Rn
 have K:=X.total
 have eA:=X.nd
 unfold Arc.all at eA
 rw[y0L] at eA
 obtain⟨a5,a1,a6⟩:=eA
 rw[y0L] at a1
 obtain⟨a4,a7,a8⟩:=a1
 have aP:∀{b:Nat},T5 c V p b->b<w.heap.size:=h.lt
 rw[show A.li 1=A.often from rfl] at wM
 rw[show A.li 2=A.Pw from rfl] at j6
 rw[show A.li 3=A.Ps from rfl] at mS
 refine py (e:=[(0,_),(1,_)]) func156 O ntmps156 O O<|qN O<|Pb O O (S5 (cs:=[_,_,_]) PW O) ?_
 rintro _ w1⟨E,rfl,g7,ad,aF⟩
 replace aF:Pm w1 E [.bool false,.bool false,I 0] 261:=aF
 have n4:∀b,T5 c V p b->b≠E:=λb y e=>by have:=aP y;omega
 have l4:=aF.lt
 have h1:=h.ext ad
 have z1:=ad.size
 refine Pq O<|Qi O<|qV (Qz zb3 O O)<|QC O<|OY<|QG O<|Px zfB O (z2V h1 (k:=k)) ?_
 rintro _ w1⟨rfl,rfl⟩
 by_cases bB:k∈A.once\/k∈A.often
 ·rw[decide_eq_true bB];refine P4 (Pp O (PL O (PQ O (Pr R6 O (Ph O (Px Th O (QI h1 (j:=0) (k:=k) ψ) ?_))))));rintro _ w2⟨rfl,V2,dl⟩;refine qM O (Ph O (PQ O (Pr RT O (Ph O (Px Th O (QI dl.m (j:=1) (k:=k) ψ) ?_)))));rintro _ w3⟨rfl,V3,cg⟩;refine qM O<|Ph O<|PQ O<|Pr RT O<|Ph O ?_
  have wO:k∉((A.Qq 0 ((A.li 0).erase k)).Qq 1 (((A.Qq 0 ((A.li 0).erase k)).li 1).erase k)).li 1:=by
   show k∉A.often.erase k;exact a4.not_mem_erase
  have im:(((A.Qq 0 ((A.li 0).erase k)).Qq 1 (((A.Qq 0 ((A.li 0).erase k)).li 1).erase k)).li 1).length<=8191:=by
   show(A.often.erase k).length<=_;have:=(y25:(A.often.erase k).length<=A.often.length);omega
  refine Px TQ O (Rl cg.m (j:=1) (k:=k) ψ wO im) ?_;rintro _ w4⟨rfl,V4,bF⟩;have hr:=(dl.trans cg).trans bF;have cD:=hr.k.OZ aF (λe=>n4 _ e O);refine qM O (qV (T3 (cs:=[_,_,_]) PW O WL O O) (Po O (Qh (news:=S7 true none) PW O O O O cD ξ) ?_));rintro w5⟨aL,ai⟩;replace aL:Pm w5 E [.bool true,.bool false,I 0] 261:=aL;refine Pq O<|PM.qb (e:=[(0,_),(1,_),(4,_),(5,_)]) ?_;refine PK func156 (.cell Sy O PW O (Pm.cells (n:=3) aL (news:=[_,_,_]) O) O (.tmp O .nil)) ?_;have K:A.RY k=({A with once:=A.once.erase k,often:=A.often.erase k++[k]},true,none):=by unfold Arc.RY;rw[if_pos bB]
  rw[K];exact⟨_,O,O,V4,hr.m.kp ai (hr.mono n4 l4),λb y=>(hr.fp b y).imp id (λe=>ω),(ad.kp.trans hr.k).It ai (λj e=> .inl ω)⟩
 ·rw [decide_eq_false bB]; have ib : k ∉ A.once := λe => bB (.inl e); have aK : k ∉ A.often := λe => bB (.inr e); have mb : ¬ A.held k := bB; refine P4 (P9 O ?_); have f0 := Wc h1 (j := 0) ψ; have f1 := Wc h1 (j := 1) ψ; rw [show A.li 0 = A.once from rfl] at f0; rw [show A.li 1 = A.often from rfl] at f1
  obtain⟨v0,o0,e0,q0⟩:∃x o,Yq A.once= .tuple #[I x,.bool o]/\(o=true↔A.once≠[]):=by
   cases A.once with
   |nil=>exact⟨_,_,O,ξ⟩
   |cons x r=>exact⟨_,_,O,ξ⟩
  obtain⟨v1,o1,e1,q1⟩:∃x o,Yq A.often= .tuple #[I x,.bool o]/\(o=true↔A.often≠[]):=by
   cases A.often with
   |nil=>exact⟨_,_,O,ξ⟩
   |cons x r=>exact⟨_,_,O,ξ⟩
  rw[e0] at f0;rw[e1] at f1;refine P5<|QG O<|PQ O<|Pr R6 O<|Px Zn O f0 ?_;rintro _ w1⟨rfl,rfl⟩;refine Ph O<|qV (S9 (v:=I v0) O O)<|qV (S9 (v:= .bool o0) O O)<|SO O<|Ro O<|PB O<|PQ O<|Pr RT O<|Px Zn O f1 ?_;rintro _ w1⟨rfl,rfl⟩;refine Ph O<|qV (S9 (v:=I v1) O O)<|qV (S9 (v:= .bool o1) O O)<|QS O<|PM.qb (e:=[(0,_),(1,_),(4,_),(5,_),(7,_),(9,_)]) ?_;refine Qi O<|Px zfr O (z3c h1 X cO) ?_;rintro _ w2⟨rfl,ae⟩;have h2:=h1.ext ae;have bz:=ae.OZ aF;have aO:=ad.trans ae;have z2:=ae.size;have U:=h2.cells;have d:=Ext.Pz w2;obtain⟨a2,c2,e2,-⟩:∃a c,(V 2).1= .slice a A.Pw.length c/\_:=(h.q 2 ψ).sl.rd.shape;obtain⟨a3,c3,e3,-⟩:∃a c,(V 3).1= .slice a A.Ps.length c/\_:=(h.q 3 ψ).sl.rd.shape;rw[e2,e3] at U;have mT:=VX h2 (j:=2) (k:=k) ψ;have qQ:=VX h2 (j:=3) (k:=k) ψ;rw[show A.li 2=A.Pw from rfl] at mT;rw[show A.li 3=A.Ps from rfl] at qQ;have z:∀b,T5 c V p b->b≠E:=n4;have a0:E<w2.heap.size:=ω
  by_cases ce:A.once.length+A.often.length=A.size
  ·rw [decide_eq_true ce]
   cases IV:o0 with
   | true =>
     subst IV;refine PB O<|qV (SD O)<|Rr O<|Ph O<|QV<|Ql O<|QC O<|R0<|PL O<|PQ O<|Pr Rk O<|Ph O<|Px Yi O mT ?_;rintro _ w2⟨rfl,rfl⟩;by_cases hg:k∈A.Pw
     ·rw[decide_eq_true hg];refine Pq O<|Pp O<|OY ?_;have sA:0<A.Pw.length:=y1K hg;obtain⟨q,t⟩:∃q,A.Ps.length / A.Pw.length=q:=⟨_,O⟩;have fP:q<=2000:=by rw[<-t];exact y0b (y0R _ _) mS
      have mU:(A.Ps.length:Int) / (A.Pw.length:Int)=(q:Int):=by rw[<-t];exact(y2b _ _).symm
      refine PC [27] (λw'=>Ext w2 w') Pd O<|Qm 0 O O d<|Qm 1 O O d<|PH 2 O (QL O) d<|PH 3 O (PU SW O) d<|qL 4 O (λ_ h=>Pl U3 O O (h.OZ U) O) d<|Qm 5 O O d<|PH 6 O (QL O) d<|PH 7 O (PU RK O) d<|qL 8 O (λ_ h=>Pl U3 O O (h.OZ U) O) d<|Qm 9 O O d<|PH 10 O (QL O) d<|PH 11 O (PU RM O) d<|PH 12 O (PU QB O) d ?_;refine qL 13 O (λ_ h=>Pl Rp O O (h.OZ U) O) d (PH 14 O (T7 Rp O) d (Qm 15 O O d (PH 16 O (QL O) d (PH 17 O (PU Rk O) d (PH 18 O (PU QB O) d (qL 19 O (λ_ h=>Pl Rp O O (h.OZ U) O) d (PH 20 O (T7 Rp O) d (PH 21 O (X5 O O ⟨ω,ω,ω⟩) d ?_))))))));rw[mU];refine PH 22 O (yma O O) d (PH 23 O (Vu O O ω) d (PH 24 O (ymi O O) d (PH 25 O (QL O) d (PH 26 O (PU RK O) d (TV [27] (qO 27 (Q0 (i:=27) O O (QZ Qe O O O (d.OZ U) ξ) ?_)))))));rintro w5⟨P,ai⟩;refine⟨trivial,?_⟩;obtain⟨T,hT⟩:∃T:Int,min (A.size:Int) (A.target+max 1 (q:Int))=T:=⟨_,O⟩;have og:0<=T/\T<=A.size:=ω
      rw[hT] at P
      replace P:Pm w5 c (acC A.size T V p) 190:=by
       show Pm w5 c [I (A.size:Int),(V 0).1,(V 0).2,(V 1).1,(V 1).2,(V 2).1,(V 2).2,(V 3).1,(V 3).2,I T,.map (some p)] _;rw[e2,e3];exact P
      have s:=(h2.ext d).z0h P ai;have Q:=X.z0h og;obtain⟨C,H⟩:∃C:Arc,{A with target:=T}=C:=⟨_,O⟩;have oX:C.size=A.size:=by rw[<-H]
      have oh:¬C.held k:=by rw[<-H];exact mb
      have sq:k∈C.Pw:=by rw[<-H];exact hg
      rw[H] at s Q;refine qE<|PM.qb (e:=[(0,_),(1,_),(4,_),(5,_)]) ?_;refine PL O (Px z1W O (Ug s.m Q ω false) ?_);rintro _ w6⟨rfl,V6,L⟩;have R:=Arc.TK Q false;obtain⟨r6,Y⟩:∃r,C.room false=r:=⟨_,O⟩;rw[Y] at L R⊢;obtain⟨l,g⟩:=r6;dsimp only at L R⊢;have gT:=R.perm.length_eq;have jt:=l.Rn;have ol:=C.Rn;have oo:=Q.total;have u:=((h2.r d).trans s).trans L;have bR:=u.k.OZ bz (λe=>z _ e O);refine Po O (Qh (news:=S7 false g) PW O O O O bR ξ) ?_;rintro w7⟨J,G⟩;replace J:Pm w7 E [.bool false,.bool g.isSome,I (g.getD 0)] 261:=J;have B:=u.mono z a0;have gN:=u.m.kp G B;refine qM O (Ph O (PQ O (Pr Rk O (Ph O (Px Th O (QI gN (j:=2) (k:=k) ψ) ?_)))));rintro _ w8⟨rfl,V8,gd⟩
      have dP:k∉(l.Qq 2 ((l.li 2).erase k)).li 1:=by
       show k∉l.often;exact λe=>oh ((R.gone k).1 (.inr e)).1
      refine P4 (Ra O (PQ O (Pr RT O (Ph O (Px TQ O (Rl gd.m (j:=1) (k:=k) ψ dP (by show l.often.length<=_;omega)) ?_)))));rintro _ w9⟨rfl,F,i9⟩;have D:=gd.trans i9;have bN:=D.k.OZ J (λe=>B _ e O);have f7:=bN
      have Z:∀b,T5 c F p b->T5 c V p b\/w2.heap.size<=b:=λb y=>by
       rcases D.fp b y with f|f
       ·exact u.fp b f
       ·have:=u.k.size;have:=G.size;exact .inr ω
      have aN:Kp (λj=>T5 c V p j\/j=E) w2 w9:=((u.k.Pk λj e=> .inl e).trans (G.Pk λj e=> .inr e)).It D.k (λj e=>by
       rcases u.fp j e with f|f
       ·exact .inr (.inl f)
       ·exact .inl f)
      refine P4 (An (qN O (qV (PO (news:=S7 false g) Sy O PW O (Pm.cells (n:=3) f7 O) O) (Po O (Qh (news:=S7 false g) PW O O O O f7 ξ) ?_))));rintro we⟨M,W⟩;replace M:Pm we E [.bool false,.bool g.isSome,I (g.getD 0)] 261:=M;refine Pq O<|PK func156 (.cell Sy O PW O (Pm.cells (n:=3) M (news:=[_,_,_]) O) O (.tmp O .nil)) ?_
      have N:∀b,T5 c F p b->b≠E:=λb y e=>by
       rcases Z b y with f|f
       ·exact z b f e
       ·omega
      have K:A.RY k=({l with Pw:=l.Pw.erase k,often:=l.often++[k]},false,g):=by
       unfold Arc.RY;rw[if_neg bB,if_pos hg];dsimp only;rw[t,hT,H,Y]
      rw[K]
      exact⟨_,rfl,rfl,F,D.m.kp W N,λb y=>(Z b y).imp id (λe=>ω),(aO.kp.It aN (λj e=>by
       rcases e with e| e
       ·exact .inr e
       ·exact .inl ω)).It W (λj e=> .inl ω)⟩
     ·have sB:=hg;rw[decide_eq_false hg];refine Pq O<|P9 O<|PL O<|PQ O<|Pr RM O<|Ph O<|Px Yi O qQ ?_;rintro _ w2⟨rfl,rfl⟩;by_cases hg:k∈A.Ps
      ·rw[decide_eq_true hg];refine Pq O<|PM.qb (e:=[(0,_),(1,_),(4,_),(5,_),(111,_)]) ?_;refine Pp O<|OY ?_;have sA:0<A.Ps.length:=y1K hg;obtain⟨q,t⟩:∃q,A.Pw.length / A.Ps.length=q:=⟨_,O⟩;have fP:q<=2000:=by rw[<-t];exact y0b (y0R _ _) j6
       have mU:(A.Pw.length:Int) / (A.Ps.length:Int)=(q:Int):=by rw[<-t];exact(y2b _ _).symm
       refine PC [23] (λw'=>Ext w2 w') Pd O<|Qm 0 O O d<|Qm 1 O O d<|PH 2 O (QL O) d<|PH 3 O (PU RK O) d<|qL 4 O (λ_ h=>Pl U3 O O (h.OZ U) O) d<|Qm 5 O O d<|PH 6 O (QL O) d<|PH 7 O (PU Rk O) d<|PH 8 O (PU QB O) d<|qL 9 O (λ_ h=>Pl Rp O O (h.OZ U) O) d<|PH 10 O (T7 Rp O) d<|Qm 11 O O d<|PH 12 O (QL O) d ?_;refine PH 13 O (PU RM O) d (PH 14 O (PU QB O) d (qL 15 O (λ_ h=>Pl Rp O O (h.OZ U) O) d (PH 16 O (T7 Rp O) d (PH 17 O (X5 O O ⟨ω,ω,ω⟩) d ?_))));rw[mU];refine PH 18 O (yma O O) d (PH 19 O (Yf O O ω) d (PH 20 O (yma O O) d (PH 21 O (QL O) d (PH 22 O (PU RK O) d (TV [23] (qO 23 (Q0 (i:=23) O O (QZ Qe O O O (d.OZ U) ξ) ?_)))))));rintro w5⟨P,ai⟩;refine⟨trivial,?_⟩;obtain⟨T,hT⟩:∃T:Int,max 0 (A.target-max 1 (q:Int))=T:=⟨_,O⟩;have og:0<=T/\T<=A.size:=ω
       rw[hT] at P
       replace P:Pm w5 c (acC A.size T V p) 190:=by
        show Pm w5 c [I (A.size:Int),(V 0).1,(V 0).2,(V 1).1,(V 1).2,(V 2).1,(V 2).2,(V 3).1,(V 3).2,I T,.map (some p)] _;rw[e2,e3];exact P
       have s:=(h2.ext d).z0h P ai;have Q:=X.z0h og;obtain⟨C,H⟩:∃C:Arc,{A with target:=T}=C:=⟨_,O⟩;have oX:C.size=A.size:=by rw[<-H]
       have oh:¬C.held k:=by rw[<-H];exact mb
       have sq:k∈C.Ps:=by rw[<-H];exact hg
       rw[H] at s Q;refine qE<|PM.qb (e:=[(0,_),(1,_),(4,_),(5,_)]) ?_;refine PL O (Px z1W O (Ug s.m Q ω true) ?_);rintro _ w6⟨rfl,V6,L⟩;have R:=Arc.TK Q true;obtain⟨r6,Y⟩:∃r,C.room true=r:=⟨_,O⟩;rw[Y] at L R⊢;obtain⟨l,g⟩:=r6;dsimp only at L R⊢;have gT:=R.perm.length_eq;have jt:=l.Rn;have ol:=C.Rn;have oo:=Q.total;have u:=((h2.r d).trans s).trans L;have bR:=u.k.OZ bz (λe=>z _ e O);refine Po O (Qh (news:=S7 false g) PW O O O O bR ξ) ?_;rintro w7⟨J,G⟩;replace J:Pm w7 E [.bool false,.bool g.isSome,I (g.getD 0)] 261:=J;have B:=u.mono z a0;have gN:=u.m.kp G B;refine qM O (Ph O (PQ O (Pr RM O (Ph O (Px Th O (QI gN (j:=3) (k:=k) ψ) ?_)))));rintro _ w8⟨rfl,V8,gd⟩
       have dP:k∉(l.Qq 3 ((l.li 3).erase k)).li 1:=by
        show k∉l.often;exact λe=>oh ((R.gone k).1 (.inr e)).1
       refine P4 (Ra O (PQ O (Pr RT O (Ph O (Px TQ O (Rl gd.m (j:=1) (k:=k) ψ dP (by show l.often.length<=_;omega)) ?_)))));rintro _ w9⟨rfl,F,i9⟩;have D:=gd.trans i9;have bN:=D.k.OZ J (λe=>B _ e O);have f7:=bN
       have Z:∀b,T5 c F p b->T5 c V p b\/w2.heap.size<=b:=λb y=>by
        rcases D.fp b y with f|f
        ·exact u.fp b f
        ·have:=u.k.size;have:=G.size;exact .inr ω
       have aN:Kp (λj=>T5 c V p j\/j=E) w2 w9:=((u.k.Pk λj e=> .inl e).trans (G.Pk λj e=> .inr e)).It D.k (λj e=>by
        rcases u.fp j e with f|f
        ·exact .inr (.inl f)
        ·exact .inl f)
       refine P4 (An (qN O (qV (PO (news:=S7 false g) Sy O PW O (Pm.cells (n:=3) f7 O) O) (Po O (Qh (news:=S7 false g) PW O O O O f7 ξ) ?_))));rintro we⟨M,W⟩;replace M:Pm we E [.bool false,.bool g.isSome,I (g.getD 0)] 261:=M;refine Pq O<|PK func156 (.cell Sy O PW O (Pm.cells (n:=3) M (news:=[_,_,_]) O) O (.tmp O .nil)) ?_
       have N:∀b,T5 c F p b->b≠E:=λb y e=>by
        rcases Z b y with f|f
        ·exact z b f e
        ·omega
       have K:A.RY k=({l with Ps:=l.Ps.erase k,often:=l.often++[k]},false,g):=by
        unfold Arc.RY;rw[if_neg bB,if_neg sB,if_pos hg];dsimp only;rw[t,hT,H,Y]
       rw[K]
       exact⟨_,rfl,rfl,F,D.m.kp W N,λb y=>(Z b y).imp id (λe=>ω),(aO.kp.It aN (λj e=>by
        rcases e with e| e
        ·exact .inr e
        ·exact .inl ω)).It W (λj e=> .inl ω)⟩
      ·rw[decide_eq_false hg];refine Pq O<|PM.qb (e:=[(0,_),(1,_),(4,_),(5,_),(111,_)]) ?_;refine P9 O<|PL O<|Px zbY O (z2k h2 X cO) ?_;rintro _ w6⟨rfl,V6,L⟩;have dO:=Arc.z3A X;obtain⟨r6,Y⟩:∃r,A.add=r:=⟨_,O⟩;rw[Y] at L dO⊢;obtain⟨l,g⟩:=r6;dsimp only at L dO⊢;obtain⟨fG,-,-⟩:=dO;have jt:=l.Rn;have u:=L;have bR:=u.k.OZ bz (λe=>z _ e O);refine Po O (Qh (news:=S7 false g) PW O O O O bR ξ) ?_;rintro w7⟨J,G⟩;replace J:Pm w7 E [.bool false,.bool g.isSome,I (g.getD 0)] 261:=J;have B:=u.mono z a0;have gN:=u.m.kp G B
       have dP:k∉l.li 0:=by
        show k∉l.once;exact λe=>mb ((fG.gone k).1 (.inl e)).1
       have nY:=fG.Zl;refine P4 (Ra O (PQ O (Pr R6 O (Ph O (Px TQ O (Rl gN (j:=0) (k:=k) ψ dP (by show l.once.length<=_;omega)) ?_)))));rintro _ w9⟨rfl,F,i9⟩;have D:=i9;have bN:=D.k.OZ J (λe=>B _ e O);have f7:=bN
       have Z:∀b,T5 c F p b->T5 c V p b\/w2.heap.size<=b:=λb y=>by
        rcases D.fp b y with f|f
        ·exact u.fp b f
        ·have:=u.k.size;have:=G.size;exact .inr ω
       have aN:Kp (λj=>T5 c V p j\/j=E) w2 w9:=((u.k.Pk λj e=> .inl e).trans (G.Pk λj e=> .inr e)).It D.k (λj e=>by
        rcases u.fp j e with f|f
        ·exact .inr (.inl f)
        ·exact .inl f)
       refine P4 (An (qN O (qV (PO (news:=S7 false g) Sy O PW O (Pm.cells (n:=3) f7 O) O) (Po O (Qh (news:=S7 false g) PW O O O O f7 ξ) ?_))));rintro we⟨M,W⟩;replace M:Pm we E [.bool false,.bool g.isSome,I (g.getD 0)] 261:=M;refine Pq O<|PK func156 (.cell Sy O PW O (Pm.cells (n:=3) M (news:=[_,_,_]) O) O (.tmp O .nil)) ?_
       have N:∀b,T5 c F p b->b≠E:=λb y e=>by
        rcases Z b y with f|f
        ·exact z b f e
        ·omega
       have K:A.RY k=({l with once:=l.once++[k]},false,g):=by
        unfold Arc.RY;rw[if_neg bB,if_neg sB,if_neg hg];dsimp only;rw[Y]
       rw[K]
       exact⟨_,rfl,rfl,F,D.m.kp W N,λb y=>(Z b y).imp id (λe=>ω),(aO.kp.It aN (λj e=>by
        rcases e with e| e
        ·exact .inr e
        ·exact .inl ω)).It W (λj e=> .inl ω)⟩
   | false =>
     subst IV
     have zZ:o1=true:=by
      have e:A.once=[]:=Classical.not_not.1 λe=>by have:=q0.2 e;cases this
      rw[e] at ce;exact q1.2 λe=>by rw[e] at ce;simp at ce;omega
     subst zZ;refine PB O<|qV (SD O)<|Rr O<|PB O<|qV (SD O)<|Rr O<|QC O<|R0<|PL O<|PQ O<|Pr Rk O<|Ph O<|Px Yi O mT ?_;rintro _ w2⟨rfl,rfl⟩;by_cases hg:k∈A.Pw
     ·rw[decide_eq_true hg];refine Pq O<|Pp O<|OY ?_;have sA:0<A.Pw.length:=y1K hg;obtain⟨q,t⟩:∃q,A.Ps.length / A.Pw.length=q:=⟨_,O⟩;have fP:q<=2000:=by rw[<-t];exact y0b (y0R _ _) mS
      have mU:(A.Ps.length:Int) / (A.Pw.length:Int)=(q:Int):=by rw[<-t];exact(y2b _ _).symm
      refine PC [27] (λw'=>Ext w2 w') Pd O<|Qm 0 O O d<|Qm 1 O O d<|PH 2 O (QL O) d<|PH 3 O (PU SW O) d<|qL 4 O (λ_ h=>Pl U3 O O (h.OZ U) O) d<|Qm 5 O O d<|PH 6 O (QL O) d<|PH 7 O (PU RK O) d<|qL 8 O (λ_ h=>Pl U3 O O (h.OZ U) O) d<|Qm 9 O O d<|PH 10 O (QL O) d<|PH 11 O (PU RM O) d<|PH 12 O (PU QB O) d ?_;refine qL 13 O (λ_ h=>Pl Rp O O (h.OZ U) O) d (PH 14 O (T7 Rp O) d (Qm 15 O O d (PH 16 O (QL O) d (PH 17 O (PU Rk O) d (PH 18 O (PU QB O) d (qL 19 O (λ_ h=>Pl Rp O O (h.OZ U) O) d (PH 20 O (T7 Rp O) d (PH 21 O (X5 O O ⟨ω,ω,ω⟩) d ?_))))))));rw[mU];refine PH 22 O (yma O O) d (PH 23 O (Vu O O ω) d (PH 24 O (ymi O O) d (PH 25 O (QL O) d (PH 26 O (PU RK O) d (TV [27] (qO 27 (Q0 (i:=27) O O (QZ Qe O O O (d.OZ U) ξ) ?_)))))));rintro w5⟨P,ai⟩;refine⟨trivial,?_⟩;obtain⟨T,hT⟩:∃T:Int,min (A.size:Int) (A.target+max 1 (q:Int))=T:=⟨_,O⟩;have og:0<=T/\T<=A.size:=ω
      rw[hT] at P
      replace P:Pm w5 c (acC A.size T V p) 190:=by
       show Pm w5 c [I (A.size:Int),(V 0).1,(V 0).2,(V 1).1,(V 1).2,(V 2).1,(V 2).2,(V 3).1,(V 3).2,I T,.map (some p)] _;rw[e2,e3];exact P
      have s:=(h2.ext d).z0h P ai;have Q:=X.z0h og;obtain⟨C,H⟩:∃C:Arc,{A with target:=T}=C:=⟨_,O⟩;have oX:C.size=A.size:=by rw[<-H]
      have oh:¬C.held k:=by rw[<-H];exact mb
      have sq:k∈C.Pw:=by rw[<-H];exact hg
      rw[H] at s Q;refine qE<|PM.qb (e:=[(0,_),(1,_),(4,_),(5,_)]) ?_;refine PL O (Px z1W O (Ug s.m Q ω false) ?_);rintro _ w6⟨rfl,V6,L⟩;have R:=Arc.TK Q false;obtain⟨r6,Y⟩:∃r,C.room false=r:=⟨_,O⟩;rw[Y] at L R⊢;obtain⟨l,g⟩:=r6;dsimp only at L R⊢;have gT:=R.perm.length_eq;have jt:=l.Rn;have ol:=C.Rn;have oo:=Q.total;have u:=((h2.r d).trans s).trans L;have bR:=u.k.OZ bz (λe=>z _ e O);refine Po O (Qh (news:=S7 false g) PW O O O O bR ξ) ?_;rintro w7⟨J,G⟩;replace J:Pm w7 E [.bool false,.bool g.isSome,I (g.getD 0)] 261:=J;have B:=u.mono z a0;have gN:=u.m.kp G B;refine qM O (Ph O (PQ O (Pr Rk O (Ph O (Px Th O (QI gN (j:=2) (k:=k) ψ) ?_)))));rintro _ w8⟨rfl,V8,gd⟩
      have dP:k∉(l.Qq 2 ((l.li 2).erase k)).li 1:=by
       show k∉l.often;exact λe=>oh ((R.gone k).1 (.inr e)).1
      refine P4 (Ra O (PQ O (Pr RT O (Ph O (Px TQ O (Rl gd.m (j:=1) (k:=k) ψ dP (by show l.often.length<=_;omega)) ?_)))));rintro _ w9⟨rfl,F,i9⟩;have D:=gd.trans i9;have bN:=D.k.OZ J (λe=>B _ e O);have f7:=bN
      have Z:∀b,T5 c F p b->T5 c V p b\/w2.heap.size<=b:=λb y=>by
       rcases D.fp b y with f|f
       ·exact u.fp b f
       ·have:=u.k.size;have:=G.size;exact .inr ω
      have aN:Kp (λj=>T5 c V p j\/j=E) w2 w9:=((u.k.Pk λj e=> .inl e).trans (G.Pk λj e=> .inr e)).It D.k (λj e=>by
       rcases u.fp j e with f|f
       ·exact .inr (.inl f)
       ·exact .inl f)
      refine P4 (An (qN O (qV (PO (news:=S7 false g) Sy O PW O (Pm.cells (n:=3) f7 O) O) (Po O (Qh (news:=S7 false g) PW O O O O f7 ξ) ?_))));rintro we⟨M,W⟩;replace M:Pm we E [.bool false,.bool g.isSome,I (g.getD 0)] 261:=M;refine Pq O<|PK func156 (.cell Sy O PW O (Pm.cells (n:=3) M (news:=[_,_,_]) O) O (.tmp O .nil)) ?_
      have N:∀b,T5 c F p b->b≠E:=λb y e=>by
       rcases Z b y with f|f
       ·exact z b f e
       ·omega
      have K:A.RY k=({l with Pw:=l.Pw.erase k,often:=l.often++[k]},false,g):=by
       unfold Arc.RY;rw[if_neg bB,if_pos hg];dsimp only;rw[t,hT,H,Y]
      rw[K]
      exact⟨_,rfl,rfl,F,D.m.kp W N,λb y=>(Z b y).imp id (λe=>ω),(aO.kp.It aN (λj e=>by
       rcases e with e| e
       ·exact .inr e
       ·exact .inl ω)).It W (λj e=> .inl ω)⟩
     ·have sB:=hg;rw[decide_eq_false hg];refine Pq O<|P9 O<|PL O<|PQ O<|Pr RM O<|Ph O<|Px Yi O qQ ?_;rintro _ w2⟨rfl,rfl⟩;by_cases hg:k∈A.Ps
      ·rw[decide_eq_true hg];refine Pq O<|PM.qb (e:=[(0,_),(1,_),(4,_),(5,_),(111,_)]) ?_;refine Pp O<|OY ?_;have sA:0<A.Ps.length:=y1K hg;obtain⟨q,t⟩:∃q,A.Pw.length / A.Ps.length=q:=⟨_,O⟩;have fP:q<=2000:=by rw[<-t];exact y0b (y0R _ _) j6
       have mU:(A.Pw.length:Int) / (A.Ps.length:Int)=(q:Int):=by rw[<-t];exact(y2b _ _).symm
       refine PC [23] (λw'=>Ext w2 w') Pd O<|Qm 0 O O d<|Qm 1 O O d<|PH 2 O (QL O) d<|PH 3 O (PU RK O) d<|qL 4 O (λ_ h=>Pl U3 O O (h.OZ U) O) d<|Qm 5 O O d<|PH 6 O (QL O) d<|PH 7 O (PU Rk O) d<|PH 8 O (PU QB O) d<|qL 9 O (λ_ h=>Pl Rp O O (h.OZ U) O) d<|PH 10 O (T7 Rp O) d<|Qm 11 O O d<|PH 12 O (QL O) d ?_;refine PH 13 O (PU RM O) d (PH 14 O (PU QB O) d (qL 15 O (λ_ h=>Pl Rp O O (h.OZ U) O) d (PH 16 O (T7 Rp O) d (PH 17 O (X5 O O ⟨ω,ω,ω⟩) d ?_))));rw[mU];refine PH 18 O (yma O O) d (PH 19 O (Yf O O ω) d (PH 20 O (yma O O) d (PH 21 O (QL O) d (PH 22 O (PU RK O) d (TV [23] (qO 23 (Q0 (i:=23) O O (QZ Qe O O O (d.OZ U) ξ) ?_)))))));rintro w5⟨P,ai⟩;refine⟨trivial,?_⟩;obtain⟨T,hT⟩:∃T:Int,max 0 (A.target-max 1 (q:Int))=T:=⟨_,O⟩;have og:0<=T/\T<=A.size:=ω
       rw[hT] at P
       replace P:Pm w5 c (acC A.size T V p) 190:=by
        show Pm w5 c [I (A.size:Int),(V 0).1,(V 0).2,(V 1).1,(V 1).2,(V 2).1,(V 2).2,(V 3).1,(V 3).2,I T,.map (some p)] _;rw[e2,e3];exact P
       have s:=(h2.ext d).z0h P ai;have Q:=X.z0h og;obtain⟨C,H⟩:∃C:Arc,{A with target:=T}=C:=⟨_,O⟩;have oX:C.size=A.size:=by rw[<-H]
       have oh:¬C.held k:=by rw[<-H];exact mb
       have sq:k∈C.Ps:=by rw[<-H];exact hg
       rw[H] at s Q;refine qE<|PM.qb (e:=[(0,_),(1,_),(4,_),(5,_)]) ?_;refine PL O (Px z1W O (Ug s.m Q ω true) ?_);rintro _ w6⟨rfl,V6,L⟩;have R:=Arc.TK Q true;obtain⟨r6,Y⟩:∃r,C.room true=r:=⟨_,O⟩;rw[Y] at L R⊢;obtain⟨l,g⟩:=r6;dsimp only at L R⊢;have gT:=R.perm.length_eq;have jt:=l.Rn;have ol:=C.Rn;have oo:=Q.total;have u:=((h2.r d).trans s).trans L;have bR:=u.k.OZ bz (λe=>z _ e O);refine Po O (Qh (news:=S7 false g) PW O O O O bR ξ) ?_;rintro w7⟨J,G⟩;replace J:Pm w7 E [.bool false,.bool g.isSome,I (g.getD 0)] 261:=J;have B:=u.mono z a0;have gN:=u.m.kp G B;refine qM O (Ph O (PQ O (Pr RM O (Ph O (Px Th O (QI gN (j:=3) (k:=k) ψ) ?_)))));rintro _ w8⟨rfl,V8,gd⟩
       have dP:k∉(l.Qq 3 ((l.li 3).erase k)).li 1:=by
        show k∉l.often;exact λe=>oh ((R.gone k).1 (.inr e)).1
       refine P4 (Ra O (PQ O (Pr RT O (Ph O (Px TQ O (Rl gd.m (j:=1) (k:=k) ψ dP (by show l.often.length<=_;omega)) ?_)))));rintro _ w9⟨rfl,F,i9⟩;have D:=gd.trans i9;have bN:=D.k.OZ J (λe=>B _ e O);have f7:=bN
       have Z:∀b,T5 c F p b->T5 c V p b\/w2.heap.size<=b:=λb y=>by
        rcases D.fp b y with f|f
        ·exact u.fp b f
        ·have:=u.k.size;have:=G.size;exact .inr ω
       have aN:Kp (λj=>T5 c V p j\/j=E) w2 w9:=((u.k.Pk λj e=> .inl e).trans (G.Pk λj e=> .inr e)).It D.k (λj e=>by
        rcases u.fp j e with f|f
        ·exact .inr (.inl f)
        ·exact .inl f)
       refine P4 (An (qN O (qV (PO (news:=S7 false g) Sy O PW O (Pm.cells (n:=3) f7 O) O) (Po O (Qh (news:=S7 false g) PW O O O O f7 ξ) ?_))));rintro we⟨M,W⟩;replace M:Pm we E [.bool false,.bool g.isSome,I (g.getD 0)] 261:=M;refine Pq O<|PK func156 (.cell Sy O PW O (Pm.cells (n:=3) M (news:=[_,_,_]) O) O (.tmp O .nil)) ?_
       have N:∀b,T5 c F p b->b≠E:=λb y e=>by
        rcases Z b y with f|f
        ·exact z b f e
        ·omega
       have K:A.RY k=({l with Ps:=l.Ps.erase k,often:=l.often++[k]},false,g):=by
        unfold Arc.RY;rw[if_neg bB,if_neg sB,if_pos hg];dsimp only;rw[t,hT,H,Y]
       rw[K]
       exact⟨_,rfl,rfl,F,D.m.kp W N,λb y=>(Z b y).imp id (λe=>ω),(aO.kp.It aN (λj e=>by
        rcases e with e| e
        ·exact .inr e
        ·exact .inl ω)).It W (λj e=> .inl ω)⟩
      ·rw[decide_eq_false hg];refine Pq O<|PM.qb (e:=[(0,_),(1,_),(4,_),(5,_),(111,_)]) ?_;refine P9 O<|PL O<|Px zbY O (z2k h2 X cO) ?_;rintro _ w6⟨rfl,V6,L⟩;have dO:=Arc.z3A X;obtain⟨r6,Y⟩:∃r,A.add=r:=⟨_,O⟩;rw[Y] at L dO⊢;obtain⟨l,g⟩:=r6;dsimp only at L dO⊢;obtain⟨fG,-,-⟩:=dO;have jt:=l.Rn;have u:=L;have bR:=u.k.OZ bz (λe=>z _ e O);refine Po O (Qh (news:=S7 false g) PW O O O O bR ξ) ?_;rintro w7⟨J,G⟩;replace J:Pm w7 E [.bool false,.bool g.isSome,I (g.getD 0)] 261:=J;have B:=u.mono z a0;have gN:=u.m.kp G B
       have dP:k∉l.li 0:=by
        show k∉l.once;exact λe=>mb ((fG.gone k).1 (.inl e)).1
       have nY:=fG.Zl;refine P4 (Ra O (PQ O (Pr R6 O (Ph O (Px TQ O (Rl gN (j:=0) (k:=k) ψ dP (by show l.once.length<=_;omega)) ?_)))));rintro _ w9⟨rfl,F,i9⟩;have D:=i9;have bN:=D.k.OZ J (λe=>B _ e O);have f7:=bN
       have Z:∀b,T5 c F p b->T5 c V p b\/w2.heap.size<=b:=λb y=>by
        rcases D.fp b y with f|f
        ·exact u.fp b f
        ·have:=u.k.size;have:=G.size;exact .inr ω
       have aN:Kp (λj=>T5 c V p j\/j=E) w2 w9:=((u.k.Pk λj e=> .inl e).trans (G.Pk λj e=> .inr e)).It D.k (λj e=>by
        rcases u.fp j e with f|f
        ·exact .inr (.inl f)
        ·exact .inl f)
       refine P4 (An (qN O (qV (PO (news:=S7 false g) Sy O PW O (Pm.cells (n:=3) f7 O) O) (Po O (Qh (news:=S7 false g) PW O O O O f7 ξ) ?_))));rintro we⟨M,W⟩;replace M:Pm we E [.bool false,.bool g.isSome,I (g.getD 0)] 261:=M;refine Pq O<|PK func156 (.cell Sy O PW O (Pm.cells (n:=3) M (news:=[_,_,_]) O) O (.tmp O .nil)) ?_
       have N:∀b,T5 c F p b->b≠E:=λb y e=>by
        rcases Z b y with f|f
        ·exact z b f e
        ·omega
       have K:A.RY k=({l with once:=l.once++[k]},false,g):=by
        unfold Arc.RY;rw[if_neg bB,if_neg sB,if_neg hg];dsimp only;rw[Y]
       rw[K]
       exact⟨_,rfl,rfl,F,D.m.kp W N,λb y=>(Z b y).imp id (λe=>ω),(aO.kp.It aN (λj e=>by
        rcases e with e| e
        ·exact .inr e
        ·exact .inl ω)).It W (λj e=> .inl ω)⟩
  ·rw [decide_eq_false ce]; refine Ph O (QV (Ql O (Ph O (QV (Ql O (QC O (R0 (PL O (PQ O (Pr Rk O (Ph O (Px Yi O mT ?_)))))))))))); rintro _ w2⟨rfl, rfl⟩; by_cases hg : k ∈ A.Pw
   ·rw[decide_eq_true hg];refine Pq O<|Pp O<|OY ?_;have sA:0<A.Pw.length:=y1K hg;obtain⟨q,t⟩:∃q,A.Ps.length / A.Pw.length=q:=⟨_,O⟩;have fP:q<=2000:=by rw[<-t];exact y0b (y0R _ _) mS
    have mU:(A.Ps.length:Int) / (A.Pw.length:Int)=(q:Int):=by rw[<-t];exact(y2b _ _).symm
    refine PC [27] (λw'=>Ext w2 w') Pd O<|Qm 0 O O d<|Qm 1 O O d<|PH 2 O (QL O) d<|PH 3 O (PU SW O) d<|qL 4 O (λ_ h=>Pl U3 O O (h.OZ U) O) d<|Qm 5 O O d<|PH 6 O (QL O) d<|PH 7 O (PU RK O) d<|qL 8 O (λ_ h=>Pl U3 O O (h.OZ U) O) d<|Qm 9 O O d<|PH 10 O (QL O) d<|PH 11 O (PU RM O) d<|PH 12 O (PU QB O) d ?_;refine qL 13 O (λ_ h=>Pl Rp O O (h.OZ U) O) d (PH 14 O (T7 Rp O) d (Qm 15 O O d (PH 16 O (QL O) d (PH 17 O (PU Rk O) d (PH 18 O (PU QB O) d (qL 19 O (λ_ h=>Pl Rp O O (h.OZ U) O) d (PH 20 O (T7 Rp O) d (PH 21 O (X5 O O ⟨ω,ω,ω⟩) d ?_))))))));rw[mU];refine PH 22 O (yma O O) d (PH 23 O (Vu O O ω) d (PH 24 O (ymi O O) d (PH 25 O (QL O) d (PH 26 O (PU RK O) d (TV [27] (qO 27 (Q0 (i:=27) O O (QZ Qe O O O (d.OZ U) ξ) ?_)))))));rintro w5⟨P,ai⟩;refine⟨trivial,?_⟩;obtain⟨T,hT⟩:∃T:Int,min (A.size:Int) (A.target+max 1 (q:Int))=T:=⟨_,O⟩;have og:0<=T/\T<=A.size:=ω
    rw[hT] at P
    replace P:Pm w5 c (acC A.size T V p) 190:=by
     show Pm w5 c [I (A.size:Int),(V 0).1,(V 0).2,(V 1).1,(V 1).2,(V 2).1,(V 2).2,(V 3).1,(V 3).2,I T,.map (some p)] _;rw[e2,e3];exact P
    have s:=(h2.ext d).z0h P ai;have Q:=X.z0h og;obtain⟨C,H⟩:∃C:Arc,{A with target:=T}=C:=⟨_,O⟩;have oX:C.size=A.size:=by rw[<-H]
    have oh:¬C.held k:=by rw[<-H];exact mb
    have sq:k∈C.Pw:=by rw[<-H];exact hg
    rw[H] at s Q;refine qE<|PM.qb (e:=[(0,_),(1,_),(4,_),(5,_)]) ?_;refine PL O (Px z1W O (Ug s.m Q ω false) ?_);rintro _ w6⟨rfl,V6,L⟩;have R:=Arc.TK Q false;obtain⟨r6,Y⟩:∃r,C.room false=r:=⟨_,O⟩;rw[Y] at L R⊢;obtain⟨l,g⟩:=r6;dsimp only at L R⊢;have gT:=R.perm.length_eq;have jt:=l.Rn;have ol:=C.Rn;have oo:=Q.total;have u:=((h2.r d).trans s).trans L;have bR:=u.k.OZ bz (λe=>z _ e O);refine Po O (Qh (news:=S7 false g) PW O O O O bR ξ) ?_;rintro w7⟨J,G⟩;replace J:Pm w7 E [.bool false,.bool g.isSome,I (g.getD 0)] 261:=J;have B:=u.mono z a0;have gN:=u.m.kp G B;refine qM O (Ph O (PQ O (Pr Rk O (Ph O (Px Th O (QI gN (j:=2) (k:=k) ψ) ?_)))));rintro _ w8⟨rfl,V8,gd⟩
    have dP:k∉(l.Qq 2 ((l.li 2).erase k)).li 1:=by
     show k∉l.often;exact λe=>oh ((R.gone k).1 (.inr e)).1
    refine P4 (Ra O (PQ O (Pr RT O (Ph O (Px TQ O (Rl gd.m (j:=1) (k:=k) ψ dP (by show l.often.length<=_;omega)) ?_)))));rintro _ w9⟨rfl,F,i9⟩;have D:=gd.trans i9;have bN:=D.k.OZ J (λe=>B _ e O);have f7:=bN
    have Z:∀b,T5 c F p b->T5 c V p b\/w2.heap.size<=b:=λb y=>by
     rcases D.fp b y with f|f
     ·exact u.fp b f
     ·have:=u.k.size;have:=G.size;exact .inr ω
    have aN:Kp (λj=>T5 c V p j\/j=E) w2 w9:=((u.k.Pk λj e=> .inl e).trans (G.Pk λj e=> .inr e)).It D.k (λj e=>by
     rcases u.fp j e with f|f
     ·exact .inr (.inl f)
     ·exact .inl f)
    refine P4 (An (qN O (qV (PO (news:=S7 false g) Sy O PW O (Pm.cells (n:=3) f7 O) O) (Po O (Qh (news:=S7 false g) PW O O O O f7 ξ) ?_))));rintro we⟨M,W⟩;replace M:Pm we E [.bool false,.bool g.isSome,I (g.getD 0)] 261:=M;refine Pq O<|PK func156 (.cell Sy O PW O (Pm.cells (n:=3) M (news:=[_,_,_]) O) O (.tmp O .nil)) ?_
    have N:∀b,T5 c F p b->b≠E:=λb y e=>by
     rcases Z b y with f|f
     ·exact z b f e
     ·omega
    have K:A.RY k=({l with Pw:=l.Pw.erase k,often:=l.often++[k]},false,g):=by
     unfold Arc.RY;rw[if_neg bB,if_pos hg];dsimp only;rw[t,hT,H,Y]
    rw[K]
    exact⟨_,rfl,rfl,F,D.m.kp W N,λb y=>(Z b y).imp id (λe=>ω),(aO.kp.It aN (λj e=>by
     rcases e with e| e
     ·exact .inr e
     ·exact .inl ω)).It W (λj e=> .inl ω)⟩
   ·have sB:=hg;rw[decide_eq_false hg];refine Pq O<|P9 O<|PL O<|PQ O<|Pr RM O<|Ph O<|Px Yi O qQ ?_;rintro _ w2⟨rfl,rfl⟩;by_cases hg:k∈A.Ps
    ·rw[decide_eq_true hg];refine Pq O<|PM.qb (e:=[(0,_),(1,_),(4,_),(5,_),(111,_)]) ?_;refine Pp O<|OY ?_;have sA:0<A.Ps.length:=y1K hg;obtain⟨q,t⟩:∃q,A.Pw.length / A.Ps.length=q:=⟨_,O⟩;have fP:q<=2000:=by rw[<-t];exact y0b (y0R _ _) j6
     have mU:(A.Pw.length:Int) / (A.Ps.length:Int)=(q:Int):=by rw[<-t];exact(y2b _ _).symm
     refine PC [23] (λw'=>Ext w2 w') Pd O<|Qm 0 O O d<|Qm 1 O O d<|PH 2 O (QL O) d<|PH 3 O (PU RK O) d<|qL 4 O (λ_ h=>Pl U3 O O (h.OZ U) O) d<|Qm 5 O O d<|PH 6 O (QL O) d<|PH 7 O (PU Rk O) d<|PH 8 O (PU QB O) d<|qL 9 O (λ_ h=>Pl Rp O O (h.OZ U) O) d<|PH 10 O (T7 Rp O) d<|Qm 11 O O d<|PH 12 O (QL O) d ?_;refine PH 13 O (PU RM O) d (PH 14 O (PU QB O) d (qL 15 O (λ_ h=>Pl Rp O O (h.OZ U) O) d (PH 16 O (T7 Rp O) d (PH 17 O (X5 O O ⟨ω,ω,ω⟩) d ?_))));rw[mU];refine PH 18 O (yma O O) d (PH 19 O (Yf O O ω) d (PH 20 O (yma O O) d (PH 21 O (QL O) d (PH 22 O (PU RK O) d (TV [23] (qO 23 (Q0 (i:=23) O O (QZ Qe O O O (d.OZ U) ξ) ?_)))))));rintro w5⟨P,ai⟩;refine⟨trivial,?_⟩;obtain⟨T,hT⟩:∃T:Int,max 0 (A.target-max 1 (q:Int))=T:=⟨_,O⟩;have og:0<=T/\T<=A.size:=ω
     rw[hT] at P
     replace P:Pm w5 c (acC A.size T V p) 190:=by
      show Pm w5 c [I (A.size:Int),(V 0).1,(V 0).2,(V 1).1,(V 1).2,(V 2).1,(V 2).2,(V 3).1,(V 3).2,I T,.map (some p)] _;rw[e2,e3];exact P
     have s:=(h2.ext d).z0h P ai;have Q:=X.z0h og;obtain⟨C,H⟩:∃C:Arc,{A with target:=T}=C:=⟨_,O⟩;have oX:C.size=A.size:=by rw[<-H]
     have oh:¬C.held k:=by rw[<-H];exact mb
     have sq:k∈C.Ps:=by rw[<-H];exact hg
     rw[H] at s Q;refine qE<|PM.qb (e:=[(0,_),(1,_),(4,_),(5,_)]) ?_;refine PL O (Px z1W O (Ug s.m Q ω true) ?_);rintro _ w6⟨rfl,V6,L⟩;have R:=Arc.TK Q true;obtain⟨r6,Y⟩:∃r,C.room true=r:=⟨_,O⟩;rw[Y] at L R⊢;obtain⟨l,g⟩:=r6;dsimp only at L R⊢;have gT:=R.perm.length_eq;have jt:=l.Rn;have ol:=C.Rn;have oo:=Q.total;have u:=((h2.r d).trans s).trans L;have bR:=u.k.OZ bz (λe=>z _ e O);refine Po O (Qh (news:=S7 false g) PW O O O O bR ξ) ?_;rintro w7⟨J,G⟩;replace J:Pm w7 E [.bool false,.bool g.isSome,I (g.getD 0)] 261:=J;have B:=u.mono z a0;have gN:=u.m.kp G B;refine qM O (Ph O (PQ O (Pr RM O (Ph O (Px Th O (QI gN (j:=3) (k:=k) ψ) ?_)))));rintro _ w8⟨rfl,V8,gd⟩
     have dP:k∉(l.Qq 3 ((l.li 3).erase k)).li 1:=by
      show k∉l.often;exact λe=>oh ((R.gone k).1 (.inr e)).1
     refine P4 (Ra O (PQ O (Pr RT O (Ph O (Px TQ O (Rl gd.m (j:=1) (k:=k) ψ dP (by show l.often.length<=_;omega)) ?_)))));rintro _ w9⟨rfl,F,i9⟩;have D:=gd.trans i9;have bN:=D.k.OZ J (λe=>B _ e O);have f7:=bN
     have Z:∀b,T5 c F p b->T5 c V p b\/w2.heap.size<=b:=λb y=>by
      rcases D.fp b y with f|f
      ·exact u.fp b f
      ·have:=u.k.size;have:=G.size;exact .inr ω
     have aN:Kp (λj=>T5 c V p j\/j=E) w2 w9:=((u.k.Pk λj e=> .inl e).trans (G.Pk λj e=> .inr e)).It D.k (λj e=>by
      rcases u.fp j e with f|f
      ·exact .inr (.inl f)
      ·exact .inl f)
     refine P4 (An (qN O (qV (PO (news:=S7 false g) Sy O PW O (Pm.cells (n:=3) f7 O) O) (Po O (Qh (news:=S7 false g) PW O O O O f7 ξ) ?_))));rintro we⟨M,W⟩;replace M:Pm we E [.bool false,.bool g.isSome,I (g.getD 0)] 261:=M;refine Pq O<|PK func156 (.cell Sy O PW O (Pm.cells (n:=3) M (news:=[_,_,_]) O) O (.tmp O .nil)) ?_
     have N:∀b,T5 c F p b->b≠E:=λb y e=>by
      rcases Z b y with f|f
      ·exact z b f e
      ·omega
     have K:A.RY k=({l with Ps:=l.Ps.erase k,often:=l.often++[k]},false,g):=by
      unfold Arc.RY;rw[if_neg bB,if_neg sB,if_pos hg];dsimp only;rw[t,hT,H,Y]
     rw[K]
     exact⟨_,rfl,rfl,F,D.m.kp W N,λb y=>(Z b y).imp id (λe=>ω),(aO.kp.It aN (λj e=>by
      rcases e with e| e
      ·exact .inr e
      ·exact .inl ω)).It W (λj e=> .inl ω)⟩
    ·rw[decide_eq_false hg];refine Pq O<|PM.qb (e:=[(0,_),(1,_),(4,_),(5,_),(111,_)]) ?_;refine P9 O<|PL O<|Px zbY O (z2k h2 X cO) ?_;rintro _ w6⟨rfl,V6,L⟩;have dO:=Arc.z3A X;obtain⟨r6,Y⟩:∃r,A.add=r:=⟨_,O⟩;rw[Y] at L dO⊢;obtain⟨l,g⟩:=r6;dsimp only at L dO⊢;obtain⟨fG,-,-⟩:=dO;have jt:=l.Rn;have u:=L;have bR:=u.k.OZ bz (λe=>z _ e O);refine Po O (Qh (news:=S7 false g) PW O O O O bR ξ) ?_;rintro w7⟨J,G⟩;replace J:Pm w7 E [.bool false,.bool g.isSome,I (g.getD 0)] 261:=J;have B:=u.mono z a0;have gN:=u.m.kp G B
     have dP:k∉l.li 0:=by
      show k∉l.once;exact λe=>mb ((fG.gone k).1 (.inl e)).1
     have nY:=fG.Zl;refine P4 (Ra O (PQ O (Pr R6 O (Ph O (Px TQ O (Rl gN (j:=0) (k:=k) ψ dP (by show l.once.length<=_;omega)) ?_)))));rintro _ w9⟨rfl,F,i9⟩;have D:=i9;have bN:=D.k.OZ J (λe=>B _ e O);have f7:=bN
     have Z:∀b,T5 c F p b->T5 c V p b\/w2.heap.size<=b:=λb y=>by
      rcases D.fp b y with f|f
      ·exact u.fp b f
      ·have:=u.k.size;have:=G.size;exact .inr ω
     have aN:Kp (λj=>T5 c V p j\/j=E) w2 w9:=((u.k.Pk λj e=> .inl e).trans (G.Pk λj e=> .inr e)).It D.k (λj e=>by
      rcases u.fp j e with f|f
      ·exact .inr (.inl f)
      ·exact .inl f)
     refine P4 (An (qN O (qV (PO (news:=S7 false g) Sy O PW O (Pm.cells (n:=3) f7 O) O) (Po O (Qh (news:=S7 false g) PW O O O O f7 ξ) ?_))));rintro we⟨M,W⟩;replace M:Pm we E [.bool false,.bool g.isSome,I (g.getD 0)] 261:=M;refine Pq O<|PK func156 (.cell Sy O PW O (Pm.cells (n:=3) M (news:=[_,_,_]) O) O (.tmp O .nil)) ?_
     have N:∀b,T5 c F p b->b≠E:=λb y e=>by
      rcases Z b y with f|f
      ·exact z b f e
      ·omega
     have K:A.RY k=({l with once:=l.once++[k]},false,g):=by
      unfold Arc.RY;rw[if_neg bB,if_neg sB,if_neg hg];dsimp only;rw[Y]
     rw[K]
     exact⟨_,rfl,rfl,F,D.m.kp W N,λb y=>(Z b y).imp id (λe=>ω),(aO.kp.It aN (λj e=>by
      rcases e with e| e
      ·exact .inr e
      ·exact .inl ω)).It W (λj e=> .inl ω)⟩
end
def Arc.z9f (A:Arc)(k:Int):Nat->Arc
 |0=>A
 |i+1=>(A.z9f k i).Qq i (((A.z9f k i).li i).erase k)
def Arc.drop (A:Arc)(k:Int):Arc:=A.z9f k 4
theorem Arc.drop_eq (A:Arc)(k:Int):A.drop k={A with once:=A.once.erase k,often:=A.often.erase k,Pw:=A.Pw.erase k,Ps:=A.Ps.erase k}:=rfl
theorem Arc.Ok.drop (h:A.Ok)(k:Int):(A.drop k).Ok:=by
 rw[Arc.drop_eq]
 have d:(A.once.erase k++(A.often.erase k++(A.Pw.erase k++A.Ps.erase k))).Sublist A.all:=y2T.append (y2T.append (y2T.append y2T))
 have e:(A.once.erase k).length<=A.once.length:=y25
 have a2:(A.often.erase k).length<=A.often.length:=y25
 have f:(A.Pw.erase k).length<=A.Pw.length:=y25
 have g:=h.held
 have j:=h.first
 exact⟨h.pos,h.nd.sublist d,by dsimp only;omega,by dsimp only;omega,y0b d.length_le h.total,h.tg⟩
theorem Arc.zb7 (h:A.Ok)(k x:Int):(A.drop k).held x↔A.held x/\x≠k:=by
 have e:=h.nd
 unfold Arc.all at e
 rw[y0L] at e
 obtain⟨f,d,-⟩:=e
 rw[y0L] at d
 obtain⟨g,-,-⟩:=d
 rw[Arc.drop_eq]
 unfold Arc.held
 dsimp only
 rw[f.mem_erase_iff,g.mem_erase_iff]
 constructor
 ·rintro(⟨a,b⟩|⟨a,b⟩)
  ·exact⟨.inl b,a⟩
  ·exact⟨.inr b,a⟩
 ·rintro⟨b|b,a⟩
  ·exact .inl ⟨a,b⟩
  ·exact .inr ⟨a,b⟩
section
theorem zah (h:Tg w c A V p):PN prog 145 [ptr c 0,I k] w λv w'=>(∃z,v=I z)/\∃V',WV w c V p w' (A.drop k) V':=by
 have hB:=h.cells
 have G:=VX h (j:=2) (k:=k) ψ
 have H:=VX h (j:=3) (k:=k) ψ
 rw[show A.li 2=A.Pw from rfl] at G
 rw[show A.li 3=A.Ps from rfl] at H
 refine py (e:=[(0,_),(1,_)]) func145 O ntmps145 O O<|Re O<|OY<|Qf (λB w'=>B=[(0,ptr c 0),(1,I k)]/\w'=w) ?dM<|λdM=>?kE
 case dM=>
  rintro B w1⟨rfl,rfl⟩;have hg:=Ext.Pz w1;refine OY<|OY<|RI (λw'=>Ext w1 w') O<|Pu 0 O O (hg)<|P7 1 O (QL O) hg<|P7 2 O (PU R6 O) hg<|Pu 3 O O (hg)<|P7 4 O (QL O) hg<|P7 5 O (PU RT O) hg<|Pu 6 O O (hg)<|P7 7 O (QL O) hg<|P7 8 O (PU Rk O) hg<|Pu 9 O O (hg)<|P7 10 O (QL O) hg ?_;refine P7 11 O (PU RM O) hg (Pu 14 O O (hg) (qO 12 (z0n (i:=12) O O O (YD (cs:=[_,_,_,_]) (zs:=[Value.pointer none,Value.pointer none,Value.pointer none,Value.pointer none]) zgi zfL O Pd O O O ψ) ?_)));rintro _ w2⟨d,rfl,⟨J,q,Z⟩,C⟩;refine⟨hg.trans q,?_⟩;have D:=hg.trans q;refine P7 13 O (T7 zgi O) (hg.trans q)<|qE<|P6 ?_;have P:∀{b:Nat},T5 c V p b->b<w1.heap.size:=h.lt;have s:=C.lt (g:=d) O;have Y:=hg.size;have L:=C.rd;refine RX (α:=Nat×(Nat->Value×Value)) (0,V) (λx=>[(1,I k),(51,.slice (some ⟨d,0,none⟩) 4 4),(52,I 4),(53,I (x.1:Int))]) (λx w'=>x.1<=4/\WV w2 c V p w' (A.z9f k x.1) x.2/\Rd w' (.slice (some ⟨d,0,none⟩) 4 4) 1 4 [ptr c 1,ptr c 3,ptr c 5,ptr c 7]) (λx=>4-x.1) ?hI ?hround
  case hI=>exact⟨y00 _,(h.ext D).r (Ext.refl w2),L⟩
  case hround=>
   rintro⟨i,N⟩ t ⟨hi,f,o⟩ F;dsimp only at hi f o F⊢
   try dsimp only
   refine qN O<|QY O<|P4<|OY<|Pn O (λQ=>?_)<|λQ=>?_
   ·have l:i<4:=ω
    have W:([ptr c 1,ptr c 3,ptr c 5,ptr c 7]:List Value)[i]? =some (ptr c (1+2*i)):=by
     match i,l with
     |0,_|1,_|2,_|3,_=>rfl
    refine P5 (R0 (qN O (qV (Qc zgi zfL O O ω) (qV (PG zlB O O (Qs o W)) (Pq O (Pc O (PB O (Px Th O (QI f.m (j:=i) (k:=k) l) ?_))))))));rintro _ T⟨rfl,M,E⟩;refine P4 (An (Pc O (Qj O (Ph O (P4 ((F (i+1,M) _ ⟨l,f.trans E,o.kp E.k λg e U=>?_⟩ (by dsimp only;omega)).qb))))));have B:d=g:=RZ e;rcases f.fp _ U with e| e
    ·have:=P e;have a:d=w1.drew.heap.size:=J;omega
    ·omega
   ·have l:i=4:=ω
    subst l;refine Pf O<|Re O<|P3 func145 O ?_;exact⟨_,O,⟨0,O⟩,N,(h.r D).trans f⟩
 case kE =>
  refine P6<|PL O<|qV (Qz zb3 O O)<|Pq O<|P9 O<|QG O<|Px zfB O (z2V h (k:=k)) ?_;rintro _ w⟨rfl,rfl⟩;by_cases n:k∈A.once\/k∈A.often
  ·rw[decide_eq_true n];refine qV (SD O)<|Ph O<|QV<|QV<|QV<|Ql O<|Ph O<|QV<|QV<|QV<|Ql O<|Pq O<|PM.qb (e:=[(0,_),(1,_),(4,_),(10,_)]) ?_;refine P9 O<|PL O<|PQ O<|Pr z1k O<|qV (Pl WO O O hB O)<|Ph O<|qV (ylk (k:=k) (K:=KI) WO (Sx U3) Qe O O h.pins)<|R8 O<|Qb<|Pq O<|Tj O<|An ?_;exact(dM _ _ ⟨O,O⟩).qb
  ·rw [decide_eq_false n]; refine qV (SD O) (PB O (PQ O (Pr Rk O (Ph O (Px Yi O G ?_))))); rintro _ w⟨rfl, rfl⟩; by_cases u : k ∈ A.Pw
   ·rw[decide_eq_true u];refine qV (SD O)<|Rr O<|Ph O<|QV<|QV<|QV<|Ql O<|Pq O<|PM.qb (e:=[(0,_),(1,_),(4,_),(10,_)]) ?_;refine P9 O<|PL O<|PQ O<|Pr z1k O<|qV (Pl WO O O hB O)<|Ph O<|qV (ylk (k:=k) (K:=KI) WO (Sx U3) Qe O O h.pins)<|R8 O<|Qb<|Pq O<|Tj O<|An ?_;exact(dM _ _ ⟨O,O⟩).qb
   ·rw[decide_eq_false u];refine qV (SD O)<|Rr O<|PB O<|PQ O<|Pr RM O<|Ph O<|Px Yi O H ?_;rintro _ w⟨rfl,rfl⟩;by_cases y:k∈A.Ps
    ·rw[decide_eq_true y];refine qV (SD O)<|Rr O<|Pq O<|PM.qb (e:=[(0,_),(1,_),(4,_),(10,_)]) ?_;refine P9 O<|PL O<|PQ O<|Pr z1k O<|qV (Pl WO O O hB O)<|Ph O<|qV (ylk (k:=k) (K:=KI) WO (Sx U3) Qe O O h.pins)<|R8 O<|Qb<|Pq O<|Tj O<|An ?_;exact(dM _ _ ⟨O,O⟩).qb
    ·rw[decide_eq_false y];refine qV (SD O)<|Rr O<|Pq O<|PM.qb (e:=[(0,_),(1,_),(4,_),(10,_)]) ?_;refine Pp O<|Re O<|P3 func145 O ?_
     have R:A.drop k=A:=by
      rw[Arc.drop_eq,y1w (λe=>n (.inl e)),y1w (λe=>n (.inr e)),y1w u,y1w y]
     rw[R];exact⟨_,O,⟨6,O⟩,V,h.r (Ext.refl w)⟩
end
structure Pg where
 k:Int
 b:Nat
 t:P8
 d:Bool
def Uy (l:List Pg):List (Int×Value):=l.map λg=>(g.k,ptr g.b 0)
def pgC (t:P8)(d:Bool):List Value:=[S t,.bool d,I 0]
structure RE where
 s:Nat
 d:Nat
 m:Nat
 gi:Nat
 c:Nat
 pm:Nat
 p:Nat
 fr:Nat
 V:Nat->Value×Value
 D:Dev
 A:Arc
 l:List Pg
 L:List Bool
 Fd:Nat->Prop
 h:Int
 mi:Int
 wr:Int
def RE.cp (P:RE):Nat->Nat->Prop
 |0,b=>b=P.s
 |1,b=>P.Fd b
 |2,b=>b=P.m\/b=P.gi
 |3,b=>T5 P.c P.V P.p b
 |4,b=>b=P.pm
 |5,b=>∃g∈P.l,g.b=b
 |_,_=>False
def RE.fp (P:RE)(b:Nat):Prop:=∃i,P.cp i b
def plC (P:RE):List Value:=[ptr P.d 0,ptr P.m 0,ptr P.c 0,.map (some P.pm),I (P.fr:Int),I P.h,I P.mi,I P.wr,I 0,I 0,I 0,.bool false]
def Dis (f:Nat->Nat->Prop):Prop:=∀i j,i≠j->∀b,f i b->¬f j b
structure UR (w:World)(P:RE):Prop where
 OZ:Pm w P.s (plC P) 119
 dev:WN w P.d P.D P.Fd
 ext:Ye w P.m P.gi P.L
 arc:Tg w P.c P.A P.V P.p
 mp:T6 KI w P.pm (Uy P.l)
 pg:∀g∈P.l,Pm w g.b (pgC g.t g.d) 220
 pnd:(P.l.map (·.b)).Nodup
 VH:Dis P.cp
section
variable {P P0 P':RE}{S:Nat->Prop}{i0:Nat}
theorem UR.lt (h:UR w P)(d:P.fp b):b<w.heap.size:=by
 obtain⟨i,hi⟩:=d
 match i,hi with
 |0,e=>rw[show b=P.s from e];exact h.OZ.lt
 |1,e=>exact h.dev.lt b e
 | 2, e =>
   rcases e with e| e
   ·rw[e];exact h.ext.ltm
   ·rw[e];exact h.ext.ltg
 |3,e=>exact h.arc.lt e
 |4,e=>rw[show b=P.pm from e];exact h.mp.lt
 |5,⟨g,hg,e⟩=>rw[<-e];exact(h.pg g hg).lt
def UR.kp (h:UR w P)(e:Kp S w w')(d:∀b,P.fp b->¬S b):UR w' P:=
 ⟨e.OZ h.OZ (d _ ⟨0,rfl⟩),h.dev.kp e λb f=>d b ⟨1,f⟩,h.ext.kp e (d _ ⟨2,.inl O⟩) (d _ ⟨2,.inr O⟩),h.arc.kp e λb f=>d b ⟨3,f⟩,h.mp.kp e (d _ ⟨4,rfl⟩),λg hg=>e.OZ (h.pg g hg) (d _ ⟨5,g,hg,rfl⟩),h.pnd,h.VH⟩
theorem UR.ext' (h:UR w P)(d:Ext w w'):UR w' P:=h.kp (S:=λ_=>False) d λ_ _=>id
def UR.zab (h:UR w P)(d:Kp (P.cp i0) w w')(ne:0≠i0):Pm w' P.s (plC P) 119:=d.OZ h.OZ (h.VH 0 i0 ne _ O)
theorem UR.z9r (h:UR w P)(f:Kp (P.cp i0) w w')(ne:1≠i0):WN w' P.d P.D P.Fd:=h.dev.kp f λb e=>h.VH 1 i0 ne b e
def UR.text (h:UR w P)(d:Kp (P.cp i0) w w')(ne:2≠i0):Ye w' P.m P.gi P.L:=h.ext.kp d (h.VH 2 i0 ne _ (.inl O)) (h.VH 2 i0 ne _ (.inr O))
theorem UR.za2 (h:UR w P)(e:Kp (P.cp i0) w w')(ne:3≠i0):Tg w' P.c P.A P.V P.p:=h.arc.kp e λb d=>h.VH 3 i0 ne b d
def UR.tmp (h:UR w P)(d:Kp (P.cp i0) w w')(ne:4≠i0):T6 KI w' P.pm (Uy P.l):=h.mp.kp d (h.VH 4 i0 ne _ O)
def UR.tpg (h:UR w P)(e:Kp (P.cp i0) w w')(ne:5≠i0):∀g∈P.l,Pm w' g.b (pgC g.t g.d) 220:=λg hg=>e.OZ (h.pg g hg) (h.VH 5 i0 ne _ ⟨g,hg,rfl⟩)
def UR.zcr (h:UR w P)(m:∀i,i≠i0->P'.cp i=P.cp i)(hi:∀b,P'.cp i0 b->P.cp i0 b\/∀i,¬P.cp i b):Dis P'.cp:=λi j ne b l d=>by
 by_cases e:i=i0
 ·have f:j≠i0:=λf=>ne (e.trans f.symm);rw[e] at l;rw[m j f] at d;rcases hi b l with g|g
  ·exact h.VH i0 j (λn=>f n.symm) b g d
  ·exact g j d
 ·rw[m i e] at l;by_cases f:j=i0
  ·rw[f] at d;rcases hi b d with g|g
   ·exact h.VH i i0 e b l g
   ·exact g i l
  ·rw[m j f] at d;exact h.VH i j ne b l d
theorem UR.new (h:UR w P)(d:w.heap.size<=b):∀i,¬P.cp i b:=λi e=>by have:=h.lt ⟨i,e⟩;omega
structure UP (w0:World)(P0:RE)(w:World)(P:RE):Prop where
 m:UR w P
 fp:∀b,P.fp b->P0.fp b\/w0.heap.size<=b
 k:Kp P0.fp w0 w
theorem UR.r (h:UR w P)(d:Ext w w'):UP w P w' P:=⟨h.ext' d,λb e=> .inl e,d.kp⟩
theorem UP.ext (h:UP w0 P0 w P)(d:Ext w w'):UP w0 P0 w' P:=⟨h.m.ext' d,h.fp,h.k.trans d.kp⟩
theorem UP.loc (h:UP w0 P0 w P)(f:Kp S w w')(d:∀b,S b->(P0.fp b\/w0.heap.size<=b)/\∀i,¬P.cp i b):UP w0 P0 w' P:=
 ⟨h.m.kp f λb ⟨i,g⟩ e=>(d b e).2 i g,h.fp,h.k.It f λb e=>(d b e).1.symm⟩
theorem UP.part (h:UP w0 P0 w P)(i0:Nat)(j:UR w' P')(l:∀i,i≠i0->P'.cp i=P.cp i)(hi:∀b,P'.cp i0 b->P.cp i0 b\/w0.heap.size<=b)(g:Kp (P.cp i0) w w'):UP w0 P0 w' P':=
 ⟨j,λb ⟨i,d⟩=>by
  by_cases e:i=i0
  ·rw[e] at d;rcases hi b d with f|f
   ·exact h.fp b ⟨i0,f⟩
   ·exact .inr f
  ·rw[l i e] at d
   exact h.fp b ⟨i,d⟩,h.k.It g λb d=>(h.fp b ⟨i0,d⟩).symm⟩
theorem UP.trans {g:RE}(h:UP w0 P0 w P)(d:UP w P w2 g):UP w0 P0 w2 g:=
 ⟨d.m,λb f=>by
  rcases d.fp b f with e| e
  ·exact h.fp b e
  ·exact .inr (by have:=h.k.size;omega),h.k.It d.k λb f=>(h.fp b f).symm⟩
theorem UP.dev (h:UP w0 P0 w P)(ht:zaT w P.d P.Fd D' w'):∃g,UP w0 P0 w' {P with D:=D',Fd:=g}/\∀b,g b->P.Fd b\/w.heap.size<=b:=by
 obtain⟨n,q,j⟩:=ht
 have o:∀i,i≠1->RE.cp {P with D:=D',Fd:=n} i=P.cp i:=λi e=>by
  match i,e with
  |0,_|2,_|3,_|4,_|5,_=>rfl
  |i+6,_=>rfl
 have f:Kp (P.cp 1) w w':=j.1
 refine⟨n,h.part 1 ⟨h.m.zab f ψ,q,h.m.text f ψ,h.m.za2 f ψ,h.m.tmp f ψ,h.m.tpg f ψ,h.m.pnd,h.m.zcr o λb l=>?_⟩ o (λb l=>?_) f,j.2⟩
 ·exact(j.2 b l).imp id λe=>h.m.new e
 ·exact(j.2 b l).imp id λe=>by have:=h.k.size;omega
theorem UP.arc (h:UP w0 P0 w P)(f:WV w P.c P.V P.p w' A' V'):UP w0 P0 w' {P with A:=A',V:=V'}:=by
 have j:∀i,i≠3->RE.cp {P with A:=A',V:=V'} i=P.cp i:=λi e=>by
  match i,e with
  |0,_|1,_|2,_|4,_|5,_=>rfl
  |i+6,_=>rfl
 have d:Kp (P.cp 3) w w':=f.k
 refine h.part 3 ⟨h.m.zab d ψ,h.m.z9r d ψ,h.m.text d ψ,f.m,h.m.tmp d ψ,h.m.tpg d ψ,h.m.pnd,h.m.zcr j λb g=>?_⟩ j (λb g=>?_) d
 ·exact(f.fp b g).imp id λe=>h.m.new e
 ·exact(f.fp b g).imp id λe=>by have:=h.k.size;omega
theorem UP.exM (h:UP w0 P0 w P)(j:Ye w' P.m P.gi L')(d:Kp (λb=>b=P.gi) w w'):UP w0 P0 w' {P with L:=L'}:=by
 have g:∀i,i≠2->RE.cp {P with L:=L'} i=P.cp i:=λi e=>by
  match i,e with
  |0,_|1,_|3,_|4,_|5,_=>rfl
  |i+6,_=>rfl
 have d:Kp (P.cp 2) w w':=d.Pk λb e=> .inr e
 exact h.part 2 ⟨h.m.zab d ψ,h.m.z9r d ψ,j,h.m.za2 d ψ,h.m.tmp d ψ,h.m.tpg d ψ,h.m.pnd,h.m.zcr g λb f=> .inl f⟩ g (λb f=> .inl f) d
theorem UP.cnt (h:UP w0 P0 w P){a b c:Int}(hB:Pm w' P.s (plC {P with h:=a,mi:=b,wr:=c}) 119)(d:Kp (λb=>b=P.s) w w'):UP w0 P0 w' {P with h:=a,mi:=b,wr:=c}:=by
 have g:∀i,i≠0->RE.cp {P with h:=a,mi:=b,wr:=c} i=P.cp i:=λi e=>by
  match i,e with
  |1,_|2,_|3,_|4,_|5,_=>rfl
  |i+6,_=>rfl
 have d:Kp (P.cp 0) w w':=d
 exact h.part 0 ⟨hB,h.m.z9r d ψ,h.m.text d ψ,h.m.za2 d ψ,h.m.tmp d ψ,h.m.tpg d ψ,h.m.pnd,h.m.zcr g λb f=> .inl f⟩ g (λb f=> .inl f) d
theorem UP.del (h:UP w0 P0 w P){l':List Pg}(o:l'.Sublist P.l)(r:T6 KI w' P.pm (Uy l'))(d:Kp (λb=>b=P.pm) w w'):UP w0 P0 w' {P with l:=l'}:=by
 have d:Kp (P.cp 4) w w':=d
 have n:∀i b,RE.cp {P with l:=l'} i b->P.cp i b:=λi b f=>by
  match i,f with
  |0,e|1,e|2,e|3,e|4,e=>exact e
  |5,⟨g,hg,e⟩=>exact⟨g,o.subset hg,e⟩
 have u:=h.m.tpg d ψ
 exact⟨⟨h.m.zab d ψ,h.m.z9r d ψ,h.m.text d ψ,h.m.za2 d ψ,r,λg hg=>u g (o.subset hg),(o.map _).nodup h.m.pnd,λi j ne b f q=>h.m.VH i j ne b (n i b f) (n j b q)⟩,λb ⟨i,f⟩=>h.fp b ⟨i,n i b f⟩,h.k.It d λb f=>(h.fp b ⟨4,f⟩).symm⟩
theorem UP.ins (h:UP w0 P0 w P){g:Pg}(hg:w0.heap.size<=g.b/\∀i,¬P.cp i g.b)(n:Pm w g.b (pgC g.t g.d) 220)(z:T6 KI w' P.pm (Uy (P.l++[g])))(o:Kp (λb=>b=P.pm) w w'):UP w0 P0 w' {P with l:=P.l++[g]}:=by
 have o:Kp (P.cp 4) w w':=o
 have B:=h.m.tpg o ψ
 have v:∀i b,RE.cp {P with l:=P.l++[g]} i b->P.cp i b\/(i=5/\b=g.b):=λi b n=>by
  match i,n with
  |0,e|1,e|2,e|3,e|4,e=>exact .inl e
  | 5, ⟨u, r, e⟩ =>
    rcases y0u.1 r with q|q
    ·exact .inl ⟨u,q,e⟩
    ·rw[y0z.1 q] at e;exact .inr ⟨O,e.symm⟩
 refine⟨⟨h.m.zab o ψ,h.m.z9r o ψ,h.m.text o ψ,h.m.za2 o ψ,z,λu r=>?_,?_,λi j ne b n x=>?_⟩,λb ⟨i,n⟩=>?_,h.k.It o λb n=>(h.fp b ⟨4,n⟩).symm⟩
 ·rcases y0u.1 r with e| e
  ·exact B u e
  ·rw[y0z.1 e];exact o.OZ n (hg.2 4)
 ·show((P.l++[g]).map (·.b)).Nodup;rw[y0f,y0L];refine⟨h.m.pnd,ξ,λa y b n e=>?_⟩;obtain⟨u,r,rfl⟩:=y0h.1 y;rw[y2c,y0z] at n;exact hg.2 5 ⟨u,r,e.trans n⟩
 ·rcases v i b n with e|⟨e,q⟩
  ·rcases v j b x with f|⟨f,f2⟩
   ·exact h.m.VH i j ne b e f
   ·rw[f2] at e;exact hg.2 i e
  ·rcases v j b x with f|⟨f,f2⟩
   ·rw[q] at f;exact hg.2 j f
   ·exact ne (e.trans f.symm)
 ·rcases v i b n with e|⟨e,q⟩
  ·exact h.fp b ⟨i,e⟩
  ·rw[q];exact .inr hg.1
theorem Ti {α β:Type}{f:α->β}:∀{l:List α},(l.map f).Nodup->∀{a b:α},a∈l->b∈l->f a=f b->a=b
 |[],_,a,b,ha,_,_=>by cases ha
 | x :: l, hn, a, b, ha, hb, e => by
   rw[y0n,y10] at hn;rcases y0l.1 ha with g|g
   ·rcases y0l.1 hb with d|d
    ·rw[g,d]
    ·exact absurd (y0h.2 ⟨b,d,by rw[<-e,g]⟩) hn.1
   ·rcases y0l.1 hb with d|d
    ·exact absurd (y0h.2 ⟨a,g,by rw[e,d]⟩) hn.1
    ·exact Ti hn.2 g d e
def Sc (l:List Pg)(k:Int)(t:P8)(d:Bool):List Pg:=l.map λg=>if g.k=k then {g with t:=t,d:=d} else g
theorem zck (l:List Pg)(k:Int)(t:P8)(d:Bool):Uy (Sc l k t d)=Uy l:=by
 unfold Uy Sc
 rw[y1q]
 refine y0O λg _=>?_
 by_cases h:g.k=k
 ·simp only[y2F,if_pos h]
 ·simp only[y2F,if_neg h]
theorem z3O (l:List Pg)(k:Int)(t:P8)(d:Bool):(Sc l k t d).map (·.b)=l.map (·.b):=by
 unfold Sc
 rw[y1q]
 refine y0O λg _=>?_
 show Pg.b (if _ then _ else _)=_
 split<;>rfl
theorem UP.zim (h:UP w0 P0 w P){g:Pg}(hg:g∈P.l){d:Bool}(n:Pm w' g.b (pgC t d) 220)(x:Kp (λb=>b=g.b) w w'):UP w0 P0 w' {P with l:=Sc P.l g.k t d}:=by
 have v:=h.m.mp.nd
 have C:∀b,(∃f∈Sc P.l g.k t d,f.b=b)↔∃f∈P.l,f.b=b:=λb=>by
  have e:=z3O P.l g.k t d;constructor
  ·rintro⟨f,q,rfl⟩;have:f.b∈P.l.map (·.b):=by rw[<-e];exact y0h.2 ⟨f,q,O⟩
   obtain⟨j,a,b⟩:=y0h.1 this;exact⟨j,a,b⟩
  ·rintro⟨f,q,rfl⟩;have:f.b∈(Sc P.l g.k t d).map (·.b):=by rw[e];exact y0h.2 ⟨f,q,O⟩
   obtain⟨j,a,b⟩:=y0h.1 this;exact⟨j,a,b⟩
 have y:∀i,i≠5->RE.cp {P with l:=Sc P.l g.k t d} i=P.cp i:=λi e=>by
  match i,e with
  |0,_|1,_|2,_|3,_|4,_=>rfl
  |i+6,_=>rfl
 have o:Kp (P.cp 5) w w':=x.Pk λb e=>⟨g,hg,e.symm⟩
 have hi:∀b,RE.cp {P with l:=Sc P.l g.k t d} 5 b->P.cp 5 b:=λb n=>(C b).1 n
 refine h.part 5 ⟨h.m.zab o ψ,h.m.z9r o ψ,h.m.text o ψ,h.m.za2 o ψ,?_,λf q=>?_,?_,h.m.zcr y λb n=> .inl (hi b n)⟩ y (λb n=> .inl (hi b n)) o
 ·show T6 KI w' P.pm (Uy (Sc P.l g.k t d));rw[zck];exact h.m.tmp o ψ
 ·obtain⟨j,r,rfl⟩:=y0h.1 q;by_cases e:j.k=g.k
  ·rw[if_pos e]
   have u:j=g:=by
    unfold Uy at v;rw[y1q] at v;have z:(P.l.map (·.k)).Nodup:=v;exact Ti z r hg e
   rw[u];exact n
  ·rw[if_neg e];have B:j.b≠g.b:=λu=>e (by rw[Ti h.m.pnd r hg u]);exact x.OZ (h.m.pg j r) B
 ·show((Sc P.l g.k t d).map (·.b)).Nodup;rw[z3O];exact h.m.pnd
end
def Sk (l:List Pg):Nat:=l.countP (·.d)
structure WM (P:RE)(txt:Int->P8)(K:Nat):Prop where
 aok:P.A.Ok
 asz:P.A.size<=1000
 keys:∀x,x∈P.l.map (·.k)↔P.A.held x
 nd:(P.l.map (·.k)).Nodup
 rng:∀g∈P.l,0<=g.k/\g.k<(P.L.length:Int)
 tx:∀g∈P.l,g.t=txt g.k
 cl:∀g∈P.l,g.d=false->P.D.now g.k=txt g.k
 out:∀x,0<=x->x<(P.L.length:Int)->¬P.A.held x->P.D.now x=txt x
 len:∀x,0<=x->x<(P.L.length:Int)->(txt x).length=512
 down:P.D.down=false
 due:P.D.due=0
 B:P.D.B=P.L.length
 N:P.D.N=1
 ca:P.D.calls+(Sk P.l:Int)<=(K:Int)
 cc:P.D.cache.length+Sk P.l<=K
 SY:P.D.SY.length<=17592186044416
def ZY (txt:Int->P8)(no:Int)(wt:Option P8):Int->P8:=λx=>if x=no then wt.getD (txt x) else txt x
theorem z04 (txt:Int->P8)(no:Int):ZY txt no none=txt:=by
 funext x
 unfold ZY
 split<;>rfl
theorem Su (txt:Int->P8)(no:Int)(wt:Option P8):ZY txt no wt no=wt.getD (txt no):=if_pos O
theorem S1 (txt:Int->P8){no x:Int}(wt:Option P8)(h:x≠no):ZY txt no wt x=txt x:=if_neg h
def wN (wt:Option P8):Nat:=if wt.isSome then 1 else 0
theorem z4Y (D:Dev)(n x:Int)(s:P8):((D.push n s).count).now x=if n=x then s else D.now x:=by
 unfold Dev.now Dev.count Dev.push
 dsimp only
 rw[z7a]
 split<;>rfl
theorem z2Z (D:Dev)(z:Int)(x:Int):({D with reads:=z}:Dev).now x=D.now x:=rfl
section
variable {P:RE}{no:Int}{wt:Option P8}
def z0F (no:Int)(t:P8):∀{l:List Pg},(l.map (·.k)).Nodup->Sk (Sc l no t true)<=Sk l+1
 |[],_=>y00 _
 | g :: l, hn => by
   rw[y0n,y10] at hn;by_cases h:g.k=no
   ·have e:Sc l no t true=l:=by
     unfold Sc
     conv=>rhs;rw[<-y2Z l]
     refine y0O λm j=>?_;rw[if_neg λe=>hn.1 (y0h.2 ⟨m,j,by rw[e,h]⟩)];rfl
    have f:Sc (g::l) no t true={g with t:=t,d:=true}::l:=by
     show(if g.k=no then _ else g)::Sc l no t true=_;rw[if_pos h,e]
    rw[f];unfold Sk;rw[y0V,y0V];split<;>split<;>omega
   ·have n:=z0F no t hn.2
    have f:Sc (g::l) no t true=g::Sc l no t true:=by
     show(if g.k=no then _ else g)::Sc l no t true=_;rw[if_neg h]
    rw[f];unfold Sk at*;rw[y0V,y0V];omega
theorem z1u {l:List Pg}(j:(l.map (·.k)).Nodup){g:Pg}(hg:g∈l):Sc l g.k g.t g.d=l:=by
 unfold Sc
 conv=>rhs;rw[<-y2Z l]
 refine y0O λf e=>?_
 by_cases h:f.k=g.k
 ·rw[if_pos h,Ti j e hg h];rfl
 ·rw[if_neg h];rfl
theorem z8J (l:List Pg)(k:Int)(t:P8)(d:Bool):(Sc l k t d).map (·.k)=l.map (·.k):=by
 unfold Sc
 rw[y1q]
 refine y0O λg _=>?_
 by_cases h:g.k=k
 ·simp only[y2F,if_pos h]
 ·simp only[y2F,if_neg h]
def ZP {l:List Pg}{d:Bool}{g:Pg}(h:g∈Sc l k t d):(g∈l/\g.k≠k)\/(g.k=k/\g.t=t/\g.d=d/\∃f∈l,f.k=k):=by
 obtain⟨f,j,rfl⟩:=y0h.1 h
 by_cases e:f.k=k
 ·rw[if_pos e];exact .inr ⟨e,O,O,f,j,e⟩
 ·rw[if_neg e];exact .inl ⟨j,e⟩
theorem WM.hit (h:WM P txt K){g:Pg}(hg:g∈P.l)(J:∀t,wt=some t->t.length=512){m:RE}(C:m.A=(P.A.RY g.k).1)(o:m.l=Sc P.l g.k (wt.getD g.t) (wt.isSome ||g.d))(v:m.L=P.L)(f:m.D=P.D):WM m (ZY txt g.k wt) (K+wN wt):=by
 have ht:=Arc.z1A h.aok g.k
 have z:P.A.held g.k:=(h.keys _).1 (y0h.2 ⟨g,hg,O⟩)
 have H:=ht.no (ht.hit.2 z)
 have F:∀x,m.A.held x↔P.A.held x:=λx=>by
  rw[C,ht.held,H];constructor
  ·rintro(e|e)
   ·rw[e];exact z
   ·exact e.1
  ·intro e;exact .inr ⟨e,ξ⟩
 have I:=h.rng g hg
 have R:Sk m.l<=Sk P.l+wN wt:=by
  rw[o]
  cases wt with
  |none=>rw[show(none:Option P8).getD g.t=g.t from rfl,show((none:Option P8).isSome ||g.d)=g.d from rfl,z1u h.nd hg];exact Nat.le_add_right _ _
  |some t=>exact z0F _ _ h.nd
 have Q:=h.ca
 have M:=h.cc
 refine⟨by rw[C];exact ht.ok,by rw[C,ht.size];exact h.asz,λx=>by rw[o,z8J,h.keys,F],by rw[o,z8J];exact h.nd,λq j=>?_,λq j=>?_,λq j r=>?_,λx u n E=>?_,λx u n=>?_,by rw[f];exact h.down,by rw[f];exact h.due,by rw[f,v];exact h.B,by rw[f];exact h.N,by rw[f];omega,by rw[f];omega,by rw[f];exact h.SY⟩
 ·rw[v];rw[o] at j;rcases ZP j with e| e
  ·exact h.rng q e.1
  ·rw[e.1];exact I
 ·rw[o] at j;rcases ZP j with e| e
  ·rw[S1 _ _ e.2];exact h.tx q e.1
  ·rw[e.1,Su,e.2.1,h.tx g hg]
 ·rw[f];rw[o] at j;rcases ZP j with e| e
  ·rw[S1 _ _ e.2];exact h.cl q e.1 r
  ·rw[e.2.2.1] at r
   have y:wt=none:=by
    cases wt with
    |none=>rfl
    |some t=>cases r
   rw[e.1,y,z04];rw[y] at r;exact h.cl g hg r
 ·rw[v] at n;rw[F] at E;have G:x≠g.k:=λe=>E (e▸z);rw[f,S1 _ _ G];exact h.out x u n E
 ·rw[v] at n;by_cases e:x=g.k
  ·rw[e,Su]
   cases y:wt with
   |none=>exact h.len _ (e▸u) (e▸n)
   |some t=>exact J t y
  ·rw[S1 _ _ e];exact h.len x u n
def T8:List Pg->Int->List Pg
 |[],_=>[]
 |g::l,k=>if g.k=k then l else g::T8 l k
theorem VO (g:Pg)(l:List Pg)(k:Int):T8 (g::l) k=if g.k=k then l else g::T8 l k:=rfl
theorem z2S (l:List Pg)(k:Int):delL (Uy l) k=Uy (T8 l k):=by
 induction l with
 |nil=>rfl
 | cons g l d =>
   show(if k=g.k then Uy l else(g.k,ptr g.b 0)::delL (Uy l) k)=_;rw[VO];by_cases h:k=g.k
   ·rw[if_pos h,if_pos h.symm]
   ·rw[if_neg h,if_neg (λe=>h e.symm),d];rfl
def Ts:∀(l:List Pg)(k:Int),(T8 l k).Sublist l
 |[],_=>y30 _
 | g :: l, k => by
   rw[VO];split
   ·exact y27 _ _
   ·exact(Ts l k).cons_cons _
def z1I {l:List Pg}(f:(l.map (·.k)).Nodup)(k x:Int):x∈(T8 l k).map (·.k)↔x∈l.map (·.k)/\x≠k:=by
 induction l with
 |nil=>simp[T8]
 | cons g l j =>
   rw[y0n,y10] at f;rw[VO];by_cases h:g.k=k
   ·rw[if_pos h,y0n,y0l];constructor
    ·intro e;exact⟨.inr e,λd=>f.1 (by rw[h,<-d];exact e)⟩
    ·rintro⟨e|e,d⟩
     ·exact absurd (e.trans h) d
     ·exact e
   ·rw[if_neg h,y0n,y0n,y0l,y0l];have:=j f.2;rw[this];constructor
    ·rintro(e|e)
     ·exact⟨.inl e,λd=>h (by rw[<-e,d])⟩
     ·exact⟨.inr e.1,e.2⟩
    ·rintro⟨e|e,d⟩
     ·exact .inl e
     ·exact .inr ⟨e,d⟩
theorem z3I {l:List Pg}{g:Pg}(f:(l.map (·.k)).Nodup)(hg:g∈l):Sk (T8 l g.k)+(if g.d then 1 else 0)=Sk l:=by
 induction l with
 |nil=>cases hg
 | cons a l m =>
   rw[y0n,y10] at f;rw[VO];by_cases h:a.k=g.k
   ·rw[if_pos h]
    have e:a=g:=by
     rcases y0l.1 hg with e| e
     ·exact e.symm
     ·exact absurd (y0h.2 ⟨g,e,h.symm⟩) f.1
    rw[e];unfold Sk;rw[y0V]
   ·rw[if_neg h]
    have j:g∈l:=by
     rcases y0l.1 hg with e| e
     ·exact absurd (by rw[e]) h
     ·exact e
    have:=m f.2 j;unfold Sk at*;rw[y0V,y0V];omega
structure zdp (P:RE)(txt:Int->P8)(K:Nat)(g:Option Int)(D':Dev)(l':List Pg):Prop where
 now:∀x,0<=x->x<(P.L.length:Int)->x∉l'.map (·.k)->D'.now x=txt x
 cl:∀q∈l',q.d=false->D'.now q.k=txt q.k
 sub:l'.Sublist P.l
 keys:∀x,x∈l'.map (·.k)↔x∈P.l.map (·.k)/\g≠some x
 down:D'.down=false
 due:D'.due=0
 B:D'.B=P.D.B
 N:D'.N=P.D.N
 ca:D'.calls+(Sk l':Int)<=(K:Int)
 cc:D'.cache.length+Sk l'<=K
 SY:D'.SY.length<=17592186044416
def WM.ziK (h:WM P txt K):zdp P txt K none P.D P.l:=
 ⟨λx d f g=>h.out x d f λe=>g ((h.keys x).2 e),h.cl,y30 _,λx=>ξ,h.down,h.due,rfl,rfl,h.ca,h.cc,h.SY⟩
theorem WM.ziX (h:WM P txt K){g:Pg}(hg:g∈P.l):zdp P txt K (some g.k) (if g.d then(P.D.push g.k g.t).count else P.D) (T8 P.l g.k):=by
 have r:=z3I h.nd hg
 have y:=z1I h.nd g.k
 have G:=h.ca
 have F:=h.cc
 have u:=Ts P.l g.k
 have C:∀x,0<=x->x<(P.L.length:Int)->x∉(T8 P.l g.k).map (·.k)->x=g.k\/¬P.A.held x:=λx f j n=>by
  rw[y,not_and] at n;by_cases e:x=g.k
  ·exact .inl e
  ·exact .inr λo=>n ((h.keys x).2 o) e
 have B:∀q∈T8 P.l g.k,q∈P.l/\q.k≠g.k:=λq m=>⟨u.subset m,((y q.k).1 (y0h.2 ⟨q,m,O⟩)).2⟩
 have E:∀x,x∈(T8 P.l g.k).map (·.k)↔x∈P.l.map (·.k)/\some g.k≠some x:=λx=>by
  rw[y];simp only[ne_eq,y3i];constructor
  ·rintro⟨a,b⟩;exact⟨a,λe=>b e.symm⟩
  ·rintro⟨a,b⟩;exact⟨a,λe=>b e.symm⟩
 cases v:g.d with
 | true =>
   rw[v] at r;rw[if_pos O] at r⊢;refine⟨λx f j n=>?_,λq m z=>?_,u,E,h.down,?_,O,O,?_,?_,h.SY⟩
   ·rw[z4Y];rcases C x f j n with e| e
    ·rw[if_pos e.symm,e,h.tx g hg]
    ·by_cases o:g.k=x
     ·rw[if_pos o,<-o,h.tx g hg]
     ·rw[if_neg o];exact h.out x f j e
   ·obtain⟨a,b⟩:=B q m;rw[z4Y,if_neg λe=>b e.symm];exact h.cl q a z
   ·have:=h.due;show(if P.D.due=0 then(0:Int) else _)=0;rw[if_pos this]
   ·show P.D.calls+1+_<=_;omega
   ·show(P.D.cache++[_]).length+_<=_
    rw[Pe,y0S];omega
 | false =>
   rw[v] at r;rw[if_neg ξ] at r⊢;refine⟨λx f j n=>?_,λq m z=>?_,u,E,h.down,h.due,O,O,ω,ω,h.SY⟩
   ·rcases C x f j n with e| e
    ·rw[e];exact h.cl g hg v
    ·exact h.out x f j e
   ·exact h.cl q (B q m).1 z
theorem WM.zjM (h:WM P txt K)(r:0<=no)(u:no<(P.L.length:Int))(I:¬P.A.held no)(M:∀t,wt=some t->t.length=512){l':List Pg}(hg:zdp P txt K (P.A.RY no).2.2 D' l'){f:RE}{z:Int}
  (v:f.A=(P.A.RY no).1) (m:f.l=l'++[⟨no,b,wt.getD (txt no),wt.isSome⟩]) (n:f.L=P.L) (d:f.D={D' with reads:=z}):WM f (ZY txt no wt) (K+wN wt):=by
 have ht:=Arc.z1A h.aok no
 have Q:=hg.ca
 have R:=hg.cc
 have J:∀x,x∈f.l.map (·.k)↔x=no\/x∈l'.map (·.k):=λx=>by
  rw[m,y0f,y0u,y2c,y0z,or_comm]
 have G:∀x,f.A.held x↔x=no\/x∈l'.map (·.k):=λx=>by
  rw[v,ht.held,hg.keys,h.keys]
 have o:no∉l'.map (·.k):=λe=>I ((h.keys no).1 ((hg.keys no).1 e).1)
 have S:Sk f.l=Sk l'+wN wt:=by
  rw[m];unfold Sk wN;rw[y2J,y2U]
 refine⟨by rw[v];exact ht.ok,by rw[v,ht.size];exact h.asz,λx=>by rw[J,G],?_,λg j=>?_,λg j=>?_,λg j y=>?_,λx x0 x1 E=>?_,λx x0 x1=>?_,by rw[d];exact hg.down,by rw[d];exact hg.due,by rw[d,n];exact hg.B.trans h.B,by rw[d];exact hg.N.trans h.N,by rw[d];show D'.calls+_<=_;omega,by rw[d];show D'.cache.length+_<=_;omega,by rw[d];exact hg.SY⟩
 ·rw[m,y0f,y0L];refine⟨(hg.sub.map _).nodup h.nd,ξ,λa H c F e=>?_⟩;rw[y2c,y0z] at F;exact o (by rw[<-show a=no from e.trans F];exact H)
 ·rw[n];rw[m] at j;rcases y0u.1 j with e| e
  ·exact h.rng g (hg.sub.subset e)
  ·rw[y0z.1 e];exact⟨r,u⟩
 ·rw[m] at j;rcases y0u.1 j with e| e
  ·rw[S1 _ _ (λq=>o (by rw[<-q];exact y0h.2 ⟨g,e,O⟩))];exact h.tx g (hg.sub.subset e)
  ·rw[y0z.1 e,Su]
 ·rw[d,z2Z];rw[m] at j;rcases y0u.1 j with e| e
  ·rw[S1 _ _ (λq=>o (by rw[<-q];exact y0h.2 ⟨g,e,O⟩))];exact hg.cl g e y
  ·rw[y0z.1 e] at y⊢
   have C:wt=none:=by
    cases wt with
    |none=>rfl
    |some t=>cases y
   rw[C,z04];exact hg.now no r u o
 ·rw[n] at x1;rw[G,not_or] at E;rw[d,z2Z,S1 _ _ E.1];exact hg.now x x0 x1 E.2
 ·rw[n] at x1;by_cases e:x=no
  ·rw[e,Su]
   cases C:wt with
   |none=>exact h.len _ r u
   |some t=>exact M t C
  ·rw[S1 _ _ e];exact h.len x x0 x1
end
section
variable {P:RE}{S:Nat->Prop}
theorem UR.cells (h:UR w P):Pm w P.s [ptr P.d 0,ptr P.m 0,ptr P.c 0,.map (some P.pm),I (P.fr:Int),I P.h,I P.mi,I P.wr,I 0,I 0,I 0,.bool false] 119:=h.OZ
def WM.zh0 (h:WM P txt K):P.D.Small K:=⟨by have:=h.ca;omega,by have:=h.cc;omega,trivial,h.SY⟩
def z1T (h:UR w P)(hN:P.D.N=1):PN prog 65 [ptr P.s 0] w λv w'=>v=I 512/\w'=w:=by
 have hB:=h.cells
 have d:=zas h.dev
 rw[hN] at d
 refine py (e:=[(0,_)]) func65 O ntmps65 O O<|Re O<|Qi O<|qV (Qz XZ O O)<|QC O<|PL O<|PQ O<|Pr VN O<|qV (Pl U26 O O hB O)<|Px zgZ O d ?_
 rintro _ w⟨rfl,rfl⟩
 refine Pq O<|P3 func65 O ?_
 exact⟨_,O,O,O⟩
def zaP (h:UR w P):PN prog 137 [ptr P.s 0] w λv w'=>v=ptr P.d 0/\w'=w:=by
 have hB:=h.cells
 refine py (e:=[(0,_)]) func137 O ntmps137 O O<|Re O<|Qi O<|qV (Qz XZ O O)<|QC O<|PL O<|PQ O<|Pr VN O<|qV (Pl U26 O O hB O)<|Pq O<|P3 func137 O ?_
 exact⟨_,O,O,O⟩
def zb8 (h:UR w P):PN prog 24 [ptr P.s 0] w λv w'=>v=ptr P.m 0/\w'=w:=by
 have hB:=h.cells
 refine py (e:=[(0,_)]) func24 O ntmps24 O O<|Re O<|Qi O<|qV (Qz XZ O O)<|QC O<|PL O<|PQ O<|Pr z3K O<|qV (Pl U66 O O hB O)<|Pq O<|P3 func24 O ?_
 exact⟨_,O,O,O⟩
def z0v (h:UR w P)(f:P.D.down=false):PN prog 119 [ptr P.s 0] w λv w'=>v=I 0/\w'=w:=by
 have hB:=h.cells
 have d:=zb2 h.dev
 rw[f] at d
 refine py (e:=[(0,_)]) func119 O ntmps119 O O<|Re O<|R0<|PL O<|qV (Qz XZ O O)<|Pq O<|P9 O<|PL O<|PQ O<|Pr z8V O<|qV (Pl U4 O O hB O)<|PB O<|PQ O<|Pr VN O ?_
 refine qV (Pl U26 O O hB O)<|Px zjN O d ?_
 rintro _ w⟨rfl,rfl⟩
 refine Ql O<|Pq O<|Tj O<|An<|Re O<|P3 func119 O ?_
 exact⟨_,O,O,O⟩
theorem z5n (h:UR w P)(ur:P.D.Small K)(T:P.D.down=false)(sD:P.D.due=0)(M:P.D.B=P.L.length)(A:P.D.N=1)(Z:K<1000000000000){d:Bool}{no:Int}(W:0<=no)(Y:no<(P.L.length:Int))(ht:t.length=512)(l:Pm w b (pgC t d) 220)(g:∀i,¬P.cp i b):
  PN prog 157 [ptr P.s 0,I no,ptr b 0] w λv w'=>v=I 0/\∃f u,UR w' {P with D:=if d then(P.D.push no t).count else P.D,Fd:=f,wr:=u}/\Kp (λj=>j=b\/P.cp 0 j\/P.cp 1 j) w w'/\(∀j,f j->P.Fd j\/w.heap.size<=j):=by
 replace l:Pm w b [S t,.bool d,I 0] 220:=l
 have hB:=h.cells
 have hg:=Ext.Pz w
 have X:P.s≠b:=λe=>g 0 e.symm
 have Q:¬P.Fd P.s:=λe=>h.VH 0 1 ψ P.s O e
 have x:¬P.Fd b:=g 1
 refine py (e:=[(0,_),(1,_),(2,_)]) func157 O ntmps157 O O ?_
 cases d with
 | false =>
   refine Re O<|Qi O<|PQ O<|Pr Wl O<|Pr z3S O<|qV (Pl U4 O O l O)<|qV (SD O)<|P4<|Pp O<|Re O<|P3 func157 O (⟨_,O,O,P.Fd,P.wr,?_,Kp.refl _ _,λj e=> .inl e⟩);rw[if_neg ξ]
   exact h
 | true =>
   refine Re O<|Qi O<|PQ O<|Pr Wl O<|Pr z3S O<|qV (Pl U4 O O l O)<|qV (SD O) ?_;have o:=z6R no t (h.dev.ext hg) ur Z;rw[zd1 T sD ⟨W,by rw[M];exact Y⟩ (by rw[A];exact ht)] at o;dsimp only at o;refine QC O<|OY<|OY<|RI (λw'=>Kp P.Fd w w') O<|Pu 0 O O hg.kp<|P7 1 O (QL O) hg.kp<|P7 2 O (PU VN O) hg.kp<|qT 3 O (λ_ h=>(Pl U26 O O (h.OZ hB Q) O)) hg.kp<|Pu 4 O O hg.kp<|Pu 5 O O hg.kp<|P7 6 O (QL O) hg.kp<|P7 7 O (PU Wl O) hg.kp<|P7 8 O (PU z3D O) hg.kp<|qT 9 O (λ_ h=>(Pl U9 O O (h.OZ l x) O)) hg.kp ?_;refine Tl 10 O zil O o ?_;rintro _ w1⟨rfl,n⟩;refine⟨hg.kp.trans n.kpF,?_⟩;obtain⟨f,G,V⟩:=((h.r (Ext.refl w)).ext hg).dev n;have y:Kp P.Fd w w1:=hg.kp.trans n.kpF;have H:∀j,f j->P.Fd j\/w.heap.size<=j:=λj e=>(V j e).imp id λe=>by have:=hg.size;omega
   refine P7 11 O (S6 O) (hg.kp.trans n.kpF)<|qE<|PL O<|R5 O ?_;have C:=G.m.cells;refine QC O (PL O (PQ O (Pr Ww O (Pr zd5 O (qV (Pl U3 O O C O) (qV (zbx O O) (PQ O (Pr Ww O (Pr zd5 O (Po O (QZ Qe O O O C ξ) ?_))))))))));rintro w2⟨E,q⟩;obtain⟨z,p⟩:∃z,IntKind.i64.wrap (P.wr+1)=z:=⟨_,O⟩;rw[p] at E;have U:=G.cnt (a:=P.h) (b:=P.mi) (c:=z) E q;have R:=q.OZ (y.OZ l x) (λe=>X e.symm);refine P4<|PM.qb (e:=[(2,_),(6,_)]) ?_;refine PL O (PQ O (Pr Wl O (Pr z3S O (Po O (QZ TZ O O O R ξ) ?_))));rintro w3⟨eh,F⟩
   have J:∀i,¬RE.cp {P with D:=(P.D.push no t).count,Fd:=f,h:=P.h,mi:=P.mi,wr:=z} i b:=λi e=>by
    match i,e with
    |0,e=>exact g 0 e
    | 1, e =>
      rcases H b e with e| e
      ·exact g 1 e
      ·have:=l.lt;omega
    |2,e=>exact g 2 e
    |3,e=>exact g 3 e
    |4,e=>exact g 4 e
    |5,e=>exact g 5 e
   refine qM O<|Pq O<|P3 func157 O (⟨_,O,O,f,z,?_,?_,H⟩)
   ·rw[if_pos O];exact U.m.kp F λj ⟨i,k⟩ e=>J i (e▸k)
   ·exact((y.Pk λj e=> .inr (.inr e)).trans (q.Pk λj e=> .inr (.inl e))).trans (F.Pk λj e=> .inl e)
end
structure RE.Same (P P':RE):Prop where
 s:P'.s=P.s
 d:P'.d=P.d
 m:P'.m=P.m
 gi:P'.gi=P.gi
 c:P'.c=P.c
 pm:P'.pm=P.pm
 p:P'.p=P.p
 fr:P'.fr=P.fr
 L:P'.L=P.L
theorem RE.Same.trans {P P' f:RE}(h:P.Same P')(e:P'.Same f):P.Same f:=
 ⟨e.s.trans h.s,e.d.trans h.d,e.m.trans h.m,e.gi.trans h.gi,e.c.trans h.c,e.pm.trans h.pm,e.p.trans h.p,e.fr.trans h.fr,e.L.trans h.L⟩
def z1o {l:List Pg}{t0:P8}{d0 d:Bool}(h:k∉l.map (·.k)):Sc (l++[⟨k,b,t0,d0⟩]) k t d=l++[⟨k,b,t,d⟩]:=by
 unfold Sc
 rw[y0f]
 congr 1
 ·conv=>rhs;rw[<-y2Z l]
  refine y0O λg hg=>?_;rw[if_neg λe=>h (y0h.2 ⟨g,hg,e⟩)];rfl
 ·show [if k=k then _ else _]=_;rw[if_pos O]
section
variable {P P0 P':RE}
theorem UR.get (h:UR w P){q:Pg}(d:q∈P.l):RJ (Uy P.l) q.k=some (ptr q.b 0):=
 z5z h.mp.nd (y0h.2 ⟨q,d,rfl⟩)
theorem UP.write (h:UP w0 P0 w P){d:Nat->Prop}{f:Int}(o:UR w' {P with D:=D',Fd:=d,wr:=f})(n:Kp (λj=>j=b\/P.cp 0 j\/P.cp 1 j) w w')(g:∀j,d j->P.Fd j\/w.heap.size<=j)(l:P0.fp b\/w0.heap.size<=b):UP w0 P0 w' {P with D:=D',Fd:=d,wr:=f}:=
 ⟨o,λj ⟨i,m⟩=>by
  match i,m with
  |0,e=>exact h.fp j ⟨0,e⟩
  | 1, e =>
    rcases g j e with e| e
    ·exact h.fp j ⟨1,e⟩
    ·exact .inr (by have:=h.k.size;omega)
  |2,e=>exact h.fp j ⟨2,e⟩
  |3,e=>exact h.fp j ⟨3,e⟩
  |4,e=>exact h.fp j ⟨4,e⟩
  |5,e=>exact h.fp j ⟨5,e⟩,h.k.It n λj e=>by
  rcases e with e|e| e
  ·rw[e];exact l.symm
  ·exact(h.fp j ⟨0,e⟩).symm
  ·exact(h.fp j ⟨1,e⟩).symm⟩
theorem z0x (hr:UP w0 P0 w P)(u:WM P txt K)(hK:K<1000000000000){no:Int}(h0:0<=no)(h1:no<(P.L.length:Int))(M:Option P8)(px:∀t,M=some t->t.length=512){x:Nat}(jJ:w0.heap.size<=x)(F:∀i,¬P.cp i x)(fV:Pm w x [x0] 9){f:Nat}(pH:CF prog f)
  (FI:∀(w1:World)(b:Nat) (t:P8) (d:Bool),b≠x->Pm w1 b (pgC t d) 220->Pm w1 x [x0] 9->PN prog f [ptr b 0,ptr x 0] w1 λv w2=>v= .tuple #[]/\Pm w2 b (pgC (M.getD t) (M.isSome ||d)) 220/\Pm w2 x [S (M.getD t)] 9/\Kp (λj=>j=if M.isSome then b else x) w1 w2):
  PN prog 120 [ptr P.s 0,I no,.bool M.isSome,.func (.func f) #[] #[ptr x 0]] w λv w'=>v=I 0/\Pm w' x [S (M.getD (txt no))] 9/\∃P',UP w0 P0 w' P'/\WM P' (ZY txt no M) (K+wN M)/\P.Same P'/\∀i,¬P'.cp i x:=by
 have hB:=hr.m.cells
 have fJ:=X8 hr.m.dev
 rw[u.B] at fJ
 have lx:=fV.lt
 have gP:=Arc.z1A u.aok no
 obtain⟨T,hT⟩:∃T,P.A.RY no=T:=⟨_,O⟩
 have eY:=z71 hr.m.arc u.aok u.asz (k:=no)
 rw[hT] at gP eY
 obtain⟨A2,hit,g⟩:=T
 dsimp only at gP eY
 have a0:=hr.m.ext.n
 refine py (e:=[(0,_),(1,_),(2,_),(3,_)]) func120 O ntmps120 O O<|Re O<|Qi O<|QY O<|Qb<|PB O<|Ph O<|PQ O<|Pr VN O<|qV (Pl U26 O O hB O)<|Px z5K O fJ ?_
 rintro _ w⟨rfl,rfl⟩
 refine Uj O<|Qb<|Ql O<|QC O<|PL O<|PQ O<|Pr z92 O<|qV (Pl zb3 O O hB O)<|Ph O<|Px zhH O eY ?_
 rintro _ w1⟨rfl,V2,sE⟩
 have dg:=hr.arc sE
 have FJ:=sE.k.OZ fV (F 3)
 have z1:=sE.k.size
 refine Ph O<|qV (S9 (v:=zdN hit g) O O)<|qV (S9 (v:=I 0) O O)<|Pb O O (S5 (cs:=[_,_,_]) PW O) ?_
 rintro _ w2⟨b9,rfl,mO,ae,cB⟩
 have z2:=ae.size
 refine Po O (Qh (news:=S7 hit g) PW O O O O cB ξ) ?_
 rintro w3⟨cX,aq⟩
 replace cX:Pm w3 b9 [.bool hit,.bool g.isSome,I (g.getD 0)] 261:=cX
 have aV:Ext w1 w3:=ae.It aq (λj e=>ω)
 have cg:=dg.ext aV
 have A7:=aV.OZ FJ
 have a6:=dg.k.size
 have a7:=aV.size
 have H:∀i,¬RE.cp {P with A:=A2,V:=V2} i x:=λi e=>by
  match i,e with
  |0,e=>exact F 0 e
  |1,e=>exact F 1 e
  |2,e=>exact F 2 e
  | 3, e =>
    rcases sE.fp x e with e| e
    ·exact F 3 e
    ·omega
  |4,e=>exact F 4 e
  |5,e=>exact F 5 e
 have A8:∀i,¬RE.cp {P with A:=A2,V:=V2} i b9:=dg.m.new ω
 have OE:b9≠x:=ω
 have a3:=cX.lt
 have kF:=cg.m.cells
 dsimp only at kF
 refine Pq O<|PM.qb (e:=[(0,_),(1,_),(2,_),(3,_),(8,_),(9,_),(10,_)]) ?_
 refine Qi O<|R5 O<|QC O<|OY<|qN O<|Pr zdY O ?_
 cases hit with
 | true =>
   have bB:=gP.hit.1 O
   obtain⟨q,r,FK⟩:∃q∈P.l,q.k=no:=by
    obtain⟨q,a,b⟩:=y0h.1 ((u.keys no).2 bB);exact⟨q,a,b⟩
   subst FK;refine qV (Pl U4 O O cX O) (P4 (Pp O (PL O (PQ O (Pr Ww O (Pr zcY O (qV (Pl U3 O O kF O) (qV (zbx O O) (PQ O (Pr Ww O (Pr zcY O (Po O (QZ Qe O O O kF ξ) ?_))))))))))));rintro p⟨aF,ar⟩;obtain⟨z,hz⟩:∃z,IntKind.i64.wrap (P.h+1)=z:=⟨_,O⟩;rw[hz] at aF;have E:=cg.cnt (a:=z) (b:=P.mi) (c:=P.wr) aF ar;have iQ:=E.m.cells;dsimp only at iQ;have qR:=ar.OZ A7 (F 0);have dY:=E.m.get r;dsimp only at dY;have rM:Pm p q.b (pgC q.t q.d) 220:=E.m.pg q r;have uL:q.b≠x:=λe=>F 5 ⟨q,r,e⟩;refine qM O<|PB O<|PQ O<|Pr VB O<|qV (Pl Xd O O iQ O)<|Ph O<|qV (ylk (k:=q.k) (K:=KI) Xd (Sx U3) zcf O O E.m.mp.l) ?_;dsimp only;rw[dY];refine Rj O O (SE pH O O) (FI p q.b q.t q.d uL rM qR) ?_;rintro _ w5⟨rfl,FM,qU,ai⟩;refine P4<|PM.qb (e:=[(0,_),(1,_),(2,_),(3,_),(8,_),(9,_),(10,_)]) ?_;refine Re O<|P3 func120 O ?_;have FN:=u.tx q r;refine⟨_,O,O,by rw[<-FN];exact qU,?_⟩
   cases M with
   | none =>
     have A9:∀i,¬RE.cp {P with A:=A2,V:=V2,h:=z,mi:=P.mi,wr:=P.wr} i x:=λi o=>by
      match i,o with
      |0,o=>exact H 0 o
      |1,o=>exact H 1 o
      |2,o=>exact H 2 o
      |3,o=>exact H 3 o
      |4,o=>exact H 4 o
      |5,o=>exact H 5 o
     refine⟨_,E.loc ai (λj e=>⟨.inr (by rw[show j=x from e];exact jJ),by rw[show j=x from e];exact A9⟩),u.hit r px (by rw[hT]) ?_ O O,⟨O,O,O,O,O,O,O,O,O⟩,A9⟩;show P.l=Sc P.l q.k q.t q.d
     exact(z1u u.nd r).symm
   | some t =>
     refine⟨_,E.zim r FM ai,u.hit r px (by rw[hT]) O O O,⟨rfl,rfl,rfl,rfl,rfl,rfl,rfl,rfl,rfl⟩,λi o=>?_⟩
     match i,o with
     |0,o=>exact H 0 o
     |1,o=>exact H 1 o
     |2,o=>exact H 2 o
     |3,o=>exact H 3 o
     |4,o=>exact H 4 o
     | 5, ⟨g', cU, o⟩ =>
       have h3:g'.b∈P.l.map (·.b):=by rw[<-z3O P.l q.k];exact y0h.2 ⟨g',cU,O⟩
       obtain⟨g2,a,b⟩:=y0h.1 h3
       exact H 5 ⟨g2,a,b.trans o⟩
 | false =>
   have FO:¬P.A.held no:=λe=>by have:=gP.hit.2 e;cases this
   refine qV (Pl U4 O O cX O) (QC O (PL O (PQ O (Pr Ww O (Pr zco O (qV (Pl U3 O O kF O) (qV (zbx O O) (PQ O (Pr Ww O (Pr zco O (Po O (QZ Qe O O O kF ξ) ?_)))))))))));rintro p⟨aF,ar⟩;obtain⟨z,hz⟩:∃z,IntKind.i64.wrap (P.mi+1)=z:=⟨_,O⟩;rw[hz] at aF;have E:=cg.cnt (a:=P.h) (b:=z) (c:=P.wr) aF ar;have iQ:=E.m.cells;dsimp only at iQ;have qR:=ar.OZ A7 (F 0);have BU:b9≠P.s:=λe=>A8 0 e;have mm:=ar.OZ cX BU;have z4:=ar.size;refine P4<|OY<|qN O<|Pr ze2 O<|qV (Pl U4 O O mm O)<|P4 ?_
   have Mp:∀(D':Dev)(y:Nat->Prop) (l':List Pg) (C:Int),(∀j,y j->P.Fd j\/w.heap.size<=j)->l'.Sublist P.l->∀b,(∀i,¬RE.cp {P with A:=A2,V:=V2} i b)->b<w.heap.size\/(∀j,y j->j≠b)->∀i,¬RE.cp {P with A:=A2,V:=V2,D:=D',Fd:=y,l:=l',mi:=z,wr:=C} i b:=λD' y l' C hF hl b hb bU i e=>by
    match i,e with
    |0,e=>exact hb 0 e
    | 1, e =>
      rcases bU with h| h
      ·rcases hF b e with e| e
       ·exact hb 1 e
       ·omega
      ·exact h b e O
    |2,e=>exact hb 2 e
    |3,e=>exact hb 3 e
    |4,e=>exact hb 4 e
    |5,⟨q,r,e⟩=>exact hb 5 ⟨q,hl.subset r,e⟩
   refine Qf (λe' w'=>e'=[(0,ptr P.s 0),(1,I no),(2,.bool M.isSome),(3,.func (.func f) #[] #[ptr x 0])]/\∃D' y l' C,UP w0 P0 w' {P with A:=A2,V:=V2,D:=D',Fd:=y,l:=l',mi:=z,wr:=C}/\zdp P txt K g D' l'/\Pm w' x [x0] 9/\(∀j,y j->P.Fd j\/w.heap.size<=j/\j≠x)) ?dM<|λdM=>?kE
   case dM =>
    rintro e' w5⟨rfl,D',y,l',C,bM,Y,qU,wL⟩;have kh:no∉l'.map (·.k):=λe=>FO ((u.keys no).1 ((Y.keys no).1 e).1);have z5:=bM.k.size;have a5:=qU.lt
    have J:∀i,¬RE.cp {P with A:=A2,V:=V2,D:=D',Fd:=y,l:=l',mi:=z,wr:=C} i x:=λi e=>by
     match i,e with
     |0,e=>exact F 0 e
     | 1, e =>
       rcases wL x e with e| e
       ·exact F 1 e
       ·exact e.2 O
     |2,e=>exact F 2 e
     |3,e=>exact H 3 e
     |4,e=>exact F 4 e
     |5,⟨q,r,e⟩=>exact F 5 ⟨q,Y.sub.subset r,e⟩
    refine qN O<|qV (T3 (cs:=[_,_,_]) zhB O zi1 O O)<|Pb O O (RP O (cs:=pgC [] false) O) ?_;rintro _ w6⟨b,rfl,hb,aM,aJ⟩;replace aJ:Pm w6 b [S [],.bool false,I 0] 220:=aJ;have W:=bM.ext aM;have oq:=aM.OZ qU;have ot:b≠x:=ω
    have U:∀i,¬RE.cp {P with A:=A2,V:=V2,D:=D',Fd:=y,l:=l',mi:=z,wr:=C} i b:=bM.m.new ω;have a4:=aJ.lt
    have Aa:RJ (Uy l') no=none:=z3m λe=>kh (by
     unfold Uy at e;rw[y1q] at e
     exact e)
    refine Pq O<|Qi O<|qV (SD O) ?_
    cases M with
    | none =>
      refine P4<|Pp O ?_;have mu:=W.m.cells;dsimp only at mu;have et:=zaz no W.m.dev (k:=K) ⟨by have:=Y.ca;show D'.calls<=_;omega,by have:=Y.cc;show D'.cache.length<=_;omega,trivial,Y.SY⟩ hK
      have Mq:D'.read no=({D' with reads:=IntKind.i64.wrap (D'.reads+1)},txt no,0):=by
       have hh:D'.has no=true:=by
        have:=Y.B;have:=u.B;simp[Dev.has];omega
       unfold Dev.read;rw[if_neg (by rw[Y.down];simp),if_neg (by rw[hh];simp),Y.now no h0 h1 kh]
      dsimp only at et;rw[Mq] at et;dsimp only at et;refine QG O<|PQ O<|Pr VN O<|qV (Pl U26 O O mu O)<|Ph O<|Px zhp O et ?_;rintro _ w7⟨rfl,ss⟩;obtain⟨Q,Ab,Ac⟩:=W.dev ss;have iq:Kp y w6 w7:=ss.kpF;have bE:=iq.OZ aJ (U 1);have uM:=iq.OZ oq (J 1);refine Ph O (qV (S9 (v:=S (txt no)) O O) (qV (S9 (v:=I 0) O O) (PQ O (Pr Wl O (Pr z3D O (Po O (QZ ti9 O O O bE ξ) ?_))))));rintro w8⟨bh,aH⟩;replace bh:Pm w8 b (pgC (txt no) false) 220:=bh
      have uN:∀i,¬RE.cp {P with A:=A2,V:=V2,D:={D' with reads:=IntKind.i64.wrap (D'.reads+1)},Fd:=Q,l:=l',mi:=z,wr:=C} i b:=λi e=>by
       match i,e with
       |0,e=>exact U 0 e
       | 1, e =>
         rcases Ac b e with e| e
         ·exact U 1 e
         ·omega
       |2,e=>exact U 2 e
       |3,e=>exact U 3 e
       |4,e=>exact U 4 e
       |5,e=>exact U 5 e
      have kG:∀i,¬RE.cp {P with A:=A2,V:=V2,D:={D' with reads:=IntKind.i64.wrap (D'.reads+1)},Fd:=Q,l:=l',mi:=z,wr:=C} i x:=λi e=>by
       match i,e with
       |0,e=>exact J 0 e
       | 1, e =>
         rcases Ac x e with e| e
         ·exact J 1 e
         ·have:=oq.lt;omega
       |2,e=>exact J 2 e
       |3,e=>exact J 3 e
       |4,e=>exact J 4 e
       |5,e=>exact J 5 e
      have gd:=Ab.loc aH (λj e=>by rw[show j=b from e];exact⟨.inr ω,uN⟩);have FP:=aH.OZ uM (λe=>ot e.symm);have Ad:=gd.m.cells;dsimp only at Ad;refine Rq O<|R5 O<|P4<|PM.qb (e:=[(0,_),(1,_),(3,_),(10,_),(13,_),(106,_)]) ?_;refine Tj O<|PL O<|PQ O<|Pr VB O<|qV (Pl Xd O O Ad O)<|PB O<|Po O (zgr (k:=no) (K:=KI) Xd (Sx U3) O O O gd.m.mp) ?_;rintro w9⟨Z,X⟩;dsimp only at Z;rw[Vq _ _ _ Aa] at Z;have i9:=gd.ins (g:=⟨no,b,txt no,false⟩) ⟨by dsimp only;omega,uN⟩ bh (by unfold Uy at Z⊢;rw[y0f];exact Z) X;have cB:=X.OZ bh (uN 4);have uO:=X.OZ FP (kG 4);refine qM O<|PB O<|Rj O O (SE pH O O) (FI w9 b (txt no) false ot cB uO) ?_;rintro _ a1⟨rfl,sF,ou,aC⟩;refine qM O<|Pq O<|P3 func120 O ?_
      have A9:∀i,¬RE.cp {P with A:=A2,V:=V2,D:={D' with reads:=IntKind.i64.wrap (D'.reads+1)},Fd:=Q,l:=l'++[⟨no,b,txt no,false⟩],mi:=z,wr:=C} i x:=λi o=>by
       match i,o with
       |0,o=>exact kG 0 o
       |1,o=>exact kG 1 o
       |2,o=>exact kG 2 o
       |3,o=>exact kG 3 o
       |4,o=>exact kG 4 o
       | 5, ⟨q, r, o⟩ =>
         rcases y0u.1 r with e3|e3
         ·exact kG 5 ⟨q,e3,o⟩
         ·rw[y0z.1 e3] at o;exact ot o
      exact⟨_,O,O,ou,_,i9.loc aC (λj e=>⟨.inr (by rw[show j=x from e];exact jJ),by rw[show j=x from e];exact A9⟩),u.zjM h0 h1 FO px (by rw[hT];exact Y) (by rw[hT]) O O O,⟨O,O,O,O,O,O,O,O,O⟩,A9⟩
    | some t =>
      refine P4<|P9 O ?_;have mu:=W.m.cells;dsimp only at mu;refine P5<|PL O<|PQ O<|Pr VB O<|qV (Pl Xd O O mu O)<|PB O<|Po O (zgr (k:=no) (K:=KI) Xd (Sx U3) O O O W.m.mp) ?_;rintro w9⟨Z,X⟩;dsimp only at Z;rw[Vq _ _ _ Aa] at Z;have i9:=W.ins (g:=⟨no,b,[],false⟩) ⟨by dsimp only;omega,U⟩ aJ (by unfold Uy at Z⊢;rw[y0f];exact Z) X;have cB:=X.OZ aJ (U 4);have uO:=X.OZ oq (J 4);refine qM O<|PB O<|Rj O O (SE pH O O) (FI w9 b [] false ot cB uO) ?_;rintro _ a1⟨rfl,sF,ou,aC⟩;refine qM O<|Pq O<|P3 func120 O ?_;have o3:=i9.zim (g:=⟨no,b,[],false⟩) (List.mem_append_right _ (y0z.2 O)) sF aC;refine⟨_,O,O,ou,_,o3,u.zjM h0 h1 FO px (by rw[hT];exact Y) (by rw[hT]) (z1o kh) O O,⟨rfl,rfl,rfl,rfl,rfl,rfl,rfl,rfl,rfl⟩,λi o=>?_⟩
      match i,o with
      |0,o=>exact J 0 o
      |1,o=>exact J 1 o
      |2,o=>exact J 2 o
      |3,o=>exact J 3 o
      |4,o=>exact J 4 o
      | 5, ⟨q, r, o⟩ =>
        have e4:=z1o (b:=b) (t0:=[]) (t:=(some t).getD []) (d0:=false) (d:=(some t).isSome ||false) kh;have Mr:q∈l'++[⟨no,b,(some t).getD [],(some t).isSome ||false⟩]:=by rw[<-e4];exact r
        rcases y0u.1 Mr with e3|e3
        ·exact J 5 ⟨q,e3,o⟩
        ·rw[y0z.1 e3] at o;exact ot o
   case kE=>
    cases g with
    | none =>
      refine Tj O ?_
      exact(dM _ _ ⟨O,_,_,_,P.wr,E,u.ziK,qR,λj e=> .inl e⟩).qb
    | some gk =>
      obtain⟨Ms,Mt⟩:=gP.gone gk O
      obtain⟨q,r,FK⟩:∃q∈P.l,q.k=gk:=by
       obtain⟨q,a,b⟩:=y0h.1 ((u.keys gk).2 Ms);exact⟨q,a,b⟩
      subst FK;have dY:=E.m.get r;dsimp only at dY;have G:=Ext.Pz p;refine Pp O<|OY<|RI (λw'=>Ext p w') O<|Pu 0 O O G<|P7 1 O (QL O) G<|P7 2 O (PU VB O) G<|qT 3 O (λ_ h=>(Pl Xd O O (h.OZ iQ) O)) G<|P7 4 O (PU z3L O) G<|qT 5 O (λ_ h=>(Pl U3 O O (h.OZ mm) O)) G<|qT 6 O (λ_ h=>ylk (k:=q.k) (K:=KI) Xd (Sx U3) zcf O O (E.m.ext' h).mp.l) G ?_;dsimp only;rw[dY];refine P7 7 O (S6 O) G<|qE<|PM.qb (e:=[(0,_),(1,_),(2,_),(3,_),(8,_),(9,_),(10,_),(11,_)]) ?_;refine OY ?_;have R:=Ext.Pz p.drew;have ov:=G.OZ iQ;have ma:=G.OZ mm;have bM:=E.ext (G.trans R);refine PC [6] (λw'=>Ext p.drew w') Pd O<|Qm 0 O O R<|PH 1 O (QL O) R<|PH 2 O (PU VB O) R<|qL 3 O (λ_ h=>(Pl Xd O O (h.OZ ov) O)) R<|PH 4 O (PU z3L O) R<|qL 5 O (λ_ h=>(Pl U3 O O (h.OZ ma) O)) R<|TV [6]<|qO 6<|zbM (i:=6) O O (zgw (k:=q.k) (K:=KI) Xd (Sx U3) O O bM.m.mp O) ?_;rintro _ w6⟨wT,aG⟩;refine⟨trivial,?_⟩;dsimp only at wT;rw[z2S] at wT;have W:=bM.del (Ts P.l q.k) wT aG;have FQ:Pm p q.b (pgC q.t q.d) 220:=E.m.pg q r;have Ae:q.b≠P.pm:=λe=>E.m.VH 5 4 ψ q.b ⟨q,r,O⟩ e;have tK:=aG.OZ ((G.trans R).OZ FQ) Ae
      have U:∀i,¬RE.cp {P with A:=A2,V:=V2,h:=P.h,mi:=z,wr:=P.wr,l:=T8 P.l q.k} i q.b:=λi e=>by
       match i,e with
       |0,e=>exact E.m.VH 5 0 ψ q.b ⟨q,r,O⟩ e
       |1,e=>exact E.m.VH 5 1 ψ q.b ⟨q,r,O⟩ e
       |2,e=>exact E.m.VH 5 2 ψ q.b ⟨q,r,O⟩ e
       |3,e=>exact E.m.VH 5 3 ψ q.b ⟨q,r,O⟩ e
       |4,e=>exact Ae e
       | 5, ⟨q2, fP, e⟩ =>
         have o:q2=q:=Ti E.m.pnd ((Ts P.l q.k).subset fP) r e;have:=((z1I u.nd q.k q2.k).1 (y0h.2 ⟨q2,fP,O⟩)).2;exact this (by rw[o])
      have qW:=u.rng q r;have FN:=u.tx q r;have yJ:q.t.length=512:=by rw[FN];exact u.len q.k qW.1 qW.2
      have oq:=aG.OZ ((G.trans R).OZ qR) (H 4);have mu:=W.m.cells;have FS:=aG.OZ ((G.trans R).OZ mm) (A8 4);have a8:=(G.trans R).size;have a9:=aG.size;refine qE<|PL O<|Pr z3L O<|qV (Pl U3 O O FS O)<|Ph O<|Px zjf O (z5n W.m u.zh0 u.down u.due u.B u.N hK qW.1 qW.2 yJ tK U) ?_;rintro _ w7⟨rfl,Q,a2,gN,av,Ac⟩;have Ab:=W.write gN av Ac (E.fp q.b ⟨5,q,r,O⟩);have uL:q.b≠x:=λe=>F 5 ⟨q,r,e⟩
      have uM:=av.OZ oq (λe=>by
       rcases e with e|e| e
       ·exact uL e.symm
       ·exact F 0 e
       ·exact F 1 e)
      refine Rq O<|R5 O<|QC O ?_;exact(dM _ _ ⟨O,_,Q,_,a2,Ab,u.ziX r,uM,λj e=>(Ac j e).imp id λe=>⟨ω,ω⟩⟩).qb
end
section
variable {P P':RE}
def za5 {x:Nat}{d:Bool}(l:b≠x)(f:Pm w b (pgC t d) 220)(m:Pm w x [x0] 9):PN prog 121 [ptr b 0,ptr x 0] w λv w2=>v= .tuple #[]/\Pm w2 b (pgC t d) 220/\Pm w2 x [S t] 9/\Kp (λj=>j=x) w w2:=by
 replace f:Pm w b [S t,.bool d,I 0] 220:=f
 refine py (e:=[(0,_),(1,_)]) func121 O ntmps121 O O<|Ra O<|PQ O<|Pr Wl O<|Pr z3D O<|qV (Pl U9 O O f O)<|Po O (QZ ti9 O O O m ξ) ?_
 rintro w1⟨h,g⟩
 refine P4<|Qu func121 O ?_
 exact⟨_,O,O,g.OZ f l,h,g⟩
def z7h {x:Nat}{s:P8}{d:Bool}(m:b≠x)(f:Pm w b (pgC t d) 220)(h:Pm w x [S s] 9):PN prog 139 [ptr b 0,ptr x 0] w λv w2=>v= .tuple #[]/\Pm w2 b (pgC s true) 220/\Pm w2 x [S s] 9/\Kp (λj=>j=b) w w2:=by
 replace f:Pm w b [S t,.bool d,I 0] 220:=f
 refine py (e:=[(0,_),(1,_)]) func139 O ntmps139 O O<|Ra O<|qV (Pl U9 O O h O)<|qV (T3 (cs:=[_,_]) z8i O ziL O O)<|PQ O<|Pr Wl O<|Po O (Qh (news:=[S s,.bool true]) z8i O O O O f ξ) ?_
 rintro w1⟨l,g⟩
 refine P4<|Qu func139 O ?_
 exact⟨_,O,O,l,g.OZ h (λe=>m e.symm),g⟩
theorem z7p (o:UR w P)(n:WM P txt K)(H:K<1000000000000){no:Int}(F:0<=no)(G:no<(P.L.length:Int)):PN prog 83 [ptr P.s 0,I no] w λv w'=>v= .tuple #[S (txt no),I 0]/\∃P',UP w P w' P'/\WM P' txt K/\P.Same P':=by
 refine py (e:=[(0,_),(1,_)]) func83 O ntmps83 O O<|qN O<|Pb O O (S5 (cs:=[_]) ti9 O) ?_
 rintro _ w1⟨x,rfl,q,y,hB⟩
 have l:=o.r y
 have B:∀i,¬P.cp i x:=o.new ω
 refine Pq O<|Qi O<|Px zfP O (z0v l.m n.down) ?_
 rintro _ w1⟨rfl,rfl⟩
 refine Rq O<|R5 O<|QC O<|QG O<|qV (ymf (first:=[]) (caps:=[.tmp 4]) O O)<|Px zf3 O (z0x l n H F G none (λt e=>by cases e) ω B hB zhE (λw1 b t d E J q=>za5 E J q)) ?_
 rintro _ w2⟨rfl,f,P',C,h,D,u⟩
 rw[z04] at h
 replace f:Pm w2 x [S (txt no)] 9:=f
 refine Ro O<|qV (Pl U9 O O f O)<|Ph O<|Po O (QZ ti9 O O O f ξ) ?_
 rintro M⟨g,z⟩
 replace g:Pm M x [S (txt no)] 9:=g
 refine Pq O<|PK func83 (.cell1 U9 O O ((g).cell _) (.tmp O .nil)) ?_
 exact⟨_,O,O,P',C.loc z (λj e=>by rw[show j=x from e];exact⟨.inr ω,u⟩),h,D⟩
theorem zai (j:UR w P)(g:WM P txt K)(D:K<1000000000000){no:Int}(B:0<=no)(C:no<(P.L.length:Int))(t:P8)(ht:t.length=512):PN prog 100 [ptr P.s 0,I no,S t] w λv w'=>v=I 0/\∃P',UP w P w' P'/\WM P' (ZY txt no (some t)) (K+1)/\P.Same P':=by
 refine py (e:=[(0,_),(1,_),(2,_)]) func100 O ntmps100 O O<|qN O<|Pb O O (RP O (cs:=[S t]) O) ?_
 rintro _ w1⟨x,rfl,l,n,hB⟩
 have f:=j.r n
 have q:∀i,¬P.cp i x:=j.new ω
 refine Pq O<|Qi O<|Px zfP O (z0v f.m g.down) ?_
 rintro _ w1⟨rfl,rfl⟩
 refine Rq O<|R5 O ?_
 have hg:=Ext.Pz w1
 refine QC O<|OY<|OY<|RI (λw'=>Ext w1 w') O<|qT 0 O (λ_ h=>Pl U9 O O (h.OZ hB) O) hg<|P7 1 O (WW U9 O) hg<|Pu 2 O O hg<|Tl 3 O z4W O (z1T (f.m.ext' hg) g.N) ?_
 rintro _ w2⟨rfl,rfl⟩
 refine⟨hg,?_⟩
 refine P7 4 O (yne O O) hg<|TJ<|qE<|Tj O<|QG O<|qV (ymf (first:=[]) (caps:=[.tmp 5]) O O)<|Px zf3 O (z0x (f.ext hg) g D B C (some t) (λs e=>by cases e;exact ht) ω q (hg.OZ hB) zi5 (λw1 b t2 d z E l=>z7h z E l)) ?_
 rintro _ w2⟨rfl,G,P',u,o,y,F⟩
 refine Pq O<|P3 func100 O ?_
 exact⟨_,O,O,P',u,o,y⟩
theorem z78 (o:UR w P){n:Nat}(D:Pre P.L a)(z:1<=n)(F:a+n<=P.L.length):PN prog 66 [ptr P.s 0,I (n:Int)] w λv w'=>v= .tuple #[.agg #[I (a:Int),I (n:Int)],I 0]/\UP w P w' {P with L:=Qr P.L a n true}:=by
 refine py (e:=[(0,_),(1,_)]) func66 O ntmps66 O O<|qN O<|Pb O O (S5 (cs:=[_,_]) Rw O) ?_
 rintro _ w1⟨x,rfl,H,q,hB⟩
 have h:=o.r q
 have f:∀i,¬P.cp i x:=o.new ω
 have E:=h.m.cells
 refine Pq O<|Qi O<|qV (Qz XZ O O)<|QC O<|PL O<|PQ O<|Pr z3K O<|qV (Pl U66 O O E O)<|Ph O<|Px zlr O (z50 h.m.ext D z F) ?_
 rintro _ w2⟨rfl,B,l⟩
 have C:=h.exM B l
 have u:=l.OZ hB (λe=>f 2 (.inr e))
 refine qV (S9 (v:= .agg #[I (a:Int),I (n:Int)]) O O)<|qV (S9 (v:=I 0) O O)<|Po O (Qh (news:=[I (a:Int),I (n:Int)]) Rw O O O O u ξ) ?_
 rintro G⟨g,y⟩
 replace g:Pm G x [I (a:Int),I (n:Int)] 124:=g
 refine Pq O<|PK func66 (.cell VU O Rw O (Pm.cells (n:=2) g (news:=[_,_]) O) O (.tmp O .nil)) ?_
 refine⟨_,rfl,rfl,C.loc y (λj e=>by
  rw[show j=x from e];refine⟨.inr ω,λi d=>?_⟩
  match i,d with
  |0,d=>exact f 0 d
  |1,d=>exact f 1 d
  |2,d=>exact f 2 d
  |3,d=>exact f 3 d
  |4,d=>exact f 4 d
  |5,d=>exact f 5 d)⟩
theorem WM.Qq (h:WM P txt K)(e:L'.length=P.L.length):WM {P with L:=L'} txt K:=
 ⟨h.aok,h.asz,h.keys,h.nd,λg hg=>by rw[e];exact h.rng g hg,h.tx,h.cl,λx f d=>by rw[e] at d;exact h.out x f d,λx f d=>by rw[e] at d;exact h.len x f d,h.down,h.due,h.B.trans e.symm,h.N,h.ca,h.cc,h.SY⟩
theorem zaF {d m gi:Nat}{L:List Bool}{Fd:Nat->Prop}(H:WN w d (Dev.fresh L.length 1) Fd)(y:Ye w m gi L)(r:¬Fd m/\¬Fd gi)(n:Nat)(E:1<=n)(Y:n<=1000):PN prog 32 [ptr d 0,I (n:Int),ptr m 0] w λv w'=>∃P,v= .tuple #[ptr P.s 0,I 0]/\UR w' P/\WM P (λ_=>zeros 512) 0/\P.m=m/\P.gi=gi/\P.L=L/\(∀b,P.fp b->Fd b\/b=m\/b=gi\/w.heap.size<=b)/\Ext w w':=by
 refine py (e:=[(0,_),(1,_),(2,_)]) func32 O ntmps32 O O<|qN O<|QS O<|R0<|PL O<|qV (Qz U26 O O)<|PB O<|qV (Qz U66 O O)<|Ql O<|Pq O<|P9 O<|PL O<|QY O<|Qb ?_
 refine PB O<|R8 O<|Qb<|Ql O<|Pq O<|Tj O<|An<|PL O<|Px zlZ O (zch n E ω w) ?_
 rintro _ w1⟨c,V,p,rfl,M,J,B⟩
 refine Ph O<|qV (S9 (v:=ptr c 0) O O)<|qV (S9 (v:=I 0) O O)<|QS O<|PM.qb (e:=[(0,_),(1,_),(2,_),(6,_),(7,_),(8,_),(9,_)]) ?_
 refine Qi O<|R5 O<|QC O<|QG O<|Ph O<|Pb O O pmm ?_
 rintro _ w2⟨pm,rfl,k,C,W⟩
 have G:T6 KI w2 pm []:=T6.new W
 have Z:=G.lt
 refine Ph O<|qV (T3 (cs:=[_,_,_,_,_,_,_]) z2F O zly O O)<|qV (T3 (cs:=[_,_,_,_,_,_,_,_,_,_,_,_]) ziN O zhv O O)<|Pb O O (RP O (cs:=plC ⟨0,d,m,gi,c,pm,p,n,V,Dev.fresh L.length 1,z7I n,[],L,Fd,0,0,0⟩) O) ?_
 rintro _ K⟨s,rfl,A,D,S⟩
 refine QS O<|P3 func32 O ?_
 have T:=B.size
 have X:=C.size
 have F:=C.trans D
 have u:=B.trans F
 have a:=M.ext F
 have Q:∀{b:Nat},T5 c V p b->b<w1.heap.size:=M.lt
 have R:=H.lt
 have ltm:=y.ltm
 have ltg:=y.ltg
 refine⟨_,O,⟨s,d,m,gi,c,pm,p,n,V,Dev.fresh L.length 1,z7I n,[],L,Fd,0,0,0⟩,O,⟨S,H.ext u,y.ext u,a,G.ext D,(λg hg=>by cases hg),y1J,?_⟩,⟨zdM E,Y,λx=>?_,y1J,(λg hg=>by cases hg),(λg hg=>by cases hg),(λg hg=>by cases hg),λx _ _ _=>rfl,λx _ _=>by simp[zeros],rfl,rfl,rfl,rfl,Int.le_refl _,y02 _,y00 _⟩,O,O,O,λb ⟨i,q⟩=>?_,u⟩
 ·intro i j ne b q U
  have o:∀i,RE.cp ⟨s,d,m,gi,c,pm,p,n,V,Dev.fresh L.length 1,z7I n,[],L,Fd,0,0,0⟩ i b->(i=0/\b=s)\/(i=1/\Fd b/\b<w.heap.size)\/(i=2/\(b=m\/b=gi)/\b<w.heap.size)\/(i=3/\w.heap.size<=b/\b<w1.heap.size)\/(i=4/\b=pm):=λi q=>by
   match i,q with
   |0,e=>exact .inl ⟨O,e⟩
   |1,e=>exact .inr (.inl ⟨O,e,R b e⟩)
   |2,e=>exact .inr (.inr (.inl ⟨O,e,by have t:b=m\/b=gi:=e;omega⟩))
   |3,e=>exact .inr (.inr (.inr (.inl ⟨O,J b e,Q e⟩)))
   |4,e=>exact .inr (.inr (.inr (.inr ⟨O,e⟩)))
   |5,⟨g,hg,e⟩=>cases hg
  have h:=o i q;have l:=o j U;rcases h with⟨e,h⟩|⟨e,h,N⟩|⟨e,h,N⟩|⟨e,h,N⟩|⟨e,h⟩<;>rcases l with⟨f,l⟩|⟨f,l,z⟩|⟨f,l,z⟩|⟨f,l,z⟩|⟨f,l⟩<;>first|omega|skip
  ·rcases l with e| e
   ·exact r.1 (e▸h)
   ·exact r.2 (e▸h)
  ·rcases h with e| e
   ·exact r.1 (e▸l)
   ·exact r.2 (e▸l)
 ·constructor
  ·intro e;cases e
  ·intro e;rcases e with e|e<;>cases e
 ·match i,q with
  |0,e=>exact .inr (.inr (.inr (by have:b=s:=e;omega)))
  |1,e=>exact .inl e
  |2,e=>rcases e with e|e;exact .inr (.inl e);exact .inr (.inr (.inl e))
  |3,e=>exact .inr (.inr (.inr (J b e)))
  |4,e=>exact .inr (.inr (.inr (by have:b=pm:=e;omega)))
  |5,⟨g,hg,e⟩=>cases hg
end
def z9S {l:List (Int×P8)}{n:Int}(h:X4 l n=some t):∃x∈l,x.2=t:=by
 unfold X4 at h
 obtain⟨x,d,e⟩:=y1Y.1 h
 exact⟨x,List.mem_reverse.1 (List.mem_of_find?_eq_some d),e⟩
theorem Dev.Ok.zdZ {D:Dev}(h:D.Ok)(n:Int):(D.now n).length=512*D.N:=by
 unfold Dev.now
 cases d:X4 D.cache n with
 |none=>exact h.kept n
 | some t =>
   obtain⟨x,e,rfl⟩:=z9S d;exact(h.cache x e).2.2
section
variable {P P':RE}
theorem WM.zko (h:WM P txt K)(u:P.D.Ok):WM {P with A:=P.A.drop k,l:=T8 P.l k} (λx=>if x=k then P.D.now k else txt x) K:=by
 have r:=z1I h.nd k
 have j:=Ts P.l k
 have o:=Arc.zb7 h.aok k
 have E:=h.ca
 have C:=h.cc
 have z:Sk (T8 P.l k)<=Sk P.l:=j.countP_le
 have f:∀q∈T8 P.l k,q∈P.l/\q.k≠k:=λq d=>⟨j.subset d,((r q.k).1 (y0h.2 ⟨q,d,O⟩)).2⟩
 refine⟨h.aok.drop k,h.asz,λx=>by dsimp only;rw[r,o,h.keys],(j.map _).nodup h.nd,λq d=>h.rng q (f q d).1,λq d=>?_,λq d y=>?_,λx m g n=>?_,λx m g=>?_,h.down,h.due,h.B,h.N,by dsimp only;omega,by dsimp only;omega,h.SY⟩
 ·rw[if_neg (f q d).2];exact h.tx q (f q d).1
 ·rw[if_neg (f q d).2];exact h.cl q (f q d).1 y
 ·dsimp only at g n⊢;rw[o,not_and] at n;by_cases e:x=k
  ·rw[if_pos e,e]
  ·rw[if_neg e];exact h.out x m g λv=>n v e
 ·dsimp only at g⊢;by_cases e:x=k
  ·rw[if_pos e,u.zdZ,h.N]
  ·rw[if_neg e];exact h.len x m g
def WM.Uw (h:WM P txt K)(d:P'.A=P.A)(g:P'.l=P.l)(e:P'.D=P.D)(f:P'.L=P.L):WM P' txt K:=by
 obtain⟨j,a2,m,n,o,q,r,u,v,b1,b2,b3,x,b5,b6,b7⟩:=h
 constructor<;>simp only[d,g,e,f]<;>assumption
def UR.dok (h:UR w P):P.D.Ok:=by
 obtain⟨m,kp,ca,d,-⟩:=h.dev
 exact d.ok
theorem zaR (l:List Pg)(k:Int):(k∉l.map (·.k)/\RJ (Uy l) k=none)\/∃q∈l,q.k=k/\RJ (Uy l) k=some (ptr q.b 0):=by
 induction l with
 |nil=>exact .inl ⟨ξ,O⟩
 | cons g l d =>
   show _\/_;by_cases h:k=g.k
   ·exact .inr ⟨g,y0p,h.symm,if_pos h⟩
   ·have e:RJ (Uy (g::l)) k=RJ (Uy l) k:=if_neg h;rw[e];rcases d with⟨a,b⟩|⟨q,a,b,c⟩
    ·exact .inl ⟨by simp[h] at a⊢;exact a,b⟩
    ·exact .inr ⟨q,y0s _ a,b,c⟩
theorem z7Z (J:UR w P)(hI:WM P txt K){n:Nat}(ci:1<=n)(ji:s+n<=P.L.length):PN prog 108 [ptr P.s 0,.agg #[I (s:Int),I (n:Int)]] w λv w'=>v=I 0/\∃P' txt',UP w P w' P'/\WM P' txt' K/\(∀x:Int,x<(s:Int)\/(s:Int)+(n:Int)<=x->txt' x=txt x)/\P.Same P':=by
 have eB:=J.ext.n
 have mq:=J.cells
 refine py (e:=[(0,_),(1,_)]) func108 O ntmps108 O O<|qN O<|Pb O O (RP O (cs:=[I (s:Int),I (n:Int)]) O) ?_
 rintro _ w1⟨b3,rfl,eh,ad,E⟩
 have dg:=J.r ad
 have qp:∀i,¬P.cp i b3:=J.new ω
 have M:=ad.OZ mq
 have hg:=Ext.Pz w1
 have Z:=X8 (dg.m.dev.ext hg)
 rw[hI.B] at Z
 refine Pq O<|R0<|PL O<|qV (Qz XZ O O)<|Pq O<|P9 O<|PL O<|PQ O<|Pr z8V O<|qV (Pl U4 O O M O)<|Pq O<|P9 O<|OY<|RI (λw'=>Ext w1 w') O ?_
 refine P7 0 O (PU RB O) hg<|qT 1 O (λ_ h=>(Pl U3 O O (h.OZ E) O)) hg<|P7 2 O (ZQ O O) hg<|TJ<|Pu 3 O O hg<|P7 4 O (PU Rs O) hg<|qT 5 O (λ_ h=>(Pl U3 O O (h.OZ E) O)) hg<|P7 6 O (ZQ O O) hg<|TJ<|P7 7 O (U0 O O) hg<|Pu 8 O O hg<|P7 9 O (PU Rs O) hg<|qT 10 O (λ_ h=>(Pl U3 O O (h.OZ E) O)) hg<|Pu 11 O O hg ?_
 refine P7 12 O (QL O) hg<|P7 13 O (PU VN O) hg<|qT 14 O (λ_ h=>(Pl U26 O O (h.OZ M) O)) hg<|Tl 15 O z5K O Z ?_
 rintro _ w2⟨rfl,rfl⟩
 refine⟨hg,?_⟩
 refine P7 16 O (yge O O) hg<|TJ<|P7 17 O (U0 O O) hg<|Pu 18 O O hg<|P7 19 O (PU RB O) hg<|qT 20 O (λ_ h=>(Pl U3 O O (h.OZ E) O)) hg<|Pu 21 O O hg<|P7 22 O (QL O) hg<|P7 23 O (PU VN O) hg<|qT 24 O (λ_ h=>(Pl U26 O O (h.OZ M) O)) hg<|P7 26 O (PU Rs O) hg<|qT 27 O (λ_ h=>(Pl U3 O O (h.OZ E) O)) hg<|Tl 25 O z5K O Z ?_
 rintro _ w2⟨rfl,rfl⟩
 refine⟨hg,?_⟩
 refine P7 28 O (Yf O O ω) hg<|P7 29 O (YT O O) hg<|TJ<|P7 30 O (U0 O O) hg<|P7 31 O (S6 O) hg ?_
 obtain⟨w2,mT⟩:∃w2,w1.drew=w2:=⟨_,O⟩
 rw[mT] at hg⊢
 have U:=hg.OZ E
 have dl:=dg.ext hg
 have kH:=hg.OZ M
 have l3:=U.lt
 refine qE<|PM.qb (e:=[(0,_),(3,_),(4,_),(16,_)]) ?_
 refine Tj O<|An<|OY<|qN O<|Pr RB O<|qV (Pl U3 O O U O)<|Ph O<|P4<|P6<|RX (α:=Nat) (0) (λi=>[(0,ptr P.s 0),(3,ptr b3 0),(49,I (n:Int)),(50,I (i:Int))]) (λi w'=>Ext w2 w'/\i<=n) (λi=>n-i) ?hI ?hround
 case hI=>exact⟨Ext.refl _,y00 _⟩
 case hround =>
  rintro i w3⟨G,hi⟩ ih;have Q:=dl.ext G;have kF:=G.OZ kH;have Y:=G.OZ U;have f:=Ext.Pz w3
  try dsimp only
  refine qN O<|QY O<|P4<|OY<|Pn O (λh0=>?_)<|λh0=>?_
  ·refine P5 (R0 (PL O (Pq O (OY (RI (λw'=>Ext w3 w') O (Pu 0 O O f (P7 1 O (QL O) f (P7 2 O (PU VB O) f (qT 3 O (λ_ h=>(Pl Xd O O (h.OZ kF) O)) f (P7 4 O (PU Rs O) f (qT 5 O (λ_ h=>(Pl U3 O O (h.OZ Y) O)) f (Pu 6 O O f (P7 7 O (Vu O O ω) f ?_)))))))))))));rw[show(s:Int)+(i:Int)=((s+i:Nat):Int) by omega];refine qT 8 O (λ_ hS=>ylk (k:=((s+i:Nat):Int)) (K:=KI) Xd (Sx U3) zcf O O (Q.m.ext' hS).mp.l) f ?_;rcases zaR P.l ((s+i:Nat):Int) with⟨-,R⟩|⟨q,a,-,R⟩
   ·rw[R];refine P7 9 O (S6 O) f<|qE<|PL O<|qV (z4x zkg O O)<|Ph O<|QV<|QV<|qS<|Ql O<|QC O<|An<|Pc O<|Qj O<|Ph O ?_;refine P4 ?_;exact(ih (i+1) _ ⟨G.trans f,ω⟩ ω).qb
   ·rw[R];have rM:=(f.OZ (Q.m.pg q a):Pm w3.drew q.b [S q.t,.bool q.d,I 0] 220);refine P7 9 O (S6 O) f<|qE<|PL O<|qV (z4x zkg O O)<|PB O<|PQ O<|Pr zeu O<|qV (Pl U3 O O rM O)<|R8 O<|Qb<|Rr O<|QC O<|An<|Pc O ?_;refine Qj O<|Ph O<|P4 ?_;exact(ih (i+1) _ ⟨G.trans f,ω⟩ ω).qb
  ·have aQ : i = n := by omega
   subst aQ;refine Pf O<|OY<|qN O<|Pr RB O<|qV (Pl U3 O O Y O)<|Ph O<|P4<|P6<|RX (α:=Nat×RE×(Int->P8)) (0,P,txt) (λy=>[(0,ptr P.s 0),(3,ptr b3 0),(73,I (i:Int)),(74,I (y.1:Int))]) (λy w'=>UP w P w' y.2.1/\WM y.2.1 y.2.2 K/\y.1<=i/\P.Same y.2.1/\(∀x:Int,x<(s:Int)\/(s:Int)+(i:Int)<=x->y.2.2 x=txt x)/\Pm w' b3 [I (s:Int),I (i:Int)] 124/\∀j,¬y.2.1.cp j b3) (λy=>i-y.1) ?hI ?hround
   case hI=>exact⟨Q,hI,y00 _,⟨rfl,rfl,rfl,rfl,rfl,rfl,rfl,rfl,rfl⟩,λx _=>rfl,Y,qp⟩
   case hround =>
    rintro⟨j,Pj,tj⟩ w4 ⟨F,T,hj,g,A,W,C⟩ H;dsimp only at F T hj g A W C H⊢;have iQ:=F.m.cells;rw[g.s] at iQ;have o:=Ext.Pz w4;have dy:=Ext.Pz w4.drew
    try dsimp only
    refine qN O<|QY O<|P4<|OY<|Pn O (λh2=>?_)<|λh2=>?_
    ·refine P5 (R0 (PL O (Pq O (OY (PC [8] (λw'=>Ext w4 w') Pd O (Qm 0 O O o (PH 1 O (QL O) o (PH 2 O (PU VB O) o (qL 3 O (λ_ h=>(Pl Xd O O (h.OZ iQ) O)) o (PH 4 O (PU Rs O) o (qL 5 O (λ_ h=>(Pl U3 O O (h.OZ W) O)) o (Qm 6 O O o (PH 7 O (Vu O O ω) o ?_)))))))))))));refine TV [8] ?_;rw[show(s:Int)+(j:Int)=((s+j:Nat):Int) by omega];refine qO 8<|zbM (i:=8) O O (zgw (k:=((s+j:Nat):Int)) (K:=KI) Xd (Sx U3) O O (F.ext o).m.mp O) ?_;rintro _ w5⟨qI,ai⟩;refine⟨trivial,?_⟩;rw[z2S] at qI;have bM:=(F.ext o).del (Ts _ _) qI ai;have N:=ai.OZ (o.OZ W) (C 4);have V:=bM.m.cells;dsimp only at V;rw[g.s] at V;have u:=Ext.Pz w5;have cN:=bM.ext u;refine qE (PC [8] (λw'=>Ext w5 w') Pd O (Qm 0 O O u (PH 1 O (QL O) u (PH 2 O (PU z92 O) u (qL 3 O (λ_ h=>(Pl zb3 O O (h.OZ V) O)) u (PH 4 O (PU Rs O) u (qL 5 O (λ_ h=>(Pl U3 O O (h.OZ N) O)) u (Qm 6 O O u (PH 7 O (Vu O O ω) u (TV [8] ?_))))))))));rw[show(s:Int)+(j:Int)=((s+j:Nat):Int) by omega];refine Tl 8 O zhN O (zah cN.m.arc (k:=((s+j:Nat):Int))) ?_;rintro _ w6⟨⟨z,rfl⟩,V6,X⟩;refine⟨trivial,?_⟩;have Ab:=cN.arc X;have jc:=X.k.OZ (u.OZ N) (C 3);refine qE<|An<|Pc O<|Qj O<|Ph O<|P4 ((H (j+1,_,_) _ ⟨Ab,(T.zko F.m.dok (k:=((s+j:Nat):Int))).Uw O O O O,by dsimp only;omega,⟨g.s,g.d,g.m,g.gi,g.c,g.pm,g.p,g.fr,g.L⟩,λx hx=>?_,jc,λi2 e=>?_⟩ (by dsimp only;omega)).qb)
     ·show(if x=((s+j:Nat):Int) then Pj.D.now ((s+j:Nat):Int) else tj x)=txt x;rw[if_neg ω];exact A x hx
     ·match i2,e with
      |0,e=>exact C 0 e
      |1,e=>exact C 1 e
      |2,e=>exact C 2 e
      | 3, e =>
        rcases X.fp b3 e with e| e
        ·exact C 3 e
        ·have:=(u.OZ N).lt;omega
      |4,e=>exact C 4 e
      |5,⟨q,a,e⟩=>exact C 5 ⟨q,(Ts _ _).subset a,e⟩
    ·have s6:j=i:=ω
     subst s6;refine Pf O<|Re O<|P3 func108 O ?_;exact⟨_,O,O,Pj,tj,F,T,A,g⟩
theorem z7c (y:UR w P)(M:WM P txt K){n:Nat}(o:1<=n)(J:2<=s)(j:s+n<=P.L.length)(N:∀i,s<=i->i<s+n->P.L[i]? =some true):PN prog 73 [ptr P.s 0,.agg #[I (s:Int),I (n:Int)]] w λv w'=>v=I 0/\∃P' txt',UP w P w' {P' with L:=Qr P.L s n false}/\WM {P' with L:=Qr P.L s n false} txt' K/\(∀x:Int,x<(s:Int)\/(s:Int)+(n:Int)<=x->txt' x=txt x)/\P.Same P':=by
 refine py (e:=[(0,_),(1,_)]) func73 O ntmps73 O O<|qN O<|Pb O O (RP O (cs:=[I (s:Int),I (n:Int)]) O) ?_
 rintro _ w1⟨b3,rfl,S,D,g⟩
 have q:=y.r D
 have R:∀i,¬P.cp i b3:=y.new ω
 refine Pq O<|Qi O<|qV (PO (news:=[I (s:Int),I (n:Int)]) VU O Rw O (Pm.cells (n:=2) g O) O)<|Px zhD O (z7Z q.m M o j) ?_
 rintro _ w2⟨rfl,P',txt',u,F,Q,f⟩
 have U:=g.lt
 have H:=u.k.OZ g (λ⟨i,e⟩=>R i e)
 have l:=q.trans u
 have z:=l.m.cells
 rw[f.s] at z
 refine Rq O<|R5 O ?_
 have d:=Ext.Pz w2
 have B:=(l.ext d).m.ext
 rw[f.L] at B
 refine QC O<|OY<|PC [5,6] (λw'=>Ext w2 w') Pd O<|Qm 0 O O d<|PH 1 O (QL O) d<|PH 2 O (PU z3K O) d<|qL 3 O (λ_ h=>Pl U66 O O (h.OZ z) O) d<|qL 4 O (λ_ h=>PO (news:=[I (s:Int),I (n:Int)]) VU O Rw O (Pm.cells (n:=2) (h.OZ H) O) O) d<|TV [5]<|Tl 5 O ziZ O (z7G B s n o J j N) ?_
 rintro _ W⟨rfl,C,E⟩
 refine⟨trivial,?_⟩
 have G:=(l.ext d).exM C E
 refine P7 6 O (S6 O) trivial<|qE<|P3 func73 O ?_
 exact⟨_,O,O,P',txt',G,F.Qq (by rw[QE j,f.L]),Q,f⟩
end
def Sp (Q:RE)(txt:Int->P8)(K:Nat)(X:Nat->Prop)(w:World):Prop:=∃P,UR w P/\WM P txt K/\Q.Same P/\∀b,P.fp b->¬X b
section
variable {Q Q' P P':RE}{Y:Nat->Prop}{K':Nat}
theorem Sp.step (h:Sp Q txt K X w)(n:Kp S' w w')(l:∀b,S' b->X b)(m:∀b,Y b->X b\/w.heap.size<=b):Sp Q txt K Y w':=by
 obtain⟨P,g,j,o,f⟩:=h
 refine⟨P,g.kp n λb d e=>f b d (l b e),j,o,λb d e=>?_⟩
 rcases m b e with e| e
 ·exact f b d e
 ·have:=g.lt d;omega
theorem Sp.ext (h:Sp Q txt K X w)(f:Ext w w')(d:∀b,Y b->X b\/w.heap.size<=b):Sp Q txt K Y w':=h.step (S':=λ_=>False) f (λ_ e=>e.elim) d
def Sp.ext' (h:Sp Q txt K X w)(d:Ext w w'):Sp Q txt K X w':=h.ext d λ_ e=> .inl e
def Sp.own (h:Sp Q txt K X w)(f:Kp S' w w')(d:∀b,S' b->X b):Sp Q txt K X w':=h.step f d λ_ e=> .inl e
theorem Sp.of (f:∀b,P.fp b->¬X b)(j:∀b,X b->b<w.heap.size)(d:UP w P w' P')(g:WM P' txt' K')(n:Q'.Same P'):Sp Q' txt' K' X w'/\Kp (λb=>¬X b) w w':=
 ⟨⟨P',d.m,g,n,λb l e=>by
  rcases d.fp b l with h| h
  ·exact f b h e
  ·have:=j b e;omega⟩,d.k.Pk f⟩
def WM.more (h:WM P txt K)(q:K<=K'):WM P txt K':=by
 obtain⟨d,a2,e,f,g,j,l,m,n,b1,b2,b3,o,b5,b6,b7⟩:=h
 exact⟨d,a2,e,f,g,j,l,m,n,b1,b2,b3,o,ω,ω,b7⟩
theorem Sp.more (h:Sp Q txt K X w)(e:K<=K'):Sp Q txt K' X w:=by
 obtain⟨P,g,d,j,f⟩:=h
 exact⟨P,g,d.more e,j,f⟩
theorem Sp.less (h:Sp Q txt K X w)(f:∀b,Y b->X b):Sp Q txt K Y w:=by
 obtain⟨P,l,d,m,j⟩:=h
 exact⟨P,l,d,m,λb g e=>j b g (f b e)⟩
theorem Sp.size (h:Sp Q txt K X w):PN prog 65 [ptr Q.s 0] w λv w'=>v=I 512/\w'=w:=by
 obtain⟨P,e,d,f,-⟩:=h
 rw[<-f.s]
 exact z1T e d.N
theorem Sp.dev (h:Sp Q txt K X w):PN prog 137 [ptr Q.s 0] w λv w'=>v=ptr Q.d 0/\w'=w:=by
 obtain⟨P,f,g,e,-⟩:=h
 rw[<-e.s,<-e.d]
 exact zaP f
theorem Sp.blocks (h:Sp Q txt K X w):PN prog 138 [ptr Q.d 0] w λv w'=>v=I (Q.L.length:Int)/\w'=w:=by
 obtain⟨P,j,g,f,-⟩:=h
 have e:=X8 j.dev
 rw[g.B] at e
 rw[<-f.d,<-f.L]
 exact e
theorem Sp.map (h:Sp Q txt K X w):PN prog 24 [ptr Q.s 0] w λv w'=>v=ptr Q.m 0/\w'=w:=by
 obtain⟨P,e,f,d,-⟩:=h
 rw[<-d.s,<-d.m]
 exact zb8 e
theorem Sp.room (h:Sp Q txt K X w)(e:Pre Q.L a)(d:a<Q.L.length):PN prog 25 [ptr Q.m 0] w λv w'=>v=I ((Q.L.length-a:Nat):Int)/\Ext w w':=by
 obtain⟨P,g,j,f,-⟩:=h
 rw[<-f.m]
 rw[<-f.L] at e d⊢
 exact z7L g.ext e d
theorem Sp.z1w (h:Sp Q txt K X w){x:Int}(d:0<=x)(e:x<(Q.L.length:Int)):(txt x).length=512:=by
 obtain⟨P,j,f,g,-⟩:=h
 exact f.len x d (by rw[g.L];exact e)
theorem Sp.n (h:Sp Q txt K X w):Q.L.length<=4096:=by
 obtain⟨P,d,f,e,-⟩:=h
 rw[<-e.L]
 exact d.ext.n
theorem Sp.read (h:Sp Q txt K X w)(m:∀b,X b->b<w.heap.size)(l:K<1000000000000){no:Int}(f:0<=no)(g:no<(Q.L.length:Int)):PN prog 83 [ptr Q.s 0,I no] w λv w'=>v= .tuple #[S (txt no),I 0]/\Sp Q txt K X w'/\Kp (λb=>¬X b) w w':=by
 obtain⟨P,o,j,d,n⟩:=h
 rw[<-d.s]
 refine(z7p o j l f (by rw[d.L];exact g)).mono λv w' ⟨r,P',q,e,u⟩=>⟨r,Sp.of n m q e (d.trans u)⟩
theorem Sp.write (h:Sp Q txt K X w)(m:∀b,X b->b<w.heap.size)(l:K<1000000000000){no:Int}(f:0<=no)(g:no<(Q.L.length:Int))(t:P8)(ht:t.length=512):PN prog 100 [ptr Q.s 0,I no,S t] w λv w'=>v=I 0/\Sp Q (ZY txt no (some t)) (K+1) X w'/\Kp (λb=>¬X b) w w':=by
 obtain⟨P,o,j,d,n⟩:=h
 rw[<-d.s]
 refine(zai o j l f (by rw[d.L];exact g) t ht).mono λv w' ⟨r,P',q,e,u⟩=>⟨r,Sp.of n m q e (d.trans u)⟩
def RE.Qq (Q:RE)(L:List Bool):RE:={Q with L:=L}
theorem RE.Same.Qq (h:Q.Same P)(L:List Bool):(Q.Qq L).Same {P with L:=L}:=⟨h.s,h.d,h.m,h.gi,h.c,h.pm,h.p,h.fr,rfl⟩
theorem Sp.take (h:Sp Q txt K X w)(l:∀b,X b->b<w.heap.size){n:Nat}(f:Pre Q.L a)(g:1<=n)(e:a+n<=Q.L.length):PN prog 66 [ptr Q.s 0,I (n:Int)] w λv w'=>v= .tuple #[.agg #[I (a:Int),I (n:Int)],I 0]/\Sp (Q.Qq (Qr Q.L a n true)) txt K X w'/\Kp (λb=>¬X b) w w':=by
 obtain⟨P,o,j,d,m⟩:=h
 rw[<-d.s]
 rw[<-d.L] at f e
 refine(z78 o f g e).mono λv w' ⟨r,q⟩=>⟨r,?_⟩
 rw[<-d.L]
 exact Sp.of m l q (j.Qq (by rw[QE e])) (d.Qq _)
theorem Sp.zls (h:Sp Q txt K X w)(r:∀b,X b->b<w.heap.size){n:Nat}(j:1<=n)(l:2<=s)(f:s+n<=Q.L.length)(e:∀i,s<=i->i<s+n->Q.L[i]? =some true):PN prog 73 [ptr Q.s 0,.agg #[I (s:Int),I (n:Int)]] w λv w'=>v=I 0/\∃txt',Sp (Q.Qq (Qr Q.L s n false)) txt' K X w'/\(∀x:Int,x<(s:Int)\/(s:Int)+(n:Int)<=x->txt' x=txt x)/\Kp (λb=>¬X b) w w':=by
 obtain⟨P,y,q,d,u⟩:=h
 rw[<-d.s]
 rw[<-d.L] at f e
 refine(z7c y q j l f e).mono λv w' ⟨B,P',txt',z,g,C,D⟩=>⟨B,txt',?_⟩
 obtain⟨m,o⟩:=Sp.of u r z g ((d.trans D).Qq _)
 rw[<-d.L]
 exact⟨m,C,o⟩
end
open Go.Proofs Go.Shelf
def z5Z:Go.Shelf.Ren:=⟨fun|105=>76|212=>110|99=>111|165=>112|166=>84|170=>113|169=>85|263=>148|264=>149|206=>150|240=>122|241=>151|276=>159|277=>182|n=>n,fun|9=>9|3=>3|4=>4|20=>20|0=>0|46=>172|109=>205|5=>5|72=>175|76=>179|51=>42|146=>252|53=>39|148=>254|70=>173|37=>113|75=>178|127=>222|164=>265|80=>181|n=>n,fun|n=>n⟩
def zh7:Go.Proofs.Lays.n105 prog z5Z:={
 mixed:=Pd
 f99:=func111.trans (congrArg some Pd)
 f105:=func76.trans (congrArg some Pd)
 f165:=func112.trans (congrArg some Pd)
 f166:=func84.trans (congrArg some Pd)
 f169:=func85.trans (congrArg some Pd)
 f170:=func113.trans (congrArg some Pd)
 f206:=func150.trans (congrArg some Pd)
 f212:=func110.trans (congrArg some Pd)
 f240:=func122.trans (congrArg some Pd)
 f241:=func151.trans (congrArg some Pd)
 f263:=func148.trans (congrArg some Pd)
 f264:=func149.trans (congrArg some Pd)
 f276:=func159.trans (congrArg some Pd)
 f277:=func182.trans (congrArg some Pd)
 t0:=underlying0
 a0:=isAgg0
 z0:=sizeOf0
 v0:=zeroValue0
 t3:=underlying3
 a3:=isAgg3
 z3:=sizeOf3
 v3:=zeroValue3
 t4:=underlying4
 a4:=isAgg4
 z4:=sizeOf4
 v4:=zeroValue4
 t5:=underlying5
 a5:=isAgg5
 z5:=sizeOf5
 v5:=zeroValue5
 t9:=underlying9
 a9:=isAgg9
 z9:=sizeOf9
 v9:=zeroValue9
 t20:=underlying20
 a20:=isAgg20
 z20:=sizeOf20
 v20:=zeroValue20
 t37:=underlying113
 a37:=isAgg113
 z37:=sizeOf113
 v37:=zeroValue113
 t46:=underlying172
 a46:=isAgg172
 z46:=sizeOf172
 v46:=zeroValue172
 t51:=underlying42
 a51:=isAgg42
 z51:=sizeOf42
 v51:=zeroValue42
 t53:=underlying39
 a53:=isAgg39
 z53:=sizeOf39
 v53:=zeroValue39
 t70:=underlying173
 a70:=isAgg173
 z70:=sizeOf173
 v70:=zeroValue173
 t72:=underlying175
 a72:=isAgg175
 z72:=sizeOf175
 v72:=zeroValue175
 t75:=underlying178
 a75:=isAgg178
 z75:=sizeOf178
 v75:=zeroValue178
 t76:=underlying179
 a76:=isAgg179
 z76:=sizeOf179
 v76:=zeroValue179
 t109:=underlying205
 a109:=isAgg205
 z109:=sizeOf205
 v109:=zeroValue205
 t127:=underlying222
 a127:=isAgg222
 z127:=sizeOf222
 v127:=zeroValue222
 t146:=underlying252
 a146:=isAgg252
 z146:=sizeOf252
 v146:=zeroValue252
 t148:=underlying254
 a148:=isAgg254
 z148:=sizeOf254
 v148:=zeroValue254
 t164:=underlying265
 a164:=isAgg265
 z164:=sizeOf265
 v164:=zeroValue265}
/-! ### A builder of strings -/
theorem zgE:Builder.Extra prog z5Z where
 sizeBuilder:=Pd
 liesBuilder:=Pd
 t5:=Pd
 a5:=λ_=>Pd
 z5:=λ_=>Pd
 v5:=λw=>TI.zero (w:=w) YS
 infoByte:=Pd
 cellsByte:=Pd
 sizeByte:=Pd
 neB5:=ψ
section
end
theorem z9e (l:P8):∀n,Lib.repeatL l n=(List.replicate n l).flatten
 |0=>rfl
 |n+1=>by rw[Lib.repeatL,z9e l n];rfl
def z00 (l:P8)(n:Nat)(e:l.length<=100)(f:n<=1000000)(w:World):PN prog 76 [S l,I (n:Int)] w λv w'=>v=S (List.replicate n l).flatten/\Ext w w':=by
 have h:n*l.length<=1000000*100:=y1B f e
 have:=Any.strings_Repeat zh7 zgE ⟨l.toArray⟩ n w ω (by rw[To,y0J];omega)
 refine y1C this λ_ _ ⟨d,g⟩=>⟨_,d,?_,Ext.zd2 g⟩
 show Value.string ⟨(Lib.repeatL l n).toArray⟩=_
 rw[z9e]
def VV (w n:Nat):P8:=(List.range w).map λk=>UInt8.ofNat (n / 2^(8*(w-1-k)))
theorem QA (w n:Nat):(VV w n).length=w:=by simp[VV]
theorem zbJ (w n:Nat):VV (w+1) n=UInt8.ofNat (n / 2^(8*w))::VV w n:=by
 unfold VV
 rw[List.range_succ_eq_map,y0n,y1q]
 congr 1
 refine y0O λk d=>?_
 show UInt8.ofNat (n / 2^(8*(w+1-1-(k+1))))=_
 rw[show w+1-1-(k+1)=w-1-k by omega]
theorem ZT:∀(w n:Nat),PA (VV w n)=PF (8*w) n
 |0,n=>rfl
 | w + 1, n => by
   rw[zbJ,Ue,ZT w n,show 8*(w+1)=8+8*w by omega,So]
   congr 1
   refine Xg ?_;have:(UInt8.ofNat (n / 2^(8*w))).toNat=n / 2^(8*w)%256:=ξ
   rw[this];omega
def z3M {w n:Nat}(h:n<2^(8*w)):PZ (PA (VV w n))=n:=by
 rw[ZT,Qx,y0g h]
theorem zeJ (s:P8):VV s.length (PZ (PA s))=s:=by
 have j:PA (VV s.length (PZ (PA s)))=PA s:=by
  rw[ZT];have:=z1K (PA s);rw[bitsT_length] at this;exact this
 have inj:∀a b:P8,a.length=b.length->PA a=PA b->a=b:=λa=>by
  induction a with
  | nil => intro b e _; cases b with
    |nil=>rfl
    |cons=>cases e
  | cons c a l =>
    intro b e f
    cases b with
    |nil=>cases e
    | cons d b =>
      rw[Ue,Ue] at f;obtain⟨g,h⟩:=List.append_inj f (by rw[bitsN_length,bitsN_length]);rw[l b (by simpa using e) h]
      congr 1
      have:=congrArg PZ g;rw[Qx,Qx] at this;have m:=c.toNat_lt;have o:=d.toNat_lt;exact UInt8.toNat_inj.1 ω
 exact inj _ _ (QA _ _) j
def Laid (txt:Int->P8)(a:Nat)(T:P8):Prop:=∀k,512*k<T.length->(txt ((a+k:Nat):Int)).take (T.length-512*k)=(T.drop (512*k)).take 512
section
variable {n:Nat}{T:P8}
def Laid.piece (h:Laid txt a T){off n:Nat}(g:off+n<=T.length)(j:n<=512-off%512):((txt ((a+off / 512:Nat):Int)).drop (off%512)).take n=(T.drop off).take n:=by
 by_cases f:n=0
 ·subst f;simp
 have d:=h (off / 512) ω
 have e:=congrArg (λl=>(l.drop (off%512)).take n) d
 try dsimp only at e
 rw[y1y,y1E,y0B ω,y1y,y1E,y0E,y0B ω,show 512*(off / 512)+off%512=off by omega] at e
 exact e
def Laid.Uw (h:Laid txt a T)(e:∀k,512*k<T.length->txt' ((a+k:Nat):Int)=txt ((a+k:Nat):Int)):Laid txt' a T:=λk d=>by rw[e k d];exact h k d
def Laid.of (h:∀k,512*k<T.length->(txt ((a+k:Nat):Int)).length=512/\∃r,txt ((a+k:Nat):Int)=(T.drop (512*k)).take 512++r):Laid txt a T:=λk f=>by
 obtain⟨g,r,e⟩:=h k f
 have d:((T.drop (512*k)).take 512).length=min 512 (T.length-512*k):=ξ
 rw[e,Pe,d] at g
 rw[e]
 by_cases j:T.length-512*k<=512
 ·exact y1f (by rw[d];omega)
 ·have:r=[]:=y0t ω;rw[this,y0o,y0N (by rw[d];omega)]
end
def VcT (txt:Int->P8)(st width each:Nat)(xs:List Nat):Prop:=∀i x,xs[i]? =some x->((txt ((st+i / each:Nat):Int)).drop (i%each*width)).take width=VV width x/\x<2^(8*width)
theorem z2K (a b c:P8){k n:Nat}(d:k+n<=a.length):((a++b++c).drop k).take n=(a.drop k).take n:=by
 rw[y05,y1j ω,y1r (by rw[y07];omega)]
section
def VcT.Uw (h:VcT txt st width each xs)(e:∀i,i<xs.length->txt' ((st+i / each:Nat):Int)=txt ((st+i / each:Nat):Int)):VcT txt' st width each xs:=λi x d=>by
 have hi:i<xs.length:=by
  rcases y0a i xs.length with h| h
  ·exact h
  ·rw[y0e h] at d;cases d
 rw[e i hi]
 exact h i x d
theorem VcT.set (h:VcT txt st width each xs)(z:1<=each){x:Nat}(r:x<2^(8*width))(hi:i<xs.length)(ht:txt ((st+i / each:Nat):Int)=t)(B:i%each*width+width<=t.length):VcT (ZY txt ((st+i / each:Nat):Int) (some (t.take (i%each*width)++VV width x++t.drop (i%each*width+width)))) st width each (xs.set i x):=λj y d=>by
 by_cases g:j / each=i / each
 ·rw[g,Su];show((t.take (i%each*width)++VV width x++t.drop (i%each*width+width)).drop (j%each*width)).take width=_/\_;have l:(t.take (i%each*width)).length=i%each*width:=by rw[y0d];omega
  by_cases f:j=i
  ·subst f;rw[y0Q hi] at d;cases d;refine⟨?_,r⟩;rw[y05,y19 l,y1f (QA _ _)]
  ·rw[y0A (λe=>f e.symm)] at d;obtain⟨n,q⟩:=h j y d;refine⟨?_,q⟩;rw[g,ht] at n;rw[<-n];have D:=y2n i each;have u:=y2n j each;rw[g] at u;have o:j%each≠i%each:=λe=>f ω;rcases Nat.lt_or_gt_of_ne o with C|v
   ·have m:(j%each+1)*width<=i%each*width:=y1n _ ω;rw[y0G,y1h] at m;rw[z2K _ _ _ ω,y1y,y1E,y0B ω]
   ·have m:(i%each+1)*width<=j%each*width:=y1n _ ω;rw[y0G,y1h] at m;rw[List.drop_append,y37 (by rw[Pe,l,QA];omega),y18,Pe,l,QA,y0E,show i%each*width+width+(j%each*width-(i%each*width+width))=j%each*width by omega]
 ·have f:j≠i:=λe=>g (by rw[e]);rw[y0A (λe=>f e.symm)] at d;rw[S1 _ _ ω];exact h j y d
def z2c {l z:P8}{w:Nat}(d:l.length=w):∀(e k:Nat),k<e->(((List.replicate e l).flatten++z).drop (k*w)).take w=l
 |0,k,h=>ω
 | e + 1, 0, h => by
   rw[y20,y13,y12,y35,y05]
   exact y1f d
 | e + 1, k + 1, h => by
   rw[y12,y35,y05,List.drop_append,y37 (by rw[d,y0G];omega),y18,d,y0G,y1h,y1g];exact z2c d e k ω
theorem VcT.fill {n x:Nat}(g:x<2^(8*width))(f:1<=each)(h:∀i,i<n->∃z,txt ((st+i / each:Nat):Int)=(List.replicate each (VV width x)).flatten++z):VcT txt st width each (List.replicate n x):=λi y d=>by
 rw[y0T] at d
 split at d
 ·rename_i hi
  cases d;obtain⟨z,e⟩:=h i hi;rw[e];exact⟨z2c (QA _ _) each _ (y15 _ f),g⟩
 ·cases d
end
def z1q (n wd k:Nat):List Value:=(List.range wd).map λi=>if i<k then TX (UInt8.ofNat (n / 2^(8*(wd-1-i)))) else .int .u8 0
@[simp] theorem beTo_length (n wd k:Nat):(z1q n wd k).length=wd:=by simp[z1q]
theorem z39 (n wd:Nat):z1q n wd 0=List.replicate wd (.int .u8 0):=by
 apply y1D<;>simp[z1q]
theorem z5F (n wd:Nat):z1q n wd wd=(VV wd n).map TX:=by
 simp only[z1q,VV,y1q]
 apply y0O
 intro i hi
 rw[if_pos (by simpa using hi)];rfl
theorem z4T (n wd k:Nat)(h:k<wd):(z1q n wd k).set (0+k*1) (.int .u8 ((n / 2^(8*(wd-1-k))%256:Nat):Int))=z1q n wd (k+1):=by
 apply y1D
 ·simp
 ·intro j g e;have l:j<wd:=by simpa using e
  simp only[z1q,List.getElem_set,List.getElem_map,List.getElem_range];by_cases f:j=k
  ·subst f;simp[TX]
  ·rw[if_neg ω];by_cases d:j<k
   ·rw[if_pos d,if_pos ω]
   ·rw[if_neg d,if_neg ω]
theorem z0C (n wd:Nat)(w:World)(B:n<18446744073709551616)(C:wd<=8):PN prog 104 [Pt n,I (wd:Int)] w λv w'=>v=S (VV wd n)/\Ext w w':=by
 have y:maxLen=9223372036854775807:=rfl
 refine py (e:=[(0,_),(1,_)]) func104 O ntmps104 O O<|qN O<|Rq O<|Pb O O (pmk (c:=wd) (n:=wd) QX YS O O O ω ω ω) ?_
 rintro _ w1⟨b1,rfl,⟨r,o,g⟩,-⟩
 refine Pq O<|Qi O<|RQ QX O<|Ph O<|P4<|P6 ?_
 rw[<-z39 n wd] at g
 refine RX (α:=Nat) (0) (λk=>[(0,Pt n),(1,I (wd:Int)),(5,.slice (some ⟨b1,0,none⟩) wd wd),(10,I (wd:Int)),(11,I (k:Int))]) (λk w'=>k<=wd/\Pm w' b1 (z1q n wd k) 5/\Ext w w') (λk=>wd-k) ?hI ?hround
 case hI=>exact⟨ω,g,o⟩
 case hround=>
  rintro k w2⟨z,d,f⟩ u
  try dsimp only
  refine qN O<|QY O<|P4<|OY<|Pn O (λm=>?_)<|λm=>?_
  ·have j:k<wd:=ω
   refine P5 (R0 (PL O (Pq O (Pc O (PB O (PB O (RR O (Ph O (RR O (qV (Y8 O O ω) ?_))))))))));rw[show(8:Int)*(((wd:Int)-1)-(k:Int))=((8*(wd-1-k):Nat):Int) from by omega];refine qV (Vk (8*(wd-1-k)) (2^(8*(wd-1-k))) O O (by simp only[IntKind.bits];omega) O) ?_;refine qV (zeB O RW U5) (qV (Qc QX YS O O ω) (Po O (QZ YS O O O d (by simp;omega)) ?_));rintro x⟨h,q⟩;rw[z4T n wd k j] at h;refine P4<|An<|Pc O<|Qj O<|Ph O<|P4 ?_;exact(u (k+1) x ⟨ω,h,f.It q (λi hi=>by rw[hi,r];exact y02 _)⟩ ω).qb
  ·have:k=wd:=ω
   subst this;rw[z5F] at d;refine Pf O (PL O (qV (zb5 (l:=VV k n) QX U5 U9 O d (by rw[y13];exact y0N (by rw[y0k,QA];omega)) (by simp[VV])) ?_));refine Pq O<|P3 func104 O ?_;exact⟨_,O,O,f⟩
theorem z3e (s:P8)(B:s.length<=8)(w:World):PN prog 105 [S s] w λv w'=>v=Pt (PZ (PA s))/\Ext w w':=by
 refine py (e:=[(0,_)]) func105 O ntmps105 O O<|Re O<|Qi O<|Pb O O (zcS U9 QX U5 O) ?_
 rintro _ w1⟨b7,c7,rest,rfl,⟨C,h,j⟩,y⟩
 refine RQ QX O<|Ph O<|P4<|P6<|RX (α:=Nat) (0) (λi=>[(2,Pt (PZ (PA (s.take i)))),(6,.slice (some ⟨b7,0,none⟩) s.length c7),(7,I (s.length:Int)),(8,I (i:Int))]) (λi w'=>w'=w1/\i<=s.length) (λi=>s.length-i) ?hI ?hround
 case hI=>exact⟨O,y00 _⟩
 case hround=>
  rintro i w2⟨rfl,hi⟩ u
  try dsimp only
  refine qN O<|QY O<|P4<|OY<|Pn O (λo=>?_)<|λo=>?_
  ·obtain⟨c,d⟩:∃c,s[i]? =some c:=⟨_,y03 ω⟩;have n:=c.toNat_lt;have f:=z2d d
   have g:PZ (PA (s.take i))<72057594037927936:=by
    have r:=RD (PA (s.take i));rw[bitsT_length,y0d] at r;have z:2^(8*min i s.length)<=2^56:=y0r ψ ω;omega
   have l:w2.cell? ⟨b7,0+i*1,none⟩=some (TX c):=by
    rw[j.cell,y09,y0c,y0C (by rw[y0k];omega),y0i,d];rfl
   refine P5<|R0<|qN O<|qV (Qc QX YS O O ω)<|qV (PG U5 O O l) ?_
   generalize PZ (PA (s.take i))=q at f g
   refine Pq O<|Ra O<|qV (RN 8 256 O O ψ O)<|Ph O<|qV (zcz O U5 RW ψ)<|qV (z2q O O ω ω) ?_
   have x:(q*256%18446744073709551616 |||c.toNat)=PZ (PA (s.take (i+1))):=by
    rw[f,y0g ω,y0J q];exact(y21 (i:=8) n q).symm
   rw[x];refine Pq O<|An<|Pc O<|Qj O<|Ph O<|P4 ?_;exact(u (i+1) _ ⟨O,ω⟩ ω).qb
  ·have m:i=s.length:=ω
   subst m;rw[y0F];refine Pf O<|PL O<|Pq O<|P3 func105 O ?_;exact⟨_,O,O,h⟩
def vcC (n width each st len s:Nat)(cl:Bool):List Value:=[I (n:Int),I (width:Int),I (each:Int),I (st:Int),I (len:Int),ptr s 0,.bool cl]
def Xl (n each:Nat):Nat:=max 1 ((n+each-1) / each)
structure Wh (Q:RE)(txt:Int->P8)(vb width st:Nat)(xs:List Nat)(w:World):Prop where
 OZ:Pm w vb (vcC xs.length width (512 / width) st (Xl xs.length (512 / width)) Q.s false) 164
 wd:width=1\/width=2\/width=4\/width=8
 t:VcT txt st width (512 / width) xs
 n:xs.length<=4194304
 fit:st+Xl xs.length (512 / width)<=Q.L.length
def z4f {n:Nat}(f:1<=each)(hi:i<n):i / each<Xl n each:=by
 unfold Xl
 have d:i / each<=(n-1) / each:=y1M ω
 have e:(n+each-1) / each=(n-1) / each+1:=by
  rw[show n+each-1=(n-1)+each by omega,Nat.add_div_right _ ω]
 omega
section
variable {Q Q':RE}{vb:Nat}{ys:List Nat}
theorem Wh.e (h:Wh Q txt vb width st xs w):64<=512 / width/\512 / width<=512/\512 / width*width=512/\1<=width/\width<=8:=by
 rcases h.wd with e|e|e|e<;>subst e<;>decide
theorem Wh.kp (h:Wh Q txt vb width st xs w)(d:Kp S' w w')(e:¬S' vb):Wh Q txt vb width st xs w':=⟨d.OZ h.OZ e,h.wd,h.t,h.n,h.fit⟩
theorem Wh.ext (h:Wh Q txt vb width st xs w)(d:Ext w w'):Wh Q txt vb width st xs w':=h.kp (S':=λ_=>False) d id
theorem Wh.Uw (h:Wh Q txt vb width st xs w)(e:∀y:Int,(st:Int)<=y->y<(st:Int)+(Xl xs.length (512 / width):Int)->txt' y=txt y):Wh Q txt' vb width st xs w:=
 ⟨h.OZ,h.wd,h.t.Uw λi hi=>by
  have:=z4f (each:=512 / width) (by have:=h.e;omega) hi
  generalize i / (512 / width)=q at this⊢
  exact e _ ω ω,h.n,h.fit⟩
theorem Wh.q (h:Wh Q txt vb width st xs w)(e:Q'.s=Q.s)(d:Q'.L.length=Q.L.length):Wh Q' txt vb width st xs w:=⟨by rw[e];exact h.OZ,h.wd,h.t,h.n,by rw[d];exact h.fit⟩
def Wh.lt (h:Wh Q txt vb width st xs w):vb<w.heap.size:=h.OZ.lt
theorem Wh.at_ (h:Wh Q txt vb width st xs w)(hi:i<xs.length):st+i / (512 / width)<Q.L.length/\i%(512 / width)*width+width<=512/\i / (512 / width)<Xl xs.length (512 / width):=by
 obtain⟨g,j,l,m,n⟩:=h.e
 have d:=z4f (each:=512 / width) ω hi
 have o:=h.fit
 have f:(i%(512 / width)+1)*width<=512 / width*width:=y1n _ (y15 _ ω)
 rw[y0G,y1h] at f
 refine⟨ω,ω,d⟩
theorem Wh.cells (h:Wh Q txt vb width st xs w):Pm w vb [I (xs.length:Int),I (width:Int),I ((512 / width:Nat):Int),I (st:Int),I (Xl xs.length (512 / width):Int),ptr Q.s 0,.bool false] 164:=h.OZ
def VcW (Q:RE)(txt:Int->P8)(K:Nat)(X:Nat->Prop)(vb width st:Nat)(ys:List Nat)(w w':World):Prop:=
 ∃txt',Sp Q txt' K X w'/\Wh Q txt' vb width st ys w'/\(∀y:Int,y<(st:Int)\/(st:Int)+(Xl ys.length (512 / width):Int)<=y->txt' y=txt y)/\Kp (λb=>¬X b) w w'
end
end Go.Proofs.YtbihggbffaigjaaGreatDoor
namespace Go.Proofs.YtbihggbffaigjaaGreatDoor.Sums
variable {A:Arc}{a b c i p s:Nat}{k:Int}
def bit (c:Nat):Nat:=if c%2=1 then(c / 2)^^^2197175160 else c / 2
def zfF (c:Nat):Nat:=bit (bit (bit (bit (bit (bit (bit (bit c)))))))
def byte (c:Nat)(b:UInt8):Nat:=zfF (c^^^b.toNat)
def raw (c:Nat)(l:List UInt8):Nat:=l.foldl byte c
def neg (c:Nat):Nat:=4294967295^^^c
def on (c:Nat)(l:List UInt8):Nat:=neg (raw (neg c) l)
def crc (l:List UInt8):Nat:=on 0 l
def num (l:List UInt8):Nat:=(l.getD 0 0).toNat*16777216+(l.getD 1 0).toNat*65536+(l.getD 2 0).toNat*256+(l.getD 3 0).toNat
def be4 (n:Nat):List UInt8:=[UInt8.ofNat (n / 16777216),UInt8.ofNat (n / 65536),UInt8.ofNat (n / 256),UInt8.ofNat n]
@[simp] theorem be4_length (n:Nat):(be4 n).length=4:=rfl
def head (k:UInt8)(p:List UInt8):List UInt8:=k::be4 p.length
def frame (k:UInt8)(p:List UInt8):List UInt8:=head k p++be4 (crc (head k p++p))++p
@[simp] theorem head_length (k:UInt8) (p:List UInt8):(head k p).length=5:=rfl
theorem zbq (c:Nat):(c / 2)^^^(2197175160&&&((4294967296-(c&&&1))%4294967296))=bit c:=by
 have e:c&&&1=c%2:=y0X c 1
 rw[e]
 unfold bit
 by_cases h:c%2=1
 ·rw[if_pos h,h]
  congr 1
 ·have d:c%2=0:=ω
  rw[if_neg h,d];simp
def Z7 (d:a<4294967296)(e:b<4294967296):a^^^b<4294967296:=y28 (n:=32) d e
def Wy (h:c<4294967296):bit c<4294967296:=by
 unfold bit
 split
 ·exact Z7 ω ω
 ·omega
def zcc (h:c<4294967296):zfF c<4294967296:=Wy (Wy (Wy (Wy (Wy (Wy (Wy (Wy h)))))))
def z8g (h:c<4294967296)(b:UInt8):byte c b<4294967296:=zcc (Z7 h (by have:=b.toNat_lt;omega))
def zcl:∀(l:List UInt8) {c:Nat},c<4294967296->raw c l<4294967296
 |[],_,h=>h
 |b::l,_,h=>zcl l (z8g h b)
def z6J (h:c<4294967296):neg c<4294967296:=Z7 ω h
def zf1 (l:List UInt8)(h:c<4294967296):on c l<4294967296:=z6J (zcl l (z6J h))
def zgn (l:List UInt8):crc l<4294967296:=zf1 l ω
theorem z6q (c:Nat)(a b:List UInt8):raw c (a++b)=raw (raw c a) b:=y1P ..
/-! ### The step is linear -/
/-! ### Linear maps, by their table -/
def iter (L:Nat->Nat):Nat->Nat->Nat
 |0,x=>x
 |n+1,x=>iter L n (L x)
/-! ### Frames -/
@[simp] theorem frame_length (k:UInt8) (p:List UInt8):(frame k p).length=9+p.length:=by simp[frame];omega
/-! ### A byte that is turned is told -/
theorem getD_take (s:List UInt8)(n i:Nat)(h:i<n):(s.take n).getD i 0=s.getD i 0:=by simp[List.getD,h]
theorem QU (s:List UInt8)(n i:Nat)(x:UInt8)(h:i≠n):(s.set n x).getD i 0=s.getD i 0:=by
 simp only[List.getD,List.getElem?_set]
 rw[if_neg (λe=>h e.symm)]
def zbH (s:List UInt8)(i:Nat)(d:UInt8):List UInt8:=s.set i (s.getD i 0^^^d)
@[simp] theorem turned_length (s:List UInt8) (i:Nat) (d:UInt8):(zbH s i d).length=s.length:=by simp[zbH]
end Go.Proofs.YtbihggbffaigjaaGreatDoor.Sums
namespace Go.Proofs.YtbihggbffaigjaaGreatDoor
open Go Go.RowKit Go.Proofs.Tryz
set_option linter.unusedVariables false
variable {A:Arc}{K a at' b c i p s st sum wb:Nat}{S' X:Nat->Prop}{T k:Int}{V:Nat->Value×Value}{t:P8}{txt:Int->P8}{w w' w2:World}
abbrev U (n:Nat):Value:= .int .u32 (n:Int)
theorem zcn (c:Nat)(b:UInt8)(p:Nat)(T:TypeId)(w:World)(hB:Pm w p [U c] T)(r:c<4294967296):
  PN prog 140 [TX b,ptr p 0] w λv w'=>v= .tuple #[]/\Pm w' p [U (Sums.byte c b)] T/\Kp (λk=>k=p) w w':=by
 have E:=b.toNat_lt
 have z:=Sums.Z7 r (show b.toNat<4294967296 by omega)
 refine py (e:=[(0,_),(1,_)]) func140 O ntmps140 O O<|qN O<|qV (Pl R9 O O hB O)<|Ph O<|qV (zcz O U5 R9 ψ)<|qV (zeS O O ω ω)<|Po O (QZ Py O O O hB ξ) ?_
 rintro w1⟨n,l⟩
 refine qM O<|Ph O<|P4<|P6<|RX (α:=Nat×Nat) (0,c^^^b.toNat) (λx=>[(0,TX b),(1,ptr p 0),(7,I (x.1:Int))]) (λx w'=>x.1<=8/\x.2<4294967296/\Sums.iter Sums.bit (8-x.1) x.2=Sums.byte c b/\Pm w' p [U x.2] T/\Kp (λk=>k=p) w w') (λx=>8-x.1) ?hI ?hround
 case hI=>exact⟨ω,z,O,n,l⟩
 case hround=>
  rintro⟨k,d⟩ w2 ⟨D,u,g,f,j⟩ B
  try dsimp only
  refine qN O<|QY O<|P4<|OY<|Pn O (λm=>?_)<|λm=>?_
  ·have G:d&&&1<4294967296:=y1X y24 ω;have H:(4294967296-(d&&&1))%4294967296<4294967296:=y15 _ ω;have F:2197175160&&&((4294967296-(d&&&1))%4294967296)<4294967296:=y1X y2Y ω;refine P5 (R0 (Pc O (qV (Pl R9 O O f O) (qV (Vk 1 2 O O ψ O) (qV (Pl R9 O O f O) (qV (zfH O O ω ω) (qV (zkh O ω) (qV (zfH O O ω ω) (qV (zeS O O ω ω) (Po O (QZ Py O O O f ξ) ?_))))))))));rintro C⟨h,o⟩;refine P4<|An<|Pc O<|Qj O<|Ph O<|P4 ?_;simp only[y2i] at h;rw[Sums.zbq] at h;refine(B (k+1,Sums.bit d) C ⟨by dsimp only at*;omega,Sums.Wy u,?_,h,j.trans o⟩ (by dsimp only at*;omega)).qb;have q:8-k=(8-(k+1))+1:=by dsimp only at*;omega
   dsimp only at g⊢;rw[q] at g;exact g
  ·refine Pf O<|Qu func140 O ?_;have y:k=8:=by dsimp only at*;omega
   subst y;refine⟨_,O,O,?_,j⟩;have:d=Sums.byte c b:=g;rw[<-this];exact f
def zgj {l:List UInt8}{rest:List Value}{k:Nat}(h:k<l.length):(l.map TX++rest)[0+k*1]? =some (TX (l.getD k 0)):=by
 rw[y09,y0c,y0C (by simpa using h)]
 simp[h,List.getD]
theorem z2z (c:Nat)(l:List UInt8)(k:Nat)(h:k<l.length):Sums.raw c (l.take (k+1))=Sums.byte (Sums.raw c (l.take k)) (l.getD k 0):=by
 rw[y3D h,Sums.z6q]
 simp[Sums.raw,List.getD,h]
theorem zc2 (c:Nat)(l:List UInt8)(w:World)(J:c<4294967296)(R:l.length<=9223372036854775807):
  PN prog 103 [U c,S l] w λv w'=>v=U (Sums.on c l)/\Ext w w':=by
 refine py (e:=[(0,_),(1,_)]) func103 O ntmps103 O O<|qN O<|Pb O O (RP O O) ?_
 rintro _ w1⟨b1,rfl,y,C,r⟩
 refine Ro O<|qV (Pl R9 O O r O)<|qV (zfq O ω)<|Po O (QZ Py O O O r ξ) ?_
 rintro w2⟨h,E⟩
 simp only[y2i] at h
 have D:Ext w w2:=C.It E (λi hi=>by rw[hi,y];exact y02 _)
 refine qM O<|qV (ymf (first:=[]) (caps:=[.tmp 2]) O O)<|Pq O<|Qi O<|Pb O O (zcS U9 QX U5 O) ?_
 rintro _ Y⟨b3,cap,rest,rfl,⟨Q,q,F⟩,W⟩
 refine RQ QX O<|Ph O<|P4<|P6 ?_
 have G:b3≠b1:=by have:=h.lt;omega
 refine RX (α:=Nat×Nat) (0,Sums.neg c) (λx=>[(2,ptr b1 0),(5,.func (.func 140) #[] #[ptr b1 0]),(12,.slice (some ⟨b3,0,none⟩) l.length cap),(13,I (l.length:Int)),(14,I (x.1:Int))]) (λx w'=>x.1<=l.length/\x.2<4294967296/\x.2=Sums.raw (Sums.neg c) (l.take x.1)/\Pm w' b1 [U x.2] 42/\Pm w' b3 (l.map TX++rest) 5/\Ext w w') (λx=>l.length-x.1) ?hI ?hround
 case hI=>exact⟨ξ,Sums.z6J J,O,q.OZ h,F,D.trans q⟩
 case hround=>
  rintro⟨k,d⟩ N ⟨L,j,f,g,n,u⟩ M;dsimp only at L j f g
  try dsimp only
  refine qN O<|QY O<|P4<|OY<|Pn O (λB=>?_)<|λB=>?_
  ·have m:k<l.length:=ω
   refine P5 (R0 (qN O (qV (Qc QX YS O O ω) (qV (Pl U5 O O n (zgj m)) (Pq O (Pc O (PB O (Rj O O (SE zj2 O O) (zcn d (l.getD k 0) b1 _ N g j) ?_))))))));rintro _ P⟨rfl,z,o⟩;refine P4 (An (Pc O (Qj O (Ph O (P4 ((M (k+1,Sums.byte d (l.getD k 0)) P ⟨m,Sums.z8g j _,?_,z,o.OZ n G,u.It o (λi hi=>by rw[hi,y];exact y02 _)⟩ (by dsimp only;omega)).qb))))));rw[z2z _ _ _ m,<-f]
  ·refine Pf O (qN O (qV (Pl R9 O O g O) (qV (zfq O ω) (Pq O (P3 func103 O (⟨_,O,?_,u⟩))))));have H:k=l.length:=ω
   subst H;rw[y0F] at f;show U (Sums.neg d)=_;rw[f]
   rfl
def z8v (l:List UInt8)(w:World)(f:l.length<=9223372036854775807):
  PN prog 97 [S l] w λv w'=>v=U (Sums.crc l)/\Ext w w':=by
 refine py (e:=[(0,_)]) func97 O ntmps97 O O<|qN O<|Rq O<|Px zf9 O (zc2 0 l _ ω f) ?_
 rintro _ w1⟨rfl,d⟩
 refine Pq O<|P3 func97 O ?_
 exact⟨_,O,O,d⟩
theorem z1P (s:P8):Lib.strCells ⟨s.toArray⟩=s.map TX:=by simp[Lib.strCells,TX]
section
variable {P:Program}{e:Env}{d:Option Nat}{ty t tu tn el:TypeId}{pos:String}{aft:Array Edge}{g:Option (Nat×Bool)}{x y:Operand}{n k:Nat}{v:Value}{cs:List Value}{s:P8}{kn:IntKind}{za:Int}
theorem z4w (ht:P.underlying t=some (.slice el))(r:P.underlying tu=some .string)(R:TI P el (.int .u8 0) 1 1)(o:Sl w v el 1 n cs)(G:n+s.length<=140737488355328):
  ∃q w',(Builtin.append_ #[t,tu] ty #[v,S s]).run P w= .ok q w'/\Sl w' q el 1 (n+s.length) (cs++s.map TX)/\Kp (λk=>v.ownBlock=some k) w w'/\(∀g,q.ownBlock=some g->v.ownBlock=some g\/w.heap.size<=g):=by
 have b:maxLen=9223372036854775807:=rfl
 obtain⟨i,hi,D,u,E⟩:=R
 have f:=To s
 have C:=z1P s
 rcases id o.2 with⟨rfl,rfl⟩|⟨g,cap,F,rfl,Z,hg,c,p,M,Y⟩
 ·have U:cs=[]:=y0t (by simpa using o.1);subst U;obtain⟨q,w',l,h,hg,-⟩:=y3x (P:=P) w w.heap.size t tu ty el i ht r hi D u E (.slice none 0 0) 0 [] (y3l w w.heap.size el 1) ⟨s.toArray⟩ (by rw[f];omega) (by rw[f];exact G) (y02 _);rw[f,C] at h;refine⟨q,w',l,⟨h.1,?_⟩,Kp.Vj hg,λg hg=> .inr (y3t h g hg).1⟩;rcases h.2 with J|⟨g,z,B,W,a,m⟩
  ·exact .inl J
  ·exact .inr ⟨g,z,B,W,y00 _,m⟩
 ·by_cases H:n+s.length<=cap
  ·by_cases N:0<cap
   ·obtain⟨w',l,h,j⟩:=Lib.run_append_fits_string (P:=P) w 0 t tu ty el i ht r hi u (some ⟨g,0,none⟩) n cap cs o ⟨s.toArray⟩ N (by rw[f];exact H);rw[f,C] at h;rw[f] at l;exact⟨_,w',l,h,Kp.Vj j,λI j=> .inl (by simpa[Value.ownBlock] using j)⟩
   ·obtain⟨q,w',l,h,j,-⟩:=y3x (P:=P) w 0 t tu ty el i ht r hi D u E (.slice (some ⟨g,0,none⟩) n cap) n cs o ⟨s.toArray⟩ (by rw[f];omega) (by rw[f];exact G) (y00 _);have L:s=[]:=y0t ω;subst L;have m:=Lib.run_append_room_string (P:=P) w t tu ty el i ht r hi u g n cap F hg ⟨[].toArray⟩ (by rw[f];exact H) (by rw[f];simp only[y0c] at M;simp only[y1l];omega);rw[m] at l;cases l;rw[f,C] at h;exact⟨_,_,m,h,Kp.Vj j,λI j=> .inl (by simpa[Value.ownBlock] using j)⟩
  ·obtain⟨q,w',l,h,j,-⟩:=y3x (P:=P) w 0 t tu ty el i ht r hi D u E (.slice (some ⟨g,0,none⟩) n cap) n cs o ⟨s.toArray⟩ (by rw[f];omega) (by rw[f];exact G) (y00 _);have m:=Lib.run_append_grow_string (P:=P) w t tu ty el i (.int .u8 0) ht r hi D ⟨g,0,none⟩ n cap cs (by rw[u];exact o.1) (y2l o (g:=g) O) ⟨s.toArray⟩ (by rw[f];omega) (by rw[f];omega) (by rw[f];exact growslice_fits ω (by rw[E];omega));rw[m] at l;cases l;rw[f,C] at h;refine⟨_,_,m,by rw[<-f] at h⊢;exact h,Kp.Vj j,λI j=> .inr ?_⟩;simp[Value.ownBlock] at j;omega
def zjU (ht:P.underlying t=some (.slice el))(o:P.underlying tu=some .string)(m:TI P el (.int .u8 0) 1 1)(r:look e x=some v)(u:look e y=some (S s))(q:Sl w v el 1 n cs)(j:n+s.length<=140737488355328):
  Yp P e ⟨d,.call ⟨.builtin .append,#[x,y],#[t,tu]⟩,ty,pos,aft,g⟩ w λf w'=>Sl w' f el 1 (n+s.length) (cs++s.map TX)/\Kp (λk=>v.ownBlock=some k) w w'/\(∀g,f.ownBlock=some g->v.ownBlock=some g\/w.heap.size<=g):=by
 obtain⟨f,w',l,z⟩:=z4w (P:=P) (ty:=ty) ht o m q j
 refine⟨f,w',fun ρ h=>?_,z⟩
 simp[execOp,resolve,invoke,builtin,h _ _ r,h _ _ u,l]
def z6m (k:Nat):Builtin.zeroCells (Value.int .u8 0).cells k=(Lib.strCells ⟨(zeros k).toArray⟩).toArray:=by
 rw[z1P]
 apply Array.ext'
 rw[Yl (.int .u8 0) k O]
 simp[zeros,TX]
theorem zj3 [sS:TG za k](ht:P.underlying t=some (.slice el))(D:P.underlying tn=some (.int kn))(q:P.underlying tu=some .string)(H:TI P el (.int .u8 0) 1 1)(X:look e x=some v)(hy:look e y=some (I za))(E:Sl w v el 1 n cs)(T:n+k<=140737488355328):
  Yp P e ⟨d,.call ⟨.builtin .append,#[x,y],#[t,tn]⟩,ty,pos,aft,g⟩ w λl w'=>Sl w' l el 1 (n+k) (cs++(zeros k).map TX)/\Kp (λk=>v.ownBlock=some k) w w'/\(∀g,l.ownBlock=some g->v.ownBlock=some g\/w.heap.size<=g):=by
 obtain⟨rfl⟩:=sS
 have C:(zeros k).length=k:=by simp[zeros]
 obtain⟨l,w',f,o,u⟩:=z4w (P:=P) (ty:=ty) (s:=zeros k) ht q H E (by rw[C];exact T)
 rw[C] at o
 have V:(Builtin.append_ #[t,tn] ty #[v,I (k:Int)]).run P w= .ok l w':=by
  rw[<-f];obtain⟨i,hi,F,j,N⟩:=H;have J:IntKind.i64.wrap (k:Int)=k:=by rw[y3b];omega
  have S:¬((k:Int)<0):=ω
  have G:¬(281474976710656<(k:Int)*(i.bytes:Int)):=by rw[N];omega
  have z:=λw=>Lib.run_firstCells_string (P:=P) w i.size ⟨(zeros k).toArray⟩;have m:(ByteArray.mk (zeros k).toArray).size=k:=by rw[To,C]
  rw[m] at z
  obtain⟨a,c,Y⟩:∃a c,v= .slice a n c:=by
   rcases E.2 with⟨rfl,rfl⟩|⟨g,cap,r,rfl,_⟩
   ·exact⟨_,_,O⟩
   ·exact⟨_,_,O⟩
  subst Y;have Z:k=0->(Lib.strCells ⟨(zeros k).toArray⟩).toArray=#[]:=λe=>by subst e;rfl
  have b:c<=maxLen/\n<=c:=by
   rcases E.2 with⟨h,h'⟩|⟨g,cap,r,h,_,_,o,u,_⟩
   ·cases h;exact⟨by simp[maxLen],ω⟩
   ·cases h;exact⟨u,o⟩
  have A:n+k<=c\/¬(281474976710656<Builtin.nextslicecap (n+k) c*i.bytes):=by
   by_cases f:n+k<=c
   ·exact .inl f
   ·have:=growslice_fits (need:=n+k) (old:=c) (bytes:=i.bytes) ω (by rw[N];omega);exact .inr ω
  have U:¬(9223372036854775807<((n:Int)+(k:Int))):=ω
  by_cases B:k=0
  ·subst B;have K:=Z O;have im:n<=c:=b.2;have nx:IntKind.i64.wrap 0=0:=by rw[y3b];omega
   have M:=z w;rw[j,K] at M;simp[Builtin.append_,run_underlying ht,run_underlying D,run_underlying q,sizeOf,typeInfo,zeroValue,hi,F,j,asInt,asIntOf,nx,Builtin.lenOf,m,im,M]
  ·have p:=z6m k;have R:∀w,(Builtin.firstCells 1 k (.string ⟨(zeros k).toArray⟩)).run P w= .ok (Builtin.zeroCells (Value.int .u8 0).cells k) w:=λw=>by rw[p];have:=z w;rw[j] at this;exact this
   have eW:¬(k*i.size=0):=by rw[j];omega
   by_cases f:n+k<=c
   ·simp[Builtin.append_,run_underlying ht,run_underlying D,run_underlying q,sizeOf,typeInfo,zeroValue,hi,F,j,asInt,asIntOf,J,S,G,Builtin.lenOf,m,f,R,B]
   ·have W:=A.resolve_left f;simp[Builtin.append_,run_underlying ht,run_underlying D,run_underlying q,sizeOf,typeInfo,zeroValue,hi,F,j,asInt,asIntOf,J,S,G,Builtin.lenOf,m,f,R,B,U,W]
 refine⟨l,w',fun ρ L=>?_,o,u⟩
 simp[execOp,resolve,invoke,builtin,L _ _ X,L _ _ hy,V]
end
/-! ### Writers -/
def swC (s st len:Nat)(rest:Value)(at' n:Nat)(sum:Nat)(put:Value)(f:Bool):List Value:=[ptr s 0,I (st:Int),I (len:Int),rest,I (at':Int),I (n:Int),U sum,put,.bool f]
section
variable {Q:RE}
def z44 (n:Nat)(f:n<=2000000)(w:World):PN prog 64 [I 512,I (n:Int)] w λv w'=>v= .tuple #[I (((n+523) / 512:Nat):Int),I 0]/\w'=w:=by
 refine py (e:=[(0,_),(1,_)]) func64 O ntmps64 O O<|qN O<|QS O<|Qi O<|QY O<|Qb<|PB O<|R8 O<|Qb<|Ql O<|PB O<|qV (yre O O ω)<|R5 O<|Qb ?_
 refine Ql O<|PB O<|QY O<|Qb<|Ql O<|PB O<|Ph O<|qV (Y8 O O ω)<|RR O<|R8 O<|Qb<|Ql O<|P4<|PM.qb (e:=[(0,_),(1,_),(4,_),(5,_),(27,_)]) ?_
 refine Tj O<|PL O<|Qj O<|Ph O<|Qj O<|RR O<|Ph O<|qV (X5 O O ω)<|QS O ?_
 rw[show((n:Int)+12+512-1) / 512=(((n+523) / 512:Nat):Int) by omega]
 refine P3 func64 O ?_
 exact⟨_,O,O,O⟩
theorem z0E (h:Sp Q txt K X w){len:Nat}(u:1<=len)(z:st+len<=Q.L.length):PN prog 98 [.agg #[ptr Q.s 0,I (st:Int),I (len:Int)]] w λv w'=>v=I 0/\Ext w w':=by
 have r:=h.n
 refine py (e:=[(0,_)]) func98 O ntmps98 O O<|qN O<|Pb O O (RP O (cs:=[ptr Q.s 0,I (st:Int),I (len:Int)]) O) ?_
 rintro _ w1⟨b1,rfl,q,m,f⟩
 have o:=h.ext' m
 have hg:=Ext.Pz w1
 have j:=(o.ext' hg).dev
 have l:=(o.ext' hg).blocks
 refine Pq O<|R0<|qN O<|Pr VK O<|qV (Pl XZ O O f O)<|qV (Qz XZ O O)<|Pq O<|P9 O<|OY<|RI (λw'=>Ext w1 w') O<|P7 0 O (PU UC O) hg<|P7 1 O (PU RB O) hg<|qT 2 O (λ_ h=>Pl U3 O O (h.OZ f) O) hg<|P7 3 O (ZQ O O) hg ?_
 refine TJ<|Pu 4 O O hg<|P7 5 O (PU UC O) hg<|P7 6 O (PU Rs O) hg<|qT 7 O (λ_ h=>Pl U3 O O (h.OZ f) O) hg<|P7 8 O (ZQ O O) hg<|TJ<|P7 9 O (U0 O O) hg<|Pu 10 O O hg<|P7 11 O (PU UC O) hg<|P7 12 O (PU Rs O) hg<|qT 13 O (λ_ h=>Pl U3 O O (h.OZ f) O) hg<|P7 14 O (PU VK O) hg<|qT 15 O (λ_ h=>Pl XZ O O (h.OZ f) O) hg ?_
 refine Tl 16 O zfJ O j ?_
 rintro _ w2⟨rfl,rfl⟩
 refine⟨hg,?_⟩
 refine Tl 17 O z5K O l ?_
 rintro _ w2⟨rfl,rfl⟩
 refine⟨hg,?_⟩
 refine P7 18 O (yge O O) hg<|TJ<|P7 19 O (U0 O O) hg<|Pu 20 O O hg<|P7 21 O (PU UC O) hg<|P7 22 O (PU RB O) hg<|qT 23 O (λ_ h=>Pl U3 O O (h.OZ f) O) hg<|P7 24 O (PU VK O) hg<|qT 25 O (λ_ h=>Pl XZ O O (h.OZ f) O) hg<|P7 28 O (PU UC O) hg<|P7 29 O (PU Rs O) hg<|qT 30 O (λ_ h=>Pl U3 O O (h.OZ f) O) hg<|Tl 26 O zfJ O j ?_
 rintro _ w2⟨rfl,rfl⟩
 refine⟨hg,?_⟩
 refine Tl 27 O z5K O l ?_
 rintro _ w2⟨rfl,rfl⟩
 refine⟨hg,?_⟩
 refine P7 31 O (Yf O O ω) hg<|P7 32 O (YT O O) hg<|TJ<|P7 33 O (U0 O O) hg<|P7 34 O (S6 O) hg<|qE<|PM.qb (e:=[(2,_),(7,_)]) ?_
 refine Tj O<|An<|Re O<|P3 func98 O ?_
 exact⟨_,O,O,m.trans hg⟩
theorem z22 (h:Sp Q txt K X w){len:Nat}(q:len<=100000):PN prog 106 [.agg #[ptr Q.s 0,I (st:Int),I (len:Int)]] w λv w'=>v=I ((len:Int)*512-12)/\Ext w w':=by
 refine py (e:=[(0,_)]) func106 O ntmps106 O O<|qN O<|Pb O O (RP O (cs:=[ptr Q.s 0,I (st:Int),I (len:Int)]) O) ?_
 rintro _ w1⟨b1,rfl,o,f,j⟩
 have m:=h.ext' f
 have hg:=Ext.Pz w1
 have l:=(m.ext' hg).size
 refine Pq O<|OY<|RI (λw'=>Ext w1 w') O<|P7 0 O (PU UC O) hg<|P7 1 O (PU RB O) hg<|qT 2 O (λ_ h=>Pl U3 O O (h.OZ j) O) hg<|P7 3 O (PU VK O) hg<|qT 4 O (λ_ h=>Pl XZ O O (h.OZ j) O) hg<|Tl 5 O z4W O l ?_
 rintro _ w2⟨rfl,rfl⟩
 refine⟨hg,?_⟩
 refine P7 6 O (Y8 O O ω) hg<|P7 7 O (Yf O O ω) hg<|P7 8 O (S6 O) hg<|qE<|P3 func106 O ?_
 exact⟨_,O,O,f.trans hg⟩
def YX {len n:Nat}{rest put:Value}(hB:Pm w wb (swC s st len rest at' n sum put false) 197):PN prog 101 [ptr wb 0] w λv w'=>v=I 0/\w'=w:=by
 replace hB:Pm w wb [ptr s 0,I (st:Int),I (len:Int),rest,I (at':Int),I (n:Int),U sum,put,.bool false] 197:=hB
 refine py (e:=[(0,_)]) func101 O ntmps101 O O<|Re O<|R0<|PL O<|qV (Qz z4d O O)<|Pq O<|P9 O<|PL O<|PQ O<|Pr Zv O<|qV (Pl U4 O O hB O)<|Pq O<|Tj O<|An ?_
 refine Re O<|P3 func101 O ?_
 exact⟨_,O,O,O⟩
theorem z5c (h:Sp Q txt K X w){len n:Nat}{rest put:Value}(l:len<=100000)(m:n<=100000000)(hB:Pm w wb (swC Q.s st len rest at' n sum put false) 197):PN prog 102 [ptr wb 0] w λv w'=>v=I ((len:Int)*512-12-(n:Int))/\Ext w w':=by
 replace hB:Pm w wb [ptr Q.s 0,I (st:Int),I (len:Int),rest,I (at':Int),I (n:Int),U sum,put,.bool false] 197:=hB
 have hg:=Ext.Pz w
 have j:=z22 (h.ext' hg) (st:=st) l
 refine py (e:=[(0,_)]) func102 O ntmps102 O O<|Re O<|Qi O<|qV (Qz z4d O O)<|PB O<|PQ O<|Pr Zv O<|qV (Pl U4 O O hB O)<|Ql O<|QC O<|OY<|RI (λw'=>Ext w w') O<|Pu 0 O O hg<|P7 1 O (QL O) hg ?_
 refine P7 2 O (PU Xw O) hg<|qT 3 O (λ_ h=>PO z48 O Yh O (Pm.cells (n:=3) (h.OZ hB) (news:=[_,_,_]) O) O) hg<|Pu 5 O O hg<|P7 6 O (QL O) hg<|P7 7 O (PU z1h O) hg<|qT 8 O (λ_ h=>Pl U3 O O (h.OZ hB) O) hg<|Tl 4 O zfZ O j ?_
 rintro _ w2⟨rfl,f⟩
 refine⟨(hg.trans f),?_⟩
 refine P7 9 O (Yf O O ω) (hg.trans f)<|P7 10 O (S6 O) (hg.trans f)<|qE<|P3 func102 O ?_
 exact⟨_,O,O,hg.trans f⟩
end
def z2v (bs bx bw:Nat):Value:= .func (.func 99) #[] #[ptr bs 0,ptr bx 0,ptr bw 0]
structure SwM (s st len wb bs bx bw:Nat)(rest:Value)(at' n sum:Nat)(w:World):Prop where
 wr:Pm w wb (swC s st len rest at' n sum (z2v bs bx bw) false) 197
 sb:Pm w bs [ptr s 0] 27
 xb:Pm w bx [I (st:Int),I (len:Int)] 124
 pb:Pm w bw [ptr wb 0] 143
 ne:bs≠wb/\bx≠wb/\bw≠wb
section
variable {Q:RE}{len bs bx bw n:Nat}{rest:Value}
def SwM.kp (h:SwM s st len wb bs bx bw rest at' n sum w)(d:Kp S' w w')(e:¬S' wb)(f:¬S' bs)(g:¬S' bx)(j:¬S' bw):SwM s st len wb bs bx bw rest at' n sum w':=
 ⟨d.OZ h.wr e,d.OZ h.sb f,d.OZ h.xb g,d.OZ h.pb j,h.ne⟩
theorem SwM.ext (h:SwM s st len wb bs bx bw rest at' n sum w)(d:Ext w w'):SwM s st len wb bs bx bw rest at' n sum w':=h.kp (S':=λ_=>False) d id id id id
def SwM.re {d:Value}{f n2 e:Nat}(h:SwM s st len wb bs bx bw rest at' n sum w)(g:Kp (λb=>b=wb) w w')(hB:Pm w' wb (swC s st len d f n2 e (z2v bs bx bw) false) 197):SwM s st len wb bs bx bw d f n2 e w':=
 ⟨hB,g.OZ h.sb h.ne.1,g.OZ h.xb h.ne.2.1,g.OZ h.pb h.ne.2.2,h.ne⟩
theorem SwM.cells (h:SwM s st len wb bs bx bw rest at' n sum w):Pm w wb [ptr s 0,I (st:Int),I (len:Int),rest,I (at':Int),I (n:Int),U sum,z2v bs bx bw,.bool false] 197:=h.wr
theorem ZJ (B:Sp Q txt K X w)(C:∀b,X b->b<w.heap.size)(M:K<1000000000000)(h:SwM Q.s st len wb bs bx bw rest at' n sum w)(f:X wb/\X bs/\X bx/\X bw)(Y:st+at'<Q.L.length)(t:P8)(ht:t.length=512):
  PN prog 99 [S t,ptr bs 0,ptr bx 0,ptr bw 0] w λv w'=>v=I 0/\Sp Q (ZY txt ((st+at':Nat):Int) (some t)) (K+1) X w'/\SwM Q.s st len wb bs bx bw rest (at'+1) n sum w'/\Kp (λb=>¬X b\/b=wb) w w':=by
 have Z:=B.n
 have R:=h.sb
 have N:=h.xb
 have mt:=h.pb
 have hB:=h.cells
 have hg:=Ext.Pz w
 refine py (e:=[(0,_),(1,_),(2,_),(3,_)]) func99 O ntmps99 O O<|Re O<|OY<|RI (λw'=>Kp (λb=>¬X b) w w') O<|qT 0 O (λ_ g=>(Pl XZ O O (g.OZ R (λe=>e f.2.1)) O)) hg.kp<|P7 1 O (PU Rs O) hg.kp<|qT 2 O (λ_ g=>(Pl U3 O O (g.OZ N (λe=>e f.2.2.1)) O)) hg.kp<|qT 3 O (λ_ g=>(Pl z4d O O (g.OZ mt (λe=>e f.2.2.2)) O)) hg.kp<|P7 4 O (QL O) hg.kp<|P7 5 O (PU YV O) hg.kp<|qT 6 O (λ_ g=>(Pl U3 O O (g.OZ hB (λe=>e f.1)) O)) hg.kp<|P7 7 O (Vu O O ω) hg.kp<|Pu 8 O O hg.kp ?_
 rw[show(st:Int)+(at':Int)=((st+at':Nat):Int) by omega]
 refine Tl 9 O zcK O ((B.ext' hg).write (λb r=>by have:=C b r;have:=hg.size;omega) M (no:=((st+at':Nat):Int)) ω ω t ht) ?_
 rintro _ w1⟨rfl,U,j⟩
 refine⟨hg.kp.trans j,?_⟩
 have u:Kp (λb=>¬X b) w w1:=hg.kp.trans j
 have o:=h.kp u (λe=>e f.1) (λe=>e f.2.1) (λe=>e f.2.2.1) (λe=>e f.2.2.2)
 have z:=o.cells
 have D:=o.pb
 have a:∀b,X b->b<w1.heap.size:=λb r=>by have:=C b r;have:=u.size;omega
 refine P7 10 O (S6 O) (hg.kp.trans j)<|qE<|qN O<|qV (Pl z4d O O D O)<|PQ O<|Pr YV O<|qV (Pl U3 O O z O)<|Qj O<|PQ O<|Pr YV O<|Po O (QZ Qe O O O z ξ) ?_
 rintro w2⟨E,l⟩
 have G:Pm w2 wb (swC Q.s st len rest (at'+1) n sum (z2v bs bx bw) false) 197:=E
 have q:=o.re l G
 have x:=q.cells
 have y:=q.pb
 have d:=Ext.Pz w2
 have H:=U.own l (λb e=>by rw[e];exact f.1)
 refine P4<|OY<|PC [11] (λw'=>Ext w2 w') Pd O<|qL 0 O (λ_ h=>(Pl z4d O O (h.OZ y) O)) d<|qL 1 O (λ_ h=>(Pl z4d O O (h.OZ y) O)) d<|PH 2 O (QL O) d<|PH 3 O (PU Zv O) d<|qL 4 O (λ_ h=>(Pl U4 O O (h.OZ x) O)) d<|Qm 5 O O d<|Qm 6 O O d<|PH 7 O (yne O O) d<|PH 8 O (U0 O O) d<|PH 9 O (QL O) d<|PH 10 O (PU Zv O) d ?_
 refine TV [11] ?_
 have F:=d.OZ x
 refine qO 11<|Q0 (i:=11) O O (QZ TZ O O O F ξ) ?_
 rintro W⟨P,m⟩
 refine⟨trivial,?_⟩
 refine qE<|PM.qb (e:=[(5,_),(6,_)]) ?_
 refine PL O<|Pq O<|P3 func99 O ?_
 have J:=(q.ext d).re m (show Pm W wb (swC Q.s st len rest (at'+1) n sum (z2v bs bx bw) false) 197 from P)
 exact⟨_,O,O,(H.ext' d).own m (λb e=>by rw[e];exact f.1),J,((u.Pk λb e=> .inl e).trans (l.Pk λb e=> .inr e)).trans (d.kp.trans (m.Pk λb e=> .inr e))⟩
end
end Go.Proofs.YtbihggbffaigjaaGreatDoor
