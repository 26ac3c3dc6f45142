/- Merged by program. -/
import Derived.Test.YtbihggbffaigjaaGreatDoorZt5
import Derived.Shelf.Strings.Repeat
import Derived.Test.YtbihggbffaigjaaGreatDoorProg
import Derived.Room.AppendFits
set_option linter.all false
set_option maxRecDepth 1000000
set_option maxHeartbeats 16000000
namespace Go.Proofs.YtbihggbffaigjaaGreatDoor
open Go Go.RowKit Go.Proofs.Tryz
variable {A A' A2:Arc}{D':Dev}{K a b c each i p s st width:Nat}{L':List Bool}{S' X:Nat->Prop}{T k:Int}{V V' V2:Nat->Value×Value}{t:PU}{txt txt':Int->PU}{w w' w0 w2:World}{x0:Value}{xs:List Nat}
def SU (hit:Bool)(g:Option Int):List Value:=[.bool hit,.bool g.isSome,I (g.getD 0)]
abbrev ze2 (hit:Bool)(g:Option Int):Value:= .agg (SU hit g).toArray
section
def Arc.Ok.lens (h:A.Ok)(d:A.size<=1000)(j:Nat):(A.li j).length<=2000:=by
 have e:=h.held
 have f:=h.first
 have g:=h.total
 have l:=A.Sa
 unfold Arc.li
 split<;>omega
theorem UR (h:TY w c A V p)(K:A.Ok)(cM:A.size<=1000)(Y:Bool):Qx prog 191 [ptr c 0,.bool Y] w λv w'=>v=ze2 false (A.room Y).2/\∃V',XE w c V p w' (A.room Y).1 V':=by
 have T:=K.lens cM 2
 have mY:=K.lens cM 3
 have uK:=K.tg
 have iA:=K.pos
 have eG:=K.nd
 unfold Arc.all at eG
 rw[y0J] at eG
 obtain⟨a3,a1,R⟩:=eG
 rw[y0J] at a1
 obtain⟨a4,a2,t⟩:=a1
 rw[y0J] at a2
 obtain⟨a5,a6,a7⟩:=a2
 have aO:∀{b:Nat},TO c V p b->b<w.heap.size:=h.lt
 refine py (e:=[(0,_),(1,_)]) func191 O ntmps191 O O<|qN O<|PX O O (SE (cs:=[_,_,_]) QJ O) ?_
 rintro _ w1⟨C,rfl,fD,ad,aJ⟩
 have kF:=h.ext ad
 have E:∀b,TO c V p b->b≠C:=λb f e=>by have:=aO f;omega
 refine PR<|QV O<|Qj zg5 O (z3Y kF K cM) ?_
 rintro _ w2⟨rfl,ae⟩
 have D:=ae.PO aJ
 have B:=ad.trans ae
 have z:=h.ext B
 by_cases Q:¬A.once.length+A.often.length=A.size
 ·rw[decide_eq_false Q];have P:A.room Y=(A,none):=by unfold Arc.room;rw[if_neg Q]
  refine qV (Tf O) (PR (Qb O (qN O (qV (QB (news:=SU false none) Tj O QJ O (Q8.cells (n:=3) D O) O) (Qc O (QX (news:=SU false none) QJ O O O O D ξ) ?_)))));rintro Z⟨ep,ar⟩;replace ep:Q8 Z C [.bool false,.bool false,I 0] 261:=ep;refine PR<|Qy func191 (.cell Tj O QJ O (Q8.cells (n:=3) ep (news:=[_,_,_]) O) O .nil) ?_;rw[P];exact⟨_,O,O,V,z.kp ar (λb f=>E b f),λb f=> .inl f,(B.An ar (λj e=>ω)).kp⟩
 ·have Q := Classical.not_not.1 Q; rw [decide_eq_true Q]; refine qV (Tf O) (PR (PW O ?_)); have W := z.cells; obtain ⟨a0, c0, e0, -⟩ : ∃ a c, (V 0).1 = .slice a A.once.length c /\ _ := (h.q 0 ψ).sl.rd.shape; rw [e0] at W; have f0 := WR z (j := 0) ψ; have f1 := WR z (j := 1) ψ; rw [show A.li 0 = A.once from rfl] at f0; rw [show A.li 1 = A.often from rfl] at f1
  cases o:A.once with
  | nil =>
    cases M:A.often with
    | nil =>
      exfalso;rw[o,M] at Q;simp at Q
      omega
    | cons x1 U =>
      have P:A.room Y=({A with often:=U,Qh:=A.Qh++[x1]},some x1):=by unfold Arc.room;rw[if_pos Q,o,M]
      have ML:A.once.length=0:=by rw[o];rfl
      have X:Z0 A.once= .tuple #[I 0,.bool false]:=by rw[o];rfl
      have g1:Z0 A.often= .tuple #[I x1,.bool true]:=by rw[M];rfl
      rw[X] at f0;rw[g1] at f1;refine PS<|RK O<|QC O<|Qf RS O<|Qj z0f O f0 ?_;rintro _ w2⟨rfl,rfl⟩;refine Q4 O<|qV (SH (v:=I 0) O O)<|qV (SH (v:= .bool false) O O)<|Tq O<|Sb O<|Qq O<|QC O<|Qf SC O<|Qj z0f O f1 ?_;rintro _ w2⟨rfl,rfl⟩;refine Q4 O<|qV (SH (v:=I x1) O O)<|qV (SH (v:= .bool true) O O)<|Rw O<|QA.qb (e:=[(0,_),(1,_),(4,_),(5,_),(6,_),(7,_),(8,_)]) ?_;refine Qz O<|QC O<|Qf RS O<|Qf Rt O<|qV (Q0 SF O O W O)<|SS SF O<|RZ O<|UL O<|QW<|Q4 O<|Sc<|Sc<|Sc<|Sc ?_;refine Sc<|Sc<|Sc<|Sc<|qS<|R0 O<|Qe O<|QA.qb (e:=[(0,_),(4,_),(5,_),(6,_),(7,_),(8,_),(10,_)]) ?_;refine It<|RK O<|qS<|R0 O<|Qq O<|qV (Tf O)<|Qq O<|qV (Tf O)<|Sh O<|R0 O<|Ri O<|Qz O<|QC O<|Qf SC O ?_;refine Q4 O (Qj TT O (Rv z (j:=1) (k:=x1) ψ) ?_);rintro _ Z⟨rfl,i,l⟩;have L:(A.li 1).erase x1=U:=by show A.often.erase x1=U;rw[M];simp
      rw[L] at l
      have H:x1∉(A.Re 1 U).li 3:=by
       show x1∉A.Qh;intro e;exact t x1 (by rw[M];simp) x1 (by simp[e]) O
      refine qM O (Q4 O (QC O (Qf Sx O (Q4 O (Qj Uv O (S8 l.m (j:=3) (k:=x1) ψ H (by show A.Qh.length<=_;exact y0c mY ψ)) ?_)))));rintro _ s⟨rfl,u,F⟩;have d:=(z.r (Ext.refl w2)).trans (l.trans F);have G:=d.k.PO D (λe=>E _ e O);refine PR<|QA.qb (e:=[(4,_),(7,_)]) ?_;refine Qz O (qV (To (cs:=[_,_,_]) QJ O Xm O O) (Qc O (QX (news:=SU false (some x1)) QJ O O O O G ξ) ?_));rintro N⟨g,x⟩;replace g:Q8 N C [.bool false,.bool true,I x1] 261:=g;refine PR<|Qy func191 (.cell Tj O QJ O (Q8.cells (n:=3) g (news:=[_,_,_]) O) O .nil) ?_
      have J:∀b,TO c u p b->b≠C:=λb f e=>by
       rcases d.fp b f with y|y
       ·exact E b y e
       ·have:=D.lt;omega
      rw[P]
      exact⟨_,O,O,u,d.m.kp x J,λb f=>(d.fp b f).imp id (λe=>by have:=B.size;omega),(B.kp.trans d.k).An x (λj e=> .inl ω)⟩
  | cons x0 r0 =>
    have ML:1<=A.once.length:=by rw[o];simp
    cases M:A.often with
    | nil =>
      have P:A.room Y=({A with once:=r0,Qk:=A.Qk++[x0]},some x0):=by unfold Arc.room;rw[if_pos Q,o,M]
      have X:Z0 A.once= .tuple #[I x0,.bool true]:=by rw[o];rfl
      have g1:Z0 A.often= .tuple #[I 0,.bool false]:=by rw[M];rfl
      rw[X] at f0;rw[g1] at f1;refine PS<|RK O<|QC O<|Qf RS O<|Qj z0f O f0 ?_;rintro _ w2⟨rfl,rfl⟩;refine Q4 O<|qV (SH (v:=I x0) O O)<|qV (SH (v:= .bool true) O O)<|Tq O<|Sb O<|Qq O<|QC O<|Qf SC O<|Qj z0f O f1 ?_;rintro _ w2⟨rfl,rfl⟩;refine Q4 O<|qV (SH (v:=I 0) O O)<|qV (SH (v:= .bool false) O O)<|Rw O<|QA.qb (e:=[(0,_),(1,_),(4,_),(5,_),(6,_),(7,_),(8,_)]) ?_;refine Qz O<|QC O<|Qf RS O<|Qf Rt O<|qV (Q0 SF O O W O)<|SS SF O<|RZ O<|UL O<|SD<|Q4 O ?_
      by_cases h1:(A.once.length:Int)>A.target
      ·skip
       refine Qq O<|QC O<|Qf Sw O<|qV (Q0 U3 O O W O)<|RR O<|SD<|Q4 O<|Sc<|Sc<|Sc<|Sc<|qS<|Sh O<|Sh O ?_;refine Qe O<|QA.qb (e:=[(0,_),(4,_),(5,_),(6,_),(7,_),(8,_),(10,_)]) ?_;refine It<|RK O<|Q4 O<|Sh O<|Q4 O<|Sc<|Sc<|Sc<|Sh O<|PR<|Qb O<|Qz O<|QC O<|Qf RS O ?_;refine Q4 O (Qj TT O (Rv z (j:=0) (k:=x0) ψ) ?_);rintro _ Z⟨rfl,i,l⟩;have L:(A.li 0).erase x0=r0:=by show A.once.erase x0=r0;rw[o];simp
       rw[L] at l
       have H:x0∉(A.Re 0 r0).li 2:=by
        show x0∉A.Qk;intro e;exact R x0 (by rw[o];simp) x0 (by simp[e]) O
       refine qM O (Q4 O (QC O (Qf S9 O (Q4 O (Qj Uv O (S8 l.m (j:=2) (k:=x0) ψ H (by show A.Qk.length<=_;exact y0c T ψ)) ?_)))));rintro _ s⟨rfl,u,F⟩;have d:=(z.r (Ext.refl w2)).trans (l.trans F);have G:=d.k.PO D (λe=>E _ e O);refine PR<|QA.qb (e:=[(0,_),(4,_),(5,_),(7,_)]) ?_;refine Qz O (qV (To (cs:=[_,_,_]) QJ O Xm O O) (Qc O (QX (news:=SU false (some x0)) QJ O O O O G ξ) ?_));rintro N⟨g,x⟩;replace g:Q8 N C [.bool false,.bool true,I x0] 261:=g;refine PR<|Qy func191 (.cell Tj O QJ O (Q8.cells (n:=3) g (news:=[_,_,_]) O) O .nil) ?_
       have J:∀b,TO c u p b->b≠C:=λb f e=>by
        rcases d.fp b f with y|y
        ·exact E b y e
        ·have:=D.lt;omega
       rw[P];exact⟨_,O,O,u,d.m.kp x J,λb f=>(d.fp b f).imp id (λe=>by have:=B.size;omega),(B.kp.trans d.k).An x (λj e=> .inl ω)⟩
      ·refine Qq O<|QC O<|Qf Sw O<|qV (Q0 U3 O O W O)<|RR O<|QW<|Q4 O ?_;by_cases h2:(A.once.length:Int)=A.target
       ·refine Qq O<|QC O<|Qf Sw O<|qV (Q0 U3 O O W O)<|Ss O<|SD<|Q4 O ?_
        cases Y with
        | true =>
          refine Q4 O ?_
          skip
          refine Sh O<|R0 O<|Sh O<|Qe O<|QA.qb (e:=[(0,_),(4,_),(5,_),(6,_),(7,_),(8,_),(10,_)]) ?_;refine It<|RK O<|Q4 O<|Sh O<|Q4 O<|Sc<|Sc<|Sc<|Sh O<|PR<|Qb O<|Qz O<|QC O<|Qf RS O ?_;refine Q4 O (Qj TT O (Rv z (j:=0) (k:=x0) ψ) ?_);rintro _ Z⟨rfl,i,l⟩;have L:(A.li 0).erase x0=r0:=by show A.once.erase x0=r0;rw[o];simp
          rw[L] at l
          have H:x0∉(A.Re 0 r0).li 2:=by
           show x0∉A.Qk;intro e;exact R x0 (by rw[o];simp) x0 (by simp[e]) O
          refine qM O (Q4 O (QC O (Qf S9 O (Q4 O (Qj Uv O (S8 l.m (j:=2) (k:=x0) ψ H (by show A.Qk.length<=_;exact y0c T ψ)) ?_)))));rintro _ s⟨rfl,u,F⟩;have d:=(z.r (Ext.refl w2)).trans (l.trans F);have G:=d.k.PO D (λe=>E _ e O);refine PR<|QA.qb (e:=[(0,_),(4,_),(5,_),(7,_)]) ?_;refine Qz O (qV (To (cs:=[_,_,_]) QJ O Xm O O) (Qc O (QX (news:=SU false (some x0)) QJ O O O O G ξ) ?_));rintro N⟨g,x⟩;replace g:Q8 N C [.bool false,.bool true,I x0] 261:=g;refine PR<|Qy func191 (.cell Tj O QJ O (Q8.cells (n:=3) g (news:=[_,_,_]) O) O .nil) ?_
          have J:∀b,TO c u p b->b≠C:=λb f e=>by
           rcases d.fp b f with y|y
           ·exact E b y e
           ·have:=D.lt;omega
          rw[P]
          exact⟨_,O,O,u,d.m.kp x J,λb f=>(d.fp b f).imp id (λe=>by have:=B.size;omega),(B.kp.trans d.k).An x (λj e=> .inl ω)⟩
        | false =>
          refine Q4 O ?_
          skip
          refine Sh O<|R0 O<|Sh O<|Qe O<|QA.qb (e:=[(0,_),(4,_),(5,_),(6,_),(7,_),(8,_),(10,_)]) ?_;refine It<|RK O<|qS<|R0 O<|Qq O<|qV (Tf O)<|Qq O<|qV (Tf O)<|Sh O<|R0 O<|PR<|Qb O<|Qz O<|QC O ?_;refine Qf RS O (Q4 O (Qj TT O (Rv z (j:=0) (k:=x0) ψ) ?_));rintro _ Z⟨rfl,i,l⟩;have L:(A.li 0).erase x0=r0:=by show A.once.erase x0=r0;rw[o];simp
          rw[L] at l
          have H:x0∉(A.Re 0 r0).li 2:=by
           show x0∉A.Qk;intro e;exact R x0 (by rw[o];simp) x0 (by simp[e]) O
          refine qM O (Q4 O (QC O (Qf S9 O (Q4 O (Qj Uv O (S8 l.m (j:=2) (k:=x0) ψ H (by show A.Qk.length<=_;exact y0c T ψ)) ?_)))));rintro _ s⟨rfl,u,F⟩;have d:=(z.r (Ext.refl w2)).trans (l.trans F);have G:=d.k.PO D (λe=>E _ e O);refine PR<|QA.qb (e:=[(0,_),(4,_),(5,_),(7,_)]) ?_;refine Qz O (qV (To (cs:=[_,_,_]) QJ O Xm O O) (Qc O (QX (news:=SU false (some x0)) QJ O O O O G ξ) ?_));rintro N⟨g,x⟩;replace g:Q8 N C [.bool false,.bool true,I x0] 261:=g;refine PR<|Qy func191 (.cell Tj O QJ O (Q8.cells (n:=3) g (news:=[_,_,_]) O) O .nil) ?_
          have J:∀b,TO c u p b->b≠C:=λb f e=>by
           rcases d.fp b f with y|y
           ·exact E b y e
           ·have:=D.lt;omega
          rw[P];exact⟨_,O,O,u,d.m.kp x J,λb f=>(d.fp b f).imp id (λe=>by have:=B.size;omega),(B.kp.trans d.k).An x (λj e=> .inl ω)⟩
       ·refine Qq O<|QC O<|Qf Sw O<|qV (Q0 U3 O O W O)<|Ss O<|QW<|Q4 O ?_
        skip
        refine qS<|R0 O<|R0 O<|Sh O<|Qe O<|QA.qb (e:=[(0,_),(4,_),(5,_),(6,_),(7,_),(8,_),(10,_)]) ?_;refine It<|RK O<|qS<|R0 O<|Qq O<|qV (Tf O)<|Qq O<|qV (Tf O)<|Sh O<|R0 O<|PR<|Qb O<|Qz O<|QC O ?_;refine Qf RS O (Q4 O (Qj TT O (Rv z (j:=0) (k:=x0) ψ) ?_));rintro _ Z⟨rfl,i,l⟩;have L:(A.li 0).erase x0=r0:=by show A.once.erase x0=r0;rw[o];simp
        rw[L] at l
        have H:x0∉(A.Re 0 r0).li 2:=by
         show x0∉A.Qk;intro e;exact R x0 (by rw[o];simp) x0 (by simp[e]) O
        refine qM O (Q4 O (QC O (Qf S9 O (Q4 O (Qj Uv O (S8 l.m (j:=2) (k:=x0) ψ H (by show A.Qk.length<=_;exact y0c T ψ)) ?_)))));rintro _ s⟨rfl,u,F⟩;have d:=(z.r (Ext.refl w2)).trans (l.trans F);have G:=d.k.PO D (λe=>E _ e O);refine PR<|QA.qb (e:=[(0,_),(4,_),(5,_),(7,_)]) ?_;refine Qz O (qV (To (cs:=[_,_,_]) QJ O Xm O O) (Qc O (QX (news:=SU false (some x0)) QJ O O O O G ξ) ?_));rintro N⟨g,x⟩;replace g:Q8 N C [.bool false,.bool true,I x0] 261:=g;refine PR<|Qy func191 (.cell Tj O QJ O (Q8.cells (n:=3) g (news:=[_,_,_]) O) O .nil) ?_
        have J:∀b,TO c u p b->b≠C:=λb f e=>by
         rcases d.fp b f with y|y
         ·exact E b y e
         ·have:=D.lt;omega
        rw[P]
        exact⟨_,O,O,u,d.m.kp x J,λb f=>(d.fp b f).imp id (λe=>by have:=B.size;omega),(B.kp.trans d.k).An x (λj e=> .inl ω)⟩
    | cons x1 U =>
      have X:Z0 A.once= .tuple #[I x0,.bool true]:=by rw[o];rfl
      have g1:Z0 A.often= .tuple #[I x1,.bool true]:=by rw[M];rfl
      rw[X] at f0;rw[g1] at f1;refine PS<|RK O<|QC O<|Qf RS O<|Qj z0f O f0 ?_;rintro _ w2⟨rfl,rfl⟩;refine Q4 O<|qV (SH (v:=I x0) O O)<|qV (SH (v:= .bool true) O O)<|Tq O<|Sb O<|Qq O<|QC O<|Qf SC O<|Qj z0f O f1 ?_;rintro _ w2⟨rfl,rfl⟩;refine Q4 O<|qV (SH (v:=I x1) O O)<|qV (SH (v:= .bool true) O O)<|Rw O<|QA.qb (e:=[(0,_),(1,_),(4,_),(5,_),(6,_),(7,_),(8,_)]) ?_;refine Qz O<|QC O<|Qf RS O<|Qf Rt O<|qV (Q0 SF O O W O)<|SS SF O<|RZ O<|UL O<|SD<|Q4 O ?_
      by_cases h1:(A.once.length:Int)>A.target
      ·have P:A.room Y=({A with once:=r0,Qk:=A.Qk++[x0]},some x0):=by unfold Arc.room;rw[if_pos Q,o,M];exact if_pos (by rw[<-o];exact .inl h1)
       refine Qq O<|QC O<|Qf Sw O<|qV (Q0 U3 O O W O)<|RR O<|SD<|Q4 O<|Sc<|Sc<|Sc<|Sc<|qS<|Sh O<|Sh O ?_;refine Qe O<|QA.qb (e:=[(0,_),(4,_),(5,_),(6,_),(7,_),(8,_),(10,_)]) ?_;refine It<|RK O<|Q4 O<|Sh O<|Q4 O<|Sc<|Sc<|Sc<|Sh O<|PR<|Qb O<|Qz O<|QC O<|Qf RS O ?_;refine Q4 O (Qj TT O (Rv z (j:=0) (k:=x0) ψ) ?_);rintro _ Z⟨rfl,i,l⟩;have L:(A.li 0).erase x0=r0:=by show A.once.erase x0=r0;rw[o];simp
       rw[L] at l
       have H:x0∉(A.Re 0 r0).li 2:=by
        show x0∉A.Qk;intro e;exact R x0 (by rw[o];simp) x0 (by simp[e]) O
       refine qM O (Q4 O (QC O (Qf S9 O (Q4 O (Qj Uv O (S8 l.m (j:=2) (k:=x0) ψ H (by show A.Qk.length<=_;exact y0c T ψ)) ?_)))));rintro _ s⟨rfl,u,F⟩;have d:=(z.r (Ext.refl w2)).trans (l.trans F);have G:=d.k.PO D (λe=>E _ e O);refine PR<|QA.qb (e:=[(0,_),(4,_),(5,_),(7,_)]) ?_;refine Qz O (qV (To (cs:=[_,_,_]) QJ O Xm O O) (Qc O (QX (news:=SU false (some x0)) QJ O O O O G ξ) ?_));rintro N⟨g,x⟩;replace g:Q8 N C [.bool false,.bool true,I x0] 261:=g;refine PR<|Qy func191 (.cell Tj O QJ O (Q8.cells (n:=3) g (news:=[_,_,_]) O) O .nil) ?_
       have J:∀b,TO c u p b->b≠C:=λb f e=>by
        rcases d.fp b f with y|y
        ·exact E b y e
        ·have:=D.lt;omega
       rw[P];exact⟨_,O,O,u,d.m.kp x J,λb f=>(d.fp b f).imp id (λe=>by have:=B.size;omega),(B.kp.trans d.k).An x (λj e=> .inl ω)⟩
      ·refine Qq O<|QC O<|Qf Sw O<|qV (Q0 U3 O O W O)<|RR O<|QW<|Q4 O ?_;by_cases h2:(A.once.length:Int)=A.target
       ·refine Qq O<|QC O<|Qf Sw O<|qV (Q0 U3 O O W O)<|Ss O<|SD<|Q4 O ?_
        cases Y with
        | true =>
          refine Q4 O ?_;have P:A.room true=({A with once:=r0,Qk:=A.Qk++[x0]},some x0):=by unfold Arc.room;rw[if_pos Q,o,M];exact if_pos (by rw[<-o];exact .inr ⟨h2,O⟩)
          refine Sh O<|R0 O<|Sh O<|Qe O<|QA.qb (e:=[(0,_),(4,_),(5,_),(6,_),(7,_),(8,_),(10,_)]) ?_;refine It<|RK O<|Q4 O<|Sh O<|Q4 O<|Sc<|Sc<|Sc<|Sh O<|PR<|Qb O<|Qz O<|QC O<|Qf RS O ?_;refine Q4 O (Qj TT O (Rv z (j:=0) (k:=x0) ψ) ?_);rintro _ Z⟨rfl,i,l⟩;have L:(A.li 0).erase x0=r0:=by show A.once.erase x0=r0;rw[o];simp
          rw[L] at l
          have H:x0∉(A.Re 0 r0).li 2:=by
           show x0∉A.Qk;intro e;exact R x0 (by rw[o];simp) x0 (by simp[e]) O
          refine qM O (Q4 O (QC O (Qf S9 O (Q4 O (Qj Uv O (S8 l.m (j:=2) (k:=x0) ψ H (by show A.Qk.length<=_;exact y0c T ψ)) ?_)))));rintro _ s⟨rfl,u,F⟩;have d:=(z.r (Ext.refl w2)).trans (l.trans F);have G:=d.k.PO D (λe=>E _ e O);refine PR<|QA.qb (e:=[(0,_),(4,_),(5,_),(7,_)]) ?_;refine Qz O (qV (To (cs:=[_,_,_]) QJ O Xm O O) (Qc O (QX (news:=SU false (some x0)) QJ O O O O G ξ) ?_));rintro N⟨g,x⟩;replace g:Q8 N C [.bool false,.bool true,I x0] 261:=g;refine PR<|Qy func191 (.cell Tj O QJ O (Q8.cells (n:=3) g (news:=[_,_,_]) O) O .nil) ?_
          have J:∀b,TO c u p b->b≠C:=λb f e=>by
           rcases d.fp b f with y|y
           ·exact E b y e
           ·have:=D.lt;omega
          rw[P]
          exact⟨_,O,O,u,d.m.kp x J,λb f=>(d.fp b f).imp id (λe=>by have:=B.size;omega),(B.kp.trans d.k).An x (λj e=> .inl ω)⟩
        | false =>
          refine Q4 O ?_;have P:A.room false=({A with often:=U,Qh:=A.Qh++[x1]},some x1):=by unfold Arc.room;rw[if_pos Q,o,M];exact if_neg (by rw[<-o];rintro(e|⟨e,e2⟩);exact h1 e;cases e2)
          refine Sh O<|R0 O<|Sh O<|Qe O<|QA.qb (e:=[(0,_),(4,_),(5,_),(6,_),(7,_),(8,_),(10,_)]) ?_;refine It<|RK O<|qS<|R0 O<|Qq O<|qV (Tf O)<|Qq O<|qV (Tf O)<|Sh O<|R0 O<|Ri O<|Qz O<|QC O<|Qf SC O ?_;refine Q4 O (Qj TT O (Rv z (j:=1) (k:=x1) ψ) ?_);rintro _ Z⟨rfl,i,l⟩;have L:(A.li 1).erase x1=U:=by show A.often.erase x1=U;rw[M];simp
          rw[L] at l
          have H:x1∉(A.Re 1 U).li 3:=by
           show x1∉A.Qh;intro e;exact t x1 (by rw[M];simp) x1 (by simp[e]) O
          refine qM O (Q4 O (QC O (Qf Sx O (Q4 O (Qj Uv O (S8 l.m (j:=3) (k:=x1) ψ H (by show A.Qh.length<=_;exact y0c mY ψ)) ?_)))));rintro _ s⟨rfl,u,F⟩;have d:=(z.r (Ext.refl w2)).trans (l.trans F);have G:=d.k.PO D (λe=>E _ e O);refine PR<|QA.qb (e:=[(4,_),(7,_)]) ?_;refine Qz O (qV (To (cs:=[_,_,_]) QJ O Xm O O) (Qc O (QX (news:=SU false (some x1)) QJ O O O O G ξ) ?_));rintro N⟨g,x⟩;replace g:Q8 N C [.bool false,.bool true,I x1] 261:=g;refine PR<|Qy func191 (.cell Tj O QJ O (Q8.cells (n:=3) g (news:=[_,_,_]) O) O .nil) ?_
          have J:∀b,TO c u p b->b≠C:=λb f e=>by
           rcases d.fp b f with y|y
           ·exact E b y e
           ·have:=D.lt;omega
          rw[P];exact⟨_,O,O,u,d.m.kp x J,λb f=>(d.fp b f).imp id (λe=>by have:=B.size;omega),(B.kp.trans d.k).An x (λj e=> .inl ω)⟩
       ·refine Qq O<|QC O<|Qf Sw O<|qV (Q0 U3 O O W O)<|Ss O<|QW<|Q4 O ?_;have P:A.room Y=({A with often:=U,Qh:=A.Qh++[x1]},some x1):=by unfold Arc.room;rw[if_pos Q,o,M];exact if_neg (by rw[<-o];rintro(e|⟨e,e2⟩);exact h1 e;exact h2 e)
        refine qS<|R0 O<|R0 O<|Sh O<|Qe O<|QA.qb (e:=[(0,_),(4,_),(5,_),(6,_),(7,_),(8,_),(10,_)]) ?_;refine It<|RK O<|qS<|R0 O<|Qq O<|qV (Tf O)<|Qq O<|qV (Tf O)<|Sh O<|R0 O<|Ri O<|Qz O<|QC O<|Qf SC O ?_;refine Q4 O (Qj TT O (Rv z (j:=1) (k:=x1) ψ) ?_);rintro _ Z⟨rfl,i,l⟩;have L:(A.li 1).erase x1=U:=by show A.often.erase x1=U;rw[M];simp
        rw[L] at l
        have H:x1∉(A.Re 1 U).li 3:=by
         show x1∉A.Qh;intro e;exact t x1 (by rw[M];simp) x1 (by simp[e]) O
        refine qM O (Q4 O (QC O (Qf Sx O (Q4 O (Qj Uv O (S8 l.m (j:=3) (k:=x1) ψ H (by show A.Qh.length<=_;exact y0c mY ψ)) ?_)))));rintro _ s⟨rfl,u,F⟩;have d:=(z.r (Ext.refl w2)).trans (l.trans F);have G:=d.k.PO D (λe=>E _ e O);refine PR<|QA.qb (e:=[(4,_),(7,_)]) ?_;refine Qz O (qV (To (cs:=[_,_,_]) QJ O Xm O O) (Qc O (QX (news:=SU false (some x1)) QJ O O O O G ξ) ?_));rintro N⟨g,x⟩;replace g:Q8 N C [.bool false,.bool true,I x1] 261:=g;refine PR<|Qy func191 (.cell Tj O QJ O (Q8.cells (n:=3) g (news:=[_,_,_]) O) O .nil) ?_
        have J:∀b,TO c u p b->b≠C:=λb f e=>by
         rcases d.fp b f with y|y
         ·exact E b y e
         ·have:=D.lt;omega
        rw[P];exact⟨_,O,O,u,d.m.kp x J,λb f=>(d.fp b f).imp id (λe=>by have:=B.size;omega),(B.kp.trans d.k).An x (λj e=> .inl ω)⟩
end
def Arc.Ok.ziU (h:A.Ok):(A.Re 2 (A.Qk.drop 1)).Ok:=by
 have d:(A.Re 2 (A.Qk.drop 1)).all.Sublist A.all:=(((y1q 1 A.Qk).append_right A.Qh).append_left A.often).append_left A.once
 have:=h.first
 have e:=d.length_le
 have f:=h.total
 exact⟨h.pos,h.nd.sublist d,h.held,by show A.once.length+(A.Qk.drop 1).length<=A.size;rw[y08];omega,y0c e f,h.tg⟩
def Arc.Ok.zkZ (h:A.Ok):(A.Re 3 (A.Qh.drop 1)).Ok:=by
 have d:(A.Re 3 (A.Qh.drop 1)).all.Sublist A.all:=(((y1q 1 A.Qh).append_left A.Qk).append_left A.often).append_left A.once
 exact⟨h.pos,h.nd.sublist d,h.held,h.first,y0c d.length_le h.total,h.tg⟩
section
theorem TY.head (h:TY w c A V p){j:Nat}(m:j<4){x:Int}{r:List Int}(g:A.li j=x::r):∃b o cp,(V j).1= .slice (some ⟨b,o,none⟩) (A.li j).length cp/\w.cell? ⟨b,o+0*1,none⟩=some (I x):=by
 have d:=(h.q j m).sl.rd
 rcases d.2 with⟨c,e,f⟩|⟨b,off,l,e,-⟩
 ·rw[g] at f;simp at f
 ·rw[e] at d;exact⟨b,off,l,e,Rg d (i:=0) (by rw[g];rfl)⟩
theorem z1Z (h:TY w c A V p)(D:A.Ok)(t:A.size<=1000):Qx prog 192 [ptr c 0] w λv w'=>v=ze2 false A.add.2/\∃V',XE w c V p w' A.add.1 V':=by
 have pQ:=D.lens t 0
 have wS:=D.lens t 1
 have jb:=D.lens t 2
 have mY:=D.lens t 3
 have iA:=D.pos
 have fO:=A.Sa
 have wZ:=D.held
 have Pn:=D.first
 have f9:=D.total
 have aO:∀{b:Nat},TO c V p b->b<w.heap.size:=h.lt
 rw[show A.li 0=A.once from rfl] at pQ
 rw[show A.li 1=A.often from rfl] at wS
 rw[show A.li 2=A.Qk from rfl] at jb
 rw[show A.li 3=A.Qh from rfl] at mY
 have hB:=h.cells
 obtain⟨a0,c0,e0,-⟩:∃a c,(V 0).1= .slice a A.once.length c/\_:=(h.q 0 ψ).sl.rd.shape
 obtain⟨a1,c1,e1,-⟩:∃a c,(V 1).1= .slice a A.often.length c/\_:=(h.q 1 ψ).sl.rd.shape
 obtain⟨a2,c2,K,-⟩:∃a c,(V 2).1= .slice a A.Qk.length c/\_:=(h.q 2 ψ).sl.rd.shape
 obtain⟨a3,c3,T,-⟩:∃a c,(V 3).1= .slice a A.Qh.length c/\_:=(h.q 3 ψ).sl.rd.shape
 rw[e0,e1,K,T] at hB
 refine py (e:=[(0,_)]) func192 O ntmps192 O O<|qN O<|PX O O (SE (cs:=[_,_,_]) QJ O) ?_
 rintro _ w1⟨b2,rfl,bR,s,ak⟩
 replace ak:Q8 w1 b2 [.bool false,.bool false,I 0] 261:=ak
 have n2:∀b,TO c V p b->b≠b2:=λb z e=>by have:=aO z;omega
 have ah:=s.PO hB
 have o:=Ext.Qm w1
 refine PR<|It<|Sq (λw'=>Ext w1 w') O<|Ql 0 O O o<|PV 1 O (Rs O) o<|PV 2 O (QE RS O) o<|PV 3 O (QE Rt O) o<|qT 4 O (λ_ h=>Q0 SF O O (h.PO ah) O) o<|PV 5 O (TM SF O) o<|Ql 6 O O o<|PV 7 O (Rs O) o<|PV 8 O (QE S9 O) o<|PV 9 O (QE Rt O) o<|qT 10 O (λ_ h=>Q0 SF O O (h.PO ah) O) o ?_
 refine PV 11 O (TM SF O) o<|PV 12 O (W7 O O ω) o<|PV 13 O (SG O) o<|qE<|It ?_
 rw[show(A.once.length:Int)+(A.Qk.length:Int)=((A.once.length+A.Qk.length:Nat):Int) by omega]
 have l:=Ext.Qm w1.drew
 have kM:=o.PO ah
 refine Sq (λw'=>Ext w1.drew w') O<|Ql 0 O O l<|Ql 1 O O l<|PV 2 O (Rs O) l<|PV 3 O (QE SC O) l<|PV 4 O (QE Rt O) l<|qT 5 O (λ_ h=>Q0 SF O O (h.PO kM) O) l<|PV 6 O (TM SF O) l<|PV 7 O (W7 O O ω) l<|Ql 8 O O l<|PV 9 O (Rs O) l<|PV 10 O (QE Sx O) l<|PV 11 O (QE Rt O) l<|qT 12 O (λ_ h=>Q0 SF O O (h.PO kM) O) l ?_
 refine PV 13 O (TM SF O) l<|PV 14 O (W7 O O ω) l<|PV 15 O (SG O) l ?_
 rw[show((A.once.length+A.Qk.length:Nat):Int)+(A.often.length:Int)+(A.Qh.length:Int)=(A.all.length:Int) by omega]
 have J:=(s.trans o).trans l
 obtain⟨w2,lQ⟩:∃w2,w1.drew.drew=w2:=⟨_,O⟩
 rw[lQ] at J
 have aC:=o.trans l
 rw[lQ] at aC⊢
 have G:=h.ext J
 have E:=G.cells
 rw[e0,e1,K,T] at E
 have L:=aC.PO ak
 have d:=Ext.Qm w2
 refine qE<|QA.qb (e:=[(0,_),(2,_),(3,_),(4,_)]) ?_
 refine It<|QT (λe' w'=>e'=[(0,ptr c 0),(2,ptr b2 0)]/\∃A' V',A'.Ok/\A'.size=A.size/\XE w2 c V p w' A' V'/\Q8 w' b2 [.bool false,.bool false,I 0] 261/\A.add=A'.room false/\w2.heap.size<=w'.heap.size) ?dT<|λdT=>?kN
 case dT=>
  rintro e' w3⟨rfl,A',V',MM,A9,ce,au,W,z3⟩;refine Qz O (Qj z2E O (UR ce.m MM ω false) ?_);rintro _ w4⟨rfl,V4,bD⟩;have hr:=ce.trans bD
  have n3:∀b,TO c V' p b->b≠b2:=λb z e=>by
   rcases ce.fp b z with C|C
   ·exact n2 b C e
   ·have:=L.lt;omega
  have n4:∀b,TO c V4 p b->b≠b2:=λb z e=>by
   rcases hr.fp b z with C|C
   ·exact n2 b C e
   ·have:=L.lt;omega
  have eS:=bD.k.PO au (λe=>n3 _ e O);obtain⟨g,hg⟩:∃g,(A'.room false).2=g:=⟨_,O⟩;rw[hg];refine Qc O (QX (news:=SU false g) QJ O O O O eS ξ) ?_;rintro P⟨u,R⟩;replace u:Q8 P b2 [.bool false,.bool g.isSome,I (g.getD 0)] 261:=u;refine PR<|Qy func192 (.cell Tj O QJ O (Q8.cells (n:=3) u (news:=[_,_,_]) O) O .nil) ?_;rw[W,hg];have z1:=s.size;have z2:=J.size;exact⟨_,O,O,V4,hr.m.kp R n4,λb z=>(hr.fp b z).imp id (λe=>ω),(J.kp.trans hr.k).An R (λj e=> .inl ω)⟩
 case kN =>
  have a4:(A.all.length:Int)=(A.all.length:Int):=rfl;have H:=G.ext d;have qW:=d.PO E;have cQ:=d.PO L;have z1:=s.size;have z2:=J.size;by_cases M:A.once.length+A.Qk.length=A.size
  ·by_cases X:A.once.length<A.size
   ·refine PT<|It<|Sq (λw'=>Ext w2 w') O<|Ql 0 O O d<|Ql 1 O O d<|PV 2 O (Rs O) d<|PV 3 O (QE TD O) d<|qT 4 O (λ_ h=>Q0 U3 O O (h.PO E) O) d<|PV 5 O (yeq O O) d<|Vn<|Ql 6 O O d<|Ql 7 O O d<|PV 8 O (Rs O) d<|PV 9 O (QE RS O) d ?_;refine PV 10 O (QE Rt O) d<|qT 11 O (λ_ h=>Q0 SF O O (h.PO E) O) d<|PV 12 O (TM SF O) d<|Ql 13 O O d<|PV 14 O (Rs O) d<|PV 15 O (QE TD O) d<|qT 16 O (λ_ h=>Q0 U3 O O (h.PO E) O) d<|PV 17 O (ylt O O) d<|Vn<|PV 18 O (WA O O) d<|PV 19 O (SG O) d<|qE<|Qb O ?_
    obtain⟨x,r,B⟩:∃x r,A.Qk=x::r:=by
     cases Y:A.Qk with
     |nil=>rw[Y] at M;simp at M;omega
     |cons x r=>exact⟨x,r,O⟩
    obtain⟨lb,lo,lc,Z,-⟩:=G.head (j:=2) ψ B;rw[K] at Z;cases Z;have U:=(H.q 2 ψ).sl.rd;rw[K] at U;have sC:0<A.Qk.length:=by rw[B];simp
    have jT:((A.li 2).map I)[0]? =some (I x):=by show(A.Qk.map I)[0]? =_;rw[B];rfl
    have f:=Ext.Qm w2.drew;refine Qp [10] (λw'=>Ext w2.drew w') y00 O (R1 0 O O f (Qs 1 O (Rs O) f (Qs 2 O (QE S9 O) f (R1 3 O O f (Qs 4 O (Rs O) f (Qs 5 O (QE S9 O) f (Qs 6 O (QE Rt O) f (qL 7 O (λ_ h=>Q0 SF O O (h.PO (d.PO E)) O) f (Qs 8 O (Rk SF R8 O O ω) f (qL 9 O (λ_ h=>QH U3 O O (Rg (U.ext h) (i:=0) jT)) f (U0 [10] (TQ 10 O TT O (Rv (H.ext f) (j:=2) (k:=x) ψ) ?_))))))))))));rintro _ P⟨rfl,N,F⟩;refine⟨trivial,?_⟩;have Q:(A.li 2).erase x=A.Qk.drop 1:=by show A.Qk.erase x=A.Qk.drop 1;rw[B];simp
    rw[Q] at F;have y:=(G.r (d.trans f)).trans F;have u:=y.k.PO L (λe=>n2 _ e O);refine qE<|QA.qb (e:=[(0,_),(2,_)]) ?_;refine PN ?_;exact(dT _ _ ⟨O,_,N,D.ziU,(z1M A (j:=2) ψ _).1,y,u,by unfold Arc.add;rw[if_pos M,if_pos X];rfl,y.k.size⟩).qb
   ·refine PT<|It<|Sq (λw'=>Ext w2 w') O<|Ql 0 O O d<|Ql 1 O O d<|PV 2 O (Rs O) d<|PV 3 O (QE TD O) d<|qT 4 O (λ_ h=>Q0 U3 O O (h.PO E) O) d<|PV 5 O (yeq O O) d<|Vn<|Ql 6 O O d<|Ql 7 O O d<|PV 8 O (Rs O) d<|PV 9 O (QE RS O) d ?_;refine PV 10 O (QE Rt O) d<|qT 11 O (λ_ h=>Q0 SF O O (h.PO E) O) d<|PV 12 O (TM SF O) d<|Ql 13 O O d<|PV 14 O (Rs O) d<|PV 15 O (QE TD O) d<|qT 16 O (λ_ h=>Q0 U3 O O (h.PO E) O) d<|PV 17 O (ylt O O) d<|Vm<|PV 18 O (WA O O) d<|PV 19 O (SG O) d<|qE<|PW O<|RK O ?_;refine QC O<|Qf TD O<|qV (Q0 U3 O O qW O)<|Ss O<|SD<|Qe O<|QA.qb (e:=[(0,_),(2,_),(4,_),(66,_)]) ?_;refine Qb O<|RK O<|QC O<|Qf RS O ?_
    obtain⟨x,r,B⟩:∃x r,A.once=x::r:=by
     cases Y:A.once with
     |nil=>rw[Y] at X;simp at X;omega
     |cons x r=>exact⟨x,r,O⟩
    have f0:=WR H (j:=0) ψ;rw[show A.li 0=A.once from rfl,show Z0 A.once= .tuple #[I x,.bool true] by rw[B];rfl] at f0;obtain⟨w3,qX⟩:∃w3,w2.drew=w3:=⟨_,O⟩;rw[qX] at f0 H cQ d⊢;refine Qj z0f O f0 ?_;rintro _ w3⟨rfl,rfl⟩;refine Q4 O (qV (SH (v:=I x) O O) (qV (SH (v:= .bool true) O O) (Tq O (RZ O (QC O (Qf RS O (Q4 O (Qj TT O (Rv H (j:=0) (k:=x) ψ) ?_))))))));rintro _ P⟨rfl,N,F⟩;have Q:(A.li 0).erase x=A.once.drop 1:=by show A.once.erase x=A.once.drop 1;rw[B];simp
    rw[Q] at F;have y:=(G.r d).trans F;have u:=y.k.PO L (λe=>n2 _ e O);refine qM O (Q4 O (qV (To (cs:=[_,_,_]) QJ O Xm O O) (Qc O (QX (news:=SU false (some x)) QJ O O O O u ξ) ?_)));rintro w6⟨cG,aL⟩;replace cG:Q8 w6 b2 [.bool false,.bool true,I x] 261:=cG;refine PR<|Qy func192 (.cell Tj O QJ O (Q8.cells (n:=3) cG (news:=[_,_,_]) O) O .nil) ?_
    have n5:∀b,TO c N p b->b≠b2:=λb z e=>by
     rcases y.fp b z with C|C
     ·exact n2 b C e
     ·have:=L.lt;omega
    have W:A.add=(A.Re 0 (A.once.drop 1),some x):=by unfold Arc.add;rw[if_pos M,if_neg X,B];rfl
    rw[W];exact⟨_,O,O,N,y.m.kp aL n5,λb z=>(y.fp b z).imp id (λe=>ω),(J.kp.trans y.k).An aL (λj e=> .inl ω)⟩
  ·refine PT<|It<|Sq (λw'=>Ext w2 w') O<|Ql 0 O O d<|Ql 1 O O d<|PV 2 O (Rs O) d<|PV 3 O (QE TD O) d<|qT 4 O (λ_ h=>Q0 U3 O O (h.PO E) O) d<|PV 5 O (yeq O O) d<|Vm<|Ql 6 O O d<|qJ 7 O d<|qJ 8 O d<|qJ 9 O d ?_;refine qJ 10 O d<|qJ 11 O d<|qJ 12 O d<|qJ 13 O d<|qJ 14 O d<|qJ 15 O d<|qJ 16 O d<|qJ 17 O d<|PV 18 O (VF O O) d<|PV 19 O (SG O) d<|qE<|PW O<|RK O<|QC O ?_;refine Qf TD O<|qV (Q0 U3 O O qW O)<|Ss O<|QW<|Qe O<|QA.qb (e:=[(0,_),(2,_),(4,_),(66,_)]) ?_;refine PW O<|RK O<|QC O<|Qf TD O<|qV (Q0 U3 O O qW O) ?_;by_cases h4:A.all.length<A.size
   ·refine RT O (SD (Qe O (Qb O (qN O (qV (To (cs:=[_,_,_]) QJ O Xm O O) (Qc O (QX (news:=SU false none) QJ O O O O cQ ξ) ?_))))));rintro P⟨u,R⟩;replace u:Q8 P b2 [.bool false,.bool false,I 0] 261:=u;refine PR<|Qy func192 (.cell Tj O QJ O (Q8.cells (n:=3) u (news:=[_,_,_]) O) O .nil) ?_;have W:A.add=(A,none):=by unfold Arc.add;rw[if_neg M,if_pos h4]
    rw[W];exact⟨_,O,O,V,H.kp R n2,λb z=> .inl z,((J.trans d).An R (λj e=>ω)).kp⟩
   ·refine RT O (QW (Qe O (PW O (RK O (QC O (Qf TD O (qV (Q0 U3 O O qW O) (qV (WB O O ω) ?_))))))));by_cases C:A.all.length=2*A.size
    ·refine Ss O<|SD<|Qe O<|Qb O ?_
     obtain⟨x,r,B⟩:∃x r,A.Qh=x::r:=by
      cases Y:A.Qh with
      |nil=>rw[Y] at fO;simp at fO;omega
      |cons x r=>exact⟨x,r,O⟩
     obtain⟨lb,lo,lc,Z,-⟩:=G.head (j:=3) ψ B;rw[T] at Z;cases Z;have U:=(H.q 3 ψ).sl.rd;rw[T] at U;have sC:0<A.Qh.length:=by rw[B];simp
     have jT:((A.li 3).map I)[0]? =some (I x):=by show(A.Qh.map I)[0]? =_;rw[B];rfl
     have f:=Ext.Qm w2.drew;refine Qp [10] (λw'=>Ext w2.drew w') y00 O (R1 0 O O f (Qs 1 O (Rs O) f (Qs 2 O (QE Sx O) f (R1 3 O O f (Qs 4 O (Rs O) f (Qs 5 O (QE Sx O) f (Qs 6 O (QE Rt O) f (qL 7 O (λ_ h=>Q0 SF O O (h.PO (d.PO E)) O) f (Qs 8 O (Rk SF R8 O O ω) f (qL 9 O (λ_ h=>QH U3 O O (Rg (U.ext h) (i:=0) jT)) f (U0 [10] (TQ 10 O TT O (Rv (H.ext f) (j:=3) (k:=x) ψ) ?_))))))))))));rintro _ P⟨rfl,N,F⟩;refine⟨trivial,?_⟩;have Q:(A.li 3).erase x=A.Qh.drop 1:=by show A.Qh.erase x=A.Qh.drop 1;rw[B];simp
     rw[Q] at F;have y:=(G.r (d.trans f)).trans F;have u:=y.k.PO L (λe=>n2 _ e O);refine qE<|QA.qb (e:=[(0,_),(2,_)]) ?_;refine PN ?_;exact(dT _ _ ⟨O,_,N,D.zkZ,(z1M A (j:=3) ψ _).1,y,u,by unfold Arc.add;rw[if_neg M,if_neg h4,if_pos C];rfl,y.k.size⟩).qb
    ·refine Ss O<|QW<|Qe O<|Us O<|PN ?_;exact(dT _ _ ⟨O,A,V,D,O,G.r d,cQ,by unfold Arc.add;rw[if_neg M,if_neg h4,if_neg C],d.size⟩).qb
end
section
def TY.z0F (h:TY w c A V p)(hB:Q8 w' c (acC A.size T V p) 190)(g:Kp (λb=>b=c) w w'):XE w c V p w' {A with target:=T} V:=
 ⟨⟨hB,λj f=>by
  have e:({A with target:=T}:Arc).li j=A.li j:=by match j,f with|0,_|1,_|2,_|3,_=>rfl
  rw[e]
  exact(h.q j f).kp g λb d e=>h.nc j f (e▸d),g.map h.pins (λe=>h.cp e.symm),h.Wt,h.nc,h.np,h.cp⟩,λb d=> .inl d,g.PZ λb e=> .inl e⟩
def Arc.Ok.z0F (h:A.Ok)(d:0<=T/\T<=A.size):({A with target:=T}:Arc).Ok:=⟨h.pos,h.nd,h.held,h.first,h.total,d⟩
def XE.mono (h:XE w c V p w' A' V')(f:∀j,TO c V p j->j≠b)(l:b<w.heap.size):∀j,TO c V' p j->j≠b:=λj g e=>by
 rcases h.fp j g with d|d
 ·exact f j d e
 ·omega
theorem z74 (h:TY w c A V p)(X:A.Ok)(cM:A.size<=1000):Qx prog 156 [ptr c 0,I k] w λv w'=>v= .tuple #[ze2 (A.SI k).2.1 (A.SI k).2.2,I 0]/\∃V',XE w c V p w' (A.SI k).1 V':=by
 have wS:=X.lens cM 1
 have jb:=X.lens cM 2
 have mY:=X.lens cM 3
 have uK:=X.tg
 have iA:=X.pos
 have fO:=A.Sa
 have f9:=X.total
 have eG:=X.nd
 unfold Arc.all at eG
 rw[y0J] at eG
 obtain⟨a5,a1,a6⟩:=eG
 rw[y0J] at a1
 obtain⟨a4,a7,a8⟩:=a1
 have aO:∀{b:Nat},TO c V p b->b<w.heap.size:=h.lt
 rw[show A.li 1=A.often from rfl] at wS
 rw[show A.li 2=A.Qk from rfl] at jb
 rw[show A.li 3=A.Qh from rfl] at mY
 refine py (e:=[(0,_),(1,_)]) func156 O ntmps156 O O<|qN O<|PX O O (SE (cs:=[_,_,_]) QJ O) ?_
 rintro _ w1⟨E,rfl,fD,ad,aJ⟩
 replace aJ:Q8 w1 E [.bool false,.bool false,I 0] 261:=aJ
 have n4:∀b,TO c V p b->b≠E:=λb y e=>by have:=aO y;omega
 have l4:=aJ.lt
 have h1:=h.ext ad
 have z1:=ad.size
 refine Qe O<|QV O<|qV (Rm zbm O O)<|Ri O<|It<|RK O<|Qj zgh O (z3N h1 (k:=k)) ?_
 rintro _ w1⟨rfl,rfl⟩
 by_cases bA:k∈A.once\/k∈A.often
 ·rw[decide_eq_true bA];refine PR (Qb O (Qz O (QC O (Qf RS O (Q4 O (Qj TT O (Rv h1 (j:=0) (k:=k) ψ) ?_))))));rintro _ w2⟨rfl,V2,cP⟩;refine qM O (Q4 O (QC O (Qf SC O (Q4 O (Qj TT O (Rv cP.m (j:=1) (k:=k) ψ) ?_)))));rintro _ w3⟨rfl,V3,ce⟩;refine qM O<|Q4 O<|QC O<|Qf SC O<|Q4 O ?_
  have wU:k∉((A.Re 0 ((A.li 0).erase k)).Re 1 (((A.Re 0 ((A.li 0).erase k)).li 1).erase k)).li 1:=by
   show k∉A.often.erase k;exact a4.not_mem_erase
  have iz:(((A.Re 0 ((A.li 0).erase k)).Re 1 (((A.Re 0 ((A.li 0).erase k)).li 1).erase k)).li 1).length<=8191:=by
   show(A.often.erase k).length<=_;have:=(y2d:(A.often.erase k).length<=A.often.length);omega
  refine Qj Uv O (S8 ce.m (j:=1) (k:=k) ψ wU iz) ?_;rintro _ w4⟨rfl,V4,bD⟩;have hr:=(cP.trans ce).trans bD;have cC:=hr.k.PO aJ (λe=>n4 _ e O);refine qM O (qV (To (cs:=[_,_,_]) QJ O Xm O O) (Qc O (QX (news:=SU true none) QJ O O O O cC ξ) ?_));rintro w5⟨aK,ai⟩;replace aK:Q8 w5 E [.bool true,.bool false,I 0] 261:=aK;refine Qe O<|QA.qb (e:=[(0,_),(1,_),(4,_),(5,_)]) ?_;refine Qy func156 (.cell Tj O QJ O (Q8.cells (n:=3) aK (news:=[_,_,_]) O) O (.tmp O .nil)) ?_;have f9:A.SI k=({A with once:=A.once.erase k,often:=A.often.erase k++[k]},true,none):=by unfold Arc.SI;rw[if_pos bA]
  rw[f9];exact⟨_,O,O,V4,hr.m.kp ai (hr.mono n4 l4),λb y=>(hr.fp b y).imp id (λe=>ω),(ad.kp.trans hr.k).An ai (λj e=> .inl ω)⟩
 ·rw [decide_eq_false bA]; have im : k ∉ A.once := λe => bA (.inl e); have aI : k ∉ A.often := λe => bA (.inr e); have jR : ¬ A.held k := bA; refine PR (PW O ?_); have f0 := WR h1 (j := 0) ψ; have f1 := WR h1 (j := 1) ψ; rw [show A.li 0 = A.once from rfl] at f0; rw [show A.li 1 = A.often from rfl] at f1
  obtain⟨v0,o0,e0,q0⟩:∃x o,Z0 A.once= .tuple #[I x,.bool o]/\(o=true↔A.once≠[]):=by
   cases A.once with
   |nil=>exact⟨_,_,O,ξ⟩
   |cons x r=>exact⟨_,_,O,ξ⟩
  obtain⟨v1,o1,e1,q1⟩:∃x o,Z0 A.often= .tuple #[I x,.bool o]/\(o=true↔A.often≠[]):=by
   cases A.often with
   |nil=>exact⟨_,_,O,ξ⟩
   |cons x r=>exact⟨_,_,O,ξ⟩
  rw[e0] at f0;rw[e1] at f1;refine PS<|RK O<|QC O<|Qf RS O<|Qj z0f O f0 ?_;rintro _ w1⟨rfl,rfl⟩;refine Q4 O<|qV (SH (v:=I v0) O O)<|qV (SH (v:= .bool o0) O O)<|Tq O<|Sb O<|Qq O<|QC O<|Qf SC O<|Qj z0f O f1 ?_;rintro _ w1⟨rfl,rfl⟩;refine Q4 O<|qV (SH (v:=I v1) O O)<|qV (SH (v:= .bool o1) O O)<|Rw O<|QA.qb (e:=[(0,_),(1,_),(4,_),(5,_),(7,_),(9,_)]) ?_;refine QV O<|Qj zg5 O (z3Y h1 X cM) ?_;rintro _ w2⟨rfl,ae⟩;have h2:=h1.ext ae;have bu:=ae.PO aJ;have aF:=ad.trans ae;have z2:=ae.size;have U:=h2.cells;have d:=Ext.Qm w2;obtain⟨a2,c2,e2,-⟩:∃a c,(V 2).1= .slice a A.Qk.length c/\_:=(h.q 2 ψ).sl.rd.shape;obtain⟨a3,c3,e3,-⟩:∃a c,(V 3).1= .slice a A.Qh.length c/\_:=(h.q 3 ψ).sl.rd.shape;rw[e2,e3] at U;have lQ:=WU h2 (j:=2) (k:=k) ψ;have qX:=WU h2 (j:=3) (k:=k) ψ;rw[show A.li 2=A.Qk from rfl] at lQ;rw[show A.li 3=A.Qh from rfl] at qX;have z:∀b,TO c V p b->b≠E:=n4;have a0:E<w2.heap.size:=ω
  by_cases bZ:A.once.length+A.often.length=A.size
  ·rw [decide_eq_true bZ]
   cases Jb:o0 with
   | true =>
     subst Jb;refine Qq O<|qV (Tf O)<|Sh O<|Q4 O<|Sc<|R0 O<|Ri O<|RU<|Qz O<|QC O<|Qf S9 O<|Q4 O<|Qj YP O lQ ?_;rintro _ w2⟨rfl,rfl⟩;by_cases hg:k∈A.Qk
     ·rw[decide_eq_true hg];refine Qe O<|Qb O<|It ?_;have sC:0<A.Qk.length:=y1O hg;obtain⟨q,K⟩:∃q,A.Qh.length / A.Qk.length=q:=⟨_,O⟩;have i9:q<=2000:=by rw[<-K];exact y0c (y0P _ _) mY
      have lR:(A.Qh.length:Int) / (A.Qk.length:Int)=(q:Int):=by rw[<-K];exact(y29 _ _).symm
      refine Qp [27] (λw'=>Ext w2 w') y00 O<|R1 0 O O d<|R1 1 O O d<|Qs 2 O (Rs O) d<|Qs 3 O (QE TD O) d<|qL 4 O (λ_ h=>Q0 U3 O O (h.PO U) O) d<|R1 5 O O d<|Qs 6 O (Rs O) d<|Qs 7 O (QE Sw O) d<|qL 8 O (λ_ h=>Q0 U3 O O (h.PO U) O) d<|R1 9 O O d<|Qs 10 O (Rs O) d<|Qs 11 O (QE Sx O) d<|Qs 12 O (QE Rt O) d ?_;refine qL 13 O (λ_ h=>Q0 SF O O (h.PO U) O) d (Qs 14 O (TM SF O) d (R1 15 O O d (Qs 16 O (Rs O) d (Qs 17 O (QE S9 O) d (Qs 18 O (QE Rt O) d (qL 19 O (λ_ h=>Q0 SF O O (h.PO U) O) d (Qs 20 O (TM SF O) d (Qs 21 O (Yx O O ⟨ω,ω,ω⟩) d ?_))))))));rw[lR];refine Qs 22 O (yma O O) d (Qs 23 O (W7 O O ω) d (Qs 24 O (ymi O O) d (Qs 25 O (Rs O) d (Qs 26 O (QE Sw O) d (U0 [27] (qO 27 (QQ (i:=27) O O (S0 R8 O O O (d.PO U) ξ) ?_)))))));rintro w5⟨P,ai⟩;refine⟨trivial,?_⟩;obtain⟨T,hT⟩:∃T:Int,min (A.size:Int) (A.target+max 1 (q:Int))=T:=⟨_,O⟩;have oh:0<=T/\T<=A.size:=ω
      rw[hT] at P
      replace P:Q8 w5 c (acC A.size T V p) 190:=by
       show Q8 w5 c [I (A.size:Int),(V 0).1,(V 0).2,(V 1).1,(V 1).2,(V 2).1,(V 2).2,(V 3).1,(V 3).2,I T,.map (some p)] _;rw[e2,e3];exact P
      have t:=(h2.ext d).z0F P ai;have Q:=X.z0F oh;obtain⟨C,H⟩:∃C:Arc,{A with target:=T}=C:=⟨_,O⟩;have p9:C.size=A.size:=by rw[<-H]
      have ol:¬C.held k:=by rw[<-H];exact jR
      have sx:k∈C.Qk:=by rw[<-H];exact hg
      rw[H] at t Q;refine qE<|QA.qb (e:=[(0,_),(1,_),(4,_),(5,_)]) ?_;refine Qz O (Qj z2E O (UR t.m Q ω false) ?_);rintro _ w6⟨rfl,V6,L⟩;have R:=Arc.Uz Q false;obtain⟨r6,Y⟩:∃r,C.room false=r:=⟨_,O⟩;rw[Y] at L R⊢;obtain⟨l,g⟩:=r6;dsimp only at L R⊢;have g8:=R.perm.length_eq;have jz:=l.Sa;have oo:=C.Sa;have oq:=Q.total;have u:=((h2.r d).trans t).trans L;have bT:=u.k.PO bu (λe=>z _ e O);refine Qc O (QX (news:=SU false g) QJ O O O O bT ξ) ?_;rintro w7⟨J,G⟩;replace J:Q8 w7 E [.bool false,.bool g.isSome,I (g.getD 0)] 261:=J;have B:=u.mono z a0;have gM:=u.m.kp G B;refine qM O (Q4 O (QC O (Qf S9 O (Q4 O (Qj TT O (Rv gM (j:=2) (k:=k) ψ) ?_)))));rintro _ w8⟨rfl,V8,fX⟩
      have dW:k∉(l.Re 2 ((l.li 2).erase k)).li 1:=by
       show k∉l.often;exact λe=>ol ((R.gone k).1 (.inr e)).1
      refine PR (Sv O (QC O (Qf SC O (Q4 O (Qj Uv O (S8 fX.m (j:=1) (k:=k) ψ dW (by show l.often.length<=_;omega)) ?_)))));rintro _ w9⟨rfl,F,ij⟩;have D:=fX.trans ij;have bM:=D.k.PO J (λe=>B _ e O);have s:=bM
      have Z:∀b,TO c F p b->TO c V p b\/w2.heap.size<=b:=λb y=>by
       rcases D.fp b y with f|f
       ·exact u.fp b f
       ·have:=u.k.size;have:=G.size;exact .inr ω
      have aM:Kp (λj=>TO c V p j\/j=E) w2 w9:=((u.k.PZ λj e=> .inl e).trans (G.PZ λj e=> .inr e)).An D.k (λj e=>by
       rcases u.fp j e with f|f
       ·exact .inr (.inl f)
       ·exact .inl f)
      refine PR (PN (qN O (qV (QB (news:=SU false g) Tj O QJ O (Q8.cells (n:=3) s O) O) (Qc O (QX (news:=SU false g) QJ O O O O s ξ) ?_))));rintro we⟨M,W⟩;replace M:Q8 we E [.bool false,.bool g.isSome,I (g.getD 0)] 261:=M;refine Qe O<|Qy func156 (.cell Tj O QJ O (Q8.cells (n:=3) M (news:=[_,_,_]) O) O (.tmp O .nil)) ?_
      have N:∀b,TO c F p b->b≠E:=λb y e=>by
       rcases Z b y with f|f
       ·exact z b f e
       ·omega
      have f9:A.SI k=({l with Qk:=l.Qk.erase k,often:=l.often++[k]},false,g):=by
       unfold Arc.SI;rw[if_neg bA,if_pos hg];dsimp only;rw[K,hT,H,Y]
      rw[f9]
      exact⟨_,rfl,rfl,F,D.m.kp W N,λb y=>(Z b y).imp id (λe=>ω),(aF.kp.An aM (λj e=>by
       rcases e with e| e
       ·exact .inr e
       ·exact .inl ω)).An W (λj e=> .inl ω)⟩
     ·have sD:=hg;rw[decide_eq_false hg];refine Qe O<|PW O<|Qz O<|QC O<|Qf Sx O<|Q4 O<|Qj YP O qX ?_;rintro _ w2⟨rfl,rfl⟩;by_cases hg:k∈A.Qh
      ·rw[decide_eq_true hg];refine Qe O<|QA.qb (e:=[(0,_),(1,_),(4,_),(5,_),(111,_)]) ?_;refine Qb O<|It ?_;have sC:0<A.Qh.length:=y1O hg;obtain⟨q,K⟩:∃q,A.Qk.length / A.Qh.length=q:=⟨_,O⟩;have i9:q<=2000:=by rw[<-K];exact y0c (y0P _ _) jb
       have lR:(A.Qk.length:Int) / (A.Qh.length:Int)=(q:Int):=by rw[<-K];exact(y29 _ _).symm
       refine Qp [23] (λw'=>Ext w2 w') y00 O<|R1 0 O O d<|R1 1 O O d<|Qs 2 O (Rs O) d<|Qs 3 O (QE Sw O) d<|qL 4 O (λ_ h=>Q0 U3 O O (h.PO U) O) d<|R1 5 O O d<|Qs 6 O (Rs O) d<|Qs 7 O (QE S9 O) d<|Qs 8 O (QE Rt O) d<|qL 9 O (λ_ h=>Q0 SF O O (h.PO U) O) d<|Qs 10 O (TM SF O) d<|R1 11 O O d<|Qs 12 O (Rs O) d ?_;refine Qs 13 O (QE Sx O) d (Qs 14 O (QE Rt O) d (qL 15 O (λ_ h=>Q0 SF O O (h.PO U) O) d (Qs 16 O (TM SF O) d (Qs 17 O (Yx O O ⟨ω,ω,ω⟩) d ?_))));rw[lR];refine Qs 18 O (yma O O) d (Qs 19 O (YS O O ω) d (Qs 20 O (yma O O) d (Qs 21 O (Rs O) d (Qs 22 O (QE Sw O) d (U0 [23] (qO 23 (QQ (i:=23) O O (S0 R8 O O O (d.PO U) ξ) ?_)))))));rintro w5⟨P,ai⟩;refine⟨trivial,?_⟩;obtain⟨T,hT⟩:∃T:Int,max 0 (A.target-max 1 (q:Int))=T:=⟨_,O⟩;have oh:0<=T/\T<=A.size:=ω
       rw[hT] at P
       replace P:Q8 w5 c (acC A.size T V p) 190:=by
        show Q8 w5 c [I (A.size:Int),(V 0).1,(V 0).2,(V 1).1,(V 1).2,(V 2).1,(V 2).2,(V 3).1,(V 3).2,I T,.map (some p)] _;rw[e2,e3];exact P
       have t:=(h2.ext d).z0F P ai;have Q:=X.z0F oh;obtain⟨C,H⟩:∃C:Arc,{A with target:=T}=C:=⟨_,O⟩;have p9:C.size=A.size:=by rw[<-H]
       have ol:¬C.held k:=by rw[<-H];exact jR
       have sx:k∈C.Qh:=by rw[<-H];exact hg
       rw[H] at t Q;refine qE<|QA.qb (e:=[(0,_),(1,_),(4,_),(5,_)]) ?_;refine Qz O (Qj z2E O (UR t.m Q ω true) ?_);rintro _ w6⟨rfl,V6,L⟩;have R:=Arc.Uz Q true;obtain⟨r6,Y⟩:∃r,C.room true=r:=⟨_,O⟩;rw[Y] at L R⊢;obtain⟨l,g⟩:=r6;dsimp only at L R⊢;have g8:=R.perm.length_eq;have jz:=l.Sa;have oo:=C.Sa;have oq:=Q.total;have u:=((h2.r d).trans t).trans L;have bT:=u.k.PO bu (λe=>z _ e O);refine Qc O (QX (news:=SU false g) QJ O O O O bT ξ) ?_;rintro w7⟨J,G⟩;replace J:Q8 w7 E [.bool false,.bool g.isSome,I (g.getD 0)] 261:=J;have B:=u.mono z a0;have gM:=u.m.kp G B;refine qM O (Q4 O (QC O (Qf Sx O (Q4 O (Qj TT O (Rv gM (j:=3) (k:=k) ψ) ?_)))));rintro _ w8⟨rfl,V8,fX⟩
       have dW:k∉(l.Re 3 ((l.li 3).erase k)).li 1:=by
        show k∉l.often;exact λe=>ol ((R.gone k).1 (.inr e)).1
       refine PR (Sv O (QC O (Qf SC O (Q4 O (Qj Uv O (S8 fX.m (j:=1) (k:=k) ψ dW (by show l.often.length<=_;omega)) ?_)))));rintro _ w9⟨rfl,F,ij⟩;have D:=fX.trans ij;have bM:=D.k.PO J (λe=>B _ e O);have s:=bM
       have Z:∀b,TO c F p b->TO c V p b\/w2.heap.size<=b:=λb y=>by
        rcases D.fp b y with f|f
        ·exact u.fp b f
        ·have:=u.k.size;have:=G.size;exact .inr ω
       have aM:Kp (λj=>TO c V p j\/j=E) w2 w9:=((u.k.PZ λj e=> .inl e).trans (G.PZ λj e=> .inr e)).An D.k (λj e=>by
        rcases u.fp j e with f|f
        ·exact .inr (.inl f)
        ·exact .inl f)
       refine PR (PN (qN O (qV (QB (news:=SU false g) Tj O QJ O (Q8.cells (n:=3) s O) O) (Qc O (QX (news:=SU false g) QJ O O O O s ξ) ?_))));rintro we⟨M,W⟩;replace M:Q8 we E [.bool false,.bool g.isSome,I (g.getD 0)] 261:=M;refine Qe O<|Qy func156 (.cell Tj O QJ O (Q8.cells (n:=3) M (news:=[_,_,_]) O) O (.tmp O .nil)) ?_
       have N:∀b,TO c F p b->b≠E:=λb y e=>by
        rcases Z b y with f|f
        ·exact z b f e
        ·omega
       have f9:A.SI k=({l with Qh:=l.Qh.erase k,often:=l.often++[k]},false,g):=by
        unfold Arc.SI;rw[if_neg bA,if_neg sD,if_pos hg];dsimp only;rw[K,hT,H,Y]
       rw[f9]
       exact⟨_,rfl,rfl,F,D.m.kp W N,λb y=>(Z b y).imp id (λe=>ω),(aF.kp.An aM (λj e=>by
        rcases e with e| e
        ·exact .inr e
        ·exact .inl ω)).An W (λj e=> .inl ω)⟩
      ·rw[decide_eq_false hg];refine Qe O<|QA.qb (e:=[(0,_),(1,_),(4,_),(5,_),(111,_)]) ?_;refine PW O<|Qz O<|Qj zbH O (z1Z h2 X cM) ?_;rintro _ w6⟨rfl,V6,L⟩;have dV:=Arc.z4X X;obtain⟨r6,Y⟩:∃r,A.add=r:=⟨_,O⟩;rw[Y] at L dV⊢;obtain⟨l,g⟩:=r6;dsimp only at L dV⊢;obtain⟨fG,-,-⟩:=dV;have jz:=l.Sa;have u:=L;have bT:=u.k.PO bu (λe=>z _ e O);refine Qc O (QX (news:=SU false g) QJ O O O O bT ξ) ?_;rintro w7⟨J,G⟩;replace J:Q8 w7 E [.bool false,.bool g.isSome,I (g.getD 0)] 261:=J;have B:=u.mono z a0;have gM:=u.m.kp G B
       have dW:k∉l.li 0:=by
        show k∉l.once;exact λe=>jR ((fG.gone k).1 (.inl e)).1
       have o4:=fG.Zt;refine PR (Sv O (QC O (Qf RS O (Q4 O (Qj Uv O (S8 gM (j:=0) (k:=k) ψ dW (by show l.once.length<=_;omega)) ?_)))));rintro _ w9⟨rfl,F,ij⟩;have D:=ij;have bM:=D.k.PO J (λe=>B _ e O);have s:=bM
       have Z:∀b,TO c F p b->TO c V p b\/w2.heap.size<=b:=λb y=>by
        rcases D.fp b y with f|f
        ·exact u.fp b f
        ·have:=u.k.size;have:=G.size;exact .inr ω
       have aM:Kp (λj=>TO c V p j\/j=E) w2 w9:=((u.k.PZ λj e=> .inl e).trans (G.PZ λj e=> .inr e)).An D.k (λj e=>by
        rcases u.fp j e with f|f
        ·exact .inr (.inl f)
        ·exact .inl f)
       refine PR (PN (qN O (qV (QB (news:=SU false g) Tj O QJ O (Q8.cells (n:=3) s O) O) (Qc O (QX (news:=SU false g) QJ O O O O s ξ) ?_))));rintro we⟨M,W⟩;replace M:Q8 we E [.bool false,.bool g.isSome,I (g.getD 0)] 261:=M;refine Qe O<|Qy func156 (.cell Tj O QJ O (Q8.cells (n:=3) M (news:=[_,_,_]) O) O (.tmp O .nil)) ?_
       have N:∀b,TO c F p b->b≠E:=λb y e=>by
        rcases Z b y with f|f
        ·exact z b f e
        ·omega
       have f9:A.SI k=({l with once:=l.once++[k]},false,g):=by
        unfold Arc.SI;rw[if_neg bA,if_neg sD,if_neg hg];dsimp only;rw[Y]
       rw[f9]
       exact⟨_,rfl,rfl,F,D.m.kp W N,λb y=>(Z b y).imp id (λe=>ω),(aF.kp.An aM (λj e=>by
        rcases e with e| e
        ·exact .inr e
        ·exact .inl ω)).An W (λj e=> .inl ω)⟩
   | false =>
     subst Jb
     have A8:o1=true:=by
      have e:A.once=[]:=Classical.not_not.1 λe=>by have:=q0.2 e;cases this
      rw[e] at bZ;exact q1.2 λe=>by rw[e] at bZ;simp at bZ;omega
     subst A8;refine Qq O<|qV (Tf O)<|Sh O<|Qq O<|qV (Tf O)<|Sh O<|Ri O<|RU<|Qz O<|QC O<|Qf S9 O<|Q4 O<|Qj YP O lQ ?_;rintro _ w2⟨rfl,rfl⟩;by_cases hg:k∈A.Qk
     ·rw[decide_eq_true hg];refine Qe O<|Qb O<|It ?_;have sC:0<A.Qk.length:=y1O hg;obtain⟨q,K⟩:∃q,A.Qh.length / A.Qk.length=q:=⟨_,O⟩;have i9:q<=2000:=by rw[<-K];exact y0c (y0P _ _) mY
      have lR:(A.Qh.length:Int) / (A.Qk.length:Int)=(q:Int):=by rw[<-K];exact(y29 _ _).symm
      refine Qp [27] (λw'=>Ext w2 w') y00 O<|R1 0 O O d<|R1 1 O O d<|Qs 2 O (Rs O) d<|Qs 3 O (QE TD O) d<|qL 4 O (λ_ h=>Q0 U3 O O (h.PO U) O) d<|R1 5 O O d<|Qs 6 O (Rs O) d<|Qs 7 O (QE Sw O) d<|qL 8 O (λ_ h=>Q0 U3 O O (h.PO U) O) d<|R1 9 O O d<|Qs 10 O (Rs O) d<|Qs 11 O (QE Sx O) d<|Qs 12 O (QE Rt O) d ?_;refine qL 13 O (λ_ h=>Q0 SF O O (h.PO U) O) d (Qs 14 O (TM SF O) d (R1 15 O O d (Qs 16 O (Rs O) d (Qs 17 O (QE S9 O) d (Qs 18 O (QE Rt O) d (qL 19 O (λ_ h=>Q0 SF O O (h.PO U) O) d (Qs 20 O (TM SF O) d (Qs 21 O (Yx O O ⟨ω,ω,ω⟩) d ?_))))))));rw[lR];refine Qs 22 O (yma O O) d (Qs 23 O (W7 O O ω) d (Qs 24 O (ymi O O) d (Qs 25 O (Rs O) d (Qs 26 O (QE Sw O) d (U0 [27] (qO 27 (QQ (i:=27) O O (S0 R8 O O O (d.PO U) ξ) ?_)))))));rintro w5⟨P,ai⟩;refine⟨trivial,?_⟩;obtain⟨T,hT⟩:∃T:Int,min (A.size:Int) (A.target+max 1 (q:Int))=T:=⟨_,O⟩;have oh:0<=T/\T<=A.size:=ω
      rw[hT] at P
      replace P:Q8 w5 c (acC A.size T V p) 190:=by
       show Q8 w5 c [I (A.size:Int),(V 0).1,(V 0).2,(V 1).1,(V 1).2,(V 2).1,(V 2).2,(V 3).1,(V 3).2,I T,.map (some p)] _;rw[e2,e3];exact P
      have t:=(h2.ext d).z0F P ai;have Q:=X.z0F oh;obtain⟨C,H⟩:∃C:Arc,{A with target:=T}=C:=⟨_,O⟩;have p9:C.size=A.size:=by rw[<-H]
      have ol:¬C.held k:=by rw[<-H];exact jR
      have sx:k∈C.Qk:=by rw[<-H];exact hg
      rw[H] at t Q;refine qE<|QA.qb (e:=[(0,_),(1,_),(4,_),(5,_)]) ?_;refine Qz O (Qj z2E O (UR t.m Q ω false) ?_);rintro _ w6⟨rfl,V6,L⟩;have R:=Arc.Uz Q false;obtain⟨r6,Y⟩:∃r,C.room false=r:=⟨_,O⟩;rw[Y] at L R⊢;obtain⟨l,g⟩:=r6;dsimp only at L R⊢;have g8:=R.perm.length_eq;have jz:=l.Sa;have oo:=C.Sa;have oq:=Q.total;have u:=((h2.r d).trans t).trans L;have bT:=u.k.PO bu (λe=>z _ e O);refine Qc O (QX (news:=SU false g) QJ O O O O bT ξ) ?_;rintro w7⟨J,G⟩;replace J:Q8 w7 E [.bool false,.bool g.isSome,I (g.getD 0)] 261:=J;have B:=u.mono z a0;have gM:=u.m.kp G B;refine qM O (Q4 O (QC O (Qf S9 O (Q4 O (Qj TT O (Rv gM (j:=2) (k:=k) ψ) ?_)))));rintro _ w8⟨rfl,V8,fX⟩
      have dW:k∉(l.Re 2 ((l.li 2).erase k)).li 1:=by
       show k∉l.often;exact λe=>ol ((R.gone k).1 (.inr e)).1
      refine PR (Sv O (QC O (Qf SC O (Q4 O (Qj Uv O (S8 fX.m (j:=1) (k:=k) ψ dW (by show l.often.length<=_;omega)) ?_)))));rintro _ w9⟨rfl,F,ij⟩;have D:=fX.trans ij;have bM:=D.k.PO J (λe=>B _ e O);have s:=bM
      have Z:∀b,TO c F p b->TO c V p b\/w2.heap.size<=b:=λb y=>by
       rcases D.fp b y with f|f
       ·exact u.fp b f
       ·have:=u.k.size;have:=G.size;exact .inr ω
      have aM:Kp (λj=>TO c V p j\/j=E) w2 w9:=((u.k.PZ λj e=> .inl e).trans (G.PZ λj e=> .inr e)).An D.k (λj e=>by
       rcases u.fp j e with f|f
       ·exact .inr (.inl f)
       ·exact .inl f)
      refine PR (PN (qN O (qV (QB (news:=SU false g) Tj O QJ O (Q8.cells (n:=3) s O) O) (Qc O (QX (news:=SU false g) QJ O O O O s ξ) ?_))));rintro we⟨M,W⟩;replace M:Q8 we E [.bool false,.bool g.isSome,I (g.getD 0)] 261:=M;refine Qe O<|Qy func156 (.cell Tj O QJ O (Q8.cells (n:=3) M (news:=[_,_,_]) O) O (.tmp O .nil)) ?_
      have N:∀b,TO c F p b->b≠E:=λb y e=>by
       rcases Z b y with f|f
       ·exact z b f e
       ·omega
      have f9:A.SI k=({l with Qk:=l.Qk.erase k,often:=l.often++[k]},false,g):=by
       unfold Arc.SI;rw[if_neg bA,if_pos hg];dsimp only;rw[K,hT,H,Y]
      rw[f9]
      exact⟨_,rfl,rfl,F,D.m.kp W N,λb y=>(Z b y).imp id (λe=>ω),(aF.kp.An aM (λj e=>by
       rcases e with e| e
       ·exact .inr e
       ·exact .inl ω)).An W (λj e=> .inl ω)⟩
     ·have sD:=hg;rw[decide_eq_false hg];refine Qe O<|PW O<|Qz O<|QC O<|Qf Sx O<|Q4 O<|Qj YP O qX ?_;rintro _ w2⟨rfl,rfl⟩;by_cases hg:k∈A.Qh
      ·rw[decide_eq_true hg];refine Qe O<|QA.qb (e:=[(0,_),(1,_),(4,_),(5,_),(111,_)]) ?_;refine Qb O<|It ?_;have sC:0<A.Qh.length:=y1O hg;obtain⟨q,K⟩:∃q,A.Qk.length / A.Qh.length=q:=⟨_,O⟩;have i9:q<=2000:=by rw[<-K];exact y0c (y0P _ _) jb
       have lR:(A.Qk.length:Int) / (A.Qh.length:Int)=(q:Int):=by rw[<-K];exact(y29 _ _).symm
       refine Qp [23] (λw'=>Ext w2 w') y00 O<|R1 0 O O d<|R1 1 O O d<|Qs 2 O (Rs O) d<|Qs 3 O (QE Sw O) d<|qL 4 O (λ_ h=>Q0 U3 O O (h.PO U) O) d<|R1 5 O O d<|Qs 6 O (Rs O) d<|Qs 7 O (QE S9 O) d<|Qs 8 O (QE Rt O) d<|qL 9 O (λ_ h=>Q0 SF O O (h.PO U) O) d<|Qs 10 O (TM SF O) d<|R1 11 O O d<|Qs 12 O (Rs O) d ?_;refine Qs 13 O (QE Sx O) d (Qs 14 O (QE Rt O) d (qL 15 O (λ_ h=>Q0 SF O O (h.PO U) O) d (Qs 16 O (TM SF O) d (Qs 17 O (Yx O O ⟨ω,ω,ω⟩) d ?_))));rw[lR];refine Qs 18 O (yma O O) d (Qs 19 O (YS O O ω) d (Qs 20 O (yma O O) d (Qs 21 O (Rs O) d (Qs 22 O (QE Sw O) d (U0 [23] (qO 23 (QQ (i:=23) O O (S0 R8 O O O (d.PO U) ξ) ?_)))))));rintro w5⟨P,ai⟩;refine⟨trivial,?_⟩;obtain⟨T,hT⟩:∃T:Int,max 0 (A.target-max 1 (q:Int))=T:=⟨_,O⟩;have oh:0<=T/\T<=A.size:=ω
       rw[hT] at P
       replace P:Q8 w5 c (acC A.size T V p) 190:=by
        show Q8 w5 c [I (A.size:Int),(V 0).1,(V 0).2,(V 1).1,(V 1).2,(V 2).1,(V 2).2,(V 3).1,(V 3).2,I T,.map (some p)] _;rw[e2,e3];exact P
       have t:=(h2.ext d).z0F P ai;have Q:=X.z0F oh;obtain⟨C,H⟩:∃C:Arc,{A with target:=T}=C:=⟨_,O⟩;have p9:C.size=A.size:=by rw[<-H]
       have ol:¬C.held k:=by rw[<-H];exact jR
       have sx:k∈C.Qh:=by rw[<-H];exact hg
       rw[H] at t Q;refine qE<|QA.qb (e:=[(0,_),(1,_),(4,_),(5,_)]) ?_;refine Qz O (Qj z2E O (UR t.m Q ω true) ?_);rintro _ w6⟨rfl,V6,L⟩;have R:=Arc.Uz Q true;obtain⟨r6,Y⟩:∃r,C.room true=r:=⟨_,O⟩;rw[Y] at L R⊢;obtain⟨l,g⟩:=r6;dsimp only at L R⊢;have g8:=R.perm.length_eq;have jz:=l.Sa;have oo:=C.Sa;have oq:=Q.total;have u:=((h2.r d).trans t).trans L;have bT:=u.k.PO bu (λe=>z _ e O);refine Qc O (QX (news:=SU false g) QJ O O O O bT ξ) ?_;rintro w7⟨J,G⟩;replace J:Q8 w7 E [.bool false,.bool g.isSome,I (g.getD 0)] 261:=J;have B:=u.mono z a0;have gM:=u.m.kp G B;refine qM O (Q4 O (QC O (Qf Sx O (Q4 O (Qj TT O (Rv gM (j:=3) (k:=k) ψ) ?_)))));rintro _ w8⟨rfl,V8,fX⟩
       have dW:k∉(l.Re 3 ((l.li 3).erase k)).li 1:=by
        show k∉l.often;exact λe=>ol ((R.gone k).1 (.inr e)).1
       refine PR (Sv O (QC O (Qf SC O (Q4 O (Qj Uv O (S8 fX.m (j:=1) (k:=k) ψ dW (by show l.often.length<=_;omega)) ?_)))));rintro _ w9⟨rfl,F,ij⟩;have D:=fX.trans ij;have bM:=D.k.PO J (λe=>B _ e O);have s:=bM
       have Z:∀b,TO c F p b->TO c V p b\/w2.heap.size<=b:=λb y=>by
        rcases D.fp b y with f|f
        ·exact u.fp b f
        ·have:=u.k.size;have:=G.size;exact .inr ω
       have aM:Kp (λj=>TO c V p j\/j=E) w2 w9:=((u.k.PZ λj e=> .inl e).trans (G.PZ λj e=> .inr e)).An D.k (λj e=>by
        rcases u.fp j e with f|f
        ·exact .inr (.inl f)
        ·exact .inl f)
       refine PR (PN (qN O (qV (QB (news:=SU false g) Tj O QJ O (Q8.cells (n:=3) s O) O) (Qc O (QX (news:=SU false g) QJ O O O O s ξ) ?_))));rintro we⟨M,W⟩;replace M:Q8 we E [.bool false,.bool g.isSome,I (g.getD 0)] 261:=M;refine Qe O<|Qy func156 (.cell Tj O QJ O (Q8.cells (n:=3) M (news:=[_,_,_]) O) O (.tmp O .nil)) ?_
       have N:∀b,TO c F p b->b≠E:=λb y e=>by
        rcases Z b y with f|f
        ·exact z b f e
        ·omega
       have f9:A.SI k=({l with Qh:=l.Qh.erase k,often:=l.often++[k]},false,g):=by
        unfold Arc.SI;rw[if_neg bA,if_neg sD,if_pos hg];dsimp only;rw[K,hT,H,Y]
       rw[f9]
       exact⟨_,rfl,rfl,F,D.m.kp W N,λb y=>(Z b y).imp id (λe=>ω),(aF.kp.An aM (λj e=>by
        rcases e with e| e
        ·exact .inr e
        ·exact .inl ω)).An W (λj e=> .inl ω)⟩
      ·rw[decide_eq_false hg];refine Qe O<|QA.qb (e:=[(0,_),(1,_),(4,_),(5,_),(111,_)]) ?_;refine PW O<|Qz O<|Qj zbH O (z1Z h2 X cM) ?_;rintro _ w6⟨rfl,V6,L⟩;have dV:=Arc.z4X X;obtain⟨r6,Y⟩:∃r,A.add=r:=⟨_,O⟩;rw[Y] at L dV⊢;obtain⟨l,g⟩:=r6;dsimp only at L dV⊢;obtain⟨fG,-,-⟩:=dV;have jz:=l.Sa;have u:=L;have bT:=u.k.PO bu (λe=>z _ e O);refine Qc O (QX (news:=SU false g) QJ O O O O bT ξ) ?_;rintro w7⟨J,G⟩;replace J:Q8 w7 E [.bool false,.bool g.isSome,I (g.getD 0)] 261:=J;have B:=u.mono z a0;have gM:=u.m.kp G B
       have dW:k∉l.li 0:=by
        show k∉l.once;exact λe=>jR ((fG.gone k).1 (.inl e)).1
       have o4:=fG.Zt;refine PR (Sv O (QC O (Qf RS O (Q4 O (Qj Uv O (S8 gM (j:=0) (k:=k) ψ dW (by show l.once.length<=_;omega)) ?_)))));rintro _ w9⟨rfl,F,ij⟩;have D:=ij;have bM:=D.k.PO J (λe=>B _ e O);have s:=bM
       have Z:∀b,TO c F p b->TO c V p b\/w2.heap.size<=b:=λb y=>by
        rcases D.fp b y with f|f
        ·exact u.fp b f
        ·have:=u.k.size;have:=G.size;exact .inr ω
       have aM:Kp (λj=>TO c V p j\/j=E) w2 w9:=((u.k.PZ λj e=> .inl e).trans (G.PZ λj e=> .inr e)).An D.k (λj e=>by
        rcases u.fp j e with f|f
        ·exact .inr (.inl f)
        ·exact .inl f)
       refine PR (PN (qN O (qV (QB (news:=SU false g) Tj O QJ O (Q8.cells (n:=3) s O) O) (Qc O (QX (news:=SU false g) QJ O O O O s ξ) ?_))));rintro we⟨M,W⟩;replace M:Q8 we E [.bool false,.bool g.isSome,I (g.getD 0)] 261:=M;refine Qe O<|Qy func156 (.cell Tj O QJ O (Q8.cells (n:=3) M (news:=[_,_,_]) O) O (.tmp O .nil)) ?_
       have N:∀b,TO c F p b->b≠E:=λb y e=>by
        rcases Z b y with f|f
        ·exact z b f e
        ·omega
       have f9:A.SI k=({l with once:=l.once++[k]},false,g):=by
        unfold Arc.SI;rw[if_neg bA,if_neg sD,if_neg hg];dsimp only;rw[Y]
       rw[f9]
       exact⟨_,rfl,rfl,F,D.m.kp W N,λb y=>(Z b y).imp id (λe=>ω),(aF.kp.An aM (λj e=>by
        rcases e with e| e
        ·exact .inr e
        ·exact .inl ω)).An W (λj e=> .inl ω)⟩
  ·rw [decide_eq_false bZ]; refine Q4 O (Sc (R0 O (Q4 O (Sc (R0 O (Ri O (RU (Qz O (QC O (Qf S9 O (Q4 O (Qj YP O lQ ?_)))))))))))); rintro _ w2⟨rfl, rfl⟩; by_cases hg : k ∈ A.Qk
   ·rw[decide_eq_true hg];refine Qe O<|Qb O<|It ?_;have sC:0<A.Qk.length:=y1O hg;obtain⟨q,K⟩:∃q,A.Qh.length / A.Qk.length=q:=⟨_,O⟩;have i9:q<=2000:=by rw[<-K];exact y0c (y0P _ _) mY
    have lR:(A.Qh.length:Int) / (A.Qk.length:Int)=(q:Int):=by rw[<-K];exact(y29 _ _).symm
    refine Qp [27] (λw'=>Ext w2 w') y00 O<|R1 0 O O d<|R1 1 O O d<|Qs 2 O (Rs O) d<|Qs 3 O (QE TD O) d<|qL 4 O (λ_ h=>Q0 U3 O O (h.PO U) O) d<|R1 5 O O d<|Qs 6 O (Rs O) d<|Qs 7 O (QE Sw O) d<|qL 8 O (λ_ h=>Q0 U3 O O (h.PO U) O) d<|R1 9 O O d<|Qs 10 O (Rs O) d<|Qs 11 O (QE Sx O) d<|Qs 12 O (QE Rt O) d ?_;refine qL 13 O (λ_ h=>Q0 SF O O (h.PO U) O) d (Qs 14 O (TM SF O) d (R1 15 O O d (Qs 16 O (Rs O) d (Qs 17 O (QE S9 O) d (Qs 18 O (QE Rt O) d (qL 19 O (λ_ h=>Q0 SF O O (h.PO U) O) d (Qs 20 O (TM SF O) d (Qs 21 O (Yx O O ⟨ω,ω,ω⟩) d ?_))))))));rw[lR];refine Qs 22 O (yma O O) d (Qs 23 O (W7 O O ω) d (Qs 24 O (ymi O O) d (Qs 25 O (Rs O) d (Qs 26 O (QE Sw O) d (U0 [27] (qO 27 (QQ (i:=27) O O (S0 R8 O O O (d.PO U) ξ) ?_)))))));rintro w5⟨P,ai⟩;refine⟨trivial,?_⟩;obtain⟨T,hT⟩:∃T:Int,min (A.size:Int) (A.target+max 1 (q:Int))=T:=⟨_,O⟩;have oh:0<=T/\T<=A.size:=ω
    rw[hT] at P
    replace P:Q8 w5 c (acC A.size T V p) 190:=by
     show Q8 w5 c [I (A.size:Int),(V 0).1,(V 0).2,(V 1).1,(V 1).2,(V 2).1,(V 2).2,(V 3).1,(V 3).2,I T,.map (some p)] _;rw[e2,e3];exact P
    have t:=(h2.ext d).z0F P ai;have Q:=X.z0F oh;obtain⟨C,H⟩:∃C:Arc,{A with target:=T}=C:=⟨_,O⟩;have p9:C.size=A.size:=by rw[<-H]
    have ol:¬C.held k:=by rw[<-H];exact jR
    have sx:k∈C.Qk:=by rw[<-H];exact hg
    rw[H] at t Q;refine qE<|QA.qb (e:=[(0,_),(1,_),(4,_),(5,_)]) ?_;refine Qz O (Qj z2E O (UR t.m Q ω false) ?_);rintro _ w6⟨rfl,V6,L⟩;have R:=Arc.Uz Q false;obtain⟨r6,Y⟩:∃r,C.room false=r:=⟨_,O⟩;rw[Y] at L R⊢;obtain⟨l,g⟩:=r6;dsimp only at L R⊢;have g8:=R.perm.length_eq;have jz:=l.Sa;have oo:=C.Sa;have oq:=Q.total;have u:=((h2.r d).trans t).trans L;have bT:=u.k.PO bu (λe=>z _ e O);refine Qc O (QX (news:=SU false g) QJ O O O O bT ξ) ?_;rintro w7⟨J,G⟩;replace J:Q8 w7 E [.bool false,.bool g.isSome,I (g.getD 0)] 261:=J;have B:=u.mono z a0;have gM:=u.m.kp G B;refine qM O (Q4 O (QC O (Qf S9 O (Q4 O (Qj TT O (Rv gM (j:=2) (k:=k) ψ) ?_)))));rintro _ w8⟨rfl,V8,fX⟩
    have dW:k∉(l.Re 2 ((l.li 2).erase k)).li 1:=by
     show k∉l.often;exact λe=>ol ((R.gone k).1 (.inr e)).1
    refine PR (Sv O (QC O (Qf SC O (Q4 O (Qj Uv O (S8 fX.m (j:=1) (k:=k) ψ dW (by show l.often.length<=_;omega)) ?_)))));rintro _ w9⟨rfl,F,ij⟩;have D:=fX.trans ij;have bM:=D.k.PO J (λe=>B _ e O);have s:=bM
    have Z:∀b,TO c F p b->TO c V p b\/w2.heap.size<=b:=λb y=>by
     rcases D.fp b y with f|f
     ·exact u.fp b f
     ·have:=u.k.size;have:=G.size;exact .inr ω
    have aM:Kp (λj=>TO c V p j\/j=E) w2 w9:=((u.k.PZ λj e=> .inl e).trans (G.PZ λj e=> .inr e)).An D.k (λj e=>by
     rcases u.fp j e with f|f
     ·exact .inr (.inl f)
     ·exact .inl f)
    refine PR (PN (qN O (qV (QB (news:=SU false g) Tj O QJ O (Q8.cells (n:=3) s O) O) (Qc O (QX (news:=SU false g) QJ O O O O s ξ) ?_))));rintro we⟨M,W⟩;replace M:Q8 we E [.bool false,.bool g.isSome,I (g.getD 0)] 261:=M;refine Qe O<|Qy func156 (.cell Tj O QJ O (Q8.cells (n:=3) M (news:=[_,_,_]) O) O (.tmp O .nil)) ?_
    have N:∀b,TO c F p b->b≠E:=λb y e=>by
     rcases Z b y with f|f
     ·exact z b f e
     ·omega
    have f9:A.SI k=({l with Qk:=l.Qk.erase k,often:=l.often++[k]},false,g):=by
     unfold Arc.SI;rw[if_neg bA,if_pos hg];dsimp only;rw[K,hT,H,Y]
    rw[f9]
    exact⟨_,rfl,rfl,F,D.m.kp W N,λb y=>(Z b y).imp id (λe=>ω),(aF.kp.An aM (λj e=>by
     rcases e with e| e
     ·exact .inr e
     ·exact .inl ω)).An W (λj e=> .inl ω)⟩
   ·have sD:=hg;rw[decide_eq_false hg];refine Qe O<|PW O<|Qz O<|QC O<|Qf Sx O<|Q4 O<|Qj YP O qX ?_;rintro _ w2⟨rfl,rfl⟩;by_cases hg:k∈A.Qh
    ·rw[decide_eq_true hg];refine Qe O<|QA.qb (e:=[(0,_),(1,_),(4,_),(5,_),(111,_)]) ?_;refine Qb O<|It ?_;have sC:0<A.Qh.length:=y1O hg;obtain⟨q,K⟩:∃q,A.Qk.length / A.Qh.length=q:=⟨_,O⟩;have i9:q<=2000:=by rw[<-K];exact y0c (y0P _ _) jb
     have lR:(A.Qk.length:Int) / (A.Qh.length:Int)=(q:Int):=by rw[<-K];exact(y29 _ _).symm
     refine Qp [23] (λw'=>Ext w2 w') y00 O<|R1 0 O O d<|R1 1 O O d<|Qs 2 O (Rs O) d<|Qs 3 O (QE Sw O) d<|qL 4 O (λ_ h=>Q0 U3 O O (h.PO U) O) d<|R1 5 O O d<|Qs 6 O (Rs O) d<|Qs 7 O (QE S9 O) d<|Qs 8 O (QE Rt O) d<|qL 9 O (λ_ h=>Q0 SF O O (h.PO U) O) d<|Qs 10 O (TM SF O) d<|R1 11 O O d<|Qs 12 O (Rs O) d ?_;refine Qs 13 O (QE Sx O) d (Qs 14 O (QE Rt O) d (qL 15 O (λ_ h=>Q0 SF O O (h.PO U) O) d (Qs 16 O (TM SF O) d (Qs 17 O (Yx O O ⟨ω,ω,ω⟩) d ?_))));rw[lR];refine Qs 18 O (yma O O) d (Qs 19 O (YS O O ω) d (Qs 20 O (yma O O) d (Qs 21 O (Rs O) d (Qs 22 O (QE Sw O) d (U0 [23] (qO 23 (QQ (i:=23) O O (S0 R8 O O O (d.PO U) ξ) ?_)))))));rintro w5⟨P,ai⟩;refine⟨trivial,?_⟩;obtain⟨T,hT⟩:∃T:Int,max 0 (A.target-max 1 (q:Int))=T:=⟨_,O⟩;have oh:0<=T/\T<=A.size:=ω
     rw[hT] at P
     replace P:Q8 w5 c (acC A.size T V p) 190:=by
      show Q8 w5 c [I (A.size:Int),(V 0).1,(V 0).2,(V 1).1,(V 1).2,(V 2).1,(V 2).2,(V 3).1,(V 3).2,I T,.map (some p)] _;rw[e2,e3];exact P
     have t:=(h2.ext d).z0F P ai;have Q:=X.z0F oh;obtain⟨C,H⟩:∃C:Arc,{A with target:=T}=C:=⟨_,O⟩;have p9:C.size=A.size:=by rw[<-H]
     have ol:¬C.held k:=by rw[<-H];exact jR
     have sx:k∈C.Qh:=by rw[<-H];exact hg
     rw[H] at t Q;refine qE<|QA.qb (e:=[(0,_),(1,_),(4,_),(5,_)]) ?_;refine Qz O (Qj z2E O (UR t.m Q ω true) ?_);rintro _ w6⟨rfl,V6,L⟩;have R:=Arc.Uz Q true;obtain⟨r6,Y⟩:∃r,C.room true=r:=⟨_,O⟩;rw[Y] at L R⊢;obtain⟨l,g⟩:=r6;dsimp only at L R⊢;have g8:=R.perm.length_eq;have jz:=l.Sa;have oo:=C.Sa;have oq:=Q.total;have u:=((h2.r d).trans t).trans L;have bT:=u.k.PO bu (λe=>z _ e O);refine Qc O (QX (news:=SU false g) QJ O O O O bT ξ) ?_;rintro w7⟨J,G⟩;replace J:Q8 w7 E [.bool false,.bool g.isSome,I (g.getD 0)] 261:=J;have B:=u.mono z a0;have gM:=u.m.kp G B;refine qM O (Q4 O (QC O (Qf Sx O (Q4 O (Qj TT O (Rv gM (j:=3) (k:=k) ψ) ?_)))));rintro _ w8⟨rfl,V8,fX⟩
     have dW:k∉(l.Re 3 ((l.li 3).erase k)).li 1:=by
      show k∉l.often;exact λe=>ol ((R.gone k).1 (.inr e)).1
     refine PR (Sv O (QC O (Qf SC O (Q4 O (Qj Uv O (S8 fX.m (j:=1) (k:=k) ψ dW (by show l.often.length<=_;omega)) ?_)))));rintro _ w9⟨rfl,F,ij⟩;have D:=fX.trans ij;have bM:=D.k.PO J (λe=>B _ e O);have s:=bM
     have Z:∀b,TO c F p b->TO c V p b\/w2.heap.size<=b:=λb y=>by
      rcases D.fp b y with f|f
      ·exact u.fp b f
      ·have:=u.k.size;have:=G.size;exact .inr ω
     have aM:Kp (λj=>TO c V p j\/j=E) w2 w9:=((u.k.PZ λj e=> .inl e).trans (G.PZ λj e=> .inr e)).An D.k (λj e=>by
      rcases u.fp j e with f|f
      ·exact .inr (.inl f)
      ·exact .inl f)
     refine PR (PN (qN O (qV (QB (news:=SU false g) Tj O QJ O (Q8.cells (n:=3) s O) O) (Qc O (QX (news:=SU false g) QJ O O O O s ξ) ?_))));rintro we⟨M,W⟩;replace M:Q8 we E [.bool false,.bool g.isSome,I (g.getD 0)] 261:=M;refine Qe O<|Qy func156 (.cell Tj O QJ O (Q8.cells (n:=3) M (news:=[_,_,_]) O) O (.tmp O .nil)) ?_
     have N:∀b,TO c F p b->b≠E:=λb y e=>by
      rcases Z b y with f|f
      ·exact z b f e
      ·omega
     have f9:A.SI k=({l with Qh:=l.Qh.erase k,often:=l.often++[k]},false,g):=by
      unfold Arc.SI;rw[if_neg bA,if_neg sD,if_pos hg];dsimp only;rw[K,hT,H,Y]
     rw[f9]
     exact⟨_,rfl,rfl,F,D.m.kp W N,λb y=>(Z b y).imp id (λe=>ω),(aF.kp.An aM (λj e=>by
      rcases e with e| e
      ·exact .inr e
      ·exact .inl ω)).An W (λj e=> .inl ω)⟩
    ·rw[decide_eq_false hg];refine Qe O<|QA.qb (e:=[(0,_),(1,_),(4,_),(5,_),(111,_)]) ?_;refine PW O<|Qz O<|Qj zbH O (z1Z h2 X cM) ?_;rintro _ w6⟨rfl,V6,L⟩;have dV:=Arc.z4X X;obtain⟨r6,Y⟩:∃r,A.add=r:=⟨_,O⟩;rw[Y] at L dV⊢;obtain⟨l,g⟩:=r6;dsimp only at L dV⊢;obtain⟨fG,-,-⟩:=dV;have jz:=l.Sa;have u:=L;have bT:=u.k.PO bu (λe=>z _ e O);refine Qc O (QX (news:=SU false g) QJ O O O O bT ξ) ?_;rintro w7⟨J,G⟩;replace J:Q8 w7 E [.bool false,.bool g.isSome,I (g.getD 0)] 261:=J;have B:=u.mono z a0;have gM:=u.m.kp G B
     have dW:k∉l.li 0:=by
      show k∉l.once;exact λe=>jR ((fG.gone k).1 (.inl e)).1
     have o4:=fG.Zt;refine PR (Sv O (QC O (Qf RS O (Q4 O (Qj Uv O (S8 gM (j:=0) (k:=k) ψ dW (by show l.once.length<=_;omega)) ?_)))));rintro _ w9⟨rfl,F,ij⟩;have D:=ij;have bM:=D.k.PO J (λe=>B _ e O);have s:=bM
     have Z:∀b,TO c F p b->TO c V p b\/w2.heap.size<=b:=λb y=>by
      rcases D.fp b y with f|f
      ·exact u.fp b f
      ·have:=u.k.size;have:=G.size;exact .inr ω
     have aM:Kp (λj=>TO c V p j\/j=E) w2 w9:=((u.k.PZ λj e=> .inl e).trans (G.PZ λj e=> .inr e)).An D.k (λj e=>by
      rcases u.fp j e with f|f
      ·exact .inr (.inl f)
      ·exact .inl f)
     refine PR (PN (qN O (qV (QB (news:=SU false g) Tj O QJ O (Q8.cells (n:=3) s O) O) (Qc O (QX (news:=SU false g) QJ O O O O s ξ) ?_))));rintro we⟨M,W⟩;replace M:Q8 we E [.bool false,.bool g.isSome,I (g.getD 0)] 261:=M;refine Qe O<|Qy func156 (.cell Tj O QJ O (Q8.cells (n:=3) M (news:=[_,_,_]) O) O (.tmp O .nil)) ?_
     have N:∀b,TO c F p b->b≠E:=λb y e=>by
      rcases Z b y with f|f
      ·exact z b f e
      ·omega
     have f9:A.SI k=({l with once:=l.once++[k]},false,g):=by
      unfold Arc.SI;rw[if_neg bA,if_neg sD,if_neg hg];dsimp only;rw[Y]
     rw[f9]
     exact⟨_,rfl,rfl,F,D.m.kp W N,λb y=>(Z b y).imp id (λe=>ω),(aF.kp.An aM (λj e=>by
      rcases e with e| e
      ·exact .inr e
      ·exact .inl ω)).An W (λj e=> .inl ω)⟩
end
def Arc.z9T (A:Arc)(k:Int):Nat->Arc
 |0=>A
 |i+1=>(A.z9T k i).Re i (((A.z9T k i).li i).erase k)
def Arc.drop (A:Arc)(k:Int):Arc:=A.z9T k 4
theorem Arc.drop_eq (A:Arc)(k:Int):A.drop k={A with once:=A.once.erase k,often:=A.often.erase k,Qk:=A.Qk.erase k,Qh:=A.Qh.erase k}:=rfl
theorem Arc.Ok.drop (h:A.Ok)(k:Int):(A.drop k).Ok:=by
 rw[Arc.drop_eq]
 have d:(A.once.erase k++(A.often.erase k++(A.Qk.erase k++A.Qh.erase k))).Sublist A.all:=y2R.append (y2R.append (y2R.append y2R))
 have e:(A.once.erase k).length<=A.once.length:=y2d
 have a2:(A.often.erase k).length<=A.often.length:=y2d
 have f:(A.Qk.erase k).length<=A.Qk.length:=y2d
 have g:=h.held
 have j:=h.first
 exact⟨h.pos,h.nd.sublist d,by dsimp only;omega,by dsimp only;omega,y0c d.length_le h.total,h.tg⟩
theorem Arc.za8 (h:A.Ok)(k x:Int):(A.drop k).held x↔A.held x/\x≠k:=by
 have e:=h.nd
 unfold Arc.all at e
 rw[y0J] at e
 obtain⟨f,d,-⟩:=e
 rw[y0J] at d
 obtain⟨g,-,-⟩:=d
 rw[Arc.drop_eq]
 unfold Arc.held
 dsimp only
 rw[f.mem_erase_iff,g.mem_erase_iff]
 constructor
 ·rintro(⟨a,b⟩|⟨a,b⟩)
  ·exact⟨.inl b,a⟩
  ·exact⟨.inr b,a⟩
 ·rintro⟨b|b,a⟩
  ·exact .inl ⟨a,b⟩
  ·exact .inr ⟨a,b⟩
section
theorem zbp (h:TY w c A V p):Qx prog 145 [ptr c 0,I k] w λv w'=>(∃z,v=I z)/\∃V',XE w c V p w' (A.drop k) V':=by
 have hB:=h.cells
 have G:=WU h (j:=2) (k:=k) ψ
 have H:=WU h (j:=3) (k:=k) ψ
 rw[show A.li 2=A.Qk from rfl] at G
 rw[show A.li 3=A.Qh from rfl] at H
 refine py (e:=[(0,_),(1,_)]) func145 O ntmps145 O O<|RY O<|It<|QT (λB w'=>B=[(0,ptr c 0),(1,I k)]/\w'=w) ?dT<|λdT=>?kN
 case dT=>
  rintro B w1⟨rfl,rfl⟩;have hg:=Ext.Qm w1;refine It<|It<|Sq (λw'=>Ext w1 w') O<|Ql 0 O O (hg)<|PV 1 O (Rs O) hg<|PV 2 O (QE RS O) hg<|Ql 3 O O (hg)<|PV 4 O (Rs O) hg<|PV 5 O (QE SC O) hg<|Ql 6 O O (hg)<|PV 7 O (Rs O) hg<|PV 8 O (QE S9 O) hg<|Ql 9 O O (hg)<|PV 10 O (Rs O) hg ?_;refine PV 11 O (QE Sx O) hg (Ql 14 O O (hg) (qO 12 (ZS (i:=12) O O O (YI (cs:=[_,_,_,_]) (zs:=[Value.pointer none,Value.pointer none,Value.pointer none,Value.pointer none]) zh1 zfc O y00 O O O ψ) ?_)));rintro _ w2⟨d,rfl,⟨J,q,Z⟩,C⟩;refine⟨hg.trans q,?_⟩;have D:=hg.trans q;refine PV 13 O (TM zh1 O) (hg.trans q)<|qE<|PT ?_;have P:∀{b:Nat},TO c V p b->b<w1.heap.size:=h.lt;have s:=C.lt (g:=d) O;have Y:=hg.size;have L:=C.rd;refine SN (α:=Nat×(Nat->Value×Value)) (0,V) (λx=>[(1,I k),(51,.slice (some ⟨d,0,none⟩) 4 4),(52,I 4),(53,I (x.1:Int))]) (λx w'=>x.1<=4/\XE w2 c V p w' (A.z9T k x.1) x.2/\Rd w' (.slice (some ⟨d,0,none⟩) 4 4) 1 4 [ptr c 1,ptr c 3,ptr c 5,ptr c 7]) (λx=>4-x.1) ?hI ?hround
  case hI=>exact⟨y03 _,(h.ext D).r (Ext.refl w2),L⟩
  case hround=>
   rintro⟨i,N⟩ t ⟨hi,f,o⟩ F;dsimp only at hi f o F⊢
   try dsimp only
   refine qN O<|RT O<|PR<|It<|Qa O (λQ=>?_)<|λQ=>?_
   ·have l:i<4:=ω
    have W:([ptr c 1,ptr c 3,ptr c 5,ptr c 7]:List Value)[i]? =some (ptr c (1+2*i)):=by
     match i,l with
     |0,_|1,_|2,_|3,_=>rfl
    refine PS (RU (qN O (qV (Rk zh1 zfc O O ω) (qV (QH zlM O O (Rg o W)) (Qe O (PY O (Qq O (Qj TT O (Rv f.m (j:=i) (k:=k) l) ?_))))))));rintro _ T⟨rfl,M,E⟩;refine PR (PN (PY O (Ra O (Q4 O (PR ((F (i+1,M) _ ⟨l,f.trans E,o.kp E.k λg e U=>?_⟩ (by dsimp only;omega)).qb))))));have B:d=g:=SJ e;rcases f.fp _ U with e| e
    ·have:=P e;have a:d=w1.drew.heap.size:=J;omega
    ·omega
   ·have l:i=4:=ω
    subst l;refine Q7 O<|RY O<|PQ func145 O ?_;exact⟨_,O,⟨0,O⟩,N,(h.r D).trans f⟩
 case kN =>
  refine PT<|Qz O<|qV (Rm zbm O O)<|Qe O<|PW O<|RK O<|Qj zgh O (z3N h (k:=k)) ?_;rintro _ w⟨rfl,rfl⟩;by_cases n:k∈A.once\/k∈A.often
  ·rw[decide_eq_true n];refine qV (Tf O)<|Q4 O<|Sc<|Sc<|Sc<|R0 O<|Q4 O<|Sc<|Sc<|Sc<|R0 O<|Qe O<|QA.qb (e:=[(0,_),(1,_),(4,_),(10,_)]) ?_;refine PW O<|Qz O<|QC O<|Qf z1J O<|qV (Q0 XC O O hB O)<|Q4 O<|qV (ylk (k:=k) (K:=KI) XC (Tk U3) R8 O O h.pins)<|RR O<|QW<|Qe O<|Us O<|PN ?_;exact(dT _ _ ⟨O,O⟩).qb
  ·rw [decide_eq_false n]; refine qV (Tf O) (Qq O (QC O (Qf S9 O (Q4 O (Qj YP O G ?_))))); rintro _ w⟨rfl, rfl⟩; by_cases u : k ∈ A.Qk
   ·rw[decide_eq_true u];refine qV (Tf O)<|Sh O<|Q4 O<|Sc<|Sc<|Sc<|R0 O<|Qe O<|QA.qb (e:=[(0,_),(1,_),(4,_),(10,_)]) ?_;refine PW O<|Qz O<|QC O<|Qf z1J O<|qV (Q0 XC O O hB O)<|Q4 O<|qV (ylk (k:=k) (K:=KI) XC (Tk U3) R8 O O h.pins)<|RR O<|QW<|Qe O<|Us O<|PN ?_;exact(dT _ _ ⟨O,O⟩).qb
   ·rw[decide_eq_false u];refine qV (Tf O)<|Sh O<|Qq O<|QC O<|Qf Sx O<|Q4 O<|Qj YP O H ?_;rintro _ w⟨rfl,rfl⟩;by_cases y:k∈A.Qh
    ·rw[decide_eq_true y];refine qV (Tf O)<|Sh O<|Qe O<|QA.qb (e:=[(0,_),(1,_),(4,_),(10,_)]) ?_;refine PW O<|Qz O<|QC O<|Qf z1J O<|qV (Q0 XC O O hB O)<|Q4 O<|qV (ylk (k:=k) (K:=KI) XC (Tk U3) R8 O O h.pins)<|RR O<|QW<|Qe O<|Us O<|PN ?_;exact(dT _ _ ⟨O,O⟩).qb
    ·rw[decide_eq_false y];refine qV (Tf O)<|Sh O<|Qe O<|QA.qb (e:=[(0,_),(1,_),(4,_),(10,_)]) ?_;refine Qb O<|RY O<|PQ func145 O ?_
     have R:A.drop k=A:=by
      rw[Arc.drop_eq,y1A (λe=>n (.inl e)),y1A (λe=>n (.inr e)),y1A u,y1A y]
     rw[R];exact⟨_,O,⟨6,O⟩,V,h.r (Ext.refl w)⟩
end
structure Pg where
 k:Int
 b:Nat
 t:PU
 d:Bool
def Vo (l:List Pg):List (Int×Value):=l.map λg=>(g.k,ptr g.b 0)
def pgC (t:PU)(d:Bool):List Value:=[S t,.bool d,I 0]
structure Sf where
 s:Nat
 d:Nat
 m:Nat
 gi:Nat
 c:Nat
 pm:Nat
 p:Nat
 fr:Nat
 V:Nat->Value×Value
 D:Dev
 A:Arc
 l:List Pg
 L:List Bool
 Fd:Nat->Prop
 h:Int
 mi:Int
 wr:Int
def Sf.cp (P:Sf):Nat->Nat->Prop
 |0,b=>b=P.s
 |1,b=>P.Fd b
 |2,b=>b=P.m\/b=P.gi
 |3,b=>TO P.c P.V P.p b
 |4,b=>b=P.pm
 |5,b=>∃g∈P.l,g.b=b
 |_,_=>False
def Sf.fp (P:Sf)(b:Nat):Prop:=∃i,P.cp i b
def plC (P:Sf):List Value:=[ptr P.d 0,ptr P.m 0,ptr P.c 0,.map (some P.pm),I (P.fr:Int),I P.h,I P.mi,I P.wr,I 0,I 0,I 0,.bool false]
def Dis (f:Nat->Nat->Prop):Prop:=∀i j,i≠j->∀b,f i b->¬f j b
structure VC (w:World)(P:Sf):Prop where
 PO:Q8 w P.s (plC P) 119
 dev:Xw w P.d P.D P.Fd
 ext:YY w P.m P.gi P.L
 arc:TY w P.c P.A P.V P.p
 mp:TR KI w P.pm (Vo P.l)
 pg:∀g∈P.l,Q8 w g.b (pgC g.t g.d) 220
 pnd:(P.l.map (·.b)).Nodup
 Wt:Dis P.cp
section
variable {P P0 P':Sf}{S:Nat->Prop}{i0:Nat}
theorem VC.lt (h:VC w P)(d:P.fp b):b<w.heap.size:=by
 obtain⟨i,hi⟩:=d
 match i,hi with
 |0,e=>rw[show b=P.s from e];exact h.PO.lt
 |1,e=>exact h.dev.lt b e
 | 2, e =>
   rcases e with e| e
   ·rw[e];exact h.ext.ltm
   ·rw[e];exact h.ext.ltg
 |3,e=>exact h.arc.lt e
 |4,e=>rw[show b=P.pm from e];exact h.mp.lt
 |5,⟨g,hg,e⟩=>rw[<-e];exact(h.pg g hg).lt
def VC.kp (h:VC w P)(e:Kp S w w')(d:∀b,P.fp b->¬S b):VC w' P:=
 ⟨e.PO h.PO (d _ ⟨0,rfl⟩),h.dev.kp e λb f=>d b ⟨1,f⟩,h.ext.kp e (d _ ⟨2,.inl O⟩) (d _ ⟨2,.inr O⟩),h.arc.kp e λb f=>d b ⟨3,f⟩,h.mp.kp e (d _ ⟨4,rfl⟩),λg hg=>e.PO (h.pg g hg) (d _ ⟨5,g,hg,rfl⟩),h.pnd,h.Wt⟩
theorem VC.ext' (h:VC w P)(d:Ext w w'):VC w' P:=h.kp (S:=λ_=>False) d λ_ _=>id
def VC.za6 (h:VC w P)(d:Kp (P.cp i0) w w')(ne:0≠i0):Q8 w' P.s (plC P) 119:=d.PO h.PO (h.Wt 0 i0 ne _ O)
theorem VC.zaD (h:VC w P)(f:Kp (P.cp i0) w w')(ne:1≠i0):Xw w' P.d P.D P.Fd:=h.dev.kp f λb e=>h.Wt 1 i0 ne b e
def VC.text (h:VC w P)(d:Kp (P.cp i0) w w')(ne:2≠i0):YY w' P.m P.gi P.L:=h.ext.kp d (h.Wt 2 i0 ne _ (.inl O)) (h.Wt 2 i0 ne _ (.inr O))
theorem VC.zb6 (h:VC w P)(e:Kp (P.cp i0) w w')(ne:3≠i0):TY w' P.c P.A P.V P.p:=h.arc.kp e λb d=>h.Wt 3 i0 ne b d
def VC.tmp (h:VC w P)(d:Kp (P.cp i0) w w')(ne:4≠i0):TR KI w' P.pm (Vo P.l):=h.mp.kp d (h.Wt 4 i0 ne _ O)
def VC.tpg (h:VC w P)(e:Kp (P.cp i0) w w')(ne:5≠i0):∀g∈P.l,Q8 w' g.b (pgC g.t g.d) 220:=λg hg=>e.PO (h.pg g hg) (h.Wt 5 i0 ne _ ⟨g,hg,rfl⟩)
def VC.zc9 (h:VC w P)(m:∀i,i≠i0->P'.cp i=P.cp i)(hi:∀b,P'.cp i0 b->P.cp i0 b\/∀i,¬P.cp i b):Dis P'.cp:=λi j ne b l d=>by
 by_cases e:i=i0
 ·have f:j≠i0:=λf=>ne (e.trans f.symm);rw[e] at l;rw[m j f] at d;rcases hi b l with g|g
  ·exact h.Wt i0 j (λn=>f n.symm) b g d
  ·exact g j d
 ·rw[m i e] at l;by_cases f:j=i0
  ·rw[f] at d;rcases hi b d with g|g
   ·exact h.Wt i i0 e b l g
   ·exact g i l
  ·rw[m j f] at d;exact h.Wt i j ne b l d
def VC.new (h:VC w P)(d:w.heap.size<=b):∀i,¬P.cp i b:=λi e=>by have:=h.lt ⟨i,e⟩;omega
structure VI (w0:World)(P0:Sf)(w:World)(P:Sf):Prop where
 m:VC w P
 fp:∀b,P.fp b->P0.fp b\/w0.heap.size<=b
 k:Kp P0.fp w0 w
theorem VC.r (h:VC w P)(d:Ext w w'):VI w P w' P:=⟨h.ext' d,λb e=> .inl e,d.kp⟩
theorem VI.ext (h:VI w0 P0 w P)(d:Ext w w'):VI w0 P0 w' P:=⟨h.m.ext' d,h.fp,h.k.trans d.kp⟩
theorem VI.loc (h:VI w0 P0 w P)(f:Kp S w w')(d:∀b,S b->(P0.fp b\/w0.heap.size<=b)/\∀i,¬P.cp i b):VI w0 P0 w' P:=
 ⟨h.m.kp f λb ⟨i,g⟩ e=>(d b e).2 i g,h.fp,h.k.An f λb e=>(d b e).1.symm⟩
theorem VI.part (h:VI w0 P0 w P)(i0:Nat)(j:VC w' P')(l:∀i,i≠i0->P'.cp i=P.cp i)(hi:∀b,P'.cp i0 b->P.cp i0 b\/w0.heap.size<=b)(g:Kp (P.cp i0) w w'):VI w0 P0 w' P':=
 ⟨j,λb ⟨i,d⟩=>by
  by_cases e:i=i0
  ·rw[e] at d;rcases hi b d with f|f
   ·exact h.fp b ⟨i0,f⟩
   ·exact .inr f
  ·rw[l i e] at d
   exact h.fp b ⟨i,d⟩,h.k.An g λb d=>(h.fp b ⟨i0,d⟩).symm⟩
theorem VI.trans {g:Sf}(h:VI w0 P0 w P)(d:VI w P w2 g):VI w0 P0 w2 g:=
 ⟨d.m,λb f=>by
  rcases d.fp b f with e| e
  ·exact h.fp b e
  ·exact .inr (by have:=h.k.size;omega),h.k.An d.k λb f=>(h.fp b f).symm⟩
theorem VI.dev (h:VI w0 P0 w P)(ht:zar w P.d P.Fd D' w'):∃g,VI w0 P0 w' {P with D:=D',Fd:=g}/\∀b,g b->P.Fd b\/w.heap.size<=b:=by
 obtain⟨n,q,j⟩:=ht
 have o:∀i,i≠1->Sf.cp {P with D:=D',Fd:=n} i=P.cp i:=λi e=>by
  match i,e with
  |0,_|2,_|3,_|4,_|5,_=>rfl
  |i+6,_=>rfl
 have f:Kp (P.cp 1) w w':=j.1
 refine⟨n,h.part 1 ⟨h.m.za6 f ψ,q,h.m.text f ψ,h.m.zb6 f ψ,h.m.tmp f ψ,h.m.tpg f ψ,h.m.pnd,h.m.zc9 o λb l=>?_⟩ o (λb l=>?_) f,j.2⟩
 ·exact(j.2 b l).imp id λe=>h.m.new e
 ·exact(j.2 b l).imp id λe=>by have:=h.k.size;omega
theorem VI.arc (h:VI w0 P0 w P)(f:XE w P.c P.V P.p w' A' V'):VI w0 P0 w' {P with A:=A',V:=V'}:=by
 have j:∀i,i≠3->Sf.cp {P with A:=A',V:=V'} i=P.cp i:=λi e=>by
  match i,e with
  |0,_|1,_|2,_|4,_|5,_=>rfl
  |i+6,_=>rfl
 have d:Kp (P.cp 3) w w':=f.k
 refine h.part 3 ⟨h.m.za6 d ψ,h.m.zaD d ψ,h.m.text d ψ,f.m,h.m.tmp d ψ,h.m.tpg d ψ,h.m.pnd,h.m.zc9 j λb g=>?_⟩ j (λb g=>?_) d
 ·exact(f.fp b g).imp id λe=>h.m.new e
 ·exact(f.fp b g).imp id λe=>by have:=h.k.size;omega
theorem VI.exM (h:VI w0 P0 w P)(j:YY w' P.m P.gi L')(d:Kp (λb=>b=P.gi) w w'):VI w0 P0 w' {P with L:=L'}:=by
 have g:∀i,i≠2->Sf.cp {P with L:=L'} i=P.cp i:=λi e=>by
  match i,e with
  |0,_|1,_|3,_|4,_|5,_=>rfl
  |i+6,_=>rfl
 have d:Kp (P.cp 2) w w':=d.PZ λb e=> .inr e
 exact h.part 2 ⟨h.m.za6 d ψ,h.m.zaD d ψ,j,h.m.zb6 d ψ,h.m.tmp d ψ,h.m.tpg d ψ,h.m.pnd,h.m.zc9 g λb f=> .inl f⟩ g (λb f=> .inl f) d
theorem VI.cnt (h:VI w0 P0 w P){a b c:Int}(hB:Q8 w' P.s (plC {P with h:=a,mi:=b,wr:=c}) 119)(d:Kp (λb=>b=P.s) w w'):VI w0 P0 w' {P with h:=a,mi:=b,wr:=c}:=by
 have g:∀i,i≠0->Sf.cp {P with h:=a,mi:=b,wr:=c} i=P.cp i:=λi e=>by
  match i,e with
  |1,_|2,_|3,_|4,_|5,_=>rfl
  |i+6,_=>rfl
 have d:Kp (P.cp 0) w w':=d
 exact h.part 0 ⟨hB,h.m.zaD d ψ,h.m.text d ψ,h.m.zb6 d ψ,h.m.tmp d ψ,h.m.tpg d ψ,h.m.pnd,h.m.zc9 g λb f=> .inl f⟩ g (λb f=> .inl f) d
theorem VI.del (h:VI w0 P0 w P){l':List Pg}(o:l'.Sublist P.l)(r:TR KI w' P.pm (Vo l'))(d:Kp (λb=>b=P.pm) w w'):VI w0 P0 w' {P with l:=l'}:=by
 have d:Kp (P.cp 4) w w':=d
 have n:∀i b,Sf.cp {P with l:=l'} i b->P.cp i b:=λi b f=>by
  match i,f with
  |0,e|1,e|2,e|3,e|4,e=>exact e
  |5,⟨g,hg,e⟩=>exact⟨g,o.subset hg,e⟩
 have u:=h.m.tpg d ψ
 exact⟨⟨h.m.za6 d ψ,h.m.zaD d ψ,h.m.text d ψ,h.m.zb6 d ψ,r,λg hg=>u g (o.subset hg),(o.map _).nodup h.m.pnd,λi j ne b f q=>h.m.Wt i j ne b (n i b f) (n j b q)⟩,λb ⟨i,f⟩=>h.fp b ⟨i,n i b f⟩,h.k.An d λb f=>(h.fp b ⟨4,f⟩).symm⟩
theorem VI.ins (h:VI w0 P0 w P){g:Pg}(hg:w0.heap.size<=g.b/\∀i,¬P.cp i g.b)(n:Q8 w g.b (pgC g.t g.d) 220)(z:TR KI w' P.pm (Vo (P.l++[g])))(o:Kp (λb=>b=P.pm) w w'):VI w0 P0 w' {P with l:=P.l++[g]}:=by
 have o:Kp (P.cp 4) w w':=o
 have B:=h.m.tpg o ψ
 have v:∀i b,Sf.cp {P with l:=P.l++[g]} i b->P.cp i b\/(i=5/\b=g.b):=λi b n=>by
  match i,n with
  |0,e|1,e|2,e|3,e|4,e=>exact .inl e
  | 5, ⟨u, r, e⟩ =>
    rcases y0x.1 r with q|q
    ·exact .inl ⟨u,q,e⟩
    ·rw[y0F.1 q] at e;exact .inr ⟨O,e.symm⟩
 refine⟨⟨h.m.za6 o ψ,h.m.zaD o ψ,h.m.text o ψ,h.m.zb6 o ψ,z,λu r=>?_,?_,λi j ne b n x=>?_⟩,λb ⟨i,n⟩=>?_,h.k.An o λb n=>(h.fp b ⟨4,n⟩).symm⟩
 ·rcases y0x.1 r with e| e
  ·exact B u e
  ·rw[y0F.1 e];exact o.PO n (hg.2 4)
 ·show((P.l++[g]).map (·.b)).Nodup;rw[y0f,y0J];refine⟨h.m.pnd,ξ,λa y b n e=>?_⟩;obtain⟨u,r,rfl⟩:=y0g.1 y;rw[y2L,y0F] at n;exact hg.2 5 ⟨u,r,e.trans n⟩
 ·rcases v i b n with e|⟨e,q⟩
  ·rcases v j b x with f|⟨f,f2⟩
   ·exact h.m.Wt i j ne b e f
   ·rw[f2] at e;exact hg.2 i e
  ·rcases v j b x with f|⟨f,f2⟩
   ·rw[q] at f;exact hg.2 j f
   ·exact ne (e.trans f.symm)
 ·rcases v i b n with e|⟨e,q⟩
  ·exact h.fp b ⟨i,e⟩
  ·rw[q];exact .inr hg.1
theorem TW {α β:Type}{f:α->β}:∀{l:List α},(l.map f).Nodup->∀{a b:α},a∈l->b∈l->f a=f b->a=b
 |[],_,a,b,ha,_,_=>by cases ha
 | x :: l, hn, a, b, ha, hb, e => by
   rw[y0j,y11] at hn;rcases y0h.1 ha with g|g
   ·rcases y0h.1 hb with d|d
    ·rw[g,d]
    ·exact absurd (y0g.2 ⟨b,d,by rw[<-e,g]⟩) hn.1
   ·rcases y0h.1 hb with d|d
    ·exact absurd (y0g.2 ⟨a,g,by rw[e,d]⟩) hn.1
    ·exact TW hn.2 g d e
def SY (l:List Pg)(k:Int)(t:PU)(d:Bool):List Pg:=l.map λg=>if g.k=k then {g with t:=t,d:=d} else g
theorem zcr (l:List Pg)(k:Int)(t:PU)(d:Bool):Vo (SY l k t d)=Vo l:=by
 unfold Vo SY
 rw[y1j]
 refine y0N λg _=>?_
 by_cases h:g.k=k
 ·simp only[y2D,if_pos h]
 ·simp only[y2D,if_neg h]
theorem z4p (l:List Pg)(k:Int)(t:PU)(d:Bool):(SY l k t d).map (·.b)=l.map (·.b):=by
 unfold SY
 rw[y1j]
 refine y0N λg _=>?_
 show Pg.b (if _ then _ else _)=_
 split<;>rfl
theorem VI.zi2 (h:VI w0 P0 w P){g:Pg}(hg:g∈P.l){d:Bool}(n:Q8 w' g.b (pgC t d) 220)(x:Kp (λb=>b=g.b) w w'):VI w0 P0 w' {P with l:=SY P.l g.k t d}:=by
 have v:=h.m.mp.nd
 have C:∀b,(∃f∈SY P.l g.k t d,f.b=b)↔∃f∈P.l,f.b=b:=λb=>by
  have e:=z4p P.l g.k t d;constructor
  ·rintro⟨f,q,rfl⟩;have:f.b∈P.l.map (·.b):=by rw[<-e];exact y0g.2 ⟨f,q,O⟩
   obtain⟨j,a,b⟩:=y0g.1 this;exact⟨j,a,b⟩
  ·rintro⟨f,q,rfl⟩;have:f.b∈(SY P.l g.k t d).map (·.b):=by rw[e];exact y0g.2 ⟨f,q,O⟩
   obtain⟨j,a,b⟩:=y0g.1 this;exact⟨j,a,b⟩
 have y:∀i,i≠5->Sf.cp {P with l:=SY P.l g.k t d} i=P.cp i:=λi e=>by
  match i,e with
  |0,_|1,_|2,_|3,_|4,_=>rfl
  |i+6,_=>rfl
 have o:Kp (P.cp 5) w w':=x.PZ λb e=>⟨g,hg,e.symm⟩
 have hi:∀b,Sf.cp {P with l:=SY P.l g.k t d} 5 b->P.cp 5 b:=λb n=>(C b).1 n
 refine h.part 5 ⟨h.m.za6 o ψ,h.m.zaD o ψ,h.m.text o ψ,h.m.zb6 o ψ,?_,λf q=>?_,?_,h.m.zc9 y λb n=> .inl (hi b n)⟩ y (λb n=> .inl (hi b n)) o
 ·show TR KI w' P.pm (Vo (SY P.l g.k t d));rw[zcr];exact h.m.tmp o ψ
 ·obtain⟨j,r,rfl⟩:=y0g.1 q;by_cases e:j.k=g.k
  ·rw[if_pos e]
   have u:j=g:=by
    unfold Vo at v;rw[y1j] at v;have z:(P.l.map (·.k)).Nodup:=v;exact TW z r hg e
   rw[u];exact n
  ·rw[if_neg e];have B:j.b≠g.b:=λu=>e (by rw[TW h.m.pnd r hg u]);exact x.PO (h.m.pg j r) B
 ·show((SY P.l g.k t d).map (·.b)).Nodup;rw[z4p];exact h.m.pnd
end
def T8 (l:List Pg):Nat:=l.countP (·.d)
structure Xp (P:Sf)(txt:Int->PU)(K:Nat):Prop where
 aok:P.A.Ok
 asz:P.A.size<=1000
 keys:∀x,x∈P.l.map (·.k)↔P.A.held x
 nd:(P.l.map (·.k)).Nodup
 rng:∀g∈P.l,0<=g.k/\g.k<(P.L.length:Int)
 tx:∀g∈P.l,g.t=txt g.k
 cl:∀g∈P.l,g.d=false->P.D.now g.k=txt g.k
 out:∀x,0<=x->x<(P.L.length:Int)->¬P.A.held x->P.D.now x=txt x
 len:∀x,0<=x->x<(P.L.length:Int)->(txt x).length=512
 down:P.D.down=false
 due:P.D.due=0
 B:P.D.B=P.L.length
 N:P.D.N=1
 ca:P.D.calls+(T8 P.l:Int)<=(K:Int)
 cc:P.D.cache.length+T8 P.l<=K
 TF:P.D.TF.length<=17592186044416
def z0C (txt:Int->PU)(no:Int)(wt:Option PU):Int->PU:=λx=>if x=no then wt.getD (txt x) else txt x
theorem z0p (txt:Int->PU)(no:Int):z0C txt no none=txt:=by
 funext x
 unfold z0C
 split<;>rfl
theorem Th (txt:Int->PU)(no:Int)(wt:Option PU):z0C txt no wt no=wt.getD (txt no):=if_pos O
theorem SL (txt:Int->PU){no x:Int}(wt:Option PU)(h:x≠no):z0C txt no wt x=txt x:=if_neg h
def wN (wt:Option PU):Nat:=if wt.isSome then 1 else 0
theorem z58 (D:Dev)(n x:Int)(s:PU):((D.push n s).count).now x=if n=x then s else D.now x:=by
 unfold Dev.now Dev.count Dev.push
 dsimp only
 rw[z8d]
 split<;>rfl
theorem z4a (D:Dev)(z:Int)(x:Int):({D with reads:=z}:Dev).now x=D.now x:=rfl
section
variable {P:Sf}{no:Int}{wt:Option PU}
def z0V (no:Int)(t:PU):∀{l:List Pg},(l.map (·.k)).Nodup->T8 (SY l no t true)<=T8 l+1
 |[],_=>y03 _
 | g :: l, hn => by
   rw[y0j,y11] at hn;by_cases h:g.k=no
   ·have e:SY l no t true=l:=by
     unfold SY
     conv=>rhs;rw[<-y2G l]
     refine y0N λm j=>?_;rw[if_neg λe=>hn.1 (y0g.2 ⟨m,j,by rw[e,h]⟩)];rfl
    have f:SY (g::l) no t true={g with t:=t,d:=true}::l:=by
     show(if g.k=no then _ else g)::SY l no t true=_;rw[if_pos h,e]
    rw[f];unfold T8;rw[y0Z,y0Z];split<;>split<;>omega
   ·have n:=z0V no t hn.2
    have f:SY (g::l) no t true=g::SY l no t true:=by
     show(if g.k=no then _ else g)::SY l no t true=_;rw[if_neg h]
    rw[f];unfold T8 at*;rw[y0Z,y0Z];omega
theorem z2n {l:List Pg}(j:(l.map (·.k)).Nodup){g:Pg}(hg:g∈l):SY l g.k g.t g.d=l:=by
 unfold SY
 conv=>rhs;rw[<-y2G l]
 refine y0N λf e=>?_
 by_cases h:f.k=g.k
 ·rw[if_pos h,TW j e hg h];rfl
 ·rw[if_neg h];rfl
theorem z9G (l:List Pg)(k:Int)(t:PU)(d:Bool):(SY l k t d).map (·.k)=l.map (·.k):=by
 unfold SY
 rw[y1j]
 refine y0N λg _=>?_
 by_cases h:g.k=k
 ·simp only[y2D,if_pos h]
 ·simp only[y2D,if_neg h]
def z0u {l:List Pg}{d:Bool}{g:Pg}(h:g∈SY l k t d):(g∈l/\g.k≠k)\/(g.k=k/\g.t=t/\g.d=d/\∃f∈l,f.k=k):=by
 obtain⟨f,j,rfl⟩:=y0g.1 h
 by_cases e:f.k=k
 ·rw[if_pos e];exact .inr ⟨e,O,O,f,j,e⟩
 ·rw[if_neg e];exact .inl ⟨j,e⟩
theorem Xp.hit (h:Xp P txt K){g:Pg}(hg:g∈P.l)(J:∀t,wt=some t->t.length=512){m:Sf}(C:m.A=(P.A.SI g.k).1)(o:m.l=SY P.l g.k (wt.getD g.t) (wt.isSome ||g.d))(v:m.L=P.L)(f:m.D=P.D):Xp m (z0C txt g.k wt) (K+wN wt):=by
 have ht:=Arc.z2S h.aok g.k
 have z:P.A.held g.k:=(h.keys _).1 (y0g.2 ⟨g,hg,O⟩)
 have H:=ht.no (ht.hit.2 z)
 have F:∀x,m.A.held x↔P.A.held x:=λx=>by
  rw[C,ht.held,H];constructor
  ·rintro(e|e)
   ·rw[e];exact z
   ·exact e.1
  ·intro e;exact .inr ⟨e,ξ⟩
 have I:=h.rng g hg
 have R:T8 m.l<=T8 P.l+wN wt:=by
  rw[o]
  cases wt with
  |none=>rw[show(none:Option PU).getD g.t=g.t from rfl,show((none:Option PU).isSome ||g.d)=g.d from rfl,z2n h.nd hg];exact Nat.le_add_right _ _
  |some t=>exact z0V _ _ h.nd
 have Q:=h.ca
 have M:=h.cc
 refine⟨by rw[C];exact ht.ok,by rw[C,ht.size];exact h.asz,λx=>by rw[o,z9G,h.keys,F],by rw[o,z9G];exact h.nd,λq j=>?_,λq j=>?_,λq j r=>?_,λx u n E=>?_,λx u n=>?_,by rw[f];exact h.down,by rw[f];exact h.due,by rw[f,v];exact h.B,by rw[f];exact h.N,by rw[f];omega,by rw[f];omega,by rw[f];exact h.TF⟩
 ·rw[v];rw[o] at j;rcases z0u j with e| e
  ·exact h.rng q e.1
  ·rw[e.1];exact I
 ·rw[o] at j;rcases z0u j with e| e
  ·rw[SL _ _ e.2];exact h.tx q e.1
  ·rw[e.1,Th,e.2.1,h.tx g hg]
 ·rw[f];rw[o] at j;rcases z0u j with e| e
  ·rw[SL _ _ e.2];exact h.cl q e.1 r
  ·rw[e.2.2.1] at r
   have y:wt=none:=by
    cases wt with
    |none=>rfl
    |some t=>cases r
   rw[e.1,y,z0p];rw[y] at r;exact h.cl g hg r
 ·rw[v] at n;rw[F] at E;have G:x≠g.k:=λe=>E (e▸z);rw[f,SL _ _ G];exact h.out x u n E
 ·rw[v] at n;by_cases e:x=g.k
  ·rw[e,Th]
   cases y:wt with
   |none=>exact h.len _ (e▸u) (e▸n)
   |some t=>exact J t y
  ·rw[SL _ _ e];exact h.len x u n
def TP:List Pg->Int->List Pg
 |[],_=>[]
 |g::l,k=>if g.k=k then l else g::TP l k
theorem Wq (g:Pg)(l:List Pg)(k:Int):TP (g::l) k=if g.k=k then l else g::TP l k:=rfl
theorem z3V (l:List Pg)(k:Int):delL (Vo l) k=Vo (TP l k):=by
 induction l with
 |nil=>rfl
 | cons g l d =>
   show(if k=g.k then Vo l else(g.k,ptr g.b 0)::delL (Vo l) k)=_;rw[Wq];by_cases h:k=g.k
   ·rw[if_pos h,if_pos h.symm]
   ·rw[if_neg h,if_neg (λe=>h e.symm),d];rfl
def Uf:∀(l:List Pg)(k:Int),(TP l k).Sublist l
 |[],_=>y3d _
 | g :: l, k => by
   rw[Wq];split
   ·exact y27 _ _
   ·exact(Uf l k).cons_cons _
def z2X {l:List Pg}(f:(l.map (·.k)).Nodup)(k x:Int):x∈(TP l k).map (·.k)↔x∈l.map (·.k)/\x≠k:=by
 induction l with
 |nil=>simp[TP]
 | cons g l j =>
   rw[y0j,y11] at f;rw[Wq];by_cases h:g.k=k
   ·rw[if_pos h,y0j,y0h];constructor
    ·intro e;exact⟨.inr e,λd=>f.1 (by rw[h,<-d];exact e)⟩
    ·rintro⟨e|e,d⟩
     ·exact absurd (e.trans h) d
     ·exact e
   ·rw[if_neg h,y0j,y0j,y0h,y0h];have:=j f.2;rw[this];constructor
    ·rintro(e|e)
     ·exact⟨.inl e,λd=>h (by rw[<-e,d])⟩
     ·exact⟨.inr e.1,e.2⟩
    ·rintro⟨e|e,d⟩
     ·exact .inl e
     ·exact .inr ⟨e,d⟩
theorem z4L {l:List Pg}{g:Pg}(f:(l.map (·.k)).Nodup)(hg:g∈l):T8 (TP l g.k)+(if g.d then 1 else 0)=T8 l:=by
 induction l with
 |nil=>cases hg
 | cons a l m =>
   rw[y0j,y11] at f;rw[Wq];by_cases h:a.k=g.k
   ·rw[if_pos h]
    have e:a=g:=by
     rcases y0h.1 hg with e| e
     ·exact e.symm
     ·exact absurd (y0g.2 ⟨g,e,h.symm⟩) f.1
    rw[e];unfold T8;rw[y0Z]
   ·rw[if_neg h]
    have j:g∈l:=by
     rcases y0h.1 hg with e| e
     ·exact absurd (by rw[e]) h
     ·exact e
    have:=m f.2 j;unfold T8 at*;rw[y0Z,y0Z];omega
structure zf0 (P:Sf)(txt:Int->PU)(K:Nat)(g:Option Int)(D':Dev)(l':List Pg):Prop where
 now:∀x,0<=x->x<(P.L.length:Int)->x∉l'.map (·.k)->D'.now x=txt x
 cl:∀q∈l',q.d=false->D'.now q.k=txt q.k
 sub:l'.Sublist P.l
 keys:∀x,x∈l'.map (·.k)↔x∈P.l.map (·.k)/\g≠some x
 down:D'.down=false
 due:D'.due=0
 B:D'.B=P.D.B
 N:D'.N=P.D.N
 ca:D'.calls+(T8 l':Int)<=(K:Int)
 cc:D'.cache.length+T8 l'<=K
 TF:D'.TF.length<=17592186044416
def Xp.zk9 (h:Xp P txt K):zf0 P txt K none P.D P.l:=
 ⟨λx d f g=>h.out x d f λe=>g ((h.keys x).2 e),h.cl,y3d _,λx=>ξ,h.down,h.due,rfl,rfl,h.ca,h.cc,h.TF⟩
theorem Xp.zkq (h:Xp P txt K){g:Pg}(hg:g∈P.l):zf0 P txt K (some g.k) (if g.d then(P.D.push g.k g.t).count else P.D) (TP P.l g.k):=by
 have r:=z4L h.nd hg
 have y:=z2X h.nd g.k
 have G:=h.ca
 have F:=h.cc
 have u:=Uf P.l g.k
 have C:∀x,0<=x->x<(P.L.length:Int)->x∉(TP P.l g.k).map (·.k)->x=g.k\/¬P.A.held x:=λx f j n=>by
  rw[y,not_and] at n;by_cases e:x=g.k
  ·exact .inl e
  ·exact .inr λo=>n ((h.keys x).2 o) e
 have B:∀q∈TP P.l g.k,q∈P.l/\q.k≠g.k:=λq m=>⟨u.subset m,((y q.k).1 (y0g.2 ⟨q,m,O⟩)).2⟩
 have E:∀x,x∈(TP P.l g.k).map (·.k)↔x∈P.l.map (·.k)/\some g.k≠some x:=λx=>by
  rw[y];simp only[ne_eq,y3j];constructor
  ·rintro⟨a,b⟩;exact⟨a,λe=>b e.symm⟩
  ·rintro⟨a,b⟩;exact⟨a,λe=>b e.symm⟩
 cases v:g.d with
 | true =>
   rw[v] at r;rw[if_pos O] at r⊢;refine⟨λx f j n=>?_,λq m z=>?_,u,E,h.down,?_,O,O,?_,?_,h.TF⟩
   ·rw[z58];rcases C x f j n with e| e
    ·rw[if_pos e.symm,e,h.tx g hg]
    ·by_cases o:g.k=x
     ·rw[if_pos o,<-o,h.tx g hg]
     ·rw[if_neg o];exact h.out x f j e
   ·obtain⟨a,b⟩:=B q m;rw[z58,if_neg λe=>b e.symm];exact h.cl q a z
   ·have:=h.due;show(if P.D.due=0 then(0:Int) else _)=0;rw[if_pos this]
   ·show P.D.calls+1+_<=_;omega
   ·show(P.D.cache++[_]).length+_<=_
    rw[y01,y1u];omega
 | false =>
   rw[v] at r;rw[if_neg ξ] at r⊢;refine⟨λx f j n=>?_,λq m z=>?_,u,E,h.down,h.due,O,O,ω,ω,h.TF⟩
   ·rcases C x f j n with e| e
    ·rw[e];exact h.cl g hg v
    ·exact h.out x f j e
   ·exact h.cl q (B q m).1 z
theorem Xp.zjG (h:Xp P txt K)(r:0<=no)(u:no<(P.L.length:Int))(I:¬P.A.held no)(M:∀t,wt=some t->t.length=512){l':List Pg}(hg:zf0 P txt K (P.A.SI no).2.2 D' l'){f:Sf}{z:Int}
  (v:f.A=(P.A.SI no).1) (m:f.l=l'++[⟨no,b,wt.getD (txt no),wt.isSome⟩]) (n:f.L=P.L) (d:f.D={D' with reads:=z}):Xp f (z0C txt no wt) (K+wN wt):=by
 have ht:=Arc.z2S h.aok no
 have Q:=hg.ca
 have R:=hg.cc
 have J:∀x,x∈f.l.map (·.k)↔x=no\/x∈l'.map (·.k):=λx=>by
  rw[m,y0f,y0x,y2L,y0F,or_comm]
 have G:∀x,f.A.held x↔x=no\/x∈l'.map (·.k):=λx=>by
  rw[v,ht.held,hg.keys,h.keys]
 have o:no∉l'.map (·.k):=λe=>I ((h.keys no).1 ((hg.keys no).1 e).1)
 have S:T8 f.l=T8 l'+wN wt:=by
  rw[m];unfold T8 wN;rw[y2z,y2X]
 refine⟨by rw[v];exact ht.ok,by rw[v,ht.size];exact h.asz,λx=>by rw[J,G],?_,λg j=>?_,λg j=>?_,λg j y=>?_,λx x0 x1 E=>?_,λx x0 x1=>?_,by rw[d];exact hg.down,by rw[d];exact hg.due,by rw[d,n];exact hg.B.trans h.B,by rw[d];exact hg.N.trans h.N,by rw[d];show D'.calls+_<=_;omega,by rw[d];show D'.cache.length+_<=_;omega,by rw[d];exact hg.TF⟩
 ·rw[m,y0f,y0J];refine⟨(hg.sub.map _).nodup h.nd,ξ,λa H c F e=>?_⟩;rw[y2L,y0F] at F;exact o (by rw[<-show a=no from e.trans F];exact H)
 ·rw[n];rw[m] at j;rcases y0x.1 j with e| e
  ·exact h.rng g (hg.sub.subset e)
  ·rw[y0F.1 e];exact⟨r,u⟩
 ·rw[m] at j;rcases y0x.1 j with e| e
  ·rw[SL _ _ (λq=>o (by rw[<-q];exact y0g.2 ⟨g,e,O⟩))];exact h.tx g (hg.sub.subset e)
  ·rw[y0F.1 e,Th]
 ·rw[d,z4a];rw[m] at j;rcases y0x.1 j with e| e
  ·rw[SL _ _ (λq=>o (by rw[<-q];exact y0g.2 ⟨g,e,O⟩))];exact hg.cl g e y
  ·rw[y0F.1 e] at y⊢
   have C:wt=none:=by
    cases wt with
    |none=>rfl
    |some t=>cases y
   rw[C,z0p];exact hg.now no r u o
 ·rw[n] at x1;rw[G,not_or] at E;rw[d,z4a,SL _ _ E.1];exact hg.now x x0 x1 E.2
 ·rw[n] at x1;by_cases e:x=no
  ·rw[e,Th]
   cases C:wt with
   |none=>exact h.len _ r u
   |some t=>exact M t C
  ·rw[SL _ _ e];exact h.len x x0 x1
end
section
variable {P:Sf}{S:Nat->Prop}
theorem VC.cells (h:VC w P):Q8 w P.s [ptr P.d 0,ptr P.m 0,ptr P.c 0,.map (some P.pm),I (P.fr:Int),I P.h,I P.mi,I P.wr,I 0,I 0,I 0,.bool false] 119:=h.PO
def Xp.zgZ (h:Xp P txt K):P.D.Small K:=⟨by have:=h.ca;omega,by have:=h.cc;omega,trivial,h.TF⟩
def z2I (h:VC w P)(hN:P.D.N=1):Qx prog 65 [ptr P.s 0] w λv w'=>v=I 512/\w'=w:=by
 have hB:=h.cells
 have d:=zay h.dev
 rw[hN] at d
 refine py (e:=[(0,_)]) func65 O ntmps65 O O<|RY O<|QV O<|qV (Rm XG O O)<|Ri O<|Qz O<|QC O<|Qf Wi O<|qV (Q0 U26 O O hB O)<|Qj zgI O d ?_
 rintro _ w⟨rfl,rfl⟩
 refine Qe O<|PQ func65 O ?_
 exact⟨_,O,O,O⟩
def zbs (h:VC w P):Qx prog 137 [ptr P.s 0] w λv w'=>v=ptr P.d 0/\w'=w:=by
 have hB:=h.cells
 refine py (e:=[(0,_)]) func137 O ntmps137 O O<|RY O<|QV O<|qV (Rm XG O O)<|Ri O<|Qz O<|QC O<|Qf Wi O<|qV (Q0 U26 O O hB O)<|Qe O<|PQ func137 O ?_
 exact⟨_,O,O,O⟩
def zb1 (h:VC w P):Qx prog 24 [ptr P.s 0] w λv w'=>v=ptr P.m 0/\w'=w:=by
 have hB:=h.cells
 refine py (e:=[(0,_)]) func24 O ntmps24 O O<|RY O<|QV O<|qV (Rm XG O O)<|Ri O<|Qz O<|QC O<|Qf z4A O<|qV (Q0 U66 O O hB O)<|Qe O<|PQ func24 O ?_
 exact⟨_,O,O,O⟩
def z1h (h:VC w P)(f:P.D.down=false):Qx prog 119 [ptr P.s 0] w λv w'=>v=I 0/\w'=w:=by
 have hB:=h.cells
 have d:=zbC h.dev
 rw[f] at d
 refine py (e:=[(0,_)]) func119 O ntmps119 O O<|RY O<|RU<|Qz O<|qV (Rm XG O O)<|Qe O<|PW O<|Qz O<|QC O<|Qf z8T O<|qV (Q0 U4 O O hB O)<|Qq O<|QC O<|Qf Wi O ?_
 refine qV (Q0 U26 O O hB O)<|Qj zhN O d ?_
 rintro _ w⟨rfl,rfl⟩
 refine R0 O<|Qe O<|Us O<|PN<|RY O<|PQ func119 O ?_
 exact⟨_,O,O,O⟩
theorem z6y (h:VC w P)(ut:P.D.Small K)(V:P.D.down=false)(M:P.D.due=0)(Q:P.D.B=P.L.length)(T:P.D.N=1)(k:K<1000000000000){d:Bool}{no:Int}(Y:0<=no)(Z:no<(P.L.length:Int))(ht:t.length=512)(l:Q8 w b (pgC t d) 220)(g:∀i,¬P.cp i b):
  Qx prog 157 [ptr P.s 0,I no,ptr b 0] w λv w'=>v=I 0/\∃f u,VC w' {P with D:=if d then(P.D.push no t).count else P.D,Fd:=f,wr:=u}/\Kp (λj=>j=b\/P.cp 0 j\/P.cp 1 j) w w'/\(∀j,f j->P.Fd j\/w.heap.size<=j):=by
 replace l:Q8 w b [S t,.bool d,I 0] 220:=l
 have hB:=h.cells
 have hg:=Ext.Qm w
 have rR:P.s≠b:=λe=>g 0 e.symm
 have R:¬P.Fd P.s:=λe=>h.Wt 0 1 ψ P.s O e
 have x:¬P.Fd b:=g 1
 refine py (e:=[(0,_),(1,_),(2,_)]) func157 O ntmps157 O O ?_
 cases d with
 | false =>
   refine RY O<|QV O<|QC O<|Qf Xe O<|Qf z4V O<|qV (Q0 U4 O O l O)<|qV (Tf O)<|PR<|Qb O<|RY O<|PQ func157 O (⟨_,O,O,P.Fd,P.wr,?_,Kp.refl _ _,λj e=> .inl e⟩);rw[if_neg ξ]
   exact h
 | true =>
   refine RY O<|QV O<|QC O<|Qf Xe O<|Qf z4V O<|qV (Q0 U4 O O l O)<|qV (Tf O) ?_;have o:=z8l no t (h.dev.ext hg) ut k;rw[zdp V M ⟨Y,by rw[Q];exact Z⟩ (by rw[T];exact ht)] at o;dsimp only at o;refine Ri O<|It<|It<|Sq (λw'=>Kp P.Fd w w') O<|Ql 0 O O hg.kp<|PV 1 O (Rs O) hg.kp<|PV 2 O (QE Wi O) hg.kp<|qT 3 O (λ_ h=>(Q0 U26 O O (h.PO hB R) O)) hg.kp<|Ql 4 O O hg.kp<|Ql 5 O O hg.kp<|PV 6 O (Rs O) hg.kp<|PV 7 O (QE Xe O) hg.kp<|PV 8 O (QE z4n O) hg.kp<|qT 9 O (λ_ h=>(Q0 U9 O O (h.PO l x) O)) hg.kp ?_;refine TQ 10 O zkO O o ?_;rintro _ w1⟨rfl,n⟩;refine⟨hg.kp.trans n.kpF,?_⟩;obtain⟨f,G,X⟩:=((h.r (Ext.refl w)).ext hg).dev n;have y:Kp P.Fd w w1:=hg.kp.trans n.kpF;have H:∀j,f j->P.Fd j\/w.heap.size<=j:=λj e=>(X j e).imp id λe=>by have:=hg.size;omega
   refine PV 11 O (SG O) (hg.kp.trans n.kpF)<|qE<|Qz O<|RI O ?_;have C:=G.m.cells;refine Ri O (Qz O (QC O (Qf Xa O (Qf zcT O (qV (Q0 U3 O O C O) (qV (zda O O) (QC O (Qf Xa O (Qf zcT O (Qc O (S0 R8 O O O C ξ) ?_))))))))));rintro w2⟨E,q⟩;obtain⟨z,A⟩:∃z,IntKind.i64.wrap (P.wr+1)=z:=⟨_,O⟩;rw[A] at E;have W:=G.cnt (a:=P.h) (b:=P.mi) (c:=z) E q;have U:=q.PO (y.PO l x) (λe=>rR e.symm);refine PR<|QA.qb (e:=[(2,_),(6,_)]) ?_;refine Qz O (QC O (Qf Xe O (Qf z4V O (Qc O (S0 Wu O O O U ξ) ?_))));rintro w3⟨ev,F⟩
   have J:∀i,¬Sf.cp {P with D:=(P.D.push no t).count,Fd:=f,h:=P.h,mi:=P.mi,wr:=z} i b:=λi e=>by
    match i,e with
    |0,e=>exact g 0 e
    | 1, e =>
      rcases H b e with e| e
      ·exact g 1 e
      ·have:=l.lt;omega
    |2,e=>exact g 2 e
    |3,e=>exact g 3 e
    |4,e=>exact g 4 e
    |5,e=>exact g 5 e
   refine qM O<|Qe O<|PQ func157 O (⟨_,O,O,f,z,?_,?_,H⟩)
   ·rw[if_pos O];exact W.m.kp F λj ⟨i,p⟩ e=>J i (e▸p)
   ·exact((y.PZ λj e=> .inr (.inr e)).trans (q.PZ λj e=> .inr (.inl e))).trans (F.PZ λj e=> .inl e)
end
structure Sf.Same (P P':Sf):Prop where
 s:P'.s=P.s
 d:P'.d=P.d
 m:P'.m=P.m
 gi:P'.gi=P.gi
 c:P'.c=P.c
 pm:P'.pm=P.pm
 p:P'.p=P.p
 fr:P'.fr=P.fr
 L:P'.L=P.L
theorem Sf.Same.trans {P P' f:Sf}(h:P.Same P')(e:P'.Same f):P.Same f:=
 ⟨e.s.trans h.s,e.d.trans h.d,e.m.trans h.m,e.gi.trans h.gi,e.c.trans h.c,e.pm.trans h.pm,e.p.trans h.p,e.fr.trans h.fr,e.L.trans h.L⟩
def z2P {l:List Pg}{t0:PU}{d0 d:Bool}(h:k∉l.map (·.k)):SY (l++[⟨k,b,t0,d0⟩]) k t d=l++[⟨k,b,t,d⟩]:=by
 unfold SY
 rw[y0f]
 congr 1
 ·conv=>rhs;rw[<-y2G l]
  refine y0N λg hg=>?_;rw[if_neg λe=>h (y0g.2 ⟨g,hg,e⟩)];rfl
 ·show [if k=k then _ else _]=_;rw[if_pos O]
section
variable {P P0 P':Sf}
theorem VC.get (h:VC w P){q:Pg}(d:q∈P.l):Su (Vo P.l) q.k=some (ptr q.b 0):=
 z61 h.mp.nd (y0g.2 ⟨q,d,rfl⟩)
theorem VI.write (h:VI w0 P0 w P){d:Nat->Prop}{f:Int}(o:VC w' {P with D:=D',Fd:=d,wr:=f})(n:Kp (λj=>j=b\/P.cp 0 j\/P.cp 1 j) w w')(g:∀j,d j->P.Fd j\/w.heap.size<=j)(l:P0.fp b\/w0.heap.size<=b):VI w0 P0 w' {P with D:=D',Fd:=d,wr:=f}:=
 ⟨o,λj ⟨i,m⟩=>by
  match i,m with
  |0,e=>exact h.fp j ⟨0,e⟩
  | 1, e =>
    rcases g j e with e| e
    ·exact h.fp j ⟨1,e⟩
    ·exact .inr (by have:=h.k.size;omega)
  |2,e=>exact h.fp j ⟨2,e⟩
  |3,e=>exact h.fp j ⟨3,e⟩
  |4,e=>exact h.fp j ⟨4,e⟩
  |5,e=>exact h.fp j ⟨5,e⟩,h.k.An n λj e=>by
  rcases e with e|e| e
  ·rw[e];exact l.symm
  ·exact(h.fp j ⟨0,e⟩).symm
  ·exact(h.fp j ⟨1,e⟩).symm⟩
theorem z1j (hr:VI w0 P0 w P)(u:Xp P txt K)(hK:K<1000000000000){no:Int}(h0:0<=no)(h1:no<(P.L.length:Int))(M:Option PU)(pz:∀t,M=some t->t.length=512){x:Nat}(jT:w0.heap.size<=x)(F:∀i,¬P.cp i x)(fA:Q8 w x [x0] 9){f:Nat}(pF:CF prog f)
  (FM:∀(w1:World)(b:Nat) (t:PU) (d:Bool),b≠x->Q8 w1 b (pgC t d) 220->Q8 w1 x [x0] 9->Qx prog f [ptr b 0,ptr x 0] w1 λv w2=>v= .tuple #[]/\Q8 w2 b (pgC (M.getD t) (M.isSome ||d)) 220/\Q8 w2 x [S (M.getD t)] 9/\Kp (λj=>j=if M.isSome then b else x) w1 w2):
  Qx prog 120 [ptr P.s 0,I no,.bool M.isSome,.func (.func f) #[] #[ptr x 0]] w λv w'=>v=I 0/\Q8 w' x [S (M.getD (txt no))] 9/\∃P',VI w0 P0 w' P'/\Xp P' (z0C txt no M) (K+wN M)/\P.Same P'/\∀i,¬P'.cp i x:=by
 have hB:=hr.m.cells
 have fI:=XU hr.m.dev
 rw[u.B] at fI
 have lx:=fA.lt
 have gO:=Arc.z2S u.aok no
 obtain⟨T,hT⟩:∃T,P.A.SI no=T:=⟨_,O⟩
 have f9:=z74 hr.m.arc u.aok u.asz (k:=no)
 rw[hT] at gO f9
 obtain⟨A2,hit,g⟩:=T
 dsimp only at gO f9
 have a0:=hr.m.ext.n
 refine py (e:=[(0,_),(1,_),(2,_),(3,_)]) func120 O ntmps120 O O<|RY O<|QV O<|RT O<|QW<|Qq O<|Q4 O<|QC O<|Qf Wi O<|qV (Q0 U26 O O hB O)<|Qj z6A O fI ?_
 rintro _ w⟨rfl,rfl⟩
 refine UL O<|QW<|R0 O<|Ri O<|Qz O<|QC O<|Qf z9d O<|qV (Q0 zbm O O hB O)<|Q4 O<|Qj zi7 O f9 ?_
 rintro _ w1⟨rfl,V2,sF⟩
 have cN:=hr.arc sF
 have FN:=sF.k.PO fA (F 3)
 have z1:=sF.k.size
 refine Q4 O<|qV (SH (v:=ze2 hit g) O O)<|qV (SH (v:=I 0) O O)<|PX O O (SE (cs:=[_,_,_]) QJ O) ?_
 rintro _ w2⟨b9,rfl,ny,ae,cO⟩
 have z2:=ae.size
 refine Qc O (QX (news:=SU hit g) QJ O O O O cO ξ) ?_
 rintro w3⟨cX,ar⟩
 replace cX:Q8 w3 b9 [.bool hit,.bool g.isSome,I (g.getD 0)] 261:=cX
 have aV:Ext w1 w3:=ae.An ar (λj e=>ω)
 have ce:=cN.ext aV
 have Ae:=aV.PO FN
 have a6:=cN.k.size
 have a7:=aV.size
 have H:∀i,¬Sf.cp {P with A:=A2,V:=V2} i x:=λi e=>by
  match i,e with
  |0,e=>exact F 0 e
  |1,e=>exact F 1 e
  |2,e=>exact F 2 e
  | 3, e =>
    rcases sF.fp x e with e| e
    ·exact F 3 e
    ·omega
  |4,e=>exact F 4 e
  |5,e=>exact F 5 e
 have Af:∀i,¬Sf.cp {P with A:=A2,V:=V2} i b9:=cN.m.new ω
 have Po:b9≠x:=ω
 have a3:=cX.lt
 have kO:=ce.m.cells
 dsimp only at kO
 refine Qe O<|QA.qb (e:=[(0,_),(1,_),(2,_),(3,_),(8,_),(9,_),(10,_)]) ?_
 refine QV O<|RI O<|Ri O<|It<|qN O<|Qf zeG O ?_
 cases hit with
 | true =>
   have bA:=gO.hit.1 O
   obtain⟨q,r,FO⟩:∃q∈P.l,q.k=no:=by
    obtain⟨q,a,b⟩:=y0g.1 ((u.keys no).2 bA);exact⟨q,a,b⟩
   subst FO;refine qV (Q0 U4 O O cX O) (PR (Qb O (Qz O (QC O (Qf Xa O (Qf zdl O (qV (Q0 U3 O O kO O) (qV (zda O O) (QC O (Qf Xa O (Qf zdl O (Qc O (S0 R8 O O O kO ξ) ?_))))))))))));rintro p⟨aJ,aq⟩;obtain⟨z,hz⟩:∃z,IntKind.i64.wrap (P.h+1)=z:=⟨_,O⟩;rw[hz] at aJ;have E:=ce.cnt (a:=z) (b:=P.mi) (c:=P.wr) aJ aq;have iV:=E.m.cells;dsimp only at iV;have qY:=aq.PO Ae (F 0);have fY:=E.m.get r;dsimp only at fY;have rQ:Q8 p q.b (pgC q.t q.d) 220:=E.m.pg q r;have uL:q.b≠x:=λe=>F 5 ⟨q,r,e⟩;refine qM O<|Qq O<|QC O<|Qf Wr O<|qV (Q0 XW O O iV O)<|Q4 O<|qV (ylk (k:=q.k) (K:=KI) XW (Tk U3) zbK O O E.m.mp.l) ?_;dsimp only;rw[fY];refine S5 O O (SQ pF O O) (FM p q.b q.t q.d uL rQ qY) ?_;rintro _ w5⟨rfl,FP,qZ,ai⟩;refine PR<|QA.qb (e:=[(0,_),(1,_),(2,_),(3,_),(8,_),(9,_),(10,_)]) ?_;refine RY O<|PQ func120 O ?_;have FQ:=u.tx q r;refine⟨_,O,O,by rw[<-FQ];exact qZ,?_⟩
   cases M with
   | none =>
     have rf:∀i,¬Sf.cp {P with A:=A2,V:=V2,h:=z,mi:=P.mi,wr:=P.wr} i x:=λi o=>by
      match i,o with
      |0,o=>exact H 0 o
      |1,o=>exact H 1 o
      |2,o=>exact H 2 o
      |3,o=>exact H 3 o
      |4,o=>exact H 4 o
      |5,o=>exact H 5 o
     refine⟨_,E.loc ai (λj e=>⟨.inr (by rw[show j=x from e];exact jT),by rw[show j=x from e];exact rf⟩),u.hit r pz (by rw[hT]) ?_ O O,⟨O,O,O,O,O,O,O,O,O⟩,rf⟩;show P.l=SY P.l q.k q.t q.d
     exact(z2n u.nd r).symm
   | some t =>
     refine⟨_,E.zi2 r FP ai,u.hit r pz (by rw[hT]) O O O,⟨rfl,rfl,rfl,rfl,rfl,rfl,rfl,rfl,rfl⟩,λi o=>?_⟩
     match i,o with
     |0,o=>exact H 0 o
     |1,o=>exact H 1 o
     |2,o=>exact H 2 o
     |3,o=>exact H 3 o
     |4,o=>exact H 4 o
     | 5, ⟨g', cV, o⟩ =>
       have h3:g'.b∈P.l.map (·.b):=by rw[<-z4p P.l q.k];exact y0g.2 ⟨g',cV,O⟩
       obtain⟨g2,a,b⟩:=y0g.1 h3
       exact H 5 ⟨g2,a,b.trans o⟩
 | false =>
   have FS:¬P.A.held no:=λe=>by have:=gO.hit.2 e;cases this
   refine qV (Q0 U4 O O cX O) (Ri O (Qz O (QC O (Qf Xa O (Qf zcE O (qV (Q0 U3 O O kO O) (qV (zda O O) (QC O (Qf Xa O (Qf zcE O (Qc O (S0 R8 O O O kO ξ) ?_)))))))))));rintro p⟨aJ,aq⟩;obtain⟨z,hz⟩:∃z,IntKind.i64.wrap (P.mi+1)=z:=⟨_,O⟩;rw[hz] at aJ;have E:=ce.cnt (a:=P.h) (b:=z) (c:=P.wr) aJ aq;have iV:=E.m.cells;dsimp only at iV;have qY:=aq.PO Ae (F 0);have BZ:b9≠P.s:=λe=>Af 0 e;have mD:=aq.PO cX BZ;have z4:=aq.size;refine PR<|It<|qN O<|Qf zep O<|qV (Q0 U4 O O mD O)<|PR ?_
   have MT:∀(D':Dev)(y:Nat->Prop) (l':List Pg) (C:Int),(∀j,y j->P.Fd j\/w.heap.size<=j)->l'.Sublist P.l->∀b,(∀i,¬Sf.cp {P with A:=A2,V:=V2} i b)->b<w.heap.size\/(∀j,y j->j≠b)->∀i,¬Sf.cp {P with A:=A2,V:=V2,D:=D',Fd:=y,l:=l',mi:=z,wr:=C} i b:=λD' y l' C hF hl b hb bR i e=>by
    match i,e with
    |0,e=>exact hb 0 e
    | 1, e =>
      rcases bR with h| h
      ·rcases hF b e with e| e
       ·exact hb 1 e
       ·omega
      ·exact h b e O
    |2,e=>exact hb 2 e
    |3,e=>exact hb 3 e
    |4,e=>exact hb 4 e
    |5,⟨q,r,e⟩=>exact hb 5 ⟨q,hl.subset r,e⟩
   refine QT (λe' w'=>e'=[(0,ptr P.s 0),(1,I no),(2,.bool M.isSome),(3,.func (.func f) #[] #[ptr x 0])]/\∃D' y l' C,VI w0 P0 w' {P with A:=A2,V:=V2,D:=D',Fd:=y,l:=l',mi:=z,wr:=C}/\zf0 P txt K g D' l'/\Q8 w' x [x0] 9/\(∀j,y j->P.Fd j\/w.heap.size<=j/\j≠x)) ?dT<|λdT=>?kN
   case dT =>
    rintro e' w5⟨rfl,D',y,l',C,bL,Y,qZ,wQ⟩;have mf:no∉l'.map (·.k):=λe=>FS ((u.keys no).1 ((Y.keys no).1 e).1);have z5:=bL.k.size;have a5:=qZ.lt
    have J:∀i,¬Sf.cp {P with A:=A2,V:=V2,D:=D',Fd:=y,l:=l',mi:=z,wr:=C} i x:=λi e=>by
     match i,e with
     |0,e=>exact F 0 e
     | 1, e =>
       rcases wQ x e with e| e
       ·exact F 1 e
       ·exact e.2 O
     |2,e=>exact F 2 e
     |3,e=>exact H 3 e
     |4,e=>exact F 4 e
     |5,⟨q,r,e⟩=>exact F 5 ⟨q,Y.sub.subset r,e⟩
    refine qN O<|qV (To (cs:=[_,_,_]) zhG O zjP O O)<|PX O O (Sy O (cs:=pgC [] false) O) ?_;rintro _ w6⟨b,rfl,hb,aR,aU⟩;replace aU:Q8 w6 b [S [],.bool false,I 0] 220:=aU;have W:=bL.ext aR;have ot:=aR.PO qZ;have ou:b≠x:=ω
    have U:∀i,¬Sf.cp {P with A:=A2,V:=V2,D:=D',Fd:=y,l:=l',mi:=z,wr:=C} i b:=bL.m.new ω;have a4:=aU.lt
    have Ag:Su (Vo l') no=none:=z3v λe=>mf (by
     unfold Vo at e;rw[y1j] at e
     exact e)
    refine Qe O<|QV O<|qV (Tf O) ?_
    cases M with
    | none =>
      refine PR<|Qb O ?_;have mG:=W.m.cells;dsimp only at mG;have db:=zb9 no W.m.dev (k:=K) ⟨by have:=Y.ca;show D'.calls<=_;omega,by have:=Y.cc;show D'.cache.length<=_;omega,trivial,Y.TF⟩ hK
      have Ah:D'.read no=({D' with reads:=IntKind.i64.wrap (D'.reads+1)},txt no,0):=by
       have hh:D'.has no=true:=by
        have:=Y.B;have:=u.B;simp[Dev.has];omega
       unfold Dev.read;rw[if_neg (by rw[Y.down];simp),if_neg (by rw[hh];simp),Y.now no h0 h1 mf]
      dsimp only at db;rw[Ah] at db;dsimp only at db;refine RK O<|QC O<|Qf Wi O<|qV (Q0 U26 O O mG O)<|Q4 O<|Qj ziI O db ?_;rintro _ w7⟨rfl,sy⟩;obtain⟨Q,Ai,Aj⟩:=W.dev sy;have iB:Kp y w6 w7:=sy.kpF;have cd:=iB.PO aU (U 1);have uM:=iB.PO ot (J 1);refine Q4 O (qV (SH (v:=S (txt no)) O O) (qV (SH (v:=I 0) O O) (QC O (Qf Xe O (Qf z4n O (Qc O (S0 ti9 O O O cd ξ) ?_))))));rintro w8⟨aW,aQ⟩;replace aW:Q8 w8 b (pgC (txt no) false) 220:=aW
      have uN:∀i,¬Sf.cp {P with A:=A2,V:=V2,D:={D' with reads:=IntKind.i64.wrap (D'.reads+1)},Fd:=Q,l:=l',mi:=z,wr:=C} i b:=λi e=>by
       match i,e with
       |0,e=>exact U 0 e
       | 1, e =>
         rcases Aj b e with e| e
         ·exact U 1 e
         ·omega
       |2,e=>exact U 2 e
       |3,e=>exact U 3 e
       |4,e=>exact U 4 e
       |5,e=>exact U 5 e
      have kP:∀i,¬Sf.cp {P with A:=A2,V:=V2,D:={D' with reads:=IntKind.i64.wrap (D'.reads+1)},Fd:=Q,l:=l',mi:=z,wr:=C} i x:=λi e=>by
       match i,e with
       |0,e=>exact J 0 e
       | 1, e =>
         rcases Aj x e with e| e
         ·exact J 1 e
         ·have:=ot.lt;omega
       |2,e=>exact J 2 e
       |3,e=>exact J 3 e
       |4,e=>exact J 4 e
       |5,e=>exact J 5 e
      have fX:=Ai.loc aQ (λj e=>by rw[show j=b from e];exact⟨.inr ω,uN⟩);have FT:=aQ.PO uM (λe=>ou e.symm);have Ak:=fX.m.cells;dsimp only at Ak;refine RZ O<|RI O<|PR<|QA.qb (e:=[(0,_),(1,_),(3,_),(10,_),(13,_),(106,_)]) ?_;refine Us O<|Qz O<|QC O<|Qf Wr O<|qV (Q0 XW O O Ak O)<|Qq O<|Qc O (zhv (k:=no) (K:=KI) XW (Tk U3) O O O fX.m.mp) ?_;rintro w9⟨Z,X⟩;dsimp only at Z;rw[VT _ _ _ Ag] at Z;have ij:=fX.ins (g:=⟨no,b,txt no,false⟩) ⟨by dsimp only;omega,uN⟩ aW (by unfold Vo at Z⊢;rw[y0f];exact Z) X;have cO:=X.PO aW (uN 4);have uO:=X.PO FT (kP 4);refine qM O<|Qq O<|S5 O O (SQ pF O O) (FM w9 b (txt no) false ou cO uO) ?_;rintro _ a1⟨rfl,sG,ov,aB⟩;refine qM O<|Qe O<|PQ func120 O ?_
      have rf:∀i,¬Sf.cp {P with A:=A2,V:=V2,D:={D' with reads:=IntKind.i64.wrap (D'.reads+1)},Fd:=Q,l:=l'++[⟨no,b,txt no,false⟩],mi:=z,wr:=C} i x:=λi o=>by
       match i,o with
       |0,o=>exact kP 0 o
       |1,o=>exact kP 1 o
       |2,o=>exact kP 2 o
       |3,o=>exact kP 3 o
       |4,o=>exact kP 4 o
       | 5, ⟨q, r, o⟩ =>
         rcases y0x.1 r with e3|e3
         ·exact kP 5 ⟨q,e3,o⟩
         ·rw[y0F.1 e3] at o;exact ou o
      exact⟨_,O,O,ov,_,ij.loc aB (λj e=>⟨.inr (by rw[show j=x from e];exact jT),by rw[show j=x from e];exact rf⟩),u.zjG h0 h1 FS pz (by rw[hT];exact Y) (by rw[hT]) O O O,⟨O,O,O,O,O,O,O,O,O⟩,rf⟩
    | some t =>
      refine PR<|PW O ?_;have mG:=W.m.cells;dsimp only at mG;refine PS<|Qz O<|QC O<|Qf Wr O<|qV (Q0 XW O O mG O)<|Qq O<|Qc O (zhv (k:=no) (K:=KI) XW (Tk U3) O O O W.m.mp) ?_;rintro w9⟨Z,X⟩;dsimp only at Z;rw[VT _ _ _ Ag] at Z;have ij:=W.ins (g:=⟨no,b,[],false⟩) ⟨by dsimp only;omega,U⟩ aU (by unfold Vo at Z⊢;rw[y0f];exact Z) X;have cO:=X.PO aU (U 4);have uO:=X.PO ot (J 4);refine qM O<|Qq O<|S5 O O (SQ pF O O) (FM w9 b [] false ou cO uO) ?_;rintro _ a1⟨rfl,sG,ov,aB⟩;refine qM O<|Qe O<|PQ func120 O ?_;have o6:=ij.zi2 (g:=⟨no,b,[],false⟩) (List.mem_append_right _ (y0F.2 O)) sG aB;refine⟨_,O,O,ov,_,o6,u.zjG h0 h1 FS pz (by rw[hT];exact Y) (by rw[hT]) (z2P mf) O O,⟨rfl,rfl,rfl,rfl,rfl,rfl,rfl,rfl,rfl⟩,λi o=>?_⟩
      match i,o with
      |0,o=>exact J 0 o
      |1,o=>exact J 1 o
      |2,o=>exact J 2 o
      |3,o=>exact J 3 o
      |4,o=>exact J 4 o
      | 5, ⟨q, r, o⟩ =>
        have e4:=z2P (b:=b) (t0:=[]) (t:=(some t).getD []) (d0:=false) (d:=(some t).isSome ||false) mf;have MU:q∈l'++[⟨no,b,(some t).getD [],(some t).isSome ||false⟩]:=by rw[<-e4];exact r
        rcases y0x.1 MU with e3|e3
        ·exact J 5 ⟨q,e3,o⟩
        ·rw[y0F.1 e3] at o;exact ou o
   case kN=>
    cases g with
    | none =>
      refine Us O ?_
      exact(dT _ _ ⟨O,_,_,_,P.wr,E,u.zk9,qY,λj e=> .inl e⟩).qb
    | some gk =>
      obtain⟨MV,MW⟩:=gO.gone gk O
      obtain⟨q,r,FO⟩:∃q∈P.l,q.k=gk:=by
       obtain⟨q,a,b⟩:=y0g.1 ((u.keys gk).2 MV);exact⟨q,a,b⟩
      subst FO;have fY:=E.m.get r;dsimp only at fY;have G:=Ext.Qm p;refine Qb O<|It<|Sq (λw'=>Ext p w') O<|Ql 0 O O G<|PV 1 O (Rs O) G<|PV 2 O (QE Wr O) G<|qT 3 O (λ_ h=>(Q0 XW O O (h.PO iV) O)) G<|PV 4 O (QE z4x O) G<|qT 5 O (λ_ h=>(Q0 U3 O O (h.PO mD) O)) G<|qT 6 O (λ_ h=>ylk (k:=q.k) (K:=KI) XW (Tk U3) zbK O O (E.m.ext' h).mp.l) G ?_;dsimp only;rw[fY];refine PV 7 O (SG O) G<|qE<|QA.qb (e:=[(0,_),(1,_),(2,_),(3,_),(8,_),(9,_),(10,_),(11,_)]) ?_;refine It ?_;have R:=Ext.Qm p.drew;have ox:=G.PO iV;have mv:=G.PO mD;have bL:=E.ext (G.trans R);refine Qp [6] (λw'=>Ext p.drew w') y00 O<|R1 0 O O R<|Qs 1 O (Rs O) R<|Qs 2 O (QE Wr O) R<|qL 3 O (λ_ h=>(Q0 XW O O (h.PO ox) O)) R<|Qs 4 O (QE z4x O) R<|qL 5 O (λ_ h=>(Q0 U3 O O (h.PO mv) O)) R<|U0 [6]<|qO 6<|zbU (i:=6) O O (zgP (k:=q.k) (K:=KI) XW (Tk U3) O O bL.m.mp O) ?_;rintro _ w6⟨x7,aL⟩;refine⟨trivial,?_⟩;dsimp only at x7;rw[z3V] at x7;have W:=bL.del (Uf P.l q.k) x7 aL;have FU:Q8 p q.b (pgC q.t q.d) 220:=E.m.pg q r;have Al:q.b≠P.pm:=λe=>E.m.Wt 5 4 ψ q.b ⟨q,r,O⟩ e;have tJ:=aL.PO ((G.trans R).PO FU) Al
      have U:∀i,¬Sf.cp {P with A:=A2,V:=V2,h:=P.h,mi:=z,wr:=P.wr,l:=TP P.l q.k} i q.b:=λi e=>by
       match i,e with
       |0,e=>exact E.m.Wt 5 0 ψ q.b ⟨q,r,O⟩ e
       |1,e=>exact E.m.Wt 5 1 ψ q.b ⟨q,r,O⟩ e
       |2,e=>exact E.m.Wt 5 2 ψ q.b ⟨q,r,O⟩ e
       |3,e=>exact E.m.Wt 5 3 ψ q.b ⟨q,r,O⟩ e
       |4,e=>exact Al e
       | 5, ⟨q2, i9, e⟩ =>
         have o:q2=q:=TW E.m.pnd ((Uf P.l q.k).subset i9) r e;have:=((z2X u.nd q.k q2.k).1 (y0g.2 ⟨q2,i9,O⟩)).2;exact this (by rw[o])
      have rg:=u.rng q r;have FQ:=u.tx q r;have yP:q.t.length=512:=by rw[FQ];exact u.len q.k rg.1 rg.2
      have ot:=aL.PO ((G.trans R).PO qY) (H 4);have mG:=W.m.cells;have FW:=aL.PO ((G.trans R).PO mD) (Af 4);have a8:=(G.trans R).size;have a9:=aL.size;refine qE<|Qz O<|Qf z4x O<|qV (Q0 U3 O O FW O)<|Q4 O<|Qj zhJ O (z6y W.m u.zgZ u.down u.due u.B u.N hK rg.1 rg.2 yP tJ U) ?_;rintro _ w7⟨rfl,Q,a2,gM,ay,Aj⟩;have Ai:=W.write gM ay Aj (E.fp q.b ⟨5,q,r,O⟩);have uL:q.b≠x:=λe=>F 5 ⟨q,r,e⟩
      have uM:=ay.PO ot (λe=>by
       rcases e with e|e| e
       ·exact uL e.symm
       ·exact F 0 e
       ·exact F 1 e)
      refine RZ O<|RI O<|Ri O ?_;exact(dT _ _ ⟨O,_,Q,_,a2,Ai,u.zkq r,uM,λj e=>(Aj j e).imp id λe=>⟨ω,ω⟩⟩).qb
end
section
variable {P P':Sf}
def z9Y {x:Nat}{d:Bool}(l:b≠x)(f:Q8 w b (pgC t d) 220)(m:Q8 w x [x0] 9):Qx prog 121 [ptr b 0,ptr x 0] w λv w2=>v= .tuple #[]/\Q8 w2 b (pgC t d) 220/\Q8 w2 x [S t] 9/\Kp (λj=>j=x) w w2:=by
 replace f:Q8 w b [S t,.bool d,I 0] 220:=f
 refine py (e:=[(0,_),(1,_)]) func121 O ntmps121 O O<|Sv O<|QC O<|Qf Xe O<|Qf z4n O<|qV (Q0 U9 O O f O)<|Qc O (S0 ti9 O O O m ξ) ?_
 rintro w1⟨h,g⟩
 refine PR<|Rj func121 O ?_
 exact⟨_,O,O,g.PO f l,h,g⟩
def z88 {x:Nat}{s:PU}{d:Bool}(m:b≠x)(f:Q8 w b (pgC t d) 220)(h:Q8 w x [S s] 9):Qx prog 139 [ptr b 0,ptr x 0] w λv w2=>v= .tuple #[]/\Q8 w2 b (pgC s true) 220/\Q8 w2 x [S s] 9/\Kp (λj=>j=b) w w2:=by
 replace f:Q8 w b [S t,.bool d,I 0] 220:=f
 refine py (e:=[(0,_),(1,_)]) func139 O ntmps139 O O<|Sv O<|qV (Q0 U9 O O h O)<|qV (To (cs:=[_,_]) z9K O zjK O O)<|QC O<|Qf Xe O<|Qc O (QX (news:=[S s,.bool true]) z9K O O O O f ξ) ?_
 rintro w1⟨l,g⟩
 refine PR<|Rj func139 O ?_
 exact⟨_,O,O,l,g.PO h (λe=>m e.symm),g⟩
theorem z7Q (o:VC w P)(n:Xp P txt K)(H:K<1000000000000){no:Int}(F:0<=no)(G:no<(P.L.length:Int)):Qx prog 83 [ptr P.s 0,I no] w λv w'=>v= .tuple #[S (txt no),I 0]/\∃P',VI w P w' P'/\Xp P' txt K/\P.Same P':=by
 refine py (e:=[(0,_),(1,_)]) func83 O ntmps83 O O<|qN O<|PX O O (SE (cs:=[_]) ti9 O) ?_
 rintro _ w1⟨x,rfl,q,y,hB⟩
 have l:=o.r y
 have C:∀i,¬P.cp i x:=o.new ω
 refine Qe O<|QV O<|Qj zg9 O (z1h l.m n.down) ?_
 rintro _ w1⟨rfl,rfl⟩
 refine RZ O<|RI O<|Ri O<|RK O<|qV (ymf (first:=[]) (caps:=[.tmp 4]) O O)<|Qj zfz O (z1j l n H F G none (λt e=>by cases e) ω C hB zjr (λw1 b t d E J q=>z9Y E J q)) ?_
 rintro _ w2⟨rfl,f,P',B,h,D,u⟩
 rw[z0p] at h
 replace f:Q8 w2 x [S (txt no)] 9:=f
 refine Sb O<|qV (Q0 U9 O O f O)<|Q4 O<|Qc O (S0 ti9 O O O f ξ) ?_
 rintro M⟨g,z⟩
 replace g:Q8 M x [S (txt no)] 9:=g
 refine Qe O<|Qy func83 (.cell1 U9 O O ((g).cell _) (.tmp O .nil)) ?_
 exact⟨_,O,O,P',B.loc z (λj e=>by rw[show j=x from e];exact⟨.inr ω,u⟩),h,D⟩
theorem zau (j:VC w P)(g:Xp P txt K)(D:K<1000000000000){no:Int}(B:0<=no)(C:no<(P.L.length:Int))(t:PU)(ht:t.length=512):Qx prog 100 [ptr P.s 0,I no,S t] w λv w'=>v=I 0/\∃P',VI w P w' P'/\Xp P' (z0C txt no (some t)) (K+1)/\P.Same P':=by
 refine py (e:=[(0,_),(1,_),(2,_)]) func100 O ntmps100 O O<|qN O<|PX O O (Sy O (cs:=[S t]) O) ?_
 rintro _ w1⟨x,rfl,l,n,hB⟩
 have f:=j.r n
 have u:∀i,¬P.cp i x:=j.new ω
 refine Qe O<|QV O<|Qj zg9 O (z1h f.m g.down) ?_
 rintro _ w1⟨rfl,rfl⟩
 refine RZ O<|RI O ?_
 have hg:=Ext.Qm w1
 refine Ri O<|It<|It<|Sq (λw'=>Ext w1 w') O<|qT 0 O (λ_ h=>Q0 U9 O O (h.PO hB) O) hg<|PV 1 O (Wb U9 O) hg<|Ql 2 O O hg<|TQ 3 O z5I O (z2I (f.m.ext' hg) g.N) ?_
 rintro _ w2⟨rfl,rfl⟩
 refine⟨hg,?_⟩
 refine PV 4 O (yne O O) hg<|Vm<|qE<|Us O<|RK O<|qV (ymf (first:=[]) (caps:=[.tmp 5]) O O)<|Qj zfz O (z1j (f.ext hg) g D B C (some t) (λs e=>by cases e;exact ht) ω u (hg.PO hB) zhz (λw1 b t2 d z E l=>z88 z E l)) ?_
 rintro _ w2⟨rfl,G,P',q,o,y,F⟩
 refine Qe O<|PQ func100 O ?_
 exact⟨_,O,O,P',q,o,y⟩
theorem z7b (o:VC w P){n:Nat}(D:Pre P.L a)(B:1<=n)(F:a+n<=P.L.length):Qx prog 66 [ptr P.s 0,I (n:Int)] w λv w'=>v= .tuple #[.agg #[I (a:Int),I (n:Int)],I 0]/\VI w P w' {P with L:=R9 P.L a n true}:=by
 refine py (e:=[(0,_),(1,_)]) func66 O ntmps66 O O<|qN O<|PX O O (SE (cs:=[_,_]) Sj O) ?_
 rintro _ w1⟨x,rfl,H,q,hB⟩
 have h:=o.r q
 have f:∀i,¬P.cp i x:=o.new ω
 have E:=h.m.cells
 refine Qe O<|QV O<|qV (Rm XG O O)<|Ri O<|Qz O<|QC O<|Qf z4A O<|qV (Q0 U66 O O E O)<|Q4 O<|Qj zlP O (z6l h.m.ext D B F) ?_
 rintro _ w2⟨rfl,C,l⟩
 have z:=h.exM C l
 have u:=l.PO hB (λe=>f 2 (.inr e))
 refine qV (SH (v:= .agg #[I (a:Int),I (n:Int)]) O O)<|qV (SH (v:=I 0) O O)<|Qc O (QX (news:=[I (a:Int),I (n:Int)]) Sj O O O O u ξ) ?_
 rintro G⟨g,y⟩
 replace g:Q8 G x [I (a:Int),I (n:Int)] 124:=g
 refine Qe O<|Qy func66 (.cell Ww O Sj O (Q8.cells (n:=2) g (news:=[_,_]) O) O (.tmp O .nil)) ?_
 refine⟨_,rfl,rfl,z.loc y (λj e=>by
  rw[show j=x from e];refine⟨.inr ω,λi d=>?_⟩
  match i,d with
  |0,d=>exact f 0 d
  |1,d=>exact f 1 d
  |2,d=>exact f 2 d
  |3,d=>exact f 3 d
  |4,d=>exact f 4 d
  |5,d=>exact f 5 d)⟩
theorem Xp.Re (h:Xp P txt K)(e:L'.length=P.L.length):Xp {P with L:=L'} txt K:=
 ⟨h.aok,h.asz,h.keys,h.nd,λg hg=>by rw[e];exact h.rng g hg,h.tx,h.cl,λx f d=>by rw[e] at d;exact h.out x f d,λx f d=>by rw[e] at d;exact h.len x f d,h.down,h.due,h.B.trans e.symm,h.N,h.ca,h.cc,h.TF⟩
theorem zba {d m gi:Nat}{L:List Bool}{Fd:Nat->Prop}(H:Xw w d (Dev.fresh L.length 1) Fd)(y:YY w m gi L)(r:¬Fd m/\¬Fd gi)(n:Nat)(E:1<=n)(Y:n<=1000):Qx prog 32 [ptr d 0,I (n:Int),ptr m 0] w λv w'=>∃P,v= .tuple #[ptr P.s 0,I 0]/\VC w' P/\Xp P (λ_=>zeros 512) 0/\P.m=m/\P.gi=gi/\P.L=L/\(∀b,P.fp b->Fd b\/b=m\/b=gi\/w.heap.size<=b)/\Ext w w':=by
 refine py (e:=[(0,_),(1,_),(2,_)]) func32 O ntmps32 O O<|qN O<|Rw O<|RU<|Qz O<|qV (Rm U26 O O)<|Qq O<|qV (Rm U66 O O)<|R0 O<|Qe O<|PW O<|Qz O<|RT O<|QW ?_
 refine Qq O<|RR O<|QW<|R0 O<|Qe O<|Us O<|PN<|Qz O<|Qj zme O (zcA n E ω w) ?_
 rintro _ w1⟨c,V,p,rfl,M,J,B⟩
 refine Q4 O<|qV (SH (v:=ptr c 0) O O)<|qV (SH (v:=I 0) O O)<|Rw O<|QA.qb (e:=[(0,_),(1,_),(2,_),(6,_),(7,_),(8,_),(9,_)]) ?_
 refine QV O<|RI O<|Ri O<|RK O<|Q4 O<|PX O O pmm ?_
 rintro _ w2⟨pm,rfl,k,C,W⟩
 have G:TR KI w2 pm []:=TR.new W
 have Z:=G.lt
 refine Q4 O<|qV (To (cs:=[_,_,_,_,_,_,_]) z3f O zlb O O)<|qV (To (cs:=[_,_,_,_,_,_,_,_,_,_,_,_]) zhM O zke O O)<|PX O O (Sy O (cs:=plC ⟨0,d,m,gi,c,pm,p,n,V,Dev.fresh L.length 1,z7v n,[],L,Fd,0,0,0⟩) O) ?_
 rintro _ K⟨s,rfl,A,D,S⟩
 refine Rw O<|PQ func32 O ?_
 have T:=B.size
 have X:=C.size
 have F:=C.trans D
 have u:=B.trans F
 have a:=M.ext F
 have Q:∀{b:Nat},TO c V p b->b<w1.heap.size:=M.lt
 have R:=H.lt
 have ltm:=y.ltm
 have ltg:=y.ltg
 refine⟨_,O,⟨s,d,m,gi,c,pm,p,n,V,Dev.fresh L.length 1,z7v n,[],L,Fd,0,0,0⟩,O,⟨S,H.ext u,y.ext u,a,G.ext D,(λg hg=>by cases hg),y1K,?_⟩,⟨ze1 E,Y,λx=>?_,y1K,(λg hg=>by cases hg),(λg hg=>by cases hg),(λg hg=>by cases hg),λx _ _ _=>rfl,λx _ _=>by simp[zeros],rfl,rfl,rfl,rfl,Int.le_refl _,y04 _,y03 _⟩,O,O,O,λb ⟨i,q⟩=>?_,u⟩
 ·intro i j ne b q U
  have o:∀i,Sf.cp ⟨s,d,m,gi,c,pm,p,n,V,Dev.fresh L.length 1,z7v n,[],L,Fd,0,0,0⟩ i b->(i=0/\b=s)\/(i=1/\Fd b/\b<w.heap.size)\/(i=2/\(b=m\/b=gi)/\b<w.heap.size)\/(i=3/\w.heap.size<=b/\b<w1.heap.size)\/(i=4/\b=pm):=λi q=>by
   match i,q with
   |0,e=>exact .inl ⟨O,e⟩
   |1,e=>exact .inr (.inl ⟨O,e,R b e⟩)
   |2,e=>exact .inr (.inr (.inl ⟨O,e,by have t:b=m\/b=gi:=e;omega⟩))
   |3,e=>exact .inr (.inr (.inr (.inl ⟨O,J b e,Q e⟩)))
   |4,e=>exact .inr (.inr (.inr (.inr ⟨O,e⟩)))
   |5,⟨g,hg,e⟩=>cases hg
  have h:=o i q;have l:=o j U;rcases h with⟨e,h⟩|⟨e,h,N⟩|⟨e,h,N⟩|⟨e,h,N⟩|⟨e,h⟩<;>rcases l with⟨f,l⟩|⟨f,l,z⟩|⟨f,l,z⟩|⟨f,l,z⟩|⟨f,l⟩<;>first|omega|skip
  ·rcases l with e| e
   ·exact r.1 (e▸h)
   ·exact r.2 (e▸h)
  ·rcases h with e| e
   ·exact r.1 (e▸l)
   ·exact r.2 (e▸l)
 ·constructor
  ·intro e;cases e
  ·intro e;rcases e with e|e<;>cases e
 ·match i,q with
  |0,e=>exact .inr (.inr (.inr (by have:b=s:=e;omega)))
  |1,e=>exact .inl e
  |2,e=>rcases e with e|e;exact .inr (.inl e);exact .inr (.inr (.inl e))
  |3,e=>exact .inr (.inr (.inr (J b e)))
  |4,e=>exact .inr (.inr (.inr (by have:b=pm:=e;omega)))
  |5,⟨g,hg,e⟩=>cases hg
end
def zbc {l:List (Int×PU)}{n:Int}(h:XQ l n=some t):∃x∈l,x.2=t:=by
 unfold XQ at h
 obtain⟨x,d,e⟩:=y1S.1 h
 exact⟨x,List.mem_reverse.1 (List.mem_of_find?_eq_some d),e⟩
theorem Dev.Ok.zeh {D:Dev}(h:D.Ok)(n:Int):(D.now n).length=512*D.N:=by
 unfold Dev.now
 cases d:XQ D.cache n with
 |none=>exact h.kept n
 | some t =>
   obtain⟨x,e,rfl⟩:=zbc d;exact(h.cache x e).2.2
section
variable {P P':Sf}
theorem Xp.zkm (h:Xp P txt K)(u:P.D.Ok):Xp {P with A:=P.A.drop k,l:=TP P.l k} (λx=>if x=k then P.D.now k else txt x) K:=by
 have r:=z2X h.nd k
 have j:=Uf P.l k
 have o:=Arc.za8 h.aok k
 have E:=h.ca
 have C:=h.cc
 have z:T8 (TP P.l k)<=T8 P.l:=j.countP_le
 have f:∀q∈TP P.l k,q∈P.l/\q.k≠k:=λq d=>⟨j.subset d,((r q.k).1 (y0g.2 ⟨q,d,O⟩)).2⟩
 refine⟨h.aok.drop k,h.asz,λx=>by dsimp only;rw[r,o,h.keys],(j.map _).nodup h.nd,λq d=>h.rng q (f q d).1,λq d=>?_,λq d y=>?_,λx m g n=>?_,λx m g=>?_,h.down,h.due,h.B,h.N,by dsimp only;omega,by dsimp only;omega,h.TF⟩
 ·rw[if_neg (f q d).2];exact h.tx q (f q d).1
 ·rw[if_neg (f q d).2];exact h.cl q (f q d).1 y
 ·dsimp only at g n⊢;rw[o,not_and] at n;by_cases e:x=k
  ·rw[if_pos e,e]
  ·rw[if_neg e];exact h.out x m g λv=>n v e
 ·dsimp only at g⊢;by_cases e:x=k
  ·rw[if_pos e,u.zeh,h.N]
  ·rw[if_neg e];exact h.len x m g
def Xp.XA (h:Xp P txt K)(d:P'.A=P.A)(g:P'.l=P.l)(e:P'.D=P.D)(f:P'.L=P.L):Xp P' txt K:=by
 obtain⟨j,a2,m,n,o,q,r,u,v,b1,b2,b3,x,b5,b6,b7⟩:=h
 constructor<;>simp only[d,g,e,f]<;>assumption
def VC.dok (h:VC w P):P.D.Ok:=by
 obtain⟨m,kp,ca,d,-⟩:=h.dev
 exact d.ok
theorem zb3 (l:List Pg)(k:Int):(k∉l.map (·.k)/\Su (Vo l) k=none)\/∃q∈l,q.k=k/\Su (Vo l) k=some (ptr q.b 0):=by
 induction l with
 |nil=>exact .inl ⟨ξ,O⟩
 | cons g l d =>
   show _\/_;by_cases h:k=g.k
   ·exact .inr ⟨g,y0r,h.symm,if_pos h⟩
   ·have e:Su (Vo (g::l)) k=Su (Vo l) k:=if_neg h;rw[e];rcases d with⟨a,b⟩|⟨q,a,b,c⟩
    ·exact .inl ⟨by simp[h] at a⊢;exact a,b⟩
    ·exact .inr ⟨q,y0u _ a,b,c⟩
theorem z81 (J:VC w P)(hI:Xp P txt K){n:Nat}(cf:1<=n)(jn:s+n<=P.L.length):Qx prog 108 [ptr P.s 0,.agg #[I (s:Int),I (n:Int)]] w λv w'=>v=I 0/\∃P' txt',VI w P w' P'/\Xp P' txt' K/\(∀x:Int,x<(s:Int)\/(s:Int)+(n:Int)<=x->txt' x=txt x)/\P.Same P':=by
 have eu:=J.ext.n
 have jx:=J.cells
 refine py (e:=[(0,_),(1,_)]) func108 O ntmps108 O O<|qN O<|PX O O (Sy O (cs:=[I (s:Int),I (n:Int)]) O) ?_
 rintro _ w1⟨b3,rfl,ev,ad,E⟩
 have cN:=J.r ad
 have qo:∀i,¬P.cp i b3:=J.new ω
 have M:=ad.PO jx
 have hg:=Ext.Qm w1
 have Y:=XU (cN.m.dev.ext hg)
 rw[hI.B] at Y
 refine Qe O<|RU<|Qz O<|qV (Rm XG O O)<|Qe O<|PW O<|Qz O<|QC O<|Qf z8T O<|qV (Q0 U4 O O M O)<|Qe O<|PW O<|It<|Sq (λw'=>Ext w1 w') O ?_
 refine PV 0 O (QE Sk O) hg<|qT 1 O (λ_ h=>(Q0 U3 O O (h.PO E) O)) hg<|PV 2 O (ylt O O) hg<|Vm<|Ql 3 O O hg<|PV 4 O (QE S6 O) hg<|qT 5 O (λ_ h=>(Q0 U3 O O (h.PO E) O)) hg<|PV 6 O (ylt O O) hg<|Vm<|PV 7 O (VF O O) hg<|Ql 8 O O hg<|PV 9 O (QE S6 O) hg<|qT 10 O (λ_ h=>(Q0 U3 O O (h.PO E) O)) hg<|Ql 11 O O hg ?_
 refine PV 12 O (Rs O) hg<|PV 13 O (QE Wi O) hg<|qT 14 O (λ_ h=>(Q0 U26 O O (h.PO M) O)) hg<|TQ 15 O z6A O Y ?_
 rintro _ w2⟨rfl,rfl⟩
 refine⟨hg,?_⟩
 refine PV 16 O (yge O O) hg<|Vm<|PV 17 O (VF O O) hg<|Ql 18 O O hg<|PV 19 O (QE Sk O) hg<|qT 20 O (λ_ h=>(Q0 U3 O O (h.PO E) O)) hg<|Ql 21 O O hg<|PV 22 O (Rs O) hg<|PV 23 O (QE Wi O) hg<|qT 24 O (λ_ h=>(Q0 U26 O O (h.PO M) O)) hg<|PV 26 O (QE S6 O) hg<|qT 27 O (λ_ h=>(Q0 U3 O O (h.PO E) O)) hg<|TQ 25 O z6A O Y ?_
 rintro _ w2⟨rfl,rfl⟩
 refine⟨hg,?_⟩
 refine PV 28 O (YS O O ω) hg<|PV 29 O (Zq O O) hg<|Vm<|PV 30 O (VF O O) hg<|PV 31 O (SG O) hg ?_
 obtain⟨w2,lQ⟩:∃w2,w1.drew=w2:=⟨_,O⟩
 rw[lQ] at hg⊢
 have U:=hg.PO E
 have cP:=cN.ext hg
 have kQ:=hg.PO M
 have l3:=U.lt
 refine qE<|QA.qb (e:=[(0,_),(3,_),(4,_),(16,_)]) ?_
 refine Us O<|PN<|It<|qN O<|Qf Sk O<|qV (Q0 U3 O O U O)<|Q4 O<|PR<|PT<|SN (α:=Nat) (0) (λi=>[(0,ptr P.s 0),(3,ptr b3 0),(49,I (n:Int)),(50,I (i:Int))]) (λi w'=>Ext w2 w'/\i<=n) (λi=>n-i) ?hI ?hround
 case hI=>exact⟨Ext.refl _,y03 _⟩
 case hround =>
  rintro i w3⟨G,hi⟩ ih;have R:=cP.ext G;have kO:=G.PO kQ;have W:=G.PO U;have f:=Ext.Qm w3
  try dsimp only
  refine qN O<|RT O<|PR<|It<|Qa O (λh0=>?_)<|λh0=>?_
  ·refine PS (RU (Qz O (Qe O (It (Sq (λw'=>Ext w3 w') O (Ql 0 O O f (PV 1 O (Rs O) f (PV 2 O (QE Wr O) f (qT 3 O (λ_ h=>(Q0 XW O O (h.PO kO) O)) f (PV 4 O (QE S6 O) f (qT 5 O (λ_ h=>(Q0 U3 O O (h.PO W) O)) f (Ql 6 O O f (PV 7 O (W7 O O ω) f ?_)))))))))))));rw[show(s:Int)+(i:Int)=((s+i:Nat):Int) by omega];refine qT 8 O (λ_ hS=>ylk (k:=((s+i:Nat):Int)) (K:=KI) XW (Tk U3) zbK O O (R.m.ext' hS).mp.l) f ?_;rcases zb3 P.l ((s+i:Nat):Int) with⟨-,Z⟩|⟨q,a,-,Z⟩
   ·rw[Z];refine PV 9 O (SG O) f<|qE<|Qz O<|qV (z6v zj9 O O)<|Q4 O<|Sc<|Sc<|qS<|R0 O<|Ri O<|PN<|PY O<|Ra O<|Q4 O ?_;refine PR ?_;exact(ih (i+1) _ ⟨G.trans f,ω⟩ ω).qb
   ·rw[Z];have rQ:=(f.PO (R.m.pg q a):Q8 w3.drew q.b [S q.t,.bool q.d,I 0] 220);refine PV 9 O (SG O) f<|qE<|Qz O<|qV (z6v zj9 O O)<|Qq O<|QC O<|Qf zeW O<|qV (Q0 U3 O O rQ O)<|RR O<|QW<|Sh O<|Ri O<|PN<|PY O ?_;refine Ra O<|Q4 O<|PR ?_;exact(ih (i+1) _ ⟨G.trans f,ω⟩ ω).qb
  ·have aN : i = n := by omega
   subst aN;refine Q7 O<|It<|qN O<|Qf Sk O<|qV (Q0 U3 O O W O)<|Q4 O<|PR<|PT<|SN (α:=Nat×Sf×(Int->PU)) (0,P,txt) (λy=>[(0,ptr P.s 0),(3,ptr b3 0),(73,I (i:Int)),(74,I (y.1:Int))]) (λy w'=>VI w P w' y.2.1/\Xp y.2.1 y.2.2 K/\y.1<=i/\P.Same y.2.1/\(∀x:Int,x<(s:Int)\/(s:Int)+(i:Int)<=x->y.2.2 x=txt x)/\Q8 w' b3 [I (s:Int),I (i:Int)] 124/\∀j,¬y.2.1.cp j b3) (λy=>i-y.1) ?hI ?hround
   case hI=>exact⟨R,hI,y03 _,⟨rfl,rfl,rfl,rfl,rfl,rfl,rfl,rfl,rfl⟩,λx _=>rfl,W,qo⟩
   case hround =>
    rintro⟨j,Pj,tj⟩ w4 ⟨F,T,hj,g,A,Q,C⟩ H;dsimp only at F T hj g A Q C H⊢;have iV:=F.m.cells;rw[g.s] at iV;have o:=Ext.Qm w4;have dD:=Ext.Qm w4.drew
    try dsimp only
    refine qN O<|RT O<|PR<|It<|Qa O (λh2=>?_)<|λh2=>?_
    ·refine PS (RU (Qz O (Qe O (It (Qp [8] (λw'=>Ext w4 w') y00 O (R1 0 O O o (Qs 1 O (Rs O) o (Qs 2 O (QE Wr O) o (qL 3 O (λ_ h=>(Q0 XW O O (h.PO iV) O)) o (Qs 4 O (QE S6 O) o (qL 5 O (λ_ h=>(Q0 U3 O O (h.PO Q) O)) o (R1 6 O O o (Qs 7 O (W7 O O ω) o ?_)))))))))))));refine U0 [8] ?_;rw[show(s:Int)+(j:Int)=((s+j:Nat):Int) by omega];refine qO 8<|zbU (i:=8) O O (zgP (k:=((s+j:Nat):Int)) (K:=KI) XW (Tk U3) O O (F.ext o).m.mp O) ?_;rintro _ w5⟨qQ,ai⟩;refine⟨trivial,?_⟩;rw[z3V] at qQ;have bL:=(F.ext o).del (Uf _ _) qQ ai;have N:=ai.PO (o.PO Q) (C 4);have V:=bL.m.cells;dsimp only at V;rw[g.s] at V;have u:=Ext.Qm w5;have cL:=bL.ext u;refine qE (Qp [8] (λw'=>Ext w5 w') y00 O (R1 0 O O u (Qs 1 O (Rs O) u (Qs 2 O (QE z9d O) u (qL 3 O (λ_ h=>(Q0 zbm O O (h.PO V) O)) u (Qs 4 O (QE S6 O) u (qL 5 O (λ_ h=>(Q0 U3 O O (h.PO N) O)) u (R1 6 O O u (Qs 7 O (W7 O O ω) u (U0 [8] ?_))))))))));rw[show(s:Int)+(j:Int)=((s+j:Nat):Int) by omega];refine TQ 8 O ziF O (zbp cL.m.arc (k:=((s+j:Nat):Int))) ?_;rintro _ w6⟨⟨z,rfl⟩,V6,X⟩;refine⟨trivial,?_⟩;have Ai:=cL.arc X;have jh:=X.k.PO (u.PO N) (C 3);refine qE<|PN<|PY O<|Ra O<|Q4 O<|PR ((H (j+1,_,_) _ ⟨Ai,(T.zkm F.m.dok (k:=((s+j:Nat):Int))).XA O O O O,by dsimp only;omega,⟨g.s,g.d,g.m,g.gi,g.c,g.pm,g.p,g.fr,g.L⟩,λx hx=>?_,jh,λi2 e=>?_⟩ (by dsimp only;omega)).qb)
     ·show(if x=((s+j:Nat):Int) then Pj.D.now ((s+j:Nat):Int) else tj x)=txt x;rw[if_neg ω];exact A x hx
     ·match i2,e with
      |0,e=>exact C 0 e
      |1,e=>exact C 1 e
      |2,e=>exact C 2 e
      | 3, e =>
        rcases X.fp b3 e with e| e
        ·exact C 3 e
        ·have:=(u.PO N).lt;omega
      |4,e=>exact C 4 e
      |5,⟨q,a,e⟩=>exact C 5 ⟨q,(Uf _ _).subset a,e⟩
    ·have sh:j=i:=ω
     subst sh;refine Q7 O<|RY O<|PQ func108 O ?_;exact⟨_,O,O,Pj,tj,F,T,A,g⟩
theorem z7f (y:VC w P)(M:Xp P txt K){n:Nat}(u:1<=n)(J:2<=s)(j:s+n<=P.L.length)(N:∀i,s<=i->i<s+n->P.L[i]? =some true):Qx prog 73 [ptr P.s 0,.agg #[I (s:Int),I (n:Int)]] w λv w'=>v=I 0/\∃P' txt',VI w P w' {P' with L:=R9 P.L s n false}/\Xp {P' with L:=R9 P.L s n false} txt' K/\(∀x:Int,x<(s:Int)\/(s:Int)+(n:Int)<=x->txt' x=txt x)/\P.Same P':=by
 refine py (e:=[(0,_),(1,_)]) func73 O ntmps73 O O<|qN O<|PX O O (Sy O (cs:=[I (s:Int),I (n:Int)]) O) ?_
 rintro _ w1⟨b3,rfl,S,D,g⟩
 have o:=y.r D
 have R:∀i,¬P.cp i b3:=y.new ω
 refine Qe O<|QV O<|qV (QB (news:=[I (s:Int),I (n:Int)]) Ww O Sj O (Q8.cells (n:=2) g O) O)<|Qj zjs O (z81 o.m M u j) ?_
 rintro _ w2⟨rfl,P',txt',q,F,Q,f⟩
 have U:=g.lt
 have H:=q.k.PO g (λ⟨i,e⟩=>R i e)
 have l:=o.trans q
 have z:=l.m.cells
 rw[f.s] at z
 refine RZ O<|RI O ?_
 have d:=Ext.Qm w2
 have B:=(l.ext d).m.ext
 rw[f.L] at B
 refine Ri O<|It<|Qp [5,6] (λw'=>Ext w2 w') y00 O<|R1 0 O O d<|Qs 1 O (Rs O) d<|Qs 2 O (QE z4A O) d<|qL 3 O (λ_ h=>Q0 U66 O O (h.PO z) O) d<|qL 4 O (λ_ h=>QB (news:=[I (s:Int),I (n:Int)]) Ww O Sj O (Q8.cells (n:=2) (h.PO H) O) O) d<|U0 [5]<|TQ 5 O zk7 O (z8f B s n u J j N) ?_
 rintro _ W⟨rfl,C,E⟩
 refine⟨trivial,?_⟩
 have G:=(l.ext d).exM C E
 refine PV 6 O (SG O) trivial<|qE<|PQ func73 O ?_
 exact⟨_,O,O,P',txt',G,F.Re (by rw[Rq j,f.L]),Q,f⟩
end
def Sp (Q:Sf)(txt:Int->PU)(K:Nat)(X:Nat->Prop)(w:World):Prop:=∃P,VC w P/\Xp P txt K/\Q.Same P/\∀b,P.fp b->¬X b
section
variable {Q Q' P P':Sf}{Y:Nat->Prop}{K':Nat}
theorem Sp.step (h:Sp Q txt K X w)(n:Kp S' w w')(l:∀b,S' b->X b)(m:∀b,Y b->X b\/w.heap.size<=b):Sp Q txt K Y w':=by
 obtain⟨P,g,j,o,f⟩:=h
 refine⟨P,g.kp n λb d e=>f b d (l b e),j,o,λb d e=>?_⟩
 rcases m b e with e| e
 ·exact f b d e
 ·have:=g.lt d;omega
theorem Sp.ext (h:Sp Q txt K X w)(f:Ext w w')(d:∀b,Y b->X b\/w.heap.size<=b):Sp Q txt K Y w':=h.step (S':=λ_=>False) f (λ_ e=>e.elim) d
def Sp.ext' (h:Sp Q txt K X w)(d:Ext w w'):Sp Q txt K X w':=h.ext d λ_ e=> .inl e
def Sp.own (h:Sp Q txt K X w)(f:Kp S' w w')(d:∀b,S' b->X b):Sp Q txt K X w':=h.step f d λ_ e=> .inl e
theorem Sp.of (f:∀b,P.fp b->¬X b)(j:∀b,X b->b<w.heap.size)(d:VI w P w' P')(g:Xp P' txt' K')(n:Q'.Same P'):Sp Q' txt' K' X w'/\Kp (λb=>¬X b) w w':=
 ⟨⟨P',d.m,g,n,λb l e=>by
  rcases d.fp b l with h| h
  ·exact f b h e
  ·have:=j b e;omega⟩,d.k.PZ f⟩
def Xp.more (h:Xp P txt K)(q:K<=K'):Xp P txt K':=by
 obtain⟨d,a2,e,f,g,j,l,m,n,b1,b2,b3,o,b5,b6,b7⟩:=h
 exact⟨d,a2,e,f,g,j,l,m,n,b1,b2,b3,o,ω,ω,b7⟩
theorem Sp.more (h:Sp Q txt K X w)(e:K<=K'):Sp Q txt K' X w:=by
 obtain⟨P,g,d,j,f⟩:=h
 exact⟨P,g,d.more e,j,f⟩
theorem Sp.less (h:Sp Q txt K X w)(f:∀b,Y b->X b):Sp Q txt K Y w:=by
 obtain⟨P,l,d,m,j⟩:=h
 exact⟨P,l,d,m,λb g e=>j b g (f b e)⟩
theorem Sp.size (h:Sp Q txt K X w):Qx prog 65 [ptr Q.s 0] w λv w'=>v=I 512/\w'=w:=by
 obtain⟨P,e,d,f,-⟩:=h
 rw[<-f.s]
 exact z2I e d.N
theorem Sp.dev (h:Sp Q txt K X w):Qx prog 137 [ptr Q.s 0] w λv w'=>v=ptr Q.d 0/\w'=w:=by
 obtain⟨P,f,g,e,-⟩:=h
 rw[<-e.s,<-e.d]
 exact zbs f
theorem Sp.blocks (h:Sp Q txt K X w):Qx prog 138 [ptr Q.d 0] w λv w'=>v=I (Q.L.length:Int)/\w'=w:=by
 obtain⟨P,j,g,f,-⟩:=h
 have e:=XU j.dev
 rw[g.B] at e
 rw[<-f.d,<-f.L]
 exact e
theorem Sp.map (h:Sp Q txt K X w):Qx prog 24 [ptr Q.s 0] w λv w'=>v=ptr Q.m 0/\w'=w:=by
 obtain⟨P,e,f,d,-⟩:=h
 rw[<-d.s,<-d.m]
 exact zb1 e
theorem Sp.room (h:Sp Q txt K X w)(e:Pre Q.L a)(d:a<Q.L.length):Qx prog 25 [ptr Q.m 0] w λv w'=>v=I ((Q.L.length-a:Nat):Int)/\Ext w w':=by
 obtain⟨P,g,j,f,-⟩:=h
 rw[<-f.m]
 rw[<-f.L] at e d⊢
 exact z6X g.ext e d
theorem Sp.z0D (h:Sp Q txt K X w){x:Int}(d:0<=x)(e:x<(Q.L.length:Int)):(txt x).length=512:=by
 obtain⟨P,j,f,g,-⟩:=h
 exact f.len x d (by rw[g.L];exact e)
theorem Sp.n (h:Sp Q txt K X w):Q.L.length<=4096:=by
 obtain⟨P,d,f,e,-⟩:=h
 rw[<-e.L]
 exact d.ext.n
theorem Sp.read (h:Sp Q txt K X w)(l:∀b,X b->b<w.heap.size)(j:K<1000000000000){no:Int}(e:0<=no)(f:no<(Q.L.length:Int)):Qx prog 83 [ptr Q.s 0,I no] w λv w'=>v= .tuple #[S (txt no),I 0]/\Sp Q txt K X w'/\Kp (λb=>¬X b) w w':=by
 obtain⟨P,n,g,d,m⟩:=h
 rw[<-d.s]
 refine(z7Q n g j e (by rw[d.L];exact f)).mono λv w' ⟨q,P',o,r,u⟩=>⟨q,Sp.of m l o r (d.trans u)⟩
theorem Sp.write (h:Sp Q txt K X w)(l:∀b,X b->b<w.heap.size)(j:K<1000000000000){no:Int}(e:0<=no)(f:no<(Q.L.length:Int))(t:PU)(ht:t.length=512):Qx prog 100 [ptr Q.s 0,I no,S t] w λv w'=>v=I 0/\Sp Q (z0C txt no (some t)) (K+1) X w'/\Kp (λb=>¬X b) w w':=by
 obtain⟨P,n,g,d,m⟩:=h
 rw[<-d.s]
 refine(zau n g j e (by rw[d.L];exact f) t ht).mono λv w' ⟨q,P',o,r,u⟩=>⟨q,Sp.of m l o r (d.trans u)⟩
def Sf.Re (Q:Sf)(L:List Bool):Sf:={Q with L:=L}
theorem Sf.Same.Re (h:Q.Same P)(L:List Bool):(Q.Re L).Same {P with L:=L}:=⟨h.s,h.d,h.m,h.gi,h.c,h.pm,h.p,h.fr,rfl⟩
theorem Sp.take (h:Sp Q txt K X w)(l:∀b,X b->b<w.heap.size){n:Nat}(f:Pre Q.L a)(g:1<=n)(e:a+n<=Q.L.length):Qx prog 66 [ptr Q.s 0,I (n:Int)] w λv w'=>v= .tuple #[.agg #[I (a:Int),I (n:Int)],I 0]/\Sp (Q.Re (R9 Q.L a n true)) txt K X w'/\Kp (λb=>¬X b) w w':=by
 obtain⟨P,o,j,d,m⟩:=h
 rw[<-d.s]
 rw[<-d.L] at f e
 refine(z7b o f g e).mono λv w' ⟨r,q⟩=>⟨r,?_⟩
 rw[<-d.L]
 exact Sp.of m l q (j.Re (by rw[Rq e])) (d.Re _)
theorem Sp.zl8 (h:Sp Q txt K X w)(q:∀b,X b->b<w.heap.size){n:Nat}(g:1<=n)(j:2<=s)(f:s+n<=Q.L.length)(e:∀i,s<=i->i<s+n->Q.L[i]? =some true):Qx prog 73 [ptr Q.s 0,.agg #[I (s:Int),I (n:Int)]] w λv w'=>v=I 0/\∃txt',Sp (Q.Re (R9 Q.L s n false)) txt' K X w'/\(∀x:Int,x<(s:Int)\/(s:Int)+(n:Int)<=x->txt' x=txt x)/\Kp (λb=>¬X b) w w':=by
 obtain⟨P,u,o,d,r⟩:=h
 rw[<-d.s]
 rw[<-d.L] at f e
 refine(z7f u o g j f e).mono λv w' ⟨z,P',txt',y,C,B,D⟩=>⟨z,txt',?_⟩
 obtain⟨l,m⟩:=Sp.of r q y C ((d.trans D).Re _)
 rw[<-d.L]
 exact⟨l,B,m⟩
end
open Go.Proofs Go.Shelf
def z6z:Go.Shelf.Ren:=⟨fun|105=>76|212=>110|99=>111|165=>112|166=>84|170=>113|169=>85|263=>148|264=>149|206=>150|240=>122|241=>151|276=>159|277=>182|n=>n,fun|9=>9|3=>3|4=>4|20=>20|0=>0|46=>172|109=>205|5=>5|72=>175|76=>179|51=>42|146=>252|53=>39|148=>254|70=>173|37=>113|75=>178|127=>222|164=>265|80=>181|n=>n,fun|n=>n⟩
def zgn:Go.Proofs.Lays.n105 prog z6z:={
 mixed:=y00
 f99:=func111.trans (congrArg some y00)
 f105:=func76.trans (congrArg some y00)
 f165:=func112.trans (congrArg some y00)
 f166:=func84.trans (congrArg some y00)
 f169:=func85.trans (congrArg some y00)
 f170:=func113.trans (congrArg some y00)
 f206:=func150.trans (congrArg some y00)
 f212:=func110.trans (congrArg some y00)
 f240:=func122.trans (congrArg some y00)
 f241:=func151.trans (congrArg some y00)
 f263:=func148.trans (congrArg some y00)
 f264:=func149.trans (congrArg some y00)
 f276:=func159.trans (congrArg some y00)
 f277:=func182.trans (congrArg some y00)
 t0:=underlying0
 a0:=isAgg0
 z0:=sizeOf0
 v0:=zeroValue0
 t3:=underlying3
 a3:=isAgg3
 z3:=sizeOf3
 v3:=zeroValue3
 t4:=underlying4
 a4:=isAgg4
 z4:=sizeOf4
 v4:=zeroValue4
 t5:=underlying5
 a5:=isAgg5
 z5:=sizeOf5
 v5:=zeroValue5
 t9:=underlying9
 a9:=isAgg9
 z9:=sizeOf9
 v9:=zeroValue9
 t20:=underlying20
 a20:=isAgg20
 z20:=sizeOf20
 v20:=zeroValue20
 t37:=underlying113
 a37:=isAgg113
 z37:=sizeOf113
 v37:=zeroValue113
 t46:=underlying172
 a46:=isAgg172
 z46:=sizeOf172
 v46:=zeroValue172
 t51:=underlying42
 a51:=isAgg42
 z51:=sizeOf42
 v51:=zeroValue42
 t53:=underlying39
 a53:=isAgg39
 z53:=sizeOf39
 v53:=zeroValue39
 t70:=underlying173
 a70:=isAgg173
 z70:=sizeOf173
 v70:=zeroValue173
 t72:=underlying175
 a72:=isAgg175
 z72:=sizeOf175
 v72:=zeroValue175
 t75:=underlying178
 a75:=isAgg178
 z75:=sizeOf178
 v75:=zeroValue178
 t76:=underlying179
 a76:=isAgg179
 z76:=sizeOf179
 v76:=zeroValue179
 t109:=underlying205
 a109:=isAgg205
 z109:=sizeOf205
 v109:=zeroValue205
 t127:=underlying222
 a127:=isAgg222
 z127:=sizeOf222
 v127:=zeroValue222
 t146:=underlying252
 a146:=isAgg252
 z146:=sizeOf252
 v146:=zeroValue252
 t148:=underlying254
 a148:=isAgg254
 z148:=sizeOf254
 v148:=zeroValue254
 t164:=underlying265
 a164:=isAgg265
 z164:=sizeOf265
 v164:=zeroValue265}
/-! ### A builder of strings -/
theorem zgF:Builder.Extra prog z6z where
 sizeBuilder:=y00
 liesBuilder:=y00
 t5:=y00
 a5:=λ_=>y00
 z5:=λ_=>y00
 v5:=λw=>TI.zero (w:=w) YK
 infoByte:=y00
 cellsByte:=y00
 sizeByte:=y00
 neB5:=ψ
section
end
theorem z9X (l:PU):∀n,Lib.repeatL l n=(List.replicate n l).flatten
 |0=>rfl
 |n+1=>by rw[Lib.repeatL,z9X l n];rfl
def z0g (l:PU)(n:Nat)(e:l.length<=100)(f:n<=1000000)(w:World):Qx prog 76 [S l,I (n:Int)] w λv w'=>v=S (List.replicate n l).flatten/\Ext w w':=by
 have h:n*l.length<=1000000*100:=y15 f e
 have:=Any.strings_Repeat zgn zgF ⟨l.toArray⟩ n w ω (by rw[U8,y0E];omega)
 refine y1P this λ_ _ ⟨d,g⟩=>⟨_,d,?_,Ext.zdq g⟩
 show Value.string ⟨(Lib.repeatL l n).toArray⟩=_
 rw[z9X]
def Ut (w n:Nat):PU:=(List.range w).map λk=>UInt8.ofNat (n / 2^(8*(w-1-k)))
theorem QS (w n:Nat):(Ut w n).length=w:=by simp[Ut]
theorem zdu (w n:Nat):Ut (w+1) n=UInt8.ofNat (n / 2^(8*w))::Ut w n:=by
 unfold Ut
 rw[List.range_succ_eq_map,y0j,y1j]
 congr 1
 refine y0N λk d=>?_
 show UInt8.ofNat (n / 2^(8*(w+1-1-(k+1))))=_
 rw[show w+1-1-(k+1)=w-1-k by omega]
theorem z0I:∀(w n:Nat),Qo (Ut w n)=Qu (8*w) n
 |0,n=>rfl
 | w + 1, n => by
   rw[zdu,US,z0I w n,show 8*(w+1)=8+8*w by omega,Ta]
   congr 1
   refine XN ?_;have:(UInt8.ofNat (n / 2^(8*w))).toNat=n / 2^(8*w)%256:=ξ
   rw[this];omega
theorem z1B {w n:Nat}(h:n<2^(8*w)):QO (Qo (Ut w n))=n:=by
 rw[z0I,Rl,y0e h]
theorem z92 (s:PU):Ut s.length (QO (Qo s))=s:=by
 have j:Qo (Ut s.length (QO (Qo s)))=Qo s:=by
  rw[z0I];have:=z2T (Qo s);rw[bitsT_length] at this;exact this
 have inj:∀a b:PU,a.length=b.length->Qo a=Qo b->a=b:=λa=>by
  induction a with
  | nil => intro b e _; cases b with
    |nil=>rfl
    |cons=>cases e
  | cons c a l =>
    intro b e f
    cases b with
    |nil=>cases e
    | cons d b =>
      rw[US,US] at f;obtain⟨g,h⟩:=List.append_inj f (by rw[bitsN_length,bitsN_length]);rw[l b (by simpa using e) h]
      congr 1
      have:=congrArg QO g;rw[Rl,Rl] at this;have m:=c.toNat_lt;have o:=d.toNat_lt;exact UInt8.toNat_inj.1 ω
 exact inj _ _ (QS _ _) j
def Laid (txt:Int->PU)(a:Nat)(T:PU):Prop:=∀k,512*k<T.length->(txt ((a+k:Nat):Int)).take (T.length-512*k)=(T.drop (512*k)).take 512
section
variable {n:Nat}{T:PU}
def Laid.piece (h:Laid txt a T){off n:Nat}(g:off+n<=T.length)(j:n<=512-off%512):((txt ((a+off / 512:Nat):Int)).drop (off%512)).take n=(T.drop off).take n:=by
 by_cases f:n=0
 ·subst f;simp
 have d:=h (off / 512) ω
 have e:=congrArg (λl=>(l.drop (off%512)).take n) d
 try dsimp only at e
 rw[y1r,y1z,y0B ω,y1r,y1z,y0G,y0B ω,show 512*(off / 512)+off%512=off by omega] at e
 exact e
def Laid.XA (h:Laid txt a T)(e:∀k,512*k<T.length->txt' ((a+k:Nat):Int)=txt ((a+k:Nat):Int)):Laid txt' a T:=λk d=>by rw[e k d];exact h k d
def Laid.of (h:∀k,512*k<T.length->(txt ((a+k:Nat):Int)).length=512/\∃r,txt ((a+k:Nat):Int)=(T.drop (512*k)).take 512++r):Laid txt a T:=λk f=>by
 obtain⟨g,r,e⟩:=h k f
 have d:((T.drop (512*k)).take 512).length=min 512 (T.length-512*k):=ξ
 rw[e,y01,d] at g
 rw[e]
 by_cases j:T.length-512*k<=512
 ·exact y1c (by rw[d];omega)
 ·have:r=[]:=y0w ω;rw[this,y0o,y0z (by rw[d];omega)]
end
def VcT (txt:Int->PU)(st width each:Nat)(xs:List Nat):Prop:=∀i x,xs[i]? =some x->((txt ((st+i / each:Nat):Int)).drop (i%each*width)).take width=Ut width x/\x<2^(8*width)
theorem z3d (a b c:PU){k n:Nat}(d:k+n<=a.length):((a++b++c).drop k).take n=(a.drop k).take n:=by
 rw[y06,y1i ω,y1n (by rw[y08];omega)]
section
def VcT.XA (h:VcT txt st width each xs)(e:∀i,i<xs.length->txt' ((st+i / each:Nat):Int)=txt ((st+i / each:Nat):Int)):VcT txt' st width each xs:=λi x d=>by
 have hi:i<xs.length:=by
  rcases y0a i xs.length with h| h
  ·exact h
  ·rw[y0v h] at d;cases d
 rw[e i hi]
 exact h i x d
theorem VcT.set (h:VcT txt st width each xs)(z:1<=each){x:Nat}(r:x<2^(8*width))(hi:i<xs.length)(ht:txt ((st+i / each:Nat):Int)=t)(B:i%each*width+width<=t.length):VcT (z0C txt ((st+i / each:Nat):Int) (some (t.take (i%each*width)++Ut width x++t.drop (i%each*width+width)))) st width each (xs.set i x):=λj y d=>by
 by_cases g:j / each=i / each
 ·rw[g,Th];show((t.take (i%each*width)++Ut width x++t.drop (i%each*width+width)).drop (j%each*width)).take width=_/\_;have l:(t.take (i%each*width)).length=i%each*width:=by rw[y0d];omega
  by_cases f:j=i
  ·subst f;rw[y1d hi] at d;cases d;refine⟨?_,r⟩;rw[y06,y10 l,y1c (QS _ _)]
  ·rw[y0W (λe=>f e.symm)] at d;obtain⟨n,q⟩:=h j y d;refine⟨?_,q⟩;rw[g,ht] at n;rw[<-n];have D:=y2b i each;have u:=y2b j each;rw[g] at u;have o:j%each≠i%each:=λe=>f ω;rcases Nat.lt_or_gt_of_ne o with C|v
   ·have m:(j%each+1)*width<=i%each*width:=y0S _ ω;rw[y0q,y0O] at m;rw[z3d _ _ _ ω,y1r,y1z,y0B ω]
   ·have m:(i%each+1)*width<=j%each*width:=y0S _ ω;rw[y0q,y0O] at m;rw[y39,y2j (by rw[y01,l,QS];omega),y14,y01,l,QS,y0G,show i%each*width+width+(j%each*width-(i%each*width+width))=j%each*width by omega]
 ·have f:j≠i:=λe=>g (by rw[e]);rw[y0W (λe=>f e.symm)] at d;rw[SL _ _ ω];exact h j y d
def z2Z {l z:PU}{w:Nat}(d:l.length=w):∀(e k:Nat),k<e->(((List.replicate e l).flatten++z).drop (k*w)).take w=l
 |0,k,h=>ω
 | e + 1, 0, h => by
   rw[y1k,y0U,y19,y3c,y06]
   exact y1c d
 | e + 1, k + 1, h => by
   rw[y19,y3c,y06,y39,y2j (by rw[d,y0q];omega),y14,d,y0q,y0O,y1h];exact z2Z d e k ω
theorem VcT.fill {n x:Nat}(g:x<2^(8*width))(f:1<=each)(h:∀i,i<n->∃z,txt ((st+i / each:Nat):Int)=(List.replicate each (Ut width x)).flatten++z):VcT txt st width each (List.replicate n x):=λi y d=>by
 rw[y1b] at d
 split at d
 ·rename_i hi
  cases d;obtain⟨z,e⟩:=h i hi;rw[e];exact⟨z2Z (QS _ _) each _ (y0Y _ f),g⟩
 ·cases d
theorem VcT.block (h:VcT txt st width each xs)(j:each*width<=(txt ((st+b:Nat):Int)).length):∀m,m<=each->b*each+m<=xs.length->(txt ((st+b:Nat):Int)).take (m*width)=((xs.drop (b*each)).take m).flatMap (Ut width)
 |0,_,_=>ξ
 | m + 1, hm, hx => by
   have l:=h.block j m ω ω;have d:b*each+m<xs.length:=ω
   have e:=(h (b*each+m) xs[b*each+m] (y07 d)).1;have f:(m+1)*width<=each*width:=y0S _ hm;rw[y0q,y0O] at f;rw[show(b*each+m) / each=b from by rw[y0E,Nat.mul_add_div ω,y2h ω,y1f],show(b*each+m)%each=m from by rw[y0E,Nat.mul_add_mod,y0e ω]] at e
   have g:(xs.drop (b*each)).take (m+1)=(xs.drop (b*each)).take m++[xs[b*each+m]]:=by
    rw[List.take_add_one,y1M,y07 d];rfl
   rw[g,y1Z,<-l,y0q,y0O,y2N,e];simp
def Wc (width:Nat)(xs:List Nat):PU:=xs.flatMap (Ut width)
def z0T (width n:Nat)(s:PU):List Nat:=(List.range n).map λi=>QO (Qo ((s.drop (i*width)).take width))
def z4i (width n:Nat)(s:PU):(z0T width n s).length=n:=by simp[z0T]
theorem Un (width:Nat):∀xs:List Nat,(Wc width xs).length=xs.length*width
 |[]=>by simp[Wc]
 | x :: xs => by
   have:=Un width xs;unfold Wc at*;rw[y0V,y01,QS,this,y02,y0q];omega
theorem z2e {width:Nat}:∀{xs:List Nat},(∀x∈xs,x<2^(8*width))->z0T width xs.length (Wc width xs)=xs
 |[],_=>rfl
 | x :: xs, h => by
   have e:=z2e (xs:=xs) λy d=>h y (y0u _ d);unfold z0T Wc at*;rw[y02,List.range_succ_eq_map,y0j,y1j,y0V]
   congr 1
   ·rw[y1k,y0U,y1c (QS _ _),z1B (h x y0r)]
   ·conv=>rhs;rw[<-e]
    refine y0N λi _=>?_;show QO (Qo (List.take width (List.drop ((i+1)*width) _)))=_;rw[y0q,y0O,y39,y2j (by rw[QS];omega),y14,QS,y1h]
def VcT.load {n:Nat}{s:PU}(l:s.length=n*width)(u:1<=each)(h:∀i,i<n->∃z,txt ((st+i / each:Nat):Int)=(s.drop (i / each*(each*width))).take (each*width)++z):VcT txt st width each (z0T width n s):=λi y d=>by
 unfold z0T at d
 rw[y0m] at d
 by_cases hi:i<n
 ·rw[y1E hi] at d;cases d;obtain⟨z,e⟩:=h i hi;have r:=y2b i each;have v:=y0Y i u
  have f:((s.drop (i*width)).take width).length=width:=by
   have:(i+1)*width<=n*width:=y0S _ ω;rw[y0q,y0O] at this;rw[y0d,y08,l];omega
  have q:i*width=i / each*(each*width)+i%each*width:=by
   rw[<-y1W,<-y0q,y0E (i / each)];rw[r]
  have o:(i%each+1)*width<=each*width:=y0S _ ω;rw[y0q,y0O] at o;have m:(i+1)*width<=n*width:=y0S _ ω;rw[y0q,y0O] at m;refine⟨?_,?_⟩
  ·have j:=z92 ((s.drop (i*width)).take width);rw[f] at j;rw[j,e]
   have x:i%each*width+width<=((s.drop (i / each*(each*width))).take (each*width)).length:=by
    rw[y0d,y08,l];omega
   rw[y1i ω,y1n (by rw[y08];omega),y1r,y1z,y0G,y0B ω,<-q]
  ·have g:=Se (Qo ((s.drop (i*width)).take width));rw[bitsT_length,f] at g;exact g
 ·rw[y0v (by simpa using hi)] at d;cases d
end
def z2m (n wd k:Nat):List Value:=(List.range wd).map λi=>if i<k then Ua (UInt8.ofNat (n / 2^(8*(wd-1-i)))) else .int .u8 0
@[simp] theorem beTo_length (n wd k:Nat):(z2m n wd k).length=wd:=by simp[z2m]
theorem z3I (n wd:Nat):z2m n wd 0=List.replicate wd (.int .u8 0):=by
 apply y2n<;>simp[z2m]
theorem z5y (n wd:Nat):z2m n wd wd=(Ut wd n).map Ua:=by
 simp only[z2m,Ut,y1j]
 apply y0N
 intro i hi
 rw[if_pos (by simpa using hi)];rfl
theorem z6b (n wd k:Nat)(h:k<wd):(z2m n wd k).set (0+k*1) (.int .u8 ((n / 2^(8*(wd-1-k))%256:Nat):Int))=z2m n wd (k+1):=by
 apply y2n
 ·simp
 ·intro j g e;have l:j<wd:=by simpa using e
  simp only[z2m,List.getElem_set,List.getElem_map,List.getElem_range];by_cases f:j=k
  ·subst f;simp[Ua]
  ·rw[if_neg ω];by_cases d:j<k
   ·rw[if_pos d,if_pos ω]
   ·rw[if_neg d,if_neg ω]
theorem z1d (n wd:Nat)(w:World)(B:n<18446744073709551616)(C:wd<=8):Qx prog 104 [Qi n,I (wd:Int)] w λv w'=>v=S (Ut wd n)/\Ext w w':=by
 have y:maxLen=9223372036854775807:=rfl
 refine py (e:=[(0,_),(1,_)]) func104 O ntmps104 O O<|qN O<|RZ O<|PX O O (pmk (c:=wd) (n:=wd) RB YK O O O ω ω ω) ?_
 rintro _ w1⟨b1,rfl,⟨r,o,g⟩,-⟩
 refine Qe O<|QV O<|SS RB O<|Q4 O<|PR<|PT ?_
 rw[<-z3I n wd] at g
 refine SN (α:=Nat) (0) (λk=>[(0,Qi n),(1,I (wd:Int)),(5,.slice (some ⟨b1,0,none⟩) wd wd),(10,I (wd:Int)),(11,I (k:Int))]) (λk w'=>k<=wd/\Q8 w' b1 (z2m n wd k) 5/\Ext w w') (λk=>wd-k) ?hI ?hround
 case hI=>exact⟨ω,g,o⟩
 case hround=>
  rintro k w2⟨z,d,f⟩ u
  try dsimp only
  refine qN O<|RT O<|PR<|It<|Qa O (λm=>?_)<|λm=>?_
  ·have j:k<wd:=ω
   refine PS (RU (Qz O (Qe O (PY O (Qq O (Qq O (SA O (Q4 O (SA O (qV (WB O O ω) ?_))))))))));rw[show(8:Int)*(((wd:Int)-1)-(k:Int))=((8*(wd-1-k):Nat):Int) from by omega];refine qV (Vl (8*(wd-1-k)) (2^(8*(wd-1-k))) O O (by simp only[IntKind.bits];omega) O) ?_;refine qV (z5M O SK U5) (qV (Rk RB YK O O ω) (Qc O (S0 YK O O O d (by simp;omega)) ?_));rintro x⟨h,q⟩;rw[z6b n wd k j] at h;refine PR<|PN<|PY O<|Ra O<|Q4 O<|PR ?_;exact(u (k+1) x ⟨ω,h,f.An q (λi hi=>by rw[hi,r];exact y04 _)⟩ ω).qb
  ·have:k=wd:=ω
   subst this;rw[z5y] at d;refine Q7 O (Qz O (qV (z8w (l:=Ut k n) RB U5 U9 O d (by rw[y0U];exact y0z (by rw[y0n,QS];omega)) (by simp[Ut])) ?_));refine Qe O<|PQ func104 O ?_;exact⟨_,O,O,f⟩
theorem z3u (s:PU)(z:s.length<=8)(w:World):Qx prog 105 [S s] w λv w'=>v=Qi (QO (Qo s))/\Ext w w':=by
 refine py (e:=[(0,_)]) func105 O ntmps105 O O<|RY O<|QV O<|PX O O (zcy U9 RB U5 O) ?_
 rintro _ w1⟨b7,c7,rest,rfl,⟨B,h,j⟩,x⟩
 refine SS RB O<|Q4 O<|PR<|PT<|SN (α:=Nat) (0) (λi=>[(2,Qi (QO (Qo (s.take i)))),(6,.slice (some ⟨b7,0,none⟩) s.length c7),(7,I (s.length:Int)),(8,I (i:Int))]) (λi w'=>w'=w1/\i<=s.length) (λi=>s.length-i) ?hI ?hround
 case hI=>exact⟨O,y03 _⟩
 case hround=>
  rintro i w2⟨rfl,hi⟩ r
  try dsimp only
  refine qN O<|RT O<|PR<|It<|Qa O (λn=>?_)<|λn=>?_
  ·obtain⟨c,f⟩:∃c,s[i]? =some c:=⟨_,y07 ω⟩;have f7:=c.toNat_lt;have d:=z2L f
   have g:QO (Qo (s.take i))<72057594037927936:=by
    have o:=Se (Qo (s.take i));rw[bitsT_length,y0d] at o;have y:2^(8*min i s.length)<=2^56:=y0t ψ ω;omega
   have l:w2.cell? ⟨b7,0+i*1,none⟩=some (Ua c):=by
    rw[j.cell,y0k,y0p,y0K (by rw[y0n];omega),y0m,f];rfl
   refine PS<|RU<|qN O<|qV (Rk RB YK O O ω)<|qV (QH U5 O O l) ?_
   generalize QO (Qo (s.take i))=q at d g
   refine Qe O<|Sv O<|qV (Sz 8 256 O O ψ O)<|Q4 O<|qV (z4O O U5 SK ψ)<|qV (z2G O O ω ω) ?_
   have u:(q*256%18446744073709551616 |||c.toNat)=QO (Qo (s.take (i+1))):=by
    rw[d,y0e ω,y0E q];exact(y24 (i:=8) f7 q).symm
   rw[u];refine Qe O<|PN<|PY O<|Ra O<|Q4 O<|PR ?_;exact(r (i+1) _ ⟨O,ω⟩ ω).qb
  ·have m:i=s.length:=ω
   subst m;rw[y0L];refine Q7 O<|Qz O<|Qe O<|PQ func105 O ?_;exact⟨_,O,O,h⟩
def vcC (n width each st len s:Nat)(cl:Bool):List Value:=[I (n:Int),I (width:Int),I (each:Int),I (st:Int),I (len:Int),ptr s 0,.bool cl]
def XD (n each:Nat):Nat:=max 1 ((n+each-1) / each)
structure WD (Q:Sf)(txt:Int->PU)(vb width st:Nat)(xs:List Nat)(w:World):Prop where
 PO:Q8 w vb (vcC xs.length width (512 / width) st (XD xs.length (512 / width)) Q.s false) 164
 wd:width=1\/width=2\/width=4\/width=8
 t:VcT txt st width (512 / width) xs
 n:xs.length<=4194304
 fit:st+XD xs.length (512 / width)<=Q.L.length
def z0z {n:Nat}(f:1<=each)(hi:i<n):i / each<XD n each:=by
 unfold XD
 have d:i / each<=(n-1) / each:=y1N ω
 have e:(n+each-1) / each=(n-1) / each+1:=by
  rw[show n+each-1=(n-1)+each by omega,Nat.add_div_right _ ω]
 omega
section
variable {Q Q':Sf}{vb:Nat}{ys:List Nat}
theorem WD.e (h:WD Q txt vb width st xs w):64<=512 / width/\512 / width<=512/\512 / width*width=512/\1<=width/\width<=8:=by
 rcases h.wd with e|e|e|e<;>subst e<;>decide
theorem WD.kp (h:WD Q txt vb width st xs w)(d:Kp S' w w')(e:¬S' vb):WD Q txt vb width st xs w':=⟨d.PO h.PO e,h.wd,h.t,h.n,h.fit⟩
theorem WD.ext (h:WD Q txt vb width st xs w)(d:Ext w w'):WD Q txt vb width st xs w':=h.kp (S':=λ_=>False) d id
theorem WD.XA (h:WD Q txt vb width st xs w)(e:∀y:Int,(st:Int)<=y->y<(st:Int)+(XD xs.length (512 / width):Int)->txt' y=txt y):WD Q txt' vb width st xs w:=
 ⟨h.PO,h.wd,h.t.XA λi hi=>by
  have:=z0z (each:=512 / width) (by have:=h.e;omega) hi
  generalize i / (512 / width)=q at this⊢
  exact e _ ω ω,h.n,h.fit⟩
theorem WD.q (h:WD Q txt vb width st xs w)(e:Q'.s=Q.s)(d:Q'.L.length=Q.L.length):WD Q' txt vb width st xs w:=⟨by rw[e];exact h.PO,h.wd,h.t,h.n,by rw[d];exact h.fit⟩
def WD.lt (h:WD Q txt vb width st xs w):vb<w.heap.size:=h.PO.lt
theorem WD.at_ (h:WD Q txt vb width st xs w)(hi:i<xs.length):st+i / (512 / width)<Q.L.length/\i%(512 / width)*width+width<=512/\i / (512 / width)<XD xs.length (512 / width):=by
 obtain⟨g,j,l,m,n⟩:=h.e
 have d:=z0z (each:=512 / width) ω hi
 have o:=h.fit
 have f:(i%(512 / width)+1)*width<=512 / width*width:=y0S _ (y0Y _ ω)
 rw[y0q,y0O] at f
 refine⟨ω,ω,d⟩
theorem WD.cells (h:WD Q txt vb width st xs w):Q8 w vb [I (xs.length:Int),I (width:Int),I ((512 / width:Nat):Int),I (st:Int),I (XD xs.length (512 / width):Int),ptr Q.s 0,.bool false] 164:=h.PO
def VcW (Q:Sf)(txt:Int->PU)(K:Nat)(X:Nat->Prop)(vb width st:Nat)(ys:List Nat)(w w':World):Prop:=
 ∃txt',Sp Q txt' K X w'/\WD Q txt' vb width st ys w'/\(∀y:Int,y<(st:Int)\/(st:Int)+(XD ys.length (512 / width):Int)<=y->txt' y=txt y)/\Kp (λb=>¬X b) w w'
end
end Go.Proofs.YtbihggbffaigjaaGreatDoor
namespace Go.Proofs.YtbihggbffaigjaaGreatDoor.Sums
variable {A:Arc}{a b c i p s:Nat}{k:Int}{t:PU}
def bit (c:Nat):Nat:=if c%2=1 then(c / 2)^^^2197175160 else c / 2
def zg8 (c:Nat):Nat:=bit (bit (bit (bit (bit (bit (bit (bit c)))))))
def byte (c:Nat)(b:UInt8):Nat:=zg8 (c^^^b.toNat)
def raw (c:Nat)(l:List UInt8):Nat:=l.foldl byte c
def neg (c:Nat):Nat:=4294967295^^^c
def on (c:Nat)(l:List UInt8):Nat:=neg (raw (neg c) l)
def crc (l:List UInt8):Nat:=on 0 l
def num (l:List UInt8):Nat:=(l.getD 0 0).toNat*16777216+(l.getD 1 0).toNat*65536+(l.getD 2 0).toNat*256+(l.getD 3 0).toNat
def be4 (n:Nat):List UInt8:=[UInt8.ofNat (n / 16777216),UInt8.ofNat (n / 65536),UInt8.ofNat (n / 256),UInt8.ofNat n]
@[simp] theorem be4_length (n:Nat):(be4 n).length=4:=rfl
def head (k:UInt8)(p:List UInt8):List UInt8:=k::be4 p.length
def frame (k:UInt8)(p:List UInt8):List UInt8:=head k p++be4 (crc (head k p++p))++p
@[simp] theorem head_length (k:UInt8) (p:List UInt8):(head k p).length=5:=rfl
theorem zbY (c:Nat):(c / 2)^^^(2197175160&&&((4294967296-(c&&&1))%4294967296))=bit c:=by
 have e:c&&&1=c%2:=y13 c 1
 rw[e]
 unfold bit
 by_cases h:c%2=1
 ·rw[if_pos h,h]
  congr 1
 ·have d:c%2=0:=ω
  rw[if_neg h,d];simp
def ZO (d:a<4294967296)(e:b<4294967296):a^^^b<4294967296:=y2f (n:=32) d e
def Xi (h:c<4294967296):bit c<4294967296:=by
 unfold bit
 split
 ·exact ZO ω ω
 ·omega
def zc3 (h:c<4294967296):zg8 c<4294967296:=Xi (Xi (Xi (Xi (Xi (Xi (Xi (Xi h)))))))
def z9U (h:c<4294967296)(b:UInt8):byte c b<4294967296:=zc3 (ZO h (by have:=b.toNat_lt;omega))
def zcW:∀(l:List UInt8) {c:Nat},c<4294967296->raw c l<4294967296
 |[],_,h=>h
 |b::l,_,h=>zcW l (z9U h b)
def z7F (h:c<4294967296):neg c<4294967296:=ZO ω h
def zfy (l:List UInt8)(h:c<4294967296):on c l<4294967296:=z7F (zcW l (z7F h))
def zhp (l:List UInt8):crc l<4294967296:=zfy l ω
theorem z78 (c:Nat)(a b:List UInt8):raw c (a++b)=raw (raw c a) b:=y3a ..
/-! ### The step is linear -/
/-! ### Linear maps, by their table -/
def iter (L:Nat->Nat):Nat->Nat->Nat
 |0,x=>x
 |n+1,x=>iter L n (L x)
/-! ### Frames -/
theorem z8R {n:Nat}(h:n<4294967296)(t:List UInt8):num (be4 n++t)=n:=by
 simp[num,be4]
 omega
@[simp] theorem frame_length (k:UInt8) (p:List UInt8):(frame k p).length=9+p.length:=by simp[frame];omega
/-! ### A byte that is turned is told -/
theorem getD_take (s:List UInt8)(n i:Nat)(h:i<n):(s.take n).getD i 0=s.getD i 0:=by simp[List.getD,h]
theorem RG (s:List UInt8)(n i:Nat)(x:UInt8)(h:i≠n):(s.set n x).getD i 0=s.getD i 0:=by
 simp only[List.getD,List.getElem?_set]
 rw[if_neg (λe=>h e.symm)]
def zdm (s:List UInt8)(i:Nat)(d:UInt8):List UInt8:=s.set i (s.getD i 0^^^d)
@[simp] theorem turned_length (s:List UInt8) (i:Nat) (d:UInt8):(zdm s i d).length=s.length:=by simp[zdm]
end Go.Proofs.YtbihggbffaigjaaGreatDoor.Sums
namespace Go.Proofs.YtbihggbffaigjaaGreatDoor
open Go Go.RowKit Go.Proofs.Tryz
set_option linter.unusedVariables false
variable {A:Arc}{K a at' b c i p s st sum wb:Nat}{X:Nat->Prop}{T k:Int}{V:Nat->Value×Value}{t:PU}{txt:Int->PU}{w w' w2:World}
abbrev U (n:Nat):Value:= .int .u32 (n:Int)
def or3 (a b c d:Nat)(g:a<256)(h:b<256)(j:c<256)(l:d<256):
  a*16777216 |||b*65536=a*16777216+b*65536/\a*16777216 |||b*65536 |||c*256=a*16777216+b*65536+c*256/\a*16777216 |||b*65536 |||c*256 |||d=a*16777216+b*65536+c*256+d:=by
 have e:a*16777216 |||b*65536=a*16777216+b*65536:=nat_join 24 _ _ ω ω
 have f:a*16777216 |||b*65536 |||c*256=a*16777216+b*65536+c*256:=by rw[e];exact nat_join 16 _ _ ω ω
 refine⟨e,f,?_⟩
 rw[f]
 exact nat_join 8 _ _ ω ω
theorem zdF (c:Nat)(b:UInt8)(p:Nat)(T:TypeId)(w:World)(hB:Q8 w p [U c] T)(r:c<4294967296):
  Qx prog 140 [Ua b,ptr p 0] w λv w'=>v= .tuple #[]/\Q8 w' p [U (Sums.byte c b)] T/\Kp (λk=>k=p) w w':=by
 have E:=b.toNat_lt
 have z:=Sums.ZO r (show b.toNat<4294967296 by omega)
 refine py (e:=[(0,_),(1,_)]) func140 O ntmps140 O O<|qN O<|qV (Q0 RO O O hB O)<|Q4 O<|qV (z4O O U5 RO ψ)<|qV (zfE O O ω ω)<|Qc O (S0 Qn O O O hB ξ) ?_
 rintro w1⟨n,l⟩
 refine qM O<|Q4 O<|PR<|PT<|SN (α:=Nat×Nat) (0,c^^^b.toNat) (λx=>[(0,Ua b),(1,ptr p 0),(7,I (x.1:Int))]) (λx w'=>x.1<=8/\x.2<4294967296/\Sums.iter Sums.bit (8-x.1) x.2=Sums.byte c b/\Q8 w' p [U x.2] T/\Kp (λk=>k=p) w w') (λx=>8-x.1) ?hI ?hround
 case hI=>exact⟨ω,z,O,n,l⟩
 case hround=>
  rintro⟨k,d⟩ w2 ⟨D,u,g,f,j⟩ B
  try dsimp only
  refine qN O<|RT O<|PR<|It<|Qa O (λm=>?_)<|λm=>?_
  ·have F:d&&&1<4294967296:=y1R y2g ω;have H:(4294967296-(d&&&1))%4294967296<4294967296:=y0Y _ ω;have G:2197175160&&&((4294967296-(d&&&1))%4294967296)<4294967296:=y1R y2F ω;refine PS (RU (PY O (qV (Q0 RO O O f O) (qV (Vl 1 2 O O ψ O) (qV (Q0 RO O O f O) (qV (zgf O O ω ω) (qV (zi6 O ω) (qV (zgf O O ω ω) (qV (zfE O O ω ω) (Qc O (S0 Qn O O O f ξ) ?_))))))))));rintro C⟨h,o⟩;refine PR<|PN<|PY O<|Ra O<|Q4 O<|PR ?_;simp only[y2E] at h;rw[Sums.zbY] at h;refine(B (k+1,Sums.bit d) C ⟨by dsimp only at*;omega,Sums.Xi u,?_,h,j.trans o⟩ (by dsimp only at*;omega)).qb;have q:8-k=(8-(k+1))+1:=by dsimp only at*;omega
   dsimp only at g⊢;rw[q] at g;exact g
  ·refine Q7 O<|Rj func140 O ?_;have y:k=8:=by dsimp only at*;omega
   subst y;refine⟨_,O,O,?_,j⟩;have:d=Sums.byte c b:=g;rw[<-this];exact f
def zhb {l:List UInt8}{rest:List Value}{k:Nat}(h:k<l.length):(l.map Ua++rest)[0+k*1]? =some (Ua (l.getD k 0)):=by
 rw[y0k,y0p,y0K (by simpa using h)]
 simp[h,List.getD]
theorem z39 (c:Nat)(l:List UInt8)(k:Nat)(h:k<l.length):Sums.raw c (l.take (k+1))=Sums.byte (Sums.raw c (l.take k)) (l.getD k 0):=by
 rw[y3h h,Sums.z78]
 simp[Sums.raw,List.getD,h]
theorem zcv (c:Nat)(l:List UInt8)(w:World)(J:c<4294967296)(R:l.length<=9223372036854775807):
  Qx prog 103 [U c,S l] w λv w'=>v=U (Sums.on c l)/\Ext w w':=by
 refine py (e:=[(0,_),(1,_)]) func103 O ntmps103 O O<|qN O<|PX O O (Sy O O) ?_
 rintro _ w1⟨b1,rfl,y,C,r⟩
 refine Sb O<|qV (Q0 RO O O r O)<|qV (zfj O ω)<|Qc O (S0 Qn O O O r ξ) ?_
 rintro w2⟨h,E⟩
 simp only[y2E] at h
 have D:Ext w w2:=C.An E (λi hi=>by rw[hi,y];exact y04 _)
 refine qM O<|qV (ymf (first:=[]) (caps:=[.tmp 2]) O O)<|Qe O<|QV O<|PX O O (zcy U9 RB U5 O) ?_
 rintro _ Y⟨b3,cap,rest,rfl,⟨Q,u,F⟩,W⟩
 refine SS RB O<|Q4 O<|PR<|PT ?_
 have G:b3≠b1:=by have:=h.lt;omega
 refine SN (α:=Nat×Nat) (0,Sums.neg c) (λx=>[(2,ptr b1 0),(5,.func (.func 140) #[] #[ptr b1 0]),(12,.slice (some ⟨b3,0,none⟩) l.length cap),(13,I (l.length:Int)),(14,I (x.1:Int))]) (λx w'=>x.1<=l.length/\x.2<4294967296/\x.2=Sums.raw (Sums.neg c) (l.take x.1)/\Q8 w' b1 [U x.2] 42/\Q8 w' b3 (l.map Ua++rest) 5/\Ext w w') (λx=>l.length-x.1) ?hI ?hround
 case hI=>exact⟨ξ,Sums.z7F J,O,u.PO h,F,D.trans u⟩
 case hround=>
  rintro⟨k,d⟩ N ⟨L,j,f,g,o,n⟩ M;dsimp only at L j f g
  try dsimp only
  refine qN O<|RT O<|PR<|It<|Qa O (λz=>?_)<|λz=>?_
  ·have m:k<l.length:=ω
   refine PS (RU (qN O (qV (Rk RB YK O O ω) (qV (Q0 U5 O O o (zhb m)) (Qe O (PY O (Qq O (S5 O O (SQ zje O O) (zdF d (l.getD k 0) b1 _ N g j) ?_))))))));rintro _ P⟨rfl,B,q⟩;refine PR (PN (PY O (Ra O (Q4 O (PR ((M (k+1,Sums.byte d (l.getD k 0)) P ⟨m,Sums.z9U j _,?_,B,q.PO o G,n.An q (λi hi=>by rw[hi,y];exact y04 _)⟩ (by dsimp only;omega)).qb))))));rw[z39 _ _ _ m,<-f]
  ·refine Q7 O (qN O (qV (Q0 RO O O g O) (qV (zfj O ω) (Qe O (PQ func103 O (⟨_,O,?_,n⟩))))));have H:k=l.length:=ω
   subst H;rw[y0L] at f;show U (Sums.neg d)=_;rw[f]
   rfl
def z9l (l:List UInt8)(w:World)(f:l.length<=9223372036854775807):
  Qx prog 97 [S l] w λv w'=>v=U (Sums.crc l)/\Ext w w':=by
 refine py (e:=[(0,_)]) func97 O ntmps97 O O<|qN O<|RZ O<|Qj zfS O (zcv 0 l _ ω f) ?_
 rintro _ w1⟨rfl,d⟩
 refine Qe O<|PQ func97 O ?_
 exact⟨_,O,O,d⟩
theorem z2h (s:PU):Lib.strCells ⟨s.toArray⟩=s.map Ua:=by simp[Lib.strCells,Ua]
section
variable {P:Program}{e:Env}{d:Option Nat}{ty t tu tn el:TypeId}{pos:String}{aft:Array Edge}{g:Option (Nat×Bool)}{x y:Operand}{n k:Nat}{v:Value}{cs:List Value}{s:PU}{kn:IntKind}{za:Int}
theorem z5f (ht:P.underlying t=some (.slice el))(r:P.underlying tu=some .string)(R:TI P el (.int .u8 0) 1 1)(o:Sl w v el 1 n cs)(G:n+s.length<=140737488355328):
  ∃q w',(Builtin.append_ #[t,tu] ty #[v,S s]).run P w= .ok q w'/\Sl w' q el 1 (n+s.length) (cs++s.map Ua)/\Kp (λk=>v.ownBlock=some k) w w'/\(∀g,q.ownBlock=some g->v.ownBlock=some g\/w.heap.size<=g):=by
 have b:maxLen=9223372036854775807:=rfl
 obtain⟨i,hi,D,u,E⟩:=R
 have f:=U8 s
 have C:=z2h s
 rcases id o.2 with⟨rfl,rfl⟩|⟨g,cap,F,rfl,Z,hg,c,p,M,Y⟩
 ·have U:cs=[]:=y0w (by simpa using o.1);subst U;obtain⟨q,w',l,h,hg,-⟩:=y3C (P:=P) w w.heap.size t tu ty el i ht r hi D u E (.slice none 0 0) 0 [] (y3m w w.heap.size el 1) ⟨s.toArray⟩ (by rw[f];omega) (by rw[f];exact G) (y04 _);rw[f,C] at h;refine⟨q,w',l,⟨h.1,?_⟩,Kp.W4 hg,λg hg=> .inr (y3t h g hg).1⟩;rcases h.2 with J|⟨g,z,B,W,a,m⟩
  ·exact .inl J
  ·exact .inr ⟨g,z,B,W,y03 _,m⟩
 ·by_cases H:n+s.length<=cap
  ·by_cases N:0<cap
   ·obtain⟨w',l,h,j⟩:=Lib.run_append_fits_string (P:=P) w 0 t tu ty el i ht r hi u (some ⟨g,0,none⟩) n cap cs o ⟨s.toArray⟩ N (by rw[f];exact H);rw[f,C] at h;rw[f] at l;exact⟨_,w',l,h,Kp.W4 j,λI j=> .inl (by simpa[Value.ownBlock] using j)⟩
   ·obtain⟨q,w',l,h,j,-⟩:=y3C (P:=P) w 0 t tu ty el i ht r hi D u E (.slice (some ⟨g,0,none⟩) n cap) n cs o ⟨s.toArray⟩ (by rw[f];omega) (by rw[f];exact G) (y03 _);have L:s=[]:=y0w ω;subst L;have m:=Lib.run_append_room_string (P:=P) w t tu ty el i ht r hi u g n cap F hg ⟨[].toArray⟩ (by rw[f];exact H) (by rw[f];simp only[y0p] at M;simp only[y1g];omega);rw[m] at l;cases l;rw[f,C] at h;exact⟨_,_,m,h,Kp.W4 j,λI j=> .inl (by simpa[Value.ownBlock] using j)⟩
  ·obtain⟨q,w',l,h,j,-⟩:=y3C (P:=P) w 0 t tu ty el i ht r hi D u E (.slice (some ⟨g,0,none⟩) n cap) n cs o ⟨s.toArray⟩ (by rw[f];omega) (by rw[f];exact G) (y03 _);have m:=Lib.run_append_grow_string (P:=P) w t tu ty el i (.int .u8 0) ht r hi D ⟨g,0,none⟩ n cap cs (by rw[u];exact o.1) (y2r o (g:=g) O) ⟨s.toArray⟩ (by rw[f];omega) (by rw[f];omega) (by rw[f];exact growslice_fits ω (by rw[E];omega));rw[m] at l;cases l;rw[f,C] at h;refine⟨_,_,m,by rw[<-f] at h⊢;exact h,Kp.W4 j,λI j=> .inr ?_⟩;simp[Value.ownBlock] at j;omega
def zhO (ht:P.underlying t=some (.slice el))(o:P.underlying tu=some .string)(m:TI P el (.int .u8 0) 1 1)(r:look e x=some v)(u:look e y=some (S s))(q:Sl w v el 1 n cs)(j:n+s.length<=140737488355328):
  Yp P e ⟨d,.call ⟨.builtin .append,#[x,y],#[t,tu]⟩,ty,pos,aft,g⟩ w λf w'=>Sl w' f el 1 (n+s.length) (cs++s.map Ua)/\Kp (λk=>v.ownBlock=some k) w w'/\(∀g,f.ownBlock=some g->v.ownBlock=some g\/w.heap.size<=g):=by
 obtain⟨f,w',l,z⟩:=z5f (P:=P) (ty:=ty) ht o m q j
 refine⟨f,w',fun ρ h=>?_,z⟩
 simp[execOp,resolve,invoke,builtin,h _ _ r,h _ _ u,l]
def z5Q (k:Nat):Builtin.zeroCells (Value.int .u8 0).cells k=(Lib.strCells ⟨(zeros k).toArray⟩).toArray:=by
 rw[z2h]
 apply Array.ext'
 rw[YO (.int .u8 0) k O]
 simp[zeros,Ua]
theorem zie [sR:Uu za k](ht:P.underlying t=some (.slice el))(D:P.underlying tn=some (.int kn))(q:P.underlying tu=some .string)(H:TI P el (.int .u8 0) 1 1)(X:look e x=some v)(hy:look e y=some (I za))(E:Sl w v el 1 n cs)(T:n+k<=140737488355328):
  Yp P e ⟨d,.call ⟨.builtin .append,#[x,y],#[t,tn]⟩,ty,pos,aft,g⟩ w λl w'=>Sl w' l el 1 (n+k) (cs++(zeros k).map Ua)/\Kp (λk=>v.ownBlock=some k) w w'/\(∀g,l.ownBlock=some g->v.ownBlock=some g\/w.heap.size<=g):=by
 obtain⟨rfl⟩:=sR
 have C:(zeros k).length=k:=by simp[zeros]
 obtain⟨l,w',f,o,u⟩:=z5f (P:=P) (ty:=ty) (s:=zeros k) ht q H E (by rw[C];exact T)
 rw[C] at o
 have V:(Builtin.append_ #[t,tn] ty #[v,I (k:Int)]).run P w= .ok l w':=by
  rw[<-f];obtain⟨i,hi,F,j,R⟩:=H;have J:IntKind.i64.wrap (k:Int)=k:=by rw[y32];omega
  have S:¬((k:Int)<0):=ω
  have G:¬(281474976710656<(k:Int)*(i.bytes:Int)):=by rw[R];omega
  have z:=λw=>Lib.run_firstCells_string (P:=P) w i.size ⟨(zeros k).toArray⟩;have m:(ByteArray.mk (zeros k).toArray).size=k:=by rw[U8,C]
  rw[m] at z
  obtain⟨a,c,Y⟩:∃a c,v= .slice a n c:=by
   rcases E.2 with⟨rfl,rfl⟩|⟨g,cap,r,rfl,_⟩
   ·exact⟨_,_,O⟩
   ·exact⟨_,_,O⟩
  subst Y;have Z:k=0->(Lib.strCells ⟨(zeros k).toArray⟩).toArray=#[]:=λe=>by subst e;rfl
  have b:c<=maxLen/\n<=c:=by
   rcases E.2 with⟨h,h'⟩|⟨g,cap,r,h,_,_,o,u,_⟩
   ·cases h;exact⟨by simp[maxLen],ω⟩
   ·cases h;exact⟨u,o⟩
  have A:n+k<=c\/¬(281474976710656<Builtin.nextslicecap (n+k) c*i.bytes):=by
   by_cases f:n+k<=c
   ·exact .inl f
   ·have:=growslice_fits (need:=n+k) (old:=c) (bytes:=i.bytes) ω (by rw[R];omega);exact .inr ω
  have U:¬(9223372036854775807<((n:Int)+(k:Int))):=ω
  by_cases B:k=0
  ·subst B;have K:=Z O;have iz:n<=c:=b.2;have nB:IntKind.i64.wrap 0=0:=by rw[y32];omega
   have M:=z w;rw[j,K] at M;simp[Builtin.append_,run_underlying ht,run_underlying D,run_underlying q,sizeOf,typeInfo,zeroValue,hi,F,j,asInt,asIntOf,nB,Builtin.lenOf,m,iz,M]
  ·have p:=z5Q k;have N:∀w,(Builtin.firstCells 1 k (.string ⟨(zeros k).toArray⟩)).run P w= .ok (Builtin.zeroCells (Value.int .u8 0).cells k) w:=λw=>by rw[p];have:=z w;rw[j] at this;exact this
   have dq:¬(k*i.size=0):=by rw[j];omega
   by_cases f:n+k<=c
   ·simp[Builtin.append_,run_underlying ht,run_underlying D,run_underlying q,sizeOf,typeInfo,zeroValue,hi,F,j,asInt,asIntOf,J,S,G,Builtin.lenOf,m,f,N,B]
   ·have W:=A.resolve_left f;simp[Builtin.append_,run_underlying ht,run_underlying D,run_underlying q,sizeOf,typeInfo,zeroValue,hi,F,j,asInt,asIntOf,J,S,G,Builtin.lenOf,m,f,N,B,U,W]
 refine⟨l,w',fun ρ L=>?_,o,u⟩
 simp[execOp,resolve,invoke,builtin,L _ _ X,L _ _ hy,V]
end
/-! ### Writers -/
def swC (s st len:Nat)(rest:Value)(at' n:Nat)(sum:Nat)(put:Value)(f:Bool):List Value:=[ptr s 0,I (st:Int),I (len:Int),rest,I (at':Int),I (n:Int),U sum,put,.bool f]
section
variable {Q:Sf}
def z4j (n:Nat)(f:n<=2000000)(w:World):Qx prog 64 [I 512,I (n:Int)] w λv w'=>v= .tuple #[I (((n+523) / 512:Nat):Int),I 0]/\w'=w:=by
 refine py (e:=[(0,_),(1,_)]) func64 O ntmps64 O O<|qN O<|Rw O<|QV O<|RT O<|QW<|Qq O<|RR O<|QW<|R0 O<|Qq O<|qV (yre O O ω)<|RI O<|QW ?_
 refine R0 O<|Qq O<|RT O<|QW<|R0 O<|Qq O<|Q4 O<|qV (WB O O ω)<|SA O<|RR O<|QW<|R0 O<|PR<|QA.qb (e:=[(0,_),(1,_),(4,_),(5,_),(27,_)]) ?_
 refine Us O<|Qz O<|Ra O<|Q4 O<|Ra O<|SA O<|Q4 O<|qV (Yx O O ω)<|Rw O ?_
 rw[show((n:Int)+12+512-1) / 512=(((n+523) / 512:Nat):Int) by omega]
 refine PQ func64 O ?_
 exact⟨_,O,O,O⟩
theorem z19 (h:Sp Q txt K X w){len:Nat}(u:1<=len)(z:st+len<=Q.L.length):Qx prog 98 [.agg #[ptr Q.s 0,I (st:Int),I (len:Int)]] w λv w'=>v=I 0/\Ext w w':=by
 have r:=h.n
 refine py (e:=[(0,_)]) func98 O ntmps98 O O<|qN O<|PX O O (Sy O (cs:=[ptr Q.s 0,I (st:Int),I (len:Int)]) O) ?_
 rintro _ w1⟨b1,rfl,q,m,f⟩
 have o:=h.ext' m
 have hg:=Ext.Qm w1
 have j:=(o.ext' hg).dev
 have l:=(o.ext' hg).blocks
 refine Qe O<|RU<|qN O<|Qf Wg O<|qV (Q0 XG O O f O)<|qV (Rm XG O O)<|Qe O<|PW O<|It<|Sq (λw'=>Ext w1 w') O<|PV 0 O (QE Vx O) hg<|PV 1 O (QE Sk O) hg<|qT 2 O (λ_ h=>Q0 U3 O O (h.PO f) O) hg<|PV 3 O (ylt O O) hg ?_
 refine Vm<|Ql 4 O O hg<|PV 5 O (QE Vx O) hg<|PV 6 O (QE S6 O) hg<|qT 7 O (λ_ h=>Q0 U3 O O (h.PO f) O) hg<|PV 8 O (ylt O O) hg<|Vm<|PV 9 O (VF O O) hg<|Ql 10 O O hg<|PV 11 O (QE Vx O) hg<|PV 12 O (QE S6 O) hg<|qT 13 O (λ_ h=>Q0 U3 O O (h.PO f) O) hg<|PV 14 O (QE Wg O) hg<|qT 15 O (λ_ h=>Q0 XG O O (h.PO f) O) hg ?_
 refine TQ 16 O zgb O j ?_
 rintro _ w2⟨rfl,rfl⟩
 refine⟨hg,?_⟩
 refine TQ 17 O z6A O l ?_
 rintro _ w2⟨rfl,rfl⟩
 refine⟨hg,?_⟩
 refine PV 18 O (yge O O) hg<|Vm<|PV 19 O (VF O O) hg<|Ql 20 O O hg<|PV 21 O (QE Vx O) hg<|PV 22 O (QE Sk O) hg<|qT 23 O (λ_ h=>Q0 U3 O O (h.PO f) O) hg<|PV 24 O (QE Wg O) hg<|qT 25 O (λ_ h=>Q0 XG O O (h.PO f) O) hg<|PV 28 O (QE Vx O) hg<|PV 29 O (QE S6 O) hg<|qT 30 O (λ_ h=>Q0 U3 O O (h.PO f) O) hg<|TQ 26 O zgb O j ?_
 rintro _ w2⟨rfl,rfl⟩
 refine⟨hg,?_⟩
 refine TQ 27 O z6A O l ?_
 rintro _ w2⟨rfl,rfl⟩
 refine⟨hg,?_⟩
 refine PV 31 O (YS O O ω) hg<|PV 32 O (Zq O O) hg<|Vm<|PV 33 O (VF O O) hg<|PV 34 O (SG O) hg<|qE<|QA.qb (e:=[(2,_),(7,_)]) ?_
 refine Us O<|PN<|RY O<|PQ func98 O ?_
 exact⟨_,O,O,m.trans hg⟩
theorem z1X (h:Sp Q txt K X w){len:Nat}(q:len<=100000):Qx prog 106 [.agg #[ptr Q.s 0,I (st:Int),I (len:Int)]] w λv w'=>v=I ((len:Int)*512-12)/\Ext w w':=by
 refine py (e:=[(0,_)]) func106 O ntmps106 O O<|qN O<|PX O O (Sy O (cs:=[ptr Q.s 0,I (st:Int),I (len:Int)]) O) ?_
 rintro _ w1⟨b1,rfl,o,f,j⟩
 have m:=h.ext' f
 have hg:=Ext.Qm w1
 have l:=(m.ext' hg).size
 refine Qe O<|It<|Sq (λw'=>Ext w1 w') O<|PV 0 O (QE Vx O) hg<|PV 1 O (QE Sk O) hg<|qT 2 O (λ_ h=>Q0 U3 O O (h.PO j) O) hg<|PV 3 O (QE Wg O) hg<|qT 4 O (λ_ h=>Q0 XG O O (h.PO j) O) hg<|TQ 5 O z5I O l ?_
 rintro _ w2⟨rfl,rfl⟩
 refine⟨hg,?_⟩
 refine PV 6 O (WB O O ω) hg<|PV 7 O (YS O O ω) hg<|PV 8 O (SG O) hg<|qE<|PQ func106 O ?_
 exact⟨_,O,O,f.trans hg⟩
def ZK {len n:Nat}{rest put:Value}(hB:Q8 w wb (swC s st len rest at' n sum put false) 197):Qx prog 101 [ptr wb 0] w λv w'=>v=I 0/\w'=w:=by
 replace hB:Q8 w wb [ptr s 0,I (st:Int),I (len:Int),rest,I (at':Int),I (n:Int),U sum,put,.bool false] 197:=hB
 refine py (e:=[(0,_)]) func101 O ntmps101 O O<|RY O<|RU<|Qz O<|qV (Rm z4K O O)<|Qe O<|PW O<|Qz O<|QC O<|Qf z08 O<|qV (Q0 U4 O O hB O)<|Qe O<|Us O<|PN ?_
 refine RY O<|PQ func101 O ?_
 exact⟨_,O,O,O⟩
theorem z6W (h:Sp Q txt K X w){len n:Nat}{rest put:Value}(l:len<=100000)(m:n<=100000000)(hB:Q8 w wb (swC Q.s st len rest at' n sum put false) 197):Qx prog 102 [ptr wb 0] w λv w'=>v=I ((len:Int)*512-12-(n:Int))/\Ext w w':=by
 replace hB:Q8 w wb [ptr Q.s 0,I (st:Int),I (len:Int),rest,I (at':Int),I (n:Int),U sum,put,.bool false] 197:=hB
 have hg:=Ext.Qm w
 have j:=z1X (h.ext' hg) (st:=st) l
 refine py (e:=[(0,_)]) func102 O ntmps102 O O<|RY O<|QV O<|qV (Rm z4K O O)<|Qq O<|QC O<|Qf z08 O<|qV (Q0 U4 O O hB O)<|R0 O<|Ri O<|It<|Sq (λw'=>Ext w w') O<|Ql 0 O O hg<|PV 1 O (Rs O) hg ?_
 refine PV 2 O (QE Ym O) hg<|qT 3 O (λ_ h=>QB z4W O YX O (Q8.cells (n:=3) (h.PO hB) (news:=[_,_,_]) O) O) hg<|Ql 5 O O hg<|PV 6 O (Rs O) hg<|PV 7 O (QE z1A O) hg<|qT 8 O (λ_ h=>Q0 U3 O O (h.PO hB) O) hg<|TQ 4 O zfh O j ?_
 rintro _ w2⟨rfl,f⟩
 refine⟨(hg.trans f),?_⟩
 refine PV 9 O (YS O O ω) (hg.trans f)<|PV 10 O (SG O) (hg.trans f)<|qE<|PQ func102 O ?_
 exact⟨_,O,O,hg.trans f⟩
end
end Go.Proofs.YtbihggbffaigjaaGreatDoor
