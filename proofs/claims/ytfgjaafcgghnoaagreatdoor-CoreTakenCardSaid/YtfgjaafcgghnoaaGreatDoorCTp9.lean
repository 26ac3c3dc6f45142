/- Merged by program. -/
import Derived.Test.YtfgjaafcgghnoaaGreatDoorCTp8
import Derived.SizedLaws
import Derived.Carry
import Derived.ProofKit
import Derived.OpenShut
import Derived.ShutString
import Derived.ChangeOld
import Derived.Below
import Derived.Deep.SlicePairs
import Derived.LaidLaws
import Derived.MakeChecks
import Derived.Handed
set_option linter.all false
set_option maxRecDepth 1000000
set_option maxHeartbeats 16000000
namespace Go.Proofs.YtfgjaafcgghnoaaGreatDoor
open Go Go.RowKit
theorem z7U {n:Nat}{s:QD}(hl:s.xs.length=n)(ht:s.t<4294967296)(oM:s.level<4294967296)(hx:∀x∈s.xs,x<4294967296):Wm n (crT s)=if s.t<=2*n+2/\s.level<=n+1 then some s else none:=by
 have e1:(crT s).length=9+4*n:=by
  unfold crT;rw[List.length_append,List.length_append,List.length_append,Mu,Mu,Qz,List.length_singleton];omega
 have e2:(crT s).take 4=Q4 4 s.t:=by
  unfold crT;rw[List.append_assoc,List.append_assoc];exact List.take_left' (Mu _ _)
 have e3:((crT s).getD 4 0).toNat=if s.done then 1 else 0:=by
  unfold crT;rw[List.append_assoc,List.append_assoc,List.getD,List.getElem?_append_right (by rw[Mu];omega),Mu];cases s.done<;>rfl
 have e4:((crT s).drop 5).take 4=Q4 4 s.level:=by
  unfold crT;rw[List.append_assoc,List.drop_left' (by rw[List.length_append,Mu];rfl)];exact List.take_left' (Mu _ _)
 have e5:(crT s).drop 9=T0 4 s.xs:=by
  unfold crT;exact List.drop_left' (by rw[List.length_append,List.length_append,Mu,Mu];rfl)
 have n1:nB (Q4 4 s.t)=s.t:=Tv (by omega)
 have n2:nB (Q4 4 s.level)=s.level:=Tv (by omega)
 have n3:Qu 4 n (T0 4 s.xs)=s.xs:=by rw[<-hl];exact XL hx
 have n4:decide ((if s.done=true then 1 else 0:Nat)=1)=s.done:=by cases s.done<;>rfl
 have n5:(if s.done=true then 1 else 0:Nat)<=1:=by cases s.done<;>decide
 unfold Wm
 rw[e1,e2,e3,e4,e5,n1,n2,n3,n4]
 by_cases h:s.t<=2*n+2/\s.level<=n+1
 ·rw[if_pos h,if_pos ⟨rfl,h.1,n5,h.2⟩]
 ·rw[if_neg h,if_neg (λe=>h ⟨e.2.1,e.2.2.2⟩)]
theorem YH.x32 {g:List (List Nat)}{s:QD}(h:YH g s)(hn:g.length<=40):∀x∈s.xs,x<4294967296:=λx hx=>by
 obtain⟨i,hi⟩:=List.getElem?_of_mem hx
 have hb:=h.bounds
 have e:pl=2147483648:=rfl
 rcases h.num.val i x hi with h|h<;>omega
def zbg (s:QD)(v:Nat):Nat:=(s.xs[v]?).getD 0%2147483648
theorem z8U {s:QD}{v:Nat}(hd:s.done=true)(hv:v<s.xs.length):z1K s (v:Int)= .tuple #[Mh (zbg s v),I 0]:=by
 unfold z1K zbg
 rw[if_neg (by rw[hd];decide),if_neg (by omega),show((v:Int)).toNat=v by omega]
section
variable {w0 w w' w3:World}{g:List (List Nat)}{r1 r2:Nat}{s1 s2:QD}
abbrev CpP (w0:World)(g:List (List Nat))(r1 r2:Nat)(s1 s2:QD)(w:World):Prop:=RvP QU (YH g) w0 g r1 r2 s1 s2 w
theorem RvP.inv (h:RvP QU (YH g) w0 g r1 r2 s1 s2 w):YH g s1/\g.length<=40:=by
 obtain⟨G,Q,txt,K,X,v1,a1,h1,-,-⟩:=h.op1
 have hg:=h1.gg
 have hn:=h1.m.n
 rw[hg] at hn
 exact⟨h1.j,hn⟩
theorem Wb (h:CpP w0 g r1 r2 s1 s2 w)(hx:Ext w0 w)(hd:s1.done=false)(hb:s2.t<=200):Mw Tryz.prog 9 [ptr r1 0] w λv w'=>v= .tuple #[.bool (s1.step g).done,I 0]/\CpP w0 g r1 r2 (s1.step g) s2 w'/\Ext w0 w':=by
 obtain⟨hI,hn⟩:=h.inv
 have pE:=hI.bounds
 obtain⟨G,Q,txt,K,X,v1,a1,h1,hK,hP⟩:=h.op1
 have ah:=h1.gg
 subst ah
 change K<=1000+3300*(s1.t+s2.t) at hK
 refine(XD h1.m (by omega) (by omega) (by omega) hd).mono ?_
 rintro v w' ⟨rfl,txt',h',hy,hk⟩
 have o7:Kp (λb=>¬X b\/b=r1\/b=v1) w w':=hk.Mc λb e=>e.imp id .inl
 refine⟨rfl,hP w' txt' (K+3200) _ ⟨h',hI.step (by show G.g.length<2147483648;omega) hd,rfl,h1.top,h1.lo,h1.a2,h1.own⟩ hy o7 (Nat.le_succ _) (by show K+3200<=1000+3300*(s1.t+1+s2.t);omega),h1.new o7 hx⟩
theorem Xr (h:CpP w0 g r1 r2 s1 s2 w)(hx:Ext w0 w)(hd:s1.done=true){u:Nat}(hu:u<g.length):Mw Tryz.prog 10 [ptr r1 0,I (u:Int)] w λv w'=>v= .tuple #[Mh (zbg s1 u),I 0]/\CpP w0 g r1 r2 s1 s2 w'/\Ext w0 w':=by
 obtain⟨hI,hn⟩:=h.inv
 obtain⟨G,Q,txt,K,X,v1,a1,h1,hK,hP⟩:=h.op1
 have ah:=h1.gg
 subst ah
 have hv:=VO h1.m (u:Int)
 rw[z8U hd (by rw[hI.num.len];exact hu)] at hv
 refine hv.mono ?_
 rintro v w' ⟨rfl,h',hk⟩
 have o7:Kp (λb=>¬X b\/b=r1\/b=v1) w w':=hk.Mc λb e=> .inl λe2=>e (.inl e2)
 exact⟨rfl,hP w' txt K _ ⟨h',h1.j,rfl,h1.top,h1.lo,h1.a2,h1.own⟩ (λ_ _=>rfl) o7 (Nat.le_refl _) hK,h1.new o7 hx⟩
theorem z1j (h:CpP w0 g r1 r2 s1 s2 w)(hx:Ext w0 w):Mw Tryz.prog 16 [ptr r1 0] w λv w'=>v= .tuple #[S (crT s1),I 0]/\CpP w0 g r1 r2 s1 s2 w'/\Ext w0 w':=by
 obtain⟨hI,hn⟩:=h.inv
 have pE:=hI.bounds
 obtain⟨G,Q,txt,K,X,v1,a1,h1,hK,hP⟩:=h.op1
 have ah:=h1.gg
 subst ah
 refine(z3a h1.m (by omega) (by omega)).mono ?_
 rintro v w' ⟨rfl,h',hk⟩
 have o7:Kp (λb=>¬X b\/b=r1\/b=v1) w w':=hk.Mc λb e=> .inl λe2=>e (.inl e2)
 exact⟨rfl,hP w' txt K _ ⟨h',h1.j,rfl,h1.top,h1.lo,h1.a2,h1.own⟩ (λ_ _=>rfl) o7 (Nat.le_refl _) hK,h1.new o7 hx⟩
theorem Va (h:CpP w0 g r1 r2 s1 s2 w):Mw Tryz.prog 18 [ptr r1 0] w λv w'=>v=I (s1.t:Int)/\w'=w:=by
 obtain⟨G,Q,txt,K,X,v1,a1,h1,hK,hP⟩:=h.op1
 exact We h1.m
theorem ZW {G3:WR}{Q3:Ol}{txt3:Int->Bytes}{K3:Nat}{X3:Nat->Prop}(h:CpP w0 g r1 r2 s1 s2 w)(gP:Ext w0 w)(hx:Ext w w3)(h3:OD G3 Q3 txt3 K3 X3 w3)(eX:∀j,j<w.heap.size->X3 j)(au:w.heap.size<=G3.k/\w.heap.size<=G3.x):Mw Tryz.prog 12 [ptr r1 0] w3 λv w4=>v=I 0/\Ext w0 w4/\∃X3',OD G3 Q3 txt3 K3 X3' w4/\(∀j,X3 j->X3' j)/\Kp (λb=>b<w.heap.size) w3 w4/\XQ QU (YH g) w0 g G3 X3' r2 s2 (1000+3300*(s1.t+s2.t)) w4:=by
 obtain⟨G,Q,txt,K,X,v1,a1,hm,yO,o8,hP⟩:=h.close gP hx h3 eX au
 refine(z1P hm yO o8).mono ?_
 rintro v w4 ⟨rfl,txt',hg,-,hy,hk⟩
 exact⟨rfl,hP w4 txt' hg hy hk⟩
theorem z2b {G3:WR}{Q3 Q':Ol}{txt3 txt':Int->Bytes}{K3 K' B a v1:Nat}{X3:Nat->Prop}{w4 w5:World}{s s0:QD}(hS:XQ QU (YH g) w0 g G3 X3 r2 s2 B w4)(h3:OD G3 Q3 txt3 K3 X3 w4)(ah:G3.g=g)(hk:Kp (λb=>¬X3 b) w4 w5)(hr:w4.heap.size<=r1/\w4.heap.size<=v1)(kA:∀b,b<w0.heap.size->X3 b)(A7:w0.heap.size<=w4.heap.size)(h1:OT QU G3 Q' txt' K' (λb=>X3 b\/b=r1\/b=v1) r1 v1 a s0 w5)(yO:2<=a)(o8:Q'.L[a]? =some true)(hx:Ext w0 w5)(rA:K'<=900)(hJ:YH g s)(hB:B<=1000+3300*(s.t+s2.t)):
  Mw Tryz.prog 17 [ptr r1 0,S (crT s)] w5 λv w6=>v=I 0/\CpP w0 g r1 r2 s s2 w6/\Ext w0 w6:=by
 have hn:=h1.n
 rw[ah] at hn
 have pE:=hJ.bounds
 have hl:=z7U hJ.num.len (by omega) (by omega) (hJ.x32 hn)
 rw[if_pos pE] at hl
 have i8:=z2M h1 (by omega) (crT s)
 rw[ah,hl] at i8
 refine i8.mono ?_
 rintro v w6 ⟨rfl,txt6,h6,Eo,aR⟩
 exact⟨rfl,hS.pair h3 ah hk hr kA A7 h1 yO o8 hx w6 txt6 (K'+1) s h6 (aR.Mc λb e=>e.imp id .inl) hJ (by show K'+1<=1000+3300*(s.t+s2.t);omega) hB⟩
end
abbrev g5:List (List Nat):=[[1,2],[0,2],[0,1,3],[2],[]]
theorem zcz:P9 g5:=⟨λl hl=>by
 simp only[List.mem_cons,List.not_mem_nil,or_false] at hl
 rcases hl with rfl|rfl|rfl|rfl|rfl<;>exact⟨by decide,by decide⟩,by decide,by decide⟩
def crN (g:List (List Nat)):Nat->QD
 |0=> .new g
 |i+1=>(crN g i).step g
theorem z8i:∀i,i<5->(crN g5 i).done=false/\(crN g5 i).level<=100000/\(crN g5 i).t<=100000:=by decide
theorem zen:z1K (crN g5 5) 0= .tuple #[Mh 2,I 0]:=by kernel_rfl
theorem zbS:z1K (crN g5 5) 3= .tuple #[Mh 1,I 0]:=by kernel_rfl
theorem zca:(crN g5 5).t=5/\(crN g5 5).done=true:=by decide
theorem z0r {w:World}(hG:M7 w 0 (OZ .gamma) 260)(hU:M7 w 1 (OZ .unary) 260):Mw Tryz.prog 15 [] w λv w'=>v= .bool true/\Ext w w':=by
 refine It (e:=[]) Tryz.func15 O Tryz.ntmps15 O O$ qN O$ Me O$ qM O$ M5 O O (SA (cs:=[_,_]) (zs:=[Value.int .u32 0,Value.int .u32 0]) Mr Mi O (by kernel_rfl) O O O (by decide)) ?_
 rintro _ w1 ⟨b1,rfl,⟨bR,ad,aj⟩,iM⟩
 refine M5 O O (SA (cs:=[_,_]) (zs:=[Value.int .u32 0,Value.int .u32 0]) Mr Mi O (by kernel_rfl) O O O (by decide)) ?_
 rintro _ w2 ⟨b2,rfl,⟨bY,af,am⟩,cH⟩
 refine M5 O O (SA (cs:=[_,_,_]) (zs:=[Value.int .u32 0,Value.int .u32 0,Value.int .u32 0]) Mr Mi O (by kernel_rfl) O O O (by decide)) ?_
 rintro _ w3 ⟨b3,rfl,⟨ek,ai,ar⟩,cE⟩
 refine M5 O O (SA (cs:=[_]) (zs:=[Value.int .u32 0]) Mr Mi O (by kernel_rfl) O O O (by decide)) ?_
 rintro _ w4 ⟨b4,rfl,⟨f9,ay,aH⟩,dV⟩
 refine M5 O O (SA (cs:=[_,_,_,_,_]) (zs:=[Value.slice none 0 0,Value.slice none 0 0,Value.slice none 0 0,Value.slice none 0 0,Value.slice none 0 0]) SN Pq O (by kernel_rfl) O O O (by decide)) ?_
 rintro _ w4' ⟨b4',rfl,⟨Kz,od,et⟩,EN⟩
 have kW:GrM w4' (.slice (some ⟨b4',0,none⟩) 5 5) g5:=by
  refine⟨⟨_,EN.rd,λi l hl=>?_⟩⟩
  match i,hl with
  | 0, hl =>
    cases hl
    exact⟨_,_,rfl,Nat.le_refl _,(((iM.rd.ext af).ext ai).ext ay).ext od⟩
  | 1, hl =>
    cases hl
    exact⟨_,_,rfl,Nat.le_refl _,((cH.rd.ext ai).ext ay).ext od⟩
  | 2, hl =>
    cases hl
    exact⟨_,_,rfl,Nat.le_refl _,(cE.rd.ext ay).ext od⟩
  | 3, hl =>
    cases hl
    exact⟨_,_,rfl,Nat.le_refl _,dV.rd.ext od⟩
  | 4, hl =>
    cases hl
    exact⟨none,0,rfl,Nat.le_refl _,⟨rfl,.inl ⟨(none,0),rfl,rfl⟩⟩⟩
  |i+5,hl=>cases hl
 have cn:=(((ad.trans af).trans ai).trans ay).trans od
 have z4:=cn.size
 refine Mn cf7 O (z3S (g:=g5) zcz (by decide) (by decide) kW (cn.LY hG) (cn.LY hU) 2 0 (by decide) (by decide)) ?_
 rintro _ w5 ⟨W,XX,rfl,hW,aW,fh⟩
 have bG:=cn.trans aW
 have z5:=bG.size
 refine LW O$ N5 O O$ N5 O O$ M5 O O (Oo (cs:=[_,_,_,_,_]) Wz O) ?_
 rintro _ w6 ⟨b6,rfl,mn,aJ,aS⟩
 have z6:=aJ.size
 refine Mb O (MO (news:=W.v) Wz O O O O aS (by simp)) ?_
 rintro w7 ⟨bK,aD⟩
 have fF:M7 w7 b6 [ptr W.d 0,ptr W.Q.s 0,ptr W.G.k 0,ptr W.T.k 0,I ((200-W.a:Nat):Int)] 31:=bK
 have l7:=bK.lt
 have z7:=aD.size
 have kr:=aJ.kp.trans aD
 have gR:=hW.hg.lt
 have iH:=hW.hg.xk
 have i1:=gR _ iH.1
 have i2:=gR _ iH.2.1
 have i3:=gR _ iH.2.2.1
 have i4:=gR _ iH.2.2.2
 have tR:OD W.G W.Q W.txt W.K (λb=>(XX b/\b≠W.G.rb)\/b=b6) w7:=(hW.hg.grow aJ (Y:=λb=>(XX b/\b≠W.G.rb)\/b=b6) (λj e=>e.imp id λe=>by have:=aS.lt;omega) (λj e=> .inl e)).own aD λj e=>by subst e;exact⟨.inr O,by omega,by omega,by omega,by omega⟩
 have u3:∀b,b<w.heap.size->(XX b/\b≠W.G.rb)\/b=b6:=λb hb=> .inl ⟨(fh b (by omega)).1,(fh b (by omega)).2.1⟩
 have ah:=hW.gg
 have ev:W.G.g.length=5:=by rw[ah];rfl
 have ha:=hW.a
 have hL:=hW.L
 have KA:=hW.K
 have KB:=hW.gs
 have ue:=hW.ts
 refine Me O$ qM O$ Ma ZH O$ qV (M1 To O O fF O)$ Ma Zz O$ qV (M1 Ze O O fF O)$ Mn cf8 O (Ti tR (by omega) (by omega) hW.pre (by omega) (by omega)) ?_
 rintro _ w8 ⟨rr,vb,txt8,rfl,lJ,dh,h8,Ag,bz⟩
 rw[ah] at h8
 have EO:=bG.trans aJ
 have o5:Ext w w8:=(EO.LS aD λb e=>by omega).LS bz λb e=>by
  rcases Nat.lt_or_ge b w.heap.size with h| h
  ·exact absurd (u3 b h) e
  ·exact h
 obtain⟨Y,hY⟩:∃Y:Nat->Prop,(λb=>((XX b/\b≠W.G.rb)\/b=b6)\/b=rr\/b=vb)=Y:=⟨_,rfl⟩
 rw[hY] at h8
 have uK:∀b,b<w.heap.size->Y b/\b≠rr:=λb hb=>⟨by rw[<-hY];exact .inl (u3 b hb),by omega⟩
 obtain⟨Q,hQ⟩:∃Q,W.Q.Nr (NU W.Q.L W.a 1 true)=Q:=⟨_,rfl⟩
 rw[hQ] at h8
 refine LW O$ N5 O O$ N5 O O$ Me O$ M4 O$ run_seq$ qN O$ LW O$ qV ((by first|exact MX O|exact Oy O)) ?_
 rw[show(!true)=false from rfl]
 refine Md O O$ N9 O O$ MN O O$ LX$ Mz.qb (e:=[(0,_),(3,_),(36,_)]) ?_
 refine An O$ py$ run_seq$ qN O$ M4 O$ LU$ Oh (α:=Nat) (0) (λi=>[(3,ptr rr 0),(5,I (i:Int))]) (λi w'=>i<=4/\(∃txt K,OT QU W.G Q txt K Y rr vb W.a (crN g5 i) w'/\K<=1000+3300*i)/\Ext w w') (λi=>4-i) ?hI ?hround
 case hI=>exact⟨Nat.zero_le _,⟨_,_,h8,by omega⟩,o5⟩
 case hround=>
  rintro i w9 ⟨hi,⟨txt9,K9,h9,LM⟩,eJ⟩ ih;obtain⟨r1,r2,r3⟩:=z8i i (by omega);have s9:=XD h9 (by omega) r2 r3 r1;rw[ah] at s9
  change Mw _ _ _ _ (λv w'=>v= .tuple #[.bool (crN g5 (i+1)).done,I 0]/\∃txt',OT QU W.G Q txt' (K9+3200) Y rr vb W.a (crN g5 (i+1)) w'/\_) at s9
  try dsimp only
  refine run_seq$ qN O$ LW O$ Ni O O$ LX$ M8 O (λhq=>?_)$ λhq=>?_
  ·have lC:i<4:=by omega
   rw[(z8i (i+1) (by omega)).1] at s9;refine py$ run_seq$ LU$ qN O$ LW O$ Mn cf9 O (s9) ?_;rintro _ w10 ⟨rfl,txt10,eI,u5,aq⟩;refine LW O$ N5 O O$ N5 O O$ Me O$ Me O$ qM O$ Md O O$ LW O$ N9 O O$ MN O O$ LX$ An O$ py$ LV ?_;refine M0 O$ LW O$ MT O O$ M4 O ((ih (i+1) _ ⟨by omega,⟨_,_,eI,by omega⟩,eJ.LS aq λb e=>?_⟩ (by omega)).qb);rcases Nat.lt_or_ge b w.heap.size with h| h
   ·exact e.elim (λe=>absurd (uK b h).1 e) (λe=>absurd e (uK b h).2)
   ·exact h
  ·have lC:i=4:=by omega
   subst lC;rw[show(crN g5 (4+1)).done=true from zca.2] at s9;refine M6 O$ qN O$ LW O$ Mn cf9 O (s9) ?_;rintro _ w10 ⟨rfl,txt10,eI,u5,aq⟩
   have bL:Ext w w10:=eJ.LS aq λb e=>by
    rcases Nat.lt_or_ge b w.heap.size with h| h
    ·exact e.elim (λe=>absurd (uK b h).1 e) (λe=>absurd e (uK b h).2)
    ·exact h
   have mE:=VO eI 0;rw[show crN g5 (4+1)=crN g5 5 from rfl,zen] at mE;refine LW O$ N5 O O$ N5 O O$ Me O$ Me O$ qM O$ LW O$ Mn z99 O (mE) ?_;rintro _ w11 ⟨rfl,oQ,bC⟩
   have aQ:Ext w w11:=bL.LS bC λb e=>by
    rcases Nat.lt_or_ge b w.heap.size with h| h
    ·exact absurd (.inl (uK b h).1) e
    ·exact h
   have um:=VO oQ 3;rw[zbS] at um;refine LW O$ N5 O O$ N5 O O$ Me O$ Me O$ qM O$ LW O$ Mn z99 O (um) ?_;rintro _ w12 ⟨rfl,BJ,aY⟩
   have aF:Ext w w12:=aQ.LS aY λb e=>by
    rcases Nat.lt_or_ge b w.heap.size with h| h
    ·exact absurd (.inl (uK b h).1) e
    ·exact h
   have g8:=We BJ;rw[zca.1] at g8;refine LW O$ N5 O O$ N5 O O$ Me O$ M4 O$ Mz.qb (e:=[(3,_),(8,_),(9,_),(10,_),(11,_),(12,_),(13,_)]) ?_;refine qN O$ Md O O$ LW O$ O3 O O$ NC O O$ Md O O$ O3 O O$ NC O O$ Md O O$ O3 O O$ NC O O$ Md O O$ O3 O O$ O4 ?_;refine NC O O$ Md O O$ O3 O O$ O4$ NC O O$ Md O O$ Mn zbA O (g8) ?_;rintro _ w12 ⟨rfl,rfl⟩;refine O3 O O$ O4$ NC O O$ M4 O$ Mz.qb (e:=[(0,_)]) ?_;refine LZ Tryz.func15 O ?_;exact⟨_,rfl,rfl,aF⟩
def insL (x:Nat):List Nat->List Nat
 |[]=>[x]
 |y::l=>if x<y then x::y::l else if x=y then y::l else y::insL x l
theorem XJ {x z:Nat}:∀{l:List Nat},z∈insL x l↔z=x\/z∈l
 |[]=>by simp[insL]
 | y :: l => by
   have ih:=XJ (x:=x) (z:=z) (l:=l);unfold insL;by_cases h1:x<y
   ·rw[if_pos h1];simp
   ·rw[if_neg h1];by_cases h2:x=y
    ·rw[if_pos h2];subst h2;simp
    ·rw[if_neg h2];simp only[List.mem_cons,ih];constructor
     ·rintro(e|e|e)
      ·exact .inr (.inl e)
      ·exact .inl e
      ·exact .inr (.inr e)
     ·rintro(e|e|e)
      ·exact .inr (.inl e)
      ·exact .inl e
      ·exact .inr (.inr e)
theorem Z2 {x:Nat}:∀{l:List Nat},List.Pairwise (·<·) l->List.Pairwise (·<·) (insL x l)
 |[],_=>by simp[insL]
 | y :: l, h => by
   obtain⟨h1,h2⟩:=List.pairwise_cons.1 h;unfold insL;by_cases e1:x<y
   ·rw[if_pos e1];refine List.pairwise_cons.2 ⟨λz hz=>?_,h⟩;rcases List.mem_cons.1 hz with e| e
    ·omega
    ·have:=h1 z e;omega
   ·rw[if_neg e1];by_cases e2:x=y
    ·rw[if_pos e2];exact h
    ·rw[if_neg e2];refine List.pairwise_cons.2 ⟨λz hz=>?_,Z2 h2⟩;rcases XJ.1 hz with e| e
     ·omega
     ·exact h1 z e
theorem Zd {v:Nat}:∀{l:List Nat} {i:Nat},i<=l.length->(∀(j y:Nat),j<i->l[j]? =some y->y<v)->(∀y:Nat,l[i]? =some y->v<=y)->insL v l=if l[i]? =some v then l else l.take i++v::l.drop i
 | [], i, hi, _, _ => by
   have:i=0:=by simpa using hi
   subst this
   rfl
 | x :: l, 0, _, _, h2 => by
   have hx:=h2 x O;unfold insL;by_cases e:v<x
   ·rw[if_pos e,if_neg (by simp;omega)]
    rfl
   ·have:v=x:=by omega
    subst this;rw[if_neg e,if_pos O]
    exact(if_pos O).symm
 | x :: l, i + 1, hi, h1, h2 => by
   have hx:=h1 0 x (by omega) O;have ih:=Zd (v:=v) (l:=l) (i:=i) (by simpa using hi) (λj y hj hy=>h1 (j+1) y (by omega) (by simpa using hy)) (λy hy=>h2 y (by simpa using hy));unfold insL;rw[if_neg (by omega),if_neg (by omega),ih];have e:(x::l)[i+1]? =l[i]? :=by simp
   rw[e];split
   ·rfl
   ·rfl
def Zw (g:List (List Nat))(e:Nat×Nat):List (List Nat):=g.set e.1 (insL e.2 (Mg g e.1))
def X8 (n:Nat)(es:List (Nat×Nat)):List (List Nat):=es.foldl Zw (List.replicate n [])
theorem Vq {g:List (List Nat)}{u v:Nat}{l:List Nat}(hu:u<g.length):Mg (g.set u l) v=if u=v then l else Mg g v:=by
 unfold Mg
 by_cases e:u=v
 ·subst e;rw[List.getElem?_set_self hu,if_pos O];rfl
 ·rw[List.getElem?_set_ne e,if_neg e]
structure VK (n:Nat)(es:List (Nat×Nat))(g:List (List Nat)):Prop where
 len:g.length=n
 mem:∀v u,u∈Mg g v↔(v,u)∈es
 W4:∀v,List.Pairwise (·<·) (Mg g v)
theorem VK.new {n:Nat}:VK n [] (List.replicate n []):=by
 have e:∀v,Mg (List.replicate n []) v=[]:=λv=>by
  unfold Mg;rw[List.getElem?_replicate];split<;>rfl
 exact⟨by simp,λv u=>by rw[e];simp,λv=>by rw[e];exact List.Pairwise.nil⟩
theorem VK.step {n:Nat}{es:List (Nat×Nat)}{g:List (List Nat)}(h:VK n es g){e:Nat×Nat}(he:e.1<n):VK n (es++[e]) (Zw g e):=by
 have hl:=h.len
 unfold Zw
 refine⟨by rw[List.length_set];exact hl,λv u=>?_,λv=>?_⟩
 ·rw[Vq (by omega),List.mem_append,List.mem_singleton];by_cases e2:e.1=v
  ·rw[if_pos e2,XJ,h.mem,e2];constructor
   ·rintro(e3|e3)
    ·right;subst e3;subst e2;rfl
    ·exact .inl e3
   ·rintro(e3|e3)
    ·exact .inr e3
    ·left;rw[<-e3]
  ·rw[if_neg e2,h.mem];constructor
   ·exact .inl
   ·rintro(e3|e3)
    ·exact e3
    ·exact absurd (by rw[<-e3]) e2
 ·rw[Vq (by omega)];split
  ·exact Z2 (h.W4 _)
  ·exact h.W4 v
theorem zbk {n:Nat}{es:List (Nat×Nat)}(h:∀e∈es,e.1<n):VK n es (X8 n es):=by
 have key:∀(l p:List (Nat×Nat)) (g:List (List Nat)),VK n p g->(∀e∈l,e.1<n)->VK n (p++l) (l.foldl Zw g):=λl=>by
  induction l with
  |nil=>exact λp g hg _=>by rw[List.append_nil];exact hg
  | cons e l ih =>
    intro p g hg hl;rw[List.foldl_cons];have:=ih (p++[e]) _ (hg.step (hl e List.mem_cons_self)) (λx hx=>hl x (List.mem_cons_of_mem _ hx))
    rwa [List.append_assoc] at this
 exact key es [] _ VK.new h
theorem VK.gr {n:Nat}{es:List (Nat×Nat)}{g:List (List Nat)}(h:VK n es g)(hn:n<=60)(he:∀e∈es,e.2<n):P9 g:=by
 have hmem:∀l∈g,∃v,Mg g v=l:=λl hl=>by
  obtain⟨v,hv,e⟩:=List.getElem_of_mem hl;exact⟨v,by unfold Mg;rw[List.getElem?_eq_getElem hv,e];rfl⟩
 have hlt:∀l∈g,∀y∈l,y<g.length:=λl hl y hy=>by
  obtain⟨v,rfl⟩:=hmem l hl;rw[h.len];exact he _ ((h.mem v y).1 hy)
 refine⟨λl hl=>⟨?_,λy hy=>?_⟩,hlt,by rw[h.len];exact hn⟩
 ·obtain⟨v,rfl⟩:=hmem l hl;exact h.W4 v
 ·have:=hlt l hl y hy;rw[h.len] at this;omega
theorem VK.sym {n:Nat}{es:List (Nat×Nat)}{g:List (List Nat)}(h:VK n es g)(h1:∀a b,(a,b)∈es->(b,a)∈es)(h2:∀a,(a,a)∉es):zba g:=
 ⟨λu v hu=>(h.mem u v).2 (h1 v u ((h.mem v u).1 hu)),λv hv=>h2 v ((h.mem v v).1 hv)⟩
def z0M (g:List (List Nat)):List (Nat×Nat):=(List.range g.length).flatMap λu=>(Mg g u).flatMap λx=>if x=u then [] else [(x,u),(u,x)]
theorem Vk {g:List (List Nat)}(hg:P9 g)(a b:Nat):(a,b)∈z0M g↔a≠b/\(b∈Mg g a\/a∈Mg g b):=by
 have hl:∀{u x:Nat},x∈Mg g u->u<g.length:=fun {u x} hx=>by
  rcases Nat.lt_or_ge u g.length with e| e
  ·exact e
  ·unfold Mg at hx;rw[List.getElem?_eq_none e] at hx;cases hx
 unfold z0M
 simp only[List.mem_flatMap,List.mem_range]
 constructor
 ·rintro⟨u,hu,x,hx,h⟩;split at h
  ·cases h
  ·rename_i hxu
   simp only[List.mem_cons,List.not_mem_nil,or_false,Prod.mk.injEq] at h;rcases h with⟨rfl,rfl⟩|⟨rfl,rfl⟩
   ·exact⟨hxu,.inr hx⟩
   ·exact⟨λe=>hxu e.symm,.inl hx⟩
 ·rintro⟨hab,h|h⟩
  ·exact⟨a,hl h,b,h,by rw[if_neg (λe=>hab e.symm)];simp⟩
  ·exact⟨b,hl h,a,h,by rw[if_neg hab];simp⟩
def z8l (g:List (List Nat)):List (List Nat):=X8 g.length (z0M g)
theorem z8H {g:List (List Nat)}(hg:P9 g):P9 (z8l g)/\zba (z8l g)/\(z8l g).length=g.length:=by
 have hb:∀e∈z0M g,e.1<g.length/\e.2<g.length:=λe he=>by
  obtain⟨a,b⟩:=e;obtain⟨-,h|h⟩:=(Vk hg a b).1 he
  ·refine⟨?_,Qr hg a b h⟩;rcases Nat.lt_or_ge a g.length with e| e
   ·exact e
   ·unfold Mg at h;rw[List.getElem?_eq_none e] at h;cases h
  ·refine⟨Qr hg b a h,?_⟩;rcases Nat.lt_or_ge b g.length with e| e
   ·exact e
   ·unfold Mg at h;rw[List.getElem?_eq_none e] at h;cases h
 have hI:=zbk (n:=g.length) (es:=z0M g) (λe he=>(hb e he).1)
 exact⟨hI.gr hg.n (λe he=>(hb e he).2),hI.sym (λa b h=>by
  rw[Vk hg] at h⊢
  exact⟨λe=>h.1 e.symm,h.2.symm⟩) (λa h=>((Vk hg a a).1 h).1 O),hI.len⟩
theorem z9n {w:World}{s:List Nat}{v:Nat}(KC:s.length<=1000000){a:Option Addr}{c:Nat}(ij:s.length<=c)(hr:Rd w (.slice a s.length c) 1 s.length (s.map Mx)):Mw Tryz.prog 84 [.slice a s.length c,Mx v] w λr w'=>∃a' c',r= .slice a' (insL v s).length c'/\(insL v s).length<=c'/\Rd w' (.slice a' (insL v s).length c') 1 (insL v s).length ((insL v s).map Mx)/\(∀b,(Value.slice a' (insL v s).length c').ownBlock=some b->(Value.slice a s.length c).ownBlock=some b\/w.heap.size<=b)/\Ext w w':=by
 have eH:maxLen=9223372036854775807:=rfl
 have aV:∀{k y:Nat},s[k]? =some y->∃lb lo,a=some ⟨lb,lo,none⟩/\w.cell? ⟨lb,lo+k*1,none⟩=some (Mx y):=fun {k y} hy=>by
  have jV:k<s.length:=by
   rcases Nat.lt_or_ge k s.length with h| h
   ·exact h
   ·rw[List.getElem?_eq_none h] at hy;cases hy
  rcases hr.2 with⟨⟨ca,cc⟩,fH,rk⟩|⟨lb,lo,cap,fH,dN⟩
  ·omega
  cases fH;exact⟨lb,lo,rfl,dN (k*1) _ (by rw[Nat.mul_one,List.getElem?_map,hy];rfl)⟩
 refine It (e:=[(0,_),(1,_)]) Tryz.func84 O Tryz.ntmps84 O O$ qN O$ Me O$ qM O$ M4 O$ run_seq$ LU$ Ot (λe' w'=>∃k:Nat,e'=[(0,.slice a s.length c),(1,Mx v),(5,I (k:Int))]/\k<=s.length/\(∀j y,j<k->s[j]? =some y->y<v)/\(∀y,s[k]? =some y->v<=y)/\w'=w) ?jm$ λjm=>?tP
 case jm =>
  rintro e' w3 ⟨k,rfl,hk,gQ,iB,rfl⟩;have VR:=Zd hk gQ iB;refine run_seq$ run_seq$ MM (λe' w'=>∃q,e'=[(0,.slice a s.length c),(1,Mx v),(5,I (k:Int)),(31,.bool q)]/\(q=true↔s[k]? =some v)/\w'=w3) ?eu$ λeu=>?iE
  case eu =>
   rintro e' w4 ⟨q,rfl,oK,rfl⟩;refine MZ O (λqm=>?_)$ λqm=>?_
   ·rw[if_pos (oK.1 qm)] at VR;rw[VR];refine qN O$ LW O$ M4 O$ LZ Tryz.func84 O ?_;exact⟨_,rfl,a,c,rfl,ij,hr,λb hb=> .inl hb,Ext.refl _⟩
   ·rw [if_neg (λe => by rw [oK.2 e] at qm; cases qm)] at VR; have ah := Ext.Mm w4; have bc := ah.size
    have lq:((s.take k++[v])++s.drop k).length=s.length+1:=by
     rw[List.length_append,List.length_append,List.length_take,List.length_drop,List.length_singleton];omega
    have di:∀(l:List Nat),∀c∈l.map Mx,c.oneCell'=true:=λl c hc=>by obtain⟨z,-,rfl⟩:=List.mem_map.1 hc;rfl
    have jz:(s.take k).length=k:=by rw[List.length_take];omega
    have uk:(s.drop k).length=s.length-k:=List.length_drop ..;refine py$ run_seq$ NV (λw'=>Ext w4 w') O$ Mj 1 O O (ah)$ Mj 2 O O (ah)$ Mj 5 O O (ah)$ Mj 8 O O (ah)$ Mj 9 O O (ah)$ M3 3 O (z7M Mr Mi O O (by omega)) ah$ M3 10 O (Ua Mr Mi O O hk ij) ah$ zd9 (i:=0) (j:=6) (by kernel_rfl) ?_ ?_
    ·refine ON (i:=0) O O O (SA (cs:=[]) (zs:=[]) Mr Mi O (by kernel_rfl) O O O (by decide)) ?_;rintro v6 w6 ⟨b6,rfl,⟨mn,aJ,aS⟩,eL⟩;refine⟨ah.trans aJ,?_⟩;have yD:w4.heap.size<=b6:=by omega
     have lb6:=aS.lt;have ah:=ah.trans aJ
     try have bQ:=bQ.ext aJ
     have bc:=Nat.le_trans bc aJ.size;refine zd9 (i:=4) (j:=6) (by kernel_rfl) ?_ ?_
     ·refine ON (i:=4) O O O (pap Mr Mi O (by decide) O O eL ((PW (i:=k) hr hk).ext ah) (λc hc=>di s c (List.mem_of_mem_take hc)) (by omega) (by omega)) ?_;rintro v10 w10 ⟨bq,aq,bh,-⟩;refine⟨ah.LS aq (λj e=>by have e:b6=j:=NF e;omega),?_⟩;have ah:=ah.LS aq (λj e=>by have e:b6=j:=NF e;omega)
      try have bQ:=bQ.kp aq (λj hj e=>by have e:b6=j:=NF e;have hj:b16=j:=NF hj;omega)
      have bh:∀j,v10.ownBlock=some j->w4.heap.size<=j:=λj hj=>by rcases bh j hj with e|e;(have e:b6=j:=NF e;omega);omega
      have bc:=Nat.le_trans bc aq.size;have nT:=λ(j:Nat) (hj:v10.ownBlock=some j)=>bq.lt hj;refine qO 6$ ON (i:=6) O O O (SA (cs:=[_]) (zs:=[Value.int .u32 0]) Mr Mi O (by kernel_rfl) O O O (by decide)) ?_;rintro v16 w16 ⟨b16,rfl,⟨nU,aZ,eG⟩,bQ⟩;refine⟨ah.trans aZ,?_⟩;have nV:w4.heap.size<=b16:=by omega
      have ah:=ah.trans aZ
      try have eL:=eL.ext aZ
      try have bq:=bq.ext aZ
      have lb16:=eG.lt;have bc:=Nat.le_trans bc aZ.size;refine qO 7$ ON (i:=7) O O O (pap Mr Mi O (by decide) O O bq bQ.rd (λc hc=>di [v] c hc) (by omega) (by omega)) ?_;rintro v17 w17 ⟨en,bX,bF,-⟩;refine⟨ah.LS bX (λj e=>bh j e),?_⟩;have ah:=ah.LS bX (λj e=>bh j e);have bF:∀j,v17.ownBlock=some j->w4.heap.size<=j:=λj hj=>by rcases bF j hj with e|e;exact bh j e;omega
      have bc:=Nat.le_trans bc bX.size;refine qO 11$ ON (i:=11) O O O (pap Mr Mi O (by decide) O O en ((P8 (i:=k) hr hk ij).ext ah) (λc hc=>di s c (List.mem_of_mem_drop hc)) (by omega) (by omega)) ?_;rintro v21 w21 ⟨bN,dJ,cN,-⟩;refine⟨ah.LS dJ (λj e=>bF j e),?_⟩;have ah:=ah.LS dJ (λj e=>bF j e);have cN:∀j,v21.ownBlock=some j->w4.heap.size<=j:=λj hj=>by rcases cN j hj with e|e;exact bF j e;omega
      refine M3 12 O (NX O) ah$ qE ?_;rw[show 0+k+1+(s.length-k)=(insL v s).length by rw[VR,List.length_append,List.length_cons,jz,uk];omega,show([]++List.take k (s.map Mx)++[Mx v]++List.drop k (s.map Mx))=(insL v s).map Mx by rw[VR];simp[List.map_take,List.map_drop]] at bN;obtain⟨ra,rc,rfl,-⟩:=bN.rd.shape
      have nW:(insL v s).length<=rc:=by
       rcases bN.shape with⟨e1,e2⟩|⟨gg,cc,e1,e2⟩
       ·omega
       ·cases e1;exact e2
      refine LZ Tryz.func84 O ?_;exact⟨_,rfl,ra,rc,rfl,nW,bN.rd,λb hb=> .inr (cN b hb),ah⟩
     ·refine ON (i:=6) O O O (SA (cs:=[_]) (zs:=[Value.int .u32 0]) Mr Mi O (by kernel_rfl) O O O (by decide)) ?_;rintro v16 w16 ⟨b16,rfl,⟨nU,aZ,eG⟩,bQ⟩;refine⟨ah.trans aZ,?_⟩;have nV:w4.heap.size<=b16:=by omega
      have ah:=ah.trans aZ
      try have eL:=eL.ext aZ
      try have bq:=bq.ext aZ
      have lb16:=eG.lt;have bc:=Nat.le_trans bc aZ.size;refine qO 4$ ON (i:=4) O O O (pap Mr Mi O (by decide) O O eL ((PW (i:=k) hr hk).ext ah) (λc hc=>di s c (List.mem_of_mem_take hc)) (by omega) (by omega)) ?_;rintro v10 w10 ⟨bq,aq,bh,-⟩;refine⟨ah.LS aq (λj e=>by have e:b6=j:=NF e;omega),?_⟩;have ah:=ah.LS aq (λj e=>by have e:b6=j:=NF e;omega)
      try have bQ:=bQ.kp aq (λj hj e=>by have e:b6=j:=NF e;have hj:b16=j:=NF hj;omega)
      have bh:∀j,v10.ownBlock=some j->w4.heap.size<=j:=λj hj=>by rcases bh j hj with e|e;(have e:b6=j:=NF e;omega);omega
      have bc:=Nat.le_trans bc aq.size;have nT:=λ(j:Nat) (hj:v10.ownBlock=some j)=>bq.lt hj;refine qO 7$ ON (i:=7) O O O (pap Mr Mi O (by decide) O O bq bQ.rd (λc hc=>di [v] c hc) (by omega) (by omega)) ?_;rintro v17 w17 ⟨en,bX,bF,-⟩;refine⟨ah.LS bX (λj e=>bh j e),?_⟩;have ah:=ah.LS bX (λj e=>bh j e);have bF:∀j,v17.ownBlock=some j->w4.heap.size<=j:=λj hj=>by rcases bF j hj with e|e;exact bh j e;omega
      have bc:=Nat.le_trans bc bX.size;refine qO 11$ ON (i:=11) O O O (pap Mr Mi O (by decide) O O en ((P8 (i:=k) hr hk ij).ext ah) (λc hc=>di s c (List.mem_of_mem_drop hc)) (by omega) (by omega)) ?_;rintro v21 w21 ⟨bN,dJ,cN,-⟩;refine⟨ah.LS dJ (λj e=>bF j e),?_⟩;have ah:=ah.LS dJ (λj e=>bF j e);have cN:∀j,v21.ownBlock=some j->w4.heap.size<=j:=λj hj=>by rcases cN j hj with e|e;exact bF j e;omega
      refine M3 12 O (NX O) ah$ qE ?_;rw[show 0+k+1+(s.length-k)=(insL v s).length by rw[VR,List.length_append,List.length_cons,jz,uk];omega,show([]++List.take k (s.map Mx)++[Mx v]++List.drop k (s.map Mx))=(insL v s).map Mx by rw[VR];simp[List.map_take,List.map_drop]] at bN;obtain⟨ra,rc,rfl,-⟩:=bN.rd.shape
      have nW:(insL v s).length<=rc:=by
       rcases bN.shape with⟨e1,e2⟩|⟨gg,cc,e1,e2⟩
       ·omega
       ·cases e1;exact e2
      refine LZ Tryz.func84 O ?_;exact⟨_,rfl,ra,rc,rfl,nW,bN.rd,λb hb=> .inr (cN b hb),ah⟩
    ·refine ON (i:=6) O O O (SA (cs:=[_]) (zs:=[Value.int .u32 0]) Mr Mi O (by kernel_rfl) O O O (by decide)) ?_;rintro v16 w16 ⟨b16,rfl,⟨nU,aZ,eG⟩,bQ⟩;refine⟨ah.trans aZ,?_⟩;have nV:w4.heap.size<=b16:=by omega
     have ah:=ah.trans aZ
     try have eL:=eL.ext aZ
     try have bq:=bq.ext aZ
     have lb16:=eG.lt;have bc:=Nat.le_trans bc aZ.size;refine qO 0$ ON (i:=0) O O O (SA (cs:=[]) (zs:=[]) Mr Mi O (by kernel_rfl) O O O (by decide)) ?_;rintro v6 w6 ⟨b6,rfl,⟨mn,aJ,aS⟩,eL⟩;refine⟨ah.trans aJ,?_⟩;have yD:w4.heap.size<=b6:=by omega
     have lb6:=aS.lt;have ah:=ah.trans aJ
     try have bQ:=bQ.ext aJ
     have bc:=Nat.le_trans bc aJ.size;refine qO 4$ ON (i:=4) O O O (pap Mr Mi O (by decide) O O eL ((PW (i:=k) hr hk).ext ah) (λc hc=>di s c (List.mem_of_mem_take hc)) (by omega) (by omega)) ?_;rintro v10 w10 ⟨bq,aq,bh,-⟩;refine⟨ah.LS aq (λj e=>by have e:b6=j:=NF e;omega),?_⟩;have ah:=ah.LS aq (λj e=>by have e:b6=j:=NF e;omega)
     try have bQ:=bQ.kp aq (λj hj e=>by have e:b6=j:=NF e;have hj:b16=j:=NF hj;omega)
     have bh:∀j,v10.ownBlock=some j->w4.heap.size<=j:=λj hj=>by rcases bh j hj with e|e;(have e:b6=j:=NF e;omega);omega
     have bc:=Nat.le_trans bc aq.size;have nT:=λ(j:Nat) (hj:v10.ownBlock=some j)=>bq.lt hj;refine qO 7$ ON (i:=7) O O O (pap Mr Mi O (by decide) O O bq bQ.rd (λc hc=>di [v] c hc) (by omega) (by omega)) ?_;rintro v17 w17 ⟨en,bX,bF,-⟩;refine⟨ah.LS bX (λj e=>bh j e),?_⟩;have ah:=ah.LS bX (λj e=>bh j e);have bF:∀j,v17.ownBlock=some j->w4.heap.size<=j:=λj hj=>by rcases bF j hj with e|e;exact bh j e;omega
     have bc:=Nat.le_trans bc bX.size;refine qO 11$ ON (i:=11) O O O (pap Mr Mi O (by decide) O O en ((P8 (i:=k) hr hk ij).ext ah) (λc hc=>di s c (List.mem_of_mem_drop hc)) (by omega) (by omega)) ?_;rintro v21 w21 ⟨bN,dJ,cN,-⟩;refine⟨ah.LS dJ (λj e=>bF j e),?_⟩;have ah:=ah.LS dJ (λj e=>bF j e);have cN:∀j,v21.ownBlock=some j->w4.heap.size<=j:=λj hj=>by rcases cN j hj with e|e;exact bF j e;omega
     refine M3 12 O (NX O) ah$ qE ?_;rw[show 0+k+1+(s.length-k)=(insL v s).length by rw[VR,List.length_append,List.length_cons,jz,uk];omega,show([]++List.take k (s.map Mx)++[Mx v]++List.drop k (s.map Mx))=(insL v s).map Mx by rw[VR];simp[List.map_take,List.map_drop]] at bN;obtain⟨ra,rc,rfl,-⟩:=bN.rd.shape
     have nW:(insL v s).length<=rc:=by
      rcases bN.shape with⟨e1,e2⟩|⟨gg,cc,e1,e2⟩
      ·omega
      ·cases e1;exact e2
     refine LZ Tryz.func84 O ?_;exact⟨_,rfl,ra,rc,rfl,nW,bN.rd,λb hb=> .inr (cN b hb),ah⟩
  case iE=>
   refine M0 O$ Md O O$ O9 Mr O ?_;by_cases oA:k<s.length
   ·obtain⟨y,hy⟩:∃y,s[k]? =some y:=⟨_,List.getElem?_eq_getElem (by omega)⟩;obtain⟨lb,lo,rfl,tO⟩:=aV hy;refine Ni O O$ O4$ Md O O$ LW O$ qV (MS Mr Mi O O (by omega))$ qV (MA Np O O tO)$ LW O ?_;by_cases uR:y=v
    ·refine O3 O O$ O4$ NC O O$ LX ?_;exact(eu _ _ ⟨true,rfl,⟨λ_=>by rw[hy,uR],λ_=>rfl⟩,rfl⟩).qb
    ·refine O3 O O$ ML$ NC O O$ LX ?_;exact(eu _ _ ⟨false,rfl,⟨λe=>(by cases e),λe=>by rw[hy] at e;exact absurd (NF e) uR⟩,rfl⟩).qb
   ·refine Ni O O$ ML$ LW O$ qS$ qS$ qS$ qS$ qS$ qS$ MN O O$ LX ?_;exact(eu _ _ ⟨false,rfl,⟨λe=>(by cases e),λe=>by rw[List.getElem?_eq_none (by omega)] at e;cases e⟩,rfl⟩).qb
 case tP=>
  refine Oh (α:=Nat) (0) (λk=>[(0,.slice a s.length c),(1,Mx v),(5,I (k:Int))]) (λk w'=>k<=s.length/\(∀j y,j<k->s[j]? =some y->y<v)/\w'=w) (λk=>s.length-k) ?hI ?hround
  case hI=>exact⟨Nat.zero_le _,λj y hj=>absurd hj (Nat.not_lt_zero _),rfl⟩
  case hround=>
   rintro k w3 ⟨hk,gQ,rfl⟩ ih2
   try dsimp only
   refine run_seq$ qN O$ Md O O$ O9 Mr O ?_;by_cases jV:k<s.length
   ·obtain⟨y,hy⟩:∃y,s[k]? =some y:=⟨_,List.getElem?_eq_getElem jV⟩;obtain⟨lb,lo,rfl,tO⟩:=aV hy;refine Ni O O$ O4$ Md O O$ LW O$ qV (MS Mr Mi O O (by omega))$ qV (MA Np O O tO)$ LW O ?_;by_cases Ad:y<v
    ·refine Ni O O$ O4$ NC O O$ LX$ M9 O$ py$ LU$ M0 O$ LW O$ MT O O$ M4 O$ LV ((ih2 (k+1) _ ⟨by omega,λj z hj hz=>?_,rfl⟩ (by omega)).qb);by_cases e:j=k
     ·subst e;rw[hy] at hz;cases hz;exact Ad
     ·exact gQ j z (by omega) hz
    ·refine Ni O O$ ML$ NC O O$ LX$ An O$ M6 O ?_;exact(jm _ _ ⟨k,rfl,hk,gQ,λz hz=>(by rw[hy] at hz;cases hz;omega),rfl⟩).qb
   ·refine Ni O O$ ML$ LW O$ qS$ qS$ qS$ qS$ qS$ qS$ MN O O$ LX$ An O$ M6 O ?_;exact(jm _ _ ⟨k,rfl,hk,gQ,λz hz=>(by rw[List.getElem?_eq_none (by omega)] at hz;cases hz),rfl⟩).qb
theorem z7z (n:Nat)(es:List (Nat×Nat)):(X8 n es).length=n:=by
 have key:∀(l:List (Nat×Nat)) (g:List (List Nat)),(l.foldl Zw g).length=g.length:=λl=>by
  induction l with
  |nil=>exact λ_=>rfl
  |cons e l ih=>intro g;rw[List.foldl_cons,ih];unfold Zw;rw[List.length_set]
 unfold X8
 rw[key,List.length_replicate]
theorem z1o {x:Nat}:∀{l:List Nat},(insL x l).length<=l.length+1
 |[]=>Nat.le_refl _
 | y :: l => by
   unfold insL;have:=z1o (x:=x) (l:=l);split
   ·exact Nat.le_refl _
   ·split<;>simp<;>omega
theorem z62 {w:World}{n:Nat}(cU:1<=n)(hn:n<=60){ea:Option Addr}{ec:Nat}{es:List (Nat×Nat)}(oC:es.length<=100000)(hb:∀e∈es,e.1<n/\e.2<n)(hE:EdR w ea es):Mw Tryz.prog 51 [I (n:Int),.slice ea es.length ec] w λv w'=>∃bg,v= .tuple #[.slice (some ⟨bg,0,none⟩) n n,I 0]/\VW w' bg w.heap.size (X8 n es)/\Ext w w':=by
 have eH:maxLen=9223372036854775807:=rfl
 refine It (e:=[(0,_),(1,_)]) Tryz.func51 O Tryz.ntmps51 O O$ qN O$ Me O$ M4 O$ run_seq$ qN O$ LW O$ Ni O O$ ML$ Md O O$ Ng O O$ ML$ MN O O$ LX ?_
 refine An O$ py$ qN O$ LW O$ M5 O O (pmk (c:=n) (n:=n) SN Pq O O O (by omega) (by omega) (by omega)) ?_
 rintro _ w1 ⟨bg,rfl,⟨Gk,ad,aj⟩,-⟩
 have kH:VW w1 bg w.heap.size (List.replicate n []):=VW.new aj
 refine M4 O$ run_seq$ qN O$ M4 O$ LU$ Oh (α:=Nat) (0) (λi=>[(0,I (n:Int)),(1,.slice ea es.length ec),(6,.slice (some ⟨bg,0,none⟩) n n),(7,I (i:Int))]) (λi w'=>i<=es.length/\VW w' bg w.heap.size (X8 n (es.take i))/\(∀v,(Mg (X8 n (es.take i)) v).length<=i)/\Ext w w') (λi=>es.length-i) ?hI ?hround
 case hI=>exact⟨Nat.zero_le _,kH,λv=>by
  rw[List.take_zero];show(Mg (List.replicate n []) v).length<=0;unfold Mg;rw[List.getElem?_replicate]
  split<;>exact Nat.le_refl _,ad⟩
 case hround=>
  rintro i w2 ⟨hi,cI,uz,af⟩ ih
  try dsimp only
  refine run_seq$ qN O$ Md O O$ O9 YT O$ Ni O O$ LX$ M8 O (λhq=>?_)$ λhq=>?_
  ·have cy:i<es.length:=by omega
   obtain⟨e,he⟩:∃e,es[i]? =some e:=⟨_,List.getElem?_eq_getElem cy⟩;obtain⟨b1,b2⟩:=hb e (List.mem_of_getElem? he);obtain⟨e1,e2,eb,eo,rfl,dP,dU⟩:=(hE.ext af) i e he
   have dY:X8 n (es.take (i+1))=Zw (X8 n (es.take i)) e:=by
    unfold X8;rw[MP he,List.foldl_append];rfl
   obtain⟨g,hg⟩:∃g,X8 n (es.take i)=g:=⟨_,rfl⟩;have ev:g.length=n:=by rw[<-hg];exact z7z _ _
   rw[hg] at cI uz dY
   have Gu:g[e.1]? =some (Mg g e.1):=by
    unfold Mg;rw[List.getElem?_eq_getElem (by omega)];rfl
   obtain⟨a,c,fA,ij,dQ,E8⟩:=cI.cell Gu;have EP:=uz e.1;obtain⟨s,hs⟩:∃s,Mg g e.1=s:=⟨_,rfl⟩;rw[hs] at fA ij dQ E8 EP;refine py$ run_seq$ LU$ run_seq$ qN O$ Md O O$ qV (MS YT Qs O O (by omega))$ Ma Ts O$ qV (MA Np O O dP)$ qV (MK O Np U2 (by omega))$ LW O$ PD O O$ ML$ Md O O ?_;refine LW O$ qV (MS YT Qs O O (by omega))$ Ma Si O$ qV (MA Np O O dU)$ qV (MK O Np U2 (by omega))$ LW O$ PD O O$ ML$ MN O O$ LX$ An O$ py ?_;have ah:=Ext.Mm w2;obtain⟨vs,nS,jt,-⟩:=id cI.ex;have Eb:=cI.lt;have z2:=af.size;refine Mo [21] (λw'=>Ext w2 w') (by kernel_rfl) O$ qL [20,21] 0 O (λ_ h=>MH O) ah$ qL [3,4,5,20,21] 1 O (λ_ h=>MH O) ah$ qL [3,4,5,20,21] 2 O (λ_ h=>MH O) ah$ qL [4,5,20,21] 3 O (λ_ h=>MS YT Qs O O (by omega)) ah$ qL [5,20,21] 4 O (λ_ h=>My Ts O) ah$ qL [12,13,19,20,21] 6 O (λ_ h=>MH O) ah$ qL [9,10,11,12,13,19,20,21] 7 O (λ_ h=>MH O) ah$ qL [9,10,11,12,13,19,20,21] 8 O (λ_ h=>MH O) ah$ qL [10,11,12,13,19,20,21] 9 O (λ_ h=>MS YT Qs O O (by omega)) ah$ qL [11,12,13,19,20,21] 10 O (λ_ h=>My Ts O) ah$ qL [16,17,18,19,20,21] 14 O (λ_ h=>MH O) ah$ qL [16,17,18,19,20,21] 15 O (λ_ h=>MH O) ah$ qL [17,18,19,20,21] 16 O (λ_ h=>MS YT Qs O O (by omega)) ah ?_;refine qL [18,19,20,21] 17 O (λ_ h=>My Si O) ah$ qL [20,21] 5 O (λ_ h=>MA Np O O (MJ h dP)) ah$ qL [12,13,19,20,21] 11 O (λ_ h=>MA Np O O (MJ h dP)) ah$ qL [19,20,21] 18 O (λ_ h=>MA Np O O (MJ h dU)) ah$ qL [13,19,20,21] 12 O (λ_ h=>MS SN Pq O O (by omega)) ah$ qL [19,20,21] 13 O (λ_ h=>MA Mr O O (MJ h fA)) ah$ NL (i:=19) (by kernel_rfl)$ Og (i:=19) O O O (yc zg9 O) (z9n (by omega) ij (dQ.ext ah)) ?_;rintro _ w3 ⟨a',c',rfl,EQ,ER,ES,ai⟩;refine⟨ah.trans ai,?_⟩;have ae:=ah.trans ai;have zg:=ah.size;have gp:=ae.LY nS;refine qL [21] 20 O (λ_ h=>MS SN Pq O O (by omega)) (ah.trans ai)$ PH [21]$ qO 21$ MI (i:=21) O O (NT Pq O O O gp (by rw[jt];omega)) ?_;rintro w4 ⟨aH,av⟩;refine⟨trivial,?_⟩
   have fD:=(cI.ext ae).set av (f:=e.1) (l:=insL e.2 s) (a:=a') (c:=c') (λvs' h'=>by rw[M7.uniq h' gp];exact aH) (by omega) EQ ER (λj hj=>by
    rcases ES j hj with e| e
    ·exact E8 j e
    ·omega)
   refine qE$ LV$ M0 O$ LW O$ MT O O$ M4 O ((ih (i+1) _ ⟨by omega,?_,λv=>?_,(af.trans ae).LS av (λj e=>by omega)⟩ (by omega)).qb)
   ·rw[dY];unfold Zw;rw[hs];exact fD
   ·rw[dY];unfold Zw;rw[Vq (by omega),hs];have:=uz v;have:=z1o (x:=e.2) (l:=s);split<;>omega
  ·have cy:i=es.length:=by omega
   subst cy;rw[List.take_length] at cI;refine M6 O$ qN O$ LW O$ Me O$ M4 O$ LZ Tryz.func51 O ?_;exact⟨_,rfl,bg,rfl,cI,af⟩
def edC (es:List (Nat×Nat)):List Value:=es.flatMap λe=>[Mx e.1,Mx e.2]
theorem z4j:∀{es:List (Nat×Nat)} {i:Nat} {e:Nat×Nat},es[i]? =some e->(edC es)[i*2+0]? =some (Mx e.1)/\(edC es)[i*2+1]? =some (Mx e.2)
 |x::es,0,e,h=>by cases h;exact⟨rfl,rfl⟩
 | x :: es, i + 1, e, h => by
   obtain⟨h1,h2⟩:=z4j (es:=es) (i:=i) (e:=e) (by simpa using h);unfold edC at h1 h2⊢;rw[List.flatMap_cons,List.getElem?_append_right (by simp;omega),List.getElem?_append_right (by simp;omega)];simp only[List.length_cons,List.length_nil];rw[show(i+1)*2+0-(0+1+1)=i*2+0 by omega,show(i+1)*2+1-(0+1+1)=i*2+1 by omega];exact⟨h1,h2⟩
theorem z5U {w:World}{v:Value}{T:TypeId}{es:List (Nat×Nat)}(h:Sl w v T 2 es.length (edC es))(hb:∀e∈es,e.1<4294967296/\e.2<4294967296):∃ea ec,v= .slice ea es.length ec/\EdR w ea es:=by
 obtain⟨a,c,rfl,-⟩:=h.rd.shape
 refine⟨a,c,rfl,λi e he=>?_⟩
 obtain⟨b1,b2⟩:=hb e (List.mem_of_getElem? he)
 have cy:i<es.length:=by
  rcases Nat.lt_or_ge i es.length with h| h
  ·exact h
  ·rw[List.getElem?_eq_none h] at he;cases he
 obtain⟨g1,g2⟩:=z4j he
 rcases h.rd.2 with⟨⟨ca,cc⟩,fH,rk⟩|⟨lb,lo,cap,fH,dN⟩
 ·omega
 cases fH
 exact⟨b1,b2,lb,lo,rfl,by rw[Nat.add_assoc];exact dN _ _ g1,by rw[Nat.add_assoc];exact dN _ _ g2⟩
def z4T (u x:Nat):List (Nat×Nat):=if x=u then [] else [(x,u),(u,x)]
def Ri (g:List (List Nat))(u i:Nat):List (Nat×Nat):=((List.range u).flatMap λu=>(Mg g u).flatMap (z4T u))++((Mg g u).take i).flatMap (z4T u)
theorem z3n (g:List (List Nat))(u:Nat):Ri g u (Mg g u).length=Ri g (u+1) 0:=by
 unfold Ri
 rw[List.take_length,List.range_succ,List.flatMap_append,List.take_zero]
 simp
theorem z2l {g:List (List Nat)}{u i x:Nat}(h:(Mg g u)[i]? =some x):Ri g u (i+1)=Ri g u i++z4T u x:=by
 unfold Ri
 rw[MP h,List.flatMap_append,List.append_assoc]
 simp
theorem z5c (g:List (List Nat)):Ri g g.length 0=z0M g:=by
 unfold Ri z0M z4T
 simp
theorem z8O (a b:List (Nat×Nat)):edC (a++b)=edC a++edC b:=List.flatMap_append ..
theorem z8C {g:List (List Nat)}(az:P9 g)(aw:1<=g.length){w:World}{gb go gc:Nat}(hg:GrR w gb go g):Mw Tryz.prog 26 [.slice (some ⟨gb,go,none⟩) g.length gc] w λv w'=>∃bg,v= .slice (some ⟨bg,0,none⟩) g.length g.length/\VW w' bg w.heap.size (z8l g)/\Ext w w':=by
 have eH:maxLen=9223372036854775807:=rfl
 have hn:=az.n
 refine It (e:=[(0,_)]) Tryz.func26 O Tryz.ntmps26 O O$ qN O$ Me O$ qM O$ M4 O$ run_seq$ qN O$ M4 O$ LU$ Oh (α:=Nat×Value) ((0,.slice none 0 0)) (λy=>[(0,.slice (some ⟨gb,go,none⟩) g.length gc),(3,y.2),(4,I (y.1:Int))]) (λy w'=>y.1<=g.length/\(Ri g y.1 0).length<=200*y.1/\Sl w' y.2 113 2 (Ri g y.1 0).length (edC (Ri g y.1 0))/\(∀b,y.2.ownBlock=some b->w.heap.size<=b)/\Ext w w') (λy=>g.length-y.1) ?hI ?hround
 case hI=>exact⟨Nat.zero_le _,Nat.le_refl _,Sl.nil _ _ _,λb hb=>(by cases hb),Ext.refl _⟩
 case hround =>
  rintro⟨u,v⟩ w2 ⟨hu,gF,cH,qa,af⟩ ih;dsimp only at hu gF cH qa ih⊢
  try dsimp only
  refine run_seq$ qN O$ Md O O$ O9 SN O$ Ni O O$ LX$ M8 O (λhq=>?_)$ λhq=>?_
  ·have oN:u<g.length:=by omega
   have ev:g[u]? =some (Mg g u):=by unfold Mg;rw[List.getElem?_eq_getElem oN];rfl
   have fT:(Mg g u).length<=g.length:=az.len (List.mem_of_getElem? ev);refine py$ run_seq$ LU$ qN O$ M4 O$ LU$ Oh (α:=Nat×Value) ((0,v)) (λy=>[(0,.slice (some ⟨gb,go,none⟩) g.length gc),(3,y.2),(4,I (u:Int)),(5,I (y.1:Int))]) (λy w'=>y.1<=(Mg g u).length/\(Ri g u y.1).length<=200*u+2*y.1/\Sl w' y.2 113 2 (Ri g u y.1).length (edC (Ri g u y.1))/\(∀b,y.2.ownBlock=some b->w.heap.size<=b)/\Ext w w') (λy=>(Mg g u).length-y.1) ?hI ?hround
   case hI=>exact⟨Nat.zero_le _,gF,cH,qa,af⟩
   case hround=>
    rintro⟨i,v3⟩ w3 ⟨hi,ko,cE,gV,ai⟩ ih2;dsimp only at hi ko cE gV ih2⊢;obtain⟨a,c,dP,dU⟩:=hg u _ ev;have ae:=Ext.Mm w3
    try dsimp only
    refine run_seq$ qN O$ Md O O$ LW O$ qV (MS SN Pq O O (by omega))$ qV (MA Mr O O (MJ ai dP))$ O9 Mr O$ Ni O O$ LX$ M8 O (λfR=>?_)$ λfR=>?_
    ·obtain⟨x,hx⟩:∃x,(Mg g u)[i]? =some x:=⟨_,List.getElem?_eq_getElem (by omega)⟩;obtain⟨lb,lo,rfl,uJ⟩:=dU i x hx;have i5:x<g.length:=Qr az u x (List.mem_of_getElem? hx);have g8:=z2l hx;refine py$ run_seq$ LU$ qN O$ Md O O$ qV (MS SN Pq O O (by omega))$ qV (MA Mr O O (MJ ai dP))$ LW O$ qV (MS Mr Mi O O (by omega))$ qV (MA Np O O (MJ ai uJ))$ qV (MK O Np U3 (by omega))$ LW O ?_;by_cases GI:x=u
     ·rw[show z4T u x=[] from if_pos GI,List.append_nil] at g8;refine N9 O O$ ML$ LX$ An O$ py$ LV$ M0 O$ LW O$ MT O O$ M4 O ?_;exact(ih2 (i+1,v3) _ ⟨by omega,by rw[g8];omega,by rw[g8];exact cE,gV,ai⟩ (by omega)).qb
     ·rw[show z4T u x=[(x,u),(u,x)] from if_neg GI] at g8;have z3:=ai.size;have oO:∀{w':World},Kp (λb=>v3.ownBlock=some b) w3 w'->Ext w w':=λhk=>ai.LS hk (λb e=>gV b e);refine N9 O O$ O4$ LX$ M9 O$ NV (λw'=>Kp (λb=>v3.ownBlock=some b) w3 w') O$ Mj 0 O O (ae.kp)$ Mj 1 O O (ae.kp)$ Mj 2 O O (ae.kp)$ M3 3 O (MS SN Pq O O (by omega)) (ae.kp)$ Mj 5 O O (ae.kp)$ Mj 8 O O (ae.kp)$ M3 9 O (Xb O U3 Np) (ae.kp)$ Mj 11 O O (ae.kp)$ M3 12 O (Xb O U3 Np) (ae.kp) ?_;refine Mj 13 O O (ae.kp)$ Mj 14 O O (ae.kp)$ M3 15 O (MS SN Pq O O (by omega)) (ae.kp)$ Mj 17 O O (ae.kp)$ qT 4 O (λ_ h=>MA Mr O O (MJ (oO h) dP)) (ae.kp)$ qT 16 O (λ_ h=>MA Mr O O (MJ (oO h) dP)) (ae.kp)$ M3 6 O (MS Mr Mi O O (by omega)) (ae.kp)$ M3 18 O (MS Mr Mi O O (by omega)) (ae.kp)$ qT 7 O (λ_ h=>MA Np O O (MJ (oO h) uJ)) (ae.kp)$ qT 19 O (λ_ h=>MA Np O O (MJ (oO h) uJ)) (ae.kp)$ M3 10 O (OO (cs:=[_,_]) Qs O zaK O O) (ae.kp)$ M3 20 O (OO (cs:=[_,_]) Qs O zaK O O) (ae.kp) ?_;rw[Nat.mod_eq_of_lt (show u<4294967296 by omega)];refine qO 21$ ON (i:=21) O O O (SA (cs:=[_,_,_,_]) (zs:=[Value.int .u32 0,Value.int .u32 0,Value.int .u32 0,Value.int .u32 0]) YT Qs O (by kernel_rfl) O O O (by decide)) ?_;rintro v4 w4 ⟨b4,rfl,⟨f9,ay,aH⟩,dV⟩;refine⟨ae.kp.trans ay.kp,?_⟩;have cx:=ae.trans ay;refine qO 22$ ON (i:=22) O O O (pap YT Qs O (by decide) O O (cE.ext cx) dV.rd (λc hc=>by obtain⟨z,-,rfl⟩:=List.mem_map.1 (show c∈[x,u,u,x].map Mx from hc);rfl) (by omega) (by omega)) ?_;rintro v5 w5 ⟨fC,ak,pn,-⟩;refine⟨cx.kp.trans ak,?_⟩;have z34:=cx.size;refine M3 23 O (NX O) (cx.kp.trans ak)$ qE$ LV$ M0 O$ LW O$ MT O O$ M4 O ((ih2 (i+1,v5) _ ⟨by omega,by rw[g8,List.length_append];show _+2<=_;omega,?_,λb hb=>?_,oO (cx.kp.trans ak)⟩ (by omega)).qb)
      ·rw[g8,List.length_append,z8O];exact fC
      ·rcases pn b hb with e| e
       ·exact gV b e
       ·omega
    ·have cy:i=(Mg g u).length:=by omega
     subst cy;rw[z3n] at ko cE;refine M6 O$ LV$ M0 O$ LW O$ MT O O$ M4 O ?_;exact(ih (u+1,v3) _ ⟨by show u+1<=g.length;omega,by show(Ri g (u+1) 0).length<=200*(u+1);omega,cE,gV,ai⟩ (by show g.length-(u+1)<g.length-u;omega)).qb
  ·have oN:u=g.length:=by omega
   subst oN;rw[z5c] at gF cH
   have xL:∀e∈z0M g,e.1<g.length/\e.2<g.length:=λe he=>by
    have aP:∀{u x:Nat},x∈Mg g u->u<g.length:=fun {u x} hx=>by
     rcases Nat.lt_or_ge u g.length with e| e
     ·exact e
     ·unfold Mg at hx;rw[List.getElem?_eq_none e] at hx;cases hx
    obtain⟨a,b⟩:=e;obtain⟨-,h|h⟩:=(Vk az a b).1 he
    ·exact⟨aP h,Qr az a b h⟩
    ·exact⟨Qr az b a h,aP h⟩
   obtain⟨ea,ec,rfl,hE⟩:=z5U cH (λe he=>by have:=xL e he;omega);refine M6 O$ qN O$ LW O$ O9 SN O$ LW O$ Mn zfA O (z62 aw (by omega) (by omega) xL hE) ?_;rintro _ w3 ⟨bg,rfl,ld,ai⟩;refine LW O$ N5 O O$ N5 O O$ Me O$ Me O$ qM O$ LW O$ M4 O$ LZ Tryz.func26 O (⟨_,rfl,bg,rfl,?_,af.trans ai⟩);have z2:=af.size;obtain⟨vs,h1,h2,h3⟩:=ld.ex
   exact⟨vs,h1,h2,λi l hl=>by
    obtain⟨a,c,g1,g2,g3,g4⟩:=h3 i l hl
    exact⟨a,c,g1,g2,g3,λb hb=>⟨by have:=(g4 b hb).1;omega,(g4 b hb).2⟩⟩⟩
theorem z5Y {w:World}{n fr fo:Int}{pl:Bool}(hn: -9223372036854775808<=n/\n<=9223372036854775807){ea:Option Addr}{ec:Nat}{es:List (Nat×Nat)}(oC:es.length<=9000000000000000000)(hE:EdR w ea es):Mw Tryz.prog 6 [.agg #[I n,.slice ea es.length ec,.bool pl,I fr,I fo]] w λv w'=>∃g bg,v= .slice (some ⟨bg,0,none⟩) g.length g.length/\1<=g.length/\g.length<=40/\P9 g/\(pl=false->zba g)/\VW w' bg w.heap.size g/\Ext w w':=by
 refine It (e:=[(0,_)]) Tryz.func6 O Tryz.ntmps6 O O$ qN O$ M5 O O (O2 O (cs:=[I n,.slice ea es.length ec,.bool pl,I fr,I fo]) O) ?_
 rintro _ w1 ⟨b1,rfl,bR,ad,aj⟩
 have aw:=Ext.Mm w1
 refine M4 O$ run_seq$ NV (λw'=>Ext w1 w') O$ M3 0 O (My zbI O) aw$ qT 1 O (λ_ h=>M1 U3 O O (h.LY aj) O) aw$ M3 3 O (My zb0 O) aw$ qT 4 O (λ_ h=>M1 YT O O (h.LY aj) O) aw$ Pm 2 O zfD O (Zu n hn _) ?_
 rintro _ w2 ⟨m,rfl,oF,dD,rfl⟩
 refine⟨aw,?_⟩
 refine Pm 5 O zgH O (z69 oF dD oC ((hE.ext ad).ext aw)) ?_
 rintro _ w2 ⟨g,bg,rfl,jn,az,cI,af⟩
 refine⟨aw.trans af,?_⟩
 have aa:=aw.trans af
 have am:=aa.LY aj
 have aG:=ad.trans aa
 have mh:=ad.size
 have mq:=aw.size
 have ET:VW w2 bg w.heap.size g:=by
  obtain⟨vs,h1,h2,h3⟩:=cI.ex
  exact⟨vs,h1,h2,λi l hl=>by
   obtain⟨a,c,g1,g2,g3,g4⟩:=h3 i l hl
   exact⟨a,c,g1,g2,g3,λb hb=>⟨by have:=(g4 b hb).1;omega,(g4 b hb).2⟩⟩⟩
 cases pl with
 | true =>
   refine M3 6 O (NX O) (aw.trans af)$ qE$ run_seq$ qN O$ Ma z8c O$ qV (M1 U4 O O am O)$ LX$ M9 O$ qN O$ LW O$ M4 O$ LZ Tryz.func6 O ?_
   exact⟨_,rfl,g,bg,rfl,by omega,by omega,az,λe=>by(cases e),ET,aG⟩
 | false =>
   refine M3 6 O (NX O) (aw.trans af)$ qE$ run_seq$ qN O$ Ma z8c O$ qV (M1 U4 O O am O)$ LX$ An O$ py$ qN O$ LW O ?_;obtain⟨gb,go,gc,jB,Es⟩:=cI.gr.r (by omega);cases jB;refine Mn zfG O (z8C az (by omega) Es) ?_;rintro _ w3 ⟨bs,rfl,ld,ai⟩;obtain⟨k1,k2,k3⟩:=z8H az;have z02:=aG.size;refine M4 O$ LZ Tryz.func6 O (⟨_,rfl,z8l g,bs,by rw[k3];rfl,by omega,by omega,k1,λ_=>k2,?_,aG.trans ai⟩);obtain⟨vs,h1,h2,h3⟩:=ld.ex
   exact⟨vs,h1,h2,λi l hl=>by
    obtain⟨a,c,g1,g2,g3,g4⟩:=h3 i l hl
    exact⟨a,c,g1,g2,g3,λb hb=>⟨by have:=(g4 b hb).1;omega,(g4 b hb).2⟩⟩⟩
def z0g (w:World)(la:Option Addr)(ls:List (Int×Int×Int)):Prop:=∀(i:Nat) (e:Int×Int×Int),ls[i]? =some e->(-9223372036854775808<=e.1/\e.1<=9223372036854775807)/\(-9223372036854775808<=e.2.1/\e.2.1<=9223372036854775807)/\(-9223372036854775808<=e.2.2/\e.2.2<=9223372036854775807)/\∃lb lo,la=some ⟨lb,lo,none⟩/\w.cell? ⟨lb,lo+i*3+0,none⟩=some (I e.1)/\w.cell? ⟨lb,lo+i*3+1,none⟩=some (I e.2.1)/\w.cell? ⟨lb,lo+i*3+2,none⟩=some (I e.2.2)
theorem z0g.ext {w w':World}{la:Option Addr}{ls:List (Int×Int×Int)}(h:z0g w la ls)(hx:Ext w w'):z0g w' la ls:=λi e he=>by
 obtain⟨h1,h2,h3,lb,lo,h4,h5,h6,h7⟩:=h i e he
 exact⟨h1,h2,h3,lb,lo,h4,MJ hx h5,MJ hx h6,MJ hx h7⟩
theorem crtaken_ret {w : World}(hG : M7 w 0 (OZ .gamma) 260)(hU : M7 w 1 (OZ .unary) 260)(n fr fo : Int)(plain : Bool)(hn : -9223372036854775808 <= n /\ n <= 9223372036854775807)(kJ : -9223372036854775808 <= fr /\ fr <= 9223372036854775807)(yG : -9223372036854775808 <= fo /\ fo <= 9223372036854775807){ea : Option Addr}{ec : Nat}{es : List (Nat × Nat)}(oC : es.length <= 9000000000000000000)(hE : EdR w ea es){la : Option Addr}{lc : Nat}{ls : List (Int × Int × Int)}(gz : ls.length <= 9000000000000000000)(hL : z0g w la ls) : Mw Tryz.prog 4 [.agg #[I n, .slice ea es.length ec, .bool plain, I fr, I fo], .slice la ls.length lc] w λv w' => v = .bool true /\ Ext w w' := by
 refine It (e:=[(0,_),(1,_)]) Tryz.func4 O Tryz.ntmps4 O O$ qN O$ M5 O O (O2 O (cs:=[I n,.slice ea es.length ec,.bool plain,I fr,I fo]) O) ?_
 rintro _ wn ⟨bn,rfl,ll,i5,su⟩
 refine Me O$ qM O$ qV (Mv (news:=[I n,.slice ea es.length ec,.bool plain,I fr,I fo]) U24 O zgl O (su.cells (n:=5) O) O)$ Mn cf6 O (z5Y hn oC (hE.ext i5)) ?_
 rintro _ w1 ⟨g,bg,rfl,aw,iG,az,-,kH,oT⟩
 have ad:=i5.trans oT
 have yV:=oT.LY su
 have u7:=kH.gr
 refine Me O$ qM O$ LW O$ Ma zbE O$ qV (M1 U3 O O yV O)$ Ma zbp O$ qV (M1 U3 O O yV O)$ Mn cf7 O (z3S az aw iG u7 (ad.LY hG) (ad.LY hU) fr fo kJ yG) ?_
 rintro _ w5 ⟨W,XX,rfl,hW,aW,fh⟩
 have bG:=ad.trans aW
 have z15:=aW.size
 have z5:=bG.size
 refine LW O$ N5 O O$ N5 O O$ M5 O O (Oo (cs:=[_,_,_,_,_]) Wz O) ?_
 rintro _ w6 ⟨b6,rfl,mn,aJ,aS⟩
 have z6:=aJ.size
 refine Mb O (MO (news:=W.v) Wz O O O O aS (by simp)) ?_
 rintro w7 ⟨bK,aD⟩
 have fF:M7 w7 b6 [ptr W.d 0,ptr W.Q.s 0,ptr W.G.k 0,ptr W.T.k 0,I ((200-W.a:Nat):Int)] 31:=bK
 have l7:=bK.lt
 have z7:=aD.size
 have iR:=(bG.trans aJ).LS aD λb e=>by omega
 have gR:=hW.hg.lt
 have iH:=hW.hg.xk
 have i1:=gR _ iH.1
 have i2:=gR _ iH.2.1
 have i3:=gR _ iH.2.2.1
 have i4:=gR _ iH.2.2.2
 obtain⟨X,hX⟩:∃X:Nat->Prop,(λb=>(XX b/\b≠W.G.rb)\/b=b6)=X:=⟨_,rfl⟩
 have tR:OD W.G W.Q W.txt W.K X w7:=by
  rw[<-hX];exact(hW.hg.grow aJ (Y:=λb=>(XX b/\b≠W.G.rb)\/b=b6) (λj e=>e.imp id λe=>by have:=aS.lt;omega) (λj e=> .inl e)).own aD λj e=>by subst e;exact⟨.inr O,by omega,by omega,by omega,by omega⟩
 have u3:∀b,b<w1.heap.size->X b:=λb hb=>by rw[<-hX];exact .inl ⟨(fh b hb).1,(fh b hb).2.1⟩
 have nP:X b6:=by rw[<-hX];exact .inr O
 have ah:=hW.gg
 have ev:W.G.g.length=g.length:=by rw[ah]
 have ha:=hW.a
 have Bp:=hW.L
 have KA:=hW.K
 have KB:=hW.gs
 have ue:=hW.ts
 have fJ:=hW.pre
 refine Me O$ qM O$ Ma ZH O$ qV (M1 To O O fF O)$ Ma Zz O$ qV (M1 Ze O O fF O)$ Mn cf8 O (Ti tR (by omega) (by omega) fJ (by omega) (by omega)) ?_
 rintro _ w9 ⟨rr,vb,txt9,rfl,lJ,dh,h9,Ai,aO⟩
 have z9:=aO.size
 have cJ:=aO.LY fF (λe=>e nP)
 obtain⟨Q,hQ⟩:∃Q,W.Q.Nr (NU W.Q.L W.a 1 true)=Q:=⟨_,rfl⟩
 rw[hQ] at h9
 have Al:Q.L=NU W.Q.L W.a 1 true:=by rw[<-hQ];rfl
 have vE:Q.s=W.Q.s:=by rw[<-hQ];rfl
 have Am:W.a+1<=W.Q.L.length:=by omega
 have yW:Pre Q.L (W.a+1):=by rw[Al];exact X9 fJ Am
 have JQ:Q.L.length=200:=by rw[Al,NP Am];exact Bp
 have zm:=h9.run.lt
 have oM:=h9.vec.lt
 have ia:=Ti h9.g (by omega) (by omega) yW (by omega) (by omega)
 rw[vE] at ia
 refine LW O$ N5 O O$ N5 O O$ Me O$ M4 O$ Mz.qb (e:=[(1,_),(4,_),(5,_),(6,_),(7,_),(8,_),(9,_)]) ?_
 refine qN O$ Ma ZH O$ qV (M1 To O O cJ O)$ Ma Zz O$ qV (M1 Ze O O cJ O)$ Mn cf8 O (ia) ?_
 rintro _ w10 ⟨rr2,vb2,txt10,rfl,KD,KE,eI,u5,aq⟩
 have z10:=aq.size
 have gM:Ext w1 w9:=((aW.trans aJ).LS aD λb e=>by omega).LS aO λb e=>by
  rcases Nat.lt_or_ge b w1.heap.size with h| h
  ·exact absurd (u3 b h) e
  ·exact h
 have eC:Ext w1 w10:=gM.LS aq λb e=>by
  rcases Nat.lt_or_ge b w1.heap.size with h| h
  ·exact absurd (.inl (u3 b h)) e
  ·exact h
 have oe:W.a+1+1<=Q.L.length:=by omega
 have GJ:YH g (QD.new g):=YH.new az aw (by show g.length<2147483648;omega)
 rw[ah] at h9 eI
 have KF:CpP w1 g rr rr2 (QD.new g) (QD.new g) w10:=by
  have e1:Rp QU (YH g) w1 g W.G Q txt9 (W.K+50) (λb=>X b\/b=rr\/b=vb) rr vb W.a (QD.new g) w9:=⟨h9,GJ,ah,λb hb=> .inl (u3 b hb),⟨by omega,by omega,h9.ne.1⟩,fJ.a2,by rw[Al,Qw Am,if_pos ⟨by omega,by omega⟩]⟩;refine .same W.G _ txt10 (W.K+50+50) _ vb W.a vb2 (W.a+1) (e1.other (r2:=rr2) (v2:=vb2) eI.g (λj e=> .inl e) (aq.Mc λb e=> .inl e) (by omega) (by omega) (by omega) (by omega) O (NP oe) (u5 _ (.inl (by omega))) ?_) ⟨eI,GJ,ah,λb hb=> .inl (.inl (u3 b hb)),⟨by omega,by omega,eI.ne.1⟩,by have:=fJ.a2;omega,?_⟩ (by omega) ⟨by omega,by omega,by omega,by omega⟩ (by omega)
  ·show(NU Q.L (W.a+1) 1 true)[W.a]? =some true;rw[Qw oe,if_neg (by omega),Al,Qw Am,if_pos ⟨by omega,by omega⟩]
  ·show(NU Q.L (W.a+1) 1 true)[W.a+1]? =some true;rw[Qw oe,if_pos ⟨by omega,by omega⟩]
 have rU:=hL.ext ad
 have yQ:=ad.LY hG
 have Ao:=ad.LY hU
 refine LW O$ N5 O O$ N5 O O$ Me O$ M4 O$ run_seq$ qN O$ LW O$ qV ((by first|exact MX O|exact Oy O)) ?_
 rw[show(!true)=false from rfl]
 refine Md O O$ N9 O O$ MN O O$ Md O O$ N9 O O$ MN O O$ LX$ Mz.qb (e:=[(1,_),(4,_),(5,_),(8,_),(10,_),(65,_)]) ?_
 refine An O$ py$ qN O$ M4 O$ run_seq$ qN O$ M4 O$ LU$ Ot (λe' w'=>∃(s:QD) (r1:Nat),e'=[(5,.slice (some ⟨bg,0,none⟩) g.length g.length),(8,ptr r1 0),(10,ptr rr2 0),(12,.bool true)]/\s.done=true/\CpP w1 g r1 rr2 s s w'/\Ext w1 w') ?cA$ λcA=>?cS
 case cA=>
  rintro e' w11 ⟨s,r1,rfl,hd,kz,aQ⟩;refine run_seq$ qN O$ M4 O$ LU$ Oh (α:=Nat) (0) (λv=>[(5,.slice (some ⟨bg,0,none⟩) g.length g.length),(8,ptr r1 0),(10,ptr rr2 0),(12,.bool true),(24,I (v:Int))]) (λv w'=>v<=g.length/\CpP w1 g r1 rr2 s s w'/\Ext w1 w') (λv=>g.length-v) ?hI ?hround
  case hI=>exact⟨Nat.zero_le _,kz,aQ⟩
  case hround=>
   rintro v w12 ⟨hv,jP,aF⟩ ih
   try dsimp only
   refine run_seq$ qN O$ Md O O$ O9 SN O$ Ni O O$ LX$ M8 O (λhq=>?_)$ λhq=>?_
   ·have gn:v<g.length:=by omega
    refine py$ run_seq$ LU$ qN O$ Md O O$ Mn z99 O (Xr jP aF hd gn) ?_;rintro _ w13 ⟨rfl,gt,aN⟩;refine LW O$ N5 O O$ N5 O O$ Me O$ Me O$ qM O$ Md O O$ Mn z99 O (Xr gt.symm aN hd gn) ?_;rintro _ w14 ⟨rfl,mf,bJ⟩;refine LW O$ N5 O O$ N5 O O$ Me O$ Me O$ qM O$ Md O O$ N9 O O$ ML$ Md O O$ N9 O O$ MN O O$ Md O O$ N9 O O ?_;refine MN O O$ LX$ An O$ py$ LV$ M0 O$ LW O$ MT O O$ M4 O ?_;exact(ih (v+1) _ ⟨by omega,mf.symm,bJ⟩ (by omega)).qb
   ·refine M6 O$ qN O$ Md O O$ LW O$ Mn zbA O (Va jP) ?_;rintro _ w12 ⟨rfl,rfl⟩;refine LW O$ Mn zbA O (Va jP.symm) ?_;rintro _ w12 ⟨rfl,rfl⟩;refine O3 O O$ O4$ NC O O$ LW O$ Mn zg3 O (z0r (aF.LY yQ) (aF.LY Ao)) ?_;rintro _ w13 ⟨rfl,aN⟩;refine NC O O$ M4 O$ LZ Tryz.func4 O ?_;exact⟨_,rfl,rfl,(ad.trans aF).trans aN⟩
 case cS =>
  refine Oh (α:=QD×Nat×Nat) ((QD.new g,rr,0)) (λp=>[(1,.slice la ls.length lc),(5,.slice (some ⟨bg,0,none⟩) g.length g.length),(8,ptr p.2.1 0),(10,ptr rr2 0),(12,.bool p.1.done),(13,I (p.2.2:Int))]) (λp w'=>CpP w1 g p.2.1 rr2 p.1 p.1 w'/\Ext w1 w'/\p.2.2<=12/\p.2.2<=ls.length) (λp=>12-p.2.2) ?hI ?hround
  case hI=>exact⟨KF,eC,Nat.zero_le _,Nat.zero_le _⟩
  case hround =>
   rintro⟨s,r1,i⟩ w11 ⟨kz,aQ,EU,cy⟩ ih;dsimp only at kz EU cy ih⊢
   try dsimp only
   by_cases hd:s.done=true
   ·rw[hd];refine run_seq$ qN O$ LW O$ qV ((by first|exact MX O|exact Oy O)) ?_;refine LW O$ qS$ qS$ MN O O$ LX$ An O$ M6 O ?_;exact(cA _ _ ⟨s,r1,rfl,hd,kz,aQ⟩).qb
   ·have Ap : s.done = false := by cases e : s.done with
     |false=>rfl
     |true=>exact absurd e hd
    rw[Ap];refine run_seq$ qN O$ LW O$ qV ((by first|exact MX O|exact Oy O)) ?_;refine Md O O$ Ni O O$ O4$ NC O O$ LX$ M9 O$ py$ run_seq$ LU$ qN O$ LW O$ O9 SN O$ qV (SB O O (by omega))$ MT O O ?_;refine M4 O$ run_seq$ MM (λe' w'=>∃(q:Nat) (dq:Bool),e'=[(1,.slice la ls.length lc),(5,.slice (some ⟨bg,0,none⟩) g.length g.length),(8,ptr r1 0),(10,ptr rr2 0),(12,.bool dq),(13,I (i:Int)),(14,I (q:Int))]/\dq=s.done/\q<=100/\(q=2*g.length+2\/(i<ls.length/\i<12))/\w'=w11) ?dO$ λdO=>?eS
    case dO =>
     rintro e' w12 ⟨q,dq,rfl,rfl,hq,KG,rfl⟩;refine run_seq$ qN O$ M4 O$ LU$ Ot (λe' w'=>∃s':QD,e'=[(1,.slice la ls.length lc),(5,.slice (some ⟨bg,0,none⟩) g.length g.length),(8,ptr r1 0),(10,ptr rr2 0),(12,.bool s'.done),(13,I (i:Int))]/\CpP w1 g r1 rr2 s' s' w'/\Ext w1 w'/\(s'.done=true\/(i<ls.length/\i<12))) ?ax$ λax=>?dx
     case ax =>
      rintro e' w13 ⟨s',rfl,gt,aN,qe⟩;by_cases h1:ls.length<=i
      ·have tU:s'.done=true:=qe.resolve_right (λh=>by omega);rw[tU];refine run_seq$ qN O$ Md O O$ O9 U53 O$ PD O O$ O4$ LW O$ qS$ qS$ NC O O$ LX$ M9 O$ M6 O ?_;exact(cA _ _ ⟨s',r1,rfl,tU,gt,aN⟩).qb
      ·by_cases h2:12<=i
       ·have tU:s'.done=true:=qe.resolve_right (λh=>by omega);rw[tU];refine run_seq$ qN O$ Md O O$ O9 U53 O$ PD O O$ ML$ Md O O$ PD O O$ O4$ MN O O$ LX$ M9 O$ M6 O ?_;exact(cA _ _ ⟨s',r1,rfl,tU,gt,aN⟩).qb
       ·refine run_seq$ qN O$ Md O O$ O9 U53 O$ PD O O$ ML$ Md O O$ PD O O$ ML$ MN O O$ LX$ An O$ py$ qN O ?_;refine LW O ?_;obtain⟨e,he⟩:∃e,ls[i]? =some e:=⟨_,List.getElem?_eq_getElem (by omega)⟩;obtain⟨-,b2,b3,lb,lo,rfl,-,dP,dU⟩:=rU i e he;refine Mn zgK O (z1j gt aN) ?_;rintro _ w14 ⟨rfl,mf,bJ⟩;have l1:=(bJ.LY yQ).lt;have l2:=(bJ.LY Ao).lt;refine LW O$ N5 O O$ N5 O O$ Me O$ M4 O$ run_seq$ MM (λe' w'=>∃(V:Wd) (XV:Nat->Prop) (b26:Nat),e'=[(1,.slice (some ⟨lb,lo,none⟩) ls.length lc),(5,.slice (some ⟨bg,0,none⟩) g.length g.length),(8,ptr r1 0),(10,ptr rr2 0),(12,.bool s'.done),(13,I (i:Int)),(20,S (crT s')),(21,I 0),(22,ptr b26 0),(23,.bool true)]/\Ext w14 w'/\OD V.G V.Q V.txt V.K XV w'/\(∀j,j<w14.heap.size->XV j)/\(w14.heap.size<=V.G.k/\w14.heap.size<=V.G.x)/\V.G.g=g/\Pre V.Q.L V.a/\V.a<=146/\V.Q.L.length=200/\V.K<=400/\V.G.st+V.G.len<=V.T.st/\V.T.st+V.T.len<=V.a/\M7 w' b26 [ptr V.d 0,ptr V.Q.s 0,ptr V.G.k 0,ptr V.T.k 0,I ((200-V.a:Nat):Int)] 31/\w14.heap.size<=b26) ?jO$ λjO=>?jQ
        case jO=>
         rintro e' w15 ⟨V,XV,b26,rfl,u9,gu,my,yX,GK,GL,LN,LO,LP,LQ,LR,bZ,qr⟩;have dN:=ZW mf bJ u9 gu my yX;refine run_seq$ qN O$ LW O$ N9 O O$ Md O O$ qV ((by first|exact MX O|exact Oy O)) ?_;refine MN O O$ Md O O$ Mn zfz O (dN) ?_;rintro _ w16 ⟨rfl,aZ,XV',yY,EV,EW,KH⟩;have eG:=EW.LY bZ (λe=>by omega);refine N9 O O ?_;have KJ:V.G.g.length=g.length:=by rw[GK]
         have KK:=bJ.size;have EX:=aZ.size;refine MN O O$ LX$ An O$ py$ qN O$ Ma ZH O$ qV (M1 To O O eG O)$ Ma Zz O$ qV (M1 Ze O O eG O)$ Mn cf8 O (Ti yY (by omega) (by omega) GL (by omega) (by omega)) ?_;rintro _ w17 ⟨r1',vb',txt17,rfl,cW,eT,KL,KM,bX⟩;obtain⟨hI,-⟩:=mf.inv;have kA:∀b,b<w1.heap.size->XV' b:=λb hb=>EV b (my b (by omega))
         have fm:Ext w1 w17:=aZ.LS bX λb e=>by
          rcases Nat.lt_or_ge b w1.heap.size with h| h
          ·exact absurd (kA b h) e
          ·exact h
         have i8:=z2b KH yY GK bX ⟨cW,eT⟩ kA EX KL GL.a2 (by show(NU V.Q.L V.a 1 true)[V.a]? =some true;rw[Qw (by omega),if_pos ⟨by omega,by omega⟩]) fm (by omega) hI (Nat.le_refl _);refine LW O$ N5 O O$ N5 O O$ Me O$ Me O$ qM O$ LW O$ N9 O O$ Md O O$ LW O$ Mn zfY O (i8) ?_;rintro _ w18 ⟨rfl,EY,EZ⟩;refine N9 O O$ MN O O$ LX$ An O$ py$ LV$ M0 O$ LW O$ MT O O$ M4 O ?_;exact(ih (s',r1',i+1) _ ⟨EY,EZ,by show i+1<=12;omega,by show i+1<=ls.length;omega⟩ (by show 12-(i+1)<12-i;omega)).qb
        case jQ=>
         have ah:=Ext.Mm w14;have bc:=ah.size;refine Mo [16] (λw'=>Ext w14 w') (by kernel_rfl) O$ qL [11,12,13,14,16,17] 0 O (λ_ h=>MH O) ah$ qL [3,4,5,11,12,13,14,16,17] 1 O (λ_ h=>MH O) ah$ qL [3,4,5,11,12,13,14,16,17] 2 O (λ_ h=>MH O) ah$ qL [4,5,11,12,13,14,16,17] 3 O (λ_ h=>MS U53 zbD O O (by omega)) ah$ qL [5,11,12,13,14,16,17] 4 O (λ_ h=>My zbj O) ah$ qL [8,9,10,11,12,13,14,16,17] 6 O (λ_ h=>MH O) ah$ qL [8,9,10,11,12,13,14,16,17] 7 O (λ_ h=>MH O) ah$ qL [9,10,11,12,13,14,16,17] 8 O (λ_ h=>MS U53 zbD O O (by omega)) ah$ qL [10,11,12,13,14,16,17] 9 O (λ_ h=>My zb9 O) ah$ qL [11,12,13,14,16,17] 5 O (λ_ h=>MA U3 O O (MJ h (MJ bJ dP))) ah$ qL [11,12,13,14,16,17] 10 O (λ_ h=>MA U3 O O (MJ h (MJ bJ dU))) ah$ T5 (i:=11) (j:=15) (by kernel_rfl) ?_ ?_
         ·refine Og (i:=11) O O O (yc cf7 O) (Xs az aw iG ((u7.ext bJ).ext ah) (ah.LY (bJ.LY yQ)) (ah.LY (bJ.LY Ao)) e.2.1 e.2.2 b2 b3) ?_;rintro _ wl ⟨V,XV,rfl,hV,dz,my,KN,KO⟩;refine⟨ah.trans dz,?_⟩;have gu:=hV.hg;have yX:w14.heap.size<=V.G.k/\w14.heap.size<=V.G.x:=⟨by omega,by omega⟩;have ub:∀b,b<w14.heap.size->XV b/\b≠V.G.rb:=λb hb=>⟨(my b (by omega)).1,(my b (by omega)).2.1⟩
          try have yZ:OD V.G V.Q V.txt V.K (λb=>(XV b/\b≠V.G.rb)\/b=b26) wl:=gu.less (λj e=>e.elim id λe=>by subst e;exact⟨(my _ bZ.lt).1,(my _ bZ.lt).2.1⟩) ⟨.inl gu.xk.1,.inl gu.xk.2.1,.inl gu.xk.2.2.1,.inl gu.xk.2.2.2⟩
          try have gx:b26≠V.G.k/\b26≠V.G.x:=⟨by have:=bZ.lt;omega,by have:=bZ.lt;omega⟩
          have ah:=ah.trans dz;have bc:=Nat.le_trans bc dz.size
          try have bZ:=dz.LY bZ
          refine qL [13,14,16,17] 12 O (λ_ h=>MH O) ah$ qL [16,17] 13 O (λ_ h=>O6 O O) ah$ MY (i:=14) O (by kernel_rfl) O O (λ_=>O6 O O) ah$ NL (i:=15) (by kernel_rfl)$ N8 (i:=15) O O O (Oo (cs:=[_,_,_,_,_]) Wz O) ?_;rintro _ wa ⟨b26,rfl,F0,qs,bZ⟩;refine⟨ah.trans qs,?_⟩;have qr:w14.heap.size<=b26:=by omega
          try have yZ:OD V.G V.Q V.txt V.K (λb=>(XV b/\b≠V.G.rb)\/b=b26) wa:=gu.grow qs (λj e=>e.imp id λe=>by have:=bZ.lt;omega) (λj e=> .inl e)
          try have gx:b26≠V.G.k/\b26≠V.G.x:=⟨by have:=gu.lt _ gu.xk.1;omega,by have:=gu.lt _ gu.xk.2.1;omega⟩
          have ah:=ah.trans qs;have bc:=Nat.le_trans bc qs.size;refine PH [16]$ qO 16$ MI (i:=16) O O (MO (news:=V.v) Wz O O O O bZ (by simp)) ?_;rintro ws ⟨hC,eV⟩;refine⟨trivial,?_⟩;refine M3 17 O (NX O) trivial$ qE ?_;have ud:=yZ.own eV (λj e=>by subst e;exact⟨.inr O,gx.1,gx.2,by omega,by omega⟩);exact(jO _ _ ⟨V,_,b26,rfl,ah.LS eV (λj e=>by omega),ud,λj hj=> .inl (ub j hj),yX,hV.gg,hV.pre,hV.a,hV.L,hV.K,hV.gs,hV.ts,hC,qr⟩).qb
         ·refine N8 (i:=15) O O O (Oo (cs:=[_,_,_,_,_]) Wz O) ?_;rintro _ wa ⟨b26,rfl,F0,qs,bZ⟩;refine⟨ah.trans qs,?_⟩;have qr:w14.heap.size<=b26:=by omega
          try have yZ:OD V.G V.Q V.txt V.K (λb=>(XV b/\b≠V.G.rb)\/b=b26) wa:=gu.grow qs (λj e=>e.imp id λe=>by have:=bZ.lt;omega) (λj e=> .inl e)
          try have gx:b26≠V.G.k/\b26≠V.G.x:=⟨by have:=gu.lt _ gu.xk.1;omega,by have:=gu.lt _ gu.xk.2.1;omega⟩
          have ah:=ah.trans qs;have bc:=Nat.le_trans bc qs.size;refine NL (i:=11) (by kernel_rfl)$ Og (i:=11) O O O (yc cf7 O) (Xs az aw iG ((u7.ext bJ).ext ah) (ah.LY (bJ.LY yQ)) (ah.LY (bJ.LY Ao)) e.2.1 e.2.2 b2 b3) ?_;rintro _ wl ⟨V,XV,rfl,hV,dz,my,KN,KO⟩;refine⟨ah.trans dz,?_⟩;have gu:=hV.hg;have yX:w14.heap.size<=V.G.k/\w14.heap.size<=V.G.x:=⟨by omega,by omega⟩;have ub:∀b,b<w14.heap.size->XV b/\b≠V.G.rb:=λb hb=>⟨(my b (by omega)).1,(my b (by omega)).2.1⟩
          try have yZ:OD V.G V.Q V.txt V.K (λb=>(XV b/\b≠V.G.rb)\/b=b26) wl:=gu.less (λj e=>e.elim id λe=>by subst e;exact⟨(my _ bZ.lt).1,(my _ bZ.lt).2.1⟩) ⟨.inl gu.xk.1,.inl gu.xk.2.1,.inl gu.xk.2.2.1,.inl gu.xk.2.2.2⟩
          try have gx:b26≠V.G.k/\b26≠V.G.x:=⟨by have:=bZ.lt;omega,by have:=bZ.lt;omega⟩
          have ah:=ah.trans dz;have bc:=Nat.le_trans bc dz.size
          try have bZ:=dz.LY bZ
          refine qL [13,14,16,17] 12 O (λ_ h=>MH O) ah$ qL [16,17] 13 O (λ_ h=>O6 O O) ah$ MY (i:=14) O (by kernel_rfl) O O (λ_=>O6 O O) ah$ PH [16]$ qO 16$ MI (i:=16) O O (MO (news:=V.v) Wz O O O O bZ (by simp)) ?_;rintro ws ⟨hC,eV⟩;refine⟨trivial,?_⟩;refine M3 17 O (NX O) trivial$ qE ?_;have ud:=yZ.own eV (λj e=>by subst e;exact⟨.inr O,gx.1,gx.2,by omega,by omega⟩);exact(jO _ _ ⟨V,_,b26,rfl,ah.LS eV (λj e=>by omega),ud,λj hj=> .inl (ub j hj),yX,hV.gg,hV.pre,hV.a,hV.L,hV.K,hV.gs,hV.ts,hC,qr⟩).qb
     case dx =>
      refine Oh (α:=QD×Nat) ((s,0)) (λp=>[(1,.slice la ls.length lc),(5,.slice (some ⟨bg,0,none⟩) g.length g.length),(8,ptr r1 0),(10,ptr rr2 0),(12,.bool p.1.done),(13,I (i:Int)),(14,I (q:Int)),(15,I (p.2:Int))]) (λp w'=>CpP w1 g r1 rr2 p.1 p.1 w'/\Ext w1 w'/\p.2<=p.1.t/\p.2<=q) (λp=>q-p.2) ?hI ?hround
      case hI=>exact⟨kz,aQ,Nat.zero_le _,Nat.zero_le _⟩
      case hround=>
       rintro⟨s2,k⟩ w13 ⟨gt,aN,KP,DV⟩ ih2;dsimp only at gt KP DV ih2⊢;obtain⟨cF,-⟩:=gt.inv
       try dsimp only
       by_cases hk:k<q
       ·refine run_seq$ qN O$ Md O O$ Ni O O$ O4$ LW O ?_;by_cases iQ:s2.done=true
        ·rw[iQ];refine LW O$ qV ((by first|exact MX O|exact Oy O)) ?_;refine NC O O$ LX$ An O$ M6 O ?_;exact(ax _ _ ⟨s2,by rw[iQ],gt,aN,.inl iQ⟩).qb
        ·have qt:s2.done=false:=by cases e:s2.done with
          |false=>rfl
          |true=>exact absurd e iQ
         rw[qt];refine LW O$ qV ((by first|exact MX O|exact Oy O)) ?_;have KQ:=cF.zd1 qt;refine NC O O$ LX$ M9 O$ py$ run_seq$ LU$ qN O$ LW O$ Mn cf9 O (Wb gt aN qt (by omega)) ?_;rintro _ w14 ⟨rfl,mf,bJ⟩;refine LW O$ N5 O O$ N5 O O$ Me O$ Me O$ qM O$ LW O$ Mn cf9 O (Wb mf.symm bJ qt (by show s2.t+1<=200;omega)) ?_;rintro _ w15 ⟨rfl,F9,u9⟩;refine LW O$ N5 O O$ N5 O O$ Me O$ M4 O$ run_seq$ qN O$ LW O$ N9 O O$ Md O O$ N9 O O$ MN O O$ Md O O$ LW O ?_;refine qV (z6X O O U4) ?_;rw[show(!((s2.step g).done==(s2.step g).done))=false by simp];refine MN O O$ LX$ An O$ py$ M0 O$ LW O$ M4 O$ LV$ M0 O$ LW O$ MT O O$ M4 O ?_;exact(ih2 (s2.step g,k+1) _ ⟨F9.symm,u9,by show k+1<=s2.t+1;omega,by show k+1<=q;omega⟩ (by show q-(k+1)<q-k;omega)).qb
       ·refine run_seq$ qN O$ Md O O$ Ni O O$ ML$ LW O$ qS$ qS$ MN O O$ LX$ An O$ M6 O ((ax _ _ ⟨s2,rfl,gt,aN,?_⟩).qb)
        cases e:s2.done with
        |true=>exact .inl O
        | false =>
          have:=cF.zd1 e;rcases KG with e2|e2
          ·omega
          ·exact .inr e2
    case eS=>
     by_cases h1:i<ls.length
     ·refine qN O$ Md O O$ O9 U53 O$ Ni O O$ O4$ LW O ?_;by_cases h2:i<12
      ·refine LW O$ Ni O O$ O4$ NC O O ?_;obtain⟨e,he⟩:∃e,ls[i]? =some e:=⟨_,List.getElem?_eq_getElem h1⟩;obtain⟨b1,b2,b3,lb,lo,rfl,qw,dP,dU⟩:=(rU.ext aQ) i e he;refine LX$ M9 O$ M0 O$ Md O O$ qV (MS U53 zbD O O (by omega))$ Ma zbf O$ qV (MA U3 O O qw) ?_;have q1:=R7 e.1 4 (by decide);have q2:=Tn e.1 4 (by decide);refine qV (yrt O O (by decide))$ MT O O$ qV (yrt O O (by decide)) ?_;rw[show(e.1.tmod 4+4).tmod 4=nrm e.1 4 from rfl];obtain⟨q,hq,cz⟩:∃q:Nat,nrm e.1 4=(q:Int)/\q<4:=⟨(nrm e.1 4).toNat,by omega,by omega⟩;rw[hq];refine M4 O ?_;exact(dO _ _ ⟨q,false,rfl,Ap.symm,by omega,.inr ⟨h1,h2⟩,rfl⟩).qb
      ·refine LW O$ Ni O O$ ML$ NC O O$ LX$ An O$ py ?_;rw[show(2:Int)*(g.length:Int)+2=((2*g.length+2:Nat):Int) by omega];exact(dO _ _ ⟨2*g.length+2,false,rfl,Ap.symm,by omega,.inl O,rfl⟩).qb
     ·refine qN O$ Md O O$ O9 U53 O$ Ni O O$ ML$ LW O$ qS$ qS$ MN O O$ LX$ An O$ py ?_;rw[show(2:Int)*(g.length:Int)+2=((2*g.length+2:Nat):Int) by omega];exact(dO _ _ ⟨2*g.length+2,false,rfl,Ap.symm,by omega,.inl O,rfl⟩).qb
end Go.Proofs.YtfgjaafcgghnoaaGreatDoor
namespace Go.Proofs.YtfgjaafcgghnoaaGreatDoor
open Go Go.ChangeShapes Go.WideShapes Go.ChangeAt Go.RowKit
def VQ (P:Program)(ts:List TypeId):Bool:=ts.all λt=>P.readableRec t&&decide (t<P.types.size)
theorem TY {H:Type}{enc:TypeId×Value->H}{P:Program}(hl:laidOutB P=true){W W':World}(hb:Below W.heap.size W W'):
  ∀ {ts : List TypeId} {vs : List Value} {ds : List (DataW H)} {ps : List MemPlace}, VQ P ts = true -> DataW.TrodAll enc P W 0 (λ_ => true) true ts vs ds ps ->
    DataW.TrodAll enc P W' 0 (λb=>decide (b<W.heap.size)) true ts vs ds ps
 |[],[],[],_,_,h=>h
 | t :: ts, v :: vs, d :: ds, _, hr, h => by
   obtain⟨p,q,h1,h2,rfl⟩:=h;simp only[VQ,List.all_cons,Bool.and_eq_true,decide_eq_true_eq] at hr
   exact⟨p,q,Below.trod hl hr.1.1 hr.1.2 h1 hb (by obtain⟨m,hm⟩:=h1;exact DataW.trod_lt m _ _ _ hm),TY hl hb hr.2 h2,rfl⟩
 |[],[],_::_,_,_,h=>h.elim
 |[],_::_,_,_,_,h=>h.elim
 |_::_,[],_,_,_,h=>h.elim
 |_::_,_::_,[],_,_,h=>h.elim
theorem Wg {H:Type}{enc:TypeId×Value->H}{P:Program}{W:World}{base:Nat}{spare:Nat->Bool}{held:Bool}:
  ∀{ts:List TypeId} {vs:List Value} {ds:List (DataW H)} {ps:List MemPlace},DataW.TrodAll enc P W base spare held ts vs ds ps->ds.length=ts.length
 |[],[],[],_,_=>rfl
 | t :: ts, v :: vs, d :: ds, _, h => by
   obtain⟨p,q,h1,h2,rfl⟩:=h
   simpa using Wg h2
 |[],[],_::_,_,h=>h.elim
 |[],_::_,_,_,h=>h.elim
 |_::_,[],_,_,h=>h.elim
 |_::_,_::_,[],_,h=>h.elim
theorem own:ownKnob Tryz.prog.godebug=none:=by kernel_rfl
theorem laidOut:laidOutB Tryz.prog=true:=by kernel_rfl
end Go.Proofs.YtfgjaafcgghnoaaGreatDoor
namespace Go.Proofs.YtfgjaafcgghnoaaGreatDoor
open Go Go.ChangeShapes Go.WideShapes Go.ChangeAt Go.RowKit Go.Deep
section
variable {H:Type}{enc:TypeId×Value->H}{W:World}{sp:Nat->Bool}
theorem z8h (n:Int)(h:(Lit.int .u32 n).wf=true):Value.int .u32 n=Mx n.toNat/\n.toNat<4294967296:=by
 simp[Lit.wf,IntKind.min,IntKind.max,IntKind.signed,IntKind.bits] at h
 exact⟨by unfold Mx;congr;omega,by omega⟩
theorem i64_in (n:Int)(h:(Lit.int .i64 n).wf=true): -9223372036854775808<=n/\n<=9223372036854775807:=by
 simp[Lit.wf,IntKind.min,IntKind.max,IntKind.signed,IntKind.bits] at h;omega
theorem Z7 {w:World}{b off:Nat}{spot:Option Nat}{v:Value}(h:w.cell? ⟨b,off,spot⟩=some v):spot=none:=by
 unfold World.cell? at h
 split at h
 ·cases spot with
  |none=>rfl
  |some s=>simp at h
 ·cases h
theorem z3k {fuel:Nat}{v:Value}{x:DataW H×List MemPlace}(h:DataW.trod enc Tryz.prog W 0 sp true fuel 22 [v]=some x)(hw:∀n∈x.1.weights Tryz.prog 22,n<=reachBytes):∃(ea:Option Addr) (ec:Nat) (es:List (Nat×Nat)),v= .slice ea es.length ec/\EdR W ea es/\es.length<=9000000000000000000:=by
 rcases open_slice_pairs YT zgg (by kernel_rfl) O O (by kernel_rfl) (by kernel_rfl) h with⟨hv,hx⟩|⟨a,len,cap,m,n,V0,V1,D0,D1,P0,P1,hv,-,hl,hm,zS,hx,og⟩
 ·cases hv;exact⟨none,0,[],rfl,λi e he=>by simp at he,by simp⟩
 ·cases hv;have eH:maxLen=9223372036854775807:=rfl;have gH:len<=m:=by rw[zS];split<;>omega
  have hk:∀i,i<len->∃e:Nat×Nat,e.1<4294967296/\e.2<4294967296/\W.cell? (a.add (i*2))=some (Mx e.1)/\W.cell? (a.add (i*2+1))=some (Mx e.2):=λi hi=>by
   obtain⟨c0,c1,h0,h1⟩:=og i (by omega);obtain⟨n0,e0,-,f0⟩:=DataW.trod_int Np h0;obtain⟨n1,e1,-,f1⟩:=DataW.trod_int Np h1;have e0:V0 i= .int .u32 n0:=by simpa using e0
   have e1:V1 i= .int .u32 n1:=by simpa using e1
   obtain⟨q0,b0⟩:=z8h n0 f0;obtain⟨q1,b1⟩:=z8h n1 f1;exact⟨(n0.toNat,n1.toNat),b0,b1,by rw[c0,e0,q0],by rw[c1,e1,q1]⟩
  obtain⟨E,hE⟩:∃E:Nat->Nat×Nat,∀i,i<len->(E i).1<4294967296/\(E i).2<4294967296/\W.cell? (a.add (i*2))=some (Mx (E i).1)/\W.cell? (a.add (i*2+1))=some (Mx (E i).2):=
   choose_lt (α:=Nat×Nat) (n:=len) (p:=λi e=>e.1<4294967296/\e.2<4294967296/\W.cell? (a.add (i*2))=some (Mx e.1)/\W.cell? (a.add (i*2+1))=some (Mx e.2)) hk
  refine⟨some a,cap,(List.range len).map E,by simp,λi e he=>?_,?_⟩
  ·rw[List.getElem?_map] at he;rcases Nat.lt_or_ge i len with hi|hi
   ·rw[List.getElem?_range hi] at he;obtain rfl:=NF he;obtain⟨g1,g2,g3,g4⟩:=hE i hi;obtain⟨b,off,spot⟩:=a;have h3:=(hE 0 (by omega)).2.2.1;rw[Nat.zero_mul] at h3;simp only[Addr.add,if_true] at h3;obtain rfl:=Z7 h3;rw[NS] at g3 g4;exact⟨g1,g2,b,off,rfl,g3,by rw[Nat.add_assoc];exact g4⟩
   ·rw[List.getElem?_eq_none (by simpa using hi)] at he;cases he
  ·have oJ:=hw ((len+(m-len))*8) (by rw[hx];simp[DataW.weights,YT,show Tryz.prog.bytesOf 113=8 by kernel_rfl]);simp[reachBytes] at oJ;simp;omega
end
section
variable {H:Type}{enc:TypeId×Value->H}{W:World}{sp:Nat->Bool}
theorem open_net {fuel:Nat}{cs:List Value}{x:DataW H×List MemPlace}(h:DataW.trod enc Tryz.prog W 0 sp true fuel 24 cs=some x)(hw:∀n∈x.1.weights Tryz.prog 24,n<=reachBytes):∃(n fr fo:Int) (pl:Bool) (ea:Option Addr) (ec:Nat) (es:List (Nat×Nat)),cs=[I n,.slice ea es.length ec,.bool pl,I fr,I fo]/\(-9223372036854775808<=n/\n<=9223372036854775807)/\(-9223372036854775808<=fr/\fr<=9223372036854775807)/\(-9223372036854775808<=fo/\fo<=9223372036854775807)/\EdR W ea es/\es.length<=9000000000000000000:=by
 obtain⟨xs,n,-,hx,hl,hlen,hf⟩:=DataW.trod_struct Tryz.underlying24 h
 rw[show Tryz.prog.cellsOf 24=5 by kernel_rfl] at hl
 match xs,hlen with
 |[y0,y1,y2,y3,y4],_=>
 match cs,hl with
 | [c0, c1, c2, c3, c4], _ =>
   have t0:=hf 0 _ O;have t1:=hf 1 _ O;have t2:=hf 2 _ O;have t3:=hf 3 _ O;have t4:=hf 4 _ O;simp only[show Tryz.prog.cellsOf 22=1 by kernel_rfl,show Tryz.prog.cellsOf 3=1 by kernel_rfl,show Tryz.prog.cellsOf 4=1 by kernel_rfl,List.drop,List.take,List.getElem?_cons_zero,List.getElem?_cons_succ] at t0 t1 t2 t3 t4;obtain⟨n0,e0,-,w0⟩:=DataW.trod_int Tryz.underlying3 t0;obtain⟨b2,e2,-,-⟩:=DataW.trod_bool Tryz.underlying4 t2;obtain⟨n3,e3,-,w3⟩:=DataW.trod_int Tryz.underlying3 t3;obtain⟨n4,e4,-,w4⟩:=DataW.trod_int Tryz.underlying3 t4;cases e0;cases e2;cases e3;cases e4
   obtain⟨ea,ec,es,e1,hE,hes⟩:=z3k t1 (λn hn=>hw n (by
    rw[hx];simp only[DataW.weights,Tryz.underlying24,DataW.weightsEach,List.map,List.mem_append]
    exact .inr (.inl hn)))
   subst e1;exact⟨n0,n3,n4,b2,ea,ec,es,rfl,i64_in _ w0,i64_in _ w3,i64_in _ w4,hE,hes⟩
theorem z4S {fuel:Nat}{cs:List Value}{x:DataW H×List MemPlace}(h:DataW.trod enc Tryz.prog W 0 sp true fuel 55 cs=some x):∃e:Int×Int×Int,cs=[I e.1,I e.2.1,I e.2.2]/\(-9223372036854775808<=e.1/\e.1<=9223372036854775807)/\(-9223372036854775808<=e.2.1/\e.2.1<=9223372036854775807)/\(-9223372036854775808<=e.2.2/\e.2.2<=9223372036854775807):=by
 obtain⟨xs,n,-,hx,hl,hlen,hf⟩:=DataW.trod_struct Tryz.underlying55 h
 rw[show Tryz.prog.cellsOf 55=3 by kernel_rfl] at hl
 match xs,hlen with
 |[y0,y1,y2],_=>
 match cs,hl with
 | [c0, c1, c2], _ =>
   have hc:Tryz.prog.cellsOf 3=1:=by kernel_rfl
   have t0:=hf 0 _ O;have t1:=hf 1 _ O;have t2:=hf 2 _ O;obtain⟨n0,e0,-,w0⟩:=DataW.trod_int Tryz.underlying3 t0;obtain⟨n1,e1,-,w1⟩:=DataW.trod_int Tryz.underlying3 t1;obtain⟨n2,e2,-,w2⟩:=DataW.trod_int Tryz.underlying3 t2;obtain rfl:c0=I n0:=by simpa[hc] using e0
   obtain rfl:c1=I n1:=by simpa[hc] using e1
   obtain rfl:c2=I n2:=by simpa[hc] using e2
   exact⟨(n0,n1,n2),rfl,i64_in _ w0,i64_in _ w1,i64_in _ w2⟩
theorem open_stops {fuel:Nat}{v:Value}{x:DataW H×List MemPlace}(h:DataW.trod enc Tryz.prog W 0 sp true fuel 53 [v]=some x)(hw:∀n∈x.1.weights Tryz.prog 53,n<=reachBytes):∃(la:Option Addr) (lc:Nat) (ls:List (Int×Int×Int)),v= .slice la ls.length lc/\z0g W la ls/\ls.length<=9000000000000000000:=by
 rcases open_slice Tryz.underlying53 h with⟨hv,hx⟩|⟨a,len,cap,m,n,D,Pl,hv,-,hl,hm,hmm,hx,hel⟩
 ·cases hv;exact⟨none,0,[],rfl,λi e he=>by simp at he,by simp⟩
 ·cases hv;rw[show Tryz.prog.cellsOf 55=3 by kernel_rfl] at hel;have hlm:len<=m:=by rw[hmm];split<;>omega
  have hk:∀i,i<len->∃e:Int×Int×Int,(-9223372036854775808<=e.1/\e.1<=9223372036854775807)/\(-9223372036854775808<=e.2.1/\e.2.1<=9223372036854775807)/\(-9223372036854775808<=e.2.2/\e.2.2<=9223372036854775807)/\W.cells? 0 (a.add (i*3)) 3=some [I e.1,I e.2.1,I e.2.2]:=λi hi=>by
   obtain⟨cs',c1,c2⟩:=hel i (by omega);obtain⟨e,rfl,b1,b2,b3⟩:=z4S c2;exact⟨e,b1,b2,b3,c1⟩
  obtain⟨E,hE⟩:=choose_lt (α:=Int×Int×Int) (n:=len) (p:=λi e=>(-9223372036854775808<=e.1/\e.1<=9223372036854775807)/\(-9223372036854775808<=e.2.1/\e.2.1<=9223372036854775807)/\(-9223372036854775808<=e.2.2/\e.2.2<=9223372036854775807)/\W.cells? 0 (a.add (i*3)) 3=some [I e.1,I e.2.1,I e.2.2]) hk;refine⟨some a,cap,(List.range len).map E,by simp,λi e he=>?_,?_⟩
  ·rw[List.getElem?_map] at he;rcases Nat.lt_or_ge i len with hi|hi
   ·rw[List.getElem?_range hi] at he;obtain rfl:=Option.some.inj he;obtain⟨g1,g2,g3,g4⟩:=hE i hi;obtain⟨b,off,spot⟩:=a;have h0:=(hE 0 (by omega)).2.2.2;obtain⟨-,-,h3⟩:=World.cells?_some h0;have h3:=h3 0 (by decide);rw[Nat.zero_mul] at h3;simp only[Addr.add,if_true] at h3;obtain rfl:=Z7 h3;obtain⟨-,-,h4⟩:=World.cells?_some g4;have k0:=h4 0 (by decide);have k1:=h4 1 (by decide);have k2:=h4 2 (by decide);rw[NS,NS] at k0 k1 k2;exact⟨g1,g2,g3,b,off,rfl,k0,k1,k2⟩
   ·rw[List.getElem?_eq_none (by simpa using hi)] at he;cases he
  ·have hwt:=hw ((len+(m-len))*24) (by rw[hx];simp[DataW.weights,Tryz.underlying53,show Tryz.prog.bytesOf 55=24 by kernel_rfl]);simp[reachBytes] at hwt;simp;omega
end
end Go.Proofs.YtfgjaafcgghnoaaGreatDoor
namespace Go.Proofs.YtfgjaafcgghnoaaGreatDoor
open Go Go.ChangeShapes Go.WideShapes Go.ChangeAt Go.RowKit
theorem law_lifted_tied {H:Type}{enc:TypeId×Value->H}{C:Checked}{os:Os}{f:FuncId}{fn:Func}{s:ChangeSpec}{t:TypeId}{ts:List TypeId}{laid:List (String×DataW Unit)}
  (own:ownKnob C.prog.godebug=none) (started:os.Started) (hl:laidOutB C.prog=true) (noInit:C.prog.inits.idxOf? f=none) (hfn:C.prog.funcs[f]? =some fn)
  (hts:fn.params.toList=ts) (hrd:VQ C.prog ts=true) (hrt:fn.resultTypes=#[t]) (hb:C.prog.underlying t=some .bool) (hsv:s.vars=[])
  (hpl:(laid.all λx=>x.2.handleName?.isNone)=true)
  (hspec:∀ds:List (DataW H),ds.length=ts.length->s.fn H ds={results:=[.lit (.bool true)],args:=ds})
  (witness:∃(w:World) (tape:Tape) (i:Input),w.os=os/\(w.forCall tape i).Shaped C.prog/\i.vars=[]/\Input.okWide C.prog (w.forCall tape i) .any w.heap.size f i/\
   ((s.pre enc C.prog fn [] false (w.forCall tape i).memory i.args/\laidMetH C.prog laid (w.forCall tape i).memory)/\sizedMet enc C.prog fn (OpenSpec.ofChange s) false (w.forCall tape i).memory i.args)/\({}:Assume).holds C.prog (lone (Frame.enter C.prog f i.args .normal) [] (w.forCall tape i)))
  (hret:∀(W:World) (base:Nat) (args:List Value) (ds:List (DataW H)) (ps:List MemPlace),W.ShapedOpen C.prog->laidMet C.prog laid W->
   (∀(j:Nat) t v,ts[j]? =some t->args[j]? =some v->Value.okWide C.prog W .any base t v)->
   DataW.TrodAll enc C.prog W 0 (λ_=>true) true ts args ds ps->W.noneFrozen ps->
   (DataW.weightsEach C.prog ts ds).all (·<=reachBytes)=true->
   Mw C.prog f args W λv w'=>v= .bool true/\Ext W w'):
  ReturnsInHanded {} C os f .any (λw args=>(s.pre enc C.prog fn [] false w args/\laidMetH C.prog laid w)/\sizedMet enc C.prog fn (OpenSpec.ofChange s) false w args) (s.post enc C.prog fn false true false false):=by
 refine returnsInHanded_of_calls own started noInit witness ?_
 intro w tape i _ hsh _ hok hpre hholds
 obtain⟨_,_,_,fn',hfn',_,_,_,_,hval⟩:=hok
 have e:fn'=fn:=Option.some.inj (hfn'.symm.trans hfn)
 subst e
 obtain⟨⟨⟨ds,gs,before,hw,hc⟩,hx⟩,hz⟩:=hpre
 have hW:=DataW.Whole.of_heap (w':=w.forCall tape i) (by rfl) hw
 have hW':=hW
 have hsz0:(DataW.weightsEach C.prog (fn'.params.toList++s.plain.varTypes C.prog) (ds++gs)).all (·<=reachBytes)=true:=hz.weights hw
 obtain⟨p,q,hA,hV,rfl,hfz,_⟩:=hW
 rw[hsv] at hV
 obtain⟨rfl,rfl⟩:=trodVars_none hV
 rw[hts] at hA
 have hlen:=Wg hA
 have hsz:(DataW.weightsEach C.prog ts ds).all (·<=reachBytes)=true:=by
  have hv:s.plain.varTypes C.prog=[]:=by simp[ChangeSpec.plain,DataSpec.varTypes,hsv]
  rw[hts,hv,List.append_nil,List.append_nil] at hsz0;exact hsz0
 have hL:laidMet C.prog laid (w.forCall tape i):=by
  rw[MakeChecks.laidMetH_plain _ _ _ hpl] at hx;exact hx.of_heap (by rfl)
 have hr:=hret _ w.heap.size i.args.toList ds p hsh hL (λj t v h1 h2=>hval j t v (by rw[<-hts] at h1;simpa using h1) (by simpa using h2)) hA (by rw[List.append_nil] at hfz;exact hfz) hsz
 unfold Mw at hr;rw[Array.toArray_toList] at hr
 refine Calls.mono hr λx W' ⟨v,hx,hv,hext⟩=>?_
 subst hx;subst hv
 have bel:=hext.below
 refine ChangeSpec.post_blind ⟨ds,[],p++[],[],p,[],hW',?_,?_,?_,bel.frame _,λh=>by cases h⟩
 ·rw[List.append_nil,hspec ds hlen,hrt];exact trodAll_mk1 (shut_bool hb _)
 ·rw[List.append_nil,hspec ds hlen,hts];exact TY hl bel hrd hA
 ·rw[hsv,List.append_nil,hspec ds hlen]
  rfl
theorem pair_cells {P:Program}{W:World}{t fuel:Nat}{cs:Array Value}{f0 f1:Field}{ka kb:IntKind}{a b:Int}{p:List MemPlace}(hs:P.underlying t=some (.struct #[f0,f1]))(hc:P.cellsOf t=2)(o0:f0.offset=0)(o1:f1.offset=1)
  (c0:P.cellsOf f0.type=1) (c1:P.cellsOf f1.type=1) (u0:P.underlying f0.type=some (.int ka)) (u1:P.underlying f1.type=some (.int kb))
  (hd:DataW.trod (λ_=>()) P W 0 (λ_=>true) false fuel t cs.toList=some (.agg [.lit (.int ka a),.lit (.int kb b)],p)):cs.toList=[.int ka a,.int kb b]:=by
 obtain⟨y0,y1,n,hx,hl,h0,h1⟩:=trod_struct2 hs hd
 obtain⟨v0,e0,rfl,-⟩:=DataW.trod_int u0 h0
 obtain⟨v1,e1,rfl,-⟩:=DataW.trod_int u1 h1
 rw[hc] at hl
 rw[o0,c0] at e0
 rw[o1,c1] at e1
 simp at hx
 obtain⟨⟨rfl,rfl⟩,-⟩:=hx
 match hcs:cs.toList,hl with
 | [x, y], _ =>
   rw[hcs] at e0 e1;simp at e0 e1;rw[e0,e1]
theorem z4i {P:Program}{W:World}{n:String}{g T:Nat}{cs:Array Value}{l:List Value}(hW:W.ShapedOpen P)(hgs:g<P.globals.size)(hz:(((begin P (λ_ _=>0) default).world.heap[g]?).bind Obj.row?).map (·.2)=some T)(hg:P.globalNamed n=some g)(hv:W.var? P n=some cs)(hcs:cs.toList=l):M7 W g l T:=by
 cases hr:((begin P (λ_ _=>0) default).world.heap[g]?).bind Obj.row? with
 |none=>rw[hr] at hz;cases hz
 | some x =>
   obtain⟨z,t⟩:=x;rw[hr] at hz;obtain rfl:t=T:=Option.some.inj hz;obtain⟨c,hh,-,-⟩:=hW.1 g z t hgs hr;simp only[World.var?,hg,Option.bind_some,hh] at hv;have hc:c=cs:=by simpa using hv
   subst hc;refine⟨(0,0),by rw[hh,<-hcs],λi _ e=>by simp at e⟩
theorem laid_two {W:World}{laid:List (String×DataW Unit)}(hlaid:laid=[("wattle/list.gamma",.agg [.lit (.int .u8 1),.lit (.int .u64 0)]),("wattle/list.unary",.agg [.lit (.int .u8 0),.lit (.int .u64 0)])])(hW:W.ShapedOpen Tryz.prog)(h:laidMet Tryz.prog laid W):M7 W 0 [.int .u8 1,.int .u64 0] 260/\M7 W 1 [.int .u8 0,.int .u64 0] 260:=by
 subst hlaid
 obtain⟨ps,hL,-,hB⟩:=h
 obtain⟨g0,t0,cs0,fuel0,p0,q0,hg0,ht0,hv0,hd0,hL,hps⟩:=hL
 obtain⟨g1,t1,cs1,fuel1,p1,q1,hg1,ht1,hv1,hd1,hL,hqs⟩:=hL
 obtain rfl:=Option.some.inj ((show Tryz.prog.globalNamed "wattle/list.gamma"=some 0 by kernel_rfl).symm.trans hg0)
 obtain rfl:=Option.some.inj ((show Tryz.prog.globalNamed "wattle/list.unary"=some 1 by kernel_rfl).symm.trans hg1)
 obtain rfl:=Option.some.inj ((show(Tryz.prog.globals[0]?).map (·.type)=some 260 by kernel_rfl).symm.trans ht0)
 obtain rfl:=Option.some.inj ((show(Tryz.prog.globals[1]?).map (·.type)=some 260 by kernel_rfl).symm.trans ht1)
 have e0:=pair_cells Tryz.underlying260 (by kernel_rfl) O O (by kernel_rfl) (by kernel_rfl) Tryz.underlying5 Tryz.underlying41 hd0
 have e1:=pair_cells Tryz.underlying260 (by kernel_rfl) O O (by kernel_rfl) (by kernel_rfl) Tryz.underlying5 Tryz.underlying41 hd1
 have hgs:∀g:Nat,g<3->g<Tryz.prog.globals.size:=λg hg=>Nat.lt_of_lt_of_le hg (of_decide_eq_true (by kernel_rfl))
 exact⟨z4i hW (hgs 0 (by decide)) (by kernel_rfl) hg0 hv0 e0,z4i hW (hgs 1 (by decide)) (by kernel_rfl) hg1 hv1 e1⟩
noncomputable def limWorld (os:Os):World:=
 let w0:=World.holding Tryz.prog os ⟨#[],#[],[]⟩
 { w0 with heap := w0.heap.modify 0 fun
   | .cells _ t frozen=> .cells #[.int .u8 1,.int .u64 0] t frozen
   |o=>o}
end Go.Proofs.YtfgjaafcgghnoaaGreatDoor
