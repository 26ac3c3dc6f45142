/- Merged by program. -/
import Derived.Test.YtffbidffdbpcoaaGreatDoorZk5
set_option linter.all false
set_option maxRecDepth 1000000
set_option maxHeartbeats 16000000
namespace Go.Proofs.YtffbidffdbpcoaaGreatDoor
open Go Go.RowKit Go.Proofs.Tryz
def Dev.push (D:Dev)(n:Int)(s:PV):Dev:={D with cache:=D.cache++[(n,s)]}
def zcl {P:Program}{e:Env}{d:Option Nat}{ty t t':TypeId}{pos:String}{aft:Array Edge}{g:Option (Nat×Bool)}{x y:Operand}{w:World}{a b:Int}(hx:look e x=some (I a))(hy:look e y=some (I b)):Y P e ⟨d,.binOp .add t x y t',ty,pos,aft,g⟩ (I (IntKind.i64.wrap (a+b))) w w:=fun ρ hρ=>by simp[execOp,go_sem,hρ _ _ hx,hρ _ _ hy]
def Dev.zfE (D:Dev):Dev:=D.zcd D.TG D.ze6 D.mask
def Dev.write (D:Dev)(n:Int)(s:PV):Dev×Int:=
 if D.down then(D,8)
 else if D.has n=false\/s.length≠512*D.N then(D,1)
 else if D.due=1 then(((D.push n s).count).zfE,8) else((D.push n s).count,0)
def Dev.read (D:Dev)(n:Int):Dev×PV×Int:=
 if D.down then(D,[],8) else if D.has n=false then(D,[],1) else({D with reads:=IntKind.i64.wrap (D.reads+1)},D.now n,0)
def z2J (w:World)(p m:Nat)(kp ca:Value)(D':Dev)(w':World):Prop:=∃kp' ca',Tc w' p m kp' ca' D'/\Upd (fpD p m kp ca) (fpD p m kp' ca') w w'
theorem z2J.same {w w':World}{p m:Nat}{kp ca:Value}{D:Dev}(h:Tc w' p m kp ca D)(k:Ext w w'):z2J w p m kp ca D w':=⟨kp,ca,h,k.upd⟩
def zbA {w w':World}{p m:Nat}{kp ca:Value}(k:Kp (λi=>i=p\/i=m) w w'):Upd (fpD p m kp ca) (fpD p m (.slice none 0 0) (.slice none 0 0)) w w':=
 ⟨k.PU λi hi=>hi.elim .inl λh=> .inr (.inl h),λi hi=>by
  rcases hi with h|h|h| h
  ·exact .inl (.inl h)
  ·exact .inl (.inr (.inl h))
  ·cases h
  ·cases h⟩
section
variable {w:World}{p m:Nat}{kp ca:Value}{D:Dev}
def zcB (n:Int)(h:Tc w p m kp ca D)(hc:D.Bd):
  Qu prog 145 [ptr p 0,I n] w λv w'=>v= .tuple #[S (D.read n).2.1,I (D.read n).2.2]/\z2J w p m kp ca (D.read n).1 w':=by
 refine py (e:=[(0,_),(1,_)]) func145 O ntmps145 O O$ qN O$ Rt O$ QS O$ Qk zfN O (z3F h) ?_
 rintro _ w1 ⟨rfl,rfl⟩
 cases hd:D.down with
 | true =>
   refine RZ O$ RA O$ PQ$ Q8 O (λhz=>?_)$ λhz=>?_
   ·refine Qx O$ Rt O$ PO func145 O ?_;have e:D.read n=(D,[],8):=by simp[Dev.read,hd]
    rw[e];exact⟨_,rfl,rfl,z2J.same h (Ext.refl _)⟩
   ·exact absurd ψ hz
 | false =>
   refine RZ O$ RA O$ PQ$ Q8 O (λhz=>?_)$ λhz=>?_
   ·exact absurd hz ψ
   ·refine PR$ An$ RI O$ Qk zfg O (z9y n h) ?_;rintro _ w2 ⟨rfl,rfl⟩
    cases hh:D.has n with
    | false =>
      refine qV ((T7 O))$ PQ$ Qa O$ qN O$ Rt O$ PO func145 O ?_;have e:D.read n=(D,[],1):=by simp[Dev.read,hd,hh]
      rw[e]
      exact⟨_,rfl,rfl,z2J.same h (Ext.refl _)⟩
    | true =>
      refine qV ((T7 O))$ PQ$ PZ O ?_;have hM:=h.PN;refine PR$ Qx O$ QA O$ Qd z9I O$ qV (PX U3 O O hM O)$ qV (zcl O O)$ QA O$ Qd z9I O$ Qb O (RV Rl O O O hM ξ) ?_;rintro w3 ⟨rH,av⟩;have h3:=h.turn (D':={D with reads:=IntKind.i64.wrap (D.reads+1)}) rH av O O O O ⟨h.ok.hB,h.ok.hN,h.ok.due,h.ok.sf,h.ok.cache,h.ok.len,trivial⟩;refine qM O$ Qp O$ Qk zjH O (zdB n h3 hc.2.1) ?_;rintro _ w4 ⟨rfl,aC⟩;refine Rt O$ PO func145 O ?_;have e:D.read n=({D with reads:=IntKind.i64.wrap (D.reads+1)},D.now n,0):=by simp[Dev.read,hd,hh]
      rw[e];exact⟨_,rfl,rfl,kp,ca,h3.ext aC,(av.PU λ_ h=> .inl h).trans aC.kp,λ_ h=> .inl h⟩
def zbm (n:Int)(s:PV)(h:Tc w p m kp ca D)(hc:D.Bd)(hk:D.TG.length<=17592186044416):
  Qu prog 177 [ptr p 0,I n,S s] w λv w'=>v=I (D.write n s).2/\z2J w p m kp ca (D.write n s).1 w':=by
 have fF:maxLen=9223372036854775807:=rfl
 obtain⟨gS,g7,nK⟩:=hc
 have MR:=h.ok.len
 refine py (e:=[(0,_),(1,_),(2,_)]) func177 O ntmps177 O O$ RN O$ QS O$ Qk zfN O (z3F h) ?_
 rintro _ w1 ⟨rfl,rfl⟩
 cases hd:D.down with
 | true =>
   refine RZ O$ RA O$ PQ$ Q8 O (λhz=>?_)$ λhz=>?_
   ·refine Qx O$ Qc O$ PO func177 O ?_;have e:D.write n s=(D,8):=by simp[Dev.write,hd]
    rw[e];exact⟨_,rfl,rfl,z2J.same h (Ext.refl _)⟩
   ·exact absurd ψ hz
 | false =>
   refine RZ O$ RA O$ PQ$ Q8 O (λhz=>?_)$ λhz=>?_
   ·exact absurd hz ψ
   ·refine PR$ An$ RI O$ Qk zfg O (z9y n h) ?_;rintro _ w2 ⟨rfl,rfl⟩
    cases hh:D.has n with
    | false =>
      refine qV ((T7 O))$ Q4 O$ S6$ S6$ qS$ Sa O$ PQ$ Qa O$ RN O$ PO func177 O ?_;have e:D.write n s=(D,1):=by simp[Dev.write,hd,hh]
      rw[e]
      exact⟨_,rfl,rfl,z2J.same h (Ext.refl _)⟩
    | true =>
      have hn:0<=n/\n<(D.B:Int):=by simpa[Dev.has] using hh
      refine qV ((T7 O))$ Qp O$ qV (Wf U9 O)$ Q4 O$ Qk zgH O (z2M h) ?_;rintro _ w3 ⟨rfl,rfl⟩;refine RA O$ QY O$ PQ$ Q8 O (λcJ=>?_)$ λcJ=>?_
      ·refine RN O$ PO func177 O ?_
       have e:D.write n s=(D,1):=by
        have:s.length≠512*D.N:=by omega
        simp[Dev.write,hd,hh,this]
       rw[e];exact⟨_,rfl,rfl,z2J.same h (Ext.refl _)⟩
      ·have fU:s.length=512*D.N:=by omega
       obtain⟨a,cap,rfl,ha⟩:=h.cache.rd.shape;have hM:=h.PN;refine PR$ RI O$ QA O$ Qd ZT O$ qV (PX z29 O O hM O)$ Qp O$ qV (Tq (cs:=[_,_]) XM O zjF O O)$ PY O O (Zh (cs:=[_,_]) (zs:=[Value.int .i64 0,Value.string ⟨#[]⟩]) z29 XM O (by kernel_rfl) O O O ψ) ?_;rintro _ w4 ⟨b4,rfl,⟨eM,aC,aM⟩,eH⟩;have my:=h.cache.ext aC;refine PY O O (pap z29 XM O ψ O O my eH.rd (by intro c hc;simp at hc;rcases hc with rfl|rfl<;>rfl) ω ω) ?_;rintro v' w5 ⟨fG,aj,tf,-⟩;have FD:oneV v'=true:=by rcases fG.shape with⟨rfl,-⟩|⟨g,cap,rfl,-⟩<;>rfl
       have h4:=h.ext aC
       have kh:∀g,(Value.slice a D.cache.length cap).ownBlock=some g->¬g=p:=λg hg rE=>by
        obtain⟨xs,fz',hx⟩:=UF h4.cache hg;obtain⟨fz,hb,-⟩:=h4.PN;rw[rE,hb] at hx;cases hx
       have xB:=aj.PN h4.PN (λhg=>kh p hg O);refine QA O$ Qd ZT O$ Qb O (RV z9Q O O FD xB ξ) ?_;rintro w6 ⟨aY,aL⟩;have gj:=h.PN.lt
       have h6:Tc w6 p m kp v' (D.push n s):=by
        refine⟨aY,?_,?_,?_,?_⟩
        ·obtain⟨kv,oI,o5⟩:=h4.map;exact⟨kv,aL.map (aj.map oI λhg=>(h4.zjU hg).2.1 O) λe=>h4.pm e.symm,o5⟩
        ·have e:wrs (D.push n s).cache=wrs D.cache++[I n,S s]:=by simp[Dev.push,wrs,wr]
         have e2:(D.push n s).cache.length=D.cache.length+1:=by simp[Dev.push]
         rw[e,e2];refine fG.kp aL λg hg=>?_;rcases tf g hg with h'|h'
         ·exact(h4.zjU h').1
         ·have:=aC.size;omega
        ·refine(h4.TG.kp aj λg hg hc=>(h4.ziA hg).2.2 hc).kp aL λg hg=>(h4.ziA hg).1
        ·refine⟨h.ok.hB,h.ok.hN,h.ok.due,h.ok.sf,λx hx=>?_,h.ok.len,h.ok.reads⟩;simp only[Dev.push,List.mem_append,List.mem_singleton] at hx;rcases hx with hx|rfl
         ·exact h.ok.cache x hx
         ·exact⟨hn.1,hn.2,fU⟩
       refine PQ$ Qy.qb (e:=[(0,_),(6,_)]) ?_;refine QS O$ Qk zj3 O (z4Z h6 gS) ?_;rintro _ w7 ⟨rfl,h7,aA⟩
       have hu:Upd (fpD p m kp (.slice a D.cache.length cap)) (fpD p m kp v') w3 w7:=by
        refine⟨(aC.kp.trans (aj.PU λi hi=> .inr (.inr (.inl hi)))).trans ((aL.PU λi hi=> .inl hi).trans (aA.PU λi hi=> .inl hi)),λi hi=>?_⟩;rcases hi with h'|h'|h'|h'
        ·exact .inl (.inl h')
        ·exact .inl (.inr (.inl h'))
        ·rcases tf i h' with Jw|Jw
         ·exact .inl (.inr (.inr (.inl Jw)))
         ·have:=aC.size;exact .inr ω
        ·exact .inl (.inr (.inr (.inr h')))
       refine PQ$ Q8 O (λrF=>?_)$ λrF=>?_
       ·have MS:=h7.PN;refine RI O$ QA O$ Qd Y6 O$ Qd zes O$ qV (QB U99 O zg2 O (Q7.cells (n:=3) MS (news:=[_,_,_]) O) O)$ Qk zjd O (zcQ h7 D.TG D.ze6 D.mask hk (h7.TG.rd) (by show(D.cache++[(n,s)]).length<2000000000000;simp;omega)) ?_;rintro _ w8 ⟨rfl,h8,aK⟩;refine qM O$ Qc O$ PO func177 O ?_
        have e:D.write n s=(((D.push n s).count).zfE,8):=by
         have oL:D.due=1:=rF;simp[Dev.write,hd,hh,fU,oL]
        rw[e];exact⟨_,rfl,rfl,_,_,h8,hu.trans (zbA aK)⟩
       ·refine PR$ RN O$ PO func177 O ?_
        have e:D.write n s=((D.push n s).count,0):=by
         have oL:¬D.due=1:=rF;simp[Dev.write,hd,hh,fU,oL]
        rw[e];exact⟨_,rfl,rfl,_,_,h7,hu⟩
end
section
variable {w:World}{D:Dev}
def Dev.z97 (D:Dev)(n:Nat):List PV:=(List.range n).map λj:Nat=>D.now (j:Int)
@[simp] theorem imageTo_length (D:Dev) (n:Nat):(D.z97 n).length=n:=by simp[Dev.z97]
def zdv {w:World}{v:Value}{e size n:Nat}{cs:List Value}(h:Sl w v e size n cs):oneV v=true:=by
 rcases h.shape with⟨rfl,-⟩|⟨g,cap,rfl,-⟩<;>rfl
end
def z0Z (b n:Int):Prop:=16<=b/\b<=4096/\1<=n/\n<=8
instance (b n:Int):Decidable (z0Z b n):=by unfold z0Z;infer_instance
def Dev.fresh (B N:Nat):Dev:=⟨0,[],0,0,B,N,λ_=>none,[],false,0,0⟩
def zak (b n:Int)(w:World):Qu prog 45 [.agg #[I b,I n]] w λv w'=>v=I (if z0Z b n then 0 else 1)/\Ext w w':=by
 refine py (e:=[(0,_)]) func45 O ntmps45 O O$ qN O$ PY O O (Se O O) ?_
 rintro _ w1 ⟨b1,rfl,bL,ad,ai⟩
 by_cases hg:z0Z b n
 ·obtain⟨g1,g2,g3,g4⟩:=hg;refine Qc O$ An$ qN O$ Qd z0o O$ qV (PX U3 O O ai O)$ RT O$ QW$ Q4 O$ Qd z0o O$ qV (PX U3 O O ai O)$ RK O$ QW$ QY O$ Q4 O ?_;refine Qd z0K O$ qV (PX U3 O O ai O)$ RT O$ QW$ QY O$ Q4 O$ Qd z0K O$ qV (PX U3 O O ai O)$ RK O$ QW$ QY O$ Re O$ RN O$ PO func45 O ?_;exact⟨_,rfl,by rw[if_pos ⟨g1,g2,g3,g4⟩];rfl,ad⟩
 ·refine Qc O$ An$ qN O$ Qd z0o O$ qV (PX U3 O O ai O)$ RT O$ TL (λh1=>?_)$ λh1=>?_
  ·refine Q4 O$ S6$ qS$ Sa O$ Q4 O$ S6$ qS$ Sa O$ Q4 O$ S6$ qS$ Sa O$ PQ$ Qa O ?_;refine RN O$ PO func45 O ?_;exact⟨_,rfl,by rw[if_neg hg];rfl,ad⟩
  ·refine Q4 O$ Qd z0o O$ qV (PX U3 O O ai O)$ RK O$ QY O$ TL (λh2=>?_)$ λh2=>?_
   ·refine Q4 O$ S6$ qS$ Sa O$ Q4 O$ S6$ qS$ Sa O$ PQ$ Qa O$ RN O$ PO func45 O ?_;exact⟨_,rfl,by rw[if_neg hg];rfl,ad⟩
   ·refine Q4 O$ Qd z0K O$ qV (PX U3 O O ai O)$ RT O$ QY O$ TL (λh3=>?_)$ λh3=>?_
    ·refine Q4 O$ S6$ qS$ Sa O$ PQ$ Qa O$ RN O$ PO func45 O ?_;exact⟨_,rfl,by rw[if_neg hg];rfl,ad⟩
    ·have:8<n:=by unfold z0Z at hg;omega
     refine Q4 O$ Qd z0K O$ qV (PX U3 O O ai O)$ RK O$ SM$ QY O$ PQ$ Qa O$ RN O$ PO func45 O ?_;exact⟨_,rfl,by rw[if_neg hg];rfl,ad⟩
def zh1 (B N:Nat)(w:World)(hg:z0Z B N):Qu prog 20 [.agg #[I (B:Int),I (N:Int)]] w λv w'=>∃p m,v= .tuple #[ptr p 0,I 0]/\Tc w' p m (.slice none 0 0) (.slice none 0 0) (Dev.fresh B N)/\Ext w w'/\w.heap.size<=p/\w.heap.size<=m:=by
 obtain⟨g1,g2,g3,g4⟩:=hg
 refine py (e:=[(0,_)]) func20 O ntmps20 O O$ qN O$ PY O O (Se O O) ?_
 rintro _ w1 ⟨b1,rfl,bL,ad,ai⟩
 refine Rt O$ An$ qN O$ qV (QB U66 O zcH O (Q7.cells (n:=2) ai (news:=[_,_]) O) O)$ Qk zlw O (zak B N _) ?_
 rintro _ w2 ⟨rfl,ae⟩
 rw[if_pos ⟨g1,g2,g3,g4⟩]
 replace ai:=ae.PN ai
 refine RZ O$ RA O$ PQ$ Q8 O (λhz=>?_)$ λhz=>?_
 ·exact absurd hz ψ
 ·refine PR$ qN O$ qV (QB U66 O zcH O (Q7.cells (n:=2) ai (news:=[_,_]) O) O)$ PY O O (pmm) ?_;rintro _ w3 ⟨m,rfl,hm,ah,rH⟩;refine qV (Tq (cs:=[_,_,_,_,_,_,_,_,_,_,_]) ziY O zkn O O)$ PY O O (Se O O) ?_;rintro _ w4 ⟨p,rfl,hp,aC,aM⟩;refine Rt O$ PO func20 O ?_;have eA:=ad.size;have dy:=ae.size;have pS:=ah.size;have MT:XR KI w4 m []:=⟨⟨#[],0,aC.heap rH id,rfl⟩,ξ⟩;refine⟨_,rfl,p,m,rfl,⟨aM,⟨[],MT,λn=>rfl⟩,Sl.nil w4 _ _,Sl.nil w4 _ _,?_⟩,((ad.trans ae).trans ah).trans aC,ω,ω⟩;exact⟨⟨by show 16<=B;omega,by show B<=4096;omega⟩,⟨by show 1<=N;omega,by show N<=8;omega⟩,(by simp[Dev.fresh]),(λn s h=>by cases h),(λx hx=>by cases hx),(by simp[Dev.fresh]),(by simp[Dev.fresh])⟩
def over (s:PV)(at':Nat)(d:PV):PV:=s.take at'++d++s.drop (at'+d.length)
def Dev.zfr (D:Dev)(n at':Int)(d:PV):Prop:=D.has n=true/\0<=at'/\at'+(d.length:Int)<=((512*D.N:Nat):Int)
instance (D:Dev) (n at':Int) (d:PV):Decidable (D.zfr n at' d):=by unfold Dev.zfr;infer_instance
def zlq (n:Int)(a:Nat)(d:PV)(x:Int×PV):Int×PV:=if x.1=n then(x.1,over x.2 a d) else x
def zfo (n:Int)(a:Nat)(d:PV)(l:List (Int×PV))(i:Nat):List (Int×PV):=(l.take i).map (zlq n a d)++l.drop i
@[simp] theorem corTo_length (n:Int) (a:Nat) (d:PV) (l:List (Int×PV)) (i:Nat):(zfo n a d l i).length=l.length:=by simp[zfo];omega
theorem z7z (l:List (Int×PV))(x:Int×PV)(n:Int):XF (l++[x]) n=if x.1=n then some x.2 else XF l n:=by
 unfold XF
 rw[List.reverse_append,List.reverse_singleton,List.singleton_append,List.find?_cons]
 by_cases h:x.1=n
 ·simp[h]
 ·have hb:(x.1==n)=false:=by simpa using h
  simp[hb,h]
/-! ### Bounds -/
def Dev.Small (D:Dev)(k:Nat):Prop:=D.calls<=k/\D.cache.length<=k/\True/\D.TG.length<=17592186044416
def Dev.Small.bd {D:Dev}{k:Nat}(h:D.Small k)(hk:k<1000000000000):D.Bd:=⟨by have:=h.1;omega,by have:=h.2.1;omega,trivial⟩
/-! ### By footprints -/
def z9Y (w:World)(p:Nat)(F:Nat->Prop)(D':Dev)(w':World):Prop:=∃F',Xy w' p D' F'/\Upd F F' w w'
def z2J.toA {w w':World}{p m:Nat}{kp ca:Value}{D':Dev}{F:Nat->Prop}(hF:∀k,F k↔fpD p m kp ca k)(h:z2J w p m kp ca D' w'):z9Y w p F D' w':=by
 have e:F=fpD p m kp ca:=funext λk=>propext (hF k)
 subst e
 obtain⟨kp',ca',h1,h2⟩:=h
 exact⟨_,⟨m,kp',ca',h1,λk=>Iff.rfl⟩,h2⟩
section
variable {w:World}{p:Nat}{D:Dev}{F:Nat->Prop}
def zbv (h:Xy w p D F):Qu prog 141 [ptr p 0] w λv w'=>v= .bool D.down/\w'=w:=by
 obtain⟨m,kp,ca,h1,hF⟩:=h;exact zc3 h1
def zab (h:Xy w p D F):Qu prog 77 [ptr p 0] w λv w'=>v=I ((512*D.N:Nat):Int)/\w'=w:=by
 obtain⟨m,kp,ca,h1,hF⟩:=h;exact z2M h1
def XD (h:Xy w p D F):Qu prog 125 [ptr p 0] w λv w'=>v=I (D.B:Int)/\w'=w:=by
 obtain⟨m,kp,ca,h1,hF⟩:=h;exact z7I h1
def z89 (n:Int)(s:PV)(h:Xy w p D F){k:Nat}(hs:D.Small k)(hk:k<1000000000000):
  Qu prog 177 [ptr p 0,I n,S s] w λv w'=>v=I (D.write n s).2/\z9Y w p F (D.write n s).1 w':=by
 obtain⟨m,kp,ca,h1,hF⟩:=h
 exact(zbm n s h1 (hs.bd hk) hs.2.2.2).mono λv w' ⟨e,h2⟩=>⟨e,h2.toA hF⟩
def za6 (n:Int)(h:Xy w p D F){k:Nat}(hs:D.Small k)(hk:k<1000000000000):
  Qu prog 145 [ptr p 0,I n] w λv w'=>v= .tuple #[S (D.read n).2.1,I (D.read n).2.2]/\z9Y w p F (D.read n).1 w':=by
 obtain⟨m,kp,ca,h1,hF⟩:=h
 exact(zcB n h1 (hs.bd hk)).mono λv w' ⟨e,h2⟩=>⟨e,h2.toA hF⟩
def zew (B N:Nat)(w:World)(hg:z0Z B N):Qu prog 20 [.agg #[I (B:Int),I (N:Int)]] w λv w'=>∃p F,v= .tuple #[ptr p 0,I 0]/\Xy w' p (Dev.fresh B N) F/\Ext w w'/\∀i,F i->w.heap.size<=i:=
 (zh1 B N w hg).mono λv w' ⟨p,m,e,h,hx,h1,h2⟩=>⟨p,_,e,⟨m,_,_,h,λk=>Iff.rfl⟩,hx,λi hi=>by
  rcases hi with h|h|h| h
  ·omega
  ·omega
  ·cases h
  ·cases h⟩
end
def z9Y.kpF {w w':World}{p:Nat}{F:Nat->Prop}{D':Dev}(h:z9Y w p F D' w'):Kp F w w':=by
 obtain⟨F',-,hu⟩:=h
 exact hu.1
def nrm (z b:Int):Int:=(z.tmod b+b).tmod b
def VP (z b:Int)(hb:0<b): -b<z.tmod b/\z.tmod b<b:=by
 have h2:=Int.tmod_lt_of_pos z hb
 refine⟨?_,h2⟩
 have h3:=Int.tmod_lt_of_pos (-z) hb
 rw[Int.neg_tmod] at h3
 omega
def Yn (z b:Int)(hb:0<b):0<=nrm z b/\nrm z b<b:=by
 obtain⟨h1,h2⟩:=VP z b hb
 unfold nrm
 exact⟨Int.tmod_nonneg _ ω,Int.tmod_lt_of_pos _ hb⟩
theorem zbJ {D:Dev}{n:Int}{s:PV}(hd:D.down=false)(h0:D.due=0)(hn:0<=n/\n<(D.B:Int))(hs:s.length=512*D.N):D.write n s=((D.push n s).count,0):=by
 have hh:D.has n=true:=by simp[Dev.has];omega
 unfold Dev.write
 rw[if_neg (by simp[hd]),if_neg (by simp[hh,hs]),if_neg ω]
def grow:Nat->PV->Nat->PV
 |0,s,_=>s
 |f+1,s,n=>if s.length<n then grow f (s++s) n else s
def fill (s:PV)(n:Nat):PV:=(grow (n+1) (if s=[] then [0] else s) n).take n
section
variable {κ:Type}[DecidableEq κ]{K:κ->Value}{P:Program}{e:Env}{d:Option Nat}{ty t kt el:TypeId}{pos:String}{aft:Array Edge}{g:Option (Nat×Bool)}{x y:Operand}{w:World}{z:Value}{size bytes:Nat}{k:κ}
def zm6 (ht:P.underlying t=some (.map kt el))(hK:Ky P kt K)(hz:TI P el z size bytes)(hx:look e x=some (.map none))(hy:look e y=some (K k)):
  Y P e ⟨d,.lookup t x y false,ty,pos,aft,g⟩ z w w:=fun ρ hρ=>by
 have Cf:=hz.zero (w:=w)
 have tR:=λb=>hK.same.choose_spec.2.2 w b 9999 k
 have hu:=hK.same.choose_spec.1
 simp[execOp,hρ _ _ hx,hρ _ _ hy,Instr.lookup,run_underlying ht,tR,Cf,Instr.findKey,run_underlying hu,Instr.findNow]
end
structure QM (w:World)(ks mp:Value)(l:List Int):Prop where
 sl:Sl w ks 3 1 l.length (l.map I)
 mp:(mp= .map none/\l=[])\/∃b,mp= .map (some b)/\TR KI w b (l.map λk=>(k,I 1))
 n:l.length<=8192
def Fq (ks mp:Value)(b:Nat):Prop:=ks.ownBlock=some b\/mp= .map (some b)
section
variable {w w':World}{ks mp:Value}{l:List Int}{S:Nat->Prop}{c o:Nat}{cs:List Value}{k:Int}
def QM.kp (h:QM w ks mp l)(hk:Kp S w w')(hn:∀b,Fq ks mp b->¬S b):QM w' ks mp l:=
 ⟨h.sl.kp hk λg e=>hn g (.inl e),by
  rcases h.mp with e|⟨b,e,hm⟩
  ·exact .inl e
  ·exact .inr ⟨b,e,hm.kp hk (hn b (.inr e))⟩,h.n⟩
def QM.lt (h:QM w ks mp l){b:Nat}(hb:Fq ks mp b):b<w.heap.size:=by
 rcases hb with e| e
 ·exact h.sl.lt e
 ·rcases h.mp with⟨e',-⟩|⟨b',e',hm⟩
  ·rw[e'] at e;cases e
  ·rw[e'] at e;cases e;exact hm.lt
def QM.ne (h:QM w ks mp l){b:Nat}(hb:ks.ownBlock=some b):mp≠ .map (some b):=λe=>by
 obtain⟨cur,h1⟩:=h.sl.typed hb
 rcases h.mp with⟨e',-⟩|⟨b',e',hm⟩
 ·rw[e'] at e;cases e
 ·rw[e'] at e;cases e;obtain⟨⟨es,cl,h2,-⟩,-⟩:=hm;rw[h1] at h2;cases h2
theorem QM.nd (h:QM w ks mp l):l.Nodup:=by
 rcases h.mp with⟨-,e⟩|⟨b',e',hm⟩
 ·rw[e];exact List.nodup_nil
 ·have:=hm.nd;rw[List.map_map] at this;have e:((λp:Int×Value=>p.1) ∘ λk:Int=>(k,I 1))=id:=rfl;rw[e,List.map_id] at this;exact this
theorem z6o (l:List Int)(k:Int):Sm (l.map λk=>(k,I 1)) k=if k∈l then some (I 1) else none:=by
 induction l with
 |nil=>rfl
 | cons a l ih =>
   show(if k=a then some (I 1) else Sm (l.map λk=>(k,I 1)) k)=_;rw[ih];by_cases h:k=a
   ·simp[h]
   ·simp[h]
theorem zbR (l:List Int)(k:Int):delL (l.map λk=>(k,I 1)) k=(l.erase k).map λk=>(k,I 1):=by
 induction l with
 |nil=>rfl
 | cons a l ih =>
   show(if k=a then l.map (λk=>(k,I 1)) else(a,I 1)::delL (l.map λk=>(k,I 1)) k)=_;rw[ih,List.erase_cons];by_cases h:k=a
   ·subst h;simp
   ·rw[if_neg h,if_neg (by simpa using λe=>h e.symm)];rfl
def yqk {P:Program}{e:Env}{d:Option Nat}{ty t kt el:TypeId}{pos:String}{aft:Array Edge}{g:Option (Nat×Bool)}{x y:Operand}{bytes:Nat}(ht:P.underlying t=some (.map kt el))(hK:P.underlying kt=some (.int .i64))(hz:TI P el (I 0) 1 bytes)(hx:look e x=some mp)(hy:look e y=some (I k))(hq:QM w ks mp l):
  Y P e ⟨d,.lookup t x y false,ty,pos,aft,g⟩ (I (if k∈l then 1 else 0)) w w:=by
 rcases hq.mp with⟨rfl,rfl⟩|⟨b,rfl,hm⟩
 ·rw[if_neg ξ];exact zm6 (k:=k) (K:=KI) ht (Tm hK) hz hx hy
 ·have h:=ylk (k:=k) (K:=KI) (d:=d) (ty:=ty) (pos:=pos) (aft:=aft) (g:=g) ht (Tm hK) hz hx hy hm.l;rw[z6o] at h;by_cases hk:k∈l
  ·rw[if_pos hk] at h⊢;exact h
  ·rw[if_neg hk] at h⊢;exact h
def zcE (hB:Q7 w c cs 173)(h1:cs[o+1]? =some mp)(hq:QM w ks mp l):Qu prog 165 [ptr c o,I k] w λv w'=>v= .bool (decide (k∈l))/\w'=w:=by
 refine py (e:=[(0,_),(1,_)]) func165 O ntmps165 O O$ qN O$ RZ O$ QA O$ Qd ZV O$ qV (PX YD O O hB h1)$ Q4 O$ qV (yqk (k:=k) YD U3 Rl O O hq)$ RK O$ Qc O$ PO func165 O (⟨_,rfl,?_,rfl⟩)
 by_cases hk:k∈l
 ·simp[hk,Rb]
 ·simp[hk,Rb]
theorem z8x {lv:Value}(x:Int)(hR:Rd w lv 1 l.length (l.map I))(hl:l.length<=4294967296):
  Qu prog 190 [lv,I x] w λv w'=>w'=w/\((x∉l/\v=I (-1))\/∃i:Nat,v=I (i:Int)/\l[i]? =some x/\x∉l.take i):=by
 obtain⟨a,cap,rfl,-⟩:=hR.shape
 refine py (e:=[(0,_),(1,_)]) func190 O ntmps190 O O$ RN O$ QS O$ SR SC O$ Q4 O$ PQ$ PS$ SK (α:=Nat) (0) (λi=>[(0,.slice a l.length cap),(1,I x),(7,I (l.length:Int)),(8,I (i:Int))]) (λi w'=>w'=w/\i<=l.length/\x∉l.take i) (λi=>l.length-i) ?hI ?hround
 case hI=>exact⟨rfl,Nat.zero_le _,ξ⟩
 case hround=>
  rintro i wi ⟨rfl,hi,di⟩ ih
  try dsimp only
  refine qN O$ RT O$ PQ$ An$ Q8 O (λaR=>?_)$ λaR=>?_
  ·have rI:i<l.length:=by omega
   obtain⟨s,rJ⟩:∃s,l[i]? =some s:=⟨_,List.getElem?_eq_getElem rI⟩
   obtain⟨lb,lo,lc,e5⟩:∃b o c',Value.slice a l.length cap= .slice (some ⟨b,o,none⟩) l.length c':=by
    rcases hR.2 with⟨c,hc,h0⟩|⟨b,off,c',hc,-⟩
    ·omega
    ·exact⟨b,off,c',hc⟩
   cases e5;refine PR$ RP$ Qx O$ S7 O$ Qp O$ Q4 O$ qV (Rh SC Rl O O ω)$ qV (QF U3 O O (Rf hR (show(l.map I)[i]? =some (I s) by rw[List.getElem?_map,rJ];rfl))) ?_;refine Ss O$ PQ$ Q8 O (λhe=>?_)$ λhe=>?_
   ·refine Qx O$ Qc O$ PO func190 O ?_;exact⟨_,rfl,rfl,.inr ⟨i,rfl,by rw[he];exact rJ,di⟩⟩
   ·refine PR$ PM$ PW O$ R7 O$ Q4 O$ PQ ((ih (i+1) _ ⟨rfl,rI,λhh=>?_⟩ ω).qb);rw[QR rJ,List.mem_append,List.mem_singleton] at hh;rcases hh with h| h
    ·exact di h
    ·exact he h
  ·have:i=l.length:=by omega
   subst this;rw[List.take_length] at di;refine Q5 O$ RN O$ PO func190 O ?_;exact⟨_,rfl,rfl,.inl ⟨di,rfl⟩⟩
theorem zc6 {i:Nat}{x:Int}(h:l[i]? =some x)(hn:x∉l.take i):l.take i++l.drop (i+1)=l.erase x:=by
 obtain⟨hi,e⟩:=List.getElem?_eq_some_iff.1 h
 conv=>rhs;rw[<-List.take_append_drop i l]
 rw[List.erase_append_right _ hn,List.drop_eq_getElem_cons hi,e,List.erase_cons_head]
theorem z54 {α:Type}{l:List α}{i:Nat}{a:α}(h:l[i]? =some a):l.set i a=l:=by
 obtain⟨hi,e⟩:=List.getElem?_eq_some_iff.1 h
 rw[<-e,List.set_getElem_self]
def zah (hB:Q7 w c cs 173)(h0:cs[o]? =some ks)(h1:cs[o+1]? =some mp)(hq:QM w ks mp l)(nc:¬Fq ks mp c):Qu prog 166 [ptr c o,I k] w λv w'=>∃ks',v= .tuple #[]/\Q7 w' c (cs.set o ks') 173/\QM w' ks' mp (l.erase k)/\(∀b,Fq ks' mp b->Fq ks mp b)/\Kp (λb=>b=c\/Fq ks mp b) w w':=by
 have hn:=hq.n
 have eY:=hq.nd
 refine py (e:=[(0,_),(1,_)]) func166 O ntmps166 O O$ Qx O$ QA O$ Qd Ro O$ qV (PX SC O O hB h0)$ Q4 O$ Qk zfZ O (z8x k hq.sl.rd ω) ?_
 rintro _ w ⟨rfl,hv⟩
 rcases hv with⟨hk,rfl⟩|⟨i,rfl,hi,xw⟩
 ·refine RZ O$ UZ O$ QW$ Re O$ Rq func166 O (⟨_,rfl,ks,rfl,?_,?_,λb hb=>hb,Kp.refl _ _⟩)
  ·rw[z54 h0];exact hB
  ·rw[List.erase_of_not_mem hk];exact hq
 ·have G4:k∈l:=List.mem_of_getElem? hi;have dq:=(List.getElem?_eq_some_iff.1 hi).1;refine RZ O$ UZ O$ SM$ PQ$ Qa O$ RI O$ QA O$ Qd Ro O$ qV (PX SC O O hB h0)$ Qp O$ R7 O$ Qk zjh O (zcp hq.sl (λc hc=>by obtain⟨z,-,rfl⟩:=List.mem_map.1 hc;rfl) dq ω) ?_;rintro ks2 w2 ⟨cS,am,xC⟩
  have e2:(l.map I).take i++(l.map I).drop (i+1)=(l.erase k).map I:=by
   rw[<-List.map_take,<-List.map_drop,<-List.map_append,zc6 hi xw]
  rw[e2] at cS;have kK:(l.erase k).length=l.length-1:=List.length_erase_of_mem G4;rw[<-kK] at cS;have jZ:¬ks.ownBlock=some c:=λe=>nc (.inl e);have ak:=am.PN hB jZ;refine QA O$ Qd Ro O$ Qb O (RV z7c O O (zdv cS) ak (by have:=(List.getElem?_eq_some_iff.1 h0).1;omega)) ?_;rintro w3 ⟨aw,av⟩
  obtain⟨b,rfl,hm⟩:∃b,mp= .map (some b)/\TR KI w b (l.map λk=>(k,I 1)):=by
   rcases hq.mp with⟨-,e⟩| h
   ·rw[e] at G4;cases G4
   ·exact h
  have Jy:c≠b:=λe=>nc (.inr (by rw[e]));have C4:ks.ownBlock≠some b:=λe=>hq.ne e O;have Ay:o+1<cs.length:=(List.getElem?_eq_some_iff.1 h1).1;have mt:=(hm.kp am C4).kp av (λe=>Jy e.symm);have xz:(cs.set (o+0) ks2)[o+1]? =some (Value.map (some b)):=by rw[List.getElem?_set_ne ω];exact h1
  refine PQ$ St O$ QA O$ Qd ZV O$ qV (PX YD O O aw xz)$ Q4 O$ zbO O (zgh (k:=k) (K:=KI) YD (Tm U3) O O mt O) ?_;rintro _ w4 ⟨Cp,ar⟩;rw[zbR] at Cp;refine PQ$ Qy.qb (e:=[]) ?_;refine Rq func166 O ?_;have fW:Kp (λj=>j=c\/Fq ks (.map (some b)) j) w w4:=((am.PU λj e=> .inr (.inl e)).trans (av.PU λj e=> .inl e)).trans (ar.PU λj e=> .inr (.inr (by rw[e])));exact⟨_,rfl,ks2,rfl,ar.PN aw Jy,⟨(cS.kp av λg e e'=>nc (.inl (e'▸xC g e))).kp ar λg e e'=>C4 (e'▸xC g e),.inr ⟨b,rfl,Cp⟩,ω⟩,λj hj=>hj.imp (xC j) id,fW⟩
def zdu (hB:Q7 w c cs 173)(h0:cs[o]? =some ks)(h1:cs[o+1]? =some mp)(hq:QM w ks mp l)(nc:¬Fq ks mp c)(hk:k∉l)(hl:l.length<=8191):Qu prog 172 [ptr c o,I k] w λv w'=>∃ks' mp',v= .tuple #[]/\Q7 w' c ((cs.set (o+1) mp').set o ks') 173/\QM w' ks' mp' (l++[k])/\(∀b,Fq ks' mp' b->Fq ks mp b\/w.heap.size<=b)/\Kp (λb=>b=c\/Fq ks mp b) w w':=by
 have hn:=hq.n
 have eY:=hq.nd
 have lc:=hB.lt
 have Ay:o+1<cs.length:=(List.getElem?_eq_some_iff.1 h1).1
 obtain⟨mo,rfl,MU⟩:∃mo,mp= .map mo/\((mo=none/\l=[])\/∃b,mo=some b/\TR KI w b (l.map λk=>(k,I 1))):=by
  rcases hq.mp with⟨e,e2⟩|⟨b,e,e2⟩
  ·exact⟨_,e,.inl ⟨rfl,e2⟩⟩
  ·exact⟨_,e,.inr ⟨b,rfl,e2⟩⟩
 refine py (e:=[(0,_),(1,_)]) func172 O ntmps172 O O$ QS O$ QA O$ Qd ZV O$ qV (PX YD O O hB h1)$ qV (zi4 YD O O)$ PQ$ QH (λe' w'=>∃b,e'=[(0,ptr c o),(1,I k)]/\Q7 w' c (cs.set (o+1) (.map (some b))) 173/\TR KI w' b (l.map λk=>(k,I 1))/\Sl w' ks 3 1 l.length (l.map I)/\(mo=some b\/w.heap.size<=b)/\Kp (λj=>j=c) w w'/\b≠c/\ks.ownBlock≠some b) ?bF$ λbF=>?dg
 case bF=>
  rintro e' w1 ⟨b,rfl,ai,du,ky,hb,ay,Jz,fH⟩;have qm:(cs.set (o+1) (Value.map (some b)))[o+1]? =some (.map (some b)):=List.getElem?_set_self Ay;have eL:(cs.set (o+1) (Value.map (some b)))[o]? =some ks:=by rw[List.getElem?_set_ne ω];exact h0
  have z1:=ay.size;refine Qx O$ QA O$ Qd ZV O$ qV (PX YD O O ai qm)$ Q4 O$ Qb O (zgj (k:=k) (K:=KI) YD (Tm U3) O O O du) ?_;rintro w2 ⟨iY,am⟩;rw[W8 _ _ _ (by rw[z6o,if_neg hk])] at iY;have ak:=am.PN ai (λe=>Jz e.symm);have cS:=ky.kp am (λg e e'=>fH (e'▸e));refine PQ$ PW O$ Qp O$ QA O$ Qd Ro O$ qV (PX SC O O ak eL)$ Q4 O$ PY O O (Zh (cs:=[_]) (zs:=[Value.int .i64 0]) SC Rl O (by kernel_rfl) O O O ψ) ?_;rintro _ w3 ⟨b24,rfl,⟨MV,ah,fP⟩,G5⟩;have lb:=iY.lt;have z2:=am.size;refine PY O O (pap SC Rl O ψ O O (cS.ext ah) G5.rd (by intro c hc;simp at hc;subst hc;rfl) ω (by simp only[maxLen];omega)) ?_;rintro ks4 w4 ⟨eH,ar,JA,-⟩;have z3:=ah.size;have z4:=ar.size;have jZ:ks.ownBlock≠some c:=λe=>nc (.inl e);have aM:=ar.PN (ah.PN ak) jZ;have Cp:=(iY.ext ah).kp ar fH;refine QA O$ Qd Ro O$ Qb O (RV z7c O O (zdv eH) aM (by rw[List.length_set];omega)) ?_;rintro w5 ⟨aJ,aj⟩;refine PQ$ Rq func172 O ?_
  have lk4:∀g,ks4.ownBlock=some g->g≠c:=λg e e'=>by
   rcases JA g e with h| h
   ·exact jZ (e'▸h)
   ·omega
  have aH:(l++[k]).length=l.length+1:=by simp
  refine⟨_,rfl,ks4,.map (some b),rfl,aJ,⟨?_,.inr ⟨b,rfl,?_⟩,ω⟩,λj hj=>?_,?_⟩
  ·rw[List.map_append,aH];exact eH.kp aj λg e e'=>lk4 g e e'
  ·rw[List.map_append];exact Cp.kp aj Jz
  ·rcases hj with hj|hj
   ·rcases JA j hj with h| h
    ·exact .inl (.inl h)
    ·exact .inr ω
   ·cases hj;rcases hb with h| h
    ·exact .inl (.inr (by rw[h]))
    ·exact .inr h
  ·have G6:Kp (λj=>j=c\/Fq ks (.map mo) j) w w2:=by
    rcases hb with h| h
    ·exact(ay.PU λj e=> .inl e).trans (am.PU λj e=> .inr (.inr (by rw[h,e])))
    ·exact(ay.PU λj e=> .inl e).It am (λj e=>by omega)
   exact((G6.trans ah.kp).trans (ar.PU λj e=> .inr (.inl e))).trans (aj.PU λj e=> .inl e)
 case dg=>
  rcases MU with⟨rfl,rfl⟩|⟨b,rfl,hm⟩
  ·refine Qa O$ St O$ PY O O (pmm) ?_;rintro _ w1 ⟨b,rfl,hb,ad,cG⟩;have du:TR KI w1 b []:=TR.new cG;have ai:=ad.PN hB;refine QA O$ Qd ZV O$ Qb O (RV z8H O O O ai Ay) ?_;rintro w2 ⟨ak,am⟩;refine PQ ?_;have lb:=du.lt;exact(bF _ _ ⟨b,rfl,ak,du.kp am ω,(hq.sl.ext ad).kp am (λg e e'=>nc (.inl (e'▸e))),.inr ω,ad.kp.trans am,ω,λe=>by have:=hq.sl.lt e;omega⟩).qb
  ·refine TT O ?_;exact(bF _ _ ⟨b,rfl,by rw[z54 h1];exact hB,hm,hq.sl,.inl O,Kp.refl _ _,λe=>nc (.inr (by rw[e])),λe=>hq.ne e O⟩).qb
end
def Arc.li (A:Arc):Nat->List Int
 |0=>A.once
 |1=>A.often
 |2=>A.Qj
 |_=>A.Qf
def Arc.Rx (A:Arc):Nat->List Int->Arc
 |0,l=>{A with once:=l}
 |1,l=>{A with often:=l}
 |2,l=>{A with Qj:=l}
 |_,l=>{A with Qf:=l}
theorem Arc.zgJ (A:Arc){j:Nat}(hj:j<4)(l:List Int)(i:Nat)(hi:i<4):(A.Rx j l).li i=if i=j then l else A.li i:=by
 match j,hj,i,hi with
 |0,_,0,_|0,_,1,_|0,_,2,_|0,_,3,_|1,_,0,_|1,_,1,_|1,_,2,_|1,_,3,_|2,_,0,_|2,_,1,_|2,_,2,_|2,_,3,_|3,_,0,_|3,_,1,_|3,_,2,_|3,_,3,_=>rfl
def zbp (V:Nat->Value×Value)(j:Nat)(q:Value×Value)(i:Nat):Value×Value:=if i=j then q else V i
def acC (S:Nat)(T:Int)(V:Nat->Value×Value)(p:Nat):List Value:=[I (S:Int),(V 0).1,(V 0).2,(V 1).1,(V 1).2,(V 2).1,(V 2).2,(V 3).1,(V 3).2,I T,.map (some p)]
abbrev FV (V:Nat->Value×Value)(j b:Nat):Prop:=Fq (V j).1 (V j).2 b
structure TX (w:World)(c:Nat)(A:Arc)(V:Nat->Value×Value)(p:Nat):Prop where
 PN:Q7 w c (acC A.size A.target V p) 173
 q:∀j,j<4->QM w (V j).1 (V j).2 (A.li j)
 pins:XR KI w p []
 WB:∀i j,i<4->j<4->i≠j->∀b,FV V i b->¬FV V j b
 nc:∀j,j<4->¬FV V j c
 np:∀j,j<4->¬FV V j p
 cp:c≠p
def TQ (c:Nat)(V:Nat->Value×Value)(p b:Nat):Prop:=b=c\/b=p\/∃j,j<4/\FV V j b
section
variable {w w' w2:World}{c p:Nat}{A A' A2:Arc}{V V' V2:Nat->Value×Value}{S:Nat->Prop}{k:Int}
def TX.kp (h:TX w c A V p)(hk:Kp S w w')(hn:∀b,TQ c V p b->¬S b):TX w' c A V p:=
 ⟨hk.PN h.PN (hn _ (.inl O)),λj hj=>(h.q j hj).kp hk λb hb=>hn b (.inr (.inr ⟨j,hj,hb⟩)),hk.map h.pins (hn _ (.inr (.inl O))),h.WB,h.nc,h.np,h.cp⟩
theorem TX.ext (h:TX w c A V p)(hx:Ext w w'):TX w' c A V p:=h.kp (S:=λ_=>False) hx λ_ _=>id
def TX.lt (h:TX w c A V p){b:Nat}(hb:TQ c V p b):b<w.heap.size:=by
 rcases hb with e|e|⟨j,hj,hb⟩
 ·rw[e];exact h.PN.lt
 ·rw[e];exact h.pins.lt
 ·exact(h.q j hj).lt hb
structure Xz (w:World)(c:Nat)(V:Nat->Value×Value)(p:Nat)(w':World)(A':Arc)(V':Nat->Value×Value):Prop where
 m:TX w' c A' V' p
 fp:∀b,TQ c V' p b->TQ c V p b\/w.heap.size<=b
 k:Kp (TQ c V p) w w'
theorem Xz.trans (h:Xz w c V p w' A' V')(h2:Xz w' c V' p w2 A2 V2):Xz w c V p w2 A2 V2:=
 ⟨h2.m,λb hb=>by
  rcases h2.fp b hb with e| e
  ·exact h.fp b e
  ·exact .inr (by have:=h.k.size;omega),h.k.It h2.k λb hb=>(h.fp b hb).symm⟩
theorem TX.r (h:TX w c A V p)(hx:Ext w w'):Xz w c V p w' A V:=⟨h.ext hx,λb hb=> .inl hb,hx.kp⟩
theorem TX.upd {j:Nat}(hj:j<4)(h:TX w c A V p){ks mp:Value}{l:List Int}(hB:Q7 w' c (acC A.size A.target (zbp V j (ks,mp)) p) 173)(hs:(A.Rx j l).size=A.size/\(A.Rx j l).target=A.target)(hq:QM w' ks mp l)(hf:∀b,Fq ks mp b->FV V j b\/w.heap.size<=b)(hk:Kp (λb=>b=c\/FV V j b) w w'):Xz w c V p w' (A.Rx j l) (zbp V j (ks,mp)):=by
 have aR:∀{b:Nat},TQ c V p b->b<w.heap.size:=h.lt
 have au:∀i,i<4->i≠j->∀b,FV V i b->¬(b=c\/FV V j b):=λi hi hH b hb e=>by
  rcases e with e| e
  ·exact h.nc i hi (e▸hb)
  ·exact h.WB i j hi hj hH b hb e
 have eA:∀i,i≠j->zbp V j (ks,mp) i=V i:=λi e=>if_neg e
 have dy:zbp V j (ks,mp) j=(ks,mp):=if_pos O
 refine⟨⟨by rw[hs.1,hs.2];exact hB,λi hi=>?_,hk.map h.pins (λe=>?_),λi i2 hi dW bE b hb bO=>?_,λi hi hb=>?_,λi hi hb=>?_,h.cp⟩,λb hb=>?_,hk.PU λb hb=>?_⟩
 ·rw[Arc.zgJ A hj l i hi];by_cases e:i=j
  ·rw[if_pos e,e,dy];exact hq
  ·rw[if_neg e,eA i e];exact(h.q i hi).kp hk λb hb=>au i hi e b hb
 ·rcases e with e| e
  ·exact h.cp e.symm
  ·exact h.np j hj e
 ·by_cases e:i=j
  ·have e2:i2≠j:=λe2=>bE (e.trans e2.symm);unfold FV at hb bO;rw[e,dy] at hb;rw[eA i2 e2] at bO;rcases hf b hb with h1|h1
   ·exact h.WB j i2 hj dW (λe3=>e2 e3.symm) b h1 bO
   ·have:=aR (.inr (.inr ⟨i2,dW,bO⟩));omega
  ·unfold FV at hb bO;rw[eA i e] at hb;by_cases e2:i2=j
   ·rw[e2,dy] at bO;rcases hf b bO with h1|h1
    ·exact h.WB i j hi hj e b hb h1
    ·have:=aR (.inr (.inr ⟨i,hi,hb⟩));omega
   ·rw[eA i2 e2] at bO;exact h.WB i i2 hi dW bE b hb bO
 ·by_cases e:i=j
  ·unfold FV at hb;rw[e,dy] at hb;rcases hf c hb with h1|h1
   ·exact h.nc j hj h1
   ·have:=h.PN.lt;omega
  ·unfold FV at hb;rw[eA i e] at hb;exact h.nc i hi hb
 ·by_cases e:i=j
  ·unfold FV at hb;rw[e,dy] at hb;rcases hf p hb with h1|h1
   ·exact h.np j hj h1
   ·have:=h.pins.lt;omega
  ·unfold FV at hb;rw[eA i e] at hb;exact h.np i hi hb
 ·rcases hb with e|e|⟨i,hi,hb⟩
  ·exact .inl (.inl e)
  ·exact .inl (.inr (.inl e))
  ·by_cases e:i=j
   ·unfold FV at hb;rw[e,dy] at hb;rcases hf b hb with h1|h1
    ·exact .inl (.inr (.inr ⟨j,hj,h1⟩))
    ·exact .inr h1
   ·unfold FV at hb;rw[eA i e] at hb;exact .inl (.inr (.inr ⟨i,hi,hb⟩))
 ·rcases hb with e| e
  ·exact .inl e
  ·exact .inr (.inr ⟨j,hj,e⟩)
def Yj (S:Nat)(T:Int)(V:Nat->Value×Value)(p:Nat){j:Nat}(hj:j<4):(acC S T V p)[1+2*j]? =some (V j).1/\(acC S T V p)[1+2*j+1]? =some (V j).2:=by
 match j,hj with
 |0,_|1,_|2,_|3,_=>exact⟨rfl,rfl⟩
theorem zeN (S:Nat)(T:Int)(V:Nat->Value×Value)(p:Nat){j:Nat}(hj:j<4)(ks mp:Value):((acC S T V p).set (1+2*j+1) mp).set (1+2*j) ks=acC S T (zbp V j (ks,mp)) p:=by
 match j,hj with
 |0,_|1,_|2,_|3,_=>rfl
theorem zc5 (S:Nat)(T:Int)(V:Nat->Value×Value)(p:Nat){j:Nat}(hj:j<4)(ks:Value):(acC S T V p).set (1+2*j) ks=acC S T (zbp V j (ks,(V j).2)) p:=by
 match j,hj with
 |0,_|1,_|2,_|3,_=>rfl
def z1y (A:Arc){j:Nat}(hj:j<4)(l:List Int):(A.Rx j l).size=A.size/\(A.Rx j l).target=A.target:=by
 match j,hj with
 |0,_|1,_|2,_|3,_=>exact⟨rfl,rfl⟩
def WL (h:TX w c A V p){j:Nat}(hj:j<4):Qu prog 165 [ptr c (1+2*j),I k] w λv w'=>v= .bool (decide (k∈A.li j))/\w'=w:=
 zcE h.PN (Yj _ _ _ _ hj).2 (h.q j hj)
def Rs (h:TX w c A V p){j:Nat}(hj:j<4):Qu prog 166 [ptr c (1+2*j),I k] w λv w'=>v= .tuple #[]/\∃V',Xz w c V p w' (A.Rx j ((A.li j).erase k)) V':=by
 refine(zah h.PN (Yj _ _ _ _ hj).1 (Yj _ _ _ _ hj).2 (h.q j hj) (h.nc j hj) (k:=k)).mono λv w' hv=>?_
 obtain⟨ks',rfl,hB,hq,hf,hk⟩:=hv
 rw[zc5 _ _ _ _ hj] at hB
 exact⟨rfl,_,h.upd hj hB (z1y A hj _) hq (λb hb=> .inl (hf b hb)) hk⟩
def S2 (h:TX w c A V p){j:Nat}(hj:j<4)(hk:k∉A.li j)(hl:(A.li j).length<=8191):Qu prog 172 [ptr c (1+2*j),I k] w λv w'=>v= .tuple #[]/\∃V',Xz w c V p w' (A.Rx j (A.li j++[k])) V':=by
 refine(zdu h.PN (Yj _ _ _ _ hj).1 (Yj _ _ _ _ hj).2 (h.q j hj) (h.nc j hj) hk hl).mono λv w' hv=>?_
 obtain⟨ks',mp',rfl,hB,hq,hf,hk⟩:=hv
 rw[zeN _ _ _ _ hj] at hB
 exact⟨rfl,_,h.upd hj hB (z1y A hj _) hq hf hk⟩
def z8w (n:Nat):Arc:=⟨n,[],[],[],[],0⟩
def zdN {n:Nat}(h:1<=n):(z8w n).Ok:=⟨h,List.nodup_nil,Nat.zero_le _,Nat.zero_le _,Nat.zero_le _,⟨Int.le_refl _,by show(0:Int)<=(n:Int);omega⟩⟩
theorem zcO (n:Nat)(h1:1<=n)(h2:n<=4096)(w:World):Qu prog 46 [I (n:Int)] w λv w'=>∃c V p,v= .tuple #[ptr c 0,I 0]/\TX w' c (z8w n) V p/\(∀b,TQ c V p b->w.heap.size<=b)/\Ext w w':=by
 refine py (e:=[(0,_)]) func46 O ntmps46 O O$ qN O$ Rt O$ QS O$ RT O$ QW$ Qp O$ RK O$ QW$ QY O$ Re O$ Qx O$ PY O O (pmm) ?_
 rintro _ w1 ⟨p,rfl,hp,ad,cG⟩
 refine qV (Tq (cs:=[_,_,_,_,_,_,_,_,_,_,_]) zj2 O zjJ O O)$ PY O O (Se O (cs:=acC n 0 (λ_=>(.slice none 0 0,.map none)) p) O) ?_
 rintro _ w2 ⟨c,rfl,hc,ae,ak⟩
 refine Rt O$ PO func46 O ?_
 have du:TR KI w1 p []:=TR.new cG
 have lp:=du.lt
 have di:∀b,¬Fq (.slice none 0 0) (.map none) b:=λb e=>by rcases e with e|e<;>cases e
 refine⟨_,rfl,c,_,p,rfl,⟨ak,λj hj=>⟨?_,?_,?_⟩,ae.map du.l,λi j hi hj bE b hb=>absurd hb (di b),λj hj=>di c,λj hj=>di p,ω⟩,λb hb=>?_,ad.trans ae⟩
 ·have e:(z8w n).li j=[]:=by match j,hj with|0,_|1,_|2,_|3,_=>rfl
  rw[e];exact Sl.nil _ _ _
 ·left
  refine⟨rfl,?_⟩
  match j,hj with|0,_|1,_|2,_|3,_=>rfl
 ·have e:(z8w n).li j=[]:=by match j,hj with|0,_|1,_|2,_|3,_=>rfl
  rw[e];exact Nat.zero_le _
 ·rcases hb with e|e|⟨j,hj,hb⟩
  ·have:=ad.size;omega
  ·omega
  ·exact absurd hb (di b)
end
section
variable {w w' w2:World}{c p:Nat}{A:Arc}{V:Nat->Value×Value}{k:Int}
theorem TX.cells (h:TX w c A V p):Q7 w c [I (A.size:Int),(V 0).1,(V 0).2,(V 1).1,(V 1).2,(V 2).1,(V 2).2,(V 3).1,(V 3).2,I A.target,.map (some p)] 173:=h.PN
def z3T (h:TX w c A V p):Qu prog 164 [ptr c 0,I k] w λv w'=>v= .bool (decide (k∈A.once\/k∈A.often))/\w'=w:=by
 have h0:=WL h (j:=0) (k:=k) ψ
 have h1:=WL h (j:=1) (k:=k) ψ
 rw[show A.li 0=A.once from rfl] at h0
 rw[show A.li 1=A.often from rfl] at h1
 refine py (e:=[(0,_),(1,_)]) func164 O ntmps164 O O$ qN O$ RZ O$ qV (z6y zcY O O)$ Qp O$ QA O$ Qd RJ O$ Q4 O$ Qk YH O (h0) ?_
 rintro _ w ⟨rfl,rfl⟩
 by_cases fZ:k∈A.once
 ·rw[decide_eq_true fZ];refine Q4 O$ S6$ S6$ qS$ Sa O$ Sa O$ Qc O$ PO func164 O ?_;exact⟨_,rfl,by rw[decide_eq_true (Or.inl fZ)];rfl,rfl⟩
 ·rw[decide_eq_false fZ];refine Qp O$ QA O$ Qd Sw O$ Q4 O$ Qk YH O (h1) ?_;rintro _ w ⟨rfl,rfl⟩;refine QY O$ Sa O$ Qc O$ PO func164 O (⟨_,rfl,?_,rfl⟩);by_cases ay:k∈A.often
  ·simp[fZ,ay,Rb]
  ·simp[fZ,ay,Rb]
def Z0:List Int->Value
 |[]=> .tuple #[I 0,.bool false]
 |a::_=> .tuple #[I a,.bool true]
theorem WD (h:TX w c A V p){j:Nat}(hj:j<4):Qu prog 173 [ptr c 0,ptr c (1+2*j)] w λv w'=>v=Z0 (A.li j)/\w'=w:=by
 have hB:=h.cells
 have hg:=(Yj A.size A.target V p hj).1
 have hq:=h.q j hj
 obtain⟨ka,kc,dp,kz⟩:∃a c,(V j).1= .slice a (A.li j).length c/\(a=none->(A.li j).length=0):=hq.sl.rd.shape
 rw[dp] at hg
 have hR:=hq.sl.rd
 have hn:=hq.n
 rw[dp] at hR
 refine py (e:=[(0,_),(1,_)]) func173 O ntmps173 O O$ qN O$ Rt O$ QS O$ QA O$ Qd Ro O$ qV (PX SC O O h.PN hg)$ SR SC O$ Q4 O$ PQ$ PS ?_
 cases hl:A.li j with
 | nil =>
   rw[hl] at hR;refine SK (α:=Unit) (()) (λ_=>[(0,ptr c 0),(12,.slice ka 0 kc),(13,I 0),(14,I 0)]) (λ_ w'=>w'=w) (λ_=>0) ?hI ?hround
   case hI=>rfl
   case hround=>
    rintro i w2 rfl ih
    try dsimp only
    refine qN O$ RT O$ QW$ PQ$ An$ PZ O$ Q5 O$ qN O$ RZ O$ Rt O$ PO func173 O ?_
    exact⟨_,rfl,rfl,rfl⟩
 | cons x r =>
   rw[hl] at hR kz hn
   obtain⟨kb,rfl⟩:∃b,ka=some b:=by
    cases ka with
    |none=>have:=kz O;simp at this
    |some b=>exact⟨b,rfl⟩
   obtain⟨lb,lo,lc,e5⟩:∃b o c',Value.slice (some kb) (x::r).length kc= .slice (some ⟨b,o,none⟩) (x::r).length c':=by
    rcases hR.2 with⟨c,hc,h0⟩|⟨b,off,c',hc,-⟩
    ·simp at h0
    ·exact⟨b,off,c',hc⟩
   cases e5;have iH:0<(x::r).length:=by simp
   refine SK (α:=Unit) (()) (λ_=>[(0,ptr c 0),(12,.slice (some ⟨lb,lo,none⟩) (x::r).length kc),(13,I ((x::r).length:Int)),(14,I ((0:Nat):Int))]) (λ_ w'=>w'=w) (λ_=>0) ?hI ?hround
   case hI=>rfl
   case hround=>
    rintro i w2 rfl ih
    try dsimp only
    refine qN O$ RT O$ SM$ PQ$ An$ Qa O$ PR$ RP$ qN O$ qV (Rh SC Rl O O ω)$ qV (QF U3 O O (Rf hR (i:=0) (show((x::r).map I)[0]? =some (I x) from rfl)))$ RZ O$ QA O$ Qd z1E O ?_;refine qV (PX YD O O hB O)$ Q4 O$ qV (ylk (k:=x) (K:=KI) YD (Tm U3) Rl O O h.pins)$ Ss O$ SM$ PQ$ Qa O$ Qx O$ Rt O$ PO func173 O ?_;exact⟨_,rfl,rfl,rfl⟩
def z3G (h:TX w c A V p)(hA:A.Ok)(cJ:A.size<=1000):Qu prog 174 [ptr c 0] w λv w'=>v= .bool (decide (A.once.length+A.often.length=A.size))/\Ext w w':=by
 have hB:=h.cells
 have hh:=hA.held
 obtain⟨a0,c0,e0,-⟩:∃a c,(V 0).1= .slice a A.once.length c/\_:=(h.q 0 ψ).sl.rd.shape
 obtain⟨a1,c1,e1,-⟩:∃a c,(V 1).1= .slice a A.often.length c/\_:=(h.q 1 ψ).sl.rd.shape
 rw[e0,e1] at hB
 have hg:=Ext.Qh w
 refine py (e:=[(0,_)]) func174 O ntmps174 O O$ RN O$ An$ S5 (λw'=>Ext w w') O$ Qi 0 O O (hg)$ PT 1 O (R8 O) hg$ PT 2 O (Qz RJ O) hg$ PT 3 O (Qz Ro O) hg$ qT 4 O (λ_ h=>PX SC O O (h.PN hB) O) hg$ PT 5 O (TP SC O) hg$ Qi 6 O O (hg)$ PT 7 O (R8 O) hg$ PT 8 O (Qz Sw O) hg$ PT 9 O (Qz Ro O) hg ?_
 refine qT 10 O (λ_ h=>PX SC O O (h.PN hB) O) hg$ PT 11 O (TP SC O) hg$ PT 12 O (Wa O O ω) hg$ Qi 13 O O (hg)$ PT 14 O (R8 O) hg$ PT 15 O (Qz TH O) hg$ qT 16 O (λ_ h=>PX U3 O O (h.PN hB) O) hg$ PT 17 O (yeq O O) hg$ PT 18 O (Sv O) hg$ qE$ PO func174 O (⟨_,rfl,?_,hg⟩)
 show Value.bool _=Value.bool _
 congr 1
 exact decide_eq_decide.2 ω
end
def SN (hit:Bool)(g:Option Int):List Value:=[.bool hit,.bool g.isSome,I (g.getD 0)]
abbrev ze3 (hit:Bool)(g:Option Int):Value:= .agg (SN hit g).toArray
section
variable {w w' w2:World}{c p:Nat}{A:Arc}{V V':Nat->Value×Value}{k:Int}
def Arc.Ok.lens (h:A.Ok)(cJ:A.size<=1000)(j:Nat):(A.li j).length<=2000:=by
 have h1:=h.held
 have h2:=h.first
 have h3:=h.total
 have h4:=A.S1
 unfold Arc.li
 split<;>omega
theorem UN (h:TX w c A V p)(hA:A.Ok)(cJ:A.size<=1000)(bo:Bool):Qu prog 175 [ptr c 0,.bool bo] w λv w'=>v=ze3 false (A.room bo).2/\∃V',Xz w c V p w' (A.room bo).1 V':=by
 have iG:=hA.lens cJ 2
 have mx:=hA.lens cJ 3
 have vJ:=hA.tg
 have iH:=hA.pos
 have eY:=hA.nd
 unfold Arc.all at eY
 rw[List.nodup_append] at eY
 obtain⟨nd1,nd2,nd3⟩:=eY
 rw[List.nodup_append] at nd2
 obtain⟨nd4,nd5,nd6⟩:=nd2
 rw[List.nodup_append] at nd5
 obtain⟨nd7,nd8,nd9⟩:=nd5
 have aR:∀{b:Nat},TQ c V p b->b<w.heap.size:=h.lt
 refine py (e:=[(0,_),(1,_)]) func175 O ntmps175 O O$ qN O$ PY O O (SE (cs:=[_,_,_]) QG O) ?_
 rintro _ w1 ⟨b4,rfl,eM,ad,aM⟩
 have pZ:=h.ext ad
 have n4:∀b,TQ c V p b->b≠b4:=λb hb e=>by have:=aR hb;omega
 refine PQ$ QS O$ Qk zfx O (z3G pZ hA cJ) ?_
 rintro _ w2 ⟨rfl,ae⟩
 have bC:=ae.PN aM
 have aG:=ad.trans ae
 have dZ:=h.ext aG
 by_cases cj:¬A.once.length+A.often.length=A.size
 ·rw[decide_eq_false cj];have kA:A.room bo=(A,none):=by unfold Arc.room;rw[if_neg cj]
  refine qV ((T7 O))$ PQ$ Qa O$ qN O$ qV (QB (news:=SN false none) TS O QG O (Q7.cells (n:=3) bC O) O)$ Qb O (QT (news:=SN false none) QG O O O O bC ξ) ?_;rintro w3 ⟨ew,av⟩;replace ew:Q7 w3 b4 [.bool false,.bool false,I 0] 245:=ew;refine PQ$ Qt func175 (.cell TS O QG O (Q7.cells (n:=3) ew (news:=[_,_,_]) O) O .nil) ?_;rw[kA];exact⟨_,rfl,rfl,V,dZ.kp av (λb hb=>n4 b hb),λb hb=> .inl hb,(aG.It av (λj e=>by omega)).kp⟩
 ·have cj := Classical.not_not.1 cj; rw [decide_eq_true cj]; refine qV ((T7 O)) (PQ (PZ O ?_)); have ak := dZ.cells; obtain ⟨a0, c0, e0, -⟩ : ∃ a c, (V 0).1 = .slice a A.once.length c /\ _ := (h.q 0 ψ).sl.rd.shape; rw [e0] at ak; have f0 := WD dZ (j := 0) ψ; have f1 := WD dZ (j := 1) ψ; rw [show A.li 0 = A.once from rfl] at f0; rw [show A.li 1 = A.often from rfl] at f1
  cases ho:A.once with
  | nil =>
    cases hf:A.often with
    | nil =>
      exfalso;rw[ho,hf] at cj;simp at cj
      omega
    | cons x1 r1 =>
      have kA:A.room bo=({A with often:=r1,Qf:=A.Qf++[x1]},some x1):=by unfold Arc.room;rw[if_pos cj,ho,hf]
      have MW:A.once.length=0:=by rw[ho];rfl
      have g0:Z0 A.once= .tuple #[I 0,.bool false]:=by rw[ho];rfl
      have g1:Z0 A.often= .tuple #[I x1,.bool true]:=by rw[hf];rfl
      rw[g0] at f0;rw[g1] at f1;refine PR$ RI O$ QA O$ Qd RJ O$ Qk ZZ O (f0) ?_;rintro _ w2 ⟨rfl,rfl⟩;refine Q4 O$ qV (Sz (v:=I 0) O O)$ qV (Sz (v:= .bool false) O O)$ TN O$ S7 O$ Qp O$ QA O$ Qd Sw O$ Qk ZZ O (f1) ?_;rintro _ w2 ⟨rfl,rfl⟩;refine Q4 O$ qV (Sz (v:=I x1) O O)$ qV (Sz (v:= .bool true) O O)$ Rt O$ Qy.qb (e:=[(0,_),(1,_),(4,_),(5,_),(6,_),(7,_),(8,_)]) ?_;refine Qx O$ QA O$ Qd RJ O$ Qd Ro O$ qV (PX SC O O ak O)$ SR SC O$ RZ O$ UZ O$ QW$ Q4 O$ S6$ S6$ S6$ S6 ?_;refine S6$ S6$ S6$ S6$ qS$ QY O$ Qc O$ Qy.qb (e:=[(0,_),(4,_),(5,_),(6,_),(7,_),(8,_),(10,_)]) ?_;refine An$ RI O$ qS$ QY O$ Qp O$ qV ((T7 O))$ Qp O$ qV ((T7 O))$ Sa O$ QY O$ Re O$ Qx O$ QA O$ Qd Sw O ?_;refine Q4 O$ Qk TY O (Rs dZ (j:=1) (k:=x1) ψ) ?_;rintro _ w3 ⟨rfl,V3,cq⟩;have gV:(A.li 1).erase x1=r1:=by show A.often.erase x1=r1;rw[hf];simp
      rw[gV] at cq
      have ee:x1∉(A.Rx 1 r1).li 3:=by
       show x1∉A.Qf;intro e;exact nd6 x1 (by rw[hf];simp) x1 (by simp[e]) O
      refine qM O$ Q4 O$ QA O$ Qd Sq O$ Q4 O$ Qk UA O (S2 cq.m (j:=3) (k:=x1) ψ ee (by show A.Qf.length<=_;exact Nat.le_trans mx ψ)) ?_;rintro _ w4 ⟨rfl,V4,bH⟩;have hr:=(dZ.r (Ext.refl w2)).trans (cq.trans bH);have cI:=hr.k.PN bC (λe=>n4 _ e O);refine PQ$ Qy.qb (e:=[(4,_),(7,_)]) ?_;refine Qx O$ qV (Tq (cs:=[_,_,_]) QG O Xk O O)$ Qb O (QT (news:=SN false (some x1)) QG O O O O cI ξ) ?_;rintro w5 ⟨aO,aj⟩;replace aO:Q7 w5 b4 [.bool false,.bool true,I x1] 245:=aO;refine PQ$ Qt func175 (.cell TS O QG O (Q7.cells (n:=3) aO (news:=[_,_,_]) O) O .nil) ?_
      have dS:∀b,TQ c V4 p b->b≠b4:=λb hb e=>by
       rcases hr.fp b hb with h5|h5
       ·exact n4 b h5 e
       ·have:=bC.lt;omega
      rw[kA]
      exact⟨_,rfl,rfl,V4,hr.m.kp aj dS,λb hb=>(hr.fp b hb).imp id (λe=>by have:=aG.size;omega),(aG.kp.trans hr.k).It aj (λj e=> .inl ω)⟩
  | cons x0 r0 =>
    have MW:1<=A.once.length:=by rw[ho];simp
    cases hf:A.often with
    | nil =>
      have kA:A.room bo=({A with once:=r0,Qj:=A.Qj++[x0]},some x0):=by unfold Arc.room;rw[if_pos cj,ho,hf]
      have g0:Z0 A.once= .tuple #[I x0,.bool true]:=by rw[ho];rfl
      have g1:Z0 A.often= .tuple #[I 0,.bool false]:=by rw[hf];rfl
      rw[g0] at f0;rw[g1] at f1;refine PR$ RI O$ QA O$ Qd RJ O$ Qk ZZ O (f0) ?_;rintro _ w2 ⟨rfl,rfl⟩;refine Q4 O$ qV (Sz (v:=I x0) O O)$ qV (Sz (v:= .bool true) O O)$ TN O$ S7 O$ Qp O$ QA O$ Qd Sw O$ Qk ZZ O (f1) ?_;rintro _ w2 ⟨rfl,rfl⟩;refine Q4 O$ qV (Sz (v:=I 0) O O)$ qV (Sz (v:= .bool false) O O)$ Rt O$ Qy.qb (e:=[(0,_),(1,_),(4,_),(5,_),(6,_),(7,_),(8,_)]) ?_;refine Qx O$ QA O$ Qd RJ O$ Qd Ro O$ qV (PX SC O O ak O)$ SR SC O$ RZ O$ UZ O$ SM$ Q4 O ?_
      by_cases h1:(A.once.length:Int)>A.target
      ·skip
       refine Qp O$ QA O$ Qd So O$ qV (PX U3 O O ak O)$ RK O$ SM$ Q4 O$ S6$ S6$ S6$ S6$ qS$ Sa O$ Sa O ?_;refine Qc O$ Qy.qb (e:=[(0,_),(4,_),(5,_),(6,_),(7,_),(8,_),(10,_)]) ?_;refine An$ RI O$ Q4 O$ Sa O$ Q4 O$ S6$ S6$ S6$ Sa O$ PQ$ Qa O$ Qx O$ QA O$ Qd RJ O ?_;refine Q4 O$ Qk TY O (Rs dZ (j:=0) (k:=x0) ψ) ?_;rintro _ w3 ⟨rfl,V3,cq⟩;have gV:(A.li 0).erase x0=r0:=by show A.once.erase x0=r0;rw[ho];simp
       rw[gV] at cq
       have ee:x0∉(A.Rx 0 r0).li 2:=by
        show x0∉A.Qj;intro e;exact nd3 x0 (by rw[ho];simp) x0 (by simp[e]) O
       refine qM O$ Q4 O$ QA O$ Qd S3 O$ Q4 O$ Qk UA O (S2 cq.m (j:=2) (k:=x0) ψ ee (by show A.Qj.length<=_;exact Nat.le_trans iG ψ)) ?_;rintro _ w4 ⟨rfl,V4,bH⟩;have hr:=(dZ.r (Ext.refl w2)).trans (cq.trans bH);have cI:=hr.k.PN bC (λe=>n4 _ e O);refine PQ$ Qy.qb (e:=[(0,_),(4,_),(5,_),(7,_)]) ?_;refine Qx O$ qV (Tq (cs:=[_,_,_]) QG O Xk O O)$ Qb O (QT (news:=SN false (some x0)) QG O O O O cI ξ) ?_;rintro w5 ⟨aO,aj⟩;replace aO:Q7 w5 b4 [.bool false,.bool true,I x0] 245:=aO;refine PQ$ Qt func175 (.cell TS O QG O (Q7.cells (n:=3) aO (news:=[_,_,_]) O) O .nil) ?_
       have dS:∀b,TQ c V4 p b->b≠b4:=λb hb e=>by
        rcases hr.fp b hb with h5|h5
        ·exact n4 b h5 e
        ·have:=bC.lt;omega
       rw[kA];exact⟨_,rfl,rfl,V4,hr.m.kp aj dS,λb hb=>(hr.fp b hb).imp id (λe=>by have:=aG.size;omega),(aG.kp.trans hr.k).It aj (λj e=> .inl ω)⟩
      ·refine Qp O$ QA O$ Qd So O$ qV (PX U3 O O ak O)$ RK O$ QW$ Q4 O ?_;by_cases h2:(A.once.length:Int)=A.target
       ·refine Qp O$ QA O$ Qd So O$ qV (PX U3 O O ak O)$ Ss O$ SM$ Q4 O ?_
        cases bo with
        | true =>
          refine Q4 O ?_
          skip
          refine Sa O$ QY O$ Sa O$ Qc O$ Qy.qb (e:=[(0,_),(4,_),(5,_),(6,_),(7,_),(8,_),(10,_)]) ?_;refine An$ RI O$ Q4 O$ Sa O$ Q4 O$ S6$ S6$ S6$ Sa O$ PQ$ Qa O$ Qx O$ QA O$ Qd RJ O ?_;refine Q4 O$ Qk TY O (Rs dZ (j:=0) (k:=x0) ψ) ?_;rintro _ w3 ⟨rfl,V3,cq⟩;have gV:(A.li 0).erase x0=r0:=by show A.once.erase x0=r0;rw[ho];simp
          rw[gV] at cq
          have ee:x0∉(A.Rx 0 r0).li 2:=by
           show x0∉A.Qj;intro e;exact nd3 x0 (by rw[ho];simp) x0 (by simp[e]) O
          refine qM O$ Q4 O$ QA O$ Qd S3 O$ Q4 O$ Qk UA O (S2 cq.m (j:=2) (k:=x0) ψ ee (by show A.Qj.length<=_;exact Nat.le_trans iG ψ)) ?_;rintro _ w4 ⟨rfl,V4,bH⟩;have hr:=(dZ.r (Ext.refl w2)).trans (cq.trans bH);have cI:=hr.k.PN bC (λe=>n4 _ e O);refine PQ$ Qy.qb (e:=[(0,_),(4,_),(5,_),(7,_)]) ?_;refine Qx O$ qV (Tq (cs:=[_,_,_]) QG O Xk O O)$ Qb O (QT (news:=SN false (some x0)) QG O O O O cI ξ) ?_;rintro w5 ⟨aO,aj⟩;replace aO:Q7 w5 b4 [.bool false,.bool true,I x0] 245:=aO;refine PQ$ Qt func175 (.cell TS O QG O (Q7.cells (n:=3) aO (news:=[_,_,_]) O) O .nil) ?_
          have dS:∀b,TQ c V4 p b->b≠b4:=λb hb e=>by
           rcases hr.fp b hb with h5|h5
           ·exact n4 b h5 e
           ·have:=bC.lt;omega
          rw[kA]
          exact⟨_,rfl,rfl,V4,hr.m.kp aj dS,λb hb=>(hr.fp b hb).imp id (λe=>by have:=aG.size;omega),(aG.kp.trans hr.k).It aj (λj e=> .inl ω)⟩
        | false =>
          refine Q4 O ?_
          skip
          refine Sa O$ QY O$ Sa O$ Qc O$ Qy.qb (e:=[(0,_),(4,_),(5,_),(6,_),(7,_),(8,_),(10,_)]) ?_;refine An$ RI O$ qS$ QY O$ Qp O$ qV ((T7 O))$ Qp O$ qV ((T7 O))$ Sa O$ QY O$ PQ$ Qa O$ Qx O$ QA O ?_;refine Qd RJ O$ Q4 O$ Qk TY O (Rs dZ (j:=0) (k:=x0) ψ) ?_;rintro _ w3 ⟨rfl,V3,cq⟩;have gV:(A.li 0).erase x0=r0:=by show A.once.erase x0=r0;rw[ho];simp
          rw[gV] at cq
          have ee:x0∉(A.Rx 0 r0).li 2:=by
           show x0∉A.Qj;intro e;exact nd3 x0 (by rw[ho];simp) x0 (by simp[e]) O
          refine qM O$ Q4 O$ QA O$ Qd S3 O$ Q4 O$ Qk UA O (S2 cq.m (j:=2) (k:=x0) ψ ee (by show A.Qj.length<=_;exact Nat.le_trans iG ψ)) ?_;rintro _ w4 ⟨rfl,V4,bH⟩;have hr:=(dZ.r (Ext.refl w2)).trans (cq.trans bH);have cI:=hr.k.PN bC (λe=>n4 _ e O);refine PQ$ Qy.qb (e:=[(0,_),(4,_),(5,_),(7,_)]) ?_;refine Qx O$ qV (Tq (cs:=[_,_,_]) QG O Xk O O)$ Qb O (QT (news:=SN false (some x0)) QG O O O O cI ξ) ?_;rintro w5 ⟨aO,aj⟩;replace aO:Q7 w5 b4 [.bool false,.bool true,I x0] 245:=aO;refine PQ$ Qt func175 (.cell TS O QG O (Q7.cells (n:=3) aO (news:=[_,_,_]) O) O .nil) ?_
          have dS:∀b,TQ c V4 p b->b≠b4:=λb hb e=>by
           rcases hr.fp b hb with h5|h5
           ·exact n4 b h5 e
           ·have:=bC.lt;omega
          rw[kA];exact⟨_,rfl,rfl,V4,hr.m.kp aj dS,λb hb=>(hr.fp b hb).imp id (λe=>by have:=aG.size;omega),(aG.kp.trans hr.k).It aj (λj e=> .inl ω)⟩
       ·refine Qp O$ QA O$ Qd So O$ qV (PX U3 O O ak O)$ Ss O$ QW$ Q4 O ?_
        skip
        refine qS$ QY O$ QY O$ Sa O$ Qc O$ Qy.qb (e:=[(0,_),(4,_),(5,_),(6,_),(7,_),(8,_),(10,_)]) ?_;refine An$ RI O$ qS$ QY O$ Qp O$ qV ((T7 O))$ Qp O$ qV ((T7 O))$ Sa O$ QY O$ PQ$ Qa O$ Qx O$ QA O ?_;refine Qd RJ O$ Q4 O$ Qk TY O (Rs dZ (j:=0) (k:=x0) ψ) ?_;rintro _ w3 ⟨rfl,V3,cq⟩;have gV:(A.li 0).erase x0=r0:=by show A.once.erase x0=r0;rw[ho];simp
        rw[gV] at cq
        have ee:x0∉(A.Rx 0 r0).li 2:=by
         show x0∉A.Qj;intro e;exact nd3 x0 (by rw[ho];simp) x0 (by simp[e]) O
        refine qM O$ Q4 O$ QA O$ Qd S3 O$ Q4 O$ Qk UA O (S2 cq.m (j:=2) (k:=x0) ψ ee (by show A.Qj.length<=_;exact Nat.le_trans iG ψ)) ?_;rintro _ w4 ⟨rfl,V4,bH⟩;have hr:=(dZ.r (Ext.refl w2)).trans (cq.trans bH);have cI:=hr.k.PN bC (λe=>n4 _ e O);refine PQ$ Qy.qb (e:=[(0,_),(4,_),(5,_),(7,_)]) ?_;refine Qx O$ qV (Tq (cs:=[_,_,_]) QG O Xk O O)$ Qb O (QT (news:=SN false (some x0)) QG O O O O cI ξ) ?_;rintro w5 ⟨aO,aj⟩;replace aO:Q7 w5 b4 [.bool false,.bool true,I x0] 245:=aO;refine PQ$ Qt func175 (.cell TS O QG O (Q7.cells (n:=3) aO (news:=[_,_,_]) O) O .nil) ?_
        have dS:∀b,TQ c V4 p b->b≠b4:=λb hb e=>by
         rcases hr.fp b hb with h5|h5
         ·exact n4 b h5 e
         ·have:=bC.lt;omega
        rw[kA]
        exact⟨_,rfl,rfl,V4,hr.m.kp aj dS,λb hb=>(hr.fp b hb).imp id (λe=>by have:=aG.size;omega),(aG.kp.trans hr.k).It aj (λj e=> .inl ω)⟩
    | cons x1 r1 =>
      have g0:Z0 A.once= .tuple #[I x0,.bool true]:=by rw[ho];rfl
      have g1:Z0 A.often= .tuple #[I x1,.bool true]:=by rw[hf];rfl
      rw[g0] at f0;rw[g1] at f1;refine PR$ RI O$ QA O$ Qd RJ O$ Qk ZZ O (f0) ?_;rintro _ w2 ⟨rfl,rfl⟩;refine Q4 O$ qV (Sz (v:=I x0) O O)$ qV (Sz (v:= .bool true) O O)$ TN O$ S7 O$ Qp O$ QA O$ Qd Sw O$ Qk ZZ O (f1) ?_;rintro _ w2 ⟨rfl,rfl⟩;refine Q4 O$ qV (Sz (v:=I x1) O O)$ qV (Sz (v:= .bool true) O O)$ Rt O$ Qy.qb (e:=[(0,_),(1,_),(4,_),(5,_),(6,_),(7,_),(8,_)]) ?_;refine Qx O$ QA O$ Qd RJ O$ Qd Ro O$ qV (PX SC O O ak O)$ SR SC O$ RZ O$ UZ O$ SM$ Q4 O ?_
      by_cases h1:(A.once.length:Int)>A.target
      ·have kA:A.room bo=({A with once:=r0,Qj:=A.Qj++[x0]},some x0):=by unfold Arc.room;rw[if_pos cj,ho,hf];exact if_pos (by rw[<-ho];exact .inl h1)
       refine Qp O$ QA O$ Qd So O$ qV (PX U3 O O ak O)$ RK O$ SM$ Q4 O$ S6$ S6$ S6$ S6$ qS$ Sa O$ Sa O ?_;refine Qc O$ Qy.qb (e:=[(0,_),(4,_),(5,_),(6,_),(7,_),(8,_),(10,_)]) ?_;refine An$ RI O$ Q4 O$ Sa O$ Q4 O$ S6$ S6$ S6$ Sa O$ PQ$ Qa O$ Qx O$ QA O$ Qd RJ O ?_;refine Q4 O$ Qk TY O (Rs dZ (j:=0) (k:=x0) ψ) ?_;rintro _ w3 ⟨rfl,V3,cq⟩;have gV:(A.li 0).erase x0=r0:=by show A.once.erase x0=r0;rw[ho];simp
       rw[gV] at cq
       have ee:x0∉(A.Rx 0 r0).li 2:=by
        show x0∉A.Qj;intro e;exact nd3 x0 (by rw[ho];simp) x0 (by simp[e]) O
       refine qM O$ Q4 O$ QA O$ Qd S3 O$ Q4 O$ Qk UA O (S2 cq.m (j:=2) (k:=x0) ψ ee (by show A.Qj.length<=_;exact Nat.le_trans iG ψ)) ?_;rintro _ w4 ⟨rfl,V4,bH⟩;have hr:=(dZ.r (Ext.refl w2)).trans (cq.trans bH);have cI:=hr.k.PN bC (λe=>n4 _ e O);refine PQ$ Qy.qb (e:=[(0,_),(4,_),(5,_),(7,_)]) ?_;refine Qx O$ qV (Tq (cs:=[_,_,_]) QG O Xk O O)$ Qb O (QT (news:=SN false (some x0)) QG O O O O cI ξ) ?_;rintro w5 ⟨aO,aj⟩;replace aO:Q7 w5 b4 [.bool false,.bool true,I x0] 245:=aO;refine PQ$ Qt func175 (.cell TS O QG O (Q7.cells (n:=3) aO (news:=[_,_,_]) O) O .nil) ?_
       have dS:∀b,TQ c V4 p b->b≠b4:=λb hb e=>by
        rcases hr.fp b hb with h5|h5
        ·exact n4 b h5 e
        ·have:=bC.lt;omega
       rw[kA];exact⟨_,rfl,rfl,V4,hr.m.kp aj dS,λb hb=>(hr.fp b hb).imp id (λe=>by have:=aG.size;omega),(aG.kp.trans hr.k).It aj (λj e=> .inl ω)⟩
      ·refine Qp O$ QA O$ Qd So O$ qV (PX U3 O O ak O)$ RK O$ QW$ Q4 O ?_;by_cases h2:(A.once.length:Int)=A.target
       ·refine Qp O$ QA O$ Qd So O$ qV (PX U3 O O ak O)$ Ss O$ SM$ Q4 O ?_
        cases bo with
        | true =>
          refine Q4 O ?_;have kA:A.room true=({A with once:=r0,Qj:=A.Qj++[x0]},some x0):=by unfold Arc.room;rw[if_pos cj,ho,hf];exact if_pos (by rw[<-ho];exact .inr ⟨h2,rfl⟩)
          refine Sa O$ QY O$ Sa O$ Qc O$ Qy.qb (e:=[(0,_),(4,_),(5,_),(6,_),(7,_),(8,_),(10,_)]) ?_;refine An$ RI O$ Q4 O$ Sa O$ Q4 O$ S6$ S6$ S6$ Sa O$ PQ$ Qa O$ Qx O$ QA O$ Qd RJ O ?_;refine Q4 O$ Qk TY O (Rs dZ (j:=0) (k:=x0) ψ) ?_;rintro _ w3 ⟨rfl,V3,cq⟩;have gV:(A.li 0).erase x0=r0:=by show A.once.erase x0=r0;rw[ho];simp
          rw[gV] at cq
          have ee:x0∉(A.Rx 0 r0).li 2:=by
           show x0∉A.Qj;intro e;exact nd3 x0 (by rw[ho];simp) x0 (by simp[e]) O
          refine qM O$ Q4 O$ QA O$ Qd S3 O$ Q4 O$ Qk UA O (S2 cq.m (j:=2) (k:=x0) ψ ee (by show A.Qj.length<=_;exact Nat.le_trans iG ψ)) ?_;rintro _ w4 ⟨rfl,V4,bH⟩;have hr:=(dZ.r (Ext.refl w2)).trans (cq.trans bH);have cI:=hr.k.PN bC (λe=>n4 _ e O);refine PQ$ Qy.qb (e:=[(0,_),(4,_),(5,_),(7,_)]) ?_;refine Qx O$ qV (Tq (cs:=[_,_,_]) QG O Xk O O)$ Qb O (QT (news:=SN false (some x0)) QG O O O O cI ξ) ?_;rintro w5 ⟨aO,aj⟩;replace aO:Q7 w5 b4 [.bool false,.bool true,I x0] 245:=aO;refine PQ$ Qt func175 (.cell TS O QG O (Q7.cells (n:=3) aO (news:=[_,_,_]) O) O .nil) ?_
          have dS:∀b,TQ c V4 p b->b≠b4:=λb hb e=>by
           rcases hr.fp b hb with h5|h5
           ·exact n4 b h5 e
           ·have:=bC.lt;omega
          rw[kA]
          exact⟨_,rfl,rfl,V4,hr.m.kp aj dS,λb hb=>(hr.fp b hb).imp id (λe=>by have:=aG.size;omega),(aG.kp.trans hr.k).It aj (λj e=> .inl ω)⟩
        | false =>
          refine Q4 O ?_;have kA:A.room false=({A with often:=r1,Qf:=A.Qf++[x1]},some x1):=by unfold Arc.room;rw[if_pos cj,ho,hf];exact if_neg (by rw[<-ho];rintro(e|⟨e,e2⟩);exact h1 e;cases e2)
          refine Sa O$ QY O$ Sa O$ Qc O$ Qy.qb (e:=[(0,_),(4,_),(5,_),(6,_),(7,_),(8,_),(10,_)]) ?_;refine An$ RI O$ qS$ QY O$ Qp O$ qV ((T7 O))$ Qp O$ qV ((T7 O))$ Sa O$ QY O$ Re O$ Qx O$ QA O$ Qd Sw O ?_;refine Q4 O$ Qk TY O (Rs dZ (j:=1) (k:=x1) ψ) ?_;rintro _ w3 ⟨rfl,V3,cq⟩;have gV:(A.li 1).erase x1=r1:=by show A.often.erase x1=r1;rw[hf];simp
          rw[gV] at cq
          have ee:x1∉(A.Rx 1 r1).li 3:=by
           show x1∉A.Qf;intro e;exact nd6 x1 (by rw[hf];simp) x1 (by simp[e]) O
          refine qM O$ Q4 O$ QA O$ Qd Sq O$ Q4 O$ Qk UA O (S2 cq.m (j:=3) (k:=x1) ψ ee (by show A.Qf.length<=_;exact Nat.le_trans mx ψ)) ?_;rintro _ w4 ⟨rfl,V4,bH⟩;have hr:=(dZ.r (Ext.refl w2)).trans (cq.trans bH);have cI:=hr.k.PN bC (λe=>n4 _ e O);refine PQ$ Qy.qb (e:=[(4,_),(7,_)]) ?_;refine Qx O$ qV (Tq (cs:=[_,_,_]) QG O Xk O O)$ Qb O (QT (news:=SN false (some x1)) QG O O O O cI ξ) ?_;rintro w5 ⟨aO,aj⟩;replace aO:Q7 w5 b4 [.bool false,.bool true,I x1] 245:=aO;refine PQ$ Qt func175 (.cell TS O QG O (Q7.cells (n:=3) aO (news:=[_,_,_]) O) O .nil) ?_
          have dS:∀b,TQ c V4 p b->b≠b4:=λb hb e=>by
           rcases hr.fp b hb with h5|h5
           ·exact n4 b h5 e
           ·have:=bC.lt;omega
          rw[kA];exact⟨_,rfl,rfl,V4,hr.m.kp aj dS,λb hb=>(hr.fp b hb).imp id (λe=>by have:=aG.size;omega),(aG.kp.trans hr.k).It aj (λj e=> .inl ω)⟩
       ·refine Qp O$ QA O$ Qd So O$ qV (PX U3 O O ak O)$ Ss O$ QW$ Q4 O ?_;have kA:A.room bo=({A with often:=r1,Qf:=A.Qf++[x1]},some x1):=by unfold Arc.room;rw[if_pos cj,ho,hf];exact if_neg (by rw[<-ho];rintro(e|⟨e,e2⟩);exact h1 e;exact h2 e)
        refine qS$ QY O$ QY O$ Sa O$ Qc O$ Qy.qb (e:=[(0,_),(4,_),(5,_),(6,_),(7,_),(8,_),(10,_)]) ?_;refine An$ RI O$ qS$ QY O$ Qp O$ qV ((T7 O))$ Qp O$ qV ((T7 O))$ Sa O$ QY O$ Re O$ Qx O$ QA O$ Qd Sw O ?_;refine Q4 O$ Qk TY O (Rs dZ (j:=1) (k:=x1) ψ) ?_;rintro _ w3 ⟨rfl,V3,cq⟩;have gV:(A.li 1).erase x1=r1:=by show A.often.erase x1=r1;rw[hf];simp
        rw[gV] at cq
        have ee:x1∉(A.Rx 1 r1).li 3:=by
         show x1∉A.Qf;intro e;exact nd6 x1 (by rw[hf];simp) x1 (by simp[e]) O
        refine qM O$ Q4 O$ QA O$ Qd Sq O$ Q4 O$ Qk UA O (S2 cq.m (j:=3) (k:=x1) ψ ee (by show A.Qf.length<=_;exact Nat.le_trans mx ψ)) ?_;rintro _ w4 ⟨rfl,V4,bH⟩;have hr:=(dZ.r (Ext.refl w2)).trans (cq.trans bH);have cI:=hr.k.PN bC (λe=>n4 _ e O);refine PQ$ Qy.qb (e:=[(4,_),(7,_)]) ?_;refine Qx O$ qV (Tq (cs:=[_,_,_]) QG O Xk O O)$ Qb O (QT (news:=SN false (some x1)) QG O O O O cI ξ) ?_;rintro w5 ⟨aO,aj⟩;replace aO:Q7 w5 b4 [.bool false,.bool true,I x1] 245:=aO;refine PQ$ Qt func175 (.cell TS O QG O (Q7.cells (n:=3) aO (news:=[_,_,_]) O) O .nil) ?_
        have dS:∀b,TQ c V4 p b->b≠b4:=λb hb e=>by
         rcases hr.fp b hb with h5|h5
         ·exact n4 b h5 e
         ·have:=bC.lt;omega
        rw[kA];exact⟨_,rfl,rfl,V4,hr.m.kp aj dS,λb hb=>(hr.fp b hb).imp id (λe=>by have:=aG.size;omega),(aG.kp.trans hr.k).It aj (λj e=> .inl ω)⟩
end
def Arc.Ok.ziS {A:Arc}(h:A.Ok):(A.Rx 2 (A.Qj.drop 1)).Ok:=by
 have hs:(A.Rx 2 (A.Qj.drop 1)).all.Sublist A.all:=(((List.drop_sublist 1 A.Qj).append_right A.Qf).append_left A.often).append_left A.once
 have:=h.first
 have h2:=hs.length_le
 have h3:=h.total
 exact⟨h.pos,h.nd.sublist hs,h.held,by show A.once.length+(A.Qj.drop 1).length<=A.size;rw[List.length_drop];omega,Nat.le_trans h2 h3,h.tg⟩
def Arc.Ok.zhm {A:Arc}(h:A.Ok):(A.Rx 3 (A.Qf.drop 1)).Ok:=by
 have hs:(A.Rx 3 (A.Qf.drop 1)).all.Sublist A.all:=(((List.drop_sublist 1 A.Qf).append_left A.Qj).append_left A.often).append_left A.once
 exact⟨h.pos,h.nd.sublist hs,h.held,h.first,Nat.le_trans hs.length_le h.total,h.tg⟩
section
variable {w w' w2:World}{c p:Nat}{A A':Arc}{V V':Nat->Value×Value}{k:Int}
def TX.head (h:TX w c A V p){j:Nat}(hj:j<4){x:Int}{r:List Int}(hl:A.li j=x::r):∃b o cp,(V j).1= .slice (some ⟨b,o,none⟩) (A.li j).length cp/\w.cell? ⟨b,o+0*1,none⟩=some (I x):=by
 have hR:=(h.q j hj).sl.rd
 rcases hR.2 with⟨c,hc,h0⟩|⟨b,off,c',hc,-⟩
 ·rw[hl] at h0;simp at h0
 ·rw[hc] at hR;exact⟨b,off,c',hc,Rf hR (i:=0) (by rw[hl];rfl)⟩
theorem z2O (h:TX w c A V p)(hA:A.Ok)(cJ:A.size<=1000):Qu prog 176 [ptr c 0] w λv w'=>v=ze3 false A.add.2/\∃V',Xz w c V p w' A.add.1 V':=by
 have iK:=hA.lens cJ 0
 have jn:=hA.lens cJ 1
 have iG:=hA.lens cJ 2
 have mx:=hA.lens cJ 3
 have iH:=hA.pos
 have cH:=A.S1
 have xD:=hA.held
 have Pk:=hA.first
 have fh:=hA.total
 have aR:∀{b:Nat},TQ c V p b->b<w.heap.size:=h.lt
 rw[show A.li 0=A.once from rfl] at iK
 rw[show A.li 1=A.often from rfl] at jn
 rw[show A.li 2=A.Qj from rfl] at iG
 rw[show A.li 3=A.Qf from rfl] at mx
 have hB:=h.cells
 obtain⟨a0,c0,e0,-⟩:∃a c,(V 0).1= .slice a A.once.length c/\_:=(h.q 0 ψ).sl.rd.shape
 obtain⟨a1,c1,e1,-⟩:∃a c,(V 1).1= .slice a A.often.length c/\_:=(h.q 1 ψ).sl.rd.shape
 obtain⟨a2,c2,e2,-⟩:∃a c,(V 2).1= .slice a A.Qj.length c/\_:=(h.q 2 ψ).sl.rd.shape
 obtain⟨a3,c3,e3,-⟩:∃a c,(V 3).1= .slice a A.Qf.length c/\_:=(h.q 3 ψ).sl.rd.shape
 rw[e0,e1,e2,e3] at hB
 refine py (e:=[(0,_)]) func176 O ntmps176 O O$ qN O$ PY O O (SE (cs:=[_,_,_]) QG O) ?_
 rintro _ w1 ⟨b2,rfl,bO,ad,ak⟩
 replace ak:Q7 w1 b2 [.bool false,.bool false,I 0] 245:=ak
 have n2:∀b,TQ c V p b->b≠b2:=λb hb e=>by have:=aR hb;omega
 have ai:=ad.PN hB
 have aT:=Ext.Qh w1
 refine PQ$ An$ S5 (λw'=>Ext w1 w') O$ Qi 0 O O (aT)$ PT 1 O (R8 O) aT$ PT 2 O (Qz RJ O) aT$ PT 3 O (Qz Ro O) aT$ qT 4 O (λ_ h=>PX SC O O (h.PN ai) O) aT$ PT 5 O (TP SC O) aT$ Qi 6 O O (aT)$ PT 7 O (R8 O) aT$ PT 8 O (Qz S3 O) aT$ PT 9 O (Qz Ro O) aT$ qT 10 O (λ_ h=>PX SC O O (h.PN ai) O) aT ?_
 refine PT 11 O (TP SC O) aT$ PT 12 O (Wa O O ω) aT$ PT 13 O (Sv O) aT$ qE$ An ?_
 rw[show(A.once.length:Int)+(A.Qj.length:Int)=((A.once.length+A.Qj.length:Nat):Int) by omega]
 have aa:=Ext.Qh w1.drew
 have lD:=aT.PN ai
 refine S5 (λw'=>Ext w1.drew w') O$ Qi 0 O O (aa)$ Qi 1 O O (aa)$ PT 2 O (R8 O) aa$ PT 3 O (Qz Sw O) aa$ PT 4 O (Qz Ro O) aa$ qT 5 O (λ_ h=>PX SC O O (h.PN lD) O) aa$ PT 6 O (TP SC O) aa$ PT 7 O (Wa O O ω) aa$ Qi 8 O O (aa)$ PT 9 O (R8 O) aa$ PT 10 O (Qz Sq O) aa$ PT 11 O (Qz Ro O) aa$ qT 12 O (λ_ h=>PX SC O O (h.PN lD) O) aa ?_
 refine PT 13 O (TP SC O) aa$ PT 14 O (Wa O O ω) aa$ PT 15 O (Sv O) aa ?_
 rw[show((A.once.length+A.Qj.length:Nat):Int)+(A.often.length:Int)+(A.Qf.length:Int)=(A.all.length:Int) by omega]
 have ae:=(ad.trans aT).trans aa
 obtain⟨w2,mz⟩:∃w2,w1.drew.drew=w2:=⟨_,rfl⟩
 rw[mz] at ae
 have aI:=aT.trans aa
 rw[mz] at aI⊢
 have h2:=h.ext ae
 have nq:=h2.cells
 rw[e0,e1,e2,e3] at nq
 have gF:=aI.PN ak
 have ag:=Ext.Qh w2
 refine qE$ Qy.qb (e:=[(0,_),(2,_),(3,_),(4,_)]) ?_
 refine An$ QH (λe' w'=>e'=[(0,ptr c 0),(2,ptr b2 0)]/\∃A' V',A'.Ok/\A'.size=A.size/\Xz w2 c V p w' A' V'/\Q7 w' b2 [.bool false,.bool false,I 0] 245/\A.add=A'.room false/\w2.heap.size<=w'.heap.size) ?db$ λdb=>?j3
 case db=>
  rintro e' w3 ⟨rfl,A',V',MX,Az,cq,aw,eg,z3⟩;refine Qx O$ Qk z2a O (UN cq.m MX ω false) ?_;rintro _ w4 ⟨rfl,V4,bH⟩;have hr:=cq.trans bH
  have n3:∀b,TQ c V' p b->b≠b2:=λb hb e=>by
   rcases cq.fp b hb with h5|h5
   ·exact n2 b h5 e
   ·have:=gF.lt;omega
  have n4:∀b,TQ c V4 p b->b≠b2:=λb hb e=>by
   rcases hr.fp b hb with h5|h5
   ·exact n2 b h5 e
   ·have:=gF.lt;omega
  have fP:=bH.k.PN aw (λe=>n3 _ e O);obtain⟨g,hg⟩:∃g,(A'.room false).2=g:=⟨_,rfl⟩;rw[hg];refine Qb O (QT (news:=SN false g) QG O O O O fP ξ) ?_;rintro w5 ⟨dL,aj⟩;replace dL:Q7 w5 b2 [.bool false,.bool g.isSome,I (g.getD 0)] 245:=dL;refine PQ$ Qt func176 (.cell TS O QG O (Q7.cells (n:=3) dL (news:=[_,_,_]) O) O .nil) ?_;rw[eg,hg];have z1:=ad.size;have z2:=ae.size;exact⟨_,rfl,rfl,V4,hr.m.kp aj n4,λb hb=>(hr.fp b hb).imp id (λe=>by omega),(ae.kp.trans hr.k).It aj (λj e=> .inl ω)⟩
 case j3 =>
  have e13:(A.all.length:Int)=(A.all.length:Int):=rfl;have h3:=h2.ext ag;have rK:=ag.PN nq;have bG:=ag.PN gF;have z1:=ad.size;have z2:=ae.size;by_cases hf:A.once.length+A.Qj.length=A.size
  ·by_cases ho:A.once.length<A.size
   ·refine PS$ An$ S5 (λw'=>Ext w2 w') O$ Qi 0 O O (ag)$ Qi 1 O O (ag)$ PT 2 O (R8 O) ag$ PT 3 O (Qz TH O) ag$ qT 4 O (λ_ h=>PX U3 O O (h.PN nq) O) ag$ PT 5 O (yeq O O) ag$ Vd$ Qi 6 O O (ag)$ Qi 7 O O (ag)$ PT 8 O (R8 O) ag$ PT 9 O (Qz RJ O) ag ?_;refine PT 10 O (Qz Ro O) ag$ qT 11 O (λ_ h=>PX SC O O (h.PN nq) O) ag$ PT 12 O (TP SC O) ag$ Qi 13 O O (ag)$ PT 14 O (R8 O) ag$ PT 15 O (Qz TH O) ag$ qT 16 O (λ_ h=>PX U3 O O (h.PN nq) O) ag$ PT 17 O (ylt O O) ag$ Vd$ PT 18 O (W2 O O) ag$ PT 19 O (Sv O) ag$ qE$ Qa O ?_
    obtain⟨x,r,hw⟩:∃x r,A.Qj=x::r:=by
     cases hx:A.Qj with
     |nil=>rw[hx] at hf;simp at hf;omega
     |cons x r=>exact⟨x,r,rfl⟩
    obtain⟨lb,lo,lc,AA,-⟩:=h2.head (j:=2) ψ hw;rw[e2] at AA;cases AA;have dc:=(h3.q 2 ψ).sl.rd;rw[e2] at dc;have th:0<A.Qj.length:=by rw[hw];simp
    have ku:((A.li 2).map I)[0]? =some (I x):=by show(A.Qj.map I)[0]? =_;rw[hw];rfl
    have af:=Ext.Qh w2.drew;refine Qn [10] (λw'=>Ext w2.drew w') (by kernel_rfl) O$ R1 0 O O (af)$ Qs 1 O (R8 O) af$ Qs 2 O (Qz S3 O) af$ R1 3 O O (af)$ Qs 4 O (R8 O) af$ Qs 5 O (Qz S3 O) af$ Qs 6 O (Qz Ro O) af$ qL 7 O (λ_ h=>PX SC O O (h.PN (ag.PN nq)) O) af$ Qs 8 O (Rh SC Rl O O ω) af$ qL 9 O (λ_ h=>QF U3 O O (Rf (dc.ext h) (i:=0) ku)) af$ Ut [10]$ T9 10 O TY O (Rs (h3.ext af) (j:=2) (k:=x) ψ) ?_;rintro _ w5 ⟨rfl,V5,bP⟩;refine⟨trivial,?_⟩;have AB:(A.li 2).erase x=A.Qj.drop 1:=by show A.Qj.erase x=A.Qj.drop 1;rw[hw];simp
    rw[AB] at bP;have fD:=(h2.r (ag.trans af)).trans bP;have dL:=fD.k.PN gF (λe=>n2 _ e O);refine qE$ Qy.qb (e:=[(0,_),(2,_)]) ?_;refine PM ?_;exact(db _ _ ⟨rfl,_,V5,hA.ziS,(z1y A (j:=2) ψ _).1,fD,dL,by unfold Arc.add;rw[if_pos hf,if_pos ho];rfl,fD.k.size⟩).qb
   ·refine PS$ An$ S5 (λw'=>Ext w2 w') O$ Qi 0 O O (ag)$ Qi 1 O O (ag)$ PT 2 O (R8 O) ag$ PT 3 O (Qz TH O) ag$ qT 4 O (λ_ h=>PX U3 O O (h.PN nq) O) ag$ PT 5 O (yeq O O) ag$ Vd$ Qi 6 O O (ag)$ Qi 7 O O (ag)$ PT 8 O (R8 O) ag$ PT 9 O (Qz RJ O) ag ?_;refine PT 10 O (Qz Ro O) ag$ qT 11 O (λ_ h=>PX SC O O (h.PN nq) O) ag$ PT 12 O (TP SC O) ag$ Qi 13 O O (ag)$ PT 14 O (R8 O) ag$ PT 15 O (Qz TH O) ag$ qT 16 O (λ_ h=>PX U3 O O (h.PN nq) O) ag$ PT 17 O (ylt O O) ag$ UQ$ PT 18 O (W2 O O) ag$ PT 19 O (Sv O) ag$ qE$ PZ O$ RI O ?_;refine QA O$ Qd TH O$ qV (PX U3 O O rK O)$ Ss O$ SM$ Qc O$ Qy.qb (e:=[(0,_),(2,_),(4,_),(66,_)]) ?_;refine Qa O$ RI O$ QA O$ Qd RJ O ?_
    obtain⟨x,r,hw⟩:∃x r,A.once=x::r:=by
     cases hx:A.once with
     |nil=>rw[hx] at ho;simp at ho;omega
     |cons x r=>exact⟨x,r,rfl⟩
    have f0:=WD h3 (j:=0) ψ;rw[show A.li 0=A.once from rfl,show Z0 A.once= .tuple #[I x,.bool true] by rw[hw];rfl] at f0;obtain⟨w3,rL⟩:∃w3,w2.drew=w3:=⟨_,rfl⟩;rw[rL] at f0 h3 bG ag⊢;refine Qk ZZ O (f0) ?_;rintro _ w3 ⟨rfl,rfl⟩;refine Q4 O$ qV (Sz (v:=I x) O O)$ qV (Sz (v:= .bool true) O O)$ TN O$ RZ O$ QA O$ Qd RJ O$ Q4 O$ Qk TY O (Rs h3 (j:=0) (k:=x) ψ) ?_;rintro _ w5 ⟨rfl,V5,bP⟩;have AB:(A.li 0).erase x=A.once.drop 1:=by show A.once.erase x=A.once.drop 1;rw[hw];simp
    rw[AB] at bP;have fD:=(h2.r ag).trans bP;have dL:=fD.k.PN gF (λe=>n2 _ e O);refine qM O$ Q4 O$ qV (Tq (cs:=[_,_,_]) QG O Xk O O)$ Qb O (QT (news:=SN false (some x)) QG O O O O dL ξ) ?_;rintro w6 ⟨cL,aL⟩;replace cL:Q7 w6 b2 [.bool false,.bool true,I x] 245:=cL;refine PQ$ Qt func176 (.cell TS O QG O (Q7.cells (n:=3) cL (news:=[_,_,_]) O) O .nil) ?_
    have n5:∀b,TQ c V5 p b->b≠b2:=λb hb e=>by
     rcases fD.fp b hb with h5|h5
     ·exact n2 b h5 e
     ·have:=gF.lt;omega
    have eg:A.add=(A.Rx 0 (A.once.drop 1),some x):=by unfold Arc.add;rw[if_pos hf,if_neg ho,hw];rfl
    rw[eg];exact⟨_,rfl,rfl,V5,fD.m.kp aL n5,λb hb=>(fD.fp b hb).imp id (λe=>by omega),(ae.kp.trans fD.k).It aL (λj e=> .inl ω)⟩
  ·refine PS$ An$ S5 (λw'=>Ext w2 w') O$ Qi 0 O O (ag)$ Qi 1 O O (ag)$ PT 2 O (R8 O) ag$ PT 3 O (Qz TH O) ag$ qT 4 O (λ_ h=>PX U3 O O (h.PN nq) O) ag$ PT 5 O (yeq O O) ag$ UQ$ Qi 6 O O (ag)$ qJ 7 O (ag)$ qJ 8 O (ag)$ qJ 9 O (ag) ?_;refine qJ 10 O (ag)$ qJ 11 O (ag)$ qJ 12 O (ag)$ qJ 13 O (ag)$ qJ 14 O (ag)$ qJ 15 O (ag)$ qJ 16 O (ag)$ qJ 17 O (ag)$ PT 18 O (Vt O O) ag$ PT 19 O (Sv O) ag$ qE$ PZ O$ RI O$ QA O ?_;refine Qd TH O$ qV (PX U3 O O rK O)$ Ss O$ QW$ Qc O$ Qy.qb (e:=[(0,_),(2,_),(4,_),(66,_)]) ?_;refine PZ O$ RI O$ QA O$ Qd TH O$ qV (PX U3 O O rK O) ?_;by_cases h4:A.all.length<A.size
   ·refine RT O$ SM$ Qc O$ Qa O$ qN O$ qV (Tq (cs:=[_,_,_]) QG O Xk O O)$ Qb O (QT (news:=SN false none) QG O O O O bG ξ) ?_;rintro w5 ⟨dL,aj⟩;replace dL:Q7 w5 b2 [.bool false,.bool false,I 0] 245:=dL;refine PQ$ Qt func176 (.cell TS O QG O (Q7.cells (n:=3) dL (news:=[_,_,_]) O) O .nil) ?_;have eg:A.add=(A,none):=by unfold Arc.add;rw[if_neg hf,if_pos h4]
    rw[eg];exact⟨_,rfl,rfl,V,h3.kp aj n2,λb hb=> .inl hb,((ae.trans ag).It aj (λj e=>by omega)).kp⟩
   ·refine RT O$ QW$ Qc O$ PZ O$ RI O$ QA O$ Qd TH O$ qV (PX U3 O O rK O)$ qV (Xq O O ω) ?_;by_cases h5:A.all.length=2*A.size
    ·refine Ss O$ SM$ Qc O$ Qa O ?_
     obtain⟨x,r,hw⟩:∃x r,A.Qf=x::r:=by
      cases hx:A.Qf with
      |nil=>rw[hx] at cH;simp at cH;omega
      |cons x r=>exact⟨x,r,rfl⟩
     obtain⟨lb,lo,lc,AA,-⟩:=h2.head (j:=3) ψ hw;rw[e3] at AA;cases AA;have dc:=(h3.q 3 ψ).sl.rd;rw[e3] at dc;have th:0<A.Qf.length:=by rw[hw];simp
     have ku:((A.li 3).map I)[0]? =some (I x):=by show(A.Qf.map I)[0]? =_;rw[hw];rfl
     have af:=Ext.Qh w2.drew;refine Qn [10] (λw'=>Ext w2.drew w') (by kernel_rfl) O$ R1 0 O O (af)$ Qs 1 O (R8 O) af$ Qs 2 O (Qz Sq O) af$ R1 3 O O (af)$ Qs 4 O (R8 O) af$ Qs 5 O (Qz Sq O) af$ Qs 6 O (Qz Ro O) af$ qL 7 O (λ_ h=>PX SC O O (h.PN (ag.PN nq)) O) af$ Qs 8 O (Rh SC Rl O O ω) af$ qL 9 O (λ_ h=>QF U3 O O (Rf (dc.ext h) (i:=0) ku)) af$ Ut [10]$ T9 10 O TY O (Rs (h3.ext af) (j:=3) (k:=x) ψ) ?_;rintro _ w5 ⟨rfl,V5,bP⟩;refine⟨trivial,?_⟩;have AB:(A.li 3).erase x=A.Qf.drop 1:=by show A.Qf.erase x=A.Qf.drop 1;rw[hw];simp
     rw[AB] at bP;have fD:=(h2.r (ag.trans af)).trans bP;have dL:=fD.k.PN gF (λe=>n2 _ e O);refine qE$ Qy.qb (e:=[(0,_),(2,_)]) ?_;refine PM ?_;exact(db _ _ ⟨rfl,_,V5,hA.zhm,(z1y A (j:=3) ψ _).1,fD,dL,by unfold Arc.add;rw[if_neg hf,if_neg h4,if_pos h5];rfl,fD.k.size⟩).qb
    ·refine Ss O$ QW$ Qc O$ TT O$ PM ?_;exact(db _ _ ⟨rfl,A,V,hA,rfl,h2.r ag,bG,by unfold Arc.add;rw[if_neg hf,if_neg h4,if_neg h5],ag.size⟩).qb
end
section
variable {w w' w2:World}{c p:Nat}{A A':Arc}{V V' V2:Nat->Value×Value}{k:Int}
def TX.z0l (h:TX w c A V p){T:Int}(hB:Q7 w' c (acC A.size T V p) 173)(hk:Kp (λb=>b=c) w w'):Xz w c V p w' {A with target:=T} V:=
 ⟨⟨hB,λj hj=>by
  have e:({A with target:=T}:Arc).li j=A.li j:=by match j,hj with|0,_|1,_|2,_|3,_=>rfl
  rw[e]
  exact(h.q j hj).kp hk λb hb e=>h.nc j hj (e▸hb),hk.map h.pins (λe=>h.cp e.symm),h.WB,h.nc,h.np,h.cp⟩,λb hb=> .inl hb,hk.PU λb e=> .inl e⟩
def Arc.Ok.z0l (h:A.Ok){T:Int}(hT:0<=T/\T<=A.size):({A with target:=T}:Arc).Ok:=⟨h.pos,h.nd,h.held,h.first,h.total,hT⟩
def Xz.mono (h:Xz w c V p w' A' V'){b:Nat}(hb:∀j,TQ c V p j->j≠b)(hw:b<w.heap.size):∀j,TQ c V' p j->j≠b:=λj hj e=>by
 rcases h.fp j hj with h5|h5
 ·exact hb j h5 e
 ·omega
theorem z7u (h:TX w c A V p)(hA:A.Ok)(cJ:A.size<=1000):Qu prog 143 [ptr c 0,I k] w λv w'=>v= .tuple #[ze3 (A.SB k).2.1 (A.SB k).2.2,I 0]/\∃V',Xz w c V p w' (A.SB k).1 V':=by
 have jn:=hA.lens cJ 1
 have iG:=hA.lens cJ 2
 have mx:=hA.lens cJ 3
 have vJ:=hA.tg
 have iH:=hA.pos
 have cH:=A.S1
 have fh:=hA.total
 have eY:=hA.nd
 unfold Arc.all at eY
 rw[List.nodup_append] at eY
 obtain⟨nd1,nd2,nd3⟩:=eY
 rw[List.nodup_append] at nd2
 obtain⟨nd4,nd5,nd6⟩:=nd2
 have aR:∀{b:Nat},TQ c V p b->b<w.heap.size:=h.lt
 rw[show A.li 1=A.often from rfl] at jn
 rw[show A.li 2=A.Qj from rfl] at iG
 rw[show A.li 3=A.Qf from rfl] at mx
 refine py (e:=[(0,_),(1,_)]) func143 O ntmps143 O O$ qN O$ PY O O (SE (cs:=[_,_,_]) QG O) ?_
 rintro _ w1 ⟨b4,rfl,eM,ad,aM⟩
 replace aM:Q7 w1 b4 [.bool false,.bool false,I 0] 245:=aM
 have n4:∀b,TQ c V p b->b≠b4:=λb hb e=>by have:=aR hb;omega
 have l4:=aM.lt
 have h1:=h.ext ad
 have z1:=ad.size
 refine Qc O$ QS O$ qV (R9 zcY O O)$ Re O$ An$ RI O$ Qk zfK O (z3T h1 (k:=k)) ?_
 rintro _ w1 ⟨rfl,rfl⟩
 by_cases bD:k∈A.once\/k∈A.often
 ·rw[decide_eq_true bD];refine PQ$ Qa O$ Qx O$ QA O$ Qd RJ O$ Q4 O$ Qk TY O (Rs h1 (j:=0) (k:=k) ψ) ?_;rintro _ w2 ⟨rfl,V2,dv⟩;refine qM O$ Q4 O$ QA O$ Qd Sw O$ Q4 O$ Qk TY O (Rs dv.m (j:=1) (k:=k) ψ) ?_;rintro _ w3 ⟨rfl,V3,cq⟩;refine qM O$ Q4 O$ QA O$ Qd Sw O$ Q4 O ?_
  have xw:k∉((A.Rx 0 ((A.li 0).erase k)).Rx 1 (((A.Rx 0 ((A.li 0).erase k)).li 1).erase k)).li 1:=by
   show k∉A.often.erase k;exact nd4.not_mem_erase
  have kK:(((A.Rx 0 ((A.li 0).erase k)).Rx 1 (((A.Rx 0 ((A.li 0).erase k)).li 1).erase k)).li 1).length<=8191:=by
   show(A.often.erase k).length<=_;have:=(List.length_erase_le:(A.often.erase k).length<=A.often.length);omega
  refine Qk UA O (S2 cq.m (j:=1) (k:=k) ψ xw kK) ?_;rintro _ w4 ⟨rfl,V4,bH⟩;have hr:=(dv.trans cq).trans bH;have cI:=hr.k.PN aM (λe=>n4 _ e O);refine qM O$ qV (Tq (cs:=[_,_,_]) QG O Xk O O)$ Qb O (QT (news:=SN true none) QG O O O O cI ξ) ?_;rintro w5 ⟨aO,aj⟩;replace aO:Q7 w5 b4 [.bool true,.bool false,I 0] 245:=aO;refine Qc O$ Qy.qb (e:=[(0,_),(1,_),(4,_),(5,_)]) ?_;refine Qt func143 (.cell TS O QG O (Q7.cells (n:=3) aO (news:=[_,_,_]) O) O (.tmp O .nil)) ?_;have fh:A.SB k=({A with once:=A.once.erase k,often:=A.often.erase k++[k]},true,none):=by unfold Arc.SB;rw[if_pos bD]
  rw[fh];exact⟨_,rfl,rfl,V4,hr.m.kp aj (hr.mono n4 l4),λb hb=>(hr.fp b hb).imp id (λe=>by omega),(ad.kp.trans hr.k).It aj (λj e=> .inl ω)⟩
 ·rw [decide_eq_false bD]; have fZ : k ∉ A.once := λe => bD (.inl e); have ay : k ∉ A.often := λe => bD (.inr e); have kq : ¬ A.held k := bD; refine PQ (PZ O ?_); have f0 := WD h1 (j := 0) ψ; have f1 := WD h1 (j := 1) ψ; rw [show A.li 0 = A.once from rfl] at f0; rw [show A.li 1 = A.often from rfl] at f1
  obtain⟨v0,o0,e0,q0⟩:∃x o,Z0 A.once= .tuple #[I x,.bool o]/\(o=true↔A.once≠[]):=by
   cases A.once with
   |nil=>exact⟨_,_,rfl,ξ⟩
   |cons x r=>exact⟨_,_,rfl,ξ⟩
  obtain⟨v1,o1,e1,q1⟩:∃x o,Z0 A.often= .tuple #[I x,.bool o]/\(o=true↔A.often≠[]):=by
   cases A.often with
   |nil=>exact⟨_,_,rfl,ξ⟩
   |cons x r=>exact⟨_,_,rfl,ξ⟩
  rw[e0] at f0;rw[e1] at f1;refine PR$ RI O$ QA O$ Qd RJ O$ Qk ZZ O (f0) ?_;rintro _ w1 ⟨rfl,rfl⟩;refine Q4 O$ qV (Sz (v:=I v0) O O)$ qV (Sz (v:= .bool o0) O O)$ TN O$ S7 O$ Qp O$ QA O$ Qd Sw O$ Qk ZZ O (f1) ?_;rintro _ w1 ⟨rfl,rfl⟩;refine Q4 O$ qV (Sz (v:=I v1) O O)$ qV (Sz (v:= .bool o1) O O)$ Rt O$ Qy.qb (e:=[(0,_),(1,_),(4,_),(5,_),(7,_),(9,_)]) ?_;refine QS O$ Qk zfx O (z3G h1 hA cJ) ?_;rintro _ w2 ⟨rfl,ae⟩;have h2:=h1.ext ae;have bC:=ae.PN aM;have aG:=ad.trans ae;have z2:=ae.size;have fi:=h2.cells;have aa:=Ext.Qh w2;obtain⟨a2,c2,e2,-⟩:∃a c,(V 2).1= .slice a A.Qj.length c/\_:=(h.q 2 ψ).sl.rd.shape;obtain⟨a3,c3,e3,-⟩:∃a c,(V 3).1= .slice a A.Qf.length c/\_:=(h.q 3 ψ).sl.rd.shape;rw[e2,e3] at fi;have mz:=WL h2 (j:=2) (k:=k) ψ;have rL:=WL h2 (j:=3) (k:=k) ψ;rw[show A.li 2=A.Qj from rfl] at mz;rw[show A.li 3=A.Qf from rfl] at rL;have n4':∀b,TQ c V p b->b≠b4:=n4;have l42:b4<w2.heap.size:=by omega
  by_cases cj:A.once.length+A.often.length=A.size
  ·rw [decide_eq_true cj]
   cases JB:o0 with
   | true =>
     subst JB;refine Qp O$ qV ((T7 O))$ Sa O$ Q4 O$ S6$ QY O$ Re O$ RP$ Qx O$ QA O$ Qd S3 O$ Q4 O$ Qk YH O (mz) ?_;rintro _ w2 ⟨rfl,rfl⟩;by_cases hg:k∈A.Qj
     ·rw[decide_eq_true hg];refine Qc O$ Qa O$ An ?_;have th:0<A.Qj.length:=List.length_pos_of_mem hg;obtain⟨q,hq⟩:∃q,A.Qf.length / A.Qj.length=q:=⟨_,rfl⟩;have i9:q<=2000:=by rw[<-hq];exact Nat.le_trans (Nat.div_le_self _ _) mx
      have mA:(A.Qf.length:Int) / (A.Qj.length:Int)=(q:Int):=by rw[<-hq];exact(Int.natCast_ediv _ _).symm
      refine Qn [27] (λw'=>Ext w2 w') (by kernel_rfl) O$ R1 0 O O (aa)$ R1 1 O O (aa)$ Qs 2 O (R8 O) aa$ Qs 3 O (Qz TH O) aa$ qL 4 O (λ_ h=>PX U3 O O (h.PN fi) O) aa$ R1 5 O O (aa)$ Qs 6 O (R8 O) aa$ Qs 7 O (Qz So O) aa$ qL 8 O (λ_ h=>PX U3 O O (h.PN fi) O) aa$ R1 9 O O (aa)$ Qs 10 O (R8 O) aa$ Qs 11 O (Qz Sq O) aa$ Qs 12 O (Qz Ro O) aa ?_;refine qL 13 O (λ_ h=>PX SC O O (h.PN fi) O) aa$ Qs 14 O (TP SC O) aa$ R1 15 O O (aa)$ Qs 16 O (R8 O) aa$ Qs 17 O (Qz S3 O) aa$ Qs 18 O (Qz Ro O) aa$ qL 19 O (λ_ h=>PX SC O O (h.PN fi) O) aa$ Qs 20 O (TP SC O) aa$ Qs 21 O (Yh O O ⟨ω,ω,ω⟩) aa ?_;rw[mA];refine Qs 22 O (yma O O) aa$ Qs 23 O (Wa O O ω) aa$ Qs 24 O (ymi O O) aa$ Qs 25 O (R8 O) aa$ Qs 26 O (Qz So O) aa$ Ut [27]$ qO 27$ QO (i:=27) O O (RV Rl O O O (aa.PN fi) ξ) ?_;rintro w5 ⟨aJ,aj⟩;refine⟨trivial,?_⟩;obtain⟨T,hT⟩:∃T:Int,min (A.size:Int) (A.target+max 1 (q:Int))=T:=⟨_,rfl⟩;have oM:0<=T/\T<=A.size:=by omega
      rw[hT] at aJ
      replace aJ:Q7 w5 c (acC A.size T V p) 173:=by
       show Q7 w5 c [I (A.size:Int),(V 0).1,(V 0).2,(V 1).1,(V 1).2,(V 2).1,(V 2).2,(V 3).1,(V 3).2,I T,.map (some p)] _;rw[e2,e3];exact aJ
      have bP:=(h2.ext aa).z0l aJ aj;have aV:=hA.z0l oM;obtain⟨A5,bI⟩:∃A5:Arc,{A with target:=T}=A5:=⟨_,rfl⟩;have pM:A5.size=A.size:=by rw[<-bI]
      have oN:¬A5.held k:=by rw[<-bI];exact kq
      have ta:k∈A5.Qj:=by rw[<-bI];exact hg
      rw[bI] at bP aV;refine qE$ Qy.qb (e:=[(0,_),(1,_),(4,_),(5,_)]) ?_;refine Qx O$ Qk z2a O (UN bP.m aV ω false) ?_;rintro _ w6 ⟨rfl,V6,cN⟩;have az:=Arc.Uu aV false;obtain⟨r6,cD⟩:∃r,A5.room false=r:=⟨_,rfl⟩;rw[cD] at cN az⊢;obtain⟨A6,g6⟩:=r6;dsimp only at cN az⊢;have gj:=az.perm.length_eq;have jO:=A6.S1;have oO:=A5.S1;have oP:=aV.total;have aF:=((h2.r aa).trans bP).trans cN;have bY:=aF.k.PN bC (λe=>n4' _ e O);refine Qb O (QT (news:=SN false g6) QG O O O O bY ξ) ?_;rintro w7 ⟨bu,aA⟩;replace bu:Q7 w7 b4 [.bool false,.bool g6.isSome,I (g6.getD 0)] 245:=bu;have n46:=aF.mono n4' l42;have gL:=aF.m.kp aA n46;refine qM O$ Q4 O$ QA O$ Qd S3 O$ Q4 O$ Qk TY O (Rs gL (j:=2) (k:=k) ψ) ?_;rintro _ w8 ⟨rfl,V8,g9⟩
      have eh:k∉(A6.Rx 2 ((A6.li 2).erase k)).li 1:=by
       show k∉A6.often;exact λe=>oN ((az.gone k).1 (.inr e)).1
      refine PQ$ St O$ QA O$ Qd Sw O$ Q4 O$ Qk UA O (S2 g9.m (j:=1) (k:=k) ψ eh (by show A6.often.length<=_;omega)) ?_;rintro _ w9 ⟨rfl,V9,im⟩;have bh:=g9.trans im;have bX:=bh.k.PN bu (λe=>n46 _ e O);have eG:=bX
      have cE:∀b,TQ c V9 p b->TQ c V p b\/w2.heap.size<=b:=λb hb=>by
       rcases bh.fp b hb with h5|h5
       ·exact aF.fp b h5
       ·have:=aF.k.size;have:=aA.size;exact .inr ω
      have ax:Kp (λj=>TQ c V p j\/j=b4) w2 w9:=((aF.k.PU λj e=> .inl e).trans (aA.PU λj e=> .inr e)).It bh.k (λj e=>by
       rcases aF.fp j e with h5|h5
       ·exact .inr (.inl h5)
       ·exact .inl h5)
      refine PQ$ PM$ qN O$ qV (QB (news:=SN false g6) TS O QG O (Q7.cells (n:=3) eG O) O)$ Qb O (QT (news:=SN false g6) QG O O O O eG ξ) ?_;rintro we ⟨dw,bS⟩;replace dw:Q7 we b4 [.bool false,.bool g6.isSome,I (g6.getD 0)] 245:=dw;refine Qc O$ Qt func143 (.cell TS O QG O (Q7.cells (n:=3) dw (news:=[_,_,_]) O) O (.tmp O .nil)) ?_
      have n49:∀b,TQ c V9 p b->b≠b4:=λb hb e=>by
       rcases cE b hb with h5|h5
       ·exact n4' b h5 e
       ·omega
      have fh:A.SB k=({A6 with Qj:=A6.Qj.erase k,often:=A6.often++[k]},false,g6):=by
       unfold Arc.SB;rw[if_neg bD,if_pos hg];dsimp only;rw[hq,hT,bI,cD]
      rw[fh]
      exact⟨_,rfl,rfl,V9,bh.m.kp bS n49,λb hb=>(cE b hb).imp id (λe=>by omega),(aG.kp.It ax (λj e=>by
       rcases e with e| e
       ·exact .inr e
       ·exact .inl ω)).It bS (λj e=> .inl ω)⟩
     ·have ti:=hg;rw[decide_eq_false hg];refine Qc O$ PZ O$ Qx O$ QA O$ Qd Sq O$ Q4 O$ Qk YH O (rL) ?_;rintro _ w2 ⟨rfl,rfl⟩;by_cases hg:k∈A.Qf
      ·rw[decide_eq_true hg];refine Qc O$ Qy.qb (e:=[(0,_),(1,_),(4,_),(5,_),(111,_)]) ?_;refine Qa O$ An ?_;have th:0<A.Qf.length:=List.length_pos_of_mem hg;obtain⟨q,hq⟩:∃q,A.Qj.length / A.Qf.length=q:=⟨_,rfl⟩;have i9:q<=2000:=by rw[<-hq];exact Nat.le_trans (Nat.div_le_self _ _) iG
       have mA:(A.Qj.length:Int) / (A.Qf.length:Int)=(q:Int):=by rw[<-hq];exact(Int.natCast_ediv _ _).symm
       refine Qn [23] (λw'=>Ext w2 w') (by kernel_rfl) O$ R1 0 O O (aa)$ R1 1 O O (aa)$ Qs 2 O (R8 O) aa$ Qs 3 O (Qz So O) aa$ qL 4 O (λ_ h=>PX U3 O O (h.PN fi) O) aa$ R1 5 O O (aa)$ Qs 6 O (R8 O) aa$ Qs 7 O (Qz S3 O) aa$ Qs 8 O (Qz Ro O) aa$ qL 9 O (λ_ h=>PX SC O O (h.PN fi) O) aa$ Qs 10 O (TP SC O) aa$ R1 11 O O (aa)$ Qs 12 O (R8 O) aa ?_;refine Qs 13 O (Qz Sq O) aa$ Qs 14 O (Qz Ro O) aa$ qL 15 O (λ_ h=>PX SC O O (h.PN fi) O) aa$ Qs 16 O (TP SC O) aa$ Qs 17 O (Yh O O ⟨ω,ω,ω⟩) aa ?_;rw[mA];refine Qs 18 O (yma O O) aa$ Qs 19 O (YM O O ω) aa$ Qs 20 O (yma O O) aa$ Qs 21 O (R8 O) aa$ Qs 22 O (Qz So O) aa$ Ut [23]$ qO 23$ QO (i:=23) O O (RV Rl O O O (aa.PN fi) ξ) ?_;rintro w5 ⟨aJ,aj⟩;refine⟨trivial,?_⟩;obtain⟨T,hT⟩:∃T:Int,max 0 (A.target-max 1 (q:Int))=T:=⟨_,rfl⟩;have oM:0<=T/\T<=A.size:=by omega
       rw[hT] at aJ
       replace aJ:Q7 w5 c (acC A.size T V p) 173:=by
        show Q7 w5 c [I (A.size:Int),(V 0).1,(V 0).2,(V 1).1,(V 1).2,(V 2).1,(V 2).2,(V 3).1,(V 3).2,I T,.map (some p)] _;rw[e2,e3];exact aJ
       have bP:=(h2.ext aa).z0l aJ aj;have aV:=hA.z0l oM;obtain⟨A5,bI⟩:∃A5:Arc,{A with target:=T}=A5:=⟨_,rfl⟩;have pM:A5.size=A.size:=by rw[<-bI]
       have oN:¬A5.held k:=by rw[<-bI];exact kq
       have ta:k∈A5.Qf:=by rw[<-bI];exact hg
       rw[bI] at bP aV;refine qE$ Qy.qb (e:=[(0,_),(1,_),(4,_),(5,_)]) ?_;refine Qx O$ Qk z2a O (UN bP.m aV ω true) ?_;rintro _ w6 ⟨rfl,V6,cN⟩;have az:=Arc.Uu aV true;obtain⟨r6,cD⟩:∃r,A5.room true=r:=⟨_,rfl⟩;rw[cD] at cN az⊢;obtain⟨A6,g6⟩:=r6;dsimp only at cN az⊢;have gj:=az.perm.length_eq;have jO:=A6.S1;have oO:=A5.S1;have oP:=aV.total;have aF:=((h2.r aa).trans bP).trans cN;have bY:=aF.k.PN bC (λe=>n4' _ e O);refine Qb O (QT (news:=SN false g6) QG O O O O bY ξ) ?_;rintro w7 ⟨bu,aA⟩;replace bu:Q7 w7 b4 [.bool false,.bool g6.isSome,I (g6.getD 0)] 245:=bu;have n46:=aF.mono n4' l42;have gL:=aF.m.kp aA n46;refine qM O$ Q4 O$ QA O$ Qd Sq O$ Q4 O$ Qk TY O (Rs gL (j:=3) (k:=k) ψ) ?_;rintro _ w8 ⟨rfl,V8,g9⟩
       have eh:k∉(A6.Rx 3 ((A6.li 3).erase k)).li 1:=by
        show k∉A6.often;exact λe=>oN ((az.gone k).1 (.inr e)).1
       refine PQ$ St O$ QA O$ Qd Sw O$ Q4 O$ Qk UA O (S2 g9.m (j:=1) (k:=k) ψ eh (by show A6.often.length<=_;omega)) ?_;rintro _ w9 ⟨rfl,V9,im⟩;have bh:=g9.trans im;have bX:=bh.k.PN bu (λe=>n46 _ e O);have eG:=bX
       have cE:∀b,TQ c V9 p b->TQ c V p b\/w2.heap.size<=b:=λb hb=>by
        rcases bh.fp b hb with h5|h5
        ·exact aF.fp b h5
        ·have:=aF.k.size;have:=aA.size;exact .inr ω
       have ax:Kp (λj=>TQ c V p j\/j=b4) w2 w9:=((aF.k.PU λj e=> .inl e).trans (aA.PU λj e=> .inr e)).It bh.k (λj e=>by
        rcases aF.fp j e with h5|h5
        ·exact .inr (.inl h5)
        ·exact .inl h5)
       refine PQ$ PM$ qN O$ qV (QB (news:=SN false g6) TS O QG O (Q7.cells (n:=3) eG O) O)$ Qb O (QT (news:=SN false g6) QG O O O O eG ξ) ?_;rintro we ⟨dw,bS⟩;replace dw:Q7 we b4 [.bool false,.bool g6.isSome,I (g6.getD 0)] 245:=dw;refine Qc O$ Qt func143 (.cell TS O QG O (Q7.cells (n:=3) dw (news:=[_,_,_]) O) O (.tmp O .nil)) ?_
       have n49:∀b,TQ c V9 p b->b≠b4:=λb hb e=>by
        rcases cE b hb with h5|h5
        ·exact n4' b h5 e
        ·omega
       have fh:A.SB k=({A6 with Qf:=A6.Qf.erase k,often:=A6.often++[k]},false,g6):=by
        unfold Arc.SB;rw[if_neg bD,if_neg ti,if_pos hg];dsimp only;rw[hq,hT,bI,cD]
       rw[fh]
       exact⟨_,rfl,rfl,V9,bh.m.kp bS n49,λb hb=>(cE b hb).imp id (λe=>by omega),(aG.kp.It ax (λj e=>by
        rcases e with e| e
        ·exact .inr e
        ·exact .inl ω)).It bS (λj e=> .inl ω)⟩
      ·rw[decide_eq_false hg];refine Qc O$ Qy.qb (e:=[(0,_),(1,_),(4,_),(5,_),(111,_)]) ?_;refine PZ O$ Qx O$ Qk zcC O (z2O h2 hA cJ) ?_;rintro _ w6 ⟨rfl,V6,cN⟩;have eg:=Arc.z4J hA;obtain⟨r6,cD⟩:∃r,A.add=r:=⟨_,rfl⟩;rw[cD] at cN eg⊢;obtain⟨A6,g6⟩:=r6;dsimp only at cN eg⊢;obtain⟨fK,-,-⟩:=eg;have jO:=A6.S1;have aF:=cN;have bY:=aF.k.PN bC (λe=>n4' _ e O);refine Qb O (QT (news:=SN false g6) QG O O O O bY ξ) ?_;rintro w7 ⟨bu,aA⟩;replace bu:Q7 w7 b4 [.bool false,.bool g6.isSome,I (g6.getD 0)] 245:=bu;have n46:=aF.mono n4' l42;have gL:=aF.m.kp aA n46
       have eh:k∉A6.li 0:=by
        show k∉A6.once;exact λe=>kq ((fK.gone k).1 (.inl e)).1
       have pX:=fK.ZR;refine PQ$ St O$ QA O$ Qd RJ O$ Q4 O$ Qk UA O (S2 gL (j:=0) (k:=k) ψ eh (by show A6.once.length<=_;omega)) ?_;rintro _ w9 ⟨rfl,V9,im⟩;have bh:=im;have bX:=bh.k.PN bu (λe=>n46 _ e O);have eG:=bX
       have cE:∀b,TQ c V9 p b->TQ c V p b\/w2.heap.size<=b:=λb hb=>by
        rcases bh.fp b hb with h5|h5
        ·exact aF.fp b h5
        ·have:=aF.k.size;have:=aA.size;exact .inr ω
       have ax:Kp (λj=>TQ c V p j\/j=b4) w2 w9:=((aF.k.PU λj e=> .inl e).trans (aA.PU λj e=> .inr e)).It bh.k (λj e=>by
        rcases aF.fp j e with h5|h5
        ·exact .inr (.inl h5)
        ·exact .inl h5)
       refine PQ$ PM$ qN O$ qV (QB (news:=SN false g6) TS O QG O (Q7.cells (n:=3) eG O) O)$ Qb O (QT (news:=SN false g6) QG O O O O eG ξ) ?_;rintro we ⟨dw,bS⟩;replace dw:Q7 we b4 [.bool false,.bool g6.isSome,I (g6.getD 0)] 245:=dw;refine Qc O$ Qt func143 (.cell TS O QG O (Q7.cells (n:=3) dw (news:=[_,_,_]) O) O (.tmp O .nil)) ?_
       have n49:∀b,TQ c V9 p b->b≠b4:=λb hb e=>by
        rcases cE b hb with h5|h5
        ·exact n4' b h5 e
        ·omega
       have fh:A.SB k=({A6 with once:=A6.once++[k]},false,g6):=by
        unfold Arc.SB;rw[if_neg bD,if_neg ti,if_neg hg];dsimp only;rw[cD]
       rw[fh]
       exact⟨_,rfl,rfl,V9,bh.m.kp bS n49,λb hb=>(cE b hb).imp id (λe=>by omega),(aG.kp.It ax (λj e=>by
        rcases e with e| e
        ·exact .inr e
        ·exact .inl ω)).It bS (λj e=> .inl ω)⟩
   | false =>
     subst JB
     have Ay:o1=true:=by
      have e:A.once=[]:=Classical.not_not.1 λe=>by have:=q0.2 e;cases this
      rw[e] at cj;exact q1.2 λe=>by rw[e] at cj;simp at cj;omega
     subst Ay;refine Qp O$ qV ((T7 O))$ Sa O$ Qp O$ qV ((T7 O))$ Sa O$ Re O$ RP$ Qx O$ QA O$ Qd S3 O$ Q4 O$ Qk YH O (mz) ?_;rintro _ w2 ⟨rfl,rfl⟩;by_cases hg:k∈A.Qj
     ·rw[decide_eq_true hg];refine Qc O$ Qa O$ An ?_;have th:0<A.Qj.length:=List.length_pos_of_mem hg;obtain⟨q,hq⟩:∃q,A.Qf.length / A.Qj.length=q:=⟨_,rfl⟩;have i9:q<=2000:=by rw[<-hq];exact Nat.le_trans (Nat.div_le_self _ _) mx
      have mA:(A.Qf.length:Int) / (A.Qj.length:Int)=(q:Int):=by rw[<-hq];exact(Int.natCast_ediv _ _).symm
      refine Qn [27] (λw'=>Ext w2 w') (by kernel_rfl) O$ R1 0 O O (aa)$ R1 1 O O (aa)$ Qs 2 O (R8 O) aa$ Qs 3 O (Qz TH O) aa$ qL 4 O (λ_ h=>PX U3 O O (h.PN fi) O) aa$ R1 5 O O (aa)$ Qs 6 O (R8 O) aa$ Qs 7 O (Qz So O) aa$ qL 8 O (λ_ h=>PX U3 O O (h.PN fi) O) aa$ R1 9 O O (aa)$ Qs 10 O (R8 O) aa$ Qs 11 O (Qz Sq O) aa$ Qs 12 O (Qz Ro O) aa ?_;refine qL 13 O (λ_ h=>PX SC O O (h.PN fi) O) aa$ Qs 14 O (TP SC O) aa$ R1 15 O O (aa)$ Qs 16 O (R8 O) aa$ Qs 17 O (Qz S3 O) aa$ Qs 18 O (Qz Ro O) aa$ qL 19 O (λ_ h=>PX SC O O (h.PN fi) O) aa$ Qs 20 O (TP SC O) aa$ Qs 21 O (Yh O O ⟨ω,ω,ω⟩) aa ?_;rw[mA];refine Qs 22 O (yma O O) aa$ Qs 23 O (Wa O O ω) aa$ Qs 24 O (ymi O O) aa$ Qs 25 O (R8 O) aa$ Qs 26 O (Qz So O) aa$ Ut [27]$ qO 27$ QO (i:=27) O O (RV Rl O O O (aa.PN fi) ξ) ?_;rintro w5 ⟨aJ,aj⟩;refine⟨trivial,?_⟩;obtain⟨T,hT⟩:∃T:Int,min (A.size:Int) (A.target+max 1 (q:Int))=T:=⟨_,rfl⟩;have oM:0<=T/\T<=A.size:=by omega
      rw[hT] at aJ
      replace aJ:Q7 w5 c (acC A.size T V p) 173:=by
       show Q7 w5 c [I (A.size:Int),(V 0).1,(V 0).2,(V 1).1,(V 1).2,(V 2).1,(V 2).2,(V 3).1,(V 3).2,I T,.map (some p)] _;rw[e2,e3];exact aJ
      have bP:=(h2.ext aa).z0l aJ aj;have aV:=hA.z0l oM;obtain⟨A5,bI⟩:∃A5:Arc,{A with target:=T}=A5:=⟨_,rfl⟩;have pM:A5.size=A.size:=by rw[<-bI]
      have oN:¬A5.held k:=by rw[<-bI];exact kq
      have ta:k∈A5.Qj:=by rw[<-bI];exact hg
      rw[bI] at bP aV;refine qE$ Qy.qb (e:=[(0,_),(1,_),(4,_),(5,_)]) ?_;refine Qx O$ Qk z2a O (UN bP.m aV ω false) ?_;rintro _ w6 ⟨rfl,V6,cN⟩;have az:=Arc.Uu aV false;obtain⟨r6,cD⟩:∃r,A5.room false=r:=⟨_,rfl⟩;rw[cD] at cN az⊢;obtain⟨A6,g6⟩:=r6;dsimp only at cN az⊢;have gj:=az.perm.length_eq;have jO:=A6.S1;have oO:=A5.S1;have oP:=aV.total;have aF:=((h2.r aa).trans bP).trans cN;have bY:=aF.k.PN bC (λe=>n4' _ e O);refine Qb O (QT (news:=SN false g6) QG O O O O bY ξ) ?_;rintro w7 ⟨bu,aA⟩;replace bu:Q7 w7 b4 [.bool false,.bool g6.isSome,I (g6.getD 0)] 245:=bu;have n46:=aF.mono n4' l42;have gL:=aF.m.kp aA n46;refine qM O$ Q4 O$ QA O$ Qd S3 O$ Q4 O$ Qk TY O (Rs gL (j:=2) (k:=k) ψ) ?_;rintro _ w8 ⟨rfl,V8,g9⟩
      have eh:k∉(A6.Rx 2 ((A6.li 2).erase k)).li 1:=by
       show k∉A6.often;exact λe=>oN ((az.gone k).1 (.inr e)).1
      refine PQ$ St O$ QA O$ Qd Sw O$ Q4 O$ Qk UA O (S2 g9.m (j:=1) (k:=k) ψ eh (by show A6.often.length<=_;omega)) ?_;rintro _ w9 ⟨rfl,V9,im⟩;have bh:=g9.trans im;have bX:=bh.k.PN bu (λe=>n46 _ e O);have eG:=bX
      have cE:∀b,TQ c V9 p b->TQ c V p b\/w2.heap.size<=b:=λb hb=>by
       rcases bh.fp b hb with h5|h5
       ·exact aF.fp b h5
       ·have:=aF.k.size;have:=aA.size;exact .inr ω
      have ax:Kp (λj=>TQ c V p j\/j=b4) w2 w9:=((aF.k.PU λj e=> .inl e).trans (aA.PU λj e=> .inr e)).It bh.k (λj e=>by
       rcases aF.fp j e with h5|h5
       ·exact .inr (.inl h5)
       ·exact .inl h5)
      refine PQ$ PM$ qN O$ qV (QB (news:=SN false g6) TS O QG O (Q7.cells (n:=3) eG O) O)$ Qb O (QT (news:=SN false g6) QG O O O O eG ξ) ?_;rintro we ⟨dw,bS⟩;replace dw:Q7 we b4 [.bool false,.bool g6.isSome,I (g6.getD 0)] 245:=dw;refine Qc O$ Qt func143 (.cell TS O QG O (Q7.cells (n:=3) dw (news:=[_,_,_]) O) O (.tmp O .nil)) ?_
      have n49:∀b,TQ c V9 p b->b≠b4:=λb hb e=>by
       rcases cE b hb with h5|h5
       ·exact n4' b h5 e
       ·omega
      have fh:A.SB k=({A6 with Qj:=A6.Qj.erase k,often:=A6.often++[k]},false,g6):=by
       unfold Arc.SB;rw[if_neg bD,if_pos hg];dsimp only;rw[hq,hT,bI,cD]
      rw[fh]
      exact⟨_,rfl,rfl,V9,bh.m.kp bS n49,λb hb=>(cE b hb).imp id (λe=>by omega),(aG.kp.It ax (λj e=>by
       rcases e with e| e
       ·exact .inr e
       ·exact .inl ω)).It bS (λj e=> .inl ω)⟩
     ·have ti:=hg;rw[decide_eq_false hg];refine Qc O$ PZ O$ Qx O$ QA O$ Qd Sq O$ Q4 O$ Qk YH O (rL) ?_;rintro _ w2 ⟨rfl,rfl⟩;by_cases hg:k∈A.Qf
      ·rw[decide_eq_true hg];refine Qc O$ Qy.qb (e:=[(0,_),(1,_),(4,_),(5,_),(111,_)]) ?_;refine Qa O$ An ?_;have th:0<A.Qf.length:=List.length_pos_of_mem hg;obtain⟨q,hq⟩:∃q,A.Qj.length / A.Qf.length=q:=⟨_,rfl⟩;have i9:q<=2000:=by rw[<-hq];exact Nat.le_trans (Nat.div_le_self _ _) iG
       have mA:(A.Qj.length:Int) / (A.Qf.length:Int)=(q:Int):=by rw[<-hq];exact(Int.natCast_ediv _ _).symm
       refine Qn [23] (λw'=>Ext w2 w') (by kernel_rfl) O$ R1 0 O O (aa)$ R1 1 O O (aa)$ Qs 2 O (R8 O) aa$ Qs 3 O (Qz So O) aa$ qL 4 O (λ_ h=>PX U3 O O (h.PN fi) O) aa$ R1 5 O O (aa)$ Qs 6 O (R8 O) aa$ Qs 7 O (Qz S3 O) aa$ Qs 8 O (Qz Ro O) aa$ qL 9 O (λ_ h=>PX SC O O (h.PN fi) O) aa$ Qs 10 O (TP SC O) aa$ R1 11 O O (aa)$ Qs 12 O (R8 O) aa ?_;refine Qs 13 O (Qz Sq O) aa$ Qs 14 O (Qz Ro O) aa$ qL 15 O (λ_ h=>PX SC O O (h.PN fi) O) aa$ Qs 16 O (TP SC O) aa$ Qs 17 O (Yh O O ⟨ω,ω,ω⟩) aa ?_;rw[mA];refine Qs 18 O (yma O O) aa$ Qs 19 O (YM O O ω) aa$ Qs 20 O (yma O O) aa$ Qs 21 O (R8 O) aa$ Qs 22 O (Qz So O) aa$ Ut [23]$ qO 23$ QO (i:=23) O O (RV Rl O O O (aa.PN fi) ξ) ?_;rintro w5 ⟨aJ,aj⟩;refine⟨trivial,?_⟩;obtain⟨T,hT⟩:∃T:Int,max 0 (A.target-max 1 (q:Int))=T:=⟨_,rfl⟩;have oM:0<=T/\T<=A.size:=by omega
       rw[hT] at aJ
       replace aJ:Q7 w5 c (acC A.size T V p) 173:=by
        show Q7 w5 c [I (A.size:Int),(V 0).1,(V 0).2,(V 1).1,(V 1).2,(V 2).1,(V 2).2,(V 3).1,(V 3).2,I T,.map (some p)] _;rw[e2,e3];exact aJ
       have bP:=(h2.ext aa).z0l aJ aj;have aV:=hA.z0l oM;obtain⟨A5,bI⟩:∃A5:Arc,{A with target:=T}=A5:=⟨_,rfl⟩;have pM:A5.size=A.size:=by rw[<-bI]
       have oN:¬A5.held k:=by rw[<-bI];exact kq
       have ta:k∈A5.Qf:=by rw[<-bI];exact hg
       rw[bI] at bP aV;refine qE$ Qy.qb (e:=[(0,_),(1,_),(4,_),(5,_)]) ?_;refine Qx O$ Qk z2a O (UN bP.m aV ω true) ?_;rintro _ w6 ⟨rfl,V6,cN⟩;have az:=Arc.Uu aV true;obtain⟨r6,cD⟩:∃r,A5.room true=r:=⟨_,rfl⟩;rw[cD] at cN az⊢;obtain⟨A6,g6⟩:=r6;dsimp only at cN az⊢;have gj:=az.perm.length_eq;have jO:=A6.S1;have oO:=A5.S1;have oP:=aV.total;have aF:=((h2.r aa).trans bP).trans cN;have bY:=aF.k.PN bC (λe=>n4' _ e O);refine Qb O (QT (news:=SN false g6) QG O O O O bY ξ) ?_;rintro w7 ⟨bu,aA⟩;replace bu:Q7 w7 b4 [.bool false,.bool g6.isSome,I (g6.getD 0)] 245:=bu;have n46:=aF.mono n4' l42;have gL:=aF.m.kp aA n46;refine qM O$ Q4 O$ QA O$ Qd Sq O$ Q4 O$ Qk TY O (Rs gL (j:=3) (k:=k) ψ) ?_;rintro _ w8 ⟨rfl,V8,g9⟩
       have eh:k∉(A6.Rx 3 ((A6.li 3).erase k)).li 1:=by
        show k∉A6.often;exact λe=>oN ((az.gone k).1 (.inr e)).1
       refine PQ$ St O$ QA O$ Qd Sw O$ Q4 O$ Qk UA O (S2 g9.m (j:=1) (k:=k) ψ eh (by show A6.often.length<=_;omega)) ?_;rintro _ w9 ⟨rfl,V9,im⟩;have bh:=g9.trans im;have bX:=bh.k.PN bu (λe=>n46 _ e O);have eG:=bX
       have cE:∀b,TQ c V9 p b->TQ c V p b\/w2.heap.size<=b:=λb hb=>by
        rcases bh.fp b hb with h5|h5
        ·exact aF.fp b h5
        ·have:=aF.k.size;have:=aA.size;exact .inr ω
       have ax:Kp (λj=>TQ c V p j\/j=b4) w2 w9:=((aF.k.PU λj e=> .inl e).trans (aA.PU λj e=> .inr e)).It bh.k (λj e=>by
        rcases aF.fp j e with h5|h5
        ·exact .inr (.inl h5)
        ·exact .inl h5)
       refine PQ$ PM$ qN O$ qV (QB (news:=SN false g6) TS O QG O (Q7.cells (n:=3) eG O) O)$ Qb O (QT (news:=SN false g6) QG O O O O eG ξ) ?_;rintro we ⟨dw,bS⟩;replace dw:Q7 we b4 [.bool false,.bool g6.isSome,I (g6.getD 0)] 245:=dw;refine Qc O$ Qt func143 (.cell TS O QG O (Q7.cells (n:=3) dw (news:=[_,_,_]) O) O (.tmp O .nil)) ?_
       have n49:∀b,TQ c V9 p b->b≠b4:=λb hb e=>by
        rcases cE b hb with h5|h5
        ·exact n4' b h5 e
        ·omega
       have fh:A.SB k=({A6 with Qf:=A6.Qf.erase k,often:=A6.often++[k]},false,g6):=by
        unfold Arc.SB;rw[if_neg bD,if_neg ti,if_pos hg];dsimp only;rw[hq,hT,bI,cD]
       rw[fh]
       exact⟨_,rfl,rfl,V9,bh.m.kp bS n49,λb hb=>(cE b hb).imp id (λe=>by omega),(aG.kp.It ax (λj e=>by
        rcases e with e| e
        ·exact .inr e
        ·exact .inl ω)).It bS (λj e=> .inl ω)⟩
      ·rw[decide_eq_false hg];refine Qc O$ Qy.qb (e:=[(0,_),(1,_),(4,_),(5,_),(111,_)]) ?_;refine PZ O$ Qx O$ Qk zcC O (z2O h2 hA cJ) ?_;rintro _ w6 ⟨rfl,V6,cN⟩;have eg:=Arc.z4J hA;obtain⟨r6,cD⟩:∃r,A.add=r:=⟨_,rfl⟩;rw[cD] at cN eg⊢;obtain⟨A6,g6⟩:=r6;dsimp only at cN eg⊢;obtain⟨fK,-,-⟩:=eg;have jO:=A6.S1;have aF:=cN;have bY:=aF.k.PN bC (λe=>n4' _ e O);refine Qb O (QT (news:=SN false g6) QG O O O O bY ξ) ?_;rintro w7 ⟨bu,aA⟩;replace bu:Q7 w7 b4 [.bool false,.bool g6.isSome,I (g6.getD 0)] 245:=bu;have n46:=aF.mono n4' l42;have gL:=aF.m.kp aA n46
       have eh:k∉A6.li 0:=by
        show k∉A6.once;exact λe=>kq ((fK.gone k).1 (.inl e)).1
       have pX:=fK.ZR;refine PQ$ St O$ QA O$ Qd RJ O$ Q4 O$ Qk UA O (S2 gL (j:=0) (k:=k) ψ eh (by show A6.once.length<=_;omega)) ?_;rintro _ w9 ⟨rfl,V9,im⟩;have bh:=im;have bX:=bh.k.PN bu (λe=>n46 _ e O);have eG:=bX
       have cE:∀b,TQ c V9 p b->TQ c V p b\/w2.heap.size<=b:=λb hb=>by
        rcases bh.fp b hb with h5|h5
        ·exact aF.fp b h5
        ·have:=aF.k.size;have:=aA.size;exact .inr ω
       have ax:Kp (λj=>TQ c V p j\/j=b4) w2 w9:=((aF.k.PU λj e=> .inl e).trans (aA.PU λj e=> .inr e)).It bh.k (λj e=>by
        rcases aF.fp j e with h5|h5
        ·exact .inr (.inl h5)
        ·exact .inl h5)
       refine PQ$ PM$ qN O$ qV (QB (news:=SN false g6) TS O QG O (Q7.cells (n:=3) eG O) O)$ Qb O (QT (news:=SN false g6) QG O O O O eG ξ) ?_;rintro we ⟨dw,bS⟩;replace dw:Q7 we b4 [.bool false,.bool g6.isSome,I (g6.getD 0)] 245:=dw;refine Qc O$ Qt func143 (.cell TS O QG O (Q7.cells (n:=3) dw (news:=[_,_,_]) O) O (.tmp O .nil)) ?_
       have n49:∀b,TQ c V9 p b->b≠b4:=λb hb e=>by
        rcases cE b hb with h5|h5
        ·exact n4' b h5 e
        ·omega
       have fh:A.SB k=({A6 with once:=A6.once++[k]},false,g6):=by
        unfold Arc.SB;rw[if_neg bD,if_neg ti,if_neg hg];dsimp only;rw[cD]
       rw[fh]
       exact⟨_,rfl,rfl,V9,bh.m.kp bS n49,λb hb=>(cE b hb).imp id (λe=>by omega),(aG.kp.It ax (λj e=>by
        rcases e with e| e
        ·exact .inr e
        ·exact .inl ω)).It bS (λj e=> .inl ω)⟩
  ·rw [decide_eq_false cj]; refine Q4 O (S6 (QY O (Q4 O (S6 (QY O (Re O (RP (Qx O (QA O (Qd S3 O (Q4 O (Qk YH O (mz) ?_)))))))))))); rintro _ w2 ⟨rfl, rfl⟩; by_cases hg : k ∈ A.Qj
   ·rw[decide_eq_true hg];refine Qc O$ Qa O$ An ?_;have th:0<A.Qj.length:=List.length_pos_of_mem hg;obtain⟨q,hq⟩:∃q,A.Qf.length / A.Qj.length=q:=⟨_,rfl⟩;have i9:q<=2000:=by rw[<-hq];exact Nat.le_trans (Nat.div_le_self _ _) mx
    have mA:(A.Qf.length:Int) / (A.Qj.length:Int)=(q:Int):=by rw[<-hq];exact(Int.natCast_ediv _ _).symm
    refine Qn [27] (λw'=>Ext w2 w') (by kernel_rfl) O$ R1 0 O O (aa)$ R1 1 O O (aa)$ Qs 2 O (R8 O) aa$ Qs 3 O (Qz TH O) aa$ qL 4 O (λ_ h=>PX U3 O O (h.PN fi) O) aa$ R1 5 O O (aa)$ Qs 6 O (R8 O) aa$ Qs 7 O (Qz So O) aa$ qL 8 O (λ_ h=>PX U3 O O (h.PN fi) O) aa$ R1 9 O O (aa)$ Qs 10 O (R8 O) aa$ Qs 11 O (Qz Sq O) aa$ Qs 12 O (Qz Ro O) aa ?_;refine qL 13 O (λ_ h=>PX SC O O (h.PN fi) O) aa$ Qs 14 O (TP SC O) aa$ R1 15 O O (aa)$ Qs 16 O (R8 O) aa$ Qs 17 O (Qz S3 O) aa$ Qs 18 O (Qz Ro O) aa$ qL 19 O (λ_ h=>PX SC O O (h.PN fi) O) aa$ Qs 20 O (TP SC O) aa$ Qs 21 O (Yh O O ⟨ω,ω,ω⟩) aa ?_;rw[mA];refine Qs 22 O (yma O O) aa$ Qs 23 O (Wa O O ω) aa$ Qs 24 O (ymi O O) aa$ Qs 25 O (R8 O) aa$ Qs 26 O (Qz So O) aa$ Ut [27]$ qO 27$ QO (i:=27) O O (RV Rl O O O (aa.PN fi) ξ) ?_;rintro w5 ⟨aJ,aj⟩;refine⟨trivial,?_⟩;obtain⟨T,hT⟩:∃T:Int,min (A.size:Int) (A.target+max 1 (q:Int))=T:=⟨_,rfl⟩;have oM:0<=T/\T<=A.size:=by omega
    rw[hT] at aJ
    replace aJ:Q7 w5 c (acC A.size T V p) 173:=by
     show Q7 w5 c [I (A.size:Int),(V 0).1,(V 0).2,(V 1).1,(V 1).2,(V 2).1,(V 2).2,(V 3).1,(V 3).2,I T,.map (some p)] _;rw[e2,e3];exact aJ
    have bP:=(h2.ext aa).z0l aJ aj;have aV:=hA.z0l oM;obtain⟨A5,bI⟩:∃A5:Arc,{A with target:=T}=A5:=⟨_,rfl⟩;have pM:A5.size=A.size:=by rw[<-bI]
    have oN:¬A5.held k:=by rw[<-bI];exact kq
    have ta:k∈A5.Qj:=by rw[<-bI];exact hg
    rw[bI] at bP aV;refine qE$ Qy.qb (e:=[(0,_),(1,_),(4,_),(5,_)]) ?_;refine Qx O$ Qk z2a O (UN bP.m aV ω false) ?_;rintro _ w6 ⟨rfl,V6,cN⟩;have az:=Arc.Uu aV false;obtain⟨r6,cD⟩:∃r,A5.room false=r:=⟨_,rfl⟩;rw[cD] at cN az⊢;obtain⟨A6,g6⟩:=r6;dsimp only at cN az⊢;have gj:=az.perm.length_eq;have jO:=A6.S1;have oO:=A5.S1;have oP:=aV.total;have aF:=((h2.r aa).trans bP).trans cN;have bY:=aF.k.PN bC (λe=>n4' _ e O);refine Qb O (QT (news:=SN false g6) QG O O O O bY ξ) ?_;rintro w7 ⟨bu,aA⟩;replace bu:Q7 w7 b4 [.bool false,.bool g6.isSome,I (g6.getD 0)] 245:=bu;have n46:=aF.mono n4' l42;have gL:=aF.m.kp aA n46;refine qM O$ Q4 O$ QA O$ Qd S3 O$ Q4 O$ Qk TY O (Rs gL (j:=2) (k:=k) ψ) ?_;rintro _ w8 ⟨rfl,V8,g9⟩
    have eh:k∉(A6.Rx 2 ((A6.li 2).erase k)).li 1:=by
     show k∉A6.often;exact λe=>oN ((az.gone k).1 (.inr e)).1
    refine PQ$ St O$ QA O$ Qd Sw O$ Q4 O$ Qk UA O (S2 g9.m (j:=1) (k:=k) ψ eh (by show A6.often.length<=_;omega)) ?_;rintro _ w9 ⟨rfl,V9,im⟩;have bh:=g9.trans im;have bX:=bh.k.PN bu (λe=>n46 _ e O);have eG:=bX
    have cE:∀b,TQ c V9 p b->TQ c V p b\/w2.heap.size<=b:=λb hb=>by
     rcases bh.fp b hb with h5|h5
     ·exact aF.fp b h5
     ·have:=aF.k.size;have:=aA.size;exact .inr ω
    have ax:Kp (λj=>TQ c V p j\/j=b4) w2 w9:=((aF.k.PU λj e=> .inl e).trans (aA.PU λj e=> .inr e)).It bh.k (λj e=>by
     rcases aF.fp j e with h5|h5
     ·exact .inr (.inl h5)
     ·exact .inl h5)
    refine PQ$ PM$ qN O$ qV (QB (news:=SN false g6) TS O QG O (Q7.cells (n:=3) eG O) O)$ Qb O (QT (news:=SN false g6) QG O O O O eG ξ) ?_;rintro we ⟨dw,bS⟩;replace dw:Q7 we b4 [.bool false,.bool g6.isSome,I (g6.getD 0)] 245:=dw;refine Qc O$ Qt func143 (.cell TS O QG O (Q7.cells (n:=3) dw (news:=[_,_,_]) O) O (.tmp O .nil)) ?_
    have n49:∀b,TQ c V9 p b->b≠b4:=λb hb e=>by
     rcases cE b hb with h5|h5
     ·exact n4' b h5 e
     ·omega
    have fh:A.SB k=({A6 with Qj:=A6.Qj.erase k,often:=A6.often++[k]},false,g6):=by
     unfold Arc.SB;rw[if_neg bD,if_pos hg];dsimp only;rw[hq,hT,bI,cD]
    rw[fh]
    exact⟨_,rfl,rfl,V9,bh.m.kp bS n49,λb hb=>(cE b hb).imp id (λe=>by omega),(aG.kp.It ax (λj e=>by
     rcases e with e| e
     ·exact .inr e
     ·exact .inl ω)).It bS (λj e=> .inl ω)⟩
   ·have ti:=hg;rw[decide_eq_false hg];refine Qc O$ PZ O$ Qx O$ QA O$ Qd Sq O$ Q4 O$ Qk YH O (rL) ?_;rintro _ w2 ⟨rfl,rfl⟩;by_cases hg:k∈A.Qf
    ·rw[decide_eq_true hg];refine Qc O$ Qy.qb (e:=[(0,_),(1,_),(4,_),(5,_),(111,_)]) ?_;refine Qa O$ An ?_;have th:0<A.Qf.length:=List.length_pos_of_mem hg;obtain⟨q,hq⟩:∃q,A.Qj.length / A.Qf.length=q:=⟨_,rfl⟩;have i9:q<=2000:=by rw[<-hq];exact Nat.le_trans (Nat.div_le_self _ _) iG
     have mA:(A.Qj.length:Int) / (A.Qf.length:Int)=(q:Int):=by rw[<-hq];exact(Int.natCast_ediv _ _).symm
     refine Qn [23] (λw'=>Ext w2 w') (by kernel_rfl) O$ R1 0 O O (aa)$ R1 1 O O (aa)$ Qs 2 O (R8 O) aa$ Qs 3 O (Qz So O) aa$ qL 4 O (λ_ h=>PX U3 O O (h.PN fi) O) aa$ R1 5 O O (aa)$ Qs 6 O (R8 O) aa$ Qs 7 O (Qz S3 O) aa$ Qs 8 O (Qz Ro O) aa$ qL 9 O (λ_ h=>PX SC O O (h.PN fi) O) aa$ Qs 10 O (TP SC O) aa$ R1 11 O O (aa)$ Qs 12 O (R8 O) aa ?_;refine Qs 13 O (Qz Sq O) aa$ Qs 14 O (Qz Ro O) aa$ qL 15 O (λ_ h=>PX SC O O (h.PN fi) O) aa$ Qs 16 O (TP SC O) aa$ Qs 17 O (Yh O O ⟨ω,ω,ω⟩) aa ?_;rw[mA];refine Qs 18 O (yma O O) aa$ Qs 19 O (YM O O ω) aa$ Qs 20 O (yma O O) aa$ Qs 21 O (R8 O) aa$ Qs 22 O (Qz So O) aa$ Ut [23]$ qO 23$ QO (i:=23) O O (RV Rl O O O (aa.PN fi) ξ) ?_;rintro w5 ⟨aJ,aj⟩;refine⟨trivial,?_⟩;obtain⟨T,hT⟩:∃T:Int,max 0 (A.target-max 1 (q:Int))=T:=⟨_,rfl⟩;have oM:0<=T/\T<=A.size:=by omega
     rw[hT] at aJ
     replace aJ:Q7 w5 c (acC A.size T V p) 173:=by
      show Q7 w5 c [I (A.size:Int),(V 0).1,(V 0).2,(V 1).1,(V 1).2,(V 2).1,(V 2).2,(V 3).1,(V 3).2,I T,.map (some p)] _;rw[e2,e3];exact aJ
     have bP:=(h2.ext aa).z0l aJ aj;have aV:=hA.z0l oM;obtain⟨A5,bI⟩:∃A5:Arc,{A with target:=T}=A5:=⟨_,rfl⟩;have pM:A5.size=A.size:=by rw[<-bI]
     have oN:¬A5.held k:=by rw[<-bI];exact kq
     have ta:k∈A5.Qf:=by rw[<-bI];exact hg
     rw[bI] at bP aV;refine qE$ Qy.qb (e:=[(0,_),(1,_),(4,_),(5,_)]) ?_;refine Qx O$ Qk z2a O (UN bP.m aV ω true) ?_;rintro _ w6 ⟨rfl,V6,cN⟩;have az:=Arc.Uu aV true;obtain⟨r6,cD⟩:∃r,A5.room true=r:=⟨_,rfl⟩;rw[cD] at cN az⊢;obtain⟨A6,g6⟩:=r6;dsimp only at cN az⊢;have gj:=az.perm.length_eq;have jO:=A6.S1;have oO:=A5.S1;have oP:=aV.total;have aF:=((h2.r aa).trans bP).trans cN;have bY:=aF.k.PN bC (λe=>n4' _ e O);refine Qb O (QT (news:=SN false g6) QG O O O O bY ξ) ?_;rintro w7 ⟨bu,aA⟩;replace bu:Q7 w7 b4 [.bool false,.bool g6.isSome,I (g6.getD 0)] 245:=bu;have n46:=aF.mono n4' l42;have gL:=aF.m.kp aA n46;refine qM O$ Q4 O$ QA O$ Qd Sq O$ Q4 O$ Qk TY O (Rs gL (j:=3) (k:=k) ψ) ?_;rintro _ w8 ⟨rfl,V8,g9⟩
     have eh:k∉(A6.Rx 3 ((A6.li 3).erase k)).li 1:=by
      show k∉A6.often;exact λe=>oN ((az.gone k).1 (.inr e)).1
     refine PQ$ St O$ QA O$ Qd Sw O$ Q4 O$ Qk UA O (S2 g9.m (j:=1) (k:=k) ψ eh (by show A6.often.length<=_;omega)) ?_;rintro _ w9 ⟨rfl,V9,im⟩;have bh:=g9.trans im;have bX:=bh.k.PN bu (λe=>n46 _ e O);have eG:=bX
     have cE:∀b,TQ c V9 p b->TQ c V p b\/w2.heap.size<=b:=λb hb=>by
      rcases bh.fp b hb with h5|h5
      ·exact aF.fp b h5
      ·have:=aF.k.size;have:=aA.size;exact .inr ω
     have ax:Kp (λj=>TQ c V p j\/j=b4) w2 w9:=((aF.k.PU λj e=> .inl e).trans (aA.PU λj e=> .inr e)).It bh.k (λj e=>by
      rcases aF.fp j e with h5|h5
      ·exact .inr (.inl h5)
      ·exact .inl h5)
     refine PQ$ PM$ qN O$ qV (QB (news:=SN false g6) TS O QG O (Q7.cells (n:=3) eG O) O)$ Qb O (QT (news:=SN false g6) QG O O O O eG ξ) ?_;rintro we ⟨dw,bS⟩;replace dw:Q7 we b4 [.bool false,.bool g6.isSome,I (g6.getD 0)] 245:=dw;refine Qc O$ Qt func143 (.cell TS O QG O (Q7.cells (n:=3) dw (news:=[_,_,_]) O) O (.tmp O .nil)) ?_
     have n49:∀b,TQ c V9 p b->b≠b4:=λb hb e=>by
      rcases cE b hb with h5|h5
      ·exact n4' b h5 e
      ·omega
     have fh:A.SB k=({A6 with Qf:=A6.Qf.erase k,often:=A6.often++[k]},false,g6):=by
      unfold Arc.SB;rw[if_neg bD,if_neg ti,if_pos hg];dsimp only;rw[hq,hT,bI,cD]
     rw[fh]
     exact⟨_,rfl,rfl,V9,bh.m.kp bS n49,λb hb=>(cE b hb).imp id (λe=>by omega),(aG.kp.It ax (λj e=>by
      rcases e with e| e
      ·exact .inr e
      ·exact .inl ω)).It bS (λj e=> .inl ω)⟩
    ·rw[decide_eq_false hg];refine Qc O$ Qy.qb (e:=[(0,_),(1,_),(4,_),(5,_),(111,_)]) ?_;refine PZ O$ Qx O$ Qk zcC O (z2O h2 hA cJ) ?_;rintro _ w6 ⟨rfl,V6,cN⟩;have eg:=Arc.z4J hA;obtain⟨r6,cD⟩:∃r,A.add=r:=⟨_,rfl⟩;rw[cD] at cN eg⊢;obtain⟨A6,g6⟩:=r6;dsimp only at cN eg⊢;obtain⟨fK,-,-⟩:=eg;have jO:=A6.S1;have aF:=cN;have bY:=aF.k.PN bC (λe=>n4' _ e O);refine Qb O (QT (news:=SN false g6) QG O O O O bY ξ) ?_;rintro w7 ⟨bu,aA⟩;replace bu:Q7 w7 b4 [.bool false,.bool g6.isSome,I (g6.getD 0)] 245:=bu;have n46:=aF.mono n4' l42;have gL:=aF.m.kp aA n46
     have eh:k∉A6.li 0:=by
      show k∉A6.once;exact λe=>kq ((fK.gone k).1 (.inl e)).1
     have pX:=fK.ZR;refine PQ$ St O$ QA O$ Qd RJ O$ Q4 O$ Qk UA O (S2 gL (j:=0) (k:=k) ψ eh (by show A6.once.length<=_;omega)) ?_;rintro _ w9 ⟨rfl,V9,im⟩;have bh:=im;have bX:=bh.k.PN bu (λe=>n46 _ e O);have eG:=bX
     have cE:∀b,TQ c V9 p b->TQ c V p b\/w2.heap.size<=b:=λb hb=>by
      rcases bh.fp b hb with h5|h5
      ·exact aF.fp b h5
      ·have:=aF.k.size;have:=aA.size;exact .inr ω
     have ax:Kp (λj=>TQ c V p j\/j=b4) w2 w9:=((aF.k.PU λj e=> .inl e).trans (aA.PU λj e=> .inr e)).It bh.k (λj e=>by
      rcases aF.fp j e with h5|h5
      ·exact .inr (.inl h5)
      ·exact .inl h5)
     refine PQ$ PM$ qN O$ qV (QB (news:=SN false g6) TS O QG O (Q7.cells (n:=3) eG O) O)$ Qb O (QT (news:=SN false g6) QG O O O O eG ξ) ?_;rintro we ⟨dw,bS⟩;replace dw:Q7 we b4 [.bool false,.bool g6.isSome,I (g6.getD 0)] 245:=dw;refine Qc O$ Qt func143 (.cell TS O QG O (Q7.cells (n:=3) dw (news:=[_,_,_]) O) O (.tmp O .nil)) ?_
     have n49:∀b,TQ c V9 p b->b≠b4:=λb hb e=>by
      rcases cE b hb with h5|h5
      ·exact n4' b h5 e
      ·omega
     have fh:A.SB k=({A6 with once:=A6.once++[k]},false,g6):=by
      unfold Arc.SB;rw[if_neg bD,if_neg ti,if_neg hg];dsimp only;rw[cD]
     rw[fh]
     exact⟨_,rfl,rfl,V9,bh.m.kp bS n49,λb hb=>(cE b hb).imp id (λe=>by omega),(aG.kp.It ax (λj e=>by
      rcases e with e| e
      ·exact .inr e
      ·exact .inl ω)).It bS (λj e=> .inl ω)⟩
end
def Arc.z8V (A:Arc)(k:Int):Nat->Arc
 |0=>A
 |i+1=>(A.z8V k i).Rx i (((A.z8V k i).li i).erase k)
def Arc.drop (A:Arc)(k:Int):Arc:=A.z8V k 4
theorem Arc.drop_eq (A:Arc)(k:Int):A.drop k={A with once:=A.once.erase k,often:=A.often.erase k,Qj:=A.Qj.erase k,Qf:=A.Qf.erase k}:=rfl
theorem Arc.Ok.drop {A:Arc}(h:A.Ok)(k:Int):(A.drop k).Ok:=by
 rw[Arc.drop_eq]
 have hs:(A.once.erase k++(A.often.erase k++(A.Qj.erase k++A.Qf.erase k))).Sublist A.all:=List.erase_sublist.append (List.erase_sublist.append (List.erase_sublist.append List.erase_sublist))
 have a1:(A.once.erase k).length<=A.once.length:=List.length_erase_le
 have a2:(A.often.erase k).length<=A.often.length:=List.length_erase_le
 have a3:(A.Qj.erase k).length<=A.Qj.length:=List.length_erase_le
 have h1:=h.held
 have h2:=h.first
 exact⟨h.pos,h.nd.sublist hs,by dsimp only;omega,by dsimp only;omega,Nat.le_trans hs.length_le h.total,h.tg⟩
def Arc.za1 {A:Arc}(h:A.Ok)(k x:Int):(A.drop k).held x↔A.held x/\x≠k:=by
 have eY:=h.nd
 unfold Arc.all at eY
 rw[List.nodup_append] at eY
 obtain⟨nd1,nd2,-⟩:=eY
 rw[List.nodup_append] at nd2
 obtain⟨nd4,-,-⟩:=nd2
 rw[Arc.drop_eq]
 unfold Arc.held
 dsimp only
 rw[nd1.mem_erase_iff,nd4.mem_erase_iff]
 constructor
 ·rintro(⟨a,b⟩|⟨a,b⟩)
  ·exact⟨.inl b,a⟩
  ·exact⟨.inr b,a⟩
 ·rintro⟨b|b,a⟩
  ·exact .inl ⟨a,b⟩
  ·exact .inr ⟨a,b⟩
section
variable {w w' w2:World}{c p:Nat}{A:Arc}{V V':Nat->Value×Value}{k:Int}
theorem zaR (h:TX w c A V p):Qu prog 132 [ptr c 0,I k] w λv w'=>(∃z,v=I z)/\∃V',Xz w c V p w' (A.drop k) V':=by
 have hB:=h.cells
 have mz:=WL h (j:=2) (k:=k) ψ
 have rL:=WL h (j:=3) (k:=k) ψ
 rw[show A.li 2=A.Qj from rfl] at mz
 rw[show A.li 3=A.Qf from rfl] at rL
 refine py (e:=[(0,_),(1,_)]) func132 O ntmps132 O O$ RN O$ An$ QH (λe' w'=>e'=[(0,ptr c 0),(1,I k)]/\w'=w) ?db$ λdb=>?j3
 case db=>
  rintro e' w1 ⟨rfl,rfl⟩;have hg:=Ext.Qh w1;refine An$ An$ S5 (λw'=>Ext w1 w') O$ Qi 0 O O (hg)$ PT 1 O (R8 O) hg$ PT 2 O (Qz RJ O) hg$ Qi 3 O O (hg)$ PT 4 O (R8 O) hg$ PT 5 O (Qz Sw O) hg$ Qi 6 O O (hg)$ PT 7 O (R8 O) hg$ PT 8 O (Qz S3 O) hg$ Qi 9 O O (hg)$ PT 10 O (R8 O) hg ?_;refine PT 11 O (Qz Sq O) hg$ Qi 14 O O (hg)$ qO 12$ YZ (i:=12) O O O (Zh (cs:=[_,_,_,_]) (zs:=[Value.pointer none,Value.pointer none,Value.pointer none,Value.pointer none]) zh9 zf4 O (by kernel_rfl) O O O ψ) ?_;rintro _ w2 ⟨b51,rfl,⟨G7,ae,MY⟩,AC⟩;refine⟨hg.trans ae,?_⟩;have aI:=hg.trans ae;refine PT 13 O (TP zh9 O) (hg.trans ae)$ qE$ PS ?_;have aR:∀{b:Nat},TQ c V p b->b<w1.heap.size:=h.lt;have lb:=AC.lt (g:=b51) O;have z12:=hg.size;have G8:=AC.rd;refine SK (α:=Nat×(Nat->Value×Value)) ((0,V)) (λx=>[(1,I k),(51,.slice (some ⟨b51,0,none⟩) 4 4),(52,I 4),(53,I (x.1:Int))]) (λx w'=>x.1<=4/\Xz w2 c V p w' (A.z8V k x.1) x.2/\Rd w' (.slice (some ⟨b51,0,none⟩) 4 4) 1 4 [ptr c 1,ptr c 3,ptr c 5,ptr c 7]) (λx=>4-x.1) ?hI ?hround
  case hI=>exact⟨Nat.zero_le _,(h.ext aI).r (Ext.refl w2),G8⟩
  case hround=>
   rintro⟨i,Vi⟩ w3 ⟨hi,lw,G9⟩ ih;dsimp only at hi lw G9 ih⊢
   try dsimp only
   refine qN O$ RT O$ PQ$ An$ Q8 O (λh0=>?_)$ λh0=>?_
   ·have pP:i<4:=by omega
    have hx:([ptr c 1,ptr c 3,ptr c 5,ptr c 7]:List Value)[i]? =some (ptr c (1+2*i)):=by
     match i,pP with
     |0,_|1,_|2,_|3,_=>rfl
    refine PR$ RP$ qN O$ qV (Rh zh9 zf4 O O ω)$ qV (QF zlB O O (Rf G9 hx))$ Qc O$ PW O$ Qp O$ Qk TY O (Rs lw.m (j:=i) (k:=k) pP) ?_;rintro _ w4 ⟨rfl,V4,bH⟩;refine PQ$ PM$ PW O$ R7 O$ Q4 O$ PQ ((ih (i+1,V4) _ ⟨pP,lw.trans bH,G9.kp bH.k λg e hf=>?_⟩ (by dsimp only;omega)).qb);have e':b51=g:=SH e;rcases lw.fp _ hf with e| e
    ·have:=aR e;have hb:b51=w1.drew.heap.size:=G7;omega
    ·omega
   ·have pP:i=4:=by omega
    subst pP;refine Q5 O$ RN O$ PO func132 O ?_;exact⟨_,rfl,⟨0,rfl⟩,Vi,(h.r aI).trans lw⟩
 case j3 =>
  refine PS$ Qx O$ qV (R9 zcY O O)$ Qc O$ PZ O$ RI O$ Qk zfK O (z3T h (k:=k)) ?_;rintro _ w ⟨rfl,rfl⟩;by_cases fZ:k∈A.once\/k∈A.often
  ·rw[decide_eq_true fZ];refine qV ((T7 O))$ Q4 O$ S6$ S6$ S6$ QY O$ Q4 O$ S6$ S6$ S6$ QY O$ Qc O$ Qy.qb (e:=[(0,_),(1,_),(4,_),(10,_)]) ?_;refine PZ O$ Qx O$ QA O$ Qd z1E O$ qV (PX YD O O hB O)$ Q4 O$ qV (ylk (k:=k) (K:=KI) YD (Tm U3) Rl O O h.pins)$ RK O$ QW$ Qc O$ TT O$ PM ?_;exact(db _ _ ⟨rfl,rfl⟩).qb
  ·rw [decide_eq_false fZ]; refine qV ((T7 O)) (Qp O (QA O (Qd S3 O (Q4 O (Qk YH O (mz) ?_))))); rintro _ w ⟨rfl, rfl⟩; by_cases am : k ∈ A.Qj
   ·rw[decide_eq_true am];refine qV ((T7 O))$ Sa O$ Q4 O$ S6$ S6$ S6$ QY O$ Qc O$ Qy.qb (e:=[(0,_),(1,_),(4,_),(10,_)]) ?_;refine PZ O$ Qx O$ QA O$ Qd z1E O$ qV (PX YD O O hB O)$ Q4 O$ qV (ylk (k:=k) (K:=KI) YD (Tm U3) Rl O O h.pins)$ RK O$ QW$ Qc O$ TT O$ PM ?_;exact(db _ _ ⟨rfl,rfl⟩).qb
   ·rw[decide_eq_false am];refine qV ((T7 O))$ Sa O$ Qp O$ QA O$ Qd Sq O$ Q4 O$ Qk YH O (rL) ?_;rintro _ w ⟨rfl,rfl⟩;by_cases av:k∈A.Qf
    ·rw[decide_eq_true av];refine qV ((T7 O))$ Sa O$ Qc O$ Qy.qb (e:=[(0,_),(1,_),(4,_),(10,_)]) ?_;refine PZ O$ Qx O$ QA O$ Qd z1E O$ qV (PX YD O O hB O)$ Q4 O$ qV (ylk (k:=k) (K:=KI) YD (Tm U3) Rl O O h.pins)$ RK O$ QW$ Qc O$ TT O$ PM ?_;exact(db _ _ ⟨rfl,rfl⟩).qb
    ·rw[decide_eq_false av];refine qV ((T7 O))$ Sa O$ Qc O$ Qy.qb (e:=[(0,_),(1,_),(4,_),(10,_)]) ?_;refine Qa O$ RN O$ PO func132 O ?_
     have hd:A.drop k=A:=by
      rw[Arc.drop_eq,List.erase_of_not_mem (λe=>fZ (.inl e)),List.erase_of_not_mem (λe=>fZ (.inr e)),List.erase_of_not_mem am,List.erase_of_not_mem av]
     rw[hd];exact⟨_,rfl,⟨6,rfl⟩,V,h.r (Ext.refl w)⟩
end
structure Pg where
 k:Int
 b:Nat
 t:PV
 d:Bool
def Vp (l:List Pg):List (Int×Value):=l.map λg=>(g.k,ptr g.b 0)
def pgC (t:PV)(d:Bool):List Value:=[S t,.bool d,I 0]
structure Sj where
 s:Nat
 d:Nat
 m:Nat
 gi:Nat
 c:Nat
 pm:Nat
 p:Nat
 fr:Nat
 V:Nat->Value×Value
 D:Dev
 A:Arc
 l:List Pg
 L:List Bool
 Fd:Nat->Prop
 h:Int
 mi:Int
 wr:Int
def Sj.cp (P:Sj):Nat->Nat->Prop
 |0,b=>b=P.s
 |1,b=>P.Fd b
 |2,b=>b=P.m\/b=P.gi
 |3,b=>TQ P.c P.V P.p b
 |4,b=>b=P.pm
 |5,b=>∃g∈P.l,g.b=b
 |_,_=>False
def Sj.fp (P:Sj)(b:Nat):Prop:=∃i,P.cp i b
def plC (P:Sj):List Value:=[ptr P.d 0,ptr P.m 0,ptr P.c 0,.map (some P.pm),I (P.fr:Int),I P.h,I P.mi,I P.wr,I 0,I 0,I 0,.bool false]
def Dis (f:Nat->Nat->Prop):Prop:=∀i j,i≠j->∀b,f i b->¬f j b
structure VF (w:World)(P:Sj):Prop where
 PN:Q7 w P.s (plC P) 113
 dev:Xy w P.d P.D P.Fd
 ext:YU w P.m P.gi P.L
 arc:TX w P.c P.A P.V P.p
 mp:TR KI w P.pm (Vp P.l)
 pg:∀g∈P.l,Q7 w g.b (pgC g.t g.d) 204
 pnd:(P.l.map (·.b)).Nodup
 WB:Dis P.cp
section
variable {w w' w0:World}{P P0 P':Sj}{S:Nat->Prop}{i0:Nat}
def VF.lt (h:VF w P){b:Nat}(hb:P.fp b):b<w.heap.size:=by
 obtain⟨i,hi⟩:=hb
 match i,hi with
 |0,e=>rw[show b=P.s from e];exact h.PN.lt
 |1,e=>exact h.dev.lt b e
 | 2, e =>
   rcases e with e| e
   ·rw[e];exact h.ext.ltm
   ·rw[e];exact h.ext.ltg
 |3,e=>exact h.arc.lt e
 |4,e=>rw[show b=P.pm from e];exact h.mp.lt
 |5,⟨g,hg,e⟩=>rw[<-e];exact(h.pg g hg).lt
def VF.kp (h:VF w P)(hk:Kp S w w')(hn:∀b,P.fp b->¬S b):VF w' P:=
 ⟨hk.PN h.PN (hn _ ⟨0,rfl⟩),h.dev.kp hk λb hb=>hn b ⟨1,hb⟩,h.ext.kp hk (hn _ ⟨2,.inl O⟩) (hn _ ⟨2,.inr O⟩),h.arc.kp hk λb hb=>hn b ⟨3,hb⟩,h.mp.kp hk (hn _ ⟨4,rfl⟩),λg hg=>hk.PN (h.pg g hg) (hn _ ⟨5,g,hg,rfl⟩),h.pnd,h.WB⟩
theorem VF.ext' (h:VF w P)(hx:Ext w w'):VF w' P:=h.kp (S:=λ_=>False) hx λ_ _=>id
def VF.zbf (h:VF w P)(hk:Kp (P.cp i0) w w')(ne:0≠i0):Q7 w' P.s (plC P) 113:=hk.PN h.PN (h.WB 0 i0 ne _ O)
def VF.zb1 (h:VF w P)(hk:Kp (P.cp i0) w w')(ne:1≠i0):Xy w' P.d P.D P.Fd:=h.dev.kp hk λb hb=>h.WB 1 i0 ne b hb
def VF.text (h:VF w P)(hk:Kp (P.cp i0) w w')(ne:2≠i0):YU w' P.m P.gi P.L:=h.ext.kp hk (h.WB 2 i0 ne _ (.inl O)) (h.WB 2 i0 ne _ (.inr O))
def VF.zbu (h:VF w P)(hk:Kp (P.cp i0) w w')(ne:3≠i0):TX w' P.c P.A P.V P.p:=h.arc.kp hk λb hb=>h.WB 3 i0 ne b hb
def VF.tmp (h:VF w P)(hk:Kp (P.cp i0) w w')(ne:4≠i0):TR KI w' P.pm (Vp P.l):=h.mp.kp hk (h.WB 4 i0 ne _ O)
def VF.tpg (h:VF w P)(hk:Kp (P.cp i0) w w')(ne:5≠i0):∀g∈P.l,Q7 w' g.b (pgC g.t g.d) 204:=λg hg=>hk.PN (h.pg g hg) (h.WB 5 i0 ne _ ⟨g,hg,rfl⟩)
def VF.zcv (h:VF w P)(hs:∀i,i≠i0->P'.cp i=P.cp i)(hi:∀b,P'.cp i0 b->P.cp i0 b\/∀i,¬P.cp i b):Dis P'.cp:=λi j ne b hb bO=>by
 by_cases e:i=i0
 ·have e2:j≠i0:=λe2=>ne (e.trans e2.symm);rw[e] at hb;rw[hs j e2] at bO;rcases hi b hb with h1|h1
  ·exact h.WB i0 j (λe3=>e2 e3.symm) b h1 bO
  ·exact h1 j bO
 ·rw[hs i e] at hb;by_cases e2:j=i0
  ·rw[e2] at bO;rcases hi b bO with h1|h1
   ·exact h.WB i i0 e b hb h1
   ·exact h1 i hb
  ·rw[hs j e2] at bO;exact h.WB i j ne b hb bO
def VF.new (h:VF w P){b:Nat}(hb:w.heap.size<=b):∀i,¬P.cp i b:=λi e=>by have:=h.lt ⟨i,e⟩;omega
structure VJ (w0:World)(P0:Sj)(w:World)(P:Sj):Prop where
 m:VF w P
 fp:∀b,P.fp b->P0.fp b\/w0.heap.size<=b
 k:Kp P0.fp w0 w
theorem VF.r (h:VF w P)(hx:Ext w w'):VJ w P w' P:=⟨h.ext' hx,λb hb=> .inl hb,hx.kp⟩
def VJ.ext (h:VJ w0 P0 w P)(hx:Ext w w'):VJ w0 P0 w' P:=⟨h.m.ext' hx,h.fp,h.k.trans hx.kp⟩
def VJ.loc (h:VJ w0 P0 w P)(hk:Kp S w w')(hS:∀b,S b->(P0.fp b\/w0.heap.size<=b)/\∀i,¬P.cp i b):VJ w0 P0 w' P:=
 ⟨h.m.kp hk λb ⟨i,hb⟩ e=>(hS b e).2 i hb,h.fp,h.k.It hk λb e=>(hS b e).1.symm⟩
theorem VJ.part (h:VJ w0 P0 w P)(i0:Nat)(hm:VF w' P')(hs:∀i,i≠i0->P'.cp i=P.cp i)(hi:∀b,P'.cp i0 b->P.cp i0 b\/w0.heap.size<=b)(hk:Kp (P.cp i0) w w'):VJ w0 P0 w' P':=
 ⟨hm,λb ⟨i,hb⟩=>by
  by_cases e:i=i0
  ·rw[e] at hb;rcases hi b hb with h1|h1
   ·exact h.fp b ⟨i0,h1⟩
   ·exact .inr h1
  ·rw[hs i e] at hb
   exact h.fp b ⟨i,hb⟩,h.k.It hk λb hb=>(h.fp b ⟨i0,hb⟩).symm⟩
theorem VJ.trans {w2:World}{P2:Sj}(h:VJ w0 P0 w P)(h2:VJ w P w2 P2):VJ w0 P0 w2 P2:=
 ⟨h2.m,λb hb=>by
  rcases h2.fp b hb with e| e
  ·exact h.fp b e
  ·exact .inr (by have:=h.k.size;omega),h.k.It h2.k λb hb=>(h.fp b hb).symm⟩
def VJ.dev (h:VJ w0 P0 w P){D':Dev}(ht:z9Y w P.d P.Fd D' w'):∃Fd',VJ w0 P0 w' {P with D:=D',Fd:=Fd'}/\∀b,Fd' b->P.Fd b\/w.heap.size<=b:=by
 obtain⟨F',hd,hu⟩:=ht
 have hs:∀i,i≠1->Sj.cp {P with D:=D',Fd:=F'} i=P.cp i:=λi e=>by
  match i,e with
  |0,_|2,_|3,_|4,_|5,_=>rfl
  |i+6,_=>rfl
 have hk:Kp (P.cp 1) w w':=hu.1
 refine⟨F',h.part 1 ⟨h.m.zbf hk ψ,hd,h.m.text hk ψ,h.m.zbu hk ψ,h.m.tmp hk ψ,h.m.tpg hk ψ,h.m.pnd,h.m.zcv hs λb hb=>?_⟩ hs (λb hb=>?_) hk,hu.2⟩
 ·exact(hu.2 b hb).imp id λe=>h.m.new e
 ·exact(hu.2 b hb).imp id λe=>by have:=h.k.size;omega
def VJ.arc (h:VJ w0 P0 w P){A':Arc}{V':Nat->Value×Value}(hr:Xz w P.c P.V P.p w' A' V'):VJ w0 P0 w' {P with A:=A',V:=V'}:=by
 have hs:∀i,i≠3->Sj.cp {P with A:=A',V:=V'} i=P.cp i:=λi e=>by
  match i,e with
  |0,_|1,_|2,_|4,_|5,_=>rfl
  |i+6,_=>rfl
 have hk:Kp (P.cp 3) w w':=hr.k
 refine h.part 3 ⟨h.m.zbf hk ψ,h.m.zb1 hk ψ,h.m.text hk ψ,hr.m,h.m.tmp hk ψ,h.m.tpg hk ψ,h.m.pnd,h.m.zcv hs λb hb=>?_⟩ hs (λb hb=>?_) hk
 ·exact(hr.fp b hb).imp id λe=>h.m.new e
 ·exact(hr.fp b hb).imp id λe=>by have:=h.k.size;omega
def VJ.exM (h:VJ w0 P0 w P){L':List Bool}(he:YU w' P.m P.gi L')(hk:Kp (λb=>b=P.gi) w w'):VJ w0 P0 w' {P with L:=L'}:=by
 have hs:∀i,i≠2->Sj.cp {P with L:=L'} i=P.cp i:=λi e=>by
  match i,e with
  |0,_|1,_|3,_|4,_|5,_=>rfl
  |i+6,_=>rfl
 have hk:Kp (P.cp 2) w w':=hk.PU λb e=> .inr e
 exact h.part 2 ⟨h.m.zbf hk ψ,h.m.zb1 hk ψ,he,h.m.zbu hk ψ,h.m.tmp hk ψ,h.m.tpg hk ψ,h.m.pnd,h.m.zcv hs λb hb=> .inl hb⟩ hs (λb hb=> .inl hb) hk
def VJ.cnt (h:VJ w0 P0 w P){a b c:Int}(hB:Q7 w' P.s (plC {P with h:=a,mi:=b,wr:=c}) 113)(hk:Kp (λb=>b=P.s) w w'):VJ w0 P0 w' {P with h:=a,mi:=b,wr:=c}:=by
 have hs:∀i,i≠0->Sj.cp {P with h:=a,mi:=b,wr:=c} i=P.cp i:=λi e=>by
  match i,e with
  |1,_|2,_|3,_|4,_|5,_=>rfl
  |i+6,_=>rfl
 have hk:Kp (P.cp 0) w w':=hk
 exact h.part 0 ⟨hB,h.m.zb1 hk ψ,h.m.text hk ψ,h.m.zbu hk ψ,h.m.tmp hk ψ,h.m.tpg hk ψ,h.m.pnd,h.m.zcv hs λb hb=> .inl hb⟩ hs (λb hb=> .inl hb) hk
def VJ.del (h:VJ w0 P0 w P){l':List Pg}(hl:l'.Sublist P.l)(hm:TR KI w' P.pm (Vp l'))(hk:Kp (λb=>b=P.pm) w w'):VJ w0 P0 w' {P with l:=l'}:=by
 have hk:Kp (P.cp 4) w w':=hk
 have dT:∀i b,Sj.cp {P with l:=l'} i b->P.cp i b:=λi b hb=>by
  match i,hb with
  |0,e|1,e|2,e|3,e|4,e=>exact e
  |5,⟨g,hg,e⟩=>exact⟨g,hl.subset hg,e⟩
 have hp:=h.m.tpg hk ψ
 exact⟨⟨h.m.zbf hk ψ,h.m.zb1 hk ψ,h.m.text hk ψ,h.m.zbu hk ψ,hm,λg hg=>hp g (hl.subset hg),(hl.map _).nodup h.m.pnd,λi j ne b hb bO=>h.m.WB i j ne b (dT i b hb) (dT j b bO)⟩,λb ⟨i,hb⟩=>h.fp b ⟨i,dT i b hb⟩,h.k.It hk λb hb=>(h.fp b ⟨4,hb⟩).symm⟩
def VJ.ins (h:VJ w0 P0 w P){g:Pg}(hg:w0.heap.size<=g.b/\∀i,¬P.cp i g.b)(hb:Q7 w g.b (pgC g.t g.d) 204)(hm:TR KI w' P.pm (Vp (P.l++[g])))(hk:Kp (λb=>b=P.pm) w w'):VJ w0 P0 w' {P with l:=P.l++[g]}:=by
 have hk:Kp (P.cp 4) w w':=hk
 have hp:=h.m.tpg hk ψ
 have gJ:∀i b,Sj.cp {P with l:=P.l++[g]} i b->P.cp i b\/(i=5/\b=g.b):=λi b hb=>by
  match i,hb with
  |0,e|1,e|2,e|3,e|4,e=>exact .inl e
  | 5, ⟨g', cU, e⟩ =>
    rcases List.mem_append.1 cU with e2|e2
    ·exact .inl ⟨g',e2,e⟩
    ·rw[List.mem_singleton.1 e2] at e;exact .inr ⟨rfl,e.symm⟩
 refine⟨⟨h.m.zbf hk ψ,h.m.zb1 hk ψ,h.m.text hk ψ,h.m.zbu hk ψ,hm,λg' cU=>?_,?_,λi j ne b hb bO=>?_⟩,λb ⟨i,hb⟩=>?_,h.k.It hk λb hb=>(h.fp b ⟨4,hb⟩).symm⟩
 ·rcases List.mem_append.1 cU with e| e
  ·exact hp g' e
  ·rw[List.mem_singleton.1 e];exact hk.PN hb (hg.2 4)
 ·show((P.l++[g]).map (·.b)).Nodup;rw[List.map_append,List.nodup_append];refine⟨h.m.pnd,ξ,λa ha b hb e=>?_⟩;obtain⟨g',cU,rfl⟩:=List.mem_map.1 ha;rw[List.map_singleton,List.mem_singleton] at hb;exact hg.2 5 ⟨g',cU,e.trans hb⟩
 ·rcases gJ i b hb with e|⟨e,e2⟩
  ·rcases gJ j b bO with f|⟨f,f2⟩
   ·exact h.m.WB i j ne b e f
   ·rw[f2] at e;exact hg.2 i e
  ·rcases gJ j b bO with f|⟨f,f2⟩
   ·rw[e2] at f;exact hg.2 j f
   ·exact ne (e.trans f.symm)
 ·rcases gJ i b hb with e|⟨e,e2⟩
  ·exact h.fp b ⟨i,e⟩
  ·rw[e2];exact .inr hg.1
theorem TW {α β:Type}{f:α->β}:∀{l:List α},(l.map f).Nodup->∀{a b:α},a∈l->b∈l->f a=f b->a=b
 |[],_,a,b,ha,_,_=>by cases ha
 | x :: l, hn, a, b, ha, hb, e => by
   rw[List.map_cons,List.nodup_cons] at hn;rcases List.mem_cons.1 ha with h1|h1
   ·rcases List.mem_cons.1 hb with h2|h2
    ·rw[h1,h2]
    ·exact absurd (List.mem_map.2 ⟨b,h2,by rw[<-e,h1]⟩) hn.1
   ·rcases List.mem_cons.1 hb with h2|h2
    ·exact absurd (List.mem_map.2 ⟨a,h1,by rw[e,h2]⟩) hn.1
    ·exact TW hn.2 h1 h2 e
def SZ (l:List Pg)(k:Int)(t:PV)(d:Bool):List Pg:=l.map λg=>if g.k=k then {g with t:=t,d:=d} else g
theorem zd8 (l:List Pg)(k:Int)(t:PV)(d:Bool):Vp (SZ l k t d)=Vp l:=by
 unfold Vp SZ
 rw[List.map_map]
 refine List.map_congr_left λg _=>?_
 by_cases h:g.k=k
 ·simp only[Function.comp_apply,if_pos h]
 ·simp only[Function.comp_apply,if_neg h]
theorem z4E (l:List Pg)(k:Int)(t:PV)(d:Bool):(SZ l k t d).map (·.b)=l.map (·.b):=by
 unfold SZ
 rw[List.map_map]
 refine List.map_congr_left λg _=>?_
 show Pg.b (if _ then _ else _)=_
 split<;>rfl
def VJ.zkD (h:VJ w0 P0 w P){g:Pg}(hg:g∈P.l){t:PV}{d:Bool}(hb:Q7 w' g.b (pgC t d) 204)(hk:Kp (λb=>b=g.b) w w'):VJ w0 P0 w' {P with l:=SZ P.l g.k t d}:=by
 have eY:=h.m.mp.nd
 have mj:∀b,(∃g'∈SZ P.l g.k t d,g'.b=b)↔∃g'∈P.l,g'.b=b:=λb=>by
  have e:=z4E P.l g.k t d;constructor
  ·rintro⟨g',cU,rfl⟩;have:g'.b∈P.l.map (·.b):=by rw[<-e];exact List.mem_map.2 ⟨g',cU,rfl⟩
   obtain⟨g2,a,b⟩:=List.mem_map.1 this;exact⟨g2,a,b⟩
  ·rintro⟨g',cU,rfl⟩;have:g'.b∈(SZ P.l g.k t d).map (·.b):=by rw[e];exact List.mem_map.2 ⟨g',cU,rfl⟩
   obtain⟨g2,a,b⟩:=List.mem_map.1 this;exact⟨g2,a,b⟩
 have hs:∀i,i≠5->Sj.cp {P with l:=SZ P.l g.k t d} i=P.cp i:=λi e=>by
  match i,e with
  |0,_|1,_|2,_|3,_|4,_=>rfl
  |i+6,_=>rfl
 have aj:Kp (P.cp 5) w w':=hk.PU λb e=>⟨g,hg,e.symm⟩
 have hi:∀b,Sj.cp {P with l:=SZ P.l g.k t d} 5 b->P.cp 5 b:=λb hb=>(mj b).1 hb
 refine h.part 5 ⟨h.m.zbf aj ψ,h.m.zb1 aj ψ,h.m.text aj ψ,h.m.zbu aj ψ,?_,λg' cU=>?_,?_,h.m.zcv hs λb hb=> .inl (hi b hb)⟩ hs (λb hb=> .inl (hi b hb)) aj
 ·show TR KI w' P.pm (Vp (SZ P.l g.k t d));rw[zd8];exact h.m.tmp aj ψ
 ·obtain⟨g2,aa,rfl⟩:=List.mem_map.1 cU;by_cases e:g2.k=g.k
  ·rw[if_pos e]
   have e2:g2=g:=by
    unfold Vp at eY;rw[List.map_map] at eY;have Ga:(P.l.map (·.k)).Nodup:=eY;exact TW Ga aa hg e
   rw[e2];exact hb
  ·rw[if_neg e];have bE:g2.b≠g.b:=λe2=>e (by rw[TW h.m.pnd aa hg e2]);exact hk.PN (h.m.pg g2 aa) bE
 ·show((SZ P.l g.k t d).map (·.b)).Nodup;rw[z4E];exact h.m.pnd
end
def Tb (l:List Pg):Nat:=l.countP (·.d)
structure Xt (P:Sj)(txt:Int->PV)(K:Nat):Prop where
 aok:P.A.Ok
 asz:P.A.size<=1000
 keys:∀x,x∈P.l.map (·.k)↔P.A.held x
 nd:(P.l.map (·.k)).Nodup
 rng:∀g∈P.l,0<=g.k/\g.k<(P.L.length:Int)
 tx:∀g∈P.l,g.t=txt g.k
 cl:∀g∈P.l,g.d=false->P.D.now g.k=txt g.k
 out:∀x,0<=x->x<(P.L.length:Int)->¬P.A.held x->P.D.now x=txt x
 len:∀x,0<=x->x<(P.L.length:Int)->(txt x).length=512
 down:P.D.down=false
 due:P.D.due=0
 B:P.D.B=P.L.length
 N:P.D.N=1
 ca:P.D.calls+(Tb P.l:Int)<=(K:Int)
 cc:P.D.cache.length+Tb P.l<=K
 TG:P.D.TG.length<=17592186044416
def z0z (txt:Int->PV)(no:Int)(wt:Option PV):Int->PV:=λx=>if x=no then wt.getD (txt x) else txt x
theorem z0p (txt:Int->PV)(no:Int):z0z txt no none=txt:=by
 funext x
 unfold z0z
 split<;>rfl
theorem Tk (txt:Int->PV)(no:Int)(wt:Option PV):z0z txt no wt no=wt.getD (txt no):=if_pos O
theorem SD (txt:Int->PV){no x:Int}(wt:Option PV)(h:x≠no):z0z txt no wt x=txt x:=if_neg h
def wN (wt:Option PV):Nat:=if wt.isSome then 1 else 0
theorem z5H (D:Dev)(n x:Int)(s:PV):((D.push n s).count).now x=if n=x then s else D.now x:=by
 unfold Dev.now Dev.count Dev.push
 dsimp only
 rw[z7z]
 split<;>rfl
theorem z3V (D:Dev)(z:Int)(x:Int):({D with reads:=z}:Dev).now x=D.now x:=rfl
section
variable {P:Sj}{txt:Int->PV}{K:Nat}{no:Int}{wt:Option PV}
def z0T (no:Int)(t:PV):∀{l:List Pg},(l.map (·.k)).Nodup->Tb (SZ l no t true)<=Tb l+1
 |[],_=>Nat.zero_le _
 | g :: l, hn => by
   rw[List.map_cons,List.nodup_cons] at hn;by_cases h:g.k=no
   ·have e:SZ l no t true=l:=by
     unfold SZ
     conv=>rhs;rw[<-List.map_id l]
     refine List.map_congr_left λg' cU=>?_;rw[if_neg λe=>hn.1 (List.mem_map.2 ⟨g',cU,by rw[e,h]⟩)];rfl
    have e2:SZ (g::l) no t true={g with t:=t,d:=true}::l:=by
     show(if g.k=no then _ else g)::SZ l no t true=_;rw[if_pos h,e]
    rw[e2];unfold Tb;rw[List.countP_cons,List.countP_cons];split<;>split<;>omega
   ·have ih:=z0T no t hn.2
    have e2:SZ (g::l) no t true=g::SZ l no t true:=by
     show(if g.k=no then _ else g)::SZ l no t true=_;rw[if_neg h]
    rw[e2];unfold Tb at*;rw[List.countP_cons,List.countP_cons];omega
theorem z2C {l:List Pg}(hn:(l.map (·.k)).Nodup){g:Pg}(hg:g∈l):SZ l g.k g.t g.d=l:=by
 unfold SZ
 conv=>rhs;rw[<-List.map_id l]
 refine List.map_congr_left λg' cU=>?_
 by_cases h:g'.k=g.k
 ·rw[if_pos h,TW hn cU hg h];rfl
 ·rw[if_neg h];rfl
theorem z8D (l:List Pg)(k:Int)(t:PV)(d:Bool):(SZ l k t d).map (·.k)=l.map (·.k):=by
 unfold SZ
 rw[List.map_map]
 refine List.map_congr_left λg _=>?_
 by_cases h:g.k=k
 ·simp only[Function.comp_apply,if_pos h]
 ·simp only[Function.comp_apply,if_neg h]
def z0N {l:List Pg}{k:Int}{t:PV}{d:Bool}{g:Pg}(h:g∈SZ l k t d):(g∈l/\g.k≠k)\/(g.k=k/\g.t=t/\g.d=d/\∃g'∈l,g'.k=k):=by
 obtain⟨g',cU,rfl⟩:=List.mem_map.1 h
 by_cases e:g'.k=k
 ·rw[if_pos e];exact .inr ⟨e,rfl,rfl,g',cU,e⟩
 ·rw[if_neg e];exact .inl ⟨cU,e⟩
theorem Xt.hit (h:Xt P txt K){g:Pg}(hg:g∈P.l)(qf:∀t,wt=some t->t.length=512){P':Sj}(hA:P'.A=(P.A.SB g.k).1)(hl:P'.l=SZ P.l g.k (wt.getD g.t) (wt.isSome ||g.d))(hL:P'.L=P.L)(hD:P'.D=P.D):Xt P' (z0z txt g.k wt) (K+wN wt):=by
 have ht:=Arc.z2K h.aok g.k
 have bD:P.A.held g.k:=(h.keys _).1 (List.mem_map.2 ⟨g,hg,rfl⟩)
 have di:=ht.no (ht.hit.2 bD)
 have xD:∀x,P'.A.held x↔P.A.held x:=λx=>by
  rw[hA,ht.held,di];constructor
  ·rintro(e|e)
   ·rw[e];exact bD
   ·exact e.1
  ·intro e;exact .inr ⟨e,ξ⟩
 have hr:=h.rng g hg
 have nL:Tb P'.l<=Tb P.l+wN wt:=by
  rw[hl]
  cases wt with
  |none=>rw[show(none:Option PV).getD g.t=g.t from rfl,show((none:Option PV).isSome ||g.d)=g.d from rfl,z2C h.nd hg];exact Nat.le_add_right _ _
  |some t=>exact z0T _ _ h.nd
 have Cq:=h.ca
 have Gb:=h.cc
 refine⟨by rw[hA];exact ht.ok,by rw[hA,ht.size];exact h.asz,λx=>by rw[hl,z8D,h.keys,xD],by rw[hl,z8D];exact h.nd,λg' cU=>?_,λg' cU=>?_,λg' cU hd=>?_,λx h0 h1 hx=>?_,λx h0 h1=>?_,by rw[hD];exact h.down,by rw[hD];exact h.due,by rw[hD,hL];exact h.B,by rw[hD];exact h.N,by rw[hD];omega,by rw[hD];omega,by rw[hD];exact h.TG⟩
 ·rw[hL];rw[hl] at cU;rcases z0N cU with e| e
  ·exact h.rng g' e.1
  ·rw[e.1];exact hr
 ·rw[hl] at cU;rcases z0N cU with e| e
  ·rw[SD _ _ e.2];exact h.tx g' e.1
  ·rw[e.1,Tk,e.2.1,h.tx g hg]
 ·rw[hD];rw[hl] at cU;rcases z0N cU with e| e
  ·rw[SD _ _ e.2];exact h.cl g' e.1 hd
  ·rw[e.2.2.1] at hd
   have hw:wt=none:=by
    cases wt with
    |none=>rfl
    |some t=>cases hd
   rw[e.1,hw,z0p];rw[hw] at hd;exact h.cl g hg hd
 ·rw[hL] at h1;rw[xD] at hx;have bE:x≠g.k:=λe=>hx (e▸bD);rw[hD,SD _ _ bE];exact h.out x h0 h1 hx
 ·rw[hL] at h1;by_cases e:x=g.k
  ·rw[e,Tk]
   cases hw:wt with
   |none=>exact h.len _ (e▸h0) (e▸h1)
   |some t=>exact qf t hw
  ·rw[SD _ _ e];exact h.len x h0 h1
def TV:List Pg->Int->List Pg
 |[],_=>[]
 |g::l,k=>if g.k=k then l else g::TV l k
theorem Wo (g:Pg)(l:List Pg)(k:Int):TV (g::l) k=if g.k=k then l else g::TV l k:=rfl
theorem z3Q (l:List Pg)(k:Int):delL (Vp l) k=Vp (TV l k):=by
 induction l with
 |nil=>rfl
 | cons g l ih =>
   show(if k=g.k then Vp l else(g.k,ptr g.b 0)::delL (Vp l) k)=_;rw[Wo];by_cases h:k=g.k
   ·rw[if_pos h,if_pos h.symm]
   ·rw[if_neg h,if_neg (λe=>h e.symm),ih];rfl
def Uf:∀(l:List Pg) (k:Int),(TV l k).Sublist l
 |[],_=>List.Sublist.refl _
 | g :: l, k => by
   rw[Wo];split
   ·exact List.sublist_cons_self _ _
   ·exact(Uf l k).cons_cons _
def z32 {l:List Pg}(hn:(l.map (·.k)).Nodup)(k x:Int):x∈(TV l k).map (·.k)↔x∈l.map (·.k)/\x≠k:=by
 induction l with
 |nil=>simp[TV]
 | cons g l ih =>
   rw[List.map_cons,List.nodup_cons] at hn;rw[Wo];by_cases h:g.k=k
   ·rw[if_pos h,List.map_cons,List.mem_cons];constructor
    ·intro e;exact⟨.inr e,λe2=>hn.1 (by rw[h,<-e2];exact e)⟩
    ·rintro⟨e|e,e2⟩
     ·exact absurd (e.trans h) e2
     ·exact e
   ·rw[if_neg h,List.map_cons,List.map_cons,List.mem_cons,List.mem_cons];have:=ih hn.2;rw[this];constructor
    ·rintro(e|e)
     ·exact⟨.inl e,λe2=>h (by rw[<-e,e2])⟩
     ·exact⟨.inr e.1,e.2⟩
    ·rintro⟨e|e,e2⟩
     ·exact .inl e
     ·exact .inr ⟨e,e2⟩
def z4N {l:List Pg}{g:Pg}(hn:(l.map (·.k)).Nodup)(hg:g∈l):Tb (TV l g.k)+(if g.d then 1 else 0)=Tb l:=by
 induction l with
 |nil=>cases hg
 | cons a l ih =>
   rw[List.map_cons,List.nodup_cons] at hn;rw[Wo];by_cases h:a.k=g.k
   ·rw[if_pos h]
    have e:a=g:=by
     rcases List.mem_cons.1 hg with e| e
     ·exact e.symm
     ·exact absurd (List.mem_map.2 ⟨g,e,h.symm⟩) hn.1
    rw[e];unfold Tb;rw[List.countP_cons]
   ·rw[if_neg h]
    have aa:g∈l:=by
     rcases List.mem_cons.1 hg with e| e
     ·exact absurd (by rw[e]) h
     ·exact e
    have:=ih hn.2 aa;unfold Tb at*;rw[List.countP_cons,List.countP_cons];omega
structure ze8 (P:Sj)(txt:Int->PV)(K:Nat)(g:Option Int)(D':Dev)(l':List Pg):Prop where
 now:∀x,0<=x->x<(P.L.length:Int)->x∉l'.map (·.k)->D'.now x=txt x
 cl:∀q∈l',q.d=false->D'.now q.k=txt q.k
 sub:l'.Sublist P.l
 keys:∀x,x∈l'.map (·.k)↔x∈P.l.map (·.k)/\g≠some x
 down:D'.down=false
 due:D'.due=0
 B:D'.B=P.D.B
 N:D'.N=P.D.N
 ca:D'.calls+(Tb l':Int)<=(K:Int)
 cc:D'.cache.length+Tb l'<=K
 TG:D'.TG.length<=17592186044416
def Xt.zjP (h:Xt P txt K):ze8 P txt K none P.D P.l:=
 ⟨λx h0 h1 hx=>h.out x h0 h1 λe=>hx ((h.keys x).2 e),h.cl,List.Sublist.refl _,λx=>by simp,h.down,h.due,rfl,rfl,h.ca,h.cc,h.TG⟩
def Xt.ziv (h:Xt P txt K){g:Pg}(hg:g∈P.l):ze8 P txt K (some g.k) (if g.d then(P.D.push g.k g.t).count else P.D) (TV P.l g.k):=by
 have AD:=z4N h.nd hg
 have hk:=z32 h.nd g.k
 have Cq:=h.ca
 have Gb:=h.cc
 have dT:=Uf P.l g.k
 have ku:∀x,0<=x->x<(P.L.length:Int)->x∉(TV P.l g.k).map (·.k)->x=g.k\/¬P.A.held x:=λx h0 h1 hx=>by
  rw[hk,not_and] at hx;by_cases e:x=g.k
  ·exact .inl e
  ·exact .inr λe2=>hx ((h.keys x).2 e2) e
 have gM:∀q∈TV P.l g.k,q∈P.l/\q.k≠g.k:=λq hq=>⟨dT.subset hq,((hk q.k).1 (List.mem_map.2 ⟨q,hq,rfl⟩)).2⟩
 have tp:∀x,x∈(TV P.l g.k).map (·.k)↔x∈P.l.map (·.k)/\some g.k≠some x:=λx=>by
  rw[hk];simp only[ne_eq,Option.some.injEq];constructor
  ·rintro⟨a,b⟩;exact⟨a,λe=>b e.symm⟩
  ·rintro⟨a,b⟩;exact⟨a,λe=>b e.symm⟩
 cases hd:g.d with
 | true =>
   rw[hd] at AD;rw[if_pos O] at AD⊢;refine⟨λx h0 h1 hx=>?_,λq hq ly=>?_,dT,tp,h.down,?_,rfl,rfl,?_,?_,h.TG⟩
   ·rw[z5H];rcases ku x h0 h1 hx with e| e
    ·rw[if_pos e.symm,e,h.tx g hg]
    ·by_cases e2:g.k=x
     ·rw[if_pos e2,<-e2,h.tx g hg]
     ·rw[if_neg e2];exact h.out x h0 h1 e
   ·obtain⟨a,b⟩:=gM q hq;rw[z5H,if_neg λe=>b e.symm];exact h.cl q a ly
   ·have:=h.due;show(if P.D.due=0 then(0:Int) else _)=0;rw[if_pos this]
   ·show P.D.calls+1+_<=_;omega
   ·show(P.D.cache++[_]).length+_<=_
    rw[List.length_append,List.length_singleton];omega
 | false =>
   rw[hd] at AD;rw[if_neg ξ] at AD⊢;refine⟨λx h0 h1 hx=>?_,λq hq ly=>?_,dT,tp,h.down,h.due,rfl,rfl,ω,ω,h.TG⟩
   ·rcases ku x h0 h1 hx with e| e
    ·rw[e];exact h.cl g hg hd
    ·exact h.out x h0 h1 e
   ·exact h.cl q (gM q hq).1 ly
def Xt.zhM (h:Xt P txt K)(h0:0<=no)(h1:no<(P.L.length:Int))(hh:¬P.A.held no)(qf:∀t,wt=some t->t.length=512){D':Dev}{l':List Pg}(hg:ze8 P txt K (P.A.SB no).2.2 D' l'){P':Sj}{b:Nat}{z:Int}
  (hA:P'.A=(P.A.SB no).1) (hl:P'.l=l'++[⟨no,b,wt.getD (txt no),wt.isSome⟩]) (hL:P'.L=P.L) (hD:P'.D={D' with reads:=z}):Xt P' (z0z txt no wt) (K+wN wt):=by
 have ht:=Arc.z2K h.aok no
 have MZ:=hg.ca
 have N0:=hg.cc
 have ko:∀x,x∈P'.l.map (·.k)↔x=no\/x∈l'.map (·.k):=λx=>by
  rw[hl,List.map_append,List.mem_append,List.map_singleton,List.mem_singleton,or_comm]
 have xD:∀x,P'.A.held x↔x=no\/x∈l'.map (·.k):=λx=>by
  rw[hA,ht.held,hg.keys,h.keys]
 have iL:no∉l'.map (·.k):=λe=>hh ((h.keys no).1 ((hg.keys no).1 e).1)
 have nL:Tb P'.l=Tb l'+wN wt:=by
  rw[hl];unfold Tb wN;rw[List.countP_append,List.countP_singleton]
 refine⟨by rw[hA];exact ht.ok,by rw[hA,ht.size];exact h.asz,λx=>by rw[ko,xD],?_,λg kk=>?_,λg kk=>?_,λg kk hd=>?_,λx x0 x1 hx=>?_,λx x0 x1=>?_,by rw[hD];exact hg.down,by rw[hD];exact hg.due,by rw[hD,hL];exact hg.B.trans h.B,by rw[hD];exact hg.N.trans h.N,by rw[hD];show D'.calls+_<=_;omega,by rw[hD];show D'.cache.length+_<=_;omega,by rw[hD];exact hg.TG⟩
 ·rw[hl,List.map_append,List.nodup_append];refine⟨(hg.sub.map _).nodup h.nd,ξ,λa ha c hc e=>?_⟩;rw[List.map_singleton,List.mem_singleton] at hc;exact iL (by rw[<-show a=no from e.trans hc];exact ha)
 ·rw[hL];rw[hl] at kk;rcases List.mem_append.1 kk with e| e
  ·exact h.rng g (hg.sub.subset e)
  ·rw[List.mem_singleton.1 e];exact⟨h0,h1⟩
 ·rw[hl] at kk;rcases List.mem_append.1 kk with e| e
  ·rw[SD _ _ (λe2=>iL (by rw[<-e2];exact List.mem_map.2 ⟨g,e,rfl⟩))];exact h.tx g (hg.sub.subset e)
  ·rw[List.mem_singleton.1 e,Tk]
 ·rw[hD,z3V];rw[hl] at kk;rcases List.mem_append.1 kk with e| e
  ·rw[SD _ _ (λe2=>iL (by rw[<-e2];exact List.mem_map.2 ⟨g,e,rfl⟩))];exact hg.cl g e hd
  ·rw[List.mem_singleton.1 e] at hd⊢
   have hw:wt=none:=by
    cases wt with
    |none=>rfl
    |some t=>cases hd
   rw[hw,z0p];exact hg.now no h0 h1 iL
 ·rw[hL] at x1;rw[xD,not_or] at hx;rw[hD,z3V,SD _ _ hx.1];exact hg.now x x0 x1 hx.2
 ·rw[hL] at x1;by_cases e:x=no
  ·rw[e,Tk]
   cases hw:wt with
   |none=>exact h.len _ h0 h1
   |some t=>exact qf t hw
  ·rw[SD _ _ e];exact h.len x x0 x1
end
section
variable {w w':World}{P:Sj}{S:Nat->Prop}{txt:Int->PV}{K:Nat}
theorem VF.cells (h:VF w P):Q7 w P.s [ptr P.d 0,ptr P.m 0,ptr P.c 0,.map (some P.pm),I (P.fr:Int),I P.h,I P.mi,I P.wr,I 0,I 0,I 0,.bool false] 113:=h.PN
def Xt.zgv (h:Xt P txt K):P.D.Small K:=⟨by have:=h.ca;omega,by have:=h.cc;omega,trivial,h.TG⟩
def z1W (h:VF w P)(hN:P.D.N=1):Qu prog 49 [ptr P.s 0] w λv w'=>v=I 512/\w'=w:=by
 have hB:=h.cells
 have cJ:=zab h.dev
 rw[hN] at cJ
 refine py (e:=[(0,_)]) func49 O ntmps49 O O$ RN O$ QS O$ qV (R9 Y1 O O)$ Re O$ Qx O$ QA O$ Qd Wr O$ qV (PX U26 O O hB O)$ Qk zgH O (cJ) ?_
 rintro _ w ⟨rfl,rfl⟩
 refine Qc O$ PO func49 O ?_
 exact⟨_,rfl,rfl,rfl⟩
def zaf (h:VF w P):Qu prog 124 [ptr P.s 0] w λv w'=>v=ptr P.d 0/\w'=w:=by
 have hB:=h.cells
 refine py (e:=[(0,_)]) func124 O ntmps124 O O$ RN O$ QS O$ qV (R9 Y1 O O)$ Re O$ Qx O$ QA O$ Qd Wr O$ qV (PX U26 O O hB O)$ Qc O$ PO func124 O ?_
 exact⟨_,rfl,rfl,rfl⟩
def zb2 (h:VF w P):Qu prog 27 [ptr P.s 0] w λv w'=>v=ptr P.m 0/\w'=w:=by
 have hB:=h.cells
 refine py (e:=[(0,_)]) func27 O ntmps27 O O$ RN O$ QS O$ qV (R9 Y1 O O)$ Re O$ Qx O$ QA O$ Qd z4p O$ qV (PX U67 O O hB O)$ Qc O$ PO func27 O ?_
 exact⟨_,rfl,rfl,rfl⟩
def z0X (h:VF w P)(hd:P.D.down=false):Qu prog 107 [ptr P.s 0] w λv w'=>v=I 0/\w'=w:=by
 have hB:=h.cells
 have nL:=zbv h.dev
 rw[hd] at nL
 refine py (e:=[(0,_)]) func107 O ntmps107 O O$ RN O$ RP$ Qx O$ qV (R9 Y1 O O)$ Qc O$ PZ O$ Qx O$ QA O$ Qd z9P O$ qV (PX U4 O O hB O)$ Qp O$ QA O$ Qd Wr O ?_
 refine qV (PX U26 O O hB O)$ Qk zjp O (nL) ?_
 rintro _ w ⟨rfl,rfl⟩
 refine QY O$ Qc O$ TT O$ PM$ RN O$ PO func107 O ?_
 exact⟨_,rfl,rfl,rfl⟩
theorem z5l (h:VF w P)(vw:P.D.Small K)(nL:P.D.down=false)(N1:P.D.due=0)(N2:P.D.B=P.L.length)(lE:P.D.N=1)(hK:K<1000000000000){b:Nat}{t:PV}{d:Bool}{no:Int}(h0:0<=no)(h1:no<(P.L.length:Int))(ht:t.length=512)(hb:Q7 w b (pgC t d) 204)(nl:∀i,¬P.cp i b):
  Qu prog 144 [ptr P.s 0,I no,ptr b 0] w λv w'=>v=I 0/\∃Fd' wr',VF w' {P with D:=if d then(P.D.push no t).count else P.D,Fd:=Fd',wr:=wr'}/\Kp (λj=>j=b\/P.cp 0 j\/P.cp 1 j) w w'/\(∀j,Fd' j->P.Fd j\/w.heap.size<=j):=by
 replace hb:Q7 w b [S t,.bool d,I 0] 204:=hb
 have hB:=h.cells
 have hg:=Ext.Qh w
 have sF:P.s≠b:=λe=>nl 0 e.symm
 have N3:¬P.Fd P.s:=λe=>h.WB 0 1 ψ P.s O e
 have JC:¬P.Fd b:=nl 1
 refine py (e:=[(0,_),(1,_),(2,_)]) func144 O ntmps144 O O ?_
 cases d with
 | false =>
   refine RN O$ QS O$ QA O$ Qd WZ O$ Qd z4A O$ qV (PX U4 O O hb O)$ qV ((T7 O))$ PQ$ Qa O$ RN O$ PO func144 O (⟨_,rfl,rfl,P.Fd,P.wr,?_,Kp.refl _ _,λj e=> .inl e⟩);rw[if_neg ξ]
   exact h
 | true =>
   refine RN O$ QS O$ QA O$ Qd WZ O$ Qd z4A O$ qV (PX U4 O O hb O)$ qV ((T7 O)) ?_;have Gc:=z89 no t (h.dev.ext hg) vw hK;rw[zbJ nL N1 ⟨h0,by rw[N2];exact h1⟩ (by rw[lE];exact ht)] at Gc;dsimp only at Gc;refine Re O$ An$ An$ S5 (λw'=>Kp P.Fd w w') O$ Qi 0 O O (hg.kp)$ PT 1 O (R8 O) (hg.kp)$ PT 2 O (Qz Wr O) (hg.kp)$ qT 3 O (λ_ h=>(PX U26 O O (h.PN hB N3) O)) (hg.kp)$ Qi 4 O O (hg.kp)$ Qi 5 O O (hg.kp)$ PT 6 O (R8 O) (hg.kp)$ PT 7 O (Qz WZ O) (hg.kp)$ PT 8 O (Qz z4o O) (hg.kp)$ qT 9 O (λ_ h=>(PX U9 O O (h.PN hb JC) O)) (hg.kp) ?_;refine T9 10 O zin O (Gc) ?_;rintro _ w1 ⟨rfl,o2⟩;refine⟨hg.kp.trans o2.kpF,?_⟩;obtain⟨Fd',dm,pN⟩:=((h.r (Ext.refl w)).ext hg).dev o2;have ay:Kp P.Fd w w1:=hg.kp.trans o2.kpF;have rh:∀j,Fd' j->P.Fd j\/w.heap.size<=j:=λj e=>(pN j e).imp id λe=>by have:=hg.size;omega
   refine PT 11 O (Sv O) (hg.kp.trans o2.kpF)$ qE$ Qx O$ RA O ?_;have ai:=dm.m.cells;refine Re O$ Qx O$ QA O$ Qd WT O$ Qd zc8 O$ qV (PX U3 O O ai O)$ qV (zcl O O)$ QA O$ Qd WT O$ Qd zc8 O$ Qb O (RV Rl O O O ai ξ) ?_;rintro w2 ⟨ak,am⟩;obtain⟨z,hz⟩:∃z,IntKind.i64.wrap (P.wr+1)=z:=⟨_,rfl⟩;rw[hz] at ak;have dv:=dm.cnt (a:=P.h) (b:=P.mi) (c:=z) ak am;have bO:=am.PN (ay.PN hb JC) (λe=>sF e.symm);refine PQ$ Qy.qb (e:=[(2,_),(6,_)]) ?_;refine Qx O$ QA O$ Qd WZ O$ Qd z4A O$ Qb O (RV VK O O O bO ξ) ?_;rintro w3 ⟨dP,av⟩
   have Gd:∀i,¬Sj.cp {P with D:=(P.D.push no t).count,Fd:=Fd',h:=P.h,mi:=P.mi,wr:=z} i b:=λi e=>by
    match i,e with
    |0,e=>exact nl 0 e
    | 1, e =>
      rcases rh b e with e| e
      ·exact nl 1 e
      ·have:=hb.lt;omega
    |2,e=>exact nl 2 e
    |3,e=>exact nl 3 e
    |4,e=>exact nl 4 e
    |5,e=>exact nl 5 e
   refine qM O$ Qc O$ PO func144 O (⟨_,rfl,rfl,Fd',z,?_,?_,rh⟩)
   ·rw[if_pos O];exact dv.m.kp av λj ⟨i,hj⟩ e=>Gd i (e▸hj)
   ·exact((ay.PU λj e=> .inr (.inr e)).trans (am.PU λj e=> .inr (.inl e))).trans (av.PU λj e=> .inl e)
end
structure Sj.Same (P P':Sj):Prop where
 s:P'.s=P.s
 d:P'.d=P.d
 m:P'.m=P.m
 gi:P'.gi=P.gi
 c:P'.c=P.c
 pm:P'.pm=P.pm
 p:P'.p=P.p
 fr:P'.fr=P.fr
 L:P'.L=P.L
theorem Sj.Same.trans {P P' P2:Sj}(h:P.Same P')(h2:P'.Same P2):P.Same P2:=
 ⟨h2.s.trans h.s,h2.d.trans h.d,h2.m.trans h.m,h2.gi.trans h.gi,h2.c.trans h.c,h2.pm.trans h.pm,h2.p.trans h.p,h2.fr.trans h.fr,h2.L.trans h.L⟩
def z2R {l:List Pg}{k:Int}{b:Nat}{t0 t:PV}{d0 d:Bool}(h:k∉l.map (·.k)):SZ (l++[⟨k,b,t0,d0⟩]) k t d=l++[⟨k,b,t,d⟩]:=by
 unfold SZ
 rw[List.map_append]
 congr 1
 ·conv=>rhs;rw[<-List.map_id l]
  refine List.map_congr_left λg hg=>?_;rw[if_neg λe=>h (List.mem_map.2 ⟨g,hg,e⟩)];rfl
 ·show [if k=k then _ else _]=_;rw[if_pos O]
section
variable {w w' w0:World}{P P0 P':Sj}{txt:Int->PV}{K:Nat}
theorem VF.get (h:VF w P){q:Pg}(hq:q∈P.l):Sm (Vp P.l) q.k=some (ptr q.b 0):=
 z5w h.mp.nd (List.mem_map.2 ⟨q,hq,rfl⟩)
theorem VJ.write (h:VJ w0 P0 w P){D':Dev}{Fd':Nat->Prop}{wr':Int}{b:Nat}(hm:VF w' {P with D:=D',Fd:=Fd',wr:=wr'})(hk:Kp (λj=>j=b\/P.cp 0 j\/P.cp 1 j) w w')(hF:∀j,Fd' j->P.Fd j\/w.heap.size<=j)(hb:P0.fp b\/w0.heap.size<=b):VJ w0 P0 w' {P with D:=D',Fd:=Fd',wr:=wr'}:=
 ⟨hm,λj ⟨i,hj⟩=>by
  match i,hj with
  |0,e=>exact h.fp j ⟨0,e⟩
  | 1, e =>
    rcases hF j e with e| e
    ·exact h.fp j ⟨1,e⟩
    ·exact .inr (by have:=h.k.size;omega)
  |2,e=>exact h.fp j ⟨2,e⟩
  |3,e=>exact h.fp j ⟨3,e⟩
  |4,e=>exact h.fp j ⟨4,e⟩
  |5,e=>exact h.fp j ⟨5,e⟩,h.k.It hk λj e=>by
  rcases e with e|e| e
  ·rw[e];exact hb.symm
  ·exact(h.fp j ⟨0,e⟩).symm
  ·exact(h.fp j ⟨1,e⟩).symm⟩
def z1j (hr:VJ w0 P0 w P)(hI:Xt P txt K)(hK:K<1000000000000){no:Int}(h0:0<=no)(h1:no<(P.L.length:Int))(wt:Option PV)(qf:∀t,wt=some t->t.length=512){x:Nat}{x0:Value}(ku:w0.heap.size<=x)(eJ:∀i,¬P.cp i x)(fg:Q7 w x [x0] 9){f:Nat}(qn:CF prog f)
  (Ge:∀(w1:World) (b:Nat) (t:PV) (d:Bool),b≠x->Q7 w1 b (pgC t d) 204->Q7 w1 x [x0] 9->Qu prog f [ptr b 0,ptr x 0] w1 λv w2=>v= .tuple #[]/\Q7 w2 b (pgC (wt.getD t) (wt.isSome ||d)) 204/\Q7 w2 x [S (wt.getD t)] 9/\Kp (λj=>j=if wt.isSome then b else x) w1 w2):
  Qu prog 108 [ptr P.s 0,I no,.bool wt.isSome,.func (.func f) #[] #[ptr x 0]] w λv w'=>v=I 0/\Q7 w' x [S (wt.getD (txt no))] 9/\∃P',VJ w0 P0 w' P'/\Xt P' (z0z txt no wt) (K+wN wt)/\P.Same P'/\∀i,¬P'.cp i x:=by
 have hB:=hr.m.cells
 have eP:=XD hr.m.dev
 rw[hI.B] at eP
 have lx:=fg.lt
 have gN:=Arc.z2K hI.aok no
 obtain⟨T,hT⟩:∃T,P.A.SB no=T:=⟨_,rfl⟩
 have fh:=z7u hr.m.arc hI.aok hI.asz (k:=no)
 rw[hT] at gN fh
 obtain⟨A2,hit,g⟩:=T
 dsimp only at gN fh
 have n4096:=hr.m.ext.n
 refine py (e:=[(0,_),(1,_),(2,_),(3,_)]) func108 O ntmps108 O O$ RN O$ QS O$ RT O$ QW$ Qp O$ Q4 O$ QA O$ Qd Wr O$ qV (PX U26 O O hB O)$ Qk z5M O (eP) ?_
 rintro _ w ⟨rfl,rfl⟩
 refine UZ O$ QW$ QY O$ Re O$ Qx O$ QA O$ Qd z9a O$ qV (PX zcY O O hB O)$ Q4 O$ Qk zkN O (fh) ?_
 rintro _ w1 ⟨rfl,V2,tq⟩
 have dm:=hr.arc tq
 have oQ:=tq.k.PN fg (eJ 3)
 have z1:=tq.k.size
 refine Q4 O$ qV (Sz (v:=ze3 hit g) O O)$ qV (Sz (v:=I 0) O O)$ PY O O (SE (cs:=[_,_,_]) QG O) ?_
 rintro _ w2 ⟨b9,rfl,jg,ae,cF⟩
 have z2:=ae.size
 refine Qb O (QT (news:=SN hit g) QG O O O O cF ξ) ?_
 rintro w3 ⟨da,av⟩
 replace da:Q7 w3 b9 [.bool hit,.bool g.isSome,I (g.getD 0)] 245:=da
 have aZ:Ext w1 w3:=ae.It av (λj e=>by omega)
 have cq:=dm.ext aZ
 have j4:=aZ.PN oQ
 have z01:=dm.k.size
 have z13:=aZ.size
 have f7:∀i,¬Sj.cp {P with A:=A2,V:=V2} i x:=λi e=>by
  match i,e with
  |0,e=>exact eJ 0 e
  |1,e=>exact eJ 1 e
  |2,e=>exact eJ 2 e
  | 3, e =>
    rcases tq.fp x e with e| e
    ·exact eJ 3 e
    ·omega
  |4,e=>exact eJ 4 e
  |5,e=>exact eJ 5 e
 have AE:∀i,¬Sj.cp {P with A:=A2,V:=V2} i b9:=dm.m.new ω
 have Pm:b9≠x:=by omega
 have l93:=da.lt
 have lF:=cq.m.cells
 dsimp only at lF
 refine Qc O$ Qy.qb (e:=[(0,_),(1,_),(2,_),(3,_),(8,_),(9,_),(10,_)]) ?_
 refine QS O$ RA O$ Re O$ An$ qN O$ Qd zed O ?_
 cases hit with
 | true =>
   have bD:=gN.hit.1 O
   obtain⟨q,hq,Gf⟩:∃q∈P.l,q.k=no:=by
    obtain⟨q,a,b⟩:=List.mem_map.1 ((hI.keys no).2 bD);exact⟨q,a,b⟩
   subst Gf;refine qV (PX U4 O O da O)$ PQ$ Qa O$ Qx O$ QA O$ Qd WT O$ Qd zbM O$ qV (PX U3 O O lF O)$ qV (zcl O O)$ QA O$ Qd WT O$ Qd zbM O$ Qb O (RV Rl O O O lF ξ) ?_;rintro w4 ⟨aM,ar⟩;obtain⟨z,hz⟩:∃z,IntKind.i64.wrap (P.h+1)=z:=⟨_,rfl⟩;rw[hz] at aM;have bH:=cq.cnt (a:=z) (b:=P.mi) (c:=P.wr) aM ar;have fX:=bH.m.cells;dsimp only at fX;have lG:=ar.PN j4 (eJ 0);have gd:=bH.m.get hq;dsimp only at gd;have sE:Q7 w4 q.b (pgC q.t q.d) 204:=bH.m.pg q hq;have vK:q.b≠x:=λe=>eJ 5 ⟨q,hq,e⟩;refine qM O$ Qp O$ QA O$ Qd Wj O$ qV (PX YC O O fX O)$ Q4 O$ qV (ylk (k:=q.k) (K:=KI) YC (Tm U3) zc7 O O bH.m.mp.l) ?_;dsimp only;rw[gd];refine RB O O (T6 qn O O) (Ge w4 q.b q.t q.d vK sE lG) ?_;rintro _ w5 ⟨rfl,Gg,nr,aj⟩;refine PQ$ Qy.qb (e:=[(0,_),(1,_),(2,_),(3,_),(8,_),(9,_),(10,_)]) ?_;refine RN O$ PO func108 O ?_;have Gh:=hI.tx q hq;refine⟨_,rfl,rfl,by rw[<-Gh];exact nr,?_⟩
   cases wt with
   | none =>
     have rM:∀i,¬Sj.cp {P with A:=A2,V:=V2,h:=z,mi:=P.mi,wr:=P.wr} i x:=λi e2=>by
      match i,e2 with
      |0,e2=>exact f7 0 e2
      |1,e2=>exact f7 1 e2
      |2,e2=>exact f7 2 e2
      |3,e2=>exact f7 3 e2
      |4,e2=>exact f7 4 e2
      |5,e2=>exact f7 5 e2
     refine⟨_,bH.loc aj (λj e=>⟨.inr (by rw[show j=x from e];exact ku),by rw[show j=x from e];exact rM⟩),hI.hit hq qf (by rw[hT]) ?_ O O,⟨rfl,rfl,rfl,rfl,rfl,rfl,rfl,rfl,rfl⟩,rM⟩;show P.l=SZ P.l q.k q.t q.d
     exact(z2C hI.nd hq).symm
   | some t =>
     refine⟨_,bH.zkD hq Gg aj,hI.hit hq qf (by rw[hT]) O O O,⟨rfl,rfl,rfl,rfl,rfl,rfl,rfl,rfl,rfl⟩,λi e2=>?_⟩
     match i,e2 with
     |0,e2=>exact f7 0 e2
     |1,e2=>exact f7 1 e2
     |2,e2=>exact f7 2 e2
     |3,e2=>exact f7 3 e2
     |4,e2=>exact f7 4 e2
     | 5, ⟨g', cU, e2⟩ =>
       have h3:g'.b∈P.l.map (·.b):=by rw[<-z4E P.l q.k];exact List.mem_map.2 ⟨g',cU,rfl⟩
       obtain⟨g2,a,b⟩:=List.mem_map.1 h3
       exact f7 5 ⟨g2,a,b.trans e2⟩
 | false =>
   have Gi:¬P.A.held no:=λe=>by have:=gN.hit.2 e;cases this
   refine qV (PX U4 O O da O)$ Re O$ Qx O$ QA O$ Qd WT O$ Qd zcf O$ qV (PX U3 O O lF O)$ qV (zcl O O)$ QA O$ Qd WT O$ Qd zcf O$ Qb O (RV Rl O O O lF ξ) ?_;rintro w4 ⟨aM,ar⟩;obtain⟨z,hz⟩:∃z,IntKind.i64.wrap (P.mi+1)=z:=⟨_,rfl⟩;rw[hz] at aM;have bH:=cq.cnt (a:=P.h) (b:=z) (c:=P.wr) aM ar;have fX:=bH.m.cells;dsimp only at fX;have lG:=ar.PN j4 (eJ 0);have Cr:b9≠P.s:=λe=>AE 0 e;have nn:=ar.PN da Cr;have z4:=ar.size;refine PQ$ An$ qN O$ Qd zeS O$ qV (PX U4 O O nn O)$ PQ ?_
   have N4:∀(D':Dev) (Fd':Nat->Prop) (l':List Pg) (wr':Int),(∀j,Fd' j->P.Fd j\/w.heap.size<=j)->l'.Sublist P.l->∀b,(∀i,¬Sj.cp {P with A:=A2,V:=V2} i b)->b<w.heap.size\/(∀j,Fd' j->j≠b)->∀i,¬Sj.cp {P with A:=A2,V:=V2,D:=D',Fd:=Fd',l:=l',mi:=z,wr:=wr'} i b:=λD' Fd' l' wr' hF hl b hb bO i e=>by
    match i,e with
    |0,e=>exact hb 0 e
    | 1, e =>
      rcases bO with h| h
      ·rcases hF b e with e| e
       ·exact hb 1 e
       ·omega
      ·exact h b e O
    |2,e=>exact hb 2 e
    |3,e=>exact hb 3 e
    |4,e=>exact hb 4 e
    |5,⟨q,hq,e⟩=>exact hb 5 ⟨q,hl.subset hq,e⟩
   refine QH (λe' w'=>e'=[(0,ptr P.s 0),(1,I no),(2,.bool wt.isSome),(3,.func (.func f) #[] #[ptr x 0])]/\∃D' Fd' l' wr',VJ w0 P0 w' {P with A:=A2,V:=V2,D:=D',Fd:=Fd',l:=l',mi:=z,wr:=wr'}/\ze8 P txt K g D' l'/\Q7 w' x [x0] 9/\(∀j,Fd' j->P.Fd j\/w.heap.size<=j/\j≠x)) ?db$ λdb=>?j3
   case db =>
    rintro e' w5 ⟨rfl,D',Fd',l',wr',bP,eD,nr,xq⟩;have iL:no∉l'.map (·.k):=λe=>Gi ((hI.keys no).1 ((eD.keys no).1 e).1);have z5:=bP.k.size;have lx5:=nr.lt
    have f9:∀i,¬Sj.cp {P with A:=A2,V:=V2,D:=D',Fd:=Fd',l:=l',mi:=z,wr:=wr'} i x:=λi e=>by
     match i,e with
     |0,e=>exact eJ 0 e
     | 1, e =>
       rcases xq x e with e| e
       ·exact eJ 1 e
       ·exact e.2 O
     |2,e=>exact eJ 2 e
     |3,e=>exact f7 3 e
     |4,e=>exact eJ 4 e
     |5,⟨q,hq,e⟩=>exact eJ 5 ⟨q,eD.sub.subset hq,e⟩
    refine qN O$ qV (Tq (cs:=[_,_,_]) zjD O zi7 O O)$ PY O O (Se O (cs:=pgC [] false) O) ?_;rintro _ w6 ⟨b,rfl,hb,aS,aY⟩;replace aY:Q7 w6 b [S [],.bool false,I 0] 204:=aY;have cN:=bP.ext aS;have oR:=aS.PN nr;have oS:b≠x:=by omega
    have gO:∀i,¬Sj.cp {P with A:=A2,V:=V2,D:=D',Fd:=Fd',l:=l',mi:=z,wr:=wr'} i b:=bP.m.new ω;have lb6:=aY.lt
    have AF:Sm (Vp l') no=none:=z3P λe=>iL (by
     unfold Vp at e;rw[List.map_map] at e
     exact e)
    refine Qc O$ QS O$ qV ((T7 O)) ?_
    cases wt with
    | none =>
      refine PQ$ Qa O ?_;have jP:=cN.m.cells;dsimp only at jP;have dh:=za6 no cN.m.dev (k:=K) ⟨by have:=eD.ca;show D'.calls<=_;omega,by have:=eD.cc;show D'.cache.length<=_;omega,trivial,eD.TG⟩ hK
      have AG:D'.read no=({D' with reads:=IntKind.i64.wrap (D'.reads+1)},txt no,0):=by
       have hh:D'.has no=true:=by
        have:=eD.B;have:=hI.B;simp[Dev.has];omega
       unfold Dev.read;rw[if_neg (by rw[eD.down];simp),if_neg (by rw[hh];simp),eD.now no h0 h1 iL]
      dsimp only at dh;rw[AG] at dh;dsimp only at dh;refine RI O$ QA O$ Qd Wr O$ qV (PX U26 O O jP O)$ Q4 O$ Qk zit O (dh) ?_;rintro _ w7 ⟨rfl,te⟩;obtain⟨Fd7,AH,AI⟩:=cN.dev te;have eS:Kp Fd' w6 w7:=te.kpF;have bU:=eS.PN aY (gO 1);have lH:=eS.PN oR (f9 1);refine Q4 O$ qV (Sz (v:=S (txt no)) O O)$ qV (Sz (v:=I 0) O O)$ QA O$ Qd WZ O$ Qd z4o O$ Qb O (RV ti9 O O O bU ξ) ?_;rintro w8 ⟨co,aK⟩;replace co:Q7 w8 b (pgC (txt no) false) 204:=co
      have vL:∀i,¬Sj.cp {P with A:=A2,V:=V2,D:={D' with reads:=IntKind.i64.wrap (D'.reads+1)},Fd:=Fd7,l:=l',mi:=z,wr:=wr'} i b:=λi e=>by
       match i,e with
       |0,e=>exact gO 0 e
       | 1, e =>
         rcases AI b e with e| e
         ·exact gO 1 e
         ·omega
       |2,e=>exact gO 2 e
       |3,e=>exact gO 3 e
       |4,e=>exact gO 4 e
       |5,e=>exact gO 5 e
      have lI:∀i,¬Sj.cp {P with A:=A2,V:=V2,D:={D' with reads:=IntKind.i64.wrap (D'.reads+1)},Fd:=Fd7,l:=l',mi:=z,wr:=wr'} i x:=λi e=>by
       match i,e with
       |0,e=>exact f9 0 e
       | 1, e =>
         rcases AI x e with e| e
         ·exact f9 1 e
         ·have:=oR.lt;omega
       |2,e=>exact f9 2 e
       |3,e=>exact f9 3 e
       |4,e=>exact f9 4 e
       |5,e=>exact f9 5 e
      have g9:=AH.loc aK (λj e=>by rw[show j=b from e];exact⟨.inr ω,vL⟩);have io:=aK.PN lH (λe=>oS e.symm);have AJ:=g9.m.cells;dsimp only at AJ;refine RZ O$ RA O$ PQ$ Qy.qb (e:=[(0,_),(1,_),(3,_),(10,_),(13,_),(106,_)]) ?_;refine TT O$ Qx O$ QA O$ Qd Wj O$ qV (PX YC O O AJ O)$ Qp O$ Qb O (zgj (k:=no) (K:=KI) YC (Tm U3) O O O g9.m.mp) ?_;rintro w9 ⟨rN,ax⟩;dsimp only at rN;rw[W8 _ _ _ AF] at rN;have im:=g9.ins (g:=⟨no,b,txt no,false⟩) ⟨by dsimp only;omega,vL⟩ co (by unfold Vp at rN⊢;rw[List.map_append];exact rN) ax;have cF:=ax.PN co (vL 4);have oT:=ax.PN io (lI 4);refine qM O$ Qp O$ RB O O (T6 qn O O) (Ge w9 b (txt no) false oS cF oT) ?_;rintro _ w10 ⟨rfl,tr,oU,aB⟩;refine qM O$ Qc O$ PO func108 O ?_
      have rM:∀i,¬Sj.cp {P with A:=A2,V:=V2,D:={D' with reads:=IntKind.i64.wrap (D'.reads+1)},Fd:=Fd7,l:=l'++[⟨no,b,txt no,false⟩],mi:=z,wr:=wr'} i x:=λi e2=>by
       match i,e2 with
       |0,e2=>exact lI 0 e2
       |1,e2=>exact lI 1 e2
       |2,e2=>exact lI 2 e2
       |3,e2=>exact lI 3 e2
       |4,e2=>exact lI 4 e2
       | 5, ⟨q, hq, e2⟩ =>
         rcases List.mem_append.1 hq with e3|e3
         ·exact lI 5 ⟨q,e3,e2⟩
         ·rw[List.mem_singleton.1 e3] at e2;exact oS e2
      exact⟨_,rfl,rfl,oU,_,im.loc aB (λj e=>⟨.inr (by rw[show j=x from e];exact ku),by rw[show j=x from e];exact rM⟩),hI.zhM h0 h1 Gi qf (by rw[hT];exact eD) (by rw[hT]) O O O,⟨rfl,rfl,rfl,rfl,rfl,rfl,rfl,rfl,rfl⟩,rM⟩
    | some t =>
      refine PQ$ PZ O ?_;have jP:=cN.m.cells;dsimp only at jP;refine PR$ Qx O$ QA O$ Qd Wj O$ qV (PX YC O O jP O)$ Qp O$ Qb O (zgj (k:=no) (K:=KI) YC (Tm U3) O O O cN.m.mp) ?_;rintro w9 ⟨rN,ax⟩;dsimp only at rN;rw[W8 _ _ _ AF] at rN;have im:=cN.ins (g:=⟨no,b,[],false⟩) ⟨by dsimp only;omega,gO⟩ aY (by unfold Vp at rN⊢;rw[List.map_append];exact rN) ax;have cF:=ax.PN aY (gO 4);have oT:=ax.PN oR (f9 4);refine qM O$ Qp O$ RB O O (T6 qn O O) (Ge w9 b [] false oS cF oT) ?_;rintro _ w10 ⟨rfl,tr,oU,aB⟩;refine qM O$ Qc O$ PO func108 O ?_;have oG:=im.zkD (g:=⟨no,b,[],false⟩) (List.mem_append_right _ (List.mem_singleton.2 O)) tr aB;refine⟨_,rfl,rfl,oU,_,oG,hI.zhM h0 h1 Gi qf (by rw[hT];exact eD) (by rw[hT]) (z2R iL) O O,⟨rfl,rfl,rfl,rfl,rfl,rfl,rfl,rfl,rfl⟩,λi e2=>?_⟩
      match i,e2 with
      |0,e2=>exact f9 0 e2
      |1,e2=>exact f9 1 e2
      |2,e2=>exact f9 2 e2
      |3,e2=>exact f9 3 e2
      |4,e2=>exact f9 4 e2
      | 5, ⟨q, hq, e2⟩ =>
        have e4:=z2R (b:=b) (t0:=[]) (t:=(some t).getD []) (d0:=false) (d:=(some t).isSome ||false) iL;have N5:q∈l'++[⟨no,b,(some t).getD [],(some t).isSome ||false⟩]:=by rw[<-e4];exact hq
        rcases List.mem_append.1 N5 with e3|e3
        ·exact f9 5 ⟨q,e3,e2⟩
        ·rw[List.mem_singleton.1 e3] at e2;exact oS e2
   case j3=>
    cases g with
    | none =>
      refine TT O ?_
      exact(db _ _ ⟨rfl,_,_,_,P.wr,bH,hI.zjP,lG,λj e=> .inl e⟩).qb
    | some gk =>
      obtain⟨N6,N7⟩:=gN.gone gk O
      obtain⟨q,hq,Gf⟩:∃q∈P.l,q.k=gk:=by
       obtain⟨q,a,b⟩:=List.mem_map.1 ((hI.keys gk).2 N6);exact⟨q,a,b⟩
      subst Gf;have gd:=bH.m.get hq;dsimp only at gd;have af:=Ext.Qh w4;refine Qa O$ An$ S5 (λw'=>Ext w4 w') O$ Qi 0 O O (af)$ PT 1 O (R8 O) af$ PT 2 O (Qz Wj O) af$ qT 3 O (λ_ h=>(PX YC O O (h.PN fX) O)) af$ PT 4 O (Qz z4S O) af$ qT 5 O (λ_ h=>(PX U3 O O (h.PN nn) O)) af$ qT 6 O (λ_ h=>ylk (k:=q.k) (K:=KI) YC (Tm U3) zc7 O O (bH.m.ext' h).mp.l) af ?_;dsimp only;rw[gd];refine PT 7 O (Sv O) af$ qE$ Qy.qb (e:=[(0,_),(1,_),(2,_),(3,_),(8,_),(9,_),(10,_),(11,_)]) ?_;refine An ?_;have eC:=Ext.Qh w4.drew;have jQ:=af.PN fX;have mX:=af.PN nn;have bP:=bH.ext (af.trans eC);refine Qn [6] (λw'=>Ext w4.drew w') (by kernel_rfl) O$ R1 0 O O (eC)$ Qs 1 O (R8 O) eC$ Qs 2 O (Qz Wj O) eC$ qL 3 O (λ_ h=>(PX YC O O (h.PN jQ) O)) eC$ Qs 4 O (Qz z4S O) eC$ qL 5 O (λ_ h=>(PX U3 O O (h.PN mX) O)) eC$ Ut [6]$ qO 6$ zcI (i:=6) O O (zgh (k:=q.k) (K:=KI) YC (Tm U3) O O bP.m.mp O) ?_;rintro _ w6 ⟨Gj,aL⟩;refine⟨trivial,?_⟩;dsimp only at Gj;rw[z3Q] at Gj;have cN:=bP.del (Uf P.l q.k) Gj aL;have Gk:Q7 w4 q.b (pgC q.t q.d) 204:=bH.m.pg q hq;have AK:q.b≠P.pm:=λe=>bH.m.WB 5 4 ψ q.b ⟨q,hq,rfl⟩ e;have ux:=aL.PN ((af.trans eC).PN Gk) AK
      have gO:∀i,¬Sj.cp {P with A:=A2,V:=V2,h:=P.h,mi:=z,wr:=P.wr,l:=TV P.l q.k} i q.b:=λi e=>by
       match i,e with
       |0,e=>exact bH.m.WB 5 0 ψ q.b ⟨q,hq,rfl⟩ e
       |1,e=>exact bH.m.WB 5 1 ψ q.b ⟨q,hq,rfl⟩ e
       |2,e=>exact bH.m.WB 5 2 ψ q.b ⟨q,hq,rfl⟩ e
       |3,e=>exact bH.m.WB 5 3 ψ q.b ⟨q,hq,rfl⟩ e
       |4,e=>exact AK e
       | 5, ⟨q2, i9, e⟩ =>
         have e2:q2=q:=TW bH.m.pnd ((Uf P.l q.k).subset i9) hq e;have:=((z32 hI.nd q.k q2.k).1 (List.mem_map.2 ⟨q2,i9,rfl⟩)).2;exact this (by rw[e2])
      have rO:=hI.rng q hq;have Gh:=hI.tx q hq;have zw:q.t.length=512:=by rw[Gh];exact hI.len q.k rO.1 rO.2
      have oR:=aL.PN ((af.trans eC).PN lG) (f7 4);have jP:=cN.m.cells;have Gl:=aL.PN ((af.trans eC).PN nn) (AE 4);have z46:=(af.trans eC).size;have z56:=aL.size;refine qE$ Qx O$ Qd z4S O$ qV (PX U3 O O Gl O)$ Q4 O$ Qk zkv O (z5l cN.m hI.zgv hI.down hI.due hI.B hI.N hK rO.1 rO.2 zw ux gO) ?_;rintro _ w7 ⟨rfl,Fd7,wr7,gL,aA,AI⟩;have AH:=cN.write gL aA AI (bH.fp q.b ⟨5,q,hq,rfl⟩);have vK:q.b≠x:=λe=>eJ 5 ⟨q,hq,e⟩
      have lH:=aA.PN oR (λe=>by
       rcases e with e|e| e
       ·exact vK e.symm
       ·exact eJ 0 e
       ·exact eJ 1 e)
      refine RZ O$ RA O$ Re O ?_;exact(db _ _ ⟨rfl,_,Fd7,_,wr7,AH,hI.ziv hq,lH,λj e=>(AI j e).imp id λe=>⟨ω,ω⟩⟩).qb
end
section
variable {w w':World}{P P':Sj}{txt:Int->PV}{K:Nat}
def zbk {b x:Nat}{t:PV}{d:Bool}{x0:Value}(fg:b≠x)(hb:Q7 w b (pgC t d) 204)(hx:Q7 w x [x0] 9):Qu prog 109 [ptr b 0,ptr x 0] w λv w2=>v= .tuple #[]/\Q7 w2 b (pgC t d) 204/\Q7 w2 x [S t] 9/\Kp (λj=>j=x) w w2:=by
 replace hb:Q7 w b [S t,.bool d,I 0] 204:=hb
 refine py (e:=[(0,_),(1,_)]) func109 O ntmps109 O O$ St O$ QA O$ Qd WZ O$ Qd z4o O$ qV (PX U9 O O hb O)$ Qb O (RV ti9 O O O hx ξ) ?_
 rintro w1 ⟨ad,ay⟩
 refine PQ$ Rq func109 O ?_
 exact⟨_,rfl,rfl,ay.PN hb fg,ad,ay⟩
def z73 {b x:Nat}{t s:PV}{d:Bool}(fg:b≠x)(hb:Q7 w b (pgC t d) 204)(hx:Q7 w x [S s] 9):Qu prog 126 [ptr b 0,ptr x 0] w λv w2=>v= .tuple #[]/\Q7 w2 b (pgC s true) 204/\Q7 w2 x [S s] 9/\Kp (λj=>j=b) w w2:=by
 replace hb:Q7 w b [S t,.bool d,I 0] 204:=hb
 refine py (e:=[(0,_),(1,_)]) func126 O ntmps126 O O$ St O$ qV (PX U9 O O hx O)$ qV (Tq (cs:=[_,_]) z9L O zjx O O)$ QA O$ Qd WZ O$ Qb O (QT (news:=[S s,.bool true]) z9L O O O O hb ξ) ?_
 rintro w1 ⟨bL,ay⟩
 refine PQ$ Rq func126 O ?_
 exact⟨_,rfl,rfl,bL,ay.PN hx (λe=>fg e.symm),ay⟩
def z7W (hm:VF w P)(hI:Xt P txt K)(hK:K<1000000000000){no:Int}(h0:0<=no)(h1:no<(P.L.length:Int)):Qu prog 68 [ptr P.s 0,I no] w λv w'=>v= .tuple #[S (txt no),I 0]/\∃P',VJ w P w' P'/\Xt P' txt K/\P.Same P':=by
 refine py (e:=[(0,_),(1,_)]) func68 O ntmps68 O O$ qN O$ PY O O (SE (cs:=[_]) ti9 O) ?_
 rintro _ w1 ⟨x,rfl,hx,ad,hB⟩
 have dm:=hm.r ad
 have eJ:∀i,¬P.cp i x:=hm.new ω
 refine Qc O$ QS O$ Qk zfR O (z0X dm.m hI.down) ?_
 rintro _ w1 ⟨rfl,rfl⟩
 refine RZ O$ RA O$ Re O$ RI O$ qV (ymf (first:=[]) (caps:=[.tmp 4]) O O)$ Qk zf7 O (z1j dm hI hK h0 h1 none (λt e=>by cases e) ω eJ hB zju (λw1 b t d fg hb hx=>zbk fg hb hx)) ?_
 rintro _ w2 ⟨rfl,ak,P',dv,cX,dy,AL⟩
 rw[z0p] at cX
 replace ak:Q7 w2 x [S (txt no)] 9:=ak
 refine S7 O$ qV (PX U9 O O ak O)$ Q4 O$ Qb O (RV ti9 O O O ak ξ) ?_
 rintro w3 ⟨aw,av⟩
 replace aw:Q7 w3 x [S (txt no)] 9:=aw
 refine Qc O$ Qt func68 (.cell1 U9 O O ((aw).cell _) (.tmp O .nil)) ?_
 exact⟨_,rfl,rfl,P',dv.loc av (λj e=>by rw[show j=x from e];exact⟨.inr ω,AL⟩),cX,dy⟩
def zai (hm:VF w P)(hI:Xt P txt K)(hK:K<1000000000000){no:Int}(h0:0<=no)(h1:no<(P.L.length:Int))(t:PV)(ht:t.length=512):Qu prog 82 [ptr P.s 0,I no,S t] w λv w'=>v=I 0/\∃P',VJ w P w' P'/\Xt P' (z0z txt no (some t)) (K+1)/\P.Same P':=by
 refine py (e:=[(0,_),(1,_),(2,_)]) func82 O ntmps82 O O$ qN O$ PY O O (Se O (cs:=[S t]) O) ?_
 rintro _ w1 ⟨x,rfl,hx,ad,hB⟩
 have dm:=hm.r ad
 have eJ:∀i,¬P.cp i x:=hm.new ω
 refine Qc O$ QS O$ Qk zfR O (z0X dm.m hI.down) ?_
 rintro _ w1 ⟨rfl,rfl⟩
 refine RZ O$ RA O ?_
 have hg:=Ext.Qh w1
 refine Re O$ An$ An$ S5 (λw'=>Ext w1 w') O$ qT 0 O (λ_ h=>PX U9 O O (h.PN hB) O) hg$ PT 1 O (Wf U9 O) hg$ Qi 2 O O (hg)$ T9 3 O z5I O (z1W (dm.m.ext' hg) hI.N) ?_
 rintro _ w2 ⟨rfl,rfl⟩
 refine⟨hg,?_⟩
 refine PT 4 O (yne O O) hg$ UQ$ qE$ TT O$ RI O$ qV (ymf (first:=[]) (caps:=[.tmp 5]) O O)$ Qk zf7 O (z1j (dm.ext hg) hI hK h0 h1 (some t) (λs e=>by cases e;exact ht) ω eJ (hg.PN hB) zhs (λw1 b t2 d fg hb hx=>z73 fg hb hx)) ?_
 rintro _ w2 ⟨rfl,ak,P',dv,cX,dy,AL⟩
 refine Qc O$ PO func82 O ?_
 exact⟨_,rfl,rfl,P',dv,cX,dy⟩
def z6X (hm:VF w P){a n:Nat}(hp:Pre P.L a)(dl:1<=n)(qd:a+n<=P.L.length):Qu prog 50 [ptr P.s 0,I (n:Int)] w λv w'=>v= .tuple #[.agg #[I (a:Int),I (n:Int)],I 0]/\VJ w P w' {P with L:=Rn P.L a n true}:=by
 refine py (e:=[(0,_),(1,_)]) func50 O ntmps50 O O$ qN O$ PY O O (SE (cs:=[_,_]) Sd O) ?_
 rintro _ w1 ⟨x,rfl,hx,ad,hB⟩
 have dm:=hm.r ad
 have eJ:∀i,¬P.cp i x:=hm.new ω
 have j0:=dm.m.cells
 refine Qc O$ QS O$ qV (R9 Y1 O O)$ Re O$ Qx O$ QA O$ Qd z4p O$ qV (PX U67 O O j0 O)$ Q4 O$ Qk zlQ O (z5c dm.m.ext hp dl qd) ?_
 rintro _ w2 ⟨rfl,dZ,am⟩
 have dv:=dm.exM dZ am
 have ak:=am.PN hB (λe=>eJ 2 (.inr e))
 refine qV (Sz (v:= .agg #[I (a:Int),I (n:Int)]) O O)$ qV (Sz (v:=I 0) O O)$ Qb O (QT (news:=[I (a:Int),I (n:Int)]) Sd O O O O ak ξ) ?_
 rintro w3 ⟨aw,av⟩
 replace aw:Q7 w3 x [I (a:Int),I (n:Int)] 118:=aw
 refine Qc O$ Qt func50 (.cell YE O Sd O (Q7.cells (n:=2) aw (news:=[_,_]) O) O (.tmp O .nil)) ?_
 refine⟨_,rfl,rfl,dv.loc av (λj e=>by
  rw[show j=x from e];refine⟨.inr ω,λi e2=>?_⟩
  match i,e2 with
  |0,e2=>exact eJ 0 e2
  |1,e2=>exact eJ 1 e2
  |2,e2=>exact eJ 2 e2
  |3,e2=>exact eJ 3 e2
  |4,e2=>exact eJ 4 e2
  |5,e2=>exact eJ 5 e2)⟩
theorem Xt.Rx (h:Xt P txt K){L':List Bool}(hl:L'.length=P.L.length):Xt {P with L:=L'} txt K:=
 ⟨h.aok,h.asz,h.keys,h.nd,λg hg=>by rw[hl];exact h.rng g hg,h.tx,h.cl,λx h0 h1=>by rw[hl] at h1;exact h.out x h0 h1,λx h0 h1=>by rw[hl] at h1;exact h.len x h0 h1,h.down,h.due,h.B.trans hl.symm,h.N,h.ca,h.cc,h.TG⟩
def zaa {d m gi:Nat}{L:List Bool}{Fd:Nat->Prop}(hd:Xy w d (Dev.fresh L.length 1) Fd)(he:YU w m gi L)(Cs:¬Fd m/\¬Fd gi)(n:Nat)(dl:1<=n)(kj:n<=1000):Qu prog 22 [ptr d 0,I (n:Int),ptr m 0] w λv w'=>∃P,v= .tuple #[ptr P.s 0,I 0]/\VF w' P/\Xt P (λ_=>zeros 512) 0/\P.m=m/\P.gi=gi/\P.L=L/\(∀b,P.fp b->Fd b\/b=m\/b=gi\/w.heap.size<=b)/\Ext w w':=by
 refine py (e:=[(0,_),(1,_),(2,_)]) func22 O ntmps22 O O$ qN O$ Rt O$ RP$ Qx O$ qV (R9 U26 O O)$ Qp O$ qV (R9 U67 O O)$ QY O$ Qc O$ PZ O$ Qx O$ RT O$ QW ?_
 refine Qp O$ RK O$ QW$ QY O$ Qc O$ TT O$ PM$ Qx O$ Qk zl7 O (zcO n dl ω w) ?_
 rintro _ w1 ⟨c,V,p,rfl,mc,je,ad⟩
 refine Q4 O$ qV (Sz (v:=ptr c 0) O O)$ qV (Sz (v:=I 0) O O)$ Rt O$ Qy.qb (e:=[(0,_),(1,_),(2,_),(6,_),(7,_),(8,_),(9,_)]) ?_
 refine QS O$ RA O$ Re O$ RI O$ Q4 O$ PY O O (pmm) ?_
 rintro _ w2 ⟨pm,rfl,MI,ae,cG⟩
 have iY:TR KI w2 pm []:=TR.new cG
 have lpm:=iY.lt
 refine Q4 O$ qV (Tq (cs:=[_,_,_,_,_,_,_]) z3k O zlC O O)$ qV (Tq (cs:=[_,_,_,_,_,_,_,_,_,_,_,_]) zkS O zi5 O O)$ PY O O (Se O (cs:=plC ⟨0,d,m,gi,c,pm,p,n,V,Dev.fresh L.length 1,z8w n,[],L,Fd,0,0,0⟩) O) ?_
 rintro _ w3 ⟨s,rfl,hs,ah,aw⟩
 refine Rt O$ PO func22 O ?_
 have z1:=ad.size
 have z2:=ae.size
 have dX:=ae.trans ah
 have ct:=ad.trans dX
 have xh:=mc.ext dX
 have Gm:∀{b:Nat},TQ c V p b->b<w1.heap.size:=mc.lt
 have Gn:=hd.lt
 have ltm:=he.ltm
 have ltg:=he.ltg
 refine⟨_,rfl,⟨s,d,m,gi,c,pm,p,n,V,Dev.fresh L.length 1,z8w n,[],L,Fd,0,0,0⟩,rfl,⟨aw,hd.ext ct,he.ext ct,xh,iY.ext ah,(λg hg=>by cases hg),List.nodup_nil,?_⟩,⟨zdN dl,kj,λx=>?_,List.nodup_nil,(λg hg=>by cases hg),(λg hg=>by cases hg),(λg hg=>by cases hg),λx _ _ _=>rfl,λx _ _=>by simp[zeros],rfl,rfl,rfl,rfl,Int.le_refl _,Nat.le_refl _,Nat.zero_le _⟩,rfl,rfl,rfl,λb ⟨i,hb⟩=>?_,ct⟩
 ·intro i j ne b hb bO
  have cls:∀i,Sj.cp ⟨s,d,m,gi,c,pm,p,n,V,Dev.fresh L.length 1,z8w n,[],L,Fd,0,0,0⟩ i b->(i=0/\b=s)\/(i=1/\Fd b/\b<w.heap.size)\/(i=2/\(b=m\/b=gi)/\b<w.heap.size)\/(i=3/\w.heap.size<=b/\b<w1.heap.size)\/(i=4/\b=pm):=λi hb=>by
   match i,hb with
   |0,e=>exact .inl ⟨rfl,e⟩
   |1,e=>exact .inr (.inl ⟨rfl,e,Gn b e⟩)
   |2,e=>exact .inr (.inr (.inl ⟨rfl,e,by have e':b=m\/b=gi:=e;omega⟩))
   |3,e=>exact .inr (.inr (.inr (.inl ⟨rfl,je b e,Gm e⟩)))
   |4,e=>exact .inr (.inr (.inr (.inr ⟨rfl,e⟩)))
   |5,⟨g,hg,e⟩=>cases hg
  have h1:=cls i hb;have h2:=cls j bO;rcases h1 with⟨e,h1⟩|⟨e,h1,xe⟩|⟨e,h1,xe⟩|⟨e,h1,xe⟩|⟨e,h1⟩<;>rcases h2 with⟨f,h2⟩|⟨f,h2,JD⟩|⟨f,h2,JD⟩|⟨f,h2,JD⟩|⟨f,h2⟩<;>first|omega|skip
  ·rcases h2 with e| e
   ·exact Cs.1 (e▸h1)
   ·exact Cs.2 (e▸h1)
  ·rcases h1 with e| e
   ·exact Cs.1 (e▸h2)
   ·exact Cs.2 (e▸h2)
 ·constructor
  ·intro e;cases e
  ·intro e;rcases e with e|e<;>cases e
 ·match i,hb with
  |0,e=>exact .inr (.inr (.inr (by have:b=s:=e;omega)))
  |1,e=>exact .inl e
  |2,e=>rcases e with e|e;exact .inr (.inl e);exact .inr (.inr (.inl e))
  |3,e=>exact .inr (.inr (.inr (je b e)))
  |4,e=>exact .inr (.inr (.inr (by have:b=pm:=e;omega)))
  |5,⟨g,hg,e⟩=>cases hg
end
def z9T {l:List (Int×PV)}{n:Int}{t:PV}(h:XF l n=some t):∃x∈l,x.2=t:=by
 unfold XF at h
 obtain⟨x,hx,e⟩:=Option.map_eq_some_iff.1 h
 exact⟨x,List.mem_reverse.1 (List.mem_of_find?_eq_some hx),e⟩
theorem Dev.Ok.zdQ {D:Dev}(h:D.Ok)(n:Int):(D.now n).length=512*D.N:=by
 unfold Dev.now
 cases hl:XF D.cache n with
 |none=>exact h.kept n
 | some t =>
   obtain⟨x,hx,rfl⟩:=z9T hl;exact(h.cache x hx).2.2
section
variable {w w':World}{P P':Sj}{txt:Int->PV}{K:Nat}
def Xt.zhW (h:Xt P txt K)(az:P.D.Ok){k:Int}:Xt {P with A:=P.A.drop k,l:=TV P.l k} (λx=>if x=k then P.D.now k else txt x) K:=by
 have hk:=z32 h.nd k
 have dT:=Uf P.l k
 have bD:=Arc.za1 h.aok k
 have Cq:=h.ca
 have Gb:=h.cc
 have AD:Tb (TV P.l k)<=Tb P.l:=dT.countP_le
 have gM:∀q∈TV P.l k,q∈P.l/\q.k≠k:=λq hq=>⟨dT.subset hq,((hk q.k).1 (List.mem_map.2 ⟨q,hq,rfl⟩)).2⟩
 refine⟨h.aok.drop k,h.asz,λx=>by dsimp only;rw[hk,bD,h.keys],(dT.map _).nodup h.nd,λq hq=>h.rng q (gM q hq).1,λq hq=>?_,λq hq hd=>?_,λx h0 h1 hx=>?_,λx h0 h1=>?_,h.down,h.due,h.B,h.N,by dsimp only;omega,by dsimp only;omega,h.TG⟩
 ·rw[if_neg (gM q hq).2];exact h.tx q (gM q hq).1
 ·rw[if_neg (gM q hq).2];exact h.cl q (gM q hq).1 hd
 ·dsimp only at h1 hx⊢;rw[bD,not_and] at hx;by_cases e:x=k
  ·rw[if_pos e,e]
  ·rw[if_neg e];exact h.out x h0 h1 λe2=>hx e2 e
 ·dsimp only at h1⊢;by_cases e:x=k
  ·rw[if_pos e,az.zdQ,h.N]
  ·rw[if_neg e];exact h.len x h0 h1
def Xt.Vr (h:Xt P txt K)(hA:P'.A=P.A)(hl:P'.l=P.l)(hD:P'.D=P.D)(hL:P'.L=P.L):Xt P' txt K:=by
 obtain⟨a1,a2,a3,a4,a5,a6,a7,a8,a9,b1,b2,b3,b4,b5,b6,b7⟩:=h
 constructor<;>simp only[hA,hl,hD,hL]<;>assumption
def VF.dok (h:VF w P):P.D.Ok:=by
 obtain⟨m,kp,ca,h1,-⟩:=h.dev
 exact h1.ok
def zaP (l:List Pg)(k:Int):(k∉l.map (·.k)/\Sm (Vp l) k=none)\/∃q∈l,q.k=k/\Sm (Vp l) k=some (ptr q.b 0):=by
 induction l with
 |nil=>exact .inl ⟨ξ,rfl⟩
 | cons g l ih =>
   show _\/_;by_cases h:k=g.k
   ·exact .inr ⟨g,List.mem_cons_self,h.symm,if_pos h⟩
   ·have e:Sm (Vp (g::l)) k=Sm (Vp l) k:=if_neg h;rw[e];rcases ih with⟨a,b⟩|⟨q,a,b,c⟩
    ·exact .inl ⟨by simp[h] at a⊢;exact a,b⟩
    ·exact .inr ⟨q,List.mem_cons_of_mem _ a,b,c⟩
def z8g (hm:VF w P)(hI:Xt P txt K){s n:Nat}(dl:1<=n)(jj:s+n<=P.L.length):Qu prog 91 [ptr P.s 0,.agg #[I (s:Int),I (n:Int)]] w λv w'=>v=I 0/\∃P' txt',VJ w P w' P'/\Xt P' txt' K/\(∀x:Int,x<(s:Int)\/(s:Int)+(n:Int)<=x->txt' x=txt x)/\P.Same P':=by
 have dS:=hm.ext.n
 have j0:=hm.cells
 refine py (e:=[(0,_),(1,_)]) func91 O ntmps91 O O$ qN O$ PY O O (Se O (cs:=[I (s:Int),I (n:Int)]) O) ?_
 rintro _ w1 ⟨b3,rfl,dP,ad,aw⟩
 have dm:=hm.r ad
 have nK:∀i,¬P.cp i b3:=hm.new ω
 have lJ:=ad.PN j0
 have hg:=Ext.Qh w1
 have eP:=XD (dm.m.dev.ext hg)
 rw[hI.B] at eP
 refine Qc O$ RP$ Qx O$ qV (R9 Y1 O O)$ Qc O$ PZ O$ Qx O$ QA O$ Qd z9P O$ qV (PX U4 O O lJ O)$ Qc O$ PZ O$ An$ S5 (λw'=>Ext w1 w') O ?_
 refine PT 0 O (Qz Sg O) hg$ qT 1 O (λ_ h=>(PX U3 O O (h.PN aw) O)) hg$ PT 2 O (ylt O O) hg$ UQ$ Qi 3 O O (hg)$ PT 4 O (Qz S4 O) hg$ qT 5 O (λ_ h=>(PX U3 O O (h.PN aw) O)) hg$ PT 6 O (ylt O O) hg$ UQ$ PT 7 O (Vt O O) hg$ Qi 8 O O (hg)$ PT 9 O (Qz S4 O) hg$ qT 10 O (λ_ h=>(PX U3 O O (h.PN aw) O)) hg$ Qi 11 O O (hg) ?_
 refine PT 12 O (R8 O) hg$ PT 13 O (Qz Wr O) hg$ qT 14 O (λ_ h=>(PX U26 O O (h.PN lJ) O)) hg$ T9 15 O z5M O (eP) ?_
 rintro _ w2 ⟨rfl,rfl⟩
 refine⟨hg,?_⟩
 refine PT 16 O (yge O O) hg$ UQ$ PT 17 O (Vt O O) hg$ Qi 18 O O (hg)$ PT 19 O (Qz Sg O) hg$ qT 20 O (λ_ h=>(PX U3 O O (h.PN aw) O)) hg$ Qi 21 O O (hg)$ PT 22 O (R8 O) hg$ PT 23 O (Qz Wr O) hg$ qT 24 O (λ_ h=>(PX U26 O O (h.PN lJ) O)) hg$ PT 26 O (Qz S4 O) hg$ qT 27 O (λ_ h=>(PX U3 O O (h.PN aw) O)) hg$ T9 25 O z5M O (eP) ?_
 rintro _ w2 ⟨rfl,rfl⟩
 refine⟨hg,?_⟩
 refine PT 28 O (YM O O ω) hg$ PT 29 O (Zr O O) hg$ UQ$ PT 30 O (Vt O O) hg$ PT 31 O (Sv O) hg ?_
 obtain⟨w2,mz⟩:∃w2,w1.drew=w2:=⟨_,rfl⟩
 rw[mz] at hg⊢
 have dx:=hg.PN aw
 have dv:=dm.ext hg
 have ip:=hg.PN lJ
 have l3:=dx.lt
 refine qE$ Qy.qb (e:=[(0,_),(3,_),(4,_),(16,_)]) ?_
 refine TT O$ PM$ An$ qN O$ Qd Sg O$ qV (PX U3 O O dx O)$ Q4 O$ PQ$ PS$ SK (α:=Nat) (0) (λi=>[(0,ptr P.s 0),(3,ptr b3 0),(49,I (n:Int)),(50,I (i:Int))]) (λi w'=>Ext w2 w'/\i<=n) (λi=>n-i) ?hI ?hround
 case hI=>exact⟨Ext.refl _,Nat.zero_le _⟩
 case hround =>
  rintro i w3 ⟨ah,hi⟩ ih;have cq:=dv.ext ah;have lF:=ah.PN ip;have eR:=ah.PN dx;have ag:=Ext.Qh w3
  try dsimp only
  refine qN O$ RT O$ PQ$ An$ Q8 O (λh0=>?_)$ λh0=>?_
  ·refine PR$ RP$ Qx O$ Qc O$ An$ S5 (λw'=>Ext w3 w') O$ Qi 0 O O (ag)$ PT 1 O (R8 O) ag$ PT 2 O (Qz Wj O) ag$ qT 3 O (λ_ h=>(PX YC O O (h.PN lF) O)) ag$ PT 4 O (Qz S4 O) ag$ qT 5 O (λ_ h=>(PX U3 O O (h.PN eR) O)) ag$ Qi 6 O O (ag)$ PT 7 O (Wa O O ω) ag ?_;rw[show(s:Int)+(i:Int)=((s+i:Nat):Int) by omega];refine qT 8 O (λ_ hS=>ylk (k:=((s+i:Nat):Int)) (K:=KI) YC (Tm U3) zc7 O O (cq.m.ext' hS).mp.l) ag ?_;rcases zaP P.l ((s+i:Nat):Int) with⟨-,gd⟩|⟨q,hq,-,gd⟩
   ·rw[gd];refine PT 9 O (Sv O) ag$ qE$ Qx O$ qV (z6y zjG O O)$ Q4 O$ S6$ S6$ qS$ QY O$ Re O$ PM$ PW O$ R7 O$ Q4 O ?_;refine PQ ?_;exact(ih (i+1) _ ⟨ah.trans ag,ω⟩ ω).qb
   ·rw[gd];have sE:=(ag.PN (cq.m.pg q hq):Q7 w3.drew q.b [S q.t,.bool q.d,I 0] 204);refine PT 9 O (Sv O) ag$ qE$ Qx O$ qV (z6y zjG O O)$ Qp O$ QA O$ Qd zdD O$ qV (PX U3 O O sE O)$ RK O$ QW$ Sa O$ Re O$ PM$ PW O ?_;refine R7 O$ Q4 O$ PQ ?_;exact(ih (i+1) _ ⟨ah.trans ag,ω⟩ ω).qb
  ·have au : i = n := by omega
   subst au;refine Q5 O$ An$ qN O$ Qd Sg O$ qV (PX U3 O O eR O)$ Q4 O$ PQ$ PS$ SK (α:=Nat×Sj×(Int->PV)) ((0,P,txt)) (λy=>[(0,ptr P.s 0),(3,ptr b3 0),(73,I (i:Int)),(74,I (y.1:Int))]) (λy w'=>VJ w P w' y.2.1/\Xt y.2.1 y.2.2 K/\y.1<=i/\P.Same y.2.1/\(∀x:Int,x<(s:Int)\/(s:Int)+(i:Int)<=x->y.2.2 x=txt x)/\Q7 w' b3 [I (s:Int),I (i:Int)] 118/\∀j,¬y.2.1.cp j b3) (λy=>i-y.1) ?hI ?hround
   case hI=>exact⟨cq,hI,Nat.zero_le _,⟨rfl,rfl,rfl,rfl,rfl,rfl,rfl,rfl,rfl⟩,λx _=>rfl,eR,nK⟩
   case hround =>
    rintro⟨j,Pj,tj⟩ w4 ⟨bH,jJ,hj,bT,jm,eF,my⟩ ih2;dsimp only at bH jJ hj bT jm eF my ih2⊢;have fX:=bH.m.cells;rw[bT.s] at fX;have af:=Ext.Qh w4;have eC:=Ext.Qh w4.drew
    try dsimp only
    refine qN O$ RT O$ PQ$ An$ Q8 O (λh2=>?_)$ λh2=>?_
    ·refine PR$ RP$ Qx O$ Qc O$ An$ Qn [8] (λw'=>Ext w4 w') (by kernel_rfl) O$ R1 0 O O (af)$ Qs 1 O (R8 O) af$ Qs 2 O (Qz Wj O) af$ qL 3 O (λ_ h=>(PX YC O O (h.PN fX) O)) af$ Qs 4 O (Qz S4 O) af$ qL 5 O (λ_ h=>(PX U3 O O (h.PN eF) O)) af$ R1 6 O O (af)$ Qs 7 O (Wa O O ω) af ?_;refine Ut [8] ?_;rw[show(s:Int)+(j:Int)=((s+j:Nat):Int) by omega];refine qO 8$ zcI (i:=8) O O (zgh (k:=((s+j:Nat):Int)) (K:=KI) YC (Tm U3) O O (bH.ext af).m.mp O) ?_;rintro _ w5 ⟨xB,aj⟩;refine⟨trivial,?_⟩;rw[z3Q] at xB;have bP:=(bH.ext af).del (Uf _ _) xB aj;have cY:=aj.PN (af.PN eF) (my 4);have jQ:=bP.m.cells;dsimp only at jQ;rw[bT.s] at jQ;have dR:=Ext.Qh w5;have cN:=bP.ext dR;refine qE$ Qn [8] (λw'=>Ext w5 w') (by kernel_rfl) O$ R1 0 O O (dR)$ Qs 1 O (R8 O) dR$ Qs 2 O (Qz z9a O) dR$ qL 3 O (λ_ h=>(PX zcY O O (h.PN jQ) O)) dR$ Qs 4 O (Qz S4 O) dR$ qL 5 O (λ_ h=>(PX U3 O O (h.PN cY) O)) dR$ R1 6 O O (dR)$ Qs 7 O (Wa O O ω) dR$ Ut [8] ?_;rw[show(s:Int)+(j:Int)=((s+j:Nat):Int) by omega];refine T9 8 O ziO O (zaR cN.m.arc (k:=((s+j:Nat):Int))) ?_;rintro _ w6 ⟨⟨z,rfl⟩,V6,tq⟩;refine⟨trivial,?_⟩;have AH:=cN.arc tq;have jx:=tq.k.PN (dR.PN cY) (my 3);refine qE$ PM$ PW O$ R7 O$ Q4 O$ PQ ((ih2 (j+1,_,_) _ ⟨AH,(jJ.zhW bH.m.dok (k:=((s+j:Nat):Int))).Vr O O O O,by dsimp only;omega,⟨bT.s,bT.d,bT.m,bT.gi,bT.c,bT.pm,bT.p,bT.fr,bT.L⟩,λx hx=>?_,jx,λi2 e=>?_⟩ (by dsimp only;omega)).qb)
     ·show(if x=((s+j:Nat):Int) then Pj.D.now ((s+j:Nat):Int) else tj x)=txt x;rw[if_neg ω];exact jm x hx
     ·match i2,e with
      |0,e=>exact my 0 e
      |1,e=>exact my 1 e
      |2,e=>exact my 2 e
      | 3, e =>
        rcases tq.fp b3 e with e| e
        ·exact my 3 e
        ·have:=(dR.PN cY).lt;omega
      |4,e=>exact my 4 e
      |5,⟨q,hq,e⟩=>exact my 5 ⟨q,(Uf _ _).subset hq,e⟩
    ·have sT:j=i:=by omega
     subst sT;refine Q5 O$ RN O$ PO func91 O ?_;exact⟨_,rfl,rfl,Pj,tj,bH,jJ,jm,bT⟩
def z71 (hm:VF w P)(hI:Xt P txt K){s n:Nat}(dl:1<=n)(dy:2<=s)(jj:s+n<=P.L.length)(hc:∀i,s<=i->i<s+n->P.L[i]? =some true):Qu prog 58 [ptr P.s 0,.agg #[I (s:Int),I (n:Int)]] w λv w'=>v=I 0/\∃P' txt',VJ w P w' {P' with L:=Rn P.L s n false}/\Xt {P' with L:=Rn P.L s n false} txt' K/\(∀x:Int,x<(s:Int)\/(s:Int)+(n:Int)<=x->txt' x=txt x)/\P.Same P':=by
 refine py (e:=[(0,_),(1,_)]) func58 O ntmps58 O O$ qN O$ PY O O (Se O (cs:=[I (s:Int),I (n:Int)]) O) ?_
 rintro _ w1 ⟨b3,rfl,dP,ad,aw⟩
 have dm:=hm.r ad
 have nK:∀i,¬P.cp i b3:=hm.new ω
 refine Qc O$ QS O$ qV (QB (news:=[I (s:Int),I (n:Int)]) YE O Sd O (Q7.cells (n:=2) aw O) O)$ Qk zlS O (z8g dm.m hI dl jj) ?_
 rintro _ w2 ⟨rfl,P',txt',dv,cX,jm,bT⟩
 have l3:=aw.lt
 have dx:=dv.k.PN aw (λ⟨i,e⟩=>nK i e)
 have vM:=dm.trans dv
 have ip:=vM.m.cells
 rw[bT.s] at ip
 refine RZ O$ RA O ?_
 have aa:=Ext.Qh w2
 have mt:=(vM.ext aa).m.ext
 rw[bT.L] at mt
 refine Re O$ An$ Qn [5,6] (λw'=>Ext w2 w') (by kernel_rfl) O$ R1 0 O O (aa)$ Qs 1 O (R8 O) aa$ Qs 2 O (Qz z4p O) aa$ qL 3 O (λ_ h=>PX U67 O O (h.PN ip) O) aa$ qL 4 O (λ_ h=>QB (news:=[I (s:Int),I (n:Int)]) YE O Sd O (Q7.cells (n:=2) (h.PN dx) O) O) aa$ Ut [5]$ T9 5 O zlG O (z6U mt s n dl dy jj hc) ?_
 rintro _ w3 ⟨rfl,Je,ar⟩
 refine⟨trivial,?_⟩
 have cq:=(vM.ext aa).exM Je ar
 refine PT 6 O (Sv O) trivial$ qE$ PO func58 O ?_
 exact⟨_,rfl,rfl,P',txt',cq,cX.Rx (by rw[R5 jj,bT.L]),jm,bT⟩
end
end Go.Proofs.YtffbidffdbpcoaaGreatDoor
