/- Merged by program. -/
import Derived.Test.YtffbidffdbpcoaaGreatDoorZr5
set_option linter.all false
set_option maxRecDepth 1000000
set_option maxHeartbeats 16000000
namespace Go.Proofs.YtffbidffdbpcoaaGreatDoor
open Go Go.RowKit Go.Proofs.Tryz
def Dev.push (D:Dev)(n:Int)(s:OO):Dev:={D with cache:=D.cache++[(n,s)]}
def z6d {P:Program}{e:Env}{d:Option Nat}{ty t t':TypeId}{pos:String}{aft:Array Edge}{g:Option (Nat×Bool)}{x y:Operand}{w:World}{a b:Int}(hx:look e x=some (I a))(hy:look e y=some (I b)):Y P e ⟨d,.binOp .add t x y t',ty,pos,aft,g⟩ (I (IntKind.i64.wrap (a+b))) w w:=fun ρ hρ=>by simp[execOp,go_sem,hρ _ _ hx,hρ _ _ hy]
def Dev.zej (D:Dev):Dev:=D.zaG D.Ss D.zcC D.mask
def Dev.write (D:Dev)(n:Int)(s:OO):Dev×Int:=
 if D.down then(D,8)
 else if D.has n=false\/s.length≠512*D.N then(D,1)
 else if D.due=1 then(((D.push n s).count).zej,8) else((D.push n s).count,0)
def Dev.read (D:Dev)(n:Int):Dev×OO×Int:=
 if D.down then(D,[],8) else if D.has n=false then(D,[],1) else({D with reads:=IntKind.i64.wrap (D.reads+1)},D.now n,0)
def z1F (w:World)(p m:Nat)(kp ca:Value)(D':Dev)(w':World):Prop:=∃kp' ca',S2 w' p m kp' ca' D'/\Upd (fpD p m kp ca) (fpD p m kp' ca') w w'
theorem z1F.same {w w':World}{p m:Nat}{kp ca:Value}{D:Dev}(h:S2 w' p m kp ca D)(k:Ext w w'):z1F w p m kp ca D w':=⟨kp,ca,h,k.Zb⟩
def zaI {w w':World}{p m:Nat}{kp ca:Value}(k:Kp (λi=>i=p\/i=m) w w'):Upd (fpD p m kp ca) (fpD p m (.slice none 0 0) (.slice none 0 0)) w w':=
 ⟨k.ON λi hi=>hi.elim .inl λh=> .inr (.inl h),λi hi=>by
  rcases hi with h|h|h| h
  ·exact .inl (.inl h)
  ·exact .inl (.inr (.inl h))
  ·cases h
  ·cases h⟩
section
variable {w:World}{p m:Nat}{kp ca:Value}{D:Dev}
def zaf (n:Int)(h:S2 w p m kp ca D)(hc:D.Bd):
  Ps prog 145 [ptr p 0,I n] w λv w'=>v= .tuple #[S (D.read n).2.1,I (D.read n).2.2]/\z1F w p m kp ca (D.read n).1 w':=by
 refine py (e:=[(0,_),(1,_)]) func145 O ntmps145 O O$ qN O$ Qr O$ PR O$ Pb ze9 O (z2k h) ?_
 rintro _ w1 ⟨rfl,rfl⟩
 cases hd:D.down with
 | true =>
   refine R3 O$ QF O$ OJ$ OX O (λhz=>?_)$ λhz=>?_
   ·refine Pt O$ Qr O$ OI func145 O ?_;have e:D.read n=(D,[],8):=by simp[Dev.read,hd]
    rw[e];exact⟨_,rfl,rfl,z1F.same h (Ext.refl _)⟩
   ·exact absurd ψ hz
 | false =>
   refine R3 O$ QF O$ OJ$ OX O (λhz=>?_)$ λhz=>?_
   ·exact absurd hz ψ
   ·refine OK$ An$ QI O$ Pb ze4 O (z8r n h) ?_;rintro _ w2 ⟨rfl,rfl⟩
    cases hh:D.has n with
    | false =>
      refine qV ((S5 O))$ OJ$ OZ O$ qN O$ Qr O$ OI func145 O ?_;have e:D.read n=(D,[],1):=by simp[Dev.read,hd,hh]
      rw[e]
      exact⟨_,rfl,rfl,z1F.same h (Ext.refl _)⟩
    | true =>
      refine qV ((S5 O))$ OJ$ OR O ?_;have hM:=h.OH;refine OK$ Pt O$ Pw O$ P4 z8t O$ qV (OS U3 O O hM O)$ qV (z6d O O)$ Pw O$ P4 z8t O$ OY O (QP Qe O O O hM ξ) ?_;rintro w3 ⟨wK,av⟩;have h3:=h.turn (D':={D with reads:=IntKind.i64.wrap (D.reads+1)}) wK av O O O O ⟨h.ok.hB,h.ok.hN,h.ok.due,h.ok.sf,h.ok.cache,h.ok.len,trivial⟩;refine qM O$ Pl O$ Pb zio O (zcM n h3 hc.2.1) ?_;rintro _ w4 ⟨rfl,aG⟩;refine Qr O$ OI func145 O ?_;have e:D.read n=({D with reads:=IntKind.i64.wrap (D.reads+1)},D.now n,0):=by simp[Dev.read,hd,hh]
      rw[e];exact⟨_,rfl,rfl,kp,ca,h3.ext aG,(av.ON λ_ h=> .inl h).trans aG.kp,λ_ h=> .inl h⟩
def z9u (n:Int)(s:OO)(h:S2 w p m kp ca D)(hc:D.Bd)(hk:D.Ss.length<=17592186044416):
  Ps prog 177 [ptr p 0,I n,S s] w λv w'=>v=I (D.write n s).2/\z1F w p m kp ca (D.write n s).1 w':=by
 have fA:maxLen=9223372036854775807:=rfl
 obtain⟨ib,gF,nn⟩:=hc
 have M8:=h.ok.len
 refine py (e:=[(0,_),(1,_),(2,_)]) func177 O ntmps177 O O$ QN O$ PR O$ Pb ze9 O (z2k h) ?_
 rintro _ w1 ⟨rfl,rfl⟩
 cases hd:D.down with
 | true =>
   refine R3 O$ QF O$ OJ$ OX O (λhz=>?_)$ λhz=>?_
   ·refine Pt O$ P3 O$ OI func177 O ?_;have e:D.write n s=(D,8):=by simp[Dev.write,hd]
    rw[e];exact⟨_,rfl,rfl,z1F.same h (Ext.refl _)⟩
   ·exact absurd ψ hz
 | false =>
   refine R3 O$ QF O$ OJ$ OX O (λhz=>?_)$ λhz=>?_
   ·exact absurd hz ψ
   ·refine OK$ An$ QI O$ Pb ze4 O (z8r n h) ?_;rintro _ w2 ⟨rfl,rfl⟩
    cases hh:D.has n with
    | false =>
      refine qV ((S5 O))$ OT O$ QY$ QY$ qS$ Ra O$ OJ$ OZ O$ QN O$ OI func177 O ?_;have e:D.write n s=(D,1):=by simp[Dev.write,hd,hh]
      rw[e]
      exact⟨_,rfl,rfl,z1F.same h (Ext.refl _)⟩
    | true =>
      have hn:0<=n/\n<(D.B:Int):=by simpa[Dev.has] using hh
      refine qV ((S5 O))$ Pl O$ qV (Wh U9 O)$ OT O$ Pb zeK O (z1j h) ?_;rintro _ w3 ⟨rfl,rfl⟩;refine QF O$ PT O$ OJ$ OX O (λcD=>?_)$ λcD=>?_
      ·refine QN O$ OI func177 O ?_
       have e:D.write n s=(D,1):=by
        have:s.length≠512*D.N:=by omega
        simp[Dev.write,hd,hh,this]
       rw[e];exact⟨_,rfl,rfl,z1F.same h (Ext.refl _)⟩
      ·have fL:s.length=512*D.N:=by omega
       obtain⟨a,cap,rfl,ha⟩:=h.cache.rd.shape;have hM:=h.OH;refine OK$ QI O$ Pw O$ P4 Yh O$ qV (OS z1H O O hM O)$ Pl O$ qV (Sh (cs:=[_,_]) WD O zfM O O)$ OP O O (Yx (cs:=[_,_]) (zs:=[Value.int .i64 0,Value.string ⟨#[]⟩]) z1H WD O (by kernel_rfl) O O O ψ) ?_;rintro _ w4 ⟨b4,rfl,⟨fX,aG,aM⟩,eA⟩;have lR:=h.cache.ext aG;refine OP O O (pap z1H WD O ψ O O lR eA.rd (by intro c hc;simp at hc;rcases hc with rfl|rfl<;>rfl) ω ω) ?_;rintro v' w5 ⟨gM,aj,sy,-⟩;have EO:oneV v'=true:=by rcases gM.shape with⟨rfl,-⟩|⟨g,cap,rfl,-⟩<;>rfl
       have h4:=h.ext aG
       have lX:∀g,(Value.slice a D.cache.length cap).ownBlock=some g->¬g=p:=λg hg qW=>by
        obtain⟨xs,fz',hx⟩:=Tu h4.cache hg;obtain⟨fz,hb,-⟩:=h4.OH;rw[qW,hb] at hx;cases hx
       have wJ:=aj.OH h4.OH (λhg=>lX p hg O);refine Pw O$ P4 Yh O$ OY O (QP z7Y O O EO wJ ξ) ?_;rintro w6 ⟨aX,aN⟩;have gE:=h.OH.lt
       have h6:S2 w6 p m kp v' (D.push n s):=by
        refine⟨aX,?_,?_,?_,?_⟩
        ·obtain⟨kv,ot,nM⟩:=h4.map;exact⟨kv,aN.map (aj.map ot λhg=>(h4.zhz hg).2.1 O) λe=>h4.pm e.symm,nM⟩
        ·have e:wrs (D.push n s).cache=wrs D.cache++[I n,S s]:=by simp[Dev.push,wrs,wr]
         have e2:(D.push n s).cache.length=D.cache.length+1:=by simp[Dev.push]
         rw[e,e2];refine gM.kp aN λg hg=>?_;rcases sy g hg with h'|h'
         ·exact(h4.zhz h').1
         ·have:=aG.size;omega
        ·refine(h4.Ss.kp aj λg hg hc=>(h4.zgV hg).2.2 hc).kp aN λg hg=>(h4.zgV hg).1
        ·refine⟨h.ok.hB,h.ok.hN,h.ok.due,h.ok.sf,λx hx=>?_,h.ok.len,h.ok.reads⟩;simp only[Dev.push,List.mem_append,List.mem_singleton] at hx;rcases hx with hx|rfl
         ·exact h.ok.cache x hx
         ·exact⟨hn.1,hn.2,fL⟩
       refine OJ$ Pu.qb (e:=[(0,_),(6,_)]) ?_;refine PR O$ Pb zhx O (z5e h6 ib) ?_;rintro _ w7 ⟨rfl,h7,aB⟩
       have hu:Upd (fpD p m kp (.slice a D.cache.length cap)) (fpD p m kp v') w3 w7:=by
        refine⟨(aG.kp.trans (aj.ON λi hi=> .inr (.inr (.inl hi)))).trans ((aN.ON λi hi=> .inl hi).trans (aB.ON λi hi=> .inl hi)),λi hi=>?_⟩;rcases hi with h'|h'|h'|h'
        ·exact .inl (.inl h')
        ·exact .inl (.inr (.inl h'))
        ·rcases sy i h' with IT|IT
         ·exact .inl (.inr (.inr (.inl IT)))
         ·have:=aG.size;exact .inr ω
        ·exact .inl (.inr (.inr (.inr h')))
       refine OJ$ OX O (λqX=>?_)$ λqX=>?_
       ·have M9:=h7.OH;refine QI O$ Pw O$ P4 WS O$ P4 zcH O$ qV (Pv U99 O zeN O (OU.cells (n:=3) M9 (news:=[_,_,_]) O) O)$ Pb zhE O (zbk h7 D.Ss D.zcC D.mask hk (h7.Ss.rd) (by show(D.cache++[(n,s)]).length<2000000000000;simp;omega)) ?_;rintro _ w8 ⟨rfl,h8,aL⟩;refine qM O$ P3 O$ OI func177 O ?_
        have e:D.write n s=(((D.push n s).count).zej,8):=by
         have ox:D.due=1:=qX;simp[Dev.write,hd,hh,fL,ox]
        rw[e];exact⟨_,rfl,rfl,_,_,h8,hu.trans (zaI aL)⟩
       ·refine OK$ QN O$ OI func177 O ?_
        have e:D.write n s=((D.push n s).count,0):=by
         have ox:¬D.due=1:=qX;simp[Dev.write,hd,hh,fL,ox]
        rw[e];exact⟨_,rfl,rfl,_,_,h7,hu⟩
end
section
variable {w:World}{D:Dev}
def Dev.z8c (D:Dev)(n:Nat):List OO:=(List.range n).map λj:Nat=>D.now (j:Int)
@[simp] theorem imageTo_length (D:Dev) (n:Nat):(D.z8c n).length=n:=by simp[Dev.z8c]
def zbR {w:World}{v:Value}{e size n:Nat}{cs:List Value}(h:Sl w v e size n cs):oneV v=true:=by
 rcases h.shape with⟨rfl,-⟩|⟨g,cap,rfl,-⟩<;>rfl
end
def z09 (b n:Int):Prop:=16<=b/\b<=4096/\1<=n/\n<=8
instance (b n:Int):Decidable (z09 b n):=by unfold z09;infer_instance
def Dev.fresh (B N:Nat):Dev:=⟨0,[],0,0,B,N,λ_=>none,[],false,0,0⟩
def za1 (b n:Int)(w:World):Ps prog 45 [.agg #[I b,I n]] w λv w'=>v=I (if z09 b n then 0 else 1)/\Ext w w':=by
 refine py (e:=[(0,_)]) func45 O ntmps45 O O$ qN O$ OP O O (R6 O O) ?_
 rintro _ w1 ⟨b1,rfl,bK,ad,ai⟩
 by_cases hg:z09 b n
 ·obtain⟨g1,g2,g3,g4⟩:=hg;refine P3 O$ An$ qN O$ P4 Zq O$ qV (OS U3 O O ai O)$ QV O$ PO$ OT O$ P4 Zq O$ qV (OS U3 O O ai O)$ QD O$ PO$ PT O$ OT O ?_;refine P4 ZF O$ qV (OS U3 O O ai O)$ QV O$ PO$ PT O$ OT O$ P4 ZF O$ qV (OS U3 O O ai O)$ QD O$ PO$ PT O$ Qm O$ QN O$ OI func45 O ?_;exact⟨_,rfl,by rw[if_pos ⟨g1,g2,g3,g4⟩];rfl,ad⟩
 ·refine P3 O$ An$ qN O$ P4 Zq O$ qV (OS U3 O O ai O)$ QV O$ Su (λh1=>?_)$ λh1=>?_
  ·refine OT O$ QY$ qS$ Ra O$ OT O$ QY$ qS$ Ra O$ OT O$ QY$ qS$ Ra O$ OJ$ OZ O ?_;refine QN O$ OI func45 O ?_;exact⟨_,rfl,by rw[if_neg hg];rfl,ad⟩
  ·refine OT O$ P4 Zq O$ qV (OS U3 O O ai O)$ QD O$ PT O$ Su (λh2=>?_)$ λh2=>?_
   ·refine OT O$ QY$ qS$ Ra O$ OT O$ QY$ qS$ Ra O$ OJ$ OZ O$ QN O$ OI func45 O ?_;exact⟨_,rfl,by rw[if_neg hg];rfl,ad⟩
   ·refine OT O$ P4 ZF O$ qV (OS U3 O O ai O)$ QV O$ PT O$ Su (λh3=>?_)$ λh3=>?_
    ·refine OT O$ QY$ qS$ Ra O$ OJ$ OZ O$ QN O$ OI func45 O ?_;exact⟨_,rfl,by rw[if_neg hg];rfl,ad⟩
    ·have:8<n:=by unfold z09 at hg;omega
     refine OT O$ P4 ZF O$ qV (OS U3 O O ai O)$ QD O$ RP$ PT O$ OJ$ OZ O$ QN O$ OI func45 O ?_;exact⟨_,rfl,by rw[if_neg hg];rfl,ad⟩
def zfB (B N:Nat)(w:World)(hg:z09 B N):Ps prog 20 [.agg #[I (B:Int),I (N:Int)]] w λv w'=>∃p m,v= .tuple #[ptr p 0,I 0]/\S2 w' p m (.slice none 0 0) (.slice none 0 0) (Dev.fresh B N)/\Ext w w'/\w.heap.size<=p/\w.heap.size<=m:=by
 obtain⟨g1,g2,g3,g4⟩:=hg
 refine py (e:=[(0,_)]) func20 O ntmps20 O O$ qN O$ OP O O (R6 O O) ?_
 rintro _ w1 ⟨b1,rfl,bK,ad,ai⟩
 refine Qr O$ An$ qN O$ qV (Pv U66 O zbM O (OU.cells (n:=2) ai (news:=[_,_]) O) O)$ Pb zjO O (za1 B N _) ?_
 rintro _ w2 ⟨rfl,ae⟩
 rw[if_pos ⟨g1,g2,g3,g4⟩]
 replace ai:=ae.OH ai
 refine R3 O$ QF O$ OJ$ OX O (λhz=>?_)$ λhz=>?_
 ·exact absurd hz ψ
 ·refine OK$ qN O$ qV (Pv U66 O zbM O (OU.cells (n:=2) ai (news:=[_,_]) O) O)$ OP O O (pmm) ?_;rintro _ w3 ⟨m,rfl,hm,ah,wK⟩;refine qV (Sh (cs:=[_,_,_,_,_,_,_,_,_,_,_]) zgE O zhF O O)$ OP O O (R6 O O) ?_;rintro _ w4 ⟨p,rfl,hp,aG,aM⟩;refine Qr O$ OI func20 O ?_;have ee:=ad.size;have dt:=ae.size;have pD:=ah.size;have Ma:Wp KI w4 m []:=⟨⟨#[],0,aG.heap wK id,rfl⟩,ξ⟩;refine⟨_,rfl,p,m,rfl,⟨aM,⟨[],Ma,λn=>rfl⟩,Sl.nil w4 _ _,Sl.nil w4 _ _,?_⟩,((ad.trans ae).trans ah).trans aG,ω,ω⟩;exact⟨⟨by show 16<=B;omega,by show B<=4096;omega⟩,⟨by show 1<=N;omega,by show N<=8;omega⟩,(by simp[Dev.fresh]),(λn s h=>by cases h),(λx hx=>by cases hx),(by simp[Dev.fresh]),(by simp[Dev.fresh])⟩
def over (s:OO)(at':Nat)(d:OO):OO:=s.take at'++d++s.drop (at'+d.length)
def Dev.zdQ (D:Dev)(n at':Int)(d:OO):Prop:=D.has n=true/\0<=at'/\at'+(d.length:Int)<=((512*D.N:Nat):Int)
instance (D:Dev) (n at':Int) (d:OO):Decidable (D.zdQ n at' d):=by unfold Dev.zdQ;infer_instance
def zjD (n:Int)(a:Nat)(d:OO)(x:Int×OO):Int×OO:=if x.1=n then(x.1,over x.2 a d) else x
def zdV (n:Int)(a:Nat)(d:OO)(l:List (Int×OO))(i:Nat):List (Int×OO):=(l.take i).map (zjD n a d)++l.drop i
@[simp] theorem corTo_length (n:Int) (a:Nat) (d:OO) (l:List (Int×OO)) (i:Nat):(zdV n a d l i).length=l.length:=by simp[zdV];omega
theorem z6w (l:List (Int×OO))(x:Int×OO)(n:Int):WB (l++[x]) n=if x.1=n then some x.2 else WB l n:=by
 unfold WB
 rw[List.reverse_append,List.reverse_singleton,List.singleton_append,List.find?_cons]
 by_cases h:x.1=n
 ·simp[h]
 ·have hb:(x.1==n)=false:=by simpa using h
  simp[hb,h]
/-! ### Bounds -/
def Dev.Small (D:Dev)(k:Nat):Prop:=D.calls<=k/\D.cache.length<=k/\True/\D.Ss.length<=17592186044416
def Dev.Small.bd {D:Dev}{k:Nat}(h:D.Small k)(hk:k<1000000000000):D.Bd:=⟨by have:=h.1;omega,by have:=h.2.1;omega,trivial⟩
/-! ### By footprints -/
def z9Y (w:World)(p:Nat)(F:Nat->Prop)(D':Dev)(w':World):Prop:=∃F',Wc w' p D' F'/\Upd F F' w w'
def z1F.toA {w w':World}{p m:Nat}{kp ca:Value}{D':Dev}{F:Nat->Prop}(hF:∀k,F k↔fpD p m kp ca k)(h:z1F w p m kp ca D' w'):z9Y w p F D' w':=by
 have e:F=fpD p m kp ca:=funext λk=>propext (hF k)
 subst e
 obtain⟨kp',ca',h1,h2⟩:=h
 exact⟨_,⟨m,kp',ca',h1,λk=>Iff.rfl⟩,h2⟩
section
variable {w:World}{p:Nat}{D:Dev}{F:Nat->Prop}
def z9b (h:Wc w p D F):Ps prog 141 [ptr p 0] w λv w'=>v= .bool D.down/\w'=w:=by
 obtain⟨m,kp,ca,h1,hF⟩:=h;exact zaV h1
def z8N (h:Wc w p D F):Ps prog 77 [ptr p 0] w λv w'=>v=I ((512*D.N:Nat):Int)/\w'=w:=by
 obtain⟨m,kp,ca,h1,hF⟩:=h;exact z1j h1
def Wq (h:Wc w p D F):Ps prog 125 [ptr p 0] w λv w'=>v=I (D.B:Int)/\w'=w:=by
 obtain⟨m,kp,ca,h1,hF⟩:=h;exact z6a h1
def z6y (n:Int)(s:OO)(h:Wc w p D F){k:Nat}(hs:D.Small k)(hk:k<1000000000000):
  Ps prog 177 [ptr p 0,I n,S s] w λv w'=>v=I (D.write n s).2/\z9Y w p F (D.write n s).1 w':=by
 obtain⟨m,kp,ca,h1,hF⟩:=h
 exact(z9u n s h1 (hs.bd hk) hs.2.2.2).mono λv w' ⟨e,h2⟩=>⟨e,h2.toA hF⟩
def z8M (n:Int)(h:Wc w p D F){k:Nat}(hs:D.Small k)(hk:k<1000000000000):
  Ps prog 145 [ptr p 0,I n] w λv w'=>v= .tuple #[S (D.read n).2.1,I (D.read n).2.2]/\z9Y w p F (D.read n).1 w':=by
 obtain⟨m,kp,ca,h1,hF⟩:=h
 exact(zaf n h1 (hs.bd hk)).mono λv w' ⟨e,h2⟩=>⟨e,h2.toA hF⟩
def zdn (B N:Nat)(w:World)(hg:z09 B N):Ps prog 20 [.agg #[I (B:Int),I (N:Int)]] w λv w'=>∃p F,v= .tuple #[ptr p 0,I 0]/\Wc w' p (Dev.fresh B N) F/\Ext w w'/\∀i,F i->w.heap.size<=i:=
 (zfB B N w hg).mono λv w' ⟨p,m,e,h,hx,h1,h2⟩=>⟨p,_,e,⟨m,_,_,h,λk=>Iff.rfl⟩,hx,λi hi=>by
  rcases hi with h|h|h| h
  ·omega
  ·omega
  ·cases h
  ·cases h⟩
end
def z9Y.kpF {w w':World}{p:Nat}{F:Nat->Prop}{D':Dev}(h:z9Y w p F D' w'):Kp F w w':=by
 obtain⟨F',-,hu⟩:=h
 exact hu.1
def nrm (z b:Int):Int:=(z.tmod b+b).tmod b
def VP (z b:Int)(hb:0<b): -b<z.tmod b/\z.tmod b<b:=by
 have h2:=Int.tmod_lt_of_pos z hb
 refine⟨?_,h2⟩
 have h3:=Int.tmod_lt_of_pos (-z) hb
 rw[Int.neg_tmod] at h3
 omega
def Zi (z b:Int)(hb:0<b):0<=nrm z b/\nrm z b<b:=by
 obtain⟨h1,h2⟩:=VP z b hb
 unfold nrm
 exact⟨Int.tmod_nonneg _ ω,Int.tmod_lt_of_pos _ hb⟩
theorem zbT {D:Dev}{n:Int}{s:OO}(hd:D.down=false)(h0:D.due=0)(hn:0<=n/\n<(D.B:Int))(hs:s.length=512*D.N):D.write n s=((D.push n s).count,0):=by
 have hh:D.has n=true:=by simp[Dev.has];omega
 unfold Dev.write
 rw[if_neg (by simp[hd]),if_neg (by simp[hh,hs]),if_neg ω]
def grow:Nat->OO->Nat->OO
 |0,s,_=>s
 |f+1,s,n=>if s.length<n then grow f (s++s) n else s
def fill (s:OO)(n:Nat):OO:=(grow (n+1) (if s=[] then [0] else s) n).take n
section
variable {κ:Type}[DecidableEq κ]{K:κ->Value}{P:Program}{e:Env}{d:Option Nat}{ty t kt el:TypeId}{pos:String}{aft:Array Edge}{g:Option (Nat×Bool)}{x y:Operand}{w:World}{z:Value}{size bytes:Nat}{k:κ}
def zk2 (ht:P.underlying t=some (.map kt el))(hK:Ky P kt K)(hz:TI P el z size bytes)(hx:look e x=some (.map none))(hy:look e y=some (K k)):
  Y P e ⟨d,.lookup t x y false,ty,pos,aft,g⟩ z w w:=fun ρ hρ=>by
 have Bv:=hz.zero (w:=w)
 have sX:=λb=>hK.same.choose_spec.2.2 w b 9999 k
 have hu:=hK.same.choose_spec.1
 simp[execOp,hρ _ _ hx,hρ _ _ hy,Instr.lookup,run_underlying ht,sX,Bv,Instr.findKey,run_underlying hu,Instr.findNow]
end
structure QM (w:World)(ks mp:Value)(l:List Int):Prop where
 sl:Sl w ks 3 1 l.length (l.map I)
 mp:(mp= .map none/\l=[])\/∃b,mp= .map (some b)/\SG KI w b (l.map λk=>(k,I 1))
 n:l.length<=8192
def Fq (ks mp:Value)(b:Nat):Prop:=ks.ownBlock=some b\/mp= .map (some b)
section
variable {w w':World}{ks mp:Value}{l:List Int}{S:Nat->Prop}{c o:Nat}{cs:List Value}{k:Int}
def QM.kp (h:QM w ks mp l)(hk:Kp S w w')(hn:∀b,Fq ks mp b->¬S b):QM w' ks mp l:=
 ⟨h.sl.kp hk λg e=>hn g (.inl e),by
  rcases h.mp with e|⟨b,e,hm⟩
  ·exact .inl e
  ·exact .inr ⟨b,e,hm.kp hk (hn b (.inr e))⟩,h.n⟩
def QM.lt (h:QM w ks mp l){b:Nat}(hb:Fq ks mp b):b<w.heap.size:=by
 rcases hb with e| e
 ·exact h.sl.lt e
 ·rcases h.mp with⟨e',-⟩|⟨b',e',hm⟩
  ·rw[e'] at e;cases e
  ·rw[e'] at e;cases e;exact hm.lt
def QM.ne (h:QM w ks mp l){b:Nat}(hb:ks.ownBlock=some b):mp≠ .map (some b):=λe=>by
 obtain⟨cur,h1⟩:=h.sl.typed hb
 rcases h.mp with⟨e',-⟩|⟨b',e',hm⟩
 ·rw[e'] at e;cases e
 ·rw[e'] at e;cases e;obtain⟨⟨es,cl,h2,-⟩,-⟩:=hm;rw[h1] at h2;cases h2
theorem QM.nd (h:QM w ks mp l):l.Nodup:=by
 rcases h.mp with⟨-,e⟩|⟨b',e',hm⟩
 ·rw[e];exact List.nodup_nil
 ·have:=hm.nd;rw[List.map_map] at this;have e:((λp:Int×Value=>p.1) ∘ λk:Int=>(k,I 1))=id:=rfl;rw[e,List.map_id] at this;exact this
theorem z4r (l:List Int)(k:Int):Re (l.map λk=>(k,I 1)) k=if k∈l then some (I 1) else none:=by
 induction l with
 |nil=>rfl
 | cons a l ih =>
   show(if k=a then some (I 1) else Re (l.map λk=>(k,I 1)) k)=_;rw[ih];by_cases h:k=a
   ·simp[h]
   ·simp[h]
theorem zaE (l:List Int)(k:Int):delL (l.map λk=>(k,I 1)) k=(l.erase k).map λk=>(k,I 1):=by
 induction l with
 |nil=>rfl
 | cons a l ih =>
   show(if k=a then l.map (λk=>(k,I 1)) else(a,I 1)::delL (l.map λk=>(k,I 1)) k)=_;rw[ih,List.erase_cons];by_cases h:k=a
   ·subst h;simp
   ·rw[if_neg h,if_neg (by simpa using λe=>h e.symm)];rfl
def yqk {P:Program}{e:Env}{d:Option Nat}{ty t kt el:TypeId}{pos:String}{aft:Array Edge}{g:Option (Nat×Bool)}{x y:Operand}{bytes:Nat}(ht:P.underlying t=some (.map kt el))(hK:P.underlying kt=some (.int .i64))(hz:TI P el (I 0) 1 bytes)(hx:look e x=some mp)(hy:look e y=some (I k))(hq:QM w ks mp l):
  Y P e ⟨d,.lookup t x y false,ty,pos,aft,g⟩ (I (if k∈l then 1 else 0)) w w:=by
 rcases hq.mp with⟨rfl,rfl⟩|⟨b,rfl,hm⟩
 ·rw[if_neg ξ];exact zk2 (k:=k) (K:=KI) ht (Sc hK) hz hx hy
 ·have h:=ylk (k:=k) (K:=KI) (d:=d) (ty:=ty) (pos:=pos) (aft:=aft) (g:=g) ht (Sc hK) hz hx hy hm.l;rw[z4r] at h;by_cases hk:k∈l
  ·rw[if_pos hk] at h⊢;exact h
  ·rw[if_neg hk] at h⊢;exact h
def zc6 (hB:OU w c cs 173)(h1:cs[o+1]? =some mp)(hq:QM w ks mp l):Ps prog 165 [ptr c o,I k] w λv w'=>v= .bool (decide (k∈l))/\w'=w:=by
 refine py (e:=[(0,_),(1,_)]) func165 O ntmps165 O O$ qN O$ R3 O$ Pw O$ P4 YX O$ qV (OS Xl O O hB h1)$ OT O$ qV (yqk (k:=k) Xl U3 Qe O O hq)$ QD O$ P3 O$ OI func165 O (⟨_,rfl,?_,rfl⟩)
 by_cases hk:k∈l
 ·simp[hk,Q0]
 ·simp[hk,Q0]
theorem z6N {lv:Value}(x:Int)(hR:Rd w lv 1 l.length (l.map I))(hl:l.length<=4294967296):
  Ps prog 190 [lv,I x] w λv w'=>w'=w/\((x∉l/\v=I (-1))\/∃i:Nat,v=I (i:Int)/\l[i]? =some x/\x∉l.take i):=by
 obtain⟨a,cap,rfl,-⟩:=hR.shape
 refine py (e:=[(0,_),(1,_)]) func190 O ntmps190 O O$ QN O$ PR O$ RO Rr O$ OT O$ OJ$ OL$ RN (α:=Nat) (0) (λi=>[(0,.slice a l.length cap),(1,I x),(7,I (l.length:Int)),(8,I (i:Int))]) (λi w'=>w'=w/\i<=l.length/\x∉l.take i) (λi=>l.length-i) ?hI ?hround
 case hI=>exact⟨rfl,Nat.zero_le _,ξ⟩
 case hround=>
  rintro i wi ⟨rfl,hi,db⟩ ih
  try dsimp only
  refine qN O$ QV O$ OJ$ An$ OX O (λaS=>?_)$ λaS=>?_
  ·have uL:i<l.length:=by omega
   obtain⟨s,qZ⟩:∃s,l[i]? =some s:=⟨_,List.getElem?_eq_getElem uL⟩
   obtain⟨lb,lo,lc,e5⟩:∃b o c',Value.slice a l.length cap= .slice (some ⟨b,o,none⟩) l.length c':=by
    rcases hR.2 with⟨c,hc,h0⟩|⟨b,off,c',hc,-⟩
    ·omega
    ·exact⟨b,off,c',hc⟩
   cases e5;refine OK$ QO$ Pt O$ QW O$ Pl O$ OT O$ qV (Qc Rr Qe O O ω)$ qV (PC U3 O O (PY hR (show(l.map I)[i]? =some (I s) by rw[List.getElem?_map,qZ];rfl))) ?_;refine Rk O$ OJ$ OX O (λhe=>?_)$ λhe=>?_
   ·refine Pt O$ P3 O$ OI func190 O ?_;exact⟨_,rfl,rfl,.inr ⟨i,rfl,by rw[he];exact qZ,db⟩⟩
   ·refine OK$ OG$ OQ O$ Q4 O$ OT O$ OJ ((ih (i+1) _ ⟨rfl,uL,λhh=>?_⟩ ω).qb);rw[PK qZ,List.mem_append,List.mem_singleton] at hh;rcases hh with h| h
    ·exact db h
    ·exact he h
  ·have:i=l.length:=by omega
   subst this;rw[List.take_length] at db;refine OV O$ QN O$ OI func190 O ?_;exact⟨_,rfl,rfl,.inl ⟨db,rfl⟩⟩
theorem zaj {i:Nat}{x:Int}(h:l[i]? =some x)(hn:x∉l.take i):l.take i++l.drop (i+1)=l.erase x:=by
 obtain⟨hi,e⟩:=List.getElem?_eq_some_iff.1 h
 conv=>rhs;rw[<-List.take_append_drop i l]
 rw[List.erase_append_right _ hn,List.drop_eq_getElem_cons hi,e,List.erase_cons_head]
theorem z5f {α:Type}{l:List α}{i:Nat}{a:α}(h:l[i]? =some a):l.set i a=l:=by
 obtain⟨hi,e⟩:=List.getElem?_eq_some_iff.1 h
 rw[<-e,List.set_getElem_self]
def z9N (hB:OU w c cs 173)(h0:cs[o]? =some ks)(h1:cs[o+1]? =some mp)(hq:QM w ks mp l)(nc:¬Fq ks mp c):Ps prog 166 [ptr c o,I k] w λv w'=>∃ks',v= .tuple #[]/\OU w' c (cs.set o ks') 173/\QM w' ks' mp (l.erase k)/\(∀b,Fq ks' mp b->Fq ks mp b)/\Kp (λb=>b=c\/Fq ks mp b) w w':=by
 have hn:=hq.n
 have eU:=hq.nd
 refine py (e:=[(0,_),(1,_)]) func166 O ntmps166 O O$ Pt O$ Pw O$ P4 Qf O$ qV (OS Rr O O hB h0)$ OT O$ Pb zdW O (z6N k hq.sl.rd ω) ?_
 rintro _ w ⟨rfl,hv⟩
 rcases hv with⟨hk,rfl⟩|⟨i,rfl,hi,ww⟩
 ·refine R3 O$ Uh O$ PO$ Qm O$ Qh func166 O (⟨_,rfl,ks,rfl,?_,?_,λb hb=>hb,Kp.refl _ _⟩)
  ·rw[z5f h0];exact hB
  ·rw[List.erase_of_not_mem hk];exact hq
 ·have Fj:k∈l:=List.mem_of_getElem? hi;have dq:=(List.getElem?_eq_some_iff.1 hi).1;refine R3 O$ Uh O$ RP$ OJ$ OZ O$ QI O$ Pw O$ P4 Qf O$ qV (OS Rr O O hB h0)$ Pl O$ Q4 O$ Pb zgf O (zaX hq.sl (λc hc=>by obtain⟨z,-,rfl⟩:=List.mem_map.1 hc;rfl) dq ω) ?_;rintro ks2 w2 ⟨dc,am,wL⟩
  have e2:(l.map I).take i++(l.map I).drop (i+1)=(l.erase k).map I:=by
   rw[<-List.map_take,<-List.map_drop,<-List.map_append,zaj hi ww]
  rw[e2] at dc;have j4:(l.erase k).length=l.length-1:=List.length_erase_of_mem Fj;rw[<-j4] at dc;have jJ:¬ks.ownBlock=some c:=λe=>nc (.inl e);have ak:=am.OH hB jJ;refine Pw O$ P4 Qf O$ OY O (QP z6M O O (zbR dc) ak (by have:=(List.getElem?_eq_some_iff.1 h0).1;omega)) ?_;rintro w3 ⟨au,av⟩
  obtain⟨b,rfl,hm⟩:∃b,mp= .map (some b)/\SG KI w b (l.map λk=>(k,I 1)):=by
   rcases hq.mp with⟨-,e⟩| h
   ·rw[e] at Fj;cases Fj
   ·exact h
  have IU:c≠b:=λe=>nc (.inr (by rw[e]));have Bm:ks.ownBlock≠some b:=λe=>hq.ne e O;have zR:o+1<cs.length:=(List.getElem?_eq_some_iff.1 h1).1;have lL:=(hm.kp am Bm).kp av (λe=>IU e.symm);have wH:(cs.set (o+0) ks2)[o+1]? =some (Value.map (some b)):=by rw[List.getElem?_set_ne ω];exact h1
  refine OJ$ Rp O$ Pw O$ P4 YX O$ qV (OS Xl O O au wH)$ OT O$ zbu O (zeT (k:=k) (K:=KI) Xl (Sc U3) O O lL O) ?_;rintro _ w4 ⟨BF,ar⟩;rw[zaE] at BF;refine OJ$ Pu.qb (e:=[]) ?_;refine Qh func166 O ?_;have fN:Kp (λj=>j=c\/Fq ks (.map (some b)) j) w w4:=((am.ON λj e=> .inr (.inl e)).trans (av.ON λj e=> .inl e)).trans (ar.ON λj e=> .inr (.inr (by rw[e])));exact⟨_,rfl,ks2,rfl,ar.OH au IU,⟨(dc.kp av λg e e'=>nc (.inl (e'▸wL g e))).kp ar λg e e'=>Bm (e'▸wL g e),.inr ⟨b,rfl,BF⟩,ω⟩,λj hj=>hj.imp (wL j) id,fN⟩
def zbn (hB:OU w c cs 173)(h0:cs[o]? =some ks)(h1:cs[o+1]? =some mp)(hq:QM w ks mp l)(nc:¬Fq ks mp c)(hk:k∉l)(hl:l.length<=8191):Ps prog 172 [ptr c o,I k] w λv w'=>∃ks' mp',v= .tuple #[]/\OU w' c ((cs.set (o+1) mp').set o ks') 173/\QM w' ks' mp' (l++[k])/\(∀b,Fq ks' mp' b->Fq ks mp b\/w.heap.size<=b)/\Kp (λb=>b=c\/Fq ks mp b) w w':=by
 have hn:=hq.n
 have eU:=hq.nd
 have lc:=hB.lt
 have zR:o+1<cs.length:=(List.getElem?_eq_some_iff.1 h1).1
 obtain⟨mo,rfl,Mb⟩:∃mo,mp= .map mo/\((mo=none/\l=[])\/∃b,mo=some b/\SG KI w b (l.map λk=>(k,I 1))):=by
  rcases hq.mp with⟨e,e2⟩|⟨b,e,e2⟩
  ·exact⟨_,e,.inl ⟨rfl,e2⟩⟩
  ·exact⟨_,e,.inr ⟨b,rfl,e2⟩⟩
 refine py (e:=[(0,_),(1,_)]) func172 O ntmps172 O O$ PR O$ Pw O$ P4 YX O$ qV (OS Xl O O hB h1)$ qV (zhw Xl O O)$ OJ$ PI (λe' w'=>∃b,e'=[(0,ptr c o),(1,I k)]/\OU w' c (cs.set (o+1) (.map (some b))) 173/\SG KI w' b (l.map λk=>(k,I 1))/\Sl w' ks 3 1 l.length (l.map I)/\(mo=some b\/w.heap.size<=b)/\Kp (λj=>j=c) w w'/\b≠c/\ks.ownBlock≠some b) ?bH$ λbH=>?da
 case bH=>
  rintro e' w1 ⟨b,rfl,ai,dA,jT,hb,az,IV,fB⟩;have pU:(cs.set (o+1) (Value.map (some b)))[o+1]? =some (.map (some b)):=List.getElem?_set_self zR;have eE:(cs.set (o+1) (Value.map (some b)))[o]? =some ks:=by rw[List.getElem?_set_ne ω];exact h0
  have z1:=az.size;refine Pt O$ Pw O$ P4 YX O$ qV (OS Xl O O ai pU)$ OT O$ OY O (zeD (k:=k) (K:=KI) Xl (Sc U3) O O O dA) ?_;rintro w2 ⟨jU,am⟩;rw[UC _ _ _ (by rw[z4r,if_neg hk])] at jU;have ak:=am.OH ai (λe=>IV e.symm);have dc:=jT.kp am (λg e e'=>fB (e'▸e));refine OJ$ OQ O$ Pl O$ Pw O$ P4 Qf O$ qV (OS Rr O O ak eE)$ OT O$ OP O O (Yx (cs:=[_]) (zs:=[Value.int .i64 0]) Rr Qe O (by kernel_rfl) O O O ψ) ?_;rintro _ w3 ⟨b24,rfl,⟨Mc,ah,fJ⟩,Fk⟩;have lb:=jU.lt;have z2:=am.size;refine OP O O (pap Rr Qe O ψ O O (dc.ext ah) Fk.rd (by intro c hc;simp at hc;subst hc;rfl) ω (by simp only[maxLen];omega)) ?_;rintro ks4 w4 ⟨eA,ar,IW,-⟩;have z3:=ah.size;have z4:=ar.size;have jJ:ks.ownBlock≠some c:=λe=>nc (.inl e);have aM:=ar.OH (ah.OH ak) jJ;have BF:=(jU.ext ah).kp ar fB;refine Pw O$ P4 Qf O$ OY O (QP z6M O O (zbR eA) aM (by rw[List.length_set];omega)) ?_;rintro w5 ⟨aK,aj⟩;refine OJ$ Qh func172 O ?_
  have lk4:∀g,ks4.ownBlock=some g->g≠c:=λg e e'=>by
   rcases IW g e with h| h
   ·exact jJ (e'▸h)
   ·omega
  have aJ:(l++[k]).length=l.length+1:=by simp
  refine⟨_,rfl,ks4,.map (some b),rfl,aK,⟨?_,.inr ⟨b,rfl,?_⟩,ω⟩,λj hj=>?_,?_⟩
  ·rw[List.map_append,aJ];exact eA.kp aj λg e e'=>lk4 g e e'
  ·rw[List.map_append];exact BF.kp aj IV
  ·rcases hj with hj|hj
   ·rcases IW j hj with h| h
    ·exact .inl (.inl h)
    ·exact .inr ω
   ·cases hj;rcases hb with h| h
    ·exact .inl (.inr (by rw[h]))
    ·exact .inr h
  ·have Fl:Kp (λj=>j=c\/Fq ks (.map mo) j) w w2:=by
    rcases hb with h| h
    ·exact(az.ON λj e=> .inl e).trans (am.ON λj e=> .inr (.inr (by rw[h,e])))
    ·exact(az.ON λj e=> .inl e).It am (λj e=>by omega)
   exact((Fl.trans ah.kp).trans (ar.ON λj e=> .inr (.inl e))).trans (aj.ON λj e=> .inl e)
 case da=>
  rcases Mb with⟨rfl,rfl⟩|⟨b,rfl,hm⟩
  ·refine OZ O$ Rp O$ OP O O (pmm) ?_;rintro _ w1 ⟨b,rfl,hb,ad,cB⟩;have dA:SG KI w1 b []:=SG.new cB;have ai:=ad.OH hB;refine Pw O$ P4 YX O$ OY O (QP z7y O O O ai zR) ?_;rintro w2 ⟨ak,am⟩;refine OJ ?_;have lb:=dA.lt;exact(bH _ _ ⟨b,rfl,ak,dA.kp am ω,(hq.sl.ext ad).kp am (λg e e'=>nc (.inl (e'▸e))),.inr ω,ad.kp.trans am,ω,λe=>by have:=hq.sl.lt e;omega⟩).qb
  ·refine SO O ?_;exact(bH _ _ ⟨b,rfl,by rw[z5f h1];exact hB,hm,hq.sl,.inl O,Kp.refl _ _,λe=>nc (.inr (by rw[e])),λe=>hq.ne e O⟩).qb
end
def Arc.li (A:Arc):Nat->List Int
 |0=>A.once
 |1=>A.often
 |2=>A.P9
 |_=>A.P6
def Arc.Qp (A:Arc):Nat->List Int->Arc
 |0,l=>{A with once:=l}
 |1,l=>{A with often:=l}
 |2,l=>{A with P9:=l}
 |_,l=>{A with P6:=l}
theorem Arc.zeW (A:Arc){j:Nat}(hj:j<4)(l:List Int)(i:Nat)(hi:i<4):(A.Qp j l).li i=if i=j then l else A.li i:=by
 match j,hj,i,hi with
 |0,_,0,_|0,_,1,_|0,_,2,_|0,_,3,_|1,_,0,_|1,_,1,_|1,_,2,_|1,_,3,_|2,_,0,_|2,_,1,_|2,_,2,_|2,_,3,_|3,_,0,_|3,_,1,_|3,_,2,_|3,_,3,_=>rfl
def z92 (V:Nat->Value×Value)(j:Nat)(q:Value×Value)(i:Nat):Value×Value:=if i=j then q else V i
def acC (S:Nat)(T:Int)(V:Nat->Value×Value)(p:Nat):List Value:=[I (S:Int),(V 0).1,(V 0).2,(V 1).1,(V 1).2,(V 2).1,(V 2).2,(V 3).1,(V 3).2,I T,.map (some p)]
abbrev FV (V:Nat->Value×Value)(j b:Nat):Prop:=Fq (V j).1 (V j).2 b
structure SX (w:World)(c:Nat)(A:Arc)(V:Nat->Value×Value)(p:Nat):Prop where
 OH:OU w c (acC A.size A.target V p) 173
 q:∀j,j<4->QM w (V j).1 (V j).2 (A.li j)
 pins:Wp KI w p []
 Vk:∀i j,i<4->j<4->i≠j->∀b,FV V i b->¬FV V j b
 nc:∀j,j<4->¬FV V j c
 np:∀j,j<4->¬FV V j p
 cp:c≠p
def SE (c:Nat)(V:Nat->Value×Value)(p b:Nat):Prop:=b=c\/b=p\/∃j,j<4/\FV V j b
section
variable {w w' w2:World}{c p:Nat}{A A' A2:Arc}{V V' V2:Nat->Value×Value}{S:Nat->Prop}{k:Int}
def SX.kp (h:SX w c A V p)(hk:Kp S w w')(hn:∀b,SE c V p b->¬S b):SX w' c A V p:=
 ⟨hk.OH h.OH (hn _ (.inl O)),λj hj=>(h.q j hj).kp hk λb hb=>hn b (.inr (.inr ⟨j,hj,hb⟩)),hk.map h.pins (hn _ (.inr (.inl O))),h.Vk,h.nc,h.np,h.cp⟩
theorem SX.ext (h:SX w c A V p)(hx:Ext w w'):SX w' c A V p:=h.kp (S:=λ_=>False) hx λ_ _=>id
def SX.lt (h:SX w c A V p){b:Nat}(hb:SE c V p b):b<w.heap.size:=by
 rcases hb with e|e|⟨j,hj,hb⟩
 ·rw[e];exact h.OH.lt
 ·rw[e];exact h.pins.lt
 ·exact(h.q j hj).lt hb
structure Wb (w:World)(c:Nat)(V:Nat->Value×Value)(p:Nat)(w':World)(A':Arc)(V':Nat->Value×Value):Prop where
 m:SX w' c A' V' p
 fp:∀b,SE c V' p b->SE c V p b\/w.heap.size<=b
 k:Kp (SE c V p) w w'
theorem Wb.trans (h:Wb w c V p w' A' V')(h2:Wb w' c V' p w2 A2 V2):Wb w c V p w2 A2 V2:=
 ⟨h2.m,λb hb=>by
  rcases h2.fp b hb with e| e
  ·exact h.fp b e
  ·exact .inr (by have:=h.k.size;omega),h.k.It h2.k λb hb=>(h.fp b hb).symm⟩
theorem SX.r (h:SX w c A V p)(hx:Ext w w'):Wb w c V p w' A V:=⟨h.ext hx,λb hb=> .inl hb,hx.kp⟩
theorem SX.Zb {j:Nat}(hj:j<4)(h:SX w c A V p){ks mp:Value}{l:List Int}(hB:OU w' c (acC A.size A.target (z92 V j (ks,mp)) p) 173)(hs:(A.Qp j l).size=A.size/\(A.Qp j l).target=A.target)(hq:QM w' ks mp l)(hf:∀b,Fq ks mp b->FV V j b\/w.heap.size<=b)(hk:Kp (λb=>b=c\/FV V j b) w w'):Wb w c V p w' (A.Qp j l) (z92 V j (ks,mp)):=by
 have aS:∀{b:Nat},SE c V p b->b<w.heap.size:=h.lt
 have aq:∀i,i<4->i≠j->∀b,FV V i b->¬(b=c\/FV V j b):=λi hi gL b hb e=>by
  rcases e with e| e
  ·exact h.nc i hi (e▸hb)
  ·exact h.Vk i j hi hj gL b hb e
 have ee:∀i,i≠j->z92 V j (ks,mp) i=V i:=λi e=>if_neg e
 have dt:z92 V j (ks,mp) j=(ks,mp):=if_pos O
 refine⟨⟨by rw[hs.1,hs.2];exact hB,λi hi=>?_,hk.map h.pins (λe=>?_),λi i2 hi dO bD b hb bN=>?_,λi hi hb=>?_,λi hi hb=>?_,h.cp⟩,λb hb=>?_,hk.ON λb hb=>?_⟩
 ·rw[Arc.zeW A hj l i hi];by_cases e:i=j
  ·rw[if_pos e,e,dt];exact hq
  ·rw[if_neg e,ee i e];exact(h.q i hi).kp hk λb hb=>aq i hi e b hb
 ·rcases e with e| e
  ·exact h.cp e.symm
  ·exact h.np j hj e
 ·by_cases e:i=j
  ·have e2:i2≠j:=λe2=>bD (e.trans e2.symm);unfold FV at hb bN;rw[e,dt] at hb;rw[ee i2 e2] at bN;rcases hf b hb with h1|h1
   ·exact h.Vk j i2 hj dO (λe3=>e2 e3.symm) b h1 bN
   ·have:=aS (.inr (.inr ⟨i2,dO,bN⟩));omega
  ·unfold FV at hb bN;rw[ee i e] at hb;by_cases e2:i2=j
   ·rw[e2,dt] at bN;rcases hf b bN with h1|h1
    ·exact h.Vk i j hi hj e b hb h1
    ·have:=aS (.inr (.inr ⟨i,hi,hb⟩));omega
   ·rw[ee i2 e2] at bN;exact h.Vk i i2 hi dO bD b hb bN
 ·by_cases e:i=j
  ·unfold FV at hb;rw[e,dt] at hb;rcases hf c hb with h1|h1
   ·exact h.nc j hj h1
   ·have:=h.OH.lt;omega
  ·unfold FV at hb;rw[ee i e] at hb;exact h.nc i hi hb
 ·by_cases e:i=j
  ·unfold FV at hb;rw[e,dt] at hb;rcases hf p hb with h1|h1
   ·exact h.np j hj h1
   ·have:=h.pins.lt;omega
  ·unfold FV at hb;rw[ee i e] at hb;exact h.np i hi hb
 ·rcases hb with e|e|⟨i,hi,hb⟩
  ·exact .inl (.inl e)
  ·exact .inl (.inr (.inl e))
  ·by_cases e:i=j
   ·unfold FV at hb;rw[e,dt] at hb;rcases hf b hb with h1|h1
    ·exact .inl (.inr (.inr ⟨j,hj,h1⟩))
    ·exact .inr h1
   ·unfold FV at hb;rw[ee i e] at hb;exact .inl (.inr (.inr ⟨i,hi,hb⟩))
 ·rcases hb with e| e
  ·exact .inl e
  ·exact .inr (.inr ⟨j,hj,e⟩)
def WT (S:Nat)(T:Int)(V:Nat->Value×Value)(p:Nat){j:Nat}(hj:j<4):(acC S T V p)[1+2*j]? =some (V j).1/\(acC S T V p)[1+2*j+1]? =some (V j).2:=by
 match j,hj with
 |0,_|1,_|2,_|3,_=>exact⟨rfl,rfl⟩
theorem zdg (S:Nat)(T:Int)(V:Nat->Value×Value)(p:Nat){j:Nat}(hj:j<4)(ks mp:Value):((acC S T V p).set (1+2*j+1) mp).set (1+2*j) ks=acC S T (z92 V j (ks,mp)) p:=by
 match j,hj with
 |0,_|1,_|2,_|3,_=>rfl
theorem zbY (S:Nat)(T:Int)(V:Nat->Value×Value)(p:Nat){j:Nat}(hj:j<4)(ks:Value):(acC S T V p).set (1+2*j) ks=acC S T (z92 V j (ks,(V j).2)) p:=by
 match j,hj with
 |0,_|1,_|2,_|3,_=>rfl
def z0y (A:Arc){j:Nat}(hj:j<4)(l:List Int):(A.Qp j l).size=A.size/\(A.Qp j l).target=A.target:=by
 match j,hj with
 |0,_|1,_|2,_|3,_=>exact⟨rfl,rfl⟩
def Vo (h:SX w c A V p){j:Nat}(hj:j<4):Ps prog 165 [ptr c (1+2*j),I k] w λv w'=>v= .bool (decide (k∈A.li j))/\w'=w:=
 zc6 h.OH (WT _ _ _ _ hj).2 (h.q j hj)
def Qn (h:SX w c A V p){j:Nat}(hj:j<4):Ps prog 166 [ptr c (1+2*j),I k] w λv w'=>v= .tuple #[]/\∃V',Wb w c V p w' (A.Qp j ((A.li j).erase k)) V':=by
 refine(z9N h.OH (WT _ _ _ _ hj).1 (WT _ _ _ _ hj).2 (h.q j hj) (h.nc j hj) (k:=k)).mono λv w' hv=>?_
 obtain⟨ks',rfl,hB,hq,hf,hk⟩:=hv
 rw[zbY _ _ _ _ hj] at hB
 exact⟨rfl,_,h.Zb hj hB (z0y A hj _) hq (λb hb=> .inl (hf b hb)) hk⟩
def QR (h:SX w c A V p){j:Nat}(hj:j<4)(hk:k∉A.li j)(hl:(A.li j).length<=8191):Ps prog 172 [ptr c (1+2*j),I k] w λv w'=>v= .tuple #[]/\∃V',Wb w c V p w' (A.Qp j (A.li j++[k])) V':=by
 refine(zbn h.OH (WT _ _ _ _ hj).1 (WT _ _ _ _ hj).2 (h.q j hj) (h.nc j hj) hk hl).mono λv w' hv=>?_
 obtain⟨ks',mp',rfl,hB,hq,hf,hk⟩:=hv
 rw[zdg _ _ _ _ hj] at hB
 exact⟨rfl,_,h.Zb hj hB (z0y A hj _) hq hf hk⟩
def z6V (n:Nat):Arc:=⟨n,[],[],[],[],0⟩
def zcZ {n:Nat}(h:1<=n):(z6V n).Ok:=⟨h,List.nodup_nil,Nat.zero_le _,Nat.zero_le _,Nat.zero_le _,⟨Int.le_refl _,by show(0:Int)<=(n:Int);omega⟩⟩
theorem zb5 (n:Nat)(h1:1<=n)(h2:n<=4096)(w:World):Ps prog 46 [I (n:Int)] w λv w'=>∃c V p,v= .tuple #[ptr c 0,I 0]/\SX w' c (z6V n) V p/\(∀b,SE c V p b->w.heap.size<=b)/\Ext w w':=by
 refine py (e:=[(0,_)]) func46 O ntmps46 O O$ qN O$ Qr O$ PR O$ QV O$ PO$ Pl O$ QD O$ PO$ PT O$ Qm O$ Pt O$ OP O O (pmm) ?_
 rintro _ w1 ⟨p,rfl,hp,ad,cB⟩
 refine qV (Sh (cs:=[_,_,_,_,_,_,_,_,_,_,_]) ziC O zgL O O)$ OP O O (R6 O (cs:=acC n 0 (λ_=>(.slice none 0 0,.map none)) p) O) ?_
 rintro _ w2 ⟨c,rfl,hc,ae,ak⟩
 refine Qr O$ OI func46 O ?_
 have dA:SG KI w1 p []:=SG.new cB
 have lp:=dA.lt
 have db:∀b,¬Fq (.slice none 0 0) (.map none) b:=λb e=>by rcases e with e|e<;>cases e
 refine⟨_,rfl,c,_,p,rfl,⟨ak,λj hj=>⟨?_,?_,?_⟩,ae.map dA.l,λi j hi hj bD b hb=>absurd hb (db b),λj hj=>db c,λj hj=>db p,ω⟩,λb hb=>?_,ad.trans ae⟩
 ·have e:(z6V n).li j=[]:=by match j,hj with|0,_|1,_|2,_|3,_=>rfl
  rw[e];exact Sl.nil _ _ _
 ·left
  refine⟨rfl,?_⟩
  match j,hj with|0,_|1,_|2,_|3,_=>rfl
 ·have e:(z6V n).li j=[]:=by match j,hj with|0,_|1,_|2,_|3,_=>rfl
  rw[e];exact Nat.zero_le _
 ·rcases hb with e|e|⟨j,hj,hb⟩
  ·have:=ad.size;omega
  ·omega
  ·exact absurd hb (db b)
end
section
variable {w w' w2:World}{c p:Nat}{A:Arc}{V:Nat->Value×Value}{k:Int}
theorem SX.cells (h:SX w c A V p):OU w c [I (A.size:Int),(V 0).1,(V 0).2,(V 1).1,(V 1).2,(V 2).1,(V 2).2,(V 3).1,(V 3).2,I A.target,.map (some p)] 173:=h.OH
def z2o (h:SX w c A V p):Ps prog 164 [ptr c 0,I k] w λv w'=>v= .bool (decide (k∈A.once\/k∈A.often))/\w'=w:=by
 have h0:=Vo h (j:=0) (k:=k) ψ
 have h1:=Vo h (j:=1) (k:=k) ψ
 rw[show A.li 0=A.once from rfl] at h0
 rw[show A.li 1=A.often from rfl] at h1
 refine py (e:=[(0,_),(1,_)]) func164 O ntmps164 O O$ qN O$ R3 O$ qV (z5c za9 O O)$ Pl O$ Pw O$ P4 QB O$ OT O$ Pb XC O (h0) ?_
 rintro _ w ⟨rfl,rfl⟩
 by_cases fP:k∈A.once
 ·rw[decide_eq_true fP];refine OT O$ QY$ QY$ qS$ Ra O$ Ra O$ P3 O$ OI func164 O ?_;exact⟨_,rfl,by rw[decide_eq_true (Or.inl fP)];rfl,rfl⟩
 ·rw[decide_eq_false fP];refine Pl O$ Pw O$ P4 Rl O$ OT O$ Pb XC O (h1) ?_;rintro _ w ⟨rfl,rfl⟩;refine PT O$ Ra O$ P3 O$ OI func164 O (⟨_,rfl,?_,rfl⟩);by_cases az:k∈A.often
  ·simp[fP,az,Q0]
  ·simp[fP,az,Q0]
def XH:List Int->Value
 |[]=> .tuple #[I 0,.bool false]
 |a::_=> .tuple #[I a,.bool true]
theorem Vr (h:SX w c A V p){j:Nat}(hj:j<4):Ps prog 173 [ptr c 0,ptr c (1+2*j)] w λv w'=>v=XH (A.li j)/\w'=w:=by
 have hB:=h.cells
 have hg:=(WT A.size A.target V p hj).1
 have hq:=h.q j hj
 obtain⟨ka,kc,dK,jV⟩:∃a c,(V j).1= .slice a (A.li j).length c/\(a=none->(A.li j).length=0):=hq.sl.rd.shape
 rw[dK] at hg
 have hR:=hq.sl.rd
 have hn:=hq.n
 rw[dK] at hR
 refine py (e:=[(0,_),(1,_)]) func173 O ntmps173 O O$ qN O$ Qr O$ PR O$ Pw O$ P4 Qf O$ qV (OS Rr O O h.OH hg)$ RO Rr O$ OT O$ OJ$ OL ?_
 cases hl:A.li j with
 | nil =>
   rw[hl] at hR;refine RN (α:=Unit) (()) (λ_=>[(0,ptr c 0),(12,.slice ka 0 kc),(13,I 0),(14,I 0)]) (λ_ w'=>w'=w) (λ_=>0) ?hI ?hround
   case hI=>rfl
   case hround=>
    rintro i w2 rfl ih
    try dsimp only
    refine qN O$ QV O$ PO$ OJ$ An$ OR O$ OV O$ qN O$ R3 O$ Qr O$ OI func173 O ?_
    exact⟨_,rfl,rfl,rfl⟩
 | cons x r =>
   rw[hl] at hR jV hn
   obtain⟨kb,rfl⟩:∃b,ka=some b:=by
    cases ka with
    |none=>have:=jV O;simp at this
    |some b=>exact⟨b,rfl⟩
   obtain⟨lb,lo,lc,e5⟩:∃b o c',Value.slice (some kb) (x::r).length kc= .slice (some ⟨b,o,none⟩) (x::r).length c':=by
    rcases hR.2 with⟨c,hc,h0⟩|⟨b,off,c',hc,-⟩
    ·simp at h0
    ·exact⟨b,off,c',hc⟩
   cases e5;have iq:0<(x::r).length:=by simp
   refine RN (α:=Unit) (()) (λ_=>[(0,ptr c 0),(12,.slice (some ⟨lb,lo,none⟩) (x::r).length kc),(13,I ((x::r).length:Int)),(14,I ((0:Nat):Int))]) (λ_ w'=>w'=w) (λ_=>0) ?hI ?hround
   case hI=>rfl
   case hround=>
    rintro i w2 rfl ih
    try dsimp only
    refine qN O$ QV O$ RP$ OJ$ An$ OZ O$ OK$ QO$ qN O$ qV (Qc Rr Qe O O ω)$ qV (PC U3 O O (PY hR (i:=0) (show((x::r).map I)[0]? =some (I x) from rfl)))$ R3 O$ Pw O$ P4 z0p O ?_;refine qV (OS Xl O O hB O)$ OT O$ qV (ylk (k:=x) (K:=KI) Xl (Sc U3) Qe O O h.pins)$ Rk O$ RP$ OJ$ OZ O$ Pt O$ Qr O$ OI func173 O ?_;exact⟨_,rfl,rfl,rfl⟩
def z2t (h:SX w c A V p)(hA:A.Ok)(cD:A.size<=1000):Ps prog 174 [ptr c 0] w λv w'=>v= .bool (decide (A.once.length+A.often.length=A.size))/\Ext w w':=by
 have hB:=h.cells
 have hh:=hA.held
 obtain⟨a0,c0,e0,-⟩:∃a c,(V 0).1= .slice a A.once.length c/\_:=(h.q 0 ψ).sl.rd.shape
 obtain⟨a1,c1,e1,-⟩:∃a c,(V 1).1= .slice a A.often.length c/\_:=(h.q 1 ψ).sl.rd.shape
 rw[e0,e1] at hB
 have hg:=Ext.Pa w
 refine py (e:=[(0,_)]) func174 O ntmps174 O O$ QN O$ An$ R0 (λw'=>Ext w w') O$ P8 0 O O (hg)$ OM 1 O (Qd O) hg$ OM 2 O (Px QB O) hg$ OM 3 O (Px Qf O) hg$ qT 4 O (λ_ h=>OS Rr O O (h.OH hB) O) hg$ OM 5 O (SI Rr O) hg$ P8 6 O O (hg)$ OM 7 O (Qd O) hg$ OM 8 O (Px Rl O) hg$ OM 9 O (Px Qf O) hg ?_
 refine qT 10 O (λ_ h=>OS Rr O O (h.OH hB) O) hg$ OM 11 O (SI Rr O) hg$ OM 12 O (UN O O ω) hg$ P8 13 O O (hg)$ OM 14 O (Qd O) hg$ OM 15 O (Px Sw O) hg$ qT 16 O (λ_ h=>OS U3 O O (h.OH hB) O) hg$ OM 17 O (yeq O O) hg$ OM 18 O (Rv O) hg$ qE$ OI func174 O (⟨_,rfl,?_,hg⟩)
 show Value.bool _=Value.bool _
 congr 1
 exact decide_eq_decide.2 ω
end
def RD (hit:Bool)(g:Option Int):List Value:=[.bool hit,.bool g.isSome,I (g.getD 0)]
abbrev zdi (hit:Bool)(g:Option Int):Value:= .agg (RD hit g).toArray
section
variable {w w' w2:World}{c p:Nat}{A:Arc}{V V':Nat->Value×Value}{k:Int}
def Arc.Ok.lens (h:A.Ok)(cD:A.size<=1000)(j:Nat):(A.li j).length<=2000:=by
 have h1:=h.held
 have h2:=h.first
 have h3:=h.total
 have h4:=A.QQ
 unfold Arc.li
 split<;>omega
theorem TK (h:SX w c A V p)(hA:A.Ok)(cD:A.size<=1000)(bo:Bool):Ps prog 175 [ptr c 0,.bool bo] w λv w'=>v=zdi false (A.room bo).2/\∃V',Wb w c V p w' (A.room bo).1 V':=by
 have im:=hA.lens cD 2
 have lQ:=hA.lens cD 3
 have Fn:=hA.tg
 have iq:=hA.pos
 have eU:=hA.nd
 unfold Arc.all at eU
 rw[List.nodup_append] at eU
 obtain⟨nd1,nd2,nd3⟩:=eU
 rw[List.nodup_append] at nd2
 obtain⟨nd4,nd5,nd6⟩:=nd2
 rw[List.nodup_append] at nd5
 obtain⟨nd7,nd8,nd9⟩:=nd5
 have aS:∀{b:Nat},SE c V p b->b<w.heap.size:=h.lt
 refine py (e:=[(0,_),(1,_)]) func175 O ntmps175 O O$ qN O$ OP O O (Rz (cs:=[_,_,_]) PB O) ?_
 rintro _ w1 ⟨b4,rfl,fX,ad,aM⟩
 have pK:=h.ext ad
 have n4:∀b,SE c V p b->b≠b4:=λb hb e=>by have:=aS hb;omega
 refine OJ$ PR O$ Pb ze6 O (z2t pK hA cD) ?_
 rintro _ w2 ⟨rfl,ae⟩
 have bB:=ae.OH aM
 have aF:=ad.trans ae
 have eu:=h.ext aF
 by_cases cf:¬A.once.length+A.often.length=A.size
 ·rw[decide_eq_false cf];have jW:A.room bo=(A,none):=by unfold Arc.room;rw[if_neg cf]
  refine qV ((S5 O))$ OJ$ OZ O$ qN O$ qV (Pv (news:=RD false none) SK O PB O (OU.cells (n:=3) bB O) O)$ OY O (PL (news:=RD false none) PB O O O O bB ξ) ?_;rintro w3 ⟨dY,av⟩;replace dY:OU w3 b4 [.bool false,.bool false,I 0] 245:=dY;refine OJ$ Po func175 (.cell SK O PB O (OU.cells (n:=3) dY (news:=[_,_,_]) O) O .nil) ?_;rw[jW];exact⟨_,rfl,rfl,V,eu.kp av (λb hb=>n4 b hb),λb hb=> .inl hb,(aF.It av (λj e=>by omega)).kp⟩
 ·have cf := Classical.not_not.1 cf; rw [decide_eq_true cf]; refine qV ((S5 O)) (OJ (OR O ?_)); have ak := eu.cells; obtain ⟨a0, c0, e0, -⟩ : ∃ a c, (V 0).1 = .slice a A.once.length c /\ _ := (h.q 0 ψ).sl.rd.shape; rw [e0] at ak; have f0 := Vr eu (j := 0) ψ; have f1 := Vr eu (j := 1) ψ; rw [show A.li 0 = A.once from rfl] at f0; rw [show A.li 1 = A.often from rfl] at f1
  cases ho:A.once with
  | nil =>
    cases hf:A.often with
    | nil =>
      exfalso;rw[ho,hf] at cf;simp at cf
      omega
    | cons x1 r1 =>
      have jW:A.room bo=({A with often:=r1,P6:=A.P6++[x1]},some x1):=by unfold Arc.room;rw[if_pos cf,ho,hf]
      have Md:A.once.length=0:=by rw[ho];rfl
      have g0:XH A.once= .tuple #[I 0,.bool false]:=by rw[ho];rfl
      have g1:XH A.often= .tuple #[I x1,.bool true]:=by rw[hf];rfl
      rw[g0] at f0;rw[g1] at f1;refine OK$ QI O$ Pw O$ P4 QB O$ Pb Ym O (f0) ?_;rintro _ w2 ⟨rfl,rfl⟩;refine OT O$ qV (Ry (v:=I 0) O O)$ qV (Ry (v:= .bool false) O O)$ SH O$ QW O$ Pl O$ Pw O$ P4 Rl O$ Pb Ym O (f1) ?_;rintro _ w2 ⟨rfl,rfl⟩;refine OT O$ qV (Ry (v:=I x1) O O)$ qV (Ry (v:= .bool true) O O)$ Qr O$ Pu.qb (e:=[(0,_),(1,_),(4,_),(5,_),(6,_),(7,_),(8,_)]) ?_;refine Pt O$ Pw O$ P4 QB O$ P4 Qf O$ qV (OS Rr O O ak O)$ RO Rr O$ R3 O$ Uh O$ PO$ OT O$ QY$ QY$ QY$ QY ?_;refine QY$ QY$ QY$ QY$ qS$ PT O$ P3 O$ Pu.qb (e:=[(0,_),(4,_),(5,_),(6,_),(7,_),(8,_),(10,_)]) ?_;refine An$ QI O$ qS$ PT O$ Pl O$ qV ((S5 O))$ Pl O$ qV ((S5 O))$ Ra O$ PT O$ Qm O$ Pt O$ Pw O$ P4 Rl O ?_;refine OT O$ Pb SU O (Qn eu (j:=1) (k:=x1) ψ) ?_;rintro _ w3 ⟨rfl,V3,ci⟩;have iO:(A.li 1).erase x1=r1:=by show A.often.erase x1=r1;rw[hf];simp
      rw[iO] at ci
      have dQ:x1∉(A.Qp 1 r1).li 3:=by
       show x1∉A.P6;intro e;exact nd6 x1 (by rw[hf];simp) x1 (by simp[e]) O
      refine qM O$ OT O$ Pw O$ P4 Ri O$ OT O$ Pb Tq O (QR ci.m (j:=3) (k:=x1) ψ dQ (by show A.P6.length<=_;exact Nat.le_trans lQ ψ)) ?_;rintro _ w4 ⟨rfl,V4,bF⟩;have hr:=(eu.r (Ext.refl w2)).trans (ci.trans bF);have cC:=hr.k.OH bB (λe=>n4 _ e O);refine OJ$ Pu.qb (e:=[(4,_),(7,_)]) ?_;refine Pt O$ qV (Sh (cs:=[_,_,_]) PB O W4 O O)$ OY O (PL (news:=RD false (some x1)) PB O O O O cC ξ) ?_;rintro w5 ⟨aO,aj⟩;replace aO:OU w5 b4 [.bool false,.bool true,I x1] 245:=aO;refine OJ$ Po func175 (.cell SK O PB O (OU.cells (n:=3) aO (news:=[_,_,_]) O) O .nil) ?_
      have dX:∀b,SE c V4 p b->b≠b4:=λb hb e=>by
       rcases hr.fp b hb with h5|h5
       ·exact n4 b h5 e
       ·have:=bB.lt;omega
      rw[jW]
      exact⟨_,rfl,rfl,V4,hr.m.kp aj dX,λb hb=>(hr.fp b hb).imp id (λe=>by have:=aF.size;omega),(aF.kp.trans hr.k).It aj (λj e=> .inl ω)⟩
  | cons x0 r0 =>
    have Md:1<=A.once.length:=by rw[ho];simp
    cases hf:A.often with
    | nil =>
      have jW:A.room bo=({A with once:=r0,P9:=A.P9++[x0]},some x0):=by unfold Arc.room;rw[if_pos cf,ho,hf]
      have g0:XH A.once= .tuple #[I x0,.bool true]:=by rw[ho];rfl
      have g1:XH A.often= .tuple #[I 0,.bool false]:=by rw[hf];rfl
      rw[g0] at f0;rw[g1] at f1;refine OK$ QI O$ Pw O$ P4 QB O$ Pb Ym O (f0) ?_;rintro _ w2 ⟨rfl,rfl⟩;refine OT O$ qV (Ry (v:=I x0) O O)$ qV (Ry (v:= .bool true) O O)$ SH O$ QW O$ Pl O$ Pw O$ P4 Rl O$ Pb Ym O (f1) ?_;rintro _ w2 ⟨rfl,rfl⟩;refine OT O$ qV (Ry (v:=I 0) O O)$ qV (Ry (v:= .bool false) O O)$ Qr O$ Pu.qb (e:=[(0,_),(1,_),(4,_),(5,_),(6,_),(7,_),(8,_)]) ?_;refine Pt O$ Pw O$ P4 QB O$ P4 Qf O$ qV (OS Rr O O ak O)$ RO Rr O$ R3 O$ Uh O$ RP$ OT O ?_
      by_cases h1:(A.once.length:Int)>A.target
      ·skip
       refine Pl O$ Pw O$ P4 Rh O$ qV (OS U3 O O ak O)$ QD O$ RP$ OT O$ QY$ QY$ QY$ QY$ qS$ Ra O$ Ra O ?_;refine P3 O$ Pu.qb (e:=[(0,_),(4,_),(5,_),(6,_),(7,_),(8,_),(10,_)]) ?_;refine An$ QI O$ OT O$ Ra O$ OT O$ QY$ QY$ QY$ Ra O$ OJ$ OZ O$ Pt O$ Pw O$ P4 QB O ?_;refine OT O$ Pb SU O (Qn eu (j:=0) (k:=x0) ψ) ?_;rintro _ w3 ⟨rfl,V3,ci⟩;have iO:(A.li 0).erase x0=r0:=by show A.once.erase x0=r0;rw[ho];simp
       rw[iO] at ci
       have dQ:x0∉(A.Qp 0 r0).li 2:=by
        show x0∉A.P9;intro e;exact nd3 x0 (by rw[ho];simp) x0 (by simp[e]) O
       refine qM O$ OT O$ Pw O$ P4 QS O$ OT O$ Pb Tq O (QR ci.m (j:=2) (k:=x0) ψ dQ (by show A.P9.length<=_;exact Nat.le_trans im ψ)) ?_;rintro _ w4 ⟨rfl,V4,bF⟩;have hr:=(eu.r (Ext.refl w2)).trans (ci.trans bF);have cC:=hr.k.OH bB (λe=>n4 _ e O);refine OJ$ Pu.qb (e:=[(0,_),(4,_),(5,_),(7,_)]) ?_;refine Pt O$ qV (Sh (cs:=[_,_,_]) PB O W4 O O)$ OY O (PL (news:=RD false (some x0)) PB O O O O cC ξ) ?_;rintro w5 ⟨aO,aj⟩;replace aO:OU w5 b4 [.bool false,.bool true,I x0] 245:=aO;refine OJ$ Po func175 (.cell SK O PB O (OU.cells (n:=3) aO (news:=[_,_,_]) O) O .nil) ?_
       have dX:∀b,SE c V4 p b->b≠b4:=λb hb e=>by
        rcases hr.fp b hb with h5|h5
        ·exact n4 b h5 e
        ·have:=bB.lt;omega
       rw[jW];exact⟨_,rfl,rfl,V4,hr.m.kp aj dX,λb hb=>(hr.fp b hb).imp id (λe=>by have:=aF.size;omega),(aF.kp.trans hr.k).It aj (λj e=> .inl ω)⟩
      ·refine Pl O$ Pw O$ P4 Rh O$ qV (OS U3 O O ak O)$ QD O$ PO$ OT O ?_;by_cases h2:(A.once.length:Int)=A.target
       ·refine Pl O$ Pw O$ P4 Rh O$ qV (OS U3 O O ak O)$ Rk O$ RP$ OT O ?_
        cases bo with
        | true =>
          refine OT O ?_
          skip
          refine Ra O$ PT O$ Ra O$ P3 O$ Pu.qb (e:=[(0,_),(4,_),(5,_),(6,_),(7,_),(8,_),(10,_)]) ?_;refine An$ QI O$ OT O$ Ra O$ OT O$ QY$ QY$ QY$ Ra O$ OJ$ OZ O$ Pt O$ Pw O$ P4 QB O ?_;refine OT O$ Pb SU O (Qn eu (j:=0) (k:=x0) ψ) ?_;rintro _ w3 ⟨rfl,V3,ci⟩;have iO:(A.li 0).erase x0=r0:=by show A.once.erase x0=r0;rw[ho];simp
          rw[iO] at ci
          have dQ:x0∉(A.Qp 0 r0).li 2:=by
           show x0∉A.P9;intro e;exact nd3 x0 (by rw[ho];simp) x0 (by simp[e]) O
          refine qM O$ OT O$ Pw O$ P4 QS O$ OT O$ Pb Tq O (QR ci.m (j:=2) (k:=x0) ψ dQ (by show A.P9.length<=_;exact Nat.le_trans im ψ)) ?_;rintro _ w4 ⟨rfl,V4,bF⟩;have hr:=(eu.r (Ext.refl w2)).trans (ci.trans bF);have cC:=hr.k.OH bB (λe=>n4 _ e O);refine OJ$ Pu.qb (e:=[(0,_),(4,_),(5,_),(7,_)]) ?_;refine Pt O$ qV (Sh (cs:=[_,_,_]) PB O W4 O O)$ OY O (PL (news:=RD false (some x0)) PB O O O O cC ξ) ?_;rintro w5 ⟨aO,aj⟩;replace aO:OU w5 b4 [.bool false,.bool true,I x0] 245:=aO;refine OJ$ Po func175 (.cell SK O PB O (OU.cells (n:=3) aO (news:=[_,_,_]) O) O .nil) ?_
          have dX:∀b,SE c V4 p b->b≠b4:=λb hb e=>by
           rcases hr.fp b hb with h5|h5
           ·exact n4 b h5 e
           ·have:=bB.lt;omega
          rw[jW]
          exact⟨_,rfl,rfl,V4,hr.m.kp aj dX,λb hb=>(hr.fp b hb).imp id (λe=>by have:=aF.size;omega),(aF.kp.trans hr.k).It aj (λj e=> .inl ω)⟩
        | false =>
          refine OT O ?_
          skip
          refine Ra O$ PT O$ Ra O$ P3 O$ Pu.qb (e:=[(0,_),(4,_),(5,_),(6,_),(7,_),(8,_),(10,_)]) ?_;refine An$ QI O$ qS$ PT O$ Pl O$ qV ((S5 O))$ Pl O$ qV ((S5 O))$ Ra O$ PT O$ OJ$ OZ O$ Pt O$ Pw O ?_;refine P4 QB O$ OT O$ Pb SU O (Qn eu (j:=0) (k:=x0) ψ) ?_;rintro _ w3 ⟨rfl,V3,ci⟩;have iO:(A.li 0).erase x0=r0:=by show A.once.erase x0=r0;rw[ho];simp
          rw[iO] at ci
          have dQ:x0∉(A.Qp 0 r0).li 2:=by
           show x0∉A.P9;intro e;exact nd3 x0 (by rw[ho];simp) x0 (by simp[e]) O
          refine qM O$ OT O$ Pw O$ P4 QS O$ OT O$ Pb Tq O (QR ci.m (j:=2) (k:=x0) ψ dQ (by show A.P9.length<=_;exact Nat.le_trans im ψ)) ?_;rintro _ w4 ⟨rfl,V4,bF⟩;have hr:=(eu.r (Ext.refl w2)).trans (ci.trans bF);have cC:=hr.k.OH bB (λe=>n4 _ e O);refine OJ$ Pu.qb (e:=[(0,_),(4,_),(5,_),(7,_)]) ?_;refine Pt O$ qV (Sh (cs:=[_,_,_]) PB O W4 O O)$ OY O (PL (news:=RD false (some x0)) PB O O O O cC ξ) ?_;rintro w5 ⟨aO,aj⟩;replace aO:OU w5 b4 [.bool false,.bool true,I x0] 245:=aO;refine OJ$ Po func175 (.cell SK O PB O (OU.cells (n:=3) aO (news:=[_,_,_]) O) O .nil) ?_
          have dX:∀b,SE c V4 p b->b≠b4:=λb hb e=>by
           rcases hr.fp b hb with h5|h5
           ·exact n4 b h5 e
           ·have:=bB.lt;omega
          rw[jW];exact⟨_,rfl,rfl,V4,hr.m.kp aj dX,λb hb=>(hr.fp b hb).imp id (λe=>by have:=aF.size;omega),(aF.kp.trans hr.k).It aj (λj e=> .inl ω)⟩
       ·refine Pl O$ Pw O$ P4 Rh O$ qV (OS U3 O O ak O)$ Rk O$ PO$ OT O ?_
        skip
        refine qS$ PT O$ PT O$ Ra O$ P3 O$ Pu.qb (e:=[(0,_),(4,_),(5,_),(6,_),(7,_),(8,_),(10,_)]) ?_;refine An$ QI O$ qS$ PT O$ Pl O$ qV ((S5 O))$ Pl O$ qV ((S5 O))$ Ra O$ PT O$ OJ$ OZ O$ Pt O$ Pw O ?_;refine P4 QB O$ OT O$ Pb SU O (Qn eu (j:=0) (k:=x0) ψ) ?_;rintro _ w3 ⟨rfl,V3,ci⟩;have iO:(A.li 0).erase x0=r0:=by show A.once.erase x0=r0;rw[ho];simp
        rw[iO] at ci
        have dQ:x0∉(A.Qp 0 r0).li 2:=by
         show x0∉A.P9;intro e;exact nd3 x0 (by rw[ho];simp) x0 (by simp[e]) O
        refine qM O$ OT O$ Pw O$ P4 QS O$ OT O$ Pb Tq O (QR ci.m (j:=2) (k:=x0) ψ dQ (by show A.P9.length<=_;exact Nat.le_trans im ψ)) ?_;rintro _ w4 ⟨rfl,V4,bF⟩;have hr:=(eu.r (Ext.refl w2)).trans (ci.trans bF);have cC:=hr.k.OH bB (λe=>n4 _ e O);refine OJ$ Pu.qb (e:=[(0,_),(4,_),(5,_),(7,_)]) ?_;refine Pt O$ qV (Sh (cs:=[_,_,_]) PB O W4 O O)$ OY O (PL (news:=RD false (some x0)) PB O O O O cC ξ) ?_;rintro w5 ⟨aO,aj⟩;replace aO:OU w5 b4 [.bool false,.bool true,I x0] 245:=aO;refine OJ$ Po func175 (.cell SK O PB O (OU.cells (n:=3) aO (news:=[_,_,_]) O) O .nil) ?_
        have dX:∀b,SE c V4 p b->b≠b4:=λb hb e=>by
         rcases hr.fp b hb with h5|h5
         ·exact n4 b h5 e
         ·have:=bB.lt;omega
        rw[jW]
        exact⟨_,rfl,rfl,V4,hr.m.kp aj dX,λb hb=>(hr.fp b hb).imp id (λe=>by have:=aF.size;omega),(aF.kp.trans hr.k).It aj (λj e=> .inl ω)⟩
    | cons x1 r1 =>
      have g0:XH A.once= .tuple #[I x0,.bool true]:=by rw[ho];rfl
      have g1:XH A.often= .tuple #[I x1,.bool true]:=by rw[hf];rfl
      rw[g0] at f0;rw[g1] at f1;refine OK$ QI O$ Pw O$ P4 QB O$ Pb Ym O (f0) ?_;rintro _ w2 ⟨rfl,rfl⟩;refine OT O$ qV (Ry (v:=I x0) O O)$ qV (Ry (v:= .bool true) O O)$ SH O$ QW O$ Pl O$ Pw O$ P4 Rl O$ Pb Ym O (f1) ?_;rintro _ w2 ⟨rfl,rfl⟩;refine OT O$ qV (Ry (v:=I x1) O O)$ qV (Ry (v:= .bool true) O O)$ Qr O$ Pu.qb (e:=[(0,_),(1,_),(4,_),(5,_),(6,_),(7,_),(8,_)]) ?_;refine Pt O$ Pw O$ P4 QB O$ P4 Qf O$ qV (OS Rr O O ak O)$ RO Rr O$ R3 O$ Uh O$ RP$ OT O ?_
      by_cases h1:(A.once.length:Int)>A.target
      ·have jW:A.room bo=({A with once:=r0,P9:=A.P9++[x0]},some x0):=by unfold Arc.room;rw[if_pos cf,ho,hf];exact if_pos (by rw[<-ho];exact .inl h1)
       refine Pl O$ Pw O$ P4 Rh O$ qV (OS U3 O O ak O)$ QD O$ RP$ OT O$ QY$ QY$ QY$ QY$ qS$ Ra O$ Ra O ?_;refine P3 O$ Pu.qb (e:=[(0,_),(4,_),(5,_),(6,_),(7,_),(8,_),(10,_)]) ?_;refine An$ QI O$ OT O$ Ra O$ OT O$ QY$ QY$ QY$ Ra O$ OJ$ OZ O$ Pt O$ Pw O$ P4 QB O ?_;refine OT O$ Pb SU O (Qn eu (j:=0) (k:=x0) ψ) ?_;rintro _ w3 ⟨rfl,V3,ci⟩;have iO:(A.li 0).erase x0=r0:=by show A.once.erase x0=r0;rw[ho];simp
       rw[iO] at ci
       have dQ:x0∉(A.Qp 0 r0).li 2:=by
        show x0∉A.P9;intro e;exact nd3 x0 (by rw[ho];simp) x0 (by simp[e]) O
       refine qM O$ OT O$ Pw O$ P4 QS O$ OT O$ Pb Tq O (QR ci.m (j:=2) (k:=x0) ψ dQ (by show A.P9.length<=_;exact Nat.le_trans im ψ)) ?_;rintro _ w4 ⟨rfl,V4,bF⟩;have hr:=(eu.r (Ext.refl w2)).trans (ci.trans bF);have cC:=hr.k.OH bB (λe=>n4 _ e O);refine OJ$ Pu.qb (e:=[(0,_),(4,_),(5,_),(7,_)]) ?_;refine Pt O$ qV (Sh (cs:=[_,_,_]) PB O W4 O O)$ OY O (PL (news:=RD false (some x0)) PB O O O O cC ξ) ?_;rintro w5 ⟨aO,aj⟩;replace aO:OU w5 b4 [.bool false,.bool true,I x0] 245:=aO;refine OJ$ Po func175 (.cell SK O PB O (OU.cells (n:=3) aO (news:=[_,_,_]) O) O .nil) ?_
       have dX:∀b,SE c V4 p b->b≠b4:=λb hb e=>by
        rcases hr.fp b hb with h5|h5
        ·exact n4 b h5 e
        ·have:=bB.lt;omega
       rw[jW];exact⟨_,rfl,rfl,V4,hr.m.kp aj dX,λb hb=>(hr.fp b hb).imp id (λe=>by have:=aF.size;omega),(aF.kp.trans hr.k).It aj (λj e=> .inl ω)⟩
      ·refine Pl O$ Pw O$ P4 Rh O$ qV (OS U3 O O ak O)$ QD O$ PO$ OT O ?_;by_cases h2:(A.once.length:Int)=A.target
       ·refine Pl O$ Pw O$ P4 Rh O$ qV (OS U3 O O ak O)$ Rk O$ RP$ OT O ?_
        cases bo with
        | true =>
          refine OT O ?_;have jW:A.room true=({A with once:=r0,P9:=A.P9++[x0]},some x0):=by unfold Arc.room;rw[if_pos cf,ho,hf];exact if_pos (by rw[<-ho];exact .inr ⟨h2,rfl⟩)
          refine Ra O$ PT O$ Ra O$ P3 O$ Pu.qb (e:=[(0,_),(4,_),(5,_),(6,_),(7,_),(8,_),(10,_)]) ?_;refine An$ QI O$ OT O$ Ra O$ OT O$ QY$ QY$ QY$ Ra O$ OJ$ OZ O$ Pt O$ Pw O$ P4 QB O ?_;refine OT O$ Pb SU O (Qn eu (j:=0) (k:=x0) ψ) ?_;rintro _ w3 ⟨rfl,V3,ci⟩;have iO:(A.li 0).erase x0=r0:=by show A.once.erase x0=r0;rw[ho];simp
          rw[iO] at ci
          have dQ:x0∉(A.Qp 0 r0).li 2:=by
           show x0∉A.P9;intro e;exact nd3 x0 (by rw[ho];simp) x0 (by simp[e]) O
          refine qM O$ OT O$ Pw O$ P4 QS O$ OT O$ Pb Tq O (QR ci.m (j:=2) (k:=x0) ψ dQ (by show A.P9.length<=_;exact Nat.le_trans im ψ)) ?_;rintro _ w4 ⟨rfl,V4,bF⟩;have hr:=(eu.r (Ext.refl w2)).trans (ci.trans bF);have cC:=hr.k.OH bB (λe=>n4 _ e O);refine OJ$ Pu.qb (e:=[(0,_),(4,_),(5,_),(7,_)]) ?_;refine Pt O$ qV (Sh (cs:=[_,_,_]) PB O W4 O O)$ OY O (PL (news:=RD false (some x0)) PB O O O O cC ξ) ?_;rintro w5 ⟨aO,aj⟩;replace aO:OU w5 b4 [.bool false,.bool true,I x0] 245:=aO;refine OJ$ Po func175 (.cell SK O PB O (OU.cells (n:=3) aO (news:=[_,_,_]) O) O .nil) ?_
          have dX:∀b,SE c V4 p b->b≠b4:=λb hb e=>by
           rcases hr.fp b hb with h5|h5
           ·exact n4 b h5 e
           ·have:=bB.lt;omega
          rw[jW]
          exact⟨_,rfl,rfl,V4,hr.m.kp aj dX,λb hb=>(hr.fp b hb).imp id (λe=>by have:=aF.size;omega),(aF.kp.trans hr.k).It aj (λj e=> .inl ω)⟩
        | false =>
          refine OT O ?_;have jW:A.room false=({A with often:=r1,P6:=A.P6++[x1]},some x1):=by unfold Arc.room;rw[if_pos cf,ho,hf];exact if_neg (by rw[<-ho];rintro(e|⟨e,e2⟩);exact h1 e;cases e2)
          refine Ra O$ PT O$ Ra O$ P3 O$ Pu.qb (e:=[(0,_),(4,_),(5,_),(6,_),(7,_),(8,_),(10,_)]) ?_;refine An$ QI O$ qS$ PT O$ Pl O$ qV ((S5 O))$ Pl O$ qV ((S5 O))$ Ra O$ PT O$ Qm O$ Pt O$ Pw O$ P4 Rl O ?_;refine OT O$ Pb SU O (Qn eu (j:=1) (k:=x1) ψ) ?_;rintro _ w3 ⟨rfl,V3,ci⟩;have iO:(A.li 1).erase x1=r1:=by show A.often.erase x1=r1;rw[hf];simp
          rw[iO] at ci
          have dQ:x1∉(A.Qp 1 r1).li 3:=by
           show x1∉A.P6;intro e;exact nd6 x1 (by rw[hf];simp) x1 (by simp[e]) O
          refine qM O$ OT O$ Pw O$ P4 Ri O$ OT O$ Pb Tq O (QR ci.m (j:=3) (k:=x1) ψ dQ (by show A.P6.length<=_;exact Nat.le_trans lQ ψ)) ?_;rintro _ w4 ⟨rfl,V4,bF⟩;have hr:=(eu.r (Ext.refl w2)).trans (ci.trans bF);have cC:=hr.k.OH bB (λe=>n4 _ e O);refine OJ$ Pu.qb (e:=[(4,_),(7,_)]) ?_;refine Pt O$ qV (Sh (cs:=[_,_,_]) PB O W4 O O)$ OY O (PL (news:=RD false (some x1)) PB O O O O cC ξ) ?_;rintro w5 ⟨aO,aj⟩;replace aO:OU w5 b4 [.bool false,.bool true,I x1] 245:=aO;refine OJ$ Po func175 (.cell SK O PB O (OU.cells (n:=3) aO (news:=[_,_,_]) O) O .nil) ?_
          have dX:∀b,SE c V4 p b->b≠b4:=λb hb e=>by
           rcases hr.fp b hb with h5|h5
           ·exact n4 b h5 e
           ·have:=bB.lt;omega
          rw[jW];exact⟨_,rfl,rfl,V4,hr.m.kp aj dX,λb hb=>(hr.fp b hb).imp id (λe=>by have:=aF.size;omega),(aF.kp.trans hr.k).It aj (λj e=> .inl ω)⟩
       ·refine Pl O$ Pw O$ P4 Rh O$ qV (OS U3 O O ak O)$ Rk O$ PO$ OT O ?_;have jW:A.room bo=({A with often:=r1,P6:=A.P6++[x1]},some x1):=by unfold Arc.room;rw[if_pos cf,ho,hf];exact if_neg (by rw[<-ho];rintro(e|⟨e,e2⟩);exact h1 e;exact h2 e)
        refine qS$ PT O$ PT O$ Ra O$ P3 O$ Pu.qb (e:=[(0,_),(4,_),(5,_),(6,_),(7,_),(8,_),(10,_)]) ?_;refine An$ QI O$ qS$ PT O$ Pl O$ qV ((S5 O))$ Pl O$ qV ((S5 O))$ Ra O$ PT O$ Qm O$ Pt O$ Pw O$ P4 Rl O ?_;refine OT O$ Pb SU O (Qn eu (j:=1) (k:=x1) ψ) ?_;rintro _ w3 ⟨rfl,V3,ci⟩;have iO:(A.li 1).erase x1=r1:=by show A.often.erase x1=r1;rw[hf];simp
        rw[iO] at ci
        have dQ:x1∉(A.Qp 1 r1).li 3:=by
         show x1∉A.P6;intro e;exact nd6 x1 (by rw[hf];simp) x1 (by simp[e]) O
        refine qM O$ OT O$ Pw O$ P4 Ri O$ OT O$ Pb Tq O (QR ci.m (j:=3) (k:=x1) ψ dQ (by show A.P6.length<=_;exact Nat.le_trans lQ ψ)) ?_;rintro _ w4 ⟨rfl,V4,bF⟩;have hr:=(eu.r (Ext.refl w2)).trans (ci.trans bF);have cC:=hr.k.OH bB (λe=>n4 _ e O);refine OJ$ Pu.qb (e:=[(4,_),(7,_)]) ?_;refine Pt O$ qV (Sh (cs:=[_,_,_]) PB O W4 O O)$ OY O (PL (news:=RD false (some x1)) PB O O O O cC ξ) ?_;rintro w5 ⟨aO,aj⟩;replace aO:OU w5 b4 [.bool false,.bool true,I x1] 245:=aO;refine OJ$ Po func175 (.cell SK O PB O (OU.cells (n:=3) aO (news:=[_,_,_]) O) O .nil) ?_
        have dX:∀b,SE c V4 p b->b≠b4:=λb hb e=>by
         rcases hr.fp b hb with h5|h5
         ·exact n4 b h5 e
         ·have:=bB.lt;omega
        rw[jW];exact⟨_,rfl,rfl,V4,hr.m.kp aj dX,λb hb=>(hr.fp b hb).imp id (λe=>by have:=aF.size;omega),(aF.kp.trans hr.k).It aj (λj e=> .inl ω)⟩
end
def Arc.Ok.zfR {A:Arc}(h:A.Ok):(A.Qp 2 (A.P9.drop 1)).Ok:=by
 have hs:(A.Qp 2 (A.P9.drop 1)).all.Sublist A.all:=(((List.drop_sublist 1 A.P9).append_right A.P6).append_left A.often).append_left A.once
 have:=h.first
 have h2:=hs.length_le
 have h3:=h.total
 exact⟨h.pos,h.nd.sublist hs,h.held,by show A.once.length+(A.P9.drop 1).length<=A.size;rw[List.length_drop];omega,Nat.le_trans h2 h3,h.tg⟩
def Arc.Ok.zhg {A:Arc}(h:A.Ok):(A.Qp 3 (A.P6.drop 1)).Ok:=by
 have hs:(A.Qp 3 (A.P6.drop 1)).all.Sublist A.all:=(((List.drop_sublist 1 A.P6).append_left A.P9).append_left A.often).append_left A.once
 exact⟨h.pos,h.nd.sublist hs,h.held,h.first,Nat.le_trans hs.length_le h.total,h.tg⟩
section
variable {w w' w2:World}{c p:Nat}{A A':Arc}{V V':Nat->Value×Value}{k:Int}
def SX.head (h:SX w c A V p){j:Nat}(hj:j<4){x:Int}{r:List Int}(hl:A.li j=x::r):∃b o cp,(V j).1= .slice (some ⟨b,o,none⟩) (A.li j).length cp/\w.cell? ⟨b,o+0*1,none⟩=some (I x):=by
 have hR:=(h.q j hj).sl.rd
 rcases hR.2 with⟨c,hc,h0⟩|⟨b,off,c',hc,-⟩
 ·rw[hl] at h0;simp at h0
 ·rw[hc] at hR;exact⟨b,off,c',hc,PY hR (i:=0) (by rw[hl];rfl)⟩
theorem z1m (h:SX w c A V p)(hA:A.Ok)(cD:A.size<=1000):Ps prog 176 [ptr c 0] w λv w'=>v=zdi false A.add.2/\∃V',Wb w c V p w' A.add.1 V':=by
 have tM:=hA.lens cD 0
 have jb:=hA.lens cD 1
 have im:=hA.lens cD 2
 have lQ:=hA.lens cD 3
 have iq:=hA.pos
 have cO:=A.QQ
 have wM:=hA.held
 have Od:=hA.first
 have ff:=hA.total
 have aS:∀{b:Nat},SE c V p b->b<w.heap.size:=h.lt
 rw[show A.li 0=A.once from rfl] at tM
 rw[show A.li 1=A.often from rfl] at jb
 rw[show A.li 2=A.P9 from rfl] at im
 rw[show A.li 3=A.P6 from rfl] at lQ
 have hB:=h.cells
 obtain⟨a0,c0,e0,-⟩:∃a c,(V 0).1= .slice a A.once.length c/\_:=(h.q 0 ψ).sl.rd.shape
 obtain⟨a1,c1,e1,-⟩:∃a c,(V 1).1= .slice a A.often.length c/\_:=(h.q 1 ψ).sl.rd.shape
 obtain⟨a2,c2,e2,-⟩:∃a c,(V 2).1= .slice a A.P9.length c/\_:=(h.q 2 ψ).sl.rd.shape
 obtain⟨a3,c3,e3,-⟩:∃a c,(V 3).1= .slice a A.P6.length c/\_:=(h.q 3 ψ).sl.rd.shape
 rw[e0,e1,e2,e3] at hB
 refine py (e:=[(0,_)]) func176 O ntmps176 O O$ qN O$ OP O O (Rz (cs:=[_,_,_]) PB O) ?_
 rintro _ w1 ⟨b2,rfl,bN,ad,ak⟩
 replace ak:OU w1 b2 [.bool false,.bool false,I 0] 245:=ak
 have n2:∀b,SE c V p b->b≠b2:=λb hb e=>by have:=aS hb;omega
 have ai:=ad.OH hB
 have bh:=Ext.Pa w1
 refine OJ$ An$ R0 (λw'=>Ext w1 w') O$ P8 0 O O (bh)$ OM 1 O (Qd O) bh$ OM 2 O (Px QB O) bh$ OM 3 O (Px Qf O) bh$ qT 4 O (λ_ h=>OS Rr O O (h.OH ai) O) bh$ OM 5 O (SI Rr O) bh$ P8 6 O O (bh)$ OM 7 O (Qd O) bh$ OM 8 O (Px QS O) bh$ OM 9 O (Px Qf O) bh$ qT 10 O (λ_ h=>OS Rr O O (h.OH ai) O) bh ?_
 refine OM 11 O (SI Rr O) bh$ OM 12 O (UN O O ω) bh$ OM 13 O (Rv O) bh$ qE$ An ?_
 rw[show(A.once.length:Int)+(A.P9.length:Int)=((A.once.length+A.P9.length:Nat):Int) by omega]
 have aa:=Ext.Pa w1.drew
 have sA:=bh.OH ai
 refine R0 (λw'=>Ext w1.drew w') O$ P8 0 O O (aa)$ P8 1 O O (aa)$ OM 2 O (Qd O) aa$ OM 3 O (Px Rl O) aa$ OM 4 O (Px Qf O) aa$ qT 5 O (λ_ h=>OS Rr O O (h.OH sA) O) aa$ OM 6 O (SI Rr O) aa$ OM 7 O (UN O O ω) aa$ P8 8 O O (aa)$ OM 9 O (Qd O) aa$ OM 10 O (Px Ri O) aa$ OM 11 O (Px Qf O) aa$ qT 12 O (λ_ h=>OS Rr O O (h.OH sA) O) aa ?_
 refine OM 13 O (SI Rr O) aa$ OM 14 O (UN O O ω) aa$ OM 15 O (Rv O) aa ?_
 rw[show((A.once.length+A.P9.length:Nat):Int)+(A.often.length:Int)+(A.P6.length:Int)=(A.all.length:Int) by omega]
 have ae:=(ad.trans bh).trans aa
 obtain⟨w2,nr⟩:∃w2,w1.drew.drew=w2:=⟨_,rfl⟩
 rw[nr] at ae
 have aI:=bh.trans aa
 rw[nr] at aI⊢
 have h2:=h.ext ae
 have mG:=h2.cells
 rw[e0,e1,e2,e3] at mG
 have iA:=aI.OH ak
 have ag:=Ext.Pa w2
 refine qE$ Pu.qb (e:=[(0,_),(2,_),(3,_),(4,_)]) ?_
 refine An$ PI (λe' w'=>e'=[(0,ptr c 0),(2,ptr b2 0)]/\∃A' V',A'.Ok/\A'.size=A.size/\Wb w2 c V p w' A' V'/\OU w' b2 [.bool false,.bool false,I 0] 245/\A.add=A'.room false/\w2.heap.size<=w'.heap.size) ?cX$ λcX=>?iP
 case cX=>
  rintro e' w3 ⟨rfl,A',V',Me,zS,ci,au,dR,z3⟩;refine Pt O$ Pb z1B O (TK ci.m Me ω false) ?_;rintro _ w4 ⟨rfl,V4,bF⟩;have hr:=ci.trans bF
  have n3:∀b,SE c V' p b->b≠b2:=λb hb e=>by
   rcases ci.fp b hb with h5|h5
   ·exact n2 b h5 e
   ·have:=iA.lt;omega
  have n4:∀b,SE c V4 p b->b≠b2:=λb hb e=>by
   rcases hr.fp b hb with h5|h5
   ·exact n2 b h5 e
   ·have:=iA.lt;omega
  have fJ:=bF.k.OH au (λe=>n3 _ e O);obtain⟨g,hg⟩:∃g,(A'.room false).2=g:=⟨_,rfl⟩;rw[hg];refine OY O (PL (news:=RD false g) PB O O O O fJ ξ) ?_;rintro w5 ⟨dE,aj⟩;replace dE:OU w5 b2 [.bool false,.bool g.isSome,I (g.getD 0)] 245:=dE;refine OJ$ Po func176 (.cell SK O PB O (OU.cells (n:=3) dE (news:=[_,_,_]) O) O .nil) ?_;rw[dR,hg];have z1:=ad.size;have z2:=ae.size;exact⟨_,rfl,rfl,V4,hr.m.kp aj n4,λb hb=>(hr.fp b hb).imp id (λe=>by omega),(ae.kp.trans hr.k).It aj (λj e=> .inl ω)⟩
 case iP =>
  have e13:(A.all.length:Int)=(A.all.length:Int):=rfl;have h3:=h2.ext ag;have rf:=ag.OH mG;have bE:=ag.OH iA;have z1:=ad.size;have z2:=ae.size;by_cases hf:A.once.length+A.P9.length=A.size
  ·by_cases ho:A.once.length<A.size
   ·refine OL$ An$ R0 (λw'=>Ext w2 w') O$ P8 0 O O (ag)$ P8 1 O O (ag)$ OM 2 O (Qd O) ag$ OM 3 O (Px Sw O) ag$ qT 4 O (λ_ h=>OS U3 O O (h.OH mG) O) ag$ OM 5 O (yeq O O) ag$ TN$ P8 6 O O (ag)$ P8 7 O O (ag)$ OM 8 O (Qd O) ag$ OM 9 O (Px QB O) ag ?_;refine OM 10 O (Px Qf O) ag$ qT 11 O (λ_ h=>OS Rr O O (h.OH mG) O) ag$ OM 12 O (SI Rr O) ag$ P8 13 O O (ag)$ OM 14 O (Qd O) ag$ OM 15 O (Px Sw O) ag$ qT 16 O (λ_ h=>OS U3 O O (h.OH mG) O) ag$ OM 17 O (ylt O O) ag$ TN$ OM 18 O (UG O O) ag$ OM 19 O (Rv O) ag$ qE$ OZ O ?_
    obtain⟨x,r,hw⟩:∃x r,A.P9=x::r:=by
     cases hx:A.P9 with
     |nil=>rw[hx] at hf;simp at hf;omega
     |cons x r=>exact⟨x,r,rfl⟩
    obtain⟨lb,lo,lc,zT,-⟩:=h2.head (j:=2) ψ hw;rw[e2] at zT;cases zT;have dg:=(h3.q 2 ψ).sl.rd;rw[e2] at dg;have sB:0<A.P9.length:=by rw[hw];simp
    have jS:((A.li 2).map I)[0]? =some (I x):=by show(A.P9.map I)[0]? =_;rw[hw];rfl
    have af:=Ext.Pa w2.drew;refine Pk [10] (λw'=>Ext w2.drew w') (by kernel_rfl) O$ PW 0 O O (af)$ Pr 1 O (Qd O) af$ Pr 2 O (Px QS O) af$ PW 3 O O (af)$ Pr 4 O (Qd O) af$ Pr 5 O (Px QS O) af$ Pr 6 O (Px Qf O) af$ qL 7 O (λ_ h=>OS Rr O O (h.OH (ag.OH mG)) O) af$ Pr 8 O (Qc Rr Qe O O ω) af$ qL 9 O (λ_ h=>PC U3 O O (PY (dg.ext h) (i:=0) jS)) af$ Ty [10]$ S1 10 O SU O (Qn (h3.ext af) (j:=2) (k:=x) ψ) ?_;rintro _ w5 ⟨rfl,V5,bO⟩;refine⟨trivial,?_⟩;have zU:(A.li 2).erase x=A.P9.drop 1:=by show A.P9.erase x=A.P9.drop 1;rw[hw];simp
    rw[zU] at bO;have fw:=(h2.r (ag.trans af)).trans bO;have dE:=fw.k.OH iA (λe=>n2 _ e O);refine qE$ Pu.qb (e:=[(0,_),(2,_)]) ?_;refine OG ?_;exact(cX _ _ ⟨rfl,_,V5,hA.zfR,(z0y A (j:=2) ψ _).1,fw,dE,by unfold Arc.add;rw[if_pos hf,if_pos ho];rfl,fw.k.size⟩).qb
   ·refine OL$ An$ R0 (λw'=>Ext w2 w') O$ P8 0 O O (ag)$ P8 1 O O (ag)$ OM 2 O (Qd O) ag$ OM 3 O (Px Sw O) ag$ qT 4 O (λ_ h=>OS U3 O O (h.OH mG) O) ag$ OM 5 O (yeq O O) ag$ TN$ P8 6 O O (ag)$ P8 7 O O (ag)$ OM 8 O (Qd O) ag$ OM 9 O (Px QB O) ag ?_;refine OM 10 O (Px Qf O) ag$ qT 11 O (λ_ h=>OS Rr O O (h.OH mG) O) ag$ OM 12 O (SI Rr O) ag$ P8 13 O O (ag)$ OM 14 O (Qd O) ag$ OM 15 O (Px Sw O) ag$ qT 16 O (λ_ h=>OS U3 O O (h.OH mG) O) ag$ OM 17 O (ylt O O) ag$ TC$ OM 18 O (UG O O) ag$ OM 19 O (Rv O) ag$ qE$ OR O$ QI O ?_;refine Pw O$ P4 Sw O$ qV (OS U3 O O rf O)$ Rk O$ RP$ P3 O$ Pu.qb (e:=[(0,_),(2,_),(4,_),(66,_)]) ?_;refine OZ O$ QI O$ Pw O$ P4 QB O ?_
    obtain⟨x,r,hw⟩:∃x r,A.once=x::r:=by
     cases hx:A.once with
     |nil=>rw[hx] at ho;simp at ho;omega
     |cons x r=>exact⟨x,r,rfl⟩
    have f0:=Vr h3 (j:=0) ψ;rw[show A.li 0=A.once from rfl,show XH A.once= .tuple #[I x,.bool true] by rw[hw];rfl] at f0;obtain⟨w3,rg⟩:∃w3,w2.drew=w3:=⟨_,rfl⟩;rw[rg] at f0 h3 bE ag⊢;refine Pb Ym O (f0) ?_;rintro _ w3 ⟨rfl,rfl⟩;refine OT O$ qV (Ry (v:=I x) O O)$ qV (Ry (v:= .bool true) O O)$ SH O$ R3 O$ Pw O$ P4 QB O$ OT O$ Pb SU O (Qn h3 (j:=0) (k:=x) ψ) ?_;rintro _ w5 ⟨rfl,V5,bO⟩;have zU:(A.li 0).erase x=A.once.drop 1:=by show A.once.erase x=A.once.drop 1;rw[hw];simp
    rw[zU] at bO;have fw:=(h2.r ag).trans bO;have dE:=fw.k.OH iA (λe=>n2 _ e O);refine qM O$ OT O$ qV (Sh (cs:=[_,_,_]) PB O W4 O O)$ OY O (PL (news:=RD false (some x)) PB O O O O dE ξ) ?_;rintro w6 ⟨gO,aN⟩;replace gO:OU w6 b2 [.bool false,.bool true,I x] 245:=gO;refine OJ$ Po func176 (.cell SK O PB O (OU.cells (n:=3) gO (news:=[_,_,_]) O) O .nil) ?_
    have n5:∀b,SE c V5 p b->b≠b2:=λb hb e=>by
     rcases fw.fp b hb with h5|h5
     ·exact n2 b h5 e
     ·have:=iA.lt;omega
    have dR:A.add=(A.Qp 0 (A.once.drop 1),some x):=by unfold Arc.add;rw[if_pos hf,if_neg ho,hw];rfl
    rw[dR];exact⟨_,rfl,rfl,V5,fw.m.kp aN n5,λb hb=>(fw.fp b hb).imp id (λe=>by omega),(ae.kp.trans fw.k).It aN (λj e=> .inl ω)⟩
  ·refine OL$ An$ R0 (λw'=>Ext w2 w') O$ P8 0 O O (ag)$ P8 1 O O (ag)$ OM 2 O (Qd O) ag$ OM 3 O (Px Sw O) ag$ qT 4 O (λ_ h=>OS U3 O O (h.OH mG) O) ag$ OM 5 O (yeq O O) ag$ TC$ P8 6 O O (ag)$ qJ 7 O (ag)$ qJ 8 O (ag)$ qJ 9 O (ag) ?_;refine qJ 10 O (ag)$ qJ 11 O (ag)$ qJ 12 O (ag)$ qJ 13 O (ag)$ qJ 14 O (ag)$ qJ 15 O (ag)$ qJ 16 O (ag)$ qJ 17 O (ag)$ OM 18 O (U6 O O) ag$ OM 19 O (Rv O) ag$ qE$ OR O$ QI O$ Pw O ?_;refine P4 Sw O$ qV (OS U3 O O rf O)$ Rk O$ PO$ P3 O$ Pu.qb (e:=[(0,_),(2,_),(4,_),(66,_)]) ?_;refine OR O$ QI O$ Pw O$ P4 Sw O$ qV (OS U3 O O rf O) ?_;by_cases h4:A.all.length<A.size
   ·refine QV O$ RP$ P3 O$ OZ O$ qN O$ qV (Sh (cs:=[_,_,_]) PB O W4 O O)$ OY O (PL (news:=RD false none) PB O O O O bE ξ) ?_;rintro w5 ⟨dE,aj⟩;replace dE:OU w5 b2 [.bool false,.bool false,I 0] 245:=dE;refine OJ$ Po func176 (.cell SK O PB O (OU.cells (n:=3) dE (news:=[_,_,_]) O) O .nil) ?_;have dR:A.add=(A,none):=by unfold Arc.add;rw[if_neg hf,if_pos h4]
    rw[dR];exact⟨_,rfl,rfl,V,h3.kp aj n2,λb hb=> .inl hb,((ae.trans ag).It aj (λj e=>by omega)).kp⟩
   ·refine QV O$ PO$ P3 O$ OR O$ QI O$ Pw O$ P4 Sw O$ qV (OS U3 O O rf O)$ qV (Y8 O O ω) ?_;by_cases h5:A.all.length=2*A.size
    ·refine Rk O$ RP$ P3 O$ OZ O ?_
     obtain⟨x,r,hw⟩:∃x r,A.P6=x::r:=by
      cases hx:A.P6 with
      |nil=>rw[hx] at cO;simp at cO;omega
      |cons x r=>exact⟨x,r,rfl⟩
     obtain⟨lb,lo,lc,zT,-⟩:=h2.head (j:=3) ψ hw;rw[e3] at zT;cases zT;have dg:=(h3.q 3 ψ).sl.rd;rw[e3] at dg;have sB:0<A.P6.length:=by rw[hw];simp
     have jS:((A.li 3).map I)[0]? =some (I x):=by show(A.P6.map I)[0]? =_;rw[hw];rfl
     have af:=Ext.Pa w2.drew;refine Pk [10] (λw'=>Ext w2.drew w') (by kernel_rfl) O$ PW 0 O O (af)$ Pr 1 O (Qd O) af$ Pr 2 O (Px Ri O) af$ PW 3 O O (af)$ Pr 4 O (Qd O) af$ Pr 5 O (Px Ri O) af$ Pr 6 O (Px Qf O) af$ qL 7 O (λ_ h=>OS Rr O O (h.OH (ag.OH mG)) O) af$ Pr 8 O (Qc Rr Qe O O ω) af$ qL 9 O (λ_ h=>PC U3 O O (PY (dg.ext h) (i:=0) jS)) af$ Ty [10]$ S1 10 O SU O (Qn (h3.ext af) (j:=3) (k:=x) ψ) ?_;rintro _ w5 ⟨rfl,V5,bO⟩;refine⟨trivial,?_⟩;have zU:(A.li 3).erase x=A.P6.drop 1:=by show A.P6.erase x=A.P6.drop 1;rw[hw];simp
     rw[zU] at bO;have fw:=(h2.r (ag.trans af)).trans bO;have dE:=fw.k.OH iA (λe=>n2 _ e O);refine qE$ Pu.qb (e:=[(0,_),(2,_)]) ?_;refine OG ?_;exact(cX _ _ ⟨rfl,_,V5,hA.zhg,(z0y A (j:=3) ψ _).1,fw,dE,by unfold Arc.add;rw[if_neg hf,if_neg h4,if_pos h5];rfl,fw.k.size⟩).qb
    ·refine Rk O$ PO$ P3 O$ SO O$ OG ?_;exact(cX _ _ ⟨rfl,A,V,hA,rfl,h2.r ag,bE,by unfold Arc.add;rw[if_neg hf,if_neg h4,if_neg h5],ag.size⟩).qb
end
section
variable {w w' w2:World}{c p:Nat}{A A':Arc}{V V' V2:Nat->Value×Value}{k:Int}
def SX.ZG (h:SX w c A V p){T:Int}(hB:OU w' c (acC A.size T V p) 173)(hk:Kp (λb=>b=c) w w'):Wb w c V p w' {A with target:=T} V:=
 ⟨⟨hB,λj hj=>by
  have e:({A with target:=T}:Arc).li j=A.li j:=by match j,hj with|0,_|1,_|2,_|3,_=>rfl
  rw[e]
  exact(h.q j hj).kp hk λb hb e=>h.nc j hj (e▸hb),hk.map h.pins (λe=>h.cp e.symm),h.Vk,h.nc,h.np,h.cp⟩,λb hb=> .inl hb,hk.ON λb e=> .inl e⟩
def Arc.Ok.ZG (h:A.Ok){T:Int}(hT:0<=T/\T<=A.size):({A with target:=T}:Arc).Ok:=⟨h.pos,h.nd,h.held,h.first,h.total,hT⟩
def Wb.mono (h:Wb w c V p w' A' V'){b:Nat}(hb:∀j,SE c V p j->j≠b)(hw:b<w.heap.size):∀j,SE c V' p j->j≠b:=λj hj e=>by
 rcases h.fp j hj with h5|h5
 ·exact hb j h5 e
 ·omega
theorem z6r (h:SX w c A V p)(hA:A.Ok)(cD:A.size<=1000):Ps prog 143 [ptr c 0,I k] w λv w'=>v= .tuple #[zdi (A.Rq k).2.1 (A.Rq k).2.2,I 0]/\∃V',Wb w c V p w' (A.Rq k).1 V':=by
 have jb:=hA.lens cD 1
 have im:=hA.lens cD 2
 have lQ:=hA.lens cD 3
 have Fn:=hA.tg
 have iq:=hA.pos
 have cO:=A.QQ
 have ff:=hA.total
 have eU:=hA.nd
 unfold Arc.all at eU
 rw[List.nodup_append] at eU
 obtain⟨nd1,nd2,nd3⟩:=eU
 rw[List.nodup_append] at nd2
 obtain⟨nd4,nd5,nd6⟩:=nd2
 have aS:∀{b:Nat},SE c V p b->b<w.heap.size:=h.lt
 rw[show A.li 1=A.often from rfl] at jb
 rw[show A.li 2=A.P9 from rfl] at im
 rw[show A.li 3=A.P6 from rfl] at lQ
 refine py (e:=[(0,_),(1,_)]) func143 O ntmps143 O O$ qN O$ OP O O (Rz (cs:=[_,_,_]) PB O) ?_
 rintro _ w1 ⟨b4,rfl,fX,ad,aM⟩
 replace aM:OU w1 b4 [.bool false,.bool false,I 0] 245:=aM
 have n4:∀b,SE c V p b->b≠b4:=λb hb e=>by have:=aS hb;omega
 have l4:=aM.lt
 have h1:=h.ext ad
 have z1:=ad.size
 refine P3 O$ PR O$ qV (Qb za9 O O)$ Qm O$ An$ QI O$ Pb zdw O (z2o h1 (k:=k)) ?_
 rintro _ w1 ⟨rfl,rfl⟩
 by_cases bC:k∈A.once\/k∈A.often
 ·rw[decide_eq_true bC];refine OJ$ OZ O$ Pt O$ Pw O$ P4 QB O$ OT O$ Pb SU O (Qn h1 (j:=0) (k:=k) ψ) ?_;rintro _ w2 ⟨rfl,V2,dm⟩;refine qM O$ OT O$ Pw O$ P4 Rl O$ OT O$ Pb SU O (Qn dm.m (j:=1) (k:=k) ψ) ?_;rintro _ w3 ⟨rfl,V3,ci⟩;refine qM O$ OT O$ Pw O$ P4 Rl O$ OT O ?_
  have ww:k∉((A.Qp 0 ((A.li 0).erase k)).Qp 1 (((A.Qp 0 ((A.li 0).erase k)).li 1).erase k)).li 1:=by
   show k∉A.often.erase k;exact nd4.not_mem_erase
  have j4:(((A.Qp 0 ((A.li 0).erase k)).Qp 1 (((A.Qp 0 ((A.li 0).erase k)).li 1).erase k)).li 1).length<=8191:=by
   show(A.often.erase k).length<=_;have:=(List.length_erase_le:(A.often.erase k).length<=A.often.length);omega
  refine Pb Tq O (QR ci.m (j:=1) (k:=k) ψ ww j4) ?_;rintro _ w4 ⟨rfl,V4,bF⟩;have hr:=(dm.trans ci).trans bF;have cC:=hr.k.OH aM (λe=>n4 _ e O);refine qM O$ qV (Sh (cs:=[_,_,_]) PB O W4 O O)$ OY O (PL (news:=RD true none) PB O O O O cC ξ) ?_;rintro w5 ⟨aO,aj⟩;replace aO:OU w5 b4 [.bool true,.bool false,I 0] 245:=aO;refine P3 O$ Pu.qb (e:=[(0,_),(1,_),(4,_),(5,_)]) ?_;refine Po func143 (.cell SK O PB O (OU.cells (n:=3) aO (news:=[_,_,_]) O) O (.tmp O .nil)) ?_;have ff:A.Rq k=({A with once:=A.once.erase k,often:=A.often.erase k++[k]},true,none):=by unfold Arc.Rq;rw[if_pos bC]
  rw[ff];exact⟨_,rfl,rfl,V4,hr.m.kp aj (hr.mono n4 l4),λb hb=>(hr.fp b hb).imp id (λe=>by omega),(ad.kp.trans hr.k).It aj (λj e=> .inl ω)⟩
 ·rw [decide_eq_false bC]; have fP : k ∉ A.once := λe => bC (.inl e); have az : k ∉ A.often := λe => bC (.inr e); have mx : ¬ A.held k := bC; refine OJ (OR O ?_); have f0 := Vr h1 (j := 0) ψ; have f1 := Vr h1 (j := 1) ψ; rw [show A.li 0 = A.once from rfl] at f0; rw [show A.li 1 = A.often from rfl] at f1
  obtain⟨v0,o0,e0,q0⟩:∃x o,XH A.once= .tuple #[I x,.bool o]/\(o=true↔A.once≠[]):=by
   cases A.once with
   |nil=>exact⟨_,_,rfl,ξ⟩
   |cons x r=>exact⟨_,_,rfl,ξ⟩
  obtain⟨v1,o1,e1,q1⟩:∃x o,XH A.often= .tuple #[I x,.bool o]/\(o=true↔A.often≠[]):=by
   cases A.often with
   |nil=>exact⟨_,_,rfl,ξ⟩
   |cons x r=>exact⟨_,_,rfl,ξ⟩
  rw[e0] at f0;rw[e1] at f1;refine OK$ QI O$ Pw O$ P4 QB O$ Pb Ym O (f0) ?_;rintro _ w1 ⟨rfl,rfl⟩;refine OT O$ qV (Ry (v:=I v0) O O)$ qV (Ry (v:= .bool o0) O O)$ SH O$ QW O$ Pl O$ Pw O$ P4 Rl O$ Pb Ym O (f1) ?_;rintro _ w1 ⟨rfl,rfl⟩;refine OT O$ qV (Ry (v:=I v1) O O)$ qV (Ry (v:= .bool o1) O O)$ Qr O$ Pu.qb (e:=[(0,_),(1,_),(4,_),(5,_),(7,_),(9,_)]) ?_;refine PR O$ Pb ze6 O (z2t h1 hA cD) ?_;rintro _ w2 ⟨rfl,ae⟩;have h2:=h1.ext ae;have bB:=ae.OH aM;have aF:=ad.trans ae;have z2:=ae.size;have ew:=h2.cells;have aa:=Ext.Pa w2;obtain⟨a2,c2,e2,-⟩:∃a c,(V 2).1= .slice a A.P9.length c/\_:=(h.q 2 ψ).sl.rd.shape;obtain⟨a3,c3,e3,-⟩:∃a c,(V 3).1= .slice a A.P6.length c/\_:=(h.q 3 ψ).sl.rd.shape;rw[e2,e3] at ew;have nr:=Vo h2 (j:=2) (k:=k) ψ;have rg:=Vo h2 (j:=3) (k:=k) ψ;rw[show A.li 2=A.P9 from rfl] at nr;rw[show A.li 3=A.P6 from rfl] at rg;have n4':∀b,SE c V p b->b≠b4:=n4;have l42:b4<w2.heap.size:=by omega
  by_cases cf:A.once.length+A.often.length=A.size
  ·rw [decide_eq_true cf]
   cases IX:o0 with
   | true =>
     subst IX;refine Pl O$ qV ((S5 O))$ Ra O$ OT O$ QY$ PT O$ Qm O$ QO$ Pt O$ Pw O$ P4 QS O$ OT O$ Pb XC O (nr) ?_;rintro _ w2 ⟨rfl,rfl⟩;by_cases hg:k∈A.P9
     ·rw[decide_eq_true hg];refine P3 O$ OZ O$ An ?_;have sB:0<A.P9.length:=List.length_pos_of_mem hg;obtain⟨q,hq⟩:∃q,A.P6.length / A.P9.length=q:=⟨_,rfl⟩;have gS:q<=2000:=by rw[<-hq];exact Nat.le_trans (Nat.div_le_self _ _) lQ
      have ns:(A.P6.length:Int) / (A.P9.length:Int)=(q:Int):=by rw[<-hq];exact(Int.natCast_ediv _ _).symm
      refine Pk [27] (λw'=>Ext w2 w') (by kernel_rfl) O$ PW 0 O O (aa)$ PW 1 O O (aa)$ Pr 2 O (Qd O) aa$ Pr 3 O (Px Sw O) aa$ qL 4 O (λ_ h=>OS U3 O O (h.OH ew) O) aa$ PW 5 O O (aa)$ Pr 6 O (Qd O) aa$ Pr 7 O (Px Rh O) aa$ qL 8 O (λ_ h=>OS U3 O O (h.OH ew) O) aa$ PW 9 O O (aa)$ Pr 10 O (Qd O) aa$ Pr 11 O (Px Ri O) aa$ Pr 12 O (Px Qf O) aa ?_;refine qL 13 O (λ_ h=>OS Rr O O (h.OH ew) O) aa$ Pr 14 O (SI Rr O) aa$ PW 15 O O (aa)$ Pr 16 O (Qd O) aa$ Pr 17 O (Px QS O) aa$ Pr 18 O (Px Qf O) aa$ qL 19 O (λ_ h=>OS Rr O O (h.OH ew) O) aa$ Pr 20 O (SI Rr O) aa$ Pr 21 O (WX O O ⟨ω,ω,ω⟩) aa ?_;rw[ns];refine Pr 22 O (yma O O) aa$ Pr 23 O (UN O O ω) aa$ Pr 24 O (ymi O O) aa$ Pr 25 O (Qd O) aa$ Pr 26 O (Px Rh O) aa$ Ty [27]$ qO 27$ PJ (i:=27) O O (QP Qe O O O (aa.OH ew) ξ) ?_;rintro w5 ⟨aK,aj⟩;refine⟨trivial,?_⟩;obtain⟨T,hT⟩:∃T:Int,min (A.size:Int) (A.target+max 1 (q:Int))=T:=⟨_,rfl⟩;have oy:0<=T/\T<=A.size:=by omega
      rw[hT] at aK
      replace aK:OU w5 c (acC A.size T V p) 173:=by
       show OU w5 c [I (A.size:Int),(V 0).1,(V 0).2,(V 1).1,(V 1).2,(V 2).1,(V 2).2,(V 3).1,(V 3).2,I T,.map (some p)] _;rw[e2,e3];exact aK
      have bO:=(h2.ext aa).ZG aK aj;have aU:=hA.ZG oy;obtain⟨A5,bG⟩:∃A5:Arc,{A with target:=T}=A5:=⟨_,rfl⟩;have pu:A5.size=A.size:=by rw[<-bG]
      have oz:¬A5.held k:=by rw[<-bG];exact mx
      have ss:k∈A5.P9:=by rw[<-bG];exact hg
      rw[bG] at bO aU;refine qE$ Pu.qb (e:=[(0,_),(1,_),(4,_),(5,_)]) ?_;refine Pt O$ Pb z1B O (TK bO.m aU ω false) ?_;rintro _ w6 ⟨rfl,V6,cI⟩;have ay:=Arc.Tk aU false;obtain⟨r6,cz⟩:∃r,A5.room false=r:=⟨_,rfl⟩;rw[cz] at cI ay⊢;obtain⟨A6,g6⟩:=r6;dsimp only at cI ay⊢;have gE:=ay.perm.length_eq;have jz:=A6.QQ;have oA:=A5.QQ;have oB:=aU.total;have aD:=((h2.r aa).trans bO).trans cI;have bV:=aD.k.OH bB (λe=>n4' _ e O);refine OY O (PL (news:=RD false g6) PB O O O O bV ξ) ?_;rintro w7 ⟨bq,aB⟩;replace bq:OU w7 b4 [.bool false,.bool g6.isSome,I (g6.getD 0)] 245:=bq;have n46:=aD.mono n4' l42;have gy:=aD.m.kp aB n46;refine qM O$ OT O$ Pw O$ P4 QS O$ OT O$ Pb SU O (Qn gy (j:=2) (k:=k) ψ) ?_;rintro _ w8 ⟨rfl,V8,fR⟩
      have dS:k∉(A6.Qp 2 ((A6.li 2).erase k)).li 1:=by
       show k∉A6.often;exact λe=>oz ((ay.gone k).1 (.inr e)).1
      refine OJ$ Rp O$ Pw O$ P4 Rl O$ OT O$ Pb Tq O (QR fR.m (j:=1) (k:=k) ψ dS (by show A6.often.length<=_;omega)) ?_;rintro _ w9 ⟨rfl,V9,i3⟩;have ba:=fR.trans i3;have bU:=ba.k.OH bq (λe=>n46 _ e O);have ey:=bU
      have cA:∀b,SE c V9 p b->SE c V p b\/w2.heap.size<=b:=λb hb=>by
       rcases ba.fp b hb with h5|h5
       ·exact aD.fp b h5
       ·have:=aD.k.size;have:=aB.size;exact .inr ω
      have aw:Kp (λj=>SE c V p j\/j=b4) w2 w9:=((aD.k.ON λj e=> .inl e).trans (aB.ON λj e=> .inr e)).It ba.k (λj e=>by
       rcases aD.fp j e with h5|h5
       ·exact .inr (.inl h5)
       ·exact .inl h5)
      refine OJ$ OG$ qN O$ qV (Pv (news:=RD false g6) SK O PB O (OU.cells (n:=3) ey O) O)$ OY O (PL (news:=RD false g6) PB O O O O ey ξ) ?_;rintro we ⟨dp,bL⟩;replace dp:OU we b4 [.bool false,.bool g6.isSome,I (g6.getD 0)] 245:=dp;refine P3 O$ Po func143 (.cell SK O PB O (OU.cells (n:=3) dp (news:=[_,_,_]) O) O (.tmp O .nil)) ?_
      have n49:∀b,SE c V9 p b->b≠b4:=λb hb e=>by
       rcases cA b hb with h5|h5
       ·exact n4' b h5 e
       ·omega
      have ff:A.Rq k=({A6 with P9:=A6.P9.erase k,often:=A6.often++[k]},false,g6):=by
       unfold Arc.Rq;rw[if_neg bC,if_pos hg];dsimp only;rw[hq,hT,bG,cz]
      rw[ff]
      exact⟨_,rfl,rfl,V9,ba.m.kp bL n49,λb hb=>(cA b hb).imp id (λe=>by omega),(aF.kp.It aw (λj e=>by
       rcases e with e| e
       ·exact .inr e
       ·exact .inl ω)).It bL (λj e=> .inl ω)⟩
     ·have sC:=hg;rw[decide_eq_false hg];refine P3 O$ OR O$ Pt O$ Pw O$ P4 Ri O$ OT O$ Pb XC O (rg) ?_;rintro _ w2 ⟨rfl,rfl⟩;by_cases hg:k∈A.P6
      ·rw[decide_eq_true hg];refine P3 O$ Pu.qb (e:=[(0,_),(1,_),(4,_),(5,_),(111,_)]) ?_;refine OZ O$ An ?_;have sB:0<A.P6.length:=List.length_pos_of_mem hg;obtain⟨q,hq⟩:∃q,A.P9.length / A.P6.length=q:=⟨_,rfl⟩;have gS:q<=2000:=by rw[<-hq];exact Nat.le_trans (Nat.div_le_self _ _) im
       have ns:(A.P9.length:Int) / (A.P6.length:Int)=(q:Int):=by rw[<-hq];exact(Int.natCast_ediv _ _).symm
       refine Pk [23] (λw'=>Ext w2 w') (by kernel_rfl) O$ PW 0 O O (aa)$ PW 1 O O (aa)$ Pr 2 O (Qd O) aa$ Pr 3 O (Px Rh O) aa$ qL 4 O (λ_ h=>OS U3 O O (h.OH ew) O) aa$ PW 5 O O (aa)$ Pr 6 O (Qd O) aa$ Pr 7 O (Px QS O) aa$ Pr 8 O (Px Qf O) aa$ qL 9 O (λ_ h=>OS Rr O O (h.OH ew) O) aa$ Pr 10 O (SI Rr O) aa$ PW 11 O O (aa)$ Pr 12 O (Qd O) aa ?_;refine Pr 13 O (Px Ri O) aa$ Pr 14 O (Px Qf O) aa$ qL 15 O (λ_ h=>OS Rr O O (h.OH ew) O) aa$ Pr 16 O (SI Rr O) aa$ Pr 17 O (WX O O ⟨ω,ω,ω⟩) aa ?_;rw[ns];refine Pr 18 O (yma O O) aa$ Pr 19 O (XG O O ω) aa$ Pr 20 O (yma O O) aa$ Pr 21 O (Qd O) aa$ Pr 22 O (Px Rh O) aa$ Ty [23]$ qO 23$ PJ (i:=23) O O (QP Qe O O O (aa.OH ew) ξ) ?_;rintro w5 ⟨aK,aj⟩;refine⟨trivial,?_⟩;obtain⟨T,hT⟩:∃T:Int,max 0 (A.target-max 1 (q:Int))=T:=⟨_,rfl⟩;have oy:0<=T/\T<=A.size:=by omega
       rw[hT] at aK
       replace aK:OU w5 c (acC A.size T V p) 173:=by
        show OU w5 c [I (A.size:Int),(V 0).1,(V 0).2,(V 1).1,(V 1).2,(V 2).1,(V 2).2,(V 3).1,(V 3).2,I T,.map (some p)] _;rw[e2,e3];exact aK
       have bO:=(h2.ext aa).ZG aK aj;have aU:=hA.ZG oy;obtain⟨A5,bG⟩:∃A5:Arc,{A with target:=T}=A5:=⟨_,rfl⟩;have pu:A5.size=A.size:=by rw[<-bG]
       have oz:¬A5.held k:=by rw[<-bG];exact mx
       have ss:k∈A5.P6:=by rw[<-bG];exact hg
       rw[bG] at bO aU;refine qE$ Pu.qb (e:=[(0,_),(1,_),(4,_),(5,_)]) ?_;refine Pt O$ Pb z1B O (TK bO.m aU ω true) ?_;rintro _ w6 ⟨rfl,V6,cI⟩;have ay:=Arc.Tk aU true;obtain⟨r6,cz⟩:∃r,A5.room true=r:=⟨_,rfl⟩;rw[cz] at cI ay⊢;obtain⟨A6,g6⟩:=r6;dsimp only at cI ay⊢;have gE:=ay.perm.length_eq;have jz:=A6.QQ;have oA:=A5.QQ;have oB:=aU.total;have aD:=((h2.r aa).trans bO).trans cI;have bV:=aD.k.OH bB (λe=>n4' _ e O);refine OY O (PL (news:=RD false g6) PB O O O O bV ξ) ?_;rintro w7 ⟨bq,aB⟩;replace bq:OU w7 b4 [.bool false,.bool g6.isSome,I (g6.getD 0)] 245:=bq;have n46:=aD.mono n4' l42;have gy:=aD.m.kp aB n46;refine qM O$ OT O$ Pw O$ P4 Ri O$ OT O$ Pb SU O (Qn gy (j:=3) (k:=k) ψ) ?_;rintro _ w8 ⟨rfl,V8,fR⟩
       have dS:k∉(A6.Qp 3 ((A6.li 3).erase k)).li 1:=by
        show k∉A6.often;exact λe=>oz ((ay.gone k).1 (.inr e)).1
       refine OJ$ Rp O$ Pw O$ P4 Rl O$ OT O$ Pb Tq O (QR fR.m (j:=1) (k:=k) ψ dS (by show A6.often.length<=_;omega)) ?_;rintro _ w9 ⟨rfl,V9,i3⟩;have ba:=fR.trans i3;have bU:=ba.k.OH bq (λe=>n46 _ e O);have ey:=bU
       have cA:∀b,SE c V9 p b->SE c V p b\/w2.heap.size<=b:=λb hb=>by
        rcases ba.fp b hb with h5|h5
        ·exact aD.fp b h5
        ·have:=aD.k.size;have:=aB.size;exact .inr ω
       have aw:Kp (λj=>SE c V p j\/j=b4) w2 w9:=((aD.k.ON λj e=> .inl e).trans (aB.ON λj e=> .inr e)).It ba.k (λj e=>by
        rcases aD.fp j e with h5|h5
        ·exact .inr (.inl h5)
        ·exact .inl h5)
       refine OJ$ OG$ qN O$ qV (Pv (news:=RD false g6) SK O PB O (OU.cells (n:=3) ey O) O)$ OY O (PL (news:=RD false g6) PB O O O O ey ξ) ?_;rintro we ⟨dp,bL⟩;replace dp:OU we b4 [.bool false,.bool g6.isSome,I (g6.getD 0)] 245:=dp;refine P3 O$ Po func143 (.cell SK O PB O (OU.cells (n:=3) dp (news:=[_,_,_]) O) O (.tmp O .nil)) ?_
       have n49:∀b,SE c V9 p b->b≠b4:=λb hb e=>by
        rcases cA b hb with h5|h5
        ·exact n4' b h5 e
        ·omega
       have ff:A.Rq k=({A6 with P6:=A6.P6.erase k,often:=A6.often++[k]},false,g6):=by
        unfold Arc.Rq;rw[if_neg bC,if_neg sC,if_pos hg];dsimp only;rw[hq,hT,bG,cz]
       rw[ff]
       exact⟨_,rfl,rfl,V9,ba.m.kp bL n49,λb hb=>(cA b hb).imp id (λe=>by omega),(aF.kp.It aw (λj e=>by
        rcases e with e| e
        ·exact .inr e
        ·exact .inl ω)).It bL (λj e=> .inl ω)⟩
      ·rw[decide_eq_false hg];refine P3 O$ Pu.qb (e:=[(0,_),(1,_),(4,_),(5,_),(111,_)]) ?_;refine OR O$ Pt O$ Pb zbJ O (z1m h2 hA cD) ?_;rintro _ w6 ⟨rfl,V6,cI⟩;have dR:=Arc.z39 hA;obtain⟨r6,cz⟩:∃r,A.add=r:=⟨_,rfl⟩;rw[cz] at cI dR⊢;obtain⟨A6,g6⟩:=r6;dsimp only at cI dR⊢;obtain⟨fE,-,-⟩:=dR;have jz:=A6.QQ;have aD:=cI;have bV:=aD.k.OH bB (λe=>n4' _ e O);refine OY O (PL (news:=RD false g6) PB O O O O bV ξ) ?_;rintro w7 ⟨bq,aB⟩;replace bq:OU w7 b4 [.bool false,.bool g6.isSome,I (g6.getD 0)] 245:=bq;have n46:=aD.mono n4' l42;have gy:=aD.m.kp aB n46
       have dS:k∉A6.li 0:=by
        show k∉A6.once;exact λe=>mx ((fE.gone k).1 (.inl e)).1
       have pI:=fE.YH;refine OJ$ Rp O$ Pw O$ P4 QB O$ OT O$ Pb Tq O (QR gy (j:=0) (k:=k) ψ dS (by show A6.once.length<=_;omega)) ?_;rintro _ w9 ⟨rfl,V9,i3⟩;have ba:=i3;have bU:=ba.k.OH bq (λe=>n46 _ e O);have ey:=bU
       have cA:∀b,SE c V9 p b->SE c V p b\/w2.heap.size<=b:=λb hb=>by
        rcases ba.fp b hb with h5|h5
        ·exact aD.fp b h5
        ·have:=aD.k.size;have:=aB.size;exact .inr ω
       have aw:Kp (λj=>SE c V p j\/j=b4) w2 w9:=((aD.k.ON λj e=> .inl e).trans (aB.ON λj e=> .inr e)).It ba.k (λj e=>by
        rcases aD.fp j e with h5|h5
        ·exact .inr (.inl h5)
        ·exact .inl h5)
       refine OJ$ OG$ qN O$ qV (Pv (news:=RD false g6) SK O PB O (OU.cells (n:=3) ey O) O)$ OY O (PL (news:=RD false g6) PB O O O O ey ξ) ?_;rintro we ⟨dp,bL⟩;replace dp:OU we b4 [.bool false,.bool g6.isSome,I (g6.getD 0)] 245:=dp;refine P3 O$ Po func143 (.cell SK O PB O (OU.cells (n:=3) dp (news:=[_,_,_]) O) O (.tmp O .nil)) ?_
       have n49:∀b,SE c V9 p b->b≠b4:=λb hb e=>by
        rcases cA b hb with h5|h5
        ·exact n4' b h5 e
        ·omega
       have ff:A.Rq k=({A6 with once:=A6.once++[k]},false,g6):=by
        unfold Arc.Rq;rw[if_neg bC,if_neg sC,if_neg hg];dsimp only;rw[cz]
       rw[ff]
       exact⟨_,rfl,rfl,V9,ba.m.kp bL n49,λb hb=>(cA b hb).imp id (λe=>by omega),(aF.kp.It aw (λj e=>by
        rcases e with e| e
        ·exact .inr e
        ·exact .inl ω)).It bL (λj e=> .inl ω)⟩
   | false =>
     subst IX
     have zR:o1=true:=by
      have e:A.once=[]:=Classical.not_not.1 λe=>by have:=q0.2 e;cases this
      rw[e] at cf;exact q1.2 λe=>by rw[e] at cf;simp at cf;omega
     subst zR;refine Pl O$ qV ((S5 O))$ Ra O$ Pl O$ qV ((S5 O))$ Ra O$ Qm O$ QO$ Pt O$ Pw O$ P4 QS O$ OT O$ Pb XC O (nr) ?_;rintro _ w2 ⟨rfl,rfl⟩;by_cases hg:k∈A.P9
     ·rw[decide_eq_true hg];refine P3 O$ OZ O$ An ?_;have sB:0<A.P9.length:=List.length_pos_of_mem hg;obtain⟨q,hq⟩:∃q,A.P6.length / A.P9.length=q:=⟨_,rfl⟩;have gS:q<=2000:=by rw[<-hq];exact Nat.le_trans (Nat.div_le_self _ _) lQ
      have ns:(A.P6.length:Int) / (A.P9.length:Int)=(q:Int):=by rw[<-hq];exact(Int.natCast_ediv _ _).symm
      refine Pk [27] (λw'=>Ext w2 w') (by kernel_rfl) O$ PW 0 O O (aa)$ PW 1 O O (aa)$ Pr 2 O (Qd O) aa$ Pr 3 O (Px Sw O) aa$ qL 4 O (λ_ h=>OS U3 O O (h.OH ew) O) aa$ PW 5 O O (aa)$ Pr 6 O (Qd O) aa$ Pr 7 O (Px Rh O) aa$ qL 8 O (λ_ h=>OS U3 O O (h.OH ew) O) aa$ PW 9 O O (aa)$ Pr 10 O (Qd O) aa$ Pr 11 O (Px Ri O) aa$ Pr 12 O (Px Qf O) aa ?_;refine qL 13 O (λ_ h=>OS Rr O O (h.OH ew) O) aa$ Pr 14 O (SI Rr O) aa$ PW 15 O O (aa)$ Pr 16 O (Qd O) aa$ Pr 17 O (Px QS O) aa$ Pr 18 O (Px Qf O) aa$ qL 19 O (λ_ h=>OS Rr O O (h.OH ew) O) aa$ Pr 20 O (SI Rr O) aa$ Pr 21 O (WX O O ⟨ω,ω,ω⟩) aa ?_;rw[ns];refine Pr 22 O (yma O O) aa$ Pr 23 O (UN O O ω) aa$ Pr 24 O (ymi O O) aa$ Pr 25 O (Qd O) aa$ Pr 26 O (Px Rh O) aa$ Ty [27]$ qO 27$ PJ (i:=27) O O (QP Qe O O O (aa.OH ew) ξ) ?_;rintro w5 ⟨aK,aj⟩;refine⟨trivial,?_⟩;obtain⟨T,hT⟩:∃T:Int,min (A.size:Int) (A.target+max 1 (q:Int))=T:=⟨_,rfl⟩;have oy:0<=T/\T<=A.size:=by omega
      rw[hT] at aK
      replace aK:OU w5 c (acC A.size T V p) 173:=by
       show OU w5 c [I (A.size:Int),(V 0).1,(V 0).2,(V 1).1,(V 1).2,(V 2).1,(V 2).2,(V 3).1,(V 3).2,I T,.map (some p)] _;rw[e2,e3];exact aK
      have bO:=(h2.ext aa).ZG aK aj;have aU:=hA.ZG oy;obtain⟨A5,bG⟩:∃A5:Arc,{A with target:=T}=A5:=⟨_,rfl⟩;have pu:A5.size=A.size:=by rw[<-bG]
      have oz:¬A5.held k:=by rw[<-bG];exact mx
      have ss:k∈A5.P9:=by rw[<-bG];exact hg
      rw[bG] at bO aU;refine qE$ Pu.qb (e:=[(0,_),(1,_),(4,_),(5,_)]) ?_;refine Pt O$ Pb z1B O (TK bO.m aU ω false) ?_;rintro _ w6 ⟨rfl,V6,cI⟩;have ay:=Arc.Tk aU false;obtain⟨r6,cz⟩:∃r,A5.room false=r:=⟨_,rfl⟩;rw[cz] at cI ay⊢;obtain⟨A6,g6⟩:=r6;dsimp only at cI ay⊢;have gE:=ay.perm.length_eq;have jz:=A6.QQ;have oA:=A5.QQ;have oB:=aU.total;have aD:=((h2.r aa).trans bO).trans cI;have bV:=aD.k.OH bB (λe=>n4' _ e O);refine OY O (PL (news:=RD false g6) PB O O O O bV ξ) ?_;rintro w7 ⟨bq,aB⟩;replace bq:OU w7 b4 [.bool false,.bool g6.isSome,I (g6.getD 0)] 245:=bq;have n46:=aD.mono n4' l42;have gy:=aD.m.kp aB n46;refine qM O$ OT O$ Pw O$ P4 QS O$ OT O$ Pb SU O (Qn gy (j:=2) (k:=k) ψ) ?_;rintro _ w8 ⟨rfl,V8,fR⟩
      have dS:k∉(A6.Qp 2 ((A6.li 2).erase k)).li 1:=by
       show k∉A6.often;exact λe=>oz ((ay.gone k).1 (.inr e)).1
      refine OJ$ Rp O$ Pw O$ P4 Rl O$ OT O$ Pb Tq O (QR fR.m (j:=1) (k:=k) ψ dS (by show A6.often.length<=_;omega)) ?_;rintro _ w9 ⟨rfl,V9,i3⟩;have ba:=fR.trans i3;have bU:=ba.k.OH bq (λe=>n46 _ e O);have ey:=bU
      have cA:∀b,SE c V9 p b->SE c V p b\/w2.heap.size<=b:=λb hb=>by
       rcases ba.fp b hb with h5|h5
       ·exact aD.fp b h5
       ·have:=aD.k.size;have:=aB.size;exact .inr ω
      have aw:Kp (λj=>SE c V p j\/j=b4) w2 w9:=((aD.k.ON λj e=> .inl e).trans (aB.ON λj e=> .inr e)).It ba.k (λj e=>by
       rcases aD.fp j e with h5|h5
       ·exact .inr (.inl h5)
       ·exact .inl h5)
      refine OJ$ OG$ qN O$ qV (Pv (news:=RD false g6) SK O PB O (OU.cells (n:=3) ey O) O)$ OY O (PL (news:=RD false g6) PB O O O O ey ξ) ?_;rintro we ⟨dp,bL⟩;replace dp:OU we b4 [.bool false,.bool g6.isSome,I (g6.getD 0)] 245:=dp;refine P3 O$ Po func143 (.cell SK O PB O (OU.cells (n:=3) dp (news:=[_,_,_]) O) O (.tmp O .nil)) ?_
      have n49:∀b,SE c V9 p b->b≠b4:=λb hb e=>by
       rcases cA b hb with h5|h5
       ·exact n4' b h5 e
       ·omega
      have ff:A.Rq k=({A6 with P9:=A6.P9.erase k,often:=A6.often++[k]},false,g6):=by
       unfold Arc.Rq;rw[if_neg bC,if_pos hg];dsimp only;rw[hq,hT,bG,cz]
      rw[ff]
      exact⟨_,rfl,rfl,V9,ba.m.kp bL n49,λb hb=>(cA b hb).imp id (λe=>by omega),(aF.kp.It aw (λj e=>by
       rcases e with e| e
       ·exact .inr e
       ·exact .inl ω)).It bL (λj e=> .inl ω)⟩
     ·have sC:=hg;rw[decide_eq_false hg];refine P3 O$ OR O$ Pt O$ Pw O$ P4 Ri O$ OT O$ Pb XC O (rg) ?_;rintro _ w2 ⟨rfl,rfl⟩;by_cases hg:k∈A.P6
      ·rw[decide_eq_true hg];refine P3 O$ Pu.qb (e:=[(0,_),(1,_),(4,_),(5,_),(111,_)]) ?_;refine OZ O$ An ?_;have sB:0<A.P6.length:=List.length_pos_of_mem hg;obtain⟨q,hq⟩:∃q,A.P9.length / A.P6.length=q:=⟨_,rfl⟩;have gS:q<=2000:=by rw[<-hq];exact Nat.le_trans (Nat.div_le_self _ _) im
       have ns:(A.P9.length:Int) / (A.P6.length:Int)=(q:Int):=by rw[<-hq];exact(Int.natCast_ediv _ _).symm
       refine Pk [23] (λw'=>Ext w2 w') (by kernel_rfl) O$ PW 0 O O (aa)$ PW 1 O O (aa)$ Pr 2 O (Qd O) aa$ Pr 3 O (Px Rh O) aa$ qL 4 O (λ_ h=>OS U3 O O (h.OH ew) O) aa$ PW 5 O O (aa)$ Pr 6 O (Qd O) aa$ Pr 7 O (Px QS O) aa$ Pr 8 O (Px Qf O) aa$ qL 9 O (λ_ h=>OS Rr O O (h.OH ew) O) aa$ Pr 10 O (SI Rr O) aa$ PW 11 O O (aa)$ Pr 12 O (Qd O) aa ?_;refine Pr 13 O (Px Ri O) aa$ Pr 14 O (Px Qf O) aa$ qL 15 O (λ_ h=>OS Rr O O (h.OH ew) O) aa$ Pr 16 O (SI Rr O) aa$ Pr 17 O (WX O O ⟨ω,ω,ω⟩) aa ?_;rw[ns];refine Pr 18 O (yma O O) aa$ Pr 19 O (XG O O ω) aa$ Pr 20 O (yma O O) aa$ Pr 21 O (Qd O) aa$ Pr 22 O (Px Rh O) aa$ Ty [23]$ qO 23$ PJ (i:=23) O O (QP Qe O O O (aa.OH ew) ξ) ?_;rintro w5 ⟨aK,aj⟩;refine⟨trivial,?_⟩;obtain⟨T,hT⟩:∃T:Int,max 0 (A.target-max 1 (q:Int))=T:=⟨_,rfl⟩;have oy:0<=T/\T<=A.size:=by omega
       rw[hT] at aK
       replace aK:OU w5 c (acC A.size T V p) 173:=by
        show OU w5 c [I (A.size:Int),(V 0).1,(V 0).2,(V 1).1,(V 1).2,(V 2).1,(V 2).2,(V 3).1,(V 3).2,I T,.map (some p)] _;rw[e2,e3];exact aK
       have bO:=(h2.ext aa).ZG aK aj;have aU:=hA.ZG oy;obtain⟨A5,bG⟩:∃A5:Arc,{A with target:=T}=A5:=⟨_,rfl⟩;have pu:A5.size=A.size:=by rw[<-bG]
       have oz:¬A5.held k:=by rw[<-bG];exact mx
       have ss:k∈A5.P6:=by rw[<-bG];exact hg
       rw[bG] at bO aU;refine qE$ Pu.qb (e:=[(0,_),(1,_),(4,_),(5,_)]) ?_;refine Pt O$ Pb z1B O (TK bO.m aU ω true) ?_;rintro _ w6 ⟨rfl,V6,cI⟩;have ay:=Arc.Tk aU true;obtain⟨r6,cz⟩:∃r,A5.room true=r:=⟨_,rfl⟩;rw[cz] at cI ay⊢;obtain⟨A6,g6⟩:=r6;dsimp only at cI ay⊢;have gE:=ay.perm.length_eq;have jz:=A6.QQ;have oA:=A5.QQ;have oB:=aU.total;have aD:=((h2.r aa).trans bO).trans cI;have bV:=aD.k.OH bB (λe=>n4' _ e O);refine OY O (PL (news:=RD false g6) PB O O O O bV ξ) ?_;rintro w7 ⟨bq,aB⟩;replace bq:OU w7 b4 [.bool false,.bool g6.isSome,I (g6.getD 0)] 245:=bq;have n46:=aD.mono n4' l42;have gy:=aD.m.kp aB n46;refine qM O$ OT O$ Pw O$ P4 Ri O$ OT O$ Pb SU O (Qn gy (j:=3) (k:=k) ψ) ?_;rintro _ w8 ⟨rfl,V8,fR⟩
       have dS:k∉(A6.Qp 3 ((A6.li 3).erase k)).li 1:=by
        show k∉A6.often;exact λe=>oz ((ay.gone k).1 (.inr e)).1
       refine OJ$ Rp O$ Pw O$ P4 Rl O$ OT O$ Pb Tq O (QR fR.m (j:=1) (k:=k) ψ dS (by show A6.often.length<=_;omega)) ?_;rintro _ w9 ⟨rfl,V9,i3⟩;have ba:=fR.trans i3;have bU:=ba.k.OH bq (λe=>n46 _ e O);have ey:=bU
       have cA:∀b,SE c V9 p b->SE c V p b\/w2.heap.size<=b:=λb hb=>by
        rcases ba.fp b hb with h5|h5
        ·exact aD.fp b h5
        ·have:=aD.k.size;have:=aB.size;exact .inr ω
       have aw:Kp (λj=>SE c V p j\/j=b4) w2 w9:=((aD.k.ON λj e=> .inl e).trans (aB.ON λj e=> .inr e)).It ba.k (λj e=>by
        rcases aD.fp j e with h5|h5
        ·exact .inr (.inl h5)
        ·exact .inl h5)
       refine OJ$ OG$ qN O$ qV (Pv (news:=RD false g6) SK O PB O (OU.cells (n:=3) ey O) O)$ OY O (PL (news:=RD false g6) PB O O O O ey ξ) ?_;rintro we ⟨dp,bL⟩;replace dp:OU we b4 [.bool false,.bool g6.isSome,I (g6.getD 0)] 245:=dp;refine P3 O$ Po func143 (.cell SK O PB O (OU.cells (n:=3) dp (news:=[_,_,_]) O) O (.tmp O .nil)) ?_
       have n49:∀b,SE c V9 p b->b≠b4:=λb hb e=>by
        rcases cA b hb with h5|h5
        ·exact n4' b h5 e
        ·omega
       have ff:A.Rq k=({A6 with P6:=A6.P6.erase k,often:=A6.often++[k]},false,g6):=by
        unfold Arc.Rq;rw[if_neg bC,if_neg sC,if_pos hg];dsimp only;rw[hq,hT,bG,cz]
       rw[ff]
       exact⟨_,rfl,rfl,V9,ba.m.kp bL n49,λb hb=>(cA b hb).imp id (λe=>by omega),(aF.kp.It aw (λj e=>by
        rcases e with e| e
        ·exact .inr e
        ·exact .inl ω)).It bL (λj e=> .inl ω)⟩
      ·rw[decide_eq_false hg];refine P3 O$ Pu.qb (e:=[(0,_),(1,_),(4,_),(5,_),(111,_)]) ?_;refine OR O$ Pt O$ Pb zbJ O (z1m h2 hA cD) ?_;rintro _ w6 ⟨rfl,V6,cI⟩;have dR:=Arc.z39 hA;obtain⟨r6,cz⟩:∃r,A.add=r:=⟨_,rfl⟩;rw[cz] at cI dR⊢;obtain⟨A6,g6⟩:=r6;dsimp only at cI dR⊢;obtain⟨fE,-,-⟩:=dR;have jz:=A6.QQ;have aD:=cI;have bV:=aD.k.OH bB (λe=>n4' _ e O);refine OY O (PL (news:=RD false g6) PB O O O O bV ξ) ?_;rintro w7 ⟨bq,aB⟩;replace bq:OU w7 b4 [.bool false,.bool g6.isSome,I (g6.getD 0)] 245:=bq;have n46:=aD.mono n4' l42;have gy:=aD.m.kp aB n46
       have dS:k∉A6.li 0:=by
        show k∉A6.once;exact λe=>mx ((fE.gone k).1 (.inl e)).1
       have pI:=fE.YH;refine OJ$ Rp O$ Pw O$ P4 QB O$ OT O$ Pb Tq O (QR gy (j:=0) (k:=k) ψ dS (by show A6.once.length<=_;omega)) ?_;rintro _ w9 ⟨rfl,V9,i3⟩;have ba:=i3;have bU:=ba.k.OH bq (λe=>n46 _ e O);have ey:=bU
       have cA:∀b,SE c V9 p b->SE c V p b\/w2.heap.size<=b:=λb hb=>by
        rcases ba.fp b hb with h5|h5
        ·exact aD.fp b h5
        ·have:=aD.k.size;have:=aB.size;exact .inr ω
       have aw:Kp (λj=>SE c V p j\/j=b4) w2 w9:=((aD.k.ON λj e=> .inl e).trans (aB.ON λj e=> .inr e)).It ba.k (λj e=>by
        rcases aD.fp j e with h5|h5
        ·exact .inr (.inl h5)
        ·exact .inl h5)
       refine OJ$ OG$ qN O$ qV (Pv (news:=RD false g6) SK O PB O (OU.cells (n:=3) ey O) O)$ OY O (PL (news:=RD false g6) PB O O O O ey ξ) ?_;rintro we ⟨dp,bL⟩;replace dp:OU we b4 [.bool false,.bool g6.isSome,I (g6.getD 0)] 245:=dp;refine P3 O$ Po func143 (.cell SK O PB O (OU.cells (n:=3) dp (news:=[_,_,_]) O) O (.tmp O .nil)) ?_
       have n49:∀b,SE c V9 p b->b≠b4:=λb hb e=>by
        rcases cA b hb with h5|h5
        ·exact n4' b h5 e
        ·omega
       have ff:A.Rq k=({A6 with once:=A6.once++[k]},false,g6):=by
        unfold Arc.Rq;rw[if_neg bC,if_neg sC,if_neg hg];dsimp only;rw[cz]
       rw[ff]
       exact⟨_,rfl,rfl,V9,ba.m.kp bL n49,λb hb=>(cA b hb).imp id (λe=>by omega),(aF.kp.It aw (λj e=>by
        rcases e with e| e
        ·exact .inr e
        ·exact .inl ω)).It bL (λj e=> .inl ω)⟩
  ·rw [decide_eq_false cf]; refine OT O (QY (PT O (OT O (QY (PT O (Qm O (QO (Pt O (Pw O (P4 QS O (OT O (Pb XC O (nr) ?_)))))))))))); rintro _ w2 ⟨rfl, rfl⟩; by_cases hg : k ∈ A.P9
   ·rw[decide_eq_true hg];refine P3 O$ OZ O$ An ?_;have sB:0<A.P9.length:=List.length_pos_of_mem hg;obtain⟨q,hq⟩:∃q,A.P6.length / A.P9.length=q:=⟨_,rfl⟩;have gS:q<=2000:=by rw[<-hq];exact Nat.le_trans (Nat.div_le_self _ _) lQ
    have ns:(A.P6.length:Int) / (A.P9.length:Int)=(q:Int):=by rw[<-hq];exact(Int.natCast_ediv _ _).symm
    refine Pk [27] (λw'=>Ext w2 w') (by kernel_rfl) O$ PW 0 O O (aa)$ PW 1 O O (aa)$ Pr 2 O (Qd O) aa$ Pr 3 O (Px Sw O) aa$ qL 4 O (λ_ h=>OS U3 O O (h.OH ew) O) aa$ PW 5 O O (aa)$ Pr 6 O (Qd O) aa$ Pr 7 O (Px Rh O) aa$ qL 8 O (λ_ h=>OS U3 O O (h.OH ew) O) aa$ PW 9 O O (aa)$ Pr 10 O (Qd O) aa$ Pr 11 O (Px Ri O) aa$ Pr 12 O (Px Qf O) aa ?_;refine qL 13 O (λ_ h=>OS Rr O O (h.OH ew) O) aa$ Pr 14 O (SI Rr O) aa$ PW 15 O O (aa)$ Pr 16 O (Qd O) aa$ Pr 17 O (Px QS O) aa$ Pr 18 O (Px Qf O) aa$ qL 19 O (λ_ h=>OS Rr O O (h.OH ew) O) aa$ Pr 20 O (SI Rr O) aa$ Pr 21 O (WX O O ⟨ω,ω,ω⟩) aa ?_;rw[ns];refine Pr 22 O (yma O O) aa$ Pr 23 O (UN O O ω) aa$ Pr 24 O (ymi O O) aa$ Pr 25 O (Qd O) aa$ Pr 26 O (Px Rh O) aa$ Ty [27]$ qO 27$ PJ (i:=27) O O (QP Qe O O O (aa.OH ew) ξ) ?_;rintro w5 ⟨aK,aj⟩;refine⟨trivial,?_⟩;obtain⟨T,hT⟩:∃T:Int,min (A.size:Int) (A.target+max 1 (q:Int))=T:=⟨_,rfl⟩;have oy:0<=T/\T<=A.size:=by omega
    rw[hT] at aK
    replace aK:OU w5 c (acC A.size T V p) 173:=by
     show OU w5 c [I (A.size:Int),(V 0).1,(V 0).2,(V 1).1,(V 1).2,(V 2).1,(V 2).2,(V 3).1,(V 3).2,I T,.map (some p)] _;rw[e2,e3];exact aK
    have bO:=(h2.ext aa).ZG aK aj;have aU:=hA.ZG oy;obtain⟨A5,bG⟩:∃A5:Arc,{A with target:=T}=A5:=⟨_,rfl⟩;have pu:A5.size=A.size:=by rw[<-bG]
    have oz:¬A5.held k:=by rw[<-bG];exact mx
    have ss:k∈A5.P9:=by rw[<-bG];exact hg
    rw[bG] at bO aU;refine qE$ Pu.qb (e:=[(0,_),(1,_),(4,_),(5,_)]) ?_;refine Pt O$ Pb z1B O (TK bO.m aU ω false) ?_;rintro _ w6 ⟨rfl,V6,cI⟩;have ay:=Arc.Tk aU false;obtain⟨r6,cz⟩:∃r,A5.room false=r:=⟨_,rfl⟩;rw[cz] at cI ay⊢;obtain⟨A6,g6⟩:=r6;dsimp only at cI ay⊢;have gE:=ay.perm.length_eq;have jz:=A6.QQ;have oA:=A5.QQ;have oB:=aU.total;have aD:=((h2.r aa).trans bO).trans cI;have bV:=aD.k.OH bB (λe=>n4' _ e O);refine OY O (PL (news:=RD false g6) PB O O O O bV ξ) ?_;rintro w7 ⟨bq,aB⟩;replace bq:OU w7 b4 [.bool false,.bool g6.isSome,I (g6.getD 0)] 245:=bq;have n46:=aD.mono n4' l42;have gy:=aD.m.kp aB n46;refine qM O$ OT O$ Pw O$ P4 QS O$ OT O$ Pb SU O (Qn gy (j:=2) (k:=k) ψ) ?_;rintro _ w8 ⟨rfl,V8,fR⟩
    have dS:k∉(A6.Qp 2 ((A6.li 2).erase k)).li 1:=by
     show k∉A6.often;exact λe=>oz ((ay.gone k).1 (.inr e)).1
    refine OJ$ Rp O$ Pw O$ P4 Rl O$ OT O$ Pb Tq O (QR fR.m (j:=1) (k:=k) ψ dS (by show A6.often.length<=_;omega)) ?_;rintro _ w9 ⟨rfl,V9,i3⟩;have ba:=fR.trans i3;have bU:=ba.k.OH bq (λe=>n46 _ e O);have ey:=bU
    have cA:∀b,SE c V9 p b->SE c V p b\/w2.heap.size<=b:=λb hb=>by
     rcases ba.fp b hb with h5|h5
     ·exact aD.fp b h5
     ·have:=aD.k.size;have:=aB.size;exact .inr ω
    have aw:Kp (λj=>SE c V p j\/j=b4) w2 w9:=((aD.k.ON λj e=> .inl e).trans (aB.ON λj e=> .inr e)).It ba.k (λj e=>by
     rcases aD.fp j e with h5|h5
     ·exact .inr (.inl h5)
     ·exact .inl h5)
    refine OJ$ OG$ qN O$ qV (Pv (news:=RD false g6) SK O PB O (OU.cells (n:=3) ey O) O)$ OY O (PL (news:=RD false g6) PB O O O O ey ξ) ?_;rintro we ⟨dp,bL⟩;replace dp:OU we b4 [.bool false,.bool g6.isSome,I (g6.getD 0)] 245:=dp;refine P3 O$ Po func143 (.cell SK O PB O (OU.cells (n:=3) dp (news:=[_,_,_]) O) O (.tmp O .nil)) ?_
    have n49:∀b,SE c V9 p b->b≠b4:=λb hb e=>by
     rcases cA b hb with h5|h5
     ·exact n4' b h5 e
     ·omega
    have ff:A.Rq k=({A6 with P9:=A6.P9.erase k,often:=A6.often++[k]},false,g6):=by
     unfold Arc.Rq;rw[if_neg bC,if_pos hg];dsimp only;rw[hq,hT,bG,cz]
    rw[ff]
    exact⟨_,rfl,rfl,V9,ba.m.kp bL n49,λb hb=>(cA b hb).imp id (λe=>by omega),(aF.kp.It aw (λj e=>by
     rcases e with e| e
     ·exact .inr e
     ·exact .inl ω)).It bL (λj e=> .inl ω)⟩
   ·have sC:=hg;rw[decide_eq_false hg];refine P3 O$ OR O$ Pt O$ Pw O$ P4 Ri O$ OT O$ Pb XC O (rg) ?_;rintro _ w2 ⟨rfl,rfl⟩;by_cases hg:k∈A.P6
    ·rw[decide_eq_true hg];refine P3 O$ Pu.qb (e:=[(0,_),(1,_),(4,_),(5,_),(111,_)]) ?_;refine OZ O$ An ?_;have sB:0<A.P6.length:=List.length_pos_of_mem hg;obtain⟨q,hq⟩:∃q,A.P9.length / A.P6.length=q:=⟨_,rfl⟩;have gS:q<=2000:=by rw[<-hq];exact Nat.le_trans (Nat.div_le_self _ _) im
     have ns:(A.P9.length:Int) / (A.P6.length:Int)=(q:Int):=by rw[<-hq];exact(Int.natCast_ediv _ _).symm
     refine Pk [23] (λw'=>Ext w2 w') (by kernel_rfl) O$ PW 0 O O (aa)$ PW 1 O O (aa)$ Pr 2 O (Qd O) aa$ Pr 3 O (Px Rh O) aa$ qL 4 O (λ_ h=>OS U3 O O (h.OH ew) O) aa$ PW 5 O O (aa)$ Pr 6 O (Qd O) aa$ Pr 7 O (Px QS O) aa$ Pr 8 O (Px Qf O) aa$ qL 9 O (λ_ h=>OS Rr O O (h.OH ew) O) aa$ Pr 10 O (SI Rr O) aa$ PW 11 O O (aa)$ Pr 12 O (Qd O) aa ?_;refine Pr 13 O (Px Ri O) aa$ Pr 14 O (Px Qf O) aa$ qL 15 O (λ_ h=>OS Rr O O (h.OH ew) O) aa$ Pr 16 O (SI Rr O) aa$ Pr 17 O (WX O O ⟨ω,ω,ω⟩) aa ?_;rw[ns];refine Pr 18 O (yma O O) aa$ Pr 19 O (XG O O ω) aa$ Pr 20 O (yma O O) aa$ Pr 21 O (Qd O) aa$ Pr 22 O (Px Rh O) aa$ Ty [23]$ qO 23$ PJ (i:=23) O O (QP Qe O O O (aa.OH ew) ξ) ?_;rintro w5 ⟨aK,aj⟩;refine⟨trivial,?_⟩;obtain⟨T,hT⟩:∃T:Int,max 0 (A.target-max 1 (q:Int))=T:=⟨_,rfl⟩;have oy:0<=T/\T<=A.size:=by omega
     rw[hT] at aK
     replace aK:OU w5 c (acC A.size T V p) 173:=by
      show OU w5 c [I (A.size:Int),(V 0).1,(V 0).2,(V 1).1,(V 1).2,(V 2).1,(V 2).2,(V 3).1,(V 3).2,I T,.map (some p)] _;rw[e2,e3];exact aK
     have bO:=(h2.ext aa).ZG aK aj;have aU:=hA.ZG oy;obtain⟨A5,bG⟩:∃A5:Arc,{A with target:=T}=A5:=⟨_,rfl⟩;have pu:A5.size=A.size:=by rw[<-bG]
     have oz:¬A5.held k:=by rw[<-bG];exact mx
     have ss:k∈A5.P6:=by rw[<-bG];exact hg
     rw[bG] at bO aU;refine qE$ Pu.qb (e:=[(0,_),(1,_),(4,_),(5,_)]) ?_;refine Pt O$ Pb z1B O (TK bO.m aU ω true) ?_;rintro _ w6 ⟨rfl,V6,cI⟩;have ay:=Arc.Tk aU true;obtain⟨r6,cz⟩:∃r,A5.room true=r:=⟨_,rfl⟩;rw[cz] at cI ay⊢;obtain⟨A6,g6⟩:=r6;dsimp only at cI ay⊢;have gE:=ay.perm.length_eq;have jz:=A6.QQ;have oA:=A5.QQ;have oB:=aU.total;have aD:=((h2.r aa).trans bO).trans cI;have bV:=aD.k.OH bB (λe=>n4' _ e O);refine OY O (PL (news:=RD false g6) PB O O O O bV ξ) ?_;rintro w7 ⟨bq,aB⟩;replace bq:OU w7 b4 [.bool false,.bool g6.isSome,I (g6.getD 0)] 245:=bq;have n46:=aD.mono n4' l42;have gy:=aD.m.kp aB n46;refine qM O$ OT O$ Pw O$ P4 Ri O$ OT O$ Pb SU O (Qn gy (j:=3) (k:=k) ψ) ?_;rintro _ w8 ⟨rfl,V8,fR⟩
     have dS:k∉(A6.Qp 3 ((A6.li 3).erase k)).li 1:=by
      show k∉A6.often;exact λe=>oz ((ay.gone k).1 (.inr e)).1
     refine OJ$ Rp O$ Pw O$ P4 Rl O$ OT O$ Pb Tq O (QR fR.m (j:=1) (k:=k) ψ dS (by show A6.often.length<=_;omega)) ?_;rintro _ w9 ⟨rfl,V9,i3⟩;have ba:=fR.trans i3;have bU:=ba.k.OH bq (λe=>n46 _ e O);have ey:=bU
     have cA:∀b,SE c V9 p b->SE c V p b\/w2.heap.size<=b:=λb hb=>by
      rcases ba.fp b hb with h5|h5
      ·exact aD.fp b h5
      ·have:=aD.k.size;have:=aB.size;exact .inr ω
     have aw:Kp (λj=>SE c V p j\/j=b4) w2 w9:=((aD.k.ON λj e=> .inl e).trans (aB.ON λj e=> .inr e)).It ba.k (λj e=>by
      rcases aD.fp j e with h5|h5
      ·exact .inr (.inl h5)
      ·exact .inl h5)
     refine OJ$ OG$ qN O$ qV (Pv (news:=RD false g6) SK O PB O (OU.cells (n:=3) ey O) O)$ OY O (PL (news:=RD false g6) PB O O O O ey ξ) ?_;rintro we ⟨dp,bL⟩;replace dp:OU we b4 [.bool false,.bool g6.isSome,I (g6.getD 0)] 245:=dp;refine P3 O$ Po func143 (.cell SK O PB O (OU.cells (n:=3) dp (news:=[_,_,_]) O) O (.tmp O .nil)) ?_
     have n49:∀b,SE c V9 p b->b≠b4:=λb hb e=>by
      rcases cA b hb with h5|h5
      ·exact n4' b h5 e
      ·omega
     have ff:A.Rq k=({A6 with P6:=A6.P6.erase k,often:=A6.often++[k]},false,g6):=by
      unfold Arc.Rq;rw[if_neg bC,if_neg sC,if_pos hg];dsimp only;rw[hq,hT,bG,cz]
     rw[ff]
     exact⟨_,rfl,rfl,V9,ba.m.kp bL n49,λb hb=>(cA b hb).imp id (λe=>by omega),(aF.kp.It aw (λj e=>by
      rcases e with e| e
      ·exact .inr e
      ·exact .inl ω)).It bL (λj e=> .inl ω)⟩
    ·rw[decide_eq_false hg];refine P3 O$ Pu.qb (e:=[(0,_),(1,_),(4,_),(5,_),(111,_)]) ?_;refine OR O$ Pt O$ Pb zbJ O (z1m h2 hA cD) ?_;rintro _ w6 ⟨rfl,V6,cI⟩;have dR:=Arc.z39 hA;obtain⟨r6,cz⟩:∃r,A.add=r:=⟨_,rfl⟩;rw[cz] at cI dR⊢;obtain⟨A6,g6⟩:=r6;dsimp only at cI dR⊢;obtain⟨fE,-,-⟩:=dR;have jz:=A6.QQ;have aD:=cI;have bV:=aD.k.OH bB (λe=>n4' _ e O);refine OY O (PL (news:=RD false g6) PB O O O O bV ξ) ?_;rintro w7 ⟨bq,aB⟩;replace bq:OU w7 b4 [.bool false,.bool g6.isSome,I (g6.getD 0)] 245:=bq;have n46:=aD.mono n4' l42;have gy:=aD.m.kp aB n46
     have dS:k∉A6.li 0:=by
      show k∉A6.once;exact λe=>mx ((fE.gone k).1 (.inl e)).1
     have pI:=fE.YH;refine OJ$ Rp O$ Pw O$ P4 QB O$ OT O$ Pb Tq O (QR gy (j:=0) (k:=k) ψ dS (by show A6.once.length<=_;omega)) ?_;rintro _ w9 ⟨rfl,V9,i3⟩;have ba:=i3;have bU:=ba.k.OH bq (λe=>n46 _ e O);have ey:=bU
     have cA:∀b,SE c V9 p b->SE c V p b\/w2.heap.size<=b:=λb hb=>by
      rcases ba.fp b hb with h5|h5
      ·exact aD.fp b h5
      ·have:=aD.k.size;have:=aB.size;exact .inr ω
     have aw:Kp (λj=>SE c V p j\/j=b4) w2 w9:=((aD.k.ON λj e=> .inl e).trans (aB.ON λj e=> .inr e)).It ba.k (λj e=>by
      rcases aD.fp j e with h5|h5
      ·exact .inr (.inl h5)
      ·exact .inl h5)
     refine OJ$ OG$ qN O$ qV (Pv (news:=RD false g6) SK O PB O (OU.cells (n:=3) ey O) O)$ OY O (PL (news:=RD false g6) PB O O O O ey ξ) ?_;rintro we ⟨dp,bL⟩;replace dp:OU we b4 [.bool false,.bool g6.isSome,I (g6.getD 0)] 245:=dp;refine P3 O$ Po func143 (.cell SK O PB O (OU.cells (n:=3) dp (news:=[_,_,_]) O) O (.tmp O .nil)) ?_
     have n49:∀b,SE c V9 p b->b≠b4:=λb hb e=>by
      rcases cA b hb with h5|h5
      ·exact n4' b h5 e
      ·omega
     have ff:A.Rq k=({A6 with once:=A6.once++[k]},false,g6):=by
      unfold Arc.Rq;rw[if_neg bC,if_neg sC,if_neg hg];dsimp only;rw[cz]
     rw[ff]
     exact⟨_,rfl,rfl,V9,ba.m.kp bL n49,λb hb=>(cA b hb).imp id (λe=>by omega),(aF.kp.It aw (λj e=>by
      rcases e with e| e
      ·exact .inr e
      ·exact .inl ω)).It bL (λj e=> .inl ω)⟩
end
def Arc.z7h (A:Arc)(k:Int):Nat->Arc
 |0=>A
 |i+1=>(A.z7h k i).Qp i (((A.z7h k i).li i).erase k)
def Arc.drop (A:Arc)(k:Int):Arc:=A.z7h k 4
theorem Arc.drop_eq (A:Arc)(k:Int):A.drop k={A with once:=A.once.erase k,often:=A.often.erase k,P9:=A.P9.erase k,P6:=A.P6.erase k}:=rfl
theorem Arc.Ok.drop {A:Arc}(h:A.Ok)(k:Int):(A.drop k).Ok:=by
 rw[Arc.drop_eq]
 have hs:(A.once.erase k++(A.often.erase k++(A.P9.erase k++A.P6.erase k))).Sublist A.all:=List.erase_sublist.append (List.erase_sublist.append (List.erase_sublist.append List.erase_sublist))
 have a1:(A.once.erase k).length<=A.once.length:=List.length_erase_le
 have a2:(A.often.erase k).length<=A.often.length:=List.length_erase_le
 have a3:(A.P9.erase k).length<=A.P9.length:=List.length_erase_le
 have h1:=h.held
 have h2:=h.first
 exact⟨h.pos,h.nd.sublist hs,by dsimp only;omega,by dsimp only;omega,Nat.le_trans hs.length_le h.total,h.tg⟩
def Arc.z9x {A:Arc}(h:A.Ok)(k x:Int):(A.drop k).held x↔A.held x/\x≠k:=by
 have eU:=h.nd
 unfold Arc.all at eU
 rw[List.nodup_append] at eU
 obtain⟨nd1,nd2,-⟩:=eU
 rw[List.nodup_append] at nd2
 obtain⟨nd4,-,-⟩:=nd2
 rw[Arc.drop_eq]
 unfold Arc.held
 dsimp only
 rw[nd1.mem_erase_iff,nd4.mem_erase_iff]
 constructor
 ·rintro(⟨a,b⟩|⟨a,b⟩)
  ·exact⟨.inl b,a⟩
  ·exact⟨.inr b,a⟩
 ·rintro⟨b|b,a⟩
  ·exact .inl ⟨a,b⟩
  ·exact .inr ⟨a,b⟩
section
variable {w w' w2:World}{c p:Nat}{A:Arc}{V V':Nat->Value×Value}{k:Int}
theorem z99 (h:SX w c A V p):Ps prog 132 [ptr c 0,I k] w λv w'=>(∃z,v=I z)/\∃V',Wb w c V p w' (A.drop k) V':=by
 have hB:=h.cells
 have nr:=Vo h (j:=2) (k:=k) ψ
 have rg:=Vo h (j:=3) (k:=k) ψ
 rw[show A.li 2=A.P9 from rfl] at nr
 rw[show A.li 3=A.P6 from rfl] at rg
 refine py (e:=[(0,_),(1,_)]) func132 O ntmps132 O O$ QN O$ An$ PI (λe' w'=>e'=[(0,ptr c 0),(1,I k)]/\w'=w) ?cX$ λcX=>?iP
 case cX=>
  rintro e' w1 ⟨rfl,rfl⟩;have hg:=Ext.Pa w1;refine An$ An$ R0 (λw'=>Ext w1 w') O$ P8 0 O O (hg)$ OM 1 O (Qd O) hg$ OM 2 O (Px QB O) hg$ P8 3 O O (hg)$ OM 4 O (Qd O) hg$ OM 5 O (Px Rl O) hg$ P8 6 O O (hg)$ OM 7 O (Qd O) hg$ OM 8 O (Px QS O) hg$ P8 9 O O (hg)$ OM 10 O (Qd O) hg ?_;refine OM 11 O (Px Ri O) hg$ P8 14 O O (hg)$ qO 12$ Xp (i:=12) O O O (Yx (cs:=[_,_,_,_]) (zs:=[Value.pointer none,Value.pointer none,Value.pointer none,Value.pointer none]) zeH zdH O (by kernel_rfl) O O O ψ) ?_;rintro _ w2 ⟨b51,rfl,⟨Fo,ae,Mf⟩,zV⟩;refine⟨hg.trans ae,?_⟩;have aI:=hg.trans ae;refine OM 13 O (SI zeH O) (hg.trans ae)$ qE$ OL ?_;have aS:∀{b:Nat},SE c V p b->b<w1.heap.size:=h.lt;have lb:=zV.lt (g:=b51) O;have z12:=hg.size;have Fp:=zV.rd;refine RN (α:=Nat×(Nat->Value×Value)) ((0,V)) (λx=>[(1,I k),(51,.slice (some ⟨b51,0,none⟩) 4 4),(52,I 4),(53,I (x.1:Int))]) (λx w'=>x.1<=4/\Wb w2 c V p w' (A.z7h k x.1) x.2/\Rd w' (.slice (some ⟨b51,0,none⟩) 4 4) 1 4 [ptr c 1,ptr c 3,ptr c 5,ptr c 7]) (λx=>4-x.1) ?hI ?hround
  case hI=>exact⟨Nat.zero_le _,(h.ext aI).r (Ext.refl w2),Fp⟩
  case hround=>
   rintro⟨i,Vi⟩ w3 ⟨hi,mB,Fr⟩ ih;dsimp only at hi mB Fr ih⊢
   try dsimp only
   refine qN O$ QV O$ OJ$ An$ OX O (λh0=>?_)$ λh0=>?_
   ·have pz:i<4:=by omega
    have hx:([ptr c 1,ptr c 3,ptr c 5,ptr c 7]:List Value)[i]? =some (ptr c (1+2*i)):=by
     match i,pz with
     |0,_|1,_|2,_|3,_=>rfl
    refine OK$ QO$ qN O$ qV (Qc zeH zdH O O ω)$ qV (PC zkw O O (PY Fr hx))$ P3 O$ OQ O$ Pl O$ Pb SU O (Qn mB.m (j:=i) (k:=k) pz) ?_;rintro _ w4 ⟨rfl,V4,bF⟩;refine OJ$ OG$ OQ O$ Q4 O$ OT O$ OJ ((ih (i+1,V4) _ ⟨pz,mB.trans bF,Fr.kp bF.k λg e hf=>?_⟩ (by dsimp only;omega)).qb);have e':b51=g:=RB e;rcases mB.fp _ hf with e| e
    ·have:=aS e;have hb:b51=w1.drew.heap.size:=Fo;omega
    ·omega
   ·have pz:i=4:=by omega
    subst pz;refine OV O$ QN O$ OI func132 O ?_;exact⟨_,rfl,⟨0,rfl⟩,Vi,(h.r aI).trans mB⟩
 case iP =>
  refine OL$ Pt O$ qV (Qb za9 O O)$ P3 O$ OR O$ QI O$ Pb zdw O (z2o h (k:=k)) ?_;rintro _ w ⟨rfl,rfl⟩;by_cases fP:k∈A.once\/k∈A.often
  ·rw[decide_eq_true fP];refine qV ((S5 O))$ OT O$ QY$ QY$ QY$ PT O$ OT O$ QY$ QY$ QY$ PT O$ P3 O$ Pu.qb (e:=[(0,_),(1,_),(4,_),(10,_)]) ?_;refine OR O$ Pt O$ Pw O$ P4 z0p O$ qV (OS Xl O O hB O)$ OT O$ qV (ylk (k:=k) (K:=KI) Xl (Sc U3) Qe O O h.pins)$ QD O$ PO$ P3 O$ SO O$ OG ?_;exact(cX _ _ ⟨rfl,rfl⟩).qb
  ·rw [decide_eq_false fP]; refine qV ((S5 O)) (Pl O (Pw O (P4 QS O (OT O (Pb XC O (nr) ?_))))); rintro _ w ⟨rfl, rfl⟩; by_cases am : k ∈ A.P9
   ·rw[decide_eq_true am];refine qV ((S5 O))$ Ra O$ OT O$ QY$ QY$ QY$ PT O$ P3 O$ Pu.qb (e:=[(0,_),(1,_),(4,_),(10,_)]) ?_;refine OR O$ Pt O$ Pw O$ P4 z0p O$ qV (OS Xl O O hB O)$ OT O$ qV (ylk (k:=k) (K:=KI) Xl (Sc U3) Qe O O h.pins)$ QD O$ PO$ P3 O$ SO O$ OG ?_;exact(cX _ _ ⟨rfl,rfl⟩).qb
   ·rw[decide_eq_false am];refine qV ((S5 O))$ Ra O$ Pl O$ Pw O$ P4 Ri O$ OT O$ Pb XC O (rg) ?_;rintro _ w ⟨rfl,rfl⟩;by_cases av:k∈A.P6
    ·rw[decide_eq_true av];refine qV ((S5 O))$ Ra O$ P3 O$ Pu.qb (e:=[(0,_),(1,_),(4,_),(10,_)]) ?_;refine OR O$ Pt O$ Pw O$ P4 z0p O$ qV (OS Xl O O hB O)$ OT O$ qV (ylk (k:=k) (K:=KI) Xl (Sc U3) Qe O O h.pins)$ QD O$ PO$ P3 O$ SO O$ OG ?_;exact(cX _ _ ⟨rfl,rfl⟩).qb
    ·rw[decide_eq_false av];refine qV ((S5 O))$ Ra O$ P3 O$ Pu.qb (e:=[(0,_),(1,_),(4,_),(10,_)]) ?_;refine OZ O$ QN O$ OI func132 O ?_
     have hd:A.drop k=A:=by
      rw[Arc.drop_eq,List.erase_of_not_mem (λe=>fP (.inl e)),List.erase_of_not_mem (λe=>fP (.inr e)),List.erase_of_not_mem am,List.erase_of_not_mem av]
     rw[hd];exact⟨_,rfl,⟨6,rfl⟩,V,h.r (Ext.refl w)⟩
end
structure Pg where
 k:Int
 b:Nat
 t:OO
 d:Bool
def TZ (l:List Pg):List (Int×Value):=l.map λg=>(g.k,ptr g.b 0)
def pgC (t:OO)(d:Bool):List Value:=[S t,.bool d,I 0]
structure Rg where
 s:Nat
 d:Nat
 m:Nat
 gi:Nat
 c:Nat
 pm:Nat
 p:Nat
 fr:Nat
 V:Nat->Value×Value
 D:Dev
 A:Arc
 l:List Pg
 L:List Bool
 Fd:Nat->Prop
 h:Int
 mi:Int
 wr:Int
def Rg.cp (P:Rg):Nat->Nat->Prop
 |0,b=>b=P.s
 |1,b=>P.Fd b
 |2,b=>b=P.m\/b=P.gi
 |3,b=>SE P.c P.V P.p b
 |4,b=>b=P.pm
 |5,b=>∃g∈P.l,g.b=b
 |_,_=>False
def Rg.fp (P:Rg)(b:Nat):Prop:=∃i,P.cp i b
def plC (P:Rg):List Value:=[ptr P.d 0,ptr P.m 0,ptr P.c 0,.map (some P.pm),I (P.fr:Int),I P.h,I P.mi,I P.wr,I 0,I 0,I 0,.bool false]
def Dis (f:Nat->Nat->Prop):Prop:=∀i j,i≠j->∀b,f i b->¬f j b
structure Uj (w:World)(P:Rg):Prop where
 OH:OU w P.s (plC P) 113
 dev:Wc w P.d P.D P.Fd
 ext:XA w P.m P.gi P.L
 arc:SX w P.c P.A P.V P.p
 mp:SG KI w P.pm (TZ P.l)
 pg:∀g∈P.l,OU w g.b (pgC g.t g.d) 204
 pnd:(P.l.map (·.b)).Nodup
 Vk:Dis P.cp
section
variable {w w' w0:World}{P P0 P':Rg}{S:Nat->Prop}{i0:Nat}
def Uj.lt (h:Uj w P){b:Nat}(hb:P.fp b):b<w.heap.size:=by
 obtain⟨i,hi⟩:=hb
 match i,hi with
 |0,e=>rw[show b=P.s from e];exact h.OH.lt
 |1,e=>exact h.dev.lt b e
 | 2, e =>
   rcases e with e| e
   ·rw[e];exact h.ext.ltm
   ·rw[e];exact h.ext.ltg
 |3,e=>exact h.arc.lt e
 |4,e=>rw[show b=P.pm from e];exact h.mp.lt
 |5,⟨g,hg,e⟩=>rw[<-e];exact(h.pg g hg).lt
def Uj.kp (h:Uj w P)(hk:Kp S w w')(hn:∀b,P.fp b->¬S b):Uj w' P:=
 ⟨hk.OH h.OH (hn _ ⟨0,rfl⟩),h.dev.kp hk λb hb=>hn b ⟨1,hb⟩,h.ext.kp hk (hn _ ⟨2,.inl O⟩) (hn _ ⟨2,.inr O⟩),h.arc.kp hk λb hb=>hn b ⟨3,hb⟩,h.mp.kp hk (hn _ ⟨4,rfl⟩),λg hg=>hk.OH (h.pg g hg) (hn _ ⟨5,g,hg,rfl⟩),h.pnd,h.Vk⟩
theorem Uj.ext' (h:Uj w P)(hx:Ext w w'):Uj w' P:=h.kp (S:=λ_=>False) hx λ_ _=>id
def Uj.z9D (h:Uj w P)(hk:Kp (P.cp i0) w w')(ne:0≠i0):OU w' P.s (plC P) 113:=hk.OH h.OH (h.Vk 0 i0 ne _ O)
def Uj.z8R (h:Uj w P)(hk:Kp (P.cp i0) w w')(ne:1≠i0):Wc w' P.d P.D P.Fd:=h.dev.kp hk λb hb=>h.Vk 1 i0 ne b hb
def Uj.text (h:Uj w P)(hk:Kp (P.cp i0) w w')(ne:2≠i0):XA w' P.m P.gi P.L:=h.ext.kp hk (h.Vk 2 i0 ne _ (.inl O)) (h.Vk 2 i0 ne _ (.inr O))
def Uj.z98 (h:Uj w P)(hk:Kp (P.cp i0) w w')(ne:3≠i0):SX w' P.c P.A P.V P.p:=h.arc.kp hk λb hb=>h.Vk 3 i0 ne b hb
def Uj.tmp (h:Uj w P)(hk:Kp (P.cp i0) w w')(ne:4≠i0):SG KI w' P.pm (TZ P.l):=h.mp.kp hk (h.Vk 4 i0 ne _ O)
def Uj.tpg (h:Uj w P)(hk:Kp (P.cp i0) w w')(ne:5≠i0):∀g∈P.l,OU w' g.b (pgC g.t g.d) 204:=λg hg=>hk.OH (h.pg g hg) (h.Vk 5 i0 ne _ ⟨g,hg,rfl⟩)
def Uj.zaY (h:Uj w P)(hs:∀i,i≠i0->P'.cp i=P.cp i)(hi:∀b,P'.cp i0 b->P.cp i0 b\/∀i,¬P.cp i b):Dis P'.cp:=λi j ne b hb bN=>by
 by_cases e:i=i0
 ·have e2:j≠i0:=λe2=>ne (e.trans e2.symm);rw[e] at hb;rw[hs j e2] at bN;rcases hi b hb with h1|h1
  ·exact h.Vk i0 j (λe3=>e2 e3.symm) b h1 bN
  ·exact h1 j bN
 ·rw[hs i e] at hb;by_cases e2:j=i0
  ·rw[e2] at bN;rcases hi b bN with h1|h1
   ·exact h.Vk i i0 e b hb h1
   ·exact h1 i hb
  ·rw[hs j e2] at bN;exact h.Vk i j ne b hb bN
def Uj.new (h:Uj w P){b:Nat}(hb:w.heap.size<=b):∀i,¬P.cp i b:=λi e=>by have:=h.lt ⟨i,e⟩;omega
structure Up (w0:World)(P0:Rg)(w:World)(P:Rg):Prop where
 m:Uj w P
 fp:∀b,P.fp b->P0.fp b\/w0.heap.size<=b
 k:Kp P0.fp w0 w
theorem Uj.r (h:Uj w P)(hx:Ext w w'):Up w P w' P:=⟨h.ext' hx,λb hb=> .inl hb,hx.kp⟩
def Up.ext (h:Up w0 P0 w P)(hx:Ext w w'):Up w0 P0 w' P:=⟨h.m.ext' hx,h.fp,h.k.trans hx.kp⟩
def Up.loc (h:Up w0 P0 w P)(hk:Kp S w w')(hS:∀b,S b->(P0.fp b\/w0.heap.size<=b)/\∀i,¬P.cp i b):Up w0 P0 w' P:=
 ⟨h.m.kp hk λb ⟨i,hb⟩ e=>(hS b e).2 i hb,h.fp,h.k.It hk λb e=>(hS b e).1.symm⟩
theorem Up.part (h:Up w0 P0 w P)(i0:Nat)(hm:Uj w' P')(hs:∀i,i≠i0->P'.cp i=P.cp i)(hi:∀b,P'.cp i0 b->P.cp i0 b\/w0.heap.size<=b)(hk:Kp (P.cp i0) w w'):Up w0 P0 w' P':=
 ⟨hm,λb ⟨i,hb⟩=>by
  by_cases e:i=i0
  ·rw[e] at hb;rcases hi b hb with h1|h1
   ·exact h.fp b ⟨i0,h1⟩
   ·exact .inr h1
  ·rw[hs i e] at hb
   exact h.fp b ⟨i,hb⟩,h.k.It hk λb hb=>(h.fp b ⟨i0,hb⟩).symm⟩
theorem Up.trans {w2:World}{P2:Rg}(h:Up w0 P0 w P)(h2:Up w P w2 P2):Up w0 P0 w2 P2:=
 ⟨h2.m,λb hb=>by
  rcases h2.fp b hb with e| e
  ·exact h.fp b e
  ·exact .inr (by have:=h.k.size;omega),h.k.It h2.k λb hb=>(h.fp b hb).symm⟩
def Up.dev (h:Up w0 P0 w P){D':Dev}(ht:z9Y w P.d P.Fd D' w'):∃Fd',Up w0 P0 w' {P with D:=D',Fd:=Fd'}/\∀b,Fd' b->P.Fd b\/w.heap.size<=b:=by
 obtain⟨F',hd,hu⟩:=ht
 have hs:∀i,i≠1->Rg.cp {P with D:=D',Fd:=F'} i=P.cp i:=λi e=>by
  match i,e with
  |0,_|2,_|3,_|4,_|5,_=>rfl
  |i+6,_=>rfl
 have hk:Kp (P.cp 1) w w':=hu.1
 refine⟨F',h.part 1 ⟨h.m.z9D hk ψ,hd,h.m.text hk ψ,h.m.z98 hk ψ,h.m.tmp hk ψ,h.m.tpg hk ψ,h.m.pnd,h.m.zaY hs λb hb=>?_⟩ hs (λb hb=>?_) hk,hu.2⟩
 ·exact(hu.2 b hb).imp id λe=>h.m.new e
 ·exact(hu.2 b hb).imp id λe=>by have:=h.k.size;omega
def Up.arc (h:Up w0 P0 w P){A':Arc}{V':Nat->Value×Value}(hr:Wb w P.c P.V P.p w' A' V'):Up w0 P0 w' {P with A:=A',V:=V'}:=by
 have hs:∀i,i≠3->Rg.cp {P with A:=A',V:=V'} i=P.cp i:=λi e=>by
  match i,e with
  |0,_|1,_|2,_|4,_|5,_=>rfl
  |i+6,_=>rfl
 have hk:Kp (P.cp 3) w w':=hr.k
 refine h.part 3 ⟨h.m.z9D hk ψ,h.m.z8R hk ψ,h.m.text hk ψ,hr.m,h.m.tmp hk ψ,h.m.tpg hk ψ,h.m.pnd,h.m.zaY hs λb hb=>?_⟩ hs (λb hb=>?_) hk
 ·exact(hr.fp b hb).imp id λe=>h.m.new e
 ·exact(hr.fp b hb).imp id λe=>by have:=h.k.size;omega
def Up.exM (h:Up w0 P0 w P){L':List Bool}(he:XA w' P.m P.gi L')(hk:Kp (λb=>b=P.gi) w w'):Up w0 P0 w' {P with L:=L'}:=by
 have hs:∀i,i≠2->Rg.cp {P with L:=L'} i=P.cp i:=λi e=>by
  match i,e with
  |0,_|1,_|3,_|4,_|5,_=>rfl
  |i+6,_=>rfl
 have hk:Kp (P.cp 2) w w':=hk.ON λb e=> .inr e
 exact h.part 2 ⟨h.m.z9D hk ψ,h.m.z8R hk ψ,he,h.m.z98 hk ψ,h.m.tmp hk ψ,h.m.tpg hk ψ,h.m.pnd,h.m.zaY hs λb hb=> .inl hb⟩ hs (λb hb=> .inl hb) hk
def Up.cnt (h:Up w0 P0 w P){a b c:Int}(hB:OU w' P.s (plC {P with h:=a,mi:=b,wr:=c}) 113)(hk:Kp (λb=>b=P.s) w w'):Up w0 P0 w' {P with h:=a,mi:=b,wr:=c}:=by
 have hs:∀i,i≠0->Rg.cp {P with h:=a,mi:=b,wr:=c} i=P.cp i:=λi e=>by
  match i,e with
  |1,_|2,_|3,_|4,_|5,_=>rfl
  |i+6,_=>rfl
 have hk:Kp (P.cp 0) w w':=hk
 exact h.part 0 ⟨hB,h.m.z8R hk ψ,h.m.text hk ψ,h.m.z98 hk ψ,h.m.tmp hk ψ,h.m.tpg hk ψ,h.m.pnd,h.m.zaY hs λb hb=> .inl hb⟩ hs (λb hb=> .inl hb) hk
def Up.del (h:Up w0 P0 w P){l':List Pg}(hl:l'.Sublist P.l)(hm:SG KI w' P.pm (TZ l'))(hk:Kp (λb=>b=P.pm) w w'):Up w0 P0 w' {P with l:=l'}:=by
 have hk:Kp (P.cp 4) w w':=hk
 have dM:∀i b,Rg.cp {P with l:=l'} i b->P.cp i b:=λi b hb=>by
  match i,hb with
  |0,e|1,e|2,e|3,e|4,e=>exact e
  |5,⟨g,hg,e⟩=>exact⟨g,hl.subset hg,e⟩
 have hp:=h.m.tpg hk ψ
 exact⟨⟨h.m.z9D hk ψ,h.m.z8R hk ψ,h.m.text hk ψ,h.m.z98 hk ψ,hm,λg hg=>hp g (hl.subset hg),(hl.map _).nodup h.m.pnd,λi j ne b hb bN=>h.m.Vk i j ne b (dM i b hb) (dM j b bN)⟩,λb ⟨i,hb⟩=>h.fp b ⟨i,dM i b hb⟩,h.k.It hk λb hb=>(h.fp b ⟨4,hb⟩).symm⟩
def Up.ins (h:Up w0 P0 w P){g:Pg}(hg:w0.heap.size<=g.b/\∀i,¬P.cp i g.b)(hb:OU w g.b (pgC g.t g.d) 204)(hm:SG KI w' P.pm (TZ (P.l++[g])))(hk:Kp (λb=>b=P.pm) w w'):Up w0 P0 w' {P with l:=P.l++[g]}:=by
 have hk:Kp (P.cp 4) w w':=hk
 have hp:=h.m.tpg hk ψ
 have gu:∀i b,Rg.cp {P with l:=P.l++[g]} i b->P.cp i b\/(i=5/\b=g.b):=λi b hb=>by
  match i,hb with
  |0,e|1,e|2,e|3,e|4,e=>exact .inl e
  | 5, ⟨g', cQ, e⟩ =>
    rcases List.mem_append.1 cQ with e2|e2
    ·exact .inl ⟨g',e2,e⟩
    ·rw[List.mem_singleton.1 e2] at e;exact .inr ⟨rfl,e.symm⟩
 refine⟨⟨h.m.z9D hk ψ,h.m.z8R hk ψ,h.m.text hk ψ,h.m.z98 hk ψ,hm,λg' cQ=>?_,?_,λi j ne b hb bN=>?_⟩,λb ⟨i,hb⟩=>?_,h.k.It hk λb hb=>(h.fp b ⟨4,hb⟩).symm⟩
 ·rcases List.mem_append.1 cQ with e| e
  ·exact hp g' e
  ·rw[List.mem_singleton.1 e];exact hk.OH hb (hg.2 4)
 ·show((P.l++[g]).map (·.b)).Nodup;rw[List.map_append,List.nodup_append];refine⟨h.m.pnd,ξ,λa ha b hb e=>?_⟩;obtain⟨g',cQ,rfl⟩:=List.mem_map.1 ha;rw[List.map_singleton,List.mem_singleton] at hb;exact hg.2 5 ⟨g',cQ,e.trans hb⟩
 ·rcases gu i b hb with e|⟨e,e2⟩
  ·rcases gu j b bN with f|⟨f,f2⟩
   ·exact h.m.Vk i j ne b e f
   ·rw[f2] at e;exact hg.2 i e
  ·rcases gu j b bN with f|⟨f,f2⟩
   ·rw[e2] at f;exact hg.2 j f
   ·exact ne (e.trans f.symm)
 ·rcases gu i b hb with e|⟨e,e2⟩
  ·exact h.fp b ⟨i,e⟩
  ·rw[e2];exact .inr hg.1
theorem SV {α β:Type}{f:α->β}:∀{l:List α},(l.map f).Nodup->∀{a b:α},a∈l->b∈l->f a=f b->a=b
 |[],_,a,b,ha,_,_=>by cases ha
 | x :: l, hn, a, b, ha, hb, e => by
   rw[List.map_cons,List.nodup_cons] at hn;rcases List.mem_cons.1 ha with h1|h1
   ·rcases List.mem_cons.1 hb with h2|h2
    ·rw[h1,h2]
    ·exact absurd (List.mem_map.2 ⟨b,h2,by rw[<-e,h1]⟩) hn.1
   ·rcases List.mem_cons.1 hb with h2|h2
    ·exact absurd (List.mem_map.2 ⟨a,h1,by rw[e,h2]⟩) hn.1
    ·exact SV hn.2 h1 h2 e
def RM (l:List Pg)(k:Int)(t:OO)(d:Bool):List Pg:=l.map λg=>if g.k=k then {g with t:=t,d:=d} else g
theorem zaa (l:List Pg)(k:Int)(t:OO)(d:Bool):TZ (RM l k t d)=TZ l:=by
 unfold TZ RM
 rw[List.map_map]
 refine List.map_congr_left λg _=>?_
 by_cases h:g.k=k
 ·simp only[Function.comp_apply,if_pos h]
 ·simp only[Function.comp_apply,if_neg h]
theorem z3c (l:List Pg)(k:Int)(t:OO)(d:Bool):(RM l k t d).map (·.b)=l.map (·.b):=by
 unfold RM
 rw[List.map_map]
 refine List.map_congr_left λg _=>?_
 show Pg.b (if _ then _ else _)=_
 split<;>rfl
def Up.zjb (h:Up w0 P0 w P){g:Pg}(hg:g∈P.l){t:OO}{d:Bool}(hb:OU w' g.b (pgC t d) 204)(hk:Kp (λb=>b=g.b) w w'):Up w0 P0 w' {P with l:=RM P.l g.k t d}:=by
 have eU:=h.m.mp.nd
 have lI:∀b,(∃g'∈RM P.l g.k t d,g'.b=b)↔∃g'∈P.l,g'.b=b:=λb=>by
  have e:=z3c P.l g.k t d;constructor
  ·rintro⟨g',cQ,rfl⟩;have:g'.b∈P.l.map (·.b):=by rw[<-e];exact List.mem_map.2 ⟨g',cQ,rfl⟩
   obtain⟨g2,a,b⟩:=List.mem_map.1 this;exact⟨g2,a,b⟩
  ·rintro⟨g',cQ,rfl⟩;have:g'.b∈(RM P.l g.k t d).map (·.b):=by rw[e];exact List.mem_map.2 ⟨g',cQ,rfl⟩
   obtain⟨g2,a,b⟩:=List.mem_map.1 this;exact⟨g2,a,b⟩
 have hs:∀i,i≠5->Rg.cp {P with l:=RM P.l g.k t d} i=P.cp i:=λi e=>by
  match i,e with
  |0,_|1,_|2,_|3,_|4,_=>rfl
  |i+6,_=>rfl
 have aj:Kp (P.cp 5) w w':=hk.ON λb e=>⟨g,hg,e.symm⟩
 have hi:∀b,Rg.cp {P with l:=RM P.l g.k t d} 5 b->P.cp 5 b:=λb hb=>(lI b).1 hb
 refine h.part 5 ⟨h.m.z9D aj ψ,h.m.z8R aj ψ,h.m.text aj ψ,h.m.z98 aj ψ,?_,λg' cQ=>?_,?_,h.m.zaY hs λb hb=> .inl (hi b hb)⟩ hs (λb hb=> .inl (hi b hb)) aj
 ·show SG KI w' P.pm (TZ (RM P.l g.k t d));rw[zaa];exact h.m.tmp aj ψ
 ·obtain⟨g2,aa,rfl⟩:=List.mem_map.1 cQ;by_cases e:g2.k=g.k
  ·rw[if_pos e]
   have e2:g2=g:=by
    unfold TZ at eU;rw[List.map_map] at eU;have Fs:(P.l.map (·.k)).Nodup:=eU;exact SV Fs aa hg e
   rw[e2];exact hb
  ·rw[if_neg e];have bD:g2.b≠g.b:=λe2=>e (by rw[SV h.m.pnd aa hg e2]);exact hk.OH (h.m.pg g2 aa) bD
 ·show((RM P.l g.k t d).map (·.b)).Nodup;rw[z3c];exact h.m.pnd
end
def S3 (l:List Pg):Nat:=l.countP (·.d)
structure VY (P:Rg)(txt:Int->OO)(K:Nat):Prop where
 aok:P.A.Ok
 asz:P.A.size<=1000
 keys:∀x,x∈P.l.map (·.k)↔P.A.held x
 nd:(P.l.map (·.k)).Nodup
 rng:∀g∈P.l,0<=g.k/\g.k<(P.L.length:Int)
 tx:∀g∈P.l,g.t=txt g.k
 cl:∀g∈P.l,g.d=false->P.D.now g.k=txt g.k
 out:∀x,0<=x->x<(P.L.length:Int)->¬P.A.held x->P.D.now x=txt x
 len:∀x,0<=x->x<(P.L.length:Int)->(txt x).length=512
 down:P.D.down=false
 due:P.D.due=0
 B:P.D.B=P.L.length
 N:P.D.N=1
 ca:P.D.calls+(S3 P.l:Int)<=(K:Int)
 cc:P.D.cache.length+S3 P.l<=K
 Ss:P.D.Ss.length<=17592186044416
def ZB (txt:Int->OO)(no:Int)(wt:Option OO):Int->OO:=λx=>if x=no then wt.getD (txt x) else txt x
theorem ZD (txt:Int->OO)(no:Int):ZB txt no none=txt:=by
 funext x
 unfold ZB
 split<;>rfl
theorem Sa (txt:Int->OO)(no:Int)(wt:Option OO):ZB txt no wt no=wt.getD (txt no):=if_pos O
theorem Rs (txt:Int->OO){no x:Int}(wt:Option OO)(h:x≠no):ZB txt no wt x=txt x:=if_neg h
def wN (wt:Option OO):Nat:=if wt.isSome then 1 else 0
theorem z4y (D:Dev)(n x:Int)(s:OO):((D.push n s).count).now x=if n=x then s else D.now x:=by
 unfold Dev.now Dev.count Dev.push
 dsimp only
 rw[z6w]
 split<;>rfl
theorem z2m (D:Dev)(z:Int)(x:Int):({D with reads:=z}:Dev).now x=D.now x:=rfl
section
variable {P:Rg}{txt:Int->OO}{K:Nat}{no:Int}{wt:Option OO}
def ZJ (no:Int)(t:OO):∀{l:List Pg},(l.map (·.k)).Nodup->S3 (RM l no t true)<=S3 l+1
 |[],_=>Nat.zero_le _
 | g :: l, hn => by
   rw[List.map_cons,List.nodup_cons] at hn;by_cases h:g.k=no
   ·have e:RM l no t true=l:=by
     unfold RM
     conv=>rhs;rw[<-List.map_id l]
     refine List.map_congr_left λg' cQ=>?_;rw[if_neg λe=>hn.1 (List.mem_map.2 ⟨g',cQ,by rw[e,h]⟩)];rfl
    have e2:RM (g::l) no t true={g with t:=t,d:=true}::l:=by
     show(if g.k=no then _ else g)::RM l no t true=_;rw[if_pos h,e]
    rw[e2];unfold S3;rw[List.countP_cons,List.countP_cons];split<;>split<;>omega
   ·have ih:=ZJ no t hn.2
    have e2:RM (g::l) no t true=g::RM l no t true:=by
     show(if g.k=no then _ else g)::RM l no t true=_;rw[if_neg h]
    rw[e2];unfold S3 at*;rw[List.countP_cons,List.countP_cons];omega
theorem z0Q {l:List Pg}(hn:(l.map (·.k)).Nodup){g:Pg}(hg:g∈l):RM l g.k g.t g.d=l:=by
 unfold RM
 conv=>rhs;rw[<-List.map_id l]
 refine List.map_congr_left λg' cQ=>?_
 by_cases h:g'.k=g.k
 ·rw[if_pos h,SV hn cQ hg h];rfl
 ·rw[if_neg h];rfl
theorem z8k (l:List Pg)(k:Int)(t:OO)(d:Bool):(RM l k t d).map (·.k)=l.map (·.k):=by
 unfold RM
 rw[List.map_map]
 refine List.map_congr_left λg _=>?_
 by_cases h:g.k=k
 ·simp only[Function.comp_apply,if_pos h]
 ·simp only[Function.comp_apply,if_neg h]
def Z9 {l:List Pg}{k:Int}{t:OO}{d:Bool}{g:Pg}(h:g∈RM l k t d):(g∈l/\g.k≠k)\/(g.k=k/\g.t=t/\g.d=d/\∃g'∈l,g'.k=k):=by
 obtain⟨g',cQ,rfl⟩:=List.mem_map.1 h
 by_cases e:g'.k=k
 ·rw[if_pos e];exact .inr ⟨e,rfl,rfl,g',cQ,e⟩
 ·rw[if_neg e];exact .inl ⟨cQ,e⟩
theorem VY.hit (h:VY P txt K){g:Pg}(hg:g∈P.l)(pP:∀t,wt=some t->t.length=512){P':Rg}(hA:P'.A=(P.A.Rq g.k).1)(hl:P'.l=RM P.l g.k (wt.getD g.t) (wt.isSome ||g.d))(hL:P'.L=P.L)(hD:P'.D=P.D):VY P' (ZB txt g.k wt) (K+wN wt):=by
 have ht:=Arc.z1a h.aok g.k
 have bC:P.A.held g.k:=(h.keys _).1 (List.mem_map.2 ⟨g,hg,rfl⟩)
 have db:=ht.no (ht.hit.2 bC)
 have wM:∀x,P'.A.held x↔P.A.held x:=λx=>by
  rw[hA,ht.held,db];constructor
  ·rintro(e|e)
   ·rw[e];exact bC
   ·exact e.1
  ·intro e;exact .inr ⟨e,ξ⟩
 have hr:=h.rng g hg
 have wO:S3 P'.l<=S3 P.l+wN wt:=by
  rw[hl]
  cases wt with
  |none=>rw[show(none:Option OO).getD g.t=g.t from rfl,show((none:Option OO).isSome ||g.d)=g.d from rfl,z0Q h.nd hg];exact Nat.le_add_right _ _
  |some t=>exact ZJ _ _ h.nd
 have BG:=h.ca
 have Ft:=h.cc
 refine⟨by rw[hA];exact ht.ok,by rw[hA,ht.size];exact h.asz,λx=>by rw[hl,z8k,h.keys,wM],by rw[hl,z8k];exact h.nd,λg' cQ=>?_,λg' cQ=>?_,λg' cQ hd=>?_,λx h0 h1 hx=>?_,λx h0 h1=>?_,by rw[hD];exact h.down,by rw[hD];exact h.due,by rw[hD,hL];exact h.B,by rw[hD];exact h.N,by rw[hD];omega,by rw[hD];omega,by rw[hD];exact h.Ss⟩
 ·rw[hL];rw[hl] at cQ;rcases Z9 cQ with e| e
  ·exact h.rng g' e.1
  ·rw[e.1];exact hr
 ·rw[hl] at cQ;rcases Z9 cQ with e| e
  ·rw[Rs _ _ e.2];exact h.tx g' e.1
  ·rw[e.1,Sa,e.2.1,h.tx g hg]
 ·rw[hD];rw[hl] at cQ;rcases Z9 cQ with e| e
  ·rw[Rs _ _ e.2];exact h.cl g' e.1 hd
  ·rw[e.2.2.1] at hd
   have hw:wt=none:=by
    cases wt with
    |none=>rfl
    |some t=>cases hd
   rw[e.1,hw,ZD];rw[hw] at hd;exact h.cl g hg hd
 ·rw[hL] at h1;rw[wM] at hx;have bD:x≠g.k:=λe=>hx (e▸bC);rw[hD,Rs _ _ bD];exact h.out x h0 h1 hx
 ·rw[hL] at h1;by_cases e:x=g.k
  ·rw[e,Sa]
   cases hw:wt with
   |none=>exact h.len _ (e▸h0) (e▸h1)
   |some t=>exact pP t hw
  ·rw[Rs _ _ e];exact h.len x h0 h1
def SF:List Pg->Int->List Pg
 |[],_=>[]
 |g::l,k=>if g.k=k then l else g::SF l k
theorem US (g:Pg)(l:List Pg)(k:Int):SF (g::l) k=if g.k=k then l else g::SF l k:=rfl
theorem z2p (l:List Pg)(k:Int):delL (TZ l) k=TZ (SF l k):=by
 induction l with
 |nil=>rfl
 | cons g l ih =>
   show(if k=g.k then TZ l else(g.k,ptr g.b 0)::delL (TZ l) k)=_;rw[US];by_cases h:k=g.k
   ·rw[if_pos h,if_pos h.symm]
   ·rw[if_neg h,if_neg (λe=>h e.symm),ih];rfl
def T0:∀(l:List Pg) (k:Int),(SF l k).Sublist l
 |[],_=>List.Sublist.refl _
 | g :: l, k => by
   rw[US];split
   ·exact List.sublist_cons_self _ _
   ·exact(T0 l k).cons_cons _
def z15 {l:List Pg}(hn:(l.map (·.k)).Nodup)(k x:Int):x∈(SF l k).map (·.k)↔x∈l.map (·.k)/\x≠k:=by
 induction l with
 |nil=>simp[SF]
 | cons g l ih =>
   rw[List.map_cons,List.nodup_cons] at hn;rw[US];by_cases h:g.k=k
   ·rw[if_pos h,List.map_cons,List.mem_cons];constructor
    ·intro e;exact⟨.inr e,λe2=>hn.1 (by rw[h,<-e2];exact e)⟩
    ·rintro⟨e|e,e2⟩
     ·exact absurd (e.trans h) e2
     ·exact e
   ·rw[if_neg h,List.map_cons,List.map_cons,List.mem_cons,List.mem_cons];have:=ih hn.2;rw[this];constructor
    ·rintro(e|e)
     ·exact⟨.inl e,λe2=>h (by rw[<-e,e2])⟩
     ·exact⟨.inr e.1,e.2⟩
    ·rintro⟨e|e,e2⟩
     ·exact .inl e
     ·exact .inr ⟨e,e2⟩
def z3f {l:List Pg}{g:Pg}(hn:(l.map (·.k)).Nodup)(hg:g∈l):S3 (SF l g.k)+(if g.d then 1 else 0)=S3 l:=by
 induction l with
 |nil=>cases hg
 | cons a l ih =>
   rw[List.map_cons,List.nodup_cons] at hn;rw[US];by_cases h:a.k=g.k
   ·rw[if_pos h]
    have e:a=g:=by
     rcases List.mem_cons.1 hg with e| e
     ·exact e.symm
     ·exact absurd (List.mem_map.2 ⟨g,e,h.symm⟩) hn.1
    rw[e];unfold S3;rw[List.countP_cons]
   ·rw[if_neg h]
    have aa:g∈l:=by
     rcases List.mem_cons.1 hg with e| e
     ·exact absurd (by rw[e]) h
     ·exact e
    have:=ih hn.2 aa;unfold S3 at*;rw[List.countP_cons,List.countP_cons];omega
structure zdk (P:Rg)(txt:Int->OO)(K:Nat)(g:Option Int)(D':Dev)(l':List Pg):Prop where
 now:∀x,0<=x->x<(P.L.length:Int)->x∉l'.map (·.k)->D'.now x=txt x
 cl:∀q∈l',q.d=false->D'.now q.k=txt q.k
 sub:l'.Sublist P.l
 keys:∀x,x∈l'.map (·.k)↔x∈P.l.map (·.k)/\g≠some x
 down:D'.down=false
 due:D'.due=0
 B:D'.B=P.D.B
 N:D'.N=P.D.N
 ca:D'.calls+(S3 l':Int)<=(K:Int)
 cc:D'.cache.length+S3 l'<=K
 Ss:D'.Ss.length<=17592186044416
def VY.zgR (h:VY P txt K):zdk P txt K none P.D P.l:=
 ⟨λx h0 h1 hx=>h.out x h0 h1 λe=>hx ((h.keys x).2 e),h.cl,List.Sublist.refl _,λx=>by simp,h.down,h.due,rfl,rfl,h.ca,h.cc,h.Ss⟩
def VY.zgD (h:VY P txt K){g:Pg}(hg:g∈P.l):zdk P txt K (some g.k) (if g.d then(P.D.push g.k g.t).count else P.D) (SF P.l g.k):=by
 have zW:=z3f h.nd hg
 have hk:=z15 h.nd g.k
 have BG:=h.ca
 have Ft:=h.cc
 have dM:=T0 P.l g.k
 have jS:∀x,0<=x->x<(P.L.length:Int)->x∉(SF P.l g.k).map (·.k)->x=g.k\/¬P.A.held x:=λx h0 h1 hx=>by
  rw[hk,not_and] at hx;by_cases e:x=g.k
  ·exact .inl e
  ·exact .inr λe2=>hx ((h.keys x).2 e2) e
 have gz:∀q∈SF P.l g.k,q∈P.l/\q.k≠g.k:=λq hq=>⟨dM.subset hq,((hk q.k).1 (List.mem_map.2 ⟨q,hq,rfl⟩)).2⟩
 have sD:∀x,x∈(SF P.l g.k).map (·.k)↔x∈P.l.map (·.k)/\some g.k≠some x:=λx=>by
  rw[hk];simp only[ne_eq,Option.some.injEq];constructor
  ·rintro⟨a,b⟩;exact⟨a,λe=>b e.symm⟩
  ·rintro⟨a,b⟩;exact⟨a,λe=>b e.symm⟩
 cases hd:g.d with
 | true =>
   rw[hd] at zW;rw[if_pos O] at zW⊢;refine⟨λx h0 h1 hx=>?_,λq hq kJ=>?_,dM,sD,h.down,?_,rfl,rfl,?_,?_,h.Ss⟩
   ·rw[z4y];rcases jS x h0 h1 hx with e| e
    ·rw[if_pos e.symm,e,h.tx g hg]
    ·by_cases e2:g.k=x
     ·rw[if_pos e2,<-e2,h.tx g hg]
     ·rw[if_neg e2];exact h.out x h0 h1 e
   ·obtain⟨a,b⟩:=gz q hq;rw[z4y,if_neg λe=>b e.symm];exact h.cl q a kJ
   ·have:=h.due;show(if P.D.due=0 then(0:Int) else _)=0;rw[if_pos this]
   ·show P.D.calls+1+_<=_;omega
   ·show(P.D.cache++[_]).length+_<=_
    rw[List.length_append,List.length_singleton];omega
 | false =>
   rw[hd] at zW;rw[if_neg ξ] at zW⊢;refine⟨λx h0 h1 hx=>?_,λq hq kJ=>?_,dM,sD,h.down,h.due,rfl,rfl,ω,ω,h.Ss⟩
   ·rcases jS x h0 h1 hx with e| e
    ·rw[e];exact h.cl g hg hd
    ·exact h.out x h0 h1 e
   ·exact h.cl q (gz q hq).1 kJ
def VY.zi7 (h:VY P txt K)(h0:0<=no)(h1:no<(P.L.length:Int))(hh:¬P.A.held no)(pP:∀t,wt=some t->t.length=512){D':Dev}{l':List Pg}(hg:zdk P txt K (P.A.Rq no).2.2 D' l'){P':Rg}{b:Nat}{z:Int}
  (hA:P'.A=(P.A.Rq no).1) (hl:P'.l=l'++[⟨no,b,wt.getD (txt no),wt.isSome⟩]) (hL:P'.L=P.L) (hD:P'.D={D' with reads:=z}):VY P' (ZB txt no wt) (K+wN wt):=by
 have ht:=Arc.z1a h.aok no
 have Mg:=hg.ca
 have Mh:=hg.cc
 have nl:∀x,x∈P'.l.map (·.k)↔x=no\/x∈l'.map (·.k):=λx=>by
  rw[hl,List.map_append,List.mem_append,List.map_singleton,List.mem_singleton,or_comm]
 have wM:∀x,P'.A.held x↔x=no\/x∈l'.map (·.k):=λx=>by
  rw[hA,ht.held,hg.keys,h.keys]
 have iy:no∉l'.map (·.k):=λe=>hh ((h.keys no).1 ((hg.keys no).1 e).1)
 have wO:S3 P'.l=S3 l'+wN wt:=by
  rw[hl];unfold S3 wN;rw[List.countP_append,List.countP_singleton]
 refine⟨by rw[hA];exact ht.ok,by rw[hA,ht.size];exact h.asz,λx=>by rw[nl,wM],?_,λg jN=>?_,λg jN=>?_,λg jN hd=>?_,λx x0 x1 hx=>?_,λx x0 x1=>?_,by rw[hD];exact hg.down,by rw[hD];exact hg.due,by rw[hD,hL];exact hg.B.trans h.B,by rw[hD];exact hg.N.trans h.N,by rw[hD];show D'.calls+_<=_;omega,by rw[hD];show D'.cache.length+_<=_;omega,by rw[hD];exact hg.Ss⟩
 ·rw[hl,List.map_append,List.nodup_append];refine⟨(hg.sub.map _).nodup h.nd,ξ,λa ha c hc e=>?_⟩;rw[List.map_singleton,List.mem_singleton] at hc;exact iy (by rw[<-show a=no from e.trans hc];exact ha)
 ·rw[hL];rw[hl] at jN;rcases List.mem_append.1 jN with e| e
  ·exact h.rng g (hg.sub.subset e)
  ·rw[List.mem_singleton.1 e];exact⟨h0,h1⟩
 ·rw[hl] at jN;rcases List.mem_append.1 jN with e| e
  ·rw[Rs _ _ (λe2=>iy (by rw[<-e2];exact List.mem_map.2 ⟨g,e,rfl⟩))];exact h.tx g (hg.sub.subset e)
  ·rw[List.mem_singleton.1 e,Sa]
 ·rw[hD,z2m];rw[hl] at jN;rcases List.mem_append.1 jN with e| e
  ·rw[Rs _ _ (λe2=>iy (by rw[<-e2];exact List.mem_map.2 ⟨g,e,rfl⟩))];exact hg.cl g e hd
  ·rw[List.mem_singleton.1 e] at hd⊢
   have hw:wt=none:=by
    cases wt with
    |none=>rfl
    |some t=>cases hd
   rw[hw,ZD];exact hg.now no h0 h1 iy
 ·rw[hL] at x1;rw[wM,not_or] at hx;rw[hD,z2m,Rs _ _ hx.1];exact hg.now x x0 x1 hx.2
 ·rw[hL] at x1;by_cases e:x=no
  ·rw[e,Sa]
   cases hw:wt with
   |none=>exact h.len _ h0 h1
   |some t=>exact pP t hw
  ·rw[Rs _ _ e];exact h.len x x0 x1
end
section
variable {w w':World}{P:Rg}{S:Nat->Prop}{txt:Int->OO}{K:Nat}
theorem Uj.cells (h:Uj w P):OU w P.s [ptr P.d 0,ptr P.m 0,ptr P.c 0,.map (some P.pm),I (P.fr:Int),I P.h,I P.mi,I P.wr,I 0,I 0,I 0,.bool false] 113:=h.OH
def VY.zfd (h:VY P txt K):P.D.Small K:=⟨by have:=h.ca;omega,by have:=h.cc;omega,trivial,h.Ss⟩
def z1l (h:Uj w P)(hN:P.D.N=1):Ps prog 49 [ptr P.s 0] w λv w'=>v=I 512/\w'=w:=by
 have hB:=h.cells
 have cD:=z8N h.dev
 rw[hN] at cD
 refine py (e:=[(0,_)]) func49 O ntmps49 O O$ QN O$ PR O$ qV (Qb XB O O)$ Qm O$ Pt O$ Pw O$ P4 UU O$ qV (OS U26 O O hB O)$ Pb zeK O (cD) ?_
 rintro _ w ⟨rfl,rfl⟩
 refine P3 O$ OI func49 O ?_
 exact⟨_,rfl,rfl,rfl⟩
def z8X (h:Uj w P):Ps prog 124 [ptr P.s 0] w λv w'=>v=ptr P.d 0/\w'=w:=by
 have hB:=h.cells
 refine py (e:=[(0,_)]) func124 O ntmps124 O O$ QN O$ PR O$ qV (Qb XB O O)$ Qm O$ Pt O$ Pw O$ P4 UU O$ qV (OS U26 O O hB O)$ P3 O$ OI func124 O ?_
 exact⟨_,rfl,rfl,rfl⟩
def z9z (h:Uj w P):Ps prog 27 [ptr P.s 0] w λv w'=>v=ptr P.m 0/\w'=w:=by
 have hB:=h.cells
 refine py (e:=[(0,_)]) func27 O ntmps27 O O$ QN O$ PR O$ qV (Qb XB O O)$ Qm O$ Pt O$ Pw O$ P4 z3x O$ qV (OS U67 O O hB O)$ P3 O$ OI func27 O ?_
 exact⟨_,rfl,rfl,rfl⟩
def ZO (h:Uj w P)(hd:P.D.down=false):Ps prog 107 [ptr P.s 0] w λv w'=>v=I 0/\w'=w:=by
 have hB:=h.cells
 have wO:=z9b h.dev
 rw[hd] at wO
 refine py (e:=[(0,_)]) func107 O ntmps107 O O$ QN O$ QO$ Pt O$ qV (Qb XB O O)$ P3 O$ OR O$ Pt O$ Pw O$ P4 z8q O$ qV (OS U4 O O hB O)$ Pl O$ Pw O$ P4 UU O ?_
 refine qV (OS U26 O O hB O)$ Pb zgp O (wO) ?_
 rintro _ w ⟨rfl,rfl⟩
 refine PT O$ P3 O$ SO O$ OG$ QN O$ OI func107 O ?_
 exact⟨_,rfl,rfl,rfl⟩
theorem z5m (h:Uj w P)(uy:P.D.Small K)(wO:P.D.down=false)(Mi:P.D.due=0)(Mj:P.D.B=P.L.length)(kO:P.D.N=1)(hK:K<1000000000000){b:Nat}{t:OO}{d:Bool}{no:Int}(h0:0<=no)(h1:no<(P.L.length:Int))(ht:t.length=512)(hb:OU w b (pgC t d) 204)(oo:∀i,¬P.cp i b):
  Ps prog 144 [ptr P.s 0,I no,ptr b 0] w λv w'=>v=I 0/\∃Fd' wr',Uj w' {P with D:=if d then(P.D.push no t).count else P.D,Fd:=Fd',wr:=wr'}/\Kp (λj=>j=b\/P.cp 0 j\/P.cp 1 j) w w'/\(∀j,Fd' j->P.Fd j\/w.heap.size<=j):=by
 replace hb:OU w b [S t,.bool d,I 0] 204:=hb
 have hB:=h.cells
 have hg:=Ext.Pa w
 have rR:P.s≠b:=λe=>oo 0 e.symm
 have Mk:¬P.Fd P.s:=λe=>h.Vk 0 1 ψ P.s O e
 have IY:¬P.Fd b:=oo 1
 refine py (e:=[(0,_),(1,_),(2,_)]) func144 O ntmps144 O O ?_
 cases d with
 | false =>
   refine QN O$ PR O$ Pw O$ P4 VH O$ P4 z3u O$ qV (OS U4 O O hb O)$ qV ((S5 O))$ OJ$ OZ O$ QN O$ OI func144 O (⟨_,rfl,rfl,P.Fd,P.wr,?_,Kp.refl _ _,λj e=> .inl e⟩);rw[if_neg ξ]
   exact h
 | true =>
   refine QN O$ PR O$ Pw O$ P4 VH O$ P4 z3u O$ qV (OS U4 O O hb O)$ qV ((S5 O)) ?_;have Fu:=z6y no t (h.dev.ext hg) uy hK;rw[zbT wO Mi ⟨h0,by rw[Mj];exact h1⟩ (by rw[kO];exact ht)] at Fu;dsimp only at Fu;refine Qm O$ An$ An$ R0 (λw'=>Kp P.Fd w w') O$ P8 0 O O (hg.kp)$ OM 1 O (Qd O) (hg.kp)$ OM 2 O (Px UU O) (hg.kp)$ qT 3 O (λ_ h=>(OS U26 O O (h.OH hB Mk) O)) (hg.kp)$ P8 4 O O (hg.kp)$ P8 5 O O (hg.kp)$ OM 6 O (Qd O) (hg.kp)$ OM 7 O (Px VH O) (hg.kp)$ OM 8 O (Px z2Y O) (hg.kp)$ qT 9 O (λ_ h=>(OS U9 O O (h.OH hb IY) O)) (hg.kp) ?_;refine S1 10 O zhq O (Fu) ?_;rintro _ w1 ⟨rfl,nI⟩;refine⟨hg.kp.trans nI.kpF,?_⟩;obtain⟨Fd',dh,pw⟩:=((h.r (Ext.refl w)).ext hg).dev nI;have az:Kp P.Fd w w1:=hg.kp.trans nI.kpF;have qz:∀j,Fd' j->P.Fd j\/w.heap.size<=j:=λj e=>(pw j e).imp id λe=>by have:=hg.size;omega
   refine OM 11 O (Rv O) (hg.kp.trans nI.kpF)$ qE$ Pt O$ QF O ?_;have ai:=dh.m.cells;refine Qm O$ Pt O$ Pw O$ P4 VJ O$ P4 zah O$ qV (OS U3 O O ai O)$ qV (z6d O O)$ Pw O$ P4 VJ O$ P4 zah O$ OY O (QP Qe O O O ai ξ) ?_;rintro w2 ⟨ak,am⟩;obtain⟨z,hz⟩:∃z,IntKind.i64.wrap (P.wr+1)=z:=⟨_,rfl⟩;rw[hz] at ak;have dm:=dh.cnt (a:=P.h) (b:=P.mi) (c:=z) ak am;have bN:=am.OH (az.OH hb IY) (λe=>rR e.symm);refine OJ$ Pu.qb (e:=[(2,_),(6,_)]) ?_;refine Pt O$ Pw O$ P4 VH O$ P4 z3u O$ OY O (QP UH O O O bN ξ) ?_;rintro w3 ⟨dI,av⟩
   have Fv:∀i,¬Rg.cp {P with D:=(P.D.push no t).count,Fd:=Fd',h:=P.h,mi:=P.mi,wr:=z} i b:=λi e=>by
    match i,e with
    |0,e=>exact oo 0 e
    | 1, e =>
      rcases qz b e with e| e
      ·exact oo 1 e
      ·have:=hb.lt;omega
    |2,e=>exact oo 2 e
    |3,e=>exact oo 3 e
    |4,e=>exact oo 4 e
    |5,e=>exact oo 5 e
   refine qM O$ P3 O$ OI func144 O (⟨_,rfl,rfl,Fd',z,?_,?_,qz⟩)
   ·rw[if_pos O];exact dm.m.kp av λj ⟨i,hj⟩ e=>Fv i (e▸hj)
   ·exact((az.ON λj e=> .inr (.inr e)).trans (am.ON λj e=> .inr (.inl e))).trans (av.ON λj e=> .inl e)
end
structure Rg.Same (P P':Rg):Prop where
 s:P'.s=P.s
 d:P'.d=P.d
 m:P'.m=P.m
 gi:P'.gi=P.gi
 c:P'.c=P.c
 pm:P'.pm=P.pm
 p:P'.p=P.p
 fr:P'.fr=P.fr
 L:P'.L=P.L
theorem Rg.Same.trans {P P' P2:Rg}(h:P.Same P')(h2:P'.Same P2):P.Same P2:=
 ⟨h2.s.trans h.s,h2.d.trans h.d,h2.m.trans h.m,h2.gi.trans h.gi,h2.c.trans h.c,h2.pm.trans h.pm,h2.p.trans h.p,h2.fr.trans h.fr,h2.L.trans h.L⟩
def z1i {l:List Pg}{k:Int}{b:Nat}{t0 t:OO}{d0 d:Bool}(h:k∉l.map (·.k)):RM (l++[⟨k,b,t0,d0⟩]) k t d=l++[⟨k,b,t,d⟩]:=by
 unfold RM
 rw[List.map_append]
 congr 1
 ·conv=>rhs;rw[<-List.map_id l]
  refine List.map_congr_left λg hg=>?_;rw[if_neg λe=>h (List.mem_map.2 ⟨g,hg,e⟩)];rfl
 ·show [if k=k then _ else _]=_;rw[if_pos O]
section
variable {w w' w0:World}{P P0 P':Rg}{txt:Int->OO}{K:Nat}
theorem Uj.get (h:Uj w P){q:Pg}(hq:q∈P.l):Re (TZ P.l) q.k=some (ptr q.b 0):=
 z4h h.mp.nd (List.mem_map.2 ⟨q,hq,rfl⟩)
theorem Up.write (h:Up w0 P0 w P){D':Dev}{Fd':Nat->Prop}{wr':Int}{b:Nat}(hm:Uj w' {P with D:=D',Fd:=Fd',wr:=wr'})(hk:Kp (λj=>j=b\/P.cp 0 j\/P.cp 1 j) w w')(hF:∀j,Fd' j->P.Fd j\/w.heap.size<=j)(hb:P0.fp b\/w0.heap.size<=b):Up w0 P0 w' {P with D:=D',Fd:=Fd',wr:=wr'}:=
 ⟨hm,λj ⟨i,hj⟩=>by
  match i,hj with
  |0,e=>exact h.fp j ⟨0,e⟩
  | 1, e =>
    rcases hF j e with e| e
    ·exact h.fp j ⟨1,e⟩
    ·exact .inr (by have:=h.k.size;omega)
  |2,e=>exact h.fp j ⟨2,e⟩
  |3,e=>exact h.fp j ⟨3,e⟩
  |4,e=>exact h.fp j ⟨4,e⟩
  |5,e=>exact h.fp j ⟨5,e⟩,h.k.It hk λj e=>by
  rcases e with e|e| e
  ·rw[e];exact hb.symm
  ·exact(h.fp j ⟨0,e⟩).symm
  ·exact(h.fp j ⟨1,e⟩).symm⟩
def ZU (hr:Up w0 P0 w P)(hI:VY P txt K)(hK:K<1000000000000){no:Int}(h0:0<=no)(h1:no<(P.L.length:Int))(wt:Option OO)(pP:∀t,wt=some t->t.length=512){x:Nat}{x0:Value}(jS:w0.heap.size<=x)(eC:∀i,¬P.cp i x)(fD:OU w x [x0] 9){f:Nat}(pW:CF prog f)
  (Fw:∀(w1:World) (b:Nat) (t:OO) (d:Bool),b≠x->OU w1 b (pgC t d) 204->OU w1 x [x0] 9->Ps prog f [ptr b 0,ptr x 0] w1 λv w2=>v= .tuple #[]/\OU w2 b (pgC (wt.getD t) (wt.isSome ||d)) 204/\OU w2 x [S (wt.getD t)] 9/\Kp (λj=>j=if wt.isSome then b else x) w1 w2):
  Ps prog 108 [ptr P.s 0,I no,.bool wt.isSome,.func (.func f) #[] #[ptr x 0]] w λv w'=>v=I 0/\OU w' x [S (wt.getD (txt no))] 9/\∃P',Up w0 P0 w' P'/\VY P' (ZB txt no wt) (K+wN wt)/\P.Same P'/\∀i,¬P'.cp i x:=by
 have hB:=hr.m.cells
 have fi:=Wq hr.m.dev
 rw[hI.B] at fi
 have lx:=fD.lt
 have gA:=Arc.z1a hI.aok no
 obtain⟨T,hT⟩:∃T,P.A.Rq no=T:=⟨_,rfl⟩
 have ff:=z6r hr.m.arc hI.aok hI.asz (k:=no)
 rw[hT] at gA ff
 obtain⟨A2,hit,g⟩:=T
 dsimp only at gA ff
 have n4096:=hr.m.ext.n
 refine py (e:=[(0,_),(1,_),(2,_),(3,_)]) func108 O ntmps108 O O$ QN O$ PR O$ QV O$ PO$ Pl O$ OT O$ Pw O$ P4 UU O$ qV (OS U26 O O hB O)$ Pb z3Y O (fi) ?_
 rintro _ w ⟨rfl,rfl⟩
 refine Uh O$ PO$ PT O$ Qm O$ Pt O$ Pw O$ P4 z8f O$ qV (OS za9 O O hB O)$ OT O$ Pb zh9 O (ff) ?_
 rintro _ w1 ⟨rfl,V2,sE⟩
 have dh:=hr.arc sE
 have oC:=sE.k.OH fD (eC 3)
 have z1:=sE.k.size
 refine OT O$ qV (Ry (v:=zdi hit g) O O)$ qV (Ry (v:=I 0) O O)$ OP O O (Rz (cs:=[_,_,_]) PB O) ?_
 rintro _ w2 ⟨b9,rfl,ir,ae,cK⟩
 have z2:=ae.size
 refine OY O (PL (news:=RD hit g) PB O O O O cK ξ) ?_
 rintro w3 ⟨cW,av⟩
 replace cW:OU w3 b9 [.bool hit,.bool g.isSome,I (g.getD 0)] 245:=cW
 have aZ:Ext w1 w3:=ae.It av (λj e=>by omega)
 have ci:=dh.ext aZ
 have iQ:=aZ.OH oC
 have z01:=dh.k.size
 have z13:=aZ.size
 have eX:∀i,¬Rg.cp {P with A:=A2,V:=V2} i x:=λi e=>by
  match i,e with
  |0,e=>exact eC 0 e
  |1,e=>exact eC 1 e
  |2,e=>exact eC 2 e
  | 3, e =>
    rcases sE.fp x e with e| e
    ·exact eC 3 e
    ·omega
  |4,e=>exact eC 4 e
  |5,e=>exact eC 5 e
 have zX:∀i,¬Rg.cp {P with A:=A2,V:=V2} i b9:=dh.m.new ω
 have Oe:b9≠x:=by omega
 have l93:=cW.lt
 have kP:=ci.m.cells
 dsimp only at kP
 refine P3 O$ Pu.qb (e:=[(0,_),(1,_),(2,_),(3,_),(8,_),(9,_),(10,_)]) ?_
 refine PR O$ QF O$ Qm O$ An$ qN O$ P4 zct O ?_
 cases hit with
 | true =>
   have bC:=gA.hit.1 O
   obtain⟨q,hq,Fx⟩:∃q∈P.l,q.k=no:=by
    obtain⟨q,a,b⟩:=List.mem_map.1 ((hI.keys no).2 bC);exact⟨q,a,b⟩
   subst Fx;refine qV (OS U4 O O cW O)$ OJ$ OZ O$ Pt O$ Pw O$ P4 VJ O$ P4 zat O$ qV (OS U3 O O kP O)$ qV (z6d O O)$ Pw O$ P4 VJ O$ P4 zat O$ OY O (QP Qe O O O kP ξ) ?_;rintro w4 ⟨aM,ar⟩;obtain⟨z,hz⟩:∃z,IntKind.i64.wrap (P.h+1)=z:=⟨_,rfl⟩;rw[hz] at aM;have bF:=ci.cnt (a:=z) (b:=P.mi) (c:=P.wr) aM ar;have fO:=bF.m.cells;dsimp only at fO;have kQ:=ar.OH iQ (eC 0);have fT:=bF.m.get hq;dsimp only at fT;have rQ:OU w4 q.b (pgC q.t q.d) 204:=bF.m.pg q hq;have uM:q.b≠x:=λe=>eC 5 ⟨q,hq,e⟩;refine qM O$ Pl O$ Pw O$ P4 Vb O$ qV (OS Xm O O fO O)$ OT O$ qV (ylk (k:=q.k) (K:=KI) Xm (Sc U3) zbr O O bF.m.mp.l) ?_;dsimp only;rw[fT];refine Qw O O (RW pW O O) (Fw w4 q.b q.t q.d uM rQ kQ) ?_;rintro _ w5 ⟨rfl,Fy,mH,aj⟩;refine OJ$ Pu.qb (e:=[(0,_),(1,_),(2,_),(3,_),(8,_),(9,_),(10,_)]) ?_;refine QN O$ OI func108 O ?_;have Fz:=hI.tx q hq;refine⟨_,rfl,rfl,by rw[<-Fz];exact mH,?_⟩
   cases wt with
   | none =>
     have zY:∀i,¬Rg.cp {P with A:=A2,V:=V2,h:=z,mi:=P.mi,wr:=P.wr} i x:=λi e2=>by
      match i,e2 with
      |0,e2=>exact eX 0 e2
      |1,e2=>exact eX 1 e2
      |2,e2=>exact eX 2 e2
      |3,e2=>exact eX 3 e2
      |4,e2=>exact eX 4 e2
      |5,e2=>exact eX 5 e2
     refine⟨_,bF.loc aj (λj e=>⟨.inr (by rw[show j=x from e];exact jS),by rw[show j=x from e];exact zY⟩),hI.hit hq pP (by rw[hT]) ?_ O O,⟨rfl,rfl,rfl,rfl,rfl,rfl,rfl,rfl,rfl⟩,zY⟩;show P.l=RM P.l q.k q.t q.d
     exact(z0Q hI.nd hq).symm
   | some t =>
     refine⟨_,bF.zjb hq Fy aj,hI.hit hq pP (by rw[hT]) O O O,⟨rfl,rfl,rfl,rfl,rfl,rfl,rfl,rfl,rfl⟩,λi e2=>?_⟩
     match i,e2 with
     |0,e2=>exact eX 0 e2
     |1,e2=>exact eX 1 e2
     |2,e2=>exact eX 2 e2
     |3,e2=>exact eX 3 e2
     |4,e2=>exact eX 4 e2
     | 5, ⟨g', cQ, e2⟩ =>
       have h3:g'.b∈P.l.map (·.b):=by rw[<-z3c P.l q.k];exact List.mem_map.2 ⟨g',cQ,rfl⟩
       obtain⟨g2,a,b⟩:=List.mem_map.1 h3
       exact eX 5 ⟨g2,a,b.trans e2⟩
 | false =>
   have FA:¬P.A.held no:=λe=>by have:=gA.hit.2 e;cases this
   refine qV (OS U4 O O cW O)$ Qm O$ Pt O$ Pw O$ P4 VJ O$ P4 zar O$ qV (OS U3 O O kP O)$ qV (z6d O O)$ Pw O$ P4 VJ O$ P4 zar O$ OY O (QP Qe O O O kP ξ) ?_;rintro w4 ⟨aM,ar⟩;obtain⟨z,hz⟩:∃z,IntKind.i64.wrap (P.mi+1)=z:=⟨_,rfl⟩;rw[hz] at aM;have bF:=ci.cnt (a:=P.h) (b:=z) (c:=P.wr) aM ar;have fO:=bF.m.cells;dsimp only at fO;have kQ:=ar.OH iQ (eC 0);have BH:b9≠P.s:=λe=>zX 0 e;have mF:=ar.OH cW BH;have z4:=ar.size;refine OJ$ An$ qN O$ P4 zcE O$ qV (OS U4 O O mF O)$ OJ ?_
   have Ml:∀(D':Dev) (Fd':Nat->Prop) (l':List Pg) (wr':Int),(∀j,Fd' j->P.Fd j\/w.heap.size<=j)->l'.Sublist P.l->∀b,(∀i,¬Rg.cp {P with A:=A2,V:=V2} i b)->b<w.heap.size\/(∀j,Fd' j->j≠b)->∀i,¬Rg.cp {P with A:=A2,V:=V2,D:=D',Fd:=Fd',l:=l',mi:=z,wr:=wr'} i b:=λD' Fd' l' wr' hF hl b hb bN i e=>by
    match i,e with
    |0,e=>exact hb 0 e
    | 1, e =>
      rcases bN with h| h
      ·rcases hF b e with e| e
       ·exact hb 1 e
       ·omega
      ·exact h b e O
    |2,e=>exact hb 2 e
    |3,e=>exact hb 3 e
    |4,e=>exact hb 4 e
    |5,⟨q,hq,e⟩=>exact hb 5 ⟨q,hl.subset hq,e⟩
   refine PI (λe' w'=>e'=[(0,ptr P.s 0),(1,I no),(2,.bool wt.isSome),(3,.func (.func f) #[] #[ptr x 0])]/\∃D' Fd' l' wr',Up w0 P0 w' {P with A:=A2,V:=V2,D:=D',Fd:=Fd',l:=l',mi:=z,wr:=wr'}/\zdk P txt K g D' l'/\OU w' x [x0] 9/\(∀j,Fd' j->P.Fd j\/w.heap.size<=j/\j≠x)) ?cX$ λcX=>?iP
   case cX =>
    rintro e' w5 ⟨rfl,D',Fd',l',wr',bO,ek,mH,wn⟩;have iy:no∉l'.map (·.k):=λe=>FA ((hI.keys no).1 ((ek.keys no).1 e).1);have z5:=bO.k.size;have lx5:=mH.lt
    have eY:∀i,¬Rg.cp {P with A:=A2,V:=V2,D:=D',Fd:=Fd',l:=l',mi:=z,wr:=wr'} i x:=λi e=>by
     match i,e with
     |0,e=>exact eC 0 e
     | 1, e =>
       rcases wn x e with e| e
       ·exact eC 1 e
       ·exact e.2 O
     |2,e=>exact eC 2 e
     |3,e=>exact eX 3 e
     |4,e=>exact eC 4 e
     |5,⟨q,hq,e⟩=>exact eC 5 ⟨q,ek.sub.subset hq,e⟩
    refine qN O$ qV (Sh (cs:=[_,_,_]) zi4 O zhU O O)$ OP O O (R6 O (cs:=pgC [] false) O) ?_;rintro _ w6 ⟨b,rfl,hb,aR,aX⟩;replace aX:OU w6 b [S [],.bool false,I 0] 204:=aX;have cI:=bO.ext aR;have oD:=aR.OH mH;have oE:b≠x:=by omega
    have gB:∀i,¬Rg.cp {P with A:=A2,V:=V2,D:=D',Fd:=Fd',l:=l',mi:=z,wr:=wr'} i b:=bO.m.new ω;have lb6:=aX.lt
    have zZ:Re (TZ l') no=none:=z2e λe=>iy (by
     unfold TZ at e;rw[List.map_map] at e
     exact e)
    refine P3 O$ PR O$ qV ((S5 O)) ?_
    cases wt with
    | none =>
      refine OJ$ OZ O ?_;have jA:=cI.m.cells;dsimp only at jA;have eJ:=z8M no cI.m.dev (k:=K) ⟨by have:=ek.ca;show D'.calls<=_;omega,by have:=ek.cc;show D'.cache.length<=_;omega,trivial,ek.Ss⟩ hK
      have Mm:D'.read no=({D' with reads:=IntKind.i64.wrap (D'.reads+1)},txt no,0):=by
       have hh:D'.has no=true:=by
        have:=ek.B;have:=hI.B;simp[Dev.has];omega
       unfold Dev.read;rw[if_neg (by rw[ek.down];simp),if_neg (by rw[hh];simp),ek.now no h0 h1 iy]
      dsimp only at eJ;rw[Mm] at eJ;dsimp only at eJ;refine QI O$ Pw O$ P4 UU O$ qV (OS U26 O O jA O)$ OT O$ Pb zfP O (eJ) ?_;rintro _ w7 ⟨rfl,sx⟩;obtain⟨Fd7,A0,A1⟩:=cI.dev sx;have eM:Kp Fd' w6 w7:=sx.kpF;have bR:=eM.OH aX (gB 1);have kR:=eM.OH oD (eY 1);refine OT O$ qV (Ry (v:=S (txt no)) O O)$ qV (Ry (v:=I 0) O O)$ Pw O$ P4 VH O$ P4 z2Y O$ OY O (QP ti9 O O O bR ξ) ?_;rintro w8 ⟨cu,aL⟩;replace cu:OU w8 b (pgC (txt no) false) 204:=cu
      have uN:∀i,¬Rg.cp {P with A:=A2,V:=V2,D:={D' with reads:=IntKind.i64.wrap (D'.reads+1)},Fd:=Fd7,l:=l',mi:=z,wr:=wr'} i b:=λi e=>by
       match i,e with
       |0,e=>exact gB 0 e
       | 1, e =>
         rcases A1 b e with e| e
         ·exact gB 1 e
         ·omega
       |2,e=>exact gB 2 e
       |3,e=>exact gB 3 e
       |4,e=>exact gB 4 e
       |5,e=>exact gB 5 e
      have kT:∀i,¬Rg.cp {P with A:=A2,V:=V2,D:={D' with reads:=IntKind.i64.wrap (D'.reads+1)},Fd:=Fd7,l:=l',mi:=z,wr:=wr'} i x:=λi e=>by
       match i,e with
       |0,e=>exact eY 0 e
       | 1, e =>
         rcases A1 x e with e| e
         ·exact eY 1 e
         ·have:=oD.lt;omega
       |2,e=>exact eY 2 e
       |3,e=>exact eY 3 e
       |4,e=>exact eY 4 e
       |5,e=>exact eY 5 e
      have fR:=A0.loc aL (λj e=>by rw[show j=b from e];exact⟨.inr ω,uN⟩);have i4:=aL.OH kR (λe=>oE e.symm);have A3:=fR.m.cells;dsimp only at A3;refine R3 O$ QF O$ OJ$ Pu.qb (e:=[(0,_),(1,_),(3,_),(10,_),(13,_),(106,_)]) ?_;refine SO O$ Pt O$ Pw O$ P4 Vb O$ qV (OS Xm O O A3 O)$ Pl O$ OY O (zeD (k:=no) (K:=KI) Xm (Sc U3) O O O fR.m.mp) ?_;rintro w9 ⟨rh,aw⟩;dsimp only at rh;rw[UC _ _ _ zZ] at rh;have i3:=fR.ins (g:=⟨no,b,txt no,false⟩) ⟨by dsimp only;omega,uN⟩ cu (by unfold TZ at rh⊢;rw[List.map_append];exact rh) aw;have cK:=aw.OH cu (uN 4);have oF:=aw.OH i4 (kT 4);refine qM O$ Pl O$ Qw O O (RW pW O O) (Fw w9 b (txt no) false oE cK oF) ?_;rintro _ w10 ⟨rfl,sF,oG,aA⟩;refine qM O$ P3 O$ OI func108 O ?_
      have zY:∀i,¬Rg.cp {P with A:=A2,V:=V2,D:={D' with reads:=IntKind.i64.wrap (D'.reads+1)},Fd:=Fd7,l:=l'++[⟨no,b,txt no,false⟩],mi:=z,wr:=wr'} i x:=λi e2=>by
       match i,e2 with
       |0,e2=>exact kT 0 e2
       |1,e2=>exact kT 1 e2
       |2,e2=>exact kT 2 e2
       |3,e2=>exact kT 3 e2
       |4,e2=>exact kT 4 e2
       | 5, ⟨q, hq, e2⟩ =>
         rcases List.mem_append.1 hq with e3|e3
         ·exact kT 5 ⟨q,e3,e2⟩
         ·rw[List.mem_singleton.1 e3] at e2;exact oE e2
      exact⟨_,rfl,rfl,oG,_,i3.loc aA (λj e=>⟨.inr (by rw[show j=x from e];exact jS),by rw[show j=x from e];exact zY⟩),hI.zi7 h0 h1 FA pP (by rw[hT];exact ek) (by rw[hT]) O O O,⟨rfl,rfl,rfl,rfl,rfl,rfl,rfl,rfl,rfl⟩,zY⟩
    | some t =>
      refine OJ$ OR O ?_;have jA:=cI.m.cells;dsimp only at jA;refine OK$ Pt O$ Pw O$ P4 Vb O$ qV (OS Xm O O jA O)$ Pl O$ OY O (zeD (k:=no) (K:=KI) Xm (Sc U3) O O O cI.m.mp) ?_;rintro w9 ⟨rh,aw⟩;dsimp only at rh;rw[UC _ _ _ zZ] at rh;have i3:=cI.ins (g:=⟨no,b,[],false⟩) ⟨by dsimp only;omega,gB⟩ aX (by unfold TZ at rh⊢;rw[List.map_append];exact rh) aw;have cK:=aw.OH aX (gB 4);have oF:=aw.OH oD (eY 4);refine qM O$ Pl O$ Qw O O (RW pW O O) (Fw w9 b [] false oE cK oF) ?_;rintro _ w10 ⟨rfl,sF,oG,aA⟩;refine qM O$ P3 O$ OI func108 O ?_;have oh:=i3.zjb (g:=⟨no,b,[],false⟩) (List.mem_append_right _ (List.mem_singleton.2 O)) sF aA;refine⟨_,rfl,rfl,oG,_,oh,hI.zi7 h0 h1 FA pP (by rw[hT];exact ek) (by rw[hT]) (z1i iy) O O,⟨rfl,rfl,rfl,rfl,rfl,rfl,rfl,rfl,rfl⟩,λi e2=>?_⟩
      match i,e2 with
      |0,e2=>exact eY 0 e2
      |1,e2=>exact eY 1 e2
      |2,e2=>exact eY 2 e2
      |3,e2=>exact eY 3 e2
      |4,e2=>exact eY 4 e2
      | 5, ⟨q, hq, e2⟩ =>
        have e4:=z1i (b:=b) (t0:=[]) (t:=(some t).getD []) (d0:=false) (d:=(some t).isSome ||false) iy;have Mn:q∈l'++[⟨no,b,(some t).getD [],(some t).isSome ||false⟩]:=by rw[<-e4];exact hq
        rcases List.mem_append.1 Mn with e3|e3
        ·exact eY 5 ⟨q,e3,e2⟩
        ·rw[List.mem_singleton.1 e3] at e2;exact oE e2
   case iP=>
    cases g with
    | none =>
      refine SO O ?_
      exact(cX _ _ ⟨rfl,_,_,_,P.wr,bF,hI.zgR,kQ,λj e=> .inl e⟩).qb
    | some gk =>
      obtain⟨Mo,Mp⟩:=gA.gone gk O
      obtain⟨q,hq,Fx⟩:∃q∈P.l,q.k=gk:=by
       obtain⟨q,a,b⟩:=List.mem_map.1 ((hI.keys gk).2 Mo);exact⟨q,a,b⟩
      subst Fx;have fT:=bF.m.get hq;dsimp only at fT;have af:=Ext.Pa w4;refine OZ O$ An$ R0 (λw'=>Ext w4 w') O$ P8 0 O O (af)$ OM 1 O (Qd O) af$ OM 2 O (Px Vb O) af$ qT 3 O (λ_ h=>(OS Xm O O (h.OH fO) O)) af$ OM 4 O (Px z3y O) af$ qT 5 O (λ_ h=>(OS U3 O O (h.OH mF) O)) af$ qT 6 O (λ_ h=>ylk (k:=q.k) (K:=KI) Xm (Sc U3) zbr O O (bF.m.ext' h).mp.l) af ?_;dsimp only;rw[fT];refine OM 7 O (Rv O) af$ qE$ Pu.qb (e:=[(0,_),(1,_),(2,_),(3,_),(8,_),(9,_),(10,_),(11,_)]) ?_;refine An ?_;have eh:=Ext.Pa w4.drew;have jB:=af.OH fO;have mv:=af.OH mF;have bO:=bF.ext (af.trans eh);refine Pk [6] (λw'=>Ext w4.drew w') (by kernel_rfl) O$ PW 0 O O (eh)$ Pr 1 O (Qd O) eh$ Pr 2 O (Px Vb O) eh$ qL 3 O (λ_ h=>(OS Xm O O (h.OH jB) O)) eh$ Pr 4 O (Px z3y O) eh$ qL 5 O (λ_ h=>(OS U3 O O (h.OH mv) O)) eh$ Ty [6]$ qO 6$ zbz (i:=6) O O (zeT (k:=q.k) (K:=KI) Xm (Sc U3) O O bO.m.mp O) ?_;rintro _ w6 ⟨FB,aN⟩;refine⟨trivial,?_⟩;dsimp only at FB;rw[z2p] at FB;have cI:=bO.del (T0 P.l q.k) FB aN;have FC:OU w4 q.b (pgC q.t q.d) 204:=bF.m.pg q hq;have A4:q.b≠P.pm:=λe=>bF.m.Vk 5 4 ψ q.b ⟨q,hq,rfl⟩ e;have tN:=aN.OH ((af.trans eh).OH FC) A4
      have gB:∀i,¬Rg.cp {P with A:=A2,V:=V2,h:=P.h,mi:=z,wr:=P.wr,l:=SF P.l q.k} i q.b:=λi e=>by
       match i,e with
       |0,e=>exact bF.m.Vk 5 0 ψ q.b ⟨q,hq,rfl⟩ e
       |1,e=>exact bF.m.Vk 5 1 ψ q.b ⟨q,hq,rfl⟩ e
       |2,e=>exact bF.m.Vk 5 2 ψ q.b ⟨q,hq,rfl⟩ e
       |3,e=>exact bF.m.Vk 5 3 ψ q.b ⟨q,hq,rfl⟩ e
       |4,e=>exact A4 e
       | 5, ⟨q2, gS, e⟩ =>
         have e2:q2=q:=SV bF.m.pnd ((T0 P.l q.k).subset gS) hq e;have:=((z15 hI.nd q.k q2.k).1 (List.mem_map.2 ⟨q2,gS,rfl⟩)).2;exact this (by rw[e2])
      have ri:=hI.rng q hq;have Fz:=hI.tx q hq;have yB:q.t.length=512:=by rw[Fz];exact hI.len q.k ri.1 ri.2
      have oD:=aN.OH ((af.trans eh).OH kQ) (eX 4);have jA:=cI.m.cells;have FD:=aN.OH ((af.trans eh).OH mF) (zX 4);have z46:=(af.trans eh).size;have z56:=aN.size;refine qE$ Pt O$ P4 z3y O$ qV (OS U3 O O FD O)$ OT O$ Pb zgO O (z5m cI.m hI.zfd hI.down hI.due hI.B hI.N hK ri.1 ri.2 yB tN gB) ?_;rintro _ w7 ⟨rfl,Fd7,wr7,gy,aB,A1⟩;have A0:=cI.write gy aB A1 (bF.fp q.b ⟨5,q,hq,rfl⟩);have uM:q.b≠x:=λe=>eC 5 ⟨q,hq,e⟩
      have kR:=aB.OH oD (λe=>by
       rcases e with e|e| e
       ·exact uM e.symm
       ·exact eC 0 e
       ·exact eC 1 e)
      refine R3 O$ QF O$ Qm O ?_;exact(cX _ _ ⟨rfl,_,Fd7,_,wr7,A0,hI.zgD hq,kR,λj e=>(A1 j e).imp id λe=>⟨ω,ω⟩⟩).qb
end
section
variable {w w':World}{P P':Rg}{txt:Int->OO}{K:Nat}
def z9B {b x:Nat}{t:OO}{d:Bool}{x0:Value}(fD:b≠x)(hb:OU w b (pgC t d) 204)(hx:OU w x [x0] 9):Ps prog 109 [ptr b 0,ptr x 0] w λv w2=>v= .tuple #[]/\OU w2 b (pgC t d) 204/\OU w2 x [S t] 9/\Kp (λj=>j=x) w w2:=by
 replace hb:OU w b [S t,.bool d,I 0] 204:=hb
 refine py (e:=[(0,_),(1,_)]) func109 O ntmps109 O O$ Rp O$ Pw O$ P4 VH O$ P4 z2Y O$ qV (OS U9 O O hb O)$ OY O (QP ti9 O O O hx ξ) ?_
 rintro w1 ⟨ad,az⟩
 refine OJ$ Qh func109 O ?_
 exact⟨_,rfl,rfl,az.OH hb fD,ad,az⟩
def z6H {b x:Nat}{t s:OO}{d:Bool}(fD:b≠x)(hb:OU w b (pgC t d) 204)(hx:OU w x [S s] 9):Ps prog 126 [ptr b 0,ptr x 0] w λv w2=>v= .tuple #[]/\OU w2 b (pgC s true) 204/\OU w2 x [S s] 9/\Kp (λj=>j=b) w w2:=by
 replace hb:OU w b [S t,.bool d,I 0] 204:=hb
 refine py (e:=[(0,_),(1,_)]) func126 O ntmps126 O O$ Rp O$ qV (OS U9 O O hx O)$ qV (Sh (cs:=[_,_]) z7F O ziw O O)$ Pw O$ P4 VH O$ OY O (PL (news:=[S s,.bool true]) z7F O O O O hb ξ) ?_
 rintro w1 ⟨bK,az⟩
 refine OJ$ Qh func126 O ?_
 exact⟨_,rfl,rfl,bK,az.OH hx (λe=>fD e.symm),az⟩
def z7e (hm:Uj w P)(hI:VY P txt K)(hK:K<1000000000000){no:Int}(h0:0<=no)(h1:no<(P.L.length:Int)):Ps prog 68 [ptr P.s 0,I no] w λv w'=>v= .tuple #[S (txt no),I 0]/\∃P',Up w P w' P'/\VY P' txt K/\P.Same P':=by
 refine py (e:=[(0,_),(1,_)]) func68 O ntmps68 O O$ qN O$ OP O O (Rz (cs:=[_]) ti9 O) ?_
 rintro _ w1 ⟨x,rfl,hx,ad,hB⟩
 have dh:=hm.r ad
 have eC:∀i,¬P.cp i x:=hm.new ω
 refine P3 O$ PR O$ Pb zen O (ZO dh.m hI.down) ?_
 rintro _ w1 ⟨rfl,rfl⟩
 refine R3 O$ QF O$ Qm O$ QI O$ qV (ZR (first:=[]) (caps:=[.tmp 4]) O O)$ Pb ze7 O (ZU dh hI hK h0 h1 none (λt e=>by cases e) ω eC hB zjf (λw1 b t d fD hb hx=>z9B fD hb hx)) ?_
 rintro _ w2 ⟨rfl,ak,P',dm,cT,dt,A7⟩
 rw[ZD] at cT
 replace ak:OU w2 x [S (txt no)] 9:=ak
 refine QW O$ qV (OS U9 O O ak O)$ OT O$ OY O (QP ti9 O O O ak ξ) ?_
 rintro w3 ⟨au,av⟩
 replace au:OU w3 x [S (txt no)] 9:=au
 refine P3 O$ Po func68 (.cell1 U9 O O ((au).cell _) (.tmp O .nil)) ?_
 exact⟨_,rfl,rfl,P',dm.loc av (λj e=>by rw[show j=x from e];exact⟨.inr ω,A7⟩),cT,dt⟩
def z9n (hm:Uj w P)(hI:VY P txt K)(hK:K<1000000000000){no:Int}(h0:0<=no)(h1:no<(P.L.length:Int))(t:OO)(ht:t.length=512):Ps prog 82 [ptr P.s 0,I no,S t] w λv w'=>v=I 0/\∃P',Up w P w' P'/\VY P' (ZB txt no (some t)) (K+1)/\P.Same P':=by
 refine py (e:=[(0,_),(1,_),(2,_)]) func82 O ntmps82 O O$ qN O$ OP O O (R6 O (cs:=[S t]) O) ?_
 rintro _ w1 ⟨x,rfl,hx,ad,hB⟩
 have dh:=hm.r ad
 have eC:∀i,¬P.cp i x:=hm.new ω
 refine P3 O$ PR O$ Pb zen O (ZO dh.m hI.down) ?_
 rintro _ w1 ⟨rfl,rfl⟩
 refine R3 O$ QF O ?_
 have hg:=Ext.Pa w1
 refine Qm O$ An$ An$ R0 (λw'=>Ext w1 w') O$ qT 0 O (λ_ h=>OS U9 O O (h.OH hB) O) hg$ OM 1 O (Wh U9 O) hg$ P8 2 O O (hg)$ S1 3 O z3J O (z1l (dh.m.ext' hg) hI.N) ?_
 rintro _ w2 ⟨rfl,rfl⟩
 refine⟨hg,?_⟩
 refine OM 4 O (yne O O) hg$ TC$ qE$ SO O$ QI O$ qV (ZR (first:=[]) (caps:=[.tmp 5]) O O)$ Pb ze7 O (ZU (dh.ext hg) hI hK h0 h1 (some t) (λs e=>by cases e;exact ht) ω eC (hg.OH hB) ziK (λw1 b t2 d fD hb hx=>z6H fD hb hx)) ?_
 rintro _ w2 ⟨rfl,ak,P',dm,cT,dt,A7⟩
 refine P3 O$ OI func82 O ?_
 exact⟨_,rfl,rfl,P',dm,cT,dt⟩
def z6E (hm:Uj w P){a n:Nat}(hp:Pre P.L a)(df:1<=n)(pN:a+n<=P.L.length):Ps prog 50 [ptr P.s 0,I (n:Int)] w λv w'=>v= .tuple #[.agg #[I (a:Int),I (n:Int)],I 0]/\Up w P w' {P with L:=Qj P.L a n true}:=by
 refine py (e:=[(0,_),(1,_)]) func50 O ntmps50 O O$ qN O$ OP O O (Rz (cs:=[_,_]) R4 O) ?_
 rintro _ w1 ⟨x,rfl,hx,ad,hB⟩
 have dh:=hm.r ad
 have eC:∀i,¬P.cp i x:=hm.new ω
 have kN:=dh.m.cells
 refine P3 O$ PR O$ qV (Qb XB O O)$ Qm O$ Pt O$ Pw O$ P4 z3x O$ qV (OS U67 O O kN O)$ OT O$ Pb zkG O (z4H dh.m.ext hp df pN) ?_
 rintro _ w2 ⟨rfl,eu,am⟩
 have dm:=dh.exM eu am
 have ak:=am.OH hB (λe=>eC 2 (.inr e))
 refine qV (Ry (v:= .agg #[I (a:Int),I (n:Int)]) O O)$ qV (Ry (v:=I 0) O O)$ OY O (PL (news:=[I (a:Int),I (n:Int)]) R4 O O O O ak ξ) ?_
 rintro w3 ⟨au,av⟩
 replace au:OU w3 x [I (a:Int),I (n:Int)] 118:=au
 refine P3 O$ Po func50 (.cell Xj O R4 O (OU.cells (n:=2) au (news:=[_,_]) O) O (.tmp O .nil)) ?_
 refine⟨_,rfl,rfl,dm.loc av (λj e=>by
  rw[show j=x from e];refine⟨.inr ω,λi e2=>?_⟩
  match i,e2 with
  |0,e2=>exact eC 0 e2
  |1,e2=>exact eC 1 e2
  |2,e2=>exact eC 2 e2
  |3,e2=>exact eC 3 e2
  |4,e2=>exact eC 4 e2
  |5,e2=>exact eC 5 e2)⟩
theorem VY.Qp (h:VY P txt K){L':List Bool}(hl:L'.length=P.L.length):VY {P with L:=L'} txt K:=
 ⟨h.aok,h.asz,h.keys,h.nd,λg hg=>by rw[hl];exact h.rng g hg,h.tx,h.cl,λx h0 h1=>by rw[hl] at h1;exact h.out x h0 h1,λx h0 h1=>by rw[hl] at h1;exact h.len x h0 h1,h.down,h.due,h.B.trans hl.symm,h.N,h.ca,h.cc,h.Ss⟩
def z8T {d m gi:Nat}{L:List Bool}{Fd:Nat->Prop}(hd:Wc w d (Dev.fresh L.length 1) Fd)(he:XA w m gi L)(BI:¬Fd m/\¬Fd gi)(n:Nat)(df:1<=n)(jM:n<=1000):Ps prog 22 [ptr d 0,I (n:Int),ptr m 0] w λv w'=>∃P,v= .tuple #[ptr P.s 0,I 0]/\Uj w' P/\VY P (λ_=>zeros 512) 0/\P.m=m/\P.gi=gi/\P.L=L/\(∀b,P.fp b->Fd b\/b=m\/b=gi\/w.heap.size<=b)/\Ext w w':=by
 refine py (e:=[(0,_),(1,_),(2,_)]) func22 O ntmps22 O O$ qN O$ Qr O$ QO$ Pt O$ qV (Qb U26 O O)$ Pl O$ qV (Qb U67 O O)$ PT O$ P3 O$ OR O$ Pt O$ QV O$ PO ?_
 refine Pl O$ QD O$ PO$ PT O$ P3 O$ SO O$ OG$ Pt O$ Pb zkn O (zb5 n df ω w) ?_
 rintro _ w1 ⟨c,V,p,rfl,lC,j0,ad⟩
 refine OT O$ qV (Ry (v:=ptr c 0) O O)$ qV (Ry (v:=I 0) O O)$ Qr O$ Pu.qb (e:=[(0,_),(1,_),(2,_),(6,_),(7,_),(8,_),(9,_)]) ?_
 refine PR O$ QF O$ Qm O$ QI O$ OT O$ OP O O (pmm) ?_
 rintro _ w2 ⟨pm,rfl,LZ,ae,cB⟩
 have jU:SG KI w2 pm []:=SG.new cB
 have lpm:=jU.lt
 refine OT O$ qV (Sh (cs:=[_,_,_,_,_,_,_]) z27 O zkd O O)$ qV (Sh (cs:=[_,_,_,_,_,_,_,_,_,_,_,_]) zg4 O zhb O O)$ OP O O (R6 O (cs:=plC ⟨0,d,m,gi,c,pm,p,n,V,Dev.fresh L.length 1,z6V n,[],L,Fd,0,0,0⟩) O) ?_
 rintro _ w3 ⟨s,rfl,hs,ah,au⟩
 refine Qr O$ OI func22 O ?_
 have z1:=ad.size
 have z2:=ae.size
 have et:=ae.trans ah
 have cj:=ad.trans et
 have vY:=lC.ext et
 have FE:∀{b:Nat},SE c V p b->b<w1.heap.size:=lC.lt
 have FF:=hd.lt
 have ltm:=he.ltm
 have ltg:=he.ltg
 refine⟨_,rfl,⟨s,d,m,gi,c,pm,p,n,V,Dev.fresh L.length 1,z6V n,[],L,Fd,0,0,0⟩,rfl,⟨au,hd.ext cj,he.ext cj,vY,jU.ext ah,(λg hg=>by cases hg),List.nodup_nil,?_⟩,⟨zcZ df,jM,λx=>?_,List.nodup_nil,(λg hg=>by cases hg),(λg hg=>by cases hg),(λg hg=>by cases hg),λx _ _ _=>rfl,λx _ _=>by simp[zeros],rfl,rfl,rfl,rfl,Int.le_refl _,Nat.le_refl _,Nat.zero_le _⟩,rfl,rfl,rfl,λb ⟨i,hb⟩=>?_,cj⟩
 ·intro i j ne b hb bN
  have cls:∀i,Rg.cp ⟨s,d,m,gi,c,pm,p,n,V,Dev.fresh L.length 1,z6V n,[],L,Fd,0,0,0⟩ i b->(i=0/\b=s)\/(i=1/\Fd b/\b<w.heap.size)\/(i=2/\(b=m\/b=gi)/\b<w.heap.size)\/(i=3/\w.heap.size<=b/\b<w1.heap.size)\/(i=4/\b=pm):=λi hb=>by
   match i,hb with
   |0,e=>exact .inl ⟨rfl,e⟩
   |1,e=>exact .inr (.inl ⟨rfl,e,FF b e⟩)
   |2,e=>exact .inr (.inr (.inl ⟨rfl,e,by have e':b=m\/b=gi:=e;omega⟩))
   |3,e=>exact .inr (.inr (.inr (.inl ⟨rfl,j0 b e,FE e⟩)))
   |4,e=>exact .inr (.inr (.inr (.inr ⟨rfl,e⟩)))
   |5,⟨g,hg,e⟩=>cases hg
  have h1:=cls i hb;have h2:=cls j bN;rcases h1 with⟨e,h1⟩|⟨e,h1,vX⟩|⟨e,h1,vX⟩|⟨e,h1,vX⟩|⟨e,h1⟩<;>rcases h2 with⟨f,h2⟩|⟨f,h2,IZ⟩|⟨f,h2,IZ⟩|⟨f,h2,IZ⟩|⟨f,h2⟩<;>first|omega|skip
  ·rcases h2 with e| e
   ·exact BI.1 (e▸h1)
   ·exact BI.2 (e▸h1)
  ·rcases h1 with e| e
   ·exact BI.1 (e▸h2)
   ·exact BI.2 (e▸h2)
 ·constructor
  ·intro e;cases e
  ·intro e;rcases e with e|e<;>cases e
 ·match i,hb with
  |0,e=>exact .inr (.inr (.inr (by have:b=s:=e;omega)))
  |1,e=>exact .inl e
  |2,e=>rcases e with e|e;exact .inr (.inl e);exact .inr (.inr (.inl e))
  |3,e=>exact .inr (.inr (.inr (j0 b e)))
  |4,e=>exact .inr (.inr (.inr (by have:b=pm:=e;omega)))
  |5,⟨g,hg,e⟩=>cases hg
end
def z9P {l:List (Int×OO)}{n:Int}{t:OO}(h:WB l n=some t):∃x∈l,x.2=t:=by
 unfold WB at h
 obtain⟨x,hx,e⟩:=Option.map_eq_some_iff.1 h
 exact⟨x,List.mem_reverse.1 (List.mem_of_find?_eq_some hx),e⟩
theorem Dev.Ok.zcB {D:Dev}(h:D.Ok)(n:Int):(D.now n).length=512*D.N:=by
 unfold Dev.now
 cases hl:WB D.cache n with
 |none=>exact h.kept n
 | some t =>
   obtain⟨x,hx,rfl⟩:=z9P hl;exact(h.cache x hx).2.2
section
variable {w w':World}{P P':Rg}{txt:Int->OO}{K:Nat}
def VY.zhs (h:VY P txt K)(ay:P.D.Ok){k:Int}:VY {P with A:=P.A.drop k,l:=SF P.l k} (λx=>if x=k then P.D.now k else txt x) K:=by
 have hk:=z15 h.nd k
 have dM:=T0 P.l k
 have bC:=Arc.z9x h.aok k
 have BG:=h.ca
 have Ft:=h.cc
 have zW:S3 (SF P.l k)<=S3 P.l:=dM.countP_le
 have gz:∀q∈SF P.l k,q∈P.l/\q.k≠k:=λq hq=>⟨dM.subset hq,((hk q.k).1 (List.mem_map.2 ⟨q,hq,rfl⟩)).2⟩
 refine⟨h.aok.drop k,h.asz,λx=>by dsimp only;rw[hk,bC,h.keys],(dM.map _).nodup h.nd,λq hq=>h.rng q (gz q hq).1,λq hq=>?_,λq hq hd=>?_,λx h0 h1 hx=>?_,λx h0 h1=>?_,h.down,h.due,h.B,h.N,by dsimp only;omega,by dsimp only;omega,h.Ss⟩
 ·rw[if_neg (gz q hq).2];exact h.tx q (gz q hq).1
 ·rw[if_neg (gz q hq).2];exact h.cl q (gz q hq).1 hd
 ·dsimp only at h1 hx⊢;rw[bC,not_and] at hx;by_cases e:x=k
  ·rw[if_pos e,e]
  ·rw[if_neg e];exact h.out x h0 h1 λe2=>hx e2 e
 ·dsimp only at h1⊢;by_cases e:x=k
  ·rw[if_pos e,ay.zcB,h.N]
  ·rw[if_neg e];exact h.len x h0 h1
def VY.TY (h:VY P txt K)(hA:P'.A=P.A)(hl:P'.l=P.l)(hD:P'.D=P.D)(hL:P'.L=P.L):VY P' txt K:=by
 obtain⟨a1,a2,a3,a4,a5,a6,a7,a8,a9,b1,b2,b3,b4,b5,b6,b7⟩:=h
 constructor<;>simp only[hA,hl,hD,hL]<;>assumption
def Uj.dok (h:Uj w P):P.D.Ok:=by
 obtain⟨m,kp,ca,h1,-⟩:=h.dev
 exact h1.ok
def z9k (l:List Pg)(k:Int):(k∉l.map (·.k)/\Re (TZ l) k=none)\/∃q∈l,q.k=k/\Re (TZ l) k=some (ptr q.b 0):=by
 induction l with
 |nil=>exact .inl ⟨ξ,rfl⟩
 | cons g l ih =>
   show _\/_;by_cases h:k=g.k
   ·exact .inr ⟨g,List.mem_cons_self,h.symm,if_pos h⟩
   ·have e:Re (TZ (g::l)) k=Re (TZ l) k:=if_neg h;rw[e];rcases ih with⟨a,b⟩|⟨q,a,b,c⟩
    ·exact .inl ⟨by simp[h] at a⊢;exact a,b⟩
    ·exact .inr ⟨q,List.mem_cons_of_mem _ a,b,c⟩
def z5J (hm:Uj w P)(hI:VY P txt K){s n:Nat}(df:1<=n)(j7:s+n<=P.L.length):Ps prog 91 [ptr P.s 0,.agg #[I (s:Int),I (n:Int)]] w λv w'=>v=I 0/\∃P' txt',Up w P w' P'/\VY P' txt' K/\(∀x:Int,x<(s:Int)\/(s:Int)+(n:Int)<=x->txt' x=txt x)/\P.Same P':=by
 have dX:=hm.ext.n
 have kN:=hm.cells
 refine py (e:=[(0,_),(1,_)]) func91 O ntmps91 O O$ qN O$ OP O O (R6 O (cs:=[I (s:Int),I (n:Int)]) O) ?_
 rintro _ w1 ⟨b3,rfl,dI,ad,au⟩
 have dh:=hm.r ad
 have nn:∀i,¬P.cp i b3:=hm.new ω
 have kU:=ad.OH kN
 have hg:=Ext.Pa w1
 have fi:=Wq (dh.m.dev.ext hg)
 rw[hI.B] at fi
 refine P3 O$ QO$ Pt O$ qV (Qb XB O O)$ P3 O$ OR O$ Pt O$ Pw O$ P4 z8q O$ qV (OS U4 O O kU O)$ P3 O$ OR O$ An$ R0 (λw'=>Ext w1 w') O ?_
 refine OM 0 O (Px R9 O) hg$ qT 1 O (λ_ h=>(OS U3 O O (h.OH au) O)) hg$ OM 2 O (ylt O O) hg$ TC$ P8 3 O O (hg)$ OM 4 O (Px QX O) hg$ qT 5 O (λ_ h=>(OS U3 O O (h.OH au) O)) hg$ OM 6 O (ylt O O) hg$ TC$ OM 7 O (U6 O O) hg$ P8 8 O O (hg)$ OM 9 O (Px QX O) hg$ qT 10 O (λ_ h=>(OS U3 O O (h.OH au) O)) hg$ P8 11 O O (hg) ?_
 refine OM 12 O (Qd O) hg$ OM 13 O (Px UU O) hg$ qT 14 O (λ_ h=>(OS U26 O O (h.OH kU) O)) hg$ S1 15 O z3Y O (fi) ?_
 rintro _ w2 ⟨rfl,rfl⟩
 refine⟨hg,?_⟩
 refine OM 16 O (yge O O) hg$ TC$ OM 17 O (U6 O O) hg$ P8 18 O O (hg)$ OM 19 O (Px R9 O) hg$ qT 20 O (λ_ h=>(OS U3 O O (h.OH au) O)) hg$ P8 21 O O (hg)$ OM 22 O (Qd O) hg$ OM 23 O (Px UU O) hg$ qT 24 O (λ_ h=>(OS U26 O O (h.OH kU) O)) hg$ OM 26 O (Px QX O) hg$ qT 27 O (λ_ h=>(OS U3 O O (h.OH au) O)) hg$ S1 25 O z3Y O (fi) ?_
 rintro _ w2 ⟨rfl,rfl⟩
 refine⟨hg,?_⟩
 refine OM 28 O (XG O O ω) hg$ OM 29 O (Y7 O O) hg$ TC$ OM 30 O (U6 O O) hg$ OM 31 O (Rv O) hg ?_
 obtain⟨w2,nr⟩:∃w2,w1.drew=w2:=⟨_,rfl⟩
 rw[nr] at hg⊢
 have dr:=hg.OH au
 have dm:=dh.ext hg
 have i5:=hg.OH kU
 have l3:=dr.lt
 refine qE$ Pu.qb (e:=[(0,_),(3,_),(4,_),(16,_)]) ?_
 refine SO O$ OG$ An$ qN O$ P4 R9 O$ qV (OS U3 O O dr O)$ OT O$ OJ$ OL$ RN (α:=Nat) (0) (λi=>[(0,ptr P.s 0),(3,ptr b3 0),(49,I (n:Int)),(50,I (i:Int))]) (λi w'=>Ext w2 w'/\i<=n) (λi=>n-i) ?hI ?hround
 case hI=>exact⟨Ext.refl _,Nat.zero_le _⟩
 case hround =>
  rintro i w3 ⟨ah,hi⟩ ih;have ci:=dm.ext ah;have kP:=ah.OH i5;have eI:=ah.OH dr;have ag:=Ext.Pa w3
  try dsimp only
  refine qN O$ QV O$ OJ$ An$ OX O (λh0=>?_)$ λh0=>?_
  ·refine OK$ QO$ Pt O$ P3 O$ An$ R0 (λw'=>Ext w3 w') O$ P8 0 O O (ag)$ OM 1 O (Qd O) ag$ OM 2 O (Px Vb O) ag$ qT 3 O (λ_ h=>(OS Xm O O (h.OH kP) O)) ag$ OM 4 O (Px QX O) ag$ qT 5 O (λ_ h=>(OS U3 O O (h.OH eI) O)) ag$ P8 6 O O (ag)$ OM 7 O (UN O O ω) ag ?_;rw[show(s:Int)+(i:Int)=((s+i:Nat):Int) by omega];refine qT 8 O (λ_ hS=>ylk (k:=((s+i:Nat):Int)) (K:=KI) Xm (Sc U3) zbr O O (ci.m.ext' hS).mp.l) ag ?_;rcases z9k P.l ((s+i:Nat):Int) with⟨-,fT⟩|⟨q,hq,-,fT⟩
   ·rw[fT];refine OM 9 O (Rv O) ag$ qE$ Pt O$ qV (z5c ziT O O)$ OT O$ QY$ QY$ qS$ PT O$ Qm O$ OG$ OQ O$ Q4 O$ OT O ?_;refine OJ ?_;exact(ih (i+1) _ ⟨ah.trans ag,ω⟩ ω).qb
   ·rw[fT];have rQ:=(ag.OH (ci.m.pg q hq):OU w3.drew q.b [S q.t,.bool q.d,I 0] 204);refine OM 9 O (Rv O) ag$ qE$ Pt O$ qV (z5c ziT O O)$ Pl O$ Pw O$ P4 zcc O$ qV (OS U3 O O rQ O)$ QD O$ PO$ Ra O$ Qm O$ OG$ OQ O ?_;refine Q4 O$ OT O$ OJ ?_;exact(ih (i+1) _ ⟨ah.trans ag,ω⟩ ω).qb
  ·have aq : i = n := by omega
   subst aq;refine OV O$ An$ qN O$ P4 R9 O$ qV (OS U3 O O eI O)$ OT O$ OJ$ OL$ RN (α:=Nat×Rg×(Int->OO)) ((0,P,txt)) (λy=>[(0,ptr P.s 0),(3,ptr b3 0),(73,I (i:Int)),(74,I (y.1:Int))]) (λy w'=>Up w P w' y.2.1/\VY y.2.1 y.2.2 K/\y.1<=i/\P.Same y.2.1/\(∀x:Int,x<(s:Int)\/(s:Int)+(i:Int)<=x->y.2.2 x=txt x)/\OU w' b3 [I (s:Int),I (i:Int)] 118/\∀j,¬y.2.1.cp j b3) (λy=>i-y.1) ?hI ?hround
   case hI=>exact⟨ci,hI,Nat.zero_le _,⟨rfl,rfl,rfl,rfl,rfl,rfl,rfl,rfl,rfl⟩,λx _=>rfl,eI,nn⟩
   case hround =>
    rintro⟨j,Pj,tj⟩ w4 ⟨bF,jv,hj,bQ,ja,ev,lR⟩ ih2;dsimp only at bF jv hj bQ ja ev lR ih2⊢;have fO:=bF.m.cells;rw[bQ.s] at fO;have af:=Ext.Pa w4;have eh:=Ext.Pa w4.drew
    try dsimp only
    refine qN O$ QV O$ OJ$ An$ OX O (λh2=>?_)$ λh2=>?_
    ·refine OK$ QO$ Pt O$ P3 O$ An$ Pk [8] (λw'=>Ext w4 w') (by kernel_rfl) O$ PW 0 O O (af)$ Pr 1 O (Qd O) af$ Pr 2 O (Px Vb O) af$ qL 3 O (λ_ h=>(OS Xm O O (h.OH fO) O)) af$ Pr 4 O (Px QX O) af$ qL 5 O (λ_ h=>(OS U3 O O (h.OH ev) O)) af$ PW 6 O O (af)$ Pr 7 O (UN O O ω) af ?_;refine Ty [8] ?_;rw[show(s:Int)+(j:Int)=((s+j:Nat):Int) by omega];refine qO 8$ zbz (i:=8) O O (zeT (k:=((s+j:Nat):Int)) (K:=KI) Xm (Sc U3) O O (bF.ext af).m.mp O) ?_;rintro _ w5 ⟨wJ,aj⟩;refine⟨trivial,?_⟩;rw[z2p] at wJ;have bO:=(bF.ext af).del (T0 _ _) wJ aj;have cU:=aj.OH (af.OH ev) (lR 4);have jB:=bO.m.cells;dsimp only at jB;rw[bQ.s] at jB;have dL:=Ext.Pa w5;have cI:=bO.ext dL;refine qE$ Pk [8] (λw'=>Ext w5 w') (by kernel_rfl) O$ PW 0 O O (dL)$ Pr 1 O (Qd O) dL$ Pr 2 O (Px z8f O) dL$ qL 3 O (λ_ h=>(OS za9 O O (h.OH jB) O)) dL$ Pr 4 O (Px QX O) dL$ qL 5 O (λ_ h=>(OS U3 O O (h.OH cU) O)) dL$ PW 6 O O (dL)$ Pr 7 O (UN O O ω) dL$ Ty [8] ?_;rw[show(s:Int)+(j:Int)=((s+j:Nat):Int) by omega];refine S1 8 O zh7 O (z99 cI.m.arc (k:=((s+j:Nat):Int))) ?_;rintro _ w6 ⟨⟨z,rfl⟩,V6,sE⟩;refine⟨trivial,?_⟩;have A0:=cI.arc sE;have jj:=sE.k.OH (dL.OH cU) (lR 3);refine qE$ OG$ OQ O$ Q4 O$ OT O$ OJ ((ih2 (j+1,_,_) _ ⟨A0,(jv.zhs bF.m.dok (k:=((s+j:Nat):Int))).TY O O O O,by dsimp only;omega,⟨bQ.s,bQ.d,bQ.m,bQ.gi,bQ.c,bQ.pm,bQ.p,bQ.fr,bQ.L⟩,λx hx=>?_,jj,λi2 e=>?_⟩ (by dsimp only;omega)).qb)
     ·show(if x=((s+j:Nat):Int) then Pj.D.now ((s+j:Nat):Int) else tj x)=txt x;rw[if_neg ω];exact ja x hx
     ·match i2,e with
      |0,e=>exact lR 0 e
      |1,e=>exact lR 1 e
      |2,e=>exact lR 2 e
      | 3, e =>
        rcases sE.fp b3 e with e| e
        ·exact lR 3 e
        ·have:=(dL.OH cU).lt;omega
      |4,e=>exact lR 4 e
      |5,⟨q,hq,e⟩=>exact lR 5 ⟨q,(T0 _ _).subset hq,e⟩
    ·have sh:j=i:=by omega
     subst sh;refine OV O$ QN O$ OI func91 O ?_;exact⟨_,rfl,rfl,Pj,tj,bF,jv,ja,bQ⟩
def z5y (hm:Uj w P)(hI:VY P txt K){s n:Nat}(df:1<=n)(dt:2<=s)(j7:s+n<=P.L.length)(hc:∀i,s<=i->i<s+n->P.L[i]? =some true):Ps prog 58 [ptr P.s 0,.agg #[I (s:Int),I (n:Int)]] w λv w'=>v=I 0/\∃P' txt',Up w P w' {P' with L:=Qj P.L s n false}/\VY {P' with L:=Qj P.L s n false} txt' K/\(∀x:Int,x<(s:Int)\/(s:Int)+(n:Int)<=x->txt' x=txt x)/\P.Same P':=by
 refine py (e:=[(0,_),(1,_)]) func58 O ntmps58 O O$ qN O$ OP O O (R6 O (cs:=[I (s:Int),I (n:Int)]) O) ?_
 rintro _ w1 ⟨b3,rfl,dI,ad,au⟩
 have dh:=hm.r ad
 have nn:∀i,¬P.cp i b3:=hm.new ω
 refine P3 O$ PR O$ qV (Pv (news:=[I (s:Int),I (n:Int)]) Xj O R4 O (OU.cells (n:=2) au O) O)$ Pb zjn O (z5J dh.m hI df j7) ?_
 rintro _ w2 ⟨rfl,P',txt',dm,cT,ja,bQ⟩
 have l3:=au.lt
 have dr:=dm.k.OH au (λ⟨i,e⟩=>nn i e)
 have uO:=dh.trans dm
 have i5:=uO.m.cells
 rw[bQ.s] at i5
 refine R3 O$ QF O ?_
 have aa:=Ext.Pa w2
 have lL:=(uO.ext aa).m.ext
 rw[bQ.L] at lL
 refine Qm O$ An$ Pk [5,6] (λw'=>Ext w2 w') (by kernel_rfl) O$ PW 0 O O (aa)$ Pr 1 O (Qd O) aa$ Pr 2 O (Px z3x O) aa$ qL 3 O (λ_ h=>OS U67 O O (h.OH i5) O) aa$ qL 4 O (λ_ h=>Pv (news:=[I (s:Int),I (n:Int)]) Xj O R4 O (OU.cells (n:=2) (h.OH dr) O) O) aa$ Ty [5]$ S1 5 O zjP O (z5H lL s n df dt j7 hc) ?_
 rintro _ w3 ⟨rfl,IA,ar⟩
 refine⟨trivial,?_⟩
 have ci:=(uO.ext aa).exM IA ar
 refine OM 6 O (Rv O) trivial$ qE$ OI func58 O ?_
 exact⟨_,rfl,rfl,P',txt',ci,cT.Qp (by rw[Qa j7,bQ.L]),ja,bQ⟩
end
end Go.Proofs.YtffbidffdbpcoaaGreatDoor
