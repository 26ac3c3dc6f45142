/- Merged by program. -/
import Derived.Test.YtbihggbffaigjaaGreatDoorZc5
set_option linter.all false
set_option maxRecDepth 1000000
set_option maxHeartbeats 16000000
namespace Go.Proofs.YtbihggbffaigjaaGreatDoor
open Go Go.RowKit Go.Proofs.Tryz
def Dev.push (D:Dev)(n:Int)(s:Ov):Dev:={D with cache:=D.cache++[(n,s)]}
def z9Q {P:Program}{e:Env}{d:Option Nat}{ty t t':TypeId}{pos:String}{aft:Array Edge}{g:Option (Nat×Bool)}{x y:Operand}{w:World}{a b:Int}(hx:look e x=some (I a))(hy:look e y=some (I b)):Y P e ⟨d,.binOp .add t x y t',ty,pos,aft,g⟩ (I (IntKind.i64.wrap (a+b))) w w:=fun ρ hρ=>by simp[execOp,go_sem,hρ _ _ hx,hρ _ _ hy]
def Dev.zdv (D:Dev):Dev:=D.zal D.Sn D.zcy D.mask
def Dev.write (D:Dev)(n:Int)(s:Ov):Dev×Int:=
 if D.down then(D,8)
 else if D.has n=false\/s.length≠512*D.N then(D,1)
 else if D.due=1 then(((D.push n s).count).zdv,8) else((D.push n s).count,0)
def Dev.read (D:Dev)(n:Int):Dev×Ov×Int:=
 if D.down then(D,[],8) else if D.has n=false then(D,[],1) else({D with reads:=IntKind.i64.wrap (D.reads+1)},D.now n,0)
def z11 (w:World)(p m:Nat)(kp ca:Value)(D':Dev)(w':World):Prop:=∃kp' ca',RK w' p m kp' ca' D'/\Upd (fpD p m kp ca) (fpD p m kp' ca') w w'
def z11.same {w w':World}{p m:Nat}{kp ca:Value}{D:Dev}(h:RK w' p m kp ca D)(k:Ext w w'):z11 w p m kp ca D w':=⟨kp,ca,h,k.Zb⟩
def zbe {w w':World}{p m:Nat}{kp ca:Value}(k:Kp (λi=>i=p\/i=m) w w'):Upd (fpD p m kp ca) (fpD p m (.slice none 0 0) (.slice none 0 0)) w w':=
 ⟨k.OA λi hi=>hi.elim .inl λh=> .inr (.inl h),λi hi=>by
  rcases hi with h|h|h| h
  ·exact .inl (.inl h)
  ·exact .inl (.inr (.inl h))
  ·cases h
  ·cases h⟩
section
variable {w:World}{p m:Nat}{kp ca:Value}{D:Dev}
def zau (n:Int)(h:RK w p m kp ca D)(hc:D.Bd):
  P9 prog 158 [ptr p 0,I n] w λv w'=>v= .tuple #[S (D.read n).2.1,I (D.read n).2.2]/\z11 w p m kp ca (D.read n).1 w':=by
 refine py (e:=[(0,_),(1,_)]) func158 O ntmps158 O O$ qN O$ Qd O$ Pz O$ OQ zda O (z1E h) ?_
 rintro _ w1 ⟨rfl,rfl⟩
 cases hd:D.down with
 | true =>
   refine QO O$ Ql O$ Oq$ OH O (λhz=>?_)$ λhz=>?_
   ·refine P7 O$ Qd O$ Oo func158 O ?_;have e:D.read n=(D,[],8):=by simp[Dev.read,hd]
    rw[e];exact⟨_,rfl,rfl,z11.same h (Ext.refl _)⟩
   ·exact absurd ψ hz
 | false =>
   refine QO O$ Ql O$ Oq$ OH O (λhz=>?_)$ λhz=>?_
   ·exact absurd hz ψ
   ·refine Ot$ An$ Qh O$ OQ zdH O (z77 n h) ?_;rintro _ w2 ⟨rfl,rfl⟩
    cases hh:D.has n with
    | false =>
      refine qV ((S1 O))$ Oq$ OI O$ qN O$ Qd O$ Oo func158 O ?_;have e:D.read n=(D,[],1):=by simp[Dev.read,hd,hh]
      rw[e]
      exact⟨_,rfl,rfl,z11.same h (Ext.refl _)⟩
    | true =>
      refine qV ((S1 O))$ Oq$ Ox O ?_;have hM:=h.On;refine Ot (P7 O (Pb O (OL z74 O (qV (OB U3 O O hM O) (qV (z9Q O O) (Pb O (OL z74 O (OJ O (Qw PH O O O hM ξ) ?_))))))));rintro w3 ⟨oV,ar⟩;have h3:=h.turn (D':={D with reads:=IntKind.i64.wrap (D.reads+1)}) oV ar O O O O ⟨h.ok.hB,h.ok.hN,h.ok.due,h.ok.sf,h.ok.cache,h.ok.len,trivial⟩;refine qM O$ OX O$ OQ zfW O (zbD n h3 hc.2.1) ?_;rintro _ w4 ⟨rfl,aC⟩;refine Qd O$ Oo func158 O ?_;have e:D.read n=({D with reads:=IntKind.i64.wrap (D.reads+1)},D.now n,0):=by simp[Dev.read,hd,hh]
      rw[e];exact⟨_,rfl,rfl,kp,ca,h3.ext aC,(ar.OA λ_ h=> .inl h).trans aC.kp,λ_ h=> .inl h⟩
def z94 (n:Int)(s:Ov)(h:RK w p m kp ca D)(hc:D.Bd)(hk:D.Sn.length<=17592186044416):
  P9 prog 193 [ptr p 0,I n,S s] w λv w'=>v=I (D.write n s).2/\z11 w p m kp ca (D.write n s).1 w':=by
 have fg:maxLen=9223372036854775807:=rfl
 obtain⟨fU,fJ,pO⟩:=hc
 have LE:=h.ok.len
 refine py (e:=[(0,_),(1,_),(2,_)]) func193 O ntmps193 O O$ QB O$ Pz O$ OQ zda O (z1E h) ?_
 rintro _ w1 ⟨rfl,rfl⟩
 cases hd:D.down with
 | true =>
   refine QO O$ Ql O$ Oq$ OH O (λhz=>?_)$ λhz=>?_
   ·refine P7 O$ OK O$ Oo func193 O ?_;have e:D.write n s=(D,8):=by simp[Dev.write,hd]
    rw[e];exact⟨_,rfl,rfl,z11.same h (Ext.refl _)⟩
   ·exact absurd ψ hz
 | false =>
   refine QO O$ Ql O$ Oq$ OH O (λhz=>?_)$ λhz=>?_
   ·exact absurd hz ψ
   ·refine Ot$ An$ Qh O$ OQ zdH O (z77 n h) ?_;rintro _ w2 ⟨rfl,rfl⟩
    cases hh:D.has n with
    | false =>
      refine qV ((S1 O))$ OC O$ QI$ QI$ qS$ QQ O$ Oq$ OI O$ QB O$ Oo func193 O ?_;have e:D.write n s=(D,1):=by simp[Dev.write,hd,hh]
      rw[e]
      exact⟨_,rfl,rfl,z11.same h (Ext.refl _)⟩
    | true =>
      have hn:0<=n/\n<(D.B:Int):=by simpa[Dev.has] using hh
      refine qV ((S1 O))$ OX O$ qV (VX U9 O)$ OC O$ OQ zeo O (z1e h) ?_;rintro _ w3 ⟨rfl,rfl⟩;refine Ql O$ PC O$ Oq$ OH O (λcH=>?_)$ λcH=>?_
      ·refine QB O$ Oo func193 O ?_
       have e:D.write n s=(D,1):=by
        have:s.length≠512*D.N:=by omega
        simp[Dev.write,hd,hh,this]
       rw[e];exact⟨_,rfl,rfl,z11.same h (Ext.refl _)⟩
      ·have gG:s.length=512*D.N:=by omega
       obtain⟨a,cap,rfl,ha⟩:=h.cache.rd.shape;have hM:=h.On;refine Ot (Qh O (Pb O (OL XV O (qV (OB z0i O O hM O) (OX O (qV (Sa (cs:=[_,_]) W5 O zf8 O O) (Oy O O (XM (cs:=[_,_]) (zs:=[Value.int .i64 0,Value.string ⟨#[]⟩]) z0i W5 O (by kernel_rfl) O O O ψ) ?_)))))));rintro _ w4 ⟨b4,rfl,⟨gF,aC,aH⟩,ep⟩;have nS:=h.cache.ext aC;refine Oy O O (pap z0i W5 O ψ O O nS ep.rd (by intro c hc;simp at hc;rcases hc with rfl|rfl<;>rfl) ω ω) ?_;rintro v' w5 ⟨fP,ai,rH,-⟩;have Ek:oneV v'=true:=by rcases fP.shape with⟨rfl,-⟩|⟨g,cap,rfl,-⟩<;>rfl
       have h4:=h.ext aC
       have ll:∀g,(Value.slice a D.cache.length cap).ownBlock=some g->¬g=p:=λg hg qd=>by
        obtain⟨xs,fz',hx⟩:=Td h4.cache hg;obtain⟨fz,hb,-⟩:=h4.On;rw[qd,hb] at hx;cases hx
       have qg:=ai.On h4.On (λhg=>ll p hg O);refine Pb O (OL XV O (OJ O (Qw z7w O O Ek qg ξ) ?_));rintro w6 ⟨aT,aJ⟩;have gE:=h.On.lt
       have h6:RK w6 p m kp v' (D.push n s):=by
        refine⟨aT,?_,?_,?_,?_⟩
        ·obtain⟨kv,kk,mX⟩:=h4.map;exact⟨kv,aJ.map (ai.map kk λhg=>(h4.zhx hg).2.1 O) λe=>h4.pm e.symm,mX⟩
        ·have e:wrs (D.push n s).cache=wrs D.cache++[I n,S s]:=by simp[Dev.push,wrs,wr]
         have e2:(D.push n s).cache.length=D.cache.length+1:=by simp[Dev.push]
         rw[e,e2];refine fP.kp aJ λg hg=>?_;rcases rH g hg with h'|h'
         ·exact(h4.zhx h').1
         ·have:=aC.size;omega
        ·refine(h4.Sn.kp ai λg hg hc=>(h4.zfy hg).2.2 hc).kp aJ λg hg=>(h4.zfy hg).1
        ·refine⟨h.ok.hB,h.ok.hN,h.ok.due,h.ok.sf,λx hx=>?_,h.ok.len,h.ok.reads⟩;simp only[Dev.push,List.mem_append,List.mem_singleton] at hx;rcases hx with hx|rfl
         ·exact h.ok.cache x hx
         ·exact⟨hn.1,hn.2,gG⟩
       refine Oq$ P8.qb (e:=[(0,_),(6,_)]) ?_;refine Pz O$ OQ zhO O (z4r h6 fU) ?_;rintro _ w7 ⟨rfl,h7,ax⟩
       have hu:Upd (fpD p m kp (.slice a D.cache.length cap)) (fpD p m kp v') w3 w7:=by
        refine⟨(aC.kp.trans (ai.OA λi hi=> .inr (.inr (.inl hi)))).trans ((aJ.OA λi hi=> .inl hi).trans (ax.OA λi hi=> .inl hi)),λi hi=>?_⟩;rcases hi with h'|h'|h'|h'
        ·exact .inl (.inl h')
        ·exact .inl (.inr (.inl h'))
        ·rcases rH i h' with If|If
         ·exact .inl (.inr (.inr (.inl If)))
         ·have:=aC.size;exact .inr ω
        ·exact .inl (.inr (.inr (.inr h')))
       refine Oq$ OH O (λqe=>?_)$ λqe=>?_
       ·have EI:=h7.On;refine Qh O (Pb O (OL Wv O (OL zcC O (qV (Pa zjr O za4 O (OE.cells (n:=3) EI (news:=[_,_,_]) O) O) (OQ zgh O (z9N h7 D.Sn D.zcy D.mask hk (h7.Sn.rd) (by show(D.cache++[(n,s)]).length<2000000000000;simp;omega)) ?_)))));rintro _ w8 ⟨rfl,h8,aP⟩;refine qM O$ OK O$ Oo func193 O ?_
        have e:D.write n s=(((D.push n s).count).zdv,8):=by
         have nT:D.due=1:=qe;simp[Dev.write,hd,hh,gG,nT]
        rw[e];exact⟨_,rfl,rfl,_,_,h8,hu.trans (zbe aP)⟩
       ·refine Ot$ QB O$ Oo func193 O ?_
        have e:D.write n s=((D.push n s).count,0):=by
         have nT:¬D.due=1:=qe;simp[Dev.write,hd,hh,gG,nT]
        rw[e];exact⟨_,rfl,rfl,_,_,h7,hu⟩
end
section
variable {w:World}{D:Dev}
def Dev.z7g (D:Dev)(n:Nat):List Ov:=(List.range n).map λj:Nat=>D.now (j:Int)
@[simp] theorem imageTo_length (D:Dev) (n:Nat):(D.z7g n).length=n:=by simp[Dev.z7g]
def zaK {w:World}{v:Value}{e size n:Nat}{cs:List Value}(h:Sl w v e size n cs):oneV v=true:=by
 rcases h.shape with⟨rfl,-⟩|⟨g,cap,rfl,-⟩<;>rfl
end
def ZF (b n:Int):Prop:=16<=b/\b<=4096/\1<=n/\n<=8
instance (b n:Int):Decidable (ZF b n):=by unfold ZF;infer_instance
def Dev.fresh (B N:Nat):Dev:=⟨0,[],0,0,B,N,λ_=>none,[],false,0,0⟩
def z9k (b n:Int)(w:World):P9 prog 61 [.agg #[I b,I n]] w λv w'=>v=I (if ZF b n then 0 else 1)/\Ext w w':=by
 refine py (e:=[(0,_)]) func61 O ntmps61 O O$ qN O$ Oy O O (R9 O O) ?_
 rintro _ w1 ⟨b1,rfl,bK,ad,ah⟩
 by_cases hg:ZF b n
 ·obtain⟨g1,g2,g3,g4⟩:=hg;refine OK O$ An$ qN O$ OL Z3 O$ qV (OB U3 O O ah O)$ Qv O$ Pu$ OC O$ OL Z3 O$ qV (OB U3 O O ah O)$ Qr O$ Pu$ PC O$ OC O ?_;refine OL YL O$ qV (OB U3 O O ah O)$ Qv O$ Pu$ PC O$ OC O$ OL YL O$ qV (OB U3 O O ah O)$ Qr O$ Pu$ PC O$ PX O$ QB O$ Oo func61 O ?_;exact⟨_,rfl,by rw[if_pos ⟨g1,g2,g3,g4⟩];rfl,ad⟩
 ·refine OK O$ An$ qN O$ OL Z3 O$ qV (OB U3 O O ah O)$ Qv O$ Sc (λh1=>?_)$ λh1=>?_
  ·refine OC O$ QI$ qS$ QQ O$ OC O$ QI$ qS$ QQ O$ OC O$ QI$ qS$ QQ O$ Oq$ OI O ?_;refine QB O$ Oo func61 O ?_;exact⟨_,rfl,by rw[if_neg hg];rfl,ad⟩
  ·refine OC O$ OL Z3 O$ qV (OB U3 O O ah O)$ Qr O$ PC O$ Sc (λh2=>?_)$ λh2=>?_
   ·refine OC O$ QI$ qS$ QQ O$ OC O$ QI$ qS$ QQ O$ Oq$ OI O$ QB O$ Oo func61 O ?_;exact⟨_,rfl,by rw[if_neg hg];rfl,ad⟩
   ·refine OC O$ OL YL O$ qV (OB U3 O O ah O)$ Qv O$ PC O$ Sc (λh3=>?_)$ λh3=>?_
    ·refine OC O$ QI$ qS$ QQ O$ Oq$ OI O$ QB O$ Oo func61 O ?_;exact⟨_,rfl,by rw[if_neg hg];rfl,ad⟩
    ·have:8<n:=by unfold ZF at hg;omega
     refine OC O$ OL YL O$ qV (OB U3 O O ah O)$ Qr O$ Rf$ PC O$ Oq$ OI O$ QB O$ Oo func61 O ?_;exact⟨_,rfl,by rw[if_neg hg];rfl,ad⟩
def zey (B N:Nat)(w:World)(hg:ZF B N):P9 prog 30 [.agg #[I (B:Int),I (N:Int)]] w λv w'=>∃p m,v= .tuple #[ptr p 0,I 0]/\RK w' p m (.slice none 0 0) (.slice none 0 0) (Dev.fresh B N)/\Ext w w'/\w.heap.size<=p/\w.heap.size<=m:=by
 obtain⟨g1,g2,g3,g4⟩:=hg
 refine py (e:=[(0,_)]) func30 O ntmps30 O O$ qN O$ Oy O O (R9 O O) ?_
 rintro _ w1 ⟨b1,rfl,bK,ad,ah⟩
 refine Qd O$ An$ qN O$ qV (Pa U85 O zb7 O (OE.cells (n:=2) ah (news:=[_,_]) O) O)$ OQ zjo O (z9k B N _) ?_
 rintro _ w2 ⟨rfl,ae⟩
 rw[if_pos ⟨g1,g2,g3,g4⟩]
 replace ah:=ae.On ah
 refine QO O$ Ql O$ Oq$ OH O (λhz=>?_)$ λhz=>?_
 ·exact absurd hz ψ
 ·refine Ot$ qN O$ qV (Pa U85 O zb7 O (OE.cells (n:=2) ah (news:=[_,_]) O) O)$ Oy O O (pmm) ?_;rintro _ w3 ⟨m,rfl,hm,aj,oV⟩;refine qV (Sa (cs:=[_,_,_,_,_,_,_,_,_,_,_]) zia O zhs O O)$ Oy O O (R9 O O) ?_;rintro _ w4 ⟨p,rfl,hp,aC,aH⟩;refine Qd O$ Oo func30 O ?_;have dN:=ad.size;have dg:=ae.size;have oN:=aj.size;have LF:Wi KI w4 m []:=⟨⟨#[],0,aC.heap oV id,rfl⟩,ξ⟩;refine⟨_,rfl,p,m,rfl,⟨aH,⟨[],LF,λn=>rfl⟩,Sl.nil w4 _ _,Sl.nil w4 _ _,?_⟩,((ad.trans ae).trans aj).trans aC,ω,ω⟩;exact⟨⟨by show 16<=B;omega,by show B<=4096;omega⟩,⟨by show 1<=N;omega,by show N<=8;omega⟩,(by simp[Dev.fresh]),(λn s h=>by cases h),(λx hx=>by cases hx),(by simp[Dev.fresh]),(by simp[Dev.fresh])⟩
def over (s:Ov)(at':Nat)(d:Ov):Ov:=s.take at'++d++s.drop (at'+d.length)
def Dev.zde (D:Dev)(n at':Int)(d:Ov):Prop:=D.has n=true/\0<=at'/\at'+(d.length:Int)<=((512*D.N:Nat):Int)
instance (D:Dev) (n at':Int) (d:Ov):Decidable (D.zde n at' d):=by unfold Dev.zde;infer_instance
def zju (n:Int)(a:Nat)(d:Ov)(x:Int×Ov):Int×Ov:=if x.1=n then(x.1,over x.2 a d) else x
def zdo (n:Int)(a:Nat)(d:Ov)(l:List (Int×Ov))(i:Nat):List (Int×Ov):=(l.take i).map (zju n a d)++l.drop i
@[simp] theorem corTo_length (n:Int) (a:Nat) (d:Ov) (l:List (Int×Ov)) (i:Nat):(zdo n a d l i).length=l.length:=by simp[zdo];omega
theorem z5z (l:List (Int×Ov))(x:Int×Ov)(n:Int):Wk (l++[x]) n=if x.1=n then some x.2 else Wk l n:=by
 unfold Wk
 rw[List.reverse_append,List.reverse_singleton,List.singleton_append,List.find?_cons]
 by_cases h:x.1=n
 ·simp[h]
 ·have hb:(x.1==n)=false:=by simpa using h
  simp[hb,h]
/-! ### Bounds -/
def Dev.Small (D:Dev)(k:Nat):Prop:=D.calls<=k/\D.cache.length<=k/\True/\D.Sn.length<=17592186044416
def Dev.Small.bd {D:Dev}{k:Nat}(h:D.Small k)(hk:k<1000000000000):D.Bd:=⟨by have:=h.1;omega,by have:=h.2.1;omega,trivial⟩
/-! ### By footprints -/
def z9e (w:World)(p:Nat)(F:Nat->Prop)(D':Dev)(w':World):Prop:=∃F',VS w' p D' F'/\Upd F F' w w'
def z11.toA {w w':World}{p m:Nat}{kp ca:Value}{D':Dev}{F:Nat->Prop}(hF:∀k,F k↔fpD p m kp ca k)(h:z11 w p m kp ca D' w'):z9e w p F D' w':=by
 have e:F=fpD p m kp ca:=funext λk=>propext (hF k)
 subst e
 obtain⟨kp',ca',h1,h2⟩:=h
 exact⟨_,⟨m,kp',ca',h1,λk=>Iff.rfl⟩,h2⟩
section
variable {w:World}{p:Nat}{D:Dev}{F:Nat->Prop}
def z8w (h:VS w p D F):P9 prog 154 [ptr p 0] w λv w'=>v= .bool D.down/\w'=w:=by
 obtain⟨m,kp,ca,h1,hF⟩:=h;exact z9D h1
def z8v (h:VS w p D F):P9 prog 95 [ptr p 0] w λv w'=>v=I ((512*D.N:Nat):Int)/\w'=w:=by
 obtain⟨m,kp,ca,h1,hF⟩:=h;exact z1e h1
def We (h:VS w p D F):P9 prog 138 [ptr p 0] w λv w'=>v=I (D.B:Int)/\w'=w:=by
 obtain⟨m,kp,ca,h1,hF⟩:=h;exact z5A h1
def z6o (n:Int)(s:Ov)(h:VS w p D F){k:Nat}(hs:D.Small k)(hk:k<1000000000000):
  P9 prog 193 [ptr p 0,I n,S s] w λv w'=>v=I (D.write n s).2/\z9e w p F (D.write n s).1 w':=by
 obtain⟨m,kp,ca,h1,hF⟩:=h
 exact(z94 n s h1 (hs.bd hk) hs.2.2.2).mono λv w' ⟨e,h2⟩=>⟨e,h2.toA hF⟩
def z80 (n:Int)(h:VS w p D F){k:Nat}(hs:D.Small k)(hk:k<1000000000000):
  P9 prog 158 [ptr p 0,I n] w λv w'=>v= .tuple #[S (D.read n).2.1,I (D.read n).2.2]/\z9e w p F (D.read n).1 w':=by
 obtain⟨m,kp,ca,h1,hF⟩:=h
 exact(zau n h1 (hs.bd hk)).mono λv w' ⟨e,h2⟩=>⟨e,h2.toA hF⟩
def zc7 (B N:Nat)(w:World)(hg:ZF B N):P9 prog 30 [.agg #[I (B:Int),I (N:Int)]] w λv w'=>∃p F,v= .tuple #[ptr p 0,I 0]/\VS w' p (Dev.fresh B N) F/\Ext w w'/\∀i,F i->w.heap.size<=i:=
 (zey B N w hg).mono λv w' ⟨p,m,e,h,hx,h1,h2⟩=>⟨p,_,e,⟨m,_,_,h,λk=>Iff.rfl⟩,hx,λi hi=>by
  rcases hi with h|h|h| h
  ·omega
  ·omega
  ·cases h
  ·cases h⟩
end
def z9e.kpF {w w':World}{p:Nat}{F:Nat->Prop}{D':Dev}(h:z9e w p F D' w'):Kp F w w':=by
 obtain⟨F',-,hu⟩:=h
 exact hu.1
def nrm (z b:Int):Int:=(z.tmod b+b).tmod b
def Up (z b:Int)(hb:0<b): -b<z.tmod b/\z.tmod b<b:=by
 have h2:=Int.tmod_lt_of_pos z hb
 refine⟨?_,h2⟩
 have h3:=Int.tmod_lt_of_pos (-z) hb
 rw[Int.neg_tmod] at h3
 omega
def WI (z b:Int)(hb:0<b):0<=nrm z b/\nrm z b<b:=by
 obtain⟨h1,h2⟩:=Up z b hb
 unfold nrm
 exact⟨Int.tmod_nonneg _ ω,Int.tmod_lt_of_pos _ hb⟩
theorem zaa {D:Dev}{n:Int}{s:Ov}(hd:D.down=false)(h0:D.due=0)(hn:0<=n/\n<(D.B:Int))(hs:s.length=512*D.N):D.write n s=((D.push n s).count,0):=by
 have hh:D.has n=true:=by simp[Dev.has];omega
 unfold Dev.write
 rw[if_neg (by simp[hd]),if_neg (by simp[hh,hs]),if_neg ω]
def grow:Nat->Ov->Nat->Ov
 |0,s,_=>s
 |f+1,s,n=>if s.length<n then grow f (s++s) n else s
def fill (s:Ov)(n:Nat):Ov:=(grow (n+1) (if s=[] then [0] else s) n).take n
section
variable {κ:Type}[DecidableEq κ]{K:κ->Value}{P:Program}{e:Env}{d:Option Nat}{ty t kt el:TypeId}{pos:String}{aft:Array Edge}{g:Option (Nat×Bool)}{x y:Operand}{w:World}{z:Value}{size bytes:Nat}{k:κ}
def zjN (ht:P.underlying t=some (.map kt el))(hK:Ky P kt K)(hz:TI P el z size bytes)(hx:look e x=some (.map none))(hy:look e y=some (K k)):
  Y P e ⟨d,.lookup t x y false,ty,pos,aft,g⟩ z w w:=fun ρ hρ=>by
 have B5:=hz.zero (w:=w)
 have sd:=λb=>hK.same.choose_spec.2.2 w b 9999 k
 have hu:=hK.same.choose_spec.1
 simp[execOp,hρ _ _ hx,hρ _ _ hy,Instr.lookup,run_underlying ht,sd,B5,Instr.findKey,run_underlying hu,Instr.findNow]
end
structure QM (w:World)(ks mp:Value)(l:List Int):Prop where
 sl:Sl w ks 3 1 l.length (l.map I)
 mp:(mp= .map none/\l=[])\/∃b,mp= .map (some b)/\Sr KI w b (l.map λk=>(k,I 1))
 n:l.length<=8192
def Fq (ks mp:Value)(b:Nat):Prop:=ks.ownBlock=some b\/mp= .map (some b)
section
variable {w w':World}{ks mp:Value}{l:List Int}{S:Nat->Prop}{c o:Nat}{cs:List Value}{k:Int}
def QM.kp (h:QM w ks mp l)(hk:Kp S w w')(hn:∀b,Fq ks mp b->¬S b):QM w' ks mp l:=
 ⟨h.sl.kp hk λg e=>hn g (.inl e),by
  rcases h.mp with e|⟨b,e,hm⟩
  ·exact .inl e
  ·exact .inr ⟨b,e,hm.kp hk (hn b (.inr e))⟩,h.n⟩
def QM.lt (h:QM w ks mp l){b:Nat}(hb:Fq ks mp b):b<w.heap.size:=by
 rcases hb with e| e
 ·exact h.sl.lt e
 ·rcases h.mp with⟨e',-⟩|⟨b',e',hm⟩
  ·rw[e'] at e;cases e
  ·rw[e'] at e;cases e;exact hm.lt
def QM.ne (h:QM w ks mp l){b:Nat}(hb:ks.ownBlock=some b):mp≠ .map (some b):=λe=>by
 obtain⟨cur,h1⟩:=h.sl.typed hb
 rcases h.mp with⟨e',-⟩|⟨b',e',hm⟩
 ·rw[e'] at e;cases e
 ·rw[e'] at e;cases e;obtain⟨⟨es,cl,h2,-⟩,-⟩:=hm;rw[h1] at h2;cases h2
theorem QM.nd (h:QM w ks mp l):l.Nodup:=by
 rcases h.mp with⟨-,e⟩|⟨b',e',hm⟩
 ·rw[e];exact List.nodup_nil
 ·have:=hm.nd;rw[List.map_map] at this;have e:((λp:Int×Value=>p.1) ∘ λk:Int=>(k,I 1))=id:=rfl;rw[e,List.map_id] at this;exact this
theorem z4D (l:List Int)(k:Int):R1 (l.map λk=>(k,I 1)) k=if k∈l then some (I 1) else none:=by
 induction l with
 |nil=>rfl
 | cons a l ih =>
   show(if k=a then some (I 1) else R1 (l.map λk=>(k,I 1)) k)=_;rw[ih];by_cases h:k=a
   ·simp[h]
   ·simp[h]
theorem zbf (l:List Int)(k:Int):delL (l.map λk=>(k,I 1)) k=(l.erase k).map λk=>(k,I 1):=by
 induction l with
 |nil=>rfl
 | cons a l ih =>
   show(if k=a then l.map (λk=>(k,I 1)) else(a,I 1)::delL (l.map λk=>(k,I 1)) k)=_;rw[ih,List.erase_cons];by_cases h:k=a
   ·subst h;simp
   ·rw[if_neg h,if_neg (by simpa using λe=>h e.symm)];rfl
def yqk {P:Program}{e:Env}{d:Option Nat}{ty t kt el:TypeId}{pos:String}{aft:Array Edge}{g:Option (Nat×Bool)}{x y:Operand}{bytes:Nat}(ht:P.underlying t=some (.map kt el))(hK:P.underlying kt=some (.int .i64))(hz:TI P el (I 0) 1 bytes)(hx:look e x=some mp)(hy:look e y=some (I k))(hq:QM w ks mp l):
  Y P e ⟨d,.lookup t x y false,ty,pos,aft,g⟩ (I (if k∈l then 1 else 0)) w w:=by
 rcases hq.mp with⟨rfl,rfl⟩|⟨b,rfl,hm⟩
 ·rw[if_neg ξ];exact zjN (k:=k) (K:=KI) ht (RT hK) hz hx hy
 ·have h:=ylk (k:=k) (K:=KI) (d:=d) (ty:=ty) (pos:=pos) (aft:=aft) (g:=g) ht (RT hK) hz hx hy hm.l;rw[z4D] at h;by_cases hk:k∈l
  ·rw[if_pos hk] at h⊢;exact h
  ·rw[if_neg hk] at h⊢;exact h
def zb6 (hB:OE w c cs 190)(h1:cs[o+1]? =some mp)(hq:QM w ks mp l):P9 prog 178 [ptr c o,I k] w λv w'=>v= .bool (decide (k∈l))/\w'=w:=by
 refine py (e:=[(0,_),(1,_)]) func178 O ntmps178 O O$ qN O$ QO O$ Pb O$ OL Yk O$ qV (OB WX O O hB h1)$ OC O$ qV (yqk (k:=k) WX U3 PH O O hq)$ Qr O$ OK O$ Oo func178 O (⟨_,rfl,?_,rfl⟩)
 by_cases hk:k∈l
 ·simp[hk,PS]
 ·simp[hk,PS]
theorem z6j {lv:Value}(x:Int)(hR:Rd w lv 1 l.length (l.map I))(hl:l.length<=4294967296):
  P9 prog 206 [lv,I x] w λv w'=>w'=w/\((x∉l/\v=I (-1))\/∃i:Nat,v=I (i:Int)/\l[i]? =some x/\x∉l.take i):=by
 obtain⟨a,cap,rfl,-⟩:=hR.shape
 refine py (e:=[(0,_),(1,_)]) func206 O ntmps206 O O$ QB O$ Pz O$ Ro Rl O$ OC O$ Oq$ Ou$ Rw (α:=Nat) (0) (λi=>[(0,.slice a l.length cap),(1,I x),(7,I (l.length:Int)),(8,I (i:Int))]) (λi w'=>w'=w/\i<=l.length/\x∉l.take i) (λi=>l.length-i) ?hI ?hround
 case hI=>exact⟨rfl,Nat.zero_le _,ξ⟩
 case hround=>
  rintro i wi ⟨rfl,hi,fj⟩ ih
  try dsimp only
  refine qN O$ Qv O$ Oq$ An$ OH O (λaN=>?_)$ λaN=>?_
  ·have uf:i<l.length:=by omega
   obtain⟨s,qh⟩:∃s,l[i]? =some s:=⟨_,List.getElem?_eq_getElem uf⟩
   obtain⟨lb,lo,lc,e5⟩:∃b o c',Value.slice a l.length cap= .slice (some ⟨b,o,none⟩) l.length c':=by
    rcases hR.2 with⟨c,hc,h0⟩|⟨b,off,c',hc,-⟩
    ·omega
    ·exact⟨b,off,c',hc⟩
   cases e5;refine Ot (Qt (P7 O (QL O (OX O (OC O (qV (PK Rl PH O O ω) (qV (Pc U3 O O (PM hR (show(l.map I)[i]? =some (I s) by rw[List.getElem?_map,qh];rfl))) ?_)))))));refine QS O$ Oq$ OH O (λhe=>?_)$ λhe=>?_
   ·refine P7 O$ OK O$ Oo func206 O ?_;exact⟨_,rfl,rfl,.inr ⟨i,rfl,by rw[he];exact qh,fj⟩⟩
   ·refine Ot (Om (Oz O (PL O (OC O (Oq ((ih (i+1) _ ⟨rfl,uf,λhh=>?_⟩ ω).qb))))));rw[PA qh,List.mem_append,List.mem_singleton] at hh;rcases hh with h| h
    ·exact fj h
    ·exact he h
  ·have:i=l.length:=by omega
   subst this;rw[List.take_length] at fj;refine OD O$ QB O$ Oo func206 O ?_;exact⟨_,rfl,rfl,.inl ⟨fj,rfl⟩⟩
theorem z9X {i:Nat}{x:Int}(h:l[i]? =some x)(hn:x∉l.take i):l.take i++l.drop (i+1)=l.erase x:=by
 obtain⟨hi,e⟩:=List.getElem?_eq_some_iff.1 h
 conv=>rhs;rw[<-List.take_append_drop i l]
 rw[List.erase_append_right _ hn,List.drop_eq_getElem_cons hi,e,List.erase_cons_head]
theorem z42 {α:Type}{l:List α}{i:Nat}{a:α}(h:l[i]? =some a):l.set i a=l:=by
 obtain⟨hi,e⟩:=List.getElem?_eq_some_iff.1 h
 rw[<-e,List.set_getElem_self]
def z90 (hB:OE w c cs 190)(h0:cs[o]? =some ks)(h1:cs[o+1]? =some mp)(hq:QM w ks mp l)(nc:¬Fq ks mp c):P9 prog 179 [ptr c o,I k] w λv w'=>∃ks',v= .tuple #[]/\OE w' c (cs.set o ks') 190/\QM w' ks' mp (l.erase k)/\(∀b,Fq ks' mp b->Fq ks mp b)/\Kp (λb=>b=c\/Fq ks mp b) w w':=by
 have hn:=hq.n
 have ek:=hq.nd
 refine py (e:=[(0,_),(1,_)]) func179 O ntmps179 O O$ P7 O$ Pb O$ OL PV O$ qV (OB Rl O O hB h0)$ OC O$ OQ zdE O (z6j k hq.sl.rd ω) ?_
 rintro _ w ⟨rfl,hv⟩
 rcases hv with⟨hk,rfl⟩|⟨i,rfl,hi,vL⟩
 ·refine QO O$ TE O$ Pu$ PX O$ PQ func179 O (⟨_,rfl,ks,rfl,?_,?_,λb hb=>hb,Kp.refl _ _⟩)
  ·rw[z42 h0];exact hB
  ·rw[List.erase_of_not_mem hk];exact hq
 ·have EJ:k∈l:=List.mem_of_getElem? hi;have dq:=(List.getElem?_eq_some_iff.1 hi).1;refine QO O (TE O (Rf (Oq (OI O (Qh O (Pb O (OL PV O (qV (OB Rl O O hB h0) (OX O (PL O (OQ zgs O (z9L hq.sl (λc hc=>by obtain⟨z,-,rfl⟩:=List.mem_map.1 hc;rfl) dq ω) ?_)))))))))));rintro ks2 w2 ⟨cU,am,vO⟩
  have e2:(l.map I).take i++(l.map I).drop (i+1)=(l.erase k).map I:=by
   rw[<-List.map_take,<-List.map_drop,<-List.map_append,z9X hi vL]
  rw[e2] at cU;have i8:(l.erase k).length=l.length-1:=List.length_erase_of_mem EJ;rw[<-i8] at cU;have jq:¬ks.ownBlock=some c:=λe=>nc (.inl e);have ak:=am.On hB jq;refine Pb O (OL PV O (OJ O (Qw z6i O O (zaK cU) ak (by have:=(List.getElem?_eq_some_iff.1 h0).1;omega)) ?_));rintro w3 ⟨ao,ar⟩
  obtain⟨b,rfl,hm⟩:∃b,mp= .map (some b)/\Sr KI w b (l.map λk=>(k,I 1)):=by
   rcases hq.mp with⟨-,e⟩| h
   ·rw[e] at EJ;cases EJ
   ·exact h
  have Ig:c≠b:=λe=>nc (.inr (by rw[e]));have AX:ks.ownBlock≠some b:=λe=>hq.ne e O;have zk:o+1<cs.length:=(List.getElem?_eq_some_iff.1 h1).1;have kX:=(hm.kp am AX).kp ar (λe=>Ig e.symm);have yZ:(cs.set (o+0) ks2)[o+1]? =some (Value.map (some b)):=by rw[List.getElem?_set_ne ω];exact h1
  refine Oq$ R0 O$ Pb O$ OL Yk O$ qV (OB WX O O ao yZ)$ OC O$ z9z O (zeK (k:=k) (K:=KI) WX (RT U3) O O kX O) ?_;rintro _ w4 ⟨Bg,aq⟩;rw[zbf] at Bg;refine Oq$ P8.qb (e:=[]) ?_;refine PQ func179 O ?_;have fE:Kp (λj=>j=c\/Fq ks (.map (some b)) j) w w4:=((am.OA λj e=> .inr (.inl e)).trans (ar.OA λj e=> .inl e)).trans (aq.OA λj e=> .inr (.inr (by rw[e])));exact⟨_,rfl,ks2,rfl,aq.On ao Ig,⟨(cU.kp ar λg e e'=>nc (.inl (e'▸vO g e))).kp aq λg e e'=>AX (e'▸vO g e),.inr ⟨b,rfl,Bg⟩,ω⟩,λj hj=>hj.imp (vO j) id,fE⟩
def za3 (hB:OE w c cs 190)(h0:cs[o]? =some ks)(h1:cs[o+1]? =some mp)(hq:QM w ks mp l)(nc:¬Fq ks mp c)(hk:k∉l)(hl:l.length<=8191):P9 prog 188 [ptr c o,I k] w λv w'=>∃ks' mp',v= .tuple #[]/\OE w' c ((cs.set (o+1) mp').set o ks') 190/\QM w' ks' mp' (l++[k])/\(∀b,Fq ks' mp' b->Fq ks mp b\/w.heap.size<=b)/\Kp (λb=>b=c\/Fq ks mp b) w w':=by
 have hn:=hq.n
 have ek:=hq.nd
 have lc:=hB.lt
 have zk:o+1<cs.length:=(List.getElem?_eq_some_iff.1 h1).1
 obtain⟨mo,rfl,LG⟩:∃mo,mp= .map mo/\((mo=none/\l=[])\/∃b,mo=some b/\Sr KI w b (l.map λk=>(k,I 1))):=by
  rcases hq.mp with⟨e,e2⟩|⟨b,e,e2⟩
  ·exact⟨_,e,.inl ⟨rfl,e2⟩⟩
  ·exact⟨_,e,.inr ⟨b,rfl,e2⟩⟩
 refine py (e:=[(0,_),(1,_)]) func188 O ntmps188 O O$ Pz O$ Pb O$ OL Yk O$ qV (OB WX O O hB h1)$ qV (zgK WX O O)$ Oq$ Pw (λe' w'=>∃b,e'=[(0,ptr c o),(1,I k)]/\OE w' c (cs.set (o+1) (.map (some b))) 190/\Sr KI w' b (l.map λk=>(k,I 1))/\Sl w' ks 3 1 l.length (l.map I)/\(mo=some b\/w.heap.size<=b)/\Kp (λj=>j=c) w w'/\b≠c/\ks.ownBlock≠some b) ?bD$ λbD=>?de
 case bD=>
  rintro e' w1 ⟨b,rfl,ah,cZ,jC,hb,aG,Ih,fK⟩;have oE:(cs.set (o+1) (Value.map (some b)))[o+1]? =some (.map (some b)):=List.getElem?_set_self zk;have i6:(cs.set (o+1) (Value.map (some b)))[o]? =some ks:=by rw[List.getElem?_set_ne ω];exact h0
  have z1:=aG.size;refine P7 O$ Pb O$ OL Yk O$ qV (OB WX O O ah oE)$ OC O$ OJ O (zeb (k:=k) (K:=KI) WX (RT U3) O O O cZ) ?_;rintro w2 ⟨gH,am⟩;rw[Ud _ _ _ (by rw[z4D,if_neg hk])] at gH;have ak:=am.On ah (λe=>Ih e.symm);have cU:=jC.kp am (λg e e'=>fK (e'▸e));refine Oq (Oz O (OX O (Pb O (OL PV O (qV (OB Rl O O ak i6) (OC O (Oy O O (XM (cs:=[_]) (zs:=[Value.int .i64 0]) Rl PH O (by kernel_rfl) O O O ψ) ?_)))))));rintro _ w3 ⟨b24,rfl,⟨LH,aj,eA⟩,EK⟩;have lb:=gH.lt;have z2:=am.size;refine Oy O O (pap Rl PH O ψ O O (cU.ext aj) EK.rd (by intro c hc;simp at hc;subst hc;rfl) ω (by simp only[maxLen];omega)) ?_;rintro ks4 w4 ⟨ep,aq,Ii,-⟩;have z3:=aj.size;have z4:=aq.size;have jq:ks.ownBlock≠some c:=λe=>nc (.inl e);have aH:=aq.On (aj.On ak) jq;have Bg:=(gH.ext aj).kp aq fK;refine Pb O (OL PV O (OJ O (Qw z6i O O (zaK ep) aH (by rw[List.length_set];omega)) ?_));rintro w5 ⟨aD,ai⟩;refine Oq$ PQ func188 O ?_
  have lk4:∀g,ks4.ownBlock=some g->g≠c:=λg e e'=>by
   rcases Ii g e with h| h
   ·exact jq (e'▸h)
   ·omega
  have aB:(l++[k]).length=l.length+1:=by simp
  refine⟨_,rfl,ks4,.map (some b),rfl,aD,⟨?_,.inr ⟨b,rfl,?_⟩,ω⟩,λj hj=>?_,?_⟩
  ·rw[List.map_append,aB];exact ep.kp ai λg e e'=>lk4 g e e'
  ·rw[List.map_append];exact Bg.kp ai Ih
  ·rcases hj with hj|hj
   ·rcases Ii j hj with h| h
    ·exact .inl (.inl h)
    ·exact .inr ω
   ·cases hj;rcases hb with h| h
    ·exact .inl (.inr (by rw[h]))
    ·exact .inr h
  ·have EL:Kp (λj=>j=c\/Fq ks (.map mo) j) w w2:=by
    rcases hb with h| h
    ·exact(aG.OA λj e=> .inl e).trans (am.OA λj e=> .inr (.inr (by rw[h,e])))
    ·exact(aG.OA λj e=> .inl e).It am (λj e=>by omega)
   exact((EL.trans aj.kp).trans (aq.OA λj e=> .inr (.inl e))).trans (ai.OA λj e=> .inl e)
 case de=>
  rcases LG with⟨rfl,rfl⟩|⟨b,rfl,hm⟩
  ·refine OI O$ R0 O$ Oy O O (pmm) ?_;rintro _ w1 ⟨b,rfl,hb,ad,cN⟩;have cZ:Sr KI w1 b []:=Sr.new cN;have ah:=ad.On hB;refine Pb O$ OL Yk O$ OJ O (Qw z7a O O O ah zk) ?_;rintro w2 ⟨ak,am⟩;refine Oq ?_;have lb:=cZ.lt;exact(bD _ _ ⟨b,rfl,ak,cZ.kp am ω,(hq.sl.ext ad).kp am (λg e e'=>nc (.inl (e'▸e))),.inr ω,ad.kp.trans am,ω,λe=>by have:=hq.sl.lt e;omega⟩).qb
  ·refine T2 O ?_;exact(bD _ _ ⟨b,rfl,by rw[z42 h1];exact hB,hm,hq.sl,.inl O,Kp.refl _ _,λe=>nc (.inr (by rw[e])),λe=>hq.ne e O⟩).qb
end
def Arc.li (A:Arc):Nat->List Int
 |0=>A.once
 |1=>A.often
 |2=>A.OP
 |_=>A.OM
def Arc.PI (A:Arc):Nat->List Int->Arc
 |0,l=>{A with once:=l}
 |1,l=>{A with often:=l}
 |2,l=>{A with OP:=l}
 |_,l=>{A with OM:=l}
theorem Arc.ze2 (A:Arc){j:Nat}(hj:j<4)(l:List Int)(i:Nat)(hi:i<4):(A.PI j l).li i=if i=j then l else A.li i:=by
 match j,hj,i,hi with
 |0,_,0,_|0,_,1,_|0,_,2,_|0,_,3,_|1,_,0,_|1,_,1,_|1,_,2,_|1,_,3,_|2,_,0,_|2,_,1,_|2,_,2,_|2,_,3,_|3,_,0,_|3,_,1,_|3,_,2,_|3,_,3,_=>rfl
def z1s (V:Nat->Value×Value)(j:Nat)(q:Value×Value)(i:Nat):Value×Value:=if i=j then q else V i
def acC (S:Nat)(T:Int)(V:Nat->Value×Value)(p:Nat):List Value:=[I (S:Int),(V 0).1,(V 0).2,(V 1).1,(V 1).2,(V 2).1,(V 2).2,(V 3).1,(V 3).2,I T,.map (some p)]
abbrev FV (V:Nat->Value×Value)(j b:Nat):Prop:=Fq (V j).1 (V j).2 b
structure Sx (w:World)(c:Nat)(A:Arc)(V:Nat->Value×Value)(p:Nat):Prop where
 On:OE w c (acC A.size A.target V p) 190
 q:∀j,j<4->QM w (V j).1 (V j).2 (A.li j)
 pins:Wi KI w p []
 UK:∀i j,i<4->j<4->i≠j->∀b,FV V i b->¬FV V j b
 nc:∀j,j<4->¬FV V j c
 np:∀j,j<4->¬FV V j p
 cp:c≠p
def Ss (c:Nat)(V:Nat->Value×Value)(p b:Nat):Prop:=b=c\/b=p\/∃j,j<4/\FV V j b
section
variable {w w' w2:World}{c p:Nat}{A A' A2:Arc}{V V' V2:Nat->Value×Value}{S:Nat->Prop}{k:Int}
def Sx.kp (h:Sx w c A V p)(hk:Kp S w w')(hn:∀b,Ss c V p b->¬S b):Sx w' c A V p:=
 ⟨hk.On h.On (hn _ (.inl O)),λj hj=>(h.q j hj).kp hk λb hb=>hn b (.inr (.inr ⟨j,hj,hb⟩)),hk.map h.pins (hn _ (.inr (.inl O))),h.UK,h.nc,h.np,h.cp⟩
theorem Sx.ext (h:Sx w c A V p)(hx:Ext w w'):Sx w' c A V p:=h.kp (S:=λ_=>False) hx λ_ _=>id
def Sx.lt (h:Sx w c A V p){b:Nat}(hb:Ss c V p b):b<w.heap.size:=by
 rcases hb with e|e|⟨j,hj,hb⟩
 ·rw[e];exact h.On.lt
 ·rw[e];exact h.pins.lt
 ·exact(h.q j hj).lt hb
structure VR (w:World)(c:Nat)(V:Nat->Value×Value)(p:Nat)(w':World)(A':Arc)(V':Nat->Value×Value):Prop where
 m:Sx w' c A' V' p
 fp:∀b,Ss c V' p b->Ss c V p b\/w.heap.size<=b
 k:Kp (Ss c V p) w w'
theorem VR.trans (h:VR w c V p w' A' V')(h2:VR w' c V' p w2 A2 V2):VR w c V p w2 A2 V2:=
 ⟨h2.m,λb hb=>by
  rcases h2.fp b hb with e| e
  ·exact h.fp b e
  ·exact .inr (by have:=h.k.size;omega),h.k.It h2.k λb hb=>(h.fp b hb).symm⟩
theorem Sx.r (h:Sx w c A V p)(hx:Ext w w'):VR w c V p w' A V:=⟨h.ext hx,λb hb=> .inl hb,hx.kp⟩
theorem Sx.Zb {j:Nat}(hj:j<4)(h:Sx w c A V p){ks mp:Value}{l:List Int}(hB:OE w' c (acC A.size A.target (z1s V j (ks,mp)) p) 190)(hs:(A.PI j l).size=A.size/\(A.PI j l).target=A.target)(hq:QM w' ks mp l)(hf:∀b,Fq ks mp b->FV V j b\/w.heap.size<=b)(hk:Kp (λb=>b=c\/FV V j b) w w'):VR w c V p w' (A.PI j l) (z1s V j (ks,mp)):=by
 have aN:∀{b:Nat},Ss c V p b->b<w.heap.size:=h.lt
 have aO:∀i,i<4->i≠j->∀b,FV V i b->¬(b=c\/FV V j b):=λi hi gJ b hb e=>by
  rcases e with e| e
  ·exact h.nc i hi (e▸hb)
  ·exact h.UK i j hi hj gJ b hb e
 have dN:∀i,i≠j->z1s V j (ks,mp) i=V i:=λi e=>if_neg e
 have dg:z1s V j (ks,mp) j=(ks,mp):=if_pos O
 refine⟨⟨by rw[hs.1,hs.2];exact hB,λi hi=>?_,hk.map h.pins (λe=>?_),λi i2 hi dt br b hb bP=>?_,λi hi hb=>?_,λi hi hb=>?_,h.cp⟩,λb hb=>?_,hk.OA λb hb=>?_⟩
 ·rw[Arc.ze2 A hj l i hi];by_cases e:i=j
  ·rw[if_pos e,e,dg];exact hq
  ·rw[if_neg e,dN i e];exact(h.q i hi).kp hk λb hb=>aO i hi e b hb
 ·rcases e with e| e
  ·exact h.cp e.symm
  ·exact h.np j hj e
 ·by_cases e:i=j
  ·have e2:i2≠j:=λe2=>br (e.trans e2.symm);unfold FV at hb bP;rw[e,dg] at hb;rw[dN i2 e2] at bP;rcases hf b hb with h1|h1
   ·exact h.UK j i2 hj dt (λe3=>e2 e3.symm) b h1 bP
   ·have:=aN (.inr (.inr ⟨i2,dt,bP⟩));omega
  ·unfold FV at hb bP;rw[dN i e] at hb;by_cases e2:i2=j
   ·rw[e2,dg] at bP;rcases hf b bP with h1|h1
    ·exact h.UK i j hi hj e b hb h1
    ·have:=aN (.inr (.inr ⟨i,hi,hb⟩));omega
   ·rw[dN i2 e2] at bP;exact h.UK i i2 hi dt br b hb bP
 ·by_cases e:i=j
  ·unfold FV at hb;rw[e,dg] at hb;rcases hf c hb with h1|h1
   ·exact h.nc j hj h1
   ·have:=h.On.lt;omega
  ·unfold FV at hb;rw[dN i e] at hb;exact h.nc i hi hb
 ·by_cases e:i=j
  ·unfold FV at hb;rw[e,dg] at hb;rcases hf p hb with h1|h1
   ·exact h.np j hj h1
   ·have:=h.pins.lt;omega
  ·unfold FV at hb;rw[dN i e] at hb;exact h.np i hi hb
 ·rcases hb with e|e|⟨i,hi,hb⟩
  ·exact .inl (.inl e)
  ·exact .inl (.inr (.inl e))
  ·by_cases e:i=j
   ·unfold FV at hb;rw[e,dg] at hb;rcases hf b hb with h1|h1
    ·exact .inl (.inr (.inr ⟨j,hj,h1⟩))
    ·exact .inr h1
   ·unfold FV at hb;rw[dN i e] at hb;exact .inl (.inr (.inr ⟨i,hi,hb⟩))
 ·rcases hb with e| e
  ·exact .inl e
  ·exact .inr (.inr ⟨j,hj,e⟩)
def WG (S:Nat)(T:Int)(V:Nat->Value×Value)(p:Nat){j:Nat}(hj:j<4):(acC S T V p)[1+2*j]? =some (V j).1/\(acC S T V p)[1+2*j+1]? =some (V j).2:=by
 match j,hj with
 |0,_|1,_|2,_|3,_=>exact⟨rfl,rfl⟩
theorem zcp (S:Nat)(T:Int)(V:Nat->Value×Value)(p:Nat){j:Nat}(hj:j<4)(ks mp:Value):((acC S T V p).set (1+2*j+1) mp).set (1+2*j) ks=acC S T (z1s V j (ks,mp)) p:=by
 match j,hj with
 |0,_|1,_|2,_|3,_=>rfl
theorem zb4 (S:Nat)(T:Int)(V:Nat->Value×Value)(p:Nat){j:Nat}(hj:j<4)(ks:Value):(acC S T V p).set (1+2*j) ks=acC S T (z1s V j (ks,(V j).2)) p:=by
 match j,hj with
 |0,_|1,_|2,_|3,_=>rfl
def ZV (A:Arc){j:Nat}(hj:j<4)(l:List Int):(A.PI j l).size=A.size/\(A.PI j l).target=A.target:=by
 match j,hj with
 |0,_|1,_|2,_|3,_=>exact⟨rfl,rfl⟩
def Ve (h:Sx w c A V p){j:Nat}(hj:j<4):P9 prog 178 [ptr c (1+2*j),I k] w λv w'=>v= .bool (decide (k∈A.li j))/\w'=w:=
 zb6 h.On (WG _ _ _ _ hj).2 (h.q j hj)
def Q4 (h:Sx w c A V p){j:Nat}(hj:j<4):P9 prog 179 [ptr c (1+2*j),I k] w λv w'=>v= .tuple #[]/\∃V',VR w c V p w' (A.PI j ((A.li j).erase k)) V':=by
 refine(z90 h.On (WG _ _ _ _ hj).1 (WG _ _ _ _ hj).2 (h.q j hj) (h.nc j hj) (k:=k)).mono λv w' hv=>?_
 obtain⟨ks',rfl,hB,hq,hf,hk⟩:=hv
 rw[zb4 _ _ _ _ hj] at hB
 exact⟨rfl,_,h.Zb hj hB (ZV A hj _) hq (λb hb=> .inl (hf b hb)) hk⟩
def QE (h:Sx w c A V p){j:Nat}(hj:j<4)(hk:k∉A.li j)(hl:(A.li j).length<=8191):P9 prog 188 [ptr c (1+2*j),I k] w λv w'=>v= .tuple #[]/\∃V',VR w c V p w' (A.PI j (A.li j++[k])) V':=by
 refine(za3 h.On (WG _ _ _ _ hj).1 (WG _ _ _ _ hj).2 (h.q j hj) (h.nc j hj) hk hl).mono λv w' hv=>?_
 obtain⟨ks',mp',rfl,hB,hq,hf,hk⟩:=hv
 rw[zcp _ _ _ _ hj] at hB
 exact⟨rfl,_,h.Zb hj hB (ZV A hj _) hq hf hk⟩
def z5I (n:Nat):Arc:=⟨n,[],[],[],[],0⟩
def zco {n:Nat}(h:1<=n):(z5I n).Ok:=⟨h,List.nodup_nil,Nat.zero_le _,Nat.zero_le _,Nat.zero_le _,⟨Int.le_refl _,by show(0:Int)<=(n:Int);omega⟩⟩
theorem z9C (n:Nat)(h1:1<=n)(h2:n<=4096)(w:World):P9 prog 62 [I (n:Int)] w λv w'=>∃c V p,v= .tuple #[ptr c 0,I 0]/\Sx w' c (z5I n) V p/\(∀b,Ss c V p b->w.heap.size<=b)/\Ext w w':=by
 refine py (e:=[(0,_)]) func62 O ntmps62 O O$ qN O$ Qd O$ Pz O$ Qv O$ Pu$ OX O$ Qr O$ Pu$ PC O$ PX O$ P7 O$ Oy O O (pmm) ?_
 rintro _ w1 ⟨p,rfl,hp,ad,cN⟩
 refine qV (Sa (cs:=[_,_,_,_,_,_,_,_,_,_,_]) zhU O zhY O O)$ Oy O O (R9 O (cs:=acC n 0 (λ_=>(.slice none 0 0,.map none)) p) O) ?_
 rintro _ w2 ⟨c,rfl,hc,ae,ak⟩
 refine Qd O$ Oo func62 O ?_
 have cZ:Sr KI w1 p []:=Sr.new cN
 have lp:=cZ.lt
 have fj:∀b,¬Fq (.slice none 0 0) (.map none) b:=λb e=>by rcases e with e|e<;>cases e
 refine⟨_,rfl,c,_,p,rfl,⟨ak,λj hj=>⟨?_,?_,?_⟩,ae.map cZ.l,λi j hi hj br b hb=>absurd hb (fj b),λj hj=>fj c,λj hj=>fj p,ω⟩,λb hb=>?_,ad.trans ae⟩
 ·have e:(z5I n).li j=[]:=by match j,hj with|0,_|1,_|2,_|3,_=>rfl
  rw[e];exact Sl.nil _ _ _
 ·left
  refine⟨rfl,?_⟩
  match j,hj with|0,_|1,_|2,_|3,_=>rfl
 ·have e:(z5I n).li j=[]:=by match j,hj with|0,_|1,_|2,_|3,_=>rfl
  rw[e];exact Nat.zero_le _
 ·rcases hb with e|e|⟨j,hj,hb⟩
  ·have:=ad.size;omega
  ·omega
  ·exact absurd hb (fj b)
end
section
variable {w w' w2:World}{c p:Nat}{A:Arc}{V:Nat->Value×Value}{k:Int}
theorem Sx.cells (h:Sx w c A V p):OE w c [I (A.size:Int),(V 0).1,(V 0).2,(V 1).1,(V 1).2,(V 2).1,(V 2).2,(V 3).1,(V 3).2,I A.target,.map (some p)] 190:=h.On
def z1F (h:Sx w c A V p):P9 prog 177 [ptr c 0,I k] w λv w'=>v= .bool (decide (k∈A.once\/k∈A.often))/\w'=w:=by
 have h0:=Ve h (j:=0) (k:=k) ψ
 have h1:=Ve h (j:=1) (k:=k) ψ
 rw[show A.li 0=A.once from rfl] at h0
 rw[show A.li 1=A.often from rfl] at h1
 refine py (e:=[(0,_),(1,_)]) func177 O ntmps177 O O$ qN O$ QO O$ qV (z3H zaf O O)$ OX O$ Pb O$ OL Qo O$ OC O$ OQ Xn O (h0) ?_
 rintro _ w ⟨rfl,rfl⟩
 by_cases gU:k∈A.once
 ·rw[decide_eq_true gU];refine OC O$ QI$ QI$ qS$ QQ O$ QQ O$ OK O$ Oo func177 O ?_;exact⟨_,rfl,by rw[decide_eq_true (Or.inl gU)];rfl,rfl⟩
 ·rw[decide_eq_false gU];refine OX O$ Pb O$ OL Re O$ OC O$ OQ Xn O (h1) ?_;rintro _ w ⟨rfl,rfl⟩;refine PC O$ QQ O$ OK O$ Oo func177 O (⟨_,rfl,?_,rfl⟩);by_cases aG:k∈A.often
  ·simp[gU,aG,PS]
  ·simp[gU,aG,PS]
def Xi:List Int->Value
 |[]=> .tuple #[I 0,.bool false]
 |a::_=> .tuple #[I a,.bool true]
theorem Vm (h:Sx w c A V p){j:Nat}(hj:j<4):P9 prog 189 [ptr c 0,ptr c (1+2*j)] w λv w'=>v=Xi (A.li j)/\w'=w:=by
 have hB:=h.cells
 have hg:=(WG A.size A.target V p hj).1
 have hq:=h.q j hj
 obtain⟨ka,kc,eL,EM⟩:∃a c,(V j).1= .slice a (A.li j).length c/\(a=none->(A.li j).length=0):=hq.sl.rd.shape
 rw[eL] at hg
 have hR:=hq.sl.rd
 have hn:=hq.n
 rw[eL] at hR
 refine py (e:=[(0,_),(1,_)]) func189 O ntmps189 O O$ qN O$ Qd O$ Pz O$ Pb O$ OL PV O$ qV (OB Rl O O h.On hg)$ Ro Rl O$ OC O$ Oq$ Ou ?_
 cases hl:A.li j with
 | nil =>
   rw[hl] at hR;refine Rw (α:=Unit) (()) (λ_=>[(0,ptr c 0),(12,.slice ka 0 kc),(13,I 0),(14,I 0)]) (λ_ w'=>w'=w) (λ_=>0) ?hI ?hround
   case hI=>rfl
   case hround=>
    rintro i w2 rfl ih
    try dsimp only
    refine qN O$ Qv O$ Pu$ Oq$ An$ Ox O$ OD O$ qN O$ QO O$ Qd O$ Oo func189 O ?_
    exact⟨_,rfl,rfl,rfl⟩
 | cons x r =>
   rw[hl] at hR EM hn
   obtain⟨kb,rfl⟩:∃b,ka=some b:=by
    cases ka with
    |none=>have:=EM O;simp at this
    |some b=>exact⟨b,rfl⟩
   obtain⟨lb,lo,lc,e5⟩:∃b o c',Value.slice (some kb) (x::r).length kc= .slice (some ⟨b,o,none⟩) (x::r).length c':=by
    rcases hR.2 with⟨c,hc,h0⟩|⟨b,off,c',hc,-⟩
    ·simp at h0
    ·exact⟨b,off,c',hc⟩
   cases e5;have ia:0<(x::r).length:=by simp
   refine Rw (α:=Unit) (()) (λ_=>[(0,ptr c 0),(12,.slice (some ⟨lb,lo,none⟩) (x::r).length kc),(13,I ((x::r).length:Int)),(14,I ((0:Nat):Int))]) (λ_ w'=>w'=w) (λ_=>0) ?hI ?hround
   case hI=>rfl
   case hround=>
    rintro i w2 rfl ih
    try dsimp only
    refine qN O (Qv O (Rf (Oq (An (OI O (Ot (Qt (qN O (qV (PK Rl PH O O ω) (qV (Pc U3 O O (PM hR (i:=0) (show((x::r).map I)[0]? =some (I x) from rfl))) (QO O (Pb O (OL ZM O ?_)))))))))))));refine qV (OB WX O O hB O)$ OC O$ qV (ylk (k:=x) (K:=KI) WX (RT U3) PH O O h.pins)$ QS O$ Rf$ Oq$ OI O$ P7 O$ Qd O$ Oo func189 O ?_;exact⟨_,rfl,rfl,rfl⟩
def z1K (h:Sx w c A V p)(hA:A.Ok)(cH:A.size<=1000):P9 prog 190 [ptr c 0] w λv w'=>v= .bool (decide (A.once.length+A.often.length=A.size))/\Ext w w':=by
 have hB:=h.cells
 have hh:=hA.held
 obtain⟨a0,c0,e0,-⟩:∃a c,(V 0).1= .slice a A.once.length c/\_:=(h.q 0 ψ).sl.rd.shape
 obtain⟨a1,c1,e1,-⟩:∃a c,(V 1).1= .slice a A.often.length c/\_:=(h.q 1 ψ).sl.rd.shape
 rw[e0,e1] at hB
 have hg:=Ext.OT w
 refine py (e:=[(0,_)]) func190 O ntmps190 O O$ QB O$ An$ R8 (λw'=>Ext w w') O$ OR 0 O O (hg)$ Ow 1 O (Q8 O) hg$ Ow 2 O (Pk Qo O) hg$ Ow 3 O (Pk PV O) hg$ qT 4 O (λ_ h=>OB Rl O O (h.On hB) O) hg$ Ow 5 O (St Rl O) hg$ OR 6 O O (hg)$ Ow 7 O (Q8 O) hg$ Ow 8 O (Pk Re O) hg$ Ow 9 O (Pk PV O) hg ?_
 refine qT 10 O (λ_ h=>OB Rl O O (h.On hB) O) hg$ Ow 11 O (St Rl O) hg$ Ow 12 O (Uw O O ω) hg$ OR 13 O O (hg)$ Ow 14 O (Q8 O) hg$ Ow 15 O (Pk Se O) hg$ qT 16 O (λ_ h=>OB U3 O O (h.On hB) O) hg$ Ow 17 O (yeq O O) hg$ Ow 18 O (Rr O) hg$ qE$ Oo func190 O (⟨_,rfl,?_,hg⟩)
 show Value.bool _=Value.bool _
 congr 1
 exact decide_eq_decide.2 ω
end
def Rt (hit:Bool)(g:Option Int):List Value:=[.bool hit,.bool g.isSome,I (g.getD 0)]
abbrev zcE (hit:Bool)(g:Option Int):Value:= .agg (Rt hit g).toArray
section
variable {w w' w2:World}{c p:Nat}{A:Arc}{V V':Nat->Value×Value}{k:Int}
def Arc.Ok.lens (h:A.Ok)(cH:A.size<=1000)(j:Nat):(A.li j).length<=2000:=by
 have h1:=h.held
 have h2:=h.first
 have h3:=h.total
 have h4:=A.QF
 unfold Arc.li
 split<;>omega
theorem Tq (h:Sx w c A V p)(hA:A.Ok)(cH:A.size<=1000)(bo:Bool):P9 prog 191 [ptr c 0,.bool bo] w λv w'=>v=zcE false (A.room bo).2/\∃V',VR w c V p w' (A.room bo).1 V':=by
 have iV:=hA.lens cH 2
 have mB:=hA.lens cH 3
 have EN:=hA.tg
 have ia:=hA.pos
 have ek:=hA.nd
 unfold Arc.all at ek
 rw[List.nodup_append] at ek
 obtain⟨nd1,nd2,nd3⟩:=ek
 rw[List.nodup_append] at nd2
 obtain⟨nd4,nd5,nd6⟩:=nd2
 rw[List.nodup_append] at nd5
 obtain⟨nd7,nd8,nd9⟩:=nd5
 have aN:∀{b:Nat},Ss c V p b->b<w.heap.size:=h.lt
 refine py (e:=[(0,_),(1,_)]) func191 O ntmps191 O O$ qN O$ Oy O O (Rq (cs:=[_,_,_]) Pl O) ?_
 rintro _ w1 ⟨b4,rfl,gF,ad,aH⟩
 have mz:=h.ext ad
 have n4:∀b,Ss c V p b->b≠b4:=λb hb e=>by have:=aN hb;omega
 refine Oq$ Pz O$ OQ zdu O (z1K mz hA cH) ?_
 rintro _ w2 ⟨rfl,ae⟩
 have bq:=ae.On aH
 have aL:=ad.trans ae
 have dQ:=h.ext aL
 by_cases bV:¬A.once.length+A.often.length=A.size
 ·rw[decide_eq_false bV];have jj:A.room bo=(A,none):=by unfold Arc.room;rw[if_neg bV]
  refine qV ((S1 O)) (Oq (OI O (qN O (qV (Pa (news:=Rt false none) Su O Pl O (OE.cells (n:=3) bq O) O) (OJ O (Py (news:=Rt false none) Pl O O O O bq ξ) ?_)))));rintro w3 ⟨dP,ar⟩;replace dP:OE w3 b4 [.bool false,.bool false,I 0] 261:=dP;refine Oq$ P6 func191 (.cell Su O Pl O (OE.cells (n:=3) dP (news:=[_,_,_]) O) O .nil) ?_;rw[jj];exact⟨_,rfl,rfl,V,dQ.kp ar (λb hb=>n4 b hb),λb hb=> .inl hb,(aL.It ar (λj e=>by omega)).kp⟩
 ·have bV := Classical.not_not.1 bV; rw [decide_eq_true bV]; refine qV ((S1 O)) (Oq (Ox O ?_)); have ak := dQ.cells; obtain ⟨a0, c0, e0, -⟩ : ∃ a c, (V 0).1 = .slice a A.once.length c /\ _ := (h.q 0 ψ).sl.rd.shape; rw [e0] at ak; have f0 := Vm dQ (j := 0) ψ; have f1 := Vm dQ (j := 1) ψ; rw [show A.li 0 = A.once from rfl] at f0; rw [show A.li 1 = A.often from rfl] at f1
  cases ho:A.once with
  | nil =>
    cases hf:A.often with
    | nil =>
      exfalso;rw[ho,hf] at bV;simp at bV
      omega
    | cons x1 r1 =>
      have jj:A.room bo=({A with often:=r1,OM:=A.OM++[x1]},some x1):=by unfold Arc.room;rw[if_pos bV,ho,hf]
      have LI:A.once.length=0:=by rw[ho];rfl
      have g0:Xi A.once= .tuple #[I 0,.bool false]:=by rw[ho];rfl
      have g1:Xi A.often= .tuple #[I x1,.bool true]:=by rw[hf];rfl
      rw[g0] at f0;rw[g1] at f1;refine Ot$ Qh O$ Pb O$ OL Qo O$ OQ Ys O (f0) ?_;rintro _ w2 ⟨rfl,rfl⟩;refine OC O$ qV (Rv (v:=I 0) O O)$ qV (Rv (v:= .bool false) O O)$ Si O$ QL O$ OX O$ Pb O$ OL Re O$ OQ Ys O (f1) ?_;rintro _ w2 ⟨rfl,rfl⟩;refine OC O$ qV (Rv (v:=I x1) O O)$ qV (Rv (v:= .bool true) O O)$ Qd O$ P8.qb (e:=[(0,_),(1,_),(4,_),(5,_),(6,_),(7,_),(8,_)]) ?_;refine P7 O$ Pb O$ OL Qo O$ OL PV O$ qV (OB Rl O O ak O)$ Ro Rl O$ QO O$ TE O$ Pu$ OC O$ QI$ QI$ QI$ QI ?_;refine QI$ QI$ QI$ QI$ qS$ PC O$ OK O$ P8.qb (e:=[(0,_),(4,_),(5,_),(6,_),(7,_),(8,_),(10,_)]) ?_;refine An$ Qh O$ qS$ PC O$ OX O$ qV ((S1 O))$ OX O$ qV ((S1 O))$ QQ O$ PC O$ PX O$ P7 O$ Pb O$ OL Re O ?_;refine OC O (OQ SD O (Q4 dQ (j:=1) (k:=x1) ψ) ?_);rintro _ w3 ⟨rfl,V3,cb⟩;have iF:(A.li 1).erase x1=r1:=by show A.often.erase x1=r1;rw[hf];simp
      rw[iF] at cb
      have dG:x1∉(A.PI 1 r1).li 3:=by
       show x1∉A.OM;intro e;exact nd6 x1 (by rw[hf];simp) x1 (by simp[e]) O
      refine qM O (OC O (Pb O (OL R3 O (OC O (OQ T8 O (QE cb.m (j:=3) (k:=x1) ψ dG (by show A.OM.length<=_;exact Nat.le_trans mB ψ)) ?_)))));rintro _ w4 ⟨rfl,V4,bA⟩;have hr:=(dQ.r (Ext.refl w2)).trans (cb.trans bA);have cy:=hr.k.On bq (λe=>n4 _ e O);refine Oq$ P8.qb (e:=[(4,_),(7,_)]) ?_;refine P7 O (qV (Sa (cs:=[_,_,_]) Pl O VJ O O) (OJ O (Py (news:=Rt false (some x1)) Pl O O O O cy ξ) ?_));rintro w5 ⟨aI,ai⟩;replace aI:OE w5 b4 [.bool false,.bool true,I x1] 261:=aI;refine Oq$ P6 func191 (.cell Su O Pl O (OE.cells (n:=3) aI (news:=[_,_,_]) O) O .nil) ?_
      have en:∀b,Ss c V4 p b->b≠b4:=λb hb e=>by
       rcases hr.fp b hb with h5|h5
       ·exact n4 b h5 e
       ·have:=bq.lt;omega
      rw[jj]
      exact⟨_,rfl,rfl,V4,hr.m.kp ai en,λb hb=>(hr.fp b hb).imp id (λe=>by have:=aL.size;omega),(aL.kp.trans hr.k).It ai (λj e=> .inl ω)⟩
  | cons x0 r0 =>
    have LI:1<=A.once.length:=by rw[ho];simp
    cases hf:A.often with
    | nil =>
      have jj:A.room bo=({A with once:=r0,OP:=A.OP++[x0]},some x0):=by unfold Arc.room;rw[if_pos bV,ho,hf]
      have g0:Xi A.once= .tuple #[I x0,.bool true]:=by rw[ho];rfl
      have g1:Xi A.often= .tuple #[I 0,.bool false]:=by rw[hf];rfl
      rw[g0] at f0;rw[g1] at f1;refine Ot$ Qh O$ Pb O$ OL Qo O$ OQ Ys O (f0) ?_;rintro _ w2 ⟨rfl,rfl⟩;refine OC O$ qV (Rv (v:=I x0) O O)$ qV (Rv (v:= .bool true) O O)$ Si O$ QL O$ OX O$ Pb O$ OL Re O$ OQ Ys O (f1) ?_;rintro _ w2 ⟨rfl,rfl⟩;refine OC O$ qV (Rv (v:=I 0) O O)$ qV (Rv (v:= .bool false) O O)$ Qd O$ P8.qb (e:=[(0,_),(1,_),(4,_),(5,_),(6,_),(7,_),(8,_)]) ?_;refine P7 O$ Pb O$ OL Qo O$ OL PV O$ qV (OB Rl O O ak O)$ Ro Rl O$ QO O$ TE O$ Rf$ OC O ?_
      by_cases h1:(A.once.length:Int)>A.target
      ·skip
       refine OX O$ Pb O$ OL R5 O$ qV (OB U3 O O ak O)$ Qr O$ Rf$ OC O$ QI$ QI$ QI$ QI$ qS$ QQ O$ QQ O ?_;refine OK O$ P8.qb (e:=[(0,_),(4,_),(5,_),(6,_),(7,_),(8,_),(10,_)]) ?_;refine An$ Qh O$ OC O$ QQ O$ OC O$ QI$ QI$ QI$ QQ O$ Oq$ OI O$ P7 O$ Pb O$ OL Qo O ?_;refine OC O (OQ SD O (Q4 dQ (j:=0) (k:=x0) ψ) ?_);rintro _ w3 ⟨rfl,V3,cb⟩;have iF:(A.li 0).erase x0=r0:=by show A.once.erase x0=r0;rw[ho];simp
       rw[iF] at cb
       have dG:x0∉(A.PI 0 r0).li 2:=by
        show x0∉A.OP;intro e;exact nd3 x0 (by rw[ho];simp) x0 (by simp[e]) O
       refine qM O (OC O (Pb O (OL QG O (OC O (OQ T8 O (QE cb.m (j:=2) (k:=x0) ψ dG (by show A.OP.length<=_;exact Nat.le_trans iV ψ)) ?_)))));rintro _ w4 ⟨rfl,V4,bA⟩;have hr:=(dQ.r (Ext.refl w2)).trans (cb.trans bA);have cy:=hr.k.On bq (λe=>n4 _ e O);refine Oq$ P8.qb (e:=[(0,_),(4,_),(5,_),(7,_)]) ?_;refine P7 O (qV (Sa (cs:=[_,_,_]) Pl O VJ O O) (OJ O (Py (news:=Rt false (some x0)) Pl O O O O cy ξ) ?_));rintro w5 ⟨aI,ai⟩;replace aI:OE w5 b4 [.bool false,.bool true,I x0] 261:=aI;refine Oq$ P6 func191 (.cell Su O Pl O (OE.cells (n:=3) aI (news:=[_,_,_]) O) O .nil) ?_
       have en:∀b,Ss c V4 p b->b≠b4:=λb hb e=>by
        rcases hr.fp b hb with h5|h5
        ·exact n4 b h5 e
        ·have:=bq.lt;omega
       rw[jj];exact⟨_,rfl,rfl,V4,hr.m.kp ai en,λb hb=>(hr.fp b hb).imp id (λe=>by have:=aL.size;omega),(aL.kp.trans hr.k).It ai (λj e=> .inl ω)⟩
      ·refine OX O$ Pb O$ OL R5 O$ qV (OB U3 O O ak O)$ Qr O$ Pu$ OC O ?_;by_cases h2:(A.once.length:Int)=A.target
       ·refine OX O$ Pb O$ OL R5 O$ qV (OB U3 O O ak O)$ QS O$ Rf$ OC O ?_
        cases bo with
        | true =>
          refine OC O ?_
          skip
          refine QQ O$ PC O$ QQ O$ OK O$ P8.qb (e:=[(0,_),(4,_),(5,_),(6,_),(7,_),(8,_),(10,_)]) ?_;refine An$ Qh O$ OC O$ QQ O$ OC O$ QI$ QI$ QI$ QQ O$ Oq$ OI O$ P7 O$ Pb O$ OL Qo O ?_;refine OC O (OQ SD O (Q4 dQ (j:=0) (k:=x0) ψ) ?_);rintro _ w3 ⟨rfl,V3,cb⟩;have iF:(A.li 0).erase x0=r0:=by show A.once.erase x0=r0;rw[ho];simp
          rw[iF] at cb
          have dG:x0∉(A.PI 0 r0).li 2:=by
           show x0∉A.OP;intro e;exact nd3 x0 (by rw[ho];simp) x0 (by simp[e]) O
          refine qM O (OC O (Pb O (OL QG O (OC O (OQ T8 O (QE cb.m (j:=2) (k:=x0) ψ dG (by show A.OP.length<=_;exact Nat.le_trans iV ψ)) ?_)))));rintro _ w4 ⟨rfl,V4,bA⟩;have hr:=(dQ.r (Ext.refl w2)).trans (cb.trans bA);have cy:=hr.k.On bq (λe=>n4 _ e O);refine Oq$ P8.qb (e:=[(0,_),(4,_),(5,_),(7,_)]) ?_;refine P7 O (qV (Sa (cs:=[_,_,_]) Pl O VJ O O) (OJ O (Py (news:=Rt false (some x0)) Pl O O O O cy ξ) ?_));rintro w5 ⟨aI,ai⟩;replace aI:OE w5 b4 [.bool false,.bool true,I x0] 261:=aI;refine Oq$ P6 func191 (.cell Su O Pl O (OE.cells (n:=3) aI (news:=[_,_,_]) O) O .nil) ?_
          have en:∀b,Ss c V4 p b->b≠b4:=λb hb e=>by
           rcases hr.fp b hb with h5|h5
           ·exact n4 b h5 e
           ·have:=bq.lt;omega
          rw[jj]
          exact⟨_,rfl,rfl,V4,hr.m.kp ai en,λb hb=>(hr.fp b hb).imp id (λe=>by have:=aL.size;omega),(aL.kp.trans hr.k).It ai (λj e=> .inl ω)⟩
        | false =>
          refine OC O ?_
          skip
          refine QQ O$ PC O$ QQ O$ OK O$ P8.qb (e:=[(0,_),(4,_),(5,_),(6,_),(7,_),(8,_),(10,_)]) ?_;refine An$ Qh O$ qS$ PC O$ OX O$ qV ((S1 O))$ OX O$ qV ((S1 O))$ QQ O$ PC O$ Oq$ OI O$ P7 O$ Pb O ?_;refine OL Qo O (OC O (OQ SD O (Q4 dQ (j:=0) (k:=x0) ψ) ?_));rintro _ w3 ⟨rfl,V3,cb⟩;have iF:(A.li 0).erase x0=r0:=by show A.once.erase x0=r0;rw[ho];simp
          rw[iF] at cb
          have dG:x0∉(A.PI 0 r0).li 2:=by
           show x0∉A.OP;intro e;exact nd3 x0 (by rw[ho];simp) x0 (by simp[e]) O
          refine qM O (OC O (Pb O (OL QG O (OC O (OQ T8 O (QE cb.m (j:=2) (k:=x0) ψ dG (by show A.OP.length<=_;exact Nat.le_trans iV ψ)) ?_)))));rintro _ w4 ⟨rfl,V4,bA⟩;have hr:=(dQ.r (Ext.refl w2)).trans (cb.trans bA);have cy:=hr.k.On bq (λe=>n4 _ e O);refine Oq$ P8.qb (e:=[(0,_),(4,_),(5,_),(7,_)]) ?_;refine P7 O (qV (Sa (cs:=[_,_,_]) Pl O VJ O O) (OJ O (Py (news:=Rt false (some x0)) Pl O O O O cy ξ) ?_));rintro w5 ⟨aI,ai⟩;replace aI:OE w5 b4 [.bool false,.bool true,I x0] 261:=aI;refine Oq$ P6 func191 (.cell Su O Pl O (OE.cells (n:=3) aI (news:=[_,_,_]) O) O .nil) ?_
          have en:∀b,Ss c V4 p b->b≠b4:=λb hb e=>by
           rcases hr.fp b hb with h5|h5
           ·exact n4 b h5 e
           ·have:=bq.lt;omega
          rw[jj];exact⟨_,rfl,rfl,V4,hr.m.kp ai en,λb hb=>(hr.fp b hb).imp id (λe=>by have:=aL.size;omega),(aL.kp.trans hr.k).It ai (λj e=> .inl ω)⟩
       ·refine OX O$ Pb O$ OL R5 O$ qV (OB U3 O O ak O)$ QS O$ Pu$ OC O ?_
        skip
        refine qS$ PC O$ PC O$ QQ O$ OK O$ P8.qb (e:=[(0,_),(4,_),(5,_),(6,_),(7,_),(8,_),(10,_)]) ?_;refine An$ Qh O$ qS$ PC O$ OX O$ qV ((S1 O))$ OX O$ qV ((S1 O))$ QQ O$ PC O$ Oq$ OI O$ P7 O$ Pb O ?_;refine OL Qo O (OC O (OQ SD O (Q4 dQ (j:=0) (k:=x0) ψ) ?_));rintro _ w3 ⟨rfl,V3,cb⟩;have iF:(A.li 0).erase x0=r0:=by show A.once.erase x0=r0;rw[ho];simp
        rw[iF] at cb
        have dG:x0∉(A.PI 0 r0).li 2:=by
         show x0∉A.OP;intro e;exact nd3 x0 (by rw[ho];simp) x0 (by simp[e]) O
        refine qM O (OC O (Pb O (OL QG O (OC O (OQ T8 O (QE cb.m (j:=2) (k:=x0) ψ dG (by show A.OP.length<=_;exact Nat.le_trans iV ψ)) ?_)))));rintro _ w4 ⟨rfl,V4,bA⟩;have hr:=(dQ.r (Ext.refl w2)).trans (cb.trans bA);have cy:=hr.k.On bq (λe=>n4 _ e O);refine Oq$ P8.qb (e:=[(0,_),(4,_),(5,_),(7,_)]) ?_;refine P7 O (qV (Sa (cs:=[_,_,_]) Pl O VJ O O) (OJ O (Py (news:=Rt false (some x0)) Pl O O O O cy ξ) ?_));rintro w5 ⟨aI,ai⟩;replace aI:OE w5 b4 [.bool false,.bool true,I x0] 261:=aI;refine Oq$ P6 func191 (.cell Su O Pl O (OE.cells (n:=3) aI (news:=[_,_,_]) O) O .nil) ?_
        have en:∀b,Ss c V4 p b->b≠b4:=λb hb e=>by
         rcases hr.fp b hb with h5|h5
         ·exact n4 b h5 e
         ·have:=bq.lt;omega
        rw[jj]
        exact⟨_,rfl,rfl,V4,hr.m.kp ai en,λb hb=>(hr.fp b hb).imp id (λe=>by have:=aL.size;omega),(aL.kp.trans hr.k).It ai (λj e=> .inl ω)⟩
    | cons x1 r1 =>
      have g0:Xi A.once= .tuple #[I x0,.bool true]:=by rw[ho];rfl
      have g1:Xi A.often= .tuple #[I x1,.bool true]:=by rw[hf];rfl
      rw[g0] at f0;rw[g1] at f1;refine Ot$ Qh O$ Pb O$ OL Qo O$ OQ Ys O (f0) ?_;rintro _ w2 ⟨rfl,rfl⟩;refine OC O$ qV (Rv (v:=I x0) O O)$ qV (Rv (v:= .bool true) O O)$ Si O$ QL O$ OX O$ Pb O$ OL Re O$ OQ Ys O (f1) ?_;rintro _ w2 ⟨rfl,rfl⟩;refine OC O$ qV (Rv (v:=I x1) O O)$ qV (Rv (v:= .bool true) O O)$ Qd O$ P8.qb (e:=[(0,_),(1,_),(4,_),(5,_),(6,_),(7,_),(8,_)]) ?_;refine P7 O$ Pb O$ OL Qo O$ OL PV O$ qV (OB Rl O O ak O)$ Ro Rl O$ QO O$ TE O$ Rf$ OC O ?_
      by_cases h1:(A.once.length:Int)>A.target
      ·have jj:A.room bo=({A with once:=r0,OP:=A.OP++[x0]},some x0):=by unfold Arc.room;rw[if_pos bV,ho,hf];exact if_pos (by rw[<-ho];exact .inl h1)
       refine OX O$ Pb O$ OL R5 O$ qV (OB U3 O O ak O)$ Qr O$ Rf$ OC O$ QI$ QI$ QI$ QI$ qS$ QQ O$ QQ O ?_;refine OK O$ P8.qb (e:=[(0,_),(4,_),(5,_),(6,_),(7,_),(8,_),(10,_)]) ?_;refine An$ Qh O$ OC O$ QQ O$ OC O$ QI$ QI$ QI$ QQ O$ Oq$ OI O$ P7 O$ Pb O$ OL Qo O ?_;refine OC O (OQ SD O (Q4 dQ (j:=0) (k:=x0) ψ) ?_);rintro _ w3 ⟨rfl,V3,cb⟩;have iF:(A.li 0).erase x0=r0:=by show A.once.erase x0=r0;rw[ho];simp
       rw[iF] at cb
       have dG:x0∉(A.PI 0 r0).li 2:=by
        show x0∉A.OP;intro e;exact nd3 x0 (by rw[ho];simp) x0 (by simp[e]) O
       refine qM O (OC O (Pb O (OL QG O (OC O (OQ T8 O (QE cb.m (j:=2) (k:=x0) ψ dG (by show A.OP.length<=_;exact Nat.le_trans iV ψ)) ?_)))));rintro _ w4 ⟨rfl,V4,bA⟩;have hr:=(dQ.r (Ext.refl w2)).trans (cb.trans bA);have cy:=hr.k.On bq (λe=>n4 _ e O);refine Oq$ P8.qb (e:=[(0,_),(4,_),(5,_),(7,_)]) ?_;refine P7 O (qV (Sa (cs:=[_,_,_]) Pl O VJ O O) (OJ O (Py (news:=Rt false (some x0)) Pl O O O O cy ξ) ?_));rintro w5 ⟨aI,ai⟩;replace aI:OE w5 b4 [.bool false,.bool true,I x0] 261:=aI;refine Oq$ P6 func191 (.cell Su O Pl O (OE.cells (n:=3) aI (news:=[_,_,_]) O) O .nil) ?_
       have en:∀b,Ss c V4 p b->b≠b4:=λb hb e=>by
        rcases hr.fp b hb with h5|h5
        ·exact n4 b h5 e
        ·have:=bq.lt;omega
       rw[jj];exact⟨_,rfl,rfl,V4,hr.m.kp ai en,λb hb=>(hr.fp b hb).imp id (λe=>by have:=aL.size;omega),(aL.kp.trans hr.k).It ai (λj e=> .inl ω)⟩
      ·refine OX O$ Pb O$ OL R5 O$ qV (OB U3 O O ak O)$ Qr O$ Pu$ OC O ?_;by_cases h2:(A.once.length:Int)=A.target
       ·refine OX O$ Pb O$ OL R5 O$ qV (OB U3 O O ak O)$ QS O$ Rf$ OC O ?_
        cases bo with
        | true =>
          refine OC O ?_;have jj:A.room true=({A with once:=r0,OP:=A.OP++[x0]},some x0):=by unfold Arc.room;rw[if_pos bV,ho,hf];exact if_pos (by rw[<-ho];exact .inr ⟨h2,rfl⟩)
          refine QQ O$ PC O$ QQ O$ OK O$ P8.qb (e:=[(0,_),(4,_),(5,_),(6,_),(7,_),(8,_),(10,_)]) ?_;refine An$ Qh O$ OC O$ QQ O$ OC O$ QI$ QI$ QI$ QQ O$ Oq$ OI O$ P7 O$ Pb O$ OL Qo O ?_;refine OC O (OQ SD O (Q4 dQ (j:=0) (k:=x0) ψ) ?_);rintro _ w3 ⟨rfl,V3,cb⟩;have iF:(A.li 0).erase x0=r0:=by show A.once.erase x0=r0;rw[ho];simp
          rw[iF] at cb
          have dG:x0∉(A.PI 0 r0).li 2:=by
           show x0∉A.OP;intro e;exact nd3 x0 (by rw[ho];simp) x0 (by simp[e]) O
          refine qM O (OC O (Pb O (OL QG O (OC O (OQ T8 O (QE cb.m (j:=2) (k:=x0) ψ dG (by show A.OP.length<=_;exact Nat.le_trans iV ψ)) ?_)))));rintro _ w4 ⟨rfl,V4,bA⟩;have hr:=(dQ.r (Ext.refl w2)).trans (cb.trans bA);have cy:=hr.k.On bq (λe=>n4 _ e O);refine Oq$ P8.qb (e:=[(0,_),(4,_),(5,_),(7,_)]) ?_;refine P7 O (qV (Sa (cs:=[_,_,_]) Pl O VJ O O) (OJ O (Py (news:=Rt false (some x0)) Pl O O O O cy ξ) ?_));rintro w5 ⟨aI,ai⟩;replace aI:OE w5 b4 [.bool false,.bool true,I x0] 261:=aI;refine Oq$ P6 func191 (.cell Su O Pl O (OE.cells (n:=3) aI (news:=[_,_,_]) O) O .nil) ?_
          have en:∀b,Ss c V4 p b->b≠b4:=λb hb e=>by
           rcases hr.fp b hb with h5|h5
           ·exact n4 b h5 e
           ·have:=bq.lt;omega
          rw[jj]
          exact⟨_,rfl,rfl,V4,hr.m.kp ai en,λb hb=>(hr.fp b hb).imp id (λe=>by have:=aL.size;omega),(aL.kp.trans hr.k).It ai (λj e=> .inl ω)⟩
        | false =>
          refine OC O ?_;have jj:A.room false=({A with often:=r1,OM:=A.OM++[x1]},some x1):=by unfold Arc.room;rw[if_pos bV,ho,hf];exact if_neg (by rw[<-ho];rintro(e|⟨e,e2⟩);exact h1 e;cases e2)
          refine QQ O$ PC O$ QQ O$ OK O$ P8.qb (e:=[(0,_),(4,_),(5,_),(6,_),(7,_),(8,_),(10,_)]) ?_;refine An$ Qh O$ qS$ PC O$ OX O$ qV ((S1 O))$ OX O$ qV ((S1 O))$ QQ O$ PC O$ PX O$ P7 O$ Pb O$ OL Re O ?_;refine OC O (OQ SD O (Q4 dQ (j:=1) (k:=x1) ψ) ?_);rintro _ w3 ⟨rfl,V3,cb⟩;have iF:(A.li 1).erase x1=r1:=by show A.often.erase x1=r1;rw[hf];simp
          rw[iF] at cb
          have dG:x1∉(A.PI 1 r1).li 3:=by
           show x1∉A.OM;intro e;exact nd6 x1 (by rw[hf];simp) x1 (by simp[e]) O
          refine qM O (OC O (Pb O (OL R3 O (OC O (OQ T8 O (QE cb.m (j:=3) (k:=x1) ψ dG (by show A.OM.length<=_;exact Nat.le_trans mB ψ)) ?_)))));rintro _ w4 ⟨rfl,V4,bA⟩;have hr:=(dQ.r (Ext.refl w2)).trans (cb.trans bA);have cy:=hr.k.On bq (λe=>n4 _ e O);refine Oq$ P8.qb (e:=[(4,_),(7,_)]) ?_;refine P7 O (qV (Sa (cs:=[_,_,_]) Pl O VJ O O) (OJ O (Py (news:=Rt false (some x1)) Pl O O O O cy ξ) ?_));rintro w5 ⟨aI,ai⟩;replace aI:OE w5 b4 [.bool false,.bool true,I x1] 261:=aI;refine Oq$ P6 func191 (.cell Su O Pl O (OE.cells (n:=3) aI (news:=[_,_,_]) O) O .nil) ?_
          have en:∀b,Ss c V4 p b->b≠b4:=λb hb e=>by
           rcases hr.fp b hb with h5|h5
           ·exact n4 b h5 e
           ·have:=bq.lt;omega
          rw[jj];exact⟨_,rfl,rfl,V4,hr.m.kp ai en,λb hb=>(hr.fp b hb).imp id (λe=>by have:=aL.size;omega),(aL.kp.trans hr.k).It ai (λj e=> .inl ω)⟩
       ·refine OX O$ Pb O$ OL R5 O$ qV (OB U3 O O ak O)$ QS O$ Pu$ OC O ?_;have jj:A.room bo=({A with often:=r1,OM:=A.OM++[x1]},some x1):=by unfold Arc.room;rw[if_pos bV,ho,hf];exact if_neg (by rw[<-ho];rintro(e|⟨e,e2⟩);exact h1 e;exact h2 e)
        refine qS$ PC O$ PC O$ QQ O$ OK O$ P8.qb (e:=[(0,_),(4,_),(5,_),(6,_),(7,_),(8,_),(10,_)]) ?_;refine An$ Qh O$ qS$ PC O$ OX O$ qV ((S1 O))$ OX O$ qV ((S1 O))$ QQ O$ PC O$ PX O$ P7 O$ Pb O$ OL Re O ?_;refine OC O (OQ SD O (Q4 dQ (j:=1) (k:=x1) ψ) ?_);rintro _ w3 ⟨rfl,V3,cb⟩;have iF:(A.li 1).erase x1=r1:=by show A.often.erase x1=r1;rw[hf];simp
        rw[iF] at cb
        have dG:x1∉(A.PI 1 r1).li 3:=by
         show x1∉A.OM;intro e;exact nd6 x1 (by rw[hf];simp) x1 (by simp[e]) O
        refine qM O (OC O (Pb O (OL R3 O (OC O (OQ T8 O (QE cb.m (j:=3) (k:=x1) ψ dG (by show A.OM.length<=_;exact Nat.le_trans mB ψ)) ?_)))));rintro _ w4 ⟨rfl,V4,bA⟩;have hr:=(dQ.r (Ext.refl w2)).trans (cb.trans bA);have cy:=hr.k.On bq (λe=>n4 _ e O);refine Oq$ P8.qb (e:=[(4,_),(7,_)]) ?_;refine P7 O (qV (Sa (cs:=[_,_,_]) Pl O VJ O O) (OJ O (Py (news:=Rt false (some x1)) Pl O O O O cy ξ) ?_));rintro w5 ⟨aI,ai⟩;replace aI:OE w5 b4 [.bool false,.bool true,I x1] 261:=aI;refine Oq$ P6 func191 (.cell Su O Pl O (OE.cells (n:=3) aI (news:=[_,_,_]) O) O .nil) ?_
        have en:∀b,Ss c V4 p b->b≠b4:=λb hb e=>by
         rcases hr.fp b hb with h5|h5
         ·exact n4 b h5 e
         ·have:=bq.lt;omega
        rw[jj];exact⟨_,rfl,rfl,V4,hr.m.kp ai en,λb hb=>(hr.fp b hb).imp id (λe=>by have:=aL.size;omega),(aL.kp.trans hr.k).It ai (λj e=> .inl ω)⟩
end
def Arc.Ok.zg1 {A:Arc}(h:A.Ok):(A.PI 2 (A.OP.drop 1)).Ok:=by
 have hs:(A.PI 2 (A.OP.drop 1)).all.Sublist A.all:=(((List.drop_sublist 1 A.OP).append_right A.OM).append_left A.often).append_left A.once
 have:=h.first
 have h2:=hs.length_le
 have h3:=h.total
 exact⟨h.pos,h.nd.sublist hs,h.held,by show A.once.length+(A.OP.drop 1).length<=A.size;rw[List.length_drop];omega,Nat.le_trans h2 h3,h.tg⟩
def Arc.Ok.zg4 {A:Arc}(h:A.Ok):(A.PI 3 (A.OM.drop 1)).Ok:=by
 have hs:(A.PI 3 (A.OM.drop 1)).all.Sublist A.all:=(((List.drop_sublist 1 A.OM).append_left A.OP).append_left A.often).append_left A.once
 exact⟨h.pos,h.nd.sublist hs,h.held,h.first,Nat.le_trans hs.length_le h.total,h.tg⟩
section
variable {w w' w2:World}{c p:Nat}{A A':Arc}{V V':Nat->Value×Value}{k:Int}
def Sx.head (h:Sx w c A V p){j:Nat}(hj:j<4){x:Int}{r:List Int}(hl:A.li j=x::r):∃b o cp,(V j).1= .slice (some ⟨b,o,none⟩) (A.li j).length cp/\w.cell? ⟨b,o+0*1,none⟩=some (I x):=by
 have hR:=(h.q j hj).sl.rd
 rcases hR.2 with⟨c,hc,h0⟩|⟨b,off,c',hc,-⟩
 ·rw[hl] at h0;simp at h0
 ·rw[hc] at hR;exact⟨b,off,c',hc,PM hR (i:=0) (by rw[hl];rfl)⟩
theorem z0M (h:Sx w c A V p)(hA:A.Ok)(cH:A.size<=1000):P9 prog 192 [ptr c 0] w λv w'=>v=zcE false A.add.2/\∃V',VR w c V p w' A.add.1 V':=by
 have sP:=hA.lens cH 0
 have vJ:=hA.lens cH 1
 have iV:=hA.lens cH 2
 have mB:=hA.lens cH 3
 have ia:=hA.pos
 have gR:=A.QF
 have vP:=hA.held
 have NZ:=hA.first
 have eM:=hA.total
 have aN:∀{b:Nat},Ss c V p b->b<w.heap.size:=h.lt
 rw[show A.li 0=A.once from rfl] at sP
 rw[show A.li 1=A.often from rfl] at vJ
 rw[show A.li 2=A.OP from rfl] at iV
 rw[show A.li 3=A.OM from rfl] at mB
 have hB:=h.cells
 obtain⟨a0,c0,e0,-⟩:∃a c,(V 0).1= .slice a A.once.length c/\_:=(h.q 0 ψ).sl.rd.shape
 obtain⟨a1,c1,e1,-⟩:∃a c,(V 1).1= .slice a A.often.length c/\_:=(h.q 1 ψ).sl.rd.shape
 obtain⟨a2,c2,e2,-⟩:∃a c,(V 2).1= .slice a A.OP.length c/\_:=(h.q 2 ψ).sl.rd.shape
 obtain⟨a3,c3,e3,-⟩:∃a c,(V 3).1= .slice a A.OM.length c/\_:=(h.q 3 ψ).sl.rd.shape
 rw[e0,e1,e2,e3] at hB
 refine py (e:=[(0,_)]) func192 O ntmps192 O O$ qN O$ Oy O O (Rq (cs:=[_,_,_]) Pl O) ?_
 rintro _ w1 ⟨b2,rfl,bP,ad,ak⟩
 replace ak:OE w1 b2 [.bool false,.bool false,I 0] 261:=ak
 have n2:∀b,Ss c V p b->b≠b2:=λb hb e=>by have:=aN hb;omega
 have ah:=ad.On hB
 have bc:=Ext.OT w1
 refine Oq$ An$ R8 (λw'=>Ext w1 w') O$ OR 0 O O (bc)$ Ow 1 O (Q8 O) bc$ Ow 2 O (Pk Qo O) bc$ Ow 3 O (Pk PV O) bc$ qT 4 O (λ_ h=>OB Rl O O (h.On ah) O) bc$ Ow 5 O (St Rl O) bc$ OR 6 O O (bc)$ Ow 7 O (Q8 O) bc$ Ow 8 O (Pk QG O) bc$ Ow 9 O (Pk PV O) bc$ qT 10 O (λ_ h=>OB Rl O O (h.On ah) O) bc ?_
 refine Ow 11 O (St Rl O) bc$ Ow 12 O (Uw O O ω) bc$ Ow 13 O (Rr O) bc$ qE$ An ?_
 rw[show(A.once.length:Int)+(A.OP.length:Int)=((A.once.length+A.OP.length:Nat):Int) by omega]
 have aa:=Ext.OT w1.drew
 have rI:=bc.On ah
 refine R8 (λw'=>Ext w1.drew w') O$ OR 0 O O (aa)$ OR 1 O O (aa)$ Ow 2 O (Q8 O) aa$ Ow 3 O (Pk Re O) aa$ Ow 4 O (Pk PV O) aa$ qT 5 O (λ_ h=>OB Rl O O (h.On rI) O) aa$ Ow 6 O (St Rl O) aa$ Ow 7 O (Uw O O ω) aa$ OR 8 O O (aa)$ Ow 9 O (Q8 O) aa$ Ow 10 O (Pk R3 O) aa$ Ow 11 O (Pk PV O) aa$ qT 12 O (λ_ h=>OB Rl O O (h.On rI) O) aa ?_
 refine Ow 13 O (St Rl O) aa$ Ow 14 O (Uw O O ω) aa$ Ow 15 O (Rr O) aa ?_
 rw[show((A.once.length+A.OP.length:Nat):Int)+(A.often.length:Int)+(A.OM.length:Int)=(A.all.length:Int) by omega]
 have ae:=(ad.trans bc).trans aa
 obtain⟨w2,mC⟩:∃w2,w1.drew.drew=w2:=⟨_,rfl⟩
 rw[mC] at ae
 have aF:=bc.trans aa
 rw[mC] at aF⊢
 have h2:=h.ext ae
 have ma:=h2.cells
 rw[e0,e1,e2,e3] at ma
 have ii:=aF.On ak
 have ag:=Ext.OT w2
 refine qE$ P8.qb (e:=[(0,_),(2,_),(3,_),(4,_)]) ?_
 refine An$ Pw (λe' w'=>e'=[(0,ptr c 0),(2,ptr b2 0)]/\∃A' V',A'.Ok/\A'.size=A.size/\VR w2 c V p w' A' V'/\OE w' b2 [.bool false,.bool false,I 0] 261/\A.add=A'.room false/\w2.heap.size<=w'.heap.size) ?dr$ λdr=>?iG
 case dr=>
  rintro e' w3 ⟨rfl,A',V',LJ,zm,cb,ao,dH,z3⟩;refine P7 O (OQ z0o O (Tq cb.m LJ ω false) ?_);rintro _ w4 ⟨rfl,V4,bA⟩;have hr:=cb.trans bA
  have n3:∀b,Ss c V' p b->b≠b2:=λb hb e=>by
   rcases cb.fp b hb with h5|h5
   ·exact n2 b h5 e
   ·have:=ii.lt;omega
  have n4:∀b,Ss c V4 p b->b≠b2:=λb hb e=>by
   rcases hr.fp b hb with h5|h5
   ·exact n2 b h5 e
   ·have:=ii.lt;omega
  have eA:=bA.k.On ao (λe=>n3 _ e O);obtain⟨g,hg⟩:∃g,(A'.room false).2=g:=⟨_,rfl⟩;rw[hg];refine OJ O (Py (news:=Rt false g) Pl O O O O eA ξ) ?_;rintro w5 ⟨dj,ai⟩;replace dj:OE w5 b2 [.bool false,.bool g.isSome,I (g.getD 0)] 261:=dj;refine Oq$ P6 func192 (.cell Su O Pl O (OE.cells (n:=3) dj (news:=[_,_,_]) O) O .nil) ?_;rw[dH,hg];have z1:=ad.size;have z2:=ae.size;exact⟨_,rfl,rfl,V4,hr.m.kp ai n4,λb hb=>(hr.fp b hb).imp id (λe=>by omega),(ae.kp.trans hr.k).It ai (λj e=> .inl ω)⟩
 case iG =>
  have e13:(A.all.length:Int)=(A.all.length:Int):=rfl;have h3:=h2.ext ag;have qi:=ag.On ma;have cI:=ag.On ii;have z1:=ad.size;have z2:=ae.size;by_cases hf:A.once.length+A.OP.length=A.size
  ·by_cases ho:A.once.length<A.size
   ·refine Ou$ An$ R8 (λw'=>Ext w2 w') O$ OR 0 O O (ag)$ OR 1 O O (ag)$ Ow 2 O (Q8 O) ag$ Ow 3 O (Pk Se O) ag$ qT 4 O (λ_ h=>OB U3 O O (h.On ma) O) ag$ Ow 5 O (yeq O O) ag$ TH$ OR 6 O O (ag)$ OR 7 O O (ag)$ Ow 8 O (Q8 O) ag$ Ow 9 O (Pk Qo O) ag ?_;refine Ow 10 O (Pk PV O) ag$ qT 11 O (λ_ h=>OB Rl O O (h.On ma) O) ag$ Ow 12 O (St Rl O) ag$ OR 13 O O (ag)$ Ow 14 O (Q8 O) ag$ Ow 15 O (Pk Se O) ag$ qT 16 O (λ_ h=>OB U3 O O (h.On ma) O) ag$ Ow 17 O (ylt O O) ag$ TH$ Ow 18 O (UT O O) ag$ Ow 19 O (Rr O) ag$ qE$ OI O ?_
    obtain⟨x,r,hw⟩:∃x r,A.OP=x::r:=by
     cases hx:A.OP with
     |nil=>rw[hx] at hf;simp at hf;omega
     |cons x r=>exact⟨x,r,rfl⟩
    obtain⟨lb,lo,lc,rJ,-⟩:=h2.head (j:=2) ψ hw;rw[e2] at rJ;cases rJ;have cJ:=(h3.q 2 ψ).sl.rd;rw[e2] at cJ;have rK:0<A.OP.length:=by rw[hw];simp
    have jB:((A.li 2).map I)[0]? =some (I x):=by show(A.OP.map I)[0]? =_;rw[hw];rfl
    have af:=Ext.OT w2.drew;refine OW [10] (λw'=>Ext w2.drew w') (by kernel_rfl) O (PF 0 O O (af) (P5 1 O (Q8 O) af (P5 2 O (Pk QG O) af (PF 3 O O (af) (P5 4 O (Q8 O) af (P5 5 O (Pk QG O) af (P5 6 O (Pk PV O) af (qL 7 O (λ_ h=>OB Rl O O (h.On (ag.On ma)) O) af (P5 8 O (PK Rl PH O O ω) af (qL 9 O (λ_ h=>Pc U3 O O (PM (cJ.ext h) (i:=0) jB)) af (Th [10] (SH 10 O SD O (Q4 (h3.ext af) (j:=2) (k:=x) ψ) ?_))))))))))));rintro _ w5 ⟨rfl,V5,bG⟩;refine⟨trivial,?_⟩;have zn:(A.li 2).erase x=A.OP.drop 1:=by show A.OP.erase x=A.OP.drop 1;rw[hw];simp
    rw[zn] at bG;have f7:=(h2.r (ag.trans af)).trans bG;have dj:=f7.k.On ii (λe=>n2 _ e O);refine qE$ P8.qb (e:=[(0,_),(2,_)]) ?_;refine Om ?_;exact(dr _ _ ⟨rfl,_,V5,hA.zg1,(ZV A (j:=2) ψ _).1,f7,dj,by unfold Arc.add;rw[if_pos hf,if_pos ho];rfl,f7.k.size⟩).qb
   ·refine Ou$ An$ R8 (λw'=>Ext w2 w') O$ OR 0 O O (ag)$ OR 1 O O (ag)$ Ow 2 O (Q8 O) ag$ Ow 3 O (Pk Se O) ag$ qT 4 O (λ_ h=>OB U3 O O (h.On ma) O) ag$ Ow 5 O (yeq O O) ag$ TH$ OR 6 O O (ag)$ OR 7 O O (ag)$ Ow 8 O (Q8 O) ag$ Ow 9 O (Pk Qo O) ag ?_;refine Ow 10 O (Pk PV O) ag$ qT 11 O (λ_ h=>OB Rl O O (h.On ma) O) ag$ Ow 12 O (St Rl O) ag$ OR 13 O O (ag)$ Ow 14 O (Q8 O) ag$ Ow 15 O (Pk Se O) ag$ qT 16 O (λ_ h=>OB U3 O O (h.On ma) O) ag$ Ow 17 O (ylt O O) ag$ TK$ Ow 18 O (UT O O) ag$ Ow 19 O (Rr O) ag$ qE$ Ox O$ Qh O ?_;refine Pb O$ OL Se O$ qV (OB U3 O O qi O)$ QS O$ Rf$ OK O$ P8.qb (e:=[(0,_),(2,_),(4,_),(66,_)]) ?_;refine OI O$ Qh O$ Pb O$ OL Qo O ?_
    obtain⟨x,r,hw⟩:∃x r,A.once=x::r:=by
     cases hx:A.once with
     |nil=>rw[hx] at ho;simp at ho;omega
     |cons x r=>exact⟨x,r,rfl⟩
    have f0:=Vm h3 (j:=0) ψ;rw[show A.li 0=A.once from rfl,show Xi A.once= .tuple #[I x,.bool true] by rw[hw];rfl] at f0;obtain⟨w3,qj⟩:∃w3,w2.drew=w3:=⟨_,rfl⟩;rw[qj] at f0 h3 cI ag⊢;refine OQ Ys O (f0) ?_;rintro _ w3 ⟨rfl,rfl⟩;refine OC O (qV (Rv (v:=I x) O O) (qV (Rv (v:= .bool true) O O) (Si O (QO O (Pb O (OL Qo O (OC O (OQ SD O (Q4 h3 (j:=0) (k:=x) ψ) ?_))))))));rintro _ w5 ⟨rfl,V5,bG⟩;have zn:(A.li 0).erase x=A.once.drop 1:=by show A.once.erase x=A.once.drop 1;rw[hw];simp
    rw[zn] at bG;have f7:=(h2.r ag).trans bG;have dj:=f7.k.On ii (λe=>n2 _ e O);refine qM O (OC O (qV (Sa (cs:=[_,_,_]) Pl O VJ O O) (OJ O (Py (news:=Rt false (some x)) Pl O O O O dj ξ) ?_)));rintro w6 ⟨gK,aJ⟩;replace gK:OE w6 b2 [.bool false,.bool true,I x] 261:=gK;refine Oq$ P6 func192 (.cell Su O Pl O (OE.cells (n:=3) gK (news:=[_,_,_]) O) O .nil) ?_
    have n5:∀b,Ss c V5 p b->b≠b2:=λb hb e=>by
     rcases f7.fp b hb with h5|h5
     ·exact n2 b h5 e
     ·have:=ii.lt;omega
    have dH:A.add=(A.PI 0 (A.once.drop 1),some x):=by unfold Arc.add;rw[if_pos hf,if_neg ho,hw];rfl
    rw[dH];exact⟨_,rfl,rfl,V5,f7.m.kp aJ n5,λb hb=>(f7.fp b hb).imp id (λe=>by omega),(ae.kp.trans f7.k).It aJ (λj e=> .inl ω)⟩
  ·refine Ou$ An$ R8 (λw'=>Ext w2 w') O$ OR 0 O O (ag)$ OR 1 O O (ag)$ Ow 2 O (Q8 O) ag$ Ow 3 O (Pk Se O) ag$ qT 4 O (λ_ h=>OB U3 O O (h.On ma) O) ag$ Ow 5 O (yeq O O) ag$ TK$ OR 6 O O (ag)$ qJ 7 O (ag)$ qJ 8 O (ag)$ qJ 9 O (ag) ?_;refine qJ 10 O (ag)$ qJ 11 O (ag)$ qJ 12 O (ag)$ qJ 13 O (ag)$ qJ 14 O (ag)$ qJ 15 O (ag)$ qJ 16 O (ag)$ qJ 17 O (ag)$ Ow 18 O (U0 O O) ag$ Ow 19 O (Rr O) ag$ qE$ Ox O$ Qh O$ Pb O ?_;refine OL Se O$ qV (OB U3 O O qi O)$ QS O$ Pu$ OK O$ P8.qb (e:=[(0,_),(2,_),(4,_),(66,_)]) ?_;refine Ox O$ Qh O$ Pb O$ OL Se O$ qV (OB U3 O O qi O) ?_;by_cases h4:A.all.length<A.size
   ·refine Qv O (Rf (OK O (OI O (qN O (qV (Sa (cs:=[_,_,_]) Pl O VJ O O) (OJ O (Py (news:=Rt false none) Pl O O O O cI ξ) ?_))))));rintro w5 ⟨dj,ai⟩;replace dj:OE w5 b2 [.bool false,.bool false,I 0] 261:=dj;refine Oq$ P6 func192 (.cell Su O Pl O (OE.cells (n:=3) dj (news:=[_,_,_]) O) O .nil) ?_;have dH:A.add=(A,none):=by unfold Arc.add;rw[if_neg hf,if_pos h4]
    rw[dH];exact⟨_,rfl,rfl,V,h3.kp ai n2,λb hb=> .inl hb,((ae.trans ag).It ai (λj e=>by omega)).kp⟩
   ·refine Qv O (Pu (OK O (Ox O (Qh O (Pb O (OL Se O (qV (OB U3 O O qi O) (qV (X5 O O ω) ?_))))))));by_cases h5:A.all.length=2*A.size
    ·refine QS O$ Rf$ OK O$ OI O ?_
     obtain⟨x,r,hw⟩:∃x r,A.OM=x::r:=by
      cases hx:A.OM with
      |nil=>rw[hx] at gR;simp at gR;omega
      |cons x r=>exact⟨x,r,rfl⟩
     obtain⟨lb,lo,lc,rJ,-⟩:=h2.head (j:=3) ψ hw;rw[e3] at rJ;cases rJ;have cJ:=(h3.q 3 ψ).sl.rd;rw[e3] at cJ;have rK:0<A.OM.length:=by rw[hw];simp
     have jB:((A.li 3).map I)[0]? =some (I x):=by show(A.OM.map I)[0]? =_;rw[hw];rfl
     have af:=Ext.OT w2.drew;refine OW [10] (λw'=>Ext w2.drew w') (by kernel_rfl) O (PF 0 O O (af) (P5 1 O (Q8 O) af (P5 2 O (Pk R3 O) af (PF 3 O O (af) (P5 4 O (Q8 O) af (P5 5 O (Pk R3 O) af (P5 6 O (Pk PV O) af (qL 7 O (λ_ h=>OB Rl O O (h.On (ag.On ma)) O) af (P5 8 O (PK Rl PH O O ω) af (qL 9 O (λ_ h=>Pc U3 O O (PM (cJ.ext h) (i:=0) jB)) af (Th [10] (SH 10 O SD O (Q4 (h3.ext af) (j:=3) (k:=x) ψ) ?_))))))))))));rintro _ w5 ⟨rfl,V5,bG⟩;refine⟨trivial,?_⟩;have zn:(A.li 3).erase x=A.OM.drop 1:=by show A.OM.erase x=A.OM.drop 1;rw[hw];simp
     rw[zn] at bG;have f7:=(h2.r (ag.trans af)).trans bG;have dj:=f7.k.On ii (λe=>n2 _ e O);refine qE$ P8.qb (e:=[(0,_),(2,_)]) ?_;refine Om ?_;exact(dr _ _ ⟨rfl,_,V5,hA.zg4,(ZV A (j:=3) ψ _).1,f7,dj,by unfold Arc.add;rw[if_neg hf,if_neg h4,if_pos h5];rfl,f7.k.size⟩).qb
    ·refine QS O$ Pu$ OK O$ T2 O$ Om ?_;exact(dr _ _ ⟨rfl,A,V,hA,rfl,h2.r ag,cI,by unfold Arc.add;rw[if_neg hf,if_neg h4,if_neg h5],ag.size⟩).qb
end
section
variable {w w' w2:World}{c p:Nat}{A A':Arc}{V V' V2:Nat->Value×Value}{k:Int}
def Sx.YV (h:Sx w c A V p){T:Int}(hB:OE w' c (acC A.size T V p) 190)(hk:Kp (λb=>b=c) w w'):VR w c V p w' {A with target:=T} V:=
 ⟨⟨hB,λj hj=>by
  have e:({A with target:=T}:Arc).li j=A.li j:=by match j,hj with|0,_|1,_|2,_|3,_=>rfl
  rw[e]
  exact(h.q j hj).kp hk λb hb e=>h.nc j hj (e▸hb),hk.map h.pins (λe=>h.cp e.symm),h.UK,h.nc,h.np,h.cp⟩,λb hb=> .inl hb,hk.OA λb e=> .inl e⟩
def Arc.Ok.YV (h:A.Ok){T:Int}(hT:0<=T/\T<=A.size):({A with target:=T}:Arc).Ok:=⟨h.pos,h.nd,h.held,h.first,h.total,hT⟩
def VR.mono (h:VR w c V p w' A' V'){b:Nat}(hb:∀j,Ss c V p j->j≠b)(hw:b<w.heap.size):∀j,Ss c V' p j->j≠b:=λj hj e=>by
 rcases h.fp j hj with h5|h5
 ·exact hb j h5 e
 ·omega
theorem z6a (h:Sx w c A V p)(hA:A.Ok)(cH:A.size<=1000):P9 prog 156 [ptr c 0,I k] w λv w'=>v= .tuple #[zcE (A.Rj k).2.1 (A.Rj k).2.2,I 0]/\∃V',VR w c V p w' (A.Rj k).1 V':=by
 have vJ:=hA.lens cH 1
 have iV:=hA.lens cH 2
 have mB:=hA.lens cH 3
 have EN:=hA.tg
 have ia:=hA.pos
 have gR:=A.QF
 have eM:=hA.total
 have ek:=hA.nd
 unfold Arc.all at ek
 rw[List.nodup_append] at ek
 obtain⟨nd1,nd2,nd3⟩:=ek
 rw[List.nodup_append] at nd2
 obtain⟨nd4,nd5,nd6⟩:=nd2
 have aN:∀{b:Nat},Ss c V p b->b<w.heap.size:=h.lt
 rw[show A.li 1=A.often from rfl] at vJ
 rw[show A.li 2=A.OP from rfl] at iV
 rw[show A.li 3=A.OM from rfl] at mB
 refine py (e:=[(0,_),(1,_)]) func156 O ntmps156 O O$ qN O$ Oy O O (Rq (cs:=[_,_,_]) Pl O) ?_
 rintro _ w1 ⟨b4,rfl,gF,ad,aH⟩
 replace aH:OE w1 b4 [.bool false,.bool false,I 0] 261:=aH
 have n4:∀b,Ss c V p b->b≠b4:=λb hb e=>by have:=aN hb;omega
 have l4:=aH.lt
 have h1:=h.ext ad
 have z1:=ad.size
 refine OK O$ Pz O$ qV (PU zaf O O)$ PX O$ An$ Qh O$ OQ zdY O (z1F h1 (k:=k)) ?_
 rintro _ w1 ⟨rfl,rfl⟩
 by_cases bu:k∈A.once\/k∈A.often
 ·rw[decide_eq_true bu];refine Oq (OI O (P7 O (Pb O (OL Qo O (OC O (OQ SD O (Q4 h1 (j:=0) (k:=k) ψ) ?_))))));rintro _ w2 ⟨rfl,V2,da⟩;refine qM O (OC O (Pb O (OL Re O (OC O (OQ SD O (Q4 da.m (j:=1) (k:=k) ψ) ?_)))));rintro _ w3 ⟨rfl,V3,cb⟩;refine qM O$ OC O$ Pb O$ OL Re O$ OC O ?_
  have vL:k∉((A.PI 0 ((A.li 0).erase k)).PI 1 (((A.PI 0 ((A.li 0).erase k)).li 1).erase k)).li 1:=by
   show k∉A.often.erase k;exact nd4.not_mem_erase
  have i8:(((A.PI 0 ((A.li 0).erase k)).PI 1 (((A.PI 0 ((A.li 0).erase k)).li 1).erase k)).li 1).length<=8191:=by
   show(A.often.erase k).length<=_;have:=(List.length_erase_le:(A.often.erase k).length<=A.often.length);omega
  refine OQ T8 O (QE cb.m (j:=1) (k:=k) ψ vL i8) ?_;rintro _ w4 ⟨rfl,V4,bA⟩;have hr:=(da.trans cb).trans bA;have cy:=hr.k.On aH (λe=>n4 _ e O);refine qM O (qV (Sa (cs:=[_,_,_]) Pl O VJ O O) (OJ O (Py (news:=Rt true none) Pl O O O O cy ξ) ?_));rintro w5 ⟨aI,ai⟩;replace aI:OE w5 b4 [.bool true,.bool false,I 0] 261:=aI;refine OK O$ P8.qb (e:=[(0,_),(1,_),(4,_),(5,_)]) ?_;refine P6 func156 (.cell Su O Pl O (OE.cells (n:=3) aI (news:=[_,_,_]) O) O (.tmp O .nil)) ?_;have eM:A.Rj k=({A with once:=A.once.erase k,often:=A.often.erase k++[k]},true,none):=by unfold Arc.Rj;rw[if_pos bu]
  rw[eM];exact⟨_,rfl,rfl,V4,hr.m.kp ai (hr.mono n4 l4),λb hb=>(hr.fp b hb).imp id (λe=>by omega),(ad.kp.trans hr.k).It ai (λj e=> .inl ω)⟩
 ·rw [decide_eq_false bu]; have gU : k ∉ A.once := λe => bu (.inl e); have aG : k ∉ A.often := λe => bu (.inr e); have lR : ¬ A.held k := bu; refine Oq (Ox O ?_); have f0 := Vm h1 (j := 0) ψ; have f1 := Vm h1 (j := 1) ψ; rw [show A.li 0 = A.once from rfl] at f0; rw [show A.li 1 = A.often from rfl] at f1
  obtain⟨v0,o0,e0,q0⟩:∃x o,Xi A.once= .tuple #[I x,.bool o]/\(o=true↔A.once≠[]):=by
   cases A.once with
   |nil=>exact⟨_,_,rfl,ξ⟩
   |cons x r=>exact⟨_,_,rfl,ξ⟩
  obtain⟨v1,o1,e1,q1⟩:∃x o,Xi A.often= .tuple #[I x,.bool o]/\(o=true↔A.often≠[]):=by
   cases A.often with
   |nil=>exact⟨_,_,rfl,ξ⟩
   |cons x r=>exact⟨_,_,rfl,ξ⟩
  rw[e0] at f0;rw[e1] at f1;refine Ot$ Qh O$ Pb O$ OL Qo O$ OQ Ys O (f0) ?_;rintro _ w1 ⟨rfl,rfl⟩;refine OC O$ qV (Rv (v:=I v0) O O)$ qV (Rv (v:= .bool o0) O O)$ Si O$ QL O$ OX O$ Pb O$ OL Re O$ OQ Ys O (f1) ?_;rintro _ w1 ⟨rfl,rfl⟩;refine OC O$ qV (Rv (v:=I v1) O O)$ qV (Rv (v:= .bool o1) O O)$ Qd O$ P8.qb (e:=[(0,_),(1,_),(4,_),(5,_),(7,_),(9,_)]) ?_;refine Pz O$ OQ zdu O (z1K h1 hA cH) ?_;rintro _ w2 ⟨rfl,ae⟩;have h2:=h1.ext ae;have bq:=ae.On aH;have aL:=ad.trans ae;have z2:=ae.size;have eN:=h2.cells;have aa:=Ext.OT w2;obtain⟨a2,c2,e2,-⟩:∃a c,(V 2).1= .slice a A.OP.length c/\_:=(h.q 2 ψ).sl.rd.shape;obtain⟨a3,c3,e3,-⟩:∃a c,(V 3).1= .slice a A.OM.length c/\_:=(h.q 3 ψ).sl.rd.shape;rw[e2,e3] at eN;have mC:=Ve h2 (j:=2) (k:=k) ψ;have qj:=Ve h2 (j:=3) (k:=k) ψ;rw[show A.li 2=A.OP from rfl] at mC;rw[show A.li 3=A.OM from rfl] at qj;have n4':∀b,Ss c V p b->b≠b4:=n4;have l42:b4<w2.heap.size:=by omega
  by_cases bV:A.once.length+A.often.length=A.size
  ·rw [decide_eq_true bV]
   cases Ij:o0 with
   | true =>
     subst Ij;refine OX O$ qV ((S1 O))$ QQ O$ OC O$ QI$ PC O$ PX O$ Qt$ P7 O$ Pb O$ OL QG O$ OC O$ OQ Xn O (mC) ?_;rintro _ w2 ⟨rfl,rfl⟩;by_cases hg:k∈A.OP
     ·rw[decide_eq_true hg];refine OK O$ OI O$ An ?_;have rK:0<A.OP.length:=List.length_pos_of_mem hg;obtain⟨q,hq⟩:∃q,A.OM.length / A.OP.length=q:=⟨_,rfl⟩;have gN:q<=2000:=by rw[<-hq];exact Nat.le_trans (Nat.div_le_self _ _) mB
      have mD:(A.OM.length:Int) / (A.OP.length:Int)=(q:Int):=by rw[<-hq];exact(Int.natCast_ediv _ _).symm
      refine OW [27] (λw'=>Ext w2 w') (by kernel_rfl) O$ PF 0 O O (aa)$ PF 1 O O (aa)$ P5 2 O (Q8 O) aa$ P5 3 O (Pk Se O) aa$ qL 4 O (λ_ h=>OB U3 O O (h.On eN) O) aa$ PF 5 O O (aa)$ P5 6 O (Q8 O) aa$ P5 7 O (Pk R5 O) aa$ qL 8 O (λ_ h=>OB U3 O O (h.On eN) O) aa$ PF 9 O O (aa)$ P5 10 O (Q8 O) aa$ P5 11 O (Pk R3 O) aa$ P5 12 O (Pk PV O) aa ?_;refine qL 13 O (λ_ h=>OB Rl O O (h.On eN) O) aa (P5 14 O (St Rl O) aa (PF 15 O O (aa) (P5 16 O (Q8 O) aa (P5 17 O (Pk QG O) aa (P5 18 O (Pk PV O) aa (qL 19 O (λ_ h=>OB Rl O O (h.On eN) O) aa (P5 20 O (St Rl O) aa (P5 21 O (Wq O O ⟨ω,ω,ω⟩) aa ?_))))))));rw[mD];refine P5 22 O (yma O O) aa (P5 23 O (Uw O O ω) aa (P5 24 O (ymi O O) aa (P5 25 O (Q8 O) aa (P5 26 O (Pk R5 O) aa (Th [27] (qO 27 (Pt (i:=27) O O (Qw PH O O O (aa.On eN) ξ) ?_)))))));rintro w5 ⟨aD,ai⟩;refine⟨trivial,?_⟩;obtain⟨T,hT⟩:∃T:Int,min (A.size:Int) (A.target+max 1 (q:Int))=T:=⟨_,rfl⟩;have nU:0<=T/\T<=A.size:=by omega
      rw[hT] at aD
      replace aD:OE w5 c (acC A.size T V p) 190:=by
       show OE w5 c [I (A.size:Int),(V 0).1,(V 0).2,(V 1).1,(V 1).2,(V 2).1,(V 2).2,(V 3).1,(V 3).2,I T,.map (some p)] _;rw[e2,e3];exact aD
      have bG:=(h2.ext aa).YV aD ai;have aS:=hA.YV nU;obtain⟨A5,bB⟩:∃A5:Arc,{A with target:=T}=A5:=⟨_,rfl⟩;have oH:A5.size=A.size:=by rw[<-bB]
      have nV:¬A5.held k:=by rw[<-bB];exact lR
      have rF:k∈A5.OP:=by rw[<-bB];exact hg
      rw[bB] at bG aS;refine qE$ P8.qb (e:=[(0,_),(1,_),(4,_),(5,_)]) ?_;refine P7 O (OQ z0o O (Tq bG.m aS ω false) ?_);rintro _ w6 ⟨rfl,V6,cG⟩;have aw:=Arc.T6 aS false;obtain⟨r6,cu⟩:∃r,A5.room false=r:=⟨_,rfl⟩;rw[cu] at cG aw⊢;obtain⟨A6,g6⟩:=r6;dsimp only at cG aw⊢;have gE:=aw.perm.length_eq;have jk:=A6.QF;have nW:=A5.QF;have nX:=aS.total;have az:=((h2.r aa).trans bG).trans cG;have bM:=az.k.On bq (λe=>n4' _ e O);refine OJ O (Py (news:=Rt false g6) Pl O O O O bM ξ) ?_;rintro w7 ⟨ba,ax⟩;replace ba:OE w7 b4 [.bool false,.bool g6.isSome,I (g6.getD 0)] 261:=ba;have n46:=az.mono n4' l42;have gy:=az.m.kp ax n46;refine qM O (OC O (Pb O (OL QG O (OC O (OQ SD O (Q4 gy (j:=2) (k:=k) ψ) ?_)))));rintro _ w8 ⟨rfl,V8,fM⟩
      have dI:k∉(A6.PI 2 ((A6.li 2).erase k)).li 1:=by
       show k∉A6.often;exact λe=>nV ((aw.gone k).1 (.inr e)).1
      refine Oq (R0 O (Pb O (OL Re O (OC O (OQ T8 O (QE fM.m (j:=1) (k:=k) ψ dI (by show A6.often.length<=_;omega)) ?_)))));rintro _ w9 ⟨rfl,V9,gS⟩;have aW:=fM.trans gS;have bH:=aW.k.On ba (λe=>n46 _ e O);have eO:=bH
      have cw:∀b,Ss c V9 p b->Ss c V p b\/w2.heap.size<=b:=λb hb=>by
       rcases aW.fp b hb with h5|h5
       ·exact az.fp b h5
       ·have:=az.k.size;have:=ax.size;exact .inr ω
      have aK:Kp (λj=>Ss c V p j\/j=b4) w2 w9:=((az.k.OA λj e=> .inl e).trans (ax.OA λj e=> .inr e)).It aW.k (λj e=>by
       rcases az.fp j e with h5|h5
       ·exact .inr (.inl h5)
       ·exact .inl h5)
      refine Oq (Om (qN O (qV (Pa (news:=Rt false g6) Su O Pl O (OE.cells (n:=3) eO O) O) (OJ O (Py (news:=Rt false g6) Pl O O O O eO ξ) ?_))));rintro we ⟨db,cC⟩;replace db:OE we b4 [.bool false,.bool g6.isSome,I (g6.getD 0)] 261:=db;refine OK O$ P6 func156 (.cell Su O Pl O (OE.cells (n:=3) db (news:=[_,_,_]) O) O (.tmp O .nil)) ?_
      have n49:∀b,Ss c V9 p b->b≠b4:=λb hb e=>by
       rcases cw b hb with h5|h5
       ·exact n4' b h5 e
       ·omega
      have eM:A.Rj k=({A6 with OP:=A6.OP.erase k,often:=A6.often++[k]},false,g6):=by
       unfold Arc.Rj;rw[if_neg bu,if_pos hg];dsimp only;rw[hq,hT,bB,cu]
      rw[eM]
      exact⟨_,rfl,rfl,V9,aW.m.kp cC n49,λb hb=>(cw b hb).imp id (λe=>by omega),(aL.kp.It aK (λj e=>by
       rcases e with e| e
       ·exact .inr e
       ·exact .inl ω)).It cC (λj e=> .inl ω)⟩
     ·have rL:=hg;rw[decide_eq_false hg];refine OK O$ Ox O$ P7 O$ Pb O$ OL R3 O$ OC O$ OQ Xn O (qj) ?_;rintro _ w2 ⟨rfl,rfl⟩;by_cases hg:k∈A.OM
      ·rw[decide_eq_true hg];refine OK O$ P8.qb (e:=[(0,_),(1,_),(4,_),(5,_),(111,_)]) ?_;refine OI O$ An ?_;have rK:0<A.OM.length:=List.length_pos_of_mem hg;obtain⟨q,hq⟩:∃q,A.OP.length / A.OM.length=q:=⟨_,rfl⟩;have gN:q<=2000:=by rw[<-hq];exact Nat.le_trans (Nat.div_le_self _ _) iV
       have mD:(A.OP.length:Int) / (A.OM.length:Int)=(q:Int):=by rw[<-hq];exact(Int.natCast_ediv _ _).symm
       refine OW [23] (λw'=>Ext w2 w') (by kernel_rfl) O$ PF 0 O O (aa)$ PF 1 O O (aa)$ P5 2 O (Q8 O) aa$ P5 3 O (Pk R5 O) aa$ qL 4 O (λ_ h=>OB U3 O O (h.On eN) O) aa$ PF 5 O O (aa)$ P5 6 O (Q8 O) aa$ P5 7 O (Pk QG O) aa$ P5 8 O (Pk PV O) aa$ qL 9 O (λ_ h=>OB Rl O O (h.On eN) O) aa$ P5 10 O (St Rl O) aa$ PF 11 O O (aa)$ P5 12 O (Q8 O) aa ?_;refine P5 13 O (Pk R3 O) aa (P5 14 O (Pk PV O) aa (qL 15 O (λ_ h=>OB Rl O O (h.On eN) O) aa (P5 16 O (St Rl O) aa (P5 17 O (Wq O O ⟨ω,ω,ω⟩) aa ?_))));rw[mD];refine P5 18 O (yma O O) aa (P5 19 O (X8 O O ω) aa (P5 20 O (yma O O) aa (P5 21 O (Q8 O) aa (P5 22 O (Pk R5 O) aa (Th [23] (qO 23 (Pt (i:=23) O O (Qw PH O O O (aa.On eN) ξ) ?_)))))));rintro w5 ⟨aD,ai⟩;refine⟨trivial,?_⟩;obtain⟨T,hT⟩:∃T:Int,max 0 (A.target-max 1 (q:Int))=T:=⟨_,rfl⟩;have nU:0<=T/\T<=A.size:=by omega
       rw[hT] at aD
       replace aD:OE w5 c (acC A.size T V p) 190:=by
        show OE w5 c [I (A.size:Int),(V 0).1,(V 0).2,(V 1).1,(V 1).2,(V 2).1,(V 2).2,(V 3).1,(V 3).2,I T,.map (some p)] _;rw[e2,e3];exact aD
       have bG:=(h2.ext aa).YV aD ai;have aS:=hA.YV nU;obtain⟨A5,bB⟩:∃A5:Arc,{A with target:=T}=A5:=⟨_,rfl⟩;have oH:A5.size=A.size:=by rw[<-bB]
       have nV:¬A5.held k:=by rw[<-bB];exact lR
       have rF:k∈A5.OM:=by rw[<-bB];exact hg
       rw[bB] at bG aS;refine qE$ P8.qb (e:=[(0,_),(1,_),(4,_),(5,_)]) ?_;refine P7 O (OQ z0o O (Tq bG.m aS ω true) ?_);rintro _ w6 ⟨rfl,V6,cG⟩;have aw:=Arc.T6 aS true;obtain⟨r6,cu⟩:∃r,A5.room true=r:=⟨_,rfl⟩;rw[cu] at cG aw⊢;obtain⟨A6,g6⟩:=r6;dsimp only at cG aw⊢;have gE:=aw.perm.length_eq;have jk:=A6.QF;have nW:=A5.QF;have nX:=aS.total;have az:=((h2.r aa).trans bG).trans cG;have bM:=az.k.On bq (λe=>n4' _ e O);refine OJ O (Py (news:=Rt false g6) Pl O O O O bM ξ) ?_;rintro w7 ⟨ba,ax⟩;replace ba:OE w7 b4 [.bool false,.bool g6.isSome,I (g6.getD 0)] 261:=ba;have n46:=az.mono n4' l42;have gy:=az.m.kp ax n46;refine qM O (OC O (Pb O (OL R3 O (OC O (OQ SD O (Q4 gy (j:=3) (k:=k) ψ) ?_)))));rintro _ w8 ⟨rfl,V8,fM⟩
       have dI:k∉(A6.PI 3 ((A6.li 3).erase k)).li 1:=by
        show k∉A6.often;exact λe=>nV ((aw.gone k).1 (.inr e)).1
       refine Oq (R0 O (Pb O (OL Re O (OC O (OQ T8 O (QE fM.m (j:=1) (k:=k) ψ dI (by show A6.often.length<=_;omega)) ?_)))));rintro _ w9 ⟨rfl,V9,gS⟩;have aW:=fM.trans gS;have bH:=aW.k.On ba (λe=>n46 _ e O);have eO:=bH
       have cw:∀b,Ss c V9 p b->Ss c V p b\/w2.heap.size<=b:=λb hb=>by
        rcases aW.fp b hb with h5|h5
        ·exact az.fp b h5
        ·have:=az.k.size;have:=ax.size;exact .inr ω
       have aK:Kp (λj=>Ss c V p j\/j=b4) w2 w9:=((az.k.OA λj e=> .inl e).trans (ax.OA λj e=> .inr e)).It aW.k (λj e=>by
        rcases az.fp j e with h5|h5
        ·exact .inr (.inl h5)
        ·exact .inl h5)
       refine Oq (Om (qN O (qV (Pa (news:=Rt false g6) Su O Pl O (OE.cells (n:=3) eO O) O) (OJ O (Py (news:=Rt false g6) Pl O O O O eO ξ) ?_))));rintro we ⟨db,cC⟩;replace db:OE we b4 [.bool false,.bool g6.isSome,I (g6.getD 0)] 261:=db;refine OK O$ P6 func156 (.cell Su O Pl O (OE.cells (n:=3) db (news:=[_,_,_]) O) O (.tmp O .nil)) ?_
       have n49:∀b,Ss c V9 p b->b≠b4:=λb hb e=>by
        rcases cw b hb with h5|h5
        ·exact n4' b h5 e
        ·omega
       have eM:A.Rj k=({A6 with OM:=A6.OM.erase k,often:=A6.often++[k]},false,g6):=by
        unfold Arc.Rj;rw[if_neg bu,if_neg rL,if_pos hg];dsimp only;rw[hq,hT,bB,cu]
       rw[eM]
       exact⟨_,rfl,rfl,V9,aW.m.kp cC n49,λb hb=>(cw b hb).imp id (λe=>by omega),(aL.kp.It aK (λj e=>by
        rcases e with e| e
        ·exact .inr e
        ·exact .inl ω)).It cC (λj e=> .inl ω)⟩
      ·rw[decide_eq_false hg];refine OK O$ P8.qb (e:=[(0,_),(1,_),(4,_),(5,_),(111,_)]) ?_;refine Ox O$ P7 O$ OQ zbg O (z0M h2 hA cH) ?_;rintro _ w6 ⟨rfl,V6,cG⟩;have dH:=Arc.z2u hA;obtain⟨r6,cu⟩:∃r,A.add=r:=⟨_,rfl⟩;rw[cu] at cG dH⊢;obtain⟨A6,g6⟩:=r6;dsimp only at cG dH⊢;obtain⟨fk,-,-⟩:=dH;have jk:=A6.QF;have az:=cG;have bM:=az.k.On bq (λe=>n4' _ e O);refine OJ O (Py (news:=Rt false g6) Pl O O O O bM ξ) ?_;rintro w7 ⟨ba,ax⟩;replace ba:OE w7 b4 [.bool false,.bool g6.isSome,I (g6.getD 0)] 261:=ba;have n46:=az.mono n4' l42;have gy:=az.m.kp ax n46
       have dI:k∉A6.li 0:=by
        show k∉A6.once;exact λe=>lR ((fk.gone k).1 (.inl e)).1
       have nH:=fk.Y5;refine Oq (R0 O (Pb O (OL Qo O (OC O (OQ T8 O (QE gy (j:=0) (k:=k) ψ dI (by show A6.once.length<=_;omega)) ?_)))));rintro _ w9 ⟨rfl,V9,gS⟩;have aW:=gS;have bH:=aW.k.On ba (λe=>n46 _ e O);have eO:=bH
       have cw:∀b,Ss c V9 p b->Ss c V p b\/w2.heap.size<=b:=λb hb=>by
        rcases aW.fp b hb with h5|h5
        ·exact az.fp b h5
        ·have:=az.k.size;have:=ax.size;exact .inr ω
       have aK:Kp (λj=>Ss c V p j\/j=b4) w2 w9:=((az.k.OA λj e=> .inl e).trans (ax.OA λj e=> .inr e)).It aW.k (λj e=>by
        rcases az.fp j e with h5|h5
        ·exact .inr (.inl h5)
        ·exact .inl h5)
       refine Oq (Om (qN O (qV (Pa (news:=Rt false g6) Su O Pl O (OE.cells (n:=3) eO O) O) (OJ O (Py (news:=Rt false g6) Pl O O O O eO ξ) ?_))));rintro we ⟨db,cC⟩;replace db:OE we b4 [.bool false,.bool g6.isSome,I (g6.getD 0)] 261:=db;refine OK O$ P6 func156 (.cell Su O Pl O (OE.cells (n:=3) db (news:=[_,_,_]) O) O (.tmp O .nil)) ?_
       have n49:∀b,Ss c V9 p b->b≠b4:=λb hb e=>by
        rcases cw b hb with h5|h5
        ·exact n4' b h5 e
        ·omega
       have eM:A.Rj k=({A6 with once:=A6.once++[k]},false,g6):=by
        unfold Arc.Rj;rw[if_neg bu,if_neg rL,if_neg hg];dsimp only;rw[cu]
       rw[eM]
       exact⟨_,rfl,rfl,V9,aW.m.kp cC n49,λb hb=>(cw b hb).imp id (λe=>by omega),(aL.kp.It aK (λj e=>by
        rcases e with e| e
        ·exact .inr e
        ·exact .inl ω)).It cC (λj e=> .inl ω)⟩
   | false =>
     subst Ij
     have zk:o1=true:=by
      have e:A.once=[]:=Classical.not_not.1 λe=>by have:=q0.2 e;cases this
      rw[e] at bV;exact q1.2 λe=>by rw[e] at bV;simp at bV;omega
     subst zk;refine OX O$ qV ((S1 O))$ QQ O$ OX O$ qV ((S1 O))$ QQ O$ PX O$ Qt$ P7 O$ Pb O$ OL QG O$ OC O$ OQ Xn O (mC) ?_;rintro _ w2 ⟨rfl,rfl⟩;by_cases hg:k∈A.OP
     ·rw[decide_eq_true hg];refine OK O$ OI O$ An ?_;have rK:0<A.OP.length:=List.length_pos_of_mem hg;obtain⟨q,hq⟩:∃q,A.OM.length / A.OP.length=q:=⟨_,rfl⟩;have gN:q<=2000:=by rw[<-hq];exact Nat.le_trans (Nat.div_le_self _ _) mB
      have mD:(A.OM.length:Int) / (A.OP.length:Int)=(q:Int):=by rw[<-hq];exact(Int.natCast_ediv _ _).symm
      refine OW [27] (λw'=>Ext w2 w') (by kernel_rfl) O$ PF 0 O O (aa)$ PF 1 O O (aa)$ P5 2 O (Q8 O) aa$ P5 3 O (Pk Se O) aa$ qL 4 O (λ_ h=>OB U3 O O (h.On eN) O) aa$ PF 5 O O (aa)$ P5 6 O (Q8 O) aa$ P5 7 O (Pk R5 O) aa$ qL 8 O (λ_ h=>OB U3 O O (h.On eN) O) aa$ PF 9 O O (aa)$ P5 10 O (Q8 O) aa$ P5 11 O (Pk R3 O) aa$ P5 12 O (Pk PV O) aa ?_;refine qL 13 O (λ_ h=>OB Rl O O (h.On eN) O) aa (P5 14 O (St Rl O) aa (PF 15 O O (aa) (P5 16 O (Q8 O) aa (P5 17 O (Pk QG O) aa (P5 18 O (Pk PV O) aa (qL 19 O (λ_ h=>OB Rl O O (h.On eN) O) aa (P5 20 O (St Rl O) aa (P5 21 O (Wq O O ⟨ω,ω,ω⟩) aa ?_))))))));rw[mD];refine P5 22 O (yma O O) aa (P5 23 O (Uw O O ω) aa (P5 24 O (ymi O O) aa (P5 25 O (Q8 O) aa (P5 26 O (Pk R5 O) aa (Th [27] (qO 27 (Pt (i:=27) O O (Qw PH O O O (aa.On eN) ξ) ?_)))))));rintro w5 ⟨aD,ai⟩;refine⟨trivial,?_⟩;obtain⟨T,hT⟩:∃T:Int,min (A.size:Int) (A.target+max 1 (q:Int))=T:=⟨_,rfl⟩;have nU:0<=T/\T<=A.size:=by omega
      rw[hT] at aD
      replace aD:OE w5 c (acC A.size T V p) 190:=by
       show OE w5 c [I (A.size:Int),(V 0).1,(V 0).2,(V 1).1,(V 1).2,(V 2).1,(V 2).2,(V 3).1,(V 3).2,I T,.map (some p)] _;rw[e2,e3];exact aD
      have bG:=(h2.ext aa).YV aD ai;have aS:=hA.YV nU;obtain⟨A5,bB⟩:∃A5:Arc,{A with target:=T}=A5:=⟨_,rfl⟩;have oH:A5.size=A.size:=by rw[<-bB]
      have nV:¬A5.held k:=by rw[<-bB];exact lR
      have rF:k∈A5.OP:=by rw[<-bB];exact hg
      rw[bB] at bG aS;refine qE$ P8.qb (e:=[(0,_),(1,_),(4,_),(5,_)]) ?_;refine P7 O (OQ z0o O (Tq bG.m aS ω false) ?_);rintro _ w6 ⟨rfl,V6,cG⟩;have aw:=Arc.T6 aS false;obtain⟨r6,cu⟩:∃r,A5.room false=r:=⟨_,rfl⟩;rw[cu] at cG aw⊢;obtain⟨A6,g6⟩:=r6;dsimp only at cG aw⊢;have gE:=aw.perm.length_eq;have jk:=A6.QF;have nW:=A5.QF;have nX:=aS.total;have az:=((h2.r aa).trans bG).trans cG;have bM:=az.k.On bq (λe=>n4' _ e O);refine OJ O (Py (news:=Rt false g6) Pl O O O O bM ξ) ?_;rintro w7 ⟨ba,ax⟩;replace ba:OE w7 b4 [.bool false,.bool g6.isSome,I (g6.getD 0)] 261:=ba;have n46:=az.mono n4' l42;have gy:=az.m.kp ax n46;refine qM O (OC O (Pb O (OL QG O (OC O (OQ SD O (Q4 gy (j:=2) (k:=k) ψ) ?_)))));rintro _ w8 ⟨rfl,V8,fM⟩
      have dI:k∉(A6.PI 2 ((A6.li 2).erase k)).li 1:=by
       show k∉A6.often;exact λe=>nV ((aw.gone k).1 (.inr e)).1
      refine Oq (R0 O (Pb O (OL Re O (OC O (OQ T8 O (QE fM.m (j:=1) (k:=k) ψ dI (by show A6.often.length<=_;omega)) ?_)))));rintro _ w9 ⟨rfl,V9,gS⟩;have aW:=fM.trans gS;have bH:=aW.k.On ba (λe=>n46 _ e O);have eO:=bH
      have cw:∀b,Ss c V9 p b->Ss c V p b\/w2.heap.size<=b:=λb hb=>by
       rcases aW.fp b hb with h5|h5
       ·exact az.fp b h5
       ·have:=az.k.size;have:=ax.size;exact .inr ω
      have aK:Kp (λj=>Ss c V p j\/j=b4) w2 w9:=((az.k.OA λj e=> .inl e).trans (ax.OA λj e=> .inr e)).It aW.k (λj e=>by
       rcases az.fp j e with h5|h5
       ·exact .inr (.inl h5)
       ·exact .inl h5)
      refine Oq (Om (qN O (qV (Pa (news:=Rt false g6) Su O Pl O (OE.cells (n:=3) eO O) O) (OJ O (Py (news:=Rt false g6) Pl O O O O eO ξ) ?_))));rintro we ⟨db,cC⟩;replace db:OE we b4 [.bool false,.bool g6.isSome,I (g6.getD 0)] 261:=db;refine OK O$ P6 func156 (.cell Su O Pl O (OE.cells (n:=3) db (news:=[_,_,_]) O) O (.tmp O .nil)) ?_
      have n49:∀b,Ss c V9 p b->b≠b4:=λb hb e=>by
       rcases cw b hb with h5|h5
       ·exact n4' b h5 e
       ·omega
      have eM:A.Rj k=({A6 with OP:=A6.OP.erase k,often:=A6.often++[k]},false,g6):=by
       unfold Arc.Rj;rw[if_neg bu,if_pos hg];dsimp only;rw[hq,hT,bB,cu]
      rw[eM]
      exact⟨_,rfl,rfl,V9,aW.m.kp cC n49,λb hb=>(cw b hb).imp id (λe=>by omega),(aL.kp.It aK (λj e=>by
       rcases e with e| e
       ·exact .inr e
       ·exact .inl ω)).It cC (λj e=> .inl ω)⟩
     ·have rL:=hg;rw[decide_eq_false hg];refine OK O$ Ox O$ P7 O$ Pb O$ OL R3 O$ OC O$ OQ Xn O (qj) ?_;rintro _ w2 ⟨rfl,rfl⟩;by_cases hg:k∈A.OM
      ·rw[decide_eq_true hg];refine OK O$ P8.qb (e:=[(0,_),(1,_),(4,_),(5,_),(111,_)]) ?_;refine OI O$ An ?_;have rK:0<A.OM.length:=List.length_pos_of_mem hg;obtain⟨q,hq⟩:∃q,A.OP.length / A.OM.length=q:=⟨_,rfl⟩;have gN:q<=2000:=by rw[<-hq];exact Nat.le_trans (Nat.div_le_self _ _) iV
       have mD:(A.OP.length:Int) / (A.OM.length:Int)=(q:Int):=by rw[<-hq];exact(Int.natCast_ediv _ _).symm
       refine OW [23] (λw'=>Ext w2 w') (by kernel_rfl) O$ PF 0 O O (aa)$ PF 1 O O (aa)$ P5 2 O (Q8 O) aa$ P5 3 O (Pk R5 O) aa$ qL 4 O (λ_ h=>OB U3 O O (h.On eN) O) aa$ PF 5 O O (aa)$ P5 6 O (Q8 O) aa$ P5 7 O (Pk QG O) aa$ P5 8 O (Pk PV O) aa$ qL 9 O (λ_ h=>OB Rl O O (h.On eN) O) aa$ P5 10 O (St Rl O) aa$ PF 11 O O (aa)$ P5 12 O (Q8 O) aa ?_;refine P5 13 O (Pk R3 O) aa (P5 14 O (Pk PV O) aa (qL 15 O (λ_ h=>OB Rl O O (h.On eN) O) aa (P5 16 O (St Rl O) aa (P5 17 O (Wq O O ⟨ω,ω,ω⟩) aa ?_))));rw[mD];refine P5 18 O (yma O O) aa (P5 19 O (X8 O O ω) aa (P5 20 O (yma O O) aa (P5 21 O (Q8 O) aa (P5 22 O (Pk R5 O) aa (Th [23] (qO 23 (Pt (i:=23) O O (Qw PH O O O (aa.On eN) ξ) ?_)))))));rintro w5 ⟨aD,ai⟩;refine⟨trivial,?_⟩;obtain⟨T,hT⟩:∃T:Int,max 0 (A.target-max 1 (q:Int))=T:=⟨_,rfl⟩;have nU:0<=T/\T<=A.size:=by omega
       rw[hT] at aD
       replace aD:OE w5 c (acC A.size T V p) 190:=by
        show OE w5 c [I (A.size:Int),(V 0).1,(V 0).2,(V 1).1,(V 1).2,(V 2).1,(V 2).2,(V 3).1,(V 3).2,I T,.map (some p)] _;rw[e2,e3];exact aD
       have bG:=(h2.ext aa).YV aD ai;have aS:=hA.YV nU;obtain⟨A5,bB⟩:∃A5:Arc,{A with target:=T}=A5:=⟨_,rfl⟩;have oH:A5.size=A.size:=by rw[<-bB]
       have nV:¬A5.held k:=by rw[<-bB];exact lR
       have rF:k∈A5.OM:=by rw[<-bB];exact hg
       rw[bB] at bG aS;refine qE$ P8.qb (e:=[(0,_),(1,_),(4,_),(5,_)]) ?_;refine P7 O (OQ z0o O (Tq bG.m aS ω true) ?_);rintro _ w6 ⟨rfl,V6,cG⟩;have aw:=Arc.T6 aS true;obtain⟨r6,cu⟩:∃r,A5.room true=r:=⟨_,rfl⟩;rw[cu] at cG aw⊢;obtain⟨A6,g6⟩:=r6;dsimp only at cG aw⊢;have gE:=aw.perm.length_eq;have jk:=A6.QF;have nW:=A5.QF;have nX:=aS.total;have az:=((h2.r aa).trans bG).trans cG;have bM:=az.k.On bq (λe=>n4' _ e O);refine OJ O (Py (news:=Rt false g6) Pl O O O O bM ξ) ?_;rintro w7 ⟨ba,ax⟩;replace ba:OE w7 b4 [.bool false,.bool g6.isSome,I (g6.getD 0)] 261:=ba;have n46:=az.mono n4' l42;have gy:=az.m.kp ax n46;refine qM O (OC O (Pb O (OL R3 O (OC O (OQ SD O (Q4 gy (j:=3) (k:=k) ψ) ?_)))));rintro _ w8 ⟨rfl,V8,fM⟩
       have dI:k∉(A6.PI 3 ((A6.li 3).erase k)).li 1:=by
        show k∉A6.often;exact λe=>nV ((aw.gone k).1 (.inr e)).1
       refine Oq (R0 O (Pb O (OL Re O (OC O (OQ T8 O (QE fM.m (j:=1) (k:=k) ψ dI (by show A6.often.length<=_;omega)) ?_)))));rintro _ w9 ⟨rfl,V9,gS⟩;have aW:=fM.trans gS;have bH:=aW.k.On ba (λe=>n46 _ e O);have eO:=bH
       have cw:∀b,Ss c V9 p b->Ss c V p b\/w2.heap.size<=b:=λb hb=>by
        rcases aW.fp b hb with h5|h5
        ·exact az.fp b h5
        ·have:=az.k.size;have:=ax.size;exact .inr ω
       have aK:Kp (λj=>Ss c V p j\/j=b4) w2 w9:=((az.k.OA λj e=> .inl e).trans (ax.OA λj e=> .inr e)).It aW.k (λj e=>by
        rcases az.fp j e with h5|h5
        ·exact .inr (.inl h5)
        ·exact .inl h5)
       refine Oq (Om (qN O (qV (Pa (news:=Rt false g6) Su O Pl O (OE.cells (n:=3) eO O) O) (OJ O (Py (news:=Rt false g6) Pl O O O O eO ξ) ?_))));rintro we ⟨db,cC⟩;replace db:OE we b4 [.bool false,.bool g6.isSome,I (g6.getD 0)] 261:=db;refine OK O$ P6 func156 (.cell Su O Pl O (OE.cells (n:=3) db (news:=[_,_,_]) O) O (.tmp O .nil)) ?_
       have n49:∀b,Ss c V9 p b->b≠b4:=λb hb e=>by
        rcases cw b hb with h5|h5
        ·exact n4' b h5 e
        ·omega
       have eM:A.Rj k=({A6 with OM:=A6.OM.erase k,often:=A6.often++[k]},false,g6):=by
        unfold Arc.Rj;rw[if_neg bu,if_neg rL,if_pos hg];dsimp only;rw[hq,hT,bB,cu]
       rw[eM]
       exact⟨_,rfl,rfl,V9,aW.m.kp cC n49,λb hb=>(cw b hb).imp id (λe=>by omega),(aL.kp.It aK (λj e=>by
        rcases e with e| e
        ·exact .inr e
        ·exact .inl ω)).It cC (λj e=> .inl ω)⟩
      ·rw[decide_eq_false hg];refine OK O$ P8.qb (e:=[(0,_),(1,_),(4,_),(5,_),(111,_)]) ?_;refine Ox O$ P7 O$ OQ zbg O (z0M h2 hA cH) ?_;rintro _ w6 ⟨rfl,V6,cG⟩;have dH:=Arc.z2u hA;obtain⟨r6,cu⟩:∃r,A.add=r:=⟨_,rfl⟩;rw[cu] at cG dH⊢;obtain⟨A6,g6⟩:=r6;dsimp only at cG dH⊢;obtain⟨fk,-,-⟩:=dH;have jk:=A6.QF;have az:=cG;have bM:=az.k.On bq (λe=>n4' _ e O);refine OJ O (Py (news:=Rt false g6) Pl O O O O bM ξ) ?_;rintro w7 ⟨ba,ax⟩;replace ba:OE w7 b4 [.bool false,.bool g6.isSome,I (g6.getD 0)] 261:=ba;have n46:=az.mono n4' l42;have gy:=az.m.kp ax n46
       have dI:k∉A6.li 0:=by
        show k∉A6.once;exact λe=>lR ((fk.gone k).1 (.inl e)).1
       have nH:=fk.Y5;refine Oq (R0 O (Pb O (OL Qo O (OC O (OQ T8 O (QE gy (j:=0) (k:=k) ψ dI (by show A6.once.length<=_;omega)) ?_)))));rintro _ w9 ⟨rfl,V9,gS⟩;have aW:=gS;have bH:=aW.k.On ba (λe=>n46 _ e O);have eO:=bH
       have cw:∀b,Ss c V9 p b->Ss c V p b\/w2.heap.size<=b:=λb hb=>by
        rcases aW.fp b hb with h5|h5
        ·exact az.fp b h5
        ·have:=az.k.size;have:=ax.size;exact .inr ω
       have aK:Kp (λj=>Ss c V p j\/j=b4) w2 w9:=((az.k.OA λj e=> .inl e).trans (ax.OA λj e=> .inr e)).It aW.k (λj e=>by
        rcases az.fp j e with h5|h5
        ·exact .inr (.inl h5)
        ·exact .inl h5)
       refine Oq (Om (qN O (qV (Pa (news:=Rt false g6) Su O Pl O (OE.cells (n:=3) eO O) O) (OJ O (Py (news:=Rt false g6) Pl O O O O eO ξ) ?_))));rintro we ⟨db,cC⟩;replace db:OE we b4 [.bool false,.bool g6.isSome,I (g6.getD 0)] 261:=db;refine OK O$ P6 func156 (.cell Su O Pl O (OE.cells (n:=3) db (news:=[_,_,_]) O) O (.tmp O .nil)) ?_
       have n49:∀b,Ss c V9 p b->b≠b4:=λb hb e=>by
        rcases cw b hb with h5|h5
        ·exact n4' b h5 e
        ·omega
       have eM:A.Rj k=({A6 with once:=A6.once++[k]},false,g6):=by
        unfold Arc.Rj;rw[if_neg bu,if_neg rL,if_neg hg];dsimp only;rw[cu]
       rw[eM]
       exact⟨_,rfl,rfl,V9,aW.m.kp cC n49,λb hb=>(cw b hb).imp id (λe=>by omega),(aL.kp.It aK (λj e=>by
        rcases e with e| e
        ·exact .inr e
        ·exact .inl ω)).It cC (λj e=> .inl ω)⟩
  ·rw [decide_eq_false bV]; refine OC O (QI (PC O (OC O (QI (PC O (PX O (Qt (P7 O (Pb O (OL QG O (OC O (OQ Xn O (mC) ?_)))))))))))); rintro _ w2 ⟨rfl, rfl⟩; by_cases hg : k ∈ A.OP
   ·rw[decide_eq_true hg];refine OK O$ OI O$ An ?_;have rK:0<A.OP.length:=List.length_pos_of_mem hg;obtain⟨q,hq⟩:∃q,A.OM.length / A.OP.length=q:=⟨_,rfl⟩;have gN:q<=2000:=by rw[<-hq];exact Nat.le_trans (Nat.div_le_self _ _) mB
    have mD:(A.OM.length:Int) / (A.OP.length:Int)=(q:Int):=by rw[<-hq];exact(Int.natCast_ediv _ _).symm
    refine OW [27] (λw'=>Ext w2 w') (by kernel_rfl) O$ PF 0 O O (aa)$ PF 1 O O (aa)$ P5 2 O (Q8 O) aa$ P5 3 O (Pk Se O) aa$ qL 4 O (λ_ h=>OB U3 O O (h.On eN) O) aa$ PF 5 O O (aa)$ P5 6 O (Q8 O) aa$ P5 7 O (Pk R5 O) aa$ qL 8 O (λ_ h=>OB U3 O O (h.On eN) O) aa$ PF 9 O O (aa)$ P5 10 O (Q8 O) aa$ P5 11 O (Pk R3 O) aa$ P5 12 O (Pk PV O) aa ?_;refine qL 13 O (λ_ h=>OB Rl O O (h.On eN) O) aa (P5 14 O (St Rl O) aa (PF 15 O O (aa) (P5 16 O (Q8 O) aa (P5 17 O (Pk QG O) aa (P5 18 O (Pk PV O) aa (qL 19 O (λ_ h=>OB Rl O O (h.On eN) O) aa (P5 20 O (St Rl O) aa (P5 21 O (Wq O O ⟨ω,ω,ω⟩) aa ?_))))))));rw[mD];refine P5 22 O (yma O O) aa (P5 23 O (Uw O O ω) aa (P5 24 O (ymi O O) aa (P5 25 O (Q8 O) aa (P5 26 O (Pk R5 O) aa (Th [27] (qO 27 (Pt (i:=27) O O (Qw PH O O O (aa.On eN) ξ) ?_)))))));rintro w5 ⟨aD,ai⟩;refine⟨trivial,?_⟩;obtain⟨T,hT⟩:∃T:Int,min (A.size:Int) (A.target+max 1 (q:Int))=T:=⟨_,rfl⟩;have nU:0<=T/\T<=A.size:=by omega
    rw[hT] at aD
    replace aD:OE w5 c (acC A.size T V p) 190:=by
     show OE w5 c [I (A.size:Int),(V 0).1,(V 0).2,(V 1).1,(V 1).2,(V 2).1,(V 2).2,(V 3).1,(V 3).2,I T,.map (some p)] _;rw[e2,e3];exact aD
    have bG:=(h2.ext aa).YV aD ai;have aS:=hA.YV nU;obtain⟨A5,bB⟩:∃A5:Arc,{A with target:=T}=A5:=⟨_,rfl⟩;have oH:A5.size=A.size:=by rw[<-bB]
    have nV:¬A5.held k:=by rw[<-bB];exact lR
    have rF:k∈A5.OP:=by rw[<-bB];exact hg
    rw[bB] at bG aS;refine qE$ P8.qb (e:=[(0,_),(1,_),(4,_),(5,_)]) ?_;refine P7 O (OQ z0o O (Tq bG.m aS ω false) ?_);rintro _ w6 ⟨rfl,V6,cG⟩;have aw:=Arc.T6 aS false;obtain⟨r6,cu⟩:∃r,A5.room false=r:=⟨_,rfl⟩;rw[cu] at cG aw⊢;obtain⟨A6,g6⟩:=r6;dsimp only at cG aw⊢;have gE:=aw.perm.length_eq;have jk:=A6.QF;have nW:=A5.QF;have nX:=aS.total;have az:=((h2.r aa).trans bG).trans cG;have bM:=az.k.On bq (λe=>n4' _ e O);refine OJ O (Py (news:=Rt false g6) Pl O O O O bM ξ) ?_;rintro w7 ⟨ba,ax⟩;replace ba:OE w7 b4 [.bool false,.bool g6.isSome,I (g6.getD 0)] 261:=ba;have n46:=az.mono n4' l42;have gy:=az.m.kp ax n46;refine qM O (OC O (Pb O (OL QG O (OC O (OQ SD O (Q4 gy (j:=2) (k:=k) ψ) ?_)))));rintro _ w8 ⟨rfl,V8,fM⟩
    have dI:k∉(A6.PI 2 ((A6.li 2).erase k)).li 1:=by
     show k∉A6.often;exact λe=>nV ((aw.gone k).1 (.inr e)).1
    refine Oq (R0 O (Pb O (OL Re O (OC O (OQ T8 O (QE fM.m (j:=1) (k:=k) ψ dI (by show A6.often.length<=_;omega)) ?_)))));rintro _ w9 ⟨rfl,V9,gS⟩;have aW:=fM.trans gS;have bH:=aW.k.On ba (λe=>n46 _ e O);have eO:=bH
    have cw:∀b,Ss c V9 p b->Ss c V p b\/w2.heap.size<=b:=λb hb=>by
     rcases aW.fp b hb with h5|h5
     ·exact az.fp b h5
     ·have:=az.k.size;have:=ax.size;exact .inr ω
    have aK:Kp (λj=>Ss c V p j\/j=b4) w2 w9:=((az.k.OA λj e=> .inl e).trans (ax.OA λj e=> .inr e)).It aW.k (λj e=>by
     rcases az.fp j e with h5|h5
     ·exact .inr (.inl h5)
     ·exact .inl h5)
    refine Oq (Om (qN O (qV (Pa (news:=Rt false g6) Su O Pl O (OE.cells (n:=3) eO O) O) (OJ O (Py (news:=Rt false g6) Pl O O O O eO ξ) ?_))));rintro we ⟨db,cC⟩;replace db:OE we b4 [.bool false,.bool g6.isSome,I (g6.getD 0)] 261:=db;refine OK O$ P6 func156 (.cell Su O Pl O (OE.cells (n:=3) db (news:=[_,_,_]) O) O (.tmp O .nil)) ?_
    have n49:∀b,Ss c V9 p b->b≠b4:=λb hb e=>by
     rcases cw b hb with h5|h5
     ·exact n4' b h5 e
     ·omega
    have eM:A.Rj k=({A6 with OP:=A6.OP.erase k,often:=A6.often++[k]},false,g6):=by
     unfold Arc.Rj;rw[if_neg bu,if_pos hg];dsimp only;rw[hq,hT,bB,cu]
    rw[eM]
    exact⟨_,rfl,rfl,V9,aW.m.kp cC n49,λb hb=>(cw b hb).imp id (λe=>by omega),(aL.kp.It aK (λj e=>by
     rcases e with e| e
     ·exact .inr e
     ·exact .inl ω)).It cC (λj e=> .inl ω)⟩
   ·have rL:=hg;rw[decide_eq_false hg];refine OK O$ Ox O$ P7 O$ Pb O$ OL R3 O$ OC O$ OQ Xn O (qj) ?_;rintro _ w2 ⟨rfl,rfl⟩;by_cases hg:k∈A.OM
    ·rw[decide_eq_true hg];refine OK O$ P8.qb (e:=[(0,_),(1,_),(4,_),(5,_),(111,_)]) ?_;refine OI O$ An ?_;have rK:0<A.OM.length:=List.length_pos_of_mem hg;obtain⟨q,hq⟩:∃q,A.OP.length / A.OM.length=q:=⟨_,rfl⟩;have gN:q<=2000:=by rw[<-hq];exact Nat.le_trans (Nat.div_le_self _ _) iV
     have mD:(A.OP.length:Int) / (A.OM.length:Int)=(q:Int):=by rw[<-hq];exact(Int.natCast_ediv _ _).symm
     refine OW [23] (λw'=>Ext w2 w') (by kernel_rfl) O$ PF 0 O O (aa)$ PF 1 O O (aa)$ P5 2 O (Q8 O) aa$ P5 3 O (Pk R5 O) aa$ qL 4 O (λ_ h=>OB U3 O O (h.On eN) O) aa$ PF 5 O O (aa)$ P5 6 O (Q8 O) aa$ P5 7 O (Pk QG O) aa$ P5 8 O (Pk PV O) aa$ qL 9 O (λ_ h=>OB Rl O O (h.On eN) O) aa$ P5 10 O (St Rl O) aa$ PF 11 O O (aa)$ P5 12 O (Q8 O) aa ?_;refine P5 13 O (Pk R3 O) aa (P5 14 O (Pk PV O) aa (qL 15 O (λ_ h=>OB Rl O O (h.On eN) O) aa (P5 16 O (St Rl O) aa (P5 17 O (Wq O O ⟨ω,ω,ω⟩) aa ?_))));rw[mD];refine P5 18 O (yma O O) aa (P5 19 O (X8 O O ω) aa (P5 20 O (yma O O) aa (P5 21 O (Q8 O) aa (P5 22 O (Pk R5 O) aa (Th [23] (qO 23 (Pt (i:=23) O O (Qw PH O O O (aa.On eN) ξ) ?_)))))));rintro w5 ⟨aD,ai⟩;refine⟨trivial,?_⟩;obtain⟨T,hT⟩:∃T:Int,max 0 (A.target-max 1 (q:Int))=T:=⟨_,rfl⟩;have nU:0<=T/\T<=A.size:=by omega
     rw[hT] at aD
     replace aD:OE w5 c (acC A.size T V p) 190:=by
      show OE w5 c [I (A.size:Int),(V 0).1,(V 0).2,(V 1).1,(V 1).2,(V 2).1,(V 2).2,(V 3).1,(V 3).2,I T,.map (some p)] _;rw[e2,e3];exact aD
     have bG:=(h2.ext aa).YV aD ai;have aS:=hA.YV nU;obtain⟨A5,bB⟩:∃A5:Arc,{A with target:=T}=A5:=⟨_,rfl⟩;have oH:A5.size=A.size:=by rw[<-bB]
     have nV:¬A5.held k:=by rw[<-bB];exact lR
     have rF:k∈A5.OM:=by rw[<-bB];exact hg
     rw[bB] at bG aS;refine qE$ P8.qb (e:=[(0,_),(1,_),(4,_),(5,_)]) ?_;refine P7 O (OQ z0o O (Tq bG.m aS ω true) ?_);rintro _ w6 ⟨rfl,V6,cG⟩;have aw:=Arc.T6 aS true;obtain⟨r6,cu⟩:∃r,A5.room true=r:=⟨_,rfl⟩;rw[cu] at cG aw⊢;obtain⟨A6,g6⟩:=r6;dsimp only at cG aw⊢;have gE:=aw.perm.length_eq;have jk:=A6.QF;have nW:=A5.QF;have nX:=aS.total;have az:=((h2.r aa).trans bG).trans cG;have bM:=az.k.On bq (λe=>n4' _ e O);refine OJ O (Py (news:=Rt false g6) Pl O O O O bM ξ) ?_;rintro w7 ⟨ba,ax⟩;replace ba:OE w7 b4 [.bool false,.bool g6.isSome,I (g6.getD 0)] 261:=ba;have n46:=az.mono n4' l42;have gy:=az.m.kp ax n46;refine qM O (OC O (Pb O (OL R3 O (OC O (OQ SD O (Q4 gy (j:=3) (k:=k) ψ) ?_)))));rintro _ w8 ⟨rfl,V8,fM⟩
     have dI:k∉(A6.PI 3 ((A6.li 3).erase k)).li 1:=by
      show k∉A6.often;exact λe=>nV ((aw.gone k).1 (.inr e)).1
     refine Oq (R0 O (Pb O (OL Re O (OC O (OQ T8 O (QE fM.m (j:=1) (k:=k) ψ dI (by show A6.often.length<=_;omega)) ?_)))));rintro _ w9 ⟨rfl,V9,gS⟩;have aW:=fM.trans gS;have bH:=aW.k.On ba (λe=>n46 _ e O);have eO:=bH
     have cw:∀b,Ss c V9 p b->Ss c V p b\/w2.heap.size<=b:=λb hb=>by
      rcases aW.fp b hb with h5|h5
      ·exact az.fp b h5
      ·have:=az.k.size;have:=ax.size;exact .inr ω
     have aK:Kp (λj=>Ss c V p j\/j=b4) w2 w9:=((az.k.OA λj e=> .inl e).trans (ax.OA λj e=> .inr e)).It aW.k (λj e=>by
      rcases az.fp j e with h5|h5
      ·exact .inr (.inl h5)
      ·exact .inl h5)
     refine Oq (Om (qN O (qV (Pa (news:=Rt false g6) Su O Pl O (OE.cells (n:=3) eO O) O) (OJ O (Py (news:=Rt false g6) Pl O O O O eO ξ) ?_))));rintro we ⟨db,cC⟩;replace db:OE we b4 [.bool false,.bool g6.isSome,I (g6.getD 0)] 261:=db;refine OK O$ P6 func156 (.cell Su O Pl O (OE.cells (n:=3) db (news:=[_,_,_]) O) O (.tmp O .nil)) ?_
     have n49:∀b,Ss c V9 p b->b≠b4:=λb hb e=>by
      rcases cw b hb with h5|h5
      ·exact n4' b h5 e
      ·omega
     have eM:A.Rj k=({A6 with OM:=A6.OM.erase k,often:=A6.often++[k]},false,g6):=by
      unfold Arc.Rj;rw[if_neg bu,if_neg rL,if_pos hg];dsimp only;rw[hq,hT,bB,cu]
     rw[eM]
     exact⟨_,rfl,rfl,V9,aW.m.kp cC n49,λb hb=>(cw b hb).imp id (λe=>by omega),(aL.kp.It aK (λj e=>by
      rcases e with e| e
      ·exact .inr e
      ·exact .inl ω)).It cC (λj e=> .inl ω)⟩
    ·rw[decide_eq_false hg];refine OK O$ P8.qb (e:=[(0,_),(1,_),(4,_),(5,_),(111,_)]) ?_;refine Ox O$ P7 O$ OQ zbg O (z0M h2 hA cH) ?_;rintro _ w6 ⟨rfl,V6,cG⟩;have dH:=Arc.z2u hA;obtain⟨r6,cu⟩:∃r,A.add=r:=⟨_,rfl⟩;rw[cu] at cG dH⊢;obtain⟨A6,g6⟩:=r6;dsimp only at cG dH⊢;obtain⟨fk,-,-⟩:=dH;have jk:=A6.QF;have az:=cG;have bM:=az.k.On bq (λe=>n4' _ e O);refine OJ O (Py (news:=Rt false g6) Pl O O O O bM ξ) ?_;rintro w7 ⟨ba,ax⟩;replace ba:OE w7 b4 [.bool false,.bool g6.isSome,I (g6.getD 0)] 261:=ba;have n46:=az.mono n4' l42;have gy:=az.m.kp ax n46
     have dI:k∉A6.li 0:=by
      show k∉A6.once;exact λe=>lR ((fk.gone k).1 (.inl e)).1
     have nH:=fk.Y5;refine Oq (R0 O (Pb O (OL Qo O (OC O (OQ T8 O (QE gy (j:=0) (k:=k) ψ dI (by show A6.once.length<=_;omega)) ?_)))));rintro _ w9 ⟨rfl,V9,gS⟩;have aW:=gS;have bH:=aW.k.On ba (λe=>n46 _ e O);have eO:=bH
     have cw:∀b,Ss c V9 p b->Ss c V p b\/w2.heap.size<=b:=λb hb=>by
      rcases aW.fp b hb with h5|h5
      ·exact az.fp b h5
      ·have:=az.k.size;have:=ax.size;exact .inr ω
     have aK:Kp (λj=>Ss c V p j\/j=b4) w2 w9:=((az.k.OA λj e=> .inl e).trans (ax.OA λj e=> .inr e)).It aW.k (λj e=>by
      rcases az.fp j e with h5|h5
      ·exact .inr (.inl h5)
      ·exact .inl h5)
     refine Oq (Om (qN O (qV (Pa (news:=Rt false g6) Su O Pl O (OE.cells (n:=3) eO O) O) (OJ O (Py (news:=Rt false g6) Pl O O O O eO ξ) ?_))));rintro we ⟨db,cC⟩;replace db:OE we b4 [.bool false,.bool g6.isSome,I (g6.getD 0)] 261:=db;refine OK O$ P6 func156 (.cell Su O Pl O (OE.cells (n:=3) db (news:=[_,_,_]) O) O (.tmp O .nil)) ?_
     have n49:∀b,Ss c V9 p b->b≠b4:=λb hb e=>by
      rcases cw b hb with h5|h5
      ·exact n4' b h5 e
      ·omega
     have eM:A.Rj k=({A6 with once:=A6.once++[k]},false,g6):=by
      unfold Arc.Rj;rw[if_neg bu,if_neg rL,if_neg hg];dsimp only;rw[cu]
     rw[eM]
     exact⟨_,rfl,rfl,V9,aW.m.kp cC n49,λb hb=>(cw b hb).imp id (λe=>by omega),(aL.kp.It aK (λj e=>by
      rcases e with e| e
      ·exact .inr e
      ·exact .inl ω)).It cC (λj e=> .inl ω)⟩
end
def Arc.z7A (A:Arc)(k:Int):Nat->Arc
 |0=>A
 |i+1=>(A.z7A k i).PI i (((A.z7A k i).li i).erase k)
def Arc.drop (A:Arc)(k:Int):Arc:=A.z7A k 4
theorem Arc.drop_eq (A:Arc)(k:Int):A.drop k={A with once:=A.once.erase k,often:=A.often.erase k,OP:=A.OP.erase k,OM:=A.OM.erase k}:=rfl
theorem Arc.Ok.drop {A:Arc}(h:A.Ok)(k:Int):(A.drop k).Ok:=by
 rw[Arc.drop_eq]
 have hs:(A.once.erase k++(A.often.erase k++(A.OP.erase k++A.OM.erase k))).Sublist A.all:=List.erase_sublist.append (List.erase_sublist.append (List.erase_sublist.append List.erase_sublist))
 have a1:(A.once.erase k).length<=A.once.length:=List.length_erase_le
 have a2:(A.often.erase k).length<=A.often.length:=List.length_erase_le
 have a3:(A.OP.erase k).length<=A.OP.length:=List.length_erase_le
 have h1:=h.held
 have h2:=h.first
 exact⟨h.pos,h.nd.sublist hs,by dsimp only;omega,by dsimp only;omega,Nat.le_trans hs.length_le h.total,h.tg⟩
def Arc.z88 {A:Arc}(h:A.Ok)(k x:Int):(A.drop k).held x↔A.held x/\x≠k:=by
 have ek:=h.nd
 unfold Arc.all at ek
 rw[List.nodup_append] at ek
 obtain⟨nd1,nd2,-⟩:=ek
 rw[List.nodup_append] at nd2
 obtain⟨nd4,-,-⟩:=nd2
 rw[Arc.drop_eq]
 unfold Arc.held
 dsimp only
 rw[nd1.mem_erase_iff,nd4.mem_erase_iff]
 constructor
 ·rintro(⟨a,b⟩|⟨a,b⟩)
  ·exact⟨.inl b,a⟩
  ·exact⟨.inr b,a⟩
 ·rintro⟨b|b,a⟩
  ·exact .inl ⟨a,b⟩
  ·exact .inr ⟨a,b⟩
section
variable {w w' w2:World}{c p:Nat}{A:Arc}{V V':Nat->Value×Value}{k:Int}
theorem z8o (h:Sx w c A V p):P9 prog 145 [ptr c 0,I k] w λv w'=>(∃z,v=I z)/\∃V',VR w c V p w' (A.drop k) V':=by
 have hB:=h.cells
 have mC:=Ve h (j:=2) (k:=k) ψ
 have qj:=Ve h (j:=3) (k:=k) ψ
 rw[show A.li 2=A.OP from rfl] at mC
 rw[show A.li 3=A.OM from rfl] at qj
 refine py (e:=[(0,_),(1,_)]) func145 O ntmps145 O O$ QB O$ An$ Pw (λe' w'=>e'=[(0,ptr c 0),(1,I k)]/\w'=w) ?dr$ λdr=>?iG
 case dr=>
  rintro e' w1 ⟨rfl,rfl⟩;have hg:=Ext.OT w1;refine An$ An$ R8 (λw'=>Ext w1 w') O$ OR 0 O O (hg)$ Ow 1 O (Q8 O) hg$ Ow 2 O (Pk Qo O) hg$ OR 3 O O (hg)$ Ow 4 O (Q8 O) hg$ Ow 5 O (Pk Re O) hg$ OR 6 O O (hg)$ Ow 7 O (Q8 O) hg$ Ow 8 O (Pk QG O) hg$ OR 9 O O (hg)$ Ow 10 O (Q8 O) hg ?_;refine Ow 11 O (Pk R3 O) hg (OR 14 O O (hg) (qO 12 (ZC (i:=12) O O O (XM (cs:=[_,_,_,_]) (zs:=[Value.pointer none,Value.pointer none,Value.pointer none,Value.pointer none]) ze1 ze0 O (by kernel_rfl) O O O ψ) ?_)));rintro _ w2 ⟨b51,rfl,⟨EO,ae,LK⟩,zo⟩;refine⟨hg.trans ae,?_⟩;have aF:=hg.trans ae;refine Ow 13 O (St ze1 O) (hg.trans ae)$ qE$ Ou ?_;have aN:∀{b:Nat},Ss c V p b->b<w1.heap.size:=h.lt;have lb:=zo.lt (g:=b51) O;have z12:=hg.size;have EP:=zo.rd;refine Rw (α:=Nat×(Nat->Value×Value)) ((0,V)) (λx=>[(1,I k),(51,.slice (some ⟨b51,0,none⟩) 4 4),(52,I 4),(53,I (x.1:Int))]) (λx w'=>x.1<=4/\VR w2 c V p w' (A.z7A k x.1) x.2/\Rd w' (.slice (some ⟨b51,0,none⟩) 4 4) 1 4 [ptr c 1,ptr c 3,ptr c 5,ptr c 7]) (λx=>4-x.1) ?hI ?hround
  case hI=>exact⟨Nat.zero_le _,(h.ext aF).r (Ext.refl w2),EP⟩
  case hround=>
   rintro⟨i,Vi⟩ w3 ⟨hi,lV,EQ⟩ ih;dsimp only at hi lV EQ ih⊢
   try dsimp only
   refine qN O$ Qv O$ Oq$ An$ OH O (λh0=>?_)$ λh0=>?_
   ·have oJ:i<4:=by omega
    have hx:([ptr c 1,ptr c 3,ptr c 5,ptr c 7]:List Value)[i]? =some (ptr c (1+2*i)):=by
     match i,oJ with
     |0,_|1,_|2,_|3,_=>rfl
    refine Ot (Qt (qN O (qV (PK ze1 ze0 O O ω) (qV (Pc zjE O O (PM EQ hx)) (OK O (Oz O (OX O (OQ SD O (Q4 lV.m (j:=i) (k:=k) oJ) ?_))))))));rintro _ w4 ⟨rfl,V4,bA⟩;refine Oq (Om (Oz O (PL O (OC O (Oq ((ih (i+1,V4) _ ⟨oJ,lV.trans bA,EQ.kp bA.k λg e hf=>?_⟩ (by dsimp only;omega)).qb))))));have e':b51=g:=Rh e;rcases lV.fp _ hf with e| e
    ·have:=aN e;have hb:b51=w1.drew.heap.size:=EO;omega
    ·omega
   ·have oJ:i=4:=by omega
    subst oJ;refine OD O$ QB O$ Oo func145 O ?_;exact⟨_,rfl,⟨0,rfl⟩,Vi,(h.r aF).trans lV⟩
 case iG =>
  refine Ou$ P7 O$ qV (PU zaf O O)$ OK O$ Ox O$ Qh O$ OQ zdY O (z1F h (k:=k)) ?_;rintro _ w ⟨rfl,rfl⟩;by_cases gU:k∈A.once\/k∈A.often
  ·rw[decide_eq_true gU];refine qV ((S1 O))$ OC O$ QI$ QI$ QI$ PC O$ OC O$ QI$ QI$ QI$ PC O$ OK O$ P8.qb (e:=[(0,_),(1,_),(4,_),(10,_)]) ?_;refine Ox O$ P7 O$ Pb O$ OL ZM O$ qV (OB WX O O hB O)$ OC O$ qV (ylk (k:=k) (K:=KI) WX (RT U3) PH O O h.pins)$ Qr O$ Pu$ OK O$ T2 O$ Om ?_;exact(dr _ _ ⟨rfl,rfl⟩).qb
  ·rw [decide_eq_false gU]; refine qV ((S1 O)) (OX O (Pb O (OL QG O (OC O (OQ Xn O (mC) ?_))))); rintro _ w ⟨rfl, rfl⟩; by_cases am : k ∈ A.OP
   ·rw[decide_eq_true am];refine qV ((S1 O))$ QQ O$ OC O$ QI$ QI$ QI$ PC O$ OK O$ P8.qb (e:=[(0,_),(1,_),(4,_),(10,_)]) ?_;refine Ox O$ P7 O$ Pb O$ OL ZM O$ qV (OB WX O O hB O)$ OC O$ qV (ylk (k:=k) (K:=KI) WX (RT U3) PH O O h.pins)$ Qr O$ Pu$ OK O$ T2 O$ Om ?_;exact(dr _ _ ⟨rfl,rfl⟩).qb
   ·rw[decide_eq_false am];refine qV ((S1 O))$ QQ O$ OX O$ Pb O$ OL R3 O$ OC O$ OQ Xn O (qj) ?_;rintro _ w ⟨rfl,rfl⟩;by_cases ar:k∈A.OM
    ·rw[decide_eq_true ar];refine qV ((S1 O))$ QQ O$ OK O$ P8.qb (e:=[(0,_),(1,_),(4,_),(10,_)]) ?_;refine Ox O$ P7 O$ Pb O$ OL ZM O$ qV (OB WX O O hB O)$ OC O$ qV (ylk (k:=k) (K:=KI) WX (RT U3) PH O O h.pins)$ Qr O$ Pu$ OK O$ T2 O$ Om ?_;exact(dr _ _ ⟨rfl,rfl⟩).qb
    ·rw[decide_eq_false ar];refine qV ((S1 O))$ QQ O$ OK O$ P8.qb (e:=[(0,_),(1,_),(4,_),(10,_)]) ?_;refine OI O$ QB O$ Oo func145 O ?_
     have hd:A.drop k=A:=by
      rw[Arc.drop_eq,List.erase_of_not_mem (λe=>gU (.inl e)),List.erase_of_not_mem (λe=>gU (.inr e)),List.erase_of_not_mem am,List.erase_of_not_mem ar]
     rw[hd];exact⟨_,rfl,⟨6,rfl⟩,V,h.r (Ext.refl w)⟩
end
structure Pg where
 k:Int
 b:Nat
 t:Ov
 d:Bool
def TJ (l:List Pg):List (Int×Value):=l.map λg=>(g.k,ptr g.b 0)
def pgC (t:Ov)(d:Bool):List Value:=[S t,.bool d,I 0]
structure QY where
 s:Nat
 d:Nat
 m:Nat
 gi:Nat
 c:Nat
 pm:Nat
 p:Nat
 fr:Nat
 V:Nat->Value×Value
 D:Dev
 A:Arc
 l:List Pg
 L:List Bool
 Fd:Nat->Prop
 h:Int
 mi:Int
 wr:Int
def QY.cp (P:QY):Nat->Nat->Prop
 |0,b=>b=P.s
 |1,b=>P.Fd b
 |2,b=>b=P.m\/b=P.gi
 |3,b=>Ss P.c P.V P.p b
 |4,b=>b=P.pm
 |5,b=>∃g∈P.l,g.b=b
 |_,_=>False
def QY.fp (P:QY)(b:Nat):Prop:=∃i,P.cp i b
def plC (P:QY):List Value:=[ptr P.d 0,ptr P.m 0,ptr P.c 0,.map (some P.pm),I (P.fr:Int),I P.h,I P.mi,I P.wr,I 0,I 0,I 0,.bool false]
def Dis (f:Nat->Nat->Prop):Prop:=∀i j,i≠j->∀b,f i b->¬f j b
structure TY (w:World)(P:QY):Prop where
 On:OE w P.s (plC P) 119
 dev:VS w P.d P.D P.Fd
 ext:Xm w P.m P.gi P.L
 arc:Sx w P.c P.A P.V P.p
 mp:Sr KI w P.pm (TJ P.l)
 pg:∀g∈P.l,OE w g.b (pgC g.t g.d) 220
 pnd:(P.l.map (·.b)).Nodup
 UK:Dis P.cp
section
variable {w w' w0:World}{P P0 P':QY}{S:Nat->Prop}{i0:Nat}
def TY.lt (h:TY w P){b:Nat}(hb:P.fp b):b<w.heap.size:=by
 obtain⟨i,hi⟩:=hb
 match i,hi with
 |0,e=>rw[show b=P.s from e];exact h.On.lt
 |1,e=>exact h.dev.lt b e
 | 2, e =>
   rcases e with e| e
   ·rw[e];exact h.ext.ltm
   ·rw[e];exact h.ext.ltg
 |3,e=>exact h.arc.lt e
 |4,e=>rw[show b=P.pm from e];exact h.mp.lt
 |5,⟨g,hg,e⟩=>rw[<-e];exact(h.pg g hg).lt
def TY.kp (h:TY w P)(hk:Kp S w w')(hn:∀b,P.fp b->¬S b):TY w' P:=
 ⟨hk.On h.On (hn _ ⟨0,rfl⟩),h.dev.kp hk λb hb=>hn b ⟨1,hb⟩,h.ext.kp hk (hn _ ⟨2,.inl O⟩) (hn _ ⟨2,.inr O⟩),h.arc.kp hk λb hb=>hn b ⟨3,hb⟩,h.mp.kp hk (hn _ ⟨4,rfl⟩),λg hg=>hk.On (h.pg g hg) (hn _ ⟨5,g,hg,rfl⟩),h.pnd,h.UK⟩
theorem TY.ext' (h:TY w P)(hx:Ext w w'):TY w' P:=h.kp (S:=λ_=>False) hx λ_ _=>id
def TY.z81 (h:TY w P)(hk:Kp (P.cp i0) w w')(ne:0≠i0):OE w' P.s (plC P) 119:=hk.On h.On (h.UK 0 i0 ne _ O)
def TY.z9r (h:TY w P)(hk:Kp (P.cp i0) w w')(ne:1≠i0):VS w' P.d P.D P.Fd:=h.dev.kp hk λb hb=>h.UK 1 i0 ne b hb
def TY.text (h:TY w P)(hk:Kp (P.cp i0) w w')(ne:2≠i0):Xm w' P.m P.gi P.L:=h.ext.kp hk (h.UK 2 i0 ne _ (.inl O)) (h.UK 2 i0 ne _ (.inr O))
def TY.z9c (h:TY w P)(hk:Kp (P.cp i0) w w')(ne:3≠i0):Sx w' P.c P.A P.V P.p:=h.arc.kp hk λb hb=>h.UK 3 i0 ne b hb
def TY.tmp (h:TY w P)(hk:Kp (P.cp i0) w w')(ne:4≠i0):Sr KI w' P.pm (TJ P.l):=h.mp.kp hk (h.UK 4 i0 ne _ O)
def TY.tpg (h:TY w P)(hk:Kp (P.cp i0) w w')(ne:5≠i0):∀g∈P.l,OE w' g.b (pgC g.t g.d) 220:=λg hg=>hk.On (h.pg g hg) (h.UK 5 i0 ne _ ⟨g,hg,rfl⟩)
def TY.zaR (h:TY w P)(hs:∀i,i≠i0->P'.cp i=P.cp i)(hi:∀b,P'.cp i0 b->P.cp i0 b\/∀i,¬P.cp i b):Dis P'.cp:=λi j ne b hb bP=>by
 by_cases e:i=i0
 ·have e2:j≠i0:=λe2=>ne (e.trans e2.symm);rw[e] at hb;rw[hs j e2] at bP;rcases hi b hb with h1|h1
  ·exact h.UK i0 j (λe3=>e2 e3.symm) b h1 bP
  ·exact h1 j bP
 ·rw[hs i e] at hb;by_cases e2:j=i0
  ·rw[e2] at bP;rcases hi b bP with h1|h1
   ·exact h.UK i i0 e b hb h1
   ·exact h1 i hb
  ·rw[hs j e2] at bP;exact h.UK i j ne b hb bP
def TY.new (h:TY w P){b:Nat}(hb:w.heap.size<=b):∀i,¬P.cp i b:=λi e=>by have:=h.lt ⟨i,e⟩;omega
structure U6 (w0:World)(P0:QY)(w:World)(P:QY):Prop where
 m:TY w P
 fp:∀b,P.fp b->P0.fp b\/w0.heap.size<=b
 k:Kp P0.fp w0 w
theorem TY.r (h:TY w P)(hx:Ext w w'):U6 w P w' P:=⟨h.ext' hx,λb hb=> .inl hb,hx.kp⟩
def U6.ext (h:U6 w0 P0 w P)(hx:Ext w w'):U6 w0 P0 w' P:=⟨h.m.ext' hx,h.fp,h.k.trans hx.kp⟩
def U6.loc (h:U6 w0 P0 w P)(hk:Kp S w w')(hS:∀b,S b->(P0.fp b\/w0.heap.size<=b)/\∀i,¬P.cp i b):U6 w0 P0 w' P:=
 ⟨h.m.kp hk λb ⟨i,hb⟩ e=>(hS b e).2 i hb,h.fp,h.k.It hk λb e=>(hS b e).1.symm⟩
theorem U6.part (h:U6 w0 P0 w P)(i0:Nat)(hm:TY w' P')(hs:∀i,i≠i0->P'.cp i=P.cp i)(hi:∀b,P'.cp i0 b->P.cp i0 b\/w0.heap.size<=b)(hk:Kp (P.cp i0) w w'):U6 w0 P0 w' P':=
 ⟨hm,λb ⟨i,hb⟩=>by
  by_cases e:i=i0
  ·rw[e] at hb;rcases hi b hb with h1|h1
   ·exact h.fp b ⟨i0,h1⟩
   ·exact .inr h1
  ·rw[hs i e] at hb
   exact h.fp b ⟨i,hb⟩,h.k.It hk λb hb=>(h.fp b ⟨i0,hb⟩).symm⟩
theorem U6.trans {w2:World}{P2:QY}(h:U6 w0 P0 w P)(h2:U6 w P w2 P2):U6 w0 P0 w2 P2:=
 ⟨h2.m,λb hb=>by
  rcases h2.fp b hb with e| e
  ·exact h.fp b e
  ·exact .inr (by have:=h.k.size;omega),h.k.It h2.k λb hb=>(h.fp b hb).symm⟩
def U6.dev (h:U6 w0 P0 w P){D':Dev}(ht:z9e w P.d P.Fd D' w'):∃Fd',U6 w0 P0 w' {P with D:=D',Fd:=Fd'}/\∀b,Fd' b->P.Fd b\/w.heap.size<=b:=by
 obtain⟨F',hd,hu⟩:=ht
 have hs:∀i,i≠1->QY.cp {P with D:=D',Fd:=F'} i=P.cp i:=λi e=>by
  match i,e with
  |0,_|2,_|3,_|4,_|5,_=>rfl
  |i+6,_=>rfl
 have hk:Kp (P.cp 1) w w':=hu.1
 refine⟨F',h.part 1 ⟨h.m.z81 hk ψ,hd,h.m.text hk ψ,h.m.z9c hk ψ,h.m.tmp hk ψ,h.m.tpg hk ψ,h.m.pnd,h.m.zaR hs λb hb=>?_⟩ hs (λb hb=>?_) hk,hu.2⟩
 ·exact(hu.2 b hb).imp id λe=>h.m.new e
 ·exact(hu.2 b hb).imp id λe=>by have:=h.k.size;omega
def U6.arc (h:U6 w0 P0 w P){A':Arc}{V':Nat->Value×Value}(hr:VR w P.c P.V P.p w' A' V'):U6 w0 P0 w' {P with A:=A',V:=V'}:=by
 have hs:∀i,i≠3->QY.cp {P with A:=A',V:=V'} i=P.cp i:=λi e=>by
  match i,e with
  |0,_|1,_|2,_|4,_|5,_=>rfl
  |i+6,_=>rfl
 have hk:Kp (P.cp 3) w w':=hr.k
 refine h.part 3 ⟨h.m.z81 hk ψ,h.m.z9r hk ψ,h.m.text hk ψ,hr.m,h.m.tmp hk ψ,h.m.tpg hk ψ,h.m.pnd,h.m.zaR hs λb hb=>?_⟩ hs (λb hb=>?_) hk
 ·exact(hr.fp b hb).imp id λe=>h.m.new e
 ·exact(hr.fp b hb).imp id λe=>by have:=h.k.size;omega
def U6.exM (h:U6 w0 P0 w P){L':List Bool}(he:Xm w' P.m P.gi L')(hk:Kp (λb=>b=P.gi) w w'):U6 w0 P0 w' {P with L:=L'}:=by
 have hs:∀i,i≠2->QY.cp {P with L:=L'} i=P.cp i:=λi e=>by
  match i,e with
  |0,_|1,_|3,_|4,_|5,_=>rfl
  |i+6,_=>rfl
 have hk:Kp (P.cp 2) w w':=hk.OA λb e=> .inr e
 exact h.part 2 ⟨h.m.z81 hk ψ,h.m.z9r hk ψ,he,h.m.z9c hk ψ,h.m.tmp hk ψ,h.m.tpg hk ψ,h.m.pnd,h.m.zaR hs λb hb=> .inl hb⟩ hs (λb hb=> .inl hb) hk
def U6.cnt (h:U6 w0 P0 w P){a b c:Int}(hB:OE w' P.s (plC {P with h:=a,mi:=b,wr:=c}) 119)(hk:Kp (λb=>b=P.s) w w'):U6 w0 P0 w' {P with h:=a,mi:=b,wr:=c}:=by
 have hs:∀i,i≠0->QY.cp {P with h:=a,mi:=b,wr:=c} i=P.cp i:=λi e=>by
  match i,e with
  |1,_|2,_|3,_|4,_|5,_=>rfl
  |i+6,_=>rfl
 have hk:Kp (P.cp 0) w w':=hk
 exact h.part 0 ⟨hB,h.m.z9r hk ψ,h.m.text hk ψ,h.m.z9c hk ψ,h.m.tmp hk ψ,h.m.tpg hk ψ,h.m.pnd,h.m.zaR hs λb hb=> .inl hb⟩ hs (λb hb=> .inl hb) hk
def U6.del (h:U6 w0 P0 w P){l':List Pg}(hl:l'.Sublist P.l)(hm:Sr KI w' P.pm (TJ l'))(hk:Kp (λb=>b=P.pm) w w'):U6 w0 P0 w' {P with l:=l'}:=by
 have hk:Kp (P.cp 4) w w':=hk
 have dC:∀i b,QY.cp {P with l:=l'} i b->P.cp i b:=λi b hb=>by
  match i,hb with
  |0,e|1,e|2,e|3,e|4,e=>exact e
  |5,⟨g,hg,e⟩=>exact⟨g,hl.subset hg,e⟩
 have hp:=h.m.tpg hk ψ
 exact⟨⟨h.m.z81 hk ψ,h.m.z9r hk ψ,h.m.text hk ψ,h.m.z9c hk ψ,hm,λg hg=>hp g (hl.subset hg),(hl.map _).nodup h.m.pnd,λi j ne b hb bP=>h.m.UK i j ne b (dC i b hb) (dC j b bP)⟩,λb ⟨i,hb⟩=>h.fp b ⟨i,dC i b hb⟩,h.k.It hk λb hb=>(h.fp b ⟨4,hb⟩).symm⟩
def U6.ins (h:U6 w0 P0 w P){g:Pg}(hg:w0.heap.size<=g.b/\∀i,¬P.cp i g.b)(hb:OE w g.b (pgC g.t g.d) 220)(hm:Sr KI w' P.pm (TJ (P.l++[g])))(hk:Kp (λb=>b=P.pm) w w'):U6 w0 P0 w' {P with l:=P.l++[g]}:=by
 have hk:Kp (P.cp 4) w w':=hk
 have hp:=h.m.tpg hk ψ
 have gu:∀i b,QY.cp {P with l:=P.l++[g]} i b->P.cp i b\/(i=5/\b=g.b):=λi b hb=>by
  match i,hb with
  |0,e|1,e|2,e|3,e|4,e=>exact .inl e
  | 5, ⟨g', cO, e⟩ =>
    rcases List.mem_append.1 cO with e2|e2
    ·exact .inl ⟨g',e2,e⟩
    ·rw[List.mem_singleton.1 e2] at e;exact .inr ⟨rfl,e.symm⟩
 refine⟨⟨h.m.z81 hk ψ,h.m.z9r hk ψ,h.m.text hk ψ,h.m.z9c hk ψ,hm,λg' cO=>?_,?_,λi j ne b hb bP=>?_⟩,λb ⟨i,hb⟩=>?_,h.k.It hk λb hb=>(h.fp b ⟨4,hb⟩).symm⟩
 ·rcases List.mem_append.1 cO with e| e
  ·exact hp g' e
  ·rw[List.mem_singleton.1 e];exact hk.On hb (hg.2 4)
 ·show((P.l++[g]).map (·.b)).Nodup;rw[List.map_append,List.nodup_append];refine⟨h.m.pnd,ξ,λa ha b hb e=>?_⟩;obtain⟨g',cO,rfl⟩:=List.mem_map.1 ha;rw[List.map_singleton,List.mem_singleton] at hb;exact hg.2 5 ⟨g',cO,e.trans hb⟩
 ·rcases gu i b hb with e|⟨e,e2⟩
  ·rcases gu j b bP with f|⟨f,f2⟩
   ·exact h.m.UK i j ne b e f
   ·rw[f2] at e;exact hg.2 i e
  ·rcases gu j b bP with f|⟨f,f2⟩
   ·rw[e2] at f;exact hg.2 j f
   ·exact ne (e.trans f.symm)
 ·rcases gu i b hb with e|⟨e,e2⟩
  ·exact h.fp b ⟨i,e⟩
  ·rw[e2];exact .inr hg.1
theorem SB {α β:Type}{f:α->β}:∀{l:List α},(l.map f).Nodup->∀{a b:α},a∈l->b∈l->f a=f b->a=b
 |[],_,a,b,ha,_,_=>by cases ha
 | x :: l, hn, a, b, ha, hb, e => by
   rw[List.map_cons,List.nodup_cons] at hn;rcases List.mem_cons.1 ha with h1|h1
   ·rcases List.mem_cons.1 hb with h2|h2
    ·rw[h1,h2]
    ·exact absurd (List.mem_map.2 ⟨b,h2,by rw[<-e,h1]⟩) hn.1
   ·rcases List.mem_cons.1 hb with h2|h2
    ·exact absurd (List.mem_map.2 ⟨a,h1,by rw[e,h2]⟩) hn.1
    ·exact SB hn.2 h1 h2 e
def Ry (l:List Pg)(k:Int)(t:Ov)(d:Bool):List Pg:=l.map λg=>if g.k=k then {g with t:=t,d:=d} else g
theorem zbb (l:List Pg)(k:Int)(t:Ov)(d:Bool):TJ (Ry l k t d)=TJ l:=by
 unfold TJ Ry
 rw[List.map_map]
 refine List.map_congr_left λg _=>?_
 by_cases h:g.k=k
 ·simp only[Function.comp_apply,if_pos h]
 ·simp only[Function.comp_apply,if_neg h]
theorem z2k (l:List Pg)(k:Int)(t:Ov)(d:Bool):(Ry l k t d).map (·.b)=l.map (·.b):=by
 unfold Ry
 rw[List.map_map]
 refine List.map_congr_left λg _=>?_
 show Pg.b (if _ then _ else _)=_
 split<;>rfl
def U6.zhk (h:U6 w0 P0 w P){g:Pg}(hg:g∈P.l){t:Ov}{d:Bool}(hb:OE w' g.b (pgC t d) 220)(hk:Kp (λb=>b=g.b) w w'):U6 w0 P0 w' {P with l:=Ry P.l g.k t d}:=by
 have ek:=h.m.mp.nd
 have kS:∀b,(∃g'∈Ry P.l g.k t d,g'.b=b)↔∃g'∈P.l,g'.b=b:=λb=>by
  have e:=z2k P.l g.k t d;constructor
  ·rintro⟨g',cO,rfl⟩;have:g'.b∈P.l.map (·.b):=by rw[<-e];exact List.mem_map.2 ⟨g',cO,rfl⟩
   obtain⟨g2,a,b⟩:=List.mem_map.1 this;exact⟨g2,a,b⟩
  ·rintro⟨g',cO,rfl⟩;have:g'.b∈(Ry P.l g.k t d).map (·.b):=by rw[e];exact List.mem_map.2 ⟨g',cO,rfl⟩
   obtain⟨g2,a,b⟩:=List.mem_map.1 this;exact⟨g2,a,b⟩
 have hs:∀i,i≠5->QY.cp {P with l:=Ry P.l g.k t d} i=P.cp i:=λi e=>by
  match i,e with
  |0,_|1,_|2,_|3,_|4,_=>rfl
  |i+6,_=>rfl
 have ai:Kp (P.cp 5) w w':=hk.OA λb e=>⟨g,hg,e.symm⟩
 have hi:∀b,QY.cp {P with l:=Ry P.l g.k t d} 5 b->P.cp 5 b:=λb hb=>(kS b).1 hb
 refine h.part 5 ⟨h.m.z81 ai ψ,h.m.z9r ai ψ,h.m.text ai ψ,h.m.z9c ai ψ,?_,λg' cO=>?_,?_,h.m.zaR hs λb hb=> .inl (hi b hb)⟩ hs (λb hb=> .inl (hi b hb)) ai
 ·show Sr KI w' P.pm (TJ (Ry P.l g.k t d));rw[zbb];exact h.m.tmp ai ψ
 ·obtain⟨g2,aa,rfl⟩:=List.mem_map.1 cO;by_cases e:g2.k=g.k
  ·rw[if_pos e]
   have e2:g2=g:=by
    unfold TJ at ek;rw[List.map_map] at ek;have ER:(P.l.map (·.k)).Nodup:=ek;exact SB ER aa hg e
   rw[e2];exact hb
  ·rw[if_neg e];have br:g2.b≠g.b:=λe2=>e (by rw[SB h.m.pnd aa hg e2]);exact hk.On (h.m.pg g2 aa) br
 ·show((Ry P.l g.k t d).map (·.b)).Nodup;rw[z2k];exact h.m.pnd
end
def RI (l:List Pg):Nat:=l.countP (·.d)
structure VM (P:QY)(txt:Int->Ov)(K:Nat):Prop where
 aok:P.A.Ok
 asz:P.A.size<=1000
 keys:∀x,x∈P.l.map (·.k)↔P.A.held x
 nd:(P.l.map (·.k)).Nodup
 rng:∀g∈P.l,0<=g.k/\g.k<(P.L.length:Int)
 tx:∀g∈P.l,g.t=txt g.k
 cl:∀g∈P.l,g.d=false->P.D.now g.k=txt g.k
 out:∀x,0<=x->x<(P.L.length:Int)->¬P.A.held x->P.D.now x=txt x
 len:∀x,0<=x->x<(P.L.length:Int)->(txt x).length=512
 down:P.D.down=false
 due:P.D.due=0
 B:P.D.B=P.L.length
 N:P.D.N=1
 ca:P.D.calls+(RI P.l:Int)<=(K:Int)
 cc:P.D.cache.length+RI P.l<=K
 Sn:P.D.Sn.length<=17592186044416
def YO (txt:Int->Ov)(no:Int)(wt:Option Ov):Int->Ov:=λx=>if x=no then wt.getD (txt x) else txt x
theorem Z2 (txt:Int->Ov)(no:Int):YO txt no none=txt:=by
 funext x
 unfold YO
 split<;>rfl
theorem RQ (txt:Int->Ov)(no:Int)(wt:Option Ov):YO txt no wt no=wt.getD (txt no):=if_pos O
theorem Rk (txt:Int->Ov){no x:Int}(wt:Option Ov)(h:x≠no):YO txt no wt x=txt x:=if_neg h
def wN (wt:Option Ov):Nat:=if wt.isSome then 1 else 0
theorem z4p (D:Dev)(n x:Int)(s:Ov):((D.push n s).count).now x=if n=x then s else D.now x:=by
 unfold Dev.now Dev.count Dev.push
 dsimp only
 rw[z5z]
 split<;>rfl
theorem z1X (D:Dev)(z:Int)(x:Int):({D with reads:=z}:Dev).now x=D.now x:=rfl
section
variable {P:QY}{txt:Int->Ov}{K:Nat}{no:Int}{wt:Option Ov}
def Zj (no:Int)(t:Ov):∀{l:List Pg},(l.map (·.k)).Nodup->RI (Ry l no t true)<=RI l+1
 |[],_=>Nat.zero_le _
 | g :: l, hn => by
   rw[List.map_cons,List.nodup_cons] at hn;by_cases h:g.k=no
   ·have e:Ry l no t true=l:=by
     unfold Ry
     conv=>rhs;rw[<-List.map_id l]
     refine List.map_congr_left λg' cO=>?_;rw[if_neg λe=>hn.1 (List.mem_map.2 ⟨g',cO,by rw[e,h]⟩)];rfl
    have e2:Ry (g::l) no t true={g with t:=t,d:=true}::l:=by
     show(if g.k=no then _ else g)::Ry l no t true=_;rw[if_pos h,e]
    rw[e2];unfold RI;rw[List.countP_cons,List.countP_cons];split<;>split<;>omega
   ·have ih:=Zj no t hn.2
    have e2:Ry (g::l) no t true=g::Ry l no t true:=by
     show(if g.k=no then _ else g)::Ry l no t true=_;rw[if_neg h]
    rw[e2];unfold RI at*;rw[List.countP_cons,List.countP_cons];omega
theorem z0m {l:List Pg}(hn:(l.map (·.k)).Nodup){g:Pg}(hg:g∈l):Ry l g.k g.t g.d=l:=by
 unfold Ry
 conv=>rhs;rw[<-List.map_id l]
 refine List.map_congr_left λg' cO=>?_
 by_cases h:g'.k=g.k
 ·rw[if_pos h,SB hn cO hg h];rfl
 ·rw[if_neg h];rfl
theorem z7c (l:List Pg)(k:Int)(t:Ov)(d:Bool):(Ry l k t d).map (·.k)=l.map (·.k):=by
 unfold Ry
 rw[List.map_map]
 refine List.map_congr_left λg _=>?_
 by_cases h:g.k=k
 ·simp only[Function.comp_apply,if_pos h]
 ·simp only[Function.comp_apply,if_neg h]
def YY {l:List Pg}{k:Int}{t:Ov}{d:Bool}{g:Pg}(h:g∈Ry l k t d):(g∈l/\g.k≠k)\/(g.k=k/\g.t=t/\g.d=d/\∃g'∈l,g'.k=k):=by
 obtain⟨g',cO,rfl⟩:=List.mem_map.1 h
 by_cases e:g'.k=k
 ·rw[if_pos e];exact .inr ⟨e,rfl,rfl,g',cO,e⟩
 ·rw[if_neg e];exact .inl ⟨cO,e⟩
theorem VM.hit (h:VM P txt K){g:Pg}(hg:g∈P.l)(oW:∀t,wt=some t->t.length=512){P':QY}(hA:P'.A=(P.A.Rj g.k).1)(hl:P'.l=Ry P.l g.k (wt.getD g.t) (wt.isSome ||g.d))(hL:P'.L=P.L)(hD:P'.D=P.D):VM P' (YO txt g.k wt) (K+wN wt):=by
 have ht:=Arc.z1g h.aok g.k
 have bu:P.A.held g.k:=(h.keys _).1 (List.mem_map.2 ⟨g,hg,rfl⟩)
 have fj:=ht.no (ht.hit.2 bu)
 have vP:∀x,P'.A.held x↔P.A.held x:=λx=>by
  rw[hA,ht.held,fj];constructor
  ·rintro(e|e)
   ·rw[e];exact bu
   ·exact e.1
  ·intro e;exact .inr ⟨e,ξ⟩
 have hr:=h.rng g hg
 have rM:RI P'.l<=RI P.l+wN wt:=by
  rw[hl]
  cases wt with
  |none=>rw[show(none:Option Ov).getD g.t=g.t from rfl,show((none:Option Ov).isSome ||g.d)=g.d from rfl,z0m h.nd hg];exact Nat.le_add_right _ _
  |some t=>exact Zj _ _ h.nd
 have Ik:=h.ca
 have ES:=h.cc
 refine⟨by rw[hA];exact ht.ok,by rw[hA,ht.size];exact h.asz,λx=>by rw[hl,z7c,h.keys,vP],by rw[hl,z7c];exact h.nd,λg' cO=>?_,λg' cO=>?_,λg' cO hd=>?_,λx h0 h1 hx=>?_,λx h0 h1=>?_,by rw[hD];exact h.down,by rw[hD];exact h.due,by rw[hD,hL];exact h.B,by rw[hD];exact h.N,by rw[hD];omega,by rw[hD];omega,by rw[hD];exact h.Sn⟩
 ·rw[hL];rw[hl] at cO;rcases YY cO with e| e
  ·exact h.rng g' e.1
  ·rw[e.1];exact hr
 ·rw[hl] at cO;rcases YY cO with e| e
  ·rw[Rk _ _ e.2];exact h.tx g' e.1
  ·rw[e.1,RQ,e.2.1,h.tx g hg]
 ·rw[hD];rw[hl] at cO;rcases YY cO with e| e
  ·rw[Rk _ _ e.2];exact h.cl g' e.1 hd
  ·rw[e.2.2.1] at hd
   have hw:wt=none:=by
    cases wt with
    |none=>rfl
    |some t=>cases hd
   rw[e.1,hw,Z2];rw[hw] at hd;exact h.cl g hg hd
 ·rw[hL] at h1;rw[vP] at hx;have br:x≠g.k:=λe=>hx (e▸bu);rw[hD,Rk _ _ br];exact h.out x h0 h1 hx
 ·rw[hL] at h1;by_cases e:x=g.k
  ·rw[e,RQ]
   cases hw:wt with
   |none=>exact h.len _ (e▸h0) (e▸h1)
   |some t=>exact oW t hw
  ·rw[Rk _ _ e];exact h.len x h0 h1
def Sv:List Pg->Int->List Pg
 |[],_=>[]
 |g::l,k=>if g.k=k then l else g::Sv l k
theorem UH (g:Pg)(l:List Pg)(k:Int):Sv (g::l) k=if g.k=k then l else g::Sv l k:=rfl
theorem z1I (l:List Pg)(k:Int):delL (TJ l) k=TJ (Sv l k):=by
 induction l with
 |nil=>rfl
 | cons g l ih =>
   show(if k=g.k then TJ l else(g.k,ptr g.b 0)::delL (TJ l) k)=_;rw[UH];by_cases h:k=g.k
   ·rw[if_pos h,if_pos h.symm]
   ·rw[if_neg h,if_neg (λe=>h e.symm),ih];rfl
def SL:∀(l:List Pg) (k:Int),(Sv l k).Sublist l
 |[],_=>List.Sublist.refl _
 | g :: l, k => by
   rw[UH];split
   ·exact List.sublist_cons_self _ _
   ·exact(SL l k).cons_cons _
def z1j {l:List Pg}(hn:(l.map (·.k)).Nodup)(k x:Int):x∈(Sv l k).map (·.k)↔x∈l.map (·.k)/\x≠k:=by
 induction l with
 |nil=>simp[Sv]
 | cons g l ih =>
   rw[List.map_cons,List.nodup_cons] at hn;rw[UH];by_cases h:g.k=k
   ·rw[if_pos h,List.map_cons,List.mem_cons];constructor
    ·intro e;exact⟨.inr e,λe2=>hn.1 (by rw[h,<-e2];exact e)⟩
    ·rintro⟨e|e,e2⟩
     ·exact absurd (e.trans h) e2
     ·exact e
   ·rw[if_neg h,List.map_cons,List.map_cons,List.mem_cons,List.mem_cons];have:=ih hn.2;rw[this];constructor
    ·rintro(e|e)
     ·exact⟨.inl e,λe2=>h (by rw[<-e,e2])⟩
     ·exact⟨.inr e.1,e.2⟩
    ·rintro⟨e|e,e2⟩
     ·exact .inl e
     ·exact .inr ⟨e,e2⟩
def z2A {l:List Pg}{g:Pg}(hn:(l.map (·.k)).Nodup)(hg:g∈l):RI (Sv l g.k)+(if g.d then 1 else 0)=RI l:=by
 induction l with
 |nil=>cases hg
 | cons a l ih =>
   rw[List.map_cons,List.nodup_cons] at hn;rw[UH];by_cases h:a.k=g.k
   ·rw[if_pos h]
    have e:a=g:=by
     rcases List.mem_cons.1 hg with e| e
     ·exact e.symm
     ·exact absurd (List.mem_map.2 ⟨g,e,h.symm⟩) hn.1
    rw[e];unfold RI;rw[List.countP_cons]
   ·rw[if_neg h]
    have aa:g∈l:=by
     rcases List.mem_cons.1 hg with e| e
     ·exact absurd (by rw[e]) h
     ·exact e
    have:=ih hn.2 aa;unfold RI at*;rw[List.countP_cons,List.countP_cons];omega
structure zcl (P:QY)(txt:Int->Ov)(K:Nat)(g:Option Int)(D':Dev)(l':List Pg):Prop where
 now:∀x,0<=x->x<(P.L.length:Int)->x∉l'.map (·.k)->D'.now x=txt x
 cl:∀q∈l',q.d=false->D'.now q.k=txt q.k
 sub:l'.Sublist P.l
 keys:∀x,x∈l'.map (·.k)↔x∈P.l.map (·.k)/\g≠some x
 down:D'.down=false
 due:D'.due=0
 B:D'.B=P.D.B
 N:D'.N=P.D.N
 ca:D'.calls+(RI l':Int)<=(K:Int)
 cc:D'.cache.length+RI l'<=K
 Sn:D'.Sn.length<=17592186044416
def VM.zf2 (h:VM P txt K):zcl P txt K none P.D P.l:=
 ⟨λx h0 h1 hx=>h.out x h0 h1 λe=>hx ((h.keys x).2 e),h.cl,List.Sublist.refl _,λx=>by simp,h.down,h.due,rfl,rfl,h.ca,h.cc,h.Sn⟩
def VM.zhX (h:VM P txt K){g:Pg}(hg:g∈P.l):zcl P txt K (some g.k) (if g.d then(P.D.push g.k g.t).count else P.D) (Sv P.l g.k):=by
 have zp:=z2A h.nd hg
 have hk:=z1j h.nd g.k
 have Ik:=h.ca
 have ES:=h.cc
 have dC:=SL P.l g.k
 have jB:∀x,0<=x->x<(P.L.length:Int)->x∉(Sv P.l g.k).map (·.k)->x=g.k\/¬P.A.held x:=λx h0 h1 hx=>by
  rw[hk,not_and] at hx;by_cases e:x=g.k
  ·exact .inl e
  ·exact .inr λe2=>hx ((h.keys x).2 e2) e
 have gz:∀q∈Sv P.l g.k,q∈P.l/\q.k≠g.k:=λq hq=>⟨dC.subset hq,((hk q.k).1 (List.mem_map.2 ⟨q,hq,rfl⟩)).2⟩
 have rN:∀x,x∈(Sv P.l g.k).map (·.k)↔x∈P.l.map (·.k)/\some g.k≠some x:=λx=>by
  rw[hk];simp only[ne_eq,Option.some.injEq];constructor
  ·rintro⟨a,b⟩;exact⟨a,λe=>b e.symm⟩
  ·rintro⟨a,b⟩;exact⟨a,λe=>b e.symm⟩
 cases hd:g.d with
 | true =>
   rw[hd] at zp;rw[if_pos O] at zp⊢;refine⟨λx h0 h1 hx=>?_,λq hq jd=>?_,dC,rN,h.down,?_,rfl,rfl,?_,?_,h.Sn⟩
   ·rw[z4p];rcases jB x h0 h1 hx with e| e
    ·rw[if_pos e.symm,e,h.tx g hg]
    ·by_cases e2:g.k=x
     ·rw[if_pos e2,<-e2,h.tx g hg]
     ·rw[if_neg e2];exact h.out x h0 h1 e
   ·obtain⟨a,b⟩:=gz q hq;rw[z4p,if_neg λe=>b e.symm];exact h.cl q a jd
   ·have:=h.due;show(if P.D.due=0 then(0:Int) else _)=0;rw[if_pos this]
   ·show P.D.calls+1+_<=_;omega
   ·show(P.D.cache++[_]).length+_<=_
    rw[List.length_append,List.length_singleton];omega
 | false =>
   rw[hd] at zp;rw[if_neg ξ] at zp⊢;refine⟨λx h0 h1 hx=>?_,λq hq jd=>?_,dC,rN,h.down,h.due,rfl,rfl,ω,ω,h.Sn⟩
   ·rcases jB x h0 h1 hx with e| e
    ·rw[e];exact h.cl g hg hd
    ·exact h.out x h0 h1 e
   ·exact h.cl q (gz q hq).1 jd
def VM.zgn (h:VM P txt K)(h0:0<=no)(h1:no<(P.L.length:Int))(hh:¬P.A.held no)(oW:∀t,wt=some t->t.length=512){D':Dev}{l':List Pg}(hg:zcl P txt K (P.A.Rj no).2.2 D' l'){P':QY}{b:Nat}{z:Int}
  (hA:P'.A=(P.A.Rj no).1) (hl:P'.l=l'++[⟨no,b,wt.getD (txt no),wt.isSome⟩]) (hL:P'.L=P.L) (hD:P'.D={D' with reads:=z}):VM P' (YO txt no wt) (K+wN wt):=by
 have ht:=Arc.z1g h.aok no
 have LL:=hg.ca
 have LM:=hg.cc
 have kU:∀x,x∈P'.l.map (·.k)↔x=no\/x∈l'.map (·.k):=λx=>by
  rw[hl,List.map_append,List.mem_append,List.map_singleton,List.mem_singleton,or_comm]
 have vP:∀x,P'.A.held x↔x=no\/x∈l'.map (·.k):=λx=>by
  rw[hA,ht.held,hg.keys,h.keys]
 have lH:no∉l'.map (·.k):=λe=>hh ((h.keys no).1 ((hg.keys no).1 e).1)
 have rM:RI P'.l=RI l'+wN wt:=by
  rw[hl];unfold RI wN;rw[List.countP_append,List.countP_singleton]
 refine⟨by rw[hA];exact ht.ok,by rw[hA,ht.size];exact h.asz,λx=>by rw[kU,vP],?_,λg ju=>?_,λg ju=>?_,λg ju hd=>?_,λx x0 x1 hx=>?_,λx x0 x1=>?_,by rw[hD];exact hg.down,by rw[hD];exact hg.due,by rw[hD,hL];exact hg.B.trans h.B,by rw[hD];exact hg.N.trans h.N,by rw[hD];show D'.calls+_<=_;omega,by rw[hD];show D'.cache.length+_<=_;omega,by rw[hD];exact hg.Sn⟩
 ·rw[hl,List.map_append,List.nodup_append];refine⟨(hg.sub.map _).nodup h.nd,ξ,λa ha c hc e=>?_⟩;rw[List.map_singleton,List.mem_singleton] at hc;exact lH (by rw[<-show a=no from e.trans hc];exact ha)
 ·rw[hL];rw[hl] at ju;rcases List.mem_append.1 ju with e| e
  ·exact h.rng g (hg.sub.subset e)
  ·rw[List.mem_singleton.1 e];exact⟨h0,h1⟩
 ·rw[hl] at ju;rcases List.mem_append.1 ju with e| e
  ·rw[Rk _ _ (λe2=>lH (by rw[<-e2];exact List.mem_map.2 ⟨g,e,rfl⟩))];exact h.tx g (hg.sub.subset e)
  ·rw[List.mem_singleton.1 e,RQ]
 ·rw[hD,z1X];rw[hl] at ju;rcases List.mem_append.1 ju with e| e
  ·rw[Rk _ _ (λe2=>lH (by rw[<-e2];exact List.mem_map.2 ⟨g,e,rfl⟩))];exact hg.cl g e hd
  ·rw[List.mem_singleton.1 e] at hd⊢
   have hw:wt=none:=by
    cases wt with
    |none=>rfl
    |some t=>cases hd
   rw[hw,Z2];exact hg.now no h0 h1 lH
 ·rw[hL] at x1;rw[vP,not_or] at hx;rw[hD,z1X,Rk _ _ hx.1];exact hg.now x x0 x1 hx.2
 ·rw[hL] at x1;by_cases e:x=no
  ·rw[e,RQ]
   cases hw:wt with
   |none=>exact h.len _ h0 h1
   |some t=>exact oW t hw
  ·rw[Rk _ _ e];exact h.len x x0 x1
end
section
variable {w w':World}{P:QY}{S:Nat->Prop}{txt:Int->Ov}{K:Nat}
theorem TY.cells (h:TY w P):OE w P.s [ptr P.d 0,ptr P.m 0,ptr P.c 0,.map (some P.pm),I (P.fr:Int),I P.h,I P.mi,I P.wr,I 0,I 0,I 0,.bool false] 119:=h.On
def VM.zeJ (h:VM P txt K):P.D.Small K:=⟨by have:=h.ca;omega,by have:=h.cc;omega,trivial,h.Sn⟩
def z0T (h:TY w P)(hN:P.D.N=1):P9 prog 65 [ptr P.s 0] w λv w'=>v=I 512/\w'=w:=by
 have hB:=h.cells
 have cH:=z8v h.dev
 rw[hN] at cH
 refine py (e:=[(0,_)]) func65 O ntmps65 O O$ QB O$ Pz O$ qV (PU XP O O)$ PX O$ P7 O$ Pb O$ OL UJ O$ qV (OB U26 O O hB O)$ OQ zeo O (cH) ?_
 rintro _ w ⟨rfl,rfl⟩
 refine OK O$ Oo func65 O ?_
 exact⟨_,rfl,rfl,rfl⟩
def z8M (h:TY w P):P9 prog 137 [ptr P.s 0] w λv w'=>v=ptr P.d 0/\w'=w:=by
 have hB:=h.cells
 refine py (e:=[(0,_)]) func137 O ntmps137 O O$ QB O$ Pz O$ qV (PU XP O O)$ PX O$ P7 O$ Pb O$ OL UJ O$ qV (OB U26 O O hB O)$ OK O$ Oo func137 O ?_
 exact⟨_,rfl,rfl,rfl⟩
def z7T (h:TY w P):P9 prog 24 [ptr P.s 0] w λv w'=>v=ptr P.m 0/\w'=w:=by
 have hB:=h.cells
 refine py (e:=[(0,_)]) func24 O ntmps24 O O$ QB O$ Pz O$ qV (PU XP O O)$ PX O$ P7 O$ Pb O$ OL z2o O$ qV (OB U66 O O hB O)$ OK O$ Oo func24 O ?_
 exact⟨_,rfl,rfl,rfl⟩
def Zk (h:TY w P)(hd:P.D.down=false):P9 prog 119 [ptr P.s 0] w λv w'=>v=I 0/\w'=w:=by
 have hB:=h.cells
 have rM:=z8w h.dev
 rw[hd] at rM
 refine py (e:=[(0,_)]) func119 O ntmps119 O O$ QB O$ Qt$ P7 O$ qV (PU XP O O)$ OK O$ Ox O$ P7 O$ Pb O$ OL z7b O$ qV (OB U4 O O hB O)$ OX O$ Pb O$ OL UJ O ?_
 refine qV (OB U26 O O hB O)$ OQ zf5 O (rM) ?_
 rintro _ w ⟨rfl,rfl⟩
 refine PC O$ OK O$ T2 O$ Om$ QB O$ Oo func119 O ?_
 exact⟨_,rfl,rfl,rfl⟩
theorem z4E (h:TY w P)(tP:P.D.Small K)(rM:P.D.down=false)(LN:P.D.due=0)(LO:P.D.B=P.L.length)(iS:P.D.N=1)(hK:K<1000000000000){b:Nat}{t:Ov}{d:Bool}{no:Int}(h0:0<=no)(h1:no<(P.L.length:Int))(ht:t.length=512)(hb:OE w b (pgC t d) 220)(nN:∀i,¬P.cp i b):
  P9 prog 157 [ptr P.s 0,I no,ptr b 0] w λv w'=>v=I 0/\∃Fd' wr',TY w' {P with D:=if d then(P.D.push no t).count else P.D,Fd:=Fd',wr:=wr'}/\Kp (λj=>j=b\/P.cp 0 j\/P.cp 1 j) w w'/\(∀j,Fd' j->P.Fd j\/w.heap.size<=j):=by
 replace hb:OE w b [S t,.bool d,I 0] 220:=hb
 have hB:=h.cells
 have hg:=Ext.OT w
 have qU:P.s≠b:=λe=>nN 0 e.symm
 have LP:¬P.Fd P.s:=λe=>h.UK 0 1 ψ P.s O e
 have Il:¬P.Fd b:=nN 1
 refine py (e:=[(0,_),(1,_),(2,_)]) func157 O ntmps157 O O ?_
 cases d with
 | false =>
   refine QB O$ Pz O$ Pb O$ OL Vz O$ OL z2D O$ qV (OB U4 O O hb O)$ qV ((S1 O))$ Oq$ OI O$ QB O$ Oo func157 O (⟨_,rfl,rfl,P.Fd,P.wr,?_,Kp.refl _ _,λj e=> .inl e⟩);rw[if_neg ξ]
   exact h
 | true =>
   refine QB O$ Pz O$ Pb O$ OL Vz O$ OL z2D O$ qV (OB U4 O O hb O)$ qV ((S1 O)) ?_;have ET:=z6o no t (h.dev.ext hg) tP hK;rw[zaa rM LN ⟨h0,by rw[LO];exact h1⟩ (by rw[iS];exact ht)] at ET;dsimp only at ET;refine PX O$ An$ An$ R8 (λw'=>Kp P.Fd w w') O$ OR 0 O O (hg.kp)$ Ow 1 O (Q8 O) (hg.kp)$ Ow 2 O (Pk UJ O) (hg.kp)$ qT 3 O (λ_ h=>(OB U26 O O (h.On hB LP) O)) (hg.kp)$ OR 4 O O (hg.kp)$ OR 5 O O (hg.kp)$ Ow 6 O (Q8 O) (hg.kp)$ Ow 7 O (Pk Vz O) (hg.kp)$ Ow 8 O (Pk z2y O) (hg.kp)$ qT 9 O (λ_ h=>(OB U9 O O (h.On hb Il) O)) (hg.kp) ?_;refine SH 10 O zgO O (ET) ?_;rintro _ w1 ⟨rfl,mU⟩;refine⟨hg.kp.trans mU.kpF,?_⟩;obtain⟨Fd',cW,oI⟩:=((h.r (Ext.refl w)).ext hg).dev mU;have aG:Kp P.Fd w w1:=hg.kp.trans mU.kpF;have pP:∀j,Fd' j->P.Fd j\/w.heap.size<=j:=λj e=>(oI j e).imp id λe=>by have:=hg.size;omega
   refine Ow 11 O (Rr O) (hg.kp.trans mU.kpF)$ qE$ P7 O$ Ql O ?_;have ah:=cW.m.cells;refine PX O (P7 O (Pb O (OL Vs O (OL zaI O (qV (OB U3 O O ah O) (qV (z9Q O O) (Pb O (OL Vs O (OL zaI O (OJ O (Qw PH O O O ah ξ) ?_))))))))));rintro w2 ⟨ak,am⟩;obtain⟨z,hz⟩:∃z,IntKind.i64.wrap (P.wr+1)=z:=⟨_,rfl⟩;rw[hz] at ak;have da:=cW.cnt (a:=P.h) (b:=P.mi) (c:=z) ak am;have bP:=am.On (aG.On hb Il) (λe=>qU e.symm);refine Oq$ P8.qb (e:=[(2,_),(6,_)]) ?_;refine P7 O (Pb O (OL Vz O (OL z2D O (OJ O (Qw US O O O bP ξ) ?_))));rintro w3 ⟨dY,ar⟩
   have EU:∀i,¬QY.cp {P with D:=(P.D.push no t).count,Fd:=Fd',h:=P.h,mi:=P.mi,wr:=z} i b:=λi e=>by
    match i,e with
    |0,e=>exact nN 0 e
    | 1, e =>
      rcases pP b e with e| e
      ·exact nN 1 e
      ·have:=hb.lt;omega
    |2,e=>exact nN 2 e
    |3,e=>exact nN 3 e
    |4,e=>exact nN 4 e
    |5,e=>exact nN 5 e
   refine qM O$ OK O$ Oo func157 O (⟨_,rfl,rfl,Fd',z,?_,?_,pP⟩)
   ·rw[if_pos O];exact da.m.kp ar λj ⟨i,hj⟩ e=>EU i (e▸hj)
   ·exact((aG.OA λj e=> .inr (.inr e)).trans (am.OA λj e=> .inr (.inl e))).trans (ar.OA λj e=> .inl e)
end
structure QY.Same (P P':QY):Prop where
 s:P'.s=P.s
 d:P'.d=P.d
 m:P'.m=P.m
 gi:P'.gi=P.gi
 c:P'.c=P.c
 pm:P'.pm=P.pm
 p:P'.p=P.p
 fr:P'.fr=P.fr
 L:P'.L=P.L
theorem QY.Same.trans {P P' P2:QY}(h:P.Same P')(h2:P'.Same P2):P.Same P2:=
 ⟨h2.s.trans h.s,h2.d.trans h.d,h2.m.trans h.m,h2.gi.trans h.gi,h2.c.trans h.c,h2.pm.trans h.pm,h2.p.trans h.p,h2.fr.trans h.fr,h2.L.trans h.L⟩
def z0p {l:List Pg}{k:Int}{b:Nat}{t0 t:Ov}{d0 d:Bool}(h:k∉l.map (·.k)):Ry (l++[⟨k,b,t0,d0⟩]) k t d=l++[⟨k,b,t,d⟩]:=by
 unfold Ry
 rw[List.map_append]
 congr 1
 ·conv=>rhs;rw[<-List.map_id l]
  refine List.map_congr_left λg hg=>?_;rw[if_neg λe=>h (List.mem_map.2 ⟨g,hg,e⟩)];rfl
 ·show [if k=k then _ else _]=_;rw[if_pos O]
section
variable {w w' w0:World}{P P0 P':QY}{txt:Int->Ov}{K:Nat}
theorem TY.get (h:TY w P){q:Pg}(hq:q∈P.l):R1 (TJ P.l) q.k=some (ptr q.b 0):=
 z4J h.mp.nd (List.mem_map.2 ⟨q,hq,rfl⟩)
theorem U6.write (h:U6 w0 P0 w P){D':Dev}{Fd':Nat->Prop}{wr':Int}{b:Nat}(hm:TY w' {P with D:=D',Fd:=Fd',wr:=wr'})(hk:Kp (λj=>j=b\/P.cp 0 j\/P.cp 1 j) w w')(hF:∀j,Fd' j->P.Fd j\/w.heap.size<=j)(hb:P0.fp b\/w0.heap.size<=b):U6 w0 P0 w' {P with D:=D',Fd:=Fd',wr:=wr'}:=
 ⟨hm,λj ⟨i,hj⟩=>by
  match i,hj with
  |0,e=>exact h.fp j ⟨0,e⟩
  | 1, e =>
    rcases hF j e with e| e
    ·exact h.fp j ⟨1,e⟩
    ·exact .inr (by have:=h.k.size;omega)
  |2,e=>exact h.fp j ⟨2,e⟩
  |3,e=>exact h.fp j ⟨3,e⟩
  |4,e=>exact h.fp j ⟨4,e⟩
  |5,e=>exact h.fp j ⟨5,e⟩,h.k.It hk λj e=>by
  rcases e with e|e| e
  ·rw[e];exact hb.symm
  ·exact(h.fp j ⟨0,e⟩).symm
  ·exact(h.fp j ⟨1,e⟩).symm⟩
def Zx (hr:U6 w0 P0 w P)(hI:VM P txt K)(hK:K<1000000000000){no:Int}(h0:0<=no)(h1:no<(P.L.length:Int))(wt:Option Ov)(oW:∀t,wt=some t->t.length=512){x:Nat}{x0:Value}(jB:w0.heap.size<=x)(dJ:∀i,¬P.cp i x)(fF:OE w x [x0] 9){f:Nat}(p8:CF prog f)
  (EV:∀(w1:World) (b:Nat) (t:Ov) (d:Bool),b≠x->OE w1 b (pgC t d) 220->OE w1 x [x0] 9->P9 prog f [ptr b 0,ptr x 0] w1 λv w2=>v= .tuple #[]/\OE w2 b (pgC (wt.getD t) (wt.isSome ||d)) 220/\OE w2 x [S (wt.getD t)] 9/\Kp (λj=>j=if wt.isSome then b else x) w1 w2):
  P9 prog 120 [ptr P.s 0,I no,.bool wt.isSome,.func (.func f) #[] #[ptr x 0]] w λv w'=>v=I 0/\OE w' x [S (wt.getD (txt no))] 9/\∃P',U6 w0 P0 w' P'/\VM P' (YO txt no wt) (K+wN wt)/\P.Same P'/\∀i,¬P'.cp i x:=by
 have hB:=hr.m.cells
 have ft:=We hr.m.dev
 rw[hI.B] at ft
 have lx:=fF.lt
 have gA:=Arc.z1g hI.aok no
 obtain⟨T,hT⟩:∃T,P.A.Rj no=T:=⟨_,rfl⟩
 have eM:=z6a hr.m.arc hI.aok hI.asz (k:=no)
 rw[hT] at gA eM
 obtain⟨A2,hit,g⟩:=T
 dsimp only at gA eM
 have n4096:=hr.m.ext.n
 refine py (e:=[(0,_),(1,_),(2,_),(3,_)]) func120 O ntmps120 O O$ QB O$ Pz O$ Qv O$ Pu$ OX O$ OC O$ Pb O$ OL UJ O$ qV (OB U26 O O hB O)$ OQ z4v O (ft) ?_
 rintro _ w ⟨rfl,rfl⟩
 refine TE O$ Pu$ PC O$ PX O$ P7 O$ Pb O$ OL z6X O$ qV (OB zaf O O hB O)$ OC O$ OQ zhb O (eM) ?_
 rintro _ w1 ⟨rfl,V2,rO⟩
 have cW:=hr.arc rO
 have EW:=rO.k.On fF (dJ 3)
 have z1:=rO.k.size
 refine OC O$ qV (Rv (v:=zcE hit g) O O)$ qV (Rv (v:=I 0) O O)$ Oy O O (Rq (cs:=[_,_,_]) Pl O) ?_
 rintro _ w2 ⟨b9,rfl,mS,ae,cR⟩
 have z2:=ae.size
 refine OJ O (Py (news:=Rt hit g) Pl O O O O cR ξ) ?_
 rintro w3 ⟨cQ,ar⟩
 replace cQ:OE w3 b9 [.bool hit,.bool g.isSome,I (g.getD 0)] 261:=cQ
 have aU:Ext w1 w3:=ae.It ar (λj e=>by omega)
 have cb:=cW.ext aU
 have zr:=aU.On EW
 have z01:=cW.k.size
 have z13:=aU.size
 have eG:∀i,¬QY.cp {P with A:=A2,V:=V2} i x:=λi e=>by
  match i,e with
  |0,e=>exact dJ 0 e
  |1,e=>exact dJ 1 e
  |2,e=>exact dJ 2 e
  | 3, e =>
    rcases rO.fp x e with e| e
    ·exact dJ 3 e
    ·omega
  |4,e=>exact dJ 4 e
  |5,e=>exact dJ 5 e
 have zt:∀i,¬QY.cp {P with A:=A2,V:=V2} i b9:=cW.m.new ω
 have O0:b9≠x:=by omega
 have l93:=cQ.lt
 have km:=cb.m.cells
 dsimp only at km
 refine OK O$ P8.qb (e:=[(0,_),(1,_),(2,_),(3,_),(8,_),(9,_),(10,_)]) ?_
 refine Pz O$ Ql O$ PX O$ An$ qN O$ OL zck O ?_
 cases hit with
 | true =>
   have bu:=gA.hit.1 O
   obtain⟨q,hq,EX⟩:∃q∈P.l,q.k=no:=by
    obtain⟨q,a,b⟩:=List.mem_map.1 ((hI.keys no).2 bu);exact⟨q,a,b⟩
   subst EX;refine qV (OB U4 O O cQ O) (Oq (OI O (P7 O (Pb O (OL Vs O (OL zay O (qV (OB U3 O O km O) (qV (z9Q O O) (Pb O (OL Vs O (OL zay O (OJ O (Qw PH O O O km ξ) ?_))))))))))));rintro w4 ⟨aH,aq⟩;obtain⟨z,hz⟩:∃z,IntKind.i64.wrap (P.h+1)=z:=⟨_,rfl⟩;rw[hz] at aH;have bA:=cb.cnt (a:=z) (b:=P.mi) (c:=P.wr) aH aq;have iH:=bA.m.cells;dsimp only at iH;have qk:=aq.On zr (dJ 0);have eZ:=bA.m.get hq;dsimp only at eZ;have qR:OE w4 q.b (pgC q.t q.d) 220:=bA.m.pg q hq;have ug:q.b≠x:=λe=>dJ 5 ⟨q,hq,e⟩;refine qM O$ OX O$ Pb O$ OL Uz O$ qV (OB WV O O iH O)$ OC O$ qV (ylk (k:=q.k) (K:=KI) WV (RT U3) z9V O O bA.m.mp.l) ?_;dsimp only;rw[eZ];refine Qy O O (RY p8 O O) (EV w4 q.b q.t q.d ug qR qk) ?_;rintro _ w5 ⟨rfl,EY,ql,ai⟩;refine Oq$ P8.qb (e:=[(0,_),(1,_),(2,_),(3,_),(8,_),(9,_),(10,_)]) ?_;refine QB O$ Oo func120 O ?_;have EZ:=hI.tx q hq;refine⟨_,rfl,rfl,by rw[<-EZ];exact ql,?_⟩
   cases wt with
   | none =>
     have zu:∀i,¬QY.cp {P with A:=A2,V:=V2,h:=z,mi:=P.mi,wr:=P.wr} i x:=λi e2=>by
      match i,e2 with
      |0,e2=>exact eG 0 e2
      |1,e2=>exact eG 1 e2
      |2,e2=>exact eG 2 e2
      |3,e2=>exact eG 3 e2
      |4,e2=>exact eG 4 e2
      |5,e2=>exact eG 5 e2
     refine⟨_,bA.loc ai (λj e=>⟨.inr (by rw[show j=x from e];exact jB),by rw[show j=x from e];exact zu⟩),hI.hit hq oW (by rw[hT]) ?_ O O,⟨rfl,rfl,rfl,rfl,rfl,rfl,rfl,rfl,rfl⟩,zu⟩;show P.l=Ry P.l q.k q.t q.d
     exact(z0m hI.nd hq).symm
   | some t =>
     refine⟨_,bA.zhk hq EY ai,hI.hit hq oW (by rw[hT]) O O O,⟨rfl,rfl,rfl,rfl,rfl,rfl,rfl,rfl,rfl⟩,λi e2=>?_⟩
     match i,e2 with
     |0,e2=>exact eG 0 e2
     |1,e2=>exact eG 1 e2
     |2,e2=>exact eG 2 e2
     |3,e2=>exact eG 3 e2
     |4,e2=>exact eG 4 e2
     | 5, ⟨g', cO, e2⟩ =>
       have h3:g'.b∈P.l.map (·.b):=by rw[<-z2k P.l q.k];exact List.mem_map.2 ⟨g',cO,rfl⟩
       obtain⟨g2,a,b⟩:=List.mem_map.1 h3
       exact eG 5 ⟨g2,a,b.trans e2⟩
 | false =>
   have F0:¬P.A.held no:=λe=>by have:=gA.hit.2 e;cases this
   refine qV (OB U4 O O cQ O) (PX O (P7 O (Pb O (OL Vs O (OL zbr O (qV (OB U3 O O km O) (qV (z9Q O O) (Pb O (OL Vs O (OL zbr O (OJ O (Qw PH O O O km ξ) ?_)))))))))));rintro w4 ⟨aH,aq⟩;obtain⟨z,hz⟩:∃z,IntKind.i64.wrap (P.mi+1)=z:=⟨_,rfl⟩;rw[hz] at aH;have bA:=cb.cnt (a:=P.h) (b:=z) (c:=P.wr) aH aq;have iH:=bA.m.cells;dsimp only at iH;have qk:=aq.On zr (dJ 0);have Bh:b9≠P.s:=λe=>zt 0 e;have m7:=aq.On cQ Bh;have z4:=aq.size;refine Oq$ An$ qN O$ OL zbQ O$ qV (OB U4 O O m7 O)$ Oq ?_
   have LQ:∀(D':Dev) (Fd':Nat->Prop) (l':List Pg) (wr':Int),(∀j,Fd' j->P.Fd j\/w.heap.size<=j)->l'.Sublist P.l->∀b,(∀i,¬QY.cp {P with A:=A2,V:=V2} i b)->b<w.heap.size\/(∀j,Fd' j->j≠b)->∀i,¬QY.cp {P with A:=A2,V:=V2,D:=D',Fd:=Fd',l:=l',mi:=z,wr:=wr'} i b:=λD' Fd' l' wr' hF hl b hb bP i e=>by
    match i,e with
    |0,e=>exact hb 0 e
    | 1, e =>
      rcases bP with h| h
      ·rcases hF b e with e| e
       ·exact hb 1 e
       ·omega
      ·exact h b e O
    |2,e=>exact hb 2 e
    |3,e=>exact hb 3 e
    |4,e=>exact hb 4 e
    |5,⟨q,hq,e⟩=>exact hb 5 ⟨q,hl.subset hq,e⟩
   refine Pw (λe' w'=>e'=[(0,ptr P.s 0),(1,I no),(2,.bool wt.isSome),(3,.func (.func f) #[] #[ptr x 0])]/\∃D' Fd' l' wr',U6 w0 P0 w' {P with A:=A2,V:=V2,D:=D',Fd:=Fd',l:=l',mi:=z,wr:=wr'}/\zcl P txt K g D' l'/\OE w' x [x0] 9/\(∀j,Fd' j->P.Fd j\/w.heap.size<=j/\j≠x)) ?dr$ λdr=>?iG
   case dr =>
    rintro e' w5 ⟨rfl,D',Fd',l',wr',bG,dV,ql,vH⟩;have lH:no∉l'.map (·.k):=λe=>F0 ((hI.keys no).1 ((dV.keys no).1 e).1);have z5:=bG.k.size;have lx5:=ql.lt
    have eH:∀i,¬QY.cp {P with A:=A2,V:=V2,D:=D',Fd:=Fd',l:=l',mi:=z,wr:=wr'} i x:=λi e=>by
     match i,e with
     |0,e=>exact dJ 0 e
     | 1, e =>
       rcases vH x e with e| e
       ·exact dJ 1 e
       ·exact e.2 O
     |2,e=>exact dJ 2 e
     |3,e=>exact eG 3 e
     |4,e=>exact dJ 4 e
     |5,⟨q,hq,e⟩=>exact dJ 5 ⟨q,dV.sub.subset hq,e⟩
    refine qN O$ qV (Sa (cs:=[_,_,_]) zgi O zi6 O O)$ Oy O O (R9 O (cs:=pgC [] false) O) ?_;rintro _ w6 ⟨b,rfl,hb,aQ,aT⟩;replace aT:OE w6 b [S [],.bool false,I 0] 220:=aT;have cG:=bG.ext aQ;have nY:=aQ.On ql;have nZ:b≠x:=by omega
    have gB:∀i,¬QY.cp {P with A:=A2,V:=V2,D:=D',Fd:=Fd',l:=l',mi:=z,wr:=wr'} i b:=bG.m.new ω;have lb6:=aT.lt
    have zv:R1 (TJ l') no=none:=z1L λe=>lH (by
     unfold TJ at e;rw[List.map_map] at e
     exact e)
    refine OK O$ Pz O$ qV ((S1 O)) ?_
    cases wt with
    | none =>
      refine Oq$ OI O ?_;have mb:=cG.m.cells;dsimp only at mb;have eB:=z80 no cG.m.dev (k:=K) ⟨by have:=dV.ca;show D'.calls<=_;omega,by have:=dV.cc;show D'.cache.length<=_;omega,trivial,dV.Sn⟩ hK
      have LR:D'.read no=({D' with reads:=IntKind.i64.wrap (D'.reads+1)},txt no,0):=by
       have hh:D'.has no=true:=by
        have:=dV.B;have:=hI.B;simp[Dev.has];omega
       unfold Dev.read;rw[if_neg (by rw[dV.down];simp),if_neg (by rw[hh];simp),dV.now no h0 h1 lH]
      dsimp only at eB;rw[LR] at eB;dsimp only at eB;refine Qh O$ Pb O$ OL UJ O$ qV (OB U26 O O mb O)$ OC O$ OQ zgc O (eB) ?_;rintro _ w7 ⟨rfl,rG⟩;obtain⟨Fd7,zw,zx⟩:=cG.dev rG;have ib:Kp Fd' w6 w7:=rG.kpF;have bZ:=ib.On aT (gB 1);have uh:=ib.On nY (eH 1);refine OC O (qV (Rv (v:=S (txt no)) O O) (qV (Rv (v:=I 0) O O) (Pb O (OL Vz O (OL z2y O (OJ O (Qw ti9 O O O bZ ξ) ?_))))));rintro w8 ⟨bY,aP⟩;replace bY:OE w8 b (pgC (txt no) false) 220:=bY
      have ui:∀i,¬QY.cp {P with A:=A2,V:=V2,D:={D' with reads:=IntKind.i64.wrap (D'.reads+1)},Fd:=Fd7,l:=l',mi:=z,wr:=wr'} i b:=λi e=>by
       match i,e with
       |0,e=>exact gB 0 e
       | 1, e =>
         rcases zx b e with e| e
         ·exact gB 1 e
         ·omega
       |2,e=>exact gB 2 e
       |3,e=>exact gB 3 e
       |4,e=>exact gB 4 e
       |5,e=>exact gB 5 e
      have ko:∀i,¬QY.cp {P with A:=A2,V:=V2,D:={D' with reads:=IntKind.i64.wrap (D'.reads+1)},Fd:=Fd7,l:=l',mi:=z,wr:=wr'} i x:=λi e=>by
       match i,e with
       |0,e=>exact eH 0 e
       | 1, e =>
         rcases zx x e with e| e
         ·exact eH 1 e
         ·have:=nY.lt;omega
       |2,e=>exact eH 2 e
       |3,e=>exact eH 3 e
       |4,e=>exact eH 4 e
       |5,e=>exact eH 5 e
      have fM:=zw.loc aP (λj e=>by rw[show j=b from e];exact⟨.inr ω,ui⟩);have F9:=aP.On uh (λe=>nZ e.symm);have zC:=fM.m.cells;dsimp only at zC;refine QO O$ Ql O$ Oq$ P8.qb (e:=[(0,_),(1,_),(3,_),(10,_),(13,_),(106,_)]) ?_;refine T2 O$ P7 O$ Pb O$ OL Uz O$ qV (OB WV O O zC O)$ OX O$ OJ O (zeb (k:=no) (K:=KI) WV (RT U3) O O O fM.m.mp) ?_;rintro w9 ⟨mc,aK⟩;dsimp only at mc;rw[Ud _ _ _ zv] at mc;have gS:=fM.ins (g:=⟨no,b,txt no,false⟩) ⟨by dsimp only;omega,ui⟩ bY (by unfold TJ at mc⊢;rw[List.map_append];exact mc) aK;have cR:=aK.On bY (ui 4);have uj:=aK.On F9 (ko 4);refine qM O$ OX O$ Qy O O (RY p8 O O) (EV w9 b (txt no) false nZ cR uj) ?_;rintro _ w10 ⟨rfl,rP,o3,aA⟩;refine qM O$ OK O$ Oo func120 O ?_
      have zu:∀i,¬QY.cp {P with A:=A2,V:=V2,D:={D' with reads:=IntKind.i64.wrap (D'.reads+1)},Fd:=Fd7,l:=l'++[⟨no,b,txt no,false⟩],mi:=z,wr:=wr'} i x:=λi e2=>by
       match i,e2 with
       |0,e2=>exact ko 0 e2
       |1,e2=>exact ko 1 e2
       |2,e2=>exact ko 2 e2
       |3,e2=>exact ko 3 e2
       |4,e2=>exact ko 4 e2
       | 5, ⟨q, hq, e2⟩ =>
         rcases List.mem_append.1 hq with e3|e3
         ·exact ko 5 ⟨q,e3,e2⟩
         ·rw[List.mem_singleton.1 e3] at e2;exact nZ e2
      exact⟨_,rfl,rfl,o3,_,gS.loc aA (λj e=>⟨.inr (by rw[show j=x from e];exact jB),by rw[show j=x from e];exact zu⟩),hI.zgn h0 h1 F0 oW (by rw[hT];exact dV) (by rw[hT]) O O O,⟨rfl,rfl,rfl,rfl,rfl,rfl,rfl,rfl,rfl⟩,zu⟩
    | some t =>
      refine Oq$ Ox O ?_;have mb:=cG.m.cells;dsimp only at mb;refine Ot$ P7 O$ Pb O$ OL Uz O$ qV (OB WV O O mb O)$ OX O$ OJ O (zeb (k:=no) (K:=KI) WV (RT U3) O O O cG.m.mp) ?_;rintro w9 ⟨mc,aK⟩;dsimp only at mc;rw[Ud _ _ _ zv] at mc;have gS:=cG.ins (g:=⟨no,b,[],false⟩) ⟨by dsimp only;omega,gB⟩ aT (by unfold TJ at mc⊢;rw[List.map_append];exact mc) aK;have cR:=aK.On aT (gB 4);have uj:=aK.On nY (eH 4);refine qM O$ OX O$ Qy O O (RY p8 O O) (EV w9 b [] false nZ cR uj) ?_;rintro _ w10 ⟨rfl,rP,o3,aA⟩;refine qM O$ OK O$ Oo func120 O ?_;have nJ:=gS.zhk (g:=⟨no,b,[],false⟩) (List.mem_append_right _ (List.mem_singleton.2 O)) rP aA;refine⟨_,rfl,rfl,o3,_,nJ,hI.zgn h0 h1 F0 oW (by rw[hT];exact dV) (by rw[hT]) (z0p lH) O O,⟨rfl,rfl,rfl,rfl,rfl,rfl,rfl,rfl,rfl⟩,λi e2=>?_⟩
      match i,e2 with
      |0,e2=>exact eH 0 e2
      |1,e2=>exact eH 1 e2
      |2,e2=>exact eH 2 e2
      |3,e2=>exact eH 3 e2
      |4,e2=>exact eH 4 e2
      | 5, ⟨q, hq, e2⟩ =>
        have e4:=z0p (b:=b) (t0:=[]) (t:=(some t).getD []) (d0:=false) (d:=(some t).isSome ||false) lH;have LS:q∈l'++[⟨no,b,(some t).getD [],(some t).isSome ||false⟩]:=by rw[<-e4];exact hq
        rcases List.mem_append.1 LS with e3|e3
        ·exact eH 5 ⟨q,e3,e2⟩
        ·rw[List.mem_singleton.1 e3] at e2;exact nZ e2
   case iG=>
    cases g with
    | none =>
      refine T2 O ?_
      exact(dr _ _ ⟨rfl,_,_,_,P.wr,bA,hI.zf2,qk,λj e=> .inl e⟩).qb
    | some gk =>
      obtain⟨LU,LV⟩:=gA.gone gk O
      obtain⟨q,hq,EX⟩:∃q∈P.l,q.k=gk:=by
       obtain⟨q,a,b⟩:=List.mem_map.1 ((hI.keys gk).2 LU);exact⟨q,a,b⟩
      subst EX;have eZ:=bA.m.get hq;dsimp only at eZ;have af:=Ext.OT w4;refine OI O$ An$ R8 (λw'=>Ext w4 w') O$ OR 0 O O (af)$ Ow 1 O (Q8 O) af$ Ow 2 O (Pk Uz O) af$ qT 3 O (λ_ h=>(OB WV O O (h.On iH) O)) af$ Ow 4 O (Pk z2v O) af$ qT 5 O (λ_ h=>(OB U3 O O (h.On m7) O)) af$ qT 6 O (λ_ h=>ylk (k:=q.k) (K:=KI) WV (RT U3) z9V O O (bA.m.ext' h).mp.l) af ?_;dsimp only;rw[eZ];refine Ow 7 O (Rr O) af$ qE$ P8.qb (e:=[(0,_),(1,_),(2,_),(3,_),(8,_),(9,_),(10,_),(11,_)]) ?_;refine An ?_;have dv:=Ext.OT w4.drew;have o4:=af.On iH;have lQ:=af.On m7;have bG:=bA.ext (af.trans dv);refine OW [6] (λw'=>Ext w4.drew w') (by kernel_rfl) O$ PF 0 O O (dv)$ P5 1 O (Q8 O) dv$ P5 2 O (Pk Uz O) dv$ qL 3 O (λ_ h=>(OB WV O O (h.On o4) O)) dv$ P5 4 O (Pk z2v O) dv$ qL 5 O (λ_ h=>(OB U3 O O (h.On lQ) O)) dv$ Th [6]$ qO 6$ zbd (i:=6) O O (zeK (k:=q.k) (K:=KI) WV (RT U3) O O bG.m.mp O) ?_;rintro _ w6 ⟨vQ,aJ⟩;refine⟨trivial,?_⟩;dsimp only at vQ;rw[z1I] at vQ;have cG:=bG.del (SL P.l q.k) vQ aJ;have Fa:OE w4 q.b (pgC q.t q.d) 220:=bA.m.pg q hq;have zD:q.b≠P.pm:=λe=>bA.m.UK 5 4 ψ q.b ⟨q,hq,rfl⟩ e;have sQ:=aJ.On ((af.trans dv).On Fa) zD
      have gB:∀i,¬QY.cp {P with A:=A2,V:=V2,h:=P.h,mi:=z,wr:=P.wr,l:=Sv P.l q.k} i q.b:=λi e=>by
       match i,e with
       |0,e=>exact bA.m.UK 5 0 ψ q.b ⟨q,hq,rfl⟩ e
       |1,e=>exact bA.m.UK 5 1 ψ q.b ⟨q,hq,rfl⟩ e
       |2,e=>exact bA.m.UK 5 2 ψ q.b ⟨q,hq,rfl⟩ e
       |3,e=>exact bA.m.UK 5 3 ψ q.b ⟨q,hq,rfl⟩ e
       |4,e=>exact zD e
       | 5, ⟨q2, gN, e⟩ =>
         have e2:q2=q:=SB bA.m.pnd ((SL P.l q.k).subset gN) hq e;have:=((z1j hI.nd q.k q2.k).1 (List.mem_map.2 ⟨q2,gN,rfl⟩)).2;exact this (by rw[e2])
      have qm:=hI.rng q hq;have EZ:=hI.tx q hq;have y7:q.t.length=512:=by rw[EZ];exact hI.len q.k qm.1 qm.2
      have nY:=aJ.On ((af.trans dv).On qk) (eG 4);have mb:=cG.m.cells;have Fb:=aJ.On ((af.trans dv).On m7) (zt 4);have z46:=(af.trans dv).size;have z56:=aJ.size;refine qE$ P7 O$ OL z2v O$ qV (OB U3 O O Fb O)$ OC O$ OQ zgR O (z4E cG.m hI.zeJ hI.down hI.due hI.B hI.N hK qm.1 qm.2 y7 sQ gB) ?_;rintro _ w7 ⟨rfl,Fd7,wr7,gy,ax,zx⟩;have zw:=cG.write gy ax zx (bA.fp q.b ⟨5,q,hq,rfl⟩);have ug:q.b≠x:=λe=>dJ 5 ⟨q,hq,e⟩
      have uh:=ax.On nY (λe=>by
       rcases e with e|e| e
       ·exact ug e.symm
       ·exact dJ 0 e
       ·exact dJ 1 e)
      refine QO O$ Ql O$ PX O ?_;exact(dr _ _ ⟨rfl,_,Fd7,_,wr7,zw,hI.zhX hq,uh,λj e=>(zx j e).imp id λe=>⟨ω,ω⟩⟩).qb
end
section
variable {w w':World}{P P':QY}{txt:Int->Ov}{K:Nat}
def z9n {b x:Nat}{t:Ov}{d:Bool}{x0:Value}(fF:b≠x)(hb:OE w b (pgC t d) 220)(hx:OE w x [x0] 9):P9 prog 121 [ptr b 0,ptr x 0] w λv w2=>v= .tuple #[]/\OE w2 b (pgC t d) 220/\OE w2 x [S t] 9/\Kp (λj=>j=x) w w2:=by
 replace hb:OE w b [S t,.bool d,I 0] 220:=hb
 refine py (e:=[(0,_),(1,_)]) func121 O ntmps121 O O$ R0 O$ Pb O$ OL Vz O$ OL z2y O$ qV (OB U9 O O hb O)$ OJ O (Qw ti9 O O O hx ξ) ?_
 rintro w1 ⟨ad,aG⟩
 refine Oq$ PQ func121 O ?_
 exact⟨_,rfl,rfl,aG.On hb fF,ad,aG⟩
def z5t {b x:Nat}{t s:Ov}{d:Bool}(fF:b≠x)(hb:OE w b (pgC t d) 220)(hx:OE w x [S s] 9):P9 prog 139 [ptr b 0,ptr x 0] w λv w2=>v= .tuple #[]/\OE w2 b (pgC s true) 220/\OE w2 x [S s] 9/\Kp (λj=>j=b) w w2:=by
 replace hb:OE w b [S t,.bool d,I 0] 220:=hb
 refine py (e:=[(0,_),(1,_)]) func139 O ntmps139 O O$ R0 O$ qV (OB U9 O O hx O)$ qV (Sa (cs:=[_,_]) z7t O zfX O O)$ Pb O$ OL Vz O$ OJ O (Py (news:=[S s,.bool true]) z7t O O O O hb ξ) ?_
 rintro w1 ⟨bK,aG⟩
 refine Oq$ PQ func139 O ?_
 exact⟨_,rfl,rfl,bK,aG.On hx (λe=>fF e.symm),aG⟩
def z5R (hm:TY w P)(hI:VM P txt K)(hK:K<1000000000000){no:Int}(h0:0<=no)(h1:no<(P.L.length:Int)):P9 prog 83 [ptr P.s 0,I no] w λv w'=>v= .tuple #[S (txt no),I 0]/\∃P',U6 w P w' P'/\VM P' txt K/\P.Same P':=by
 refine py (e:=[(0,_),(1,_)]) func83 O ntmps83 O O$ qN O$ Oy O O (Rq (cs:=[_]) ti9 O) ?_
 rintro _ w1 ⟨x,rfl,hx,ad,hB⟩
 have cW:=hm.r ad
 have dJ:∀i,¬P.cp i x:=hm.new ω
 refine OK O$ Pz O$ OQ zdt O (Zk cW.m hI.down) ?_
 rintro _ w1 ⟨rfl,rfl⟩
 refine QO O$ Ql O$ PX O$ Qh O$ qV (ymf (first:=[]) (caps:=[.tmp 4]) O O)$ OQ zdD O (Zx cW hI hK h0 h1 none (λt e=>by cases e) ω dJ hB zfv (λw1 b t d fF hb hx=>z9n fF hb hx)) ?_
 rintro _ w2 ⟨rfl,ak,P',da,cA,dg,zE⟩
 rw[Z2] at cA
 replace ak:OE w2 x [S (txt no)] 9:=ak
 refine QL O$ qV (OB U9 O O ak O)$ OC O$ OJ O (Qw ti9 O O O ak ξ) ?_
 rintro w3 ⟨ao,ar⟩
 replace ao:OE w3 x [S (txt no)] 9:=ao
 refine OK O$ P6 func83 (.cell1 U9 O O ((ao).cell _) (.tmp O .nil)) ?_
 exact⟨_,rfl,rfl,P',da.loc ar (λj e=>by rw[show j=x from e];exact⟨.inr ω,zE⟩),cA,dg⟩
def z7Z (hm:TY w P)(hI:VM P txt K)(hK:K<1000000000000){no:Int}(h0:0<=no)(h1:no<(P.L.length:Int))(t:Ov)(ht:t.length=512):P9 prog 100 [ptr P.s 0,I no,S t] w λv w'=>v=I 0/\∃P',U6 w P w' P'/\VM P' (YO txt no (some t)) (K+1)/\P.Same P':=by
 refine py (e:=[(0,_),(1,_),(2,_)]) func100 O ntmps100 O O$ qN O$ Oy O O (R9 O (cs:=[S t]) O) ?_
 rintro _ w1 ⟨x,rfl,hx,ad,hB⟩
 have cW:=hm.r ad
 have dJ:∀i,¬P.cp i x:=hm.new ω
 refine OK O$ Pz O$ OQ zdt O (Zk cW.m hI.down) ?_
 rintro _ w1 ⟨rfl,rfl⟩
 refine QO O$ Ql O ?_
 have hg:=Ext.OT w1
 refine PX O$ An$ An$ R8 (λw'=>Ext w1 w') O$ qT 0 O (λ_ h=>OB U9 O O (h.On hB) O) hg$ Ow 1 O (VX U9 O) hg$ OR 2 O O (hg)$ SH 3 O z4h O (z0T (cW.m.ext' hg) hI.N) ?_
 rintro _ w2 ⟨rfl,rfl⟩
 refine⟨hg,?_⟩
 refine Ow 4 O (yne O O) hg$ TK$ qE$ T2 O$ Qh O$ qV (ymf (first:=[]) (caps:=[.tmp 5]) O O)$ OQ zdD O (Zx (cW.ext hg) hI hK h0 h1 (some t) (λs e=>by cases e;exact ht) ω dJ (hg.On hB) zhw (λw1 b t2 d fF hb hx=>z5t fF hb hx)) ?_
 rintro _ w2 ⟨rfl,ak,P',da,cA,dg,zE⟩
 refine OK O$ Oo func100 O ?_
 exact⟨_,rfl,rfl,P',da,cA,dg⟩
def z5B (hm:TY w P){a n:Nat}(hp:Pre P.L a)(ce:1<=n)(oU:a+n<=P.L.length):P9 prog 66 [ptr P.s 0,I (n:Int)] w λv w'=>v= .tuple #[.agg #[I (a:Int),I (n:Int)],I 0]/\U6 w P w' {P with L:=PJ P.L a n true}:=by
 refine py (e:=[(0,_),(1,_)]) func66 O ntmps66 O O$ qN O$ Oy O O (Rq (cs:=[_,_]) QT O) ?_
 rintro _ w1 ⟨x,rfl,hx,ad,hB⟩
 have cW:=hm.r ad
 have dJ:∀i,¬P.cp i x:=hm.new ω
 have m9:=cW.m.cells
 refine OK O$ Pz O$ qV (PU XP O O)$ PX O$ P7 O$ Pb O$ OL z2o O$ qV (OB U66 O O m9 O)$ OC O$ OQ zjp O (z4L cW.m.ext hp ce oU) ?_
 rintro _ w2 ⟨rfl,dQ,am⟩
 have da:=cW.exM dQ am
 have ak:=am.On hB (λe=>dJ 2 (.inr e))
 refine qV (Rv (v:= .agg #[I (a:Int),I (n:Int)]) O O)$ qV (Rv (v:=I 0) O O)$ OJ O (Py (news:=[I (a:Int),I (n:Int)]) QT O O O O ak ξ) ?_
 rintro w3 ⟨ao,ar⟩
 replace ao:OE w3 x [I (a:Int),I (n:Int)] 124:=ao
 refine OK O$ P6 func66 (.cell WY O QT O (OE.cells (n:=2) ao (news:=[_,_]) O) O (.tmp O .nil)) ?_
 refine⟨_,rfl,rfl,da.loc ar (λj e=>by
  rw[show j=x from e];refine⟨.inr ω,λi e2=>?_⟩
  match i,e2 with
  |0,e2=>exact dJ 0 e2
  |1,e2=>exact dJ 1 e2
  |2,e2=>exact dJ 2 e2
  |3,e2=>exact dJ 3 e2
  |4,e2=>exact dJ 4 e2
  |5,e2=>exact dJ 5 e2)⟩
theorem VM.PI (h:VM P txt K){L':List Bool}(hl:L'.length=P.L.length):VM {P with L:=L'} txt K:=
 ⟨h.aok,h.asz,h.keys,h.nd,λg hg=>by rw[hl];exact h.rng g hg,h.tx,h.cl,λx h0 h1=>by rw[hl] at h1;exact h.out x h0 h1,λx h0 h1=>by rw[hl] at h1;exact h.len x h0 h1,h.down,h.due,h.B.trans hl.symm,h.N,h.ca,h.cc,h.Sn⟩
def z8I {d m gi:Nat}{L:List Bool}{Fd:Nat->Prop}(hd:VS w d (Dev.fresh L.length 1) Fd)(he:Xm w m gi L)(Bi:¬Fd m/\¬Fd gi)(n:Nat)(ce:1<=n)(jt:n<=1000):P9 prog 32 [ptr d 0,I (n:Int),ptr m 0] w λv w'=>∃P,v= .tuple #[ptr P.s 0,I 0]/\TY w' P/\VM P (λ_=>zeros 512) 0/\P.m=m/\P.gi=gi/\P.L=L/\(∀b,P.fp b->Fd b\/b=m\/b=gi\/w.heap.size<=b)/\Ext w w':=by
 refine py (e:=[(0,_),(1,_),(2,_)]) func32 O ntmps32 O O$ qN O$ Qd O$ Qt$ P7 O$ qV (PU U26 O O)$ OX O$ qV (PU U66 O O)$ PC O$ OK O$ Ox O$ P7 O$ Qv O$ Pu ?_
 refine OX O$ Qr O$ Pu$ PC O$ OK O$ T2 O$ Om$ P7 O$ OQ ziA O (z9C n ce ω w) ?_
 rintro _ w1 ⟨c,V,p,rfl,kN,iM,ad⟩
 refine OC O$ qV (Rv (v:=ptr c 0) O O)$ qV (Rv (v:=I 0) O O)$ Qd O$ P8.qb (e:=[(0,_),(1,_),(2,_),(6,_),(7,_),(8,_),(9,_)]) ?_
 refine Pz O$ Ql O$ PX O$ Qh O$ OC O$ Oy O O (pmm) ?_
 rintro _ w2 ⟨pm,rfl,Lv,ae,cN⟩
 have gH:Sr KI w2 pm []:=Sr.new cN
 have lpm:=gH.lt
 refine OC O$ qV (Sa (cs:=[_,_,_,_,_,_,_]) z1z O zjL O O)$ qV (Sa (cs:=[_,_,_,_,_,_,_,_,_,_,_,_]) zh9 O ziv O O)$ Oy O O (R9 O (cs:=plC ⟨0,d,m,gi,c,pm,p,n,V,Dev.fresh L.length 1,z5I n,[],L,Fd,0,0,0⟩) O) ?_
 rintro _ w3 ⟨s,rfl,hs,aj,ao⟩
 refine Qd O$ Oo func32 O ?_
 have z1:=ad.size
 have z2:=ae.size
 have eg:=ae.trans aj
 have cg:=ad.trans eg
 have vB:=kN.ext eg
 have Fc:∀{b:Nat},Ss c V p b->b<w1.heap.size:=kN.lt
 have Fe:=hd.lt
 have ltm:=he.ltm
 have ltg:=he.ltg
 refine⟨_,rfl,⟨s,d,m,gi,c,pm,p,n,V,Dev.fresh L.length 1,z5I n,[],L,Fd,0,0,0⟩,rfl,⟨ao,hd.ext cg,he.ext cg,vB,gH.ext aj,(λg hg=>by cases hg),List.nodup_nil,?_⟩,⟨zco ce,jt,λx=>?_,List.nodup_nil,(λg hg=>by cases hg),(λg hg=>by cases hg),(λg hg=>by cases hg),λx _ _ _=>rfl,λx _ _=>by simp[zeros],rfl,rfl,rfl,rfl,Int.le_refl _,Nat.le_refl _,Nat.zero_le _⟩,rfl,rfl,rfl,λb ⟨i,hb⟩=>?_,cg⟩
 ·intro i j ne b hb bP
  have cls:∀i,QY.cp ⟨s,d,m,gi,c,pm,p,n,V,Dev.fresh L.length 1,z5I n,[],L,Fd,0,0,0⟩ i b->(i=0/\b=s)\/(i=1/\Fd b/\b<w.heap.size)\/(i=2/\(b=m\/b=gi)/\b<w.heap.size)\/(i=3/\w.heap.size<=b/\b<w1.heap.size)\/(i=4/\b=pm):=λi hb=>by
   match i,hb with
   |0,e=>exact .inl ⟨rfl,e⟩
   |1,e=>exact .inr (.inl ⟨rfl,e,Fe b e⟩)
   |2,e=>exact .inr (.inr (.inl ⟨rfl,e,by have e':b=m\/b=gi:=e;omega⟩))
   |3,e=>exact .inr (.inr (.inr (.inl ⟨rfl,iM b e,Fc e⟩)))
   |4,e=>exact .inr (.inr (.inr (.inr ⟨rfl,e⟩)))
   |5,⟨g,hg,e⟩=>cases hg
  have h1:=cls i hb;have h2:=cls j bP;rcases h1 with⟨e,h1⟩|⟨e,h1,vA⟩|⟨e,h1,vA⟩|⟨e,h1,vA⟩|⟨e,h1⟩<;>rcases h2 with⟨f,h2⟩|⟨f,h2,Im⟩|⟨f,h2,Im⟩|⟨f,h2,Im⟩|⟨f,h2⟩<;>first|omega|skip
  ·rcases h2 with e| e
   ·exact Bi.1 (e▸h1)
   ·exact Bi.2 (e▸h1)
  ·rcases h1 with e| e
   ·exact Bi.1 (e▸h2)
   ·exact Bi.2 (e▸h2)
 ·constructor
  ·intro e;cases e
  ·intro e;rcases e with e|e<;>cases e
 ·match i,hb with
  |0,e=>exact .inr (.inr (.inr (by have:b=s:=e;omega)))
  |1,e=>exact .inl e
  |2,e=>rcases e with e|e;exact .inr (.inl e);exact .inr (.inr (.inl e))
  |3,e=>exact .inr (.inr (.inr (iM b e)))
  |4,e=>exact .inr (.inr (.inr (by have:b=pm:=e;omega)))
  |5,⟨g,hg,e⟩=>cases hg
end
def z9m {l:List (Int×Ov)}{n:Int}{t:Ov}(h:Wk l n=some t):∃x∈l,x.2=t:=by
 unfold Wk at h
 obtain⟨x,hx,e⟩:=Option.map_eq_some_iff.1 h
 exact⟨x,List.mem_reverse.1 (List.mem_of_find?_eq_some hx),e⟩
theorem Dev.Ok.zcK {D:Dev}(h:D.Ok)(n:Int):(D.now n).length=512*D.N:=by
 unfold Dev.now
 cases hl:Wk D.cache n with
 |none=>exact h.kept n
 | some t =>
   obtain⟨x,hx,rfl⟩:=z9m hl;exact(h.cache x hx).2.2
section
variable {w w':World}{P P':QY}{txt:Int->Ov}{K:Nat}
def VM.zhf (h:VM P txt K)(aw:P.D.Ok){k:Int}:VM {P with A:=P.A.drop k,l:=Sv P.l k} (λx=>if x=k then P.D.now k else txt x) K:=by
 have hk:=z1j h.nd k
 have dC:=SL P.l k
 have bu:=Arc.z88 h.aok k
 have Ik:=h.ca
 have ES:=h.cc
 have zp:RI (Sv P.l k)<=RI P.l:=dC.countP_le
 have gz:∀q∈Sv P.l k,q∈P.l/\q.k≠k:=λq hq=>⟨dC.subset hq,((hk q.k).1 (List.mem_map.2 ⟨q,hq,rfl⟩)).2⟩
 refine⟨h.aok.drop k,h.asz,λx=>by dsimp only;rw[hk,bu,h.keys],(dC.map _).nodup h.nd,λq hq=>h.rng q (gz q hq).1,λq hq=>?_,λq hq hd=>?_,λx h0 h1 hx=>?_,λx h0 h1=>?_,h.down,h.due,h.B,h.N,by dsimp only;omega,by dsimp only;omega,h.Sn⟩
 ·rw[if_neg (gz q hq).2];exact h.tx q (gz q hq).1
 ·rw[if_neg (gz q hq).2];exact h.cl q (gz q hq).1 hd
 ·dsimp only at h1 hx⊢;rw[bu,not_and] at hx;by_cases e:x=k
  ·rw[if_pos e,e]
  ·rw[if_neg e];exact h.out x h0 h1 λe2=>hx e2 e
 ·dsimp only at h1⊢;by_cases e:x=k
  ·rw[if_pos e,aw.zcK,h.N]
  ·rw[if_neg e];exact h.len x h0 h1
def VM.VT (h:VM P txt K)(hA:P'.A=P.A)(hl:P'.l=P.l)(hD:P'.D=P.D)(hL:P'.L=P.L):VM P' txt K:=by
 obtain⟨a1,a2,a3,a4,a5,a6,a7,a8,a9,b1,b2,b3,b4,b5,b6,b7⟩:=h
 constructor<;>simp only[hA,hl,hD,hL]<;>assumption
def TY.dok (h:TY w P):P.D.Ok:=by
 obtain⟨m,kp,ca,h1,-⟩:=h.dev
 exact h1.ok
def z8c (l:List Pg)(k:Int):(k∉l.map (·.k)/\R1 (TJ l) k=none)\/∃q∈l,q.k=k/\R1 (TJ l) k=some (ptr q.b 0):=by
 induction l with
 |nil=>exact .inl ⟨ξ,rfl⟩
 | cons g l ih =>
   show _\/_;by_cases h:k=g.k
   ·exact .inr ⟨g,List.mem_cons_self,h.symm,if_pos h⟩
   ·have e:R1 (TJ (g::l)) k=R1 (TJ l) k:=if_neg h;rw[e];rcases ih with⟨a,b⟩|⟨q,a,b,c⟩
    ·exact .inl ⟨by simp[h] at a⊢;exact a,b⟩
    ·exact .inr ⟨q,List.mem_cons_of_mem _ a,b,c⟩
def z5Z (hm:TY w P)(hI:VM P txt K){s n:Nat}(ce:1<=n)(j9:s+n<=P.L.length):P9 prog 108 [ptr P.s 0,.agg #[I (s:Int),I (n:Int)]] w λv w'=>v=I 0/\∃P' txt',U6 w P w' P'/\VM P' txt' K/\(∀x:Int,x<(s:Int)\/(s:Int)+(n:Int)<=x->txt' x=txt x)/\P.Same P':=by
 have en:=hm.ext.n
 have m9:=hm.cells
 refine py (e:=[(0,_),(1,_)]) func108 O ntmps108 O O$ qN O$ Oy O O (R9 O (cs:=[I (s:Int),I (n:Int)]) O) ?_
 rintro _ w1 ⟨b3,rfl,dY,ad,ao⟩
 have cW:=hm.r ad
 have pO:∀i,¬P.cp i b3:=hm.new ω
 have qn:=ad.On m9
 have hg:=Ext.OT w1
 have ft:=We (cW.m.dev.ext hg)
 rw[hI.B] at ft
 refine OK O$ Qt$ P7 O$ qV (PU XP O O)$ OK O$ Ox O$ P7 O$ Pb O$ OL z7b O$ qV (OB U4 O O qn O)$ OK O$ Ox O$ An$ R8 (λw'=>Ext w1 w') O ?_
 refine Ow 0 O (Pk QX O) hg$ qT 1 O (λ_ h=>(OB U3 O O (h.On ao) O)) hg$ Ow 2 O (ylt O O) hg$ TK$ OR 3 O O (hg)$ Ow 4 O (Pk QJ O) hg$ qT 5 O (λ_ h=>(OB U3 O O (h.On ao) O)) hg$ Ow 6 O (ylt O O) hg$ TK$ Ow 7 O (U0 O O) hg$ OR 8 O O (hg)$ Ow 9 O (Pk QJ O) hg$ qT 10 O (λ_ h=>(OB U3 O O (h.On ao) O)) hg$ OR 11 O O (hg) ?_
 refine Ow 12 O (Q8 O) hg$ Ow 13 O (Pk UJ O) hg$ qT 14 O (λ_ h=>(OB U26 O O (h.On qn) O)) hg$ SH 15 O z4v O (ft) ?_
 rintro _ w2 ⟨rfl,rfl⟩
 refine⟨hg,?_⟩
 refine Ow 16 O (yge O O) hg$ TK$ Ow 17 O (U0 O O) hg$ OR 18 O O (hg)$ Ow 19 O (Pk QX O) hg$ qT 20 O (λ_ h=>(OB U3 O O (h.On ao) O)) hg$ OR 21 O O (hg)$ Ow 22 O (Q8 O) hg$ Ow 23 O (Pk UJ O) hg$ qT 24 O (λ_ h=>(OB U26 O O (h.On qn) O)) hg$ Ow 26 O (Pk QJ O) hg$ qT 27 O (λ_ h=>(OB U3 O O (h.On ao) O)) hg$ SH 25 O z4v O (ft) ?_
 rintro _ w2 ⟨rfl,rfl⟩
 refine⟨hg,?_⟩
 refine Ow 28 O (X8 O O ω) hg$ Ow 29 O (XQ O O) hg$ TK$ Ow 30 O (U0 O O) hg$ Ow 31 O (Rr O) hg ?_
 obtain⟨w2,mC⟩:∃w2,w1.drew=w2:=⟨_,rfl⟩
 rw[mC] at hg⊢
 have df:=hg.On ao
 have da:=cW.ext hg
 have kq:=hg.On qn
 have l3:=df.lt
 refine qE$ P8.qb (e:=[(0,_),(3,_),(4,_),(16,_)]) ?_
 refine T2 O$ Om$ An$ qN O$ OL QX O$ qV (OB U3 O O df O)$ OC O$ Oq$ Ou$ Rw (α:=Nat) (0) (λi=>[(0,ptr P.s 0),(3,ptr b3 0),(49,I (n:Int)),(50,I (i:Int))]) (λi w'=>Ext w2 w'/\i<=n) (λi=>n-i) ?hI ?hround
 case hI=>exact⟨Ext.refl _,Nat.zero_le _⟩
 case hround =>
  rintro i w3 ⟨aj,hi⟩ ih;have cb:=da.ext aj;have km:=aj.On kq;have ez:=aj.On df;have ag:=Ext.OT w3
  try dsimp only
  refine qN O$ Qv O$ Oq$ An$ OH O (λh0=>?_)$ λh0=>?_
  ·refine Ot (Qt (P7 O (OK O (An (R8 (λw'=>Ext w3 w') O (OR 0 O O (ag) (Ow 1 O (Q8 O) ag (Ow 2 O (Pk Uz O) ag (qT 3 O (λ_ h=>(OB WV O O (h.On km) O)) ag (Ow 4 O (Pk QJ O) ag (qT 5 O (λ_ h=>(OB U3 O O (h.On ez) O)) ag (OR 6 O O (ag) (Ow 7 O (Uw O O ω) ag ?_)))))))))))));rw[show(s:Int)+(i:Int)=((s+i:Nat):Int) by omega];refine qT 8 O (λ_ hS=>ylk (k:=((s+i:Nat):Int)) (K:=KI) WV (RT U3) z9V O O (cb.m.ext' hS).mp.l) ag ?_;rcases z8c P.l ((s+i:Nat):Int) with⟨-,eZ⟩|⟨q,hq,-,eZ⟩
   ·rw[eZ];refine Ow 9 O (Rr O) ag$ qE$ P7 O$ qV (z3H zg5 O O)$ OC O$ QI$ QI$ qS$ PC O$ PX O$ Om$ Oz O$ PL O$ OC O ?_;refine Oq ?_;exact(ih (i+1) _ ⟨aj.trans ag,ω⟩ ω).qb
   ·rw[eZ];have qR:=(ag.On (cb.m.pg q hq):OE w3.drew q.b [S q.t,.bool q.d,I 0] 220);refine Ow 9 O (Rr O) ag$ qE$ P7 O$ qV (z3H zg5 O O)$ OX O$ Pb O$ OL zbG O$ qV (OB U3 O O qR O)$ Qr O$ Pu$ QQ O$ PX O$ Om$ Oz O ?_;refine PL O$ OC O$ Oq ?_;exact(ih (i+1) _ ⟨aj.trans ag,ω⟩ ω).qb
  ·have aO : i = n := by omega
   subst aO;refine OD O$ An$ qN O$ OL QX O$ qV (OB U3 O O ez O)$ OC O$ Oq$ Ou$ Rw (α:=Nat×QY×(Int->Ov)) ((0,P,txt)) (λy=>[(0,ptr P.s 0),(3,ptr b3 0),(73,I (i:Int)),(74,I (y.1:Int))]) (λy w'=>U6 w P w' y.2.1/\VM y.2.1 y.2.2 K/\y.1<=i/\P.Same y.2.1/\(∀x:Int,x<(s:Int)\/(s:Int)+(i:Int)<=x->y.2.2 x=txt x)/\OE w' b3 [I (s:Int),I (i:Int)] 124/\∀j,¬y.2.1.cp j b3) (λy=>i-y.1) ?hI ?hround
   case hI=>exact⟨cb,hI,Nat.zero_le _,⟨rfl,rfl,rfl,rfl,rfl,rfl,rfl,rfl,rfl⟩,λx _=>rfl,ez,pO⟩
   case hround =>
    rintro⟨j,Pj,tj⟩ w4 ⟨bA,mA,hj,cf,iQ,dl,nS⟩ ih2;dsimp only at bA mA hj cf iQ dl nS ih2⊢;have iH:=bA.m.cells;rw[cf.s] at iH;have af:=Ext.OT w4;have dv:=Ext.OT w4.drew
    try dsimp only
    refine qN O$ Qv O$ Oq$ An$ OH O (λh2=>?_)$ λh2=>?_
    ·refine Ot (Qt (P7 O (OK O (An (OW [8] (λw'=>Ext w4 w') (by kernel_rfl) O (PF 0 O O (af) (P5 1 O (Q8 O) af (P5 2 O (Pk Uz O) af (qL 3 O (λ_ h=>(OB WV O O (h.On iH) O)) af (P5 4 O (Pk QJ O) af (qL 5 O (λ_ h=>(OB U3 O O (h.On dl) O)) af (PF 6 O O (af) (P5 7 O (Uw O O ω) af ?_)))))))))))));refine Th [8] ?_;rw[show(s:Int)+(j:Int)=((s+j:Nat):Int) by omega];refine qO 8$ zbd (i:=8) O O (zeK (k:=((s+j:Nat):Int)) (K:=KI) WV (RT U3) O O (bA.ext af).m.mp O) ?_;rintro _ w5 ⟨qg,ai⟩;refine⟨trivial,?_⟩;rw[z1I] at qg;have bG:=(bA.ext af).del (SL _ _) qg ai;have cK:=ai.On (af.On dl) (nS 4);have o4:=bG.m.cells;dsimp only at o4;rw[cf.s] at o4;have dA:=Ext.OT w5;have cG:=bG.ext dA;refine qE (OW [8] (λw'=>Ext w5 w') (by kernel_rfl) O (PF 0 O O (dA) (P5 1 O (Q8 O) dA (P5 2 O (Pk z6X O) dA (qL 3 O (λ_ h=>(OB zaf O O (h.On o4) O)) dA (P5 4 O (Pk QJ O) dA (qL 5 O (λ_ h=>(OB U3 O O (h.On cK) O)) dA (PF 6 O O (dA) (P5 7 O (Uw O O ω) dA (Th [8] ?_))))))))));rw[show(s:Int)+(j:Int)=((s+j:Nat):Int) by omega];refine SH 8 O zhV O (z8o cG.m.arc (k:=((s+j:Nat):Int))) ?_;rintro _ w6 ⟨⟨z,rfl⟩,V6,rO⟩;refine⟨trivial,?_⟩;have zw:=cG.arc rO;have j3:=rO.k.On (dA.On cK) (nS 3);refine qE$ Om$ Oz O$ PL O$ OC O$ Oq ((ih2 (j+1,_,_) _ ⟨zw,(mA.zhf bA.m.dok (k:=((s+j:Nat):Int))).VT O O O O,by dsimp only;omega,⟨cf.s,cf.d,cf.m,cf.gi,cf.c,cf.pm,cf.p,cf.fr,cf.L⟩,λx hx=>?_,j3,λi2 e=>?_⟩ (by dsimp only;omega)).qb)
     ·show(if x=((s+j:Nat):Int) then Pj.D.now ((s+j:Nat):Int) else tj x)=txt x;rw[if_neg ω];exact iQ x hx
     ·match i2,e with
      |0,e=>exact nS 0 e
      |1,e=>exact nS 1 e
      |2,e=>exact nS 2 e
      | 3, e =>
        rcases rO.fp b3 e with e| e
        ·exact nS 3 e
        ·have:=(dA.On cK).lt;omega
      |4,e=>exact nS 4 e
      |5,⟨q,hq,e⟩=>exact nS 5 ⟨q,(SL _ _).subset hq,e⟩
    ·have rv:j=i:=by omega
     subst rv;refine OD O$ QB O$ Oo func108 O ?_;exact⟨_,rfl,rfl,Pj,tj,bA,mA,iQ,cf⟩
def z6y (hm:TY w P)(hI:VM P txt K){s n:Nat}(ce:1<=n)(dg:2<=s)(j9:s+n<=P.L.length)(hc:∀i,s<=i->i<s+n->P.L[i]? =some true):P9 prog 73 [ptr P.s 0,.agg #[I (s:Int),I (n:Int)]] w λv w'=>v=I 0/\∃P' txt',U6 w P w' {P' with L:=PJ P.L s n false}/\VM {P' with L:=PJ P.L s n false} txt' K/\(∀x:Int,x<(s:Int)\/(s:Int)+(n:Int)<=x->txt' x=txt x)/\P.Same P':=by
 refine py (e:=[(0,_),(1,_)]) func73 O ntmps73 O O$ qN O$ Oy O O (R9 O (cs:=[I (s:Int),I (n:Int)]) O) ?_
 rintro _ w1 ⟨b3,rfl,dY,ad,ao⟩
 have cW:=hm.r ad
 have pO:∀i,¬P.cp i b3:=hm.new ω
 refine OK O$ Pz O$ qV (Pa (news:=[I (s:Int),I (n:Int)]) WY O QT O (OE.cells (n:=2) ao O) O)$ OQ zid O (z5Z cW.m hI ce j9) ?_
 rintro _ w2 ⟨rfl,P',txt',da,cA,iQ,cf⟩
 have l3:=ao.lt
 have df:=da.k.On ao (λ⟨i,e⟩=>pO i e)
 have uk:=cW.trans da
 have kq:=uk.m.cells
 rw[cf.s] at kq
 refine QO O$ Ql O ?_
 have aa:=Ext.OT w2
 have kX:=(uk.ext aa).m.ext
 rw[cf.L] at kX
 refine PX O$ An$ OW [5,6] (λw'=>Ext w2 w') (by kernel_rfl) O$ PF 0 O O (aa)$ P5 1 O (Q8 O) aa$ P5 2 O (Pk z2o O) aa$ qL 3 O (λ_ h=>OB U66 O O (h.On kq) O) aa$ qL 4 O (λ_ h=>Pa (news:=[I (s:Int),I (n:Int)]) WY O QT O (OE.cells (n:=2) (h.On df) O) O) aa$ Th [5]$ SH 5 O zgk O (z5W kX s n ce dg j9 hc) ?_
 rintro _ w3 ⟨rfl,HW,aq⟩
 refine⟨trivial,?_⟩
 have cb:=(uk.ext aa).exM HW aq
 refine Ow 6 O (Rr O) trivial$ qE$ Oo func73 O ?_
 exact⟨_,rfl,rfl,P',txt',cb,cA.PI (by rw[PY j9,cf.L]),iQ,cf⟩
end
end Go.Proofs.YtbihggbffaigjaaGreatDoor
