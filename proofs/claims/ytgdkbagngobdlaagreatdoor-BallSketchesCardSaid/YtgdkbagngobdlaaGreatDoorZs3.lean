/- Merged by program. -/
import Derived.Test.YtgdkbagngobdlaaGreatDoorZs2
import Derived.Sort.AssemblyPlain
set_option linter.all false
set_option maxRecDepth 1000000
set_option maxHeartbeats 16000000
namespace Go.Proofs.YtgdkbagngobdlaaGreatDoor
open Go Go.RowKit Go.Proofs.Tryz
abbrev OB (n:Nat):Value:= .int .u32 (n:Int)
theorem z3l (m:Nat)(h:m<18446744073709551616):m^^^18446744073709551615=18446744073709551615-m:=by
 have h1:=congrArg BitVec.toNat (BitVec.xor_allOnes (x:=BitVec.ofNat 64 m))
 rw[BitVec.toNat_xor,BitVec.toNat_not,BitVec.toNat_allOnes,BitVec.toNat_ofNat] at h1
 rw[show(2:Nat)^64=18446744073709551616 from rfl,Nat.mod_eq_of_lt h] at h1
 exact h1
section
variable {P:Program}{e:Env}{d:Option Nat}{ty t t':TypeId}{pos:String}{aft:Array Edge}{g:Option (Nat×Bool)}{x y:Operand}{w:World}{m:Nat}
theorem ziX (hx:look e x=some (I (m:Int)))(hy:look e y=some (I 0))(hm:m<2^63):Y P e ⟨d,.binOp .xor t x y t',ty,pos,aft,g⟩ (I (m:Int)) w w:=fun ρ hρ=>by
 have h1:m<2^IntKind.i64.bits:=by simp only[IntKind.bits];omega
 have h2:(BitVec.ofInt IntKind.i64.bits 0).toNat=0:=by decide
 simp only[execOp,eqGuard_xor,binOp_xor,intBits_xor,hρ _ _ hx,hρ _ _ hy,pure_bind,Sem.run_pure,bits,BitVec.toNat_xor,PS h1,h2,Nat.xor_zero]
 rw[wrap_i64 ⟨by omega,by omega⟩]
theorem zhf (hx:look e x=some (I (m:Int)))(hy:look e y=some (I (-1)))(hm:m<2^63):Y P e ⟨d,.binOp .xor t x y t',ty,pos,aft,g⟩ (I (-(m:Int)-1)) w w:=fun ρ hρ=>by
 have h1:m<2^IntKind.i64.bits:=by simp only[IntKind.bits];omega
 have h2:(BitVec.ofInt IntKind.i64.bits (-1)).toNat=18446744073709551615:=by decide
 simp only[execOp,eqGuard_xor,binOp_xor,intBits_xor,hρ _ _ hx,hρ _ _ hy,pure_bind,Sem.run_pure,bits,BitVec.toNat_xor,PS h1,h2]
 rw[z3l m (by omega)]
 congr 2
 have h3:((18446744073709551615-m:Nat):Int)=-(m:Int)-1+18446744073709551616:=by omega
 rw[h3]
 simp only[IntKind.wrap,IntKind.bits,IntKind.signed]
 simp
 omega
end
/-! ### Numbers with a sign -/
theorem z7j (z:Int)(h: -4611686018427387904<=z/\z<4611686018427387904)(w:World):Oy prog 236 [I z] w λu w'=>u=u64v (zig z)/\w'=w:=by
 rcases Int.lt_or_le z 0 with h0|h0
 ·obtain⟨n,rfl⟩:∃n:Nat,z=-(n:Int)-1:=⟨(-z-1).toNat,by omega⟩;refine NP (e:=[(0,_)]) func236 O ntmps236 O O$ qN O$ Oc O$ qM O$ NT O$ qV (ycv (b:=((18446744073709551615-n:Nat):Int)) O U2 Qy (by simp only[IntKind.wrap,IntKind.bits,IntKind.signed];simp;omega)) ?_;refine qV (PX 1 2 O O (by decide) O)$ NT O$ qV (ysr 63 O O (by decide)) ?_;rw[show(-(n:Int)-1) / 2^63=-1 by omega];refine qV (ycv (b:=((18446744073709551615:Nat):Int)) O U2 Qy (by decide))$ qV (TN O O (by omega) (by omega))$ NZ O$ NV func236 O (⟨_,rfl,?_,rfl⟩);rw[z3l _ (by omega)];simp only[Pn]
  congr 2
  unfold zig;rw[if_neg (by omega)];omega
 ·obtain⟨n,rfl⟩:∃n:Nat,z=(n:Int):=⟨z.toNat,by omega⟩;refine NP (e:=[(0,_)]) func236 O ntmps236 O O$ qN O$ Oc O$ qM O$ NT O$ qV ((Pf O U2 Qy (by omega)))$ qV (PX 1 2 O O (by decide) O)$ NT O$ qV (R9 63 9223372036854775808 O O (by decide) O)$ qV ((Pf O U2 Qy (by omega)))$ qV (TN O O (by omega) (by omega))$ NZ O$ NV func236 O (⟨_,rfl,?_,rfl⟩);rw[show n / 9223372036854775808=0 by omega,Nat.xor_zero];simp only[Pn]
  congr 2
  unfold zig;rw[if_pos (by omega)];omega
theorem z6T (n:Nat)(h:n<9223372036854775808)(w:World):Oy prog 261 [u64v n] w λu w'=>u=I (zag n)/\w'=w:=by
 refine NP (e:=[(0,_)]) func261 O ntmps261 O O$ qN O$ Oc O$ qM O$ NT O$ qV (R9 1 2 O O (by decide) O)$ qV (OT O Qy U2 (by omega))$ NT O$ qV (Sq O O (by omega) (by omega)) ?_
 rw[Nat.and_one_is_mod]
 refine qV (OT O Qy U2 (by omega)) ?_
 rcases Nat.mod_two_eq_zero_or_one n with h0|h0
 ·rw[h0];refine qV (yng O (by decide) (by decide))$ qV (ziX O O (by omega))$ NZ O$ NV func261 O (⟨_,rfl,?_,rfl⟩);simp only[Pn];unfold zag;rw[if_pos h0]
 ·rw[h0];refine qV (yng O (by decide) (by decide))$ qV (zhf O O (by omega))$ NZ O$ NV func261 O (⟨_,rfl,?_,rfl⟩);simp only[Pn];unfold zag;rw[if_neg (by omega)]
/-! ### The parameters -/
def Z9 (p:Rf):List Value:=[I (p.Ou:Int),I (p.interval:Int),I (p.zeta:Int)]
abbrev lpV (p:Rf):Value:= .agg (Z9 p).toArray
def Rf.PI (p:Rf):Prop:=p.Ou<=16/\(p.interval=0\/2<=p.interval/\p.interval<=64)/\1<=p.zeta/\p.zeta<=16
theorem T6 (p:Rf)(hp:p.PI)(w:World):Oy prog 208 [lpV p] w λu w'=>u=I 0/\Ext w w':=by
 obtain⟨h1,h2,h3,h4⟩:=hp
 refine NP (e:=[(0,_)]) func208 O ntmps208 O O$ qN O$ O5 O O (Qr O (cs:=Z9 p) O) ?_
 rintro _ w1 ⟨b1,rfl,bK,ad,ai⟩
 replace ai:O9 w1 b1 [I (p.Ou:Int),I (p.interval:Int),I (p.zeta:Int)] 279:=ai
 refine NZ O$ py$ NQ$ py$ qN O$ Og So O$ qV (O6 U3 O O ai O)$ Py O O$ OR$ NT O$ Og So O$ qV (O6 U3 O O ai O)$ PD O O$ OR ?_
 refine OU O O$ NZ O$ It O$ qN O$ Og Zn O$ qV (O6 U3 O O ai O)$ Py O O$ OR$ NT O$ Og Zn O$ qV (O6 U3 O O ai O)$ PD O O$ OR$ OU O O ?_
 refine NZ O$ It O$ NW O$ Og Tf O$ qV (O6 U3 O O ai O)$ Pz O O$ Rv (λe1=>?_)$ λe1=>?_
 ·refine NT O$ Og Tf O$ qV (O6 U3 O O ai O)$ Py O O$ OR$ NT O$ Og Tf O$ qV (O6 U3 O O ai O)$ PD O O$ OR$ OU O O$ PT O O$ NZ O$ OD.qb (e:=[(2,_),(3,_)]) ?_;refine It O$ An$ NS$ qN O$ NZ O$ NV func208 O ?_;exact⟨_,rfl,rfl,ad⟩
 ·refine NT O$ qS$ qS$ qS$ qS$ qS$ qS$ qS$ qS$ OU O O$ NZ O$ OD.qb (e:=[(2,_),(3,_)]) ?_;refine It O$ An$ NS$ qN O$ NZ O$ NV func208 O ?_;exact⟨_,rfl,rfl,ad⟩
theorem UF (n:Nat)(h:n<65536)(w:World):Oy prog 230 [I (n:Int)] w λu w'=>u= .bool true/\w'=w:=by
 refine NP (e:=[(0,_)]) func230 O ntmps230 O O$ qN O$ Oc O$ qM O$ NT O$ SB O O$ Qs$ Od O O$ Py O O$ Qs$ PT O O$ NZ O$ NV func230 O ?_
 exact⟨_,rfl,rfl,rfl⟩
structure OQ (l:List Nat):Prop where
 YF:Ris l
 lt:∀y∈l,y<65536
theorem z2j:∀(l:List Nat) (lo hi:Nat),Ris l->(∀y∈l,lo<=y/\y<hi)->lo<=hi->lo+l.length<=hi
 |[],lo,hi,_,_,h=>h
 | x :: l, lo, hi, hr, hm, h => by
   have h1:=(List.pairwise_cons.1 hr);have h2:=hm x List.mem_cons_self;have:=z2j l (x+1) hi h1.2 (λy hy=>⟨h1.1 y hy,(hm y (List.mem_cons_of_mem _ hy)).2⟩) (by omega);rw[List.length_cons];omega
theorem OQ.len {l:List Nat}(h:OQ l):l.length<=65536:=by
 have:=z2j l 0 65536 h.YF (λy hy=>⟨Nat.zero_le _,h.lt y hy⟩) (by decide)
 omega
theorem OQ.sub {l m:List Nat}(h:OQ l)(hs:m.Sublist l):OQ m:=⟨h.YF.sublist hs,λy hy=>h.lt y (hs.subset hy)⟩
theorem Vt (v:Value)(l:List Nat)(hl:OQ l)(w:World)(hr:Rd w v 1 l.length (l.map OB)):
  Oy prog 231 [v] w λu w'=>u= .bool true/\w'=w:=by
 have aF:=hl.len
 obtain⟨a,cap,rfl,ha⟩:=hr.shape
 refine NP (e:=[(0,_)]) func231 O ntmps231 O O$ qN O$ NZ O$ py$ qN O$ NT O$ Qx OA O$ NT O$ NU$ NQ$ Qm (α:=Nat) (0) (λi=>[(0,.slice a l.length cap),(5,.slice a l.length cap),(6,I (l.length:Int)),(7,I (i:Int))]) (λi w'=>w'=w/\i<=l.length) (λi=>l.length-i) ?hI ?hround
 case hI=>exact⟨rfl,by omega⟩
 case hround=>
  rintro i _ ⟨rfl,hi⟩ ih
  try dsimp only
  refine qN O$ Py O O$ NU$ py$ O8 O (λaZ=>?_)$ λaZ=>?_
  ·have fZ:i<l.length:=by omega
   have hy:=hl.lt l[i] (List.getElem_mem fZ);rcases hr.2 with⟨c,-,h⟩|⟨b,off,cap',lB,aW⟩
   ·omega
   cases lB;refine An$ py$ NQ$ qN O$ NT O$ qV (P7 OA O7 O O (by omega))$ qV (OC OJ O O (aW (i*1) (OB l[i]) (by simp[fZ]))) ?_;refine Oc O$ Oc O$ qM O$ NT O$ SB O O$ OR$ Od O O$ PD O O$ Rv (λe1=>?_)$ λe1=>?_
   ·have hp:l[i-1]<l[i]:=(List.pairwise_iff_getElem.1 hl.YF) (i-1) i (by omega) fZ (by omega);refine Od O O$ Od O O$ Qp O O ?_;rw[show(i:Int)-1=((i-1:Nat):Int) by omega];refine qV (P7 OA O7 O O (by omega))$ qV (OC OJ O O (aW ((i-1)*1) (OB l[i-1]) (by simp[show i-1<l.length by omega]))) ?_;refine zle O O$ OR$ PT O O$ OU O O$ NU$ It O$ An$ NS$ NW O$ P6 O O$ NT O$ NU ?_;exact(ih (i+1) _ ⟨rfl,by omega⟩ (by omega)).qb
   ·refine NT O$ qS$ qS$ qS$ qS$ qS$ qS$ qS$ OU O O$ OU O O$ NU$ It O$ An$ NS ?_;refine NW O$ P6 O O$ NT O$ NU ?_;exact(ih (i+1) _ ⟨rfl,by omega⟩ (by omega)).qb
  ·refine O4 O$ qN O$ NZ O$ NV func231 O ?_;exact⟨_,rfl,rfl,rfl⟩
theorem zay (p:Rf)(hp:p.PI)(x:Nat)(hx:x<65536)(v u:Value)(l m:List Nat)(r:Nat)(hl:OQ l)(hm:OQ m)(hr:r<=p.Ou)(lC:r=0->m=[])(w:World)
  (ia:Rd w v 1 l.length (l.map OB)) (AC:Rd w u 1 m.length (m.map OB)):
  Oy prog 209 [lpV p,I (x:Int),v,u,I (r:Int)] w λo w'=>o= .bool true/\Ext w w':=by
 obtain⟨h1,h2,h3,h4⟩:=id hp
 refine NP (e:=[(0,_),(1,_),(2,_),(3,_),(4,_)]) func209 O ntmps209 O O$ qN O$ O5 O O (Qr O (cs:=Z9 p) O) ?_
 rintro _ w1 ⟨b1,rfl,bK,ad,ai⟩
 refine Oc O$ qM O$ qV (OE (news:=Z9 p) YG O Ta O (ai.cells (n:=3) O) O)$ Om z4j O (T6 p hp w1) ?_
 rintro _ w2 ⟨rfl,ae⟩
 have am:=ae.NX ai
 replace am:O9 w2 b1 [I (p.Ou:Int),I (p.interval:Int),I (p.zeta:Int)] 279:=am
 refine Qe O O$ Qs$ Od O O$ Om z6x O (UF x hx w2) ?_
 rintro _ w3 ⟨rfl,rfl⟩
 refine PT O O$ Od O O$ Om z3Z O (Vt v l hl w3 (ia.ext (ad.trans ae))) ?_
 rintro _ w4 ⟨rfl,rfl⟩
 refine PT O O$ Od O O$ Om z3Z O (Vt u m hm w4 (AC.ext (ad.trans ae))) ?_
 rintro _ w5 ⟨rfl,rfl⟩
 refine PT O O$ NT O ?_
 obtain⟨ua,uc,rfl,-⟩:=AC.shape
 refine NT O$ SB O O$ Qs$ PT O O$ Od O O$ Og So O$ qV (O6 U3 O O am O)$ zle O O$ Qs$ PT O O$ Od O O$ PD O O$ Rv (λe1=>?_)$ λe1=>?_
 ·refine NT O$ qS$ qS$ qS$ PT O O$ PT O O$ NZ O$ OD.qb (e:=[(10,_)]) ?_;refine NV func209 O ?_;exact⟨_,rfl,rfl,ad.trans ae⟩
 ·have e2:=lC (by omega);subst e2;refine Od O O$ Qx OA O$ Qe O O$ Qs$ OU O O$ PT O O$ NZ O$ OD.qb (e:=[(10,_)]) ?_;refine NV func209 O ?_;exact⟨_,rfl,rfl,ad.trans ae⟩
theorem XZ (l:List Nat):∀c∈l.map OB,c.oneCell'=true:=by
 intro c hc
 obtain⟨x,-,rfl⟩:=List.mem_map.1 hc
 rfl
def z1b (p:Nat×Nat):List Value:=[I (p.1:Int),I (p.2:Int)]
theorem z8w (l:List (Nat×Nat)):(l.flatMap z1b).length=l.length*2:=by
 induction l with
 |nil=>rfl
 |cons p l ih=>rw[List.flatMap_cons,List.length_append,ih,List.length_cons,show(z1b p).length=2 from rfl];omega
theorem Sl.oneV {w:World}{v:Value}{e size n:Nat}{cs:List Value}(h:Sl w v e size n cs):oneV v=true:=by
 rcases h.shape with⟨rfl,-⟩|⟨g,cap,rfl,-⟩<;>rfl
structure zc4 (w:World)(l:List Nat)(least:Nat)(r:List Nat)(a:Option Addr)(cap:Nat)(v4 v5:Value)(R:List (Nat×Nat))(O_:List Nat)(w':World):Prop where
 ext:Ext w w'
 cl:r.length<=cap
 rd:Rd w (.slice a r.length cap) 1 r.length (r.map OB)
 s4:Sl w' v4 350 2 R.length (R.flatMap z1b)
 s5:Sl w' v5 106 1 O_.length (O_.map OB)
 f4:∀g,v4.ownBlock=some g->w.heap.size<=g
 f5:∀g,v5.ownBlock=some g->w.heap.size<=g
 ne:∀g,v4.ownBlock=some g->v5.ownBlock≠some g
 ok:OQ r
 eq:P8 least l=(R++(P8 least r).1,O_++(P8 least r).2)
 len:R.length+O_.length+r.length<=65536
theorem RF {w:World}{a:Option Addr}{n cap i:Nat}{cs:List Value}(h:Rd w (.slice a n cap) 1 n cs)(hi:i<=n)(hc:n<=cap):Rd w (.slice (if cap=i then a else a.map (·.add (i*1))) (n-i) (cap-i)) 1 (n-i) (cs.drop i):=by
 have hl:=h.1
 refine⟨by rw[List.length_drop,hl];omega,?_⟩
 rcases h.2 with⟨c,hv,h0⟩|⟨b,off,cap',hv,aW⟩
 ·refine .inl ⟨((if cap=i then a else a.map (·.add (i*1))),cap-i),?_,by omega⟩;rw[show n-i=0 by omega]
 ·cases hv;by_cases e:cap=i
  ·rw[if_pos e];refine .inl ⟨(some ⟨b,off,none⟩,cap-i),?_,by omega⟩;rw[show n-i=0 by omega]
  ·rw[if_neg e];refine .inr ⟨b,off+i*1,cap-i,?_,λj u hu=>?_⟩
   ·simp only[Option.map_some,Qv]
   ·rw[List.getElem?_drop] at hu;have:=aW (i+j) u hu;rw[show off+i*1+j=off+(i+j) by omega];exact this
theorem Sk {w:World}{a:Option Addr}{n cap i:Nat}{cs:List Value}(h:Rd w (.slice a n cap) 1 n cs)(hi:i<=n):Rd w (.slice a i cap) 1 i (cs.take i):=by
 have hl:=h.1
 refine⟨by rw[List.length_take,hl];omega,?_⟩
 rcases h.2 with⟨c,hv,h0⟩|⟨b,off,cap',hv,aW⟩
 ·refine .inl ⟨(a,cap),?_,by omega⟩;rw[show i=0 by omega]
 ·cases hv;refine .inr ⟨b,off,cap,rfl,λj u hu=>?_⟩;rw[List.getElem?_take] at hu;split at hu
  ·exact aW j u hu
  ·cases hu
theorem zc4.grow {w w1 w2:World}{l r:List Nat}{least cap:Nat}{a:Option Addr}{v4 v5:Value}{R:List (Nat×Nat)}{O_:List Nat}(h:zc4 w l least r a cap v4 v5 R O_ w1)(hx:Ext w1 w2):zc4 w l least r a cap v4 v5 R O_ w2:=
 ⟨h.ext.trans hx,h.cl,h.rd,h.s4.ext hx,h.s5.ext hx,h.f4,h.f5,h.ne,h.ok,h.eq,h.len⟩
theorem zaJ (a : Option Addr)(cap : Nat)(l : List Nat)(least : Nat)(vd : OQ l)(jO : l.length <= cap)(iU : least <= 64)(w : World)(hr : Rd w (.slice a l.length cap) 1 l.length (l.map OB)) :
  Oy prog 235 [.slice a l.length cap,I (least:Int)] w λu w'=>∃v4 v5,u= .tuple #[v4,v5]/\Sl w' v4 350 2 (P8 least l).1.length ((P8 least l).1.flatMap z1b)/\
   Sl w' v5 106 1 (P8 least l).2.length ((P8 least l).2.map OB)/\Ext w w'/\(∀g,v4.ownBlock=some g->w.heap.size<=g)/\(∀g,v5.ownBlock=some g->w.heap.size<=g)/\∀g,v4.ownBlock=some g->v5.ownBlock≠some g:=by
 refine NP (e:=[(0,_),(1,_)]) func235 O ntmps235 O O$ qN O$ Oc O$ NZ O$ py$ NQ$ Qm (α:=List Nat×Option Addr×Nat×Value×Value×List (Nat×Nat)×List Nat) ((l,a,cap,.slice none 0 0,.slice none 0 0,[],[])) (λx=>[(0,.slice x.2.1 x.1.length x.2.2.1),(1,I (least:Int)),(4,x.2.2.2.1),(5,x.2.2.2.2.1)]) (λx w'=>zc4 w l least x.1 x.2.1 x.2.2.1 x.2.2.2.1 x.2.2.2.2.1 x.2.2.2.2.2.1 x.2.2.2.2.2.2 w') (λx=>x.1.length) ?hI ?hround
 case hI=>exact⟨Ext.refl _,jO,hr,Sl.nil _ _ _,Sl.nil _ _ _,(λg h=>by cases h),(λg h=>by cases h),(λg h=>by cases h),vd,rfl,by have:=vd.len;simp;omega⟩
 case hround =>
  rintro⟨r,a1,c1,v4,v5,R,O_⟩ w6 hI ih;dsimp only at hI
  try dsimp only
  refine py$ qN O$ NT O$ Qx OA O$ PD O O$ NU$ O8 O (λh0=>?_)$ λh0=>?_
  ·obtain⟨y,r',rfl⟩:∃y r',r=y::r':=by
    cases r with
    |nil=>exact absurd h0 (by simp)
    |cons y r'=>exact⟨y,r',rfl⟩
   have ia:=W3 y r';have J1:=hI.ok.lt y List.mem_cons_self;have j8:=hI.ok.len;rw[List.length_cons] at j8
   obtain⟨b,off,lB,aW⟩:∃b off,a1=some ⟨b,off,none⟩/\∀j u,((y::r').map OB)[j]? =some u->w6.cell? ⟨b,off+j,none⟩=some u:=by
    rcases (hI.rd.ext hI.ext).2 with⟨c,-,h⟩|⟨b,off,cap',lB,aW⟩
    ·exact absurd h (by simp)
    ·cases lB;exact⟨b,off,rfl,aW⟩
   subst lB
   have jU:∀w',Ext w w'->∀j u,((y::r').map OB)[j]? =some u->w'.cell? ⟨b,off+j,none⟩=some u:=λw' hx=>by
    rcases (hI.rd.ext hx).2 with⟨c,-,h⟩|⟨b',off',cap',lB,hc⟩
    ·exact absurd h (by simp)
    ·cases lB;exact hc
   clear aW;refine An$ NQ$ qN O$ NZ O$ py$ NQ$ Rg (λe' w'=>Ext w6 w'/\e'=[(0,.slice (some ⟨b,off,none⟩) (y::r').length c1),(1,I (least:Int)),(4,v4),(5,v5),(6,I ((P5 y r'+1:Nat):Int))]) ?sy$ λsy=>?BQ
   case sy=>
    rintro e' w6z ⟨aH,rfl⟩;replace hI:=hI.grow aH;have aW:=jU _ hI.ext
    generalize hn:P5 y r'+1=n
    have ve:=hI.cl;rw[List.length_cons] at ve;have dI:=hI.eq;have aF:=hI.len;rw[List.length_cons] at aF;have cT:1<=n/\n<=r'.length+1:=by omega
    have vf:r'.drop (P5 y r')=(y::r').drop n:=by rw[<-hn];rfl
    have jN:y::r'.take (P5 y r')=(y::r').take n:=by rw[<-hn];rfl
    rw[P8] at dI;simp only[hn,vf,jN] at dI;have ay:OQ ((y::r').drop n):=hI.ok.sub (List.drop_sublist _ _);have dQ:=RF hI.rd (i:=n) (by rw[List.length_cons];omega) hI.cl;rw[<-List.map_drop,show(y::r').length-n=((y::r').drop n).length by rw[List.length_drop]] at dQ;have jA:((y::r').drop n).length=r'.length+1-n:=by rw[List.length_drop,List.length_cons]
    by_cases hL:0<least/\least<=n
    ·obtain⟨AE,Hi⟩:=hL;rw[if_pos ⟨AE,Hi⟩] at dI;refine py$ qN O$ NT O$ PD O O$ Qs$ Od O O$ NT O$ SB O O$ Qs$ PT O O$ NU$ Oa O$ NW O$ Od O O ?_;refine qV (P7 OA O7 O O (by omega))$ qV (OC OJ O O (aW (0*1) (OB y) O))$ qV (OT O OJ U3 (by omega))$ NT O$ qV (Rt (cs:=[_,_]) z00 O zfY O O)$ O5 O O (Vl (cs:=[_,_]) (zs:=[Value.int .i64 0,Value.int .i64 0]) zbk z00 O (by kernel_rfl) O O O (by decide)) ?_;rintro _ w7 ⟨b7,rfl,⟨jQ,bV,bN⟩,gL⟩;refine O5 O O (pap zbk z00 O (by decide) O O (hI.s4.ext bV) gL.rd (by intro c hc;simp at hc;rcases hc with rfl|rfl<;>rfl) (by omega) (by simp only[maxLen];omega)) ?_;rintro v4' w8 ⟨dX,aS,kK,-⟩;have mq:=dX.oneV;have hz:=hI.ext.size;have wh:=bV.size;have dq:Ext w w8:=(hI.ext.trans bV).NR aS (λi hi=>hI.f4 i hi);have oC:Sl w8 v5 106 1 O_.length (O_.map OB):=(hI.s5.ext bV).kp aS (λg hg e=>hI.ne g e hg);refine NZ O$ NW O$ Od O O$ qV (WL OA O7 O O (by rw[List.length_cons];omega) hI.cl) ?_;refine NZ O$ NS ?_;rw[show(y::r').length-n=((y::r').drop n).length by rw[List.length_drop]];refine(ih ((y::r').drop n,_,c1-n,v4',v5,R++[(y,n)],O_) _ ⟨dq,by dsimp only;rw[jA];omega,dQ,?_,oC,?_,hI.f5,?_,ay,?_,?_⟩ ?_).qb
     ·dsimp only;rw[List.length_append,List.flatMap_append];exact dX
     ·intro g hg;rcases kK g hg with h| h
      ·exact hI.f4 g h
      ·omega
     ·intro g hg e;rcases kK g hg with h| h
      ·exact hI.ne g h e
      ·have:=hI.s5.lt e;omega
     ·dsimp only;rw[dI,List.append_assoc];rfl
     ·dsimp only;rw[List.length_append,List.length_singleton,jA];omega
     ·dsimp only;rw[jA,List.length_cons];omega
    ·rw[if_neg hL] at dI;rcases Nat.eq_zero_or_pos least with e0|e0
     ·refine py$ qN O$ NT O$ PD O O$ OR$ NT O$ qS$ qS$ qS$ OU O O$ NU$ It O$ NW O$ Od O O ?_;refine NT O$ qV (zbE OA O7 O O (by omega))$ O5 O O (pap OA O7 O (by decide) O O hI.s5 (Sk (hI.rd.ext hI.ext) (i:=n) (by rw[List.length_cons];omega)) (by rw[<-List.map_take];exact XZ _) (by omega) (by simp only[maxLen];omega)) ?_;rintro v5' w8 ⟨dX,aS,kK,-⟩;have mq:=dX.oneV;have hz:=hI.ext.size;have dq:Ext w w8:=hI.ext.NR aS (λi hi=>hI.f5 i hi);have vg:Sl w8 v4 350 2 R.length (R.flatMap z1b):=hI.s4.kp aS (λg hg e=>hI.ne g hg e);refine NZ O$ NW O$ Od O O$ qV (WL OA O7 O O (by rw[List.length_cons];omega) hI.cl) ?_;refine NZ O$ NS ?_;rw[show(y::r').length-n=((y::r').drop n).length by rw[List.length_drop]];have lD:((y::r').take n).length=n:=by rw[List.length_take,List.length_cons];omega
      refine(ih ((y::r').drop n,_,c1-n,v4,v5',R,O_++(y::r').take n) _ ⟨dq,by dsimp only;rw[jA];omega,dQ,vg,?_,hI.f4,?_,?_,ay,?_,?_⟩ ?_).qb
      ·dsimp only;rw[List.length_append,List.map_append,lD,List.map_take];exact dX
      ·intro g hg;rcases kK g hg with h| h
       ·exact hI.f5 g h
       ·omega
      ·intro g hg e;rcases kK g e with h| h
       ·exact hI.ne g hg h
       ·have:=hI.s4.lt hg;omega
      ·dsimp only;rw[dI,List.append_assoc]
      ·dsimp only;rw[List.length_append,lD,jA];omega
      ·dsimp only;rw[jA,List.length_cons];omega
     ·have Hi:¬least<=n:=λh=>hL ⟨e0,h⟩;refine py$ qN O$ NT O$ PD O O$ Qs$ Od O O$ NT O$ SB O O$ OR$ PT O O$ NU$ It O$ NW O$ Od O O ?_;refine NT O$ qV (zbE OA O7 O O (by omega))$ O5 O O (pap OA O7 O (by decide) O O hI.s5 (Sk (hI.rd.ext hI.ext) (i:=n) (by rw[List.length_cons];omega)) (by rw[<-List.map_take];exact XZ _) (by omega) (by simp only[maxLen];omega)) ?_;rintro v5' w8 ⟨dX,aS,kK,-⟩;have mq:=dX.oneV;have hz:=hI.ext.size;have dq:Ext w w8:=hI.ext.NR aS (λi hi=>hI.f5 i hi);have vg:Sl w8 v4 350 2 R.length (R.flatMap z1b):=hI.s4.kp aS (λg hg e=>hI.ne g hg e);refine NZ O$ NW O$ Od O O$ qV (WL OA O7 O O (by rw[List.length_cons];omega) hI.cl) ?_;refine NZ O$ NS ?_;rw[show(y::r').length-n=((y::r').drop n).length by rw[List.length_drop]];have lD:((y::r').take n).length=n:=by rw[List.length_take,List.length_cons];omega
      refine(ih ((y::r').drop n,_,c1-n,v4,v5',R,O_++(y::r').take n) _ ⟨dq,by dsimp only;rw[jA];omega,dQ,vg,?_,hI.f4,?_,?_,ay,?_,?_⟩ ?_).qb
      ·dsimp only;rw[List.length_append,List.map_append,lD,List.map_take];exact dX
      ·intro g hg;rcases kK g hg with h| h
       ·exact hI.f5 g h
       ·omega
      ·intro g hg e;rcases kK g e with h| h
       ·exact hI.ne g hg h
       ·have:=hI.s4.lt hg;omega
      ·dsimp only;rw[dI,List.append_assoc]
      ·dsimp only;rw[List.length_append,lD,jA];omega
      ·dsimp only;rw[jA,List.length_cons];omega
   case BQ =>
    refine Qm (α:=Nat) (1) (λi=>[(0,.slice (some ⟨b,off,none⟩) (y::r').length c1),(1,I (least:Int)),(4,v4),(5,v5),(6,I (i:Int))]) (λi w'=>Ext w6 w'/\1<=i/\i<=P5 y r'+1) (λi=>P5 y r'+2-i) ?hI ?hround
    case hI=>exact⟨Ext.refl _,by omega,by omega⟩
    case hround=>
     rintro i w7 ⟨bV,AF,dt⟩ ih2
     try dsimp only
     refine py$ py ?_;have hg:=(Ext.refl w7).drew;refine Qj (λw'=>Ext w7 w') O$ Oj 0 O O (hg)$ Oj 1 O O (hg)$ O0 2 O (RJ OA O) hg$ O0 3 O (ZR O O) hg$ zhu (λe1=>?_)$ λe1=>?_
     ·have AG:i<r'.length+1:=by rw[List.length_cons] at e1;omega
      have bX:r'[i-1]? =some (r'[i-1]'(by omega)):=List.getElem?_eq_getElem (by omega);have MY:r'[i-1]'(by omega)<65536:=hI.ok.lt _ (List.mem_cons_of_mem _ (List.getElem_mem _));refine Oj 4 O O (hg)$ Oj 5 O O (hg)$ Oj 6 O O (hg)$ O0 7 O (P7 OA O7 O O (by omega)) hg$ Oj 9 O O (hg)$ O0 10 O (P7 OA O7 O O (by omega)) hg$ Oj 12 O O (hg)$ O0 13 O (z0H O U3 OJ) hg$ qT 8 O (λ_ hS=>OC OJ O O (by exact jU _ ((hI.ext.trans bV).trans hS) (i*1) (OB (r'[i-1]'(by omega))) (by rw[List.getElem?_map,show i*1=(i-1)+1 by omega,List.getElem?_cons_succ,bX];rfl))) hg ?_;refine qT 11 O (λ_ hS=>OC OJ O O (by exact jU _ ((hI.ext.trans bV).trans hS) (0*1) (OB y) O)) hg ?_;refine O0 14 O (zgV O O) hg$ O0 15 O (yeq O O) hg$ O0 16 O (TL O O) hg$ qE$ O8 O (λe2=>?_)$ λe2=>?_
      ·refine An$ NQ$ NW O$ NT O$ P6 O O$ NZ O$ NS ?_
       have bP:i≠P5 y r'+1:=λe=>by
        subst e;have:=VE y r' (r'[P5 y r'+1-1]'(by omega)) (by rw[<-bX];simp);omega
       exact(ih2 (i+1) _ ⟨bV.trans hg,by omega,by omega⟩ (by omega)).qb
      ·have wj:i=P5 y r'+1:=by
        rcases Nat.lt_or_ge (i-1) (P5 y r') with h| h
        ·have h1:=UI y r' (i-1) h;rw[bX] at h1;have h2:=PJ h1;exact absurd (by omega) e2
        ·omega
       refine O4 O ?_;subst wj;exact(sy _ _ ⟨bV.trans hg,rfl⟩).qb
     ·have wj:i=P5 y r'+1:=by rw[List.length_cons] at e1;omega
      refine Oj 4 O O (hg)$ qJ 5 O (hg)$ qJ 6 O (hg)$ qJ 7 O (hg)$ qJ 8 O (hg)$ qJ 9 O (hg)$ qJ 10 O (hg)$ qJ 11 O (hg)$ qJ 12 O (hg)$ qJ 13 O (hg)$ qJ 14 O (hg)$ qJ 15 O (hg)$ O0 16 O (TA O O) hg$ qE ?_;refine It O$ O4 O ?_;subst wj;exact(sy _ _ ⟨bV.trans hg,rfl⟩).qb
  ·have eW:r=[]:=List.eq_nil_of_length_eq_zero (by omega);subst eW;refine O4 O$ qN O$ Od O O$ Oc O$ NZ O$ NV func235 O ?_;have dI:=hI.eq;simp only[P8,List.append_nil] at dI;rw[dI];exact⟨_,rfl,v4,v5,rfl,hI.s4,hI.s5,hI.ext,hI.f4,hI.f5,hI.ne⟩
structure VsM (w:World)(p:Nat)(v:Value)(T el:TypeId)(size n:Nat)(cs:List Value):Prop where
 NX:O9 w p [v] T
 sl:Sl w v el size n cs
 ne:v.ownBlock≠some p
def VsA (w:World)(p:Nat)(T el:TypeId)(size n:Nat)(cs:List Value)(F:Nat->Prop):Prop:=∃v,VsM w p v T el size n cs/\∀k,F k↔fpW p v k
section
variable {w w':World}{p:Nat}{T el:TypeId}{size n:Nat}{cs:List Value}{F S:Nat->Prop}
theorem VsA.lt (h:VsA w p T el size n cs F){k:Nat}(hk:F k):k<w.heap.size:=by
 obtain⟨bv,hM,hF⟩:=h
 rcases (hF k).1 hk with e| e
 ·rw[e];exact hM.NX.lt
 ·exact hM.sl.lt e
theorem VsA.kp (h:VsA w p T el size n cs F)(k:Kp S w w')(hn:∀i,F i->¬S i):VsA w' p T el size n cs F:=by
 obtain⟨bv,hM,hF⟩:=h
 exact⟨bv,⟨k.NX hM.NX (hn p ((hF p).2 (.inl O))),hM.sl.kp k (λg hg=>hn g ((hF g).2 (.inr hg))),hM.ne⟩,hF⟩
theorem VsA.ext (h:VsA w p T el size n cs F)(k:Ext w w'):VsA w' p T el size n cs F:=h.kp k.kp λ_ _=>id
end
theorem zdE {P:Program}{e:Env}{d:Option Nat}{ty t t':TypeId}{pos:String}{aft:Array Edge}{g:Option (Nat×Bool)}{x y:Operand}{w:World}{p q:Bool}(hx:look e x=some (.bool p))(hy:look e y=some (.bool q))(ht:P.underlying t=some .bool):Y P e ⟨d,.binOp .neq t x y t',ty,pos,aft,g⟩ (.bool (!(p==q))) w w:=fun ρ hρ=>by
 simp[execOp,hρ _ _ hx,hρ _ _ hy,eqGuard_at_bool,run_neq_bool w t p q ht]
def z5n (q:Cd×Nat):List Value:=RB q.1++[u64v q.2]
abbrev z3t (w:World)(p:Nat)(L:List (Cd×Nat))(F:Nat->Prop):Prop:=VsA w p 314 319 3 L.length (L.flatMap z5n) F
abbrev z1Z (w:World)(p:Nat)(L:List Nat)(F:Nat->Prop):Prop:=VsA w p 49 106 1 L.length (L.map OB) F
abbrev z0X (w:World)(p:Nat)(L:List Nat)(F:Nat->Prop):Prop:=VsA w p 43 3 1 L.length (L.map λn:Nat=>I (n:Int)) F
theorem Sv {w:World}{p:Nat}{L:List (Cd×Nat)}{F:Nat->Prop}(h:z3t w p L F)(hl:L.length<=1000000)(c:Cd)(v:Nat)(hv:v<9223372036854775808):
  Oy prog 232 [cdV c,I (v:Int),ptr p 0] w λu w'=>u= .tuple #[]/\∃F',z3t w' p (L++[(c,v)]) F'/\Kp F w w'/\∀k,F' k->F k\/w.heap.size<=k:=by
 obtain⟨x,y,dj,pa,BR⟩:∃x y,RB c=[x,y]/\x.oneCell'=true/\y.oneCell'=true:=by cases c<;>exact⟨_,_,rfl,rfl,rfl⟩
 obtain⟨bv,hM,hF⟩:=h
 have mN:cdV c= .agg [x,y].toArray:=by rw[cdV,dj]
 rw[mN]
 have J2:∀c∈[x,y,u64v v],c.oneCell'=true:=by
  intro c hc;rcases List.mem_cons.1 hc with rfl|hc
  ·exact pa
  rcases List.mem_cons.1 hc with rfl|hc
  ·exact BR
  rcases List.mem_cons.1 hc with rfl|hc
  ·rfl
  ·simp at hc
 refine NP (e:=[(0,_),(1,_),(2,_)]) func232 O ntmps232 O O$ qN O$ O5 O O (Qr O (cs:=[x,y]) O) ?_
 rintro _ w1 ⟨b3,rfl,f7,ad,au⟩
 have ic:=ad.NX hM.NX
 refine NU$ NW O$ qV (O6 z0g O O ic O)$ qV (OE (news:=[x,y]) RG O PY O (au.cells (n:=2) O) O)$ NT O$ qV ((Pf O U3 Qy (by omega)))$ qV (Rt (cs:=[_,_,_]) Ur O zdS O O)$ O5 O O (Vl (cs:=[_,_,_]) (zs:=[Value.int .u8 0,Value.int .u64 0,Value.int .u64 0]) z0g Ur O (by kernel_rfl) O O O (by decide)) ?_
 rintro _ w2 ⟨b2,rfl,⟨bU,ae,am⟩,cA⟩
 refine O5 O O (pap z0g Ur O (by decide) O O ((hM.sl.ext ad).ext ae) cA.rd J2 (by omega) (by simp only[maxLen];omega)) ?_
 rintro v3 w3 ⟨cj,aw,fS,-⟩
 have mq:=cj.oneV
 have aI:=aw.NX (ae.NX ic) hM.ne
 refine Oe O (PV zaj O O mq aI (by simp)) ?_
 rintro w4 ⟨aG,ao⟩
 replace aG:O9 w4 p [v3] 314:=aG
 have z1:=ad.size
 have z2:=ae.size
 have lp:=hM.NX.lt
 have eX:v3.ownBlock≠some p:=λe=>by
  rcases fS p e with e| e
  ·exact hM.ne e
  ·omega
 have dl:=cj.kp ao (λg hg e=>eX (e▸hg))
 refine NU$ PE func232 O (⟨_,rfl,rfl,fpW p v3,⟨v3,⟨aG,?_,eX⟩,λ_=>Iff.rfl⟩,?_,?_⟩)
 ·rw[List.length_append,List.flatMap_append];have e1:[(c,v)].flatMap z5n=[x,y,u64v v]:=by simp[z5n,dj]
  rw[e1];exact dl
 ·exact((ad.trans ae).kp.trans (aw.Of λk e=>(hF k).2 (.inr e))).trans (ao.Of λk e=>(hF k).2 (.inl e))
 ·intro k hk;rcases hk with e| e
  ·exact .inl ((hF k).2 (.inl e))
  ·rcases fS k e with e| e
   ·exact .inl ((hF k).2 (.inr e))
   ·exact .inr (by omega)
def Ue (rs:List Nat)(f:Bool):List Nat:=if f !=(rs.length%2==1) then rs++[0] else rs
theorem ZK (rs:List Nat)(f:Bool):Qd rs f=(Ue rs f).modify ((Ue rs f).length-1) (·+1):=rfl
abbrev z5s (n:Nat):Value:=I (n:Int)
theorem z1s {w:World}{lf rn:Nat}{L:List Nat}{F:Nat->Prop}(h:z1Z w lf L F)(hl:L.length<=1000000)(x:Nat)(a:Bool):
  Oy prog 234 [OB x,.bool a,.bool false,ptr lf 0,ptr rn 0] w λu w'=>u= .tuple #[]/\∃F',z1Z w' lf (L++[x]) F'/\Kp F w w'/\∀k,F' k->F k\/w.heap.size<=k:=by
 obtain⟨bv,hM,hF⟩:=h
 refine NP (e:=[(0,_),(1,_),(2,_),(3,_),(4,_)]) func234 O ntmps234 O O ?_
 have ic:=hM.NX
 refine py$ NQ$ qN O$ NT O$ qV ((Rn O))$ NZ O$ Oa O$ qN O$ qV (O6 OA O O ic O)$ NT O$ O5 O O (Vl (cs:=[_]) (zs:=[Value.int .u32 0]) OA O7 O (by kernel_rfl) O O O (by decide)) ?_
 rintro _ w2 ⟨b2,rfl,⟨bU,ae,am⟩,cA⟩
 refine O5 O O (pap OA O7 O (by decide) O O (hM.sl.ext ae) cA.rd (by intro c hc;simp at hc;subst hc;rfl) (by omega) (by simp only[maxLen];omega)) ?_
 rintro v3 w3 ⟨cj,aw,fS,-⟩
 have mq:=cj.oneV
 have aI:=aw.NX (ae.NX ic) hM.ne
 refine Oe O (PV Ro O O mq aI (by simp)) ?_
 rintro w4 ⟨aG,ao⟩
 replace aG:O9 w4 lf [v3] 49:=aG
 have z2:=ae.size
 have lp:=hM.NX.lt
 have eX:v3.ownBlock≠some lf:=λe=>by
  rcases fS lf e with e| e
  ·exact hM.ne e
  ·omega
 have dl:=cj.kp ao (λg hg e=>eX (e▸hg))
 refine NU$ NV func234 O (⟨_,rfl,rfl,fpW lf v3,⟨v3,⟨aG,?_,eX⟩,λ_=>Iff.rfl⟩,?_,?_⟩)
 ·rw[List.length_append,List.map_append];exact dl
 ·exact(ae.kp.trans (aw.Of λk e=>(hF k).2 (.inr e))).trans (ao.Of λk e=>(hF k).2 (.inl e))
 ·intro k hk;rcases hk with e| e
  ·exact .inl ((hF k).2 (.inl e))
  ·rcases fS k e with e| e
   ·exact .inl ((hF k).2 (.inr e))
   ·exact .inr (by omega)
theorem Ys {w:World}{lf rn:Nat}{rs:List Nat}{F:Nat->Prop}(h:z0X w rn rs F)(hl:rs.length<=1000000)(bP:rs≠[])(hb:∀m∈rs,m<=1000000)(x:Nat)(a:Bool):
  Oy prog 234 [OB x,.bool a,.bool true,ptr lf 0,ptr rn 0] w λu w'=>u= .tuple #[]/\∃F',z0X w' rn (Qd rs a) F'/\Kp F w w'/\∀k,F' k->F k\/w.heap.size<=k:=by
 have aZ:∀k,F k->k<w.heap.size:=λk hk=>h.lt hk
 obtain⟨bv,hM,hF⟩:=id h
 refine NP (e:=[(0,_),(1,_),(2,_),(3,_),(4,_)]) func234 O ntmps234 O O ?_
 have ic:=hM.NX
 obtain⟨va,vc,rfl,-⟩:=hM.sl.rd.shape
 refine py$ NQ$ qN O$ NT O$ qV ((Rn O))$ NZ O$ It O$ qN O$ NT O$ qV (O6 Qt O O ic O)$ Qx Qt O$ qV (Wp O O (by omega) (by omega)) ?_
 rw[Nat.and_one_is_mod]
 refine Qe O O$ qV (zdE O O U4) ?_
 have hd:decide (((rs.length%2:Nat):Int)=1)=(rs.length%2==1):=by
  rcases Nat.mod_two_eq_zero_or_one rs.length with e|e<;>rw[e]<;>rfl
 rw[hd]
 refine NZ O$ OX (λe' w'=>e'=[(4,ptr rn 0)]/\∃F',z0X w' rn (Ue rs a) F'/\Kp F w w'/\∀k,F' k->F k\/w.heap.size<=k) ?sA$ λsA=>?sB
 case sA=>
  rintro e' w1 ⟨rfl,F1,⟨v1,dG,oD⟩,aK,fQ⟩
  obtain⟨l,m,iq,fJ,hm⟩:∃l m,Ue rs a=l++[m]/\l.length<=1000000/\m<=1000000:=by
   unfold Ue;split
   ·exact⟨rs,0,rfl,hl,by omega⟩
   ·refine⟨rs.dropLast,rs.getLast bP,(List.dropLast_concat_getLast bP).symm,by rw[List.length_dropLast];omega,hb _ (List.getLast_mem bP)⟩
  rw[iq] at dG;have BS:(l++[m]).length=l.length+1:=by simp
  rw[BS] at dG;rcases dG.sl.shape with⟨-,h0⟩|⟨g,c1,rfl,du⟩
  ·omega
  have ai:=dG.NX;refine NS$ NW O$ qV (O6 Qt O O ai O)$ qV (O6 Qt O O ai O)$ Qx Qt O$ Qp O O ?_;rw[show((l.length+1:Nat):Int)-1=(l.length:Int) by omega];refine qV (P7 Qt Pb O O (by omega))$ qV (OC U3 O O (Ps dG.sl.rd (show((l++[m]).map z5s)[l.length]? =some (z5s m) by simp))) ?_;refine P6 O O$ qV (P7 Qt Pb O O (by omega))$ Oe O (QH Pb O O O dG.sl (by simp)) ?_;rintro w2 ⟨cA,aq⟩;have am:=aq.NX ai (λe=>dG.ne (by rw[e];rfl));refine NU$ PE func234 O (⟨_,rfl,rfl,fpW rn (.slice (some ⟨g,0,none⟩) (l.length+1) c1),⟨_,⟨am,?_,dG.ne⟩,λ_=>Iff.rfl⟩,?_,?_⟩)
  ·rw[ZK,iq,Vs];have e1:(l++[m+1]).length=l.length+1:=by simp
   rw[e1]
   have e2:((l++[m]).map z5s).set l.length (z5s (m+1))=(l++[m+1]).map z5s:=by
    rw[List.map_append,List.set_append_right _ _ (by simp)];simp
   rw[<-e2];have e3:l.length*1=l.length:=Nat.mul_one _
   first|exact cA|(simp only[Nat.zero_add,Nat.mul_one] at cA;exact cA)
  ·exact aK.NR (aq.Of (λk e=>(oD k).2 (.inr (by rw[e];rfl)))) (λi hi=>(fQ i hi).symm)
  ·intro k hk;exact fQ k ((oD k).2 hk)
 case sB=>
  refine Po O (λe1=>?_)$ λe1=>?_
  ·have dK:Ue rs a=rs++[0]:=by unfold Ue;exact if_pos e1
   refine NW O$ qV (O6 Qt O O ic O)$ O5 O O (Vl (cs:=[_]) (zs:=[Value.int .i64 0]) Qt Pb O (by kernel_rfl) O O O (by decide)) ?_;rintro _ w2 ⟨b2,rfl,⟨bU,ae,am⟩,cA⟩;refine O5 O O (pap Qt Pb O (by decide) O O (hM.sl.ext ae) cA.rd (by intro c hc;simp at hc;subst hc;rfl) (by omega) (by simp only[maxLen];omega)) ?_;rintro v3 w3 ⟨cj,aw,fS,-⟩;have mq:=cj.oneV;have aI:=aw.NX (ae.NX ic) hM.ne;refine Oe O (PV z5k O O mq aI (by simp)) ?_;rintro w4 ⟨aG,ao⟩;replace aG:O9 w4 rn [v3] 43:=aG;have z2:=ae.size;have lp:=hM.NX.lt
   have eX:v3.ownBlock≠some rn:=λe=>by
    rcases fS rn e with e| e
    ·exact hM.ne e
    ·omega
   have dl:=cj.kp ao (λg hg e=>eX (e▸hg));refine NU ((sA _ _ ⟨rfl,fpW rn v3,⟨v3,⟨aG,?_,eX⟩,λ_=>Iff.rfl⟩,?_,?_⟩).qb)
   ·rw[dK,List.length_append,List.map_append];exact dl
   ·exact(ae.kp.trans (aw.Of λk e=>(hF k).2 (.inr e))).trans (ao.Of λk e=>(hF k).2 (.inl e))
   ·intro k hk;rcases hk with e| e
    ·exact .inl ((hF k).2 (.inl e))
    ·rcases fS k e with e| e
     ·exact .inl ((hF k).2 (.inr e))
     ·exact .inr (by omega)
  ·have dK:Ue rs a=rs:=by unfold Ue;exact if_neg (by simpa using e1)
   refine An ?_;exact(sA _ _ ⟨rfl,F,by rw[dK];exact h,Kp.refl _ _,λk hk=> .inl hk⟩).qb
def Un (s r rs:List Nat):List Nat:=r.foldl (λrs y=>Qd rs (decide (y∈s))) rs
theorem Z6 {s t:List Nat}:∀(r rs:List Nat),(∀y∈r,(y∈s↔y∈t))->Un s r rs=Un t r rs
 |[],rs,_=>rfl
 | y :: r, rs, h => by
   have h1:decide (y∈s)=decide (y∈t):=decide_eq_decide.2 (h y List.mem_cons_self);show Un s r (Qd rs (decide (y∈s)))=Un t r (Qd rs (decide (y∈t)));rw[h1];exact Z6 r _ (λz hz=>h z (List.mem_cons_of_mem _ hz))
theorem UM {x z:Nat}{l:List Nat}(h:x<z):z∈x::l↔z∈l:=by
 rw[List.mem_cons]
 constructor
 ·rintro(e|e)
  ·omega
  ·exact e
 ·exact .inr
theorem z2e {x:Nat}{s r:List Nat}(h:∀y∈r,x<y):Ox (x::s) r=x::Ox s r/\∀rs,Un (x::s) r rs=Un s r rs:=by
 have hx:x∉r:=λe=>by have:=h x e;omega
 refine⟨?_,λrs=>Z6 r rs λy hy=>UM (h y hy)⟩
 unfold Ox
 rw[List.filter_cons,if_pos (by simpa using hx)]
theorem z0e {r t:List Nat}(s:List Nat)(h:∀x∈s,(x∈r↔x∈t)):Ox s r=Ox s t:=
 List.filter_congr λx hx=>decide_eq_decide.2 (not_congr (h x hx))
theorem z74 {x:Nat}{s r:List Nat}(hs:∀z∈s,x<z)(hr:∀y∈r,x<y):Ox (x::s) (x::r)=Ox s r/\∀rs,Un (x::s) (x::r) rs=Un s r (Qd rs true):=by
 refine⟨?_,λrs=>?_⟩
 ·have:=z0e (r:=x::r) (t:=r) s (λz hz=>UM (hs z hz));rw[<-this];unfold Ox;rw[List.filter_cons,if_neg (by simp)]
 ·show Un (x::s) r (Qd rs (decide (x∈x::s)))=_;rw[decide_eq_true List.mem_cons_self];exact(z2e hr).2 _
theorem z7A {y:Nat}{s r:List Nat}(hs:∀z∈s,y<z):Ox s (y::r)=Ox s r/\∀rs,Un s (y::r) rs=Un s r (Qd rs false):=by
 refine⟨z0e s (λz hz=>UM (hs z hz)),λrs=>?_⟩
 show Un s r (Qd rs (decide (y∈s)))=_
 rw[decide_eq_false λe=>by have:=hs y e;omega]
theorem z4C {x y:Nat}{l:List Nat}(hr:Ris (y::l))(h:x<y):∀z∈y::l,x<z:=λz hz=>by
 rcases List.mem_cons.1 hz with e| e
 ·omega
 ·have:=(List.pairwise_cons.1 hr).1 z e;omega
theorem ZO:∀{l:List Nat} {m:Nat},m∈l->m<=l.sum
 | x :: l, m, h => by
   rw[List.sum_cons];rcases List.mem_cons.1 h with e| e
   ·omega
   ·have:=ZO e;omega
theorem z3v (rs:List Nat)(f:Bool):(Qd rs f).length<=rs.length+1:=by
 rw[ZK,List.length_modify]
 unfold Ue
 split<;>simp
theorem SD.le {rs:List Nat}{fs:List Bool}(h:SD rs fs):∀m∈rs,m<=fs.length:=λm hm=>by
 have:=ZO hm
 rw[<-h.exp,RZ];exact this
structure Tb (w:World)(succ ref:List Nat)(lf rn:Nat)(FL0 FR0:Nat->Prop)(s:List Nat)(sa:Option Addr)(sc:Nat)(r:List Nat)(ra:Option Addr)(rc:Nat)(L rs:List Nat)(w':World):Prop where
 ex:∃FL FR fs,z1Z w' lf L FL/\z0X w' rn rs FR/\SD rs fs/\fs.length+r.length<=65536/\rs.length+r.length<=65537/\(∀k,FL k->FL0 k\/w.heap.size<=k)/\(∀k,FR k->FR0 k\/w.heap.size<=k)/\∀k,FL k->¬FR k
 rdS:∀w2,Kp (λk=>FL0 k\/FR0 k) w w2->Rd w2 (.slice sa s.length sc) 1 s.length (s.map OB)
 rdR:∀w2,Kp (λk=>FL0 k\/FR0 k) w w2->Rd w2 (.slice ra r.length rc) 1 r.length (r.map OB)
 clS:s.length<=sc
 clR:r.length<=rc
 kp:Kp (λk=>FL0 k\/FR0 k) w w'
 okS:OQ s
 okR:OQ r
 left:Ox succ ref=L++Ox s r
 fold:Qk succ ref=Un s r rs
 zeD:L.length+s.length<=65536
section
variable {w w1 w2:World}{succ ref:List Nat}{lf rn:Nat}{FL0 FR0:Nat->Prop}{s r L rs:List Nat}{sa ra:Option Addr}{sc rc:Nat}{x y:Nat}
theorem Tb.ext (h:Tb w succ ref lf rn FL0 FR0 s sa sc r ra rc L rs w1)(hx:Ext w1 w2):Tb w succ ref lf rn FL0 FR0 s sa sc r ra rc L rs w2:=by
 obtain⟨FL,FR,fs,h1,h2,h3⟩:=h.ex
 exact⟨⟨FL,FR,fs,h1.ext hx,h2.ext hx,h3⟩,h.rdS,h.rdR,h.clS,h.clR,h.kp.trans hx.kp,h.okS,h.okR,h.left,h.fold,h.zeD⟩
theorem Tb.z7q (h:Tb w succ ref lf rn FL0 FR0 (x::s) sa sc r ra rc L rs w1):∃b off,sa=some ⟨b,off,none⟩/\∀w2,Kp (λk=>FL0 k\/FR0 k) w w2->w2.cell? ⟨b,off+0*1,none⟩=some (OB x):=by
 rcases (h.rdS w1 h.kp).2 with⟨c,-,h0⟩|⟨b,off,cap,hv,-⟩
 ·exact absurd h0 (by simp)
 ·cases hv;exact⟨b,off,rfl,λw2 k=>Ps (h.rdS w2 k) O⟩
theorem Tb.z7u (h:Tb w succ ref lf rn FL0 FR0 s sa sc (y::r) ra rc L rs w1):∃b off,ra=some ⟨b,off,none⟩/\∀w2,Kp (λk=>FL0 k\/FR0 k) w w2->w2.cell? ⟨b,off+0*1,none⟩=some (OB y):=by
 rcases (h.rdR w1 h.kp).2 with⟨c,-,h0⟩|⟨b,off,cap,hv,-⟩
 ·exact absurd h0 (by simp)
 ·cases hv;exact⟨b,off,rfl,λw2 k=>Ps (h.rdR w2 k) O⟩
theorem Tb.zec (h:Tb w succ ref lf rn FL0 FR0 (x::s) sa sc r ra rc L rs w1){FL FR:Nat->Prop}{fs:List Bool}(he:z1Z w1 lf L FL/\z0X w1 rn rs FR/\SD rs fs/\fs.length+r.length<=65536/\rs.length+r.length<=65537/\(∀k,FL k->FL0 k\/w.heap.size<=k)/\(∀k,FR k->FR0 k\/w.heap.size<=k)/\∀k,FL k->¬FR k)
  (hr:∀y∈r,x<y) (hw:∃FL',z1Z w2 lf (L++[x]) FL'/\Kp FL w1 w2/\∀k,FL' k->FL k\/w1.heap.size<=k):
  Tb w succ ref lf rn FL0 FR0 s (if sc=1 then sa else sa.map (·.add (1*1))) (sc-1) r ra rc (L++[x]) rs w2:=by
 obtain⟨-,k1,k2,k3,k4,k5,k6,k7,k8,k9,k10⟩:=h
 obtain⟨h1,h2,h3,h4,h5,h6,h7,h8⟩:=he
 obtain⟨FL',g1,g2,g3⟩:=hw
 have hz:=k5.size
 rw[List.length_cons] at k3 k10
 refine⟨⟨FL',FR,fs,g1,h2.kp g2 (λi hi e=>h8 i e hi),h3,h4,h5,λk hk=>?_,h7,λk hk e=>?_⟩,λw2 k=>?_,k2,by omega,k4,k5.NR g2 (λi hi=>?_),k6.sub (List.sublist_cons_self _ _),k7,?_,?_,?_⟩
 ·rcases g3 k hk with e| e
  ·exact h6 k e
  ·exact .inr (by omega)
 ·rcases g3 k hk with e2|e2
  ·exact h8 k e2 e
  ·have:=h2.lt e;omega
 ·have:=RF (k1 w2 k) (i:=1) (by rw[List.length_cons];omega) (by rw[List.length_cons];omega);exact this
 ·rcases h6 i hi with e| e
  ·exact .inr (.inl e)
  ·exact .inl e
 ·rw[k8,(z2e hr).1,List.append_assoc];rfl
 ·rw[k9,(z2e hr).2]
 ·rw[List.length_append,List.length_singleton];omega
theorem Tb.zaR {s2:List Nat}{sa2:Option Addr}{sc2:Nat}{f:Bool}(h:Tb w succ ref lf rn FL0 FR0 s sa sc (y::r) ra rc L rs w1)(hs:(s2=s/\sa2=sa/\sc2=sc/\f=false/\∀z∈s,y<z)\/(s=y::s2/\sa2=(if sc=1 then sa else sa.map (·.add (1*1)))/\sc2=sc-1/\f=true))
  {FL FR:Nat->Prop} {fs:List Bool} (he:z1Z w1 lf L FL/\z0X w1 rn rs FR/\SD rs fs/\fs.length+(y::r).length<=65536/\rs.length+(y::r).length<=65537/\(∀k,FL k->FL0 k\/w.heap.size<=k)/\(∀k,FR k->FR0 k\/w.heap.size<=k)/\∀k,FL k->¬FR k)
  (hw:∃FR',z0X w2 rn (Qd rs f) FR'/\Kp FR w1 w2/\∀k,FR' k->FR k\/w1.heap.size<=k):
  Tb w succ ref lf rn FL0 FR0 s2 sa2 sc2 r (if rc=1 then ra else ra.map (·.add (1*1))) (rc-1) L (Qd rs f) w2:=by
 obtain⟨-,k1,k2,k3,k4,k5,k6,k7,k8,k9,k10⟩:=h
 obtain⟨h1,h2,h3,h4,h5,h6,h7,h8⟩:=he
 rw[List.length_cons] at h4 h5 k4
 obtain⟨FR',g1,g2,g3⟩:=hw
 have hz:=k5.size
 have ia:=z3v rs f
 have Hj:∀z∈r,y<z:=(List.pairwise_cons.1 k7.YF).1
 have Hk:∃FL FR fs,z1Z w2 lf L FL/\z0X w2 rn (Qd rs f) FR/\SD (Qd rs f) fs/\fs.length+r.length<=65536/\(Qd rs f).length+r.length<=65537/\(∀k,FL k->FL0 k\/w.heap.size<=k)/\(∀k,FR k->FR0 k\/w.heap.size<=k)/\∀k,FL k->¬FR k:=by
  refine⟨FL,FR',fs++[f],h1.kp g2 (λi hi e=>h8 i hi e),g1,h3.step f,by rw[List.length_append,List.length_singleton];omega,by omega,h6,λk hk=>?_,λk hk e=>?_⟩
  ·rcases g3 k hk with e| e
   ·exact h7 k e
   ·exact .inr (by omega)
  ·rcases g3 k e with e2|e2
   ·exact h8 k hk e2
   ·have:=h1.lt hk;omega
 have Hl:Kp (λk=>FL0 k\/FR0 k) w w2:=k5.NR g2 (λi hi=>by
  rcases h7 i hi with e| e
  ·exact .inr (.inr e)
  ·exact .inl e)
 have dQ:∀w2,Kp (λk=>FL0 k\/FR0 k) w w2->Rd w2 (.slice (if rc=1 then ra else ra.map (·.add (1*1))) r.length (rc-1)) 1 r.length (r.map OB):=λw2 k=>
  RF (k2 w2 k) (i:=1) (by rw[List.length_cons];omega) (by rw[List.length_cons];omega)
 rcases hs with⟨rfl,rfl,rfl,rfl,hg⟩|⟨rfl,rfl,rfl,rfl⟩
 ·exact⟨Hk,k1,dQ,k3,by omega,Hl,k6,k7.sub (List.sublist_cons_self _ _),by rw[k8,(z7A hg).1],by rw[k9,(z7A hg).2],k10⟩
 ·have Hm:∀z∈s2,y<z:=(List.pairwise_cons.1 k6.YF).1;rw[List.length_cons] at k3 k10;refine⟨Hk,λw2 k=>?_,dQ,by omega,by omega,Hl,k6.sub (List.sublist_cons_self _ _),k7.sub (List.sublist_cons_self _ _),by rw[k8,(z74 Hm Hj).1],by rw[k9,(z74 Hm Hj).2],by omega⟩;exact RF (k1 w2 k) (i:=1) (by rw[List.length_cons];omega) (by rw[List.length_cons];omega)
end
theorem zal {w:World}{succ ref:List Nat}{lf rn:Nat}{FL0 FR0:Nat->Prop}{sa ra:Option Addr}{sc rc:Nat}(J3:Tb w succ ref lf rn FL0 FR0 succ sa sc ref ra rc [] [0] w):
  Oy prog 233 [.slice sa succ.length sc,.slice ra ref.length rc,.func (.func 234) #[] #[ptr lf 0,ptr rn 0]] w λu w'=>u= .tuple #[]/\
   ∃FL FR,z1Z w' lf (Ox succ ref) FL/\z0X w' rn (Qk succ ref) FR/\(∀k,FL k->FL0 k\/w.heap.size<=k)/\(∀k,FR k->FR0 k\/w.heap.size<=k)/\(∀k,FL k->¬FR k)/\Kp (λk=>FL0 k\/FR0 k) w w':=by
 refine NP (e:=[(0,_),(1,_),(2,_)]) func233 O ntmps233 O O$ NQ$ Qm (α:=List Nat×Option Addr×Nat×List Nat×Option Addr×Nat×List Nat×List Nat) ((succ,sa,sc,ref,ra,rc,[],[0])) (λx=>[(0,.slice x.2.1 x.1.length x.2.2.1),(1,.slice x.2.2.2.2.1 x.2.2.2.1.length x.2.2.2.2.2.1),(2,.func (.func 234) #[] #[ptr lf 0,ptr rn 0])]) (λx w'=>Tb w succ ref lf rn FL0 FR0 x.1 x.2.1 x.2.2.1 x.2.2.2.1 x.2.2.2.2.1 x.2.2.2.2.2.1 x.2.2.2.2.2.2.1 x.2.2.2.2.2.2.2 w') (λx=>x.1.length+x.2.2.2.1.length) ?hI ?hround
 case hI=>exact J3
 case hround=>
  rintro⟨s,sa,sc,r,ra,rc,L,rs⟩ w6 hI ih;dsimp only at hI
  try dsimp only
  have hg:=(Ext.refl w6).drew;have aa:=hg.drew;have cO:=hI.ext aa;have p0:([]:List Nat).length=0:=rfl;have g7:=hI.okS.len;have BT:=hI.okR.len;rcases s with _|⟨x,s⟩
  ·rcases r with _|⟨y,r⟩
   ·refine py$ qN O$ NT O$ Qx OA O$ PD O O$ OR$ Od O O$ Qx OA O$ PD O O$ OR$ OU O O$ NU$ It O$ O4 O ?_;refine PE func233 O ?_;have qW:=hI.left;have wk:=hI.fold;obtain⟨FL,FR,fs,h1,h2,h3,h4,h5,h6,h7,h8⟩:=hI.ex;rw[qW,wk];exact⟨_,rfl,rfl,FL,FR,by simpa[Ox] using h1,h2,h6,h7,h8,hI.kp⟩
   ·skip
    obtain⟨b2,off2,rfl,mj⟩:=hI.z7u;have p1:0<((y::r:List Nat).length:Int):=by rw[List.length_cons];omega
    have p3:¬(((y::r).length:Int)=0):=by omega
    refine py$ qN O$ NT O$ Qx OA O$ PD O O$ OR$ Od O O$ Qx OA O$ PD O O$ Qs$ OU O O$ NU$ Oa O$ An ?_;refine NQ$ py$ Qj (λw'=>Ext w6 w') O$ Oj 0 O O (hg)$ O0 1 O (RJ OA O) hg$ O0 2 O (yeq O O) hg$ TH$ Oj 3 O O (hg)$ Oj 4 O O (hg)$ O0 5 O (RJ OA O) hg$ O0 6 O (Xq O O) hg$ TH$ Oj 7 O O (hg)$ qJ 8 O (hg) ?_;refine qJ 9 O (hg)$ qJ 10 O (hg)$ qJ 11 O (hg)$ qJ 12 O (hg)$ qJ 13 O (hg)$ qJ 14 O (hg)$ O0 15 O (TA O O) hg$ O0 16 O (TA O O) hg$ O0 17 O (Qq O) hg$ qE$ py$ Qj (λw'=>Ext w6 w') O$ Oj 0 O O (aa)$ O0 1 O (RJ OA O) aa ?_;refine O0 2 O (yeq O O) aa$ T4$ Oj 3 O O (aa)$ qJ 4 O (aa)$ qJ 5 O (aa)$ qJ 6 O (aa)$ qJ 7 O (aa)$ qJ 8 O (aa)$ qJ 9 O (aa)$ qJ 10 O (aa)$ qJ 11 O (aa)$ qJ 12 O (aa)$ qJ 13 O (aa)$ qJ 14 O (aa) ?_;refine qJ 15 O (aa)$ O0 16 O (TL O O) aa$ O0 17 O (Qq O) aa$ qE$ py$ qN O$ NT O$ NU$ It O$ NW O$ Od O O$ qV (P7 OA O7 O O (by omega))$ qV (OC OJ O O (mj _ cO.kp)) ?_;obtain⟨FL,FR,fs,h1,h2,h3,h4,h5,h6,h7,h8⟩:=cO.ex;refine PG O O (R0 z4b O O) (Ys h2 (by omega) h3.ne (λm hm=>by have:=h3.le m hm;omega) y false) ?_;rintro _ w7 ⟨rfl,pd⟩;refine qM O$ NT O$ NU$ Oa O$ NW O$ NT O$ qV (WL OA O7 O O (by rw[List.length_cons];omega) hI.clR) ?_;refine NZ O$ NS ?_;exact(ih ([],sa,sc,r,_,rc-1,L,Qd rs false) _ (cO.zaR (.inl ⟨rfl,rfl,rfl,rfl,λz hz=>by simp at hz⟩) ⟨h1,h2,h3,h4,h5,h6,h7,h8⟩ pd) (by dsimp only;simp only[List.length_cons,List.length_nil];omega)).qb
  ·rcases r with _|⟨y,r⟩
   ·obtain⟨b,off,rfl,mt⟩:=hI.z7q
    skip
    have p1:0<((x::s:List Nat).length:Int):=by rw[List.length_cons];omega
    have p4:¬(((x::s).length:Int)=0):=by omega
    refine py$ qN O$ NT O$ Qx OA O$ PD O O$ Qs$ NT O$ qS$ qS$ qS$ PT O O$ NU$ Oa O$ An ?_;refine NQ$ py$ Qj (λw'=>Ext w6 w') O$ Oj 0 O O (hg)$ O0 1 O (RJ OA O) hg$ O0 2 O (yeq O O) hg$ T4$ Oj 3 O O (hg)$ qJ 4 O (hg)$ qJ 5 O (hg)$ qJ 6 O (hg)$ qJ 7 O (hg)$ qJ 8 O (hg)$ qJ 9 O (hg) ?_;refine qJ 10 O (hg)$ qJ 11 O (hg)$ qJ 12 O (hg)$ qJ 13 O (hg)$ qJ 14 O (hg)$ qJ 15 O (hg)$ O0 16 O (TL O O) hg$ O0 17 O (Qq O) hg$ qE$ py$ Qj (λw'=>Ext w6 w') O$ Oj 0 O O (aa)$ O0 1 O (RJ OA O) aa$ O0 2 O (yeq O O) aa ?_;refine TH$ Oj 3 O O (aa)$ Oj 4 O O (aa)$ O0 5 O (RJ OA O) aa$ O0 6 O (Xq O O) aa$ TH$ Oj 7 O O (aa)$ qJ 8 O (aa)$ qJ 9 O (aa)$ qJ 10 O (aa)$ qJ 11 O (aa)$ qJ 12 O (aa)$ qJ 13 O (aa)$ qJ 14 O (aa) ?_;refine O0 15 O (TA O O) aa$ O0 16 O (TA O O) aa$ O0 17 O (Qq O) aa$ qE$ py$ qN O$ NT O$ NU$ Oa O$ qN O$ Od O O$ qV (P7 OA O7 O O (by omega))$ qV (OC OJ O O (mt _ cO.kp))$ NT O ?_;obtain⟨FL,FR,fs,h1,h2,h3,h4,h5,h6,h7,h8⟩:=cO.ex;have J4:=cO.zeD;refine PG O O (R0 z4b O O) (z1s h1 (by omega) x true) ?_;rintro _ w7 ⟨rfl,pd⟩;refine NU$ NW O$ NT O$ qV (WL OA O7 O O (by rw[List.length_cons];omega) hI.clS) ?_;refine Oc O$ qM O$ NT O$ NU$ It O$ An$ NS ?_;exact(ih (s,_,sc-1,[],ra,rc,L++[x],rs) _ (cO.zec ⟨h1,h2,h3,h4,h5,h6,h7,h8⟩ (λz hz=>by simp at hz) pd) (by dsimp only;simp only[List.length_cons,List.length_nil];omega)).qb
   ·rcases Nat.lt_trichotomy x y with dj|dj|dj
    ·obtain⟨b,off,rfl,mt⟩:=hI.z7q;obtain⟨b2,off2,rfl,mj⟩:=hI.z7u;have p1:0<((x::s:List Nat).length:Int):=by rw[List.length_cons];omega
     have p2:0<((y::r).length:Int):=by rw[List.length_cons];omega
     have p3:¬(((y::r).length:Int)=0):=by omega
     have p4:¬(((x::s).length:Int)=0):=by omega
     refine py$ qN O$ NT O$ Qx OA O$ PD O O$ Qs$ NT O$ qS$ qS$ qS$ PT O O$ NU$ Oa O$ An ?_;refine NQ$ py$ Qj (λw'=>Ext w6 w') O$ Oj 0 O O (hg)$ O0 1 O (RJ OA O) hg$ O0 2 O (yeq O O) hg$ TH$ Oj 3 O O (hg)$ Oj 4 O O (hg)$ O0 5 O (RJ OA O) hg$ O0 6 O (Xq O O) hg$ T4$ Oj 7 O O (hg)$ Oj 8 O O (hg) ?_;refine O0 9 O (P7 OA O7 O O (by omega)) hg$ Oj 11 O O (hg)$ O0 12 O (P7 OA O7 O O (by omega)) hg$ qT 10 O (λ_ h=>OC OJ O O (mt _ (hI.kp.trans h.kp))) hg$ qT 13 O (λ_ h=>OC OJ O O (mj _ (hI.kp.trans h.kp))) hg$ O0 14 O (Y6 O O) hg$ T4$ O0 15 O (TL O O) hg$ O0 16 O (TA O O) hg$ O0 17 O (Qq O) hg$ qE$ py$ Qj (λw'=>Ext w6 w') O$ Oj 0 O O (aa) ?_;refine O0 1 O (RJ OA O) aa$ O0 2 O (yeq O O) aa$ TH$ Oj 3 O O (aa)$ Oj 4 O O (aa)$ O0 5 O (RJ OA O) aa$ O0 6 O (Xq O O) aa$ T4$ Oj 7 O O (aa)$ Oj 8 O O (aa)$ O0 9 O (P7 OA O7 O O (by omega)) aa$ Oj 11 O O (aa)$ O0 12 O (P7 OA O7 O O (by omega)) aa$ qT 10 O (λ_ h=>OC OJ O O (mj _ (hI.kp.trans h.kp))) aa ?_;refine qT 13 O (λ_ h=>OC OJ O O (mt _ (hI.kp.trans h.kp))) aa$ O0 14 O (Y6 O O) aa$ TH$ O0 15 O (TL O O) aa$ O0 16 O (TA O O) aa$ O0 17 O (Qq O) aa$ qE$ py$ qN O$ NT O$ NU$ Oa O$ qN O$ Od O O ?_;refine qV (P7 OA O7 O O (by omega))$ qV (OC OJ O O (mt _ cO.kp))$ NT O ?_;obtain⟨FL,FR,fs,h1,h2,h3,h4,h5,h6,h7,h8⟩:=cO.ex;have J4:=cO.zeD;refine PG O O (R0 z4b O O) (z1s h1 (by omega) x true) ?_;rintro _ w7 ⟨rfl,pd⟩;refine NU$ NW O$ NT O$ qV (WL OA O7 O O (by rw[List.length_cons];omega) hI.clS) ?_;refine Oc O$ qM O$ NT O$ NU$ It O$ An$ NS ?_;exact(ih (s,_,sc-1,y::r,_,rc,L++[x],rs) _ (cO.zec ⟨h1,h2,h3,h4,h5,h6,h7,h8⟩ (z4C hI.okR.YF dj) pd) (by dsimp only;simp only[List.length_cons,List.length_nil];omega)).qb
    ·obtain⟨b,off,rfl,mt⟩:=hI.z7q;obtain⟨b2,off2,rfl,mj⟩:=hI.z7u;have p1:0<((x::s:List Nat).length:Int):=by rw[List.length_cons];omega
     have p2:0<((y::r).length:Int):=by rw[List.length_cons];omega
     have p3:¬(((y::r).length:Int)=0):=by omega
     have p4:¬(((x::s).length:Int)=0):=by omega
     refine py$ qN O$ NT O$ Qx OA O$ PD O O$ Qs$ NT O$ qS$ qS$ qS$ PT O O$ NU$ Oa O$ An ?_;refine NQ$ py$ Qj (λw'=>Ext w6 w') O$ Oj 0 O O (hg)$ O0 1 O (RJ OA O) hg$ O0 2 O (yeq O O) hg$ TH$ Oj 3 O O (hg)$ Oj 4 O O (hg)$ O0 5 O (RJ OA O) hg$ O0 6 O (Xq O O) hg$ T4$ Oj 7 O O (hg)$ Oj 8 O O (hg) ?_;refine O0 9 O (P7 OA O7 O O (by omega)) hg$ Oj 11 O O (hg)$ O0 12 O (P7 OA O7 O O (by omega)) hg$ qT 10 O (λ_ h=>OC OJ O O (mt _ (hI.kp.trans h.kp))) hg$ qT 13 O (λ_ h=>OC OJ O O (mj _ (hI.kp.trans h.kp))) hg$ O0 14 O (Y6 O O) hg$ T4$ O0 15 O (TL O O) hg$ O0 16 O (TA O O) hg$ O0 17 O (Qq O) hg$ qE$ py$ Qj (λw'=>Ext w6 w') O$ Oj 0 O O (aa) ?_;refine O0 1 O (RJ OA O) aa$ O0 2 O (yeq O O) aa$ TH$ Oj 3 O O (aa)$ Oj 4 O O (aa)$ O0 5 O (RJ OA O) aa$ O0 6 O (Xq O O) aa$ T4$ Oj 7 O O (aa)$ Oj 8 O O (aa)$ O0 9 O (P7 OA O7 O O (by omega)) aa$ Oj 11 O O (aa)$ O0 12 O (P7 OA O7 O O (by omega)) aa$ qT 10 O (λ_ h=>OC OJ O O (mj _ (hI.kp.trans h.kp))) aa ?_;refine qT 13 O (λ_ h=>OC OJ O O (mt _ (hI.kp.trans h.kp))) aa$ O0 14 O (Y6 O O) aa$ T4$ O0 15 O (TL O O) aa$ O0 16 O (TA O O) aa$ O0 17 O (Qq O) aa$ qE$ py$ qN O$ NT O$ NU$ Oa O$ qN O$ Od O O ?_;refine qV (P7 OA O7 O O (by omega))$ qV (OC OJ O O (mt _ cO.kp))$ NT O ?_;obtain⟨FL,FR,fs,h1,h2,h3,h4,h5,h6,h7,h8⟩:=cO.ex;refine PG O O (R0 z4b O O) (Ys h2 (by omega) h3.ne (λm hm=>by have:=h3.le m hm;omega) x true) ?_;rintro _ w7 ⟨rfl,pd⟩;refine NU$ NW O$ NT O$ qV (WL OA O7 O O (by rw[List.length_cons];omega) hI.clS) ?_;refine Oc O$ qM O$ NT O$ NU$ Oa O$ NW O$ NT O$ qV (WL OA O7 O O (by rw[List.length_cons];omega) hI.clR) ?_;refine NZ O$ NS ?_;subst dj;exact(ih (s,_,sc-1,r,_,rc-1,L,Qd rs true) _ (cO.zaR (.inr ⟨rfl,rfl,rfl,rfl⟩) ⟨h1,h2,h3,h4,h5,h6,h7,h8⟩ pd) (by dsimp only;simp only[List.length_cons,List.length_nil];omega)).qb
    ·obtain⟨b,off,rfl,mt⟩:=hI.z7q;obtain⟨b2,off2,rfl,mj⟩:=hI.z7u;have p1:0<((x::s:List Nat).length:Int):=by rw[List.length_cons];omega
     have p2:0<((y::r).length:Int):=by rw[List.length_cons];omega
     have p3:¬(((y::r).length:Int)=0):=by omega
     have p4:¬(((x::s).length:Int)=0):=by omega
     refine py$ qN O$ NT O$ Qx OA O$ PD O O$ Qs$ NT O$ qS$ qS$ qS$ PT O O$ NU$ Oa O$ An ?_;refine NQ$ py$ Qj (λw'=>Ext w6 w') O$ Oj 0 O O (hg)$ O0 1 O (RJ OA O) hg$ O0 2 O (yeq O O) hg$ TH$ Oj 3 O O (hg)$ Oj 4 O O (hg)$ O0 5 O (RJ OA O) hg$ O0 6 O (Xq O O) hg$ T4$ Oj 7 O O (hg)$ Oj 8 O O (hg) ?_;refine O0 9 O (P7 OA O7 O O (by omega)) hg$ Oj 11 O O (hg)$ O0 12 O (P7 OA O7 O O (by omega)) hg$ qT 10 O (λ_ h=>OC OJ O O (mt _ (hI.kp.trans h.kp))) hg$ qT 13 O (λ_ h=>OC OJ O O (mj _ (hI.kp.trans h.kp))) hg$ O0 14 O (Y6 O O) hg$ TH$ O0 15 O (TL O O) hg$ O0 16 O (TA O O) hg$ O0 17 O (Qq O) hg$ qE$ py$ Qj (λw'=>Ext w6 w') O$ Oj 0 O O (aa) ?_;refine O0 1 O (RJ OA O) aa$ O0 2 O (yeq O O) aa$ TH$ Oj 3 O O (aa)$ Oj 4 O O (aa)$ O0 5 O (RJ OA O) aa$ O0 6 O (Xq O O) aa$ T4$ Oj 7 O O (aa)$ Oj 8 O O (aa)$ O0 9 O (P7 OA O7 O O (by omega)) aa$ Oj 11 O O (aa)$ O0 12 O (P7 OA O7 O O (by omega)) aa$ qT 10 O (λ_ h=>OC OJ O O (mj _ (hI.kp.trans h.kp))) aa ?_;refine qT 13 O (λ_ h=>OC OJ O O (mt _ (hI.kp.trans h.kp))) aa$ O0 14 O (Y6 O O) aa$ T4$ O0 15 O (TL O O) aa$ O0 16 O (TA O O) aa$ O0 17 O (Qq O) aa$ qE$ py$ qN O$ NT O$ NU$ It O$ NW O$ Od O O ?_;refine qV (P7 OA O7 O O (by omega))$ qV (OC OJ O O (mj _ cO.kp)) ?_;obtain⟨FL,FR,fs,h1,h2,h3,h4,h5,h6,h7,h8⟩:=cO.ex;refine PG O O (R0 z4b O O) (Ys h2 (by omega) h3.ne (λm hm=>by have:=h3.le m hm;omega) y false) ?_;rintro _ w7 ⟨rfl,pd⟩;refine qM O$ NT O$ NU$ Oa O$ NW O$ NT O$ qV (WL OA O7 O O (by rw[List.length_cons];omega) hI.clR) ?_;refine NZ O$ NS ?_;exact(ih (x::s,_,sc,r,_,rc-1,L,Qd rs false) _ (cO.zaR (.inl ⟨rfl,rfl,rfl,rfl,z4C hI.okS.YF dj⟩) ⟨h1,h2,h3,h4,h5,h6,h7,h8⟩ pd) (by dsimp only;simp only[List.length_cons,List.length_nil];omega)).qb
structure TkM (w:World)(t r:Nat)(s:NY)(a:Nat):Prop where
 NX:O9 w t [ptr r 0,.bool false] 363
 rd:SX w r s a
 ne:t≠r
theorem TkM.ext {w w':World}{t r a:Nat}{s:NY}(h:TkM w t r s a)(hx:Ext w w'):TkM w' t r s a:=⟨hx.NX h.NX,⟨hx.NX h.rd.1,h.rd.2⟩,h.ne⟩
theorem Tn {w:World}{t r a:Nat}{s:NY}(h:TkM w t r s a)(c:Cd)(v n:Nat)(hc:c.PI)(hv:v<=c.most)(hn:v<=n)(jB:n<9223372036854775808)(rest:List Bool)(hb:(On s).drop a=c.enc v++rest):
  Oy prog 260 [ptr t 0,cdV c,I (n:Int)] w λu w'=>u=I (v:Int)/\TkM w' t r s (a+(c.enc v).length)/\Kp (λk=>k=r) w w':=by
 obtain⟨x,y,dj⟩:∃x y,RB c=[x,y]:=by cases c<;>exact⟨_,_,rfl⟩
 have mN:cdV c= .agg [x,y].toArray:=by rw[cdV,dj]
 have dF:=c.ZE
 rw[mN]
 refine NP (e:=[(0,_),(1,_),(2,_)]) func260 O ntmps260 O O$ qN O$ O5 O O (Qr O (cs:=[x,y]) O) ?_
 rintro _ w1 ⟨b4,rfl,fV,ad,aI⟩
 have h1:=h.ext ad
 have BU:¬b4=r:=by have:=h.rd.1.lt;omega
 have hg:=(Ext.refl w1).drew
 refine NZ O$ py$ Qj (λw'=>Kp (λk=>k=r) w1 w') O$ Oj 0 O O (hg.kp)$ O0 1 O (Pq O) (hg.kp)$ O0 2 O (OG zcw O) (hg.kp)$ qT 3 O (λ_ hS=>O6 Ud O O (hS.NX h1.NX h.ne) O) (hg.kp)$ qT 4 O (λ_ h=>OE (news:=[x,y]) RG O PY O ((h.NX aI BU).cells (n:=2) O) O) (hg.kp) ?_
 rw[<-mN]
 refine RW 5 O zby O (Yi (⟨hg.NX h1.rd.1,h1.rd.2⟩:SX _ r s a) c v hc hv rest hb) ?_
 rintro _ w2 ⟨rfl,cK,aq⟩
 refine⟨hg.kp.trans aq,?_⟩
 have jC:=hg.kp.trans aq
 have au:=jC.NX h1.NX h.ne
 refine Oj 6 O O (hg.kp.trans aq)$ O0 7 O (QL O O) (hg.kp.trans aq)$ O0 8 O (QL O O) (hg.kp.trans aq)$ O0 9 O (Qq O) (hg.kp.trans aq)$ O0 10 O (Qq O) (hg.kp.trans aq)$ qE$ py$ qN O$ NT O$ Pz O O$ Od O O$ NT O$ qV ((Pf O U3 Qy (by omega)))$ PD O O ?_
 refine OR$ OU O O$ NU$ It O$ An$ qN O$ NT O$ qV (OT O Qy U3 (by omega))$ NZ O$ OD.qb (e:=[(6,_)]) ?_
 refine NV func260 O ?_
 exact⟨_,rfl,rfl,⟨au,cK,h.ne⟩,ad.kp.trans jC⟩
theorem Pm (q:Cd×Nat)(l:List (Cd×Nat)):Oq (q::l)=q.1.enc q.2++Oq l:=rfl
theorem Rs {s e rest:List Bool}{a:Nat}(h:s.drop a=e++rest):s.drop (a+e.length)=rest:=by
 rw[<-List.drop_drop,h,List.drop_left]
structure CpI (w:World)(t r:Nat)(s:NY)(rs ref:List Nat)(rest:List Bool)(aE i:Nat)(rs2 ref2:List Nat)(sa:Option Addr)(sc:Nat)(v5:Value)(O_:List Nat)(a:Nat)(w':World):Prop where
 tk:TkM w' t r s a
 kp:Kp (λk=>k=r) w w'
 sl:Sl w' v5 106 1 O_.length (O_.map OB)
 fr:∀g,v5.ownBlock=some g->w.heap.size<=g
 len:rs.length=i+rs2.length
 rd:∀w2,Kp (λk=>k=r) w w2->Rd w2 (.slice sa ref2.length sc) 1 ref2.length (ref2.map OB)
 cl:ref2.length<=sc
 sum:rs2.sum<=ref2.length
 pos:∀m∈rs2.drop (1-min i 1),1<=m
 bits:(On s).drop a=Oq (Px i rs2)++rest
 z4z:a+(Oq (Px i rs2)).length=aE
 eq:copyL true rs ref=O_++copyL (i%2==0) rs2 ref2
 tot:O_.length+ref2.length<=65536
theorem z8f (a:Addr):a.add 0=a:=by
 unfold Addr.add
 split<;>simp_all
theorem zaF {P:Program}{e:Env}{d:Option Nat}{ty t el:TypeId}{pos:String}{aft:Array Edge}{g:Option (Nat×Bool)}{x u:Operand}{w:World}{z:Value}{size bytes n cap j:Nat}{a:Option Addr}{k:IntKind}{zb:Int}[vT:RV zb j](ht:P.underlying t=some (.slice el))(hs:TI P el z size bytes)(hx:look e x=some (.slice a n cap))
  (hu:look e u=some (.int k zb)) (h:j<=cap):
  Y P e ⟨d,.slice t x none (some u) none,ty,pos,aft,g⟩ (.slice a j cap) w w:=fun ρ hρ=>by
 obtain⟨rfl⟩:=vT
 have cE:=hs.size (w:=w)
 have h1:∀w,(Instr.sliceBound (.int k (j:Int)) cap .sliceAcap).run P w= .ok j w:=λw=>by rw[run_sliceBound _ _ _ _ _ (by omega) (by omega)];simp
 cases a with
 |none=>simp[execOp,hρ _ _ hx,hρ _ _ hu,Instr.sliceAt,run_underlying ht,Instr.slice,Instr.sliceBounds,h1,cE]
 |some a=>simp[execOp,hρ _ _ hx,hρ _ _ hu,Instr.sliceAt,run_underlying ht,Instr.slice,Instr.sliceBounds,h1,cE,z8f]
theorem z3G {w:World}{t r a:Nat}{s:NY}(h:TkM w t r s a)(hG:O9 w 2 (RB .gamma) 317)(cY:¬2=r){sa:Option Addr}{sc:Nat}(ref rs:List Nat)
  (dQ:∀w2,Kp (λk=>k=r) w w2->Rd w2 (.slice sa ref.length sc) 1 ref.length (ref.map OB)) (cQ:ref.length<=sc) (BT:ref.length<=65536) (hn:rs.length<=ref.length+1) (g8:rs.sum<=ref.length)
  (ir:∀m∈rs.drop 1,1<=m) (rest:List Bool) (hb:(On s).drop a=Oq ((.gamma,rs.length)::Px 0 rs)++rest):
  Oy prog 252 [ptr t 0,.slice sa ref.length sc] w λu w'=>Sl w' u 106 1 (copyL true rs ref).length ((copyL true rs ref).map OB)/\(∀g,u.ownBlock=some g->w.heap.size<=g)/\
   TkM w' t r s (a+(Oq ((.gamma,rs.length)::Px 0 rs)).length)/\Kp (λk=>k=r) w w':=by
 have jD:∀v:Nat,v<=65537->v<=Cd.most .gamma:=λv hv=>by simp only[Cd.most];omega
 refine NP (e:=[(0,_),(1,_)]) func252 O ntmps252 O O$ qN O$ Oc O$ qM O$ Oc O$ qM O$ NT O$ qV (OE (news:=[.int .u8 1,u64v 0]) RG O PY O (hG.cells (n:=2) O) O)$ NT O$ Qx OA O ?_
 rw[Pm,List.append_assoc] at hb
 rw[show((ref.length:Nat):Int)=((ref.length:Nat):Int) from rfl]
 refine P6 O O$ Om z1I O (Tn h .gamma rs.length (ref.length+1) trivial (jD _ (by omega)) (by omega) (by omega) _ hb) ?_
 rintro _ w1 ⟨rfl,h1,aK⟩
 have bK:=Rs hb
 refine NZ O$ py$ qN O$ Od O O$ NU$ NQ$ Qm (α:=Nat×List Nat×List Nat×Option Addr×Nat×Value×List Nat×Nat) ((0,rs,ref,sa,sc,.slice none 0 0,[],a+(Cd.enc .gamma rs.length).length)) (λx=>[(0,ptr t 0),(1,.slice x.2.2.2.1 x.2.2.1.length x.2.2.2.2.1),(5,x.2.2.2.2.2.1),(6,I (rs.length:Int)),(15,I (rs.length:Int)),(16,I (x.1:Int))]) (λx w'=>CpI w t r s rs ref rest (a+(Oq ((.gamma,rs.length)::Px 0 rs)).length) x.1 x.2.1 x.2.2.1 x.2.2.2.1 x.2.2.2.2.1 x.2.2.2.2.2.1 x.2.2.2.2.2.2.1 x.2.2.2.2.2.2.2 w') (λx=>x.2.1.length) ?hI ?hround
 case hI=>exact⟨h1,aK,Sl.nil _ _ _,(λg h=>by cases h),by simp,dQ,cQ,g8,ir,bK,by rw[Pm,List.length_append];dsimp only;omega,rfl,by simp;omega⟩
 case hround =>
  rintro⟨i,rs2,ref2,sa2,sc2,v5,O_,a2⟩ w6 hI ih;dsimp only at hI;have aF:=hI.len;have wm:=hI.tot
  try dsimp only
  refine qN O$ Py O O$ NU$ py$ O8 O (λh0=>?_)$ λh0=>?_
  ·obtain⟨n,rs2,rfl⟩:∃n l,rs2=n::l:=by
    cases rs2 with
    |nil=>simp at aF;omega
    |cons n l=>exact⟨n,l,rfl⟩
   have AH:=hI.kp.NX hG cY;have g8:=hI.sum;rw[List.sum_cons] at g8;rw[List.length_cons] at aF;have ce:=hI.bits;rw[Px,Pm,List.append_assoc] at ce
   have cT:min i 1<=n:=by
    have hp:=hI.pos n;rcases Nat.eq_zero_or_pos i with e| e
    ·subst e;simp
    ·rw[show 1-min i 1=0 by omega] at hp;have:=hp List.mem_cons_self;omega
   refine An$ py$ NQ$ qN O$ NT O$ Oc O$ qM O$ NT O$ qV (OE (news:=[.int .u8 1,u64v 0]) RG O PY O (AH.cells (n:=2) O) O)$ NT O$ Qx OA O$ Om z1I O (Tn hI.tk .gamma (n-min i 1) ref2.length trivial (jD _ (by omega)) (by omega) (by omega) _ ce) ?_;rintro _ w7 ⟨rfl,h7,aD⟩;have eD:=hI.kp.trans aD;have bN:=h7.NX;refine NT O$ qV (ymi O O)$ P6 O O ?_;rw[show((n-min i 1:Nat):Int)+min (i:Int) 1=(n:Int) by omega];refine NZ O$ py$ qN O$ NT O$ OH O$ Og SU O$ qV (O6 U4 O O bN O)$ Od O O$ NT O$ Qx OA O$ PD O O$ OR$ OU O O$ NU ?_;refine It O$ An$ py$ qN O$ NT O$ qV (Wp O O (by omega) (by omega)) ?_;rw[Nat.and_one_is_mod];have BV:=hI.rd _ eD;have f9:=Rs ce;have wh:=hI.kp.size;have Hn:=aD.size
   have sC:∀g,v5.ownBlock=some g->¬g=r:=λg hg e=>by
    have h1:=hI.fr g hg;have h2:=h.rd.1.lt;omega
   have gL:=hI.sl.kp aD sC
   have dR:∀(v5':Value) (w8:World),Sl w8 v5' 106 1 (O_++if i%2==0 then ref2.take n else []).length ((O_++if i%2==0 then ref2.take n else []).map OB)->(∀g,v5'.ownBlock=some g->w.heap.size<=g)->Kp (λk=>v5.ownBlock=some k) w7 w8->
     CpI w t r s rs ref rest (a+(Oq ((.gamma,rs.length)::Px 0 rs)).length) (i+1) rs2 (ref2.drop n) (if sc2=n then sa2 else sa2.map (·.add (n*1))) (sc2-n) v5' (O_++if i%2==0 then ref2.take n else []) (a2+(Cd.enc .gamma (n-min i 1)).length) w8:=by
    intro v5' w8 g1 g2 g3;have lt7:=h7.NX.lt;have lr7:=h7.rd.1.lt;have uU:=h.NX.lt;have dL:=h.rd.1.lt;have oE:∀x,x<w.heap.size->¬v5.ownBlock=some x:=λx hx e=>by have:=hI.fr x e;omega
    refine⟨⟨g3.NX h7.NX (oE t uU),⟨g3.NX h7.rd.1 (oE r dL),h7.rd.2⟩,h7.ne⟩,eD.NR g3 (λk hk=> .inl (hI.fr k hk)),g1,g2,by omega,λw2 k=>?_,by rw[List.length_drop];have:=hI.cl;omega,by rw[List.length_drop];omega,?_,?_,?_,?_,?_⟩
    ·have:=RF (hI.rd w2 k) (i:=n) (by omega) hI.cl;rw[<-List.map_drop] at this;rw[List.length_drop];exact this
    ·intro m hm;refine hI.pos m ?_;rw[show 1-min (i+1) 1=0 by omega,List.drop_zero] at hm;rcases Nat.eq_zero_or_pos i with e| e
     ·subst e;exact hm
     ·rw[show 1-min i 1=0 by omega];exact List.mem_cons_of_mem _ hm
    ·exact f9
    ·have:=hI.z4z;rw[Px,Pm,List.length_append] at this;dsimp only at this;omega
    ·rw[hI.eq,copyL,List.append_assoc]
     have:((i+1)%2==0)= !(i%2==0):=by
      rcases Nat.mod_two_eq_zero_or_one i with e| e
      ·rw[e,show(i+1)%2=1 by omega];rfl
      ·rw[e,show(i+1)%2=0 by omega];rfl
     rw[this]
    ·rw[List.length_append,List.length_drop];split
     ·rw[List.length_take];omega
     ·simp;omega
   refine Qe O O$ NU$ O8 O (λe1=>?_)$ λe1=>?_
   ·have e2:(i%2==0)=true:=by simp;omega
    simp only[e2,if_true] at dR;refine NW O$ Od O O$ NT O$ qV (zaF OA O7 O O (by have:=hI.cl;omega)) ?_;have sD:=hI.cl;refine O5 O O (pap OA O7 O (by decide) O O gL (Sk BV (i:=n) (by omega)) (by rw[<-List.map_take];exact XZ _) (by omega) (by simp only[maxLen];omega)) ?_;rintro v5' w8 ⟨dX,aS,kK,-⟩;have mq:=dX.oneV;refine NZ O$ NW O$ Od O O$ qV (WL OA O7 O O (by omega) hI.cl)$ NZ O$ NS$ NW O$ P6 O O$ NT O$ NU ?_;rw[show ref2.length-n=(ref2.drop n).length by rw[List.length_drop]];refine(ih (i+1,rs2,ref2.drop n,_,sc2-n,v5',O_++ref2.take n,_) _ (dR v5' _ ?_ ?_ aS) (by dsimp only;simp)).qb
    ·rw[List.length_append,List.map_append,List.length_take,Nat.min_eq_left (by omega),List.map_take];exact dX
    ·intro g hg;rcases kK g hg with e| e
     ·exact hI.fr g e
     ·omega
   ·have e2:(i%2==0)=false:=by simp;omega
    simp only[e2,Bool.false_eq_true,if_false,List.append_nil] at dR;refine An$ NW O$ Od O O$ qV (WL OA O7 O O (by omega) hI.cl)$ NZ O$ NS$ NW O$ P6 O O$ NT O$ NU ?_;rw[show ref2.length-n=(ref2.drop n).length by rw[List.length_drop]];exact(ih (i+1,rs2,ref2.drop n,_,sc2-n,v5,O_,_) _ (dR v5 _ gL hI.fr (Kp.refl _ _)) (by dsimp only;simp)).qb
  ·have eW:rs2=[]:=List.eq_nil_of_length_eq_zero (by omega);subst eW;have MZ:rs.length=i:=by rw[aF];simp
   have jV:=hI.z4z;have dI:=hI.eq;rw[copyL] at dI;rw[show(Oq (Px i [])).length=0 from rfl,Nat.add_zero] at jV;refine O4 O$ py$ qN O$ NT O$ qV (Wp O O (by omega) (by omega)) ?_;rw[Nat.and_one_is_mod];refine Qe O O$ NU$ O8 O (λe1=>?_)$ λe1=>?_
   ·rw[if_pos (by simp;omega)] at dI;refine NW O$ Od O O$ O5 O O (pap OA O7 O (by decide) O O hI.sl (hI.rd _ hI.kp) (XZ _) (by omega) (by simp only[maxLen];omega)) ?_;rintro v5' w8 ⟨dX,aS,kK,-⟩;have mq:=dX.oneV;refine Oc O$ qM O$ NT O$ NZ O$ NV func252 O ?_;rw[dI,<-jV];have wh:=hI.kp.size;have oE:∀x,x<w.heap.size->¬v5.ownBlock=some x:=λx hx e=>by have:=hI.fr x e;omega
    refine⟨_,rfl,?_,λg hg=>?_,⟨aS.NX hI.tk.NX (oE t h.NX.lt),⟨aS.NX hI.tk.rd.1 (oE r h.rd.1.lt),hI.tk.rd.2⟩,hI.tk.ne⟩,hI.kp.NR aS (λk hk=> .inl (hI.fr k hk))⟩
    ·rw[List.length_append,List.map_append];exact dX
    ·rcases kK g hg with e| e
     ·exact hI.fr g e
     ·omega
   ·rw[if_neg (by simp;omega),List.append_nil] at dI;refine An$ qN O$ NT O$ NZ O$ NV func252 O ?_;rw[dI,<-jV];exact⟨_,rfl,hI.sl,hI.fr,hI.tk,hI.kp⟩
structure ReI (w w1:World)(t r:Nat)(s:NY)(l:List Nat)(x k:Nat)(rest:List Bool)(aE b7:Nat)(dn l2:List Nat)(v9:Value)(a:Nat)(w':World):Prop where
 tk:TkM w' t r s a
 kp:Kp (λk=>k=t\/k=r) w w'
 b7:O9 w' b7 (RB (.zeta k)) 317
 sl:Sl w' v9 106 1 dn.length (dn.map OB)
 fr:∀g,v9.ownBlock=some g->w1.heap.size<=g
 eq:l=dn++l2
 bits:(On s).drop a=Oq (OZ x k dn.getLast? l2)++rest
 z4z:a+(Oq (OZ x k dn.getLast? l2)).length=aE
 siz:w1.heap.size<=w'.heap.size
theorem z5S {w:World}{t r a:Nat}{s:NY}(h:TkM w t r s a)(x k:Nat)(hx:x<65536)(hk:1<=k/\k<=16)(l:List Nat)(hl:OQ l)(rest:List Bool)(hb:(On s).drop a=Oq (OZ x k none l)++rest):
  Oy prog 254 [ptr t 0,I (x:Int),I (l.length:Int),cdV (.zeta k)] w λu w'=>Sl w' u 106 1 l.length (l.map OB)/\(∀g,u.ownBlock=some g->w.heap.size<=g)/\
   TkM w' t r s (a+(Oq (OZ x k none l)).length)/\Kp (λk=>k=t\/k=r) w w':=by
 have aF:=hl.len
 have lt0:=h.NX.lt
 have lr0:=h.rd.1.lt
 refine NP (e:=[(0,_),(1,_),(2,_),(3,_)]) func254 O ntmps254 O O$ qN O$ O5 O O (Qr O (cs:=RB (.zeta k)) O) ?_
 rintro _ w1 ⟨b7,rfl,jQ,ad,bN⟩
 have h1:=h.ext ad
 have z1:=ad.size
 have Ho:=bN.lt
 refine Oc O$ qM O$ NZ O$ py$ qN O$ Od O O$ NU$ NQ$ Qm (α:=List Nat×List Nat×Value×Nat) (([],l,.slice none 0 0,a)) (λy=>[(0,ptr t 0),(1,I (x:Int)),(7,ptr b7 0),(9,y.2.2.1),(12,I (l.length:Int)),(13,I (y.1.length:Int))]) (λy w'=>ReI w w1 t r s l x k rest (a+(Oq (OZ x k none l)).length) b7 y.1 y.2.1 y.2.2.1 y.2.2.2 w') (λy=>y.2.1.length) ?hI ?hround
 case hI=>exact⟨h1,ad.kp,bN,Sl.nil _ _ _,(λg h=>by cases h),rfl,hb,rfl,Nat.le_refl _⟩
 case hround =>
  rintro⟨dn,l2,v9,a2⟩ w6 hI ih;dsimp only at hI;have dI:=hI.eq;have fJ:l.length=dn.length+l2.length:=by rw[dI,List.length_append]
  try dsimp only
  refine qN O$ Py O O$ NU$ py$ O8 O (λh0=>?_)$ λh0=>?_
  ·obtain⟨y,l2,rfl⟩:∃y q,l2=y::q:=by
    cases l2 with
    |nil=>simp at fJ;omega
    |cons y q=>exact⟨y,q,rfl⟩
   rw[List.length_cons] at fJ;have sE:y<65536:=hl.lt y (by rw[dI];simp);have aO:=hI.b7;have ce:=hI.bits;have jV:=hI.z4z
   have key:∃v:Nat,OZ x k dn.getLast? (y::l2)=(.zeta k,v)::OZ x k (dn++[y]).getLast? l2/\v<=262144/\(dn=[]->v=zig ((y:Int)-x))/\∀u q,dn=q++[u]->v+(u+1)=y:=by
    rw[List.getLast?_append,show [y].getLast? =some y from rfl,Option.some_or];rcases List.eq_nil_or_concat dn with rfl|⟨q,u,rfl⟩
    ·refine⟨_,rfl,?_,λ_=>rfl,λu q e=>by simp at e⟩;have:=Yr (z:=(y:Int)-x) (n:=65536) (by omega) (by omega);omega
    ·have hu:u<y:=by
      have hr:=hl.YF;rw[dI] at hr;exact(List.pairwise_append.1 hr).2.2 u (by simp) y (by simp)
     refine⟨y-u-1,?_,by omega,λe=>by simp at e,λu2 q2 e=>?_⟩
     ·have e1:(q.concat u).getLast? =some u:=by simp
      rw[e1];rfl
     ·have e2:q++[u]=q2++[u2]:=by simpa using e
      have:=(List.append_inj' e2 O).2;simp at this;omega
   obtain⟨v,eZ,lE,BW,vh⟩:=key;rw[eZ,Pm,List.append_assoc] at ce;rw[eZ,Pm,List.length_append] at jV;refine An$ py$ NQ$ qN O$ NT O$ Oc O$ qM O$ NT O$ qV (OE (news:=RB (.zeta k)) RG O PY O (aO.cells (n:=2) O) O)$ Om z1I O (Tn hI.tk (.zeta k) v 262144 hk (by simp only[Cd.most];omega) lE (by omega) _ ce) ?_;rintro _ w7 ⟨rfl,h7,aD⟩;have eD:Kp (λk=>k=t\/k=r) w w7:=hI.kp.trans (aD.Of λk e=> .inr e);have f9:=Rs ce;have gL:=hI.sl.kp aD (λg hg e=>by have:=hI.fr g hg;omega);have BX:=aD.NX aO (by omega);have Hn:=hI.siz;have wh:=aD.size;refine NZ O$ py$ qN O$ NT O$ Qe O O$ NU$ OX (λe' w'=>w'=w7/\e'=[(0,ptr t 0),(1,I (x:Int)),(7,ptr b7 0),(9,v9),(11,I (y:Int)),(12,I (l.length:Int)),(13,I (dn.length:Int))]) ?mG$ λmG=>?mH
   case mG=>
    rintro e' w7 ⟨rfl,rfl⟩;have ic:=h7.NX;refine py$ qN O$ Od O O$ OH O$ Og SU O$ qV (O6 U4 O O ic O)$ Od O O$ Om z6x O (UF y sE _) ?_;rintro _ w8 ⟨rfl,rfl⟩;refine qV ((Rn O))$ OU O O$ OH O$ Og SU O$ Oe O (PV Vg O O O ic (by simp)) ?_;rintro w8 ⟨cn,aS⟩;replace cn:O9 w8 t [ptr r 0,.bool false] 363:=cn;refine qM O$ NT O$ OH O$ Og SU O$ qV (O6 U4 O O cn O)$ NU$ It O$ An$ NW O$ Od O O$ qV (z0H O U3 OJ) ?_;rw[Nat.mod_eq_of_lt (show y<4294967296 by omega)];refine O5 O O (Vl (cs:=[_]) (zs:=[Value.int .u32 0]) OA O7 O (by kernel_rfl) O O O (by decide)) ?_;rintro _ w9 ⟨b9,rfl,⟨oF,eY,cL⟩,wo⟩;have oE:∀g,v9.ownBlock=some g->¬g=t:=λg hg e=>by have:=hI.fr g hg;omega
    have kL:∀g,v9.ownBlock=some g->¬g=r:=λg hg e=>by have:=hI.fr g hg;omega
    have Hp:=aS.size;have Hq:=eY.size;refine O5 O O (pap OA O7 O (by decide) O O ((gL.kp aS oE).ext eY) wo.rd (by intro c hc;simp at hc;subst hc;rfl) (by omega) (by simp only[maxLen];omega)) ?_;rintro v10 w10 ⟨bz,ar,BY,-⟩;have mq:=bz.oneV;refine NZ O$ NS$ NW O$ P6 O O$ NT O$ NU ?_;have sF:∀g,g<w1.heap.size->¬v9.ownBlock=some g:=λg hg e=>by have:=hI.fr g e;omega
    rw[show(dn.length:Int)+1=((dn++[y]).length:Int) by simp];refine(ih (dn++[y],l2,v10,a2+(Cd.enc (.zeta k) v).length) _ ⟨⟨ar.NX (eY.NX cn) (sF t (by omega)),⟨ar.NX (eY.NX (aS.NX h7.rd.1 (λe=>h7.ne e.symm))) (sF r (by omega)),h7.rd.2⟩,h7.ne⟩,?_,?_,?_,?_,?_,f9,?_,?_⟩ (by dsimp only;simp)).qb
    ·exact((eD.trans (aS.Of λk e=> .inl e)).trans eY.kp).NR ar (λg hg=> .inl (by have:=hI.fr g hg;omega))
    ·exact ar.NX (eY.NX (aS.NX BX (by omega))) (sF b7 (by omega))
    ·rw[List.length_append,List.map_append];exact bz
    ·intro g hg;rcases BY g hg with e| e
     ·exact hI.fr g e
     ·omega
    ·rw[dI,List.append_assoc];rfl
    ·dsimp only at jV⊢;omega
    ·have:=ar.size;omega
   case mH=>
    refine O8 O (λe1=>?_)$ λe1=>?_
    ·have eW:dn=[]:=List.eq_nil_of_length_eq_zero (by omega);refine NW O$ NT O$ qV (Pf O U3 Qy (by omega))$ Om zd4 O (z6T v (by omega) _) ?_;rintro _ w8 ⟨rfl,rfl⟩;rw[BW eW,z7z];refine NT O$ P6 O O ?_;rw[show(y:Int)-x+x=(y:Int) by omega];refine NZ O ?_;exact(mG _ _ ⟨rfl,rfl⟩).qb
    ·obtain⟨q,u,rfl⟩:∃q u,dn=q++[u]:=by
      rcases List.eq_nil_or_concat dn with rfl|⟨q,u,rfl⟩
      ·exact absurd O e1
      ·exact⟨q,u,by simp⟩
     have Hr:=vh u q O;have oB:(q++[u]).length=q.length+1:=by simp
     rw[oB] at gL;rcases gL.shape with⟨-,h0⟩|⟨g,c1,rfl,du⟩
     ·omega
     refine NW O$ Od O O$ NT O$ Qp O O ?_;rw[show(((q++[u]).length:Nat):Int)-1=(q.length:Int) by simp];refine qV (P7 OA O7 O O (by omega))$ qV (OC OJ O O (Ps gL.rd (show((q++[u]).map OB)[q.length]? =some (OB u) by simp))) ?_;refine qV (OT O OJ U3 (by omega))$ P6 O O$ P6 O O ?_;rw[show(v:Int)+((u:Int)+1)=(y:Int) by omega];refine NZ O ?_;exact(mG _ _ ⟨rfl,rfl⟩).qb
  ·have eW:l2=[]:=List.eq_nil_of_length_eq_zero (by omega);subst eW;refine O4 O$ qN O$ NT O$ NZ O$ NV func254 O ?_;rw[List.append_nil] at dI;subst dI;have jV:=hI.z4z;rw[show(Oq (OZ x k l.getLast? [])).length=0 by cases l.getLast?<;>rfl,Nat.add_zero] at jV;rw[<-jV];exact⟨_,rfl,hI.sl,λg hg=>by have:=hI.fr g hg;omega,hI.tk,hI.kp⟩
section
variable {P:Program}{b:Frame}{a:Act}{k:List Item}{cs:List Frame}{w:World}{C:Cx}{e:Env}
theorem z3e {c:Code}:step P (lone (b.atR a (.code (.scope c)::k)) cs w)= .next (lone (b.atR a (.code c:: .inScope c::k)) cs w):=
 step_lone_go (by simp[stepG,stepG.exec,Frame.atR])
theorem z81 {c:Code}(h:OD C (.code c:: .inScope c::k) e w):OD C (.code (.scope c)::k) e w:=λa ha=>Vw.step (λ_ _=>z3e) (h a ha)
end
def loE:Option Nat->Nat
 |none=>0
 |some z=>z+2
def z4R:Option Nat->Int
 |none=>-1
 |some z=>(z:Int)
def Tw (x:Nat):Option Nat->Nat->Nat
 |none,y=>zig ((y:Int)-x)
 |some e,y=>y-e-2
theorem QS (x least:Nat)(e:Option Nat)(p:Nat×Nat)(R:List (Nat×Nat)):OV x least e (p::R)=(.gamma,Tw x e p.1)::(.gamma,p.2-least)::OV x least (some (p.1+p.2-1)) R:=by
 cases e<;>rfl
structure LoI (w:World)(t r:Nat)(s:NY)(R:List (Nat×Nat))(x least left:Nat)(rest:List Bool)(aE:Nat)(i:Nat)(R2:List (Nat×Nat))(e:Option Nat)(O_:List Nat)(v9:Value)(a:Nat)(w':World):Prop where
 tk:TkM w' t r s a
 kp:Kp (λk=>k=t\/k=r) w w'
 sl:Sl w' v9 106 1 O_.length (O_.map OB)
 fr:∀g,v9.ownBlock=some g->w.heap.size<=g
 len:R.length=i+R2.length
 eq:Qa R=O_++Qa R2
 ok:S4 least (loE e) R2
 hi:∀p∈R2,p.1+p.2<=65536
 tot:O_.length+(Qa R2).length<=left
 bits:(On s).drop a=Oq (OV x least e R2)++rest
 z4z:a+(Oq (OV x least e R2)).length=aE
 eb:z4R e<65536
theorem z7R {w : World}{t r a : Nat}{s : NY}(h : TkM w t r s a)(hG : O9 w 2 (RB .gamma) 317)(cY : ¬ 2 = r)(iV : ¬ 2 = t)(x left least : Nat)(hx : x < 65536)(qW : left <= 65536)(BZ : least <= 64)(R : List (Nat × Nat))(hR : S4 least 0 R)(J5 : ∀ p ∈ R, p.1 + p.2 <= 65536)
  (wm:(Qa R).length<=left) (J6:R.length<=left) (rest:List Bool) (hb:(On s).drop a=Oq ((.gamma,R.length)::OV x least none R)++rest):
  Oy prog 253 [ptr t 0,I (x:Int),I (left:Int),I (least:Int)] w λu w'=>Sl w' u 106 1 (Qa R).length ((Qa R).map OB)/\(∀g,u.ownBlock=some g->w.heap.size<=g)/\
   TkM w' t r s (a+(Oq ((.gamma,R.length)::OV x least none R)).length)/\Kp (λk=>k=t\/k=r) w w':=by
 have jD:∀v:Nat,v<=262144->v<=Cd.most .gamma:=λv hv=>by simp only[Cd.most];omega
 have lt0:=h.NX.lt
 have lr0:=h.rd.1.lt
 refine NP (e:=[(0,_),(1,_),(2,_),(3,_)]) func253 O ntmps253 O O$ qN O$ NZ O$ z81$ qN O$ Oc O$ qM O$ NZ O$ py$ z7I$ py$ qN O$ NT O$ qV (OE (news:=[.int .u8 1,u64v 0]) RG O PY O (hG.cells (n:=2) O) O) ?_
 rw[Pm,List.append_assoc] at hb
 refine NT O$ Om z1I O (Tn h .gamma R.length left trivial (jD _ (by omega)) J6 (by omega) _ hb) ?_
 rintro _ w1 ⟨rfl,h1,aK⟩
 have bK:=Rs hb
 refine NT O$ NU$ NQ$ Qm (α:=Nat×List (Nat×Nat)×Option Nat×List Nat×Value×Nat) ((0,R,none,[],.slice none 0 0,a+(Cd.enc .gamma R.length).length)) (λy=>[(0,ptr t 0),(1,I (x:Int)),(2,I (left:Int)),(3,I (least:Int)),(9,y.2.2.2.2.1),(10,I (z4R y.2.2.1)),(17,I (R.length:Int)),(18,I (y.1:Int))]) (λy w'=>LoI w t r s R x least left rest (a+(Oq ((.gamma,R.length)::OV x least none R)).length) y.1 y.2.1 y.2.2.1 y.2.2.2.1 y.2.2.2.2.1 y.2.2.2.2.2 w') (λy=>y.2.1.length) ?hI ?hround
 case hI=>exact⟨h1,aK.Of λk e=> .inr e,Sl.nil _ _ _,(λg h=>by cases h),by simp,rfl,hR,J5,by simpa using wm,bK,by rw[Pm,List.length_append];dsimp only;omega,(show(-1:Int)<65536 by decide)⟩
 case hround =>
  rintro⟨i,R2,e,O_,v9,a2⟩ w6 hI ih;dsimp only at hI;have aF:=hI.len
  try dsimp only
  refine qN O$ Py O O$ NU$ py$ O8 O (λh0=>?_)$ λh0=>?_
  ·obtain⟨⟨p1,p2⟩,R2,rfl⟩:∃p q,R2=p::q:=by
    cases R2 with
    |nil=>simp at aF;omega
    |cons p q=>exact⟨p,q,rfl⟩
   rw[List.length_cons] at aF;obtain⟨ok1,ok2,ok3,ok4⟩:loE e<=p1/\1<=p2/\least<=p2/\S4 least (p1+p2+1) R2:=hI.ok;have N0:p1+p2<=65536:=hI.hi (p1,p2) List.mem_cons_self;have ia:Qa ((p1,p2)::R2)=(List.range p2).map (p1+·)++Qa R2:=rfl;have qX:=hI.tot;have wq:=hI.eq;rw[ia] at qX wq;rw[List.length_append,List.length_map,List.length_range] at qX;have ce:=hI.bits;have jV:=hI.z4z;rw[QS,Pm,Pm,List.append_assoc,List.append_assoc] at ce;rw[QS,Pm,Pm,List.length_append,List.length_append] at jV;have C1:=hI.eb
   have eZ:Tw x e p1<=262144:=by
    cases e with
    |none=>have:=Yr (z:=(p1:Int)-x) (n:=65537) (by omega) (by omega);show zig _<=_;omega
    |some z=>show p1-z-2<=_;omega
   have jW:∀k,(λk=>k=t\/k=r) k->k<w.heap.size:=λk hk=>by rcases hk with e|e<;>omega
   have AH:=hI.kp.NX hG (λe=>by rcases e with e|e;exact iV e;exact cY e);refine An$ py$ NQ$ qN O$ NT O$ qV (OE (news:=[.int .u8 1,u64v 0]) RG O PY O (AH.cells (n:=2) O) O)$ Om z1I O (Tn hI.tk .gamma (Tw x e p1) 262144 trivial (jD _ eZ) eZ (by omega) _ ce) ?_;rintro _ w7 ⟨rfl,h7,aD⟩;have f9:=Rs ce;have Hn:=hI.kp.size;have wh:=aD.size;have Hs:∀g,v9.ownBlock=some g->¬g=r:=λg hg e=>by have:=hI.fr g hg;omega
   have gL:=hI.sl.kp aD Hs;have eD:Kp (λk=>k=t\/k=r) w w7:=hI.kp.trans (aD.Of λk e=> .inr e);refine NZ O$ py$ qN O$ NT O$ Py O O$ NU$ OX (λe' w'=>w'=w7/\e'=[(0,ptr t 0),(1,I (x:Int)),(2,I (left:Int)),(3,I (least:Int)),(9,v9),(11,I (p1:Int)),(17,I (R.length:Int)),(18,I (i:Int))]) ?mG$ λmG=>?mH
   case mG =>
    rintro e' w7 ⟨rfl,rfl⟩;have J7:=aD.NX AH cY;refine qN O$ NT O$ qV (OE (news:=[.int .u8 1,u64v 0]) RG O PY O (J7.cells (n:=2) O) O)$ NT O$ Om z1I O (Tn h7 .gamma (p2-least) left trivial (jD _ (by omega)) (by omega) (by omega) _ f9) ?_;rintro _ w8 ⟨rfl,h8,aS⟩;have sG:=Rs f9;have Hp:=aS.size;have dX:=gL.kp aS Hs;have pf:Kp (λk=>k=t\/k=r) w w8:=eD.trans (aS.Of λk e=> .inr e);obtain⟨va,vc,rfl,-⟩:=hI.sl.rd.shape;refine NT O$ P6 O O ?_;rw[show((p2-least:Nat):Int)+(least:Int)=(p2:Int) by omega];have cn:=h8.NX;refine NZ O$ py$ qN O$ Od O O$ OH O$ Og SU O$ qV (O6 U4 O O cn O)$ Od O O$ Py O O$ OR$ OU O O$ Od O O$ NT O$ P6 O O ?_;refine PD O O$ OR$ OU O O$ Od O O$ Od O O$ Qx OA O$ Qp O O$ PD O O$ OR$ OU O O$ OH O$ Og SU O$ Oe O (PV Vg O O O cn (by simp)) ?_;rintro w9 ⟨cL,aL⟩;replace cL:O9 w9 t [ptr r 0,.bool false] 363:=cL;refine qM O$ NT O$ OH O$ Og SU O$ qV (O6 U4 O O cL O) ?_;have Hq:=aL.size;have wo:=dX.kp aL (λg hg e=>by have:=hI.fr g hg;omega);have h9:TkM w9 t r s (a2+(Cd.enc .gamma (Tw x e p1)).length+(Cd.enc .gamma (p2-least)).length):=⟨cL,⟨aL.NX h8.rd.1 (λe=>h8.ne e.symm),h8.rd.2⟩,h8.ne⟩;have C2:Kp (λk=>k=t\/k=r) w w9:=pf.trans (aL.Of λk e=> .inl e);refine NU$ It O$ An$ py$ qN O$ Od O O$ NU$ NQ$ Qm (α:=Nat×Value) ((0,.slice va O_.length vc)) (λy=>[(0,ptr t 0),(1,I (x:Int)),(2,I (left:Int)),(3,I (least:Int)),(9,y.2),(11,I (p1:Int)),(12,I (p2:Int)),(17,I (R.length:Int)),(18,I (i:Int)),(69,I (p2:Int)),(70,I (y.1:Int))]) (λy w'=>TkM w' t r s (a2+(Cd.enc .gamma (Tw x e p1)).length+(Cd.enc .gamma (p2-least)).length)/\Kp (λk=>k=t\/k=r) w w'/\Sl w' y.2 106 1 (O_.length+y.1) ((O_++(List.range y.1).map (p1+·)).map OB)/\(∀g,y.2.ownBlock=some g->w.heap.size<=g)/\y.1<=p2) (λy=>p2-y.1) ?hI ?hround
    case hI=>exact⟨h9,C2,by simpa using wo,hI.fr,Nat.zero_le _⟩
    case hround=>
     rintro⟨j,v⟩ w10 ⟨eQ,ar,bz,bj,hj⟩ ih2;dsimp only at eQ ar bz bj hj
     try dsimp only
     refine qN O$ Py O O$ NU$ py$ O8 O (λkM=>?_)$ λkM=>?_
     ·refine An$ py$ NQ$ qN O$ NT O$ NZ O$ NW O$ Od O O$ NT O$ P6 O O$ qV (z0H O U3 OJ) ?_;rw[show(p1+j)%4294967296=p1+j by omega];refine O5 O O (Vl (cs:=[_]) (zs:=[Value.int .u32 0]) OA O7 O (by kernel_rfl) O O O (by decide)) ?_;rintro _ w11 ⟨b11,rfl,⟨j9,aQ,aX⟩,sH⟩;have J8:=ar.size;have J9:=aQ.size;refine O5 O O (pap OA O7 O (by decide) O O (bz.ext aQ) sH.rd (by intro c hc;simp at hc;subst hc;rfl) (by omega) (by simp only[maxLen];omega)) ?_;rintro v12 w12 ⟨jW,bc,C3,-⟩;have mq:=jW.oneV;refine NZ O$ NS$ NW O$ P6 O O$ NT O$ NU ?_;have wu:∀g,g<w.heap.size->¬v.ownBlock=some g:=λg hg e=>by have:=bj g e;omega
      refine(ih2 (j+1,v12) _ ⟨⟨bc.NX (aQ.NX eQ.NX) (wu t lt0),⟨bc.NX (aQ.NX eQ.rd.1) (wu r lr0),eQ.rd.2⟩,eQ.ne⟩,(ar.trans aQ.kp).NR bc (λg hg=> .inl (bj g hg)),?_,λg hg=>?_,by omega⟩ (by dsimp only;omega)).qb
      ·have e1:(O_++(List.range (j+1)).map (p1+·)).map OB=(O_++(List.range j).map (p1+·)).map OB++[OB (p1+j)]:=by
        rw[List.range_succ];simp
       dsimp only;rw[e1];exact jW
      ·rcases C3 g hg with e| e
       ·exact bj g e
       ·omega
     ·have Ja:j=p2:=by omega
      subst Ja;refine O4 O$ NW O$ Od O O$ P6 O O$ Qp O O$ NZ O$ NS$ NW O$ P6 O O$ NT O$ NU ?_;rw[show(p1:Int)+j-1=z4R (some (p1+j-1)) by show _=((p1+j-1:Nat):Int);omega,show(i:Int)+1=((i+1:Nat):Int) by omega];refine(ih (i+1,R2,some (p1+j-1),O_++(List.range j).map (p1+·),v,_) _ ⟨eQ,ar,?_,bj,by dsimp only;omega,by rw[wq,List.append_assoc],?_,λp hp=>hI.hi p (List.mem_cons_of_mem _ hp),?_,sG,?_,?_⟩ (by dsimp only;simp)).qb
      ·dsimp only;rw[List.length_append,List.length_map,List.length_range];exact bz
      ·refine ok4.mono ?_;show p1+j-1+2<=_;omega
      ·dsimp only;rw[List.length_append,List.length_map,List.length_range];omega
      ·dsimp only at jV⊢;omega
      ·show((p1+j-1:Nat):Int)<65536;omega
   case mH=>
    cases e with
    | none =>
      refine O8 O (λe1=>?_)$ λe1=>?_
      ·refine NW O$ NT O$ qV (Pf O U3 Qy (by omega))$ Om zd4 O (z6T _ (by omega) _) ?_;rintro _ w8 ⟨rfl,rfl⟩;rw[show Tw x none p1=zig ((p1:Int)-x) from rfl,z7z];refine NT O$ P6 O O ?_;rw[show(p1:Int)-x+x=(p1:Int) by omega];refine NZ O ?_;exact(mG _ _ ⟨rfl,rfl⟩).qb
      ·exact absurd (by decide) e1
    | some z =>
      refine O8 O (λe1=>?_)$ λe1=>?_
      ·exact absurd e1 (by show ¬((z:Int)<0);omega)
      ·have hz:z+2<=p1:=ok1;refine NW O$ Od O O ?_;rw[show z4R (some z)=(z:Int) from rfl];refine P6 O O$ P6 O O ?_;rw[show Tw x (some z) p1=p1-z-2 from rfl,show((p1-z-2:Nat):Int)+((z:Int)+2)=(p1:Int) by omega];refine NZ O ?_;exact(mG _ _ ⟨rfl,rfl⟩).qb
  ·have eW:R2=[]:=List.eq_nil_of_length_eq_zero (by omega);subst eW;refine O4 O$ qN O$ NT O$ NZ O$ NV func253 O ?_;have dI:=hI.eq;rw[show Qa []=[] from rfl,List.append_nil] at dI;have jV:=hI.z4z;rw[show(Oq (OV x least e [])).length=0 by cases e<;>rfl,Nat.add_zero] at jV;rw[dI,<-jV];exact⟨_,rfl,hI.sl,hI.fr,hI.tk,hI.kp⟩
def PK (p:Rf)(n r:Nat):List (Cd×Nat):=(.gamma,n)::if n=0 then [] else if 0<p.Ou then [(.unary,r)] else []
theorem z1W {w:World}{r a:Nat}{s:NY}(h:SX w r s a)(p:Rf)(hp:p.PI)(hG:O9 w 2 (RB .gamma) 317)(hU:O9 w 3 (RB .unary) 317)(cY:¬2=r)(dv:¬3=r)(n q:Nat)(hn:n<=65536)(hq:q<=p.Ou)
  (mO:n=0->q=0) (rest:List Bool) (hb:(On s).drop a=Oq (PK p n q)++rest):
  Oy prog 241 [ptr r 0,lpV p] w λu w'=>u= .tuple #[.agg #[I (n:Int),I (q:Int)],I 0]/\SX w' r s (a+(Oq (PK p n q)).length)/\Kp (λk=>k=r) w w':=by
 obtain⟨g1,g2,g3,g4⟩:=id hp
 have lr0:=h.1.lt
 have mP:p.Ou=0->q=0:=λe=>by omega
 unfold PK at hb⊢
 rw[Pm,List.append_assoc] at hb
 refine NP (e:=[(0,_),(1,_)]) func241 O ntmps241 O O$ qN O$ O5 O O (Qr O (cs:=Z9 p) O) ?_
 rintro _ w1 ⟨b3,rfl,f7,ad,au⟩
 refine O5 O O (QU (cs:=[_,_]) Rr O) ?_
 rintro _ w2 ⟨b4,rfl,fV,ae,aI⟩
 have z1:=ad.size
 have z2:=ae.size
 have db:=ae.NX au
 refine NZ O$ py$ NQ$ qN O$ NT O$ qV (Pt Ud O O)$ NZ O$ It O$ qN O$ qV (OE (news:=Z9 p) YG O Ta O (db.cells (n:=3) O) O)$ Om z4j O (T6 p hp w2) ?_
 rintro _ w3 ⟨rfl,ah⟩
 refine Pz O O$ Oc O ?_
 have da:=(ad.trans ae).trans ah
 have h3:SX w3 r s a:=⟨da.NX h.1,h.2⟩
 refine NU$ It O$ An$ NS$ qN O$ NT O$ Om Xv O (Th h3) ?_
 rintro _ w4 ⟨rfl,rfl⟩
 refine Oc O$ qM O$ NT O$ qV (OE (news:=[.int .u8 1,u64v 0]) RG O PY O ((da.NX hG).cells (n:=2) O) O)$ Om zby O (Yi h3 .gamma n trivial (by simp only[Cd.most];omega) _ hb) ?_
 rintro _ w5 ⟨rfl,h5,ak⟩
 have gQ:=Rs hb
 have cV:=ak.NX (ah.NX db) (by omega)
 have aM:=ak.NX (ah.NX aI) (by omega)
 have cW:Kp (λk=>k=r) w w5:=da.kp.trans ak
 replace cV:O9 w5 b3 [I (p.Ou:Int),I (p.interval:Int),I (p.zeta:Int)] 279:=cV
 refine NT O$ P9 O O$ P9 O O$ Oc O$ Oc O$ qM O$ NZ O$ py$ qN O$ NT O$ Qe O O$ NT O ?_
 rcases Nat.eq_zero_or_pos n with e0|e0
 ·have sI:=mO e0;subst e0;subst sI;refine NT O$ PD O O$ OR$ PT O O$ NT O$ qS$ qS$ qS$ OU O O$ NU$ OD.qb (e:=[(0,_),(3,_),(4,_),(5,_),(6,_),(7,_),(8,_),(9,_),(37,_)]) ?_;refine It O$ An$ py$ qN O$ NT O$ Pz O O$ Od O O$ PD O O$ OR$ OU O O$ Od O O$ Og So O$ qV (O6 U3 O O cV O)$ qV ((Pf O U3 Qy (by omega))) ?_;refine PD O O$ OR$ OU O O$ NU$ It O$ An$ qN O$ NT O$ qV (OT O Qy U3 (by omega))$ NT O$ qV (OT O Qy U3 (by omega))$ qV (Rt (cs:=[_,_]) Rr O z9H O O)$ Oe O (P4 (news:=[I ((0:Nat):Int),I (((0:Nat)):Int)]) Rr O O O O aM (by simp)) ?_;rintro w9 ⟨cb,aL⟩;replace cb:O9 w9 b4 [I ((0:Nat):Int),I (((0:Nat)):Int)] 332:=cb;refine NZ O$ OD.qb (e:=[(4,_),(5,_)]) ?_;refine Oz func241 (.cell z4e O Rr O (O9.cells (n:=2) cb (news:=[_,_]) O) O (.tmp O .nil)) ?_;rw[if_pos O,show(Oq [((.gamma,0):Cd×Nat)]).length=(Cd.enc .gamma 0).length by rw[Pm,List.length_append];rfl];refine⟨_,rfl,rfl,⟨aL.NX h5.1 (by omega),h5.2⟩,cW.NR aL (λk e=> .inl (by omega))⟩
 ·rw[if_neg (by omega)] at gQ⊢;rcases Nat.eq_zero_or_pos p.Ou with e1|e1
  ·have sI:=mP e1;subst sI;rw[if_neg (by omega)] at gQ⊢;refine NT O$ PD O O$ Qs$ PT O O$ NT O$ Og So O$ qV (O6 U3 O O cV O)$ PD O O$ OR$ PT O O$ NU$ OD.qb (e:=[(0,_),(3,_),(4,_),(5,_),(6,_),(7,_),(8,_),(9,_),(37,_)]) ?_;refine It O$ An$ py$ qN O$ NT O$ Pz O O$ Od O O$ PD O O$ OR$ OU O O$ Od O O$ Og So O$ qV (O6 U3 O O cV O)$ qV ((Pf O U3 Qy (by omega))) ?_;refine PD O O$ OR$ OU O O$ NU$ It O$ An$ qN O$ NT O$ qV (OT O Qy U3 (by omega))$ NT O$ qV (OT O Qy U3 (by omega))$ qV (Rt (cs:=[_,_]) Rr O z9H O O)$ Oe O (P4 (news:=[I (n:Int),I (((0:Nat)):Int)]) Rr O O O O aM (by simp)) ?_;rintro w9 ⟨cb,aL⟩;replace cb:O9 w9 b4 [I (n:Int),I (((0:Nat)):Int)] 332:=cb;refine NZ O$ OD.qb (e:=[(4,_),(5,_)]) ?_;refine Oz func241 (.cell z4e O Rr O (O9.cells (n:=2) cb (news:=[_,_]) O) O (.tmp O .nil)) ?_;rw[show(Oq [((.gamma,n):Cd×Nat)]).length=(Cd.enc .gamma n).length by rw[Pm,List.length_append];rfl];refine⟨_,rfl,rfl,⟨aL.NX h5.1 (by omega),h5.2⟩,cW.NR aL (λk e=> .inl (by omega))⟩
  ·rw[if_pos e1] at gQ⊢;rw[Pm,List.append_assoc] at gQ;refine NT O$ PD O O$ Qs$ PT O O$ NT O$ Og So O$ qV (O6 U3 O O cV O)$ PD O O$ Qs$ PT O O$ NU$ OD.qb (e:=[(0,_),(3,_),(4,_),(5,_),(6,_),(7,_),(8,_),(9,_),(37,_)]) ?_;refine Oa O$ NW O$ NT O$ qV (OE (news:=[.int .u8 0,u64v 0]) RG O PY O ((cW.NX hU dv).cells (n:=2) O) O)$ Om zby O (Yi h5 .unary q trivial (by simp only[Cd.most];omega) _ gQ) ?_;rintro _ w6 ⟨rfl,h6,aP⟩;have lF:=aP.NX cV (by omega);have cd:=aP.NX aM (by omega);have sJ:=cW.trans aP;refine NT O$ P9 O O$ P9 O O$ Oc O$ NZ O$ py$ qN O$ NT O$ Pz O O$ Od O O$ PD O O$ OR$ OU O O$ Od O O ?_;refine Og So O$ qV (O6 U3 O O lF O)$ qV ((Pf O U3 Qy (by omega)))$ PD O O$ OR$ OU O O$ NU$ OD.qb (e:=[(0,_),(4,_),(5,_),(6,_),(7,_),(9,_),(56,_)]) ?_;refine It O$ An$ qN O$ NT O$ qV (OT O Qy U3 (by omega))$ NT O$ qV (OT O Qy U3 (by omega))$ qV (Rt (cs:=[_,_]) Rr O z9H O O)$ Oe O (P4 (news:=[I (n:Int),I (q:Int)]) Rr O O O O cd (by simp)) ?_;rintro w9 ⟨cb,aL⟩;replace cb:O9 w9 b4 [I (n:Int),I (q:Int)] 332:=cb;refine NZ O$ Oz func241 (.cell z4e O Rr O (O9.cells (n:=2) cb (news:=[_,_]) O) O (.tmp O .nil)) ?_;rw[show(Oq [((.gamma,n):Cd×Nat),(.unary,q)]).length=(Cd.enc .gamma n).length+(Cd.enc .unary q).length by rw[Pm,Pm,List.length_append,List.length_append];rfl,<-Nat.add_assoc];refine⟨_,rfl,rfl,⟨aL.NX h6.1 (by omega),h6.2⟩,sJ.NR aL (λk e=> .inl (by omega))⟩
structure PA where
 Ou:Nat
 chain:Nat
 interval:Nat
 zeta:Nat
 most:Nat
def PA.list (p:PA):Rf:=⟨p.Ou,p.interval,p.zeta⟩
def PA.PI (p:PA):Prop:=p.list.PI/\p.chain<=16/\p.most<=65536
def Uf (p:PA):List Value:=[I (p.Ou:Int),I (p.chain:Int),I (p.interval:Int),I (p.zeta:Int),I (p.most:Int)]
abbrev bpV (p:PA):Value:= .agg (Uf p).toArray
theorem S2 (p:PA)(w:World):Oy prog 172 [bpV p] w λu w'=>u=lpV p.list/\Ext w w':=by
 refine NP (e:=[(0,_)]) func172 O ntmps172 O O$ qN O$ O5 O O (Qr O (cs:=Uf p) O) ?_
 rintro _ w1 ⟨b1,rfl,bK,ad,ai⟩
 refine O5 O O (QU (cs:=[_,_,_]) Ta O) ?_
 rintro _ w2 ⟨b2,rfl,bU,ae,am⟩
 have bh:=ae.NX ai
 replace bh:O9 w2 b1 [I (p.Ou:Int),I (p.chain:Int),I (p.interval:Int),I (p.zeta:Int),I (p.most:Int)] 94:=bh
 refine qM O$ Og z0x O$ qV (O6 U3 O O bh O)$ Og z9C O$ qV (O6 U3 O O bh O)$ Og zaH O$ qV (O6 U3 O O bh O)$ qV (Rt (cs:=[_,_,_]) Ta O zhC O O)$ Oe O (P4 (news:=[I (p.Ou:Int),I (p.interval:Int),I (p.zeta:Int)]) Ta O O O O am (by simp)) ?_
 rintro w3 ⟨cS,aw⟩
 replace cS:O9 w3 b2 [I (p.Ou:Int),I (p.interval:Int),I (p.zeta:Int)] 279:=cS
 refine NU$ Oz func172 (.cell YG O Ta O (O9.cells (n:=3) cS (news:=[_,_,_]) O) O .nil) ?_
 have z1:=ad.size
 exact⟨_,rfl,rfl,(ad.trans ae).NR aw (λk e=>by omega)⟩
theorem Z0 (p:PA)(hp:p.PI)(w:World):Oy prog 170 [bpV p] w λu w'=>u=I 0/\Ext w w':=by
 obtain⟨g1,g2,g3⟩:=hp
 refine NP (e:=[(0,_)]) func170 O ntmps170 O O$ qN O$ O5 O O (Qr O (cs:=Uf p) O) ?_
 rintro _ w1 ⟨b1,rfl,bK,ad,ai⟩
 have fd:O9 w1 b1 [I (p.Ou:Int),I (p.chain:Int),I (p.interval:Int),I (p.zeta:Int),I (p.most:Int)] 94:=ai
 refine NZ O$ py$ qN O$ Og Ye O$ qV (O6 U3 O O fd O)$ Py O O$ OR$ NT O$ Og Ye O$ qV (O6 U3 O O fd O)$ PD O O$ OR$ OU O O$ NT O ?_
 refine Og SL O$ qV (O6 U3 O O fd O)$ Py O O$ OR$ OU O O$ NT O$ Og SL O$ qV (O6 U3 O O fd O)$ PD O O$ OR$ OU O O$ NU$ It O$ An ?_
 refine qN O$ qV (OE ZX O QJ O (O9.cells (n:=5) fd (news:=[_,_,_,_,_]) O) O)$ Om z0G O (S2 p w1) ?_
 rintro _ w2 ⟨rfl,ae⟩
 refine Om z4j O (T6 p.list g1 w2) ?_
 rintro _ w3 ⟨rfl,ah⟩
 refine NZ O$ NV func170 O ?_
 exact⟨_,rfl,rfl,(ad.trans ae).trans ah⟩
structure RK (w:World)(g n cap:Nat)(d:Array Nat):Prop where
 sl:Sl w (.slice (some ⟨g,0,none⟩) n cap) 106 1 n (d.toList.map OB)
 size:d.size=n
abbrev PQ (x y:Nat):Bool:=decide (x<y)
theorem XW:Go.Sort.SWO PQ:=⟨λx=>by simp[PQ],λx y z h1 h2=>by simp[PQ] at*;omega,λx y z h1 h2=>by simp[PQ] at*;omega⟩
section
variable {w w':World}{g n cap:Nat}{d:Array Nat}{S:Nat->Prop}
theorem RK.ext (h:RK w g n cap d)(k:Ext w w'):RK w' g n cap d:=⟨h.sl.ext k,h.size⟩
theorem RK.kp (h:RK w g n cap d)(k:Kp S w w')(hg:¬S g):RK w' g n cap d:=⟨h.sl.kp k (λg' e=>by cases e;exact hg),h.size⟩
theorem RK.get {i:Nat}(h:RK w g n cap d)(hi:i<n):w.cell? ⟨g,0+i*1,none⟩=some (OB d[i]!):=by
 have hs:=h.size
 refine Ps h.sl.rd ?_
 rw[List.getElem?_map,Array.getElem?_toList,Array.getElem?_eq_getElem (by omega)]
 rw[getElem!_pos d i (by omega)]
 rfl
theorem RK.Zo {j:Nat}(h:RK w g n cap d)(hj:j<n):j<(d.toList.map OB).length:=by
 have hs:=h.size
 rw[List.length_map,Array.length_toList];omega
theorem RK.set {i y:Nat}(h:RK w g n cap d)(hS:Sl w' (.slice (some ⟨g,0,none⟩) n cap) 106 1 n ((d.toList.map OB).set (0+i*1) (OB y))):RK w' g n cap (d.setIfInBounds i y):=by
 refine⟨?_,by rw[Array.size_setIfInBounds,h.size]⟩
 rw[Array.toList_setIfInBounds,List.map_set]
 rw[show 0+i*1=i by omega] at hS
 exact hS
end
theorem z9l (x:Nat)(w:World):Oy prog 283 [OB x] w λu w'=>u= .bool false/\w'=w:=by
 refine NP (e:=[(0,_)]) func283 O ntmps283 O O$ qN O$ Oc O$ qM O$ Od O O$ Pz O O$ NZ O$ NV func283 O ?_
 exact⟨_,rfl,by simp[Pn],rfl⟩
theorem Re (x y:Nat)(w:World):Oy prog 275 [OB x,OB y] w λu w'=>u= .bool (PQ x y)/\w'=w:=by
 refine NP (e:=[(0,_),(1,_)]) func275 O ntmps275 O O$ qN O$ Oc O$ qM O$ NT O$ Om zho O (z9l x w) ?_
 rintro _ w ⟨rfl,rfl⟩
 refine NT O$ qS$ qS$ qS$ OU O O$ Od O O$ NT O$ Py O O$ OU O O$ NZ O$ NV func275 O ?_
 exact⟨_,rfl,by simp[PQ,Pn],rfl⟩
section
variable (a b j i:Nat)(d:Array Nat)
theorem z3n (hj:a<j)(hl:PQ d[j]! d[j-1]! =true):Go.Sort.insInner PQ a j d=Go.Sort.insInner PQ a (j-1) (Go.Sort.swp d j (j-1)):=by
 obtain⟨k,rfl⟩:∃k,j=k+1:=⟨j-1,by omega⟩
 rw[Go.Sort.insInner]
 simp only[Nat.add_sub_cancel] at hl⊢
 rw[if_pos]
 rw[Bool.and_eq_true];exact⟨by simpa using hj,hl⟩
theorem Wo (h:j<=a\/PQ d[j]! d[j-1]! =false):Go.Sort.insInner PQ a j d=d:=by
 cases j with
 |zero=>rw[Go.Sort.insInner]
 | succ k =>
   rw[Go.Sort.insInner];simp only[Nat.add_sub_cancel] at h;rw[if_neg];intro hc;rw[Bool.and_eq_true] at hc;rcases h with h| h
   ·have:=of_decide_eq_true hc.1;omega
   ·rw[h] at hc;cases hc.2
theorem z4i (h:i<b):Go.Sort.insOuter PQ a b i d=Go.Sort.insOuter PQ a b (i+1) (Go.Sort.insInner PQ a i d):=by rw[Go.Sort.insOuter,if_pos h]
theorem z0T (h:¬i<b):Go.Sort.insOuter PQ a b i d=d:=by rw[Go.Sort.insOuter,if_neg h]
end
theorem z0U {w:World}{g n cap:Nat}{d:Array Nat}(h:RK w g n cap d)(a b:Nat)(iT:a<=b)(hb:b<=n)(hn:n<=65536):
  Oy prog 269 [.slice (some ⟨g,0,none⟩) n cap,I (a:Int),I (b:Int)] w λu w'=>u= .tuple #[]/\RK w' g n cap (Go.Sort.insertionSort PQ d a b)/\Kp (λk=>k=g) w w':=by
 refine NP (e:=[(0,_),(1,_),(2,_)]) func269 O ntmps269 O O$ qN O$ NT O$ P6 O O$ NZ O$ NQ$ Qm (α:=Nat×Array Nat) ((a+1,d)) (λy=>[(0,.slice (some ⟨g,0,none⟩) n cap),(1,I (a:Int)),(2,I (b:Int)),(6,I (y.1:Int))]) (λy w'=>RK w' g n cap y.2/\Kp (λk=>k=g) w w'/\Go.Sort.insOuter PQ a b y.1 y.2=Go.Sort.insertionSort PQ d a b/\a<y.1) (λy=>b-y.1) ?hI ?hround
 case hI=>exact⟨h,Kp.refl _ _,rfl,Nat.lt_succ_self a⟩
 case hround=>
  rintro⟨i,d4⟩ w4 ⟨dS,ao,cB,oG⟩ ih;dsimp only at dS ao cB oG
  try dsimp only
  refine py$ qN O$ Od O O$ Py O O$ NU$ O8 O (λh0=>?_)$ λh0=>?_
  ·rw[z4i _ _ _ _ (by omega)] at cB;refine An$ py$ NQ$ qN O$ NT O$ NZ O$ NQ$ Qm (α:=Nat×Array Nat) ((i,d4)) (λy=>[(0,.slice (some ⟨g,0,none⟩) n cap),(1,I (a:Int)),(2,I (b:Int)),(6,I (i:Int)),(7,I (y.1:Int))]) (λy w'=>RK w' g n cap y.2/\Kp (λk=>k=g) w w'/\Go.Sort.insInner PQ a y.1 y.2=Go.Sort.insInner PQ a i d4/\y.1<=i/\a<=y.1) (λy=>y.1) ?hI ?hround
   case hI=>exact⟨dS,ao,rfl,Nat.le_refl _,by dsimp only;omega⟩
   case hround=>
    rintro⟨j,d5⟩ w5 ⟨aU,ak,cf,Jb,C4⟩ ih2;dsimp only at aU ak cf Jb C4
    try dsimp only
    have hg:=Ext.Ob w5;rcases Nat.lt_or_ge a j with hj|hj
    ·refine py$ py$ Qj (λw'=>Ext w5 w') O$ Oj 0 O O (hg)$ Oj 1 O O (hg)$ O0 2 O (Xq O O) hg$ T4$ Oj 3 O O (hg)$ Oj 4 O O (hg)$ Oj 5 O O (hg)$ O0 6 O (P7 OA O7 O O (by omega)) hg$ Oj 8 O O (hg)$ Oj 9 O O (hg)$ O0 10 O (Ww O O (by omega)) hg ?_;rw[show(j:Int)-1=((j-1:Nat):Int) by omega];refine qT 7 O (λ_ h=>OC OJ O O ((aU.ext h).get (i:=j) (by omega))) hg$ O0 11 O (P7 OA O7 O O (by omega)) hg$ qT 12 O (λ_ h=>OC OJ O O ((aU.ext h).get (i:=j-1) (by omega))) hg$ RW 13 O Vf O (Re _ _ _) ?_;rintro _ w6 ⟨rfl,rfl⟩;refine⟨hg,?_⟩;refine O0 14 O (TL O O) hg$ qE ?_;have ph:=aU.ext hg;refine Po O (λh1=>?_)$ λh1=>?_
     ·refine An$ py$ NQ ?_;have aA:=Ext.Ob w5.drew;refine Oo [15,17] (λw'=>Ext w5.drew w') (by kernel_rfl) O$ OW 0 O O (aA)$ OW 1 O O (aA)$ Pp (i:=2) O (by kernel_rfl) O O (λ_=>Wi O) (aA)$ Pp (i:=3) O (by kernel_rfl) O O (λ_=>Wi O) (aA)$ Pp (i:=4) O (by kernel_rfl) O O (λ_=>Ww O O (by omega)) (aA)$ OW 5 O O (aA)$ OW 6 O O (aA)$ Ot 7 O (Ww O O (by omega)) aA$ OW 10 O O (aA)$ OW 11 O O (aA)$ Ot 12 O (P7 OA O7 O O (by omega)) aA ?_;rw[show(j:Int)-1=((j-1:Nat):Int) by omega];refine Ot 8 O (P7 OA O7 O O (by omega)) aA$ qL 9 O (λ_ h=>OC OJ O O ((ph.ext h).get (i:=j-1) (by omega))) aA$ qL 13 O (λ_ h=>OC OJ O O ((ph.ext h).get (i:=j) (by omega))) aA$ Ot 14 O (P7 OA O7 O O (by omega)) aA$ S8 [15]$ qO 15$ OP (i:=15) O O (QH O7 O O O (ph.ext aA).sl ((ph.ext aA).Zo (by omega))) ?_;rintro w7a ⟨g9,gd⟩;refine⟨trivial,?_⟩;have cG:=(ph.ext aA).set g9;refine O0 16 O (P7 OA O7 O O (by omega)) trivial$ qO 17$ OP (i:=17) O O (QH O7 O O O cG.sl (cG.Zo (by omega))) ?_;rintro w7 ⟨iu,jX⟩;refine⟨trivial,?_⟩;have jY:=cG.set iu;have ge:Kp (λk=>k=g) w5.drew w7:=aA.kp.trans (gd.trans jX);refine qE$ NS$ NW O$ NT O$ Qp O O$ NZ O ?_;rw[show(j:Int)-1=((j-1:Nat):Int) by omega];refine(ih2 (j-1,Go.Sort.swp d5 j (j-1)) _ ⟨jY,(ak.trans hg.kp).trans ge,?_,by dsimp only;omega,by dsimp only;omega⟩ (by dsimp only;omega)).qb;dsimp only;rw[<-cf,z3n a j d5 hj h1]
     ·refine O4 O$ NS$ NW O$ NT O$ P6 O O$ NZ O ?_;rw[Wo a j d5 (.inr (by simpa using h1))] at cf;refine(ih (i+1,d5) _ ⟨ph,ak.trans hg.kp,?_,by dsimp only;omega⟩ (by dsimp only;omega)).qb;dsimp only;rw[cf];exact cB
    ·refine py$ py$ Qj (λw'=>Ext w5 w') O$ Oj 0 O O (hg)$ Oj 1 O O (hg)$ O0 2 O (Xq O O) hg$ TH$ Oj 3 O O (hg)$ qJ 4 O (hg)$ qJ 5 O (hg)$ qJ 6 O (hg)$ qJ 7 O (hg)$ qJ 8 O (hg)$ qJ 9 O (hg) ?_;refine qJ 10 O (hg)$ qJ 11 O (hg)$ qJ 12 O (hg)$ qJ 13 O (hg)$ O0 14 O (TA O O) hg$ qE$ It O$ O4 O$ NS$ NW O$ NT O$ P6 O O$ NZ O ?_;rw[Wo a j d5 (.inl hj)] at cf;refine(ih (i+1,d5) _ ⟨aU.ext hg,ak.trans hg.kp,?_,by dsimp only;omega⟩ (by dsimp only;omega)).qb;dsimp only;rw[cf];exact cB
  ·rw[z0T _ _ _ _ (by omega)] at cB;refine O4 O$ PE func269 O ?_;exact⟨_,rfl,rfl,cB▸dS,ao⟩
section
variable (hi first root:Nat)(d:Array Nat)
def Yt:Nat:=if 2*root+1+1<hi&&PQ d[first+(2*root+1)]! d[first+(2*root+1)+1]! then 2*root+2 else 2*root+1
theorem z9w (h:hi<=2*root+1):Go.Sort.siftDown PQ hi first root d=d:=by rw[Go.Sort.siftDown,dif_pos h]
theorem zcr (h:2*root+1<hi):Go.Sort.siftDown PQ hi first root d=if PQ d[first+root]! d[first+Yt hi first root d]! then Go.Sort.siftDown PQ hi first (Yt hi first root d) (Go.Sort.swp d (first+root) (first+Yt hi first root d)) else d:=by
 rw[Go.Sort.siftDown,dif_neg (by omega)]
 unfold Yt
 by_cases h1:(decide (2*root+1+1<hi)&&PQ d[first+(2*root+1)]! d[first+(2*root+1)+1]!)=true
 ·rw[if_pos h1,if_pos h1];rw[Bool.and_eq_true] at h1;have h2:2*root+2<hi:=of_decide_eq_true h1.1;rw[dif_pos h2];cases PQ d[first+root]! d[first+(2*root+2)]!<;>rfl
 ·rw[if_neg h1,if_neg h1];cases PQ d[first+root]! d[first+(2*root+1)]!<;>rfl
theorem zd2 (h:2*root+1<hi):root<Yt hi first root d/\Yt hi first root d<hi:=by
 unfold Yt
 split
 ·rename_i h1
  rw[Bool.and_eq_true] at h1;have h2:2*root+2<hi:=of_decide_eq_true h1.1;omega
 ·omega
end
theorem z3h {w:World}{g n cap:Nat}{d:Array Nat}(h:RK w g n cap d)(lo hi first:Nat)(hf:first+hi<=n)(vd:lo<=65536)(hn:n<=65536):
  Oy prog 278 [.slice (some ⟨g,0,none⟩) n cap,I (lo:Int),I (hi:Int),I (first:Int)] w λu w'=>u= .tuple #[]/\RK w' g n cap (Go.Sort.siftDown PQ hi first lo d)/\Kp (λk=>k=g) w w':=by
 refine NP (e:=[(0,_),(1,_),(2,_),(3,_)]) func278 O ntmps278 O O$ qN O$ NT O$ NZ O$ NQ$ Qm (α:=Nat×Array Nat) ((lo,d)) (λy=>[(0,.slice (some ⟨g,0,none⟩) n cap),(2,I (hi:Int)),(3,I (first:Int)),(8,I (y.1:Int))]) (λy w'=>RK w' g n cap y.2/\Kp (λk=>k=g) w w'/\Go.Sort.siftDown PQ hi first y.1 y.2=Go.Sort.siftDown PQ hi first lo d/\y.1<=65536) (λy=>hi-y.1) ?hI ?hround
 case hI=>exact⟨h,Kp.refl _ _,rfl,vd⟩
 case hround=>
  rintro⟨root,d4⟩ w4 ⟨dS,ao,cB,bH⟩ ih;dsimp only at dS ao cB bH
  try dsimp only
  refine NQ$ qN O$ NT O$ qV (Xa O O (by omega))$ P6 O O$ NZ O$ py$ qN O ?_;rw[show 2*(root:Int)+1=((2*root+1:Nat):Int) by omega];refine Od O O$ SB O O$ NU$ O8 O (λh0=>?_)$ λh0=>?_
  ·rw[z9w _ _ _ _ (by omega)] at cB;refine O4 O$ PE func278 O ?_;exact⟨_,rfl,rfl,cB▸dS,ao⟩
  ·have hc:=zd2 hi first root d4 (by omega);rw[zcr _ _ _ _ (by omega)] at cB;have hg:=Ext.Ob w4;have sK:=dS.ext hg;refine An$ py$ py ?_
   generalize pi:(decide (2*root+1+1<hi)&&PQ d4[first+(2*root+1)]! d4[first+(2*root+1)+1]!)=sel
   refine OX (λe' w'=>e'=[(0,.slice (some ⟨g,0,none⟩) n cap),(2,I (hi:Int)),(3,I (first:Int)),(8,I (root:Int)),(9,I ((2*root+1:Nat):Int)),(36,.bool sel)]/\w'=w4.drew) ?dV$ λdV=>?fU
   case dV=>
    rintro e' w5 ⟨rfl,rfl⟩;refine OX (λe' w'=>e'=[(0,.slice (some ⟨g,0,none⟩) n cap),(2,I (hi:Int)),(3,I (first:Int)),(8,I (root:Int)),(9,I (Yt hi first root d4:Int))]/\w'=w4.drew) ?av$ λav=>?dW
    case av=>
     rintro e' w5 ⟨rfl,rfl⟩
     generalize Yt hi first root d4=c at hc cB
     have dT:=Ext.Ob w4.drew;have lG:=sK.ext dT;refine py$ py$ Qj (λw'=>Ext w4.drew w') O$ Oj 0 O O (dT)$ Oj 1 O O (dT)$ Oj 2 O O (dT)$ O0 3 O (TK O O (by omega)) dT$ O0 4 O (P7 OA O7 O O (by omega)) dT$ Oj 6 O O (dT)$ Oj 7 O O (dT)$ Oj 8 O O (dT)$ O0 9 O (TK O O (by omega)) dT$ O0 10 O (P7 OA O7 O O (by omega)) dT$ qT 5 O (λ_ h=>OC OJ O O ((sK.ext h).get (i:=first+root) (by omega))) dT ?_;refine qT 11 O (λ_ h=>OC OJ O O ((sK.ext h).get (i:=first+c) (by omega))) dT$ RW 12 O Vf O (Re _ _ _) ?_;rintro _ w6 ⟨rfl,rfl⟩;refine⟨dT,?_⟩;refine O0 13 O ((z7J O)) dT$ qE$ Po O (λh1=>?_)$ λh1=>?_
     ·rw[if_neg (by simpa using h1)] at cB;refine NV func278 O ?_;exact⟨_,rfl,rfl,cB▸lG,ao.trans (hg.trans dT).kp⟩
     ·rw[if_pos (by simpa using h1)] at cB;refine An$ py ?_;have aA:=Ext.Ob w4.drew.drew;refine Oo [21,23] (λw'=>Ext w4.drew.drew w') (by kernel_rfl) O$ OW 0 O O (aA)$ OW 1 O O (aA)$ OW 2 O O (aA)$ Ot 3 O (TK O O (by omega)) aA$ Pp (i:=4) O (by kernel_rfl) O O (λ_=>Wi O) (aA)$ Pp (i:=5) O (by kernel_rfl) O O (λ_=>Wi O) (aA)$ Pp (i:=6) O (by kernel_rfl) O O (λ_=>Wi O) (aA)$ Pp (i:=7) O (by kernel_rfl) O O (λ_=>TK O O (by omega)) (aA)$ OW 8 O O (aA)$ OW 9 O O (aA)$ OW 10 O O (aA)$ Ot 11 O (TK O O (by omega)) aA$ Ot 12 O (P7 OA O7 O O (by omega)) aA ?_;refine OW 14 O O (aA)$ OW 15 O O (aA)$ OW 16 O O (aA)$ Ot 17 O (TK O O (by omega)) aA$ Ot 18 O (P7 OA O7 O O (by omega)) aA$ qL 13 O (λ_ h=>OC OJ O O ((lG.ext h).get (i:=first+c) (by omega))) aA$ qL 19 O (λ_ h=>OC OJ O O ((lG.ext h).get (i:=first+root) (by omega))) aA$ Ot 20 O (P7 OA O7 O O (by omega)) aA$ S8 [21]$ qO 21$ OP (i:=21) O O (QH O7 O O O (lG.ext aA).sl ((lG.ext aA).Zo (by omega))) ?_;rintro w7a ⟨g9,gd⟩;refine⟨trivial,?_⟩;have cG:=(lG.ext aA).set g9;refine O0 22 O (P7 OA O7 O O (by omega)) trivial$ qO 23$ OP (i:=23) O O (QH O7 O O O cG.sl (cG.Zo (by omega))) ?_;rintro w7 ⟨iu,jX⟩;refine⟨trivial,?_⟩;have jY:=cG.set iu;have ge:Kp (λk=>k=g) w4.drew.drew w7:=aA.kp.trans (gd.trans jX);refine qE$ NW O$ NT O$ NZ O$ NS ((ih (c,Go.Sort.swp d4 (first+root) (first+c)) _ ⟨jY,(ao.trans (hg.trans dT).kp).trans ge,cB,by dsimp only;omega⟩ (by dsimp only;omega)).qb)
    case dW=>
     refine Po O (λh1=>?_)$ λh1=>?_
     ·refine NW O$ NT O$ P6 O O$ NZ O ?_;rw[show((2*root+1:Nat):Int)+1=(Yt hi first root d4:Int) by unfold Yt;rw[pi,if_pos h1];omega];exact(av _ _ ⟨rfl,rfl⟩).qb
     ·refine An ?_;rw[show((2*root+1:Nat):Int)=(Yt hi first root d4:Int) by unfold Yt;rw[pi,if_neg (by rw[h1];decide)]];exact(av _ _ ⟨rfl,rfl⟩).qb
   case fU=>
    rcases Nat.lt_or_ge (2*root+1+1) hi with hj|hj
    ·refine Qj (λw'=>Ext w4 w') O$ Oj 0 O O (hg)$ O0 1 O (TK O O (by omega)) hg$ Oj 2 O O (hg)$ O0 3 O (ZR O O) hg$ T4$ Oj 4 O O (hg)$ Oj 5 O O (hg)$ Oj 6 O O (hg)$ Oj 7 O O (hg)$ O0 8 O (TK O O (by omega)) hg$ O0 9 O (P7 OA O7 O O (by omega)) hg$ Oj 11 O O (hg)$ Oj 12 O O (hg) ?_;refine Oj 13 O O (hg)$ O0 14 O (TK O O (by omega)) hg$ O0 15 O (TK O O (by omega)) hg$ O0 16 O (P7 OA O7 O O (by omega)) hg$ qT 10 O (λ_ hS=>OC OJ O O ((dS.ext hS).get (i:=first+(2*root+1)) (by omega))) hg$ qT 17 O (λ_ hS=>OC OJ O O ((dS.ext hS).get (i:=first+(2*root+1)+1) (by omega))) hg$ RW 18 O Vf O (Re _ _ _) ?_;rintro _ w6 ⟨rfl,rfl⟩;refine⟨hg,?_⟩;refine O0 19 O (TL O O) hg$ qE ?_;rw[show PQ d4[first+(2*root+1)]! d4[first+(2*root+1)+1]! =sel by rw[<-pi,decide_eq_true hj,Bool.true_and]];exact(dV _ _ ⟨rfl,rfl⟩).qb
    ·refine Qj (λw'=>Ext w4 w') O$ Oj 0 O O (hg)$ O0 1 O (TK O O (by omega)) hg$ Oj 2 O O (hg)$ O0 3 O (ZR O O) hg$ TH$ Oj 4 O O (hg)$ qJ 5 O (hg)$ qJ 6 O (hg)$ qJ 7 O (hg)$ qJ 8 O (hg)$ qJ 9 O (hg)$ qJ 10 O (hg)$ qJ 11 O (hg) ?_;refine qJ 12 O (hg)$ qJ 13 O (hg)$ qJ 14 O (hg)$ qJ 15 O (hg)$ qJ 16 O (hg)$ qJ 17 O (hg)$ qJ 18 O (hg)$ O0 19 O (TA O O) hg$ qE ?_;have mQ:sel=false:=by rw[<-pi,decide_eq_false (by omega),Bool.false_and]
     subst mQ;exact(dV _ _ ⟨rfl,rfl⟩).qb
theorem zbd {w:World}{g n cap:Nat}{d:Array Nat}(h:RK w g n cap d)(a b:Nat)(iT:a<b)(hb:b<=n)(hn:n<=65536):
  Oy prog 270 [.slice (some ⟨g,0,none⟩) n cap,I (a:Int),I (b:Int)] w λu w'=>u= .tuple #[]/\RK w' g n cap (Go.Sort.heapSort PQ d a b)/\Kp (λk=>k=g) w w':=by
 refine NP (e:=[(0,_),(1,_),(2,_)]) func270 O ntmps270 O O$ qN O$ NT O$ Oc O$ qM O$ Oc O$ qM O$ Od O O$ Qp O O$ NZ O$ py$ qN O ?_
 rw[show(b:Int)-(a:Int)=((b-a:Nat):Int) by omega]
 refine NT O$ Qp O O ?_
 rw[show((b-a:Nat):Int)-1=((b-a-1:Nat):Int) by omega]
 refine qV (UH O O (by omega))$ NZ O$ NQ ?_
 rw[show((b-a-1:Nat):Int) / 2=(((b-a-1) / 2+1:Nat):Int)-1 by omega]
 have mO:Go.Sort.heapSort PQ d a b=Go.Sort.heapPop PQ a (b-a) (Go.Sort.heapBuild PQ (b-a) a ((b-a-1) / 2+1) d):=rfl
 rw[mO]
 refine Qm (α:=Nat×Array Nat) (((b-a-1) / 2+1,d)) (λy=>[(0,.slice (some ⟨g,0,none⟩) n cap),(6,I (a:Int)),(7,I 0),(8,I ((b-a:Nat):Int)),(9,I ((y.1:Int)-1))]) (λy w'=>RK w' g n cap y.2/\Kp (λk=>k=g) w w'/\Go.Sort.heapBuild PQ (b-a) a y.1 y.2=Go.Sort.heapBuild PQ (b-a) a ((b-a-1) / 2+1) d/\y.1<=(b-a-1) / 2+1) (λy=>y.1) ?hI ?hround
 case hI=>exact⟨h,Kp.refl _ _,rfl,Nat.le_refl _⟩
 case hround=>
  rintro⟨k,d4⟩ w4 ⟨dS,ao,cB,bH⟩ ih;dsimp only at dS ao cB bH
  try dsimp only
  refine py$ qN O$ NT O$ SB O O$ NU$ O8 O (λh0=>?_)$ λh0=>?_
  ·obtain⟨k,rfl⟩:∃k',k=k'+1:=⟨k-1,by omega⟩;rw[show((k+1:Nat):Int)-1=(k:Int) by omega];refine An$ py$ NQ$ NW O$ Od O O$ Od O O$ Om zdF O (z3h dS k (b-a) a (by omega) (by omega) hn) ?_;rintro _ w5 ⟨rfl,aU,ak⟩;refine NU$ NS$ NW O$ NT O$ Qp O O$ NZ O ?_;exact(ih (k,Go.Sort.siftDown PQ (b-a) a k d4) _ ⟨aU,ao.trans ak,cB,by dsimp only;omega⟩ (by dsimp only;omega)).qb
  ·have i9:k=0:=by omega
   subst i9;rw[<-cB];refine O4 O$ qN O$ NT O$ Qp O O$ NZ O$ NQ$ Qm (α:=Nat×Array Nat) ((b-a,d4)) (λy=>[(0,.slice (some ⟨g,0,none⟩) n cap),(6,I (a:Int)),(7,I 0),(10,I ((y.1:Int)-1))]) (λy w'=>RK w' g n cap y.2/\Kp (λk=>k=g) w w'/\Go.Sort.heapPop PQ a y.1 y.2=Go.Sort.heapPop PQ a (b-a) (Go.Sort.heapBuild PQ (b-a) a 0 d4)/\y.1<=b-a) (λy=>y.1) ?hI ?hround
   case hI=>exact⟨dS,ao,rfl,Nat.le_refl _⟩
   case hround=>
    rintro⟨k,d5⟩ w5 ⟨aU,ak,cf,ck⟩ ih2;dsimp only at aU ak cf ck
    try dsimp only
    refine py$ qN O$ NT O$ SB O O$ NU$ O8 O (λh1=>?_)$ λh1=>?_
    ·obtain⟨k,rfl⟩:∃k',k=k'+1:=⟨k-1,by omega⟩;rw[show((k+1:Nat):Int)-1=(k:Int) by omega];refine An$ py$ NQ$ py ?_;have aA:=Ext.Ob w5;refine Oo [17,19] (λw'=>Ext w5 w') (by kernel_rfl) O$ OW 0 O O (aA)$ OW 1 O O (aA)$ Pp (i:=2) O (by kernel_rfl) O O (λ_=>Wi O) (aA)$ Pp (i:=3) O (by kernel_rfl) O O (λ_=>Wi O) (aA)$ Pp (i:=4) O (by kernel_rfl) O O (λ_=>Wi O) (aA)$ Pp (i:=5) O (by kernel_rfl) O O (λ_=>TK O O (by omega)) (aA)$ OW 6 O O (aA)$ OW 7 O O (aA)$ OW 8 O O (aA)$ Ot 9 O (TK O O (by omega)) aA$ Ot 10 O (P7 OA O7 O O (by omega)) aA$ OW 12 O O (aA)$ OW 13 O O (aA) ?_;refine Ot 14 O (P7 OA O7 O O (by omega)) aA$ qL 11 O (λ_ h=>OC OJ O O ((aU.ext h).get (i:=a+k) (by omega))) aA$ qL 15 O (λ_ h=>OC OJ O O ((aU.ext h).get (i:=a) (by omega))) aA$ Ot 16 O (P7 OA O7 O O (by omega)) aA$ S8 [17]$ qO 17$ OP (i:=17) O O (QH O7 O O O (aU.ext aA).sl ((aU.ext aA).Zo (by omega))) ?_;rintro w7a ⟨g9,gd⟩;refine⟨trivial,?_⟩;have cG:=(aU.ext aA).set g9;refine O0 18 O (P7 OA O7 O O (by omega)) trivial$ qO 19$ OP (i:=19) O O (QH O7 O O O cG.sl (cG.Zo (by omega))) ?_;rintro w7 ⟨iu,jX⟩;refine⟨trivial,?_⟩;have jY:=cG.set iu;have ge:Kp (λk=>k=g) w5 w7:=aA.kp.trans (gd.trans jX);refine qE$ NW O$ Od O O$ Od O O$ Om zdF O (z3h jY 0 k a (by omega) (by omega) hn) ?_;rintro _ w8 ⟨rfl,Jc,aS⟩;refine NU$ NS$ NW O$ NT O$ Qp O O$ NZ O ?_;exact(ih2 (k,Go.Sort.siftDown PQ k a 0 (Go.Sort.swp d5 a (a+k))) _ ⟨Jc,(ak.trans ge).trans aS,cf,by dsimp only;omega⟩ (by dsimp only;omega)).qb
    ·have i9:k=0:=by omega
     subst i9;rw[<-cf];refine O4 O$ PE func270 O ?_;exact⟨_,rfl,rfl,aU,ak⟩
theorem z3f {w:World}{g n cap:Nat}{d:Array Nat}(h:RK w g n cap d)(a b:Nat)(iT:a<b)(hb:b<=n)(hn:n<=65536):
  Oy prog 273 [.slice (some ⟨g,0,none⟩) n cap,I (a:Int),I (b:Int)] w λu w'=>u= .tuple #[]/\RK w' g n cap (Go.Sort.reverseRange d a b)/\Kp (λk=>k=g) w w':=by
 refine NP (e:=[(0,_),(1,_),(2,_)]) func273 O ntmps273 O O$ qN O$ NT O$ Oc O$ qM O$ NT O$ Qp O O$ NZ O$ NQ ?_
 rw[show(b:Int)-1=((b-1:Nat):Int) by omega]
 refine Qm (α:=Nat×Nat×Array Nat) ((a,b-1,d)) (λy=>[(0,.slice (some ⟨g,0,none⟩) n cap),(6,I (y.1:Int)),(7,I (y.2.1:Int))]) (λy w'=>RK w' g n cap y.2.2/\Kp (λk=>k=g) w w'/\Go.Sort.reverseLoop y.1 y.2.1 y.2.2=Go.Sort.reverseRange d a b/\y.2.1<n) (λy=>y.2.1-y.1) ?hI ?hround
 case hI=>exact⟨h,Kp.refl _ _,rfl,by dsimp only;omega⟩
 case hround=>
  rintro⟨i,j,d4⟩ w4 ⟨dS,ao,cB,bH⟩ ih;dsimp only at dS ao cB bH
  try dsimp only
  refine py$ qN O$ Od O O$ Py O O$ NU$ O8 O (λh0=>?_)$ λh0=>?_
  ·rw[Go.Sort.reverseLoop,if_pos (by omega)] at cB;refine An$ NQ$ py ?_;have aA:=Ext.Ob w4;refine Oo [13,15] (λw'=>Ext w4 w') (by kernel_rfl) O$ OW 0 O O (aA)$ OW 1 O O (aA)$ Pp (i:=2) O (by kernel_rfl) O O (λ_=>Wi O) (aA)$ Pp (i:=3) O (by kernel_rfl) O O (λ_=>Wi O) (aA)$ OW 4 O O (aA)$ OW 5 O O (aA)$ Ot 6 O (P7 OA O7 O O (by omega)) aA$ OW 8 O O (aA)$ OW 9 O O (aA)$ Ot 10 O (P7 OA O7 O O (by omega)) aA$ qL 7 O (λ_ h=>OC OJ O O ((dS.ext h).get (i:=j) (by omega))) aA$ qL 11 O (λ_ h=>OC OJ O O ((dS.ext h).get (i:=i) (by omega))) aA$ Ot 12 O (P7 OA O7 O O (by omega)) aA ?_;refine S8 [13]$ qO 13$ OP (i:=13) O O (QH O7 O O O (dS.ext aA).sl ((dS.ext aA).Zo (by omega))) ?_;rintro w7a ⟨g9,gd⟩;refine⟨trivial,?_⟩;have cG:=(dS.ext aA).set g9;refine O0 14 O (P7 OA O7 O O (by omega)) trivial$ qO 15$ OP (i:=15) O O (QH O7 O O O cG.sl (cG.Zo (by omega))) ?_;rintro w7 ⟨iu,jX⟩;refine⟨trivial,?_⟩;have jY:=cG.set iu;have ge:Kp (λk=>k=g) w4 w7:=aA.kp.trans (gd.trans jX);refine qE$ qN O$ NT O$ P6 O O$ NZ O$ NW O$ NT O$ Qp O O$ NZ O$ NS ?_;rw[show(j:Int)-1=((j-1:Nat):Int) by omega];exact(ih (i+1,j-1,Go.Sort.swp d4 i j) _ ⟨jY,ao.trans ge,cB,by dsimp only;omega⟩ (by dsimp only;omega)).qb
  ·rw[Go.Sort.reverseLoop,if_neg (by omega)] at cB;refine O4 O$ PE func273 O ?_;exact⟨_,rfl,rfl,cB▸dS,ao⟩
section
variable (p:Nat->Bool)(d:Array Nat)(i j:Nat)
theorem Yd (h:i<=j)(hp:p d[i]! =true):Go.Sort.scanUp p d j i=Go.Sort.scanUp p d j (i+1):=by
 conv=>lhs;rw[Go.Sort.scanUp]
 rw[if_pos]
 rw[Bool.and_eq_true];exact⟨by simpa using h,hp⟩
theorem S9 (h:j<i\/p d[i]! =false):Go.Sort.scanUp p d j i=i:=by
 rw[Go.Sort.scanUp,if_neg]
 intro hc
 rw[Bool.and_eq_true] at hc
 rcases h with h| h
 ·have:=of_decide_eq_true hc.1;omega
 ·rw[h] at hc;cases hc.2
theorem Vv (h:i<=j)(hp:p d[j]! =true)(hj:1<=j):Go.Sort.scanDown p d i j=Go.Sort.scanDown p d i (j-1):=by
 obtain⟨k,rfl⟩:∃k,j=k+1:=⟨j-1,by omega⟩
 rw[Go.Sort.scanDown,if_pos]
 ·rfl
 ·rw[Bool.and_eq_true];exact⟨by simpa using h,hp⟩
theorem Rh (h:j<i\/p d[j]! =false):Go.Sort.scanDown p d i j=j:=by
 cases j with
 |zero=>rw[Go.Sort.scanDown]
 | succ k =>
   rw[Go.Sort.scanDown,if_neg];intro hc;rw[Bool.and_eq_true] at hc;rcases h with h| h
   ·have:=of_decide_eq_true hc.1;omega
   ·rw[h] at hc;cases hc.2
end
theorem VI (p:Nat->Bool)(d:Array Nat)(j:Nat):∀i:Nat,Go.Sort.scanUp p d j i<=max i (j+1):=λi=>by
 rw[Go.Sort.scanUp]
 split
 ·rename_i h
  rw[Bool.and_eq_true] at h;have h1:=of_decide_eq_true h.1;have:=VI p d j (i+1);omega
 ·omega
 termination_by i=>j+1-i
theorem zbc {w : World}{g n cap : Nat}{d : Array Nat}(h : RK w g n cap d)(a b pv : Nat)(C5 : a <= pv)(qY : pv < b)(hb : b <= n)(hn : n <= 65536) :
  Oy prog 277 [.slice (some ⟨g,0,none⟩) n cap,I (a:Int),I (b:Int),I (pv:Int)] w λu w'=>u= .tuple #[I ((Go.Sort.partition PQ d a b pv).1:Int),.bool (Go.Sort.partition PQ d a b pv).2.1]/\RK w' g n cap (Go.Sort.partition PQ d a b pv).2.2/\Kp (λk=>k=g) w w':=by
 refine NP (e:=[(0,_),(1,_),(2,_),(3,_)]) func277 O ntmps277 O O$ qN O$ Oc O$ NZ O$ py ?_
 have aA:=Ext.Ob w
 refine Oo [13,15] (λw'=>Ext w w') (by kernel_rfl) O$ OW 0 O O (aA)$ OW 1 O O (aA)$ Pp (i:=2) O (by kernel_rfl) O O (λ_=>Wi O) (aA)$ Pp (i:=3) O (by kernel_rfl) O O (λ_=>Wi O) (aA)$ OW 4 O O (aA)$ OW 5 O O (aA)$ Ot 6 O (P7 OA O7 O O (by omega)) aA$ OW 8 O O (aA)$ OW 9 O O (aA)$ Ot 10 O (P7 OA O7 O O (by omega)) aA$ qL 7 O (λ_ hS=>OC OJ O O ((h.ext hS).get (i:=pv) (by omega))) aA$ qL 11 O (λ_ hS=>OC OJ O O ((h.ext hS).get (i:=a) (by omega))) aA$ Ot 12 O (P7 OA O7 O O (by omega)) aA ?_
 refine S8 [13]$ qO 13$ OP (i:=13) O O (QH O7 O O O (h.ext aA).sl ((h.ext aA).Zo (by omega))) ?_
 rintro w1a ⟨mR,mS⟩
 refine⟨trivial,?_⟩
 have gh:=(h.ext aA).set mR
 refine O0 14 O (P7 OA O7 O O (by omega)) trivial$ qO 15$ OP (i:=15) O O (QH O7 O O O gh.sl (gh.Zo (by omega))) ?_
 rintro w1 ⟨sL,sM⟩
 refine⟨trivial,?_⟩
 have iv:=gh.set sL
 have kN:Kp (λk=>k=g) w w1:=aA.kp.trans (mS.trans sM)
 refine qE$ qN O$ NT O$ P6 O O$ NT O$ Qp O O$ Oc O$ NZ O$ OD.qb (e:=[(0,_),(1,_),(8,_),(9,_),(10,_),(11,_)]) ?_
 refine py$ NQ ?_
 unfold Go.Sort.partition
 dsimp only
 replace iv:RK w1 g n cap (Go.Sort.swp d a pv):=iv
 generalize Go.Sort.swp d a pv=D at iv
 rw[show(a:Int)+1=((a+1:Nat):Int) by omega,show(b:Int)-1=((b-1:Nat):Int) by omega]
 refine Rg (λe' w'=>e'=[(0,.slice (some ⟨g,0,none⟩) n cap),(1,I (a:Int)),(10,I (((Go.Sort.scanUp (λx=>PQ x D[a]!) D (b-1) (a+1)):Nat):Int)),(11,I (((b-1):Nat):Int))]/\RK w' g n cap D/\Kp (λk=>k=g) w1 w') ?oH$ λoH=>?Cf
 case oH =>
  rintro e' wA ⟨rfl,Jd,oH⟩;have AF:=Go.Sort.scanUp_ge (λx=>PQ x D[a]!) D (b-1) (a+1);have lH:=VI (λx=>PQ x D[a]!) D (b-1) (a+1)
  generalize Go.Sort.scanUp (λx=>PQ x D[a]!) D (b-1) (a+1)=i1 at AF lH
  refine py$ NQ$ Rg (λe' w'=>e'=[(0,.slice (some ⟨g,0,none⟩) n cap),(1,I (a:Int)),(10,I ((i1:Nat):Int)),(11,I (((Go.Sort.scanDown (λx=>!PQ x D[a]!) D i1 (b-1)):Nat):Int))]/\RK w' g n cap D/\Kp (λk=>k=g) wA w') ?ja$ λja=>?Ce
  case ja =>
   rintro e' wB ⟨rfl,oI,ja⟩;have Je:=Go.Sort.scanDown_le (λx=>!PQ x D[a]!) D i1 (b-1)
   generalize Go.Sort.scanDown (λx=>!PQ x D[a]!) D i1 (b-1)=j1 at Je
   refine py$ qN O$ Od O O$ PD O O$ NU$ O8 O (λh4=>?_)$ λh4=>?_
   ·rw[if_pos (by omega)];refine py ?_;have aa:=Ext.Ob wB;refine Oo [13,15] (λw'=>Ext wB w') (by kernel_rfl) O$ OW 0 O O (aa)$ OW 1 O O (aa)$ Pp (i:=2) O (by kernel_rfl) O O (λ_=>Wi O) (aa)$ Pp (i:=3) O (by kernel_rfl) O O (λ_=>Wi O) (aa)$ OW 4 O O (aa)$ OW 5 O O (aa)$ Ot 6 O (P7 OA O7 O O (by omega)) aa$ OW 8 O O (aa)$ OW 9 O O (aa)$ Ot 10 O (P7 OA O7 O O (by omega)) aa$ qL 7 O (λ_ h=>OC OJ O O ((oI.ext h).get (i:=a) (by omega))) aa$ qL 11 O (λ_ h=>OC OJ O O ((oI.ext h).get (i:=j1) (by omega))) aa$ Ot 12 O (P7 OA O7 O O (by omega)) aa ?_;refine S8 [13]$ qO 13$ OP (i:=13) O O (QH O7 O O O (oI.ext aa).sl ((oI.ext aa).Zo (by omega))) ?_;rintro w2a ⟨wv,ww⟩;refine⟨trivial,?_⟩;have mT:=(oI.ext aa).set wv;refine O0 14 O (P7 OA O7 O O (by omega)) trivial$ qO 15$ OP (i:=15) O O (QH O7 O O O mT.sl (mT.Zo (by omega))) ?_;rintro w2 ⟨C6,C7⟩;refine⟨trivial,?_⟩;have C8:=mT.set C6;have wG:Kp (λk=>k=g) wB w2:=aa.kp.trans (ww.trans C7);refine qE$ qN O$ NT O$ Oc O$ NZ O$ NV func277 O ?_;exact⟨_,rfl,rfl,C8,(kN.trans (oH.trans ja)).trans wG⟩
   ·rw [if_neg (by omega)]; refine An (py ?_); have ag := Ext.Ob wB; refine Oo [13,15] (λw' => Ext wB w') (by kernel_rfl) O (OW 0 O O (ag) (OW 1 O O (ag) (Pp (i := 2) O (by kernel_rfl) O O (λ_ => Wi O) (ag) (Pp (i := 3) O (by kernel_rfl) O O (λ_ => Wi O) (ag) (OW 4 O O (ag) (OW 5 O O (ag) (Ot 6 O (P7 OA O7 O O (by omega)) ag (OW 8 O O (ag) (OW 9 O O (ag) (Ot 10 O (P7 OA O7 O O (by omega)) ag (qL 7 O (λ_ h=>OC OJ O O ((oI.ext h).get (i := j1) (by omega))) ag (qL 11 O (λ_ h=>OC OJ O O ((oI.ext h).get (i := i1) (by omega))) ag (Ot 12 O (P7 OA O7 O O (by omega)) ag ?_))))))))))))); refine S8 [13] (qO 13 (OP (i := 13) O O (QH O7 O O O (oI.ext ag).sl ((oI.ext ag).Zo (by omega))) ?_)); rintro w3a ⟨wH, wI⟩; refine ⟨trivial, ?_⟩; have mU := (oI.ext ag).set wH; refine O0 14 O (P7 OA O7 O O (by omega)) trivial (qO 15 (OP (i := 15) O O (QH O7 O O O mU.sl (mU.Zo (by omega))) ?_)); rintro w3 ⟨C9, Ca⟩; refine ⟨trivial, ?_⟩; have Cb := mU.set C9; have wJ : Kp (λk => k = g) wB w3 := ag.kp.trans (wI.trans Ca); refine qE (qN O (NT O (P6 O O (Oc O (qM O (NT O (Qp O O (NZ O (OD.qb (e := [(0, _), (1, _), (10, _), (11, _)]) ?_))))))))); refine py (NQ ?_); rw [show (j1 : Int) - 1 = ((j1 - 1 : Nat) : Int) by omega]; refine Qm (α := Nat × Nat × Array Nat) ((i1 + 1, j1 - 1, Go.Sort.swp D i1 j1)) (λy => [(0, .slice (some ⟨g, 0, none⟩) n cap), (1, I (a : Int)), (10, I (y.1 : Int)), (11, I (y.2.1 : Int))]) (λy w' => RK w' g n cap y.2.2 /\ Kp (λk => k = g) w3 w' /\ Go.Sort.partLoop PQ a y.1 y.2.1 y.2.2 = Go.Sort.partLoop PQ a (i1 + 1) (j1 - 1) (Go.Sort.swp D i1 j1) /\ (a < y.1 /\ y.1 <= n /\ y.2.1 < n)) (λy => y.2.1 + 1 - y.1) ?hI ?hround
    case hI=>exact⟨Cb,Kp.refl _ _,rfl,by dsimp only;omega⟩
    case hround =>
     rintro⟨i,j,d4⟩ w4 ⟨dS,ao,cB,bH⟩ ih;dsimp only at dS ao cB bH;rw[Go.Sort.partLoop_eq] at cB
     try dsimp only
     refine NQ$ py$ NQ$ Rg (λe' w'=>e'=[(0,.slice (some ⟨g,0,none⟩) n cap),(1,I (a:Int)),(10,I (((Go.Sort.scanUp (λx=>PQ x d4[a]!) d4 j (i)):Nat):Int)),(11,I ((j:Nat):Int))]/\RK w' g n cap d4/\Kp (λk=>k=g) w4 w') ?jE$ λjE=>?sO
     case jE=>
      rintro e' wC ⟨rfl,Cc,jE⟩;have dt:=Go.Sort.scanUp_ge (λx=>PQ x d4[a]!) d4 j i;have mh:=VI (λx=>PQ x d4[a]!) d4 j i
      generalize Go.Sort.scanUp (λx=>PQ x d4[a]!) d4 j i=i2 at cB dt mh
      refine py$ NQ$ Rg (λe' w'=>e'=[(0,.slice (some ⟨g,0,none⟩) n cap),(1,I (a:Int)),(10,I ((i2:Nat):Int)),(11,I (((Go.Sort.scanDown (λx=>!PQ x d4[a]!) d4 i2 (j)):Nat):Int))]/\RK w' g n cap d4/\Kp (λk=>k=g) wC w') ?fE$ λfE=>?sN
      case fE=>
       rintro e' wD ⟨rfl,jb,fE⟩;have kM:=Go.Sort.scanDown_le (λx=>!PQ x d4[a]!) d4 i2 j
       generalize Go.Sort.scanDown (λx=>!PQ x d4[a]!) d4 i2 j=j2 at cB kM
       refine py$ qN O$ Od O O$ PD O O$ NU$ O8 O (λh5=>?_)$ λh5=>?_
       ·rw[if_pos (by omega)] at cB;refine O4 O$ py ?_;rw[<-cB];have oJ:=((kN.trans (oH.trans ja)).trans wJ).trans (ao.trans (jE.trans fE));have bY:=Ext.Ob wD;refine Oo [13,15] (λw'=>Ext wD w') (by kernel_rfl) O$ OW 0 O O (bY)$ OW 1 O O (bY)$ Pp (i:=2) O (by kernel_rfl) O O (λ_=>Wi O) (bY)$ Pp (i:=3) O (by kernel_rfl) O O (λ_=>Wi O) (bY)$ OW 4 O O (bY)$ OW 5 O O (bY)$ Ot 6 O (P7 OA O7 O O (by omega)) bY$ OW 8 O O (bY)$ OW 9 O O (bY)$ Ot 10 O (P7 OA O7 O O (by omega)) bY$ qL 7 O (λ_ h=>OC OJ O O ((jb.ext h).get (i:=a) (by omega))) bY$ qL 11 O (λ_ h=>OC OJ O O ((jb.ext h).get (i:=j2) (by omega))) bY$ Ot 12 O (P7 OA O7 O O (by omega)) bY ?_;refine S8 [13]$ qO 13$ OP (i:=13) O O (QH O7 O O O (jb.ext bY).sl ((jb.ext bY).Zo (by omega))) ?_;rintro w8a ⟨gj,gl⟩;refine⟨trivial,?_⟩;have cH:=(jb.ext bY).set gj;refine O0 14 O (P7 OA O7 O O (by omega)) trivial$ qO 15$ OP (i:=15) O O (QH O7 O O O cH.sl (cH.Zo (by omega))) ?_;rintro w8 ⟨jZ,kf⟩;refine⟨trivial,?_⟩;have kg:=cH.set jZ;have fw:Kp (λk=>k=g) wD w8:=bY.kp.trans (gl.trans kf);refine qE$ qN O$ NT O$ Oc O$ NZ O$ NV func277 O ?_;exact⟨_,rfl,rfl,kg,oJ.trans fw⟩
       ·rw[if_neg (by omega)] at cB;refine An$ py ?_;have bY:=Ext.Ob wD;refine Oo [13,15] (λw'=>Ext wD w') (by kernel_rfl) O$ OW 0 O O (bY)$ OW 1 O O (bY)$ Pp (i:=2) O (by kernel_rfl) O O (λ_=>Wi O) (bY)$ Pp (i:=3) O (by kernel_rfl) O O (λ_=>Wi O) (bY)$ OW 4 O O (bY)$ OW 5 O O (bY)$ Ot 6 O (P7 OA O7 O O (by omega)) bY$ OW 8 O O (bY)$ OW 9 O O (bY)$ Ot 10 O (P7 OA O7 O O (by omega)) bY$ qL 7 O (λ_ h=>OC OJ O O ((jb.ext h).get (i:=j2) (by omega))) bY$ qL 11 O (λ_ h=>OC OJ O O ((jb.ext h).get (i:=i2) (by omega))) bY$ Ot 12 O (P7 OA O7 O O (by omega)) bY ?_;refine S8 [13]$ qO 13$ OP (i:=13) O O (QH O7 O O O (jb.ext bY).sl ((jb.ext bY).Zo (by omega))) ?_;rintro w8a ⟨gj,gl⟩;refine⟨trivial,?_⟩;have cH:=(jb.ext bY).set gj;refine O0 14 O (P7 OA O7 O O (by omega)) trivial$ qO 15$ OP (i:=15) O O (QH O7 O O O cH.sl (cH.Zo (by omega))) ?_;rintro w8 ⟨jZ,kf⟩;refine⟨trivial,?_⟩;have kg:=cH.set jZ;have fw:Kp (λk=>k=g) wD w8:=bY.kp.trans (gl.trans kf);refine qE$ qN O$ NT O$ P6 O O$ NZ O$ NW O$ NT O$ Qp O O$ NZ O$ NS ?_;rw[show(j2:Int)-1=((j2-1:Nat):Int) by omega];exact(ih (i2+1,j2-1,Go.Sort.swp d4 i2 j2) _ ⟨kg,(ao.trans (jE.trans fE)).trans fw,cB,by dsimp only;omega⟩ (by dsimp only;omega)).qb
      case sN=>
       refine Qm (α:=Nat) (j) (λr=>[(0,.slice (some ⟨g,0,none⟩) n cap),(1,I (a:Int)),(10,I ((i2:Nat):Int)),(11,I ((r:Nat):Int))]) (λr w'=>RK w' g n cap d4/\Kp (λk=>k=g) wC w'/\Go.Sort.scanDown (λx=>!PQ x d4[a]!) d4 i2 r=Go.Sort.scanDown (λx=>!PQ x d4[a]!) d4 i2 (j)/\r<n) (λr=>r) ?hI ?hround
       case hI=>exact⟨Cc,Kp.refl _ _,rfl,by omega⟩
       case hround=>
        rintro r w5 ⟨aU,ak,cf,ck⟩ ih
        try dsimp only
        have hg:=Ext.Ob w5;rcases Nat.lt_or_ge r (i2) with hj|hj
        ·refine py$ py$ Qj (λw'=>Ext w5 w') O$ Oj 0 O O (hg)$ Oj 1 O O (hg)$ O0 2 O (Y6 O O) hg$ TH$ Oj 3 O O (hg)$ qJ 4 O (hg)$ qJ 5 O (hg)$ qJ 6 O (hg)$ qJ 7 O (hg)$ qJ 8 O (hg)$ qJ 9 O (hg) ?_;refine qJ 10 O (hg)$ qJ 11 O (hg)$ qJ 12 O (hg)$ qJ 13 O (hg)$ O0 14 O (TA O O) hg$ qE$ It O$ O4 O ?_;rw[Rh _ _ _ _ (.inl hj)] at cf;subst cf;exact(fE _ _ ⟨rfl,aU.ext hg,ak.trans hg.kp⟩).qb
        ·refine py$ py$ Qj (λw'=>Ext w5 w') O$ Oj 0 O O (hg)$ Oj 1 O O (hg)$ O0 2 O (Y6 O O) hg$ T4$ Oj 3 O O (hg)$ Oj 4 O O (hg)$ Oj 5 O O (hg)$ O0 6 O (P7 OA O7 O O (by omega)) hg$ Oj 8 O O (hg)$ Oj 9 O O (hg)$ O0 10 O (P7 OA O7 O O (by omega)) hg ?_;refine qT 7 O (λ_ h=>OC OJ O O ((aU.ext h).get (i:=r) (by omega))) hg$ qT 11 O (λ_ h=>OC OJ O O ((aU.ext h).get (i:=a) (by omega))) hg$ RW 12 O Vf O (Re _ _ _) ?_;rintro _ w6 ⟨rfl,rfl⟩;refine⟨hg,?_⟩;refine O0 13 O ((z7J O)) hg$ O0 14 O (TL O O) hg$ qE$ Po O (λh1=>?_)$ λh1=>?_
         ·rw[Vv _ _ _ _ hj (by simpa[PQ] using h1) (by omega)] at cf;refine An$ NQ$ NW O$ NT O$ Qp O O$ NZ O$ NS ?_;rw[show(r:Int)-1=((r-1:Nat):Int) by omega];exact(ih (r-1) _ ⟨aU.ext hg,ak.trans hg.kp,cf,by omega⟩ (by omega)).qb
         ·rw[Rh _ _ _ _ (.inr (by simpa[PQ] using h1))] at cf;refine O4 O ?_;subst cf;exact(fE _ _ ⟨rfl,aU.ext hg,ak.trans hg.kp⟩).qb
     case sO=>
      refine Qm (α:=Nat) (i) (λr=>[(0,.slice (some ⟨g,0,none⟩) n cap),(1,I (a:Int)),(10,I ((r:Nat):Int)),(11,I ((j:Nat):Int))]) (λr w'=>RK w' g n cap d4/\Kp (λk=>k=g) w4 w'/\Go.Sort.scanUp (λx=>PQ x d4[a]!) d4 j r=Go.Sort.scanUp (λx=>PQ x d4[a]!) d4 j (i)/\i<=r/\r<=n+1) (λr=>j+1-r) ?hI ?hround
      case hI=>exact⟨dS,Kp.refl _ _,rfl,Nat.le_refl _,by omega⟩
      case hround=>
       rintro r w5 ⟨aU,ak,cf,ck⟩ ih
       try dsimp only
       have hg:=Ext.Ob w5;rcases Nat.lt_or_ge (j) r with hj|hj
       ·refine py$ py$ Qj (λw'=>Ext w5 w') O$ Oj 0 O O (hg)$ Oj 1 O O (hg)$ O0 2 O (Y6 O O) hg$ TH$ Oj 3 O O (hg)$ qJ 4 O (hg)$ qJ 5 O (hg)$ qJ 6 O (hg)$ qJ 7 O (hg)$ qJ 8 O (hg)$ qJ 9 O (hg) ?_;refine qJ 10 O (hg)$ qJ 11 O (hg)$ qJ 12 O (hg)$ O0 13 O (TA O O) hg$ qE$ It O$ O4 O ?_;rw[S9 _ _ _ _ (.inl hj)] at cf;subst cf;exact(jE _ _ ⟨rfl,aU.ext hg,ak.trans hg.kp⟩).qb
       ·refine py$ py$ Qj (λw'=>Ext w5 w') O$ Oj 0 O O (hg)$ Oj 1 O O (hg)$ O0 2 O (Y6 O O) hg$ T4$ Oj 3 O O (hg)$ Oj 4 O O (hg)$ Oj 5 O O (hg)$ O0 6 O (P7 OA O7 O O (by omega)) hg$ Oj 8 O O (hg)$ Oj 9 O O (hg)$ O0 10 O (P7 OA O7 O O (by omega)) hg ?_;refine qT 7 O (λ_ h=>OC OJ O O ((aU.ext h).get (i:=r) (by omega))) hg$ qT 11 O (λ_ h=>OC OJ O O ((aU.ext h).get (i:=a) (by omega))) hg$ RW 12 O Vf O (Re _ _ _) ?_;rintro _ w6 ⟨rfl,rfl⟩;refine⟨hg,?_⟩;refine O0 13 O (TL O O) hg$ qE$ Po O (λh1=>?_)$ λh1=>?_
        ·rw[Yd _ _ _ _ hj (by simpa[PQ] using h1)] at cf;refine An$ NQ$ NW O$ NT O$ P6 O O$ NZ O$ NS ?_;exact(ih (r+1) _ ⟨aU.ext hg,ak.trans hg.kp,cf,by omega,by omega⟩ (by omega)).qb
        ·rw[S9 _ _ _ _ (.inr (by simpa[PQ] using h1))] at cf;refine O4 O ?_;subst cf;exact(jE _ _ ⟨rfl,aU.ext hg,ak.trans hg.kp⟩).qb
  case Ce=>
   refine Qm (α:=Nat) (b-1) (λr=>[(0,.slice (some ⟨g,0,none⟩) n cap),(1,I (a:Int)),(10,I ((i1:Nat):Int)),(11,I ((r:Nat):Int))]) (λr w'=>RK w' g n cap D/\Kp (λk=>k=g) wA w'/\Go.Sort.scanDown (λx=>!PQ x D[a]!) D i1 r=Go.Sort.scanDown (λx=>!PQ x D[a]!) D i1 (b-1)/\r<n) (λr=>r) ?hI ?hround
   case hI=>exact⟨Jd,Kp.refl _ _,rfl,by omega⟩
   case hround=>
    rintro r w5 ⟨aU,ak,cf,ck⟩ ih
    try dsimp only
    have hg:=Ext.Ob w5;rcases Nat.lt_or_ge r (i1) with hj|hj
    ·refine py$ py$ Qj (λw'=>Ext w5 w') O$ Oj 0 O O (hg)$ Oj 1 O O (hg)$ O0 2 O (Y6 O O) hg$ TH$ Oj 3 O O (hg)$ qJ 4 O (hg)$ qJ 5 O (hg)$ qJ 6 O (hg)$ qJ 7 O (hg)$ qJ 8 O (hg)$ qJ 9 O (hg) ?_;refine qJ 10 O (hg)$ qJ 11 O (hg)$ qJ 12 O (hg)$ qJ 13 O (hg)$ O0 14 O (TA O O) hg$ qE$ It O$ O4 O ?_;rw[Rh _ _ _ _ (.inl hj)] at cf;subst cf;exact(ja _ _ ⟨rfl,aU.ext hg,ak.trans hg.kp⟩).qb
    ·refine py$ py$ Qj (λw'=>Ext w5 w') O$ Oj 0 O O (hg)$ Oj 1 O O (hg)$ O0 2 O (Y6 O O) hg$ T4$ Oj 3 O O (hg)$ Oj 4 O O (hg)$ Oj 5 O O (hg)$ O0 6 O (P7 OA O7 O O (by omega)) hg$ Oj 8 O O (hg)$ Oj 9 O O (hg)$ O0 10 O (P7 OA O7 O O (by omega)) hg ?_;refine qT 7 O (λ_ h=>OC OJ O O ((aU.ext h).get (i:=r) (by omega))) hg$ qT 11 O (λ_ h=>OC OJ O O ((aU.ext h).get (i:=a) (by omega))) hg$ RW 12 O Vf O (Re _ _ _) ?_;rintro _ w6 ⟨rfl,rfl⟩;refine⟨hg,?_⟩;refine O0 13 O ((z7J O)) hg$ O0 14 O (TL O O) hg$ qE$ Po O (λh1=>?_)$ λh1=>?_
     ·rw[Vv _ _ _ _ hj (by simpa[PQ] using h1) (by omega)] at cf;refine An$ NQ$ NW O$ NT O$ Qp O O$ NZ O$ NS ?_;rw[show(r:Int)-1=((r-1:Nat):Int) by omega];exact(ih (r-1) _ ⟨aU.ext hg,ak.trans hg.kp,cf,by omega⟩ (by omega)).qb
     ·rw[Rh _ _ _ _ (.inr (by simpa[PQ] using h1))] at cf;refine O4 O ?_;subst cf;exact(ja _ _ ⟨rfl,aU.ext hg,ak.trans hg.kp⟩).qb
 case Cf=>
  refine Qm (α:=Nat) (a+1) (λr=>[(0,.slice (some ⟨g,0,none⟩) n cap),(1,I (a:Int)),(10,I ((r:Nat):Int)),(11,I (((b-1):Nat):Int))]) (λr w'=>RK w' g n cap D/\Kp (λk=>k=g) w1 w'/\Go.Sort.scanUp (λx=>PQ x D[a]!) D (b-1) r=Go.Sort.scanUp (λx=>PQ x D[a]!) D (b-1) (a+1)/\a+1<=r/\r<=n+1) (λr=>(b-1)+1-r) ?hI ?hround
  case hI=>exact⟨iv,Kp.refl _ _,rfl,Nat.le_refl _,by omega⟩
  case hround=>
   rintro r w5 ⟨aU,ak,cf,ck⟩ ih
   try dsimp only
   have hg:=Ext.Ob w5;rcases Nat.lt_or_ge ((b-1)) r with hj|hj
   ·refine py$ py$ Qj (λw'=>Ext w5 w') O$ Oj 0 O O (hg)$ Oj 1 O O (hg)$ O0 2 O (Y6 O O) hg$ TH$ Oj 3 O O (hg)$ qJ 4 O (hg)$ qJ 5 O (hg)$ qJ 6 O (hg)$ qJ 7 O (hg)$ qJ 8 O (hg)$ qJ 9 O (hg) ?_;refine qJ 10 O (hg)$ qJ 11 O (hg)$ qJ 12 O (hg)$ O0 13 O (TA O O) hg$ qE$ It O$ O4 O ?_;rw[S9 _ _ _ _ (.inl hj)] at cf;subst cf;exact(oH _ _ ⟨rfl,aU.ext hg,ak.trans hg.kp⟩).qb
   ·refine py$ py$ Qj (λw'=>Ext w5 w') O$ Oj 0 O O (hg)$ Oj 1 O O (hg)$ O0 2 O (Y6 O O) hg$ T4$ Oj 3 O O (hg)$ Oj 4 O O (hg)$ Oj 5 O O (hg)$ O0 6 O (P7 OA O7 O O (by omega)) hg$ Oj 8 O O (hg)$ Oj 9 O O (hg)$ O0 10 O (P7 OA O7 O O (by omega)) hg ?_;refine qT 7 O (λ_ h=>OC OJ O O ((aU.ext h).get (i:=r) (by omega))) hg$ qT 11 O (λ_ h=>OC OJ O O ((aU.ext h).get (i:=a) (by omega))) hg$ RW 12 O Vf O (Re _ _ _) ?_;rintro _ w6 ⟨rfl,rfl⟩;refine⟨hg,?_⟩;refine O0 13 O (TL O O) hg$ qE$ Po O (λh1=>?_)$ λh1=>?_
    ·rw[Yd _ _ _ _ hj (by simpa[PQ] using h1)] at cf;refine An$ NQ$ NW O$ NT O$ P6 O O$ NZ O$ NS ?_;exact(ih (r+1) _ ⟨aU.ext hg,ak.trans hg.kp,cf,by omega,by omega⟩ (by omega)).qb
    ·rw[S9 _ _ _ _ (.inr (by simpa[PQ] using h1))] at cf;refine O4 O ?_;subst cf;exact(oH _ _ ⟨rfl,aU.ext hg,ak.trans hg.kp⟩).qb
theorem zcs {w:World}{g n cap:Nat}{d:Array Nat}(h:RK w g n cap d)(a b pv:Nat)(C5:a<=pv)(qY:pv<b)(hb:b<=n)(hn:n<=65536):
  Oy prog 276 [.slice (some ⟨g,0,none⟩) n cap,I (a:Int),I (b:Int),I (pv:Int)] w λu w'=>u=I ((Go.Sort.partitionEqual PQ d a b pv).1:Int)/\RK w' g n cap (Go.Sort.partitionEqual PQ d a b pv).2/\Kp (λk=>k=g) w w':=by
 refine NP (e:=[(0,_),(1,_),(2,_),(3,_)]) func276 O ntmps276 O O$ qN O$ NZ O$ py ?_
 have aA:=Ext.Ob w
 refine Oo [13,15] (λw'=>Ext w w') (by kernel_rfl) O$ OW 0 O O (aA)$ OW 1 O O (aA)$ Pp (i:=2) O (by kernel_rfl) O O (λ_=>Wi O) (aA)$ Pp (i:=3) O (by kernel_rfl) O O (λ_=>Wi O) (aA)$ OW 4 O O (aA)$ OW 5 O O (aA)$ Ot 6 O (P7 OA O7 O O (by omega)) aA$ OW 8 O O (aA)$ OW 9 O O (aA)$ Ot 10 O (P7 OA O7 O O (by omega)) aA$ qL 7 O (λ_ hS=>OC OJ O O ((h.ext hS).get (i:=pv) (by omega))) aA$ qL 11 O (λ_ hS=>OC OJ O O ((h.ext hS).get (i:=a) (by omega))) aA$ Ot 12 O (P7 OA O7 O O (by omega)) aA ?_
 refine S8 [13]$ qO 13$ OP (i:=13) O O (QH O7 O O O (h.ext aA).sl ((h.ext aA).Zo (by omega))) ?_
 rintro w1a ⟨mR,mS⟩
 refine⟨trivial,?_⟩
 have gh:=(h.ext aA).set mR
 refine O0 14 O (P7 OA O7 O O (by omega)) trivial$ qO 15$ OP (i:=15) O O (QH O7 O O O gh.sl (gh.Zo (by omega))) ?_
 rintro w1 ⟨sL,sM⟩
 refine⟨trivial,?_⟩
 have iv:=gh.set sL
 have kN:Kp (λk=>k=g) w w1:=aA.kp.trans (mS.trans sM)
 refine qE$ qN O$ NT O$ P6 O O$ NT O$ Qp O O$ Oc O$ NZ O$ OD.qb (e:=[(0,_),(1,_),(8,_),(9,_),(10,_)]) ?_
 refine py$ NQ ?_
 unfold Go.Sort.partitionEqual
 replace iv:RK w1 g n cap (Go.Sort.swp d a pv):=iv
 generalize Go.Sort.swp d a pv=D at iv
 rw[show(a:Int)+1=((a+1:Nat):Int) by omega,show(b:Int)-1=((b-1:Nat):Int) by omega]
 refine Qm (α:=Nat×Nat×Array Nat) ((a+1,b-1,D)) (λy=>[(0,.slice (some ⟨g,0,none⟩) n cap),(1,I (a:Int)),(9,I (y.1:Int)),(10,I (y.2.1:Int))]) (λy w'=>RK w' g n cap y.2.2/\Kp (λk=>k=g) w1 w'/\Go.Sort.partEqLoop PQ a y.1 y.2.1 y.2.2=Go.Sort.partEqLoop PQ a (a+1) (b-1) D/\(a<y.1/\y.1<=n/\y.2.1<n)) (λy=>y.2.1+1-y.1) ?hI ?hround
 case hI=>exact⟨iv,Kp.refl _ _,rfl,by dsimp only;omega⟩
 case hround =>
  rintro⟨i,j,d4⟩ w4 ⟨dS,ao,cB,bH⟩ ih;dsimp only at dS ao cB bH;rw[Go.Sort.partEqLoop_eq] at cB
  try dsimp only
  refine NQ$ py$ NQ$ Rg (λe' w'=>e'=[(0,.slice (some ⟨g,0,none⟩) n cap),(1,I (a:Int)),(9,I (((Go.Sort.scanUp (λx=>!PQ d4[a]! x) d4 j (i)):Nat):Int)),(10,I ((j:Nat):Int))]/\RK w' g n cap d4/\Kp (λk=>k=g) w4 w') ?jE$ λjE=>?sO
  case jE=>
   rintro e' wC ⟨rfl,Cc,jE⟩;have dt:=Go.Sort.scanUp_ge (λx=>!PQ d4[a]! x) d4 j i;have mh:=VI (λx=>!PQ d4[a]! x) d4 j i
   generalize Go.Sort.scanUp (λx=>!PQ d4[a]! x) d4 j i=i2 at cB dt mh
   refine py$ NQ$ Rg (λe' w'=>e'=[(0,.slice (some ⟨g,0,none⟩) n cap),(1,I (a:Int)),(9,I ((i2:Nat):Int)),(10,I (((Go.Sort.scanDown (λx=>PQ d4[a]! x) d4 i2 (j)):Nat):Int))]/\RK w' g n cap d4/\Kp (λk=>k=g) wC w') ?fE$ λfE=>?sN
   case fE=>
    rintro e' wD ⟨rfl,jb,fE⟩;have kM:=Go.Sort.scanDown_le (λx=>PQ d4[a]! x) d4 i2 j
    generalize Go.Sort.scanDown (λx=>PQ d4[a]! x) d4 i2 j=j2 at cB kM
    refine py$ qN O$ Od O O$ PD O O$ NU$ O8 O (λh5=>?_)$ λh5=>?_
    ·rw[if_pos (by omega)] at cB;rw[<-cB];refine O4 O$ qN O$ NT O$ NZ O$ NV func276 O ?_;exact⟨_,rfl,rfl,jb,kN.trans (ao.trans (jE.trans fE))⟩
    ·rw[if_neg (by omega)] at cB;refine An$ py ?_;have bY:=Ext.Ob wD;refine Oo [13,15] (λw'=>Ext wD w') (by kernel_rfl) O$ OW 0 O O (bY)$ OW 1 O O (bY)$ Pp (i:=2) O (by kernel_rfl) O O (λ_=>Wi O) (bY)$ Pp (i:=3) O (by kernel_rfl) O O (λ_=>Wi O) (bY)$ OW 4 O O (bY)$ OW 5 O O (bY)$ Ot 6 O (P7 OA O7 O O (by omega)) bY$ OW 8 O O (bY)$ OW 9 O O (bY)$ Ot 10 O (P7 OA O7 O O (by omega)) bY$ qL 7 O (λ_ h=>OC OJ O O ((jb.ext h).get (i:=j2) (by omega))) bY$ qL 11 O (λ_ h=>OC OJ O O ((jb.ext h).get (i:=i2) (by omega))) bY$ Ot 12 O (P7 OA O7 O O (by omega)) bY ?_;refine S8 [13]$ qO 13$ OP (i:=13) O O (QH O7 O O O (jb.ext bY).sl ((jb.ext bY).Zo (by omega))) ?_;rintro w8a ⟨gj,gl⟩;refine⟨trivial,?_⟩;have cH:=(jb.ext bY).set gj;refine O0 14 O (P7 OA O7 O O (by omega)) trivial$ qO 15$ OP (i:=15) O O (QH O7 O O O cH.sl (cH.Zo (by omega))) ?_;rintro w8 ⟨jZ,kf⟩;refine⟨trivial,?_⟩;have kg:=cH.set jZ;have fw:Kp (λk=>k=g) wD w8:=bY.kp.trans (gl.trans kf);refine qE$ qN O$ NT O$ P6 O O$ NZ O$ NW O$ NT O$ Qp O O$ NZ O$ NS ?_;rw[show(j2:Int)-1=((j2-1:Nat):Int) by omega];exact(ih (i2+1,j2-1,Go.Sort.swp d4 i2 j2) _ ⟨kg,(ao.trans (jE.trans fE)).trans fw,cB,by dsimp only;omega⟩ (by dsimp only;omega)).qb
   case sN=>
    refine Qm (α:=Nat) (j) (λr=>[(0,.slice (some ⟨g,0,none⟩) n cap),(1,I (a:Int)),(9,I ((i2:Nat):Int)),(10,I ((r:Nat):Int))]) (λr w'=>RK w' g n cap d4/\Kp (λk=>k=g) wC w'/\Go.Sort.scanDown (λx=>PQ d4[a]! x) d4 i2 r=Go.Sort.scanDown (λx=>PQ d4[a]! x) d4 i2 (j)/\r<n) (λr=>r) ?hI ?hround
    case hI=>exact⟨Cc,Kp.refl _ _,rfl,by omega⟩
    case hround=>
     rintro r w5 ⟨aU,ak,cf,ck⟩ ih
     try dsimp only
     have hg:=Ext.Ob w5;rcases Nat.lt_or_ge r (i2) with hj|hj
     ·refine py$ py$ Qj (λw'=>Ext w5 w') O$ Oj 0 O O (hg)$ Oj 1 O O (hg)$ O0 2 O (Y6 O O) hg$ TH$ Oj 3 O O (hg)$ qJ 4 O (hg)$ qJ 5 O (hg)$ qJ 6 O (hg)$ qJ 7 O (hg)$ qJ 8 O (hg)$ qJ 9 O (hg) ?_;refine qJ 10 O (hg)$ qJ 11 O (hg)$ qJ 12 O (hg)$ O0 13 O (TA O O) hg$ qE$ It O$ O4 O ?_;rw[Rh _ _ _ _ (.inl hj)] at cf;subst cf;exact(fE _ _ ⟨rfl,aU.ext hg,ak.trans hg.kp⟩).qb
     ·refine py$ py$ Qj (λw'=>Ext w5 w') O$ Oj 0 O O (hg)$ Oj 1 O O (hg)$ O0 2 O (Y6 O O) hg$ T4$ Oj 3 O O (hg)$ Oj 4 O O (hg)$ Oj 5 O O (hg)$ O0 6 O (P7 OA O7 O O (by omega)) hg$ Oj 8 O O (hg)$ Oj 9 O O (hg)$ O0 10 O (P7 OA O7 O O (by omega)) hg ?_;refine qT 7 O (λ_ h=>OC OJ O O ((aU.ext h).get (i:=a) (by omega))) hg$ qT 11 O (λ_ h=>OC OJ O O ((aU.ext h).get (i:=r) (by omega))) hg$ RW 12 O Vf O (Re _ _ _) ?_;rintro _ w6 ⟨rfl,rfl⟩;refine⟨hg,?_⟩;refine O0 13 O (TL O O) hg$ qE$ Po O (λh1=>?_)$ λh1=>?_
      ·rw[Vv _ _ _ _ hj (by simpa[PQ] using h1) (by omega)] at cf;refine An$ NQ$ NW O$ NT O$ Qp O O$ NZ O$ NS ?_;rw[show(r:Int)-1=((r-1:Nat):Int) by omega];exact(ih (r-1) _ ⟨aU.ext hg,ak.trans hg.kp,cf,by omega⟩ (by omega)).qb
      ·rw[Rh _ _ _ _ (.inr (by simpa[PQ] using h1))] at cf;refine O4 O ?_;subst cf;exact(fE _ _ ⟨rfl,aU.ext hg,ak.trans hg.kp⟩).qb
  case sO=>
   refine Qm (α:=Nat) (i) (λr=>[(0,.slice (some ⟨g,0,none⟩) n cap),(1,I (a:Int)),(9,I ((r:Nat):Int)),(10,I ((j:Nat):Int))]) (λr w'=>RK w' g n cap d4/\Kp (λk=>k=g) w4 w'/\Go.Sort.scanUp (λx=>!PQ d4[a]! x) d4 j r=Go.Sort.scanUp (λx=>!PQ d4[a]! x) d4 j (i)/\i<=r/\r<=n+1) (λr=>j+1-r) ?hI ?hround
   case hI=>exact⟨dS,Kp.refl _ _,rfl,Nat.le_refl _,by omega⟩
   case hround=>
    rintro r w5 ⟨aU,ak,cf,ck⟩ ih
    try dsimp only
    have hg:=Ext.Ob w5;rcases Nat.lt_or_ge (j) r with hj|hj
    ·refine py$ py$ Qj (λw'=>Ext w5 w') O$ Oj 0 O O (hg)$ Oj 1 O O (hg)$ O0 2 O (Y6 O O) hg$ TH$ Oj 3 O O (hg)$ qJ 4 O (hg)$ qJ 5 O (hg)$ qJ 6 O (hg)$ qJ 7 O (hg)$ qJ 8 O (hg)$ qJ 9 O (hg) ?_;refine qJ 10 O (hg)$ qJ 11 O (hg)$ qJ 12 O (hg)$ qJ 13 O (hg)$ O0 14 O (TA O O) hg$ qE$ It O$ O4 O ?_;rw[S9 _ _ _ _ (.inl hj)] at cf;subst cf;exact(jE _ _ ⟨rfl,aU.ext hg,ak.trans hg.kp⟩).qb
    ·refine py$ py$ Qj (λw'=>Ext w5 w') O$ Oj 0 O O (hg)$ Oj 1 O O (hg)$ O0 2 O (Y6 O O) hg$ T4$ Oj 3 O O (hg)$ Oj 4 O O (hg)$ Oj 5 O O (hg)$ O0 6 O (P7 OA O7 O O (by omega)) hg$ Oj 8 O O (hg)$ Oj 9 O O (hg)$ O0 10 O (P7 OA O7 O O (by omega)) hg ?_;refine qT 7 O (λ_ h=>OC OJ O O ((aU.ext h).get (i:=a) (by omega))) hg$ qT 11 O (λ_ h=>OC OJ O O ((aU.ext h).get (i:=r) (by omega))) hg$ RW 12 O Vf O (Re _ _ _) ?_;rintro _ w6 ⟨rfl,rfl⟩;refine⟨hg,?_⟩;refine O0 13 O ((z7J O)) hg$ O0 14 O (TL O O) hg$ qE$ Po O (λh1=>?_)$ λh1=>?_
     ·rw[Yd _ _ _ _ hj (by simpa[PQ] using h1)] at cf;refine An$ NQ$ NW O$ NT O$ P6 O O$ NZ O$ NS ?_;exact(ih (r+1) _ ⟨aU.ext hg,ak.trans hg.kp,cf,by omega,by omega⟩ (by omega)).qb
     ·rw[S9 _ _ _ _ (.inr (by simpa[PQ] using h1))] at cf;refine O4 O ?_;subst cf;exact(jE _ _ ⟨rfl,aU.ext hg,ak.trans hg.kp⟩).qb
section
variable (d:Array Nat)(b i:Nat)
theorem z0Z (h:i<b)(hp:PQ d[i]! d[i-1]! =false):Go.Sort.scanSorted PQ d b i=Go.Sort.scanSorted PQ d b (i+1):=by
 conv=>lhs;rw[Go.Sort.scanSorted]
 rw[if_pos]
 rw[Bool.and_eq_true];exact⟨by simpa using h,by rw[hp];rfl⟩
theorem Ve (h:b<=i\/PQ d[i]! d[i-1]! =true):Go.Sort.scanSorted PQ d b i=i:=by
 rw[Go.Sort.scanSorted,if_neg]
 intro hc
 rw[Bool.and_eq_true] at hc
 rcases h with h| h
 ·have:=of_decide_eq_true hc.1;omega
 ·rw[h] at hc;cases hc.2
end
theorem z7e (d:Array Nat)(a b:Nat)(h:b-a<50):Go.Sort.partialInsertionSort PQ d a b=(d,decide (Go.Sort.scanSorted PQ d b (a+1)=b)):=by
 unfold Go.Sort.partialInsertionSort
 rw[Go.Sort.partialIns]
 by_cases e:Go.Sort.scanSorted PQ d b (a+1)=b
 ·simp only[e,if_pos,decide_true]
 ·simp only[if_neg e,if_pos h,decide_eq_false e]
theorem zbz {w:World}{g n cap:Nat}{d:Array Nat}(h:RK w g n cap d)(a b:Nat)(iT:a<b)(hb:b<=n)(hn:n<50):
  Oy prog 274 [.slice (some ⟨g,0,none⟩) n cap,I (a:Int),I (b:Int)] w λu w'=>u= .bool (Go.Sort.partialInsertionSort PQ d a b).2/\RK w' g n cap d/\Kp (λk=>k=g) w w':=by
 rw[z7e d a b (by omega)]
 dsimp only
 refine NP (e:=[(0,_),(1,_),(2,_)]) func274 O ntmps274 O O$ qN O$ Oc O$ qM O$ NT O$ P6 O O$ NZ O$ py$ qN O$ NZ O$ NQ ?_
 rw[show(a:Int)+1=((a+1:Nat):Int) by omega]
 refine Qm (α:=Unit) (()) (λ_=>[(0,.slice (some ⟨g,0,none⟩) n cap),(1,I (a:Int)),(2,I (b:Int)),(7,I ((a+1:Nat):Int)),(8,I 0)]) (λy w'=>w'=w) (λy=>0) ?hI ?hround
 case hI=>rfl
 case hround =>
  rintro _ w4 rfl ih0
  try dsimp only
  refine py$ qN O$ NT O$ Py O O$ NU$ O8 O (λh0=>?_)$ λh0=>?_
  ·refine An$ py$ NQ$ py$ NQ$ Rg (λe' w'=>e'=[(0,.slice (some ⟨g,0,none⟩) n cap),(1,I (a:Int)),(2,I (b:Int)),(7,I (Go.Sort.scanSorted PQ d b (a+1):Int)),(8,I 0)]/\RK w' g n cap d/\Kp (λk=>k=g) w4 w') ?fK$ λfK=>?Cg
   case fK=>
    rintro e' ws ⟨rfl,Ht,fK⟩;refine py$ qN O$ Od O O$ Qe O O$ NU$ O8 O (λh1=>?_)$ λh1=>?_
    ·have vm:Go.Sort.scanSorted PQ d b (a+1)=b:=by omega
     rw[decide_eq_true vm];refine qN O$ NZ O$ NV func274 O ?_;exact⟨_,rfl,rfl,Ht,fK⟩
    ·have vm:¬Go.Sort.scanSorted PQ d b (a+1)=b:=by omega
     rw[decide_eq_false vm];refine An$ py$ qN O$ Od O O$ Qp O O$ Py O O$ NU$ O8 O (λh2=>?_)$ λh2=>?_
     ·refine qN O$ NZ O$ NV func274 O ?_;exact⟨_,rfl,rfl,Ht,fK⟩
     ·omega
   case Cg=>
    refine Qm (α:=Nat) (a+1) (λr=>[(0,.slice (some ⟨g,0,none⟩) n cap),(1,I (a:Int)),(2,I (b:Int)),(7,I (r:Int)),(8,I 0)]) (λr w'=>RK w' g n cap d/\Kp (λk=>k=g) w4 w'/\Go.Sort.scanSorted PQ d b r=Go.Sort.scanSorted PQ d b (a+1)/\a<r/\r<=b) (λr=>b-r) ?hI ?hround
    case hI=>exact⟨h,Kp.refl _ _,rfl,Nat.lt_succ_self a,iT⟩
    case hround=>
     rintro r w5 ⟨aU,ak,cf,ck,Hu⟩ ih
     try dsimp only
     have hg:=Ext.Ob w5;rcases Nat.lt_or_ge r b with hj|hj
     ·refine py$ py$ Qj (λw'=>Ext w5 w') O$ Oj 0 O O (hg)$ Oj 1 O O (hg)$ O0 2 O (ZR O O) hg$ T4$ Oj 3 O O (hg)$ Oj 4 O O (hg)$ Oj 5 O O (hg)$ O0 6 O (P7 OA O7 O O (by omega)) hg$ Oj 8 O O (hg)$ Oj 9 O O (hg)$ O0 10 O (Ww O O (by omega)) hg ?_;rw[show(r:Int)-1=((r-1:Nat):Int) by omega];refine qT 7 O (λ_ h=>OC OJ O O ((aU.ext h).get (i:=r) (by omega))) hg$ O0 11 O (P7 OA O7 O O (by omega)) hg$ qT 12 O (λ_ h=>OC OJ O O ((aU.ext h).get (i:=r-1) (by omega))) hg$ RW 13 O Vf O (Re _ _ _) ?_;rintro _ w6 ⟨rfl,rfl⟩;refine⟨hg,?_⟩;refine O0 14 O ((z7J O)) hg$ O0 15 O (TL O O) hg$ qE$ Po O (λh3=>?_)$ λh3=>?_
      ·rw[z0Z _ _ _ hj (by simpa[PQ] using h3)] at cf;refine An$ NQ$ NW O$ NT O$ P6 O O$ NZ O$ NS ?_;exact(ih (r+1) _ ⟨aU.ext hg,ak.trans hg.kp,cf,by omega,by omega⟩ (by omega)).qb
      ·rw[Ve _ _ _ (.inr (by simpa[PQ] using h3))] at cf;refine O4 O ?_;subst cf;exact(fK _ _ ⟨rfl,aU.ext hg,ak.trans hg.kp⟩).qb
     ·refine py$ py$ Qj (λw'=>Ext w5 w') O$ Oj 0 O O (hg)$ Oj 1 O O (hg)$ O0 2 O (ZR O O) hg$ TH$ Oj 3 O O (hg)$ qJ 4 O (hg)$ qJ 5 O (hg)$ qJ 6 O (hg)$ qJ 7 O (hg)$ qJ 8 O (hg)$ qJ 9 O (hg) ?_;refine qJ 10 O (hg)$ qJ 11 O (hg)$ qJ 12 O (hg)$ qJ 13 O (hg)$ qJ 14 O (hg)$ O0 15 O (TA O O) hg$ qE$ It O$ O4 O ?_;rw[Ve _ _ _ (.inl hj)] at cf;subst cf;exact(fK _ _ ⟨rfl,aU.ext hg,ak.trans hg.kp⟩).qb
  ·exact absurd (by decide) h0
theorem WO {w:World}{g n cap sb s:Nat}{d:Array Nat}(h:RK w g n cap d)(hB:O9 w sb [I (s:Int)] 3)(hs:s<=1000)(x y:Nat)(hx:x<n)(hy:y<n)(qZ:sb≠g):
  Oy prog 284 [.slice (some ⟨g,0,none⟩) n cap,I (x:Int),I (y:Int),ptr sb 0] w λu w'=>∃x' y' s':Nat,u= .tuple #[I (x':Int),I (y':Int)]/\((x'=x/\y'=y)\/(x'=y/\y'=x))/\s'<=s+1/\O9 w' sb [I (s':Int)] 3/\RK w' g n cap d/\Kp (λk=>k=sb) w w':=by
 refine NP (e:=[(0,_),(1,_),(2,_),(3,_)]) func284 O ntmps284 O O ?_
 have hg:=Ext.Ob w
 refine qN O$ Oc O$ NZ O$ py$ py$ Qj (λw'=>Ext w w') O$ Oj 0 O O (hg)$ Oj 1 O O (hg)$ O0 2 O (P7 OA O7 O O (by omega)) hg$ Oj 4 O O (hg)$ Oj 5 O O (hg)$ O0 6 O (P7 OA O7 O O (by omega)) hg$ qT 3 O (λ_ hS=>OC OJ O O ((h.ext hS).get (i:=y) (by omega))) hg$ qT 7 O (λ_ hS=>OC OJ O O ((h.ext hS).get (i:=x) (by omega))) hg ?_
 refine RW 8 O Vf O (Re _ _ _) ?_
 rintro _ w6 ⟨rfl,rfl⟩
 refine⟨hg,?_⟩
 refine qE$ Po O (λh1=>?_)$ λh1=>?_
 ·have am:=hg.NX hB;refine qN O$ NT O$ OH O$ qV (O6 U3 O O am O)$ P6 O O$ OH O$ Oe O (PV Pb O O O am (by simp)) ?_;rintro w3 ⟨au,aw⟩;refine qM O$ Od O O$ Oc O$ NZ O$ NV func284 O ?_;exact⟨_,rfl,y,x,s+1,rfl,.inr ⟨rfl,rfl⟩,Nat.le_refl _,au,(h.ext hg).kp aw (λe=>qZ e.symm),hg.kp.trans aw⟩
 ·refine An$ qN O$ Od O O$ Oc O$ NZ O$ NV func284 O ?_;exact⟨_,rfl,x,y,s,rfl,.inl ⟨rfl,rfl⟩,Nat.le_succ _,hg.NX hB,h.ext hg,hg.kp⟩
theorem z68 {w:World}{g n cap sb s:Nat}{d:Array Nat}(h:RK w g n cap d)(hB:O9 w sb [I (s:Int)] 3)(hs:s<=500)(x y z:Nat)(hx:x<n)(hy:y<n)(hz:z<n)(qZ:sb≠g):
  Oy prog 282 [.slice (some ⟨g,0,none⟩) n cap,I (x:Int),I (y:Int),I (z:Int),ptr sb 0] w λu w'=>∃x' s':Nat,u=I (x':Int)/\(x'=x\/x'=y\/x'=z)/\s'<=s+3/\O9 w' sb [I (s':Int)] 3/\RK w' g n cap d/\Kp (λk=>k=sb) w w':=by
 refine NP (e:=[(0,_),(1,_),(2,_),(3,_),(4,_)]) func282 O ntmps282 O O$ qN O$ Oc O$ qM O$ Od O O$ Od O O$ Om zaU O (WO h hB (by omega) x y hx hy qZ) ?_
 rintro _ w1 ⟨x1,y1,s1,rfl,Jf,dm,ai,kO,aK⟩
 refine NT O$ P9 O O$ P9 O O$ Oc O$ Oc O$ qM O$ Od O O$ Od O O$ Om zaU O (WO kO ai (by omega) y1 z (by omega) hz qZ) ?_
 rintro _ w2 ⟨y2,z2,s2,rfl,Jg,dc,am,pj,aq⟩
 refine NT O$ P9 O O$ P9 O O$ Oc O$ Oc O$ qM O$ Od O O$ Od O O$ Om zaU O (WO pj am (by omega) x1 y2 (by omega) (by omega) qZ) ?_
 rintro _ w3 ⟨x3,y3,s3,rfl,Jh,oK,au,vp,aw⟩
 refine NT O$ P9 O O$ P9 O O$ Oc O$ NZ O$ OD.qb (e:=[(2,_),(10,_)]) ?_
 refine qN O$ NT O$ NZ O$ NV func282 O ?_
 exact⟨_,rfl,y3,s3,rfl,by omega,by omega,au,vp,(aK.trans aq).trans aw⟩
theorem z8z {w:World}{g n cap:Nat}{d:Array Nat}(h:RK w g n cap d)(a b:Nat)(iT:a+12<b)(hb:b<=n)(hn:n<50):
  Oy prog 272 [.slice (some ⟨g,0,none⟩) n cap,I (a:Int),I (b:Int)] w λu w'=>∃p t:Nat,u= .tuple #[I (p:Int),I (t:Int)]/\a<=p/\p<b/\t<=2/\RK w' g n cap d/\Ext w w':=by
 have Ji:g<w.heap.size:=h.sl.lt O
 refine NP (e:=[(0,_),(1,_),(2,_)]) func272 O ntmps272 O O$ qN O$ Oc O$ Oc O$ qM O$ Od O O$ Qp O O$ Oc O$ qM O ?_
 rw[show(b:Int)-(a:Int)=((b-a:Nat):Int) by omega]
 refine O5 O O (QU (cs:=[_]) Pb O) ?_
 rintro _ w1 ⟨sb,rfl,qZ,ad,ai⟩
 replace ai:O9 w1 sb [I ((0:Nat):Int)] 3:=ai
 refine qM O$ Od O O$ qV (UH O O (by omega))$ qV (Xa O O (by omega))$ P6 O O$ Oc O$ qM O$ Od O O$ qV (UH O O (by omega))$ qV (Xa O O (by omega))$ P6 O O$ Oc O$ qM O$ Od O O ?_
 refine qV (UH O O (by omega))$ qV (Xa O O (by omega))$ P6 O O$ NZ O$ OD.qb (e:=[(0,_),(6,_),(7,_),(8,_),(9,_),(10,_),(11,_),(12,_)]) ?_
 refine py$ qN O$ NT O$ SB O O$ NU ?_
 rw[show(a:Int)+((b-a:Nat):Int) / 4*1=((a+(b-a) / 4*1:Nat):Int) by omega,show(a:Int)+((b-a:Nat):Int) / 4*2=((a+(b-a) / 4*2:Nat):Int) by omega,show(a:Int)+((b-a:Nat):Int) / 4*3=((a+(b-a) / 4*3:Nat):Int) by omega]
 refine O8 O (λh0=>?_)$ λh0=>?_
 ·refine py$ qN O$ NT O$ SB O O$ NU$ O8 O (λh1=>?_)$ λh1=>?_
  ·omega
  ·refine An$ NW O$ Od O O$ Od O O$ Om zg7 O (z68 (h.ext ad) ai (by omega) (a+(b-a) / 4*1) (a+(b-a) / 4*2) (a+(b-a) / 4*3) (by omega) (by omega) (by omega) (by omega)) ?_;rintro _ w2 ⟨p,s,rfl,hp,hs,am,pj,aq⟩;have ae:Ext w w2:=ad.NR aq (λk e=>by omega);refine Oc O$ qM O$ qV (O6 U3 O O am O)$ NU$ NQ$ qN O$ Qe O O$ NZ O$ O8 O (λh2=>?_)$ λh2=>?_
   ·refine qN O$ NT O$ Oc O$ NZ O$ NV func272 O ?_;exact⟨_,rfl,p,1,rfl,by omega,by omega,by omega,pj,ae⟩
   ·refine qN O$ Qe O O$ NZ O$ O8 O (λh3=>?_)$ λh3=>?_
    ·refine qN O$ NT O$ Oc O$ NZ O$ NV func272 O ?_;exact⟨_,rfl,p,2,rfl,by omega,by omega,by omega,pj,ae⟩
    ·refine qN O$ NT O$ Oc O$ NZ O$ NV func272 O ?_;exact⟨_,rfl,p,0,rfl,by omega,by omega,by omega,pj,ae⟩
 ·omega
theorem z80 {w:World}{xb r:Nat}(hB:O9 w xb [u64v r] 392)(hr:r<18446744073709551616):
  Oy prog 280 [ptr xb 0] w λu w'=>∃r':Nat,u=u64v r'/\r'<18446744073709551616/\O9 w' xb [u64v r'] 392/\Kp (λk=>k=xb) w w':=by
 refine NP (e:=[(0,_)]) func280 O ntmps280 O O ?_
 have aT:=Ext.Ob w
 refine qN O$ NZ O$ py$ Oo [9] (λw'=>Ext w w') (by kernel_rfl) O$ OW 0 O O (aT)$ Ot 1 O (Pq O) aT$ qL 2 O (λ_ h=>O6 z4u O O (h.NX hB) O) aT$ OW 3 O O (aT)$ Ot 4 O (Pq O) aT$ qL 5 O (λ_ h=>O6 z4u O O (h.NX hB) O) aT$ Ot 6 O (PX 13 8192 O O (by decide) O) aT$ Ot 7 O (TN O O (by omega) (by omega)) aT$ Ot 8 O (Pq O) aT ?_
 generalize eS:r^^^r*8192%18446744073709551616=r1
 have cY:r1<18446744073709551616:=by rw[<-eS];exact Nat.xor_lt_two_pow (n:=64) (by omega) (by omega)
 refine S8 [9]$ qO 9$ OP (i:=9) O O (PV z4a O O O (aT.NX hB) (by simp)) ?_
 rintro w1 ⟨ai,aK⟩
 refine⟨trivial,?_⟩
 replace ai:O9 w1 xb [u64v r1] 392:=ai
 have aa:=Ext.Ob w1
 refine qE$ py$ Oo [9] (λw'=>Ext w1 w') (by kernel_rfl) O$ OW 0 O O (aa)$ Ot 1 O (Pq O) aa$ qL 2 O (λ_ h=>O6 z4u O O (h.NX ai) O) aa$ OW 3 O O (aa)$ Ot 4 O (Pq O) aa$ qL 5 O (λ_ h=>O6 z4u O O (h.NX ai) O) aa$ Ot 6 O (R9 7 128 O O (by decide) O) aa$ Ot 7 O (TN O O (by omega) (by omega)) aa$ Ot 8 O (Pq O) aa ?_
 generalize dM:r1^^^r1 / 128=r2
 have dv:r2<18446744073709551616:=by rw[<-dM];exact Nat.xor_lt_two_pow (n:=64) (by omega) (by omega)
 refine S8 [9]$ qO 9$ OP (i:=9) O O (PV z4a O O O (aa.NX ai) (by simp)) ?_
 rintro w2 ⟨am,aq⟩
 refine⟨trivial,?_⟩
 replace am:O9 w2 xb [u64v r2] 392:=am
 have ag:=Ext.Ob w2
 refine qE$ py$ Oo [9] (λw'=>Ext w2 w') (by kernel_rfl) O$ OW 0 O O (ag)$ Ot 1 O (Pq O) ag$ qL 2 O (λ_ h=>O6 z4u O O (h.NX am) O) ag$ OW 3 O O (ag)$ Ot 4 O (Pq O) ag$ qL 5 O (λ_ h=>O6 z4u O O (h.NX am) O) ag$ Ot 6 O (PX 17 131072 O O (by decide) O) ag$ Ot 7 O (TN O O (by omega) (by omega)) ag$ Ot 8 O (Pq O) ag ?_
 generalize sP:r2^^^r2*131072%18446744073709551616=r3
 have co:r3<18446744073709551616:=by rw[<-sP];exact Nat.xor_lt_two_pow (n:=64) (by omega) (by omega)
 refine S8 [9]$ qO 9$ OP (i:=9) O O (PV z4a O O O (ag.NX am) (by simp)) ?_
 rintro w3 ⟨au,aw⟩
 refine⟨trivial,?_⟩
 replace au:O9 w3 xb [u64v r3] 392:=au
 refine qE$ OD.qb (e:=[(0,_),(2,_)]) ?_
 refine qN O$ NT O$ OH O$ qV (O6 z4u O O au O)$ NZ O$ NV func280 O ?_
 exact⟨_,rfl,r3,rfl,co,au,(aT.kp.trans aK).trans ((aa.kp.trans aq).trans (ag.kp.trans aw))⟩
theorem z2r (x:Nat)(hx:x<18446744073709551616)(w:World):Oy prog 158 [u64v x] w λv w'=>v=I (P3 x:Int)/\w'=w:=by
 refine NP (e:=[(0,_)]) func158 O ntmps158 O O$ qN O$ NZ O$ py$ It O$ An$ qN O$ NT O$ Om z1V O (Tm x hx w) ?_
 rintro _ w ⟨rfl,rfl⟩
 refine NZ O$ NV func158 O ?_
 exact⟨_,rfl,rfl,rfl⟩
theorem zbD (x:Nat)(hx:x<4294967296)(w:World):Oy prog 279 [I (x:Int)] w λv w'=>v=u64v (2^P3 x)/\w'=w:=by
 have hl:P3 x<=32:=Qi (by omega)
 have hp:2^P3 x<=2^32:=Nat.pow_le_pow_right (by decide) hl
 refine NP (e:=[(0,_)]) func279 O ntmps279 O O$ qN O$ Oc O$ qM O$ NT O$ qV ((Pf O U3 zcn (by omega)))$ Om z9V O (z2r x (by omega) w) ?_
 rintro _ w ⟨rfl,rfl⟩
 refine qV (PX (P3 x) (2^P3 x) O O (by omega) O) ?_
 rw[show 1*2^P3 x%18446744073709551616=2^P3 x by rw[Nat.one_mul];exact Nat.mod_eq_of_lt (by omega)]
 refine NZ O$ NV func279 O ?_
 exact⟨_,rfl,rfl,rfl⟩
open Go.Sort in
theorem zb9 {d:Array Nat}{a b i j:Nat}(h1:a<=i)(h2:i<b)(h3:a<=j)(h4:j<b)(h5:b<=d.size):PermIn a b d (swp d i j):=swp_permIn d a b i j h1 h2 h3 h4 h5
theorem zaq {w:World}{g n cap:Nat}{d:Array Nat}(h:RK w g n cap d)(a b:Nat)(iT:a+12<b)(hb:b<=n)(hn:n<50):
  Oy prog 271 [.slice (some ⟨g,0,none⟩) n cap,I (a:Int),I (b:Int)] w λu w'=>u= .tuple #[]/\∃d',Go.Sort.PermIn a b d d'/\RK w' g n cap d'/\Kp (λk=>k=g) w w':=by
 have Ji:g<w.heap.size:=h.sl.lt O
 have Ch:2^(P3 (b-a)-1)<=b-a:=Zi (by omega)
 have pn:2^P3 (b-a)<=2*(b-a):=by
  have po:P3 (b-a)≠0:=λe=>by have:=VP (v:=b-a);rw[e] at this;omega
  rw[show P3 (b-a)=P3 (b-a)-1+1 by omega,Nat.pow_succ];omega
 have BG:1<=2^P3 (b-a):=Nat.one_le_two_pow
 refine NP (e:=[(0,_),(1,_),(2,_)]) func271 O ntmps271 O O$ qN O$ Od O O$ Qp O O ?_
 rw[show(b:Int)-(a:Int)=((b-a:Nat):Int) by omega]
 refine Oc O$ qM O$ NT O$ SB O O$ NU$ O8 O (λh0=>?_)$ λh0=>?_
 ·refine qN O$ NT O$ qV ((Pf O U3 z4u (by omega)))$ O5 O O (QU (cs:=[_]) z4a O) ?_;rintro _ w1 ⟨xb,rfl,N1,ad,ai⟩;refine Oe O (PV z4a O O O ai (by simp)) ?_;rintro w2 ⟨am,aq⟩;have ae:Ext w w2:=ad.NR aq (λk e=>by omega);replace am:O9 w2 xb [u64v (b-a)] 392:=am;refine qM O$ NT O$ Om zhN O (zbD (b-a) (by omega) _) ?_;rintro _ w2 ⟨rfl,rfl⟩
  generalize 2^P3 (b-a)=M at pn BG
  refine Oc O$ qM O$ Od O O$ qV (UH O O (by omega))$ qV (Xa O O (by omega))$ P6 O O$ Qp O O$ NZ O$ NQ ?_;rw[show(a:Int)+((b-a:Nat):Int) / 4*2-1=((a+(b-a) / 4*2-1:Nat):Int) by omega];refine Qm (α:=Nat×Array Nat×Nat) ((a+(b-a) / 4*2-1,d,b-a)) (λy=>[(0,.slice (some ⟨g,0,none⟩) n cap),(1,I (a:Int)),(6,I ((b-a:Nat):Int)),(7,ptr xb 0),(8,u64v M),(9,I (y.1:Int))]) (λy w'=>RK w' g n cap y.2.1/\O9 w' xb [u64v y.2.2] 392/\y.2.2<18446744073709551616/\Go.Sort.PermIn a b d y.2.1/\Kp (λk=>k=g) w w'/\a<=y.1) (λy=>a+b+2-y.1) ?hI ?hround
  case hI=>exact⟨h.ext ae,am,by dsimp only;omega,Go.Sort.permIn_refl _ _ _,ae.kp,by dsimp only;omega⟩
  case hround=>
   rintro⟨idx,d4,r⟩ w4 ⟨dS,aI,bH,iW,ao,oG⟩ ih;dsimp only at dS aI bH iW ao oG;have cE:=dS.size
   try dsimp only
   refine py$ qN O$ Od O O$ NT O$ qV (UH O O (by omega))$ qV (Xa O O (by omega))$ P6 O O$ P6 O O$ zle O O$ NU$ O8 O (λh1=>?_)$ λh1=>?_
   ·have pp:idx<b:=by omega
    refine An$ py$ NQ$ qN O$ Om zhL O (z80 aI bH) ?_;rintro _ w5 ⟨r5,rfl,ck,aG,ak⟩;have aU:=dS.kp ak (λe=>by omega);have cW:Kp (λk=>k=g) w w5:=ao.NR ak (λk e=> .inl (by omega));refine NT O$ qV (UB (m:=M) (n:=1) O O O (by show M<2^64;omega) (by omega)) ?_;refine qV (Sq O O (by omega) (by omega)) ?_;have Ci:r5&&&(M-1)<=M-1:=Nat.and_le_right
    generalize r5&&&(M-1)=q at Ci
    refine qV (OT O zcn U3 (by omega))$ NZ O$ py$ qN O$ Od O O$ SB O O$ NU$ OX (λe' w'=>∃o:Nat,e'=[(0,.slice (some ⟨g,0,none⟩) n cap),(1,I (a:Int)),(6,I ((b-a:Nat):Int)),(7,ptr xb 0),(8,u64v M),(9,I (idx:Int)),(10,I (o:Int))]/\w'=w5/\o<b-a) ?Cj$ λCj=>?Ck
    case Cj=>
     rintro e' w5' ⟨o,rfl,rfl,ho⟩;have aA:=Ext.Ob w5';refine Oo [17,19] (λw'=>Ext w5' w') (by kernel_rfl) O$ OW 0 O O (aA)$ OW 1 O O (aA)$ Pp (i:=2) O (by kernel_rfl) O O (λ_=>Wi O) (aA)$ Pp (i:=3) O (by kernel_rfl) O O (λ_=>Wi O) (aA)$ Pp (i:=4) O (by kernel_rfl) O O (λ_=>Wi O) (aA)$ Pp (i:=5) O (by kernel_rfl) O O (λ_=>TK O O (by omega)) (aA)$ OW 6 O O (aA)$ OW 7 O O (aA)$ OW 8 O O (aA)$ Ot 9 O (TK O O (by omega)) aA$ Ot 10 O (P7 OA O7 O O (by omega)) aA$ OW 12 O O (aA)$ OW 13 O O (aA) ?_;refine Ot 14 O (P7 OA O7 O O (by omega)) aA$ qL 11 O (λ_ h=>OC OJ O O ((aU.ext h).get (i:=a+o) (by omega))) aA$ qL 15 O (λ_ h=>OC OJ O O ((aU.ext h).get (i:=idx) (by omega))) aA$ Ot 16 O (P7 OA O7 O O (by omega)) aA$ S8 [17]$ qO 17$ OP (i:=17) O O (QH O7 O O O (aU.ext aA).sl ((aU.ext aA).Zo (by omega))) ?_;rintro w8a ⟨gj,gl⟩;refine⟨trivial,?_⟩;have cH:=(aU.ext aA).set gj;refine O0 18 O (P7 OA O7 O O (by omega)) trivial$ qO 19$ OP (i:=19) O O (QH O7 O O O cH.sl (cH.Zo (by omega))) ?_;rintro w8 ⟨jZ,kf⟩;refine⟨trivial,?_⟩;have kg:=cH.set jZ;have fw:Kp (λk=>k=g) w5' w8:=aA.kp.trans (gl.trans kf);refine qE$ NS$ NW O$ NT O$ P6 O O$ NZ O ?_;rw[show(idx:Int)+1=((idx+1:Nat):Int) by omega];exact(ih (idx+1,Go.Sort.swp d4 idx (a+o),r5) _ ⟨kg,fw.NX aG (by omega),ck,Go.Sort.permIn_trans _ _ _ a b iW (zb9 oG pp (by omega) (by omega) (by omega)),cW.trans fw,by dsimp only;omega⟩ (by dsimp only;omega)).qb
    case Ck=>
     refine O8 O (λh2=>?_)$ λh2=>?_
     ·refine NW O$ Od O O$ Qp O O$ NZ O ?_;rw[show(q:Int)-((b-a:Nat):Int)=((q-(b-a):Nat):Int) by omega];exact(Cj _ _ ⟨q-(b-a),rfl,rfl,by omega⟩).qb
     ·refine An ?_;exact(Cj _ _ ⟨q,rfl,rfl,by omega⟩).qb
   ·refine O4 O$ PE func271 O ?_;exact⟨_,rfl,rfl,d4,iW,dS,ao⟩
 ·omega
open Go.Sort in
def zd6 (g n cap m:Nat):Prop:=∀(w:World) (d:Array Nat),RK w g n cap d->∀(a b limit:Nat),b-a<m->a<=b->b<=n->limit<=64->Below PQ a b d->
 Oy prog 262 [.slice (some ⟨g,0,none⟩) n cap,I (a:Int),I (b:Int),I (limit:Int)] w λu w'=>u= .tuple #[]/\∃d',RK w' g n cap d'/\PermIn a b d d'/\SortedIn PQ a b d'/\Kp (λk=>k=g) w w'
open Go.Sort in
structure z6l (w:World)(g n cap a b:Nat)(d:Array Nat)(a1 b1 l1:Nat)(d1:Array Nat)(w':World):Prop where
 arr:RK w' g n cap d1
 kp:Kp (λk=>k=g) w w'
 ab:a1<=b1
 bn:b1<=n
 sm:b1-a1<=b-a
 lim:l1<=64
 bel:Below PQ a1 b1 d1
 fin:∀R,PermIn a1 b1 d1 R->SortedIn PQ a1 b1 R->PermIn a b d R/\SortedIn PQ a b R
open Go.Sort in
theorem z6l.perm {w:World}{g n cap a b:Nat}{d:Array Nat}{a1 b1 l1 l2:Nat}{d1 d2:Array Nat}{w1 w2:World}(h:z6l w g n cap a b d a1 b1 l1 d1 w1)(hA:RK w2 g n cap d2)(hk:Kp (λk=>k=g) w1 w2)(hp:PermIn a1 b1 d1 d2)(hl:l2<=64):z6l w g n cap a b d a1 b1 l2 d2 w2:=
 ⟨hA,h.kp.trans hk,h.ab,h.bn,h.sm,hl,h.bel.perm (by rw[h.arr.size];exact h.bn) hp,λR h1 h2=>h.fin R (permIn_trans _ _ _ _ _ hp h1) h2⟩
open Go.Sort in
theorem z9J {g n cap m : Nat}(ff : zd6 g n cap m){w : World}{d : Array Nat}(h : RK w g n cap d)(a b limit : Nat)(hm : b - a <= m)(iT : a <= b)(hb : b <= n)(hn : n < 50)(hl : limit <= 64)(hB : Below PQ a b d) :
  Oy prog 262 [.slice (some ⟨g,0,none⟩) n cap,I (a:Int),I (b:Int),I (limit:Int)] w λu w'=>u= .tuple #[]/\∃d',RK w' g n cap d'/\PermIn a b d d'/\SortedIn PQ a b d'/\Kp (λk=>k=g) w w':=by
 refine NP (e:=[(0,_),(1,_),(2,_),(3,_)]) func262 O ntmps262 O O$ qN O$ Oc O$ qM O$ NZ O$ NQ$ Qm (α:=Nat×Nat×Nat×Bool×Bool×Array Nat) ((a,b,limit,true,true,d)) (λy=>[(0,.slice (some ⟨g,0,none⟩) n cap),(1,I (y.1:Int)),(2,I (y.2.1:Int)),(3,I (y.2.2.1:Int)),(8,.bool y.2.2.2.1),(9,.bool y.2.2.2.2.1)]) (λy w'=>z6l w g n cap a b d y.1 y.2.1 y.2.2.1 y.2.2.2.2.2 w') (λy=>y.2.1-y.1) ?hI ?hround
 case hI=>exact⟨h,Kp.refl _ _,iT,hb,Nat.le_refl _,hl,hB,λR h1 h2=>⟨h1,h2⟩⟩
 case hround =>
  rintro⟨a1,b1,l1,wb,wp,d1⟩ w4 hI ih;dsimp only at hI;have pq:=hI.ab;have gm:=hI.bn;have Jj:=hI.sm;have Hv:=hI.lim;have wK:=hI.arr.size
  try dsimp only
  refine NQ$ qN O$ Od O O$ Qp O O$ NZ O$ py$ qN O ?_;rw[show(b1:Int)-(a1:Int)=((b1-a1:Nat):Int) by omega];refine NT O$ zle O O$ NU$ O8 O (λh0=>?_)$ λh0=>?_
  ·obtain⟨r1,r2⟩:=insertionSort_holds XW d1 a1 b1 pq (by omega);obtain⟨q1,q2⟩:=hI.fin _ r1 r2;refine qN O$ Od O O$ NT O$ Om zfH O (z0U hI.arr a1 b1 pq gm (by omega)) ?_;rintro _ w5 ⟨rfl,aU,ak⟩;refine NU$ NV func262 O ?_;exact⟨_,rfl,rfl,_,aU,q1,q2,hI.kp.trans ak⟩
  ·refine An$ py$ qN O$ NT O$ Qe O O$ NU$ O8 O (λh1 => ?_)$ λh1 => ?_
   ·obtain⟨r1,r2⟩:=heapSort_holds XW d1 a1 b1 pq (by omega);obtain⟨q1,q2⟩:=hI.fin _ r1 r2;refine qN O$ Od O O$ NT O$ Om zh2 O (zbd hI.arr a1 b1 (by omega) gm (by omega)) ?_;rintro _ w5 ⟨rfl,aU,ak⟩;refine NU$ NV func262 O ?_;exact⟨_,rfl,rfl,_,aU,q1,q2,hI.kp.trans ak⟩
   ·refine An$ py$ qN O$ NT O$ qV ((Rn O))$ NU$ OX (λe' w' => ∃ l5 d5, e' = [(0, .slice (some ⟨g, 0, none⟩) n cap), (1, I (a1 : Int)), (2, I (b1 : Int)), (3, I ((l5 : Nat) : Int)), (8, .bool wb), (9, .bool wp), (10, I ((b1 - a1 : Nat) : Int))] /\ z6l w g n cap a b d a1 b1 l5 d5 w') ?dV$ λdV => ?fU
    case dV =>
     rintro e' w5 ⟨l5,d5,rfl,lI⟩;have rf:=lI.lim;have Cl:=lI.arr.size;have Jk:g<w5.heap.size:=lI.arr.sl.lt O;refine qN O$ Od O O$ NT O$ Om zhV O (z8z lI.arr a1 b1 (by omega) gm hn) ?_;rintro _ w6 ⟨p6,t6,rfl,Jl,sQ,wL,ph,aH⟩;have pu:=lI.perm ph aH.kp (permIn_refl _ _ _) rf;refine NT O$ P9 O O$ P9 O O$ Oc O$ NZ O$ py$ qN O$ NT O$ Qe O O$ NU$ OX (λe' w'=>∃d7 p7 t7,e'=[(0,.slice (some ⟨g,0,none⟩) n cap),(1,I (a1:Int)),(2,I (b1:Int)),(3,I (l5:Int)),(8,.bool wb),(9,.bool wp),(10,I ((b1-a1:Nat):Int)),(11,I ((p7:Nat):Int)),(12,I ((t7:Nat):Int))]/\z6l w g n cap a b d a1 b1 l5 d7 w'/\a1<=p7/\p7<b1) ?av$ λav=>?dW
     case av =>
      rintro e' w7 ⟨d7,p7,t7,rfl,jF,AI,pw⟩;have Jm:=jF.arr.size;refine py$ py$ OX (λe' w'=>∃s,e'=[(0,.slice (some ⟨g,0,none⟩) n cap),(1,I (a1:Int)),(2,I (b1:Int)),(3,I (l5:Int)),(8,.bool wb),(9,.bool wp),(10,I ((b1-a1:Nat):Int)),(11,I (p7:Int)),(68,.bool s)]/\w'=w7) ?mV$ λmV=>?mX
      case mV=>
       rintro e' w8 ⟨s,rfl,rfl⟩;refine OX (λe' w'=>e'=[(0,.slice (some ⟨g,0,none⟩) n cap),(1,I (a1:Int)),(2,I (b1:Int)),(3,I (l5:Int)),(8,.bool wb),(9,.bool wp),(10,I ((b1-a1:Nat):Int)),(11,I (p7:Int))]/\z6l w g n cap a b d a1 b1 l5 d7 w') ?oL$ λoL=>?sU
       case oL=>
        rintro e' w9 ⟨rfl,gM⟩;have rg:=gM.arr;have hg:=Ext.Ob w9;refine py$ py$ OX (λe' w'=>∃s,e'=[(0,.slice (some ⟨g,0,none⟩) n cap),(1,I (a1:Int)),(2,I (b1:Int)),(3,I (l5:Int)),(8,.bool wb),(9,.bool wp),(10,I ((b1-a1:Nat):Int)),(11,I (p7:Int)),(87,.bool s)]/\w'=w9.drew/\(s=true->0<a1/\PQ d7[a1-1]! d7[p7]! =false)) ?sA$ λsA=>?sB
        case sA=>
         rintro e' w10 ⟨s,rfl,rfl,hs⟩;have lJ:=rg.ext hg;have ar:Kp (λk=>k=g) w w9.drew:=gM.kp.trans hg.kp;refine Po O (λh6=>?_)$ λh6=>?_
         ·obtain⟨Jn,lK⟩:=hs h6;obtain⟨mid,d11,hx⟩:∃m e,partitionEqual PQ d7 a1 b1 p7=(m,e):=⟨_,_,rfl⟩;have wM:=zcs lJ a1 b1 p7 AI pw gm (by omega);rw[hx] at wM;dsimp only at wM;obtain⟨e1,e2,e3,e4,e5⟩:=round_eq XW (partitionEqual_holds _) Jn AI pw (by omega) gM.bel lK hx;refine qN O$ Od O O$ Od O O$ Om zi5 O (wM) ?_;rintro _ w11 ⟨rfl,px,aY⟩;refine Oc O$ qM O$ NT O$ NZ O$ O4 O ?_;exact(ih (mid,b1,l5,wb,wp,d11) _ ⟨px,ar.trans aY,e2,gm,by dsimp only;omega,gM.lim,e4,λR r1 r2=>gM.fin R (e5 R r1 r2).1 (e5 R r1 r2).2⟩ (by dsimp only;omega)).qb
         ·obtain⟨mid,ap,d11,hx⟩:∃m q e,partition PQ d7 a1 b1 p7=(m,q,e):=⟨_,_,_,rfl⟩;have sR:=zbc lJ a1 b1 p7 AI pw gm (by omega);rw[hx] at sR;dsimp only at sR;obtain⟨e1,e2,e3,e4,e5,e6,e7⟩:=round_part XW (partition_holds _) AI pw (by omega) gM.bel hx;refine An$ qN O$ Od O O$ Od O O$ Om ziD O (sR) ?_;rintro _ w11 ⟨rfl,px,aY⟩;refine NT O$ P9 O O$ P9 O O$ Oc O$ Oc O$ qM O$ NT O$ Oc O$ qM O$ Od O O$ Qp O O$ Od O O$ Qp O O$ Oc O ?_;refine Oc O$ qM O ?_;rw[show(mid:Int)-(a1:Int)=((mid-a1:Nat):Int) by omega,show(b1:Int)-(mid:Int)=((b1-mid:Nat):Int) by omega];refine NT O$ qV (UH O O (by omega))$ Oc O$ qM O$ Od O O$ Py O O$ NU$ O8 O (λh7=>?_)$ λh7=>?_
          ·refine qN O$ Od O O$ SB O O$ Oc O$ qM O$ Od O O$ Od O O$ Om zav O (ff _ _ px a1 mid l5 (by omega) e1 (by omega) gM.lim e4) ?_;rintro _ w12 ⟨rfl,d12,sS,sT,jW,bc⟩;obtain⟨f1,f2⟩:=e6 _ sT jW;refine NU$ NW O$ NT O$ P6 O O$ NZ O$ NS ?_;exact(ih (mid+1,b1,l5,decide (((b1-a1:Nat):Int) / 8<=((mid-a1:Nat):Int)),ap,d12) _ ⟨sS,(ar.trans aY).trans bc,by dsimp only;omega,gm,by dsimp only;omega,gM.lim,f1,λR r1 r2=>gM.fin R (f2 R r1 r2).1 (f2 R r1 r2).2⟩ (by dsimp only;omega)).qb
          ·refine qN O$ Od O O$ SB O O$ Oc O$ qM O$ Od O O$ P6 O O$ Od O O ?_;rw[show(mid:Int)+1=((mid+1:Nat):Int) by omega];refine Om zav O (ff _ _ px (mid+1) b1 l5 (by omega) (by omega) gm gM.lim e5) ?_;rintro _ w12 ⟨rfl,d12,sS,sT,jW,bc⟩;obtain⟨f1,f2⟩:=e7 _ sT jW;refine NU$ NW O$ NT O$ NZ O$ NS ?_;exact(ih (a1,mid,l5,decide (((b1-a1:Nat):Int) / 8<=((b1-mid:Nat):Int)),ap,d12) _ ⟨sS,(ar.trans aY).trans bc,e1,by dsimp only;omega,by dsimp only;omega,gM.lim,f1,λR r1 r2=>gM.fin R (f2 R r1 r2).1 (f2 R r1 r2).2⟩ (by dsimp only;omega)).qb
        case sB=>
         rcases Nat.eq_zero_or_pos a1 with hj|hj
         ·refine Qj (λw'=>Ext w9 w') O$ Oj 0 O O (hg)$ O0 1 O (Xq O O) hg$ TH$ Oj 2 O O (hg)$ qJ 3 O (hg)$ qJ 4 O (hg)$ qJ 5 O (hg)$ qJ 6 O (hg)$ qJ 7 O (hg)$ qJ 8 O (hg)$ qJ 9 O (hg)$ qJ 10 O (hg)$ qJ 11 O (hg) ?_;refine qJ 12 O (hg)$ qJ 13 O (hg)$ O0 14 O (TA O O) hg$ qE ?_;exact(sA _ _ ⟨false,rfl,rfl,λe=>by cases e⟩).qb
         ·refine Qj (λw'=>Ext w9 w') O$ Oj 0 O O (hg)$ O0 1 O (Xq O O) hg$ T4$ Oj 2 O O (hg)$ Oj 3 O O (hg)$ Oj 4 O O (hg)$ O0 5 O (Ww O O (by omega)) hg$ Oj 8 O O (hg)$ Oj 9 O O (hg)$ O0 10 O (P7 OA O7 O O (by omega)) hg ?_;rw[show(a1:Int)-1=((a1-1:Nat):Int) by omega];refine O0 6 O (P7 OA O7 O O (by omega)) hg$ qT 7 O (λ_ h=>OC OJ O O ((rg.ext h).get (i:=a1-1) (by omega))) hg$ qT 11 O (λ_ h=>OC OJ O O ((rg.ext h).get (i:=p7) (by omega))) hg$ RW 12 O Vf O (Re _ _ _) ?_;rintro _ w10 ⟨rfl,rfl⟩;refine⟨hg,?_⟩;refine O0 13 O ((z7J O)) hg$ O0 14 O (TL O O) hg$ qE ?_;exact(sA _ _ ⟨decide (¬d7[a1-1]!<d7[p7]!),rfl,rfl,λe=>⟨hj,by simpa[PQ] using e⟩⟩).qb
       case sU=>
        refine Po O (λh4=>?_)$ λh4=>?_
        ·obtain⟨r1,r2⟩:=partialInsertionSort_holds XW d7 a1 b1 (by omega) (by omega) jF.bel;refine qN O$ Od O O$ NT O$ Om zgN O (zbz jF.arr a1 b1 (by omega) gm hn) ?_;rintro _ w9 ⟨rfl,rg,aL⟩;refine NU$ Po O (λh5=>?_)$ λh5=>?_
         ·have r3:=r2 h5;rw[z7e d7 a1 b1 (by omega)] at r3;dsimp only at r3;obtain⟨q1,q2⟩:=jF.fin _ (permIn_refl _ _ _) r3;refine NV func262 O ?_;exact⟨_,rfl,rfl,d7,rg,q1,q2,jF.kp.trans aL⟩
         ·refine An ?_;exact(oL _ _ ⟨rfl,jF.perm rg aL (permIn_refl _ _ _) jF.lim⟩).qb
        ·refine An ?_;exact(oL _ _ ⟨rfl,jF⟩).qb
      case mX =>
       cases wb with
       | false =>
         refine NW O$ Od O O$ qS$ OU O O$ NT O$ qS$ qS$ OU O O$ NU ?_
         exact(mV _ _ ⟨false,rfl,rfl⟩).qb
       | true =>
         cases wp with
         | false =>
           refine NW O$ Od O O$ NT O$ PT O O$ NT O$ qS$ qS$ OU O O$ NU ?_
           exact(mV _ _ ⟨false,rfl,rfl⟩).qb
         | true =>
           refine NW O$ Od O O$ NT O$ PT O O$ Od O O$ Qe O O$ PT O O$ NU ?_;exact(mV _ _ ⟨decide ((t7:Int)=1),rfl,rfl⟩).qb
     case dW=>
      refine O8 O (λh3=>?_)$ λh3=>?_
      ·refine qN O$ Od O O$ NT O$ Om ziI O (z3f ph a1 b1 (by omega) gm (by omega)) ?_;rintro _ w7 ⟨rfl,AJ,aD⟩;refine qM O$ NT O$ Qp O O$ Od O O$ Qp O O$ Qp O O$ NZ O$ NW O$ NZ O ?_;rw[show(b1:Int)-1-((p6:Int)-(a1:Int))=((b1-1-(p6-a1):Nat):Int) by omega];exact(av _ _ ⟨reverseRange d5 a1 b1,b1-1-(p6-a1),1,rfl,pu.perm AJ aD (reverseRange_holds _ _ _ pq (by omega)) rf,by omega,by omega⟩).qb
      ·refine An ?_;exact(av _ _ ⟨d5,p6,t6,rfl,pu,Jl,sQ⟩).qb
    case fU=>
     refine Po O (λh2=>?_)$ λh2=>?_
     ·refine qN O$ Od O O$ NT O$ Om zgS O (zaq hI.arr a1 b1 (by omega) gm hn) ?_;rintro _ w5 ⟨rfl,d5,gT,aU,ak⟩;refine NU$ NW O$ NT O$ Qp O O$ NZ O ?_;rw[show(l1:Int)-1=((l1-1:Nat):Int) by omega];exact(dV _ _ ⟨l1-1,d5,rfl,hI.perm aU ak gT (by omega)⟩).qb
     ·refine An ?_;exact(dV _ _ ⟨l1,d1,rfl,hI⟩).qb
theorem z7k (g n cap:Nat)(hn:n<50):∀m,zd6 g n cap m
 |0=>λw d h a b limit hm=>absurd hm (Nat.not_lt_zero _)
 |m+1=>λw d h a b limit hm iT hb hl hB=>z9J (z7k g n cap hn m) h a b limit (by omega) iT hb hn hl hB
open Go.Sort in
theorem z8R {w:World}{v:Value}{l:List Nat}(hS:Sl w v 106 1 l.length (l.map OB))(bP:l≠[])(hl:l.length<50):
  Oy prog 255 [v] w λu w'=>u= .tuple #[]/\Kp (λk=>v.ownBlock=some k) w w'/\∃l':List Nat,l'.Perm l/\l'.Pairwise (·<=·)/\Sl w' v 106 1 l'.length (l'.map OB):=by
 obtain⟨g,cap,rfl⟩:∃g c,v= .slice (some ⟨g,0,none⟩) l.length c:=by
  rcases hS.shape with⟨-,h0⟩|⟨g,c,e,hc⟩
  ·exact absurd (List.eq_nil_of_length_eq_zero (by omega)) bP
  ·exact⟨g,c,e⟩
 have hA:RK w g l.length cap l.toArray:=⟨by simpa using hS,by simp⟩
 have aF:P3 l.length<=6:=Qi (by omega)
 refine NP (e:=[(0,_)]) func255 O ntmps255 O O$ qN O$ NT O$ Qx OA O$ NZ O$ NW O$ Od O O$ NT O$ qV ((Pf O U3 zcn (by omega)))$ Om z9V O (z2r l.length (by omega) w) ?_
 rintro _ w ⟨rfl,rfl⟩
 refine Om zav O (z7k g l.length cap hl (l.length+1) w l.toArray hA 0 l.length (P3 l.length) (by omega) (by omega) (Nat.le_refl _) (by omega) (.inl O)) ?_
 rintro _ w1 ⟨rfl,d',kO,hP,hO,hk⟩
 refine NU$ PE func255 O ?_
 have cE:=kO.size
 have jc:d'.toList.Perm l:=by
  have:=hP.2.2;rw[Array.toList_extract,Array.toList_extract] at this;have h1:(d'.toList.take l.length).Perm (l.take l.length):=by simpa using this
  rwa [List.take_of_length_le (by rw[Array.length_toList,cE];exact Nat.le_refl _),List.take_length] at h1
 refine⟨_,rfl,rfl,hk.Of (λk e=>by rw[e];rfl),d'.toList,jc,?_,?_⟩
 ·rw[List.pairwise_iff_getElem];intro i j hi hj gP;rw[Array.length_toList] at hi hj;have:=hO i j (Nat.zero_le _) gP (by omega);rw[getElem!_pos d' i (by omega),getElem!_pos d' j (by omega)] at this;simp only[PQ,decide_eq_false_iff_not] at this;rw[Array.getElem_toList,Array.getElem_toList];omega
 ·have e:d'.toList.length=l.length:=by rw[Array.length_toList,cE]
  rw[e];exact kO.sl
structure NuI (w w1:World)(p:Rf)(b5 n11:Nat)(L:List (Cd×Nat))(w':World):Prop where
 ex:∃F,z3t w' n11 L F/\∀k,F k->w1.heap.size<=k
 ext:Ext w w'
 b5:O9 w' b5 (Z9 p) 279
 siz:w1.heap.size<=w'.heap.size
theorem NuI.put {w w1 w2 w3:World}{p:Rf}{b5 n11:Nat}{L L':List (Cd×Nat)}{F:Nat->Prop}(h:NuI w w1 p b5 n11 L w2)(hf:∀k,F k->w1.heap.size<=k)(gQ:b5<w1.heap.size)(Hw:w.heap.size<=w1.heap.size)
  (g:∃F',z3t w3 n11 L' F'/\Kp F w2 w3/\∀k,F' k->F k\/w2.heap.size<=k):NuI w w1 p b5 n11 L' w3:=by
 obtain⟨F',g1,g2,g3⟩:=g
 have hs:=h.siz
 refine⟨⟨F',g1,λk hk=>?_⟩,h.ext.NR g2 (λk hk=>by have:=hf k hk;omega),g2.NX h.b5 (λe=>by have:=hf b5 e;omega),by have:=g2.size;omega⟩
 rcases g3 k hk with e| e
 ·exact hf k e
 ·omega
structure NuX (w w1 w2:World)(p:Rf)(b5 n11:Nat)(X:Nat->Prop)(L:List (Cd×Nat))(w3:World):Prop where
 ex:∃F,z3t w3 n11 L F/\(∀k,F k->w1.heap.size<=k)/\∀k,F k->¬X k
 ext:Ext w w3
 b5:O9 w3 b5 (Z9 p) 279
 siz:w1.heap.size<=w3.heap.size
 kx:Kp (λk=>¬X k) w2 w3
theorem NuX.put {w w1 w2 w3 w4:World}{p:Rf}{b5 n11:Nat}{X:Nat->Prop}{L L':List (Cd×Nat)}{F:Nat->Prop}(h:NuX w w1 w2 p b5 n11 X L w3)(hX:∀k,X k->k<w2.heap.size)(hf:∀k,F k->w1.heap.size<=k)(hx:∀k,F k->¬X k)(gQ:b5<w1.heap.size)(Hw:w.heap.size<=w1.heap.size)
  (g:∃F',z3t w4 n11 L' F'/\Kp F w3 w4/\∀k,F' k->F k\/w3.heap.size<=k):NuX w w1 w2 p b5 n11 X L' w4:=by
 obtain⟨F',g1,g2,g3⟩:=g
 have hs:=h.siz
 have hz:=h.kx.size
 refine⟨⟨F',g1,λk hk=>?_,λk hk gN=>?_⟩,h.ext.NR g2 (λk hk=>by have:=hf k hk;omega),g2.NX h.b5 (λe=>by have:=hf b5 e;omega),by have:=g2.size;omega,h.kx.trans (g2.Of hx)⟩
 ·rcases g3 k hk with e| e
  ·exact hf k e
  ·omega
 ·rcases g3 k hk with e| e
  ·exact hx k e gN
  ·have:=hX k gN;omega
theorem Sd:∀(l:List Nat) (k:Nat),(Px k l).length=l.length
 |[],_=>rfl
 |_::l,k=>by rw[Px,List.length_cons,List.length_cons,Sd l]
theorem Xn:∀(l:List Nat) (k n:Nat),Px k (l++[n])=Px k l++[(.gamma,n-min (k+l.length) 1)]
 |[],k,n=>rfl
 | m :: l, k, n => by
   rw[List.cons_append,Px,Xn l (k+1) n,Px,List.cons_append,List.length_cons,show k+1+l.length=k+(l.length+1) by omega]
theorem z0b:∀{l:List Nat},(∀n∈l,1<=n)->l.length<=l.sum
 |[],_=>Nat.le_refl _
 | x :: l, h => by
   have h1:=h x List.mem_cons_self;have h2:=z0b (λn hn=>h n (List.mem_cons_of_mem x hn));rw[List.length_cons,List.sum_cons];omega
theorem SD.z0S {rs:List Nat}{fs:List Bool}(h:SD rs fs):rs.length<=fs.length+1:=by
 have e:=RZ true rs
 rw[h.exp] at e
 cases rs with
 |nil=>simp
 | cons a tl =>
   have h1:=z0b (l:=tl) (λn hn=>h.pos n hn);rw[List.sum_cons] at e;rw[List.length_cons];omega
theorem X9:∀l:List Nat,(P8 0 l).1=[]
 |[]=>by rw[P8]
 | x :: l => by
   rw[P8,if_neg (by omega)];exact X9 (l.drop (P5 x l))
 termination_by l=>l.length
 decreasing_by simp[List.length_drop];omega
def XK (l:List (Nat×Nat)):Option Nat:=l.getLast?.map λp=>p.1+p.2-1
theorem XO (x least:Nat):∀(l:List (Nat×Nat)) (e:Option Nat) (p:Nat×Nat),OV x least e (l++[p])=OV x least e l++OV x least (match l with|[]=>e|_=>XK l) [p]
 |[],e,p=>by cases e<;>rfl
 | q :: l, e, p => by
   rw[List.cons_append,QS,QS,XO x least l _ p]
   cases l with
   |nil=>rfl
   |cons q2 l=>rfl
theorem z1c (x least:Nat)(l:List (Nat×Nat))(p:Nat×Nat):OV x least none (l++[p])=OV x least none l++[(.gamma,Tw x (XK l) p.1),(.gamma,p.2-least)]:=by
 rw[XO]
 cases l with
 |nil=>rfl
 |cons q l=>rw[QS x least (match q::l with|[]=>none|_=>XK (q::l))];rfl
theorem zbG {w : World}{b off n cap i : Nat}{R : List (Nat × Nat)}{q : Nat × Nat}(h : Rd w (.slice (some ⟨b, off, none⟩) n cap) 2 n (R.flatMap z1b))(hq : R[i]? = some q) : ∀ j u, [I (q.1 : Int), I (q.2 : Int)][j]? = some u -> w.cell? ⟨b, off + i * 2 + j, none⟩ = some u := by
 intro j u hj
 have hi:=(List.getElem?_eq_some_iff.1 hq).1
 rcases h.2 with⟨c,hc,h0⟩|⟨b',off',cap',e,hc⟩
 ·have:=h.1;rw[z8w] at this;omega
 ·cases e
  have kP:(R.flatMap z1b)[i*2+j]? =some u:=by
   have kM:j<2:=(List.getElem?_eq_some_iff.1 hj).1
   have key : ∀ (R : List (Nat × Nat)) (i : Nat), R[i]? = some q -> (R.flatMap z1b)[i * 2 + j]? = some u := by
    intro R
    induction R with
    |nil=>intro i h;simp at h
    | cons a R ih =>
      intro i h;rw[List.flatMap_cons]
      cases i with
      | zero =>
        rw[List.getElem?_cons_zero] at h;cases h;rw[List.getElem?_append_left (by show _<2;omega),Nat.zero_mul,Nat.zero_add]
        exact hj
      | succ i =>
        rw[List.getElem?_append_right (by show 2<=_;omega),show(i+1)*2+j-(z1b a).length=i*2+j by show(i+1)*2+j-2=_;omega];exact ih i h
   exact key R i hq
  have:=hc (i*2+j) u kP;rw[show off+i*2+j=off+(i*2+j) by omega];exact this
theorem NuX.ex2 {w w1 w2 w3 w4:World}{p:Rf}{b5 n11:Nat}{X:Nat->Prop}{L:List (Cd×Nat)}(h:NuX w w1 w2 p b5 n11 X L w3)(hx:Ext w3 w4):NuX w w1 w2 p b5 n11 X L w4:=by
 obtain⟨⟨F,h1,h2,h3⟩,h4,h5,h6,h7⟩:=h
 exact⟨⟨F,h1.ext hx,h2,h3⟩,h4.trans hx,hx.NX h5,by have:=hx.size;omega,h7.trans hx.kp⟩
theorem NuX.back {w w1 w2 w3 w4:World}{p:Rf}{b5 n11:Nat}{X X':Nat->Prop}{L L':List (Cd×Nat)}(h:NuX w w1 w2 p b5 n11 X L w3)(h':NuX w w1 w3 p b5 n11 X' L' w4)(hX:∀k,X k->X' k):NuX w w1 w2 p b5 n11 X L' w4:=by
 obtain⟨⟨F,h1,h2,h3⟩,h4,h5,h6,h7⟩:=h'
 exact⟨⟨F,h1,h2,λk hk hx=>h3 k hk (hX k hx)⟩,h4,h5,h6,h.kx.trans (h7.Of λk hk hx=>hk (hX k hx))⟩
theorem NuX.again {w w1 w2 w3:World}{p:Rf}{b5 n11:Nat}{X X':Nat->Prop}{L:List (Cd×Nat)}{F:Nat->Prop}(h:NuX w w1 w2 p b5 n11 X L w3)(hA:z3t w3 n11 L F)(hf:∀k,F k->w1.heap.size<=k)(hx:∀k,F k->¬X' k):NuX w w1 w3 p b5 n11 X' L w3:=
 ⟨⟨F,hA,hf,hx⟩,h.ext,h.b5,h.siz,Kp.refl _ _⟩
theorem Ry (x least:Nat):∀(l:List (Nat×Nat)) (e:Option Nat),(OV x least e l).length=2*l.length
 |[],e=>by cases e<;>rfl
 |q::l,e=>by rw[QS,List.length_cons,List.length_cons,Ry x least l,List.length_cons];omega
theorem YH {least:Nat}:∀(R:List (Nat×Nat)) (lo i:Nat) (q:Nat×Nat),S4 least lo R->R[i]? =some q->1<=q.2/\least<=q.2/\(∀z,XK (R.take i)=some z->z+2<=q.1)/\(XK (R.take i)=none->lo<=q.1)
 |[],lo,i,q,h,hq=>by simp at hq
 | p :: R, lo, 0, q, h, hq => by
   rw[List.getElem?_cons_zero] at hq;cases hq
   exact⟨h.2.1,h.2.2.1,(λz hz=>by cases hz),λ_=>h.1⟩
 | p :: R, lo, i + 1, q, h, hq => by
   rw[List.getElem?_cons_succ] at hq;obtain⟨h1,h2,h3,h4⟩:=YH R _ i q h.2.2.2 hq;have hp:1<=p.2:=h.2.1;refine⟨h1,h2,λz hz=>?_,λhz=>?_⟩
   ·rw[List.take_succ_cons] at hz
    cases hR:R.take i with
    | nil =>
      rw[hR] at hz;have e:p.1+p.2-1=z:=PJ hz;have:=h4 (by rw[hR];rfl)
      omega
    | cons a l =>
      rw[hR] at hz;exact h3 z (by rw[hR];exact hz)
   ·rw[List.take_succ_cons] at hz;exfalso;unfold XK at hz;rw[Option.map_eq_none_iff,List.getLast?_eq_none_iff] at hz;cases hz
theorem z8v (l:List (Nat×Nat))(q:Nat×Nat):XK (l++[q])=some (q.1+q.2-1):=by simp[XK]
theorem z9Y {least:Nat}{l:List Nat}{q:Nat×Nat}(hl:∀y∈l,y<65536)(hq:q∈(P8 least l).1)(h1:1<=q.2):q.1+q.2<=65536:=by
 have h2:q.1+(q.2-1)∈Qa (P8 least l).1:=by
  unfold Qa;exact List.mem_flatMap.2 ⟨q,hq,List.mem_map.2 ⟨q.2-1,List.mem_range.2 (by omega),rfl⟩⟩
 have:=hl _ ((SR least l).subset (List.mem_append_left _ h2))
 omega
def z9A (x:Nat):Option Nat->Nat->Nat
 |none,v=>zig ((v:Int)-x)
 |some u,v=>v-u-1
theorem RU (x k:Nat)(e:Option Nat)(v:Nat)(r:List Nat):OZ x k e (v::r)=(.zeta k,z9A x e v)::OZ x k (some v) r:=by
 cases e<;>rfl
theorem Xt (x k:Nat):∀(l:List Nat) (e:Option Nat) (v:Nat),OZ x k e (l++[v])=OZ x k e l++OZ x k (match l with|[]=>e|_=>l.getLast?) [v]
 |[],e,v=>by cases e<;>rfl
 | u :: l, e, v => by
   rw[List.cons_append,RU,RU,Xt x k l _ v]
   cases l with
   |nil=>rfl
   |cons u2 l=>rfl
theorem Wv (x k:Nat)(l:List Nat)(v:Nat):OZ x k none (l++[v])=OZ x k none l++[(.zeta k,z9A x l.getLast? v)]:=by
 rw[Xt]
 cases l with
 |nil=>rfl
 |cons u l=>rw[RU x k (match u::l with|[]=>none|_=>(u::l).getLast?)];cases (u::l).getLast?<;>rfl
theorem SA (x k:Nat):∀(l:List Nat) (e:Option Nat),(OZ x k e l).length=l.length
 |[],e=>by cases e<;>rfl
 |v::l,e=>by rw[RU,List.length_cons,SA x k l,List.length_cons]
theorem OY {α:Type}{l:List α}{i:Nat}{q:α}(h:l[i]? =some q):l.take (i+1)=l.take i++[q]:=by
 rw[List.take_succ,h];rfl
end Go.Proofs.YtgdkbagngobdlaaGreatDoor
