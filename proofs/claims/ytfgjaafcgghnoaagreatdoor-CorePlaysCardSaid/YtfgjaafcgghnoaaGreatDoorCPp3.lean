/- Merged by program. -/
import Derived.Test.YtfgjaafcgghnoaaGreatDoorCPp2
import Derived.Sort.AssemblyPlain
set_option linter.all false
set_option maxRecDepth 1000000
set_option maxHeartbeats 16000000
namespace Go.Proofs.YtfgjaafcgghnoaaGreatDoor
open Go Go.RowKit Go.Proofs.Tryz
abbrev Oe (n:Nat):Value:= .int .u32 (n:Int)
theorem z30 (m:Nat)(h:m<18446744073709551616):m^^^18446744073709551615=18446744073709551615-m:=by
 have h1:=congrArg BitVec.toNat (BitVec.xor_allOnes (x:=BitVec.ofNat 64 m))
 rw[BitVec.toNat_xor,BitVec.toNat_not,BitVec.toNat_allOnes,BitVec.toNat_ofNat] at h1
 rw[show(2:Nat)^64=18446744073709551616 from rfl,Nat.mod_eq_of_lt h] at h1
 exact h1
section
variable {P:Program}{e:Env}{d:Option Nat}{ty t t':TypeId}{pos:String}{aft:Array Edge}{g:Option (Nat×Bool)}{x y:Operand}{w:World}{m:Nat}
theorem zeU (hx:look e x=some (I (m:Int)))(hy:look e y=some (I 0))(hm:m<2^63):Y P e ⟨d,.binOp .xor t x y t',ty,pos,aft,g⟩ (I (m:Int)) w w:=fun ρ hρ=>by
 have h1:m<2^IntKind.i64.bits:=by simp only[IntKind.bits];omega
 have h2:(BitVec.ofInt IntKind.i64.bits 0).toNat=0:=by decide
 simp only[execOp,eqGuard_xor,binOp_xor,intBits_xor,hρ _ _ hx,hρ _ _ hy,pure_bind,Sem.run_pure,bits,BitVec.toNat_xor,Pm h1,h2,Nat.xor_zero]
 rw[wrap_i64 ⟨by omega,by omega⟩]
theorem zhK (hx:look e x=some (I (m:Int)))(hy:look e y=some (I (-1)))(hm:m<2^63):Y P e ⟨d,.binOp .xor t x y t',ty,pos,aft,g⟩ (I (-(m:Int)-1)) w w:=fun ρ hρ=>by
 have h1:m<2^IntKind.i64.bits:=by simp only[IntKind.bits];omega
 have h2:(BitVec.ofInt IntKind.i64.bits (-1)).toNat=18446744073709551615:=by decide
 simp only[execOp,eqGuard_xor,binOp_xor,intBits_xor,hρ _ _ hx,hρ _ _ hy,pure_bind,Sem.run_pure,bits,BitVec.toNat_xor,Pm h1,h2]
 rw[z30 m (by omega)]
 congr 2
 have h3:((18446744073709551615-m:Nat):Int)=-(m:Int)-1+18446744073709551616:=by omega
 rw[h3]
 simp only[IntKind.wrap,IntKind.bits,IntKind.signed]
 simp
 omega
end
/-! ### Numbers with a sign -/
theorem z5Z (z:Int)(h: -4611686018427387904<=z/\z<4611686018427387904)(w:World):Oa prog 231 [I z] w λu w'=>u=NW (zig z)/\w'=w:=by
 rcases Int.lt_or_le z 0 with h0|h0
 ·obtain⟨n,rfl⟩:∃n:Nat,z=-(n:Int)-1:=⟨(-z-1).toNat,by omega⟩;refine Nu (e:=[(0,_)]) func231 O ntmps231 O O$ qN O$ NQ O$ qM O$ Nz O$ qV (ycv (b:=((18446744073709551615-n:Nat):Int)) O U2 Qe (by simp only[IntKind.wrap,IntKind.bits,IntKind.signed];simp;omega)) ?_;refine qV (PV 1 2 O O (by decide) O)$ Nz O$ qV (ysr 63 O O (by decide)) ?_;rw[show(-(n:Int)-1) / 2^63=-1 by omega];refine qV (ycv (b:=((18446744073709551615:Nat):Int)) O U2 Qe (by decide))$ qV (ZW O O (by omega) (by omega))$ NF O$ NA func231 O (⟨_,rfl,?_,rfl⟩);rw[z30 _ (by omega)];simp only[OR]
  congr 2
  unfold zig;rw[if_neg (by omega)];omega
 ·obtain⟨n,rfl⟩:∃n:Nat,z=(n:Int):=⟨z.toNat,by omega⟩;refine Nu (e:=[(0,_)]) func231 O ntmps231 O O$ qN O$ NQ O$ qM O$ Nz O$ qV ((OM O U2 Qe (by omega)))$ qV (PV 1 2 O O (by decide) O)$ Nz O$ qV (RS 63 9223372036854775808 O O (by decide) O)$ qV ((OM O U2 Qe (by omega)))$ qV (ZW O O (by omega) (by omega))$ NF O$ NA func231 O (⟨_,rfl,?_,rfl⟩);rw[show n / 9223372036854775808=0 by omega,Nat.xor_zero];simp only[OR]
  congr 2
  unfold zig;rw[if_pos (by omega)];omega
theorem z5O (n:Nat)(h:n<9223372036854775808)(w:World):Oa prog 237 [NW n] w λu w'=>u=I (zag n)/\w'=w:=by
 refine Nu (e:=[(0,_)]) func237 O ntmps237 O O$ qN O$ NQ O$ qM O$ Nz O$ qV (RS 1 2 O O (by decide) O)$ qV (Ow O Qe U2 (by omega))$ Nz O$ qV (Td O O (by omega) (by omega)) ?_
 rw[Nat.and_one_is_mod]
 refine qV (Ow O Qe U2 (by omega)) ?_
 rcases Nat.mod_two_eq_zero_or_one n with h0|h0
 ·rw[h0];refine qV (yng O (by decide) (by decide))$ qV (zeU O O (by omega))$ NF O$ NA func237 O (⟨_,rfl,?_,rfl⟩);simp only[OR];unfold zag;rw[if_pos h0]
 ·rw[h0];refine qV (yng O (by decide) (by decide))$ qV (zhK O O (by omega))$ NF O$ NA func237 O (⟨_,rfl,?_,rfl⟩);simp only[OR];unfold zag;rw[if_neg (by omega)]
/-! ### The parameters -/
def YT (p:QB):List Value:=[I (p.O6:Int),I (p.interval:Int),I (p.zeta:Int)]
abbrev lpV (p:QB):Value:= .agg (YT p).toArray
def QB.Pk (p:QB):Prop:=p.O6<=16/\(p.interval=0\/2<=p.interval/\p.interval<=64)/\1<=p.zeta/\p.zeta<=16
theorem Sv (p:QB)(hp:p.Pk)(w:World):Oa prog 146 [lpV p] w λu w'=>u=I 0/\Ext w w':=by
 obtain⟨h1,h2,h3,h4⟩:=hp
 refine Nu (e:=[(0,_)]) func146 O ntmps146 O O$ qN O$ NK O O (PW O (cs:=YT p) O) ?_
 rintro _ w1 ⟨b1,rfl,bN,ad,aj⟩
 replace aj:NM w1 b1 [I (p.O6:Int),I (p.interval:Int),I (p.zeta:Int)] 212:=aj
 refine NF O$ py$ Nw$ py$ qN O$ NO RO O$ qV (NJ U3 O O aj O)$ Pb O O$ Ox$ Nz O$ NO RO O$ qV (NJ U3 O O aj O)$ P9 O O$ Ox ?_
 refine OC O O$ NF O$ It O$ qN O$ NO Z1 O$ qV (NJ U3 O O aj O)$ Pb O O$ Ox$ Nz O$ NO Z1 O$ qV (NJ U3 O O aj O)$ P9 O O$ Ox$ OC O O ?_
 refine NF O$ It O$ NC O$ NO SQ O$ qV (NJ U3 O O aj O)$ P3 O O$ QZ (λe1=>?_)$ λe1=>?_
 ·refine Nz O$ NO SQ O$ qV (NJ U3 O O aj O)$ Pb O O$ Ox$ Nz O$ NO SQ O$ qV (NJ U3 O O aj O)$ P9 O O$ Ox$ OC O O$ Pc O O$ NF O$ Of.qb (e:=[(2,_),(3,_)]) ?_;refine It O$ An$ Ny$ qN O$ NF O$ NA func146 O ?_;exact⟨_,rfl,rfl,ad⟩
 ·refine Nz O$ qS$ qS$ qS$ qS$ qS$ qS$ qS$ qS$ OC O O$ NF O$ Of.qb (e:=[(2,_),(3,_)]) ?_;refine It O$ An$ Ny$ qN O$ NF O$ NA func146 O ?_;exact⟨_,rfl,rfl,ad⟩
theorem Uo (n:Nat)(h:n<65536)(w:World):Oa prog 196 [I (n:Int)] w λu w'=>u= .bool true/\w'=w:=by
 refine Nu (e:=[(0,_)]) func196 O ntmps196 O O$ qN O$ NQ O$ qM O$ Nz O$ RN O O$ PE$ NT O O$ Pb O O$ PE$ Pc O O$ NF O$ NA func196 O ?_
 exact⟨_,rfl,rfl,rfl⟩
structure Ov (l:List Nat):Prop where
 Yf:Ris l
 lt:∀y∈l,y<65536
theorem z1t:∀(l:List Nat) (lo hi:Nat),Ris l->(∀y∈l,lo<=y/\y<hi)->lo<=hi->lo+l.length<=hi
 |[],lo,hi,_,_,h=>h
 | x :: l, lo, hi, hr, hm, h => by
   have h1:=(List.pairwise_cons.1 hr);have h2:=hm x List.mem_cons_self;have:=z1t l (x+1) hi h1.2 (λy hy=>⟨h1.1 y hy,(hm y (List.mem_cons_of_mem _ hy)).2⟩) (by omega);rw[List.length_cons];omega
theorem Ov.len {l:List Nat}(h:Ov l):l.length<=65536:=by
 have:=z1t l 0 65536 h.Yf (λy hy=>⟨Nat.zero_le _,h.lt y hy⟩) (by decide)
 omega
theorem Ov.sub {l m:List Nat}(h:Ov l)(hs:m.Sublist l):Ov m:=⟨h.Yf.sublist hs,λy hy=>h.lt y (hs.subset hy)⟩
theorem Vg (v:Value)(l:List Nat)(hl:Ov l)(w:World)(hr:Rd w v 1 l.length (l.map Oe)):
  Oa prog 197 [v] w λu w'=>u= .bool true/\w'=w:=by
 have aA:=hl.len
 obtain⟨a,cap,rfl,ha⟩:=hr.shape
 refine Nu (e:=[(0,_)]) func197 O ntmps197 O O$ qN O$ NF O$ py$ qN O$ Nz O$ Q0 Ob O$ Nz O$ NB$ Nw$ Qb (α:=Nat) (0) (λi=>[(0,.slice a l.length cap),(5,.slice a l.length cap),(6,I (l.length:Int)),(7,I (i:Int))]) (λi w'=>w'=w/\i<=l.length) (λi=>l.length-i) ?hI ?hround
 case hI=>exact⟨rfl,by omega⟩
 case hround=>
  rintro i _ ⟨rfl,hi⟩ ih
  try dsimp only
  refine qN O$ Pb O O$ NB$ py$ NN O (λaU=>?_)$ λaU=>?_
  ·have g8:i<l.length:=by omega
   have hy:=hl.lt l[i] (List.getElem_mem g8);rcases hr.2 with⟨c,-,h⟩|⟨b,off,cap',lN,aX⟩
   ·omega
   cases lN;refine An$ py$ Nw$ qN O$ Nz O$ qV (OH Ob NV O O (by omega))$ qV (Oi OX O O (aX (i*1) (Oe l[i]) (by simp[g8]))) ?_;refine NQ O$ NQ O$ qM O$ Nz O$ RN O O$ Ox$ NT O O$ P9 O O$ QZ (λe1=>?_)$ λe1=>?_
   ·have hp:l[i-1]<l[i]:=(List.pairwise_iff_getElem.1 hl.Yf) (i-1) i (by omega) g8 (by omega);refine NT O O$ NT O O$ Qc O O ?_;rw[show(i:Int)-1=((i-1:Nat):Int) by omega];refine qV (OH Ob NV O O (by omega))$ qV (Oi OX O O (aX ((i-1)*1) (Oe l[i-1]) (by simp[show i-1<l.length by omega]))) ?_;refine zle O O$ Ox$ Pc O O$ OC O O$ NB$ It O$ An$ Ny$ NC O$ OI O O$ Nz O$ NB ?_;exact(ih (i+1) _ ⟨rfl,by omega⟩ (by omega)).qb
   ·refine Nz O$ qS$ qS$ qS$ qS$ qS$ qS$ qS$ OC O O$ OC O O$ NB$ It O$ An$ Ny ?_;refine NC O$ OI O O$ Nz O$ NB ?_;exact(ih (i+1) _ ⟨rfl,by omega⟩ (by omega)).qb
  ·refine NL O$ qN O$ NF O$ NA func197 O ?_;exact⟨_,rfl,rfl,rfl⟩
theorem z9x (p:QB)(hp:p.Pk)(x:Nat)(hx:x<65536)(v u:Value)(l m:List Nat)(r:Nat)(hl:Ov l)(hm:Ov m)(hr:r<=p.O6)(lO:r=0->m=[])(w:World)
  (ic:Rd w v 1 l.length (l.map Oe)) (Ax:Rd w u 1 m.length (m.map Oe)):
  Oa prog 200 [lpV p,I (x:Int),v,u,I (r:Int)] w λo w'=>o= .bool true/\Ext w w':=by
 obtain⟨h1,h2,h3,h4⟩:=id hp
 refine Nu (e:=[(0,_),(1,_),(2,_),(3,_),(4,_)]) func200 O ntmps200 O O$ qN O$ NK O O (PW O (cs:=YT p) O) ?_
 rintro _ w1 ⟨b1,rfl,bN,ad,aj⟩
 refine NQ O$ qM O$ qV (Oh (news:=YT p) Y4 O SK O (aj.cells (n:=3) O) O)$ NZ z2y O (Sv p hp w1) ?_
 rintro _ w2 ⟨rfl,ag⟩
 have am:=ag.ND aj
 replace am:NM w2 b1 [I (p.O6:Int),I (p.interval:Int),I (p.zeta:Int)] 212:=am
 refine Px O O$ PE$ NT O O$ NZ z6e O (Uo x hx w2) ?_
 rintro _ w3 ⟨rfl,rfl⟩
 refine Pc O O$ NT O O$ NZ z2L O (Vg v l hl w3 (ic.ext (ad.trans ag))) ?_
 rintro _ w4 ⟨rfl,rfl⟩
 refine Pc O O$ NT O O$ NZ z2L O (Vg u m hm w4 (Ax.ext (ad.trans ag))) ?_
 rintro _ w5 ⟨rfl,rfl⟩
 refine Pc O O$ Nz O ?_
 obtain⟨ua,uc,rfl,-⟩:=Ax.shape
 refine Nz O$ RN O O$ PE$ Pc O O$ NT O O$ NO RO O$ qV (NJ U3 O O am O)$ zle O O$ PE$ Pc O O$ NT O O$ P9 O O$ QZ (λe1=>?_)$ λe1=>?_
 ·refine Nz O$ qS$ qS$ qS$ Pc O O$ Pc O O$ NF O$ Of.qb (e:=[(10,_)]) ?_;refine NA func200 O ?_;exact⟨_,rfl,rfl,ad.trans ag⟩
 ·have e2:=lO (by omega);subst e2;refine NT O O$ Q0 Ob O$ Px O O$ PE$ OC O O$ Pc O O$ NF O$ Of.qb (e:=[(10,_)]) ?_;refine NA func200 O ?_;exact⟨_,rfl,rfl,ad.trans ag⟩
theorem WN (l:List Nat):∀c∈l.map Oe,c.oneCell'=true:=by
 intro c hc
 obtain⟨x,-,rfl⟩:=List.mem_map.1 hc
 rfl
def z0u (p:Nat×Nat):List Value:=[I (p.1:Int),I (p.2:Int)]
theorem z7T (l:List (Nat×Nat)):(l.flatMap z0u).length=l.length*2:=by
 induction l with
 |nil=>rfl
 |cons p l ih=>rw[List.flatMap_cons,List.length_append,ih,List.length_cons,show(z0u p).length=2 from rfl];omega
theorem Sl.oneV {w:World}{v:Value}{e size n:Nat}{cs:List Value}(h:Sl w v e size n cs):oneV v=true:=by
 rcases h.shape with⟨rfl,-⟩|⟨g,cap,rfl,-⟩<;>rfl
structure zb7 (w:World)(l:List Nat)(least:Nat)(r:List Nat)(a:Option Addr)(cap:Nat)(v4 v5:Value)(R:List (Nat×Nat))(O_:List Nat)(w':World):Prop where
 ext:Ext w w'
 cl:r.length<=cap
 rd:Rd w (.slice a r.length cap) 1 r.length (r.map Oe)
 s4:Sl w' v4 350 2 R.length (R.flatMap z0u)
 s5:Sl w' v5 46 1 O_.length (O_.map Oe)
 f4:∀g,v4.ownBlock=some g->w.heap.size<=g
 f5:∀g,v5.ownBlock=some g->w.heap.size<=g
 ne:∀g,v4.ownBlock=some g->v5.ownBlock≠some g
 ok:Ov r
 eq:OK least l=(R++(OK least r).1,O_++(OK least r).2)
 len:R.length+O_.length+r.length<=65536
theorem R4 {w:World}{a:Option Addr}{n cap i:Nat}{cs:List Value}(h:Rd w (.slice a n cap) 1 n cs)(hi:i<=n)(hc:n<=cap):Rd w (.slice (if cap=i then a else a.map (·.add (i*1))) (n-i) (cap-i)) 1 (n-i) (cs.drop i):=by
 have hl:=h.1
 refine⟨by rw[List.length_drop,hl];omega,?_⟩
 rcases h.2 with⟨c,hv,h0⟩|⟨b,off,cap',hv,aX⟩
 ·refine .inl ⟨((if cap=i then a else a.map (·.add (i*1))),cap-i),?_,by omega⟩;rw[show n-i=0 by omega]
 ·cases hv;by_cases e:cap=i
  ·rw[if_pos e];refine .inl ⟨(some ⟨b,off,none⟩,cap-i),?_,by omega⟩;rw[show n-i=0 by omega]
  ·rw[if_neg e];refine .inr ⟨b,off+i*1,cap-i,?_,λj u hu=>?_⟩
   ·simp only[Option.map_some,PS]
   ·rw[List.getElem?_drop] at hu;have:=aX (i+j) u hu;rw[show off+i*1+j=off+(i+j) by omega];exact this
theorem S1 {w:World}{a:Option Addr}{n cap i:Nat}{cs:List Value}(h:Rd w (.slice a n cap) 1 n cs)(hi:i<=n):Rd w (.slice a i cap) 1 i (cs.take i):=by
 have hl:=h.1
 refine⟨by rw[List.length_take,hl];omega,?_⟩
 rcases h.2 with⟨c,hv,h0⟩|⟨b,off,cap',hv,aX⟩
 ·refine .inl ⟨(a,cap),?_,by omega⟩;rw[show i=0 by omega]
 ·cases hv;refine .inr ⟨b,off,cap,rfl,λj u hu=>?_⟩;rw[List.getElem?_take] at hu;split at hu
  ·exact aX j u hu
  ·cases hu
theorem zb7.grow {w w1 w2:World}{l r:List Nat}{least cap:Nat}{a:Option Addr}{v4 v5:Value}{R:List (Nat×Nat)}{O_:List Nat}(h:zb7 w l least r a cap v4 v5 R O_ w1)(hx:Ext w1 w2):zb7 w l least r a cap v4 v5 R O_ w2:=
 ⟨h.ext.trans hx,h.cl,h.rd,h.s4.ext hx,h.s5.ext hx,h.f4,h.f5,h.ne,h.ok,h.eq,h.len⟩
theorem z8M (a : Option Addr)(cap : Nat)(l : List Nat)(least : Nat)(g9 : Ov l)(ja : l.length <= cap)(gO : least <= 64)(w : World)(hr : Rd w (.slice a l.length cap) 1 l.length (l.map Oe)) :
  Oa prog 230 [.slice a l.length cap,I (least:Int)] w λu w'=>∃v4 v5,u= .tuple #[v4,v5]/\Sl w' v4 350 2 (OK least l).1.length ((OK least l).1.flatMap z0u)/\
   Sl w' v5 46 1 (OK least l).2.length ((OK least l).2.map Oe)/\Ext w w'/\(∀g,v4.ownBlock=some g->w.heap.size<=g)/\(∀g,v5.ownBlock=some g->w.heap.size<=g)/\∀g,v4.ownBlock=some g->v5.ownBlock≠some g:=by
 refine Nu (e:=[(0,_),(1,_)]) func230 O ntmps230 O O$ qN O$ NQ O$ NF O$ py$ Nw$ Qb (α:=List Nat×Option Addr×Nat×Value×Value×List (Nat×Nat)×List Nat) ((l,a,cap,.slice none 0 0,.slice none 0 0,[],[])) (λx=>[(0,.slice x.2.1 x.1.length x.2.2.1),(1,I (least:Int)),(4,x.2.2.2.1),(5,x.2.2.2.2.1)]) (λx w'=>zb7 w l least x.1 x.2.1 x.2.2.1 x.2.2.2.1 x.2.2.2.2.1 x.2.2.2.2.2.1 x.2.2.2.2.2.2 w') (λx=>x.1.length) ?hI ?hround
 case hI=>exact⟨Ext.refl _,ja,hr,Sl.nil _ _ _,Sl.nil _ _ _,(λg h=>by cases h),(λg h=>by cases h),(λg h=>by cases h),g9,rfl,by have:=g9.len;simp;omega⟩
 case hround =>
  rintro⟨r,a1,c1,v4,v5,R,O_⟩ w6 hI ih;dsimp only at hI
  try dsimp only
  refine py$ qN O$ Nz O$ Q0 Ob O$ P9 O O$ NB$ NN O (λh0=>?_)$ λh0=>?_
  ·obtain⟨y,r',rfl⟩:∃y r',r=y::r':=by
    cases r with
    |nil=>exact absurd h0 (by simp)
    |cons y r'=>exact⟨y,r',rfl⟩
   have ic:=Vk y r';have Ix:=hI.ok.lt y List.mem_cons_self;have je:=hI.ok.len;rw[List.length_cons] at je
   obtain⟨b,off,lN,aX⟩:∃b off,a1=some ⟨b,off,none⟩/\∀j u,((y::r').map Oe)[j]? =some u->w6.cell? ⟨b,off+j,none⟩=some u:=by
    rcases (hI.rd.ext hI.ext).2 with⟨c,-,h⟩|⟨b,off,cap',lN,aX⟩
    ·exact absurd h (by simp)
    ·cases lN;exact⟨b,off,rfl,aX⟩
   subst lN
   have jZ:∀w',Ext w w'->∀j u,((y::r').map Oe)[j]? =some u->w'.cell? ⟨b,off+j,none⟩=some u:=λw' hx=>by
    rcases (hI.rd.ext hx).2 with⟨c,-,h⟩|⟨b',off',cap',lN,hc⟩
    ·exact absurd h (by simp)
    ·cases lN;exact hc
   clear aX;refine An$ Nw$ qN O$ NF O$ py$ Nw$ QW (λe' w'=>Ext w6 w'/\e'=[(0,.slice (some ⟨b,off,none⟩) (y::r').length c1),(1,I (least:Int)),(4,v4),(5,v5),(6,I ((OG y r'+1:Nat):Int))]) ?pM$ λpM=>?BH
   case pM=>
    rintro e' w6z ⟨aK,rfl⟩;replace hI:=hI.grow aK;have aX:=jZ _ hI.ext
    generalize hn:OG y r'+1=n
    have vB:=hI.cl;rw[List.length_cons] at vB;have dR:=hI.eq;have aA:=hI.len;rw[List.length_cons] at aA;have cY:1<=n/\n<=r'.length+1:=by omega
    have vC:r'.drop (OG y r')=(y::r').drop n:=by rw[<-hn];rfl
    have jU:y::r'.take (OG y r')=(y::r').take n:=by rw[<-hn];rfl
    rw[OK] at dR;simp only[hn,vC,jU] at dR;have ay:Ov ((y::r').drop n):=hI.ok.sub (List.drop_sublist _ _);have eh:=R4 hI.rd (i:=n) (by rw[List.length_cons];omega) hI.cl;rw[<-List.map_drop,show(y::r').length-n=((y::r').drop n).length by rw[List.length_drop]] at eh;have kN:((y::r').drop n).length=r'.length+1-n:=by rw[List.length_drop,List.length_cons]
    by_cases hL:0<least/\least<=n
    ·obtain⟨vD,GN⟩:=hL;rw[if_pos ⟨vD,GN⟩] at dR;refine py$ qN O$ Nz O$ P9 O O$ PE$ NT O O$ Nz O$ RN O O$ PE$ Pc O O$ NB$ NI O$ NC O$ NT O O ?_;refine qV (OH Ob NV O O (by omega))$ qV (Oi OX O O (aX (0*1) (Oe y) O))$ qV (Ow O OX U3 (by omega))$ Nz O$ qV (QP (cs:=[_,_]) Zz O zgE O O)$ NK O O (Ur (cs:=[_,_]) (zs:=[Value.int .i64 0,Value.int .i64 0]) zaK Zz O (by kernel_rfl) O O O (by decide)) ?_;rintro _ w7 ⟨b7,rfl,⟨kO,bV,bj⟩,iu⟩;refine NK O O (pap zaK Zz O (by decide) O O (hI.s4.ext bV) iu.rd (by intro c hc;simp at hc;rcases hc with rfl|rfl<;>rfl) (by omega) (by simp only[maxLen];omega)) ?_;rintro v4' w8 ⟨fg,aV,kR,-⟩;have mP:=fg.oneV;have hz:=hI.ext.size;have AA:=bV.size;have dC:Ext w w8:=(hI.ext.trans bV).Nv aV (λi hi=>hI.f4 i hi);have mQ:Sl w8 v5 46 1 O_.length (O_.map Oe):=(hI.s5.ext bV).kp aV (λg hg e=>hI.ne g e hg);refine NF O$ NC O$ NT O O$ qV (WA Ob NV O O (by rw[List.length_cons];omega) hI.cl) ?_;refine NF O$ Ny ?_;rw[show(y::r').length-n=((y::r').drop n).length by rw[List.length_drop]];refine(ih ((y::r').drop n,_,c1-n,v4',v5,R++[(y,n)],O_) _ ⟨dC,by dsimp only;rw[kN];omega,eh,?_,mQ,?_,hI.f5,?_,ay,?_,?_⟩ ?_).qb
     ·dsimp only;rw[List.length_append,List.flatMap_append];exact fg
     ·intro g hg;rcases kR g hg with h| h
      ·exact hI.f4 g h
      ·omega
     ·intro g hg e;rcases kR g hg with h| h
      ·exact hI.ne g h e
      ·have:=hI.s5.lt e;omega
     ·dsimp only;rw[dR,List.append_assoc];rfl
     ·dsimp only;rw[List.length_append,List.length_singleton,kN];omega
     ·dsimp only;rw[kN,List.length_cons];omega
    ·rw[if_neg hL] at dR;rcases Nat.eq_zero_or_pos least with e0|e0
     ·refine py$ qN O$ Nz O$ P9 O O$ Ox$ Nz O$ qS$ qS$ qS$ OC O O$ NB$ It O$ NC O$ NT O O ?_;refine Nz O$ qV (z9Q Ob NV O O (by omega))$ NK O O (pap Ob NV O (by decide) O O hI.s5 (S1 (hI.rd.ext hI.ext) (i:=n) (by rw[List.length_cons];omega)) (by rw[<-List.map_take];exact WN _) (by omega) (by simp only[maxLen];omega)) ?_;rintro v5' w8 ⟨fg,aV,kR,-⟩;have mP:=fg.oneV;have hz:=hI.ext.size;have dC:Ext w w8:=hI.ext.Nv aV (λi hi=>hI.f5 i hi);have vE:Sl w8 v4 350 2 R.length (R.flatMap z0u):=hI.s4.kp aV (λg hg e=>hI.ne g hg e);refine NF O$ NC O$ NT O O$ qV (WA Ob NV O O (by rw[List.length_cons];omega) hI.cl) ?_;refine NF O$ Ny ?_;rw[show(y::r').length-n=((y::r').drop n).length by rw[List.length_drop]];have kS:((y::r').take n).length=n:=by rw[List.length_take,List.length_cons];omega
      refine(ih ((y::r').drop n,_,c1-n,v4,v5',R,O_++(y::r').take n) _ ⟨dC,by dsimp only;rw[kN];omega,eh,vE,?_,hI.f4,?_,?_,ay,?_,?_⟩ ?_).qb
      ·dsimp only;rw[List.length_append,List.map_append,kS,List.map_take];exact fg
      ·intro g hg;rcases kR g hg with h| h
       ·exact hI.f5 g h
       ·omega
      ·intro g hg e;rcases kR g e with h| h
       ·exact hI.ne g hg h
       ·have:=hI.s4.lt hg;omega
      ·dsimp only;rw[dR,List.append_assoc]
      ·dsimp only;rw[List.length_append,kS,kN];omega
      ·dsimp only;rw[kN,List.length_cons];omega
     ·have GN:¬least<=n:=λh=>hL ⟨e0,h⟩;refine py$ qN O$ Nz O$ P9 O O$ PE$ NT O O$ Nz O$ RN O O$ Ox$ Pc O O$ NB$ It O$ NC O$ NT O O ?_;refine Nz O$ qV (z9Q Ob NV O O (by omega))$ NK O O (pap Ob NV O (by decide) O O hI.s5 (S1 (hI.rd.ext hI.ext) (i:=n) (by rw[List.length_cons];omega)) (by rw[<-List.map_take];exact WN _) (by omega) (by simp only[maxLen];omega)) ?_;rintro v5' w8 ⟨fg,aV,kR,-⟩;have mP:=fg.oneV;have hz:=hI.ext.size;have dC:Ext w w8:=hI.ext.Nv aV (λi hi=>hI.f5 i hi);have vE:Sl w8 v4 350 2 R.length (R.flatMap z0u):=hI.s4.kp aV (λg hg e=>hI.ne g hg e);refine NF O$ NC O$ NT O O$ qV (WA Ob NV O O (by rw[List.length_cons];omega) hI.cl) ?_;refine NF O$ Ny ?_;rw[show(y::r').length-n=((y::r').drop n).length by rw[List.length_drop]];have kS:((y::r').take n).length=n:=by rw[List.length_take,List.length_cons];omega
      refine(ih ((y::r').drop n,_,c1-n,v4,v5',R,O_++(y::r').take n) _ ⟨dC,by dsimp only;rw[kN];omega,eh,vE,?_,hI.f4,?_,?_,ay,?_,?_⟩ ?_).qb
      ·dsimp only;rw[List.length_append,List.map_append,kS,List.map_take];exact fg
      ·intro g hg;rcases kR g hg with h| h
       ·exact hI.f5 g h
       ·omega
      ·intro g hg e;rcases kR g e with h| h
       ·exact hI.ne g hg h
       ·have:=hI.s4.lt hg;omega
      ·dsimp only;rw[dR,List.append_assoc]
      ·dsimp only;rw[List.length_append,kS,kN];omega
      ·dsimp only;rw[kN,List.length_cons];omega
   case BH =>
    refine Qb (α:=Nat) (1) (λi=>[(0,.slice (some ⟨b,off,none⟩) (y::r').length c1),(1,I (least:Int)),(4,v4),(5,v5),(6,I (i:Int))]) (λi w'=>Ext w6 w'/\1<=i/\i<=OG y r'+1) (λi=>OG y r'+2-i) ?hI ?hround
    case hI=>exact⟨Ext.refl _,by omega,by omega⟩
    case hround=>
     rintro i w7 ⟨bV,AB,dG⟩ ih2
     try dsimp only
     refine py$ py ?_;have hg:=(Ext.refl w7).drew;refine PK (λw'=>Ext w7 w') O$ NX 0 O O (hg)$ NX 1 O O (hg)$ NG 2 O (R7 Ob O) hg$ NG 3 O (ZQ O O) hg$ zhq (λe1=>?_)$ λe1=>?_
     ·have Mx:i<r'.length+1:=by rw[List.length_cons] at e1;omega
      have cu:r'[i-1]? =some (r'[i-1]'(by omega)):=List.getElem?_eq_getElem (by omega);have AC:r'[i-1]'(by omega)<65536:=hI.ok.lt _ (List.mem_cons_of_mem _ (List.getElem_mem _));refine NX 4 O O (hg)$ NX 5 O O (hg)$ NX 6 O O (hg)$ NG 7 O (OH Ob NV O O (by omega)) hg$ NX 9 O O (hg)$ NG 10 O (OH Ob NV O O (by omega)) hg$ NX 12 O O (hg)$ NG 13 O (SJ O U3 OX) hg$ qT 8 O (λ_ hS=>Oi OX O O (by exact jZ _ ((hI.ext.trans bV).trans hS) (i*1) (Oe (r'[i-1]'(by omega))) (by rw[List.getElem?_map,show i*1=(i-1)+1 by omega,List.getElem?_cons_succ,cu];rfl))) hg ?_;refine qT 11 O (λ_ hS=>Oi OX O O (by exact jZ _ ((hI.ext.trans bV).trans hS) (0*1) (Oe y) O)) hg ?_;refine NG 14 O (zcN O O) hg$ NG 15 O (yeq O O) hg$ NG 16 O (Tu O O) hg$ qE$ NN O (λe2=>?_)$ λe2=>?_
      ·refine An$ Nw$ NC O$ Nz O$ OI O O$ NF O$ Ny ?_
       have bD:i≠OG y r'+1:=λe=>by
        subst e;have:=UP y r' (r'[OG y r'+1-1]'(by omega)) (by rw[<-cu];simp);omega
       exact(ih2 (i+1) _ ⟨bV.trans hg,by omega,by omega⟩ (by omega)).qb
      ·have BI:i=OG y r'+1:=by
        rcases Nat.lt_or_ge (i-1) (OG y r') with h| h
        ·have h1:=Ue y r' (i-1) h;rw[cu] at h1;have h2:=Pz h1;exact absurd (by omega) e2
        ·omega
       refine NL O ?_;subst BI;exact(pM _ _ ⟨bV.trans hg,rfl⟩).qb
     ·have BI:i=OG y r'+1:=by rw[List.length_cons] at e1;omega
      refine NX 4 O O (hg)$ qJ 5 O (hg)$ qJ 6 O (hg)$ qJ 7 O (hg)$ qJ 8 O (hg)$ qJ 9 O (hg)$ qJ 10 O (hg)$ qJ 11 O (hg)$ qJ 12 O (hg)$ qJ 13 O (hg)$ qJ 14 O (hg)$ qJ 15 O (hg)$ NG 16 O (S6 O O) hg$ qE ?_;refine It O$ NL O ?_;subst BI;exact(pM _ _ ⟨bV.trans hg,rfl⟩).qb
  ·have fm:r=[]:=List.eq_nil_of_length_eq_zero (by omega);subst fm;refine NL O$ qN O$ NT O O$ NQ O$ NF O$ NA func230 O ?_;have dR:=hI.eq;simp only[OK,List.append_nil] at dR;rw[dR];exact⟨_,rfl,v4,v5,rfl,hI.s4,hI.s5,hI.ext,hI.f4,hI.f5,hI.ne⟩
structure VsM (w:World)(p:Nat)(v:Value)(T el:TypeId)(size n:Nat)(cs:List Value):Prop where
 ND:NM w p [v] T
 sl:Sl w v el size n cs
 ne:v.ownBlock≠some p
def VsA (w:World)(p:Nat)(T el:TypeId)(size n:Nat)(cs:List Value)(F:Nat->Prop):Prop:=∃v,VsM w p v T el size n cs/\∀k,F k↔fpW p v k
section
variable {w w':World}{p:Nat}{T el:TypeId}{size n:Nat}{cs:List Value}{F S:Nat->Prop}
theorem VsA.lt (h:VsA w p T el size n cs F){k:Nat}(hk:F k):k<w.heap.size:=by
 obtain⟨bv,hM,hF⟩:=h
 rcases (hF k).1 hk with e| e
 ·rw[e];exact hM.ND.lt
 ·exact hM.sl.lt e
theorem VsA.kp (h:VsA w p T el size n cs F)(k:Kp S w w')(hn:∀i,F i->¬S i):VsA w' p T el size n cs F:=by
 obtain⟨bv,hM,hF⟩:=h
 exact⟨bv,⟨k.ND hM.ND (hn p ((hF p).2 (.inl O))),hM.sl.kp k (λg hg=>hn g ((hF g).2 (.inr hg))),hM.ne⟩,hF⟩
theorem VsA.ext (h:VsA w p T el size n cs F)(k:Ext w w'):VsA w' p T el size n cs F:=h.kp k.kp λ_ _=>id
end
theorem zc9 {P:Program}{e:Env}{d:Option Nat}{ty t t':TypeId}{pos:String}{aft:Array Edge}{g:Option (Nat×Bool)}{x y:Operand}{w:World}{p q:Bool}(hx:look e x=some (.bool p))(hy:look e y=some (.bool q))(ht:P.underlying t=some .bool):Y P e ⟨d,.binOp .neq t x y t',ty,pos,aft,g⟩ (.bool (!(p==q))) w w:=fun ρ hρ=>by
 simp[execOp,hρ _ _ hx,hρ _ _ hy,eqGuard_at_bool,run_neq_bool w t p q ht]
def z5A (q:Cd×Nat):List Value:=QX q.1++[NW q.2]
abbrev z3D (w:World)(p:Nat)(L:List (Cd×Nat))(F:Nat->Prop):Prop:=VsA w p 320 323 3 L.length (L.flatMap z5A) F
abbrev z2g (w:World)(p:Nat)(L:List Nat)(F:Nat->Prop):Prop:=VsA w p 45 46 1 L.length (L.map Oe) F
abbrev z0B (w:World)(p:Nat)(L:List Nat)(F:Nat->Prop):Prop:=VsA w p 40 3 1 L.length (L.map λn:Nat=>I (n:Int)) F
theorem S3 {w:World}{p:Nat}{L:List (Cd×Nat)}{F:Nat->Prop}(h:z3D w p L F)(hl:L.length<=1000000)(c:Cd)(v:Nat)(hv:v<9223372036854775808):
  Oa prog 227 [cdV c,I (v:Int),ptr p 0] w λu w'=>u= .tuple #[]/\∃F',z3D w' p (L++[(c,v)]) F'/\Kp F w w'/\∀k,F' k->F k\/w.heap.size<=k:=by
 obtain⟨x,y,dy,pN,BJ⟩:∃x y,QX c=[x,y]/\x.oneCell'=true/\y.oneCell'=true:=by cases c<;>exact⟨_,_,rfl,rfl,rfl⟩
 obtain⟨bv,hM,hF⟩:=h
 have rC:cdV c= .agg [x,y].toArray:=by rw[cdV,dy]
 rw[rC]
 have Iy:∀c∈[x,y,NW v],c.oneCell'=true:=by
  intro c hc;rcases List.mem_cons.1 hc with rfl|hc
  ·exact pN
  rcases List.mem_cons.1 hc with rfl|hc
  ·exact BJ
  rcases List.mem_cons.1 hc with rfl|hc
  ·rfl
  ·simp at hc
 refine Nu (e:=[(0,_),(1,_),(2,_)]) func227 O ntmps227 O O$ qN O$ NK O O (PW O (cs:=[x,y]) O) ?_
 rintro _ w1 ⟨b3,rfl,dF,ad,ar⟩
 have iv:=ad.ND hM.ND
 refine NB$ NC O$ qV (NJ z08 O O iv O)$ qV (Oh (news:=[x,y]) R8 O PB O (ar.cells (n:=2) O) O)$ Nz O$ qV ((OM O U3 Qe (by omega)))$ qV (QP (cs:=[_,_,_]) U7 O zcW O O)$ NK O O (Ur (cs:=[_,_,_]) (zs:=[Value.int .u8 0,Value.int .u64 0,Value.int .u64 0]) z08 U7 O (by kernel_rfl) O O O (by decide)) ?_
 rintro _ w2 ⟨b2,rfl,⟨bQ,ag,am⟩,cm⟩
 refine NK O O (pap z08 U7 O (by decide) O O ((hM.sl.ext ad).ext ag) cm.rd Iy (by omega) (by simp only[maxLen];omega)) ?_
 rintro v3 w3 ⟨cz,aw,ib,-⟩
 have mP:=cz.oneV
 have aH:=aw.ND (ag.ND iv) hM.ne
 refine NP O (PA z8G O O mP aH (by simp)) ?_
 rintro w4 ⟨aC,ao⟩
 replace aC:NM w4 p [v3] 320:=aC
 have z1:=ad.size
 have z2:=ag.size
 have lp:=hM.ND.lt
 have fu:v3.ownBlock≠some p:=λe=>by
  rcases ib p e with e| e
  ·exact hM.ne e
  ·omega
 have ee:=cz.kp ao (λg hg e=>fu (e▸hg))
 refine NB$ Pq func227 O (⟨_,rfl,rfl,fpW p v3,⟨v3,⟨aC,?_,fu⟩,λ_=>Iff.rfl⟩,?_,?_⟩)
 ·rw[List.length_append,List.flatMap_append];have e1:[(c,v)].flatMap z5A=[x,y,NW v]:=by simp[z5A,dy]
  rw[e1];exact ee
 ·exact((ad.trans ag).kp.trans (aw.NR λk e=>(hF k).2 (.inr e))).trans (ao.NR λk e=>(hF k).2 (.inl e))
 ·intro k hk;rcases hk with e| e
  ·exact .inl ((hF k).2 (.inl e))
  ·rcases ib k e with e| e
   ·exact .inl ((hF k).2 (.inr e))
   ·exact .inr (by omega)
def TP (rs:List Nat)(f:Bool):List Nat:=if f !=(rs.length%2==1) then rs++[0] else rs
theorem Zs (rs:List Nat)(f:Bool):PL rs f=(TP rs f).modify ((TP rs f).length-1) (·+1):=rfl
abbrev z5x (n:Nat):Value:=I (n:Int)
theorem z0P {w:World}{lf rn:Nat}{L:List Nat}{F:Nat->Prop}(h:z2g w lf L F)(hl:L.length<=1000000)(x:Nat)(a:Bool):
  Oa prog 229 [Oe x,.bool a,.bool false,ptr lf 0,ptr rn 0] w λu w'=>u= .tuple #[]/\∃F',z2g w' lf (L++[x]) F'/\Kp F w w'/\∀k,F' k->F k\/w.heap.size<=k:=by
 obtain⟨bv,hM,hF⟩:=h
 refine Nu (e:=[(0,_),(1,_),(2,_),(3,_),(4,_)]) func229 O ntmps229 O O ?_
 have iv:=hM.ND
 refine py$ Nw$ qN O$ Nz O$ qV ((Qr O))$ NF O$ NI O$ qN O$ qV (NJ Ob O O iv O)$ Nz O$ NK O O (Ur (cs:=[_]) (zs:=[Value.int .u32 0]) Ob NV O (by kernel_rfl) O O O (by decide)) ?_
 rintro _ w2 ⟨b2,rfl,⟨bQ,ag,am⟩,cm⟩
 refine NK O O (pap Ob NV O (by decide) O O (hM.sl.ext ag) cm.rd (by intro c hc;simp at hc;subst hc;rfl) (by omega) (by simp only[maxLen];omega)) ?_
 rintro v3 w3 ⟨cz,aw,ib,-⟩
 have mP:=cz.oneV
 have aH:=aw.ND (ag.ND iv) hM.ne
 refine NP O (PA QC O O mP aH (by simp)) ?_
 rintro w4 ⟨aC,ao⟩
 replace aC:NM w4 lf [v3] 45:=aC
 have z2:=ag.size
 have lp:=hM.ND.lt
 have fu:v3.ownBlock≠some lf:=λe=>by
  rcases ib lf e with e| e
  ·exact hM.ne e
  ·omega
 have ee:=cz.kp ao (λg hg e=>fu (e▸hg))
 refine NB$ NA func229 O (⟨_,rfl,rfl,fpW lf v3,⟨v3,⟨aC,?_,fu⟩,λ_=>Iff.rfl⟩,?_,?_⟩)
 ·rw[List.length_append,List.map_append];exact ee
 ·exact(ag.kp.trans (aw.NR λk e=>(hF k).2 (.inr e))).trans (ao.NR λk e=>(hF k).2 (.inl e))
 ·intro k hk;rcases hk with e| e
  ·exact .inl ((hF k).2 (.inl e))
  ·rcases ib k e with e| e
   ·exact .inl ((hF k).2 (.inr e))
   ·exact .inr (by omega)
theorem XG {w:World}{lf rn:Nat}{rs:List Nat}{F:Nat->Prop}(h:z0B w rn rs F)(hl:rs.length<=1000000)(bD:rs≠[])(hb:∀m∈rs,m<=1000000)(x:Nat)(a:Bool):
  Oa prog 229 [Oe x,.bool a,.bool true,ptr lf 0,ptr rn 0] w λu w'=>u= .tuple #[]/\∃F',z0B w' rn (PL rs a) F'/\Kp F w w'/\∀k,F' k->F k\/w.heap.size<=k:=by
 have aU:∀k,F k->k<w.heap.size:=λk hk=>h.lt hk
 obtain⟨bv,hM,hF⟩:=id h
 refine Nu (e:=[(0,_),(1,_),(2,_),(3,_),(4,_)]) func229 O ntmps229 O O ?_
 have iv:=hM.ND
 obtain⟨va,vc,rfl,-⟩:=hM.sl.rd.shape
 refine py$ Nw$ qN O$ Nz O$ qV ((Qr O))$ NF O$ It O$ qN O$ Nz O$ qV (NJ Qd O O iv O)$ Q0 Qd O$ qV (W8 O O (by omega) (by omega)) ?_
 rw[Nat.and_one_is_mod]
 refine Px O O$ qV (zc9 O O U4) ?_
 have hd:decide (((rs.length%2:Nat):Int)=1)=(rs.length%2==1):=by
  rcases Nat.mod_two_eq_zero_or_one rs.length with e|e<;>rw[e]<;>rfl
 rw[hd]
 refine NF O$ Oy (λe' w'=>e'=[(4,ptr rn 0)]/\∃F',z0B w' rn (TP rs a) F'/\Kp F w w'/\∀k,F' k->F k\/w.heap.size<=k) ?sU$ λsU=>?sV
 case sU=>
  rintro e' w1 ⟨rfl,F1,⟨v1,dQ,ph⟩,aM,iY⟩
  obtain⟨l,m,gP,fG,hm⟩:∃l m,TP rs a=l++[m]/\l.length<=1000000/\m<=1000000:=by
   unfold TP;split
   ·exact⟨rs,0,rfl,hl,by omega⟩
   ·refine⟨rs.dropLast,rs.getLast bD,(List.dropLast_concat_getLast bD).symm,by rw[List.length_dropLast];omega,hb _ (List.getLast_mem bD)⟩
  rw[gP] at dQ;have BK:(l++[m]).length=l.length+1:=by simp
  rw[BK] at dQ;rcases dQ.sl.shape with⟨-,h0⟩|⟨g,c1,rfl,dH⟩
  ·omega
  have aj:=dQ.ND;refine Ny$ NC O$ qV (NJ Qd O O aj O)$ qV (NJ Qd O O aj O)$ Q0 Qd O$ Qc O O ?_;rw[show((l.length+1:Nat):Int)-1=(l.length:Int) by omega];refine qV (OH Qd OL O O (by omega))$ qV (Oi U3 O O (P6 dQ.sl.rd (show((l++[m]).map z5x)[l.length]? =some (z5x m) by simp))) ?_;refine OI O O$ qV (OH Qd OL O O (by omega))$ NP O (Qt OL O O O dQ.sl (by simp)) ?_;rintro w2 ⟨cm,aq⟩;have am:=aq.ND aj (λe=>dQ.ne (by rw[e];rfl));refine NB$ Pq func229 O (⟨_,rfl,rfl,fpW rn (.slice (some ⟨g,0,none⟩) (l.length+1) c1),⟨_,⟨am,?_,dQ.ne⟩,λ_=>Iff.rfl⟩,?_,?_⟩)
  ·rw[Zs,gP,Vd];have e1:(l++[m+1]).length=l.length+1:=by simp
   rw[e1]
   have e2:((l++[m]).map z5x).set l.length (z5x (m+1))=(l++[m+1]).map z5x:=by
    rw[List.map_append,List.set_append_right _ _ (by simp)];simp
   rw[<-e2];have e3:l.length*1=l.length:=Nat.mul_one _
   first|exact cm|(simp only[Nat.zero_add,Nat.mul_one] at cm;exact cm)
  ·exact aM.Nv (aq.NR (λk e=>(ph k).2 (.inr (by rw[e];rfl)))) (λi hi=>(iY i hi).symm)
  ·intro k hk;exact iY k ((ph k).2 hk)
 case sV=>
  refine OV O (λe1=>?_)$ λe1=>?_
  ·have eQ:TP rs a=rs++[0]:=by unfold TP;exact if_pos e1
   refine NC O$ qV (NJ Qd O O iv O)$ NK O O (Ur (cs:=[_]) (zs:=[Value.int .i64 0]) Qd OL O (by kernel_rfl) O O O (by decide)) ?_;rintro _ w2 ⟨b2,rfl,⟨bQ,ag,am⟩,cm⟩;refine NK O O (pap Qd OL O (by decide) O O (hM.sl.ext ag) cm.rd (by intro c hc;simp at hc;subst hc;rfl) (by omega) (by simp only[maxLen];omega)) ?_;rintro v3 w3 ⟨cz,aw,ib,-⟩;have mP:=cz.oneV;have aH:=aw.ND (ag.ND iv) hM.ne;refine NP O (PA z4a O O mP aH (by simp)) ?_;rintro w4 ⟨aC,ao⟩;replace aC:NM w4 rn [v3] 40:=aC;have z2:=ag.size;have lp:=hM.ND.lt
   have fu:v3.ownBlock≠some rn:=λe=>by
    rcases ib rn e with e| e
    ·exact hM.ne e
    ·omega
   have ee:=cz.kp ao (λg hg e=>fu (e▸hg));refine NB ((sU _ _ ⟨rfl,fpW rn v3,⟨v3,⟨aC,?_,fu⟩,λ_=>Iff.rfl⟩,?_,?_⟩).qb)
   ·rw[eQ,List.length_append,List.map_append];exact ee
   ·exact(ag.kp.trans (aw.NR λk e=>(hF k).2 (.inr e))).trans (ao.NR λk e=>(hF k).2 (.inl e))
   ·intro k hk;rcases hk with e| e
    ·exact .inl ((hF k).2 (.inl e))
    ·rcases ib k e with e| e
     ·exact .inl ((hF k).2 (.inr e))
     ·exact .inr (by omega)
  ·have eQ:TP rs a=rs:=by unfold TP;exact if_neg (by simpa using e1)
   refine An ?_;exact(sU _ _ ⟨rfl,F,by rw[eQ];exact h,Kp.refl _ _,λk hk=> .inl hk⟩).qb
end Go.Proofs.YtfgjaafcgghnoaaGreatDoor
namespace Go.Proofs.YtfgjaafcgghnoaaGreatDoor
open Go Go.RowKit
def TW (s r rs:List Nat):List Nat:=r.foldl (λrs y=>PL rs (decide (y∈s))) rs
theorem YI {s t:List Nat}:∀(r rs:List Nat),(∀y∈r,(y∈s↔y∈t))->TW s r rs=TW t r rs
 |[],rs,_=>rfl
 | y :: r, rs, h => by
   have h1:decide (y∈s)=decide (y∈t):=decide_eq_decide.2 (h y List.mem_cons_self);show TW s r (PL rs (decide (y∈s)))=TW t r (PL rs (decide (y∈t)));rw[h1];exact YI r _ (λz hz=>h z (List.mem_cons_of_mem _ hz))
theorem Uf {x z:Nat}{l:List Nat}(h:x<z):z∈x::l↔z∈l:=by
 rw[List.mem_cons]
 constructor
 ·rintro(e|e)
  ·omega
  ·exact e
 ·exact .inr
theorem z2i {x:Nat}{s r:List Nat}(h:∀y∈r,x<y):Od (x::s) r=x::Od s r/\∀rs,TW (x::s) r rs=TW s r rs:=by
 have hx:x∉r:=λe=>by have:=h x e;omega
 refine⟨?_,λrs=>YI r rs λy hy=>Uf (h y hy)⟩
 unfold Od
 rw[List.filter_cons,if_pos (by simpa using hx)]
theorem ZJ {r t:List Nat}(s:List Nat)(h:∀x∈s,(x∈r↔x∈t)):Od s r=Od s t:=
 List.filter_congr λx hx=>decide_eq_decide.2 (not_congr (h x hx))
theorem z5L {x:Nat}{s r:List Nat}(hs:∀z∈s,x<z)(hr:∀y∈r,x<y):Od (x::s) (x::r)=Od s r/\∀rs,TW (x::s) (x::r) rs=TW s r (PL rs true):=by
 refine⟨?_,λrs=>?_⟩
 ·have:=ZJ (r:=x::r) (t:=r) s (λz hz=>Uf (hs z hz));rw[<-this];unfold Od;rw[List.filter_cons,if_neg (by simp)]
 ·show TW (x::s) r (PL rs (decide (x∈x::s)))=_;rw[decide_eq_true List.mem_cons_self];exact(z2i hr).2 _
theorem z6H {y:Nat}{s r:List Nat}(hs:∀z∈s,y<z):Od s (y::r)=Od s r/\∀rs,TW s (y::r) rs=TW s r (PL rs false):=by
 refine⟨ZJ s (λz hz=>Uf (hs z hz)),λrs=>?_⟩
 show TW s r (PL rs (decide (y∈s)))=_
 rw[decide_eq_false λe=>by have:=hs y e;omega]
theorem z2Y {x y:Nat}{l:List Nat}(hr:Ris (y::l))(h:x<y):∀z∈y::l,x<z:=λz hz=>by
 rcases List.mem_cons.1 hz with e| e
 ·omega
 ·have:=(List.pairwise_cons.1 hr).1 z e;omega
theorem z0j:∀{l:List Nat} {m:Nat},m∈l->m<=l.sum
 | x :: l, m, h => by
   rw[List.sum_cons];rcases List.mem_cons.1 h with e| e
   ·omega
   ·have:=z0j e;omega
theorem z3S (rs:List Nat)(f:Bool):(PL rs f).length<=rs.length+1:=by
 rw[Zs,List.length_modify]
 unfold TP
 split<;>simp
theorem S7.le {rs:List Nat}{fs:List Bool}(h:S7 rs fs):∀m∈rs,m<=fs.length:=λm hm=>by
 have:=z0j hm
 rw[<-h.exp,Rp];exact this
structure SI (w:World)(succ ref:List Nat)(lf rn:Nat)(FL0 FR0:Nat->Prop)(s:List Nat)(sa:Option Addr)(sc:Nat)(r:List Nat)(ra:Option Addr)(rc:Nat)(L rs:List Nat)(w':World):Prop where
 ex:∃FL FR fs,z2g w' lf L FL/\z0B w' rn rs FR/\S7 rs fs/\fs.length+r.length<=65536/\rs.length+r.length<=65537/\(∀k,FL k->FL0 k\/w.heap.size<=k)/\(∀k,FR k->FR0 k\/w.heap.size<=k)/\∀k,FL k->¬FR k
 rdS:∀w2,Kp (λk=>FL0 k\/FR0 k) w w2->Rd w2 (.slice sa s.length sc) 1 s.length (s.map Oe)
 rdR:∀w2,Kp (λk=>FL0 k\/FR0 k) w w2->Rd w2 (.slice ra r.length rc) 1 r.length (r.map Oe)
 clS:s.length<=sc
 clR:r.length<=rc
 kp:Kp (λk=>FL0 k\/FR0 k) w w'
 okS:Ov s
 okR:Ov r
 left:Od succ ref=L++Od s r
 fold:PT succ ref=TW s r rs
 zdl:L.length+s.length<=65536
section
variable {w w1 w2:World}{succ ref:List Nat}{lf rn:Nat}{FL0 FR0:Nat->Prop}{s r L rs:List Nat}{sa ra:Option Addr}{sc rc:Nat}{x y:Nat}
theorem SI.ext (h:SI w succ ref lf rn FL0 FR0 s sa sc r ra rc L rs w1)(hx:Ext w1 w2):SI w succ ref lf rn FL0 FR0 s sa sc r ra rc L rs w2:=by
 obtain⟨FL,FR,fs,h1,h2,h3⟩:=h.ex
 exact⟨⟨FL,FR,fs,h1.ext hx,h2.ext hx,h3⟩,h.rdS,h.rdR,h.clS,h.clR,h.kp.trans hx.kp,h.okS,h.okR,h.left,h.fold,h.zdl⟩
theorem SI.z61 (h:SI w succ ref lf rn FL0 FR0 (x::s) sa sc r ra rc L rs w1):∃b off,sa=some ⟨b,off,none⟩/\∀w2,Kp (λk=>FL0 k\/FR0 k) w w2->w2.cell? ⟨b,off+0*1,none⟩=some (Oe x):=by
 rcases (h.rdS w1 h.kp).2 with⟨c,-,h0⟩|⟨b,off,cap,hv,-⟩
 ·exact absurd h0 (by simp)
 ·cases hv;exact⟨b,off,rfl,λw2 k=>P6 (h.rdS w2 k) O⟩
theorem SI.z5S (h:SI w succ ref lf rn FL0 FR0 s sa sc (y::r) ra rc L rs w1):∃b off,ra=some ⟨b,off,none⟩/\∀w2,Kp (λk=>FL0 k\/FR0 k) w w2->w2.cell? ⟨b,off+0*1,none⟩=some (Oe y):=by
 rcases (h.rdR w1 h.kp).2 with⟨c,-,h0⟩|⟨b,off,cap,hv,-⟩
 ·exact absurd h0 (by simp)
 ·cases hv;exact⟨b,off,rfl,λw2 k=>P6 (h.rdR w2 k) O⟩
theorem SI.zcQ (h:SI w succ ref lf rn FL0 FR0 (x::s) sa sc r ra rc L rs w1){FL FR:Nat->Prop}{fs:List Bool}(he:z2g w1 lf L FL/\z0B w1 rn rs FR/\S7 rs fs/\fs.length+r.length<=65536/\rs.length+r.length<=65537/\(∀k,FL k->FL0 k\/w.heap.size<=k)/\(∀k,FR k->FR0 k\/w.heap.size<=k)/\∀k,FL k->¬FR k)
  (hr:∀y∈r,x<y) (hw:∃FL',z2g w2 lf (L++[x]) FL'/\Kp FL w1 w2/\∀k,FL' k->FL k\/w1.heap.size<=k):
  SI w succ ref lf rn FL0 FR0 s (if sc=1 then sa else sa.map (·.add (1*1))) (sc-1) r ra rc (L++[x]) rs w2:=by
 obtain⟨-,k1,k2,k3,k4,k5,k6,k7,k8,k9,k10⟩:=h
 obtain⟨h1,h2,h3,h4,h5,h6,h7,h8⟩:=he
 obtain⟨FL',g1,g2,g3⟩:=hw
 have hz:=k5.size
 rw[List.length_cons] at k3 k10
 refine⟨⟨FL',FR,fs,g1,h2.kp g2 (λi hi e=>h8 i e hi),h3,h4,h5,λk hk=>?_,h7,λk hk e=>?_⟩,λw2 k=>?_,k2,by omega,k4,k5.Nv g2 (λi hi=>?_),k6.sub (List.sublist_cons_self _ _),k7,?_,?_,?_⟩
 ·rcases g3 k hk with e| e
  ·exact h6 k e
  ·exact .inr (by omega)
 ·rcases g3 k hk with e2|e2
  ·exact h8 k e2 e
  ·have:=h2.lt e;omega
 ·have:=R4 (k1 w2 k) (i:=1) (by rw[List.length_cons];omega) (by rw[List.length_cons];omega);exact this
 ·rcases h6 i hi with e| e
  ·exact .inr (.inl e)
  ·exact .inl e
 ·rw[k8,(z2i hr).1,List.append_assoc];rfl
 ·rw[k9,(z2i hr).2]
 ·rw[List.length_append,List.length_singleton];omega
theorem SI.z8L {s2:List Nat}{sa2:Option Addr}{sc2:Nat}{f:Bool}(h:SI w succ ref lf rn FL0 FR0 s sa sc (y::r) ra rc L rs w1)(hs:(s2=s/\sa2=sa/\sc2=sc/\f=false/\∀z∈s,y<z)\/(s=y::s2/\sa2=(if sc=1 then sa else sa.map (·.add (1*1)))/\sc2=sc-1/\f=true))
  {FL FR:Nat->Prop} {fs:List Bool} (he:z2g w1 lf L FL/\z0B w1 rn rs FR/\S7 rs fs/\fs.length+(y::r).length<=65536/\rs.length+(y::r).length<=65537/\(∀k,FL k->FL0 k\/w.heap.size<=k)/\(∀k,FR k->FR0 k\/w.heap.size<=k)/\∀k,FL k->¬FR k)
  (hw:∃FR',z0B w2 rn (PL rs f) FR'/\Kp FR w1 w2/\∀k,FR' k->FR k\/w1.heap.size<=k):
  SI w succ ref lf rn FL0 FR0 s2 sa2 sc2 r (if rc=1 then ra else ra.map (·.add (1*1))) (rc-1) L (PL rs f) w2:=by
 obtain⟨-,k1,k2,k3,k4,k5,k6,k7,k8,k9,k10⟩:=h
 obtain⟨h1,h2,h3,h4,h5,h6,h7,h8⟩:=he
 rw[List.length_cons] at h4 h5 k4
 obtain⟨FR',g1,g2,g3⟩:=hw
 have hz:=k5.size
 have ic:=z3S rs f
 have GO:∀z∈r,y<z:=(List.pairwise_cons.1 k7.Yf).1
 have GP:∃FL FR fs,z2g w2 lf L FL/\z0B w2 rn (PL rs f) FR/\S7 (PL rs f) fs/\fs.length+r.length<=65536/\(PL rs f).length+r.length<=65537/\(∀k,FL k->FL0 k\/w.heap.size<=k)/\(∀k,FR k->FR0 k\/w.heap.size<=k)/\∀k,FL k->¬FR k:=by
  refine⟨FL,FR',fs++[f],h1.kp g2 (λi hi e=>h8 i hi e),g1,h3.step f,by rw[List.length_append,List.length_singleton];omega,by omega,h6,λk hk=>?_,λk hk e=>?_⟩
  ·rcases g3 k hk with e| e
   ·exact h7 k e
   ·exact .inr (by omega)
  ·rcases g3 k e with e2|e2
   ·exact h8 k hk e2
   ·have:=h1.lt hk;omega
 have GQ:Kp (λk=>FL0 k\/FR0 k) w w2:=k5.Nv g2 (λi hi=>by
  rcases h7 i hi with e| e
  ·exact .inr (.inr e)
  ·exact .inl e)
 have eh:∀w2,Kp (λk=>FL0 k\/FR0 k) w w2->Rd w2 (.slice (if rc=1 then ra else ra.map (·.add (1*1))) r.length (rc-1)) 1 r.length (r.map Oe):=λw2 k=>
  R4 (k2 w2 k) (i:=1) (by rw[List.length_cons];omega) (by rw[List.length_cons];omega)
 rcases hs with⟨rfl,rfl,rfl,rfl,hg⟩|⟨rfl,rfl,rfl,rfl⟩
 ·exact⟨GP,k1,eh,k3,by omega,GQ,k6,k7.sub (List.sublist_cons_self _ _),by rw[k8,(z6H hg).1],by rw[k9,(z6H hg).2],k10⟩
 ·have GR:∀z∈s2,y<z:=(List.pairwise_cons.1 k6.Yf).1;rw[List.length_cons] at k3 k10;refine⟨GP,λw2 k=>?_,eh,by omega,by omega,GQ,k6.sub (List.sublist_cons_self _ _),k7.sub (List.sublist_cons_self _ _),by rw[k8,(z5L GR GO).1],by rw[k9,(z5L GR GO).2],by omega⟩;exact R4 (k1 w2 k) (i:=1) (by rw[List.length_cons];omega) (by rw[List.length_cons];omega)
end
end Go.Proofs.YtfgjaafcgghnoaaGreatDoor
namespace Go.Proofs.YtfgjaafcgghnoaaGreatDoor
open Go Go.RowKit Go.Proofs.Tryz
theorem z9o {w:World}{succ ref:List Nat}{lf rn:Nat}{FL0 FR0:Nat->Prop}{sa ra:Option Addr}{sc rc:Nat}(Iz:SI w succ ref lf rn FL0 FR0 succ sa sc ref ra rc [] [0] w):
  Oa prog 228 [.slice sa succ.length sc,.slice ra ref.length rc,.func (.func 229) #[] #[ptr lf 0,ptr rn 0]] w λu w'=>u= .tuple #[]/\
   ∃FL FR,z2g w' lf (Od succ ref) FL/\z0B w' rn (PT succ ref) FR/\(∀k,FL k->FL0 k\/w.heap.size<=k)/\(∀k,FR k->FR0 k\/w.heap.size<=k)/\(∀k,FL k->¬FR k)/\Kp (λk=>FL0 k\/FR0 k) w w':=by
 refine Nu (e:=[(0,_),(1,_),(2,_)]) func228 O ntmps228 O O$ Nw$ Qb (α:=List Nat×Option Addr×Nat×List Nat×Option Addr×Nat×List Nat×List Nat) ((succ,sa,sc,ref,ra,rc,[],[0])) (λx=>[(0,.slice x.2.1 x.1.length x.2.2.1),(1,.slice x.2.2.2.2.1 x.2.2.2.1.length x.2.2.2.2.2.1),(2,.func (.func 229) #[] #[ptr lf 0,ptr rn 0])]) (λx w'=>SI w succ ref lf rn FL0 FR0 x.1 x.2.1 x.2.2.1 x.2.2.2.1 x.2.2.2.2.1 x.2.2.2.2.2.1 x.2.2.2.2.2.2.1 x.2.2.2.2.2.2.2 w') (λx=>x.1.length+x.2.2.2.1.length) ?hI ?hround
 case hI=>exact Iz
 case hround=>
  rintro⟨s,sa,sc,r,ra,rc,L,rs⟩ w6 hI ih;dsimp only at hI
  try dsimp only
  have hg:=(Ext.refl w6).drew;have aa:=hg.drew;have cR:=hI.ext aa;have p0:([]:List Nat).length=0:=rfl;have gQ:=hI.okS.len;have BL:=hI.okR.len;rcases s with _|⟨x,s⟩
  ·rcases r with _|⟨y,r⟩
   ·refine py$ qN O$ Nz O$ Q0 Ob O$ P9 O O$ Ox$ NT O O$ Q0 Ob O$ P9 O O$ Ox$ OC O O$ NB$ It O$ NL O ?_;refine Pq func228 O ?_;have rD:=hI.left;have eR:=hI.fold;obtain⟨FL,FR,fs,h1,h2,h3,h4,h5,h6,h7,h8⟩:=hI.ex;rw[rD,eR];exact⟨_,rfl,rfl,FL,FR,by simpa[Od] using h1,h2,h6,h7,h8,hI.kp⟩
   ·skip
    obtain⟨b2,off2,rfl,mL⟩:=hI.z5S;have p1:0<((y::r:List Nat).length:Int):=by rw[List.length_cons];omega
    have p3:¬(((y::r).length:Int)=0):=by omega
    refine py$ qN O$ Nz O$ Q0 Ob O$ P9 O O$ Ox$ NT O O$ Q0 Ob O$ P9 O O$ PE$ OC O O$ NB$ NI O$ An ?_;refine Nw$ py$ PK (λw'=>Ext w6 w') O$ NX 0 O O (hg)$ NG 1 O (R7 Ob O) hg$ NG 2 O (yeq O O) hg$ S4$ NX 3 O O (hg)$ NX 4 O O (hg)$ NG 5 O (R7 Ob O) hg$ NG 6 O (VP O O) hg$ S4$ NX 7 O O (hg)$ qJ 8 O (hg) ?_;refine qJ 9 O (hg)$ qJ 10 O (hg)$ qJ 11 O (hg)$ qJ 12 O (hg)$ qJ 13 O (hg)$ qJ 14 O (hg)$ NG 15 O (S6 O O) hg$ NG 16 O (S6 O O) hg$ NG 17 O (PO O) hg$ qE$ py$ PK (λw'=>Ext w6 w') O$ NX 0 O O (aa)$ NG 1 O (R7 Ob O) aa ?_;refine NG 2 O (yeq O O) aa$ SC$ NX 3 O O (aa)$ qJ 4 O (aa)$ qJ 5 O (aa)$ qJ 6 O (aa)$ qJ 7 O (aa)$ qJ 8 O (aa)$ qJ 9 O (aa)$ qJ 10 O (aa)$ qJ 11 O (aa)$ qJ 12 O (aa)$ qJ 13 O (aa)$ qJ 14 O (aa) ?_;refine qJ 15 O (aa)$ NG 16 O (Tu O O) aa$ NG 17 O (PO O) aa$ qE$ py$ qN O$ Nz O$ NB$ It O$ NC O$ NT O O$ qV (OH Ob NV O O (by omega))$ qV (Oi OX O O (mL _ cR.kp)) ?_;obtain⟨FL,FR,fs,h1,h2,h3,h4,h5,h6,h7,h8⟩:=cR.ex;refine Pv O O (QH z3g O O) (XG h2 (by omega) h3.ne (λm hm=>by have:=h3.le m hm;omega) y false) ?_;rintro _ w7 ⟨rfl,pO⟩;refine qM O$ Nz O$ NB$ NI O$ NC O$ Nz O$ qV (WA Ob NV O O (by rw[List.length_cons];omega) hI.clR) ?_;refine NF O$ Ny ?_;exact(ih ([],sa,sc,r,_,rc-1,L,PL rs false) _ (cR.z8L (.inl ⟨rfl,rfl,rfl,rfl,λz hz=>by simp at hz⟩) ⟨h1,h2,h3,h4,h5,h6,h7,h8⟩ pO) (by dsimp only;simp only[List.length_cons,List.length_nil];omega)).qb
  ·rcases r with _|⟨y,r⟩
   ·obtain⟨b,off,rfl,mR⟩:=hI.z61
    skip
    have p1:0<((x::s:List Nat).length:Int):=by rw[List.length_cons];omega
    have p4:¬(((x::s).length:Int)=0):=by omega
    refine py$ qN O$ Nz O$ Q0 Ob O$ P9 O O$ PE$ Nz O$ qS$ qS$ qS$ Pc O O$ NB$ NI O$ An ?_;refine Nw$ py$ PK (λw'=>Ext w6 w') O$ NX 0 O O (hg)$ NG 1 O (R7 Ob O) hg$ NG 2 O (yeq O O) hg$ SC$ NX 3 O O (hg)$ qJ 4 O (hg)$ qJ 5 O (hg)$ qJ 6 O (hg)$ qJ 7 O (hg)$ qJ 8 O (hg)$ qJ 9 O (hg) ?_;refine qJ 10 O (hg)$ qJ 11 O (hg)$ qJ 12 O (hg)$ qJ 13 O (hg)$ qJ 14 O (hg)$ qJ 15 O (hg)$ NG 16 O (Tu O O) hg$ NG 17 O (PO O) hg$ qE$ py$ PK (λw'=>Ext w6 w') O$ NX 0 O O (aa)$ NG 1 O (R7 Ob O) aa$ NG 2 O (yeq O O) aa ?_;refine S4$ NX 3 O O (aa)$ NX 4 O O (aa)$ NG 5 O (R7 Ob O) aa$ NG 6 O (VP O O) aa$ S4$ NX 7 O O (aa)$ qJ 8 O (aa)$ qJ 9 O (aa)$ qJ 10 O (aa)$ qJ 11 O (aa)$ qJ 12 O (aa)$ qJ 13 O (aa)$ qJ 14 O (aa) ?_;refine NG 15 O (S6 O O) aa$ NG 16 O (S6 O O) aa$ NG 17 O (PO O) aa$ qE$ py$ qN O$ Nz O$ NB$ NI O$ qN O$ NT O O$ qV (OH Ob NV O O (by omega))$ qV (Oi OX O O (mR _ cR.kp))$ Nz O ?_;obtain⟨FL,FR,fs,h1,h2,h3,h4,h5,h6,h7,h8⟩:=cR.ex;have IA:=cR.zdl;refine Pv O O (QH z3g O O) (z0P h1 (by omega) x true) ?_;rintro _ w7 ⟨rfl,pO⟩;refine NB$ NC O$ Nz O$ qV (WA Ob NV O O (by rw[List.length_cons];omega) hI.clS) ?_;refine NQ O$ qM O$ Nz O$ NB$ It O$ An$ Ny ?_;exact(ih (s,_,sc-1,[],ra,rc,L++[x],rs) _ (cR.zcQ ⟨h1,h2,h3,h4,h5,h6,h7,h8⟩ (λz hz=>by simp at hz) pO) (by dsimp only;simp only[List.length_cons,List.length_nil];omega)).qb
   ·rcases Nat.lt_trichotomy x y with dy|dy|dy
    ·obtain⟨b,off,rfl,mR⟩:=hI.z61;obtain⟨b2,off2,rfl,mL⟩:=hI.z5S;have p1:0<((x::s:List Nat).length:Int):=by rw[List.length_cons];omega
     have p2:0<((y::r).length:Int):=by rw[List.length_cons];omega
     have p3:¬(((y::r).length:Int)=0):=by omega
     have p4:¬(((x::s).length:Int)=0):=by omega
     refine py$ qN O$ Nz O$ Q0 Ob O$ P9 O O$ PE$ Nz O$ qS$ qS$ qS$ Pc O O$ NB$ NI O$ An ?_;refine Nw$ py$ PK (λw'=>Ext w6 w') O$ NX 0 O O (hg)$ NG 1 O (R7 Ob O) hg$ NG 2 O (yeq O O) hg$ S4$ NX 3 O O (hg)$ NX 4 O O (hg)$ NG 5 O (R7 Ob O) hg$ NG 6 O (VP O O) hg$ SC$ NX 7 O O (hg)$ NX 8 O O (hg) ?_;refine NG 9 O (OH Ob NV O O (by omega)) hg$ NX 11 O O (hg)$ NG 12 O (OH Ob NV O O (by omega)) hg$ qT 10 O (λ_ h=>Oi OX O O (mR _ (hI.kp.trans h.kp))) hg$ qT 13 O (λ_ h=>Oi OX O O (mL _ (hI.kp.trans h.kp))) hg$ NG 14 O (Xu O O) hg$ SC$ NG 15 O (Tu O O) hg$ NG 16 O (S6 O O) hg$ NG 17 O (PO O) hg$ qE$ py$ PK (λw'=>Ext w6 w') O$ NX 0 O O (aa) ?_;refine NG 1 O (R7 Ob O) aa$ NG 2 O (yeq O O) aa$ S4$ NX 3 O O (aa)$ NX 4 O O (aa)$ NG 5 O (R7 Ob O) aa$ NG 6 O (VP O O) aa$ SC$ NX 7 O O (aa)$ NX 8 O O (aa)$ NG 9 O (OH Ob NV O O (by omega)) aa$ NX 11 O O (aa)$ NG 12 O (OH Ob NV O O (by omega)) aa$ qT 10 O (λ_ h=>Oi OX O O (mL _ (hI.kp.trans h.kp))) aa ?_;refine qT 13 O (λ_ h=>Oi OX O O (mR _ (hI.kp.trans h.kp))) aa$ NG 14 O (Xu O O) aa$ S4$ NG 15 O (Tu O O) aa$ NG 16 O (S6 O O) aa$ NG 17 O (PO O) aa$ qE$ py$ qN O$ Nz O$ NB$ NI O$ qN O$ NT O O ?_;refine qV (OH Ob NV O O (by omega))$ qV (Oi OX O O (mR _ cR.kp))$ Nz O ?_;obtain⟨FL,FR,fs,h1,h2,h3,h4,h5,h6,h7,h8⟩:=cR.ex;have IA:=cR.zdl;refine Pv O O (QH z3g O O) (z0P h1 (by omega) x true) ?_;rintro _ w7 ⟨rfl,pO⟩;refine NB$ NC O$ Nz O$ qV (WA Ob NV O O (by rw[List.length_cons];omega) hI.clS) ?_;refine NQ O$ qM O$ Nz O$ NB$ It O$ An$ Ny ?_;exact(ih (s,_,sc-1,y::r,_,rc,L++[x],rs) _ (cR.zcQ ⟨h1,h2,h3,h4,h5,h6,h7,h8⟩ (z2Y hI.okR.Yf dy) pO) (by dsimp only;simp only[List.length_cons,List.length_nil];omega)).qb
    ·obtain⟨b,off,rfl,mR⟩:=hI.z61;obtain⟨b2,off2,rfl,mL⟩:=hI.z5S;have p1:0<((x::s:List Nat).length:Int):=by rw[List.length_cons];omega
     have p2:0<((y::r).length:Int):=by rw[List.length_cons];omega
     have p3:¬(((y::r).length:Int)=0):=by omega
     have p4:¬(((x::s).length:Int)=0):=by omega
     refine py$ qN O$ Nz O$ Q0 Ob O$ P9 O O$ PE$ Nz O$ qS$ qS$ qS$ Pc O O$ NB$ NI O$ An ?_;refine Nw$ py$ PK (λw'=>Ext w6 w') O$ NX 0 O O (hg)$ NG 1 O (R7 Ob O) hg$ NG 2 O (yeq O O) hg$ S4$ NX 3 O O (hg)$ NX 4 O O (hg)$ NG 5 O (R7 Ob O) hg$ NG 6 O (VP O O) hg$ SC$ NX 7 O O (hg)$ NX 8 O O (hg) ?_;refine NG 9 O (OH Ob NV O O (by omega)) hg$ NX 11 O O (hg)$ NG 12 O (OH Ob NV O O (by omega)) hg$ qT 10 O (λ_ h=>Oi OX O O (mR _ (hI.kp.trans h.kp))) hg$ qT 13 O (λ_ h=>Oi OX O O (mL _ (hI.kp.trans h.kp))) hg$ NG 14 O (Xu O O) hg$ SC$ NG 15 O (Tu O O) hg$ NG 16 O (S6 O O) hg$ NG 17 O (PO O) hg$ qE$ py$ PK (λw'=>Ext w6 w') O$ NX 0 O O (aa) ?_;refine NG 1 O (R7 Ob O) aa$ NG 2 O (yeq O O) aa$ S4$ NX 3 O O (aa)$ NX 4 O O (aa)$ NG 5 O (R7 Ob O) aa$ NG 6 O (VP O O) aa$ SC$ NX 7 O O (aa)$ NX 8 O O (aa)$ NG 9 O (OH Ob NV O O (by omega)) aa$ NX 11 O O (aa)$ NG 12 O (OH Ob NV O O (by omega)) aa$ qT 10 O (λ_ h=>Oi OX O O (mL _ (hI.kp.trans h.kp))) aa ?_;refine qT 13 O (λ_ h=>Oi OX O O (mR _ (hI.kp.trans h.kp))) aa$ NG 14 O (Xu O O) aa$ SC$ NG 15 O (Tu O O) aa$ NG 16 O (S6 O O) aa$ NG 17 O (PO O) aa$ qE$ py$ qN O$ Nz O$ NB$ NI O$ qN O$ NT O O ?_;refine qV (OH Ob NV O O (by omega))$ qV (Oi OX O O (mR _ cR.kp))$ Nz O ?_;obtain⟨FL,FR,fs,h1,h2,h3,h4,h5,h6,h7,h8⟩:=cR.ex;refine Pv O O (QH z3g O O) (XG h2 (by omega) h3.ne (λm hm=>by have:=h3.le m hm;omega) x true) ?_;rintro _ w7 ⟨rfl,pO⟩;refine NB$ NC O$ Nz O$ qV (WA Ob NV O O (by rw[List.length_cons];omega) hI.clS) ?_;refine NQ O$ qM O$ Nz O$ NB$ NI O$ NC O$ Nz O$ qV (WA Ob NV O O (by rw[List.length_cons];omega) hI.clR) ?_;refine NF O$ Ny ?_;subst dy;exact(ih (s,_,sc-1,r,_,rc-1,L,PL rs true) _ (cR.z8L (.inr ⟨rfl,rfl,rfl,rfl⟩) ⟨h1,h2,h3,h4,h5,h6,h7,h8⟩ pO) (by dsimp only;simp only[List.length_cons,List.length_nil];omega)).qb
    ·obtain⟨b,off,rfl,mR⟩:=hI.z61;obtain⟨b2,off2,rfl,mL⟩:=hI.z5S;have p1:0<((x::s:List Nat).length:Int):=by rw[List.length_cons];omega
     have p2:0<((y::r).length:Int):=by rw[List.length_cons];omega
     have p3:¬(((y::r).length:Int)=0):=by omega
     have p4:¬(((x::s).length:Int)=0):=by omega
     refine py$ qN O$ Nz O$ Q0 Ob O$ P9 O O$ PE$ Nz O$ qS$ qS$ qS$ Pc O O$ NB$ NI O$ An ?_;refine Nw$ py$ PK (λw'=>Ext w6 w') O$ NX 0 O O (hg)$ NG 1 O (R7 Ob O) hg$ NG 2 O (yeq O O) hg$ S4$ NX 3 O O (hg)$ NX 4 O O (hg)$ NG 5 O (R7 Ob O) hg$ NG 6 O (VP O O) hg$ SC$ NX 7 O O (hg)$ NX 8 O O (hg) ?_;refine NG 9 O (OH Ob NV O O (by omega)) hg$ NX 11 O O (hg)$ NG 12 O (OH Ob NV O O (by omega)) hg$ qT 10 O (λ_ h=>Oi OX O O (mR _ (hI.kp.trans h.kp))) hg$ qT 13 O (λ_ h=>Oi OX O O (mL _ (hI.kp.trans h.kp))) hg$ NG 14 O (Xu O O) hg$ S4$ NG 15 O (Tu O O) hg$ NG 16 O (S6 O O) hg$ NG 17 O (PO O) hg$ qE$ py$ PK (λw'=>Ext w6 w') O$ NX 0 O O (aa) ?_;refine NG 1 O (R7 Ob O) aa$ NG 2 O (yeq O O) aa$ S4$ NX 3 O O (aa)$ NX 4 O O (aa)$ NG 5 O (R7 Ob O) aa$ NG 6 O (VP O O) aa$ SC$ NX 7 O O (aa)$ NX 8 O O (aa)$ NG 9 O (OH Ob NV O O (by omega)) aa$ NX 11 O O (aa)$ NG 12 O (OH Ob NV O O (by omega)) aa$ qT 10 O (λ_ h=>Oi OX O O (mL _ (hI.kp.trans h.kp))) aa ?_;refine qT 13 O (λ_ h=>Oi OX O O (mR _ (hI.kp.trans h.kp))) aa$ NG 14 O (Xu O O) aa$ SC$ NG 15 O (Tu O O) aa$ NG 16 O (S6 O O) aa$ NG 17 O (PO O) aa$ qE$ py$ qN O$ Nz O$ NB$ It O$ NC O$ NT O O ?_;refine qV (OH Ob NV O O (by omega))$ qV (Oi OX O O (mL _ cR.kp)) ?_;obtain⟨FL,FR,fs,h1,h2,h3,h4,h5,h6,h7,h8⟩:=cR.ex;refine Pv O O (QH z3g O O) (XG h2 (by omega) h3.ne (λm hm=>by have:=h3.le m hm;omega) y false) ?_;rintro _ w7 ⟨rfl,pO⟩;refine qM O$ Nz O$ NB$ NI O$ NC O$ Nz O$ qV (WA Ob NV O O (by rw[List.length_cons];omega) hI.clR) ?_;refine NF O$ Ny ?_;exact(ih (x::s,_,sc,r,_,rc-1,L,PL rs false) _ (cR.z8L (.inl ⟨rfl,rfl,rfl,rfl,z2Y hI.okS.Yf dy⟩) ⟨h1,h2,h3,h4,h5,h6,h7,h8⟩ pO) (by dsimp only;simp only[List.length_cons,List.length_nil];omega)).qb
structure TkM (w:World)(t r:Nat)(s:NH)(a:Nat):Prop where
 ND:NM w t [ptr r 0,.bool false] 316
 rd:Sn w r s a
 ne:t≠r
theorem TkM.ext {w w':World}{t r a:Nat}{s:NH}(h:TkM w t r s a)(hx:Ext w w'):TkM w' t r s a:=⟨hx.ND h.ND,⟨hx.ND h.rd.1,h.rd.2⟩,h.ne⟩
theorem T3 {w:World}{t r a:Nat}{s:NH}(h:TkM w t r s a)(c:Cd)(v n:Nat)(hc:c.Pk)(hv:v<=c.most)(hn:v<=n)(jF:n<9223372036854775808)(rest:List Bool)(hb:(O0 s).drop a=c.enc v++rest):
  Oa prog 236 [ptr t 0,cdV c,I (n:Int)] w λu w'=>u=I (v:Int)/\TkM w' t r s (a+(c.enc v).length)/\Kp (λk=>k=r) w w':=by
 obtain⟨x,y,dy⟩:∃x y,QX c=[x,y]:=by cases c<;>exact⟨_,_,rfl⟩
 have rC:cdV c= .agg [x,y].toArray:=by rw[cdV,dy]
 have eJ:=c.Z2
 rw[rC]
 refine Nu (e:=[(0,_),(1,_),(2,_)]) func236 O ntmps236 O O$ qN O$ NK O O (PW O (cs:=[x,y]) O) ?_
 rintro _ w1 ⟨b4,rfl,ev,ad,aH⟩
 have h1:=h.ext ad
 have BM:¬b4=r:=by have:=h.rd.1.lt;omega
 have hg:=(Ext.refl w1).drew
 refine NF O$ py$ PK (λw'=>Kp (λk=>k=r) w1 w') O$ NX 0 O O (hg.kp)$ NG 1 O (OQ O) (hg.kp)$ NG 2 O (Og zbQ O) (hg.kp)$ qT 3 O (λ_ hS=>NJ TN O O (hS.ND h1.ND h.ne) O) (hg.kp)$ qT 4 O (λ_ h=>Oh (news:=[x,y]) R8 O PB O ((h.ND aH BM).cells (n:=2) O) O) (hg.kp) ?_
 rw[<-rC]
 refine Qv 5 O z9q O (Ye (⟨hg.ND h1.rd.1,h1.rd.2⟩:Sn _ r s a) c v hc hv rest hb) ?_
 rintro _ w2 ⟨rfl,cA,aq⟩
 refine⟨hg.kp.trans aq,?_⟩
 have jG:=hg.kp.trans aq
 have ar:=jG.ND h1.ND h.ne
 refine NX 6 O O (hg.kp.trans aq)$ NG 7 O (Q8 O O) (hg.kp.trans aq)$ NG 8 O (Q8 O O) (hg.kp.trans aq)$ NG 9 O (PO O) (hg.kp.trans aq)$ NG 10 O (PO O) (hg.kp.trans aq)$ qE$ py$ qN O$ Nz O$ P3 O O$ NT O O$ Nz O$ qV ((OM O U3 Qe (by omega)))$ P9 O O ?_
 refine Ox$ OC O O$ NB$ It O$ An$ qN O$ Nz O$ qV (Ow O Qe U3 (by omega))$ NF O$ Of.qb (e:=[(6,_)]) ?_
 refine NA func236 O ?_
 exact⟨_,rfl,rfl,⟨ar,cA,h.ne⟩,ad.kp.trans jG⟩
theorem OU (q:Cd×Nat)(l:List (Cd×Nat)):O5 (q::l)=q.1.enc q.2++O5 l:=rfl
theorem QU {s e rest:List Bool}{a:Nat}(h:s.drop a=e++rest):s.drop (a+e.length)=rest:=by
 rw[<-List.drop_drop,h,List.drop_left]
structure CpI (w:World)(t r:Nat)(s:NH)(rs ref:List Nat)(rest:List Bool)(aE i:Nat)(rs2 ref2:List Nat)(sa:Option Addr)(sc:Nat)(v5:Value)(O_:List Nat)(a:Nat)(w':World):Prop where
 tk:TkM w' t r s a
 kp:Kp (λk=>k=r) w w'
 sl:Sl w' v5 46 1 O_.length (O_.map Oe)
 fr:∀g,v5.ownBlock=some g->w.heap.size<=g
 len:rs.length=i+rs2.length
 rd:∀w2,Kp (λk=>k=r) w w2->Rd w2 (.slice sa ref2.length sc) 1 ref2.length (ref2.map Oe)
 cl:ref2.length<=sc
 sum:rs2.sum<=ref2.length
 pos:∀m∈rs2.drop (1-min i 1),1<=m
 bits:(O0 s).drop a=O5 (P7 i rs2)++rest
 z3p:a+(O5 (P7 i rs2)).length=aE
 eq:copyL true rs ref=O_++copyL (i%2==0) rs2 ref2
 tot:O_.length+ref2.length<=65536
theorem z78 (a:Addr):a.add 0=a:=by
 unfold Addr.add
 split<;>simp_all
theorem z9D {P:Program}{e:Env}{d:Option Nat}{ty t el:TypeId}{pos:String}{aft:Array Edge}{g:Option (Nat×Bool)}{x u:Operand}{w:World}{z:Value}{size bytes n cap j:Nat}{a:Option Addr}{k:IntKind}{zb:Int}[wH:RU zb j](ht:P.underlying t=some (.slice el))(hs:TI P el z size bytes)(hx:look e x=some (.slice a n cap))
  (hu:look e u=some (.int k zb)) (h:j<=cap):
  Y P e ⟨d,.slice t x none (some u) none,ty,pos,aft,g⟩ (.slice a j cap) w w:=fun ρ hρ=>by
 obtain⟨rfl⟩:=wH
 have cH:=hs.size (w:=w)
 have h1:∀w,(Instr.sliceBound (.int k (j:Int)) cap .sliceAcap).run P w= .ok j w:=λw=>by rw[run_sliceBound _ _ _ _ _ (by omega) (by omega)];simp
 cases a with
 |none=>simp[execOp,hρ _ _ hx,hρ _ _ hu,Instr.sliceAt,run_underlying ht,Instr.slice,Instr.sliceBounds,h1,cH]
 |some a=>simp[execOp,hρ _ _ hx,hρ _ _ hu,Instr.sliceAt,run_underlying ht,Instr.slice,Instr.sliceBounds,h1,cH,z78]
theorem z2A {w:World}{t r a:Nat}{s:NH}(h:TkM w t r s a)(hG:NM w 0 (QX .gamma) 260)(df:¬0=r){sa:Option Addr}{sc:Nat}(ref rs:List Nat)
  (eh:∀w2,Kp (λk=>k=r) w w2->Rd w2 (.slice sa ref.length sc) 1 ref.length (ref.map Oe)) (dx:ref.length<=sc) (BL:ref.length<=65536) (hn:rs.length<=ref.length+1) (gX:rs.sum<=ref.length)
  (iw:∀m∈rs.drop 1,1<=m) (rest:List Bool) (hb:(O0 s).drop a=O5 ((.gamma,rs.length)::P7 0 rs)++rest):
  Oa prog 223 [ptr t 0,.slice sa ref.length sc] w λu w'=>Sl w' u 46 1 (copyL true rs ref).length ((copyL true rs ref).map Oe)/\(∀g,u.ownBlock=some g->w.heap.size<=g)/\
   TkM w' t r s (a+(O5 ((.gamma,rs.length)::P7 0 rs)).length)/\Kp (λk=>k=r) w w':=by
 have jH:∀v:Nat,v<=65537->v<=Cd.most .gamma:=λv hv=>by simp only[Cd.most];omega
 refine Nu (e:=[(0,_),(1,_)]) func223 O ntmps223 O O$ qN O$ NQ O$ qM O$ NQ O$ qM O$ Nz O$ qV (Oh (news:=[.int .u8 1,NW 0]) R8 O PB O (hG.cells (n:=2) O) O)$ Nz O$ Q0 Ob O ?_
 rw[OU,List.append_assoc] at hb
 rw[show((ref.length:Nat):Int)=((ref.length:Nat):Int) from rfl]
 refine OI O O$ NZ z0S O (T3 h .gamma rs.length (ref.length+1) trivial (jH _ (by omega)) (by omega) (by omega) _ hb) ?_
 rintro _ w1 ⟨rfl,h1,aM⟩
 have bN:=QU hb
 refine NF O$ py$ qN O$ NT O O$ NB$ Nw$ Qb (α:=Nat×List Nat×List Nat×Option Addr×Nat×Value×List Nat×Nat) ((0,rs,ref,sa,sc,.slice none 0 0,[],a+(Cd.enc .gamma rs.length).length)) (λx=>[(0,ptr t 0),(1,.slice x.2.2.2.1 x.2.2.1.length x.2.2.2.2.1),(5,x.2.2.2.2.2.1),(6,I (rs.length:Int)),(15,I (rs.length:Int)),(16,I (x.1:Int))]) (λx w'=>CpI w t r s rs ref rest (a+(O5 ((.gamma,rs.length)::P7 0 rs)).length) x.1 x.2.1 x.2.2.1 x.2.2.2.1 x.2.2.2.2.1 x.2.2.2.2.2.1 x.2.2.2.2.2.2.1 x.2.2.2.2.2.2.2 w') (λx=>x.2.1.length) ?hI ?hround
 case hI=>exact⟨h1,aM,Sl.nil _ _ _,(λg h=>by cases h),by simp,eh,dx,gX,iw,bN,by rw[OU,List.length_append];dsimp only;omega,rfl,by simp;omega⟩
 case hround =>
  rintro⟨i,rs2,ref2,sa2,sc2,v5,O_,a2⟩ w6 hI ih;dsimp only at hI;have aA:=hI.len;have wU:=hI.tot
  try dsimp only
  refine qN O$ Pb O O$ NB$ py$ NN O (λh0=>?_)$ λh0=>?_
  ·obtain⟨n,rs2,rfl⟩:∃n l,rs2=n::l:=by
    cases rs2 with
    |nil=>simp at aA;omega
    |cons n l=>exact⟨n,l,rfl⟩
   have AD:=hI.kp.ND hG df;have gX:=hI.sum;rw[List.sum_cons] at gX;rw[List.length_cons] at aA;have c6:=hI.bits;rw[P7,OU,List.append_assoc] at c6
   have cY:min i 1<=n:=by
    have hp:=hI.pos n;rcases Nat.eq_zero_or_pos i with e| e
    ·subst e;simp
    ·rw[show 1-min i 1=0 by omega] at hp;have:=hp List.mem_cons_self;omega
   refine An$ py$ Nw$ qN O$ Nz O$ NQ O$ qM O$ Nz O$ qV (Oh (news:=[.int .u8 1,NW 0]) R8 O PB O (AD.cells (n:=2) O) O)$ Nz O$ Q0 Ob O$ NZ z0S O (T3 hI.tk .gamma (n-min i 1) ref2.length trivial (jH _ (by omega)) (by omega) (by omega) _ c6) ?_;rintro _ w7 ⟨rfl,h7,ax⟩;have iy:=hI.kp.trans ax;have bj:=h7.ND;refine Nz O$ qV (ymi O O)$ OI O O ?_;rw[show((n-min i 1:Nat):Int)+min (i:Int) 1=(n:Int) by omega];refine NF O$ py$ qN O$ Nz O$ O8 O$ NO Sm O$ qV (NJ U4 O O bj O)$ NT O O$ Nz O$ Q0 Ob O$ P9 O O$ Ox$ OC O O$ NB ?_;refine It O$ An$ py$ qN O$ Nz O$ qV (W8 O O (by omega) (by omega)) ?_;rw[Nat.and_one_is_mod];have BN:=hI.rd _ iy;have fw:=QU c6;have AA:=hI.kp.size;have GT:=ax.size
   have sW:∀g,v5.ownBlock=some g->¬g=r:=λg hg e=>by
    have h1:=hI.fr g hg;have h2:=h.rd.1.lt;omega
   have iu:=hI.sl.kp ax sW
   have ek:∀(v5':Value) (w8:World),Sl w8 v5' 46 1 (O_++if i%2==0 then ref2.take n else []).length ((O_++if i%2==0 then ref2.take n else []).map Oe)->(∀g,v5'.ownBlock=some g->w.heap.size<=g)->Kp (λk=>v5.ownBlock=some k) w7 w8->
     CpI w t r s rs ref rest (a+(O5 ((.gamma,rs.length)::P7 0 rs)).length) (i+1) rs2 (ref2.drop n) (if sc2=n then sa2 else sa2.map (·.add (n*1))) (sc2-n) v5' (O_++if i%2==0 then ref2.take n else []) (a2+(Cd.enc .gamma (n-min i 1)).length) w8:=by
    intro v5' w8 g1 g2 g3;have lt7:=h7.ND.lt;have lr7:=h7.rd.1.lt;have vw:=h.ND.lt;have dU:=h.rd.1.lt;have pi:∀x,x<w.heap.size->¬v5.ownBlock=some x:=λx hx e=>by have:=hI.fr x e;omega
    refine⟨⟨g3.ND h7.ND (pi t vw),⟨g3.ND h7.rd.1 (pi r dU),h7.rd.2⟩,h7.ne⟩,iy.Nv g3 (λk hk=> .inl (hI.fr k hk)),g1,g2,by omega,λw2 k=>?_,by rw[List.length_drop];have:=hI.cl;omega,by rw[List.length_drop];omega,?_,?_,?_,?_,?_⟩
    ·have:=R4 (hI.rd w2 k) (i:=n) (by omega) hI.cl;rw[<-List.map_drop] at this;rw[List.length_drop];exact this
    ·intro m hm;refine hI.pos m ?_;rw[show 1-min (i+1) 1=0 by omega,List.drop_zero] at hm;rcases Nat.eq_zero_or_pos i with e| e
     ·subst e;exact hm
     ·rw[show 1-min i 1=0 by omega];exact List.mem_cons_of_mem _ hm
    ·exact fw
    ·have:=hI.z3p;rw[P7,OU,List.length_append] at this;dsimp only at this;omega
    ·rw[hI.eq,copyL,List.append_assoc]
     have:((i+1)%2==0)= !(i%2==0):=by
      rcases Nat.mod_two_eq_zero_or_one i with e| e
      ·rw[e,show(i+1)%2=1 by omega];rfl
      ·rw[e,show(i+1)%2=0 by omega];rfl
     rw[this]
    ·rw[List.length_append,List.length_drop];split
     ·rw[List.length_take];omega
     ·simp;omega
   refine Px O O$ NB$ NN O (λe1=>?_)$ λe1=>?_
   ·have e2:(i%2==0)=true:=by simp;omega
    simp only[e2,if_true] at ek;refine NC O$ NT O O$ Nz O$ qV (z9D Ob NV O O (by have:=hI.cl;omega)) ?_;have IB:=hI.cl;refine NK O O (pap Ob NV O (by decide) O O iu (S1 BN (i:=n) (by omega)) (by rw[<-List.map_take];exact WN _) (by omega) (by simp only[maxLen];omega)) ?_;rintro v5' w8 ⟨fg,aV,kR,-⟩;have mP:=fg.oneV;refine NF O$ NC O$ NT O O$ qV (WA Ob NV O O (by omega) hI.cl)$ NF O$ Ny$ NC O$ OI O O$ Nz O$ NB ?_;rw[show ref2.length-n=(ref2.drop n).length by rw[List.length_drop]];refine(ih (i+1,rs2,ref2.drop n,_,sc2-n,v5',O_++ref2.take n,_) _ (ek v5' _ ?_ ?_ aV) (by dsimp only;simp)).qb
    ·rw[List.length_append,List.map_append,List.length_take,Nat.min_eq_left (by omega),List.map_take];exact fg
    ·intro g hg;rcases kR g hg with e| e
     ·exact hI.fr g e
     ·omega
   ·have e2:(i%2==0)=false:=by simp;omega
    simp only[e2,Bool.false_eq_true,if_false,List.append_nil] at ek;refine An$ NC O$ NT O O$ qV (WA Ob NV O O (by omega) hI.cl)$ NF O$ Ny$ NC O$ OI O O$ Nz O$ NB ?_;rw[show ref2.length-n=(ref2.drop n).length by rw[List.length_drop]];exact(ih (i+1,rs2,ref2.drop n,_,sc2-n,v5,O_,_) _ (ek v5 _ iu hI.fr (Kp.refl _ _)) (by dsimp only;simp)).qb
  ·have fm:rs2=[]:=List.eq_nil_of_length_eq_zero (by omega);subst fm;have My:rs.length=i:=by rw[aA];simp
   have kd:=hI.z3p;have dR:=hI.eq;rw[copyL] at dR;rw[show(O5 (P7 i [])).length=0 from rfl,Nat.add_zero] at kd;refine NL O$ py$ qN O$ Nz O$ qV (W8 O O (by omega) (by omega)) ?_;rw[Nat.and_one_is_mod];refine Px O O$ NB$ NN O (λe1=>?_)$ λe1=>?_
   ·rw[if_pos (by simp;omega)] at dR;refine NC O$ NT O O$ NK O O (pap Ob NV O (by decide) O O hI.sl (hI.rd _ hI.kp) (WN _) (by omega) (by simp only[maxLen];omega)) ?_;rintro v5' w8 ⟨fg,aV,kR,-⟩;have mP:=fg.oneV;refine NQ O$ qM O$ Nz O$ NF O$ NA func223 O ?_;rw[dR,<-kd];have AA:=hI.kp.size;have pi:∀x,x<w.heap.size->¬v5.ownBlock=some x:=λx hx e=>by have:=hI.fr x e;omega
    refine⟨_,rfl,?_,λg hg=>?_,⟨aV.ND hI.tk.ND (pi t h.ND.lt),⟨aV.ND hI.tk.rd.1 (pi r h.rd.1.lt),hI.tk.rd.2⟩,hI.tk.ne⟩,hI.kp.Nv aV (λk hk=> .inl (hI.fr k hk))⟩
    ·rw[List.length_append,List.map_append];exact fg
    ·rcases kR g hg with e| e
     ·exact hI.fr g e
     ·omega
   ·rw[if_neg (by simp;omega),List.append_nil] at dR;refine An$ qN O$ Nz O$ NF O$ NA func223 O ?_;rw[dR,<-kd];exact⟨_,rfl,hI.sl,hI.fr,hI.tk,hI.kp⟩
structure ReI (w w1:World)(t r:Nat)(s:NH)(l:List Nat)(x k:Nat)(rest:List Bool)(aE b7:Nat)(dn l2:List Nat)(v9:Value)(a:Nat)(w':World):Prop where
 tk:TkM w' t r s a
 kp:Kp (λk=>k=t\/k=r) w w'
 b7:NM w' b7 (QX (.zeta k)) 260
 sl:Sl w' v9 46 1 dn.length (dn.map Oe)
 fr:∀g,v9.ownBlock=some g->w1.heap.size<=g
 eq:l=dn++l2
 bits:(O0 s).drop a=O5 (OE x k dn.getLast? l2)++rest
 z3p:a+(O5 (OE x k dn.getLast? l2)).length=aE
 siz:w1.heap.size<=w'.heap.size
theorem z48 {w:World}{t r a:Nat}{s:NH}(h:TkM w t r s a)(x k:Nat)(hx:x<65536)(hk:1<=k/\k<=16)(l:List Nat)(hl:Ov l)(rest:List Bool)(hb:(O0 s).drop a=O5 (OE x k none l)++rest):
  Oa prog 225 [ptr t 0,I (x:Int),I (l.length:Int),cdV (.zeta k)] w λu w'=>Sl w' u 46 1 l.length (l.map Oe)/\(∀g,u.ownBlock=some g->w.heap.size<=g)/\
   TkM w' t r s (a+(O5 (OE x k none l)).length)/\Kp (λk=>k=t\/k=r) w w':=by
 have aA:=hl.len
 have lt0:=h.ND.lt
 have lr0:=h.rd.1.lt
 refine Nu (e:=[(0,_),(1,_),(2,_),(3,_)]) func225 O ntmps225 O O$ qN O$ NK O O (PW O (cs:=QX (.zeta k)) O) ?_
 rintro _ w1 ⟨b7,rfl,kO,ad,bj⟩
 have h1:=h.ext ad
 have z1:=ad.size
 have GU:=bj.lt
 refine NQ O$ qM O$ NF O$ py$ qN O$ NT O O$ NB$ Nw$ Qb (α:=List Nat×List Nat×Value×Nat) (([],l,.slice none 0 0,a)) (λy=>[(0,ptr t 0),(1,I (x:Int)),(7,ptr b7 0),(9,y.2.2.1),(12,I (l.length:Int)),(13,I (y.1.length:Int))]) (λy w'=>ReI w w1 t r s l x k rest (a+(O5 (OE x k none l)).length) b7 y.1 y.2.1 y.2.2.1 y.2.2.2 w') (λy=>y.2.1.length) ?hI ?hround
 case hI=>exact⟨h1,ad.kp,bj,Sl.nil _ _ _,(λg h=>by cases h),rfl,hb,rfl,Nat.le_refl _⟩
 case hround =>
  rintro⟨dn,l2,v9,a2⟩ w6 hI ih;dsimp only at hI;have dR:=hI.eq;have fG:l.length=dn.length+l2.length:=by rw[dR,List.length_append]
  try dsimp only
  refine qN O$ Pb O O$ NB$ py$ NN O (λh0=>?_)$ λh0=>?_
  ·obtain⟨y,l2,rfl⟩:∃y q,l2=y::q:=by
    cases l2 with
    |nil=>simp at fG;omega
    |cons y q=>exact⟨y,q,rfl⟩
   rw[List.length_cons] at fG;have nw:y<65536:=hl.lt y (by rw[dR];simp);have aR:=hI.b7;have c6:=hI.bits;have kd:=hI.z3p
   have key:∃v:Nat,OE x k dn.getLast? (y::l2)=(.zeta k,v)::OE x k (dn++[y]).getLast? l2/\v<=262144/\(dn=[]->v=zig ((y:Int)-x))/\∀u q,dn=q++[u]->v+(u+1)=y:=by
    rw[List.getLast?_append,show [y].getLast? =some y from rfl,Option.some_or];rcases List.eq_nil_or_concat dn with rfl|⟨q,u,rfl⟩
    ·refine⟨_,rfl,?_,λ_=>rfl,λu q e=>by simp at e⟩;have:=XY (z:=(y:Int)-x) (n:=65536) (by omega) (by omega);omega
    ·have hu:u<y:=by
      have hr:=hl.Yf;rw[dR] at hr;exact(List.pairwise_append.1 hr).2.2 u (by simp) y (by simp)
     refine⟨y-u-1,?_,by omega,λe=>by simp at e,λu2 q2 e=>?_⟩
     ·have e1:(q.concat u).getLast? =some u:=by simp
      rw[e1];rfl
     ·have e2:q++[u]=q2++[u2]:=by simpa using e
      have:=(List.append_inj' e2 O).2;simp at this;omega
   obtain⟨v,fM,iz,vF,nx⟩:=key;rw[fM,OU,List.append_assoc] at c6;rw[fM,OU,List.length_append] at kd;refine An$ py$ Nw$ qN O$ Nz O$ NQ O$ qM O$ Nz O$ qV (Oh (news:=QX (.zeta k)) R8 O PB O (aR.cells (n:=2) O) O)$ NZ z0S O (T3 hI.tk (.zeta k) v 262144 hk (by simp only[Cd.most];omega) iz (by omega) _ c6) ?_;rintro _ w7 ⟨rfl,h7,ax⟩;have iy:Kp (λk=>k=t\/k=r) w w7:=hI.kp.trans (ax.NR λk e=> .inr e);have fw:=QU c6;have iu:=hI.sl.kp ax (λg hg e=>by have:=hI.fr g hg;omega);have BO:=ax.ND aR (by omega);have GT:=hI.siz;have AA:=ax.size;refine NF O$ py$ qN O$ Nz O$ Px O O$ NB$ Oy (λe' w'=>w'=w7/\e'=[(0,ptr t 0),(1,I (x:Int)),(7,ptr b7 0),(9,v9),(11,I (y:Int)),(12,I (l.length:Int)),(13,I (dn.length:Int))]) ?nj$ λnj=>?nl
   case nj=>
    rintro e' w7 ⟨rfl,rfl⟩;have iv:=h7.ND;refine py$ qN O$ NT O O$ O8 O$ NO Sm O$ qV (NJ U4 O O iv O)$ NT O O$ NZ z6e O (Uo y nw _) ?_;rintro _ w8 ⟨rfl,rfl⟩;refine qV ((Qr O))$ OC O O$ O8 O$ NO Sm O$ NP O (PA Tf O O O iv (by simp)) ?_;rintro w8 ⟨ck,aV⟩;replace ck:NM w8 t [ptr r 0,.bool false] 316:=ck;refine qM O$ Nz O$ O8 O$ NO Sm O$ qV (NJ U4 O O ck O)$ NB$ It O$ An$ NC O$ NT O O$ qV (SJ O U3 OX) ?_;rw[Nat.mod_eq_of_lt (show y<4294967296 by omega)];refine NK O O (Ur (cs:=[_]) (zs:=[Value.int .u32 0]) Ob NV O (by kernel_rfl) O O O (by decide)) ?_;rintro _ w9 ⟨b9,rfl,⟨mS,dE,cB⟩,wV⟩;have pi:∀g,v9.ownBlock=some g->¬g=t:=λg hg e=>by have:=hI.fr g hg;omega
    have iZ:∀g,v9.ownBlock=some g->¬g=r:=λg hg e=>by have:=hI.fr g hg;omega
    have GV:=aV.size;have GW:=dE.size;refine NK O O (pap Ob NV O (by decide) O O ((iu.kp aV pi).ext dE) wV.rd (by intro c hc;simp at hc;subst hc;rfl) (by omega) (by simp only[maxLen];omega)) ?_;rintro v10 w10 ⟨bz,au,BP,-⟩;have mP:=bz.oneV;refine NF O$ Ny$ NC O$ OI O O$ Nz O$ NB ?_;have sX:∀g,g<w1.heap.size->¬v9.ownBlock=some g:=λg hg e=>by have:=hI.fr g e;omega
    rw[show(dn.length:Int)+1=((dn++[y]).length:Int) by simp];refine(ih (dn++[y],l2,v10,a2+(Cd.enc (.zeta k) v).length) _ ⟨⟨au.ND (dE.ND ck) (sX t (by omega)),⟨au.ND (dE.ND (aV.ND h7.rd.1 (λe=>h7.ne e.symm))) (sX r (by omega)),h7.rd.2⟩,h7.ne⟩,?_,?_,?_,?_,?_,fw,?_,?_⟩ (by dsimp only;simp)).qb
    ·exact((iy.trans (aV.NR λk e=> .inl e)).trans dE.kp).Nv au (λg hg=> .inl (by have:=hI.fr g hg;omega))
    ·exact au.ND (dE.ND (aV.ND BO (by omega))) (sX b7 (by omega))
    ·rw[List.length_append,List.map_append];exact bz
    ·intro g hg;rcases BP g hg with e| e
     ·exact hI.fr g e
     ·omega
    ·rw[dR,List.append_assoc];rfl
    ·dsimp only at kd⊢;omega
    ·have:=au.size;omega
   case nl=>
    refine NN O (λe1=>?_)$ λe1=>?_
    ·have fm:dn=[]:=List.eq_nil_of_length_eq_zero (by omega);refine NC O$ Nz O$ qV (OM O U3 Qe (by omega))$ NZ zcX O (z5O v (by omega) _) ?_;rintro _ w8 ⟨rfl,rfl⟩;rw[vF fm,z6K];refine Nz O$ OI O O ?_;rw[show(y:Int)-x+x=(y:Int) by omega];refine NF O ?_;exact(nj _ _ ⟨rfl,rfl⟩).qb
    ·obtain⟨q,u,rfl⟩:∃q u,dn=q++[u]:=by
      rcases List.eq_nil_or_concat dn with rfl|⟨q,u,rfl⟩
      ·exact absurd O e1
      ·exact⟨q,u,by simp⟩
     have GX:=nx u q O;have sT:(q++[u]).length=q.length+1:=by simp
     rw[sT] at iu;rcases iu.shape with⟨-,h0⟩|⟨g,c1,rfl,dH⟩
     ·omega
     refine NC O$ NT O O$ Nz O$ Qc O O ?_;rw[show(((q++[u]).length:Nat):Int)-1=(q.length:Int) by simp];refine qV (OH Ob NV O O (by omega))$ qV (Oi OX O O (P6 iu.rd (show((q++[u]).map Oe)[q.length]? =some (Oe u) by simp))) ?_;refine qV (Ow O OX U3 (by omega))$ OI O O$ OI O O ?_;rw[show(v:Int)+((u:Int)+1)=(y:Int) by omega];refine NF O ?_;exact(nj _ _ ⟨rfl,rfl⟩).qb
  ·have fm:l2=[]:=List.eq_nil_of_length_eq_zero (by omega);subst fm;refine NL O$ qN O$ Nz O$ NF O$ NA func225 O ?_;rw[List.append_nil] at dR;subst dR;have kd:=hI.z3p;rw[show(O5 (OE x k l.getLast? [])).length=0 by cases l.getLast?<;>rfl,Nat.add_zero] at kd;rw[<-kd];exact⟨_,rfl,hI.sl,λg hg=>by have:=hI.fr g hg;omega,hI.tk,hI.kp⟩
section
variable {P:Program}{b:Frame}{a:Act}{k:List Item}{cs:List Frame}{w:World}{C:Cx}{e:Env}
theorem z36 {c:Code}:step P (lone (b.atR a (.code (.scope c)::k)) cs w)= .next (lone (b.atR a (.code c:: .inScope c::k)) cs w):=
 step_lone_go (by simp[stepG,stepG.exec,Frame.atR])
theorem z8q {c:Code}(h:Of C (.code c:: .inScope c::k) e w):Of C (.code (.scope c)::k) e w:=λa ha=>Va.step (λ_ _=>z36) (h a ha)
end
def loE:Option Nat->Nat
 |none=>0
 |some z=>z+2
def z4Z:Option Nat->Int
 |none=>-1
 |some z=>(z:Int)
def Tb (x:Nat):Option Nat->Nat->Nat
 |none,y=>zig ((y:Int)-x)
 |some e,y=>y-e-2
theorem Qo (x least:Nat)(e:Option Nat)(p:Nat×Nat)(R:List (Nat×Nat)):OD x least e (p::R)=(.gamma,Tb x e p.1)::(.gamma,p.2-least)::OD x least (some (p.1+p.2-1)) R:=by
 cases e<;>rfl
structure LoI (w:World)(t r:Nat)(s:NH)(R:List (Nat×Nat))(x least left:Nat)(rest:List Bool)(aE:Nat)(i:Nat)(R2:List (Nat×Nat))(e:Option Nat)(O_:List Nat)(v9:Value)(a:Nat)(w':World):Prop where
 tk:TkM w' t r s a
 kp:Kp (λk=>k=t\/k=r) w w'
 sl:Sl w' v9 46 1 O_.length (O_.map Oe)
 fr:∀g,v9.ownBlock=some g->w.heap.size<=g
 len:R.length=i+R2.length
 eq:PJ R=O_++PJ R2
 ok:Rx least (loE e) R2
 hi:∀p∈R2,p.1+p.2<=65536
 tot:O_.length+(PJ R2).length<=left
 bits:(O0 s).drop a=O5 (OD x least e R2)++rest
 z3p:a+(O5 (OD x least e R2)).length=aE
 eb:z4Z e<65536
theorem z7b {w : World}{t r a : Nat}{s : NH}(h : TkM w t r s a)(hG : NM w 0 (QX .gamma) 260)(df : ¬ 0 = r)(ny : ¬ 0 = t)(x left least : Nat)(hx : x < 65536)(rD : left <= 65536)(BQ : least <= 64)(R : List (Nat × Nat))(hR : Rx least 0 R)(IC : ∀ p ∈ R, p.1 + p.2 <= 65536)
  (wU:(PJ R).length<=left) (ID:R.length<=left) (rest:List Bool) (hb:(O0 s).drop a=O5 ((.gamma,R.length)::OD x least none R)++rest):
  Oa prog 224 [ptr t 0,I (x:Int),I (left:Int),I (least:Int)] w λu w'=>Sl w' u 46 1 (PJ R).length ((PJ R).map Oe)/\(∀g,u.ownBlock=some g->w.heap.size<=g)/\
   TkM w' t r s (a+(O5 ((.gamma,R.length)::OD x least none R)).length)/\Kp (λk=>k=t\/k=r) w w':=by
 have jH:∀v:Nat,v<=262144->v<=Cd.most .gamma:=λv hv=>by simp only[Cd.most];omega
 have lt0:=h.ND.lt
 have lr0:=h.rd.1.lt
 refine Nu (e:=[(0,_),(1,_),(2,_),(3,_)]) func224 O ntmps224 O O$ qN O$ NF O$ z8q$ qN O$ NQ O$ qM O$ NF O$ py$ z6W$ py$ qN O$ Nz O$ qV (Oh (news:=[.int .u8 1,NW 0]) R8 O PB O (hG.cells (n:=2) O) O) ?_
 rw[OU,List.append_assoc] at hb
 refine Nz O$ NZ z0S O (T3 h .gamma R.length left trivial (jH _ (by omega)) ID (by omega) _ hb) ?_
 rintro _ w1 ⟨rfl,h1,aM⟩
 have bN:=QU hb
 refine Nz O$ NB$ Nw$ Qb (α:=Nat×List (Nat×Nat)×Option Nat×List Nat×Value×Nat) ((0,R,none,[],.slice none 0 0,a+(Cd.enc .gamma R.length).length)) (λy=>[(0,ptr t 0),(1,I (x:Int)),(2,I (left:Int)),(3,I (least:Int)),(9,y.2.2.2.2.1),(10,I (z4Z y.2.2.1)),(17,I (R.length:Int)),(18,I (y.1:Int))]) (λy w'=>LoI w t r s R x least left rest (a+(O5 ((.gamma,R.length)::OD x least none R)).length) y.1 y.2.1 y.2.2.1 y.2.2.2.1 y.2.2.2.2.1 y.2.2.2.2.2 w') (λy=>y.2.1.length) ?hI ?hround
 case hI=>exact⟨h1,aM.NR λk e=> .inr e,Sl.nil _ _ _,(λg h=>by cases h),by simp,rfl,hR,IC,by simpa using wU,bN,by rw[OU,List.length_append];dsimp only;omega,(show(-1:Int)<65536 by decide)⟩
 case hround =>
  rintro⟨i,R2,e,O_,v9,a2⟩ w6 hI ih;dsimp only at hI;have aA:=hI.len
  try dsimp only
  refine qN O$ Pb O O$ NB$ py$ NN O (λh0=>?_)$ λh0=>?_
  ·obtain⟨⟨p1,p2⟩,R2,rfl⟩:∃p q,R2=p::q:=by
    cases R2 with
    |nil=>simp at aA;omega
    |cons p q=>exact⟨p,q,rfl⟩
   rw[List.length_cons] at aA;obtain⟨ok1,ok2,ok3,ok4⟩:loE e<=p1/\1<=p2/\least<=p2/\Rx least (p1+p2+1) R2:=hI.ok;have Mz:p1+p2<=65536:=hI.hi (p1,p2) List.mem_cons_self;have ic:PJ ((p1,p2)::R2)=(List.range p2).map (p1+·)++PJ R2:=rfl;have rE:=hI.tot;have wW:=hI.eq;rw[ic] at rE wW;rw[List.length_append,List.length_map,List.length_range] at rE;have c6:=hI.bits;have kd:=hI.z3p;rw[Qo,OU,OU,List.append_assoc,List.append_assoc] at c6;rw[Qo,OU,OU,List.length_append,List.length_append] at kd;have BR:=hI.eb
   have fM:Tb x e p1<=262144:=by
    cases e with
    |none=>have:=XY (z:=(p1:Int)-x) (n:=65537) (by omega) (by omega);show zig _<=_;omega
    |some z=>show p1-z-2<=_;omega
   have cZ:∀k,(λk=>k=t\/k=r) k->k<w.heap.size:=λk hk=>by rcases hk with e|e<;>omega
   have AD:=hI.kp.ND hG (λe=>by rcases e with e|e;exact ny e;exact df e);refine An$ py$ Nw$ qN O$ Nz O$ qV (Oh (news:=[.int .u8 1,NW 0]) R8 O PB O (AD.cells (n:=2) O) O)$ NZ z0S O (T3 hI.tk .gamma (Tb x e p1) 262144 trivial (jH _ fM) fM (by omega) _ c6) ?_;rintro _ w7 ⟨rfl,h7,ax⟩;have fw:=QU c6;have GT:=hI.kp.size;have AA:=ax.size;have GY:∀g,v9.ownBlock=some g->¬g=r:=λg hg e=>by have:=hI.fr g hg;omega
   have iu:=hI.sl.kp ax GY;have iy:Kp (λk=>k=t\/k=r) w w7:=hI.kp.trans (ax.NR λk e=> .inr e);refine NF O$ py$ qN O$ Nz O$ Pb O O$ NB$ Oy (λe' w'=>w'=w7/\e'=[(0,ptr t 0),(1,I (x:Int)),(2,I (left:Int)),(3,I (least:Int)),(9,v9),(11,I (p1:Int)),(17,I (R.length:Int)),(18,I (i:Int))]) ?nj$ λnj=>?nl
   case nj =>
    rintro e' w7 ⟨rfl,rfl⟩;have IE:=ax.ND AD df;refine qN O$ Nz O$ qV (Oh (news:=[.int .u8 1,NW 0]) R8 O PB O (IE.cells (n:=2) O) O)$ Nz O$ NZ z0S O (T3 h7 .gamma (p2-least) left trivial (jH _ (by omega)) (by omega) (by omega) _ fw) ?_;rintro _ w8 ⟨rfl,h8,aV⟩;have sY:=QU fw;have GV:=aV.size;have fg:=iu.kp aV GY;have pP:Kp (λk=>k=t\/k=r) w w8:=iy.trans (aV.NR λk e=> .inr e);obtain⟨va,vc,rfl,-⟩:=hI.sl.rd.shape;refine Nz O$ OI O O ?_;rw[show((p2-least:Nat):Int)+(least:Int)=(p2:Int) by omega];have ck:=h8.ND;refine NF O$ py$ qN O$ NT O O$ O8 O$ NO Sm O$ qV (NJ U4 O O ck O)$ NT O O$ Pb O O$ Ox$ OC O O$ NT O O$ Nz O$ OI O O ?_;refine P9 O O$ Ox$ OC O O$ NT O O$ NT O O$ Q0 Ob O$ Qc O O$ P9 O O$ Ox$ OC O O$ O8 O$ NO Sm O$ NP O (PA Tf O O O ck (by simp)) ?_;rintro w9 ⟨cB,aS⟩;replace cB:NM w9 t [ptr r 0,.bool false] 316:=cB;refine qM O$ Nz O$ O8 O$ NO Sm O$ qV (NJ U4 O O cB O) ?_;have GW:=aS.size;have wV:=fg.kp aS (λg hg e=>by have:=hI.fr g hg;omega);have h9:TkM w9 t r s (a2+(Cd.enc .gamma (Tb x e p1)).length+(Cd.enc .gamma (p2-least)).length):=⟨cB,⟨aS.ND h8.rd.1 (λe=>h8.ne e.symm),h8.rd.2⟩,h8.ne⟩;have BS:Kp (λk=>k=t\/k=r) w w9:=pP.trans (aS.NR λk e=> .inl e);refine NB$ It O$ An$ py$ qN O$ NT O O$ NB$ Nw$ Qb (α:=Nat×Value) ((0,.slice va O_.length vc)) (λy=>[(0,ptr t 0),(1,I (x:Int)),(2,I (left:Int)),(3,I (least:Int)),(9,y.2),(11,I (p1:Int)),(12,I (p2:Int)),(17,I (R.length:Int)),(18,I (i:Int)),(69,I (p2:Int)),(70,I (y.1:Int))]) (λy w'=>TkM w' t r s (a2+(Cd.enc .gamma (Tb x e p1)).length+(Cd.enc .gamma (p2-least)).length)/\Kp (λk=>k=t\/k=r) w w'/\Sl w' y.2 46 1 (O_.length+y.1) ((O_++(List.range y.1).map (p1+·)).map Oe)/\(∀g,y.2.ownBlock=some g->w.heap.size<=g)/\y.1<=p2) (λy=>p2-y.1) ?hI ?hround
    case hI=>exact⟨h9,BS,by simpa using wV,hI.fr,Nat.zero_le _⟩
    case hround=>
     rintro⟨j,v⟩ w10 ⟨fX,au,bz,aZ,hj⟩ ih2;dsimp only at fX au bz aZ hj
     try dsimp only
     refine qN O$ Pb O O$ NB$ py$ NN O (λkT=>?_)$ λkT=>?_
     ·refine An$ py$ Nw$ qN O$ Nz O$ NF O$ NC O$ NT O O$ Nz O$ OI O O$ qV (SJ O U3 OX) ?_;rw[show(p1+j)%4294967296=p1+j by omega];refine NK O O (Ur (cs:=[_]) (zs:=[Value.int .u32 0]) Ob NV O (by kernel_rfl) O O O (by decide)) ?_;rintro _ w11 ⟨b11,rfl,⟨jf,aQ,bA⟩,sZ⟩;have IF:=au.size;have IG:=aQ.size;refine NK O O (pap Ob NV O (by decide) O O (bz.ext aQ) sZ.rd (by intro c hc;simp at hc;subst hc;rfl) (by omega) (by simp only[maxLen];omega)) ?_;rintro v12 w12 ⟨cZ,aL,BT,-⟩;have mP:=cZ.oneV;refine NF O$ Ny$ NC O$ OI O O$ Nz O$ NB ?_;have wX:∀g,g<w.heap.size->¬v.ownBlock=some g:=λg hg e=>by have:=aZ g e;omega
      refine(ih2 (j+1,v12) _ ⟨⟨aL.ND (aQ.ND fX.ND) (wX t lt0),⟨aL.ND (aQ.ND fX.rd.1) (wX r lr0),fX.rd.2⟩,fX.ne⟩,(au.trans aQ.kp).Nv aL (λg hg=> .inl (aZ g hg)),?_,λg hg=>?_,by omega⟩ (by dsimp only;omega)).qb
      ·have e1:(O_++(List.range (j+1)).map (p1+·)).map Oe=(O_++(List.range j).map (p1+·)).map Oe++[Oe (p1+j)]:=by
        rw[List.range_succ];simp
       dsimp only;rw[e1];exact cZ
      ·rcases BT g hg with e| e
       ·exact aZ g e
       ·omega
     ·have IH:j=p2:=by omega
      subst IH;refine NL O$ NC O$ NT O O$ OI O O$ Qc O O$ NF O$ Ny$ NC O$ OI O O$ Nz O$ NB ?_;rw[show(p1:Int)+j-1=z4Z (some (p1+j-1)) by show _=((p1+j-1:Nat):Int);omega,show(i:Int)+1=((i+1:Nat):Int) by omega];refine(ih (i+1,R2,some (p1+j-1),O_++(List.range j).map (p1+·),v,_) _ ⟨fX,au,?_,aZ,by dsimp only;omega,by rw[wW,List.append_assoc],?_,λp hp=>hI.hi p (List.mem_cons_of_mem _ hp),?_,sY,?_,?_⟩ (by dsimp only;simp)).qb
      ·dsimp only;rw[List.length_append,List.length_map,List.length_range];exact bz
      ·refine ok4.mono ?_;show p1+j-1+2<=_;omega
      ·dsimp only;rw[List.length_append,List.length_map,List.length_range];omega
      ·dsimp only at kd⊢;omega
      ·show((p1+j-1:Nat):Int)<65536;omega
   case nl=>
    cases e with
    | none =>
      refine NN O (λe1=>?_)$ λe1=>?_
      ·refine NC O$ Nz O$ qV (OM O U3 Qe (by omega))$ NZ zcX O (z5O _ (by omega) _) ?_;rintro _ w8 ⟨rfl,rfl⟩;rw[show Tb x none p1=zig ((p1:Int)-x) from rfl,z6K];refine Nz O$ OI O O ?_;rw[show(p1:Int)-x+x=(p1:Int) by omega];refine NF O ?_;exact(nj _ _ ⟨rfl,rfl⟩).qb
      ·exact absurd (by decide) e1
    | some z =>
      refine NN O (λe1=>?_)$ λe1=>?_
      ·exact absurd e1 (by show ¬((z:Int)<0);omega)
      ·have hz:z+2<=p1:=ok1;refine NC O$ NT O O ?_;rw[show z4Z (some z)=(z:Int) from rfl];refine OI O O$ OI O O ?_;rw[show Tb x (some z) p1=p1-z-2 from rfl,show((p1-z-2:Nat):Int)+((z:Int)+2)=(p1:Int) by omega];refine NF O ?_;exact(nj _ _ ⟨rfl,rfl⟩).qb
  ·have fm:R2=[]:=List.eq_nil_of_length_eq_zero (by omega);subst fm;refine NL O$ qN O$ Nz O$ NF O$ NA func224 O ?_;have dR:=hI.eq;rw[show PJ []=[] from rfl,List.append_nil] at dR;have kd:=hI.z3p;rw[show(O5 (OD x least e [])).length=0 by cases e<;>rfl,Nat.add_zero] at kd;rw[dR,<-kd];exact⟨_,rfl,hI.sl,hI.fr,hI.tk,hI.kp⟩
def Pn (p:QB)(n r:Nat):List (Cd×Nat):=(.gamma,n)::if n=0 then [] else if 0<p.O6 then [(.unary,r)] else []
theorem z0L {w:World}{r a:Nat}{s:NH}(h:Sn w r s a)(p:QB)(hp:p.Pk)(hG:NM w 0 (QX .gamma) 260)(hU:NM w 1 (QX .unary) 260)(df:¬0=r)(dV:¬1=r)(n q:Nat)(hn:n<=65536)(hq:q<=p.O6)
  (nz:n=0->q=0) (rest:List Bool) (hb:(O0 s).drop a=O5 (Pn p n q)++rest):
  Oa prog 106 [ptr r 0,lpV p] w λu w'=>u= .tuple #[.agg #[I (n:Int),I (q:Int)],I 0]/\Sn w' r s (a+(O5 (Pn p n q)).length)/\Kp (λk=>k=r) w w':=by
 obtain⟨g1,g2,g3,g4⟩:=id hp
 have lr0:=h.1.lt
 have nA:p.O6=0->q=0:=λe=>by omega
 unfold Pn at hb⊢
 rw[OU,List.append_assoc] at hb
 refine Nu (e:=[(0,_),(1,_)]) func106 O ntmps106 O O$ qN O$ NK O O (PW O (cs:=YT p) O) ?_
 rintro _ w1 ⟨b3,rfl,dF,ad,ar⟩
 refine NK O O (Qk (cs:=[_,_]) QD O) ?_
 rintro _ w2 ⟨b4,rfl,ev,ag,aH⟩
 have z1:=ad.size
 have z2:=ag.size
 have da:=ag.ND ar
 refine NF O$ py$ Nw$ qN O$ Nz O$ qV (OP TN O O)$ NF O$ It O$ qN O$ qV (Oh (news:=YT p) Y4 O SK O (da.cells (n:=3) O) O)$ NZ z2y O (Sv p hp w2) ?_
 rintro _ w3 ⟨rfl,ah⟩
 refine P3 O O$ NQ O ?_
 have cI:=(ad.trans ag).trans ah
 have h3:Sn w3 r s a:=⟨cI.ND h.1,h.2⟩
 refine NB$ It O$ An$ Ny$ qN O$ Nz O$ NZ WO O (SL h3) ?_
 rintro _ w4 ⟨rfl,rfl⟩
 refine NQ O$ qM O$ Nz O$ qV (Oh (news:=[.int .u8 1,NW 0]) R8 O PB O ((cI.ND hG).cells (n:=2) O) O)$ NZ z9q O (Ye h3 .gamma n trivial (by simp only[Cd.most];omega) _ hb) ?_
 rintro _ w5 ⟨rfl,h5,ai⟩
 have ff:=QU hb
 have db:=ai.ND (ah.ND da) (by omega)
 have aN:=ai.ND (ah.ND aH) (by omega)
 have bX:Kp (λk=>k=r) w w5:=cI.kp.trans ai
 replace db:NM w5 b3 [I (p.O6:Int),I (p.interval:Int),I (p.zeta:Int)] 212:=db
 refine Nz O$ ON O O$ ON O O$ NQ O$ NQ O$ qM O$ NF O$ py$ qN O$ Nz O$ Px O O$ Nz O ?_
 rcases Nat.eq_zero_or_pos n with e0|e0
 ·have t8:=nz e0;subst e0;subst t8;refine Nz O$ P9 O O$ Ox$ Pc O O$ Nz O$ qS$ qS$ qS$ OC O O$ NB$ Of.qb (e:=[(0,_),(3,_),(4,_),(5,_),(6,_),(7,_),(8,_),(9,_),(37,_)]) ?_;refine It O$ An$ py$ qN O$ Nz O$ P3 O O$ NT O O$ P9 O O$ Ox$ OC O O$ NT O O$ NO RO O$ qV (NJ U3 O O db O)$ qV ((OM O U3 Qe (by omega))) ?_;refine P9 O O$ Ox$ OC O O$ NB$ It O$ An$ qN O$ Nz O$ qV (Ow O Qe U3 (by omega))$ Nz O$ qV (Ow O Qe U3 (by omega))$ qV (QP (cs:=[_,_]) QD O za0 O O)$ NP O (OA (news:=[I ((0:Nat):Int),I (((0:Nat)):Int)]) QD O O O O aN (by simp)) ?_;rintro w9 ⟨bY,aS⟩;replace bY:NM w9 b4 [I ((0:Nat):Int),I (((0:Nat)):Int)] 157:=bY;refine NF O$ Of.qb (e:=[(4,_),(5,_)]) ?_;refine O9 func106 (.cell z2o O QD O (NM.cells (n:=2) bY (news:=[_,_]) O) O (.tmp O .nil)) ?_;rw[if_pos O,show(O5 [((.gamma,0):Cd×Nat)]).length=(Cd.enc .gamma 0).length by rw[OU,List.length_append];rfl];refine⟨_,rfl,rfl,⟨aS.ND h5.1 (by omega),h5.2⟩,bX.Nv aS (λk e=> .inl (by omega))⟩
 ·rw[if_neg (by omega)] at ff⊢;rcases Nat.eq_zero_or_pos p.O6 with e1|e1
  ·have t8:=nA e1;subst t8;rw[if_neg (by omega)] at ff⊢;refine Nz O$ P9 O O$ PE$ Pc O O$ Nz O$ NO RO O$ qV (NJ U3 O O db O)$ P9 O O$ Ox$ Pc O O$ NB$ Of.qb (e:=[(0,_),(3,_),(4,_),(5,_),(6,_),(7,_),(8,_),(9,_),(37,_)]) ?_;refine It O$ An$ py$ qN O$ Nz O$ P3 O O$ NT O O$ P9 O O$ Ox$ OC O O$ NT O O$ NO RO O$ qV (NJ U3 O O db O)$ qV ((OM O U3 Qe (by omega))) ?_;refine P9 O O$ Ox$ OC O O$ NB$ It O$ An$ qN O$ Nz O$ qV (Ow O Qe U3 (by omega))$ Nz O$ qV (Ow O Qe U3 (by omega))$ qV (QP (cs:=[_,_]) QD O za0 O O)$ NP O (OA (news:=[I (n:Int),I (((0:Nat)):Int)]) QD O O O O aN (by simp)) ?_;rintro w9 ⟨bY,aS⟩;replace bY:NM w9 b4 [I (n:Int),I (((0:Nat)):Int)] 157:=bY;refine NF O$ Of.qb (e:=[(4,_),(5,_)]) ?_;refine O9 func106 (.cell z2o O QD O (NM.cells (n:=2) bY (news:=[_,_]) O) O (.tmp O .nil)) ?_;rw[show(O5 [((.gamma,n):Cd×Nat)]).length=(Cd.enc .gamma n).length by rw[OU,List.length_append];rfl];refine⟨_,rfl,rfl,⟨aS.ND h5.1 (by omega),h5.2⟩,bX.Nv aS (λk e=> .inl (by omega))⟩
  ·rw[if_pos e1] at ff⊢;rw[OU,List.append_assoc] at ff;refine Nz O$ P9 O O$ PE$ Pc O O$ Nz O$ NO RO O$ qV (NJ U3 O O db O)$ P9 O O$ PE$ Pc O O$ NB$ Of.qb (e:=[(0,_),(3,_),(4,_),(5,_),(6,_),(7,_),(8,_),(9,_),(37,_)]) ?_;refine NI O$ NC O$ Nz O$ qV (Oh (news:=[.int .u8 0,NW 0]) R8 O PB O ((bX.ND hU dV).cells (n:=2) O) O)$ NZ z9q O (Ye h5 .unary q trivial (by simp only[Cd.most];omega) _ ff) ?_;rintro _ w6 ⟨rfl,h6,aP⟩;have lP:=aP.ND db (by omega);have bZ:=aP.ND aN (by omega);have ta:=bX.trans aP;refine Nz O$ ON O O$ ON O O$ NQ O$ NF O$ py$ qN O$ Nz O$ P3 O O$ NT O O$ P9 O O$ Ox$ OC O O$ NT O O ?_;refine NO RO O$ qV (NJ U3 O O lP O)$ qV ((OM O U3 Qe (by omega)))$ P9 O O$ Ox$ OC O O$ NB$ Of.qb (e:=[(0,_),(4,_),(5,_),(6,_),(7,_),(9,_),(56,_)]) ?_;refine It O$ An$ qN O$ Nz O$ qV (Ow O Qe U3 (by omega))$ Nz O$ qV (Ow O Qe U3 (by omega))$ qV (QP (cs:=[_,_]) QD O za0 O O)$ NP O (OA (news:=[I (n:Int),I (q:Int)]) QD O O O O bZ (by simp)) ?_;rintro w9 ⟨bY,aS⟩;replace bY:NM w9 b4 [I (n:Int),I (q:Int)] 157:=bY;refine NF O$ O9 func106 (.cell z2o O QD O (NM.cells (n:=2) bY (news:=[_,_]) O) O (.tmp O .nil)) ?_;rw[show(O5 [((.gamma,n):Cd×Nat),(.unary,q)]).length=(Cd.enc .gamma n).length+(Cd.enc .unary q).length by rw[OU,OU,List.length_append,List.length_append];rfl,<-Nat.add_assoc];refine⟨_,rfl,rfl,⟨aS.ND h6.1 (by omega),h6.2⟩,ta.Nv aS (λk e=> .inl (by omega))⟩
structure Pa where
 O6:Nat
 chain:Nat
 interval:Nat
 zeta:Nat
 most:Nat
def Pa.list (p:Pa):QB:=⟨p.O6,p.interval,p.zeta⟩
def Pa.Pk (p:Pa):Prop:=p.list.Pk/\p.chain<=16/\p.most<=65536
def TR (p:Pa):List Value:=[I (p.O6:Int),I (p.chain:Int),I (p.interval:Int),I (p.zeta:Int),I (p.most:Int)]
abbrev bpV (p:Pa):Value:= .agg (TR p).toArray
theorem Rv (p:Pa)(w:World):Oa prog 107 [bpV p] w λu w'=>u=lpV p.list/\Ext w w':=by
 refine Nu (e:=[(0,_)]) func107 O ntmps107 O O$ qN O$ NK O O (PW O (cs:=TR p) O) ?_
 rintro _ w1 ⟨b1,rfl,bN,ad,aj⟩
 refine NK O O (Qk (cs:=[_,_,_]) SK O) ?_
 rintro _ w2 ⟨b2,rfl,bQ,ag,am⟩
 have bq:=ag.ND aj
 replace bq:NM w2 b1 [I (p.O6:Int),I (p.chain:Int),I (p.interval:Int),I (p.zeta:Int),I (p.most:Int)] 88:=bq
 refine qM O$ NO z0d O$ qV (NJ U3 O O bq O)$ NO z9C O$ qV (NJ U3 O O bq O)$ NO z9F O$ qV (NJ U3 O O bq O)$ qV (QP (cs:=[_,_,_]) SK O zeH O O)$ NP O (OA (news:=[I (p.O6:Int),I (p.interval:Int),I (p.zeta:Int)]) SK O O O O am (by simp)) ?_
 rintro w3 ⟨cX,aw⟩
 replace cX:NM w3 b2 [I (p.O6:Int),I (p.interval:Int),I (p.zeta:Int)] 212:=cX
 refine NB$ O9 func107 (.cell Y4 O SK O (NM.cells (n:=3) cX (news:=[_,_,_]) O) O .nil) ?_
 have z1:=ad.size
 exact⟨_,rfl,rfl,(ad.trans ag).Nv aw (λk e=>by omega)⟩
theorem YN (p:Pa)(hp:p.Pk)(w:World):Oa prog 156 [bpV p] w λu w'=>u=I 0/\Ext w w':=by
 obtain⟨g1,g2,g3⟩:=hp
 refine Nu (e:=[(0,_)]) func156 O ntmps156 O O$ qN O$ NK O O (PW O (cs:=TR p) O) ?_
 rintro _ w1 ⟨b1,rfl,bN,ad,aj⟩
 have fx:NM w1 b1 [I (p.O6:Int),I (p.chain:Int),I (p.interval:Int),I (p.zeta:Int),I (p.most:Int)] 88:=aj
 refine NF O$ py$ qN O$ NO XF O$ qV (NJ U3 O O fx O)$ Pb O O$ Ox$ Nz O$ NO XF O$ qV (NJ U3 O O fx O)$ P9 O O$ Ox$ OC O O$ Nz O ?_
 refine NO Sd O$ qV (NJ U3 O O fx O)$ Pb O O$ Ox$ OC O O$ Nz O$ NO Sd O$ qV (NJ U3 O O fx O)$ P9 O O$ Ox$ OC O O$ NB$ It O$ An ?_
 refine qN O$ qV (Oh U88 O Qm O (NM.cells (n:=5) fx (news:=[_,_,_,_,_]) O) O)$ NZ Zg O (Rv p w1) ?_
 rintro _ w2 ⟨rfl,ag⟩
 refine NZ z2y O (Sv p.list g1 w2) ?_
 rintro _ w3 ⟨rfl,ah⟩
 refine NF O$ NA func156 O ?_
 exact⟨_,rfl,rfl,(ad.trans ag).trans ah⟩
structure Ri (w:World)(g n cap:Nat)(d:Array Nat):Prop where
 sl:Sl w (.slice (some ⟨g,0,none⟩) n cap) 46 1 n (d.toList.map Oe)
 size:d.size=n
abbrev Pt (x y:Nat):Bool:=decide (x<y)
theorem Xo:Go.Sort.SWO Pt:=⟨λx=>by simp[Pt],λx y z h1 h2=>by simp[Pt] at*;omega,λx y z h1 h2=>by simp[Pt] at*;omega⟩
section
variable {w w':World}{g n cap:Nat}{d:Array Nat}{S:Nat->Prop}
theorem Ri.ext (h:Ri w g n cap d)(k:Ext w w'):Ri w' g n cap d:=⟨h.sl.ext k,h.size⟩
theorem Ri.kp (h:Ri w g n cap d)(k:Kp S w w')(hg:¬S g):Ri w' g n cap d:=⟨h.sl.kp k (λg' e=>by cases e;exact hg),h.size⟩
theorem Ri.get {i:Nat}(h:Ri w g n cap d)(hi:i<n):w.cell? ⟨g,0+i*1,none⟩=some (Oe d[i]!):=by
 have hs:=h.size
 refine P6 h.sl.rd ?_
 rw[List.getElem?_map,Array.getElem?_toList,Array.getElem?_eq_getElem (by omega)]
 rw[getElem!_pos d i (by omega)]
 rfl
theorem Ri.Z8 {j:Nat}(h:Ri w g n cap d)(hj:j<n):j<(d.toList.map Oe).length:=by
 have hs:=h.size
 rw[List.length_map,Array.length_toList];omega
theorem Ri.set {i y:Nat}(h:Ri w g n cap d)(hS:Sl w' (.slice (some ⟨g,0,none⟩) n cap) 46 1 n ((d.toList.map Oe).set (0+i*1) (Oe y))):Ri w' g n cap (d.setIfInBounds i y):=by
 refine⟨?_,by rw[Array.size_setIfInBounds,h.size]⟩
 rw[Array.toList_setIfInBounds,List.map_set]
 rw[show 0+i*1=i by omega] at hS
 exact hS
end
theorem z6N (x:Nat)(w:World):Oa prog 256 [Oe x] w λu w'=>u= .bool false/\w'=w:=by
 refine Nu (e:=[(0,_)]) func256 O ntmps256 O O$ qN O$ NQ O$ qM O$ NT O O$ P3 O O$ NF O$ NA func256 O ?_
 exact⟨_,rfl,by simp[OR],rfl⟩
theorem QA (x y:Nat)(w:World):Oa prog 247 [Oe x,Oe y] w λu w'=>u= .bool (Pt x y)/\w'=w:=by
 refine Nu (e:=[(0,_),(1,_)]) func247 O ntmps247 O O$ qN O$ NQ O$ qM O$ Nz O$ NZ zgc O (z6N x w) ?_
 rintro _ w ⟨rfl,rfl⟩
 refine Nz O$ qS$ qS$ qS$ OC O O$ NT O O$ Nz O$ Pb O O$ OC O O$ NF O$ NA func247 O ?_
 exact⟨_,rfl,by simp[Pt,OR],rfl⟩
section
variable (a b j i:Nat)(d:Array Nat)
theorem z2G (hj:a<j)(hl:Pt d[j]! d[j-1]! =true):Go.Sort.insInner Pt a j d=Go.Sort.insInner Pt a (j-1) (Go.Sort.swp d j (j-1)):=by
 obtain⟨k,rfl⟩:∃k,j=k+1:=⟨j-1,by omega⟩
 rw[Go.Sort.insInner]
 simp only[Nat.add_sub_cancel] at hl⊢
 rw[if_pos]
 rw[Bool.and_eq_true];exact⟨by simpa using hj,hl⟩
theorem W1 (h:j<=a\/Pt d[j]! d[j-1]! =false):Go.Sort.insInner Pt a j d=d:=by
 cases j with
 |zero=>rw[Go.Sort.insInner]
 | succ k =>
   rw[Go.Sort.insInner];simp only[Nat.add_sub_cancel] at h;rw[if_neg];intro hc;rw[Bool.and_eq_true] at hc;rcases h with h| h
   ·have:=of_decide_eq_true hc.1;omega
   ·rw[h] at hc;cases hc.2
theorem z2p (h:i<b):Go.Sort.insOuter Pt a b i d=Go.Sort.insOuter Pt a b (i+1) (Go.Sort.insInner Pt a i d):=by rw[Go.Sort.insOuter,if_pos h]
theorem z0C (h:¬i<b):Go.Sort.insOuter Pt a b i d=d:=by rw[Go.Sort.insOuter,if_neg h]
end
theorem z0D {w:World}{g n cap:Nat}{d:Array Nat}(h:Ri w g n cap d)(a b:Nat)(jC:a<=b)(hb:b<=n)(hn:n<=65536):
  Oa prog 241 [.slice (some ⟨g,0,none⟩) n cap,I (a:Int),I (b:Int)] w λu w'=>u= .tuple #[]/\Ri w' g n cap (Go.Sort.insertionSort Pt d a b)/\Kp (λk=>k=g) w w':=by
 refine Nu (e:=[(0,_),(1,_),(2,_)]) func241 O ntmps241 O O$ qN O$ Nz O$ OI O O$ NF O$ Nw$ Qb (α:=Nat×Array Nat) ((a+1,d)) (λy=>[(0,.slice (some ⟨g,0,none⟩) n cap),(1,I (a:Int)),(2,I (b:Int)),(6,I (y.1:Int))]) (λy w'=>Ri w' g n cap y.2/\Kp (λk=>k=g) w w'/\Go.Sort.insOuter Pt a b y.1 y.2=Go.Sort.insertionSort Pt d a b/\a<y.1) (λy=>b-y.1) ?hI ?hround
 case hI=>exact⟨h,Kp.refl _ _,rfl,Nat.lt_succ_self a⟩
 case hround=>
  rintro⟨i,d4⟩ w4 ⟨en,ao,cC,lQ⟩ ih;dsimp only at en ao cC lQ
  try dsimp only
  refine py$ qN O$ NT O O$ Pb O O$ NB$ NN O (λh0=>?_)$ λh0=>?_
  ·rw[z2p _ _ _ _ (by omega)] at cC;refine An$ py$ Nw$ qN O$ Nz O$ NF O$ Nw$ Qb (α:=Nat×Array Nat) ((i,d4)) (λy=>[(0,.slice (some ⟨g,0,none⟩) n cap),(1,I (a:Int)),(2,I (b:Int)),(6,I (i:Int)),(7,I (y.1:Int))]) (λy w'=>Ri w' g n cap y.2/\Kp (λk=>k=g) w w'/\Go.Sort.insInner Pt a y.1 y.2=Go.Sort.insInner Pt a i d4/\y.1<=i/\a<=y.1) (λy=>y.1) ?hI ?hround
   case hI=>exact⟨en,ao,rfl,Nat.le_refl _,by dsimp only;omega⟩
   case hround=>
    rintro⟨j,d5⟩ w5 ⟨aW,ai,cb,II,BU⟩ ih2;dsimp only at aW ai cb II BU
    try dsimp only
    have hg:=Ext.NY w5;rcases Nat.lt_or_ge a j with hj|hj
    ·refine py$ py$ PK (λw'=>Ext w5 w') O$ NX 0 O O (hg)$ NX 1 O O (hg)$ NG 2 O (VP O O) hg$ SC$ NX 3 O O (hg)$ NX 4 O O (hg)$ NX 5 O O (hg)$ NG 6 O (OH Ob NV O O (by omega)) hg$ NX 8 O O (hg)$ NX 9 O O (hg)$ NG 10 O (W5 O O (by omega)) hg ?_;rw[show(j:Int)-1=((j-1:Nat):Int) by omega];refine qT 7 O (λ_ h=>Oi OX O O ((aW.ext h).get (i:=j) (by omega))) hg$ NG 11 O (OH Ob NV O O (by omega)) hg$ qT 12 O (λ_ h=>Oi OX O O ((aW.ext h).get (i:=j-1) (by omega))) hg$ Qv 13 O UE O (QA _ _ _) ?_;rintro _ w6 ⟨rfl,rfl⟩;refine⟨hg,?_⟩;refine NG 14 O (Tu O O) hg$ qE ?_;have pQ:=aW.ext hg;refine OV O (λh1=>?_)$ λh1=>?_
     ·refine An$ py$ Nw ?_;have aF:=Ext.NY w5.drew;refine O3 [15,17] (λw'=>Ext w5.drew w') (by kernel_rfl) O$ qL [14,15,16,17] 0 O (λ_ h=>Oq O) aF$ qL [14,15,16,17] 1 O (λ_ h=>Oq O) aF$ OS (i:=2) O (by kernel_rfl) O O (λ_=>Oq O) (aF)$ OS (i:=3) O (by kernel_rfl) O O (λ_=>Oq O) (aF)$ OS (i:=4) O (by kernel_rfl) O O (λ_=>W5 O O (by omega)) (aF)$ qL [8,9,14,15,16,17] 5 O (λ_ h=>Oq O) aF$ qL [7,8,9,14,15,16,17] 6 O (λ_ h=>Oq O) aF$ qL [8,9,14,15,16,17] 7 O (λ_ h=>W5 O O (by omega)) aF$ qL [12,13,14,15,16,17] 10 O (λ_ h=>Oq O) aF$ qL [12,13,14,15,16,17] 11 O (λ_ h=>Oq O) aF$ qL [13,14,15,16,17] 12 O (λ_ h=>OH Ob NV O O (by omega)) aF ?_;rw[show(j:Int)-1=((j-1:Nat):Int) by omega];refine qL [9,14,15,16,17] 8 O (λ_ h=>OH Ob NV O O (by omega)) aF$ qL [14,15,16,17] 9 O (λ_ h=>Oi OX O O ((pQ.ext h).get (i:=j-1) (by omega))) aF$ qL [14,15,16,17] 13 O (λ_ h=>Oi OX O O ((pQ.ext h).get (i:=j) (by omega))) aF$ qL [15,16,17] 14 O (λ_ h=>OH Ob NV O O (by omega)) aF$ Rs [15]$ qO 15$ Ou (i:=15) O O (Qt NV O O O (pQ.ext aF).sl ((pQ.ext aF).Z8 (by omega))) ?_;rintro w7a ⟨gd,ge⟩;refine⟨trivial,?_⟩;have cK:=(pQ.ext aF).set gd;refine NG 16 O (OH Ob NV O O (by omega)) trivial$ qO 17$ Ou (i:=17) O O (Qt NV O O O cK.sl (cK.Z8 (by omega))) ?_;rintro w7 ⟨iA,ke⟩;refine⟨trivial,?_⟩;have kf:=cK.set iA;have gh:Kp (λk=>k=g) w5.drew w7:=aF.kp.trans (ge.trans ke);refine qE$ Ny$ NC O$ Nz O$ Qc O O$ NF O ?_;rw[show(j:Int)-1=((j-1:Nat):Int) by omega];refine(ih2 (j-1,Go.Sort.swp d5 j (j-1)) _ ⟨kf,(ai.trans hg.kp).trans gh,?_,by dsimp only;omega,by dsimp only;omega⟩ (by dsimp only;omega)).qb;dsimp only;rw[<-cb,z2G a j d5 hj h1]
     ·refine NL O$ Ny$ NC O$ Nz O$ OI O O$ NF O ?_;rw[W1 a j d5 (.inr (by simpa using h1))] at cb;refine(ih (i+1,d5) _ ⟨pQ,ai.trans hg.kp,?_,by dsimp only;omega⟩ (by dsimp only;omega)).qb;dsimp only;rw[cb];exact cC
    ·refine py$ py$ PK (λw'=>Ext w5 w') O$ NX 0 O O (hg)$ NX 1 O O (hg)$ NG 2 O (VP O O) hg$ S4$ NX 3 O O (hg)$ qJ 4 O (hg)$ qJ 5 O (hg)$ qJ 6 O (hg)$ qJ 7 O (hg)$ qJ 8 O (hg)$ qJ 9 O (hg) ?_;refine qJ 10 O (hg)$ qJ 11 O (hg)$ qJ 12 O (hg)$ qJ 13 O (hg)$ NG 14 O (S6 O O) hg$ qE$ It O$ NL O$ Ny$ NC O$ Nz O$ OI O O$ NF O ?_;rw[W1 a j d5 (.inl hj)] at cb;refine(ih (i+1,d5) _ ⟨aW.ext hg,ai.trans hg.kp,?_,by dsimp only;omega⟩ (by dsimp only;omega)).qb;dsimp only;rw[cb];exact cC
  ·rw[z0C _ _ _ _ (by omega)] at cC;refine NL O$ Pq func241 O ?_;exact⟨_,rfl,rfl,cC▸en,ao⟩
section
variable (hi first root:Nat)(d:Array Nat)
def XQ:Nat:=if 2*root+1+1<hi&&Pt d[first+(2*root+1)]! d[first+(2*root+1)+1]! then 2*root+2 else 2*root+1
theorem z7R (h:hi<=2*root+1):Go.Sort.siftDown Pt hi first root d=d:=by rw[Go.Sort.siftDown,dif_pos h]
theorem zbh (h:2*root+1<hi):Go.Sort.siftDown Pt hi first root d=if Pt d[first+root]! d[first+XQ hi first root d]! then Go.Sort.siftDown Pt hi first (XQ hi first root d) (Go.Sort.swp d (first+root) (first+XQ hi first root d)) else d:=by
 rw[Go.Sort.siftDown,dif_neg (by omega)]
 unfold XQ
 by_cases h1:(decide (2*root+1+1<hi)&&Pt d[first+(2*root+1)]! d[first+(2*root+1)+1]!)=true
 ·rw[if_pos h1,if_pos h1];rw[Bool.and_eq_true] at h1;have h2:2*root+2<hi:=of_decide_eq_true h1.1;rw[dif_pos h2];cases Pt d[first+root]! d[first+(2*root+2)]!<;>rfl
 ·rw[if_neg h1,if_neg h1];cases Pt d[first+root]! d[first+(2*root+1)]!<;>rfl
theorem zb4 (h:2*root+1<hi):root<XQ hi first root d/\XQ hi first root d<hi:=by
 unfold XQ
 split
 ·rename_i h1
  rw[Bool.and_eq_true] at h1;have h2:2*root+2<hi:=of_decide_eq_true h1.1;omega
 ·omega
end
theorem z3c {w:World}{g n cap:Nat}{d:Array Nat}(h:Ri w g n cap d)(lo hi first:Nat)(hf:first+hi<=n)(g9:lo<=65536)(hn:n<=65536):
  Oa prog 251 [.slice (some ⟨g,0,none⟩) n cap,I (lo:Int),I (hi:Int),I (first:Int)] w λu w'=>u= .tuple #[]/\Ri w' g n cap (Go.Sort.siftDown Pt hi first lo d)/\Kp (λk=>k=g) w w':=by
 refine Nu (e:=[(0,_),(1,_),(2,_),(3,_)]) func251 O ntmps251 O O$ qN O$ Nz O$ NF O$ Nw$ Qb (α:=Nat×Array Nat) ((lo,d)) (λy=>[(0,.slice (some ⟨g,0,none⟩) n cap),(2,I (hi:Int)),(3,I (first:Int)),(8,I (y.1:Int))]) (λy w'=>Ri w' g n cap y.2/\Kp (λk=>k=g) w w'/\Go.Sort.siftDown Pt hi first y.1 y.2=Go.Sort.siftDown Pt hi first lo d/\y.1<=65536) (λy=>hi-y.1) ?hI ?hround
 case hI=>exact⟨h,Kp.refl _ _,rfl,g9⟩
 case hround=>
  rintro⟨root,d4⟩ w4 ⟨en,ao,cC,bK⟩ ih;dsimp only at en ao cC bK
  try dsimp only
  refine Nw$ qN O$ Nz O$ qV (TT O O (by omega))$ OI O O$ NF O$ py$ qN O ?_;rw[show 2*(root:Int)+1=((2*root+1:Nat):Int) by omega];refine NT O O$ RN O O$ NB$ NN O (λh0=>?_)$ λh0=>?_
  ·rw[z7R _ _ _ _ (by omega)] at cC;refine NL O$ Pq func251 O ?_;exact⟨_,rfl,rfl,cC▸en,ao⟩
  ·have hc:=zb4 hi first root d4 (by omega);rw[zbh _ _ _ _ (by omega)] at cC;have hg:=Ext.NY w4;have tc:=en.ext hg;refine An$ py$ py ?_
   generalize pR:(decide (2*root+1+1<hi)&&Pt d4[first+(2*root+1)]! d4[first+(2*root+1)+1]!)=sel
   refine Oy (λe' w'=>e'=[(0,.slice (some ⟨g,0,none⟩) n cap),(2,I (hi:Int)),(3,I (first:Int)),(8,I (root:Int)),(9,I ((2*root+1:Nat):Int)),(36,.bool sel)]/\w'=w4.drew) ?fd$ λfd=>?fY
   case fd=>
    rintro e' w5 ⟨rfl,rfl⟩;refine Oy (λe' w'=>e'=[(0,.slice (some ⟨g,0,none⟩) n cap),(2,I (hi:Int)),(3,I (first:Int)),(8,I (root:Int)),(9,I (XQ hi first root d4:Int))]/\w'=w4.drew) ?az$ λaz=>?eu
    case az=>
     rintro e' w5 ⟨rfl,rfl⟩
     generalize XQ hi first root d4=c at hc cC
     have cw:=Ext.NY w4.drew;have lR:=tc.ext cw;refine py$ py$ PK (λw'=>Ext w4.drew w') O$ NX 0 O O (cw)$ NX 1 O O (cw)$ NX 2 O O (cw)$ NG 3 O (SX O O (by omega)) cw$ NG 4 O (OH Ob NV O O (by omega)) cw$ NX 6 O O (cw)$ NX 7 O O (cw)$ NX 8 O O (cw)$ NG 9 O (SX O O (by omega)) cw$ NG 10 O (OH Ob NV O O (by omega)) cw$ qT 5 O (λ_ h=>Oi OX O O ((tc.ext h).get (i:=first+root) (by omega))) cw ?_;refine qT 11 O (λ_ h=>Oi OX O O ((tc.ext h).get (i:=first+c) (by omega))) cw$ Qv 12 O UE O (QA _ _ _) ?_;rintro _ w6 ⟨rfl,rfl⟩;refine⟨cw,?_⟩;refine NG 13 O ((z7D O)) cw$ qE$ OV O (λh1=>?_)$ λh1=>?_
     ·rw[if_neg (by simpa using h1)] at cC;refine NA func251 O ?_;exact⟨_,rfl,rfl,cC▸lR,ao.trans (hg.trans cw).kp⟩
     ·rw[if_pos (by simpa using h1)] at cC;refine An$ py ?_;have aF:=Ext.NY w4.drew.drew;refine O3 [21,23] (λw'=>Ext w4.drew.drew w') (by kernel_rfl) O$ qL [20,21,22,23] 0 O (λ_ h=>Oq O) aF$ qL [3,20,21,22,23] 1 O (λ_ h=>Oq O) aF$ qL [3,20,21,22,23] 2 O (λ_ h=>Oq O) aF$ qL [20,21,22,23] 3 O (λ_ h=>SX O O (by omega)) aF$ OS (i:=4) O (by kernel_rfl) O O (λ_=>Oq O) (aF)$ OS (i:=5) O (by kernel_rfl) O O (λ_=>Oq O) (aF)$ OS (i:=6) O (by kernel_rfl) O O (λ_=>Oq O) (aF)$ OS (i:=7) O (by kernel_rfl) O O (λ_=>SX O O (by omega)) (aF)$ qL [12,13,20,21,22,23] 8 O (λ_ h=>Oq O) aF$ qL [11,12,13,20,21,22,23] 9 O (λ_ h=>Oq O) aF$ qL [11,12,13,20,21,22,23] 10 O (λ_ h=>Oq O) aF$ qL [12,13,20,21,22,23] 11 O (λ_ h=>SX O O (by omega)) aF$ qL [13,20,21,22,23] 12 O (λ_ h=>OH Ob NV O O (by omega)) aF ?_;refine qL [18,19,20,21,22,23] 14 O (λ_ h=>Oq O) aF$ qL [17,18,19,20,21,22,23] 15 O (λ_ h=>Oq O) aF$ qL [17,18,19,20,21,22,23] 16 O (λ_ h=>Oq O) aF$ qL [18,19,20,21,22,23] 17 O (λ_ h=>SX O O (by omega)) aF$ qL [19,20,21,22,23] 18 O (λ_ h=>OH Ob NV O O (by omega)) aF$ qL [20,21,22,23] 13 O (λ_ h=>Oi OX O O ((lR.ext h).get (i:=first+c) (by omega))) aF$ qL [20,21,22,23] 19 O (λ_ h=>Oi OX O O ((lR.ext h).get (i:=first+root) (by omega))) aF$ qL [21,22,23] 20 O (λ_ h=>OH Ob NV O O (by omega)) aF$ Rs [21]$ qO 21$ Ou (i:=21) O O (Qt NV O O O (lR.ext aF).sl ((lR.ext aF).Z8 (by omega))) ?_;rintro w7a ⟨gd,ge⟩;refine⟨trivial,?_⟩;have cK:=(lR.ext aF).set gd;refine NG 22 O (OH Ob NV O O (by omega)) trivial$ qO 23$ Ou (i:=23) O O (Qt NV O O O cK.sl (cK.Z8 (by omega))) ?_;rintro w7 ⟨iA,ke⟩;refine⟨trivial,?_⟩;have kf:=cK.set iA;have gh:Kp (λk=>k=g) w4.drew.drew w7:=aF.kp.trans (ge.trans ke);refine qE$ NC O$ Nz O$ NF O$ Ny ((ih (c,Go.Sort.swp d4 (first+root) (first+c)) _ ⟨kf,(ao.trans (hg.trans cw).kp).trans gh,cC,by dsimp only;omega⟩ (by dsimp only;omega)).qb)
    case eu=>
     refine OV O (λh1=>?_)$ λh1=>?_
     ·refine NC O$ Nz O$ OI O O$ NF O ?_;rw[show((2*root+1:Nat):Int)+1=(XQ hi first root d4:Int) by unfold XQ;rw[pR,if_pos h1];omega];exact(az _ _ ⟨rfl,rfl⟩).qb
     ·refine An ?_;rw[show((2*root+1:Nat):Int)=(XQ hi first root d4:Int) by unfold XQ;rw[pR,if_neg (by rw[h1];decide)]];exact(az _ _ ⟨rfl,rfl⟩).qb
   case fY=>
    rcases Nat.lt_or_ge (2*root+1+1) hi with hj|hj
    ·refine PK (λw'=>Ext w4 w') O$ NX 0 O O (hg)$ NG 1 O (SX O O (by omega)) hg$ NX 2 O O (hg)$ NG 3 O (ZQ O O) hg$ SC$ NX 4 O O (hg)$ NX 5 O O (hg)$ NX 6 O O (hg)$ NX 7 O O (hg)$ NG 8 O (SX O O (by omega)) hg$ NG 9 O (OH Ob NV O O (by omega)) hg$ NX 11 O O (hg)$ NX 12 O O (hg) ?_;refine NX 13 O O (hg)$ NG 14 O (SX O O (by omega)) hg$ NG 15 O (SX O O (by omega)) hg$ NG 16 O (OH Ob NV O O (by omega)) hg$ qT 10 O (λ_ hS=>Oi OX O O ((en.ext hS).get (i:=first+(2*root+1)) (by omega))) hg$ qT 17 O (λ_ hS=>Oi OX O O ((en.ext hS).get (i:=first+(2*root+1)+1) (by omega))) hg$ Qv 18 O UE O (QA _ _ _) ?_;rintro _ w6 ⟨rfl,rfl⟩;refine⟨hg,?_⟩;refine NG 19 O (Tu O O) hg$ qE ?_;rw[show Pt d4[first+(2*root+1)]! d4[first+(2*root+1)+1]! =sel by rw[<-pR,decide_eq_true hj,Bool.true_and]];exact(fd _ _ ⟨rfl,rfl⟩).qb
    ·refine PK (λw'=>Ext w4 w') O$ NX 0 O O (hg)$ NG 1 O (SX O O (by omega)) hg$ NX 2 O O (hg)$ NG 3 O (ZQ O O) hg$ S4$ NX 4 O O (hg)$ qJ 5 O (hg)$ qJ 6 O (hg)$ qJ 7 O (hg)$ qJ 8 O (hg)$ qJ 9 O (hg)$ qJ 10 O (hg)$ qJ 11 O (hg) ?_;refine qJ 12 O (hg)$ qJ 13 O (hg)$ qJ 14 O (hg)$ qJ 15 O (hg)$ qJ 16 O (hg)$ qJ 17 O (hg)$ qJ 18 O (hg)$ NG 19 O (S6 O O) hg$ qE ?_;have nC:sel=false:=by rw[<-pR,decide_eq_false (by omega),Bool.false_and]
     subst nC;exact(fd _ _ ⟨rfl,rfl⟩).qb
theorem z8U {w:World}{g n cap:Nat}{d:Array Nat}(h:Ri w g n cap d)(a b:Nat)(jC:a<b)(hb:b<=n)(hn:n<=65536):
  Oa prog 242 [.slice (some ⟨g,0,none⟩) n cap,I (a:Int),I (b:Int)] w λu w'=>u= .tuple #[]/\Ri w' g n cap (Go.Sort.heapSort Pt d a b)/\Kp (λk=>k=g) w w':=by
 refine Nu (e:=[(0,_),(1,_),(2,_)]) func242 O ntmps242 O O$ qN O$ Nz O$ NQ O$ qM O$ NQ O$ qM O$ NT O O$ Qc O O$ NF O$ py$ qN O ?_
 rw[show(b:Int)-(a:Int)=((b-a:Nat):Int) by omega]
 refine Nz O$ Qc O O ?_
 rw[show((b-a:Nat):Int)-1=((b-a-1:Nat):Int) by omega]
 refine qV (Vu O O (by omega))$ NF O$ Nw ?_
 rw[show((b-a-1:Nat):Int) / 2=(((b-a-1) / 2+1:Nat):Int)-1 by omega]
 have nz:Go.Sort.heapSort Pt d a b=Go.Sort.heapPop Pt a (b-a) (Go.Sort.heapBuild Pt (b-a) a ((b-a-1) / 2+1) d):=rfl
 rw[nz]
 refine Qb (α:=Nat×Array Nat) (((b-a-1) / 2+1,d)) (λy=>[(0,.slice (some ⟨g,0,none⟩) n cap),(6,I (a:Int)),(7,I 0),(8,I ((b-a:Nat):Int)),(9,I ((y.1:Int)-1))]) (λy w'=>Ri w' g n cap y.2/\Kp (λk=>k=g) w w'/\Go.Sort.heapBuild Pt (b-a) a y.1 y.2=Go.Sort.heapBuild Pt (b-a) a ((b-a-1) / 2+1) d/\y.1<=(b-a-1) / 2+1) (λy=>y.1) ?hI ?hround
 case hI=>exact⟨h,Kp.refl _ _,rfl,Nat.le_refl _⟩
 case hround=>
  rintro⟨k,d4⟩ w4 ⟨en,ao,cC,bK⟩ ih;dsimp only at en ao cC bK
  try dsimp only
  refine py$ qN O$ Nz O$ RN O O$ NB$ NN O (λh0=>?_)$ λh0=>?_
  ·obtain⟨k,rfl⟩:∃k',k=k'+1:=⟨k-1,by omega⟩;rw[show((k+1:Nat):Int)-1=(k:Int) by omega];refine An$ py$ Nw$ NC O$ NT O O$ NT O O$ NZ zcV O (z3c en k (b-a) a (by omega) (by omega) hn) ?_;rintro _ w5 ⟨rfl,aW,ai⟩;refine NB$ Ny$ NC O$ Nz O$ Qc O O$ NF O ?_;exact(ih (k,Go.Sort.siftDown Pt (b-a) a k d4) _ ⟨aW,ao.trans ai,cC,by dsimp only;omega⟩ (by dsimp only;omega)).qb
  ·have ia:k=0:=by omega
   subst ia;rw[<-cC];refine NL O$ qN O$ Nz O$ Qc O O$ NF O$ Nw$ Qb (α:=Nat×Array Nat) ((b-a,d4)) (λy=>[(0,.slice (some ⟨g,0,none⟩) n cap),(6,I (a:Int)),(7,I 0),(10,I ((y.1:Int)-1))]) (λy w'=>Ri w' g n cap y.2/\Kp (λk=>k=g) w w'/\Go.Sort.heapPop Pt a y.1 y.2=Go.Sort.heapPop Pt a (b-a) (Go.Sort.heapBuild Pt (b-a) a 0 d4)/\y.1<=b-a) (λy=>y.1) ?hI ?hround
   case hI=>exact⟨en,ao,rfl,Nat.le_refl _⟩
   case hround=>
    rintro⟨k,d5⟩ w5 ⟨aW,ai,cb,cf⟩ ih2;dsimp only at aW ai cb cf
    try dsimp only
    refine py$ qN O$ Nz O$ RN O O$ NB$ NN O (λh1=>?_)$ λh1=>?_
    ·obtain⟨k,rfl⟩:∃k',k=k'+1:=⟨k-1,by omega⟩;rw[show((k+1:Nat):Int)-1=(k:Int) by omega];refine An$ py$ Nw$ py ?_;have aF:=Ext.NY w5;refine O3 [17,19] (λw'=>Ext w5 w') (by kernel_rfl) O$ qL [16,17,18,19] 0 O (λ_ h=>Oq O) aF$ qL [16,17,18,19] 1 O (λ_ h=>Oq O) aF$ OS (i:=2) O (by kernel_rfl) O O (λ_=>Oq O) (aF)$ OS (i:=3) O (by kernel_rfl) O O (λ_=>Oq O) (aF)$ OS (i:=4) O (by kernel_rfl) O O (λ_=>Oq O) (aF)$ OS (i:=5) O (by kernel_rfl) O O (λ_=>SX O O (by omega)) (aF)$ qL [10,11,16,17,18,19] 6 O (λ_ h=>Oq O) aF$ qL [9,10,11,16,17,18,19] 7 O (λ_ h=>Oq O) aF$ qL [9,10,11,16,17,18,19] 8 O (λ_ h=>Oq O) aF$ qL [10,11,16,17,18,19] 9 O (λ_ h=>SX O O (by omega)) aF$ qL [11,16,17,18,19] 10 O (λ_ h=>OH Ob NV O O (by omega)) aF$ qL [14,15,16,17,18,19] 12 O (λ_ h=>Oq O) aF$ qL [14,15,16,17,18,19] 13 O (λ_ h=>Oq O) aF ?_;refine qL [15,16,17,18,19] 14 O (λ_ h=>OH Ob NV O O (by omega)) aF$ qL [16,17,18,19] 11 O (λ_ h=>Oi OX O O ((aW.ext h).get (i:=a+k) (by omega))) aF$ qL [16,17,18,19] 15 O (λ_ h=>Oi OX O O ((aW.ext h).get (i:=a) (by omega))) aF$ qL [17,18,19] 16 O (λ_ h=>OH Ob NV O O (by omega)) aF$ Rs [17]$ qO 17$ Ou (i:=17) O O (Qt NV O O O (aW.ext aF).sl ((aW.ext aF).Z8 (by omega))) ?_;rintro w7a ⟨gd,ge⟩;refine⟨trivial,?_⟩;have cK:=(aW.ext aF).set gd;refine NG 18 O (OH Ob NV O O (by omega)) trivial$ qO 19$ Ou (i:=19) O O (Qt NV O O O cK.sl (cK.Z8 (by omega))) ?_;rintro w7 ⟨iA,ke⟩;refine⟨trivial,?_⟩;have kf:=cK.set iA;have gh:Kp (λk=>k=g) w5 w7:=aF.kp.trans (ge.trans ke);refine qE$ NC O$ NT O O$ NT O O$ NZ zcV O (z3c kf 0 k a (by omega) (by omega) hn) ?_;rintro _ w8 ⟨rfl,IJ,aV⟩;refine NB$ Ny$ NC O$ Nz O$ Qc O O$ NF O ?_;exact(ih2 (k,Go.Sort.siftDown Pt k a 0 (Go.Sort.swp d5 a (a+k))) _ ⟨IJ,(ai.trans gh).trans aV,cb,by dsimp only;omega⟩ (by dsimp only;omega)).qb
    ·have ia:k=0:=by omega
     subst ia;rw[<-cb];refine NL O$ Pq func242 O ?_;exact⟨_,rfl,rfl,aW,ai⟩
theorem z3u {w:World}{g n cap:Nat}{d:Array Nat}(h:Ri w g n cap d)(a b:Nat)(jC:a<b)(hb:b<=n)(hn:n<=65536):
  Oa prog 245 [.slice (some ⟨g,0,none⟩) n cap,I (a:Int),I (b:Int)] w λu w'=>u= .tuple #[]/\Ri w' g n cap (Go.Sort.reverseRange d a b)/\Kp (λk=>k=g) w w':=by
 refine Nu (e:=[(0,_),(1,_),(2,_)]) func245 O ntmps245 O O$ qN O$ Nz O$ NQ O$ qM O$ Nz O$ Qc O O$ NF O$ Nw ?_
 rw[show(b:Int)-1=((b-1:Nat):Int) by omega]
 refine Qb (α:=Nat×Nat×Array Nat) ((a,b-1,d)) (λy=>[(0,.slice (some ⟨g,0,none⟩) n cap),(6,I (y.1:Int)),(7,I (y.2.1:Int))]) (λy w'=>Ri w' g n cap y.2.2/\Kp (λk=>k=g) w w'/\Go.Sort.reverseLoop y.1 y.2.1 y.2.2=Go.Sort.reverseRange d a b/\y.2.1<n) (λy=>y.2.1-y.1) ?hI ?hround
 case hI=>exact⟨h,Kp.refl _ _,rfl,by dsimp only;omega⟩
 case hround=>
  rintro⟨i,j,d4⟩ w4 ⟨en,ao,cC,bK⟩ ih;dsimp only at en ao cC bK
  try dsimp only
  refine py$ qN O$ NT O O$ Pb O O$ NB$ NN O (λh0=>?_)$ λh0=>?_
  ·rw[Go.Sort.reverseLoop,if_pos (by omega)] at cC;refine An$ Nw$ py ?_;have aF:=Ext.NY w4;refine O3 [13,15] (λw'=>Ext w4 w') (by kernel_rfl) O$ qL [12,13,14,15] 0 O (λ_ h=>Oq O) aF$ qL [12,13,14,15] 1 O (λ_ h=>Oq O) aF$ OS (i:=2) O (by kernel_rfl) O O (λ_=>Oq O) (aF)$ OS (i:=3) O (by kernel_rfl) O O (λ_=>Oq O) (aF)$ qL [6,7,12,13,14,15] 4 O (λ_ h=>Oq O) aF$ qL [6,7,12,13,14,15] 5 O (λ_ h=>Oq O) aF$ qL [7,12,13,14,15] 6 O (λ_ h=>OH Ob NV O O (by omega)) aF$ qL [10,11,12,13,14,15] 8 O (λ_ h=>Oq O) aF$ qL [10,11,12,13,14,15] 9 O (λ_ h=>Oq O) aF$ qL [11,12,13,14,15] 10 O (λ_ h=>OH Ob NV O O (by omega)) aF$ qL [12,13,14,15] 7 O (λ_ h=>Oi OX O O ((en.ext h).get (i:=j) (by omega))) aF$ qL [12,13,14,15] 11 O (λ_ h=>Oi OX O O ((en.ext h).get (i:=i) (by omega))) aF$ qL [13,14,15] 12 O (λ_ h=>OH Ob NV O O (by omega)) aF ?_;refine Rs [13]$ qO 13$ Ou (i:=13) O O (Qt NV O O O (en.ext aF).sl ((en.ext aF).Z8 (by omega))) ?_;rintro w7a ⟨gd,ge⟩;refine⟨trivial,?_⟩;have cK:=(en.ext aF).set gd;refine NG 14 O (OH Ob NV O O (by omega)) trivial$ qO 15$ Ou (i:=15) O O (Qt NV O O O cK.sl (cK.Z8 (by omega))) ?_;rintro w7 ⟨iA,ke⟩;refine⟨trivial,?_⟩;have kf:=cK.set iA;have gh:Kp (λk=>k=g) w4 w7:=aF.kp.trans (ge.trans ke);refine qE$ qN O$ Nz O$ OI O O$ NF O$ NC O$ Nz O$ Qc O O$ NF O$ Ny ?_;rw[show(j:Int)-1=((j-1:Nat):Int) by omega];exact(ih (i+1,j-1,Go.Sort.swp d4 i j) _ ⟨kf,ao.trans gh,cC,by dsimp only;omega⟩ (by dsimp only;omega)).qb
  ·rw[Go.Sort.reverseLoop,if_neg (by omega)] at cC;refine NL O$ Pq func245 O ?_;exact⟨_,rfl,rfl,cC▸en,ao⟩
section
variable (p:Nat->Bool)(d:Array Nat)(i j:Nat)
theorem XH (h:i<=j)(hp:p d[i]! =true):Go.Sort.scanUp p d j i=Go.Sort.scanUp p d j (i+1):=by
 conv=>lhs;rw[Go.Sort.scanUp]
 rw[if_pos]
 rw[Bool.and_eq_true];exact⟨by simpa using h,hp⟩
theorem RK (h:j<i\/p d[i]! =false):Go.Sort.scanUp p d j i=i:=by
 rw[Go.Sort.scanUp,if_neg]
 intro hc
 rw[Bool.and_eq_true] at hc
 rcases h with h| h
 ·have:=of_decide_eq_true hc.1;omega
 ·rw[h] at hc;cases hc.2
theorem UR (h:i<=j)(hp:p d[j]! =true)(hj:1<=j):Go.Sort.scanDown p d i j=Go.Sort.scanDown p d i (j-1):=by
 obtain⟨k,rfl⟩:∃k,j=k+1:=⟨j-1,by omega⟩
 rw[Go.Sort.scanDown,if_pos]
 ·rfl
 ·rw[Bool.and_eq_true];exact⟨by simpa using h,hp⟩
theorem QE (h:j<i\/p d[j]! =false):Go.Sort.scanDown p d i j=j:=by
 cases j with
 |zero=>rw[Go.Sort.scanDown]
 | succ k =>
   rw[Go.Sort.scanDown,if_neg];intro hc;rw[Bool.and_eq_true] at hc;rcases h with h| h
   ·have:=of_decide_eq_true hc.1;omega
   ·rw[h] at hc;cases hc.2
end
theorem Vq (p:Nat->Bool)(d:Array Nat)(j:Nat):∀i:Nat,Go.Sort.scanUp p d j i<=max i (j+1):=λi=>by
 rw[Go.Sort.scanUp]
 split
 ·rename_i h
  rw[Bool.and_eq_true] at h;have h1:=of_decide_eq_true h.1;have:=Vq p d j (i+1);omega
 ·omega
 termination_by i=>j+1-i
theorem z9j {w : World}{g n cap : Nat}{d : Array Nat}(h : Ri w g n cap d)(a b pv : Nat)(IK : a <= pv)(rF : pv < b)(hb : b <= n)(hn : n <= 65536) :
  Oa prog 249 [.slice (some ⟨g,0,none⟩) n cap,I (a:Int),I (b:Int),I (pv:Int)] w λu w'=>u= .tuple #[I ((Go.Sort.partition Pt d a b pv).1:Int),.bool (Go.Sort.partition Pt d a b pv).2.1]/\Ri w' g n cap (Go.Sort.partition Pt d a b pv).2.2/\Kp (λk=>k=g) w w':=by
 refine Nu (e:=[(0,_),(1,_),(2,_),(3,_)]) func249 O ntmps249 O O$ qN O$ NQ O$ NF O$ py ?_
 have aF:=Ext.NY w
 refine O3 [13,15] (λw'=>Ext w w') (by kernel_rfl) O$ qL [12,13,14,15] 0 O (λ_ h=>Oq O) aF$ qL [12,13,14,15] 1 O (λ_ h=>Oq O) aF$ OS (i:=2) O (by kernel_rfl) O O (λ_=>Oq O) (aF)$ OS (i:=3) O (by kernel_rfl) O O (λ_=>Oq O) (aF)$ qL [6,7,12,13,14,15] 4 O (λ_ h=>Oq O) aF$ qL [6,7,12,13,14,15] 5 O (λ_ h=>Oq O) aF$ qL [7,12,13,14,15] 6 O (λ_ h=>OH Ob NV O O (by omega)) aF$ qL [10,11,12,13,14,15] 8 O (λ_ h=>Oq O) aF$ qL [10,11,12,13,14,15] 9 O (λ_ h=>Oq O) aF$ qL [11,12,13,14,15] 10 O (λ_ h=>OH Ob NV O O (by omega)) aF$ qL [12,13,14,15] 7 O (λ_ hS=>Oi OX O O ((h.ext hS).get (i:=pv) (by omega))) aF$ qL [12,13,14,15] 11 O (λ_ hS=>Oi OX O O ((h.ext hS).get (i:=a) (by omega))) aF$ qL [13,14,15] 12 O (λ_ h=>OH Ob NV O O (by omega)) aF ?_
 refine Rs [13]$ qO 13$ Ou (i:=13) O O (Qt NV O O O (h.ext aF).sl ((h.ext aF).Z8 (by omega))) ?_
 rintro w1a ⟨nD,nE⟩
 refine⟨trivial,?_⟩
 have gj:=(h.ext aF).set nD
 refine NG 14 O (OH Ob NV O O (by omega)) trivial$ qO 15$ Ou (i:=15) O O (Qt NV O O O gj.sl (gj.Z8 (by omega))) ?_
 rintro w1 ⟨te,tf⟩
 refine⟨trivial,?_⟩
 have iB:=gj.set te
 have kU:Kp (λk=>k=g) w w1:=aF.kp.trans (nE.trans tf)
 refine qE$ qN O$ Nz O$ OI O O$ Nz O$ Qc O O$ NQ O$ NF O$ Of.qb (e:=[(0,_),(1,_),(8,_),(9,_),(10,_),(11,_)]) ?_
 refine py$ Nw ?_
 unfold Go.Sort.partition
 dsimp only
 replace iB:Ri w1 g n cap (Go.Sort.swp d a pv):=iB
 generalize Go.Sort.swp d a pv=D at iB
 rw[show(a:Int)+1=((a+1:Nat):Int) by omega,show(b:Int)-1=((b-1:Nat):Int) by omega]
 refine QW (λe' w'=>e'=[(0,.slice (some ⟨g,0,none⟩) n cap),(1,I (a:Int)),(10,I (((Go.Sort.scanUp (λx=>Pt x D[a]!) D (b-1) (a+1)):Nat):Int)),(11,I (((b-1):Nat):Int))]/\Ri w' g n cap D/\Kp (λk=>k=g) w1 w') ?pj$ λpj=>?C4
 case pj =>
  rintro e' wA ⟨rfl,IL,pj⟩;have AB:=Go.Sort.scanUp_ge (λx=>Pt x D[a]!) D (b-1) (a+1);have lS:=Vq (λx=>Pt x D[a]!) D (b-1) (a+1)
  generalize Go.Sort.scanUp (λx=>Pt x D[a]!) D (b-1) (a+1)=i1 at AB lS
  refine py$ Nw$ QW (λe' w'=>e'=[(0,.slice (some ⟨g,0,none⟩) n cap),(1,I (a:Int)),(10,I ((i1:Nat):Int)),(11,I (((Go.Sort.scanDown (λx=>!Pt x D[a]!) D i1 (b-1)):Nat):Int))]/\Ri w' g n cap D/\Kp (λk=>k=g) wA w') ?jg$ λjg=>?C3
  case jg =>
   rintro e' wB ⟨rfl,pn,jg⟩;have IM:=Go.Sort.scanDown_le (λx=>!Pt x D[a]!) D i1 (b-1)
   generalize Go.Sort.scanDown (λx=>!Pt x D[a]!) D i1 (b-1)=j1 at IM
   refine py$ qN O$ NT O O$ P9 O O$ NB$ NN O (λh4=>?_)$ λh4=>?_
   ·rw[if_pos (by omega)];refine py ?_;have aa:=Ext.NY wB;refine O3 [13,15] (λw'=>Ext wB w') (by kernel_rfl) O$ qL [12,13,14,15] 0 O (λ_ h=>Oq O) aa$ qL [12,13,14,15] 1 O (λ_ h=>Oq O) aa$ OS (i:=2) O (by kernel_rfl) O O (λ_=>Oq O) (aa)$ OS (i:=3) O (by kernel_rfl) O O (λ_=>Oq O) (aa)$ qL [6,7,12,13,14,15] 4 O (λ_ h=>Oq O) aa$ qL [6,7,12,13,14,15] 5 O (λ_ h=>Oq O) aa$ qL [7,12,13,14,15] 6 O (λ_ h=>OH Ob NV O O (by omega)) aa$ qL [10,11,12,13,14,15] 8 O (λ_ h=>Oq O) aa$ qL [10,11,12,13,14,15] 9 O (λ_ h=>Oq O) aa$ qL [11,12,13,14,15] 10 O (λ_ h=>OH Ob NV O O (by omega)) aa$ qL [12,13,14,15] 7 O (λ_ h=>Oi OX O O ((pn.ext h).get (i:=a) (by omega))) aa$ qL [12,13,14,15] 11 O (λ_ h=>Oi OX O O ((pn.ext h).get (i:=j1) (by omega))) aa$ qL [13,14,15] 12 O (λ_ h=>OH Ob NV O O (by omega)) aa ?_;refine Rs [13]$ qO 13$ Ou (i:=13) O O (Qt NV O O O (pn.ext aa).sl ((pn.ext aa).Z8 (by omega))) ?_;rintro w2a ⟨wY,wZ⟩;refine⟨trivial,?_⟩;have nF:=(pn.ext aa).set wY;refine NG 14 O (OH Ob NV O O (by omega)) trivial$ qO 15$ Ou (i:=15) O O (Qt NV O O O nF.sl (nF.Z8 (by omega))) ?_;rintro w2 ⟨BV,BW⟩;refine⟨trivial,?_⟩;have BX:=nF.set BV;have x7:Kp (λk=>k=g) wB w2:=aa.kp.trans (wZ.trans BW);refine qE$ qN O$ Nz O$ NQ O$ NF O$ NA func249 O ?_;exact⟨_,rfl,rfl,BX,(kU.trans (pj.trans jg)).trans x7⟩
   ·rw [if_neg (by omega)]; refine An (py ?_); have ae := Ext.NY wB; refine O3 [13,15] (λw' => Ext wB w') (by kernel_rfl) O (qL [12, 13, 14, 15] 0 O (λ_ h=>Oq O) ae (qL [12, 13, 14, 15] 1 O (λ_ h=>Oq O) ae (OS (i := 2) O (by kernel_rfl) O O (λ_ => Oq O) (ae) (OS (i := 3) O (by kernel_rfl) O O (λ_ => Oq O) (ae) (qL [6, 7, 12, 13, 14, 15] 4 O (λ_ h=>Oq O) ae (qL [6, 7, 12, 13, 14, 15] 5 O (λ_ h=>Oq O) ae (qL [7, 12, 13, 14, 15] 6 O (λ_ h=>OH Ob NV O O (by omega)) ae (qL [10, 11, 12, 13, 14, 15] 8 O (λ_ h=>Oq O) ae (qL [10, 11, 12, 13, 14, 15] 9 O (λ_ h=>Oq O) ae (qL [11, 12, 13, 14, 15] 10 O (λ_ h=>OH Ob NV O O (by omega)) ae (qL [12, 13, 14, 15] 7 O (λ_ h=>Oi OX O O ((pn.ext h).get (i := j1) (by omega))) ae (qL [12, 13, 14, 15] 11 O (λ_ h=>Oi OX O O ((pn.ext h).get (i := i1) (by omega))) ae (qL [13, 14, 15] 12 O (λ_ h=>OH Ob NV O O (by omega)) ae ?_))))))))))))); refine Rs [13] (qO 13 (Ou (i := 13) O O (Qt NV O O O (pn.ext ae).sl ((pn.ext ae).Z8 (by omega))) ?_)); rintro w3a ⟨x8, x9⟩; refine ⟨trivial, ?_⟩; have nG := (pn.ext ae).set x8; refine NG 14 O (OH Ob NV O O (by omega)) trivial (qO 15 (Ou (i := 15) O O (Qt NV O O O nG.sl (nG.Z8 (by omega))) ?_)); rintro w3 ⟨BY, BZ⟩; refine ⟨trivial, ?_⟩; have C1 := nG.set BY; have xa : Kp (λk => k = g) wB w3 := ae.kp.trans (x9.trans BZ); refine qE (qN O (Nz O (OI O O (NQ O (qM O (Nz O (Qc O O (NF O (Of.qb (e := [(0, _), (1, _), (10, _), (11, _)]) ?_))))))))); refine py (Nw ?_); rw [show (j1 : Int) - 1 = ((j1 - 1 : Nat) : Int) by omega]; refine Qb (α := Nat × Nat × Array Nat) ((i1 + 1, j1 - 1, Go.Sort.swp D i1 j1)) (λy => [(0, .slice (some ⟨g, 0, none⟩) n cap), (1, I (a : Int)), (10, I (y.1 : Int)), (11, I (y.2.1 : Int))]) (λy w' => Ri w' g n cap y.2.2 /\ Kp (λk => k = g) w3 w' /\ Go.Sort.partLoop Pt a y.1 y.2.1 y.2.2 = Go.Sort.partLoop Pt a (i1 + 1) (j1 - 1) (Go.Sort.swp D i1 j1) /\ (a < y.1 /\ y.1 <= n /\ y.2.1 < n)) (λy => y.2.1 + 1 - y.1) ?hI ?hround
    case hI=>exact⟨C1,Kp.refl _ _,rfl,by dsimp only;omega⟩
    case hround =>
     rintro⟨i,j,d4⟩ w4 ⟨en,ao,cC,bK⟩ ih;dsimp only at en ao cC bK;rw[Go.Sort.partLoop_eq] at cC
     try dsimp only
     refine Nw$ py$ Nw$ QW (λe' w'=>e'=[(0,.slice (some ⟨g,0,none⟩) n cap),(1,I (a:Int)),(10,I (((Go.Sort.scanUp (λx=>Pt x d4[a]!) d4 j (i)):Nat):Int)),(11,I ((j:Nat):Int))]/\Ri w' g n cap d4/\Kp (λk=>k=g) w4 w') ?jI$ λjI=>?ti
     case jI=>
      rintro e' wC ⟨rfl,C2,jI⟩;have dG:=Go.Sort.scanUp_ge (λx=>Pt x d4[a]!) d4 j i;have mJ:=Vq (λx=>Pt x d4[a]!) d4 j i
      generalize Go.Sort.scanUp (λx=>Pt x d4[a]!) d4 j i=i2 at cC dG mJ
      refine py$ Nw$ QW (λe' w'=>e'=[(0,.slice (some ⟨g,0,none⟩) n cap),(1,I (a:Int)),(10,I ((i2:Nat):Int)),(11,I (((Go.Sort.scanDown (λx=>!Pt x d4[a]!) d4 i2 (j)):Nat):Int))]/\Ri w' g n cap d4/\Kp (λk=>k=g) wC w') ?fN$ λfN=>?th
      case fN=>
       rintro e' wD ⟨rfl,jh,fN⟩;have kT:=Go.Sort.scanDown_le (λx=>!Pt x d4[a]!) d4 i2 j
       generalize Go.Sort.scanDown (λx=>!Pt x d4[a]!) d4 i2 j=j2 at cC kT
       refine py$ qN O$ NT O O$ P9 O O$ NB$ NN O (λh5=>?_)$ λh5=>?_
       ·rw[if_pos (by omega)] at cC;refine NL O$ py ?_;rw[<-cC];have po:=((kU.trans (pj.trans jg)).trans xa).trans (ao.trans (jI.trans fN));have bG:=Ext.NY wD;refine O3 [13,15] (λw'=>Ext wD w') (by kernel_rfl) O$ qL [12,13,14,15] 0 O (λ_ h=>Oq O) bG$ qL [12,13,14,15] 1 O (λ_ h=>Oq O) bG$ OS (i:=2) O (by kernel_rfl) O O (λ_=>Oq O) (bG)$ OS (i:=3) O (by kernel_rfl) O O (λ_=>Oq O) (bG)$ qL [6,7,12,13,14,15] 4 O (λ_ h=>Oq O) bG$ qL [6,7,12,13,14,15] 5 O (λ_ h=>Oq O) bG$ qL [7,12,13,14,15] 6 O (λ_ h=>OH Ob NV O O (by omega)) bG$ qL [10,11,12,13,14,15] 8 O (λ_ h=>Oq O) bG$ qL [10,11,12,13,14,15] 9 O (λ_ h=>Oq O) bG$ qL [11,12,13,14,15] 10 O (λ_ h=>OH Ob NV O O (by omega)) bG$ qL [12,13,14,15] 7 O (λ_ h=>Oi OX O O ((jh.ext h).get (i:=a) (by omega))) bG$ qL [12,13,14,15] 11 O (λ_ h=>Oi OX O O ((jh.ext h).get (i:=j2) (by omega))) bG$ qL [13,14,15] 12 O (λ_ h=>OH Ob NV O O (by omega)) bG ?_;refine Rs [13]$ qO 13$ Ou (i:=13) O O (Qt NV O O O (jh.ext bG).sl ((jh.ext bG).Z8 (by omega))) ?_;rintro w8a ⟨gl,gm⟩;refine⟨trivial,?_⟩;have cL:=(jh.ext bG).set gl;refine NG 14 O (OH Ob NV O O (by omega)) trivial$ qO 15$ Ou (i:=15) O O (Qt NV O O O cL.sl (cL.Z8 (by omega))) ?_;rintro w8 ⟨kg,kh⟩;refine⟨trivial,?_⟩;have kj:=cL.set kg;have fH:Kp (λk=>k=g) wD w8:=bG.kp.trans (gm.trans kh);refine qE$ qN O$ Nz O$ NQ O$ NF O$ NA func249 O ?_;exact⟨_,rfl,rfl,kj,po.trans fH⟩
       ·rw[if_neg (by omega)] at cC;refine An$ py ?_;have bG:=Ext.NY wD;refine O3 [13,15] (λw'=>Ext wD w') (by kernel_rfl) O$ qL [12,13,14,15] 0 O (λ_ h=>Oq O) bG$ qL [12,13,14,15] 1 O (λ_ h=>Oq O) bG$ OS (i:=2) O (by kernel_rfl) O O (λ_=>Oq O) (bG)$ OS (i:=3) O (by kernel_rfl) O O (λ_=>Oq O) (bG)$ qL [6,7,12,13,14,15] 4 O (λ_ h=>Oq O) bG$ qL [6,7,12,13,14,15] 5 O (λ_ h=>Oq O) bG$ qL [7,12,13,14,15] 6 O (λ_ h=>OH Ob NV O O (by omega)) bG$ qL [10,11,12,13,14,15] 8 O (λ_ h=>Oq O) bG$ qL [10,11,12,13,14,15] 9 O (λ_ h=>Oq O) bG$ qL [11,12,13,14,15] 10 O (λ_ h=>OH Ob NV O O (by omega)) bG$ qL [12,13,14,15] 7 O (λ_ h=>Oi OX O O ((jh.ext h).get (i:=j2) (by omega))) bG$ qL [12,13,14,15] 11 O (λ_ h=>Oi OX O O ((jh.ext h).get (i:=i2) (by omega))) bG$ qL [13,14,15] 12 O (λ_ h=>OH Ob NV O O (by omega)) bG ?_;refine Rs [13]$ qO 13$ Ou (i:=13) O O (Qt NV O O O (jh.ext bG).sl ((jh.ext bG).Z8 (by omega))) ?_;rintro w8a ⟨gl,gm⟩;refine⟨trivial,?_⟩;have cL:=(jh.ext bG).set gl;refine NG 14 O (OH Ob NV O O (by omega)) trivial$ qO 15$ Ou (i:=15) O O (Qt NV O O O cL.sl (cL.Z8 (by omega))) ?_;rintro w8 ⟨kg,kh⟩;refine⟨trivial,?_⟩;have kj:=cL.set kg;have fH:Kp (λk=>k=g) wD w8:=bG.kp.trans (gm.trans kh);refine qE$ qN O$ Nz O$ OI O O$ NF O$ NC O$ Nz O$ Qc O O$ NF O$ Ny ?_;rw[show(j2:Int)-1=((j2-1:Nat):Int) by omega];exact(ih (i2+1,j2-1,Go.Sort.swp d4 i2 j2) _ ⟨kj,(ao.trans (jI.trans fN)).trans fH,cC,by dsimp only;omega⟩ (by dsimp only;omega)).qb
      case th=>
       refine Qb (α:=Nat) (j) (λr=>[(0,.slice (some ⟨g,0,none⟩) n cap),(1,I (a:Int)),(10,I ((i2:Nat):Int)),(11,I ((r:Nat):Int))]) (λr w'=>Ri w' g n cap d4/\Kp (λk=>k=g) wC w'/\Go.Sort.scanDown (λx=>!Pt x d4[a]!) d4 i2 r=Go.Sort.scanDown (λx=>!Pt x d4[a]!) d4 i2 (j)/\r<n) (λr=>r) ?hI ?hround
       case hI=>exact⟨C2,Kp.refl _ _,rfl,by omega⟩
       case hround=>
        rintro r w5 ⟨aW,ai,cb,cf⟩ ih
        try dsimp only
        have hg:=Ext.NY w5;rcases Nat.lt_or_ge r (i2) with hj|hj
        ·refine py$ py$ PK (λw'=>Ext w5 w') O$ NX 0 O O (hg)$ NX 1 O O (hg)$ NG 2 O (Xu O O) hg$ S4$ NX 3 O O (hg)$ qJ 4 O (hg)$ qJ 5 O (hg)$ qJ 6 O (hg)$ qJ 7 O (hg)$ qJ 8 O (hg)$ qJ 9 O (hg) ?_;refine qJ 10 O (hg)$ qJ 11 O (hg)$ qJ 12 O (hg)$ qJ 13 O (hg)$ NG 14 O (S6 O O) hg$ qE$ It O$ NL O ?_;rw[QE _ _ _ _ (.inl hj)] at cb;subst cb;exact(fN _ _ ⟨rfl,aW.ext hg,ai.trans hg.kp⟩).qb
        ·refine py$ py$ PK (λw'=>Ext w5 w') O$ NX 0 O O (hg)$ NX 1 O O (hg)$ NG 2 O (Xu O O) hg$ SC$ NX 3 O O (hg)$ NX 4 O O (hg)$ NX 5 O O (hg)$ NG 6 O (OH Ob NV O O (by omega)) hg$ NX 8 O O (hg)$ NX 9 O O (hg)$ NG 10 O (OH Ob NV O O (by omega)) hg ?_;refine qT 7 O (λ_ h=>Oi OX O O ((aW.ext h).get (i:=r) (by omega))) hg$ qT 11 O (λ_ h=>Oi OX O O ((aW.ext h).get (i:=a) (by omega))) hg$ Qv 12 O UE O (QA _ _ _) ?_;rintro _ w6 ⟨rfl,rfl⟩;refine⟨hg,?_⟩;refine NG 13 O ((z7D O)) hg$ NG 14 O (Tu O O) hg$ qE$ OV O (λh1=>?_)$ λh1=>?_
         ·rw[UR _ _ _ _ hj (by simpa[Pt] using h1) (by omega)] at cb;refine An$ Nw$ NC O$ Nz O$ Qc O O$ NF O$ Ny ?_;rw[show(r:Int)-1=((r-1:Nat):Int) by omega];exact(ih (r-1) _ ⟨aW.ext hg,ai.trans hg.kp,cb,by omega⟩ (by omega)).qb
         ·rw[QE _ _ _ _ (.inr (by simpa[Pt] using h1))] at cb;refine NL O ?_;subst cb;exact(fN _ _ ⟨rfl,aW.ext hg,ai.trans hg.kp⟩).qb
     case ti=>
      refine Qb (α:=Nat) (i) (λr=>[(0,.slice (some ⟨g,0,none⟩) n cap),(1,I (a:Int)),(10,I ((r:Nat):Int)),(11,I ((j:Nat):Int))]) (λr w'=>Ri w' g n cap d4/\Kp (λk=>k=g) w4 w'/\Go.Sort.scanUp (λx=>Pt x d4[a]!) d4 j r=Go.Sort.scanUp (λx=>Pt x d4[a]!) d4 j (i)/\i<=r/\r<=n+1) (λr=>j+1-r) ?hI ?hround
      case hI=>exact⟨en,Kp.refl _ _,rfl,Nat.le_refl _,by omega⟩
      case hround=>
       rintro r w5 ⟨aW,ai,cb,cf⟩ ih
       try dsimp only
       have hg:=Ext.NY w5;rcases Nat.lt_or_ge (j) r with hj|hj
       ·refine py$ py$ PK (λw'=>Ext w5 w') O$ NX 0 O O (hg)$ NX 1 O O (hg)$ NG 2 O (Xu O O) hg$ S4$ NX 3 O O (hg)$ qJ 4 O (hg)$ qJ 5 O (hg)$ qJ 6 O (hg)$ qJ 7 O (hg)$ qJ 8 O (hg)$ qJ 9 O (hg) ?_;refine qJ 10 O (hg)$ qJ 11 O (hg)$ qJ 12 O (hg)$ NG 13 O (S6 O O) hg$ qE$ It O$ NL O ?_;rw[RK _ _ _ _ (.inl hj)] at cb;subst cb;exact(jI _ _ ⟨rfl,aW.ext hg,ai.trans hg.kp⟩).qb
       ·refine py$ py$ PK (λw'=>Ext w5 w') O$ NX 0 O O (hg)$ NX 1 O O (hg)$ NG 2 O (Xu O O) hg$ SC$ NX 3 O O (hg)$ NX 4 O O (hg)$ NX 5 O O (hg)$ NG 6 O (OH Ob NV O O (by omega)) hg$ NX 8 O O (hg)$ NX 9 O O (hg)$ NG 10 O (OH Ob NV O O (by omega)) hg ?_;refine qT 7 O (λ_ h=>Oi OX O O ((aW.ext h).get (i:=r) (by omega))) hg$ qT 11 O (λ_ h=>Oi OX O O ((aW.ext h).get (i:=a) (by omega))) hg$ Qv 12 O UE O (QA _ _ _) ?_;rintro _ w6 ⟨rfl,rfl⟩;refine⟨hg,?_⟩;refine NG 13 O (Tu O O) hg$ qE$ OV O (λh1=>?_)$ λh1=>?_
        ·rw[XH _ _ _ _ hj (by simpa[Pt] using h1)] at cb;refine An$ Nw$ NC O$ Nz O$ OI O O$ NF O$ Ny ?_;exact(ih (r+1) _ ⟨aW.ext hg,ai.trans hg.kp,cb,by omega,by omega⟩ (by omega)).qb
        ·rw[RK _ _ _ _ (.inr (by simpa[Pt] using h1))] at cb;refine NL O ?_;subst cb;exact(jI _ _ ⟨rfl,aW.ext hg,ai.trans hg.kp⟩).qb
  case C3=>
   refine Qb (α:=Nat) (b-1) (λr=>[(0,.slice (some ⟨g,0,none⟩) n cap),(1,I (a:Int)),(10,I ((i1:Nat):Int)),(11,I ((r:Nat):Int))]) (λr w'=>Ri w' g n cap D/\Kp (λk=>k=g) wA w'/\Go.Sort.scanDown (λx=>!Pt x D[a]!) D i1 r=Go.Sort.scanDown (λx=>!Pt x D[a]!) D i1 (b-1)/\r<n) (λr=>r) ?hI ?hround
   case hI=>exact⟨IL,Kp.refl _ _,rfl,by omega⟩
   case hround=>
    rintro r w5 ⟨aW,ai,cb,cf⟩ ih
    try dsimp only
    have hg:=Ext.NY w5;rcases Nat.lt_or_ge r (i1) with hj|hj
    ·refine py$ py$ PK (λw'=>Ext w5 w') O$ NX 0 O O (hg)$ NX 1 O O (hg)$ NG 2 O (Xu O O) hg$ S4$ NX 3 O O (hg)$ qJ 4 O (hg)$ qJ 5 O (hg)$ qJ 6 O (hg)$ qJ 7 O (hg)$ qJ 8 O (hg)$ qJ 9 O (hg) ?_;refine qJ 10 O (hg)$ qJ 11 O (hg)$ qJ 12 O (hg)$ qJ 13 O (hg)$ NG 14 O (S6 O O) hg$ qE$ It O$ NL O ?_;rw[QE _ _ _ _ (.inl hj)] at cb;subst cb;exact(jg _ _ ⟨rfl,aW.ext hg,ai.trans hg.kp⟩).qb
    ·refine py$ py$ PK (λw'=>Ext w5 w') O$ NX 0 O O (hg)$ NX 1 O O (hg)$ NG 2 O (Xu O O) hg$ SC$ NX 3 O O (hg)$ NX 4 O O (hg)$ NX 5 O O (hg)$ NG 6 O (OH Ob NV O O (by omega)) hg$ NX 8 O O (hg)$ NX 9 O O (hg)$ NG 10 O (OH Ob NV O O (by omega)) hg ?_;refine qT 7 O (λ_ h=>Oi OX O O ((aW.ext h).get (i:=r) (by omega))) hg$ qT 11 O (λ_ h=>Oi OX O O ((aW.ext h).get (i:=a) (by omega))) hg$ Qv 12 O UE O (QA _ _ _) ?_;rintro _ w6 ⟨rfl,rfl⟩;refine⟨hg,?_⟩;refine NG 13 O ((z7D O)) hg$ NG 14 O (Tu O O) hg$ qE$ OV O (λh1=>?_)$ λh1=>?_
     ·rw[UR _ _ _ _ hj (by simpa[Pt] using h1) (by omega)] at cb;refine An$ Nw$ NC O$ Nz O$ Qc O O$ NF O$ Ny ?_;rw[show(r:Int)-1=((r-1:Nat):Int) by omega];exact(ih (r-1) _ ⟨aW.ext hg,ai.trans hg.kp,cb,by omega⟩ (by omega)).qb
     ·rw[QE _ _ _ _ (.inr (by simpa[Pt] using h1))] at cb;refine NL O ?_;subst cb;exact(jg _ _ ⟨rfl,aW.ext hg,ai.trans hg.kp⟩).qb
 case C4=>
  refine Qb (α:=Nat) (a+1) (λr=>[(0,.slice (some ⟨g,0,none⟩) n cap),(1,I (a:Int)),(10,I ((r:Nat):Int)),(11,I (((b-1):Nat):Int))]) (λr w'=>Ri w' g n cap D/\Kp (λk=>k=g) w1 w'/\Go.Sort.scanUp (λx=>Pt x D[a]!) D (b-1) r=Go.Sort.scanUp (λx=>Pt x D[a]!) D (b-1) (a+1)/\a+1<=r/\r<=n+1) (λr=>(b-1)+1-r) ?hI ?hround
  case hI=>exact⟨iB,Kp.refl _ _,rfl,Nat.le_refl _,by omega⟩
  case hround=>
   rintro r w5 ⟨aW,ai,cb,cf⟩ ih
   try dsimp only
   have hg:=Ext.NY w5;rcases Nat.lt_or_ge ((b-1)) r with hj|hj
   ·refine py$ py$ PK (λw'=>Ext w5 w') O$ NX 0 O O (hg)$ NX 1 O O (hg)$ NG 2 O (Xu O O) hg$ S4$ NX 3 O O (hg)$ qJ 4 O (hg)$ qJ 5 O (hg)$ qJ 6 O (hg)$ qJ 7 O (hg)$ qJ 8 O (hg)$ qJ 9 O (hg) ?_;refine qJ 10 O (hg)$ qJ 11 O (hg)$ qJ 12 O (hg)$ NG 13 O (S6 O O) hg$ qE$ It O$ NL O ?_;rw[RK _ _ _ _ (.inl hj)] at cb;subst cb;exact(pj _ _ ⟨rfl,aW.ext hg,ai.trans hg.kp⟩).qb
   ·refine py$ py$ PK (λw'=>Ext w5 w') O$ NX 0 O O (hg)$ NX 1 O O (hg)$ NG 2 O (Xu O O) hg$ SC$ NX 3 O O (hg)$ NX 4 O O (hg)$ NX 5 O O (hg)$ NG 6 O (OH Ob NV O O (by omega)) hg$ NX 8 O O (hg)$ NX 9 O O (hg)$ NG 10 O (OH Ob NV O O (by omega)) hg ?_;refine qT 7 O (λ_ h=>Oi OX O O ((aW.ext h).get (i:=r) (by omega))) hg$ qT 11 O (λ_ h=>Oi OX O O ((aW.ext h).get (i:=a) (by omega))) hg$ Qv 12 O UE O (QA _ _ _) ?_;rintro _ w6 ⟨rfl,rfl⟩;refine⟨hg,?_⟩;refine NG 13 O (Tu O O) hg$ qE$ OV O (λh1=>?_)$ λh1=>?_
    ·rw[XH _ _ _ _ hj (by simpa[Pt] using h1)] at cb;refine An$ Nw$ NC O$ Nz O$ OI O O$ NF O$ Ny ?_;exact(ih (r+1) _ ⟨aW.ext hg,ai.trans hg.kp,cb,by omega,by omega⟩ (by omega)).qb
    ·rw[RK _ _ _ _ (.inr (by simpa[Pt] using h1))] at cb;refine NL O ?_;subst cb;exact(pj _ _ ⟨rfl,aW.ext hg,ai.trans hg.kp⟩).qb
theorem zbC {w:World}{g n cap:Nat}{d:Array Nat}(h:Ri w g n cap d)(a b pv:Nat)(IK:a<=pv)(rF:pv<b)(hb:b<=n)(hn:n<=65536):
  Oa prog 248 [.slice (some ⟨g,0,none⟩) n cap,I (a:Int),I (b:Int),I (pv:Int)] w λu w'=>u=I ((Go.Sort.partitionEqual Pt d a b pv).1:Int)/\Ri w' g n cap (Go.Sort.partitionEqual Pt d a b pv).2/\Kp (λk=>k=g) w w':=by
 refine Nu (e:=[(0,_),(1,_),(2,_),(3,_)]) func248 O ntmps248 O O$ qN O$ NF O$ py ?_
 have aF:=Ext.NY w
 refine O3 [13,15] (λw'=>Ext w w') (by kernel_rfl) O$ qL [12,13,14,15] 0 O (λ_ h=>Oq O) aF$ qL [12,13,14,15] 1 O (λ_ h=>Oq O) aF$ OS (i:=2) O (by kernel_rfl) O O (λ_=>Oq O) (aF)$ OS (i:=3) O (by kernel_rfl) O O (λ_=>Oq O) (aF)$ qL [6,7,12,13,14,15] 4 O (λ_ h=>Oq O) aF$ qL [6,7,12,13,14,15] 5 O (λ_ h=>Oq O) aF$ qL [7,12,13,14,15] 6 O (λ_ h=>OH Ob NV O O (by omega)) aF$ qL [10,11,12,13,14,15] 8 O (λ_ h=>Oq O) aF$ qL [10,11,12,13,14,15] 9 O (λ_ h=>Oq O) aF$ qL [11,12,13,14,15] 10 O (λ_ h=>OH Ob NV O O (by omega)) aF$ qL [12,13,14,15] 7 O (λ_ hS=>Oi OX O O ((h.ext hS).get (i:=pv) (by omega))) aF$ qL [12,13,14,15] 11 O (λ_ hS=>Oi OX O O ((h.ext hS).get (i:=a) (by omega))) aF$ qL [13,14,15] 12 O (λ_ h=>OH Ob NV O O (by omega)) aF ?_
 refine Rs [13]$ qO 13$ Ou (i:=13) O O (Qt NV O O O (h.ext aF).sl ((h.ext aF).Z8 (by omega))) ?_
 rintro w1a ⟨nD,nE⟩
 refine⟨trivial,?_⟩
 have gj:=(h.ext aF).set nD
 refine NG 14 O (OH Ob NV O O (by omega)) trivial$ qO 15$ Ou (i:=15) O O (Qt NV O O O gj.sl (gj.Z8 (by omega))) ?_
 rintro w1 ⟨te,tf⟩
 refine⟨trivial,?_⟩
 have iB:=gj.set te
 have kU:Kp (λk=>k=g) w w1:=aF.kp.trans (nE.trans tf)
 refine qE$ qN O$ Nz O$ OI O O$ Nz O$ Qc O O$ NQ O$ NF O$ Of.qb (e:=[(0,_),(1,_),(8,_),(9,_),(10,_)]) ?_
 refine py$ Nw ?_
 unfold Go.Sort.partitionEqual
 replace iB:Ri w1 g n cap (Go.Sort.swp d a pv):=iB
 generalize Go.Sort.swp d a pv=D at iB
 rw[show(a:Int)+1=((a+1:Nat):Int) by omega,show(b:Int)-1=((b-1:Nat):Int) by omega]
 refine Qb (α:=Nat×Nat×Array Nat) ((a+1,b-1,D)) (λy=>[(0,.slice (some ⟨g,0,none⟩) n cap),(1,I (a:Int)),(9,I (y.1:Int)),(10,I (y.2.1:Int))]) (λy w'=>Ri w' g n cap y.2.2/\Kp (λk=>k=g) w1 w'/\Go.Sort.partEqLoop Pt a y.1 y.2.1 y.2.2=Go.Sort.partEqLoop Pt a (a+1) (b-1) D/\(a<y.1/\y.1<=n/\y.2.1<n)) (λy=>y.2.1+1-y.1) ?hI ?hround
 case hI=>exact⟨iB,Kp.refl _ _,rfl,by dsimp only;omega⟩
 case hround =>
  rintro⟨i,j,d4⟩ w4 ⟨en,ao,cC,bK⟩ ih;dsimp only at en ao cC bK;rw[Go.Sort.partEqLoop_eq] at cC
  try dsimp only
  refine Nw$ py$ Nw$ QW (λe' w'=>e'=[(0,.slice (some ⟨g,0,none⟩) n cap),(1,I (a:Int)),(9,I (((Go.Sort.scanUp (λx=>!Pt d4[a]! x) d4 j (i)):Nat):Int)),(10,I ((j:Nat):Int))]/\Ri w' g n cap d4/\Kp (λk=>k=g) w4 w') ?jI$ λjI=>?ti
  case jI=>
   rintro e' wC ⟨rfl,C2,jI⟩;have dG:=Go.Sort.scanUp_ge (λx=>!Pt d4[a]! x) d4 j i;have mJ:=Vq (λx=>!Pt d4[a]! x) d4 j i
   generalize Go.Sort.scanUp (λx=>!Pt d4[a]! x) d4 j i=i2 at cC dG mJ
   refine py$ Nw$ QW (λe' w'=>e'=[(0,.slice (some ⟨g,0,none⟩) n cap),(1,I (a:Int)),(9,I ((i2:Nat):Int)),(10,I (((Go.Sort.scanDown (λx=>Pt d4[a]! x) d4 i2 (j)):Nat):Int))]/\Ri w' g n cap d4/\Kp (λk=>k=g) wC w') ?fN$ λfN=>?th
   case fN=>
    rintro e' wD ⟨rfl,jh,fN⟩;have kT:=Go.Sort.scanDown_le (λx=>Pt d4[a]! x) d4 i2 j
    generalize Go.Sort.scanDown (λx=>Pt d4[a]! x) d4 i2 j=j2 at cC kT
    refine py$ qN O$ NT O O$ P9 O O$ NB$ NN O (λh5=>?_)$ λh5=>?_
    ·rw[if_pos (by omega)] at cC;rw[<-cC];refine NL O$ qN O$ Nz O$ NF O$ NA func248 O ?_;exact⟨_,rfl,rfl,jh,kU.trans (ao.trans (jI.trans fN))⟩
    ·rw[if_neg (by omega)] at cC;refine An$ py ?_;have bG:=Ext.NY wD;refine O3 [13,15] (λw'=>Ext wD w') (by kernel_rfl) O$ qL [12,13,14,15] 0 O (λ_ h=>Oq O) bG$ qL [12,13,14,15] 1 O (λ_ h=>Oq O) bG$ OS (i:=2) O (by kernel_rfl) O O (λ_=>Oq O) (bG)$ OS (i:=3) O (by kernel_rfl) O O (λ_=>Oq O) (bG)$ qL [6,7,12,13,14,15] 4 O (λ_ h=>Oq O) bG$ qL [6,7,12,13,14,15] 5 O (λ_ h=>Oq O) bG$ qL [7,12,13,14,15] 6 O (λ_ h=>OH Ob NV O O (by omega)) bG$ qL [10,11,12,13,14,15] 8 O (λ_ h=>Oq O) bG$ qL [10,11,12,13,14,15] 9 O (λ_ h=>Oq O) bG$ qL [11,12,13,14,15] 10 O (λ_ h=>OH Ob NV O O (by omega)) bG$ qL [12,13,14,15] 7 O (λ_ h=>Oi OX O O ((jh.ext h).get (i:=j2) (by omega))) bG$ qL [12,13,14,15] 11 O (λ_ h=>Oi OX O O ((jh.ext h).get (i:=i2) (by omega))) bG$ qL [13,14,15] 12 O (λ_ h=>OH Ob NV O O (by omega)) bG ?_;refine Rs [13]$ qO 13$ Ou (i:=13) O O (Qt NV O O O (jh.ext bG).sl ((jh.ext bG).Z8 (by omega))) ?_;rintro w8a ⟨gl,gm⟩;refine⟨trivial,?_⟩;have cL:=(jh.ext bG).set gl;refine NG 14 O (OH Ob NV O O (by omega)) trivial$ qO 15$ Ou (i:=15) O O (Qt NV O O O cL.sl (cL.Z8 (by omega))) ?_;rintro w8 ⟨kg,kh⟩;refine⟨trivial,?_⟩;have kj:=cL.set kg;have fH:Kp (λk=>k=g) wD w8:=bG.kp.trans (gm.trans kh);refine qE$ qN O$ Nz O$ OI O O$ NF O$ NC O$ Nz O$ Qc O O$ NF O$ Ny ?_;rw[show(j2:Int)-1=((j2-1:Nat):Int) by omega];exact(ih (i2+1,j2-1,Go.Sort.swp d4 i2 j2) _ ⟨kj,(ao.trans (jI.trans fN)).trans fH,cC,by dsimp only;omega⟩ (by dsimp only;omega)).qb
   case th=>
    refine Qb (α:=Nat) (j) (λr=>[(0,.slice (some ⟨g,0,none⟩) n cap),(1,I (a:Int)),(9,I ((i2:Nat):Int)),(10,I ((r:Nat):Int))]) (λr w'=>Ri w' g n cap d4/\Kp (λk=>k=g) wC w'/\Go.Sort.scanDown (λx=>Pt d4[a]! x) d4 i2 r=Go.Sort.scanDown (λx=>Pt d4[a]! x) d4 i2 (j)/\r<n) (λr=>r) ?hI ?hround
    case hI=>exact⟨C2,Kp.refl _ _,rfl,by omega⟩
    case hround=>
     rintro r w5 ⟨aW,ai,cb,cf⟩ ih
     try dsimp only
     have hg:=Ext.NY w5;rcases Nat.lt_or_ge r (i2) with hj|hj
     ·refine py$ py$ PK (λw'=>Ext w5 w') O$ NX 0 O O (hg)$ NX 1 O O (hg)$ NG 2 O (Xu O O) hg$ S4$ NX 3 O O (hg)$ qJ 4 O (hg)$ qJ 5 O (hg)$ qJ 6 O (hg)$ qJ 7 O (hg)$ qJ 8 O (hg)$ qJ 9 O (hg) ?_;refine qJ 10 O (hg)$ qJ 11 O (hg)$ qJ 12 O (hg)$ NG 13 O (S6 O O) hg$ qE$ It O$ NL O ?_;rw[QE _ _ _ _ (.inl hj)] at cb;subst cb;exact(fN _ _ ⟨rfl,aW.ext hg,ai.trans hg.kp⟩).qb
     ·refine py$ py$ PK (λw'=>Ext w5 w') O$ NX 0 O O (hg)$ NX 1 O O (hg)$ NG 2 O (Xu O O) hg$ SC$ NX 3 O O (hg)$ NX 4 O O (hg)$ NX 5 O O (hg)$ NG 6 O (OH Ob NV O O (by omega)) hg$ NX 8 O O (hg)$ NX 9 O O (hg)$ NG 10 O (OH Ob NV O O (by omega)) hg ?_;refine qT 7 O (λ_ h=>Oi OX O O ((aW.ext h).get (i:=a) (by omega))) hg$ qT 11 O (λ_ h=>Oi OX O O ((aW.ext h).get (i:=r) (by omega))) hg$ Qv 12 O UE O (QA _ _ _) ?_;rintro _ w6 ⟨rfl,rfl⟩;refine⟨hg,?_⟩;refine NG 13 O (Tu O O) hg$ qE$ OV O (λh1=>?_)$ λh1=>?_
      ·rw[UR _ _ _ _ hj (by simpa[Pt] using h1) (by omega)] at cb;refine An$ Nw$ NC O$ Nz O$ Qc O O$ NF O$ Ny ?_;rw[show(r:Int)-1=((r-1:Nat):Int) by omega];exact(ih (r-1) _ ⟨aW.ext hg,ai.trans hg.kp,cb,by omega⟩ (by omega)).qb
      ·rw[QE _ _ _ _ (.inr (by simpa[Pt] using h1))] at cb;refine NL O ?_;subst cb;exact(fN _ _ ⟨rfl,aW.ext hg,ai.trans hg.kp⟩).qb
  case ti=>
   refine Qb (α:=Nat) (i) (λr=>[(0,.slice (some ⟨g,0,none⟩) n cap),(1,I (a:Int)),(9,I ((r:Nat):Int)),(10,I ((j:Nat):Int))]) (λr w'=>Ri w' g n cap d4/\Kp (λk=>k=g) w4 w'/\Go.Sort.scanUp (λx=>!Pt d4[a]! x) d4 j r=Go.Sort.scanUp (λx=>!Pt d4[a]! x) d4 j (i)/\i<=r/\r<=n+1) (λr=>j+1-r) ?hI ?hround
   case hI=>exact⟨en,Kp.refl _ _,rfl,Nat.le_refl _,by omega⟩
   case hround=>
    rintro r w5 ⟨aW,ai,cb,cf⟩ ih
    try dsimp only
    have hg:=Ext.NY w5;rcases Nat.lt_or_ge (j) r with hj|hj
    ·refine py$ py$ PK (λw'=>Ext w5 w') O$ NX 0 O O (hg)$ NX 1 O O (hg)$ NG 2 O (Xu O O) hg$ S4$ NX 3 O O (hg)$ qJ 4 O (hg)$ qJ 5 O (hg)$ qJ 6 O (hg)$ qJ 7 O (hg)$ qJ 8 O (hg)$ qJ 9 O (hg) ?_;refine qJ 10 O (hg)$ qJ 11 O (hg)$ qJ 12 O (hg)$ qJ 13 O (hg)$ NG 14 O (S6 O O) hg$ qE$ It O$ NL O ?_;rw[RK _ _ _ _ (.inl hj)] at cb;subst cb;exact(jI _ _ ⟨rfl,aW.ext hg,ai.trans hg.kp⟩).qb
    ·refine py$ py$ PK (λw'=>Ext w5 w') O$ NX 0 O O (hg)$ NX 1 O O (hg)$ NG 2 O (Xu O O) hg$ SC$ NX 3 O O (hg)$ NX 4 O O (hg)$ NX 5 O O (hg)$ NG 6 O (OH Ob NV O O (by omega)) hg$ NX 8 O O (hg)$ NX 9 O O (hg)$ NG 10 O (OH Ob NV O O (by omega)) hg ?_;refine qT 7 O (λ_ h=>Oi OX O O ((aW.ext h).get (i:=a) (by omega))) hg$ qT 11 O (λ_ h=>Oi OX O O ((aW.ext h).get (i:=r) (by omega))) hg$ Qv 12 O UE O (QA _ _ _) ?_;rintro _ w6 ⟨rfl,rfl⟩;refine⟨hg,?_⟩;refine NG 13 O ((z7D O)) hg$ NG 14 O (Tu O O) hg$ qE$ OV O (λh1=>?_)$ λh1=>?_
     ·rw[XH _ _ _ _ hj (by simpa[Pt] using h1)] at cb;refine An$ Nw$ NC O$ Nz O$ OI O O$ NF O$ Ny ?_;exact(ih (r+1) _ ⟨aW.ext hg,ai.trans hg.kp,cb,by omega,by omega⟩ (by omega)).qb
     ·rw[RK _ _ _ _ (.inr (by simpa[Pt] using h1))] at cb;refine NL O ?_;subst cb;exact(jI _ _ ⟨rfl,aW.ext hg,ai.trans hg.kp⟩).qb
section
variable (d:Array Nat)(b i:Nat)
theorem z0t (h:i<b)(hp:Pt d[i]! d[i-1]! =false):Go.Sort.scanSorted Pt d b i=Go.Sort.scanSorted Pt d b (i+1):=by
 conv=>lhs;rw[Go.Sort.scanSorted]
 rw[if_pos]
 rw[Bool.and_eq_true];exact⟨by simpa using h,by rw[hp];rfl⟩
theorem UC (h:b<=i\/Pt d[i]! d[i-1]! =true):Go.Sort.scanSorted Pt d b i=i:=by
 rw[Go.Sort.scanSorted,if_neg]
 intro hc
 rw[Bool.and_eq_true] at hc
 rcases h with h| h
 ·have:=of_decide_eq_true hc.1;omega
 ·rw[h] at hc;cases hc.2
end
theorem z5P (d:Array Nat)(a b:Nat)(h:b-a<50):Go.Sort.partialInsertionSort Pt d a b=(d,decide (Go.Sort.scanSorted Pt d b (a+1)=b)):=by
 unfold Go.Sort.partialInsertionSort
 rw[Go.Sort.partialIns]
 by_cases e:Go.Sort.scanSorted Pt d b (a+1)=b
 ·simp only[e,if_pos,decide_true]
 ·simp only[if_neg e,if_pos h,decide_eq_false e]
theorem z8R {w:World}{g n cap:Nat}{d:Array Nat}(h:Ri w g n cap d)(a b:Nat)(jC:a<b)(hb:b<=n)(hn:n<50):
  Oa prog 246 [.slice (some ⟨g,0,none⟩) n cap,I (a:Int),I (b:Int)] w λu w'=>u= .bool (Go.Sort.partialInsertionSort Pt d a b).2/\Ri w' g n cap d/\Kp (λk=>k=g) w w':=by
 rw[z5P d a b (by omega)]
 dsimp only
 refine Nu (e:=[(0,_),(1,_),(2,_)]) func246 O ntmps246 O O$ qN O$ NQ O$ qM O$ Nz O$ OI O O$ NF O$ py$ qN O$ NF O$ Nw ?_
 rw[show(a:Int)+1=((a+1:Nat):Int) by omega]
 refine Qb (α:=Unit) (()) (λ_=>[(0,.slice (some ⟨g,0,none⟩) n cap),(1,I (a:Int)),(2,I (b:Int)),(7,I ((a+1:Nat):Int)),(8,I 0)]) (λy w'=>w'=w) (λy=>0) ?hI ?hround
 case hI=>rfl
 case hround =>
  rintro _ w4 rfl ih0
  try dsimp only
  refine py$ qN O$ Nz O$ Pb O O$ NB$ NN O (λh0=>?_)$ λh0=>?_
  ·refine An$ py$ Nw$ py$ Nw$ QW (λe' w'=>e'=[(0,.slice (some ⟨g,0,none⟩) n cap),(1,I (a:Int)),(2,I (b:Int)),(7,I (Go.Sort.scanSorted Pt d b (a+1):Int)),(8,I 0)]/\Ri w' g n cap d/\Kp (λk=>k=g) w4 w') ?gY$ λgY=>?C5
   case gY=>
    rintro e' ws ⟨rfl,GZ,gY⟩;refine py$ qN O$ NT O O$ Px O O$ NB$ NN O (λh1=>?_)$ λh1=>?_
    ·have vG:Go.Sort.scanSorted Pt d b (a+1)=b:=by omega
     rw[decide_eq_true vG];refine qN O$ NF O$ NA func246 O ?_;exact⟨_,rfl,rfl,GZ,gY⟩
    ·have vG:¬Go.Sort.scanSorted Pt d b (a+1)=b:=by omega
     rw[decide_eq_false vG];refine An$ py$ qN O$ NT O O$ Qc O O$ Pb O O$ NB$ NN O (λh2=>?_)$ λh2=>?_
     ·refine qN O$ NF O$ NA func246 O ?_;exact⟨_,rfl,rfl,GZ,gY⟩
     ·omega
   case C5=>
    refine Qb (α:=Nat) (a+1) (λr=>[(0,.slice (some ⟨g,0,none⟩) n cap),(1,I (a:Int)),(2,I (b:Int)),(7,I (r:Int)),(8,I 0)]) (λr w'=>Ri w' g n cap d/\Kp (λk=>k=g) w4 w'/\Go.Sort.scanSorted Pt d b r=Go.Sort.scanSorted Pt d b (a+1)/\a<r/\r<=b) (λr=>b-r) ?hI ?hround
    case hI=>exact⟨h,Kp.refl _ _,rfl,Nat.lt_succ_self a,jC⟩
    case hround=>
     rintro r w5 ⟨aW,ai,cb,cf,H0⟩ ih
     try dsimp only
     have hg:=Ext.NY w5;rcases Nat.lt_or_ge r b with hj|hj
     ·refine py$ py$ PK (λw'=>Ext w5 w') O$ NX 0 O O (hg)$ NX 1 O O (hg)$ NG 2 O (ZQ O O) hg$ SC$ NX 3 O O (hg)$ NX 4 O O (hg)$ NX 5 O O (hg)$ NG 6 O (OH Ob NV O O (by omega)) hg$ NX 8 O O (hg)$ NX 9 O O (hg)$ NG 10 O (W5 O O (by omega)) hg ?_;rw[show(r:Int)-1=((r-1:Nat):Int) by omega];refine qT 7 O (λ_ h=>Oi OX O O ((aW.ext h).get (i:=r) (by omega))) hg$ NG 11 O (OH Ob NV O O (by omega)) hg$ qT 12 O (λ_ h=>Oi OX O O ((aW.ext h).get (i:=r-1) (by omega))) hg$ Qv 13 O UE O (QA _ _ _) ?_;rintro _ w6 ⟨rfl,rfl⟩;refine⟨hg,?_⟩;refine NG 14 O ((z7D O)) hg$ NG 15 O (Tu O O) hg$ qE$ OV O (λh3=>?_)$ λh3=>?_
      ·rw[z0t _ _ _ hj (by simpa[Pt] using h3)] at cb;refine An$ Nw$ NC O$ Nz O$ OI O O$ NF O$ Ny ?_;exact(ih (r+1) _ ⟨aW.ext hg,ai.trans hg.kp,cb,by omega,by omega⟩ (by omega)).qb
      ·rw[UC _ _ _ (.inr (by simpa[Pt] using h3))] at cb;refine NL O ?_;subst cb;exact(gY _ _ ⟨rfl,aW.ext hg,ai.trans hg.kp⟩).qb
     ·refine py$ py$ PK (λw'=>Ext w5 w') O$ NX 0 O O (hg)$ NX 1 O O (hg)$ NG 2 O (ZQ O O) hg$ S4$ NX 3 O O (hg)$ qJ 4 O (hg)$ qJ 5 O (hg)$ qJ 6 O (hg)$ qJ 7 O (hg)$ qJ 8 O (hg)$ qJ 9 O (hg) ?_;refine qJ 10 O (hg)$ qJ 11 O (hg)$ qJ 12 O (hg)$ qJ 13 O (hg)$ qJ 14 O (hg)$ NG 15 O (S6 O O) hg$ qE$ It O$ NL O ?_;rw[UC _ _ _ (.inl hj)] at cb;subst cb;exact(gY _ _ ⟨rfl,aW.ext hg,ai.trans hg.kp⟩).qb
  ·exact absurd (by decide) h0
theorem Wq {w:World}{g n cap sb s:Nat}{d:Array Nat}(h:Ri w g n cap d)(hB:NM w sb [I (s:Int)] 3)(hs:s<=1000)(x y:Nat)(hx:x<n)(hy:y<n)(rG:sb≠g):
  Oa prog 257 [.slice (some ⟨g,0,none⟩) n cap,I (x:Int),I (y:Int),ptr sb 0] w λu w'=>∃x' y' s':Nat,u= .tuple #[I (x':Int),I (y':Int)]/\((x'=x/\y'=y)\/(x'=y/\y'=x))/\s'<=s+1/\NM w' sb [I (s':Int)] 3/\Ri w' g n cap d/\Kp (λk=>k=sb) w w':=by
 refine Nu (e:=[(0,_),(1,_),(2,_),(3,_)]) func257 O ntmps257 O O ?_
 have hg:=Ext.NY w
 refine qN O$ NQ O$ NF O$ py$ py$ PK (λw'=>Ext w w') O$ NX 0 O O (hg)$ NX 1 O O (hg)$ NG 2 O (OH Ob NV O O (by omega)) hg$ NX 4 O O (hg)$ NX 5 O O (hg)$ NG 6 O (OH Ob NV O O (by omega)) hg$ qT 3 O (λ_ hS=>Oi OX O O ((h.ext hS).get (i:=y) (by omega))) hg$ qT 7 O (λ_ hS=>Oi OX O O ((h.ext hS).get (i:=x) (by omega))) hg ?_
 refine Qv 8 O UE O (QA _ _ _) ?_
 rintro _ w6 ⟨rfl,rfl⟩
 refine⟨hg,?_⟩
 refine qE$ OV O (λh1=>?_)$ λh1=>?_
 ·have am:=hg.ND hB;refine qN O$ Nz O$ O8 O$ qV (NJ U3 O O am O)$ OI O O$ O8 O$ NP O (PA OL O O O am (by simp)) ?_;rintro w3 ⟨ar,aw⟩;refine qM O$ NT O O$ NQ O$ NF O$ NA func257 O ?_;exact⟨_,rfl,y,x,s+1,rfl,.inr ⟨rfl,rfl⟩,Nat.le_refl _,ar,(h.ext hg).kp aw (λe=>rG e.symm),hg.kp.trans aw⟩
 ·refine An$ qN O$ NT O O$ NQ O$ NF O$ NA func257 O ?_;exact⟨_,rfl,x,y,s,rfl,.inl ⟨rfl,rfl⟩,Nat.le_succ _,hg.ND hB,h.ext hg,hg.kp⟩
theorem z4g {w:World}{g n cap sb s:Nat}{d:Array Nat}(h:Ri w g n cap d)(hB:NM w sb [I (s:Int)] 3)(hs:s<=500)(x y z:Nat)(hx:x<n)(hy:y<n)(hz:z<n)(rG:sb≠g):
  Oa prog 255 [.slice (some ⟨g,0,none⟩) n cap,I (x:Int),I (y:Int),I (z:Int),ptr sb 0] w λu w'=>∃x' s':Nat,u=I (x':Int)/\(x'=x\/x'=y\/x'=z)/\s'<=s+3/\NM w' sb [I (s':Int)] 3/\Ri w' g n cap d/\Kp (λk=>k=sb) w w':=by
 refine Nu (e:=[(0,_),(1,_),(2,_),(3,_),(4,_)]) func255 O ntmps255 O O$ qN O$ NQ O$ qM O$ NT O O$ NT O O$ NZ z9h O (Wq h hB (by omega) x y hx hy rG) ?_
 rintro _ w1 ⟨x1,y1,s1,rfl,IN,eg,aj,kV,aM⟩
 refine Nz O$ ON O O$ ON O O$ NQ O$ NQ O$ qM O$ NT O O$ NT O O$ NZ z9h O (Wq kV aj (by omega) y1 z (by omega) hz rG) ?_
 rintro _ w2 ⟨y2,z2,s2,rfl,IP,dc,am,pS,aq⟩
 refine Nz O$ ON O O$ ON O O$ NQ O$ NQ O$ qM O$ NT O O$ NT O O$ NZ z9h O (Wq pS am (by omega) x1 y2 (by omega) (by omega) rG) ?_
 rintro _ w3 ⟨x3,y3,s3,rfl,IQ,pp,ar,vH,aw⟩
 refine Nz O$ ON O O$ ON O O$ NQ O$ NF O$ Of.qb (e:=[(2,_),(10,_)]) ?_
 refine qN O$ Nz O$ NF O$ NA func255 O ?_
 exact⟨_,rfl,y3,s3,rfl,by omega,by omega,ar,vH,(aM.trans aq).trans aw⟩
theorem z8C {w:World}{g n cap:Nat}{d:Array Nat}(h:Ri w g n cap d)(a b:Nat)(jC:a+12<b)(hb:b<=n)(hn:n<50):
  Oa prog 244 [.slice (some ⟨g,0,none⟩) n cap,I (a:Int),I (b:Int)] w λu w'=>∃p t:Nat,u= .tuple #[I (p:Int),I (t:Int)]/\a<=p/\p<b/\t<=2/\Ri w' g n cap d/\Ext w w':=by
 have IR:g<w.heap.size:=h.sl.lt O
 refine Nu (e:=[(0,_),(1,_),(2,_)]) func244 O ntmps244 O O$ qN O$ NQ O$ NQ O$ qM O$ NT O O$ Qc O O$ NQ O$ qM O ?_
 rw[show(b:Int)-(a:Int)=((b-a:Nat):Int) by omega]
 refine NK O O (Qk (cs:=[_]) OL O) ?_
 rintro _ w1 ⟨sb,rfl,rG,ad,aj⟩
 replace aj:NM w1 sb [I ((0:Nat):Int)] 3:=aj
 refine qM O$ NT O O$ qV (Vu O O (by omega))$ qV (TT O O (by omega))$ OI O O$ NQ O$ qM O$ NT O O$ qV (Vu O O (by omega))$ qV (TT O O (by omega))$ OI O O$ NQ O$ qM O$ NT O O ?_
 refine qV (Vu O O (by omega))$ qV (TT O O (by omega))$ OI O O$ NF O$ Of.qb (e:=[(0,_),(6,_),(7,_),(8,_),(9,_),(10,_),(11,_),(12,_)]) ?_
 refine py$ qN O$ Nz O$ RN O O$ NB ?_
 rw[show(a:Int)+((b-a:Nat):Int) / 4*1=((a+(b-a) / 4*1:Nat):Int) by omega,show(a:Int)+((b-a:Nat):Int) / 4*2=((a+(b-a) / 4*2:Nat):Int) by omega,show(a:Int)+((b-a:Nat):Int) / 4*3=((a+(b-a) / 4*3:Nat):Int) by omega]
 refine NN O (λh0=>?_)$ λh0=>?_
 ·refine py$ qN O$ Nz O$ RN O O$ NB$ NN O (λh1=>?_)$ λh1=>?_
  ·omega
  ·refine An$ NC O$ NT O O$ NT O O$ NZ zgL O (z4g (h.ext ad) aj (by omega) (a+(b-a) / 4*1) (a+(b-a) / 4*2) (a+(b-a) / 4*3) (by omega) (by omega) (by omega) (by omega)) ?_;rintro _ w2 ⟨p,s,rfl,hp,hs,am,pS,aq⟩;have ag:Ext w w2:=ad.Nv aq (λk e=>by omega);refine NQ O$ qM O$ qV (NJ U3 O O am O)$ NB$ Nw$ qN O$ Px O O$ NF O$ NN O (λh2=>?_)$ λh2=>?_
   ·refine qN O$ Nz O$ NQ O$ NF O$ NA func244 O ?_;exact⟨_,rfl,p,1,rfl,by omega,by omega,by omega,pS,ag⟩
   ·refine qN O$ Px O O$ NF O$ NN O (λh3=>?_)$ λh3=>?_
    ·refine qN O$ Nz O$ NQ O$ NF O$ NA func244 O ?_;exact⟨_,rfl,p,2,rfl,by omega,by omega,by omega,pS,ag⟩
    ·refine qN O$ Nz O$ NQ O$ NF O$ NA func244 O ?_;exact⟨_,rfl,p,0,rfl,by omega,by omega,by omega,pS,ag⟩
 ·omega
theorem z7S {w:World}{xb r:Nat}(hB:NM w xb [NW r] 373)(hr:r<18446744073709551616):
  Oa prog 253 [ptr xb 0] w λu w'=>∃r':Nat,u=NW r'/\r'<18446744073709551616/\NM w' xb [NW r'] 373/\Kp (λk=>k=xb) w w':=by
 refine Nu (e:=[(0,_)]) func253 O ntmps253 O O ?_
 have av:=Ext.NY w
 refine qN O$ NF O$ py$ O3 [9] (λw'=>Ext w w') (by kernel_rfl) O$ qL [1,2,7,8,9] 0 O (λ_ h=>Oq O) av$ qL [2,7,8,9] 1 O (λ_ h=>OQ O) av$ qL [7,8,9] 2 O (λ_ h=>NJ z3r O O (h.ND hB) O) av$ qL [4,5,6,7,8,9] 3 O (λ_ h=>Oq O) av$ qL [5,6,7,8,9] 4 O (λ_ h=>OQ O) av$ qL [6,7,8,9] 5 O (λ_ h=>NJ z3r O O (h.ND hB) O) av$ qL [7,8,9] 6 O (λ_ h=>PV 13 8192 O O (by decide) O) av$ qL [8,9] 7 O (λ_ h=>ZW O O (by omega) (by omega)) av$ qL [9] 8 O (λ_ h=>OQ O) av ?_
 generalize j0:r^^^r*8192%18446744073709551616=r1
 have df:r1<18446744073709551616:=by rw[<-j0];exact Nat.xor_lt_two_pow (n:=64) (by omega) (by omega)
 refine Rs [9]$ qO 9$ Ou (i:=9) O O (PA z3h O O O (av.ND hB) (by simp)) ?_
 rintro w1 ⟨aj,aM⟩
 refine⟨trivial,?_⟩
 replace aj:NM w1 xb [NW r1] 373:=aj
 have aa:=Ext.NY w1
 refine qE$ py$ O3 [9] (λw'=>Ext w1 w') (by kernel_rfl) O$ qL [1,2,7,8,9] 0 O (λ_ h=>Oq O) aa$ qL [2,7,8,9] 1 O (λ_ h=>OQ O) aa$ qL [7,8,9] 2 O (λ_ h=>NJ z3r O O (h.ND aj) O) aa$ qL [4,5,6,7,8,9] 3 O (λ_ h=>Oq O) aa$ qL [5,6,7,8,9] 4 O (λ_ h=>OQ O) aa$ qL [6,7,8,9] 5 O (λ_ h=>NJ z3r O O (h.ND aj) O) aa$ qL [7,8,9] 6 O (λ_ h=>RS 7 128 O O (by decide) O) aa$ qL [8,9] 7 O (λ_ h=>ZW O O (by omega) (by omega)) aa$ qL [9] 8 O (λ_ h=>OQ O) aa ?_
 generalize fO:r1^^^r1 / 128=r2
 have dV:r2<18446744073709551616:=by rw[<-fO];exact Nat.xor_lt_two_pow (n:=64) (by omega) (by omega)
 refine Rs [9]$ qO 9$ Ou (i:=9) O O (PA z3h O O O (aa.ND aj) (by simp)) ?_
 rintro w2 ⟨am,aq⟩
 refine⟨trivial,?_⟩
 replace am:NM w2 xb [NW r2] 373:=am
 have ae:=Ext.NY w2
 refine qE$ py$ O3 [9] (λw'=>Ext w2 w') (by kernel_rfl) O$ qL [1,2,7,8,9] 0 O (λ_ h=>Oq O) ae$ qL [2,7,8,9] 1 O (λ_ h=>OQ O) ae$ qL [7,8,9] 2 O (λ_ h=>NJ z3r O O (h.ND am) O) ae$ qL [4,5,6,7,8,9] 3 O (λ_ h=>Oq O) ae$ qL [5,6,7,8,9] 4 O (λ_ h=>OQ O) ae$ qL [6,7,8,9] 5 O (λ_ h=>NJ z3r O O (h.ND am) O) ae$ qL [7,8,9] 6 O (λ_ h=>PV 17 131072 O O (by decide) O) ae$ qL [8,9] 7 O (λ_ h=>ZW O O (by omega) (by omega)) ae$ qL [9] 8 O (λ_ h=>OQ O) ae ?_
 generalize IS:r2^^^r2*131072%18446744073709551616=r3
 have cg:r3<18446744073709551616:=by rw[<-IS];exact Nat.xor_lt_two_pow (n:=64) (by omega) (by omega)
 refine Rs [9]$ qO 9$ Ou (i:=9) O O (PA z3h O O O (ae.ND am) (by simp)) ?_
 rintro w3 ⟨ar,aw⟩
 refine⟨trivial,?_⟩
 replace ar:NM w3 xb [NW r3] 373:=ar
 refine qE$ Of.qb (e:=[(0,_),(2,_)]) ?_
 refine qN O$ Nz O$ O8 O$ qV (NJ z3r O O ar O)$ NF O$ NA func253 O ?_
 exact⟨_,rfl,r3,rfl,cg,ar,(av.kp.trans aM).trans ((aa.kp.trans aq).trans (ae.kp.trans aw))⟩
theorem z5K (x:Nat)(hx:x<18446744073709551616)(w:World):Oa prog 239 [NW x] w λv w'=>v=I (OJ x:Int)/\w'=w:=by
 refine Nu (e:=[(0,_)]) func239 O ntmps239 O O$ qN O$ NF O$ py$ It O$ An$ qN O$ Nz O$ NZ z0H O (T0 x hx w) ?_
 rintro _ w ⟨rfl,rfl⟩
 refine NF O$ NA func239 O ?_
 exact⟨_,rfl,rfl,rfl⟩
theorem za1 (x:Nat)(hx:x<4294967296)(w:World):Oa prog 252 [I (x:Int)] w λv w'=>v=NW (2^OJ x)/\w'=w:=by
 have hl:OJ x<=32:=PQ (by omega)
 have hp:2^OJ x<=2^32:=Nat.pow_le_pow_right (by decide) hl
 refine Nu (e:=[(0,_)]) func252 O ntmps252 O O$ qN O$ NQ O$ qM O$ Nz O$ qV ((OM O U3 zed (by omega)))$ NZ zcq O (z5K x (by omega) w) ?_
 rintro _ w ⟨rfl,rfl⟩
 refine qV (PV (OJ x) (2^OJ x) O O (by omega) O) ?_
 rw[show 1*2^OJ x%18446744073709551616=2^OJ x by rw[Nat.one_mul];exact Nat.mod_eq_of_lt (by omega)]
 refine NF O$ NA func252 O ?_
 exact⟨_,rfl,rfl,rfl⟩
open Go.Sort in
theorem z8J {d:Array Nat}{a b i j:Nat}(h1:a<=i)(h2:i<b)(h3:a<=j)(h4:j<b)(h5:b<=d.size):PermIn a b d (swp d i j):=swp_permIn d a b i j h1 h2 h3 h4 h5
theorem z9G {w:World}{g n cap:Nat}{d:Array Nat}(h:Ri w g n cap d)(a b:Nat)(jC:a+12<b)(hb:b<=n)(hn:n<50):
  Oa prog 243 [.slice (some ⟨g,0,none⟩) n cap,I (a:Int),I (b:Int)] w λu w'=>u= .tuple #[]/\∃d',Go.Sort.PermIn a b d d'/\Ri w' g n cap d'/\Kp (λk=>k=g) w w':=by
 have IR:g<w.heap.size:=h.sl.lt O
 have pT:2^(OJ (b-a)-1)<=b-a:=Z0 (by omega)
 have lT:2^OJ (b-a)<=2*(b-a):=by
  have tp:OJ (b-a)≠0:=λe=>by have:=Vr (v:=b-a);rw[e] at this;omega
  rw[show OJ (b-a)=OJ (b-a)-1+1 by omega,Nat.pow_succ];omega
 have BB:1<=2^OJ (b-a):=Nat.one_le_two_pow
 refine Nu (e:=[(0,_),(1,_),(2,_)]) func243 O ntmps243 O O$ qN O$ NT O O$ Qc O O ?_
 rw[show(b:Int)-(a:Int)=((b-a:Nat):Int) by omega]
 refine NQ O$ qM O$ Nz O$ RN O O$ NB$ NN O (λh0=>?_)$ λh0=>?_
 ·refine qN O$ Nz O$ qV ((OM O U3 z3r (by omega)))$ NK O O (Qk (cs:=[_]) z3h O) ?_;rintro _ w1 ⟨xb,rfl,AE,ad,aj⟩;refine NP O (PA z3h O O O aj (by simp)) ?_;rintro w2 ⟨am,aq⟩;have ag:Ext w w2:=ad.Nv aq (λk e=>by omega);replace am:NM w2 xb [NW (b-a)] 373:=am;refine qM O$ Nz O$ NZ zgA O (za1 (b-a) (by omega) _) ?_;rintro _ w2 ⟨rfl,rfl⟩
  generalize 2^OJ (b-a)=M at lT BB
  refine NQ O$ qM O$ NT O O$ qV (Vu O O (by omega))$ qV (TT O O (by omega))$ OI O O$ Qc O O$ NF O$ Nw ?_;rw[show(a:Int)+((b-a:Nat):Int) / 4*2-1=((a+(b-a) / 4*2-1:Nat):Int) by omega];refine Qb (α:=Nat×Array Nat×Nat) ((a+(b-a) / 4*2-1,d,b-a)) (λy=>[(0,.slice (some ⟨g,0,none⟩) n cap),(1,I (a:Int)),(6,I ((b-a:Nat):Int)),(7,ptr xb 0),(8,NW M),(9,I (y.1:Int))]) (λy w'=>Ri w' g n cap y.2.1/\NM w' xb [NW y.2.2] 373/\y.2.2<18446744073709551616/\Go.Sort.PermIn a b d y.2.1/\Kp (λk=>k=g) w w'/\a<=y.1) (λy=>a+b+2-y.1) ?hI ?hround
  case hI=>exact⟨h.ext ag,am,by dsimp only;omega,Go.Sort.permIn_refl _ _ _,ag.kp,by dsimp only;omega⟩
  case hround=>
   rintro⟨idx,d4,r⟩ w4 ⟨en,aH,bK,ji,ao,lQ⟩ ih;dsimp only at en aH bK ji ao lQ;have cH:=en.size
   try dsimp only
   refine py$ qN O$ NT O O$ Nz O$ qV (Vu O O (by omega))$ qV (TT O O (by omega))$ OI O O$ OI O O$ zle O O$ NB$ NN O (λh1=>?_)$ λh1=>?_
   ·have pU:idx<b:=by omega
    refine An$ py$ Nw$ qN O$ NZ zfj O (z7S aH bK) ?_;rintro _ w5 ⟨r5,rfl,cf,aC,ai⟩;have aW:=en.kp ai (λe=>by omega);have bX:Kp (λk=>k=g) w w5:=ao.Nv ai (λk e=> .inl (by omega));refine Nz O$ qV (Uh (m:=M) (n:=1) O O O (by show M<2^64;omega) (by omega)) ?_;refine qV (Td O O (by omega) (by omega)) ?_;have C6:r5&&&(M-1)<=M-1:=Nat.and_le_right
    generalize r5&&&(M-1)=q at C6
    refine qV (Ow O zed U3 (by omega))$ NF O$ py$ qN O$ NT O O$ RN O O$ NB$ Oy (λe' w'=>∃o:Nat,e'=[(0,.slice (some ⟨g,0,none⟩) n cap),(1,I (a:Int)),(6,I ((b-a:Nat):Int)),(7,ptr xb 0),(8,NW M),(9,I (idx:Int)),(10,I (o:Int))]/\w'=w5/\o<b-a) ?C7$ λC7=>?C8
    case C7=>
     rintro e' w5' ⟨o,rfl,rfl,ho⟩;have aF:=Ext.NY w5';refine O3 [17,19] (λw'=>Ext w5' w') (by kernel_rfl) O$ qL [16,17,18,19] 0 O (λ_ h=>Oq O) aF$ qL [16,17,18,19] 1 O (λ_ h=>Oq O) aF$ OS (i:=2) O (by kernel_rfl) O O (λ_=>Oq O) (aF)$ OS (i:=3) O (by kernel_rfl) O O (λ_=>Oq O) (aF)$ OS (i:=4) O (by kernel_rfl) O O (λ_=>Oq O) (aF)$ OS (i:=5) O (by kernel_rfl) O O (λ_=>SX O O (by omega)) (aF)$ qL [10,11,16,17,18,19] 6 O (λ_ h=>Oq O) aF$ qL [9,10,11,16,17,18,19] 7 O (λ_ h=>Oq O) aF$ qL [9,10,11,16,17,18,19] 8 O (λ_ h=>Oq O) aF$ qL [10,11,16,17,18,19] 9 O (λ_ h=>SX O O (by omega)) aF$ qL [11,16,17,18,19] 10 O (λ_ h=>OH Ob NV O O (by omega)) aF$ qL [14,15,16,17,18,19] 12 O (λ_ h=>Oq O) aF$ qL [14,15,16,17,18,19] 13 O (λ_ h=>Oq O) aF ?_;refine qL [15,16,17,18,19] 14 O (λ_ h=>OH Ob NV O O (by omega)) aF$ qL [16,17,18,19] 11 O (λ_ h=>Oi OX O O ((aW.ext h).get (i:=a+o) (by omega))) aF$ qL [16,17,18,19] 15 O (λ_ h=>Oi OX O O ((aW.ext h).get (i:=idx) (by omega))) aF$ qL [17,18,19] 16 O (λ_ h=>OH Ob NV O O (by omega)) aF$ Rs [17]$ qO 17$ Ou (i:=17) O O (Qt NV O O O (aW.ext aF).sl ((aW.ext aF).Z8 (by omega))) ?_;rintro w8a ⟨gl,gm⟩;refine⟨trivial,?_⟩;have cL:=(aW.ext aF).set gl;refine NG 18 O (OH Ob NV O O (by omega)) trivial$ qO 19$ Ou (i:=19) O O (Qt NV O O O cL.sl (cL.Z8 (by omega))) ?_;rintro w8 ⟨kg,kh⟩;refine⟨trivial,?_⟩;have kj:=cL.set kg;have fH:Kp (λk=>k=g) w5' w8:=aF.kp.trans (gm.trans kh);refine qE$ Ny$ NC O$ Nz O$ OI O O$ NF O ?_;rw[show(idx:Int)+1=((idx+1:Nat):Int) by omega];exact(ih (idx+1,Go.Sort.swp d4 idx (a+o),r5) _ ⟨kj,fH.ND aC (by omega),cf,Go.Sort.permIn_trans _ _ _ a b ji (z8J lQ pU (by omega) (by omega) (by omega)),bX.trans fH,by dsimp only;omega⟩ (by dsimp only;omega)).qb
    case C8=>
     refine NN O (λh2=>?_)$ λh2=>?_
     ·refine NC O$ NT O O$ Qc O O$ NF O ?_;rw[show(q:Int)-((b-a:Nat):Int)=((q-(b-a):Nat):Int) by omega];exact(C7 _ _ ⟨q-(b-a),rfl,rfl,by omega⟩).qb
     ·refine An ?_;exact(C7 _ _ ⟨q,rfl,rfl,by omega⟩).qb
   ·refine NL O$ Pq func243 O ?_;exact⟨_,rfl,rfl,d4,ji,en,ao⟩
 ·omega
end Go.Proofs.YtfgjaafcgghnoaaGreatDoor
namespace Go.Proofs.YtfgjaafcgghnoaaGreatDoor
open Go Go.RowKit Go.Proofs.Tryz
open Go.Sort in
def zd0 (g n cap m:Nat):Prop:=∀(w:World) (d:Array Nat),Ri w g n cap d->∀(a b limit:Nat),b-a<m->a<=b->b<=n->limit<=64->Below Pt a b d->
 Oa prog 238 [.slice (some ⟨g,0,none⟩) n cap,I (a:Int),I (b:Int),I (limit:Int)] w λu w'=>u= .tuple #[]/\∃d',Ri w' g n cap d'/\PermIn a b d d'/\SortedIn Pt a b d'/\Kp (λk=>k=g) w w'
open Go.Sort in
structure z4d (w:World)(g n cap a b:Nat)(d:Array Nat)(a1 b1 l1:Nat)(d1:Array Nat)(w':World):Prop where
 arr:Ri w' g n cap d1
 kp:Kp (λk=>k=g) w w'
 ab:a1<=b1
 bn:b1<=n
 sm:b1-a1<=b-a
 lim:l1<=64
 bel:Below Pt a1 b1 d1
 fin:∀R,PermIn a1 b1 d1 R->SortedIn Pt a1 b1 R->PermIn a b d R/\SortedIn Pt a b R
open Go.Sort in
theorem z4d.perm {w:World}{g n cap a b:Nat}{d:Array Nat}{a1 b1 l1 l2:Nat}{d1 d2:Array Nat}{w1 w2:World}(h:z4d w g n cap a b d a1 b1 l1 d1 w1)(hA:Ri w2 g n cap d2)(hk:Kp (λk=>k=g) w1 w2)(hp:PermIn a1 b1 d1 d2)(hl:l2<=64):z4d w g n cap a b d a1 b1 l2 d2 w2:=
 ⟨hA,h.kp.trans hk,h.ab,h.bn,h.sm,hl,h.bel.perm (by rw[h.arr.size];exact h.bn) hp,λR h1 h2=>h.fin R (permIn_trans _ _ _ _ _ hp h1) h2⟩
open Go.Sort in
theorem z9g {g n cap m : Nat}(fA : zd0 g n cap m){w : World}{d : Array Nat}(h : Ri w g n cap d)(a b limit : Nat)(hm : b - a <= m)(jC : a <= b)(hb : b <= n)(hn : n < 50)(hl : limit <= 64)(hB : Below Pt a b d) :
  Oa prog 238 [.slice (some ⟨g,0,none⟩) n cap,I (a:Int),I (b:Int),I (limit:Int)] w λu w'=>u= .tuple #[]/\∃d',Ri w' g n cap d'/\PermIn a b d d'/\SortedIn Pt a b d'/\Kp (λk=>k=g) w w':=by
 refine Nu (e:=[(0,_),(1,_),(2,_),(3,_)]) func238 O ntmps238 O O$ qN O$ NQ O$ qM O$ NF O$ Nw$ Qb (α:=Nat×Nat×Nat×Bool×Bool×Array Nat) ((a,b,limit,true,true,d)) (λy=>[(0,.slice (some ⟨g,0,none⟩) n cap),(1,I (y.1:Int)),(2,I (y.2.1:Int)),(3,I (y.2.2.1:Int)),(8,.bool y.2.2.2.1),(9,.bool y.2.2.2.2.1)]) (λy w'=>z4d w g n cap a b d y.1 y.2.1 y.2.2.1 y.2.2.2.2.2 w') (λy=>y.2.1-y.1) ?hI ?hround
 case hI=>exact⟨h,Kp.refl _ _,jC,hb,Nat.le_refl _,hl,hB,λR h1 h2=>⟨h1,h2⟩⟩
 case hround =>
  rintro⟨a1,b1,l1,wb,wp,d1⟩ w4 hI ih;dsimp only at hI;have pV:=hI.ab;have gn:=hI.bn;have IT:=hI.sm;have H1:=hI.lim;have xc:=hI.arr.size
  try dsimp only
  refine Nw$ qN O$ NT O O$ Qc O O$ NF O$ py$ qN O ?_;rw[show(b1:Int)-(a1:Int)=((b1-a1:Nat):Int) by omega];refine Nz O$ zle O O$ NB$ NN O (λh0=>?_)$ λh0=>?_
  ·obtain⟨r1,r2⟩:=insertionSort_holds Xo d1 a1 b1 pV (by omega);obtain⟨q1,q2⟩:=hI.fin _ r1 r2;refine qN O$ NT O O$ Nz O$ NZ zgj O (z0D hI.arr a1 b1 pV gn (by omega)) ?_;rintro _ w5 ⟨rfl,aW,ai⟩;refine NB$ NA func238 O ?_;exact⟨_,rfl,rfl,_,aW,q1,q2,hI.kp.trans ai⟩
  ·refine An$ py$ qN O$ Nz O$ Px O O$ NB$ NN O (λh1 => ?_)$ λh1 => ?_
   ·obtain⟨r1,r2⟩:=heapSort_holds Xo d1 a1 b1 pV (by omega);obtain⟨q1,q2⟩:=hI.fin _ r1 r2;refine qN O$ NT O O$ Nz O$ NZ zf0 O (z8U hI.arr a1 b1 (by omega) gn (by omega)) ?_;rintro _ w5 ⟨rfl,aW,ai⟩;refine NB$ NA func238 O ?_;exact⟨_,rfl,rfl,_,aW,q1,q2,hI.kp.trans ai⟩
   ·refine An$ py$ qN O$ Nz O$ qV ((Qr O))$ NB$ Oy (λe' w' => ∃ l5 d5, e' = [(0, .slice (some ⟨g, 0, none⟩) n cap), (1, I (a1 : Int)), (2, I (b1 : Int)), (3, I ((l5 : Nat) : Int)), (8, .bool wb), (9, .bool wp), (10, I ((b1 - a1 : Nat) : Int))] /\ z4d w g n cap a b d a1 b1 l5 d5 w') ?fd$ λfd => ?fY
    case fd =>
     rintro e' w5 ⟨l5,d5,rfl,lU⟩;have rH:=lU.lim;have C9:=lU.arr.size;have IU:g<w5.heap.size:=lU.arr.sl.lt O;refine qN O$ NT O O$ Nz O$ NZ zgW O (z8C lU.arr a1 b1 (by omega) gn hn) ?_;rintro _ w6 ⟨p6,t6,rfl,IV,tq,xd,pQ,aK⟩;have pW:=lU.perm pQ aK.kp (permIn_refl _ _ _) rH;refine Nz O$ ON O O$ ON O O$ NQ O$ NF O$ py$ qN O$ Nz O$ Px O O$ NB$ Oy (λe' w'=>∃d7 p7 t7,e'=[(0,.slice (some ⟨g,0,none⟩) n cap),(1,I (a1:Int)),(2,I (b1:Int)),(3,I (l5:Int)),(8,.bool wb),(9,.bool wp),(10,I ((b1-a1:Nat):Int)),(11,I ((p7:Nat):Int)),(12,I ((t7:Nat):Int))]/\z4d w g n cap a b d a1 b1 l5 d7 w'/\a1<=p7/\p7<b1) ?az$ λaz=>?eu
     case az =>
      rintro e' w7 ⟨d7,p7,t7,rfl,jJ,AF,pX⟩;have IW:=jJ.arr.size;refine py$ py$ Oy (λe' w'=>∃s,e'=[(0,.slice (some ⟨g,0,none⟩) n cap),(1,I (a1:Int)),(2,I (b1:Int)),(3,I (l5:Int)),(8,.bool wb),(9,.bool wp),(10,I ((b1-a1:Nat):Int)),(11,I (p7:Int)),(68,.bool s)]/\w'=w7) ?nH$ λnH=>?nI
      case nH=>
       rintro e' w8 ⟨s,rfl,rfl⟩;refine Oy (λe' w'=>e'=[(0,.slice (some ⟨g,0,none⟩) n cap),(1,I (a1:Int)),(2,I (b1:Int)),(3,I (l5:Int)),(8,.bool wb),(9,.bool wp),(10,I ((b1-a1:Nat):Int)),(11,I (p7:Int))]/\z4d w g n cap a b d a1 b1 l5 d7 w') ?pq$ λpq=>?tz
       case pq=>
        rintro e' w9 ⟨rfl,jK⟩;have rI:=jK.arr;have hg:=Ext.NY w9;refine py$ py$ Oy (λe' w'=>∃s,e'=[(0,.slice (some ⟨g,0,none⟩) n cap),(1,I (a1:Int)),(2,I (b1:Int)),(3,I (l5:Int)),(8,.bool wb),(9,.bool wp),(10,I ((b1-a1:Nat):Int)),(11,I (p7:Int)),(87,.bool s)]/\w'=w9.drew/\(s=true->0<a1/\Pt d7[a1-1]! d7[p7]! =false)) ?sU$ λsU=>?sV
        case sU=>
         rintro e' w10 ⟨s,rfl,rfl,hs⟩;have lV:=rI.ext hg;have au:Kp (λk=>k=g) w w9.drew:=jK.kp.trans hg.kp;refine OV O (λh6=>?_)$ λh6=>?_
         ·obtain⟨IX,lX⟩:=hs h6;obtain⟨mid,d11,hx⟩:∃m e,partitionEqual Pt d7 a1 b1 p7=(m,e):=⟨_,_,rfl⟩;have tr:=zbC lV a1 b1 p7 AF pX gn (by omega);rw[hx] at tr;dsimp only at tr;obtain⟨e1,e2,e3,e4,e5⟩:=round_eq Xo (partitionEqual_holds _) IX AF pX (by omega) jK.bel lX hx;refine qN O$ NT O O$ NT O O$ NZ zfp O (tr) ?_;rintro _ w11 ⟨rfl,pY,bu⟩;refine NQ O$ qM O$ Nz O$ NF O$ NL O ?_;exact(ih (mid,b1,l5,wb,wp,d11) _ ⟨pY,au.trans bu,e2,gn,by dsimp only;omega,jK.lim,e4,λR r1 r2=>jK.fin R (e5 R r1 r2).1 (e5 R r1 r2).2⟩ (by dsimp only;omega)).qb
         ·obtain⟨mid,ap,d11,hx⟩:∃m q e,partition Pt d7 a1 b1 p7=(m,q,e):=⟨_,_,_,rfl⟩;have tt:=z9j lV a1 b1 p7 AF pX gn (by omega);rw[hx] at tt;dsimp only at tt;obtain⟨e1,e2,e3,e4,e5,e6,e7⟩:=round_part Xo (partition_holds _) AF pX (by omega) jK.bel hx;refine An$ qN O$ NT O O$ NT O O$ NZ zfi O (tt) ?_;rintro _ w11 ⟨rfl,pY,bu⟩;refine Nz O$ ON O O$ ON O O$ NQ O$ NQ O$ qM O$ Nz O$ NQ O$ qM O$ NT O O$ Qc O O$ NT O O$ Qc O O$ NQ O ?_;refine NQ O$ qM O ?_;rw[show(mid:Int)-(a1:Int)=((mid-a1:Nat):Int) by omega,show(b1:Int)-(mid:Int)=((b1-mid:Nat):Int) by omega];refine Nz O$ qV (Vu O O (by omega))$ NQ O$ qM O$ NT O O$ Pb O O$ NB$ NN O (λh7=>?_)$ λh7=>?_
          ·refine qN O$ NT O O$ RN O O$ NQ O$ qM O$ NT O O$ NT O O$ NZ z9A O (fA _ _ pY a1 mid l5 (by omega) e1 (by omega) jK.lim e4) ?_;rintro _ w12 ⟨rfl,d12,tv,tw,cZ,aL⟩;obtain⟨f1,f2⟩:=e6 _ tw cZ;refine NB$ NC O$ Nz O$ OI O O$ NF O$ Ny ?_;exact(ih (mid+1,b1,l5,decide (((b1-a1:Nat):Int) / 8<=((mid-a1:Nat):Int)),ap,d12) _ ⟨tv,(au.trans bu).trans aL,by dsimp only;omega,gn,by dsimp only;omega,jK.lim,f1,λR r1 r2=>jK.fin R (f2 R r1 r2).1 (f2 R r1 r2).2⟩ (by dsimp only;omega)).qb
          ·refine qN O$ NT O O$ RN O O$ NQ O$ qM O$ NT O O$ OI O O$ NT O O ?_;rw[show(mid:Int)+1=((mid+1:Nat):Int) by omega];refine NZ z9A O (fA _ _ pY (mid+1) b1 l5 (by omega) (by omega) gn jK.lim e5) ?_;rintro _ w12 ⟨rfl,d12,tv,tw,cZ,aL⟩;obtain⟨f1,f2⟩:=e7 _ tw cZ;refine NB$ NC O$ Nz O$ NF O$ Ny ?_;exact(ih (a1,mid,l5,decide (((b1-a1:Nat):Int) / 8<=((b1-mid:Nat):Int)),ap,d12) _ ⟨tv,(au.trans bu).trans aL,e1,by dsimp only;omega,by dsimp only;omega,jK.lim,f1,λR r1 r2=>jK.fin R (f2 R r1 r2).1 (f2 R r1 r2).2⟩ (by dsimp only;omega)).qb
        case sV=>
         rcases Nat.eq_zero_or_pos a1 with hj|hj
         ·refine PK (λw'=>Ext w9 w') O$ NX 0 O O (hg)$ NG 1 O (VP O O) hg$ S4$ NX 2 O O (hg)$ qJ 3 O (hg)$ qJ 4 O (hg)$ qJ 5 O (hg)$ qJ 6 O (hg)$ qJ 7 O (hg)$ qJ 8 O (hg)$ qJ 9 O (hg)$ qJ 10 O (hg)$ qJ 11 O (hg) ?_;refine qJ 12 O (hg)$ qJ 13 O (hg)$ NG 14 O (S6 O O) hg$ qE ?_;exact(sU _ _ ⟨false,rfl,rfl,λe=>by cases e⟩).qb
         ·refine PK (λw'=>Ext w9 w') O$ NX 0 O O (hg)$ NG 1 O (VP O O) hg$ SC$ NX 2 O O (hg)$ NX 3 O O (hg)$ NX 4 O O (hg)$ NG 5 O (W5 O O (by omega)) hg$ NX 8 O O (hg)$ NX 9 O O (hg)$ NG 10 O (OH Ob NV O O (by omega)) hg ?_;rw[show(a1:Int)-1=((a1-1:Nat):Int) by omega];refine NG 6 O (OH Ob NV O O (by omega)) hg$ qT 7 O (λ_ h=>Oi OX O O ((rI.ext h).get (i:=a1-1) (by omega))) hg$ qT 11 O (λ_ h=>Oi OX O O ((rI.ext h).get (i:=p7) (by omega))) hg$ Qv 12 O UE O (QA _ _ _) ?_;rintro _ w10 ⟨rfl,rfl⟩;refine⟨hg,?_⟩;refine NG 13 O ((z7D O)) hg$ NG 14 O (Tu O O) hg$ qE ?_;exact(sU _ _ ⟨decide (¬d7[a1-1]!<d7[p7]!),rfl,rfl,λe=>⟨hj,by simpa[Pt] using e⟩⟩).qb
       case tz=>
        refine OV O (λh4=>?_)$ λh4=>?_
        ·obtain⟨r1,r2⟩:=partialInsertionSort_holds Xo d7 a1 b1 (by omega) (by omega) jJ.bel;refine qN O$ NT O O$ Nz O$ NZ zeX O (z8R jJ.arr a1 b1 (by omega) gn hn) ?_;rintro _ w9 ⟨rfl,rI,aS⟩;refine NB$ OV O (λh5=>?_)$ λh5=>?_
         ·have r3:=r2 h5;rw[z5P d7 a1 b1 (by omega)] at r3;dsimp only at r3;obtain⟨q1,q2⟩:=jJ.fin _ (permIn_refl _ _ _) r3;refine NA func238 O ?_;exact⟨_,rfl,rfl,d7,rI,q1,q2,jJ.kp.trans aS⟩
         ·refine An ?_;exact(pq _ _ ⟨rfl,jJ.perm rI aS (permIn_refl _ _ _) jJ.lim⟩).qb
        ·refine An ?_;exact(pq _ _ ⟨rfl,jJ⟩).qb
      case nI =>
       cases wb with
       | false =>
         refine NC O$ NT O O$ qS$ OC O O$ Nz O$ qS$ qS$ OC O O$ NB ?_
         exact(nH _ _ ⟨false,rfl,rfl⟩).qb
       | true =>
         cases wp with
         | false =>
           refine NC O$ NT O O$ Nz O$ Pc O O$ Nz O$ qS$ qS$ OC O O$ NB ?_
           exact(nH _ _ ⟨false,rfl,rfl⟩).qb
         | true =>
           refine NC O$ NT O O$ Nz O$ Pc O O$ NT O O$ Px O O$ Pc O O$ NB ?_;exact(nH _ _ ⟨decide ((t7:Int)=1),rfl,rfl⟩).qb
     case eu=>
      refine NN O (λh3=>?_)$ λh3=>?_
      ·refine qN O$ NT O O$ Nz O$ NZ zeR O (z3u pQ a1 b1 (by omega) gn (by omega)) ?_;rintro _ w7 ⟨rfl,AG,ax⟩;refine qM O$ Nz O$ Qc O O$ NT O O$ Qc O O$ Qc O O$ NF O$ NC O$ NF O ?_;rw[show(b1:Int)-1-((p6:Int)-(a1:Int))=((b1-1-(p6-a1):Nat):Int) by omega];exact(az _ _ ⟨reverseRange d5 a1 b1,b1-1-(p6-a1),1,rfl,pW.perm AG ax (reverseRange_holds _ _ _ pV (by omega)) rH,by omega,by omega⟩).qb
      ·refine An ?_;exact(az _ _ ⟨d5,p6,t6,rfl,pW,IV,tq⟩).qb
    case fY=>
     refine OV O (λh2=>?_)$ λh2=>?_
     ·refine qN O$ NT O O$ Nz O$ NZ zhS O (z9G hI.arr a1 b1 (by omega) gn hn) ?_;rintro _ w5 ⟨rfl,d5,gR,aW,ai⟩;refine NB$ NC O$ Nz O$ Qc O O$ NF O ?_;rw[show(l1:Int)-1=((l1-1:Nat):Int) by omega];exact(fd _ _ ⟨l1-1,d5,rfl,hI.perm aW ai gR (by omega)⟩).qb
     ·refine An ?_;exact(fd _ _ ⟨l1,d1,rfl,hI⟩).qb
theorem z6b (g n cap:Nat)(hn:n<50):∀m,zd0 g n cap m
 |0=>λw d h a b limit hm=>absurd hm (Nat.not_lt_zero _)
 |m+1=>λw d h a b limit hm jC hb hl hB=>z9g (z6b g n cap hn m) h a b limit (by omega) jC hb hn hl hB
open Go.Sort in
theorem z7s {w:World}{v:Value}{l:List Nat}(hS:Sl w v 46 1 l.length (l.map Oe))(bD:l≠[])(hl:l.length<50):
  Oa prog 226 [v] w λu w'=>u= .tuple #[]/\Kp (λk=>v.ownBlock=some k) w w'/\∃l':List Nat,l'.Perm l/\l'.Pairwise (·<=·)/\Sl w' v 46 1 l'.length (l'.map Oe):=by
 obtain⟨g,cap,rfl⟩:∃g c,v= .slice (some ⟨g,0,none⟩) l.length c:=by
  rcases hS.shape with⟨-,h0⟩|⟨g,c,e,hc⟩
  ·exact absurd (List.eq_nil_of_length_eq_zero (by omega)) bD
  ·exact⟨g,c,e⟩
 have hA:Ri w g l.length cap l.toArray:=⟨by simpa using hS,by simp⟩
 have aA:OJ l.length<=6:=PQ (by omega)
 refine Nu (e:=[(0,_)]) func226 O ntmps226 O O$ qN O$ Nz O$ Q0 Ob O$ NF O$ NC O$ NT O O$ Nz O$ qV ((OM O U3 zed (by omega)))$ NZ zcq O (z5K l.length (by omega) w) ?_
 rintro _ w ⟨rfl,rfl⟩
 refine NZ z9A O (z6b g l.length cap hl (l.length+1) w l.toArray hA 0 l.length (OJ l.length) (by omega) (by omega) (Nat.le_refl _) (by omega) (.inl O)) ?_
 rintro _ w1 ⟨rfl,d',kV,hP,hO,hk⟩
 refine NB$ Pq func226 O ?_
 have cH:=kV.size
 have jj:d'.toList.Perm l:=by
  have:=hP.2.2;rw[Array.toList_extract,Array.toList_extract] at this;have h1:(d'.toList.take l.length).Perm (l.take l.length):=by simpa using this
  rwa [List.take_of_length_le (by rw[Array.length_toList,cH];exact Nat.le_refl _),List.take_length] at h1
 refine⟨_,rfl,rfl,hk.NR (λk e=>by rw[e];rfl),d'.toList,jj,?_,?_⟩
 ·rw[List.pairwise_iff_getElem];intro i j hi hj iq;rw[Array.length_toList] at hi hj;have:=hO i j (Nat.zero_le _) iq (by omega);rw[getElem!_pos d' i (by omega),getElem!_pos d' j (by omega)] at this;simp only[Pt,decide_eq_false_iff_not] at this;rw[Array.getElem_toList,Array.getElem_toList];omega
 ·have e:d'.toList.length=l.length:=by rw[Array.length_toList,cH]
  rw[e];exact kV.sl
end Go.Proofs.YtfgjaafcgghnoaaGreatDoor
namespace Go.Proofs.YtfgjaafcgghnoaaGreatDoor
open Go Go.RowKit
structure NuI (w w1:World)(p:QB)(b5 n11:Nat)(L:List (Cd×Nat))(w':World):Prop where
 ex:∃F,z3D w' n11 L F/\∀k,F k->w1.heap.size<=k
 ext:Ext w w'
 b5:NM w' b5 (YT p) 212
 siz:w1.heap.size<=w'.heap.size
theorem NuI.put {w w1 w2 w3:World}{p:QB}{b5 n11:Nat}{L L':List (Cd×Nat)}{F:Nat->Prop}(h:NuI w w1 p b5 n11 L w2)(hf:∀k,F k->w1.heap.size<=k)(ff:b5<w1.heap.size)(H2:w.heap.size<=w1.heap.size)
  (g:∃F',z3D w3 n11 L' F'/\Kp F w2 w3/\∀k,F' k->F k\/w2.heap.size<=k):NuI w w1 p b5 n11 L' w3:=by
 obtain⟨F',g1,g2,g3⟩:=g
 have hs:=h.siz
 refine⟨⟨F',g1,λk hk=>?_⟩,h.ext.Nv g2 (λk hk=>by have:=hf k hk;omega),g2.ND h.b5 (λe=>by have:=hf b5 e;omega),by have:=g2.size;omega⟩
 rcases g3 k hk with e| e
 ·exact hf k e
 ·omega
structure NuX (w w1 w2:World)(p:QB)(b5 n11:Nat)(X:Nat->Prop)(L:List (Cd×Nat))(w3:World):Prop where
 ex:∃F,z3D w3 n11 L F/\(∀k,F k->w1.heap.size<=k)/\∀k,F k->¬X k
 ext:Ext w w3
 b5:NM w3 b5 (YT p) 212
 siz:w1.heap.size<=w3.heap.size
 kx:Kp (λk=>¬X k) w2 w3
theorem NuX.put {w w1 w2 w3 w4:World}{p:QB}{b5 n11:Nat}{X:Nat->Prop}{L L':List (Cd×Nat)}{F:Nat->Prop}(h:NuX w w1 w2 p b5 n11 X L w3)(hX:∀k,X k->k<w2.heap.size)(hf:∀k,F k->w1.heap.size<=k)(hx:∀k,F k->¬X k)(ff:b5<w1.heap.size)(H2:w.heap.size<=w1.heap.size)
  (g:∃F',z3D w4 n11 L' F'/\Kp F w3 w4/\∀k,F' k->F k\/w3.heap.size<=k):NuX w w1 w2 p b5 n11 X L' w4:=by
 obtain⟨F',g1,g2,g3⟩:=g
 have hs:=h.siz
 have hz:=h.kx.size
 refine⟨⟨F',g1,λk hk=>?_,λk hk gS=>?_⟩,h.ext.Nv g2 (λk hk=>by have:=hf k hk;omega),g2.ND h.b5 (λe=>by have:=hf b5 e;omega),by have:=g2.size;omega,h.kx.trans (g2.NR hx)⟩
 ·rcases g3 k hk with e| e
  ·exact hf k e
  ·omega
 ·rcases g3 k hk with e| e
  ·exact hx k e gS
  ·have:=hX k gS;omega
theorem RF:∀(l:List Nat) (k:Nat),(P7 k l).length=l.length
 |[],_=>rfl
 |_::l,k=>by rw[P7,List.length_cons,List.length_cons,RF l]
theorem WI:∀(l:List Nat) (k n:Nat),P7 k (l++[n])=P7 k l++[(.gamma,n-min (k+l.length) 1)]
 |[],k,n=>rfl
 | m :: l, k, n => by
   rw[List.cons_append,P7,WI l (k+1) n,P7,List.cons_append,List.length_cons,show k+1+l.length=k+(l.length+1) by omega]
theorem Zk:∀{l:List Nat},(∀n∈l,1<=n)->l.length<=l.sum
 |[],_=>Nat.le_refl _
 | x :: l, h => by
   have h1:=h x List.mem_cons_self;have h2:=Zk (λn hn=>h n (List.mem_cons_of_mem x hn));rw[List.length_cons,List.sum_cons];omega
theorem S7.ZD {rs:List Nat}{fs:List Bool}(h:S7 rs fs):rs.length<=fs.length+1:=by
 have e:=Rp true rs
 rw[h.exp] at e
 cases rs with
 |nil=>simp
 | cons a tl =>
   have h1:=Zk (l:=tl) (λn hn=>h.pos n hn);rw[List.sum_cons] at e;rw[List.length_cons];omega
theorem WC:∀l:List Nat,(OK 0 l).1=[]
 |[]=>by rw[OK]
 | x :: l => by
   rw[OK,if_neg (by omega)];exact WC (l.drop (OG x l))
 termination_by l=>l.length
 decreasing_by simp[List.length_drop];omega
def Xc (l:List (Nat×Nat)):Option Nat:=l.getLast?.map λp=>p.1+p.2-1
theorem WU (x least:Nat):∀(l:List (Nat×Nat)) (e:Option Nat) (p:Nat×Nat),OD x least e (l++[p])=OD x least e l++OD x least (match l with|[]=>e|_=>Xc l) [p]
 |[],e,p=>by cases e<;>rfl
 | q :: l, e, p => by
   rw[List.cons_append,Qo,Qo,WU x least l _ p]
   cases l with
   |nil=>rfl
   |cons q2 l=>rfl
theorem z0v (x least:Nat)(l:List (Nat×Nat))(p:Nat×Nat):OD x least none (l++[p])=OD x least none l++[(.gamma,Tb x (Xc l) p.1),(.gamma,p.2-least)]:=by
 rw[WU]
 cases l with
 |nil=>rfl
 |cons q l=>rw[Qo x least (match q::l with|[]=>none|_=>Xc (q::l))];rfl
theorem zah {w : World}{b off n cap i : Nat}{R : List (Nat × Nat)}{q : Nat × Nat}(h : Rd w (.slice (some ⟨b, off, none⟩) n cap) 2 n (R.flatMap z0u))(hq : R[i]? = some q) : ∀ j u, [I (q.1 : Int), I (q.2 : Int)][j]? = some u -> w.cell? ⟨b, off + i * 2 + j, none⟩ = some u := by
 intro j u hj
 have hi:=(List.getElem?_eq_some_iff.1 hq).1
 rcases h.2 with⟨c,hc,h0⟩|⟨b',off',cap',e,hc⟩
 ·have:=h.1;rw[z7T] at this;omega
 ·cases e
  have kW:(R.flatMap z0u)[i*2+j]? =some u:=by
   have kT:j<2:=(List.getElem?_eq_some_iff.1 hj).1
   have key : ∀ (R : List (Nat × Nat)) (i : Nat), R[i]? = some q -> (R.flatMap z0u)[i * 2 + j]? = some u := by
    intro R
    induction R with
    |nil=>intro i h;simp at h
    | cons a R ih =>
      intro i h;rw[List.flatMap_cons]
      cases i with
      | zero =>
        rw[List.getElem?_cons_zero] at h;cases h;rw[List.getElem?_append_left (by show _<2;omega),Nat.zero_mul,Nat.zero_add]
        exact hj
      | succ i =>
        rw[List.getElem?_append_right (by show 2<=_;omega),show(i+1)*2+j-(z0u a).length=i*2+j by show(i+1)*2+j-2=_;omega];exact ih i h
   exact key R i hq
  have:=hc (i*2+j) u kW;rw[show off+i*2+j=off+(i*2+j) by omega];exact this
theorem NuX.ex2 {w w1 w2 w3 w4:World}{p:QB}{b5 n11:Nat}{X:Nat->Prop}{L:List (Cd×Nat)}(h:NuX w w1 w2 p b5 n11 X L w3)(hx:Ext w3 w4):NuX w w1 w2 p b5 n11 X L w4:=by
 obtain⟨⟨F,h1,h2,h3⟩,h4,h5,h6,h7⟩:=h
 exact⟨⟨F,h1.ext hx,h2,h3⟩,h4.trans hx,hx.ND h5,by have:=hx.size;omega,h7.trans hx.kp⟩
theorem NuX.back {w w1 w2 w3 w4:World}{p:QB}{b5 n11:Nat}{X X':Nat->Prop}{L L':List (Cd×Nat)}(h:NuX w w1 w2 p b5 n11 X L w3)(h':NuX w w1 w3 p b5 n11 X' L' w4)(hX:∀k,X k->X' k):NuX w w1 w2 p b5 n11 X L' w4:=by
 obtain⟨⟨F,h1,h2,h3⟩,h4,h5,h6,h7⟩:=h'
 exact⟨⟨F,h1,h2,λk hk hx=>h3 k hk (hX k hx)⟩,h4,h5,h6,h.kx.trans (h7.NR λk hk hx=>hk (hX k hx))⟩
theorem NuX.again {w w1 w2 w3:World}{p:QB}{b5 n11:Nat}{X X':Nat->Prop}{L:List (Cd×Nat)}{F:Nat->Prop}(h:NuX w w1 w2 p b5 n11 X L w3)(hA:z3D w3 n11 L F)(hf:∀k,F k->w1.heap.size<=k)(hx:∀k,F k->¬X' k):NuX w w1 w3 p b5 n11 X' L w3:=
 ⟨⟨F,hA,hf,hx⟩,h.ext,h.b5,h.siz,Kp.refl _ _⟩
theorem R6 (x least:Nat):∀(l:List (Nat×Nat)) (e:Option Nat),(OD x least e l).length=2*l.length
 |[],e=>by cases e<;>rfl
 |q::l,e=>by rw[Qo,List.length_cons,List.length_cons,R6 x least l,List.length_cons];omega
theorem Xv {least:Nat}:∀(R:List (Nat×Nat)) (lo i:Nat) (q:Nat×Nat),Rx least lo R->R[i]? =some q->1<=q.2/\least<=q.2/\(∀z,Xc (R.take i)=some z->z+2<=q.1)/\(Xc (R.take i)=none->lo<=q.1)
 |[],lo,i,q,h,hq=>by simp at hq
 | p :: R, lo, 0, q, h, hq => by
   rw[List.getElem?_cons_zero] at hq;cases hq
   exact⟨h.2.1,h.2.2.1,(λz hz=>by cases hz),λ_=>h.1⟩
 | p :: R, lo, i + 1, q, h, hq => by
   rw[List.getElem?_cons_succ] at hq;obtain⟨h1,h2,h3,h4⟩:=Xv R _ i q h.2.2.2 hq;have hp:1<=p.2:=h.2.1;refine⟨h1,h2,λz hz=>?_,λhz=>?_⟩
   ·rw[List.take_succ_cons] at hz
    cases hR:R.take i with
    | nil =>
      rw[hR] at hz;have e:p.1+p.2-1=z:=Pz hz;have:=h4 (by rw[hR];rfl)
      omega
    | cons a l =>
      rw[hR] at hz;exact h3 z (by rw[hR];exact hz)
   ·rw[List.take_succ_cons] at hz;exfalso;unfold Xc at hz;rw[Option.map_eq_none_iff,List.getLast?_eq_none_iff] at hz;cases hz
theorem z6X (l:List (Nat×Nat))(q:Nat×Nat):Xc (l++[q])=some (q.1+q.2-1):=by simp[Xc]
theorem z8Y {least:Nat}{l:List Nat}{q:Nat×Nat}(hl:∀y∈l,y<65536)(hq:q∈(OK least l).1)(h1:1<=q.2):q.1+q.2<=65536:=by
 have h2:q.1+(q.2-1)∈PJ (OK least l).1:=by
  unfold PJ;exact List.mem_flatMap.2 ⟨q,hq,List.mem_map.2 ⟨q.2-1,List.mem_range.2 (by omega),rfl⟩⟩
 have:=hl _ ((Sh least l).subset (List.mem_append_left _ h2))
 omega
def zap (x:Nat):Option Nat->Nat->Nat
 |none,v=>zig ((v:Int)-x)
 |some u,v=>v-u-1
theorem Rn (x k:Nat)(e:Option Nat)(v:Nat)(r:List Nat):OE x k e (v::r)=(.zeta k,zap x e v)::OE x k (some v) r:=by
 cases e<;>rfl
theorem Xa (x k:Nat):∀(l:List Nat) (e:Option Nat) (v:Nat),OE x k e (l++[v])=OE x k e l++OE x k (match l with|[]=>e|_=>l.getLast?) [v]
 |[],e,v=>by cases e<;>rfl
 | u :: l, e, v => by
   rw[List.cons_append,Rn,Rn,Xa x k l _ v]
   cases l with
   |nil=>rfl
   |cons u2 l=>rfl
theorem W3 (x k:Nat)(l:List Nat)(v:Nat):OE x k none (l++[v])=OE x k none l++[(.zeta k,zap x l.getLast? v)]:=by
 rw[Xa]
 cases l with
 |nil=>rfl
 |cons u l=>rw[Rn x k (match u::l with|[]=>none|_=>(u::l).getLast?)];cases (u::l).getLast?<;>rfl
theorem RZ (x k:Nat):∀(l:List Nat) (e:Option Nat),(OE x k e l).length=l.length
 |[],e=>by cases e<;>rfl
 |v::l,e=>by rw[Rn,List.length_cons,RZ x k l,List.length_cons]
theorem OB {α:Type}{l:List α}{i:Nat}{q:α}(h:l[i]? =some q):l.take (i+1)=l.take i++[q]:=by
 rw[List.take_succ,h];rfl
end Go.Proofs.YtfgjaafcgghnoaaGreatDoor
