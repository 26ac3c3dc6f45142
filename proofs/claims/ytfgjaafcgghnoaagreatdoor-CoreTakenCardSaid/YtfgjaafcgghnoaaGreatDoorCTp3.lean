/- Merged by program. -/
import Derived.Test.YtfgjaafcgghnoaaGreatDoorCTp2
import Derived.Sort.AssemblyPlain
set_option linter.all false
set_option maxRecDepth 1000000
set_option maxHeartbeats 16000000
namespace Go.Proofs.YtfgjaafcgghnoaaGreatDoor
open Go Go.RowKit
/-! ### Runs -/
def expand:Bool->List Nat->List Bool
 |_,[]=>[]
 |b,n::r=>List.replicate n b++expand (!b) r
theorem U7:∀(b:Bool) (r s:List Nat),expand b (r++s)=expand b r++expand (if r.length%2=0 then b else !b) s
 |b,[],s=>by simp[expand]
 | b, n :: r, s => by
   rw[List.cons_append,expand,expand,U7 (!b) r s,List.append_assoc]
   congr 2
   rcases Nat.mod_two_eq_zero_or_one r.length with e| e
   ·rw[if_pos e,if_neg (by rw[List.length_cons];omega)]
   ·rw[if_neg (by omega),if_pos (by rw[List.length_cons];omega)];simp
theorem Pr:∀(b:Bool) (r:List Nat),(expand b r).length=r.sum
 |_,[]=>rfl
 |b,n::r=>by rw[expand,List.length_append,List.length_replicate,Pr (!b) r,List.sum_cons]
def NN (rs:List Nat)(f:Bool):List Nat:=
 let rs':=if f !=(rs.length%2==1) then rs++[0] else rs
 rs'.modify (rs'.length-1) (·+1)
theorem T2 (l:List Nat)(n:Nat):(l++[n]).modify ((l++[n]).length-1) (·+1)=l++[n+1]:=by
 have key:∀l:List Nat,(l++[n]).modify l.length (·+1)=l++[n+1]:=λl=>by
  induction l with
  |nil=>rfl
  |cons a l ih=>simpa using ih
 have:(l++[n]).length-1=l.length:=by simp
 rw[this,key]
structure Q5 (rs:List Nat)(fs:List Bool):Prop where
 ne:rs≠[]
 exp:expand true rs=fs
 pos:∀n∈rs.drop 1,1<=n
theorem Q5.zero:Q5 [0] []:=⟨by simp,rfl,by simp⟩
theorem Q5.step {rs:List Nat}{fs:List Bool}(h:Q5 rs fs)(f:Bool):Q5 (NN rs f) (fs++[f]):=by
 obtain⟨h1,h2,h3⟩:=h
 obtain⟨l,n,rfl⟩:∃l n,rs=l++[n]:=⟨rs.dropLast,rs.getLast h1,(List.dropLast_concat_getLast h1).symm⟩
 unfold NN
 dsimp only
 have hlen:(l++[n]).length=l.length+1:=by simp
 rw[hlen]
 split
 ·rename_i hf
  rw[T2];refine⟨by simp,?_,λk hk=>?_⟩
  ·rw[U7,h2,hlen]
   congr 1
   rcases Nat.mod_two_eq_zero_or_one l.length with e|e<;>cases f<;>simp[expand,e,Nat.add_mod] at hf⊢
  ·rw[List.drop_append_of_le_length (by rw[hlen];omega)] at hk;rcases List.mem_append.1 hk with hk|hk
   ·exact h3 k hk
   ·simp at hk;omega
 ·rename_i hf
  rw[T2];refine⟨by simp,?_,λk hk=>?_⟩
  ·rw[U7] at h2⊢;rw[<-h2,List.append_assoc]
   congr 1
   simp only[expand,List.append_nil,List.replicate_succ']
   congr 1
   rcases Nat.mod_two_eq_zero_or_one l.length with e|e<;>cases f<;>simp[e,Nat.add_mod] at hf⊢
  ·cases l with
   |nil=>simp at hk
   | cons a l =>
     rw[List.cons_append,List.drop_succ_cons,List.drop_zero] at hk h3;rcases List.mem_append.1 hk with hk|hk
     ·exact h3 k (List.mem_append_left _ hk)
     ·simp at hk;omega
def copyL:Bool->List Nat->List Nat->List Nat
 |b,[],ref=>if b then ref else []
 |b,n::r,ref=>(if b then ref.take n else [])++copyL (!b) r (ref.drop n)
def sel:List Nat->List Bool->List Nat
 |x::l,f::fs=>if f then x::sel l fs else sel l fs
 |_,_=>[]
theorem z3W:∀{a b:List Nat} {fs gs:List Bool},a.length=fs.length->sel (a++b) (fs++gs)=sel a fs++sel b gs
 |[],b,[],gs,_=>rfl
 | x :: a, b, f :: fs, gs, h => by
   have h':a.length=fs.length:=by simpa using h
   rw[List.cons_append,List.cons_append,sel,sel,z3W h'];cases f<;>simp
theorem Zr:∀(l:List Nat) (b:Bool),sel l (List.replicate l.length b)=if b then l else []
 |[],b=>by cases b<;>rfl
 | x :: l, b => by
   rw[List.length_cons,List.replicate_succ,sel,Zr l b];cases b<;>rfl
theorem z1M:∀(b:Bool) (rs:List Nat) (m:Nat) (ref:List Nat),ref.length=(rs++[m]).sum->copyL b rs ref=sel ref (expand b (rs++[m]))
 | b, [], m, ref, h => by
   have hm:m=ref.length:=by simpa using h.symm
   subst hm;simp only[copyL,List.nil_append,expand,List.append_nil]
   rw[Zr]
 | b, n :: rs, m, ref, h => by
   rw[List.cons_append,List.sum_cons] at h;have hl:(ref.take n).length=n:=by rw[List.length_take];omega
   rw[copyL,List.cons_append,expand,z1M (!b) rs m (ref.drop n) (by rw[List.length_drop];omega)]
   conv=>rhs;rw[<-List.take_append_drop n ref,z3W (by rw[hl,List.length_replicate])]
   congr 1
   have:=Zr (ref.take n) b;rw[hl] at this;exact this.symm
/-! ### Rows of numbers that follow one another -/
def runLen:Nat->List Nat->Nat
 |_,[]=>0
 |x,y::l=>if y=x+1 then runLen y l+1 else 0
theorem Tx:∀(x:Nat) (l:List Nat),runLen x l<=l.length
 |_,[]=>Nat.le_refl _
 | x, y :: l => by
   unfold runLen;split
   ·have:=Tx y l;simp;omega
   ·exact Nat.zero_le _
theorem Sk:∀(x:Nat) (l:List Nat) (i:Nat),i<runLen x l->l[i]? =some (x+1+i)
 |_,[],i,h=>by simp[runLen] at h
 | x, y :: l, i, h => by
   unfold runLen at h;split at h
   ·rename_i e
    subst e
    cases i with
    |zero=>rfl
    |succ i=>rw[List.getElem?_cons_succ,Sk (x+1) l i (by omega)];congr 1;omega
   ·omega
theorem T6:∀(x:Nat) (l:List Nat) (y:Nat),l[runLen x l]? =some y->y≠x+1+runLen x l
 |_,[],y,h=>by simp at h
 | x, z :: l, y, h => by
   unfold runLen at h⊢;split
   ·rename_i e
    rw[if_pos e,List.getElem?_cons_succ] at h;have:=T6 z l y h;omega
   ·rename_i e
    rw[if_neg e,List.getElem?_cons_zero] at h;cases h;omega
def rowsN (least:Nat):List Nat->List (Nat×Nat)×List Nat
 |[]=>([],[])
 | x :: l =>
   let n:=runLen x l+1
   let q:=rowsN least (l.drop (runLen x l))
   if 0<least/\least<=n then((x,n)::q.1,q.2) else(q.1,x::l.take (runLen x l)++q.2)
termination_by l=>l.length
decreasing_by simp[List.length_drop];omega
def NJ (l:List (Nat×Nat)):List Nat:=l.flatMap λp=>(List.range p.2).map (p.1+·)
abbrev Ris (l:List Nat):Prop:=l.Pairwise (·<·)
theorem z7Z (x:Nat)(l:List Nat):x::l.take (runLen x l)=(List.range (runLen x l+1)).map (x+·):=by
 apply List.ext_getElem?
 intro i
 have hle:=Tx x l
 cases i with
 |zero=>simp
 | succ i =>
   rw[List.getElem?_cons_succ,List.getElem?_take,List.getElem?_map];split
   ·rename_i h
    rw[Sk x l i h,List.getElem?_range (by omega)];simp;omega
   ·rw[List.getElem?_eq_none (by simp;omega)];rfl
theorem Qd (least:Nat):∀(l:List Nat),(NJ (rowsN least l).1++(rowsN least l).2).Perm l
 |[]=>by simp[rowsN,NJ]
 | x :: l => by
   have ih:=Qd least (l.drop (runLen x l));have hx:=z7Z x l;have hc:x::l=(x::l.take (runLen x l))++l.drop (runLen x l):=by rw[List.cons_append,List.take_append_drop]
   rw[rowsN];split
   ·rw[show NJ ((x,runLen x l+1)::(rowsN least (l.drop (runLen x l))).1)=(List.range (runLen x l+1)).map (x+·)++NJ (rowsN least (l.drop (runLen x l))).1 by simp[NJ]];rw[<-hx,List.append_assoc]
    conv=>rhs;rw[hc]
    exact ih.append_left _
   ·conv=>rhs;rw[hc]
    refine List.Perm.trans ?_$ ih.append_left _;rw[<-List.append_assoc,<-List.append_assoc];exact(List.perm_append_comm).append_right _
 termination_by l=>l.length
 decreasing_by simp[List.length_drop];omega
def zig (z:Int):Nat:=if 0<=z then(2*z).toNat else(-2*z-1).toNat
def zag (n:Nat):Int:=if n%2=0 then((n / 2:Nat):Int) else -((n / 2:Nat):Int)-1
theorem z3E (z:Int):zag (zig z)=z:=by
 unfold zig zag
 split
 ·rw[if_pos (by omega)];omega
 ·rw[if_neg (by omega)];omega
theorem W2 {z:Int}{n:Nat}(h1: -(n:Int)<=z)(h2:z<(n:Int)):zig z<2*n:=by
 unfold zig
 split<;>omega
structure OE where
 Mq:Nat
 interval:Nat
 zeta:Nat
def NY (succ ref:List Nat):List Nat:=ref.foldl (λrs y=>NN rs (decide (y∈succ))) [0]
theorem PE (succ ref:List Nat):Q5 (NY succ ref) (ref.map λy=>decide (y∈succ)):=by
 unfold NY
 have key:∀(l:List Nat) (rs:List Nat) (fs:List Bool),Q5 rs fs->Q5 (l.foldl (λrs y=>NN rs (decide (y∈succ))) rs) (fs++l.map λy=>decide (y∈succ)):=by
  intro l
  induction l with
  |nil=>intro rs fs h;simpa using h
  | cons y l ih =>
    intro rs fs h;have:=ih _ _ (h.step (decide (y∈succ)))
    simpa using this
 simpa using key ref [0] [] Q5.zero
def leftOf (succ ref:List Nat):List Nat:=succ.filter λv=>decide (v∉ref)
theorem z4d (P:Nat->Bool):∀l:List Nat,sel l (l.map P)=l.filter P
 |[]=>rfl
 | x :: l => by
   rw[List.map_cons,sel,z4d P l];cases h:P x<;>simp[h]
theorem z4W (succ ref:List Nat):copyL true (NY succ ref).dropLast ref=ref.filter λy=>decide (y∈succ):=by
 have h:=PE succ ref
 obtain⟨l,n,e⟩:∃l n,NY succ ref=l++[n]:=⟨_,_,(List.dropLast_concat_getLast h.ne).symm⟩
 rw[e,List.dropLast_concat]
 have he:=h.exp
 rw[e] at he
 have hl:ref.length=(l++[n]).sum:=by
  have:=congrArg List.length he;rw[Pr,List.length_map] at this;exact this.symm
 rw[z1M true l n ref hl,he,z4d]
def runNums:Nat->List Nat->List (Cd×Nat)
 |_,[]=>[]
 |i,n::r=>(.gamma,n-min i 1)::runNums (i+1) r
def longNums (x least:Nat):Option Nat->List (Nat×Nat)->List (Cd×Nat)
 |_,[]=>[]
 |none,p::r=>(.gamma,zig ((p.1:Int)-x))::(.gamma,p.2-least)::longNums x least (some (p.1+p.2-1)) r
 |some e,p::r=>(.gamma,p.1-e-2)::(.gamma,p.2-least)::longNums x least (some (p.1+p.2-1)) r
def restNums (x k:Nat):Option Nat->List Nat->List (Cd×Nat)
 |_,[]=>[]
 |none,v::r=>(.zeta k,zig ((v:Int)-x))::restNums x k (some v) r
 |some u,v::r=>(.zeta k,v-u-1)::restNums x k (some v) r
def Oe (p:OE)(x:Nat)(succ ref:List Nat)(r:Nat):List (Cd×Nat):=
 (.gamma,succ.length)::if succ=[] then [] else
  (if 0<p.Mq then [(.unary,r)] else [])++
  ((if 0<r then(.gamma,(NY succ ref).length-1)::runNums 0 (NY succ ref).dropLast else [])++
  (if leftOf succ ref=[] then [] else
   (if 0<p.interval then(.gamma,(rowsN p.interval (leftOf succ ref)).1.length)::longNums x p.interval none (rowsN p.interval (leftOf succ ref)).1 else [])++
   restNums x p.zeta none (rowsN p.interval (leftOf succ ref)).2))
def Mp (l:List (Cd×Nat)):List Bool:=l.flatMap λp=>p.1.enc p.2
theorem z3w {succ ref:List Nat}(hs:Ris succ)(hr:Ris ref)(p:Nat):(ref.filter (λy=>decide (y∈succ))++(NJ (rowsN p (leftOf succ ref)).1++(rowsN p (leftOf succ ref)).2)).Perm succ:=by
 have h1:(ref.filter λy=>decide (y∈succ)).Perm (succ.filter λv=>decide (v∈ref)):=by
  refine(List.perm_ext_iff_of_nodup (hr.imp (λh=>by omega) |>.filter _) (hs.imp (λh=>by omega) |>.filter _)).2 λa=>?_;simp only[List.mem_filter,decide_eq_true_eq];exact And.comm
 refine(h1.append (Qd p _)).trans ?_
 unfold leftOf
 have:=List.filter_append_perm (λv=>decide (v∈ref)) succ
 refine List.Perm.trans ?_ this
 refine List.Perm.append_left _ ?_
 simp
theorem z3s {a b:List Nat}(h:a.Perm b)(ha:a.Pairwise (·<=·))(hb:Ris b):a=b:=
 h.eq_of_pairwise (le:=(·<=·)) (λx y _ _ h1 h2=>by omega) ha (hb.imp (λh=>by omega))
def Px (least:Nat):Nat->List (Nat×Nat)->Prop
 |_,[]=>True
 |lo,p::r=>lo<=p.1/\1<=p.2/\least<=p.2/\Px least (p.1+p.2+1) r
theorem Px.mono {least:Nat}:∀{r:List (Nat×Nat)} {a b:Nat},Px least b r->a<=b->Px least a r
 |[],_,_,_,_=>trivial
 |p::r,a,b,h,hab=>⟨Nat.le_trans hab h.1,h.2⟩
theorem z2h {x:Nat}{l:List Nat}(h:Ris (x::l)):∀y∈l.drop (runLen x l),x+runLen x l+2<=y:=by
 intro y hy
 obtain⟨j,hj,e⟩:=List.mem_iff_getElem.1 hy
 rw[List.getElem_drop] at e
 rw[List.length_drop] at hj
 obtain⟨h1,h2⟩:=List.pairwise_cons.1 h
 have hle:=Tx x l
 have h0:runLen x l<l.length:=by omega
 obtain⟨z,hz⟩:∃z,l[runLen x l]? =some z:=⟨_,List.getElem?_eq_getElem h0⟩
 have hs:=T6 x l z hz
 have hz':=(List.getElem?_eq_some_iff.1 hz).2
 have hzx:x+runLen x l<z:=by
  by_cases e0:runLen x l=0
  ·have:=h1 z (List.mem_of_getElem? hz);omega
  ·have hg:=Sk x l (runLen x l-1) (by omega);obtain⟨g1,g2⟩:=List.getElem?_eq_some_iff.1 hg;have:=List.pairwise_iff_getElem.1 h2 (runLen x l-1) (runLen x l) g1 h0 (by omega);rw[g2,hz'] at this;omega
 have hzy:z<=y:=by
  by_cases e0:j=0
  ·subst e0;simp at e;rw[<-e,<-hz'];exact Nat.le_refl _
  ·have:=List.pairwise_iff_getElem.1 h2 (runLen x l) (runLen x l+j) h0 (by omega) (by omega);rw[e,hz'] at this;omega
 omega
theorem Ry (least:Nat):∀(l:List Nat) (lo:Nat),Ris l->(∀y∈l,lo<=y)->Px least lo (rowsN least l).1
 |[],lo,_,_=>by rw[rowsN];trivial
 | x :: l, lo, h, hl => by
   have hb:=z2h h;have h2:Ris (l.drop (runLen x l)):=(List.pairwise_cons.1 h).2.sublist (List.drop_sublist _ _);rw[rowsN];split
   ·rename_i hc
    refine⟨hl x (by simp),by omega,hc.2,Ry least _ _ h2 λy hy=>?_⟩;have:=hb y hy;omega
   ·refine Ry least _ _ h2 λy hy=>?_;have:=hb y hy;have:=hl x (by simp);omega
 termination_by l=>l.length
 decreasing_by all_goals (simp[List.length_drop];omega)
theorem Rg (least:Nat):∀(l:List Nat),(rowsN least l).2.Sublist l
 |[]=>by rw[rowsN];exact List.Sublist.refl _
 | x :: l => by
   have ih:=Rg least (l.drop (runLen x l));rw[rowsN];split
   ·exact(ih.trans (List.drop_sublist _ _)).cons x
   ·have hc:x::l=(x::l.take (runLen x l))++l.drop (runLen x l):=by rw[List.cons_append,List.take_append_drop]
    conv=>rhs;rw[hc]
    exact ih.append_left _
 termination_by l=>l.length
 decreasing_by simp[List.length_drop];omega
abbrev Mx (n:Nat):Value:= .int .u32 (n:Int)
theorem z0z (m:Nat)(h:m<18446744073709551616):m^^^18446744073709551615=18446744073709551615-m:=by
 have h1:=congrArg BitVec.toNat (BitVec.xor_allOnes (x:=BitVec.ofNat 64 m))
 rw[BitVec.toNat_xor,BitVec.toNat_not,BitVec.toNat_allOnes,BitVec.toNat_ofNat] at h1
 rw[show(2:Nat)^64=18446744073709551616 from rfl,Nat.mod_eq_of_lt h] at h1
 exact h1
section
variable {P:Program}{e:Env}{d:Option Nat}{ty t t':TypeId}{pos:String}{aft:Array Edge}{g:Option (Nat×Bool)}{x y:Operand}{w:World}{m:Nat}
theorem zcR (hx:look e x=some (I (m:Int)))(hy:look e y=some (I 0))(hm:m<2^63):Y P e ⟨d,.binOp .xor t x y t',ty,pos,aft,g⟩ (I (m:Int)) w w:=fun ρ hρ=>by
 have h1:m<2^IntKind.i64.bits:=by simp only[IntKind.bits];omega
 have h2:(BitVec.ofInt IntKind.i64.bits 0).toNat=0:=by decide
 simp only[execOp,eqGuard_xor,binOp_xor,intBits_xor,hρ _ _ hx,hρ _ _ hy,pure_bind,Sem.run_pure,bits,BitVec.toNat_xor,Nk h1,h2,Nat.xor_zero]
 rw[wrap_i64 ⟨by omega,by omega⟩]
theorem zeL (hx:look e x=some (I (m:Int)))(hy:look e y=some (I (-1)))(hm:m<2^63):Y P e ⟨d,.binOp .xor t x y t',ty,pos,aft,g⟩ (I (-(m:Int)-1)) w w:=fun ρ hρ=>by
 have h1:m<2^IntKind.i64.bits:=by simp only[IntKind.bits];omega
 have h2:(BitVec.ofInt IntKind.i64.bits (-1)).toNat=18446744073709551615:=by decide
 simp only[execOp,eqGuard_xor,binOp_xor,intBits_xor,hρ _ _ hx,hρ _ _ hy,pure_bind,Sem.run_pure,bits,BitVec.toNat_xor,Nk h1,h2]
 rw[z0z m (by omega)]
 congr 2
 have h3:((18446744073709551615-m:Nat):Int)=-(m:Int)-1+18446744073709551616:=by omega
 rw[h3]
 simp only[IntKind.wrap,IntKind.bits,IntKind.signed]
 simp
 omega
end
/-! ### Numbers with a sign -/
theorem z4w (z:Int)(h: -4611686018427387904<=z/\z<4611686018427387904)(w:World):Mw Tryz.prog 231 [I z] w λu w'=>u=Mh (zig z)/\w'=w:=by
 rcases Int.lt_or_le z 0 with h0|h0
 ·obtain⟨n,rfl⟩:∃n:Nat,z=-(n:Int)-1:=⟨(-z-1).toNat,by omega⟩;refine It (e:=[(0,_)]) Tryz.func231 O Tryz.ntmps231 O O$ qN O$ Me O$ qM O$ LW O$ qV (ycv (b:=((18446744073709551615-n:Nat):Int)) O U2 Nv (by simp only[IntKind.wrap,IntKind.bits,IntKind.signed];simp;omega)) ?_;refine qV (NW 1 2 O O (by decide) O)$ LW O$ qV (ysr 63 O O (by decide)) ?_;rw[show(-(n:Int)-1) / 2^63=-1 by omega];refine qV (ycv (b:=((18446744073709551615:Nat):Int)) O U2 Nv (by decide))$ qV (Ya O O (by omega) (by omega))$ M4 O$ LZ Tryz.func231 O (⟨_,rfl,?_,rfl⟩);rw[z0z _ (by omega)];simp only[resVal]
  congr 2
  unfold zig;rw[if_neg (by omega)];omega
 ·obtain⟨n,rfl⟩:∃n:Nat,z=(n:Int):=⟨z.toNat,by omega⟩;refine It (e:=[(0,_)]) Tryz.func231 O Tryz.ntmps231 O O$ qN O$ Me O$ qM O$ LW O$ qV ((by first|exact MQ O U2 Nv (by omega)|exact Ob O U2 Nv)) ?_;refine qV (NW 1 2 O O (by decide) O)$ LW O$ qV (Qy 63 9223372036854775808 O O (by decide) O)$ qV ((by first|exact MQ O U2 Nv (by omega)|exact Ob O U2 Nv)) ?_;refine qV (Ya O O (by omega) (by omega))$ M4 O$ LZ Tryz.func231 O (⟨_,rfl,?_,rfl⟩);rw[show n / 9223372036854775808=0 by omega,Nat.xor_zero];simp only[resVal]
  congr 2
  unfold zig;rw[if_pos (by omega)];omega
theorem z4a (n:Nat)(h:n<9223372036854775808)(w:World):Mw Tryz.prog 237 [Mh n] w λu w'=>u=I (zag n)/\w'=w:=by
 refine It (e:=[(0,_)]) Tryz.func237 O Tryz.ntmps237 O O$ qN O$ Me O$ qM O$ LW O$ qV (Qy 1 2 O O (by decide) O)$ qV (MK O Nv U2 (by omega))$ LW O$ qV (Rk O O (by omega) (by omega)) ?_
 rw[Nat.and_one_is_mod]
 refine qV (MK O Nv U2 (by omega)) ?_
 rcases Nat.mod_two_eq_zero_or_one n with h0|h0
 ·rw[h0];refine qV (yng O (by decide) (by decide))$ qV (zcR O O (by omega))$ M4 O$ LZ Tryz.func237 O (⟨_,rfl,?_,rfl⟩);simp only[resVal];unfold zag;rw[if_pos h0]
 ·rw[h0];refine qV (yng O (by decide) (by decide))$ qV (zeL O O (by omega))$ M4 O$ LZ Tryz.func237 O (⟨_,rfl,?_,rfl⟩);simp only[resVal];unfold zag;rw[if_neg (by omega)]
/-! ### The parameters -/
def WC (p:OE):List Value:=[I (p.Mq:Int),I (p.interval:Int),I (p.zeta:Int)]
abbrev lpV (p:OE):Value:= .agg (WC p).toArray
def OE.Nj (p:OE):Prop:=p.Mq<=16/\(p.interval=0\/2<=p.interval/\p.interval<=64)/\1<=p.zeta/\p.zeta<=16
theorem Qt (p:OE)(hp:p.Nj)(w:World):Mw Tryz.prog 146 [lpV p] w λu w'=>u=I 0/\Ext w w':=by
 obtain⟨h1,h2,h3,h4⟩:=hp
 refine It (e:=[(0,_)]) Tryz.func146 O Tryz.ntmps146 O O$ qN O$ M5 O O (O2 O (cs:=WC p) O) ?_
 rintro _ w1 ⟨b1,rfl,bR,ad,aj⟩
 replace aj:M7 w1 b1 [I (p.Mq:Int),I (p.interval:Int),I (p.zeta:Int)] 212:=aj
 refine M4 O$ run_seq$ LU$ run_seq$ qN O$ Ma PN O$ qV (M1 U3 O O aj O)$ Ni O O$ ML$ LW O$ Ma PN O$ qV (M1 U3 O O aj O)$ Ng O O$ ML ?_
 refine MN O O$ M4 O$ An O$ qN O$ Ma WO O$ qV (M1 U3 O O aj O)$ Ni O O$ ML$ LW O$ Ma WO O$ qV (M1 U3 O O aj O)$ Ng O O$ ML$ MN O O ?_
 refine M4 O$ An O$ M0 O$ Ma QF O$ qV (M1 U3 O O aj O)$ N9 O O$ P4 (λe1=>?_)$ λe1=>?_
 ·refine LW O$ Ma QF O$ qV (M1 U3 O O aj O)$ Ni O O$ ML$ LW O$ Ma QF O$ qV (M1 U3 O O aj O)$ Ng O O$ ML$ MN O O$ NC O O$ M4 O$ Mz.qb (e:=[(2,_),(3,_)]) ?_;refine An O$ py$ LV$ qN O$ M4 O$ LZ Tryz.func146 O ?_;exact⟨_,rfl,rfl,ad⟩
 ·refine LW O$ qS$ qS$ qS$ qS$ qS$ qS$ qS$ qS$ MN O O$ M4 O$ Mz.qb (e:=[(2,_),(3,_)]) ?_;refine An O$ py$ LV$ qN O$ M4 O$ LZ Tryz.func146 O ?_;exact⟨_,rfl,rfl,ad⟩
theorem Sf (n:Nat)(h:n<65536)(w:World):Mw Tryz.prog 196 [I (n:Int)] w λu w'=>u= .bool true/\w'=w:=by
 refine It (e:=[(0,_)]) Tryz.func196 O Tryz.ntmps196 O O$ qN O$ Me O$ qM O$ LW O$ PD O O$ O4$ Md O O$ Ni O O$ O4$ NC O O$ M4 O$ LZ Tryz.func196 O ?_
 exact⟨_,rfl,rfl,rfl⟩
structure MG (l:List Nat):Prop where
 W4:Ris l
 lt:∀y∈l,y<65536
theorem Zj:∀(l:List Nat) (lo hi:Nat),Ris l->(∀y∈l,lo<=y/\y<hi)->lo<=hi->lo+l.length<=hi
 |[],lo,hi,_,_,h=>h
 | x :: l, lo, hi, hr, hm, h => by
   have h1:=(List.pairwise_cons.1 hr);have h2:=hm x List.mem_cons_self;have:=Zj l (x+1) hi h1.2 (λy hy=>⟨h1.1 y hy,(hm y (List.mem_cons_of_mem _ hy)).2⟩) (by omega);rw[List.length_cons];omega
theorem MG.len {l:List Nat}(h:MG l):l.length<=65536:=by
 have:=Zj l 0 65536 h.W4 (λy hy=>⟨Nat.zero_le _,h.lt y hy⟩) (by decide)
 omega
theorem MG.sub {l m:List Nat}(h:MG l)(hs:m.Sublist l):MG m:=⟨h.W4.sublist hs,λy hy=>h.lt y (hs.subset hy)⟩
theorem SV (v:Value)(l:List Nat)(hl:MG l)(w:World)(hr:Rd w v 1 l.length (l.map Mx)):
  Mw Tryz.prog 197 [v] w λu w'=>u= .bool true/\w'=w:=by
 have aA:=hl.len
 obtain⟨a,cap,rfl,ha⟩:=hr.shape
 refine It (e:=[(0,_)]) Tryz.func197 O Tryz.ntmps197 O O$ qN O$ M4 O$ run_seq$ qN O$ LW O$ O9 Mr O$ LW O$ LX$ LU$ Oh (α:=Nat) (0) (λi=>[(0,.slice a l.length cap),(5,.slice a l.length cap),(6,I (l.length:Int)),(7,I (i:Int))]) (λi w'=>w'=w/\i<=l.length) (λi=>l.length-i) ?hI ?hround
 case hI=>exact⟨rfl,by omega⟩
 case hround=>
  rintro i _ ⟨rfl,hi⟩ ih
  try dsimp only
  refine qN O$ Ni O O$ LX$ run_seq$ M8 O (λaP=>?_)$ λaP=>?_
  ·have fI:i<l.length:=by omega
   have hy:=hl.lt l[i] (List.getElem_mem fI);rcases hr.2 with⟨c,-,h⟩|⟨b,off,cap',lA,aV⟩
   ·omega
   cases lA;refine py$ run_seq$ LU$ qN O$ LW O$ qV (MS Mr Mi O O (by omega))$ qV (MA Np O O (aV (i*1) (Mx l[i]) (by simp[fI]))) ?_;refine Me O$ Me O$ qM O$ LW O$ PD O O$ ML$ Md O O$ Ng O O$ P4 (λe1=>?_)$ λe1=>?_
   ·have hp:l[i-1]<l[i]:=(List.pairwise_iff_getElem.1 hl.W4) (i-1) i (by omega) fI (by omega);refine Md O O$ Md O O$ Oa O O ?_;rw[show(i:Int)-1=((i-1:Nat):Int) by omega];refine qV (MS Mr Mi O O (by omega))$ qV (MA Np O O (aV ((i-1)*1) (Mx l[i-1]) (by simp[show i-1<l.length by omega]))) ?_;refine zle O O$ ML$ NC O O$ MN O O$ LX$ An O$ py$ LV$ M0 O$ MT O O$ LW O$ LX ?_;exact(ih (i+1) _ ⟨rfl,by omega⟩ (by omega)).qb
   ·refine LW O$ qS$ qS$ qS$ qS$ qS$ qS$ qS$ MN O O$ MN O O$ LX$ An O$ py$ LV ?_;refine M0 O$ MT O O$ LW O$ LX ?_;exact(ih (i+1) _ ⟨rfl,by omega⟩ (by omega)).qb
  ·refine M6 O$ qN O$ M4 O$ LZ Tryz.func197 O ?_;exact⟨_,rfl,rfl,rfl⟩
theorem z8e (p:OE)(hp:p.Nj)(x:Nat)(hx:x<65536)(v u:Value)(l m:List Nat)(r:Nat)(hl:MG l)(hm:MG m)(hr:r<=p.Mq)(lB:r=0->m=[])(w:World)
  (gW:Rd w v 1 l.length (l.map Mx)) (zf:Rd w u 1 m.length (m.map Mx)):
  Mw Tryz.prog 200 [lpV p,I (x:Int),v,u,I (r:Int)] w λo w'=>o= .bool true/\Ext w w':=by
 obtain⟨h1,h2,h3,h4⟩:=id hp
 refine It (e:=[(0,_),(1,_),(2,_),(3,_),(4,_)]) Tryz.func200 O Tryz.ntmps200 O O$ qN O$ M5 O O (O2 O (cs:=WC p) O) ?_
 rintro _ w1 ⟨b1,rfl,bR,ad,aj⟩
 refine Me O$ qM O$ qV (Mv (news:=WC p) Vv O QC O (aj.cells (n:=3) O) O)$ Mn z0e O (Qt p hp w1) ?_
 rintro _ w2 ⟨rfl,af⟩
 have am:=af.LY aj
 replace am:M7 w2 b1 [I (p.Mq:Int),I (p.interval:Int),I (p.zeta:Int)] 212:=am
 refine O3 O O$ O4$ Md O O$ Mn z3L O (Sf x hx w2) ?_
 rintro _ w3 ⟨rfl,rfl⟩
 refine NC O O$ Md O O$ Mn z0V O (SV v l hl w3 (gW.ext (ad.trans af))) ?_
 rintro _ w4 ⟨rfl,rfl⟩
 refine NC O O$ Md O O$ Mn z0V O (SV u m hm w4 (zf.ext (ad.trans af))) ?_
 rintro _ w5 ⟨rfl,rfl⟩
 refine NC O O$ LW O ?_
 obtain⟨ua,uc,rfl,-⟩:=zf.shape
 refine LW O$ PD O O$ O4$ NC O O$ Md O O$ Ma PN O$ qV (M1 U3 O O am O)$ zle O O$ O4$ NC O O$ Md O O$ Ng O O$ P4 (λe1=>?_)$ λe1=>?_
 ·refine LW O$ qS$ qS$ qS$ NC O O$ NC O O$ M4 O$ Mz.qb (e:=[(10,_)]) ?_;refine LZ Tryz.func200 O ?_;exact⟨_,rfl,rfl,ad.trans af⟩
 ·have e2:=lB (by omega);subst e2;refine Md O O$ O9 Mr O$ O3 O O$ O4$ MN O O$ NC O O$ M4 O$ Mz.qb (e:=[(10,_)]) ?_;refine LZ Tryz.func200 O ?_;exact⟨_,rfl,rfl,ad.trans af⟩
theorem Ux (l:List Nat):∀c∈l.map Mx,c.oneCell'=true:=by
 intro c hc
 obtain⟨x,-,rfl⟩:=List.mem_map.1 hc
 rfl
def Yz (p:Nat×Nat):List Value:=[I (p.1:Int),I (p.2:Int)]
theorem z68 (l:List (Nat×Nat)):(l.flatMap Yz).length=l.length*2:=by
 induction l with
 |nil=>rfl
 |cons p l ih=>rw[List.flatMap_cons,List.length_append,ih,List.length_cons,show(Yz p).length=2 from rfl];omega
theorem Sl.oneV {w:World}{v:Value}{e size n:Nat}{cs:List Value}(h:Sl w v e size n cs):oneV v=true:=by
 rcases h.shape with⟨rfl,-⟩|⟨g,cap,rfl,-⟩<;>rfl
structure z8q (w:World)(l:List Nat)(least:Nat)(r:List Nat)(a:Option Addr)(cap:Nat)(v4 v5:Value)(R:List (Nat×Nat))(O_:List Nat)(w':World):Prop where
 ext:Ext w w'
 cl:r.length<=cap
 rd:Rd w (.slice a r.length cap) 1 r.length (r.map Mx)
 s4:Sl w' v4 350 2 R.length (R.flatMap Yz)
 s5:Sl w' v5 46 1 O_.length (O_.map Mx)
 f4:∀g,v4.ownBlock=some g->w.heap.size<=g
 f5:∀g,v5.ownBlock=some g->w.heap.size<=g
 ne:∀g,v4.ownBlock=some g->v5.ownBlock≠some g
 ok:MG r
 eq:rowsN least l=(R++(rowsN least r).1,O_++(rowsN least r).2)
 len:R.length+O_.length+r.length<=65536
theorem P8 {w:World}{a:Option Addr}{n cap i:Nat}{cs:List Value}(h:Rd w (.slice a n cap) 1 n cs)(hi:i<=n)(hc:n<=cap):Rd w (.slice (if cap=i then a else a.map (·.add (i*1))) (n-i) (cap-i)) 1 (n-i) (cs.drop i):=by
 have hl:=h.1
 refine⟨by rw[List.length_drop,hl];omega,?_⟩
 rcases h.2 with⟨c,hv,h0⟩|⟨b,off,cap',hv,aV⟩
 ·refine .inl ⟨((if cap=i then a else a.map (·.add (i*1))),cap-i),?_,by omega⟩;rw[show n-i=0 by omega]
 ·cases hv;by_cases e:cap=i
  ·rw[if_pos e];refine .inl ⟨(some ⟨b,off,none⟩,cap-i),?_,by omega⟩;rw[show n-i=0 by omega]
  ·rw[if_neg e];refine .inr ⟨b,off+i*1,cap-i,?_,λj u hu=>?_⟩
   ·simp only[Option.map_some,NS]
   ·rw[List.getElem?_drop] at hu;have:=aV (i+j) u hu;rw[show off+i*1+j=off+(i+j) by omega];exact this
theorem PW {w:World}{a:Option Addr}{n cap i:Nat}{cs:List Value}(h:Rd w (.slice a n cap) 1 n cs)(hi:i<=n):Rd w (.slice a i cap) 1 i (cs.take i):=by
 have hl:=h.1
 refine⟨by rw[List.length_take,hl];omega,?_⟩
 rcases h.2 with⟨c,hv,h0⟩|⟨b,off,cap',hv,aV⟩
 ·refine .inl ⟨(a,cap),?_,by omega⟩;rw[show i=0 by omega]
 ·cases hv;refine .inr ⟨b,off,cap,rfl,λj u hu=>?_⟩;rw[List.getElem?_take] at hu;split at hu
  ·exact aV j u hu
  ·cases hu
theorem z8q.grow {w w1 w2:World}{l r:List Nat}{least cap:Nat}{a:Option Addr}{v4 v5:Value}{R:List (Nat×Nat)}{O_:List Nat}(h:z8q w l least r a cap v4 v5 R O_ w1)(hx:Ext w1 w2):z8q w l least r a cap v4 v5 R O_ w2:=
 ⟨h.ext.trans hx,h.cl,h.rd,h.s4.ext hx,h.s5.ext hx,h.f4,h.f5,h.ne,h.ok,h.eq,h.len⟩
theorem z7W (a : Option Addr)(cap : Nat)(l : List Nat)(least : Nat)(i8 : MG l)(jA : l.length <= cap)(jE : least <= 64)(w : World)(hr : Rd w (.slice a l.length cap) 1 l.length (l.map Mx)) :
  Mw Tryz.prog 230 [.slice a l.length cap,I (least:Int)] w λu w'=>∃v4 v5,u= .tuple #[v4,v5]/\Sl w' v4 350 2 (rowsN least l).1.length ((rowsN least l).1.flatMap Yz)/\
   Sl w' v5 46 1 (rowsN least l).2.length ((rowsN least l).2.map Mx)/\Ext w w'/\(∀g,v4.ownBlock=some g->w.heap.size<=g)/\(∀g,v5.ownBlock=some g->w.heap.size<=g)/\∀g,v4.ownBlock=some g->v5.ownBlock≠some g:=by
 refine It (e:=[(0,_),(1,_)]) Tryz.func230 O Tryz.ntmps230 O O$ qN O$ Me O$ M4 O$ run_seq$ LU$ Oh (α:=List Nat×Option Addr×Nat×Value×Value×List (Nat×Nat)×List Nat) ((l,a,cap,.slice none 0 0,.slice none 0 0,[],[])) (λx=>[(0,.slice x.2.1 x.1.length x.2.2.1),(1,I (least:Int)),(4,x.2.2.2.1),(5,x.2.2.2.2.1)]) (λx w'=>z8q w l least x.1 x.2.1 x.2.2.1 x.2.2.2.1 x.2.2.2.2.1 x.2.2.2.2.2.1 x.2.2.2.2.2.2 w') (λx=>x.1.length) ?hI ?hround
 case hI=>exact⟨Ext.refl _,jA,hr,Sl.nil _ _ _,Sl.nil _ _ _,(λg h=>by cases h),(λg h=>by cases h),(λg h=>by cases h),i8,rfl,by have:=i8.len;simp;omega⟩
 case hround =>
  rintro⟨r,a1,c1,v4,v5,R,O_⟩ w6 hI ih;dsimp only at hI
  try dsimp only
  refine run_seq$ qN O$ LW O$ O9 Mr O$ Ng O O$ LX$ M8 O (λh0=>?_)$ λh0=>?_
  ·obtain⟨y,r',rfl⟩:∃y r',r=y::r':=by
    cases r with
    |nil=>exact absurd h0 (by simp)
    |cons y r'=>exact⟨y,r',rfl⟩
   have gW:=Tx y r';have GZ:=hI.ok.lt y List.mem_cons_self;have iS:=hI.ok.len;rw[List.length_cons] at iS
   obtain⟨b,off,lA,aV⟩:∃b off,a1=some ⟨b,off,none⟩/\∀j u,((y::r').map Mx)[j]? =some u->w6.cell? ⟨b,off+j,none⟩=some u:=by
    rcases (hI.rd.ext hI.ext).2 with⟨c,-,h⟩|⟨b,off,cap',lA,aV⟩
    ·exact absurd h (by simp)
    ·cases lA;exact⟨b,off,rfl,aV⟩
   subst lA
   have jF:∀w',Ext w w'->∀j u,((y::r').map Mx)[j]? =some u->w'.cell? ⟨b,off+j,none⟩=some u:=λw' hx=>by
    rcases (hI.rd.ext hx).2 with⟨c,-,h⟩|⟨b',off',cap',lA,hc⟩
    ·exact absurd h (by simp)
    ·cases lA;exact hc
   clear aV;refine py$ LU$ qN O$ M4 O$ run_seq$ LU$ Ot (λe' w'=>Ext w6 w'/\e'=[(0,.slice (some ⟨b,off,none⟩) (y::r').length c1),(1,I (least:Int)),(4,v4),(5,v5),(6,I ((runLen y r'+1:Nat):Int))]) ?rT$ λrT=>?AQ
   case rT=>
    rintro e' w6z ⟨aJ,rfl⟩;replace hI:=hI.grow aJ;have aV:=jF _ hI.ext
    generalize hn:runLen y r'+1=n
    have qw:=hI.cl;rw[List.length_cons] at qw;have dL:=hI.eq;have aA:=hI.len;rw[List.length_cons] at aA;have cU:1<=n/\n<=r'.length+1:=by omega
    have uk:r'.drop (runLen y r')=(y::r').drop n:=by rw[<-hn];rfl
    have jz:y::r'.take (runLen y r')=(y::r').take n:=by rw[<-hn];rfl
    rw[rowsN] at dL;simp only[hn,uk,jz] at dL;have az:MG ((y::r').drop n):=hI.ok.sub (List.drop_sublist _ _);have dX:=P8 hI.rd (i:=n) (by rw[List.length_cons];omega) hI.cl;rw[<-List.map_drop,show(y::r').length-n=((y::r').drop n).length by rw[List.length_drop]] at dX;have kE:((y::r').drop n).length=r'.length+1-n:=by rw[List.length_drop,List.length_cons]
    by_cases hL:0<least/\least<=n
    ·obtain⟨rU,Fi⟩:=hL;rw[if_pos ⟨rU,Fi⟩] at dL;refine run_seq$ qN O$ LW O$ Ng O O$ O4$ Md O O$ LW O$ PD O O$ O4$ NC O O$ LX$ M9 O$ M0 O$ Md O O ?_;refine qV (MS Mr Mi O O (by omega))$ qV (MA Np O O (aV (0*1) (Mx y) O))$ qV (MK O Np U3 (by omega))$ LW O$ qV (OO (cs:=[_,_]) Y1 O zeY O O)$ M5 O O (SA (cs:=[_,_]) (zs:=[Value.int .i64 0,Value.int .i64 0]) z6W Y1 O (by kernel_rfl) O O O (by decide)) ?_;rintro _ w7 ⟨b7,rfl,⟨kF,ck,bK⟩,i9⟩;refine M5 O O (pap z6W Y1 O (by decide) O O (hI.s4.ext ck) i9.rd (by intro c hc;simp at hc;rcases hc with rfl|rfl<;>rfl) (by omega) (by simp only[maxLen];omega)) ?_;rintro v4' w8 ⟨eK,bz,kI,-⟩;have mt:=eK.oneV;have hz:=hI.ext.size;have zi:=ck.size;have dw:Ext w w8:=(hI.ext.trans ck).LS bz (λi hi=>hI.f4 i hi);have oo:Sl w8 v5 46 1 O_.length (O_.map Mx):=(hI.s5.ext ck).kp bz (λg hg e=>hI.ne g e hg);refine M4 O$ M0 O$ Md O O$ qV (Ua Mr Mi O O (by rw[List.length_cons];omega) hI.cl) ?_;refine M4 O$ LV ?_;rw[show(y::r').length-n=((y::r').drop n).length by rw[List.length_drop]];refine(ih ((y::r').drop n,_,c1-n,v4',v5,R++[(y,n)],O_) _ ⟨dw,by dsimp only;rw[kE];omega,dX,?_,oo,?_,hI.f5,?_,az,?_,?_⟩ ?_).qb
     ·dsimp only;rw[List.length_append,List.flatMap_append];exact eK
     ·intro g hg;rcases kI g hg with h| h
      ·exact hI.f4 g h
      ·omega
     ·intro g hg e;rcases kI g hg with h| h
      ·exact hI.ne g h e
      ·have:=hI.s5.lt e;omega
     ·dsimp only;rw[dL,List.append_assoc];rfl
     ·dsimp only;rw[List.length_append,List.length_singleton,kE];omega
     ·dsimp only;rw[kE,List.length_cons];omega
    ·rw[if_neg hL] at dL;rcases Nat.eq_zero_or_pos least with e0|e0
     ·refine run_seq$ qN O$ LW O$ Ng O O$ ML$ LW O$ qS$ qS$ qS$ MN O O$ LX$ An O$ M0 O$ Md O O ?_;refine LW O$ qV (z7J Mr Mi O O (by omega))$ M5 O O (pap Mr Mi O (by decide) O O hI.s5 (PW (hI.rd.ext hI.ext) (i:=n) (by rw[List.length_cons];omega)) (by rw[<-List.map_take];exact Ux _) (by omega) (by simp only[maxLen];omega)) ?_;rintro v5' w8 ⟨eK,bz,kI,-⟩;have mt:=eK.oneV;have hz:=hI.ext.size;have dw:Ext w w8:=hI.ext.LS bz (λi hi=>hI.f5 i hi);have ul:Sl w8 v4 350 2 R.length (R.flatMap Yz):=hI.s4.kp bz (λg hg e=>hI.ne g hg e);refine M4 O$ M0 O$ Md O O$ qV (Ua Mr Mi O O (by rw[List.length_cons];omega) hI.cl) ?_;refine M4 O$ LV ?_;rw[show(y::r').length-n=((y::r').drop n).length by rw[List.length_drop]];have mu:((y::r').take n).length=n:=by rw[List.length_take,List.length_cons];omega
      refine(ih ((y::r').drop n,_,c1-n,v4,v5',R,O_++(y::r').take n) _ ⟨dw,by dsimp only;rw[kE];omega,dX,ul,?_,hI.f4,?_,?_,az,?_,?_⟩ ?_).qb
      ·dsimp only;rw[List.length_append,List.map_append,mu,List.map_take];exact eK
      ·intro g hg;rcases kI g hg with h| h
       ·exact hI.f5 g h
       ·omega
      ·intro g hg e;rcases kI g e with h| h
       ·exact hI.ne g hg h
       ·have:=hI.s4.lt hg;omega
      ·dsimp only;rw[dL,List.append_assoc]
      ·dsimp only;rw[List.length_append,mu,kE];omega
      ·dsimp only;rw[kE,List.length_cons];omega
     ·have Fi:¬least<=n:=λh=>hL ⟨e0,h⟩;refine run_seq$ qN O$ LW O$ Ng O O$ O4$ Md O O$ LW O$ PD O O$ ML$ NC O O$ LX$ An O$ M0 O$ Md O O ?_;refine LW O$ qV (z7J Mr Mi O O (by omega))$ M5 O O (pap Mr Mi O (by decide) O O hI.s5 (PW (hI.rd.ext hI.ext) (i:=n) (by rw[List.length_cons];omega)) (by rw[<-List.map_take];exact Ux _) (by omega) (by simp only[maxLen];omega)) ?_;rintro v5' w8 ⟨eK,bz,kI,-⟩;have mt:=eK.oneV;have hz:=hI.ext.size;have dw:Ext w w8:=hI.ext.LS bz (λi hi=>hI.f5 i hi);have ul:Sl w8 v4 350 2 R.length (R.flatMap Yz):=hI.s4.kp bz (λg hg e=>hI.ne g hg e);refine M4 O$ M0 O$ Md O O$ qV (Ua Mr Mi O O (by rw[List.length_cons];omega) hI.cl) ?_;refine M4 O$ LV ?_;rw[show(y::r').length-n=((y::r').drop n).length by rw[List.length_drop]];have mu:((y::r').take n).length=n:=by rw[List.length_take,List.length_cons];omega
      refine(ih ((y::r').drop n,_,c1-n,v4,v5',R,O_++(y::r').take n) _ ⟨dw,by dsimp only;rw[kE];omega,dX,ul,?_,hI.f4,?_,?_,az,?_,?_⟩ ?_).qb
      ·dsimp only;rw[List.length_append,List.map_append,mu,List.map_take];exact eK
      ·intro g hg;rcases kI g hg with h| h
       ·exact hI.f5 g h
       ·omega
      ·intro g hg e;rcases kI g e with h| h
       ·exact hI.ne g hg h
       ·have:=hI.s4.lt hg;omega
      ·dsimp only;rw[dL,List.append_assoc]
      ·dsimp only;rw[List.length_append,mu,kE];omega
      ·dsimp only;rw[kE,List.length_cons];omega
   case AQ =>
    refine Oh (α:=Nat) (1) (λi=>[(0,.slice (some ⟨b,off,none⟩) (y::r').length c1),(1,I (least:Int)),(4,v4),(5,v5),(6,I (i:Int))]) (λi w'=>Ext w6 w'/\1<=i/\i<=runLen y r'+1) (λi=>runLen y r'+2-i) ?hI ?hround
    case hI=>exact⟨Ext.refl _,by omega,by omega⟩
    case hround=>
     rintro i w7 ⟨ck,zj,dA⟩ ih2
     try dsimp only
     refine run_seq$ run_seq ?_;have hg:=(Ext.refl w7).drew;refine NV (λw'=>Ext w7 w') O$ Mj 0 O O (hg)$ Mj 1 O O (hg)$ M3 2 O (Pb Mr O) hg$ M3 3 O (Xc O O) hg$ zcK (λe1=>?_)$ λe1=>?_
     ·have KW:i<r'.length+1:=by rw[List.length_cons] at e1;omega
      have cy:r'[i-1]? =some (r'[i-1]'(by omega)):=List.getElem?_eq_getElem (by omega);have zk:r'[i-1]'(by omega)<65536:=hI.ok.lt _ (List.mem_cons_of_mem _ (List.getElem_mem _));refine Mj 4 O O (hg)$ Mj 5 O O (hg)$ Mj 6 O O (hg)$ M3 7 O (MS Mr Mi O O (by omega)) hg$ Mj 9 O O (hg)$ M3 10 O (MS Mr Mi O O (by omega)) hg$ Mj 12 O O (hg)$ M3 13 O (Xb O U3 Np) hg$ qT 8 O (λ_ hS=>MA Np O O (by exact jF _ ((hI.ext.trans ck).trans hS) (i*1) (Mx (r'[i-1]'(by omega))) (by rw[List.getElem?_map,show i*1=(i-1)+1 by omega,List.getElem?_cons_succ,cy];rfl))) hg ?_;refine qT 11 O (λ_ hS=>MA Np O O (by exact jF _ ((hI.ext.trans ck).trans hS) (0*1) (Mx y) O)) hg ?_;refine M3 14 O (zee O O) hg$ M3 15 O (yeq O O) hg$ M3 16 O (RM O O) hg$ qE$ M8 O (λe2=>?_)$ λe2=>?_
      ·refine py$ LU$ M0 O$ LW O$ MT O O$ M4 O$ LV ?_
       have bO:i≠runLen y r'+1:=λe=>by
        subst e;have:=T6 y r' (r'[runLen y r'+1-1]'(by omega)) (by rw[<-cy];simp);omega
       exact(ih2 (i+1) _ ⟨ck.trans hg,by omega,by omega⟩ (by omega)).qb
      ·have AR:i=runLen y r'+1:=by
        rcases Nat.lt_or_ge (i-1) (runLen y r') with h| h
        ·have h1:=Sk y r' (i-1) h;rw[cy] at h1;have h2:=NF h1;exact absurd (by omega) e2
        ·omega
       refine M6 O ?_;subst AR;exact(rT _ _ ⟨ck.trans hg,rfl⟩).qb
     ·have AR:i=runLen y r'+1:=by rw[List.length_cons] at e1;omega
      refine Mj 4 O O (hg)$ qJ 5 O (hg)$ qJ 6 O (hg)$ qJ 7 O (hg)$ qJ 8 O (hg)$ qJ 9 O (hg)$ qJ 10 O (hg)$ qJ 11 O (hg)$ qJ 12 O (hg)$ qJ 13 O (hg)$ qJ 14 O (hg)$ qJ 15 O (hg)$ M3 16 O (Ro O O) hg$ qE ?_;refine An O$ M6 O ?_;subst AR;exact(rT _ _ ⟨ck.trans hg,rfl⟩).qb
  ·have eP:r=[]:=List.eq_nil_of_length_eq_zero (by omega);subst eP;refine M6 O$ qN O$ Md O O$ Me O$ M4 O$ LZ Tryz.func230 O ?_;have dL:=hI.eq;simp only[rowsN,List.append_nil] at dL;rw[dL];exact⟨_,rfl,v4,v5,rfl,hI.s4,hI.s5,hI.ext,hI.f4,hI.f5,hI.ne⟩
structure VsM (w:World)(p:Nat)(v:Value)(T el:TypeId)(size n:Nat)(cs:List Value):Prop where
 LY:M7 w p [v] T
 sl:Sl w v el size n cs
 ne:v.ownBlock≠some p
def VsA (w:World)(p:Nat)(T el:TypeId)(size n:Nat)(cs:List Value)(F:Nat->Prop):Prop:=∃v,VsM w p v T el size n cs/\∀k,F k↔YB p v k
section
variable {w w':World}{p:Nat}{T el:TypeId}{size n:Nat}{cs:List Value}{F S:Nat->Prop}
theorem VsA.lt (h:VsA w p T el size n cs F){k:Nat}(hk:F k):k<w.heap.size:=by
 obtain⟨bv,hM,hF⟩:=h
 rcases (hF k).1 hk with e| e
 ·rw[e];exact hM.LY.lt
 ·exact hM.sl.lt e
theorem VsA.kp (h:VsA w p T el size n cs F)(k:Kp S w w')(hn:∀i,F i->¬S i):VsA w' p T el size n cs F:=by
 obtain⟨bv,hM,hF⟩:=h
 exact⟨bv,⟨k.LY hM.LY (hn p ((hF p).2 (.inl O))),hM.sl.kp k (λg hg=>hn g ((hF g).2 (.inr hg))),hM.ne⟩,hF⟩
theorem VsA.ext (h:VsA w p T el size n cs F)(k:Ext w w'):VsA w' p T el size n cs F:=h.kp k.kp λ_ _=>id
end
theorem z6X {P:Program}{e:Env}{d:Option Nat}{ty t t':TypeId}{pos:String}{aft:Array Edge}{g:Option (Nat×Bool)}{x y:Operand}{w:World}{p q:Bool}(hx:look e x=some (.bool p))(hy:look e y=some (.bool q))(ht:P.underlying t=some .bool):Y P e ⟨d,.binOp .neq t x y t',ty,pos,aft,g⟩ (.bool (!(p==q))) w w:=fun ρ hρ=>by
 simp[execOp,hρ _ _ hx,hρ _ _ hy,eqGuard_at_bool,run_neq_bool w t p q ht]
def z3t (q:Cd×Nat):List Value:=OZ q.1++[Mh q.2]
abbrev z1l (w:World)(p:Nat)(L:List (Cd×Nat))(F:Nat->Prop):Prop:=VsA w p 320 323 3 L.length (L.flatMap z3t) F
abbrev ZG (w:World)(p:Nat)(L:List Nat)(F:Nat->Prop):Prop:=VsA w p 45 46 1 L.length (L.map Mx) F
abbrev Yq (w:World)(p:Nat)(L:List Nat)(F:Nat->Prop):Prop:=VsA w p 40 3 1 L.length (L.map λn:Nat=>I (n:Int)) F
theorem PO {w:World}{p:Nat}{L:List (Cd×Nat)}{F:Nat->Prop}(h:z1l w p L F)(hl:L.length<=1000000)(c:Cd)(v:Nat)(hv:v<9223372036854775808):
  Mw Tryz.prog 227 [ZR c,I (v:Int),ptr p 0] w λu w'=>u= .tuple #[]/\∃F',z1l w' p (L++[(c,v)]) F'/\Kp F w w'/\∀k,F' k->F k\/w.heap.size<=k:=by
 obtain⟨x,y,dt,oT,AS⟩:∃x y,OZ c=[x,y]/\x.oneCell'=true/\y.oneCell'=true:=by cases c<;>exact⟨_,_,rfl,rfl,rfl⟩
 obtain⟨bv,hM,hF⟩:=h
 have qx:ZR c= .agg [x,y].toArray:=by rw[ZR,dt]
 rw[qx]
 have H0:∀c∈[x,y,Mh v],c.oneCell'=true:=by
  intro c hc;rcases List.mem_cons.1 hc with rfl|hc
  ·exact oT
  rcases List.mem_cons.1 hc with rfl|hc
  ·exact AS
  rcases List.mem_cons.1 hc with rfl|hc
  ·rfl
  ·simp at hc
 refine It (e:=[(0,_),(1,_),(2,_)]) Tryz.func227 O Tryz.ntmps227 O O$ qN O$ M5 O O (O2 O (cs:=[x,y]) O) ?_
 rintro _ w1 ⟨b3,rfl,ek,ad,ar⟩
 have jl:=ad.LY hM.LY
 refine LX$ M0 O$ qV (M1 WA O O jl O)$ qV (Mv (news:=[x,y]) OV O ND O (ar.cells (n:=2) O) O)$ LW O$ qV ((by first|exact MQ O U3 Nv (by omega)|exact Ob O U3 Nv)) ?_
 refine qV (OO (cs:=[_,_,_]) RS O z9Q O O)$ M5 O O (SA (cs:=[_,_,_]) (zs:=[Value.int .u8 0,Value.int .u64 0,Value.int .u64 0]) WA RS O (by kernel_rfl) O O O (by decide)) ?_
 rintro _ w2 ⟨b2,rfl,⟨bY,af,am⟩,cH⟩
 refine M5 O O (pap WA RS O (by decide) O O ((hM.sl.ext ad).ext af) cH.rd H0 (by omega) (by simp only[maxLen];omega)) ?_
 rintro v3 w3 ⟨cE,au,gV,-⟩
 have mt:=cE.oneV
 have aH:=au.LY (af.LY jl) hM.ne
 refine Mb O (NT z7c O O mt aH (by simp)) ?_
 rintro w4 ⟨aI,av⟩
 replace aI:M7 w4 p [v3] 320:=aI
 have z1:=ad.size
 have z2:=af.size
 have lp:=hM.LY.lt
 have eR:v3.ownBlock≠some p:=λe=>by
  rcases gV p e with e| e
  ·exact hM.ne e
  ·omega
 have dV:=cE.kp av (λg hg e=>eR (e▸hg))
 refine LX$ Nq Tryz.func227 O (⟨_,rfl,rfl,YB p v3,⟨v3,⟨aI,?_,eR⟩,λ_=>Iff.rfl⟩,?_,?_⟩)
 ·rw[List.length_append,List.flatMap_append];have e1:[(c,v)].flatMap z3t=[x,y,Mh v]:=by simp[z3t,dt]
  rw[e1];exact dV
 ·exact((ad.trans af).kp.trans (au.Mc λk e=>(hF k).2 (.inr e))).trans (av.Mc λk e=>(hF k).2 (.inl e))
 ·intro k hk;rcases hk with e| e
  ·exact .inl ((hF k).2 (.inl e))
  ·rcases gV k e with e| e
   ·exact .inl ((hF k).2 (.inr e))
   ·exact .inr (by omega)
def RN (rs:List Nat)(f:Bool):List Nat:=if f !=(rs.length%2==1) then rs++[0] else rs
theorem XS (rs:List Nat)(f:Bool):NN rs f=(RN rs f).modify ((RN rs f).length-1) (·+1):=rfl
abbrev z3m (n:Nat):Value:=I (n:Int)
theorem Zg {w:World}{lf rn:Nat}{L:List Nat}{F:Nat->Prop}(h:ZG w lf L F)(hl:L.length<=1000000)(x:Nat)(a:Bool):
  Mw Tryz.prog 229 [Mx x,.bool a,.bool false,ptr lf 0,ptr rn 0] w λu w'=>u= .tuple #[]/\∃F',ZG w' lf (L++[x]) F'/\Kp F w w'/\∀k,F' k->F k\/w.heap.size<=k:=by
 obtain⟨bv,hM,hF⟩:=h
 refine It (e:=[(0,_),(1,_),(2,_),(3,_),(4,_)]) Tryz.func229 O Tryz.ntmps229 O O ?_
 have jl:=hM.LY
 refine run_seq$ LU$ qN O$ LW O$ qV ((by first|exact MX O|exact Oy O)) ?_
 refine M4 O$ M9 O$ qN O$ qV (M1 Mr O O jl O)$ LW O$ M5 O O (SA (cs:=[_]) (zs:=[Value.int .u32 0]) Mr Mi O (by kernel_rfl) O O O (by decide)) ?_
 rintro _ w2 ⟨b2,rfl,⟨bY,af,am⟩,cH⟩
 refine M5 O O (pap Mr Mi O (by decide) O O (hM.sl.ext af) cH.rd (by intro c hc;simp at hc;subst hc;rfl) (by omega) (by simp only[maxLen];omega)) ?_
 rintro v3 w3 ⟨cE,au,gV,-⟩
 have mt:=cE.oneV
 have aH:=au.LY (af.LY jl) hM.ne
 refine Mb O (NT Pq O O mt aH (by simp)) ?_
 rintro w4 ⟨aI,av⟩
 replace aI:M7 w4 lf [v3] 45:=aI
 have z2:=af.size
 have lp:=hM.LY.lt
 have eR:v3.ownBlock≠some lf:=λe=>by
  rcases gV lf e with e| e
  ·exact hM.ne e
  ·omega
 have dV:=cE.kp av (λg hg e=>eR (e▸hg))
 refine LX$ LZ Tryz.func229 O (⟨_,rfl,rfl,YB lf v3,⟨v3,⟨aI,?_,eR⟩,λ_=>Iff.rfl⟩,?_,?_⟩)
 ·rw[List.length_append,List.map_append];exact dV
 ·exact(af.kp.trans (au.Mc λk e=>(hF k).2 (.inr e))).trans (av.Mc λk e=>(hF k).2 (.inl e))
 ·intro k hk;rcases hk with e| e
  ·exact .inl ((hF k).2 (.inl e))
  ·rcases gV k e with e| e
   ·exact .inl ((hF k).2 (.inr e))
   ·exact .inr (by omega)
theorem VT {w:World}{lf rn:Nat}{rs:List Nat}{F:Nat->Prop}(h:Yq w rn rs F)(hl:rs.length<=1000000)(bO:rs≠[])(hb:∀m∈rs,m<=1000000)(x:Nat)(a:Bool):
  Mw Tryz.prog 229 [Mx x,.bool a,.bool true,ptr lf 0,ptr rn 0] w λu w'=>u= .tuple #[]/\∃F',Yq w' rn (NN rs a) F'/\Kp F w w'/\∀k,F' k->F k\/w.heap.size<=k:=by
 have aP:∀k,F k->k<w.heap.size:=λk hk=>h.lt hk
 obtain⟨bv,hM,hF⟩:=id h
 refine It (e:=[(0,_),(1,_),(2,_),(3,_),(4,_)]) Tryz.func229 O Tryz.ntmps229 O O ?_
 have jl:=hM.LY
 obtain⟨va,vc,rfl,-⟩:=hM.sl.rd.shape
 refine run_seq$ LU$ qN O$ LW O$ qV ((by first|exact MX O|exact Oy O)) ?_
 refine M4 O$ An O$ qN O$ LW O$ qV (M1 O8 O O jl O)$ O9 O8 O$ qV (TX O O (by omega) (by omega)) ?_
 rw[Nat.and_one_is_mod]
 refine O3 O O$ qV (z6X O O U4) ?_
 have hd:decide (((rs.length%2:Nat):Int)=1)=(rs.length%2==1):=by
  rcases Nat.mod_two_eq_zero_or_one rs.length with e|e<;>rw[e]<;>rfl
 rw[hd]
 refine M4 O$ MM (λe' w'=>e'=[(4,ptr rn 0)]/\∃F',Yq w' rn (RN rs a) F'/\Kp F w w'/\∀k,F' k->F k\/w.heap.size<=k) ?rV$ λrV=>?rW
 case rV=>
  rintro e' w1 ⟨rfl,F1,⟨v1,dK,oq⟩,aK,iI⟩
  obtain⟨l,m,gH,fd,hm⟩:∃l m,RN rs a=l++[m]/\l.length<=1000000/\m<=1000000:=by
   unfold RN;split
   ·exact⟨rs,0,rfl,hl,by omega⟩
   ·refine⟨rs.dropLast,rs.getLast bO,(List.dropLast_concat_getLast bO).symm,by rw[List.length_dropLast];omega,hb _ (List.getLast_mem bO)⟩
  rw[gH] at dK;have AU:(l++[m]).length=l.length+1:=by simp
  rw[AU] at dK;rcases dK.sl.shape with⟨-,h0⟩|⟨g,c1,rfl,dP⟩
  ·omega
  have aj:=dK.LY;refine LV$ M0 O$ qV (M1 O8 O O aj O)$ qV (M1 O8 O O aj O)$ O9 O8 O$ Oa O O ?_;rw[show((l.length+1:Nat):Int)-1=(l.length:Int) by omega];refine qV (MS O8 MV O O (by omega))$ qV (MA U3 O O (Na dK.sl.rd (show((l++[m]).map z3m)[l.length]? =some (z3m m) by simp))) ?_;refine MT O O$ qV (MS O8 MV O O (by omega))$ Mb O (Ox MV O O O dK.sl (by simp)) ?_;rintro w2 ⟨cH,ao⟩;have am:=ao.LY aj (λe=>dK.ne (by rw[e];rfl));refine LX$ Nq Tryz.func229 O (⟨_,rfl,rfl,YB rn (.slice (some ⟨g,0,none⟩) (l.length+1) c1),⟨_,⟨am,?_,dK.ne⟩,λ_=>Iff.rfl⟩,?_,?_⟩)
  ·rw[XS,gH,T2];have e1:(l++[m+1]).length=l.length+1:=by simp
   rw[e1]
   have e2:((l++[m]).map z3m).set l.length (z3m (m+1))=(l++[m+1]).map z3m:=by
    rw[List.map_append,List.set_append_right _ _ (by simp)];simp
   rw[<-e2];have e3:l.length*1=l.length:=Nat.mul_one _
   first|exact cH|(simp only[Nat.zero_add,Nat.mul_one] at cH;exact cH)
  ·exact aK.LS (ao.Mc (λk e=>(oq k).2 (.inr (by rw[e];rfl)))) (λi hi=>(iI i hi).symm)
  ·intro k hk;exact iI k ((oq k).2 hk)
 case rW=>
  refine MZ O (λe1=>?_)$ λe1=>?_
  ·have fJ:RN rs a=rs++[0]:=by unfold RN;exact if_pos e1
   refine M0 O$ qV (M1 O8 O O jl O)$ M5 O O (SA (cs:=[_]) (zs:=[Value.int .i64 0]) O8 MV O (by kernel_rfl) O O O (by decide)) ?_;rintro _ w2 ⟨b2,rfl,⟨bY,af,am⟩,cH⟩;refine M5 O O (pap O8 MV O (by decide) O O (hM.sl.ext af) cH.rd (by intro c hc;simp at hc;subst hc;rfl) (by omega) (by simp only[maxLen];omega)) ?_;rintro v3 w3 ⟨cE,au,gV,-⟩;have mt:=cE.oneV;have aH:=au.LY (af.LY jl) hM.ne;refine Mb O (NT z32 O O mt aH (by simp)) ?_;rintro w4 ⟨aI,av⟩;replace aI:M7 w4 rn [v3] 40:=aI;have z2:=af.size;have lp:=hM.LY.lt
   have eR:v3.ownBlock≠some rn:=λe=>by
    rcases gV rn e with e| e
    ·exact hM.ne e
    ·omega
   have dV:=cE.kp av (λg hg e=>eR (e▸hg));refine LX ((rV _ _ ⟨rfl,YB rn v3,⟨v3,⟨aI,?_,eR⟩,λ_=>Iff.rfl⟩,?_,?_⟩).qb)
   ·rw[fJ,List.length_append,List.map_append];exact dV
   ·exact(af.kp.trans (au.Mc λk e=>(hF k).2 (.inr e))).trans (av.Mc λk e=>(hF k).2 (.inl e))
   ·intro k hk;rcases hk with e| e
    ·exact .inl ((hF k).2 (.inl e))
    ·rcases gV k e with e| e
     ·exact .inl ((hF k).2 (.inr e))
     ·exact .inr (by omega)
  ·have fJ:RN rs a=rs:=by unfold RN;exact if_neg (by simpa using e1)
   refine py ?_;exact(rV _ _ ⟨rfl,F,by rw[fJ];exact h,Kp.refl _ _,λk hk=> .inl hk⟩).qb
def RZ (s r rs:List Nat):List Nat:=r.foldl (λrs y=>NN rs (decide (y∈s))) rs
theorem Wh {s t:List Nat}:∀(r rs:List Nat),(∀y∈r,(y∈s↔y∈t))->RZ s r rs=RZ t r rs
 |[],rs,_=>rfl
 | y :: r, rs, h => by
   have h1:decide (y∈s)=decide (y∈t):=decide_eq_decide.2 (h y List.mem_cons_self);show RZ s r (NN rs (decide (y∈s)))=RZ t r (NN rs (decide (y∈t)));rw[h1];exact Wh r _ (λz hz=>h z (List.mem_cons_of_mem _ hz))
theorem Se {x z:Nat}{l:List Nat}(h:x<z):z∈x::l↔z∈l:=by
 rw[List.mem_cons]
 constructor
 ·rintro(e|e)
  ·omega
  ·exact e
 ·exact .inr
theorem ZQ {x:Nat}{s r:List Nat}(h:∀y∈r,x<y):leftOf (x::s) r=x::leftOf s r/\∀rs,RZ (x::s) r rs=RZ s r rs:=by
 have hx:x∉r:=λe=>by have:=h x e;omega
 refine⟨?_,λrs=>Wh r rs λy hy=>Se (h y hy)⟩
 unfold leftOf
 rw[List.filter_cons,if_pos (by simpa using hx)]
theorem Yd {r t:List Nat}(s:List Nat)(h:∀x∈s,(x∈r↔x∈t)):leftOf s r=leftOf s t:=
 List.filter_congr λx hx=>decide_eq_decide.2 (not_congr (h x hx))
theorem z4s {x:Nat}{s r:List Nat}(hs:∀z∈s,x<z)(hr:∀y∈r,x<y):leftOf (x::s) (x::r)=leftOf s r/\∀rs,RZ (x::s) (x::r) rs=RZ s r (NN rs true):=by
 refine⟨?_,λrs=>?_⟩
 ·have:=Yd (r:=x::r) (t:=r) s (λz hz=>Se (hs z hz));rw[<-this];unfold leftOf;rw[List.filter_cons,if_neg (by simp)]
 ·show RZ (x::s) r (NN rs (decide (x∈x::s)))=_;rw[decide_eq_true List.mem_cons_self];exact(ZQ hr).2 _
theorem z4m {y:Nat}{s r:List Nat}(hs:∀z∈s,y<z):leftOf s (y::r)=leftOf s r/\∀rs,RZ s (y::r) rs=RZ s r (NN rs false):=by
 refine⟨Yd s (λz hz=>Se (hs z hz)),λrs=>?_⟩
 show RZ s r (NN rs (decide (y∈s)))=_
 rw[decide_eq_false λe=>by have:=hs y e;omega]
theorem z0k {x y:Nat}{l:List Nat}(hr:Ris (y::l))(h:x<y):∀z∈y::l,x<z:=λz hz=>by
 rcases List.mem_cons.1 hz with e| e
 ·omega
 ·have:=(List.pairwise_cons.1 hr).1 z e;omega
theorem Y8:∀{l:List Nat} {m:Nat},m∈l->m<=l.sum
 | x :: l, m, h => by
   rw[List.sum_cons];rcases List.mem_cons.1 h with e| e
   ·omega
   ·have:=Y8 e;omega
theorem z1F (rs:List Nat)(f:Bool):(NN rs f).length<=rs.length+1:=by
 rw[XS,List.length_modify]
 unfold RN
 split<;>simp
theorem Q5.le {rs:List Nat}{fs:List Bool}(h:Q5 rs fs):∀m∈rs,m<=fs.length:=λm hm=>by
 have:=Y8 hm
 rw[<-h.exp,Pr];exact this
structure QE (w:World)(succ ref:List Nat)(lf rn:Nat)(FL0 FR0:Nat->Prop)(s:List Nat)(sa:Option Addr)(sc:Nat)(r:List Nat)(ra:Option Addr)(rc:Nat)(L rs:List Nat)(w':World):Prop where
 ex:∃FL FR fs,ZG w' lf L FL/\Yq w' rn rs FR/\Q5 rs fs/\fs.length+r.length<=65536/\rs.length+r.length<=65537/\(∀k,FL k->FL0 k\/w.heap.size<=k)/\(∀k,FR k->FR0 k\/w.heap.size<=k)/\∀k,FL k->¬FR k
 rdS:∀w2,Kp (λk=>FL0 k\/FR0 k) w w2->Rd w2 (.slice sa s.length sc) 1 s.length (s.map Mx)
 rdR:∀w2,Kp (λk=>FL0 k\/FR0 k) w w2->Rd w2 (.slice ra r.length rc) 1 r.length (r.map Mx)
 clS:s.length<=sc
 clR:r.length<=rc
 kp:Kp (λk=>FL0 k\/FR0 k) w w'
 okS:MG s
 okR:MG r
 left:leftOf succ ref=L++leftOf s r
 fold:NY succ ref=RZ s r rs
 zbr:L.length+s.length<=65536
section
variable {w w1 w2:World}{succ ref:List Nat}{lf rn:Nat}{FL0 FR0:Nat->Prop}{s r L rs:List Nat}{sa ra:Option Addr}{sc rc:Nat}{x y:Nat}
theorem QE.ext (h:QE w succ ref lf rn FL0 FR0 s sa sc r ra rc L rs w1)(hx:Ext w1 w2):QE w succ ref lf rn FL0 FR0 s sa sc r ra rc L rs w2:=by
 obtain⟨FL,FR,fs,h1,h2,h3⟩:=h.ex
 exact⟨⟨FL,FR,fs,h1.ext hx,h2.ext hx,h3⟩,h.rdS,h.rdR,h.clS,h.clR,h.kp.trans hx.kp,h.okS,h.okR,h.left,h.fold,h.zbr⟩
theorem QE.z3A (h:QE w succ ref lf rn FL0 FR0 (x::s) sa sc r ra rc L rs w1):∃b off,sa=some ⟨b,off,none⟩/\∀w2,Kp (λk=>FL0 k\/FR0 k) w w2->w2.cell? ⟨b,off+0*1,none⟩=some (Mx x):=by
 rcases (h.rdS w1 h.kp).2 with⟨c,-,h0⟩|⟨b,off,cap,hv,-⟩
 ·exact absurd h0 (by simp)
 ·cases hv;exact⟨b,off,rfl,λw2 k=>Na (h.rdS w2 k) O⟩
theorem QE.z3H (h:QE w succ ref lf rn FL0 FR0 s sa sc (y::r) ra rc L rs w1):∃b off,ra=some ⟨b,off,none⟩/\∀w2,Kp (λk=>FL0 k\/FR0 k) w w2->w2.cell? ⟨b,off+0*1,none⟩=some (Mx y):=by
 rcases (h.rdR w1 h.kp).2 with⟨c,-,h0⟩|⟨b,off,cap,hv,-⟩
 ·exact absurd h0 (by simp)
 ·cases hv;exact⟨b,off,rfl,λw2 k=>Na (h.rdR w2 k) O⟩
theorem QE.zav (h:QE w succ ref lf rn FL0 FR0 (x::s) sa sc r ra rc L rs w1){FL FR:Nat->Prop}{fs:List Bool}(he:ZG w1 lf L FL/\Yq w1 rn rs FR/\Q5 rs fs/\fs.length+r.length<=65536/\rs.length+r.length<=65537/\(∀k,FL k->FL0 k\/w.heap.size<=k)/\(∀k,FR k->FR0 k\/w.heap.size<=k)/\∀k,FL k->¬FR k)
  (hr:∀y∈r,x<y) (hw:∃FL',ZG w2 lf (L++[x]) FL'/\Kp FL w1 w2/\∀k,FL' k->FL k\/w1.heap.size<=k):
  QE w succ ref lf rn FL0 FR0 s (if sc=1 then sa else sa.map (·.add (1*1))) (sc-1) r ra rc (L++[x]) rs w2:=by
 obtain⟨-,k1,k2,k3,k4,k5,k6,k7,k8,k9,k10⟩:=h
 obtain⟨h1,h2,h3,h4,h5,h6,h7,h8⟩:=he
 obtain⟨FL',g1,g2,g3⟩:=hw
 have hz:=k5.size
 rw[List.length_cons] at k3 k10
 refine⟨⟨FL',FR,fs,g1,h2.kp g2 (λi hi e=>h8 i e hi),h3,h4,h5,λk hk=>?_,h7,λk hk e=>?_⟩,λw2 k=>?_,k2,by omega,k4,k5.LS g2 (λi hi=>?_),k6.sub (List.sublist_cons_self _ _),k7,?_,?_,?_⟩
 ·rcases g3 k hk with e| e
  ·exact h6 k e
  ·exact .inr (by omega)
 ·rcases g3 k hk with e2|e2
  ·exact h8 k e2 e
  ·have:=h2.lt e;omega
 ·have:=P8 (k1 w2 k) (i:=1) (by rw[List.length_cons];omega) (by rw[List.length_cons];omega);exact this
 ·rcases h6 i hi with e| e
  ·exact .inr (.inl e)
  ·exact .inl e
 ·rw[k8,(ZQ hr).1,List.append_assoc];rfl
 ·rw[k9,(ZQ hr).2]
 ·rw[List.length_append,List.length_singleton];omega
theorem QE.z8a {s2:List Nat}{sa2:Option Addr}{sc2:Nat}{f:Bool}(h:QE w succ ref lf rn FL0 FR0 s sa sc (y::r) ra rc L rs w1)(hs:(s2=s/\sa2=sa/\sc2=sc/\f=false/\∀z∈s,y<z)\/(s=y::s2/\sa2=(if sc=1 then sa else sa.map (·.add (1*1)))/\sc2=sc-1/\f=true))
  {FL FR:Nat->Prop} {fs:List Bool} (he:ZG w1 lf L FL/\Yq w1 rn rs FR/\Q5 rs fs/\fs.length+(y::r).length<=65536/\rs.length+(y::r).length<=65537/\(∀k,FL k->FL0 k\/w.heap.size<=k)/\(∀k,FR k->FR0 k\/w.heap.size<=k)/\∀k,FL k->¬FR k)
  (hw:∃FR',Yq w2 rn (NN rs f) FR'/\Kp FR w1 w2/\∀k,FR' k->FR k\/w1.heap.size<=k):
  QE w succ ref lf rn FL0 FR0 s2 sa2 sc2 r (if rc=1 then ra else ra.map (·.add (1*1))) (rc-1) L (NN rs f) w2:=by
 obtain⟨-,k1,k2,k3,k4,k5,k6,k7,k8,k9,k10⟩:=h
 obtain⟨h1,h2,h3,h4,h5,h6,h7,h8⟩:=he
 rw[List.length_cons] at h4 h5 k4
 obtain⟨FR',g1,g2,g3⟩:=hw
 have hz:=k5.size
 have gW:=z1F rs f
 have Fj:∀z∈r,y<z:=(List.pairwise_cons.1 k7.W4).1
 have Fk:∃FL FR fs,ZG w2 lf L FL/\Yq w2 rn (NN rs f) FR/\Q5 (NN rs f) fs/\fs.length+r.length<=65536/\(NN rs f).length+r.length<=65537/\(∀k,FL k->FL0 k\/w.heap.size<=k)/\(∀k,FR k->FR0 k\/w.heap.size<=k)/\∀k,FL k->¬FR k:=by
  refine⟨FL,FR',fs++[f],h1.kp g2 (λi hi e=>h8 i hi e),g1,h3.step f,by rw[List.length_append,List.length_singleton];omega,by omega,h6,λk hk=>?_,λk hk e=>?_⟩
  ·rcases g3 k hk with e| e
   ·exact h7 k e
   ·exact .inr (by omega)
  ·rcases g3 k e with e2|e2
   ·exact h8 k hk e2
   ·have:=h1.lt hk;omega
 have Fl:Kp (λk=>FL0 k\/FR0 k) w w2:=k5.LS g2 (λi hi=>by
  rcases h7 i hi with e| e
  ·exact .inr (.inr e)
  ·exact .inl e)
 have dX:∀w2,Kp (λk=>FL0 k\/FR0 k) w w2->Rd w2 (.slice (if rc=1 then ra else ra.map (·.add (1*1))) r.length (rc-1)) 1 r.length (r.map Mx):=λw2 k=>
  P8 (k2 w2 k) (i:=1) (by rw[List.length_cons];omega) (by rw[List.length_cons];omega)
 rcases hs with⟨rfl,rfl,rfl,rfl,hg⟩|⟨rfl,rfl,rfl,rfl⟩
 ·exact⟨Fk,k1,dX,k3,by omega,Fl,k6,k7.sub (List.sublist_cons_self _ _),by rw[k8,(z4m hg).1],by rw[k9,(z4m hg).2],k10⟩
 ·have Fn:∀z∈s2,y<z:=(List.pairwise_cons.1 k6.W4).1;rw[List.length_cons] at k3 k10;refine⟨Fk,λw2 k=>?_,dX,by omega,by omega,Fl,k6.sub (List.sublist_cons_self _ _),k7.sub (List.sublist_cons_self _ _),by rw[k8,(z4s Fn Fj).1],by rw[k9,(z4s Fn Fj).2],by omega⟩;exact P8 (k1 w2 k) (i:=1) (by rw[List.length_cons];omega) (by rw[List.length_cons];omega)
end
theorem z7x {w:World}{succ ref:List Nat}{lf rn:Nat}{FL0 FR0:Nat->Prop}{sa ra:Option Addr}{sc rc:Nat}(H1:QE w succ ref lf rn FL0 FR0 succ sa sc ref ra rc [] [0] w):
  Mw Tryz.prog 228 [.slice sa succ.length sc,.slice ra ref.length rc,.func (.func 229) #[] #[ptr lf 0,ptr rn 0]] w λu w'=>u= .tuple #[]/\
   ∃FL FR,ZG w' lf (leftOf succ ref) FL/\Yq w' rn (NY succ ref) FR/\(∀k,FL k->FL0 k\/w.heap.size<=k)/\(∀k,FR k->FR0 k\/w.heap.size<=k)/\(∀k,FL k->¬FR k)/\Kp (λk=>FL0 k\/FR0 k) w w':=by
 refine It (e:=[(0,_),(1,_),(2,_)]) Tryz.func228 O Tryz.ntmps228 O O$ LU$ Oh (α:=List Nat×Option Addr×Nat×List Nat×Option Addr×Nat×List Nat×List Nat) ((succ,sa,sc,ref,ra,rc,[],[0])) (λx=>[(0,.slice x.2.1 x.1.length x.2.2.1),(1,.slice x.2.2.2.2.1 x.2.2.2.1.length x.2.2.2.2.2.1),(2,.func (.func 229) #[] #[ptr lf 0,ptr rn 0])]) (λx w'=>QE w succ ref lf rn FL0 FR0 x.1 x.2.1 x.2.2.1 x.2.2.2.1 x.2.2.2.2.1 x.2.2.2.2.2.1 x.2.2.2.2.2.2.1 x.2.2.2.2.2.2.2 w') (λx=>x.1.length+x.2.2.2.1.length) ?hI ?hround
 case hI=>exact H1
 case hround=>
  rintro⟨s,sa,sc,r,ra,rc,L,rs⟩ w6 hI ih;dsimp only at hI
  try dsimp only
  have hg:=(Ext.refl w6).drew;have aa:=hg.drew;have cF:=hI.ext aa;have p0:([]:List Nat).length=0:=rfl;have gz:=hI.okS.len;have zm:=hI.okR.len;rcases s with _|⟨x,s⟩
  ·rcases r with _|⟨y,r⟩
   ·refine run_seq$ qN O$ LW O$ O9 Mr O$ Ng O O$ ML$ Md O O$ O9 Mr O$ Ng O O$ ML$ MN O O$ LX$ An O$ M6 O ?_;refine Nq Tryz.func228 O ?_;have qy:=hI.left;have iT:=hI.fold;obtain⟨FL,FR,fs,h1,h2,h3,h4,h5,h6,h7,h8⟩:=hI.ex;rw[qy,iT];exact⟨_,rfl,rfl,FL,FR,by simpa[leftOf] using h1,h2,h6,h7,h8,hI.kp⟩
   ·skip
    obtain⟨b2,off2,rfl,mj⟩:=hI.z3H;have p1:0<((y::r:List Nat).length:Int):=by rw[List.length_cons];omega
    have p3:¬(((y::r).length:Int)=0):=by omega
    refine run_seq$ qN O$ LW O$ O9 Mr O$ Ng O O$ ML$ Md O O$ O9 Mr O$ Ng O O$ O4$ MN O O$ LX$ M9 O$ py ?_;refine LU$ run_seq$ NV (λw'=>Ext w6 w') O$ Mj 0 O O (hg)$ M3 1 O (Pb Mr O) hg$ M3 2 O (yeq O O) hg$ QT$ Mj 3 O O (hg)$ Mj 4 O O (hg)$ M3 5 O (Pb Mr O) hg$ M3 6 O (UL O O) hg$ QT$ Mj 7 O O (hg)$ qJ 8 O (hg) ?_;refine qJ 9 O (hg)$ qJ 10 O (hg)$ qJ 11 O (hg)$ qJ 12 O (hg)$ qJ 13 O (hg)$ qJ 14 O (hg)$ M3 15 O (Ro O O) hg$ M3 16 O (Ro O O) hg$ M3 17 O (NX O) hg$ qE$ run_seq$ NV (λw'=>Ext w6 w') O$ Mj 0 O O (aa)$ M3 1 O (Pb Mr O) aa ?_;refine M3 2 O (yeq O O) aa$ QB$ Mj 3 O O (aa)$ qJ 4 O (aa)$ qJ 5 O (aa)$ qJ 6 O (aa)$ qJ 7 O (aa)$ qJ 8 O (aa)$ qJ 9 O (aa)$ qJ 10 O (aa)$ qJ 11 O (aa)$ qJ 12 O (aa)$ qJ 13 O (aa)$ qJ 14 O (aa) ?_;refine qJ 15 O (aa)$ M3 16 O (RM O O) aa$ M3 17 O (NX O) aa$ qE$ run_seq$ qN O$ LW O$ LX$ An O$ M0 O$ Md O O$ qV (MS Mr Mi O O (by omega))$ qV (MA Np O O (mj _ cF.kp)) ?_;obtain⟨FL,FR,fs,h1,h2,h3,h4,h5,h6,h7,h8⟩:=cF.ex;refine Ny O O (OK z1D O O) (VT h2 (by omega) h3.ne (λm hm=>by have:=h3.le m hm;omega) y false) ?_;rintro _ w7 ⟨rfl,oU⟩;refine qM O$ LW O$ LX$ M9 O$ M0 O$ LW O$ qV (Ua Mr Mi O O (by rw[List.length_cons];omega) hI.clR) ?_;refine M4 O$ LV ?_;exact(ih ([],sa,sc,r,_,rc-1,L,NN rs false) _ (cF.z8a (.inl ⟨rfl,rfl,rfl,rfl,λz hz=>by simp at hz⟩) ⟨h1,h2,h3,h4,h5,h6,h7,h8⟩ oU) (by dsimp only;simp only[List.length_cons,List.length_nil];omega)).qb
  ·rcases r with _|⟨y,r⟩
   ·obtain⟨b,off,rfl,mv⟩:=hI.z3A
    skip
    have p1:0<((x::s:List Nat).length:Int):=by rw[List.length_cons];omega
    have p4:¬(((x::s).length:Int)=0):=by omega
    refine run_seq$ qN O$ LW O$ O9 Mr O$ Ng O O$ O4$ LW O$ qS$ qS$ qS$ NC O O$ LX$ M9 O$ py ?_;refine LU$ run_seq$ NV (λw'=>Ext w6 w') O$ Mj 0 O O (hg)$ M3 1 O (Pb Mr O) hg$ M3 2 O (yeq O O) hg$ QB$ Mj 3 O O (hg)$ qJ 4 O (hg)$ qJ 5 O (hg)$ qJ 6 O (hg)$ qJ 7 O (hg)$ qJ 8 O (hg)$ qJ 9 O (hg) ?_;refine qJ 10 O (hg)$ qJ 11 O (hg)$ qJ 12 O (hg)$ qJ 13 O (hg)$ qJ 14 O (hg)$ qJ 15 O (hg)$ M3 16 O (RM O O) hg$ M3 17 O (NX O) hg$ qE$ run_seq$ NV (λw'=>Ext w6 w') O$ Mj 0 O O (aa)$ M3 1 O (Pb Mr O) aa$ M3 2 O (yeq O O) aa ?_;refine QT$ Mj 3 O O (aa)$ Mj 4 O O (aa)$ M3 5 O (Pb Mr O) aa$ M3 6 O (UL O O) aa$ QT$ Mj 7 O O (aa)$ qJ 8 O (aa)$ qJ 9 O (aa)$ qJ 10 O (aa)$ qJ 11 O (aa)$ qJ 12 O (aa)$ qJ 13 O (aa)$ qJ 14 O (aa) ?_;refine M3 15 O (Ro O O) aa$ M3 16 O (Ro O O) aa$ M3 17 O (NX O) aa$ qE$ run_seq$ qN O$ LW O$ LX$ M9 O$ qN O$ Md O O$ qV (MS Mr Mi O O (by omega))$ qV (MA Np O O (mv _ cF.kp))$ LW O ?_;obtain⟨FL,FR,fs,h1,h2,h3,h4,h5,h6,h7,h8⟩:=cF.ex;have H2:=cF.zbr;refine Ny O O (OK z1D O O) (Zg h1 (by omega) x true) ?_;rintro _ w7 ⟨rfl,oU⟩;refine LX$ M0 O$ LW O$ qV (Ua Mr Mi O O (by rw[List.length_cons];omega) hI.clS) ?_;refine Me O$ qM O$ LW O$ LX$ An O$ py$ LV ?_;exact(ih (s,_,sc-1,[],ra,rc,L++[x],rs) _ (cF.zav ⟨h1,h2,h3,h4,h5,h6,h7,h8⟩ (λz hz=>by simp at hz) oU) (by dsimp only;simp only[List.length_cons,List.length_nil];omega)).qb
   ·rcases Nat.lt_trichotomy x y with dt|dt|dt
    ·obtain⟨b,off,rfl,mv⟩:=hI.z3A;obtain⟨b2,off2,rfl,mj⟩:=hI.z3H;have p1:0<((x::s:List Nat).length:Int):=by rw[List.length_cons];omega
     have p2:0<((y::r).length:Int):=by rw[List.length_cons];omega
     have p3:¬(((y::r).length:Int)=0):=by omega
     have p4:¬(((x::s).length:Int)=0):=by omega
     refine run_seq$ qN O$ LW O$ O9 Mr O$ Ng O O$ O4$ LW O$ qS$ qS$ qS$ NC O O$ LX$ M9 O$ py ?_;refine LU$ run_seq$ NV (λw'=>Ext w6 w') O$ Mj 0 O O (hg)$ M3 1 O (Pb Mr O) hg$ M3 2 O (yeq O O) hg$ QT$ Mj 3 O O (hg)$ Mj 4 O O (hg)$ M3 5 O (Pb Mr O) hg$ M3 6 O (UL O O) hg$ QB$ Mj 7 O O (hg)$ Mj 8 O O (hg) ?_;refine M3 9 O (MS Mr Mi O O (by omega)) hg$ Mj 11 O O (hg)$ M3 12 O (MS Mr Mi O O (by omega)) hg$ qT 10 O (λ_ h=>MA Np O O (mv _ (hI.kp.trans h.kp))) hg$ qT 13 O (λ_ h=>MA Np O O (mj _ (hI.kp.trans h.kp))) hg$ M3 14 O (Vn O O) hg$ QB$ M3 15 O (RM O O) hg$ M3 16 O (Ro O O) hg$ M3 17 O (NX O) hg$ qE$ run_seq$ NV (λw'=>Ext w6 w') O$ Mj 0 O O (aa) ?_;refine M3 1 O (Pb Mr O) aa$ M3 2 O (yeq O O) aa$ QT$ Mj 3 O O (aa)$ Mj 4 O O (aa)$ M3 5 O (Pb Mr O) aa$ M3 6 O (UL O O) aa$ QB$ Mj 7 O O (aa)$ Mj 8 O O (aa)$ M3 9 O (MS Mr Mi O O (by omega)) aa$ Mj 11 O O (aa)$ M3 12 O (MS Mr Mi O O (by omega)) aa$ qT 10 O (λ_ h=>MA Np O O (mj _ (hI.kp.trans h.kp))) aa ?_;refine qT 13 O (λ_ h=>MA Np O O (mv _ (hI.kp.trans h.kp))) aa$ M3 14 O (Vn O O) aa$ QT$ M3 15 O (RM O O) aa$ M3 16 O (Ro O O) aa$ M3 17 O (NX O) aa$ qE$ run_seq$ qN O$ LW O$ LX$ M9 O$ qN O$ Md O O ?_;refine qV (MS Mr Mi O O (by omega))$ qV (MA Np O O (mv _ cF.kp))$ LW O ?_;obtain⟨FL,FR,fs,h1,h2,h3,h4,h5,h6,h7,h8⟩:=cF.ex;have H2:=cF.zbr;refine Ny O O (OK z1D O O) (Zg h1 (by omega) x true) ?_;rintro _ w7 ⟨rfl,oU⟩;refine LX$ M0 O$ LW O$ qV (Ua Mr Mi O O (by rw[List.length_cons];omega) hI.clS) ?_;refine Me O$ qM O$ LW O$ LX$ An O$ py$ LV ?_;exact(ih (s,_,sc-1,y::r,_,rc,L++[x],rs) _ (cF.zav ⟨h1,h2,h3,h4,h5,h6,h7,h8⟩ (z0k hI.okR.W4 dt) oU) (by dsimp only;simp only[List.length_cons,List.length_nil];omega)).qb
    ·obtain⟨b,off,rfl,mv⟩:=hI.z3A;obtain⟨b2,off2,rfl,mj⟩:=hI.z3H;have p1:0<((x::s:List Nat).length:Int):=by rw[List.length_cons];omega
     have p2:0<((y::r).length:Int):=by rw[List.length_cons];omega
     have p3:¬(((y::r).length:Int)=0):=by omega
     have p4:¬(((x::s).length:Int)=0):=by omega
     refine run_seq$ qN O$ LW O$ O9 Mr O$ Ng O O$ O4$ LW O$ qS$ qS$ qS$ NC O O$ LX$ M9 O$ py ?_;refine LU$ run_seq$ NV (λw'=>Ext w6 w') O$ Mj 0 O O (hg)$ M3 1 O (Pb Mr O) hg$ M3 2 O (yeq O O) hg$ QT$ Mj 3 O O (hg)$ Mj 4 O O (hg)$ M3 5 O (Pb Mr O) hg$ M3 6 O (UL O O) hg$ QB$ Mj 7 O O (hg)$ Mj 8 O O (hg) ?_;refine M3 9 O (MS Mr Mi O O (by omega)) hg$ Mj 11 O O (hg)$ M3 12 O (MS Mr Mi O O (by omega)) hg$ qT 10 O (λ_ h=>MA Np O O (mv _ (hI.kp.trans h.kp))) hg$ qT 13 O (λ_ h=>MA Np O O (mj _ (hI.kp.trans h.kp))) hg$ M3 14 O (Vn O O) hg$ QB$ M3 15 O (RM O O) hg$ M3 16 O (Ro O O) hg$ M3 17 O (NX O) hg$ qE$ run_seq$ NV (λw'=>Ext w6 w') O$ Mj 0 O O (aa) ?_;refine M3 1 O (Pb Mr O) aa$ M3 2 O (yeq O O) aa$ QT$ Mj 3 O O (aa)$ Mj 4 O O (aa)$ M3 5 O (Pb Mr O) aa$ M3 6 O (UL O O) aa$ QB$ Mj 7 O O (aa)$ Mj 8 O O (aa)$ M3 9 O (MS Mr Mi O O (by omega)) aa$ Mj 11 O O (aa)$ M3 12 O (MS Mr Mi O O (by omega)) aa$ qT 10 O (λ_ h=>MA Np O O (mj _ (hI.kp.trans h.kp))) aa ?_;refine qT 13 O (λ_ h=>MA Np O O (mv _ (hI.kp.trans h.kp))) aa$ M3 14 O (Vn O O) aa$ QB$ M3 15 O (RM O O) aa$ M3 16 O (Ro O O) aa$ M3 17 O (NX O) aa$ qE$ run_seq$ qN O$ LW O$ LX$ M9 O$ qN O$ Md O O ?_;refine qV (MS Mr Mi O O (by omega))$ qV (MA Np O O (mv _ cF.kp))$ LW O ?_;obtain⟨FL,FR,fs,h1,h2,h3,h4,h5,h6,h7,h8⟩:=cF.ex;refine Ny O O (OK z1D O O) (VT h2 (by omega) h3.ne (λm hm=>by have:=h3.le m hm;omega) x true) ?_;rintro _ w7 ⟨rfl,oU⟩;refine LX$ M0 O$ LW O$ qV (Ua Mr Mi O O (by rw[List.length_cons];omega) hI.clS) ?_;refine Me O$ qM O$ LW O$ LX$ M9 O$ M0 O$ LW O$ qV (Ua Mr Mi O O (by rw[List.length_cons];omega) hI.clR) ?_;refine M4 O$ LV ?_;subst dt;exact(ih (s,_,sc-1,r,_,rc-1,L,NN rs true) _ (cF.z8a (.inr ⟨rfl,rfl,rfl,rfl⟩) ⟨h1,h2,h3,h4,h5,h6,h7,h8⟩ oU) (by dsimp only;simp only[List.length_cons,List.length_nil];omega)).qb
    ·obtain⟨b,off,rfl,mv⟩:=hI.z3A;obtain⟨b2,off2,rfl,mj⟩:=hI.z3H;have p1:0<((x::s:List Nat).length:Int):=by rw[List.length_cons];omega
     have p2:0<((y::r).length:Int):=by rw[List.length_cons];omega
     have p3:¬(((y::r).length:Int)=0):=by omega
     have p4:¬(((x::s).length:Int)=0):=by omega
     refine run_seq$ qN O$ LW O$ O9 Mr O$ Ng O O$ O4$ LW O$ qS$ qS$ qS$ NC O O$ LX$ M9 O$ py ?_;refine LU$ run_seq$ NV (λw'=>Ext w6 w') O$ Mj 0 O O (hg)$ M3 1 O (Pb Mr O) hg$ M3 2 O (yeq O O) hg$ QT$ Mj 3 O O (hg)$ Mj 4 O O (hg)$ M3 5 O (Pb Mr O) hg$ M3 6 O (UL O O) hg$ QB$ Mj 7 O O (hg)$ Mj 8 O O (hg) ?_;refine M3 9 O (MS Mr Mi O O (by omega)) hg$ Mj 11 O O (hg)$ M3 12 O (MS Mr Mi O O (by omega)) hg$ qT 10 O (λ_ h=>MA Np O O (mv _ (hI.kp.trans h.kp))) hg$ qT 13 O (λ_ h=>MA Np O O (mj _ (hI.kp.trans h.kp))) hg$ M3 14 O (Vn O O) hg$ QT$ M3 15 O (RM O O) hg$ M3 16 O (Ro O O) hg$ M3 17 O (NX O) hg$ qE$ run_seq$ NV (λw'=>Ext w6 w') O$ Mj 0 O O (aa) ?_;refine M3 1 O (Pb Mr O) aa$ M3 2 O (yeq O O) aa$ QT$ Mj 3 O O (aa)$ Mj 4 O O (aa)$ M3 5 O (Pb Mr O) aa$ M3 6 O (UL O O) aa$ QB$ Mj 7 O O (aa)$ Mj 8 O O (aa)$ M3 9 O (MS Mr Mi O O (by omega)) aa$ Mj 11 O O (aa)$ M3 12 O (MS Mr Mi O O (by omega)) aa$ qT 10 O (λ_ h=>MA Np O O (mj _ (hI.kp.trans h.kp))) aa ?_;refine qT 13 O (λ_ h=>MA Np O O (mv _ (hI.kp.trans h.kp))) aa$ M3 14 O (Vn O O) aa$ QB$ M3 15 O (RM O O) aa$ M3 16 O (Ro O O) aa$ M3 17 O (NX O) aa$ qE$ run_seq$ qN O$ LW O$ LX$ An O$ M0 O$ Md O O ?_;refine qV (MS Mr Mi O O (by omega))$ qV (MA Np O O (mj _ cF.kp)) ?_;obtain⟨FL,FR,fs,h1,h2,h3,h4,h5,h6,h7,h8⟩:=cF.ex;refine Ny O O (OK z1D O O) (VT h2 (by omega) h3.ne (λm hm=>by have:=h3.le m hm;omega) y false) ?_;rintro _ w7 ⟨rfl,oU⟩;refine qM O$ LW O$ LX$ M9 O$ M0 O$ LW O$ qV (Ua Mr Mi O O (by rw[List.length_cons];omega) hI.clR) ?_;refine M4 O$ LV ?_;exact(ih (x::s,_,sc,r,_,rc-1,L,NN rs false) _ (cF.z8a (.inl ⟨rfl,rfl,rfl,rfl,z0k hI.okS.W4 dt⟩) ⟨h1,h2,h3,h4,h5,h6,h7,h8⟩ oU) (by dsimp only;simp only[List.length_cons,List.length_nil];omega)).qb
structure Ys (w:World)(t r:Nat)(s:Bytes)(a:Nat):Prop where
 LY:M7 w t [ptr r 0,.bool false] 316
 rd:Ql w r s a
 ne:t≠r
theorem Ys.ext {w w':World}{t r a:Nat}{s:Bytes}(h:Ys w t r s a)(hx:Ext w w'):Ys w' t r s a:=⟨hx.LY h.LY,⟨hx.LY h.rd.1,h.rd.2⟩,h.ne⟩
theorem QR {w:World}{t r a:Nat}{s:Bytes}(h:Ys w t r s a)(c:Cd)(v n:Nat)(hc:c.Nj)(hv:v<=c.most)(hn:v<=n)(ia:n<9223372036854775808)(rest:List Bool)(hb:(Ml s).drop a=c.enc v++rest):
  Mw Tryz.prog 236 [ptr t 0,ZR c,I (n:Int)] w λu w'=>u=I (v:Int)/\Ys w' t r s (a+(c.enc v).length)/\Kp (λk=>k=r) w w':=by
 obtain⟨x,y,dt⟩:∃x y,OZ c=[x,y]:=by cases c<;>exact⟨_,_,rfl⟩
 have qx:ZR c= .agg [x,y].toArray:=by rw[ZR,dt]
 have eH:=c.WW
 rw[qx]
 refine It (e:=[(0,_),(1,_),(2,_)]) Tryz.func236 O Tryz.ntmps236 O O$ qN O$ M5 O O (O2 O (cs:=[x,y]) O) ?_
 rintro _ w1 ⟨b4,rfl,f9,ad,aH⟩
 have h1:=h.ext ad
 have AV:¬b4=r:=by have:=h.rd.1.lt;omega
 have hg:=(Ext.refl w1).drew
 refine M4 O$ run_seq$ NV (λw'=>Kp (λk=>k=r) w1 w') O$ Mj 0 O O (hg.kp)$ M3 1 O (N4 O) (hg.kp)$ M3 2 O (My z8A O) (hg.kp)$ qT 3 O (λ_ hS=>M1 Qe O O (hS.LY h1.LY h.ne) O) (hg.kp)$ qT 4 O (λ_ h=>Mv (news:=[x,y]) OV O ND O ((h.LY aH AV).cells (n:=2) O) O) (hg.kp) ?_
 rw[<-qx]
 refine Pm 5 O z7O O (W1 (⟨hg.LY h1.rd.1,h1.rd.2⟩:Ql _ r s a) c v hc hv rest hb) ?_
 rintro _ w2 ⟨rfl,cI,ao⟩
 refine⟨hg.kp.trans ao,?_⟩
 have jm:=hg.kp.trans ao
 have ar:=jm.LY h1.LY h.ne
 refine Mj 6 O O (hg.kp.trans ao)$ M3 7 O (O6 O O) (hg.kp.trans ao)$ M3 8 O (O6 O O) (hg.kp.trans ao)$ M3 9 O (NX O) (hg.kp.trans ao)$ M3 10 O (NX O) (hg.kp.trans ao)$ qE$ run_seq$ qN O$ LW O$ N9 O O$ Md O O$ LW O$ qV ((by first|exact MQ O U3 Nv (by omega)|exact Ob O U3 Nv)) ?_
 refine Ng O O$ ML$ MN O O$ LX$ An O$ py$ qN O$ LW O$ qV (MK O Nv U3 (by omega))$ M4 O$ Mz.qb (e:=[(6,_)]) ?_
 refine LZ Tryz.func236 O ?_
 exact⟨_,rfl,rfl,⟨ar,cI,h.ne⟩,ad.kp.trans jm⟩
theorem MU (q:Cd×Nat)(l:List (Cd×Nat)):Mp (q::l)=q.1.enc q.2++Mp l:=rfl
theorem OR {s e rest:List Bool}{a:Nat}(h:s.drop a=e++rest):s.drop (a+e.length)=rest:=by
 rw[<-List.drop_drop,h,List.drop_left]
structure CpI (w:World)(t r:Nat)(s:Bytes)(rs ref:List Nat)(rest:List Bool)(aE i:Nat)(rs2 ref2:List Nat)(sa:Option Addr)(sc:Nat)(v5:Value)(O_:List Nat)(a:Nat)(w':World):Prop where
 tk:Ys w' t r s a
 kp:Kp (λk=>k=r) w w'
 sl:Sl w' v5 46 1 O_.length (O_.map Mx)
 fr:∀g,v5.ownBlock=some g->w.heap.size<=g
 len:rs.length=i+rs2.length
 rd:∀w2,Kp (λk=>k=r) w w2->Rd w2 (.slice sa ref2.length sc) 1 ref2.length (ref2.map Mx)
 cl:ref2.length<=sc
 sum:rs2.sum<=ref2.length
 pos:∀m∈rs2.drop (1-min i 1),1<=m
 bits:(Ml s).drop a=Mp (runNums i rs2)++rest
 z11:a+(Mp (runNums i rs2)).length=aE
 eq:copyL true rs ref=O_++copyL (i%2==0) rs2 ref2
 tot:O_.length+ref2.length<=65536
theorem z60 (a:Addr):a.add 0=a:=by
 unfold Addr.add
 split<;>simp_all
theorem z7M {P:Program}{e:Env}{d:Option Nat}{ty t el:TypeId}{pos:String}{aft:Array Edge}{g:Option (Nat×Bool)}{x u:Operand}{w:World}{z:Value}{size bytes n cap j:Nat}{a:Option Addr}{k:IntKind}{zb:Int}[uL:PS zb j](ht:P.underlying t=some (.slice el))(hs:TI P el z size bytes)(hx:look e x=some (.slice a n cap))
  (hu:look e u=some (.int k zb)) (h:j<=cap):
  Y P e ⟨d,.slice t x none (some u) none,ty,pos,aft,g⟩ (.slice a j cap) w w:=fun ρ hρ=>by
 obtain⟨rfl⟩:=uL
 have cG:=hs.size (w:=w)
 have h1:∀w,(Instr.sliceBound (.int k (j:Int)) cap .sliceAcap).run P w= .ok j w:=λw=>by rw[run_sliceBound _ _ _ _ _ (by omega) (by omega)];simp
 cases a with
 |none=>simp[execOp,hρ _ _ hx,hρ _ _ hu,Instr.sliceAt,run_underlying ht,Instr.slice,Instr.sliceBounds,h1,cG]
 |some a=>simp[execOp,hρ _ _ hx,hρ _ _ hu,Instr.sliceAt,run_underlying ht,Instr.slice,Instr.sliceBounds,h1,cG,z60]
theorem z1E {w:World}{t r a:Nat}{s:Bytes}(h:Ys w t r s a)(hG:M7 w 0 (OZ .gamma) 260)(cW:¬0=r){sa:Option Addr}{sc:Nat}(ref rs:List Nat)
  (dX:∀w2,Kp (λk=>k=r) w w2->Rd w2 (.slice sa ref.length sc) 1 ref.length (ref.map Mx)) (dN:ref.length<=sc) (zm:ref.length<=65536) (hn:rs.length<=ref.length+1) (gI:rs.sum<=ref.length)
  (ib:∀m∈rs.drop 1,1<=m) (rest:List Bool) (hb:(Ml s).drop a=Mp ((.gamma,rs.length)::runNums 0 rs)++rest):
  Mw Tryz.prog 223 [ptr t 0,.slice sa ref.length sc] w λu w'=>Sl w' u 46 1 (copyL true rs ref).length ((copyL true rs ref).map Mx)/\(∀g,u.ownBlock=some g->w.heap.size<=g)/\
   Ys w' t r s (a+(Mp ((.gamma,rs.length)::runNums 0 rs)).length)/\Kp (λk=>k=r) w w':=by
 have jn:∀v:Nat,v<=65537->v<=Cd.most .gamma:=λv hv=>by simp only[Cd.most];omega
 refine It (e:=[(0,_),(1,_)]) Tryz.func223 O Tryz.ntmps223 O O$ qN O$ Me O$ qM O$ Me O$ qM O$ LW O$ qV (Mv (news:=[.int .u8 1,Mh 0]) OV O ND O (hG.cells (n:=2) O) O)$ LW O$ O9 Mr O ?_
 rw[MU,List.append_assoc] at hb
 rw[show((ref.length:Nat):Int)=((ref.length:Nat):Int) from rfl]
 refine MT O O$ Mn Zf O (QR h .gamma rs.length (ref.length+1) trivial (jn _ (by omega)) (by omega) (by omega) _ hb) ?_
 rintro _ w1 ⟨rfl,h1,aK⟩
 have bR:=OR hb
 refine M4 O$ run_seq$ qN O$ Md O O$ LX$ LU$ Oh (α:=Nat×List Nat×List Nat×Option Addr×Nat×Value×List Nat×Nat) ((0,rs,ref,sa,sc,.slice none 0 0,[],a+(Cd.enc .gamma rs.length).length)) (λx=>[(0,ptr t 0),(1,.slice x.2.2.2.1 x.2.2.1.length x.2.2.2.2.1),(5,x.2.2.2.2.2.1),(6,I (rs.length:Int)),(15,I (rs.length:Int)),(16,I (x.1:Int))]) (λx w'=>CpI w t r s rs ref rest (a+(Mp ((.gamma,rs.length)::runNums 0 rs)).length) x.1 x.2.1 x.2.2.1 x.2.2.2.1 x.2.2.2.2.1 x.2.2.2.2.2.1 x.2.2.2.2.2.2.1 x.2.2.2.2.2.2.2 w') (λx=>x.2.1.length) ?hI ?hround
 case hI=>exact⟨h1,aK,Sl.nil _ _ _,(λg h=>by cases h),by simp,dX,dN,gI,ib,bR,by rw[MU,List.length_append];dsimp only;omega,rfl,by simp;omega⟩
 case hround =>
  rintro⟨i,rs2,ref2,sa2,sc2,v5,O_,a2⟩ w6 hI ih;dsimp only at hI;have aA:=hI.len;have uV:=hI.tot
  try dsimp only
  refine qN O$ Ni O O$ LX$ run_seq$ M8 O (λh0=>?_)$ λh0=>?_
  ·obtain⟨n,rs2,rfl⟩:∃n l,rs2=n::l:=by
    cases rs2 with
    |nil=>simp at aA;omega
    |cons n l=>exact⟨n,l,rfl⟩
   have zn:=hI.kp.LY hG cW;have gI:=hI.sum;rw[List.sum_cons] at gI;rw[List.length_cons] at aA;have c6:=hI.bits;rw[runNums,MU,List.append_assoc] at c6
   have cU:min i 1<=n:=by
    have hp:=hI.pos n;rcases Nat.eq_zero_or_pos i with e| e
    ·subst e;simp
    ·rw[show 1-min i 1=0 by omega] at hp;have:=hp List.mem_cons_self;omega
   refine py$ run_seq$ LU$ qN O$ LW O$ Me O$ qM O$ LW O$ qV (Mv (news:=[.int .u8 1,Mh 0]) OV O ND O (zn.cells (n:=2) O) O)$ LW O$ O9 Mr O$ Mn Zf O (QR hI.tk .gamma (n-min i 1) ref2.length trivial (jn _ (by omega)) (by omega) (by omega) _ c6) ?_;rintro _ w7 ⟨rfl,h7,aD⟩;have ic:=hI.kp.trans aD;have bK:=h7.LY;refine LW O$ qV (ymi O O)$ MT O O ?_;rw[show((n-min i 1:Nat):Int)+min (i:Int) 1=(n:Int) by omega];refine M4 O$ run_seq$ qN O$ LW O$ MC O$ Ma Qn O$ qV (M1 U4 O O bK O)$ Md O O$ LW O$ O9 Mr O$ Ng O O$ ML$ MN O O$ LX ?_;refine An O$ py$ run_seq$ qN O$ LW O$ qV (TX O O (by omega) (by omega)) ?_;rw[Nat.and_one_is_mod];have AW:=hI.rd _ ic;have eU:=OR c6;have zi:=hI.kp.size;have Fo:=aD.size
   have rX:∀g,v5.ownBlock=some g->¬g=r:=λg hg e=>by
    have h1:=hI.fr g hg;have h2:=h.rd.1.lt;omega
   have i9:=hI.sl.kp aD rX
   have dY:∀(v5':Value) (w8:World),Sl w8 v5' 46 1 (O_++if i%2==0 then ref2.take n else []).length ((O_++if i%2==0 then ref2.take n else []).map Mx)->(∀g,v5'.ownBlock=some g->w.heap.size<=g)->Kp (λk=>v5.ownBlock=some k) w7 w8->
     CpI w t r s rs ref rest (a+(Mp ((.gamma,rs.length)::runNums 0 rs)).length) (i+1) rs2 (ref2.drop n) (if sc2=n then sa2 else sa2.map (·.add (n*1))) (sc2-n) v5' (O_++if i%2==0 then ref2.take n else []) (a2+(Cd.enc .gamma (n-min i 1)).length) w8:=by
    intro v5' w8 g1 g2 g3;have lt7:=h7.LY.lt;have lr7:=h7.rd.1.lt;have ue:=h.LY.lt;have dQ:=h.rd.1.lt;have ot:∀x,x<w.heap.size->¬v5.ownBlock=some x:=λx hx e=>by have:=hI.fr x e;omega
    refine⟨⟨g3.LY h7.LY (ot t ue),⟨g3.LY h7.rd.1 (ot r dQ),h7.rd.2⟩,h7.ne⟩,ic.LS g3 (λk hk=> .inl (hI.fr k hk)),g1,g2,by omega,λw2 k=>?_,by rw[List.length_drop];have:=hI.cl;omega,by rw[List.length_drop];omega,?_,?_,?_,?_,?_⟩
    ·have:=P8 (hI.rd w2 k) (i:=n) (by omega) hI.cl;rw[<-List.map_drop] at this;rw[List.length_drop];exact this
    ·intro m hm;refine hI.pos m ?_;rw[show 1-min (i+1) 1=0 by omega,List.drop_zero] at hm;rcases Nat.eq_zero_or_pos i with e| e
     ·subst e;exact hm
     ·rw[show 1-min i 1=0 by omega];exact List.mem_cons_of_mem _ hm
    ·exact eU
    ·have:=hI.z11;rw[runNums,MU,List.length_append] at this;dsimp only at this;omega
    ·rw[hI.eq,copyL,List.append_assoc]
     have:((i+1)%2==0)= !(i%2==0):=by
      rcases Nat.mod_two_eq_zero_or_one i with e| e
      ·rw[e,show(i+1)%2=1 by omega];rfl
      ·rw[e,show(i+1)%2=0 by omega];rfl
     rw[this]
    ·rw[List.length_append,List.length_drop];split
     ·rw[List.length_take];omega
     ·simp;omega
   refine O3 O O$ LX$ M8 O (λe1=>?_)$ λe1=>?_
   ·have e2:(i%2==0)=true:=by simp;omega
    simp only[e2,if_true] at dY;refine M0 O$ Md O O$ LW O$ qV (z7M Mr Mi O O (by have:=hI.cl;omega)) ?_;have H3:=hI.cl;refine M5 O O (pap Mr Mi O (by decide) O O i9 (PW AW (i:=n) (by omega)) (by rw[<-List.map_take];exact Ux _) (by omega) (by simp only[maxLen];omega)) ?_;rintro v5' w8 ⟨eK,bz,kI,-⟩;have mt:=eK.oneV;refine M4 O$ M0 O$ Md O O$ qV (Ua Mr Mi O O (by omega) hI.cl)$ M4 O$ LV$ M0 O$ MT O O$ LW O$ LX ?_;rw[show ref2.length-n=(ref2.drop n).length by rw[List.length_drop]];refine(ih (i+1,rs2,ref2.drop n,_,sc2-n,v5',O_++ref2.take n,_) _ (dY v5' _ ?_ ?_ bz) (by dsimp only;simp)).qb
    ·rw[List.length_append,List.map_append,List.length_take,Nat.min_eq_left (by omega),List.map_take];exact eK
    ·intro g hg;rcases kI g hg with e| e
     ·exact hI.fr g e
     ·omega
   ·have e2:(i%2==0)=false:=by simp;omega
    simp only[e2,Bool.false_eq_true,if_false,List.append_nil] at dY;refine py$ M0 O$ Md O O$ qV (Ua Mr Mi O O (by omega) hI.cl)$ M4 O$ LV$ M0 O$ MT O O$ LW O$ LX ?_;rw[show ref2.length-n=(ref2.drop n).length by rw[List.length_drop]];exact(ih (i+1,rs2,ref2.drop n,_,sc2-n,v5,O_,_) _ (dY v5 _ i9 hI.fr (Kp.refl _ _)) (by dsimp only;simp)).qb
  ·have eP:rs2=[]:=List.eq_nil_of_length_eq_zero (by omega);subst eP;have KX:rs.length=i:=by rw[aA];simp
   have jG:=hI.z11;have dL:=hI.eq;rw[copyL] at dL;rw[show(Mp (runNums i [])).length=0 from rfl,Nat.add_zero] at jG;refine M6 O$ run_seq$ qN O$ LW O$ qV (TX O O (by omega) (by omega)) ?_;rw[Nat.and_one_is_mod];refine O3 O O$ LX$ M8 O (λe1=>?_)$ λe1=>?_
   ·rw[if_pos (by simp;omega)] at dL;refine M0 O$ Md O O$ M5 O O (pap Mr Mi O (by decide) O O hI.sl (hI.rd _ hI.kp) (Ux _) (by omega) (by simp only[maxLen];omega)) ?_;rintro v5' w8 ⟨eK,bz,kI,-⟩;have mt:=eK.oneV;refine Me O$ qM O$ LW O$ M4 O$ LZ Tryz.func223 O ?_;rw[dL,<-jG];have zi:=hI.kp.size;have ot:∀x,x<w.heap.size->¬v5.ownBlock=some x:=λx hx e=>by have:=hI.fr x e;omega
    refine⟨_,rfl,?_,λg hg=>?_,⟨bz.LY hI.tk.LY (ot t h.LY.lt),⟨bz.LY hI.tk.rd.1 (ot r h.rd.1.lt),hI.tk.rd.2⟩,hI.tk.ne⟩,hI.kp.LS bz (λk hk=> .inl (hI.fr k hk))⟩
    ·rw[List.length_append,List.map_append];exact eK
    ·rcases kI g hg with e| e
     ·exact hI.fr g e
     ·omega
   ·rw[if_neg (by simp;omega),List.append_nil] at dL;refine py$ qN O$ LW O$ M4 O$ LZ Tryz.func223 O ?_;rw[dL,<-jG];exact⟨_,rfl,hI.sl,hI.fr,hI.tk,hI.kp⟩
structure ReI (w w1:World)(t r:Nat)(s:Bytes)(l:List Nat)(x k:Nat)(rest:List Bool)(aE b7:Nat)(dn l2:List Nat)(v9:Value)(a:Nat)(w':World):Prop where
 tk:Ys w' t r s a
 kp:Kp (λk=>k=t\/k=r) w w'
 b7:M7 w' b7 (OZ (.zeta k)) 260
 sl:Sl w' v9 46 1 dn.length (dn.map Mx)
 fr:∀g,v9.ownBlock=some g->w1.heap.size<=g
 eq:l=dn++l2
 bits:(Ml s).drop a=Mp (restNums x k dn.getLast? l2)++rest
 z11:a+(Mp (restNums x k dn.getLast? l2)).length=aE
 siz:w1.heap.size<=w'.heap.size
theorem z36 {w:World}{t r a:Nat}{s:Bytes}(h:Ys w t r s a)(x k:Nat)(hx:x<65536)(hk:1<=k/\k<=16)(l:List Nat)(hl:MG l)(rest:List Bool)(hb:(Ml s).drop a=Mp (restNums x k none l)++rest):
  Mw Tryz.prog 225 [ptr t 0,I (x:Int),I (l.length:Int),ZR (.zeta k)] w λu w'=>Sl w' u 46 1 l.length (l.map Mx)/\(∀g,u.ownBlock=some g->w.heap.size<=g)/\
   Ys w' t r s (a+(Mp (restNums x k none l)).length)/\Kp (λk=>k=t\/k=r) w w':=by
 have aA:=hl.len
 have lt0:=h.LY.lt
 have lr0:=h.rd.1.lt
 refine It (e:=[(0,_),(1,_),(2,_),(3,_)]) Tryz.func225 O Tryz.ntmps225 O O$ qN O$ M5 O O (O2 O (cs:=OZ (.zeta k)) O) ?_
 rintro _ w1 ⟨b7,rfl,kF,ad,bK⟩
 have h1:=h.ext ad
 have z1:=ad.size
 have Fp:=bK.lt
 refine Me O$ qM O$ M4 O$ run_seq$ qN O$ Md O O$ LX$ LU$ Oh (α:=List Nat×List Nat×Value×Nat) (([],l,.slice none 0 0,a)) (λy=>[(0,ptr t 0),(1,I (x:Int)),(7,ptr b7 0),(9,y.2.2.1),(12,I (l.length:Int)),(13,I (y.1.length:Int))]) (λy w'=>ReI w w1 t r s l x k rest (a+(Mp (restNums x k none l)).length) b7 y.1 y.2.1 y.2.2.1 y.2.2.2 w') (λy=>y.2.1.length) ?hI ?hround
 case hI=>exact⟨h1,ad.kp,bK,Sl.nil _ _ _,(λg h=>by cases h),rfl,hb,rfl,Nat.le_refl _⟩
 case hround =>
  rintro⟨dn,l2,v9,a2⟩ w6 hI ih;dsimp only at hI;have dL:=hI.eq;have fd:l.length=dn.length+l2.length:=by rw[dL,List.length_append]
  try dsimp only
  refine qN O$ Ni O O$ LX$ run_seq$ M8 O (λh0=>?_)$ λh0=>?_
  ·obtain⟨y,l2,rfl⟩:∃y q,l2=y::q:=by
    cases l2 with
    |nil=>simp at fd;omega
    |cons y q=>exact⟨y,q,rfl⟩
   rw[List.length_cons] at fd;have qz:y<65536:=hl.lt y (by rw[dL];simp);have aS:=hI.b7;have c6:=hI.bits;have jG:=hI.z11
   have key:∃v:Nat,restNums x k dn.getLast? (y::l2)=(.zeta k,v)::restNums x k (dn++[y]).getLast? l2/\v<=262144/\(dn=[]->v=zig ((y:Int)-x))/\∀u q,dn=q++[u]->v+(u+1)=y:=by
    rw[List.getLast?_append,show [y].getLast? =some y from rfl,Option.some_or];rcases List.eq_nil_or_concat dn with rfl|⟨q,u,rfl⟩
    ·refine⟨_,rfl,?_,λ_=>rfl,λu q e=>by simp at e⟩;have:=W2 (z:=(y:Int)-x) (n:=65536) (by omega) (by omega);omega
    ·have hu:u<y:=by
      have hr:=hl.W4;rw[dL] at hr;exact(List.pairwise_append.1 hr).2.2 u (by simp) y (by simp)
     refine⟨y-u-1,?_,by omega,λe=>by simp at e,λu2 q2 e=>?_⟩
     ·have e1:(q.concat u).getLast? =some u:=by simp
      rw[e1];rfl
     ·have e2:q++[u]=q2++[u2]:=by simpa using e
      have:=(List.append_inj' e2 O).2;simp at this;omega
   obtain⟨v,eT,jo,um,mI⟩:=key;rw[eT,MU,List.append_assoc] at c6;rw[eT,MU,List.length_append] at jG;refine py$ run_seq$ LU$ qN O$ LW O$ Me O$ qM O$ LW O$ qV (Mv (news:=OZ (.zeta k)) OV O ND O (aS.cells (n:=2) O) O)$ Mn Zf O (QR hI.tk (.zeta k) v 262144 hk (by simp only[Cd.most];omega) jo (by omega) _ c6) ?_;rintro _ w7 ⟨rfl,h7,aD⟩;have ic:Kp (λk=>k=t\/k=r) w w7:=hI.kp.trans (aD.Mc λk e=> .inr e);have eU:=OR c6;have i9:=hI.sl.kp aD (λg hg e=>by have:=hI.fr g hg;omega);have AX:=aD.LY aS (by omega);have Fo:=hI.siz;have zi:=aD.size;refine M4 O$ run_seq$ qN O$ LW O$ O3 O O$ LX$ MM (λe' w'=>w'=w7/\e'=[(0,ptr t 0),(1,I (x:Int)),(7,ptr b7 0),(9,v9),(11,I (y:Int)),(12,I (l.length:Int)),(13,I (dn.length:Int))]) ?mB$ λmB=>?mC
   case mB=>
    rintro e' w7 ⟨rfl,rfl⟩;have jl:=h7.LY;refine run_seq$ qN O$ Md O O$ MC O$ Ma Qn O$ qV (M1 U4 O O jl O)$ Md O O$ Mn z3L O (Sf y qz _) ?_;rintro _ w8 ⟨rfl,rfl⟩;refine qV ((by first|exact MX O|exact Oy O)) ?_;refine MN O O$ MC O$ Ma Qn O$ Mb O (NT Sx O O O jl (by simp)) ?_;rintro w8 ⟨cu,bz⟩;replace cu:M7 w8 t [ptr r 0,.bool false] 316:=cu;refine qM O$ LW O$ MC O$ Ma Qn O$ qV (M1 U4 O O cu O)$ LX$ An O$ py$ M0 O$ Md O O$ qV (Xb O U3 Np) ?_;rw[Nat.mod_eq_of_lt (show y<4294967296 by omega)];refine M5 O O (SA (cs:=[_]) (zs:=[Value.int .u32 0]) Mr Mi O (by kernel_rfl) O O O (by decide)) ?_;rintro _ w9 ⟨b9,rfl,⟨mJ,eJ,cJ⟩,uW⟩;have ot:∀g,v9.ownBlock=some g->¬g=t:=λg hg e=>by have:=hI.fr g hg;omega
    have kJ:∀g,v9.ownBlock=some g->¬g=r:=λg hg e=>by have:=hI.fr g hg;omega
    have Fr:=bz.size;have Fs:=eJ.size;refine M5 O O (pap Mr Mi O (by decide) O O ((i9.kp bz ot).ext eJ) uW.rd (by intro c hc;simp at hc;subst hc;rfl) (by omega) (by simp only[maxLen];omega)) ?_;rintro v10 w10 ⟨bq,aq,AY,-⟩;have mt:=bq.oneV;refine M4 O$ LV$ M0 O$ MT O O$ LW O$ LX ?_;have rY:∀g,g<w1.heap.size->¬v9.ownBlock=some g:=λg hg e=>by have:=hI.fr g e;omega
    rw[show(dn.length:Int)+1=((dn++[y]).length:Int) by simp];refine(ih (dn++[y],l2,v10,a2+(Cd.enc (.zeta k) v).length) _ ⟨⟨aq.LY (eJ.LY cu) (rY t (by omega)),⟨aq.LY (eJ.LY (bz.LY h7.rd.1 (λe=>h7.ne e.symm))) (rY r (by omega)),h7.rd.2⟩,h7.ne⟩,?_,?_,?_,?_,?_,eU,?_,?_⟩ (by dsimp only;simp)).qb
    ·exact((ic.trans (bz.Mc λk e=> .inl e)).trans eJ.kp).LS aq (λg hg=> .inl (by have:=hI.fr g hg;omega))
    ·exact aq.LY (eJ.LY (bz.LY AX (by omega))) (rY b7 (by omega))
    ·rw[List.length_append,List.map_append];exact bq
    ·intro g hg;rcases AY g hg with e| e
     ·exact hI.fr g e
     ·omega
    ·rw[dL,List.append_assoc];rfl
    ·dsimp only at jG⊢;omega
    ·have:=aq.size;omega
   case mC=>
    refine M8 O (λe1=>?_)$ λe1=>?_
    ·have eP:dn=[]:=List.eq_nil_of_length_eq_zero (by omega);refine M0 O$ LW O$ qV (MQ O U3 Nv (by omega))$ Mn zal O (z4a v (by omega) _) ?_;rintro _ w8 ⟨rfl,rfl⟩;rw[um eP,z3E];refine LW O$ MT O O ?_;rw[show(y:Int)-x+x=(y:Int) by omega];refine M4 O ?_;exact(mB _ _ ⟨rfl,rfl⟩).qb
    ·obtain⟨q,u,rfl⟩:∃q u,dn=q++[u]:=by
      rcases List.eq_nil_or_concat dn with rfl|⟨q,u,rfl⟩
      ·exact absurd O e1
      ·exact⟨q,u,by simp⟩
     have Ft:=mI u q O;have rS:(q++[u]).length=q.length+1:=by simp
     rw[rS] at i9;rcases i9.shape with⟨-,h0⟩|⟨g,c1,rfl,dP⟩
     ·omega
     refine M0 O$ Md O O$ LW O$ Oa O O ?_;rw[show(((q++[u]).length:Nat):Int)-1=(q.length:Int) by simp];refine qV (MS Mr Mi O O (by omega))$ qV (MA Np O O (Na i9.rd (show((q++[u]).map Mx)[q.length]? =some (Mx u) by simp))) ?_;refine qV (MK O Np U3 (by omega))$ MT O O$ MT O O ?_;rw[show(v:Int)+((u:Int)+1)=(y:Int) by omega];refine M4 O ?_;exact(mB _ _ ⟨rfl,rfl⟩).qb
  ·have eP:l2=[]:=List.eq_nil_of_length_eq_zero (by omega);subst eP;refine M6 O$ qN O$ LW O$ M4 O$ LZ Tryz.func225 O ?_;rw[List.append_nil] at dL;subst dL;have jG:=hI.z11;rw[show(Mp (restNums x k l.getLast? [])).length=0 by cases l.getLast?<;>rfl,Nat.add_zero] at jG;rw[<-jG];exact⟨_,rfl,hI.sl,λg hg=>by have:=hI.fr g hg;omega,hI.tk,hI.kp⟩
section
variable {P:Program}{b:Frame}{a:Act}{k:List Item}{cs:List Frame}{w:World}{C:Cx}{e:Env}
theorem z1L {c:Code}:step P (lone (b.atR a (.code (.scope c)::k)) cs w)= .next (lone (b.atR a (.code c:: .inScope c::k)) cs w):=
 step_lone_go (by simp[stepG,stepG.exec,Frame.atR])
theorem z6c {c:Code}(h:Mz C (.code c:: .inScope c::k) e w):Mz C (.code (.scope c)::k) e w:=λa ha=>SS.step (λ_ _=>z1L) (h a ha)
end
def loE:Option Nat->Nat
 |none=>0
 |some z=>z+2
def z2G:Option Nat->Int
 |none=>-1
 |some z=>(z:Int)
def QY (x:Nat):Option Nat->Nat->Nat
 |none,y=>zig ((y:Int)-x)
 |some e,y=>y-e-2
theorem Om (x least:Nat)(e:Option Nat)(p:Nat×Nat)(R:List (Nat×Nat)):longNums x least e (p::R)=(.gamma,QY x e p.1)::(.gamma,p.2-least)::longNums x least (some (p.1+p.2-1)) R:=by
 cases e<;>rfl
structure LoI (w:World)(t r:Nat)(s:Bytes)(R:List (Nat×Nat))(x least left:Nat)(rest:List Bool)(aE:Nat)(i:Nat)(R2:List (Nat×Nat))(e:Option Nat)(O_:List Nat)(v9:Value)(a:Nat)(w':World):Prop where
 tk:Ys w' t r s a
 kp:Kp (λk=>k=t\/k=r) w w'
 sl:Sl w' v9 46 1 O_.length (O_.map Mx)
 fr:∀g,v9.ownBlock=some g->w.heap.size<=g
 len:R.length=i+R2.length
 eq:NJ R=O_++NJ R2
 ok:Px least (loE e) R2
 hi:∀p∈R2,p.1+p.2<=65536
 tot:O_.length+(NJ R2).length<=left
 bits:(Ml s).drop a=Mp (longNums x least e R2)++rest
 z11:a+(Mp (longNums x least e R2)).length=aE
 eb:z2G e<65536
theorem z4G {w : World}{t r a : Nat}{s : Bytes}(h : Ys w t r s a)(hG : M7 w 0 (OZ .gamma) 260)(cW : ¬ 0 = r)(mK : ¬ 0 = t)(x left least : Nat)(hx : x < 65536)(qy : left <= 65536)(AZ : least <= 64)(R : List (Nat × Nat))(hR : Px least 0 R)(H4 : ∀ p ∈ R, p.1 + p.2 <= 65536)
  (uV:(NJ R).length<=left) (H5:R.length<=left) (rest:List Bool) (hb:(Ml s).drop a=Mp ((.gamma,R.length)::longNums x least none R)++rest):
  Mw Tryz.prog 224 [ptr t 0,I (x:Int),I (left:Int),I (least:Int)] w λu w'=>Sl w' u 46 1 (NJ R).length ((NJ R).map Mx)/\(∀g,u.ownBlock=some g->w.heap.size<=g)/\
   Ys w' t r s (a+(Mp ((.gamma,R.length)::longNums x least none R)).length)/\Kp (λk=>k=t\/k=r) w w':=by
 have jn:∀v:Nat,v<=262144->v<=Cd.most .gamma:=λv hv=>by simp only[Cd.most];omega
 have lt0:=h.LY.lt
 have lr0:=h.rd.1.lt
 refine It (e:=[(0,_),(1,_),(2,_),(3,_)]) Tryz.func224 O Tryz.ntmps224 O O$ qN O$ M4 O$ z6c$ qN O$ Me O$ qM O$ M4 O$ run_seq$ z5t$ run_seq$ qN O$ LW O$ qV (Mv (news:=[.int .u8 1,Mh 0]) OV O ND O (hG.cells (n:=2) O) O) ?_
 rw[MU,List.append_assoc] at hb
 refine LW O$ Mn Zf O (QR h .gamma R.length left trivial (jn _ (by omega)) H5 (by omega) _ hb) ?_
 rintro _ w1 ⟨rfl,h1,aK⟩
 have bR:=OR hb
 refine LW O$ LX$ LU$ Oh (α:=Nat×List (Nat×Nat)×Option Nat×List Nat×Value×Nat) ((0,R,none,[],.slice none 0 0,a+(Cd.enc .gamma R.length).length)) (λy=>[(0,ptr t 0),(1,I (x:Int)),(2,I (left:Int)),(3,I (least:Int)),(9,y.2.2.2.2.1),(10,I (z2G y.2.2.1)),(17,I (R.length:Int)),(18,I (y.1:Int))]) (λy w'=>LoI w t r s R x least left rest (a+(Mp ((.gamma,R.length)::longNums x least none R)).length) y.1 y.2.1 y.2.2.1 y.2.2.2.1 y.2.2.2.2.1 y.2.2.2.2.2 w') (λy=>y.2.1.length) ?hI ?hround
 case hI=>exact⟨h1,aK.Mc λk e=> .inr e,Sl.nil _ _ _,(λg h=>by cases h),by simp,rfl,hR,H4,by simpa using uV,bR,by rw[MU,List.length_append];dsimp only;omega,(show(-1:Int)<65536 by decide)⟩
 case hround =>
  rintro⟨i,R2,e,O_,v9,a2⟩ w6 hI ih;dsimp only at hI;have aA:=hI.len
  try dsimp only
  refine qN O$ Ni O O$ LX$ run_seq$ M8 O (λh0=>?_)$ λh0=>?_
  ·obtain⟨⟨p1,p2⟩,R2,rfl⟩:∃p q,R2=p::q:=by
    cases R2 with
    |nil=>simp at aA;omega
    |cons p q=>exact⟨p,q,rfl⟩
   rw[List.length_cons] at aA;obtain⟨ok1,ok2,ok3,ok4⟩:loE e<=p1/\1<=p2/\least<=p2/\Px least (p1+p2+1) R2:=hI.ok;have KY:p1+p2<=65536:=hI.hi (p1,p2) List.mem_cons_self;have gW:NJ ((p1,p2)::R2)=(List.range p2).map (p1+·)++NJ R2:=rfl;have qA:=hI.tot;have uX:=hI.eq;rw[gW] at qA uX;rw[List.length_append,List.length_map,List.length_range] at qA;have c6:=hI.bits;have jG:=hI.z11;rw[Om,MU,MU,List.append_assoc,List.append_assoc] at c6;rw[Om,MU,MU,List.length_append,List.length_append] at jG;have B0:=hI.eb
   have eT:QY x e p1<=262144:=by
    cases e with
    |none=>have:=W2 (z:=(p1:Int)-x) (n:=65537) (by omega) (by omega);show zig _<=_;omega
    |some z=>show p1-z-2<=_;omega
   have jH:∀k,(λk=>k=t\/k=r) k->k<w.heap.size:=λk hk=>by rcases hk with e|e<;>omega
   have zn:=hI.kp.LY hG (λe=>by rcases e with e|e;exact mK e;exact cW e);refine py$ run_seq$ LU$ qN O$ LW O$ qV (Mv (news:=[.int .u8 1,Mh 0]) OV O ND O (zn.cells (n:=2) O) O)$ Mn Zf O (QR hI.tk .gamma (QY x e p1) 262144 trivial (jn _ eT) eT (by omega) _ c6) ?_;rintro _ w7 ⟨rfl,h7,aD⟩;have eU:=OR c6;have Fo:=hI.kp.size;have zi:=aD.size;have Fu:∀g,v9.ownBlock=some g->¬g=r:=λg hg e=>by have:=hI.fr g hg;omega
   have i9:=hI.sl.kp aD Fu;have ic:Kp (λk=>k=t\/k=r) w w7:=hI.kp.trans (aD.Mc λk e=> .inr e);refine M4 O$ run_seq$ qN O$ LW O$ Ni O O$ LX$ MM (λe' w'=>w'=w7/\e'=[(0,ptr t 0),(1,I (x:Int)),(2,I (left:Int)),(3,I (least:Int)),(9,v9),(11,I (p1:Int)),(17,I (R.length:Int)),(18,I (i:Int))]) ?mB$ λmB=>?mC
   case mB =>
    rintro e' w7 ⟨rfl,rfl⟩;have H6:=aD.LY zn cW;refine qN O$ LW O$ qV (Mv (news:=[.int .u8 1,Mh 0]) OV O ND O (H6.cells (n:=2) O) O)$ LW O$ Mn Zf O (QR h7 .gamma (p2-least) left trivial (jn _ (by omega)) (by omega) (by omega) _ eU) ?_;rintro _ w8 ⟨rfl,h8,bz⟩;have rZ:=OR eU;have Fr:=bz.size;have eK:=i9.kp bz Fu;have oV:Kp (λk=>k=t\/k=r) w w8:=ic.trans (bz.Mc λk e=> .inr e);obtain⟨va,vc,rfl,-⟩:=hI.sl.rd.shape;refine LW O$ MT O O ?_;rw[show((p2-least:Nat):Int)+(least:Int)=(p2:Int) by omega];have cu:=h8.LY;refine M4 O$ run_seq$ qN O$ Md O O$ MC O$ Ma Qn O$ qV (M1 U4 O O cu O)$ Md O O$ Ni O O$ ML$ MN O O$ Md O O$ LW O$ MT O O ?_;refine Ng O O$ ML$ MN O O$ Md O O$ Md O O$ O9 Mr O$ Oa O O$ Ng O O$ ML$ MN O O$ MC O$ Ma Qn O$ Mb O (NT Sx O O O cu (by simp)) ?_;rintro w9 ⟨cJ,aO⟩;replace cJ:M7 w9 t [ptr r 0,.bool false] 316:=cJ;refine qM O$ LW O$ MC O$ Ma Qn O$ qV (M1 U4 O O cJ O) ?_;have Fs:=aO.size;have uW:=eK.kp aO (λg hg e=>by have:=hI.fr g hg;omega);have h9:Ys w9 t r s (a2+(Cd.enc .gamma (QY x e p1)).length+(Cd.enc .gamma (p2-least)).length):=⟨cJ,⟨aO.LY h8.rd.1 (λe=>h8.ne e.symm),h8.rd.2⟩,h8.ne⟩;have B1:Kp (λk=>k=t\/k=r) w w9:=oV.trans (aO.Mc λk e=> .inl e);refine LX$ An O$ py$ run_seq$ qN O$ Md O O$ LX$ LU$ Oh (α:=Nat×Value) ((0,.slice va O_.length vc)) (λy=>[(0,ptr t 0),(1,I (x:Int)),(2,I (left:Int)),(3,I (least:Int)),(9,y.2),(11,I (p1:Int)),(12,I (p2:Int)),(17,I (R.length:Int)),(18,I (i:Int)),(69,I (p2:Int)),(70,I (y.1:Int))]) (λy w'=>Ys w' t r s (a2+(Cd.enc .gamma (QY x e p1)).length+(Cd.enc .gamma (p2-least)).length)/\Kp (λk=>k=t\/k=r) w w'/\Sl w' y.2 46 1 (O_.length+y.1) ((O_++(List.range y.1).map (p1+·)).map Mx)/\(∀g,y.2.ownBlock=some g->w.heap.size<=g)/\y.1<=p2) (λy=>p2-y.1) ?hI ?hround
    case hI=>exact⟨h9,B1,by simpa using uW,hI.fr,Nat.zero_le _⟩
    case hround=>
     rintro⟨j,v⟩ w10 ⟨eI,aq,bq,bh,hj⟩ ih2;dsimp only at eI aq bq bh hj
     try dsimp only
     refine qN O$ Ni O O$ LX$ run_seq$ M8 O (λkK=>?_)$ λkK=>?_
     ·refine py$ run_seq$ LU$ qN O$ LW O$ M4 O$ M0 O$ Md O O$ LW O$ MT O O$ qV (Xb O U3 Np) ?_;rw[show(p1+j)%4294967296=p1+j by omega];refine M5 O O (SA (cs:=[_]) (zs:=[Value.int .u32 0]) Mr Mi O (by kernel_rfl) O O O (by decide)) ?_;rintro _ w11 ⟨b11,rfl,⟨iU,aQ,aL⟩,s6⟩;have H7:=aq.size;have H8:=aQ.size;refine M5 O O (pap Mr Mi O (by decide) O O (bq.ext aQ) s6.rd (by intro c hc;simp at hc;subst hc;rfl) (by omega) (by simp only[maxLen];omega)) ?_;rintro v12 w12 ⟨jH,aY,B2,-⟩;have mt:=jH.oneV;refine M4 O$ LV$ M0 O$ MT O O$ LW O$ LX ?_;have uY:∀g,g<w.heap.size->¬v.ownBlock=some g:=λg hg e=>by have:=bh g e;omega
      refine(ih2 (j+1,v12) _ ⟨⟨aY.LY (aQ.LY eI.LY) (uY t lt0),⟨aY.LY (aQ.LY eI.rd.1) (uY r lr0),eI.rd.2⟩,eI.ne⟩,(aq.trans aQ.kp).LS aY (λg hg=> .inl (bh g hg)),?_,λg hg=>?_,by omega⟩ (by dsimp only;omega)).qb
      ·have e1:(O_++(List.range (j+1)).map (p1+·)).map Mx=(O_++(List.range j).map (p1+·)).map Mx++[Mx (p1+j)]:=by
        rw[List.range_succ];simp
       dsimp only;rw[e1];exact jH
      ·rcases B2 g hg with e| e
       ·exact bh g e
       ·omega
     ·have H9:j=p2:=by omega
      subst H9;refine M6 O$ M0 O$ Md O O$ MT O O$ Oa O O$ M4 O$ LV$ M0 O$ MT O O$ LW O$ LX ?_;rw[show(p1:Int)+j-1=z2G (some (p1+j-1)) by show _=((p1+j-1:Nat):Int);omega,show(i:Int)+1=((i+1:Nat):Int) by omega];refine(ih (i+1,R2,some (p1+j-1),O_++(List.range j).map (p1+·),v,_) _ ⟨eI,aq,?_,bh,by dsimp only;omega,by rw[uX,List.append_assoc],?_,λp hp=>hI.hi p (List.mem_cons_of_mem _ hp),?_,rZ,?_,?_⟩ (by dsimp only;simp)).qb
      ·dsimp only;rw[List.length_append,List.length_map,List.length_range];exact bq
      ·refine ok4.mono ?_;show p1+j-1+2<=_;omega
      ·dsimp only;rw[List.length_append,List.length_map,List.length_range];omega
      ·dsimp only at jG⊢;omega
      ·show((p1+j-1:Nat):Int)<65536;omega
   case mC=>
    cases e with
    | none =>
      refine M8 O (λe1=>?_)$ λe1=>?_
      ·refine M0 O$ LW O$ qV (MQ O U3 Nv (by omega))$ Mn zal O (z4a _ (by omega) _) ?_;rintro _ w8 ⟨rfl,rfl⟩;rw[show QY x none p1=zig ((p1:Int)-x) from rfl,z3E];refine LW O$ MT O O ?_;rw[show(p1:Int)-x+x=(p1:Int) by omega];refine M4 O ?_;exact(mB _ _ ⟨rfl,rfl⟩).qb
      ·exact absurd (by decide) e1
    | some z =>
      refine M8 O (λe1=>?_)$ λe1=>?_
      ·exact absurd e1 (by show ¬((z:Int)<0);omega)
      ·have hz:z+2<=p1:=ok1;refine M0 O$ Md O O ?_;rw[show z2G (some z)=(z:Int) from rfl];refine MT O O$ MT O O ?_;rw[show QY x (some z) p1=p1-z-2 from rfl,show((p1-z-2:Nat):Int)+((z:Int)+2)=(p1:Int) by omega];refine M4 O ?_;exact(mB _ _ ⟨rfl,rfl⟩).qb
  ·have eP:R2=[]:=List.eq_nil_of_length_eq_zero (by omega);subst eP;refine M6 O$ qN O$ LW O$ M4 O$ LZ Tryz.func224 O ?_;have dL:=hI.eq;rw[show NJ []=[] from rfl,List.append_nil] at dL;have jG:=hI.z11;rw[show(Mp (longNums x least e [])).length=0 by cases e<;>rfl,Nat.add_zero] at jG;rw[dL,<-jG];exact⟨_,rfl,hI.sl,hI.fr,hI.tk,hI.kp⟩
def Nl (p:OE)(n r:Nat):List (Cd×Nat):=(.gamma,n)::if n=0 then [] else if 0<p.Mq then [(.unary,r)] else []
theorem YQ {w:World}{r a:Nat}{s:Bytes}(h:Ql w r s a)(p:OE)(hp:p.Nj)(hG:M7 w 0 (OZ .gamma) 260)(hU:M7 w 1 (OZ .unary) 260)(cW:¬0=r)(dB:¬1=r)(n q:Nat)(hn:n<=65536)(hq:q<=p.Mq)
  (mL:n=0->q=0) (rest:List Bool) (hb:(Ml s).drop a=Mp (Nl p n q)++rest):
  Mw Tryz.prog 106 [ptr r 0,lpV p] w λu w'=>u= .tuple #[.agg #[I (n:Int),I (q:Int)],I 0]/\Ql w' r s (a+(Mp (Nl p n q)).length)/\Kp (λk=>k=r) w w':=by
 obtain⟨g1,g2,g3,g4⟩:=id hp
 have lr0:=h.1.lt
 have mM:p.Mq=0->q=0:=λe=>by omega
 unfold Nl at hb⊢
 rw[MU,List.append_assoc] at hb
 refine It (e:=[(0,_),(1,_)]) Tryz.func106 O Tryz.ntmps106 O O$ qN O$ M5 O O (O2 O (cs:=WC p) O) ?_
 rintro _ w1 ⟨b3,rfl,ek,ad,ar⟩
 refine M5 O O (Oo (cs:=[_,_]) OG O) ?_
 rintro _ w2 ⟨b4,rfl,f9,af,aH⟩
 have z1:=ad.size
 have z2:=af.size
 have cV:=af.LY ar
 refine M4 O$ run_seq$ LU$ qN O$ LW O$ qV (N7 Qe O O)$ M4 O$ An O$ qN O$ qV (Mv (news:=WC p) Vv O QC O (cV.cells (n:=3) O) O)$ Mn z0e O (Qt p hp w2) ?_
 rintro _ w3 ⟨rfl,ai⟩
 refine N9 O O$ Me O ?_
 have db:=(ad.trans af).trans ai
 have h3:Ql w3 r s a:=⟨db.LY h.1,h.2⟩
 refine LX$ An O$ py$ LV$ qN O$ LW O$ Mn Uz O (QH h3) ?_
 rintro _ w4 ⟨rfl,rfl⟩
 refine Me O$ qM O$ LW O$ qV (Mv (news:=[.int .u8 1,Mh 0]) OV O ND O ((db.LY hG).cells (n:=2) O) O)$ Mn z7O O (W1 h3 .gamma n trivial (by simp only[Cd.most];omega) _ hb) ?_
 rintro _ w5 ⟨rfl,h5,ak⟩
 have fE:=OR hb
 have cB:=ak.LY (ai.LY cV) (by omega)
 have aM:=ak.LY (ai.LY aH) (by omega)
 have bT:Kp (λk=>k=r) w w5:=db.kp.trans ak
 replace cB:M7 w5 b3 [I (p.Mq:Int),I (p.interval:Int),I (p.zeta:Int)] 212:=cB
 refine LW O$ N5 O O$ N5 O O$ Me O$ Me O$ qM O$ M4 O$ run_seq$ qN O$ LW O$ O3 O O$ LW O ?_
 rcases Nat.eq_zero_or_pos n with e0|e0
 ·have s7:=mL e0;subst e0;subst s7;refine LW O$ Ng O O$ ML$ NC O O$ LW O$ qS$ qS$ qS$ MN O O$ LX$ Mz.qb (e:=[(0,_),(3,_),(4,_),(5,_),(6,_),(7,_),(8,_),(9,_),(37,_)]) ?_;refine An O$ py$ run_seq$ qN O$ LW O$ N9 O O$ Md O O$ Ng O O$ ML$ MN O O$ Md O O$ Ma PN O$ qV (M1 U3 O O cB O)$ qV ((by first|exact MQ O U3 Nv (by omega)|exact Ob O U3 Nv)) ?_;refine Ng O O$ ML$ MN O O$ LX$ An O$ py$ qN O$ LW O$ qV (MK O Nv U3 (by omega))$ LW O$ qV (MK O Nv U3 (by omega))$ qV (OO (cs:=[_,_]) OG O z6t O O)$ Mb O (MO (news:=[I ((0:Nat):Int),I (((0:Nat)):Int)]) OG O O O O aM (by simp)) ?_;rintro w9 ⟨bU,aO⟩;replace bU:M7 w9 b4 [I ((0:Nat):Int),I (((0:Nat)):Int)] 157:=bU;refine M4 O$ Mz.qb (e:=[(4,_),(5,_)]) ?_;refine Mt Tryz.func106 (.cell z0m O OG O (M7.cells (n:=2) bU (news:=[_,_]) O) O (.tmp O .nil)) ?_;rw[if_pos O,show(Mp [((.gamma,0):Cd×Nat)]).length=(Cd.enc .gamma 0).length by rw[MU,List.length_append];rfl];refine⟨_,rfl,rfl,⟨aO.LY h5.1 (by omega),h5.2⟩,bT.LS aO (λk e=> .inl (by omega))⟩
 ·rw[if_neg (by omega)] at fE⊢;rcases Nat.eq_zero_or_pos p.Mq with e1|e1
  ·have s7:=mM e1;subst s7;rw[if_neg (by omega)] at fE⊢;refine LW O$ Ng O O$ O4$ NC O O$ LW O$ Ma PN O$ qV (M1 U3 O O cB O)$ Ng O O$ ML$ NC O O$ LX$ Mz.qb (e:=[(0,_),(3,_),(4,_),(5,_),(6,_),(7,_),(8,_),(9,_),(37,_)]) ?_;refine An O$ py$ run_seq$ qN O$ LW O$ N9 O O$ Md O O$ Ng O O$ ML$ MN O O$ Md O O$ Ma PN O$ qV (M1 U3 O O cB O)$ qV ((by first|exact MQ O U3 Nv (by omega)|exact Ob O U3 Nv)) ?_;refine Ng O O$ ML$ MN O O$ LX$ An O$ py$ qN O$ LW O$ qV (MK O Nv U3 (by omega))$ LW O$ qV (MK O Nv U3 (by omega))$ qV (OO (cs:=[_,_]) OG O z6t O O)$ Mb O (MO (news:=[I (n:Int),I (((0:Nat)):Int)]) OG O O O O aM (by simp)) ?_;rintro w9 ⟨bU,aO⟩;replace bU:M7 w9 b4 [I (n:Int),I (((0:Nat)):Int)] 157:=bU;refine M4 O$ Mz.qb (e:=[(4,_),(5,_)]) ?_;refine Mt Tryz.func106 (.cell z0m O OG O (M7.cells (n:=2) bU (news:=[_,_]) O) O (.tmp O .nil)) ?_;rw[show(Mp [((.gamma,n):Cd×Nat)]).length=(Cd.enc .gamma n).length by rw[MU,List.length_append];rfl];refine⟨_,rfl,rfl,⟨aO.LY h5.1 (by omega),h5.2⟩,bT.LS aO (λk e=> .inl (by omega))⟩
  ·rw[if_pos e1] at fE⊢;rw[MU,List.append_assoc] at fE;refine LW O$ Ng O O$ O4$ NC O O$ LW O$ Ma PN O$ qV (M1 U3 O O cB O)$ Ng O O$ O4$ NC O O$ LX$ Mz.qb (e:=[(0,_),(3,_),(4,_),(5,_),(6,_),(7,_),(8,_),(9,_),(37,_)]) ?_;refine M9 O$ M0 O$ LW O$ qV (Mv (news:=[.int .u8 0,Mh 0]) OV O ND O ((bT.LY hU dB).cells (n:=2) O) O)$ Mn z7O O (W1 h5 .unary q trivial (by simp only[Cd.most];omega) _ fE) ?_;rintro _ w6 ⟨rfl,h6,aR⟩;have jI:=aR.LY cB (by omega);have bV:=aR.LY aM (by omega);have s8:=bT.trans aR;refine LW O$ N5 O O$ N5 O O$ Me O$ M4 O$ run_seq$ qN O$ LW O$ N9 O O$ Md O O$ Ng O O$ ML$ MN O O$ Md O O ?_;refine Ma PN O$ qV (M1 U3 O O jI O)$ qV ((by first|exact MQ O U3 Nv (by omega)|exact Ob O U3 Nv)) ?_;refine Ng O O$ ML$ MN O O$ LX$ Mz.qb (e:=[(0,_),(4,_),(5,_),(6,_),(7,_),(9,_),(56,_)]) ?_;refine An O$ py$ qN O$ LW O$ qV (MK O Nv U3 (by omega))$ LW O$ qV (MK O Nv U3 (by omega))$ qV (OO (cs:=[_,_]) OG O z6t O O)$ Mb O (MO (news:=[I (n:Int),I (q:Int)]) OG O O O O bV (by simp)) ?_;rintro w9 ⟨bU,aO⟩;replace bU:M7 w9 b4 [I (n:Int),I (q:Int)] 157:=bU;refine M4 O$ Mt Tryz.func106 (.cell z0m O OG O (M7.cells (n:=2) bU (news:=[_,_]) O) O (.tmp O .nil)) ?_;rw[show(Mp [((.gamma,n):Cd×Nat),(.unary,q)]).length=(Cd.enc .gamma n).length+(Cd.enc .unary q).length by rw[MU,MU,List.length_append,List.length_append];rfl,<-Nat.add_assoc];refine⟨_,rfl,rfl,⟨aO.LY h6.1 (by omega),h6.2⟩,s8.LS aO (λk e=> .inl (by omega))⟩
structure Nb where
 Mq:Nat
 chain:Nat
 interval:Nat
 zeta:Nat
 most:Nat
def Nb.list (p:Nb):OE:=⟨p.Mq,p.interval,p.zeta⟩
def Nb.Nj (p:Nb):Prop:=p.list.Nj/\p.chain<=16/\p.most<=65536
def RR (p:Nb):List Value:=[I (p.Mq:Int),I (p.chain:Int),I (p.interval:Int),I (p.zeta:Int),I (p.most:Int)]
abbrev bpV (p:Nb):Value:= .agg (RR p).toArray
theorem PA (p:Nb)(w:World):Mw Tryz.prog 107 [bpV p] w λu w'=>u=lpV p.list/\Ext w w':=by
 refine It (e:=[(0,_)]) Tryz.func107 O Tryz.ntmps107 O O$ qN O$ M5 O O (O2 O (cs:=RR p) O) ?_
 rintro _ w1 ⟨b1,rfl,bR,ad,aj⟩
 refine M5 O O (Oo (cs:=[_,_,_]) QC O) ?_
 rintro _ w2 ⟨b2,rfl,bY,af,am⟩
 have bB:=af.LY aj
 replace bB:M7 w2 b1 [I (p.Mq:Int),I (p.chain:Int),I (p.interval:Int),I (p.zeta:Int),I (p.most:Int)] 88:=bB
 refine qM O$ Ma XG O$ qV (M1 U3 O O bB O)$ Ma z6P O$ qV (M1 U3 O O bB O)$ Ma z7u O$ qV (M1 U3 O O bB O)$ qV (OO (cs:=[_,_,_]) QC O zdG O O)$ Mb O (MO (news:=[I (p.Mq:Int),I (p.interval:Int),I (p.zeta:Int)]) QC O O O O am (by simp)) ?_
 rintro w3 ⟨cT,au⟩
 replace cT:M7 w3 b2 [I (p.Mq:Int),I (p.interval:Int),I (p.zeta:Int)] 212:=cT
 refine LX$ Mt Tryz.func107 (.cell Vv O QC O (M7.cells (n:=3) cT (news:=[_,_,_]) O) O .nil) ?_
 have z1:=ad.size
 exact⟨_,rfl,rfl,(ad.trans af).LS au (λk e=>by omega)⟩
theorem Wu (p:Nb)(hp:p.Nj)(w:World):Mw Tryz.prog 156 [bpV p] w λu w'=>u=I 0/\Ext w w':=by
 obtain⟨g1,g2,g3⟩:=hp
 refine It (e:=[(0,_)]) Tryz.func156 O Tryz.ntmps156 O O$ qN O$ M5 O O (O2 O (cs:=RR p) O) ?_
 rintro _ w1 ⟨b1,rfl,bR,ad,aj⟩
 have fK:M7 w1 b1 [I (p.Mq:Int),I (p.chain:Int),I (p.interval:Int),I (p.zeta:Int),I (p.most:Int)] 88:=aj
 refine M4 O$ run_seq$ qN O$ Ma VH O$ qV (M1 U3 O O fK O)$ Ni O O$ ML$ LW O$ Ma VH O$ qV (M1 U3 O O fK O)$ Ng O O$ ML$ MN O O$ LW O ?_
 refine Ma Qb O$ qV (M1 U3 O O fK O)$ Ni O O$ ML$ MN O O$ LW O$ Ma Qb O$ qV (M1 U3 O O fK O)$ Ng O O$ ML$ MN O O$ LX$ An O$ py ?_
 refine qN O$ qV (Mv Y4 O Oi O (M7.cells (n:=5) fK (news:=[_,_,_,_,_]) O) O)$ Mn Y0 O (PA p w1) ?_
 rintro _ w2 ⟨rfl,af⟩
 refine Mn z0e O (Qt p.list g1 w2) ?_
 rintro _ w3 ⟨rfl,ai⟩
 refine M4 O$ LZ Tryz.func156 O ?_
 exact⟨_,rfl,rfl,(ad.trans af).trans ai⟩
structure Ph (w:World)(g n cap:Nat)(d:Array Nat):Prop where
 sl:Sl w (.slice (some ⟨g,0,none⟩) n cap) 46 1 n (d.toList.map Mx)
 size:d.size=n
abbrev Nw (x y:Nat):Bool:=decide (x<y)
theorem UW:Go.Sort.SWO Nw:=⟨λx=>by simp[Nw],λx y z h1 h2=>by simp[Nw] at*;omega,λx y z h1 h2=>by simp[Nw] at*;omega⟩
section
variable {w w':World}{g n cap:Nat}{d:Array Nat}{S:Nat->Prop}
theorem Ph.ext (h:Ph w g n cap d)(k:Ext w w'):Ph w' g n cap d:=⟨h.sl.ext k,h.size⟩
theorem Ph.kp (h:Ph w g n cap d)(k:Kp S w w')(hg:¬S g):Ph w' g n cap d:=⟨h.sl.kp k (λg' e=>by cases e;exact hg),h.size⟩
theorem Ph.get {i:Nat}(h:Ph w g n cap d)(hi:i<n):w.cell? ⟨g,0+i*1,none⟩=some (Mx d[i]!):=by
 have hs:=h.size
 refine Na h.sl.rd ?_
 rw[List.getElem?_map,Array.getElem?_toList,Array.getElem?_eq_getElem (by omega)]
 rw[getElem!_pos d i (by omega)]
 rfl
theorem Ph.WH {j:Nat}(h:Ph w g n cap d)(hj:j<n):j<(d.toList.map Mx).length:=by
 have hs:=h.size
 rw[List.length_map,Array.length_toList];omega
theorem Ph.set {i y:Nat}(h:Ph w g n cap d)(hS:Sl w' (.slice (some ⟨g,0,none⟩) n cap) 46 1 n ((d.toList.map Mx).set (0+i*1) (Mx y))):Ph w' g n cap (d.setIfInBounds i y):=by
 refine⟨?_,by rw[Array.size_setIfInBounds,h.size]⟩
 rw[Array.toList_setIfInBounds,List.map_set]
 rw[show 0+i*1=i by omega] at hS
 exact hS
end
theorem z6d (x:Nat)(w:World):Mw Tryz.prog 256 [Mx x] w λu w'=>u= .bool false/\w'=w:=by
 refine It (e:=[(0,_)]) Tryz.func256 O Tryz.ntmps256 O O$ qN O$ Me O$ qM O$ Md O O$ N9 O O$ M4 O$ LZ Tryz.func256 O ?_
 exact⟨_,rfl,by simp[resVal],rfl⟩
theorem OH (x y:Nat)(w:World):Mw Tryz.prog 247 [Mx x,Mx y] w λu w'=>u= .bool (Nw x y)/\w'=w:=by
 refine It (e:=[(0,_),(1,_)]) Tryz.func247 O Tryz.ntmps247 O O$ qN O$ Me O$ qM O$ LW O$ Mn zbU O (z6d x w) ?_
 rintro _ w ⟨rfl,rfl⟩
 refine LW O$ qS$ qS$ qS$ MN O O$ Md O O$ LW O$ Ni O O$ MN O O$ M4 O$ LZ Tryz.func247 O ?_
 exact⟨_,rfl,by simp[Nw,resVal],rfl⟩
section
variable (a b j i:Nat)(d:Array Nat)
theorem z1B (hj:a<j)(hl:Nw d[j]! d[j-1]! =true):Go.Sort.insInner Nw a j d=Go.Sort.insInner Nw a (j-1) (Go.Sort.swp d j (j-1)):=by
 obtain⟨k,rfl⟩:∃k,j=k+1:=⟨j-1,by omega⟩
 rw[Go.Sort.insInner]
 simp only[Nat.add_sub_cancel] at hl⊢
 rw[if_pos]
 rw[Bool.and_eq_true];exact⟨by simpa using hj,hl⟩
theorem TP (h:j<=a\/Nw d[j]! d[j-1]! =false):Go.Sort.insInner Nw a j d=d:=by
 cases j with
 |zero=>rw[Go.Sort.insInner]
 | succ k =>
   rw[Go.Sort.insInner];simp only[Nat.add_sub_cancel] at h;rw[if_neg];intro hc;rw[Bool.and_eq_true] at hc;rcases h with h| h
   ·have:=of_decide_eq_true hc.1;omega
   ·rw[h] at hc;cases hc.2
theorem z1I (h:i<b):Go.Sort.insOuter Nw a b i d=Go.Sort.insOuter Nw a b (i+1) (Go.Sort.insInner Nw a i d):=by rw[Go.Sort.insOuter,if_pos h]
theorem Yv (h:¬i<b):Go.Sort.insOuter Nw a b i d=d:=by rw[Go.Sort.insOuter,if_neg h]
end
theorem Yo {w:World}{g n cap:Nat}{d:Array Nat}(h:Ph w g n cap d)(a b:Nat)(ji:a<=b)(hb:b<=n)(hn:n<=65536):
  Mw Tryz.prog 241 [.slice (some ⟨g,0,none⟩) n cap,I (a:Int),I (b:Int)] w λu w'=>u= .tuple #[]/\Ph w' g n cap (Go.Sort.insertionSort Nw d a b)/\Kp (λk=>k=g) w w':=by
 refine It (e:=[(0,_),(1,_),(2,_)]) Tryz.func241 O Tryz.ntmps241 O O$ qN O$ LW O$ MT O O$ M4 O$ LU$ Oh (α:=Nat×Array Nat) ((a+1,d)) (λy=>[(0,.slice (some ⟨g,0,none⟩) n cap),(1,I (a:Int)),(2,I (b:Int)),(6,I (y.1:Int))]) (λy w'=>Ph w' g n cap y.2/\Kp (λk=>k=g) w w'/\Go.Sort.insOuter Nw a b y.1 y.2=Go.Sort.insertionSort Nw d a b/\a<y.1) (λy=>b-y.1) ?hI ?hround
 case hI=>exact⟨h,Kp.refl _ _,rfl,Nat.lt_succ_self a⟩
 case hround=>
  rintro⟨i,d4⟩ w4 ⟨dZ,av,cz,lC⟩ ih;dsimp only at dZ av cz lC
  try dsimp only
  refine run_seq$ qN O$ Md O O$ Ni O O$ LX$ M8 O (λh0=>?_)$ λh0=>?_
  ·rw[z1I _ _ _ _ (by omega)] at cz;refine py$ run_seq$ LU$ qN O$ LW O$ M4 O$ LU$ Oh (α:=Nat×Array Nat) ((i,d4)) (λy=>[(0,.slice (some ⟨g,0,none⟩) n cap),(1,I (a:Int)),(2,I (b:Int)),(6,I (i:Int)),(7,I (y.1:Int))]) (λy w'=>Ph w' g n cap y.2/\Kp (λk=>k=g) w w'/\Go.Sort.insInner Nw a y.1 y.2=Go.Sort.insInner Nw a i d4/\y.1<=i/\a<=y.1) (λy=>y.1) ?hI ?hround
   case hI=>exact⟨dZ,av,rfl,Nat.le_refl _,by dsimp only;omega⟩
   case hround=>
    rintro⟨j,d5⟩ w5 ⟨aT,ak,cb,Ha,B3⟩ ih2;dsimp only at aT ak cb Ha B3
    try dsimp only
    have hg:=Ext.Mm w5;rcases Nat.lt_or_ge a j with hj|hj
    ·refine run_seq$ run_seq$ NV (λw'=>Ext w5 w') O$ Mj 0 O O (hg)$ Mj 1 O O (hg)$ M3 2 O (UL O O) hg$ QB$ Mj 3 O O (hg)$ Mj 4 O O (hg)$ Mj 5 O O (hg)$ M3 6 O (MS Mr Mi O O (by omega)) hg$ Mj 8 O O (hg)$ Mj 9 O O (hg)$ M3 10 O (TO O O (by omega)) hg ?_;rw[show(j:Int)-1=((j-1:Nat):Int) by omega];refine qT 7 O (λ_ h=>MA Np O O ((aT.ext h).get (i:=j) (by omega))) hg$ M3 11 O (MS Mr Mi O O (by omega)) hg$ qT 12 O (λ_ h=>MA Np O O ((aT.ext h).get (i:=j-1) (by omega))) hg$ Pm 13 O St O (OH _ _ _) ?_;rintro _ w6 ⟨rfl,rfl⟩;refine⟨hg,?_⟩;refine M3 14 O (RM O O) hg$ qE ?_;have oW:=aT.ext hg;refine MZ O (λh1=>?_)$ λh1=>?_
     ·refine py$ run_seq$ LU ?_;have aB:=Ext.Mm w5.drew;refine Mo [15,17] (λw'=>Ext w5.drew w') (by kernel_rfl) O$ qL [14,15,16,17] 0 O (λ_ h=>MH O) aB$ qL [14,15,16,17] 1 O (λ_ h=>MH O) aB$ MY (i:=2) O (by kernel_rfl) O O (λ_=>MH O) (aB)$ MY (i:=3) O (by kernel_rfl) O O (λ_=>MH O) (aB)$ MY (i:=4) O (by kernel_rfl) O O (λ_=>TO O O (by omega)) (aB)$ qL [8,9,14,15,16,17] 5 O (λ_ h=>MH O) aB$ qL [7,8,9,14,15,16,17] 6 O (λ_ h=>MH O) aB$ qL [8,9,14,15,16,17] 7 O (λ_ h=>TO O O (by omega)) aB$ qL [12,13,14,15,16,17] 10 O (λ_ h=>MH O) aB$ qL [12,13,14,15,16,17] 11 O (λ_ h=>MH O) aB$ qL [13,14,15,16,17] 12 O (λ_ h=>MS Mr Mi O O (by omega)) aB ?_;rw[show(j:Int)-1=((j-1:Nat):Int) by omega];refine qL [9,14,15,16,17] 8 O (λ_ h=>MS Mr Mi O O (by omega)) aB$ qL [14,15,16,17] 9 O (λ_ h=>MA Np O O ((oW.ext h).get (i:=j-1) (by omega))) aB$ qL [14,15,16,17] 13 O (λ_ h=>MA Np O O ((oW.ext h).get (i:=j) (by omega))) aB$ qL [15,16,17] 14 O (λ_ h=>MS Mr Mi O O (by omega)) aB$ PH [15]$ qO 15$ MI (i:=15) O O (Ox Mi O O O (oW.ext aB).sl ((oW.ext aB).WH (by omega))) ?_;rintro w7a ⟨fL,fM⟩;refine⟨trivial,?_⟩;have cK:=(oW.ext aB).set fL;refine M3 16 O (MS Mr Mi O O (by omega)) trivial$ qO 17$ MI (i:=17) O O (Ox Mi O O O cK.sl (cK.WH (by omega))) ?_;rintro w7 ⟨ie,jJ⟩;refine⟨trivial,?_⟩;have jK:=cK.set ie;have fN:Kp (λk=>k=g) w5.drew w7:=aB.kp.trans (fM.trans jJ);refine qE$ LV$ M0 O$ LW O$ Oa O O$ M4 O ?_;rw[show(j:Int)-1=((j-1:Nat):Int) by omega];refine(ih2 (j-1,Go.Sort.swp d5 j (j-1)) _ ⟨jK,(ak.trans hg.kp).trans fN,?_,by dsimp only;omega,by dsimp only;omega⟩ (by dsimp only;omega)).qb;dsimp only;rw[<-cb,z1B a j d5 hj h1]
     ·refine M6 O$ LV$ M0 O$ LW O$ MT O O$ M4 O ?_;rw[TP a j d5 (.inr (by simpa using h1))] at cb;refine(ih (i+1,d5) _ ⟨oW,ak.trans hg.kp,?_,by dsimp only;omega⟩ (by dsimp only;omega)).qb;dsimp only;rw[cb];exact cz
    ·refine run_seq$ run_seq$ NV (λw'=>Ext w5 w') O$ Mj 0 O O (hg)$ Mj 1 O O (hg)$ M3 2 O (UL O O) hg$ QT$ Mj 3 O O (hg)$ qJ 4 O (hg)$ qJ 5 O (hg)$ qJ 6 O (hg)$ qJ 7 O (hg)$ qJ 8 O (hg)$ qJ 9 O (hg) ?_;refine qJ 10 O (hg)$ qJ 11 O (hg)$ qJ 12 O (hg)$ qJ 13 O (hg)$ M3 14 O (Ro O O) hg$ qE$ An O$ M6 O$ LV$ M0 O$ LW O$ MT O O$ M4 O ?_;rw[TP a j d5 (.inl hj)] at cb;refine(ih (i+1,d5) _ ⟨aT.ext hg,ak.trans hg.kp,?_,by dsimp only;omega⟩ (by dsimp only;omega)).qb;dsimp only;rw[cb];exact cz
  ·rw[Yv _ _ _ _ (by omega)] at cz;refine M6 O$ Nq Tryz.func241 O ?_;exact⟨_,rfl,rfl,cz▸dZ,av⟩
section
variable (hi first root:Nat)(d:Array Nat)
def VD:Nat:=if 2*root+1+1<hi&&Nw d[first+(2*root+1)]! d[first+(2*root+1)+1]! then 2*root+2 else 2*root+1
theorem z5h (h:hi<=2*root+1):Go.Sort.siftDown Nw hi first root d=d:=by rw[Go.Sort.siftDown,dif_pos h]
theorem z9t (h:2*root+1<hi):Go.Sort.siftDown Nw hi first root d=if Nw d[first+root]! d[first+VD hi first root d]! then Go.Sort.siftDown Nw hi first (VD hi first root d) (Go.Sort.swp d (first+root) (first+VD hi first root d)) else d:=by
 rw[Go.Sort.siftDown,dif_neg (by omega)]
 unfold VD
 by_cases h1:(decide (2*root+1+1<hi)&&Nw d[first+(2*root+1)]! d[first+(2*root+1)+1]!)=true
 ·rw[if_pos h1,if_pos h1];rw[Bool.and_eq_true] at h1;have h2:2*root+2<hi:=of_decide_eq_true h1.1;rw[dif_pos h2];cases Nw d[first+root]! d[first+(2*root+2)]!<;>rfl
 ·rw[if_neg h1,if_neg h1];cases Nw d[first+root]! d[first+(2*root+1)]!<;>rfl
theorem z9D (h:2*root+1<hi):root<VD hi first root d/\VD hi first root d<hi:=by
 unfold VD
 split
 ·rename_i h1
  rw[Bool.and_eq_true] at h1;have h2:2*root+2<hi:=of_decide_eq_true h1.1;omega
 ·omega
end
theorem z0f {w:World}{g n cap:Nat}{d:Array Nat}(h:Ph w g n cap d)(lo hi first:Nat)(hf:first+hi<=n)(i8:lo<=65536)(hn:n<=65536):
  Mw Tryz.prog 251 [.slice (some ⟨g,0,none⟩) n cap,I (lo:Int),I (hi:Int),I (first:Int)] w λu w'=>u= .tuple #[]/\Ph w' g n cap (Go.Sort.siftDown Nw hi first lo d)/\Kp (λk=>k=g) w w':=by
 refine It (e:=[(0,_),(1,_),(2,_),(3,_)]) Tryz.func251 O Tryz.ntmps251 O O$ qN O$ LW O$ M4 O$ LU$ Oh (α:=Nat×Array Nat) ((lo,d)) (λy=>[(0,.slice (some ⟨g,0,none⟩) n cap),(2,I (hi:Int)),(3,I (first:Int)),(8,I (y.1:Int))]) (λy w'=>Ph w' g n cap y.2/\Kp (λk=>k=g) w w'/\Go.Sort.siftDown Nw hi first y.1 y.2=Go.Sort.siftDown Nw hi first lo d/\y.1<=65536) (λy=>hi-y.1) ?hI ?hround
 case hI=>exact⟨h,Kp.refl _ _,rfl,i8⟩
 case hround=>
  rintro⟨root,d4⟩ w4 ⟨dZ,av,cz,bH⟩ ih;dsimp only at dZ av cz bH
  try dsimp only
  refine LU$ qN O$ LW O$ qV (SB O O (by omega))$ MT O O$ M4 O$ run_seq$ qN O ?_;rw[show 2*(root:Int)+1=((2*root+1:Nat):Int) by omega];refine Md O O$ PD O O$ LX$ M8 O (λh0=>?_)$ λh0=>?_
  ·rw[z5h _ _ _ _ (by omega)] at cz;refine M6 O$ Nq Tryz.func251 O ?_;exact⟨_,rfl,rfl,cz▸dZ,av⟩
  ·have hc:=z9D hi first root d4 (by omega);rw[z9t _ _ _ _ (by omega)] at cz;have hg:=Ext.Mm w4;have sd:=dZ.ext hg;refine py$ run_seq$ run_seq ?_
   generalize oX:(decide (2*root+1+1<hi)&&Nw d4[first+(2*root+1)]! d4[first+(2*root+1)+1]!)=sel
   refine MM (λe' w'=>e'=[(0,.slice (some ⟨g,0,none⟩) n cap),(2,I (hi:Int)),(3,I (first:Int)),(8,I (root:Int)),(9,I ((2*root+1:Nat):Int)),(36,.bool sel)]/\w'=w4.drew) ?dO$ λdO=>?eS
   case dO=>
    rintro e' w5 ⟨rfl,rfl⟩;refine MM (λe' w'=>e'=[(0,.slice (some ⟨g,0,none⟩) n cap),(2,I (hi:Int)),(3,I (first:Int)),(8,I (root:Int)),(9,I (VD hi first root d4:Int))]/\w'=w4.drew) ?ax$ λax=>?dx
    case ax=>
     rintro e' w5 ⟨rfl,rfl⟩
     generalize VD hi first root d4=c at hc cz
     have ee:=Ext.Mm w4.drew;have lD:=sd.ext ee;refine run_seq$ run_seq$ NV (λw'=>Ext w4.drew w') O$ Mj 0 O O (ee)$ Mj 1 O O (ee)$ Mj 2 O O (ee)$ M3 3 O (R4 O O (by omega)) ee$ M3 4 O (MS Mr Mi O O (by omega)) ee$ Mj 6 O O (ee)$ Mj 7 O O (ee)$ Mj 8 O O (ee)$ M3 9 O (R4 O O (by omega)) ee$ M3 10 O (MS Mr Mi O O (by omega)) ee$ qT 5 O (λ_ h=>MA Np O O ((sd.ext h).get (i:=first+root) (by omega))) ee ?_;refine qT 11 O (λ_ h=>MA Np O O ((sd.ext h).get (i:=first+c) (by omega))) ee$ Pm 12 O St O (OH _ _ _) ?_;rintro _ w6 ⟨rfl,rfl⟩;refine⟨ee,?_⟩;refine M3 13 O ((by first|exact MX O|exact Oy O)) ee ?_;refine qE$ MZ O (λh1=>?_)$ λh1=>?_
     ·rw[if_neg (by simpa using h1)] at cz;refine LZ Tryz.func251 O ?_;exact⟨_,rfl,rfl,cz▸lD,av.trans (hg.trans ee).kp⟩
     ·rw[if_pos (by simpa using h1)] at cz;refine py$ run_seq ?_;have aB:=Ext.Mm w4.drew.drew;refine Mo [21,23] (λw'=>Ext w4.drew.drew w') (by kernel_rfl) O$ qL [20,21,22,23] 0 O (λ_ h=>MH O) aB$ qL [3,20,21,22,23] 1 O (λ_ h=>MH O) aB$ qL [3,20,21,22,23] 2 O (λ_ h=>MH O) aB$ qL [20,21,22,23] 3 O (λ_ h=>R4 O O (by omega)) aB$ MY (i:=4) O (by kernel_rfl) O O (λ_=>MH O) (aB)$ MY (i:=5) O (by kernel_rfl) O O (λ_=>MH O) (aB)$ MY (i:=6) O (by kernel_rfl) O O (λ_=>MH O) (aB)$ MY (i:=7) O (by kernel_rfl) O O (λ_=>R4 O O (by omega)) (aB)$ qL [12,13,20,21,22,23] 8 O (λ_ h=>MH O) aB$ qL [11,12,13,20,21,22,23] 9 O (λ_ h=>MH O) aB$ qL [11,12,13,20,21,22,23] 10 O (λ_ h=>MH O) aB$ qL [12,13,20,21,22,23] 11 O (λ_ h=>R4 O O (by omega)) aB$ qL [13,20,21,22,23] 12 O (λ_ h=>MS Mr Mi O O (by omega)) aB ?_;refine qL [18,19,20,21,22,23] 14 O (λ_ h=>MH O) aB$ qL [17,18,19,20,21,22,23] 15 O (λ_ h=>MH O) aB$ qL [17,18,19,20,21,22,23] 16 O (λ_ h=>MH O) aB$ qL [18,19,20,21,22,23] 17 O (λ_ h=>R4 O O (by omega)) aB$ qL [19,20,21,22,23] 18 O (λ_ h=>MS Mr Mi O O (by omega)) aB$ qL [20,21,22,23] 13 O (λ_ h=>MA Np O O ((lD.ext h).get (i:=first+c) (by omega))) aB$ qL [20,21,22,23] 19 O (λ_ h=>MA Np O O ((lD.ext h).get (i:=first+root) (by omega))) aB$ qL [21,22,23] 20 O (λ_ h=>MS Mr Mi O O (by omega)) aB$ PH [21]$ qO 21$ MI (i:=21) O O (Ox Mi O O O (lD.ext aB).sl ((lD.ext aB).WH (by omega))) ?_;rintro w7a ⟨fL,fM⟩;refine⟨trivial,?_⟩;have cK:=(lD.ext aB).set fL;refine M3 22 O (MS Mr Mi O O (by omega)) trivial$ qO 23$ MI (i:=23) O O (Ox Mi O O O cK.sl (cK.WH (by omega))) ?_;rintro w7 ⟨ie,jJ⟩;refine⟨trivial,?_⟩;have jK:=cK.set ie;have fN:Kp (λk=>k=g) w4.drew.drew w7:=aB.kp.trans (fM.trans jJ);refine qE$ M0 O$ LW O$ M4 O$ LV ((ih (c,Go.Sort.swp d4 (first+root) (first+c)) _ ⟨jK,(av.trans (hg.trans ee).kp).trans fN,cz,by dsimp only;omega⟩ (by dsimp only;omega)).qb)
    case dx=>
     refine MZ O (λh1=>?_)$ λh1=>?_
     ·refine M0 O$ LW O$ MT O O$ M4 O ?_;rw[show((2*root+1:Nat):Int)+1=(VD hi first root d4:Int) by unfold VD;rw[oX,if_pos h1];omega];exact(ax _ _ ⟨rfl,rfl⟩).qb
     ·refine py ?_;rw[show((2*root+1:Nat):Int)=(VD hi first root d4:Int) by unfold VD;rw[oX,if_neg (by rw[h1];decide)]];exact(ax _ _ ⟨rfl,rfl⟩).qb
   case eS=>
    rcases Nat.lt_or_ge (2*root+1+1) hi with hj|hj
    ·refine NV (λw'=>Ext w4 w') O$ Mj 0 O O (hg)$ M3 1 O (R4 O O (by omega)) hg$ Mj 2 O O (hg)$ M3 3 O (Xc O O) hg$ QB$ Mj 4 O O (hg)$ Mj 5 O O (hg)$ Mj 6 O O (hg)$ Mj 7 O O (hg)$ M3 8 O (R4 O O (by omega)) hg$ M3 9 O (MS Mr Mi O O (by omega)) hg$ Mj 11 O O (hg)$ Mj 12 O O (hg) ?_;refine Mj 13 O O (hg)$ M3 14 O (R4 O O (by omega)) hg$ M3 15 O (R4 O O (by omega)) hg$ M3 16 O (MS Mr Mi O O (by omega)) hg$ qT 10 O (λ_ hS=>MA Np O O ((dZ.ext hS).get (i:=first+(2*root+1)) (by omega))) hg$ qT 17 O (λ_ hS=>MA Np O O ((dZ.ext hS).get (i:=first+(2*root+1)+1) (by omega))) hg$ Pm 18 O St O (OH _ _ _) ?_;rintro _ w6 ⟨rfl,rfl⟩;refine⟨hg,?_⟩;refine M3 19 O (RM O O) hg$ qE ?_;rw[show Nw d4[first+(2*root+1)]! d4[first+(2*root+1)+1]! =sel by rw[<-oX,decide_eq_true hj,Bool.true_and]];exact(dO _ _ ⟨rfl,rfl⟩).qb
    ·refine NV (λw'=>Ext w4 w') O$ Mj 0 O O (hg)$ M3 1 O (R4 O O (by omega)) hg$ Mj 2 O O (hg)$ M3 3 O (Xc O O) hg$ QT$ Mj 4 O O (hg)$ qJ 5 O (hg)$ qJ 6 O (hg)$ qJ 7 O (hg)$ qJ 8 O (hg)$ qJ 9 O (hg)$ qJ 10 O (hg)$ qJ 11 O (hg) ?_;refine qJ 12 O (hg)$ qJ 13 O (hg)$ qJ 14 O (hg)$ qJ 15 O (hg)$ qJ 16 O (hg)$ qJ 17 O (hg)$ qJ 18 O (hg)$ M3 19 O (Ro O O) hg$ qE ?_;have mN:sel=false:=by rw[<-oX,decide_eq_false (by omega),Bool.false_and]
     subst mN;exact(dO _ _ ⟨rfl,rfl⟩).qb
theorem z7K {w:World}{g n cap:Nat}{d:Array Nat}(h:Ph w g n cap d)(a b:Nat)(ji:a<b)(hb:b<=n)(hn:n<=65536):
  Mw Tryz.prog 242 [.slice (some ⟨g,0,none⟩) n cap,I (a:Int),I (b:Int)] w λu w'=>u= .tuple #[]/\Ph w' g n cap (Go.Sort.heapSort Nw d a b)/\Kp (λk=>k=g) w w':=by
 refine It (e:=[(0,_),(1,_),(2,_)]) Tryz.func242 O Tryz.ntmps242 O O$ qN O$ LW O$ Me O$ qM O$ Me O$ qM O$ Md O O$ Oa O O$ M4 O$ run_seq$ qN O ?_
 rw[show(b:Int)-(a:Int)=((b-a:Nat):Int) by omega]
 refine LW O$ Oa O O ?_
 rw[show((b-a:Nat):Int)-1=((b-a-1:Nat):Int) by omega]
 refine qV (Te O O (by omega))$ M4 O$ LU ?_
 rw[show((b-a-1:Nat):Int) / 2=(((b-a-1) / 2+1:Nat):Int)-1 by omega]
 have mL:Go.Sort.heapSort Nw d a b=Go.Sort.heapPop Nw a (b-a) (Go.Sort.heapBuild Nw (b-a) a ((b-a-1) / 2+1) d):=rfl
 rw[mL]
 refine Oh (α:=Nat×Array Nat) (((b-a-1) / 2+1,d)) (λy=>[(0,.slice (some ⟨g,0,none⟩) n cap),(6,I (a:Int)),(7,I 0),(8,I ((b-a:Nat):Int)),(9,I ((y.1:Int)-1))]) (λy w'=>Ph w' g n cap y.2/\Kp (λk=>k=g) w w'/\Go.Sort.heapBuild Nw (b-a) a y.1 y.2=Go.Sort.heapBuild Nw (b-a) a ((b-a-1) / 2+1) d/\y.1<=(b-a-1) / 2+1) (λy=>y.1) ?hI ?hround
 case hI=>exact⟨h,Kp.refl _ _,rfl,Nat.le_refl _⟩
 case hround=>
  rintro⟨k,d4⟩ w4 ⟨dZ,av,cz,bH⟩ ih;dsimp only at dZ av cz bH
  try dsimp only
  refine run_seq$ qN O$ LW O$ PD O O$ LX$ M8 O (λh0=>?_)$ λh0=>?_
  ·obtain⟨k,rfl⟩:∃k',k=k'+1:=⟨k-1,by omega⟩;rw[show((k+1:Nat):Int)-1=(k:Int) by omega];refine py$ run_seq$ LU$ M0 O$ Md O O$ Md O O$ Mn z9Z O (z0f dZ k (b-a) a (by omega) (by omega) hn) ?_;rintro _ w5 ⟨rfl,aT,ak⟩;refine LX$ LV$ M0 O$ LW O$ Oa O O$ M4 O ?_;exact(ih (k,Go.Sort.siftDown Nw (b-a) a k d4) _ ⟨aT,av.trans ak,cz,by dsimp only;omega⟩ (by dsimp only;omega)).qb
  ·have gU:k=0:=by omega
   subst gU;rw[<-cz];refine M6 O$ qN O$ LW O$ Oa O O$ M4 O$ LU$ Oh (α:=Nat×Array Nat) ((b-a,d4)) (λy=>[(0,.slice (some ⟨g,0,none⟩) n cap),(6,I (a:Int)),(7,I 0),(10,I ((y.1:Int)-1))]) (λy w'=>Ph w' g n cap y.2/\Kp (λk=>k=g) w w'/\Go.Sort.heapPop Nw a y.1 y.2=Go.Sort.heapPop Nw a (b-a) (Go.Sort.heapBuild Nw (b-a) a 0 d4)/\y.1<=b-a) (λy=>y.1) ?hI ?hround
   case hI=>exact⟨dZ,av,rfl,Nat.le_refl _⟩
   case hround=>
    rintro⟨k,d5⟩ w5 ⟨aT,ak,cb,cg⟩ ih2;dsimp only at aT ak cb cg
    try dsimp only
    refine run_seq$ qN O$ LW O$ PD O O$ LX$ M8 O (λh1=>?_)$ λh1=>?_
    ·obtain⟨k,rfl⟩:∃k',k=k'+1:=⟨k-1,by omega⟩;rw[show((k+1:Nat):Int)-1=(k:Int) by omega];refine py$ run_seq$ LU$ run_seq ?_;have aB:=Ext.Mm w5;refine Mo [17,19] (λw'=>Ext w5 w') (by kernel_rfl) O$ qL [16,17,18,19] 0 O (λ_ h=>MH O) aB$ qL [16,17,18,19] 1 O (λ_ h=>MH O) aB$ MY (i:=2) O (by kernel_rfl) O O (λ_=>MH O) (aB)$ MY (i:=3) O (by kernel_rfl) O O (λ_=>MH O) (aB)$ MY (i:=4) O (by kernel_rfl) O O (λ_=>MH O) (aB)$ MY (i:=5) O (by kernel_rfl) O O (λ_=>R4 O O (by omega)) (aB)$ qL [10,11,16,17,18,19] 6 O (λ_ h=>MH O) aB$ qL [9,10,11,16,17,18,19] 7 O (λ_ h=>MH O) aB$ qL [9,10,11,16,17,18,19] 8 O (λ_ h=>MH O) aB$ qL [10,11,16,17,18,19] 9 O (λ_ h=>R4 O O (by omega)) aB$ qL [11,16,17,18,19] 10 O (λ_ h=>MS Mr Mi O O (by omega)) aB$ qL [14,15,16,17,18,19] 12 O (λ_ h=>MH O) aB$ qL [14,15,16,17,18,19] 13 O (λ_ h=>MH O) aB ?_;refine qL [15,16,17,18,19] 14 O (λ_ h=>MS Mr Mi O O (by omega)) aB$ qL [16,17,18,19] 11 O (λ_ h=>MA Np O O ((aT.ext h).get (i:=a+k) (by omega))) aB$ qL [16,17,18,19] 15 O (λ_ h=>MA Np O O ((aT.ext h).get (i:=a) (by omega))) aB$ qL [17,18,19] 16 O (λ_ h=>MS Mr Mi O O (by omega)) aB$ PH [17]$ qO 17$ MI (i:=17) O O (Ox Mi O O O (aT.ext aB).sl ((aT.ext aB).WH (by omega))) ?_;rintro w7a ⟨fL,fM⟩;refine⟨trivial,?_⟩;have cK:=(aT.ext aB).set fL;refine M3 18 O (MS Mr Mi O O (by omega)) trivial$ qO 19$ MI (i:=19) O O (Ox Mi O O O cK.sl (cK.WH (by omega))) ?_;rintro w7 ⟨ie,jJ⟩;refine⟨trivial,?_⟩;have jK:=cK.set ie;have fN:Kp (λk=>k=g) w5 w7:=aB.kp.trans (fM.trans jJ);refine qE$ M0 O$ Md O O$ Md O O$ Mn z9Z O (z0f jK 0 k a (by omega) (by omega) hn) ?_;rintro _ w8 ⟨rfl,Hb,bz⟩;refine LX$ LV$ M0 O$ LW O$ Oa O O$ M4 O ?_;exact(ih2 (k,Go.Sort.siftDown Nw k a 0 (Go.Sort.swp d5 a (a+k))) _ ⟨Hb,(ak.trans fN).trans bz,cb,by dsimp only;omega⟩ (by dsimp only;omega)).qb
    ·have gU:k=0:=by omega
     subst gU;rw[<-cb];refine M6 O$ Nq Tryz.func242 O ?_;exact⟨_,rfl,rfl,aT,ak⟩
theorem z1r {w:World}{g n cap:Nat}{d:Array Nat}(h:Ph w g n cap d)(a b:Nat)(ji:a<b)(hb:b<=n)(hn:n<=65536):
  Mw Tryz.prog 245 [.slice (some ⟨g,0,none⟩) n cap,I (a:Int),I (b:Int)] w λu w'=>u= .tuple #[]/\Ph w' g n cap (Go.Sort.reverseRange d a b)/\Kp (λk=>k=g) w w':=by
 refine It (e:=[(0,_),(1,_),(2,_)]) Tryz.func245 O Tryz.ntmps245 O O$ qN O$ LW O$ Me O$ qM O$ LW O$ Oa O O$ M4 O$ LU ?_
 rw[show(b:Int)-1=((b-1:Nat):Int) by omega]
 refine Oh (α:=Nat×Nat×Array Nat) ((a,b-1,d)) (λy=>[(0,.slice (some ⟨g,0,none⟩) n cap),(6,I (y.1:Int)),(7,I (y.2.1:Int))]) (λy w'=>Ph w' g n cap y.2.2/\Kp (λk=>k=g) w w'/\Go.Sort.reverseLoop y.1 y.2.1 y.2.2=Go.Sort.reverseRange d a b/\y.2.1<n) (λy=>y.2.1-y.1) ?hI ?hround
 case hI=>exact⟨h,Kp.refl _ _,rfl,by dsimp only;omega⟩
 case hround=>
  rintro⟨i,j,d4⟩ w4 ⟨dZ,av,cz,bH⟩ ih;dsimp only at dZ av cz bH
  try dsimp only
  refine run_seq$ qN O$ Md O O$ Ni O O$ LX$ M8 O (λh0=>?_)$ λh0=>?_
  ·rw[Go.Sort.reverseLoop,if_pos (by omega)] at cz;refine py$ LU$ run_seq ?_;have aB:=Ext.Mm w4;refine Mo [13,15] (λw'=>Ext w4 w') (by kernel_rfl) O$ qL [12,13,14,15] 0 O (λ_ h=>MH O) aB$ qL [12,13,14,15] 1 O (λ_ h=>MH O) aB$ MY (i:=2) O (by kernel_rfl) O O (λ_=>MH O) (aB)$ MY (i:=3) O (by kernel_rfl) O O (λ_=>MH O) (aB)$ qL [6,7,12,13,14,15] 4 O (λ_ h=>MH O) aB$ qL [6,7,12,13,14,15] 5 O (λ_ h=>MH O) aB$ qL [7,12,13,14,15] 6 O (λ_ h=>MS Mr Mi O O (by omega)) aB$ qL [10,11,12,13,14,15] 8 O (λ_ h=>MH O) aB$ qL [10,11,12,13,14,15] 9 O (λ_ h=>MH O) aB$ qL [11,12,13,14,15] 10 O (λ_ h=>MS Mr Mi O O (by omega)) aB$ qL [12,13,14,15] 7 O (λ_ h=>MA Np O O ((dZ.ext h).get (i:=j) (by omega))) aB$ qL [12,13,14,15] 11 O (λ_ h=>MA Np O O ((dZ.ext h).get (i:=i) (by omega))) aB$ qL [13,14,15] 12 O (λ_ h=>MS Mr Mi O O (by omega)) aB ?_;refine PH [13]$ qO 13$ MI (i:=13) O O (Ox Mi O O O (dZ.ext aB).sl ((dZ.ext aB).WH (by omega))) ?_;rintro w7a ⟨fL,fM⟩;refine⟨trivial,?_⟩;have cK:=(dZ.ext aB).set fL;refine M3 14 O (MS Mr Mi O O (by omega)) trivial$ qO 15$ MI (i:=15) O O (Ox Mi O O O cK.sl (cK.WH (by omega))) ?_;rintro w7 ⟨ie,jJ⟩;refine⟨trivial,?_⟩;have jK:=cK.set ie;have fN:Kp (λk=>k=g) w4 w7:=aB.kp.trans (fM.trans jJ);refine qE$ qN O$ LW O$ MT O O$ M4 O$ M0 O$ LW O$ Oa O O$ M4 O$ LV ?_;rw[show(j:Int)-1=((j-1:Nat):Int) by omega];exact(ih (i+1,j-1,Go.Sort.swp d4 i j) _ ⟨jK,av.trans fN,cz,by dsimp only;omega⟩ (by dsimp only;omega)).qb
  ·rw[Go.Sort.reverseLoop,if_neg (by omega)] at cz;refine M6 O$ Nq Tryz.func245 O ?_;exact⟨_,rfl,rfl,cz▸dZ,av⟩
section
variable (p:Nat->Bool)(d:Array Nat)(i j:Nat)
theorem Vw (h:i<=j)(hp:p d[i]! =true):Go.Sort.scanUp p d j i=Go.Sort.scanUp p d j (i+1):=by
 conv=>lhs;rw[Go.Sort.scanUp]
 rw[if_pos]
 rw[Bool.and_eq_true];exact⟨by simpa using h,hp⟩
theorem PC (h:j<i\/p d[i]! =false):Go.Sort.scanUp p d j i=i:=by
 rw[Go.Sort.scanUp,if_neg]
 intro hc
 rw[Bool.and_eq_true] at hc
 rcases h with h| h
 ·have:=of_decide_eq_true hc.1;omega
 ·rw[h] at hc;cases hc.2
theorem SQ (h:i<=j)(hp:p d[j]! =true)(hj:1<=j):Go.Sort.scanDown p d i j=Go.Sort.scanDown p d i (j-1):=by
 obtain⟨k,rfl⟩:∃k,j=k+1:=⟨j-1,by omega⟩
 rw[Go.Sort.scanDown,if_pos]
 ·rfl
 ·rw[Bool.and_eq_true];exact⟨by simpa using h,hp⟩
theorem OJ (h:j<i\/p d[j]! =false):Go.Sort.scanDown p d i j=j:=by
 cases j with
 |zero=>rw[Go.Sort.scanDown]
 | succ k =>
   rw[Go.Sort.scanDown,if_neg];intro hc;rw[Bool.and_eq_true] at hc;rcases h with h| h
   ·have:=of_decide_eq_true hc.1;omega
   ·rw[h] at hc;cases hc.2
end
theorem TF (p:Nat->Bool)(d:Array Nat)(j:Nat):∀i:Nat,Go.Sort.scanUp p d j i<=max i (j+1):=λi=>by
 rw[Go.Sort.scanUp]
 split
 ·rename_i h
  rw[Bool.and_eq_true] at h;have h1:=of_decide_eq_true h.1;have:=TF p d j (i+1);omega
 ·omega
 termination_by i=>j+1-i
theorem z7t {w : World}{g n cap : Nat}{d : Array Nat}(h : Ph w g n cap d)(a b pv : Nat)(Hc : a <= pv)(qB : pv < b)(hb : b <= n)(hn : n <= 65536) :
  Mw Tryz.prog 249 [.slice (some ⟨g,0,none⟩) n cap,I (a:Int),I (b:Int),I (pv:Int)] w λu w'=>u= .tuple #[I ((Go.Sort.partition Nw d a b pv).1:Int),.bool (Go.Sort.partition Nw d a b pv).2.1]/\Ph w' g n cap (Go.Sort.partition Nw d a b pv).2.2/\Kp (λk=>k=g) w w':=by
 refine It (e:=[(0,_),(1,_),(2,_),(3,_)]) Tryz.func249 O Tryz.ntmps249 O O$ qN O$ Me O$ M4 O$ run_seq ?_
 have aB:=Ext.Mm w
 refine Mo [13,15] (λw'=>Ext w w') (by kernel_rfl) O$ qL [12,13,14,15] 0 O (λ_ h=>MH O) aB$ qL [12,13,14,15] 1 O (λ_ h=>MH O) aB$ MY (i:=2) O (by kernel_rfl) O O (λ_=>MH O) (aB)$ MY (i:=3) O (by kernel_rfl) O O (λ_=>MH O) (aB)$ qL [6,7,12,13,14,15] 4 O (λ_ h=>MH O) aB$ qL [6,7,12,13,14,15] 5 O (λ_ h=>MH O) aB$ qL [7,12,13,14,15] 6 O (λ_ h=>MS Mr Mi O O (by omega)) aB$ qL [10,11,12,13,14,15] 8 O (λ_ h=>MH O) aB$ qL [10,11,12,13,14,15] 9 O (λ_ h=>MH O) aB$ qL [11,12,13,14,15] 10 O (λ_ h=>MS Mr Mi O O (by omega)) aB$ qL [12,13,14,15] 7 O (λ_ hS=>MA Np O O ((h.ext hS).get (i:=pv) (by omega))) aB$ qL [12,13,14,15] 11 O (λ_ hS=>MA Np O O ((h.ext hS).get (i:=a) (by omega))) aB$ qL [13,14,15] 12 O (λ_ h=>MS Mr Mi O O (by omega)) aB ?_
 refine PH [13]$ qO 13$ MI (i:=13) O O (Ox Mi O O O (h.ext aB).sl ((h.ext aB).WH (by omega))) ?_
 rintro w1a ⟨mO,mP⟩
 refine⟨trivial,?_⟩
 have fO:=(h.ext aB).set mO
 refine M3 14 O (MS Mr Mi O O (by omega)) trivial$ qO 15$ MI (i:=15) O O (Ox Mi O O O fO.sl (fO.WH (by omega))) ?_
 rintro w1 ⟨se,sg⟩
 refine⟨trivial,?_⟩
 have ig:=fO.set se
 have kL:Kp (λk=>k=g) w w1:=aB.kp.trans (mP.trans sg)
 refine qE$ qN O$ LW O$ MT O O$ LW O$ Oa O O$ Me O$ M4 O$ Mz.qb (e:=[(0,_),(1,_),(8,_),(9,_),(10,_),(11,_)]) ?_
 refine run_seq$ LU ?_
 unfold Go.Sort.partition
 dsimp only
 replace ig:Ph w1 g n cap (Go.Sort.swp d a pv):=ig
 generalize Go.Sort.swp d a pv=D at ig
 rw[show(a:Int)+1=((a+1:Nat):Int) by omega,show(b:Int)-1=((b-1:Nat):Int) by omega]
 refine Ot (λe' w'=>e'=[(0,.slice (some ⟨g,0,none⟩) n cap),(1,I (a:Int)),(10,I (((Go.Sort.scanUp (λx=>Nw x D[a]!) D (b-1) (a+1)):Nat):Int)),(11,I (((b-1):Nat):Int))]/\Ph w' g n cap D/\Kp (λk=>k=g) w1 w') ?ou$ λou=>?Bc
 case ou =>
  rintro e' wA ⟨rfl,Hd,ou⟩;have zj:=Go.Sort.scanUp_ge (λx=>Nw x D[a]!) D (b-1) (a+1);have lE:=TF (λx=>Nw x D[a]!) D (b-1) (a+1)
  generalize Go.Sort.scanUp (λx=>Nw x D[a]!) D (b-1) (a+1)=i1 at zj lE
  refine run_seq$ LU$ Ot (λe' w'=>e'=[(0,.slice (some ⟨g,0,none⟩) n cap),(1,I (a:Int)),(10,I ((i1:Nat):Int)),(11,I (((Go.Sort.scanDown (λx=>!Nw x D[a]!) D i1 (b-1)):Nat):Int))]/\Ph w' g n cap D/\Kp (λk=>k=g) wA w') ?iV$ λiV=>?Bb
  case iV =>
   rintro e' wB ⟨rfl,ov,iV⟩;have He:=Go.Sort.scanDown_le (λx=>!Nw x D[a]!) D i1 (b-1)
   generalize Go.Sort.scanDown (λx=>!Nw x D[a]!) D i1 (b-1)=j1 at He
   refine run_seq$ qN O$ Md O O$ Ng O O$ LX$ M8 O (λh4=>?_)$ λh4=>?_
   ·rw[if_pos (by omega)];refine run_seq ?_;have aa:=Ext.Mm wB;refine Mo [13,15] (λw'=>Ext wB w') (by kernel_rfl) O$ qL [12,13,14,15] 0 O (λ_ h=>MH O) aa$ qL [12,13,14,15] 1 O (λ_ h=>MH O) aa$ MY (i:=2) O (by kernel_rfl) O O (λ_=>MH O) (aa)$ MY (i:=3) O (by kernel_rfl) O O (λ_=>MH O) (aa)$ qL [6,7,12,13,14,15] 4 O (λ_ h=>MH O) aa$ qL [6,7,12,13,14,15] 5 O (λ_ h=>MH O) aa$ qL [7,12,13,14,15] 6 O (λ_ h=>MS Mr Mi O O (by omega)) aa$ qL [10,11,12,13,14,15] 8 O (λ_ h=>MH O) aa$ qL [10,11,12,13,14,15] 9 O (λ_ h=>MH O) aa$ qL [11,12,13,14,15] 10 O (λ_ h=>MS Mr Mi O O (by omega)) aa$ qL [12,13,14,15] 7 O (λ_ h=>MA Np O O ((ov.ext h).get (i:=a) (by omega))) aa$ qL [12,13,14,15] 11 O (λ_ h=>MA Np O O ((ov.ext h).get (i:=j1) (by omega))) aa$ qL [13,14,15] 12 O (λ_ h=>MS Mr Mi O O (by omega)) aa ?_;refine PH [13]$ qO 13$ MI (i:=13) O O (Ox Mi O O O (ov.ext aa).sl ((ov.ext aa).WH (by omega))) ?_;rintro w2a ⟨uZ,vd⟩;refine⟨trivial,?_⟩;have mQ:=(ov.ext aa).set uZ;refine M3 14 O (MS Mr Mi O O (by omega)) trivial$ qO 15$ MI (i:=15) O O (Ox Mi O O O mQ.sl (mQ.WH (by omega))) ?_;rintro w2 ⟨B4,B5⟩;refine⟨trivial,?_⟩;have B6:=mQ.set B4;have ve:Kp (λk=>k=g) wB w2:=aa.kp.trans (vd.trans B5);refine qE$ qN O$ LW O$ Me O$ M4 O$ LZ Tryz.func249 O ?_;exact⟨_,rfl,rfl,B6,(kL.trans (ou.trans iV)).trans ve⟩
   ·rw [if_neg (by omega)]; refine py (run_seq ?_); have ae := Ext.Mm wB; refine Mo [13,15] (λw' => Ext wB w') (by kernel_rfl) O (qL [12, 13, 14, 15] 0 O (λ_ h=>MH O) ae (qL [12, 13, 14, 15] 1 O (λ_ h=>MH O) ae (MY (i := 2) O (by kernel_rfl) O O (λ_ => MH O) (ae) (MY (i := 3) O (by kernel_rfl) O O (λ_ => MH O) (ae) (qL [6, 7, 12, 13, 14, 15] 4 O (λ_ h=>MH O) ae (qL [6, 7, 12, 13, 14, 15] 5 O (λ_ h=>MH O) ae (qL [7, 12, 13, 14, 15] 6 O (λ_ h=>MS Mr Mi O O (by omega)) ae (qL [10, 11, 12, 13, 14, 15] 8 O (λ_ h=>MH O) ae (qL [10, 11, 12, 13, 14, 15] 9 O (λ_ h=>MH O) ae (qL [11, 12, 13, 14, 15] 10 O (λ_ h=>MS Mr Mi O O (by omega)) ae (qL [12, 13, 14, 15] 7 O (λ_ h=>MA Np O O ((ov.ext h).get (i := j1) (by omega))) ae (qL [12, 13, 14, 15] 11 O (λ_ h=>MA Np O O ((ov.ext h).get (i := i1) (by omega))) ae (qL [13, 14, 15] 12 O (λ_ h=>MS Mr Mi O O (by omega)) ae ?_))))))))))))); refine PH [13] (qO 13 (MI (i := 13) O O (Ox Mi O O O (ov.ext ae).sl ((ov.ext ae).WH (by omega))) ?_)); rintro w3a ⟨vf, vg⟩; refine ⟨trivial, ?_⟩; have mR := (ov.ext ae).set vf; refine M3 14 O (MS Mr Mi O O (by omega)) trivial (qO 15 (MI (i := 15) O O (Ox Mi O O O mR.sl (mR.WH (by omega))) ?_)); rintro w3 ⟨B7, B8⟩; refine ⟨trivial, ?_⟩; have B9 := mR.set B7; have vh : Kp (λk => k = g) wB w3 := ae.kp.trans (vg.trans B8); refine qE (qN O (LW O (MT O O (Me O (qM O (LW O (Oa O O (M4 O (Mz.qb (e := [(0, _), (1, _), (10, _), (11, _)]) ?_))))))))); refine run_seq (LU ?_); rw [show (j1 : Int) - 1 = ((j1 - 1 : Nat) : Int) by omega]; refine Oh (α := Nat × Nat × Array Nat) ((i1 + 1, j1 - 1, Go.Sort.swp D i1 j1)) (λy => [(0, .slice (some ⟨g, 0, none⟩) n cap), (1, I (a : Int)), (10, I (y.1 : Int)), (11, I (y.2.1 : Int))]) (λy w' => Ph w' g n cap y.2.2 /\ Kp (λk => k = g) w3 w' /\ Go.Sort.partLoop Nw a y.1 y.2.1 y.2.2 = Go.Sort.partLoop Nw a (i1 + 1) (j1 - 1) (Go.Sort.swp D i1 j1) /\ (a < y.1 /\ y.1 <= n /\ y.2.1 < n)) (λy => y.2.1 + 1 - y.1) ?hI ?hround
    case hI=>exact⟨B9,Kp.refl _ _,rfl,by dsimp only;omega⟩
    case hround =>
     rintro⟨i,j,d4⟩ w4 ⟨dZ,av,cz,bH⟩ ih;dsimp only at dZ av cz bH;rw[Go.Sort.partLoop_eq] at cz
     try dsimp only
     refine LU$ run_seq$ LU$ Ot (λe' w'=>e'=[(0,.slice (some ⟨g,0,none⟩) n cap),(1,I (a:Int)),(10,I (((Go.Sort.scanUp (λx=>Nw x d4[a]!) d4 j (i)):Nat):Int)),(11,I ((j:Nat):Int))]/\Ph w' g n cap d4/\Kp (λk=>k=g) w4 w') ?jp$ λjp=>?si
     case jp=>
      rintro e' wC ⟨rfl,Ba,jp⟩;have dA:=Go.Sort.scanUp_ge (λx=>Nw x d4[a]!) d4 j i;have mg:=TF (λx=>Nw x d4[a]!) d4 j i
      generalize Go.Sort.scanUp (λx=>Nw x d4[a]!) d4 j i=i2 at cz dA mg
      refine run_seq$ LU$ Ot (λe' w'=>e'=[(0,.slice (some ⟨g,0,none⟩) n cap),(1,I (a:Int)),(10,I ((i2:Nat):Int)),(11,I (((Go.Sort.scanDown (λx=>!Nw x d4[a]!) d4 i2 (j)):Nat):Int))]/\Ph w' g n cap d4/\Kp (λk=>k=g) wC w') ?fk$ λfk=>?sh
      case fk=>
       rintro e' wD ⟨rfl,iW,fk⟩;have kK:=Go.Sort.scanDown_le (λx=>!Nw x d4[a]!) d4 i2 j
       generalize Go.Sort.scanDown (λx=>!Nw x d4[a]!) d4 i2 j=j2 at cz kK
       refine run_seq$ qN O$ Md O O$ Ng O O$ LX$ M8 O (λh5=>?_)$ λh5=>?_
       ·rw[if_pos (by omega)] at cz;refine M6 O$ run_seq ?_;rw[<-cz];have ox:=((kL.trans (ou.trans iV)).trans vh).trans (av.trans (jp.trans fk));have bS:=Ext.Mm wD;refine Mo [13,15] (λw'=>Ext wD w') (by kernel_rfl) O$ qL [12,13,14,15] 0 O (λ_ h=>MH O) bS$ qL [12,13,14,15] 1 O (λ_ h=>MH O) bS$ MY (i:=2) O (by kernel_rfl) O O (λ_=>MH O) (bS)$ MY (i:=3) O (by kernel_rfl) O O (λ_=>MH O) (bS)$ qL [6,7,12,13,14,15] 4 O (λ_ h=>MH O) bS$ qL [6,7,12,13,14,15] 5 O (λ_ h=>MH O) bS$ qL [7,12,13,14,15] 6 O (λ_ h=>MS Mr Mi O O (by omega)) bS$ qL [10,11,12,13,14,15] 8 O (λ_ h=>MH O) bS$ qL [10,11,12,13,14,15] 9 O (λ_ h=>MH O) bS$ qL [11,12,13,14,15] 10 O (λ_ h=>MS Mr Mi O O (by omega)) bS$ qL [12,13,14,15] 7 O (λ_ h=>MA Np O O ((iW.ext h).get (i:=a) (by omega))) bS$ qL [12,13,14,15] 11 O (λ_ h=>MA Np O O ((iW.ext h).get (i:=j2) (by omega))) bS$ qL [13,14,15] 12 O (λ_ h=>MS Mr Mi O O (by omega)) bS ?_;refine PH [13]$ qO 13$ MI (i:=13) O O (Ox Mi O O O (iW.ext bS).sl ((iW.ext bS).WH (by omega))) ?_;rintro w8a ⟨fP,fQ⟩;refine⟨trivial,?_⟩;have cL:=(iW.ext bS).set fP;refine M3 14 O (MS Mr Mi O O (by omega)) trivial$ qO 15$ MI (i:=15) O O (Ox Mi O O O cL.sl (cL.WH (by omega))) ?_;rintro w8 ⟨jL,jM⟩;refine⟨trivial,?_⟩;have jN:=cL.set jL;have ff:Kp (λk=>k=g) wD w8:=bS.kp.trans (fQ.trans jM);refine qE$ qN O$ LW O$ Me O$ M4 O$ LZ Tryz.func249 O ?_;exact⟨_,rfl,rfl,jN,ox.trans ff⟩
       ·rw[if_neg (by omega)] at cz;refine py$ run_seq ?_;have bS:=Ext.Mm wD;refine Mo [13,15] (λw'=>Ext wD w') (by kernel_rfl) O$ qL [12,13,14,15] 0 O (λ_ h=>MH O) bS$ qL [12,13,14,15] 1 O (λ_ h=>MH O) bS$ MY (i:=2) O (by kernel_rfl) O O (λ_=>MH O) (bS)$ MY (i:=3) O (by kernel_rfl) O O (λ_=>MH O) (bS)$ qL [6,7,12,13,14,15] 4 O (λ_ h=>MH O) bS$ qL [6,7,12,13,14,15] 5 O (λ_ h=>MH O) bS$ qL [7,12,13,14,15] 6 O (λ_ h=>MS Mr Mi O O (by omega)) bS$ qL [10,11,12,13,14,15] 8 O (λ_ h=>MH O) bS$ qL [10,11,12,13,14,15] 9 O (λ_ h=>MH O) bS$ qL [11,12,13,14,15] 10 O (λ_ h=>MS Mr Mi O O (by omega)) bS$ qL [12,13,14,15] 7 O (λ_ h=>MA Np O O ((iW.ext h).get (i:=j2) (by omega))) bS$ qL [12,13,14,15] 11 O (λ_ h=>MA Np O O ((iW.ext h).get (i:=i2) (by omega))) bS$ qL [13,14,15] 12 O (λ_ h=>MS Mr Mi O O (by omega)) bS ?_;refine PH [13]$ qO 13$ MI (i:=13) O O (Ox Mi O O O (iW.ext bS).sl ((iW.ext bS).WH (by omega))) ?_;rintro w8a ⟨fP,fQ⟩;refine⟨trivial,?_⟩;have cL:=(iW.ext bS).set fP;refine M3 14 O (MS Mr Mi O O (by omega)) trivial$ qO 15$ MI (i:=15) O O (Ox Mi O O O cL.sl (cL.WH (by omega))) ?_;rintro w8 ⟨jL,jM⟩;refine⟨trivial,?_⟩;have jN:=cL.set jL;have ff:Kp (λk=>k=g) wD w8:=bS.kp.trans (fQ.trans jM);refine qE$ qN O$ LW O$ MT O O$ M4 O$ M0 O$ LW O$ Oa O O$ M4 O$ LV ?_;rw[show(j2:Int)-1=((j2-1:Nat):Int) by omega];exact(ih (i2+1,j2-1,Go.Sort.swp d4 i2 j2) _ ⟨jN,(av.trans (jp.trans fk)).trans ff,cz,by dsimp only;omega⟩ (by dsimp only;omega)).qb
      case sh=>
       refine Oh (α:=Nat) (j) (λr=>[(0,.slice (some ⟨g,0,none⟩) n cap),(1,I (a:Int)),(10,I ((i2:Nat):Int)),(11,I ((r:Nat):Int))]) (λr w'=>Ph w' g n cap d4/\Kp (λk=>k=g) wC w'/\Go.Sort.scanDown (λx=>!Nw x d4[a]!) d4 i2 r=Go.Sort.scanDown (λx=>!Nw x d4[a]!) d4 i2 (j)/\r<n) (λr=>r) ?hI ?hround
       case hI=>exact⟨Ba,Kp.refl _ _,rfl,by omega⟩
       case hround=>
        rintro r w5 ⟨aT,ak,cb,cg⟩ ih
        try dsimp only
        have hg:=Ext.Mm w5;rcases Nat.lt_or_ge r (i2) with hj|hj
        ·refine run_seq$ run_seq$ NV (λw'=>Ext w5 w') O$ Mj 0 O O (hg)$ Mj 1 O O (hg)$ M3 2 O (Vn O O) hg$ QT$ Mj 3 O O (hg)$ qJ 4 O (hg)$ qJ 5 O (hg)$ qJ 6 O (hg)$ qJ 7 O (hg)$ qJ 8 O (hg)$ qJ 9 O (hg) ?_;refine qJ 10 O (hg)$ qJ 11 O (hg)$ qJ 12 O (hg)$ qJ 13 O (hg)$ M3 14 O (Ro O O) hg$ qE$ An O$ M6 O ?_;rw[OJ _ _ _ _ (.inl hj)] at cb;subst cb;exact(fk _ _ ⟨rfl,aT.ext hg,ak.trans hg.kp⟩).qb
        ·refine run_seq$ run_seq$ NV (λw'=>Ext w5 w') O$ Mj 0 O O (hg)$ Mj 1 O O (hg)$ M3 2 O (Vn O O) hg$ QB$ Mj 3 O O (hg)$ Mj 4 O O (hg)$ Mj 5 O O (hg)$ M3 6 O (MS Mr Mi O O (by omega)) hg$ Mj 8 O O (hg)$ Mj 9 O O (hg)$ M3 10 O (MS Mr Mi O O (by omega)) hg ?_;refine qT 7 O (λ_ h=>MA Np O O ((aT.ext h).get (i:=r) (by omega))) hg$ qT 11 O (λ_ h=>MA Np O O ((aT.ext h).get (i:=a) (by omega))) hg$ Pm 12 O St O (OH _ _ _) ?_;rintro _ w6 ⟨rfl,rfl⟩;refine⟨hg,?_⟩;refine M3 13 O ((by first|exact MX O|exact Oy O)) hg ?_;refine M3 14 O (RM O O) hg$ qE$ MZ O (λh1=>?_)$ λh1=>?_
         ·rw[SQ _ _ _ _ hj (by simpa[Nw] using h1) (by omega)] at cb;refine py$ LU$ M0 O$ LW O$ Oa O O$ M4 O$ LV ?_;rw[show(r:Int)-1=((r-1:Nat):Int) by omega];exact(ih (r-1) _ ⟨aT.ext hg,ak.trans hg.kp,cb,by omega⟩ (by omega)).qb
         ·rw[OJ _ _ _ _ (.inr (by simpa[Nw] using h1))] at cb;refine M6 O ?_;subst cb;exact(fk _ _ ⟨rfl,aT.ext hg,ak.trans hg.kp⟩).qb
     case si=>
      refine Oh (α:=Nat) (i) (λr=>[(0,.slice (some ⟨g,0,none⟩) n cap),(1,I (a:Int)),(10,I ((r:Nat):Int)),(11,I ((j:Nat):Int))]) (λr w'=>Ph w' g n cap d4/\Kp (λk=>k=g) w4 w'/\Go.Sort.scanUp (λx=>Nw x d4[a]!) d4 j r=Go.Sort.scanUp (λx=>Nw x d4[a]!) d4 j (i)/\i<=r/\r<=n+1) (λr=>j+1-r) ?hI ?hround
      case hI=>exact⟨dZ,Kp.refl _ _,rfl,Nat.le_refl _,by omega⟩
      case hround=>
       rintro r w5 ⟨aT,ak,cb,cg⟩ ih
       try dsimp only
       have hg:=Ext.Mm w5;rcases Nat.lt_or_ge (j) r with hj|hj
       ·refine run_seq$ run_seq$ NV (λw'=>Ext w5 w') O$ Mj 0 O O (hg)$ Mj 1 O O (hg)$ M3 2 O (Vn O O) hg$ QT$ Mj 3 O O (hg)$ qJ 4 O (hg)$ qJ 5 O (hg)$ qJ 6 O (hg)$ qJ 7 O (hg)$ qJ 8 O (hg)$ qJ 9 O (hg) ?_;refine qJ 10 O (hg)$ qJ 11 O (hg)$ qJ 12 O (hg)$ M3 13 O (Ro O O) hg$ qE$ An O$ M6 O ?_;rw[PC _ _ _ _ (.inl hj)] at cb;subst cb;exact(jp _ _ ⟨rfl,aT.ext hg,ak.trans hg.kp⟩).qb
       ·refine run_seq$ run_seq$ NV (λw'=>Ext w5 w') O$ Mj 0 O O (hg)$ Mj 1 O O (hg)$ M3 2 O (Vn O O) hg$ QB$ Mj 3 O O (hg)$ Mj 4 O O (hg)$ Mj 5 O O (hg)$ M3 6 O (MS Mr Mi O O (by omega)) hg$ Mj 8 O O (hg)$ Mj 9 O O (hg)$ M3 10 O (MS Mr Mi O O (by omega)) hg ?_;refine qT 7 O (λ_ h=>MA Np O O ((aT.ext h).get (i:=r) (by omega))) hg$ qT 11 O (λ_ h=>MA Np O O ((aT.ext h).get (i:=a) (by omega))) hg$ Pm 12 O St O (OH _ _ _) ?_;rintro _ w6 ⟨rfl,rfl⟩;refine⟨hg,?_⟩;refine M3 13 O (RM O O) hg$ qE$ MZ O (λh1=>?_)$ λh1=>?_
        ·rw[Vw _ _ _ _ hj (by simpa[Nw] using h1)] at cb;refine py$ LU$ M0 O$ LW O$ MT O O$ M4 O$ LV ?_;exact(ih (r+1) _ ⟨aT.ext hg,ak.trans hg.kp,cb,by omega,by omega⟩ (by omega)).qb
        ·rw[PC _ _ _ _ (.inr (by simpa[Nw] using h1))] at cb;refine M6 O ?_;subst cb;exact(jp _ _ ⟨rfl,aT.ext hg,ak.trans hg.kp⟩).qb
  case Bb=>
   refine Oh (α:=Nat) (b-1) (λr=>[(0,.slice (some ⟨g,0,none⟩) n cap),(1,I (a:Int)),(10,I ((i1:Nat):Int)),(11,I ((r:Nat):Int))]) (λr w'=>Ph w' g n cap D/\Kp (λk=>k=g) wA w'/\Go.Sort.scanDown (λx=>!Nw x D[a]!) D i1 r=Go.Sort.scanDown (λx=>!Nw x D[a]!) D i1 (b-1)/\r<n) (λr=>r) ?hI ?hround
   case hI=>exact⟨Hd,Kp.refl _ _,rfl,by omega⟩
   case hround=>
    rintro r w5 ⟨aT,ak,cb,cg⟩ ih
    try dsimp only
    have hg:=Ext.Mm w5;rcases Nat.lt_or_ge r (i1) with hj|hj
    ·refine run_seq$ run_seq$ NV (λw'=>Ext w5 w') O$ Mj 0 O O (hg)$ Mj 1 O O (hg)$ M3 2 O (Vn O O) hg$ QT$ Mj 3 O O (hg)$ qJ 4 O (hg)$ qJ 5 O (hg)$ qJ 6 O (hg)$ qJ 7 O (hg)$ qJ 8 O (hg)$ qJ 9 O (hg) ?_;refine qJ 10 O (hg)$ qJ 11 O (hg)$ qJ 12 O (hg)$ qJ 13 O (hg)$ M3 14 O (Ro O O) hg$ qE$ An O$ M6 O ?_;rw[OJ _ _ _ _ (.inl hj)] at cb;subst cb;exact(iV _ _ ⟨rfl,aT.ext hg,ak.trans hg.kp⟩).qb
    ·refine run_seq$ run_seq$ NV (λw'=>Ext w5 w') O$ Mj 0 O O (hg)$ Mj 1 O O (hg)$ M3 2 O (Vn O O) hg$ QB$ Mj 3 O O (hg)$ Mj 4 O O (hg)$ Mj 5 O O (hg)$ M3 6 O (MS Mr Mi O O (by omega)) hg$ Mj 8 O O (hg)$ Mj 9 O O (hg)$ M3 10 O (MS Mr Mi O O (by omega)) hg ?_;refine qT 7 O (λ_ h=>MA Np O O ((aT.ext h).get (i:=r) (by omega))) hg$ qT 11 O (λ_ h=>MA Np O O ((aT.ext h).get (i:=a) (by omega))) hg$ Pm 12 O St O (OH _ _ _) ?_;rintro _ w6 ⟨rfl,rfl⟩;refine⟨hg,?_⟩;refine M3 13 O ((by first|exact MX O|exact Oy O)) hg ?_;refine M3 14 O (RM O O) hg$ qE$ MZ O (λh1=>?_)$ λh1=>?_
     ·rw[SQ _ _ _ _ hj (by simpa[Nw] using h1) (by omega)] at cb;refine py$ LU$ M0 O$ LW O$ Oa O O$ M4 O$ LV ?_;rw[show(r:Int)-1=((r-1:Nat):Int) by omega];exact(ih (r-1) _ ⟨aT.ext hg,ak.trans hg.kp,cb,by omega⟩ (by omega)).qb
     ·rw[OJ _ _ _ _ (.inr (by simpa[Nw] using h1))] at cb;refine M6 O ?_;subst cb;exact(iV _ _ ⟨rfl,aT.ext hg,ak.trans hg.kp⟩).qb
 case Bc=>
  refine Oh (α:=Nat) (a+1) (λr=>[(0,.slice (some ⟨g,0,none⟩) n cap),(1,I (a:Int)),(10,I ((r:Nat):Int)),(11,I (((b-1):Nat):Int))]) (λr w'=>Ph w' g n cap D/\Kp (λk=>k=g) w1 w'/\Go.Sort.scanUp (λx=>Nw x D[a]!) D (b-1) r=Go.Sort.scanUp (λx=>Nw x D[a]!) D (b-1) (a+1)/\a+1<=r/\r<=n+1) (λr=>(b-1)+1-r) ?hI ?hround
  case hI=>exact⟨ig,Kp.refl _ _,rfl,Nat.le_refl _,by omega⟩
  case hround=>
   rintro r w5 ⟨aT,ak,cb,cg⟩ ih
   try dsimp only
   have hg:=Ext.Mm w5;rcases Nat.lt_or_ge ((b-1)) r with hj|hj
   ·refine run_seq$ run_seq$ NV (λw'=>Ext w5 w') O$ Mj 0 O O (hg)$ Mj 1 O O (hg)$ M3 2 O (Vn O O) hg$ QT$ Mj 3 O O (hg)$ qJ 4 O (hg)$ qJ 5 O (hg)$ qJ 6 O (hg)$ qJ 7 O (hg)$ qJ 8 O (hg)$ qJ 9 O (hg) ?_;refine qJ 10 O (hg)$ qJ 11 O (hg)$ qJ 12 O (hg)$ M3 13 O (Ro O O) hg$ qE$ An O$ M6 O ?_;rw[PC _ _ _ _ (.inl hj)] at cb;subst cb;exact(ou _ _ ⟨rfl,aT.ext hg,ak.trans hg.kp⟩).qb
   ·refine run_seq$ run_seq$ NV (λw'=>Ext w5 w') O$ Mj 0 O O (hg)$ Mj 1 O O (hg)$ M3 2 O (Vn O O) hg$ QB$ Mj 3 O O (hg)$ Mj 4 O O (hg)$ Mj 5 O O (hg)$ M3 6 O (MS Mr Mi O O (by omega)) hg$ Mj 8 O O (hg)$ Mj 9 O O (hg)$ M3 10 O (MS Mr Mi O O (by omega)) hg ?_;refine qT 7 O (λ_ h=>MA Np O O ((aT.ext h).get (i:=r) (by omega))) hg$ qT 11 O (λ_ h=>MA Np O O ((aT.ext h).get (i:=a) (by omega))) hg$ Pm 12 O St O (OH _ _ _) ?_;rintro _ w6 ⟨rfl,rfl⟩;refine⟨hg,?_⟩;refine M3 13 O (RM O O) hg$ qE$ MZ O (λh1=>?_)$ λh1=>?_
    ·rw[Vw _ _ _ _ hj (by simpa[Nw] using h1)] at cb;refine py$ LU$ M0 O$ LW O$ MT O O$ M4 O$ LV ?_;exact(ih (r+1) _ ⟨aT.ext hg,ak.trans hg.kp,cb,by omega,by omega⟩ (by omega)).qb
    ·rw[PC _ _ _ _ (.inr (by simpa[Nw] using h1))] at cb;refine M6 O ?_;subst cb;exact(ou _ _ ⟨rfl,aT.ext hg,ak.trans hg.kp⟩).qb
theorem z9c {w:World}{g n cap:Nat}{d:Array Nat}(h:Ph w g n cap d)(a b pv:Nat)(Hc:a<=pv)(qB:pv<b)(hb:b<=n)(hn:n<=65536):
  Mw Tryz.prog 248 [.slice (some ⟨g,0,none⟩) n cap,I (a:Int),I (b:Int),I (pv:Int)] w λu w'=>u=I ((Go.Sort.partitionEqual Nw d a b pv).1:Int)/\Ph w' g n cap (Go.Sort.partitionEqual Nw d a b pv).2/\Kp (λk=>k=g) w w':=by
 refine It (e:=[(0,_),(1,_),(2,_),(3,_)]) Tryz.func248 O Tryz.ntmps248 O O$ qN O$ M4 O$ run_seq ?_
 have aB:=Ext.Mm w
 refine Mo [13,15] (λw'=>Ext w w') (by kernel_rfl) O$ qL [12,13,14,15] 0 O (λ_ h=>MH O) aB$ qL [12,13,14,15] 1 O (λ_ h=>MH O) aB$ MY (i:=2) O (by kernel_rfl) O O (λ_=>MH O) (aB)$ MY (i:=3) O (by kernel_rfl) O O (λ_=>MH O) (aB)$ qL [6,7,12,13,14,15] 4 O (λ_ h=>MH O) aB$ qL [6,7,12,13,14,15] 5 O (λ_ h=>MH O) aB$ qL [7,12,13,14,15] 6 O (λ_ h=>MS Mr Mi O O (by omega)) aB$ qL [10,11,12,13,14,15] 8 O (λ_ h=>MH O) aB$ qL [10,11,12,13,14,15] 9 O (λ_ h=>MH O) aB$ qL [11,12,13,14,15] 10 O (λ_ h=>MS Mr Mi O O (by omega)) aB$ qL [12,13,14,15] 7 O (λ_ hS=>MA Np O O ((h.ext hS).get (i:=pv) (by omega))) aB$ qL [12,13,14,15] 11 O (λ_ hS=>MA Np O O ((h.ext hS).get (i:=a) (by omega))) aB$ qL [13,14,15] 12 O (λ_ h=>MS Mr Mi O O (by omega)) aB ?_
 refine PH [13]$ qO 13$ MI (i:=13) O O (Ox Mi O O O (h.ext aB).sl ((h.ext aB).WH (by omega))) ?_
 rintro w1a ⟨mO,mP⟩
 refine⟨trivial,?_⟩
 have fO:=(h.ext aB).set mO
 refine M3 14 O (MS Mr Mi O O (by omega)) trivial$ qO 15$ MI (i:=15) O O (Ox Mi O O O fO.sl (fO.WH (by omega))) ?_
 rintro w1 ⟨se,sg⟩
 refine⟨trivial,?_⟩
 have ig:=fO.set se
 have kL:Kp (λk=>k=g) w w1:=aB.kp.trans (mP.trans sg)
 refine qE$ qN O$ LW O$ MT O O$ LW O$ Oa O O$ Me O$ M4 O$ Mz.qb (e:=[(0,_),(1,_),(8,_),(9,_),(10,_)]) ?_
 refine run_seq$ LU ?_
 unfold Go.Sort.partitionEqual
 replace ig:Ph w1 g n cap (Go.Sort.swp d a pv):=ig
 generalize Go.Sort.swp d a pv=D at ig
 rw[show(a:Int)+1=((a+1:Nat):Int) by omega,show(b:Int)-1=((b-1:Nat):Int) by omega]
 refine Oh (α:=Nat×Nat×Array Nat) ((a+1,b-1,D)) (λy=>[(0,.slice (some ⟨g,0,none⟩) n cap),(1,I (a:Int)),(9,I (y.1:Int)),(10,I (y.2.1:Int))]) (λy w'=>Ph w' g n cap y.2.2/\Kp (λk=>k=g) w1 w'/\Go.Sort.partEqLoop Nw a y.1 y.2.1 y.2.2=Go.Sort.partEqLoop Nw a (a+1) (b-1) D/\(a<y.1/\y.1<=n/\y.2.1<n)) (λy=>y.2.1+1-y.1) ?hI ?hround
 case hI=>exact⟨ig,Kp.refl _ _,rfl,by dsimp only;omega⟩
 case hround =>
  rintro⟨i,j,d4⟩ w4 ⟨dZ,av,cz,bH⟩ ih;dsimp only at dZ av cz bH;rw[Go.Sort.partEqLoop_eq] at cz
  try dsimp only
  refine LU$ run_seq$ LU$ Ot (λe' w'=>e'=[(0,.slice (some ⟨g,0,none⟩) n cap),(1,I (a:Int)),(9,I (((Go.Sort.scanUp (λx=>!Nw d4[a]! x) d4 j (i)):Nat):Int)),(10,I ((j:Nat):Int))]/\Ph w' g n cap d4/\Kp (λk=>k=g) w4 w') ?jp$ λjp=>?si
  case jp=>
   rintro e' wC ⟨rfl,Ba,jp⟩;have dA:=Go.Sort.scanUp_ge (λx=>!Nw d4[a]! x) d4 j i;have mg:=TF (λx=>!Nw d4[a]! x) d4 j i
   generalize Go.Sort.scanUp (λx=>!Nw d4[a]! x) d4 j i=i2 at cz dA mg
   refine run_seq$ LU$ Ot (λe' w'=>e'=[(0,.slice (some ⟨g,0,none⟩) n cap),(1,I (a:Int)),(9,I ((i2:Nat):Int)),(10,I (((Go.Sort.scanDown (λx=>Nw d4[a]! x) d4 i2 (j)):Nat):Int))]/\Ph w' g n cap d4/\Kp (λk=>k=g) wC w') ?fk$ λfk=>?sh
   case fk=>
    rintro e' wD ⟨rfl,iW,fk⟩;have kK:=Go.Sort.scanDown_le (λx=>Nw d4[a]! x) d4 i2 j
    generalize Go.Sort.scanDown (λx=>Nw d4[a]! x) d4 i2 j=j2 at cz kK
    refine run_seq$ qN O$ Md O O$ Ng O O$ LX$ M8 O (λh5=>?_)$ λh5=>?_
    ·rw[if_pos (by omega)] at cz;rw[<-cz];refine M6 O$ qN O$ LW O$ M4 O$ LZ Tryz.func248 O ?_;exact⟨_,rfl,rfl,iW,kL.trans (av.trans (jp.trans fk))⟩
    ·rw[if_neg (by omega)] at cz;refine py$ run_seq ?_;have bS:=Ext.Mm wD;refine Mo [13,15] (λw'=>Ext wD w') (by kernel_rfl) O$ qL [12,13,14,15] 0 O (λ_ h=>MH O) bS$ qL [12,13,14,15] 1 O (λ_ h=>MH O) bS$ MY (i:=2) O (by kernel_rfl) O O (λ_=>MH O) (bS)$ MY (i:=3) O (by kernel_rfl) O O (λ_=>MH O) (bS)$ qL [6,7,12,13,14,15] 4 O (λ_ h=>MH O) bS$ qL [6,7,12,13,14,15] 5 O (λ_ h=>MH O) bS$ qL [7,12,13,14,15] 6 O (λ_ h=>MS Mr Mi O O (by omega)) bS$ qL [10,11,12,13,14,15] 8 O (λ_ h=>MH O) bS$ qL [10,11,12,13,14,15] 9 O (λ_ h=>MH O) bS$ qL [11,12,13,14,15] 10 O (λ_ h=>MS Mr Mi O O (by omega)) bS$ qL [12,13,14,15] 7 O (λ_ h=>MA Np O O ((iW.ext h).get (i:=j2) (by omega))) bS$ qL [12,13,14,15] 11 O (λ_ h=>MA Np O O ((iW.ext h).get (i:=i2) (by omega))) bS$ qL [13,14,15] 12 O (λ_ h=>MS Mr Mi O O (by omega)) bS ?_;refine PH [13]$ qO 13$ MI (i:=13) O O (Ox Mi O O O (iW.ext bS).sl ((iW.ext bS).WH (by omega))) ?_;rintro w8a ⟨fP,fQ⟩;refine⟨trivial,?_⟩;have cL:=(iW.ext bS).set fP;refine M3 14 O (MS Mr Mi O O (by omega)) trivial$ qO 15$ MI (i:=15) O O (Ox Mi O O O cL.sl (cL.WH (by omega))) ?_;rintro w8 ⟨jL,jM⟩;refine⟨trivial,?_⟩;have jN:=cL.set jL;have ff:Kp (λk=>k=g) wD w8:=bS.kp.trans (fQ.trans jM);refine qE$ qN O$ LW O$ MT O O$ M4 O$ M0 O$ LW O$ Oa O O$ M4 O$ LV ?_;rw[show(j2:Int)-1=((j2-1:Nat):Int) by omega];exact(ih (i2+1,j2-1,Go.Sort.swp d4 i2 j2) _ ⟨jN,(av.trans (jp.trans fk)).trans ff,cz,by dsimp only;omega⟩ (by dsimp only;omega)).qb
   case sh=>
    refine Oh (α:=Nat) (j) (λr=>[(0,.slice (some ⟨g,0,none⟩) n cap),(1,I (a:Int)),(9,I ((i2:Nat):Int)),(10,I ((r:Nat):Int))]) (λr w'=>Ph w' g n cap d4/\Kp (λk=>k=g) wC w'/\Go.Sort.scanDown (λx=>Nw d4[a]! x) d4 i2 r=Go.Sort.scanDown (λx=>Nw d4[a]! x) d4 i2 (j)/\r<n) (λr=>r) ?hI ?hround
    case hI=>exact⟨Ba,Kp.refl _ _,rfl,by omega⟩
    case hround=>
     rintro r w5 ⟨aT,ak,cb,cg⟩ ih
     try dsimp only
     have hg:=Ext.Mm w5;rcases Nat.lt_or_ge r (i2) with hj|hj
     ·refine run_seq$ run_seq$ NV (λw'=>Ext w5 w') O$ Mj 0 O O (hg)$ Mj 1 O O (hg)$ M3 2 O (Vn O O) hg$ QT$ Mj 3 O O (hg)$ qJ 4 O (hg)$ qJ 5 O (hg)$ qJ 6 O (hg)$ qJ 7 O (hg)$ qJ 8 O (hg)$ qJ 9 O (hg) ?_;refine qJ 10 O (hg)$ qJ 11 O (hg)$ qJ 12 O (hg)$ M3 13 O (Ro O O) hg$ qE$ An O$ M6 O ?_;rw[OJ _ _ _ _ (.inl hj)] at cb;subst cb;exact(fk _ _ ⟨rfl,aT.ext hg,ak.trans hg.kp⟩).qb
     ·refine run_seq$ run_seq$ NV (λw'=>Ext w5 w') O$ Mj 0 O O (hg)$ Mj 1 O O (hg)$ M3 2 O (Vn O O) hg$ QB$ Mj 3 O O (hg)$ Mj 4 O O (hg)$ Mj 5 O O (hg)$ M3 6 O (MS Mr Mi O O (by omega)) hg$ Mj 8 O O (hg)$ Mj 9 O O (hg)$ M3 10 O (MS Mr Mi O O (by omega)) hg ?_;refine qT 7 O (λ_ h=>MA Np O O ((aT.ext h).get (i:=a) (by omega))) hg$ qT 11 O (λ_ h=>MA Np O O ((aT.ext h).get (i:=r) (by omega))) hg$ Pm 12 O St O (OH _ _ _) ?_;rintro _ w6 ⟨rfl,rfl⟩;refine⟨hg,?_⟩;refine M3 13 O (RM O O) hg$ qE$ MZ O (λh1=>?_)$ λh1=>?_
      ·rw[SQ _ _ _ _ hj (by simpa[Nw] using h1) (by omega)] at cb;refine py$ LU$ M0 O$ LW O$ Oa O O$ M4 O$ LV ?_;rw[show(r:Int)-1=((r-1:Nat):Int) by omega];exact(ih (r-1) _ ⟨aT.ext hg,ak.trans hg.kp,cb,by omega⟩ (by omega)).qb
      ·rw[OJ _ _ _ _ (.inr (by simpa[Nw] using h1))] at cb;refine M6 O ?_;subst cb;exact(fk _ _ ⟨rfl,aT.ext hg,ak.trans hg.kp⟩).qb
  case si=>
   refine Oh (α:=Nat) (i) (λr=>[(0,.slice (some ⟨g,0,none⟩) n cap),(1,I (a:Int)),(9,I ((r:Nat):Int)),(10,I ((j:Nat):Int))]) (λr w'=>Ph w' g n cap d4/\Kp (λk=>k=g) w4 w'/\Go.Sort.scanUp (λx=>!Nw d4[a]! x) d4 j r=Go.Sort.scanUp (λx=>!Nw d4[a]! x) d4 j (i)/\i<=r/\r<=n+1) (λr=>j+1-r) ?hI ?hround
   case hI=>exact⟨dZ,Kp.refl _ _,rfl,Nat.le_refl _,by omega⟩
   case hround=>
    rintro r w5 ⟨aT,ak,cb,cg⟩ ih
    try dsimp only
    have hg:=Ext.Mm w5;rcases Nat.lt_or_ge (j) r with hj|hj
    ·refine run_seq$ run_seq$ NV (λw'=>Ext w5 w') O$ Mj 0 O O (hg)$ Mj 1 O O (hg)$ M3 2 O (Vn O O) hg$ QT$ Mj 3 O O (hg)$ qJ 4 O (hg)$ qJ 5 O (hg)$ qJ 6 O (hg)$ qJ 7 O (hg)$ qJ 8 O (hg)$ qJ 9 O (hg) ?_;refine qJ 10 O (hg)$ qJ 11 O (hg)$ qJ 12 O (hg)$ qJ 13 O (hg)$ M3 14 O (Ro O O) hg$ qE$ An O$ M6 O ?_;rw[PC _ _ _ _ (.inl hj)] at cb;subst cb;exact(jp _ _ ⟨rfl,aT.ext hg,ak.trans hg.kp⟩).qb
    ·refine run_seq$ run_seq$ NV (λw'=>Ext w5 w') O$ Mj 0 O O (hg)$ Mj 1 O O (hg)$ M3 2 O (Vn O O) hg$ QB$ Mj 3 O O (hg)$ Mj 4 O O (hg)$ Mj 5 O O (hg)$ M3 6 O (MS Mr Mi O O (by omega)) hg$ Mj 8 O O (hg)$ Mj 9 O O (hg)$ M3 10 O (MS Mr Mi O O (by omega)) hg ?_;refine qT 7 O (λ_ h=>MA Np O O ((aT.ext h).get (i:=a) (by omega))) hg$ qT 11 O (λ_ h=>MA Np O O ((aT.ext h).get (i:=r) (by omega))) hg$ Pm 12 O St O (OH _ _ _) ?_;rintro _ w6 ⟨rfl,rfl⟩;refine⟨hg,?_⟩;refine M3 13 O ((by first|exact MX O|exact Oy O)) hg ?_;refine M3 14 O (RM O O) hg$ qE$ MZ O (λh1=>?_)$ λh1=>?_
     ·rw[Vw _ _ _ _ hj (by simpa[Nw] using h1)] at cb;refine py$ LU$ M0 O$ LW O$ MT O O$ M4 O$ LV ?_;exact(ih (r+1) _ ⟨aT.ext hg,ak.trans hg.kp,cb,by omega,by omega⟩ (by omega)).qb
     ·rw[PC _ _ _ _ (.inr (by simpa[Nw] using h1))] at cb;refine M6 O ?_;subst cb;exact(jp _ _ ⟨rfl,aT.ext hg,ak.trans hg.kp⟩).qb
section
variable (d:Array Nat)(b i:Nat)
theorem Yw (h:i<b)(hp:Nw d[i]! d[i-1]! =false):Go.Sort.scanSorted Nw d b i=Go.Sort.scanSorted Nw d b (i+1):=by
 conv=>lhs;rw[Go.Sort.scanSorted]
 rw[if_pos]
 rw[Bool.and_eq_true];exact⟨by simpa using h,by rw[hp];rfl⟩
theorem Sy (h:b<=i\/Nw d[i]! d[i-1]! =true):Go.Sort.scanSorted Nw d b i=i:=by
 rw[Go.Sort.scanSorted,if_neg]
 intro hc
 rw[Bool.and_eq_true] at hc
 rcases h with h| h
 ·have:=of_decide_eq_true hc.1;omega
 ·rw[h] at hc;cases hc.2
end
theorem z4p (d:Array Nat)(a b:Nat)(h:b-a<50):Go.Sort.partialInsertionSort Nw d a b=(d,decide (Go.Sort.scanSorted Nw d b (a+1)=b)):=by
 unfold Go.Sort.partialInsertionSort
 rw[Go.Sort.partialIns]
 by_cases e:Go.Sort.scanSorted Nw d b (a+1)=b
 ·simp only[e,if_pos,decide_true]
 ·simp only[if_neg e,if_pos h,decide_eq_false e]
theorem z6r {w:World}{g n cap:Nat}{d:Array Nat}(h:Ph w g n cap d)(a b:Nat)(ji:a<b)(hb:b<=n)(hn:n<50):
  Mw Tryz.prog 246 [.slice (some ⟨g,0,none⟩) n cap,I (a:Int),I (b:Int)] w λu w'=>u= .bool (Go.Sort.partialInsertionSort Nw d a b).2/\Ph w' g n cap d/\Kp (λk=>k=g) w w':=by
 rw[z4p d a b (by omega)]
 dsimp only
 refine It (e:=[(0,_),(1,_),(2,_)]) Tryz.func246 O Tryz.ntmps246 O O$ qN O$ Me O$ qM O$ LW O$ MT O O$ M4 O$ run_seq$ qN O$ M4 O$ LU ?_
 rw[show(a:Int)+1=((a+1:Nat):Int) by omega]
 refine Oh (α:=Unit) (()) (λ_=>[(0,.slice (some ⟨g,0,none⟩) n cap),(1,I (a:Int)),(2,I (b:Int)),(7,I ((a+1:Nat):Int)),(8,I 0)]) (λy w'=>w'=w) (λy=>0) ?hI ?hround
 case hI=>rfl
 case hround =>
  rintro _ w4 rfl ih0
  try dsimp only
  refine run_seq$ qN O$ LW O$ Ni O O$ LX$ M8 O (λh0=>?_)$ λh0=>?_
  ·refine py$ run_seq$ LU$ run_seq$ LU$ Ot (λe' w'=>e'=[(0,.slice (some ⟨g,0,none⟩) n cap),(1,I (a:Int)),(2,I (b:Int)),(7,I (Go.Sort.scanSorted Nw d b (a+1):Int)),(8,I 0)]/\Ph w' g n cap d/\Kp (λk=>k=g) w4 w') ?eV$ λeV=>?Be
   case eV=>
    rintro e' ws ⟨rfl,Fv,eV⟩;refine run_seq$ qN O$ Md O O$ O3 O O$ LX$ M8 O (λh1=>?_)$ λh1=>?_
    ·have ii:Go.Sort.scanSorted Nw d b (a+1)=b:=by omega
     rw[decide_eq_true ii];refine qN O$ M4 O$ LZ Tryz.func246 O ?_;exact⟨_,rfl,rfl,Fv,eV⟩
    ·have ii:¬Go.Sort.scanSorted Nw d b (a+1)=b:=by omega
     rw[decide_eq_false ii];refine py$ run_seq$ qN O$ Md O O$ Oa O O$ Ni O O$ LX$ M8 O (λh2=>?_)$ λh2=>?_
     ·refine qN O$ M4 O$ LZ Tryz.func246 O ?_;exact⟨_,rfl,rfl,Fv,eV⟩
     ·omega
   case Be=>
    refine Oh (α:=Nat) (a+1) (λr=>[(0,.slice (some ⟨g,0,none⟩) n cap),(1,I (a:Int)),(2,I (b:Int)),(7,I (r:Int)),(8,I 0)]) (λr w'=>Ph w' g n cap d/\Kp (λk=>k=g) w4 w'/\Go.Sort.scanSorted Nw d b r=Go.Sort.scanSorted Nw d b (a+1)/\a<r/\r<=b) (λr=>b-r) ?hI ?hround
    case hI=>exact⟨h,Kp.refl _ _,rfl,Nat.lt_succ_self a,ji⟩
    case hround=>
     rintro r w5 ⟨aT,ak,cb,cg,Fw⟩ ih
     try dsimp only
     have hg:=Ext.Mm w5;rcases Nat.lt_or_ge r b with hj|hj
     ·refine run_seq$ run_seq$ NV (λw'=>Ext w5 w') O$ Mj 0 O O (hg)$ Mj 1 O O (hg)$ M3 2 O (Xc O O) hg$ QB$ Mj 3 O O (hg)$ Mj 4 O O (hg)$ Mj 5 O O (hg)$ M3 6 O (MS Mr Mi O O (by omega)) hg$ Mj 8 O O (hg)$ Mj 9 O O (hg)$ M3 10 O (TO O O (by omega)) hg ?_;rw[show(r:Int)-1=((r-1:Nat):Int) by omega];refine qT 7 O (λ_ h=>MA Np O O ((aT.ext h).get (i:=r) (by omega))) hg$ M3 11 O (MS Mr Mi O O (by omega)) hg$ qT 12 O (λ_ h=>MA Np O O ((aT.ext h).get (i:=r-1) (by omega))) hg$ Pm 13 O St O (OH _ _ _) ?_;rintro _ w6 ⟨rfl,rfl⟩;refine⟨hg,?_⟩;refine M3 14 O ((by first|exact MX O|exact Oy O)) hg ?_;refine M3 15 O (RM O O) hg$ qE$ MZ O (λh3=>?_)$ λh3=>?_
      ·rw[Yw _ _ _ hj (by simpa[Nw] using h3)] at cb;refine py$ LU$ M0 O$ LW O$ MT O O$ M4 O$ LV ?_;exact(ih (r+1) _ ⟨aT.ext hg,ak.trans hg.kp,cb,by omega,by omega⟩ (by omega)).qb
      ·rw[Sy _ _ _ (.inr (by simpa[Nw] using h3))] at cb;refine M6 O ?_;subst cb;exact(eV _ _ ⟨rfl,aT.ext hg,ak.trans hg.kp⟩).qb
     ·refine run_seq$ run_seq$ NV (λw'=>Ext w5 w') O$ Mj 0 O O (hg)$ Mj 1 O O (hg)$ M3 2 O (Xc O O) hg$ QT$ Mj 3 O O (hg)$ qJ 4 O (hg)$ qJ 5 O (hg)$ qJ 6 O (hg)$ qJ 7 O (hg)$ qJ 8 O (hg)$ qJ 9 O (hg) ?_;refine qJ 10 O (hg)$ qJ 11 O (hg)$ qJ 12 O (hg)$ qJ 13 O (hg)$ qJ 14 O (hg)$ M3 15 O (Ro O O) hg$ qE$ An O$ M6 O ?_;rw[Sy _ _ _ (.inl hj)] at cb;subst cb;exact(eV _ _ ⟨rfl,aT.ext hg,ak.trans hg.kp⟩).qb
  ·exact absurd (by decide) h0
theorem Um {w:World}{g n cap sb s:Nat}{d:Array Nat}(h:Ph w g n cap d)(hB:M7 w sb [I (s:Int)] 3)(hs:s<=1000)(x y:Nat)(hx:x<n)(hy:y<n)(qC:sb≠g):
  Mw Tryz.prog 257 [.slice (some ⟨g,0,none⟩) n cap,I (x:Int),I (y:Int),ptr sb 0] w λu w'=>∃x' y' s':Nat,u= .tuple #[I (x':Int),I (y':Int)]/\((x'=x/\y'=y)\/(x'=y/\y'=x))/\s'<=s+1/\M7 w' sb [I (s':Int)] 3/\Ph w' g n cap d/\Kp (λk=>k=sb) w w':=by
 refine It (e:=[(0,_),(1,_),(2,_),(3,_)]) Tryz.func257 O Tryz.ntmps257 O O ?_
 have hg:=Ext.Mm w
 refine qN O$ Me O$ M4 O$ run_seq$ run_seq$ NV (λw'=>Ext w w') O$ Mj 0 O O (hg)$ Mj 1 O O (hg)$ M3 2 O (MS Mr Mi O O (by omega)) hg$ Mj 4 O O (hg)$ Mj 5 O O (hg)$ M3 6 O (MS Mr Mi O O (by omega)) hg$ qT 3 O (λ_ hS=>MA Np O O ((h.ext hS).get (i:=y) (by omega))) hg$ qT 7 O (λ_ hS=>MA Np O O ((h.ext hS).get (i:=x) (by omega))) hg ?_
 refine Pm 8 O St O (OH _ _ _) ?_
 rintro _ w6 ⟨rfl,rfl⟩
 refine⟨hg,?_⟩
 refine qE$ MZ O (λh1=>?_)$ λh1=>?_
 ·have am:=hg.LY hB;refine qN O$ LW O$ MC O$ qV (M1 U3 O O am O)$ MT O O$ MC O$ Mb O (NT MV O O O am (by simp)) ?_;rintro w3 ⟨ar,au⟩;refine qM O$ Md O O$ Me O$ M4 O$ LZ Tryz.func257 O ?_;exact⟨_,rfl,y,x,s+1,rfl,.inr ⟨rfl,rfl⟩,Nat.le_refl _,ar,(h.ext hg).kp au (λe=>qC e.symm),hg.kp.trans au⟩
 ·refine py$ qN O$ Md O O$ Me O$ M4 O$ LZ Tryz.func257 O ?_;exact⟨_,rfl,x,y,s,rfl,.inl ⟨rfl,rfl⟩,Nat.le_succ _,hg.LY hB,h.ext hg,hg.kp⟩
theorem z3u {w:World}{g n cap sb s:Nat}{d:Array Nat}(h:Ph w g n cap d)(hB:M7 w sb [I (s:Int)] 3)(hs:s<=500)(x y z:Nat)(hx:x<n)(hy:y<n)(hz:z<n)(qC:sb≠g):
  Mw Tryz.prog 255 [.slice (some ⟨g,0,none⟩) n cap,I (x:Int),I (y:Int),I (z:Int),ptr sb 0] w λu w'=>∃x' s':Nat,u=I (x':Int)/\(x'=x\/x'=y\/x'=z)/\s'<=s+3/\M7 w' sb [I (s':Int)] 3/\Ph w' g n cap d/\Kp (λk=>k=sb) w w':=by
 refine It (e:=[(0,_),(1,_),(2,_),(3,_),(4,_)]) Tryz.func255 O Tryz.ntmps255 O O$ qN O$ Me O$ qM O$ Md O O$ Md O O$ Mn z6z O (Um h hB (by omega) x y hx hy qC) ?_
 rintro _ w1 ⟨x1,y1,s1,rfl,Hf,dW,aj,kM,aK⟩
 refine LW O$ N5 O O$ N5 O O$ Me O$ Me O$ qM O$ Md O O$ Md O O$ Mn z6z O (Um kM aj (by omega) y1 z (by omega) hz qC) ?_
 rintro _ w2 ⟨y2,z2,s2,rfl,Hg,cY,am,lF,ao⟩
 refine LW O$ N5 O O$ N5 O O$ Me O$ Me O$ qM O$ Md O O$ Md O O$ Mn z6z O (Um lF am (by omega) x1 y2 (by omega) (by omega) qC) ?_
 rintro _ w3 ⟨x3,y3,s3,rfl,Hh,oy,ar,mS,au⟩
 refine LW O$ N5 O O$ N5 O O$ Me O$ M4 O$ Mz.qb (e:=[(2,_),(10,_)]) ?_
 refine qN O$ LW O$ M4 O$ LZ Tryz.func255 O ?_
 exact⟨_,rfl,y3,s3,rfl,by omega,by omega,ar,mS,(aK.trans ao).trans au⟩
theorem z5i {w:World}{g n cap:Nat}{d:Array Nat}(h:Ph w g n cap d)(a b:Nat)(ji:a+12<b)(hb:b<=n)(hn:n<50):
  Mw Tryz.prog 244 [.slice (some ⟨g,0,none⟩) n cap,I (a:Int),I (b:Int)] w λu w'=>∃p t:Nat,u= .tuple #[I (p:Int),I (t:Int)]/\a<=p/\p<b/\t<=2/\Ph w' g n cap d/\Ext w w':=by
 have Hi:g<w.heap.size:=h.sl.lt O
 refine It (e:=[(0,_),(1,_),(2,_)]) Tryz.func244 O Tryz.ntmps244 O O$ qN O$ Me O$ Me O$ qM O$ Md O O$ Oa O O$ Me O$ qM O ?_
 rw[show(b:Int)-(a:Int)=((b-a:Nat):Int) by omega]
 refine M5 O O (Oo (cs:=[_]) MV O) ?_
 rintro _ w1 ⟨sb,rfl,qC,ad,aj⟩
 replace aj:M7 w1 sb [I ((0:Nat):Int)] 3:=aj
 refine qM O$ Md O O$ qV (Te O O (by omega))$ qV (SB O O (by omega))$ MT O O$ Me O$ qM O$ Md O O$ qV (Te O O (by omega))$ qV (SB O O (by omega))$ MT O O$ Me O$ qM O$ Md O O ?_
 refine qV (Te O O (by omega))$ qV (SB O O (by omega))$ MT O O$ M4 O$ Mz.qb (e:=[(0,_),(6,_),(7,_),(8,_),(9,_),(10,_),(11,_),(12,_)]) ?_
 refine run_seq$ qN O$ LW O$ PD O O$ LX ?_
 rw[show(a:Int)+((b-a:Nat):Int) / 4*1=((a+(b-a) / 4*1:Nat):Int) by omega,show(a:Int)+((b-a:Nat):Int) / 4*2=((a+(b-a) / 4*2:Nat):Int) by omega,show(a:Int)+((b-a:Nat):Int) / 4*3=((a+(b-a) / 4*3:Nat):Int) by omega]
 refine M8 O (λh0=>?_)$ λh0=>?_
 ·refine run_seq$ qN O$ LW O$ PD O O$ LX$ M8 O (λh1=>?_)$ λh1=>?_
  ·omega
  ·refine py$ M0 O$ Md O O$ Md O O$ Mn zdj O (z3u (h.ext ad) aj (by omega) (a+(b-a) / 4*1) (a+(b-a) / 4*2) (a+(b-a) / 4*3) (by omega) (by omega) (by omega) (by omega)) ?_;rintro _ w2 ⟨p,s,rfl,hp,hs,am,lF,ao⟩;have af:Ext w w2:=ad.LS ao (λk e=>by omega);refine Me O$ qM O$ qV (M1 U3 O O am O)$ LX$ LU$ qN O$ O3 O O$ M4 O$ M8 O (λh2=>?_)$ λh2=>?_
   ·refine qN O$ LW O$ Me O$ M4 O$ LZ Tryz.func244 O ?_;exact⟨_,rfl,p,1,rfl,by omega,by omega,by omega,lF,af⟩
   ·refine qN O$ O3 O O$ M4 O$ M8 O (λh3=>?_)$ λh3=>?_
    ·refine qN O$ LW O$ Me O$ M4 O$ LZ Tryz.func244 O ?_;exact⟨_,rfl,p,2,rfl,by omega,by omega,by omega,lF,af⟩
    ·refine qN O$ LW O$ Me O$ M4 O$ LZ Tryz.func244 O ?_;exact⟨_,rfl,p,0,rfl,by omega,by omega,by omega,lF,af⟩
 ·omega
theorem z5j {w:World}{xb r:Nat}(hB:M7 w xb [Mh r] 373)(hr:r<18446744073709551616):
  Mw Tryz.prog 253 [ptr xb 0] w λu w'=>∃r':Nat,u=Mh r'/\r'<18446744073709551616/\M7 w' xb [Mh r'] 373/\Kp (λk=>k=xb) w w':=by
 refine It (e:=[(0,_)]) Tryz.func253 O Tryz.ntmps253 O O ?_
 have aw:=Ext.Mm w
 refine qN O$ M4 O$ run_seq$ Mo [9] (λw'=>Ext w w') (by kernel_rfl) O$ qL [1,2,7,8,9] 0 O (λ_ h=>MH O) aw$ qL [2,7,8,9] 1 O (λ_ h=>N4 O) aw$ qL [7,8,9] 2 O (λ_ h=>M1 ZV O O (h.LY hB) O) aw$ qL [4,5,6,7,8,9] 3 O (λ_ h=>MH O) aw$ qL [5,6,7,8,9] 4 O (λ_ h=>N4 O) aw$ qL [6,7,8,9] 5 O (λ_ h=>M1 ZV O O (h.LY hB) O) aw$ qL [7,8,9] 6 O (λ_ h=>NW 13 8192 O O (by decide) O) aw$ qL [8,9] 7 O (λ_ h=>Ya O O (by omega) (by omega)) aw$ qL [9] 8 O (λ_ h=>N4 O) aw ?_
 generalize iJ:r^^^r*8192%18446744073709551616=r1
 have cW:r1<18446744073709551616:=by rw[<-iJ];exact Nat.xor_lt_two_pow (n:=64) (by omega) (by omega)
 refine PH [9]$ qO 9$ MI (i:=9) O O (NT z1q O O O (aw.LY hB) (by simp)) ?_
 rintro w1 ⟨aj,aK⟩
 refine⟨trivial,?_⟩
 replace aj:M7 w1 xb [Mh r1] 373:=aj
 have aa:=Ext.Mm w1
 refine qE$ run_seq$ Mo [9] (λw'=>Ext w1 w') (by kernel_rfl) O$ qL [1,2,7,8,9] 0 O (λ_ h=>MH O) aa$ qL [2,7,8,9] 1 O (λ_ h=>N4 O) aa$ qL [7,8,9] 2 O (λ_ h=>M1 ZV O O (h.LY aj) O) aa$ qL [4,5,6,7,8,9] 3 O (λ_ h=>MH O) aa$ qL [5,6,7,8,9] 4 O (λ_ h=>N4 O) aa$ qL [6,7,8,9] 5 O (λ_ h=>M1 ZV O O (h.LY aj) O) aa$ qL [7,8,9] 6 O (λ_ h=>Qy 7 128 O O (by decide) O) aa$ qL [8,9] 7 O (λ_ h=>Ya O O (by omega) (by omega)) aa$ qL [9] 8 O (λ_ h=>N4 O) aa ?_
 generalize fR:r1^^^r1 / 128=r2
 have dB:r2<18446744073709551616:=by rw[<-fR];exact Nat.xor_lt_two_pow (n:=64) (by omega) (by omega)
 refine PH [9]$ qO 9$ MI (i:=9) O O (NT z1q O O O (aa.LY aj) (by simp)) ?_
 rintro w2 ⟨am,ao⟩
 refine⟨trivial,?_⟩
 replace am:M7 w2 xb [Mh r2] 373:=am
 have ae:=Ext.Mm w2
 refine qE$ run_seq$ Mo [9] (λw'=>Ext w2 w') (by kernel_rfl) O$ qL [1,2,7,8,9] 0 O (λ_ h=>MH O) ae$ qL [2,7,8,9] 1 O (λ_ h=>N4 O) ae$ qL [7,8,9] 2 O (λ_ h=>M1 ZV O O (h.LY am) O) ae$ qL [4,5,6,7,8,9] 3 O (λ_ h=>MH O) ae$ qL [5,6,7,8,9] 4 O (λ_ h=>N4 O) ae$ qL [6,7,8,9] 5 O (λ_ h=>M1 ZV O O (h.LY am) O) ae$ qL [7,8,9] 6 O (λ_ h=>NW 17 131072 O O (by decide) O) ae$ qL [8,9] 7 O (λ_ h=>Ya O O (by omega) (by omega)) ae$ qL [9] 8 O (λ_ h=>N4 O) ae ?_
 generalize Hj:r2^^^r2*131072%18446744073709551616=r3
 have ci:r3<18446744073709551616:=by rw[<-Hj];exact Nat.xor_lt_two_pow (n:=64) (by omega) (by omega)
 refine PH [9]$ qO 9$ MI (i:=9) O O (NT z1q O O O (ae.LY am) (by simp)) ?_
 rintro w3 ⟨ar,au⟩
 refine⟨trivial,?_⟩
 replace ar:M7 w3 xb [Mh r3] 373:=ar
 refine qE$ Mz.qb (e:=[(0,_),(2,_)]) ?_
 refine qN O$ LW O$ MC O$ qV (M1 ZV O O ar O)$ M4 O$ LZ Tryz.func253 O ?_
 exact⟨_,rfl,r3,rfl,ci,ar,(aw.kp.trans aK).trans ((aa.kp.trans ao).trans (ae.kp.trans au))⟩
theorem z3T (x:Nat)(hx:x<18446744073709551616)(w:World):Mw Tryz.prog 239 [Mh x] w λv w'=>v=I (MR x:Int)/\w'=w:=by
 refine It (e:=[(0,_)]) Tryz.func239 O Tryz.ntmps239 O O$ qN O$ M4 O$ run_seq$ An O$ py$ qN O$ LW O$ Mn YN O (QP x hx w) ?_
 rintro _ w ⟨rfl,rfl⟩
 refine M4 O$ LZ Tryz.func239 O ?_
 exact⟨_,rfl,rfl,rfl⟩
theorem z6E (x:Nat)(hx:x<4294967296)(w:World):Mw Tryz.prog 252 [I (x:Int)] w λv w'=>v=Mh (2^MR x)/\w'=w:=by
 have hl:MR x<=32:=NR (by omega)
 have hp:2^MR x<=2^32:=Nat.pow_le_pow_right (by decide) hl
 refine It (e:=[(0,_)]) Tryz.func252 O Tryz.ntmps252 O O$ qN O$ Me O$ qM O$ LW O$ qV ((by first|exact MQ O U3 z7o (by omega)|exact Ob O U3 z7o)) ?_
 refine Mn za4 O (z3T x (by omega) w) ?_
 rintro _ w ⟨rfl,rfl⟩
 refine qV (NW (MR x) (2^MR x) O O (by omega) O) ?_
 rw[show 1*2^MR x%18446744073709551616=2^MR x by rw[Nat.one_mul];exact Nat.mod_eq_of_lt (by omega)]
 refine M4 O$ LZ Tryz.func252 O ?_
 exact⟨_,rfl,rfl,rfl⟩
open Go.Sort in
theorem z6T {d:Array Nat}{a b i j:Nat}(h1:a<=i)(h2:i<b)(h3:a<=j)(h4:j<b)(h5:b<=d.size):PermIn a b d (swp d i j):=swp_permIn d a b i j h1 h2 h3 h4 h5
theorem z6H {w:World}{g n cap:Nat}{d:Array Nat}(h:Ph w g n cap d)(a b:Nat)(ji:a+12<b)(hb:b<=n)(hn:n<50):
  Mw Tryz.prog 243 [.slice (some ⟨g,0,none⟩) n cap,I (a:Int),I (b:Int)] w λu w'=>u= .tuple #[]/\∃d',Go.Sort.PermIn a b d d'/\Ph w' g n cap d'/\Kp (λk=>k=g) w w':=by
 have Hi:g<w.heap.size:=h.sl.lt O
 have un:2^(MR (b-a)-1)<=b-a:=X5 (by omega)
 have oz:2^MR (b-a)<=2*(b-a):=by
  have sj:MR (b-a)≠0:=λe=>by have:=Tl (v:=b-a);rw[e] at this;omega
  rw[show MR (b-a)=MR (b-a)-1+1 by omega,Nat.pow_succ];omega
 have AG:1<=2^MR (b-a):=Nat.one_le_two_pow
 refine It (e:=[(0,_),(1,_),(2,_)]) Tryz.func243 O Tryz.ntmps243 O O$ qN O$ Md O O$ Oa O O ?_
 rw[show(b:Int)-(a:Int)=((b-a:Nat):Int) by omega]
 refine Me O$ qM O$ LW O$ PD O O$ LX$ M8 O (λh0=>?_)$ λh0=>?_
 ·refine qN O$ LW O$ qV ((by first|exact MQ O U3 ZV (by omega)|exact Ob O U3 ZV)) ?_;refine M5 O O (Oo (cs:=[_]) z1q O) ?_;rintro _ w1 ⟨xb,rfl,KZ,ad,aj⟩;refine Mb O (NT z1q O O O aj (by simp)) ?_;rintro w2 ⟨am,ao⟩;have af:Ext w w2:=ad.LS ao (λk e=>by omega);replace am:M7 w2 xb [Mh (b-a)] 373:=am;refine qM O$ LW O$ Mn zcP O (z6E (b-a) (by omega) _) ?_;rintro _ w2 ⟨rfl,rfl⟩
  generalize 2^MR (b-a)=M at oz AG
  refine Me O$ qM O$ Md O O$ qV (Te O O (by omega))$ qV (SB O O (by omega))$ MT O O$ Oa O O$ M4 O$ LU ?_;rw[show(a:Int)+((b-a:Nat):Int) / 4*2-1=((a+(b-a) / 4*2-1:Nat):Int) by omega];refine Oh (α:=Nat×Array Nat×Nat) ((a+(b-a) / 4*2-1,d,b-a)) (λy=>[(0,.slice (some ⟨g,0,none⟩) n cap),(1,I (a:Int)),(6,I ((b-a:Nat):Int)),(7,ptr xb 0),(8,Mh M),(9,I (y.1:Int))]) (λy w'=>Ph w' g n cap y.2.1/\M7 w' xb [Mh y.2.2] 373/\y.2.2<18446744073709551616/\Go.Sort.PermIn a b d y.2.1/\Kp (λk=>k=g) w w'/\a<=y.1) (λy=>a+b+2-y.1) ?hI ?hround
  case hI=>exact⟨h.ext af,am,by dsimp only;omega,Go.Sort.permIn_refl _ _ _,af.kp,by dsimp only;omega⟩
  case hround=>
   rintro⟨idx,d4,r⟩ w4 ⟨dZ,aH,bH,iX,av,lC⟩ ih;dsimp only at dZ aH bH iX av lC;have cG:=dZ.size
   try dsimp only
   refine run_seq$ qN O$ Md O O$ LW O$ qV (Te O O (by omega))$ qV (SB O O (by omega))$ MT O O$ MT O O$ zle O O$ LX$ M8 O (λh1=>?_)$ λh1=>?_
   ·have oY:idx<b:=by omega
    refine py$ run_seq$ LU$ qN O$ Mn zfj O (z5j aH bH) ?_;rintro _ w5 ⟨r5,rfl,cg,aI,ak⟩;have aT:=dZ.kp ak (λe=>by omega);have bT:Kp (λk=>k=g) w w5:=av.LS ak (λk e=> .inl (by omega));refine LW O$ qV (SC (m:=M) (n:=1) O O O (by show M<2^64;omega) (by omega)) ?_;refine qV (Rk O O (by omega) (by omega)) ?_;have Bf:r5&&&(M-1)<=M-1:=Nat.and_le_right
    generalize r5&&&(M-1)=q at Bf
    refine qV (MK O z7o U3 (by omega))$ M4 O$ run_seq$ qN O$ Md O O$ PD O O$ LX$ MM (λe' w'=>∃o:Nat,e'=[(0,.slice (some ⟨g,0,none⟩) n cap),(1,I (a:Int)),(6,I ((b-a:Nat):Int)),(7,ptr xb 0),(8,Mh M),(9,I (idx:Int)),(10,I (o:Int))]/\w'=w5/\o<b-a) ?Bg$ λBg=>?Bh
    case Bg=>
     rintro e' w5' ⟨o,rfl,rfl,ho⟩;have aB:=Ext.Mm w5';refine Mo [17,19] (λw'=>Ext w5' w') (by kernel_rfl) O$ qL [16,17,18,19] 0 O (λ_ h=>MH O) aB$ qL [16,17,18,19] 1 O (λ_ h=>MH O) aB$ MY (i:=2) O (by kernel_rfl) O O (λ_=>MH O) (aB)$ MY (i:=3) O (by kernel_rfl) O O (λ_=>MH O) (aB)$ MY (i:=4) O (by kernel_rfl) O O (λ_=>MH O) (aB)$ MY (i:=5) O (by kernel_rfl) O O (λ_=>R4 O O (by omega)) (aB)$ qL [10,11,16,17,18,19] 6 O (λ_ h=>MH O) aB$ qL [9,10,11,16,17,18,19] 7 O (λ_ h=>MH O) aB$ qL [9,10,11,16,17,18,19] 8 O (λ_ h=>MH O) aB$ qL [10,11,16,17,18,19] 9 O (λ_ h=>R4 O O (by omega)) aB$ qL [11,16,17,18,19] 10 O (λ_ h=>MS Mr Mi O O (by omega)) aB$ qL [14,15,16,17,18,19] 12 O (λ_ h=>MH O) aB$ qL [14,15,16,17,18,19] 13 O (λ_ h=>MH O) aB ?_;refine qL [15,16,17,18,19] 14 O (λ_ h=>MS Mr Mi O O (by omega)) aB$ qL [16,17,18,19] 11 O (λ_ h=>MA Np O O ((aT.ext h).get (i:=a+o) (by omega))) aB$ qL [16,17,18,19] 15 O (λ_ h=>MA Np O O ((aT.ext h).get (i:=idx) (by omega))) aB$ qL [17,18,19] 16 O (λ_ h=>MS Mr Mi O O (by omega)) aB$ PH [17]$ qO 17$ MI (i:=17) O O (Ox Mi O O O (aT.ext aB).sl ((aT.ext aB).WH (by omega))) ?_;rintro w8a ⟨fP,fQ⟩;refine⟨trivial,?_⟩;have cL:=(aT.ext aB).set fP;refine M3 18 O (MS Mr Mi O O (by omega)) trivial$ qO 19$ MI (i:=19) O O (Ox Mi O O O cL.sl (cL.WH (by omega))) ?_;rintro w8 ⟨jL,jM⟩;refine⟨trivial,?_⟩;have jN:=cL.set jL;have ff:Kp (λk=>k=g) w5' w8:=aB.kp.trans (fQ.trans jM);refine qE$ LV$ M0 O$ LW O$ MT O O$ M4 O ?_;rw[show(idx:Int)+1=((idx+1:Nat):Int) by omega];exact(ih (idx+1,Go.Sort.swp d4 idx (a+o),r5) _ ⟨jN,ff.LY aI (by omega),cg,Go.Sort.permIn_trans _ _ _ a b iX (z6T lC oY (by omega) (by omega) (by omega)),bT.trans ff,by dsimp only;omega⟩ (by dsimp only;omega)).qb
    case Bh=>
     refine M8 O (λh2=>?_)$ λh2=>?_
     ·refine M0 O$ Md O O$ Oa O O$ M4 O ?_;rw[show(q:Int)-((b-a:Nat):Int)=((q-(b-a):Nat):Int) by omega];exact(Bg _ _ ⟨q-(b-a),rfl,rfl,by omega⟩).qb
     ·refine py ?_;exact(Bg _ _ ⟨q,rfl,rfl,by omega⟩).qb
   ·refine M6 O$ Nq Tryz.func243 O ?_;exact⟨_,rfl,rfl,d4,iX,dZ,av⟩
 ·omega
end Go.Proofs.YtfgjaafcgghnoaaGreatDoor
