/- Merged by program. -/
import Derived.Test.YtfgjaafcgghnoaaGreatDoorCNp2
import Derived.Sort.AssemblyPlain
set_option linter.all false
set_option maxRecDepth 1000000
set_option maxHeartbeats 16000000
namespace Go.Proofs.YtfgjaafcgghnoaaGreatDoor
open Go Go.RowKit
/-! ### Runs -/
def expand:Bool->List Nat->List Bool
 |_,[]=>[]
 |b,n::r=>List.replicate n b++expand (!b) r
theorem Tb:∀(b:Bool) (r s:List Nat),expand b (r++s)=expand b r++expand (if r.length%2=0 then b else !b) s
 |b,[],s=>by simp[expand]
 | b, n :: r, s => by
   rw[List.cons_append,expand,expand,Tb (!b) r s,List.append_assoc]
   congr 2
   rcases Nat.mod_two_eq_zero_or_one r.length with e| e
   ·rw[if_pos e,if_neg (by rw[List.length_cons];omega)]
   ·rw[if_neg (by omega),if_pos (by rw[List.length_cons];omega)];simp
theorem Oy:∀(b:Bool) (r:List Nat),(expand b r).length=r.sum
 |_,[]=>rfl
 |b,n::r=>by rw[expand,List.length_append,List.length_replicate,Oy (!b) r,List.sum_cons]
def MW (rs:List Nat)(f:Bool):List Nat:=
 let rs':=if f !=(rs.length%2==1) then rs++[0] else rs
 rs'.modify (rs'.length-1) (·+1)
theorem S7 (l:List Nat)(n:Nat):(l++[n]).modify ((l++[n]).length-1) (·+1)=l++[n+1]:=by
 have key:∀l:List Nat,(l++[n]).modify l.length (·+1)=l++[n+1]:=λl=>by
  induction l with
  |nil=>rfl
  |cons a l ih=>simpa using ih
 have:(l++[n]).length-1=l.length:=by simp
 rw[this,key]
structure Pc (rs:List Nat)(fs:List Bool):Prop where
 ne:rs≠[]
 exp:expand true rs=fs
 pos:∀n∈rs.drop 1,1<=n
theorem Pc.zero:Pc [0] []:=⟨by simp,rfl,by simp⟩
theorem Pc.step {rs:List Nat}{fs:List Bool}(h:Pc rs fs)(f:Bool):Pc (MW rs f) (fs++[f]):=by
 obtain⟨h1,h2,h3⟩:=h
 obtain⟨l,n,rfl⟩:∃l n,rs=l++[n]:=⟨rs.dropLast,rs.getLast h1,(List.dropLast_concat_getLast h1).symm⟩
 unfold MW
 dsimp only
 have hlen:(l++[n]).length=l.length+1:=by simp
 rw[hlen]
 split
 ·rename_i hf
  rw[S7];refine⟨by simp,?_,λk hk=>?_⟩
  ·rw[Tb,h2,hlen]
   congr 1
   rcases Nat.mod_two_eq_zero_or_one l.length with e|e<;>cases f<;>simp[expand,e,Nat.add_mod] at hf⊢
  ·rw[List.drop_append_of_le_length (by rw[hlen];omega)] at hk;rcases List.mem_append.1 hk with hk|hk
   ·exact h3 k hk
   ·simp at hk;omega
 ·rename_i hf
  rw[S7];refine⟨by simp,?_,λk hk=>?_⟩
  ·rw[Tb] at h2⊢;rw[<-h2,List.append_assoc]
   congr 1
   simp only[expand,List.append_nil,List.replicate_succ']
   congr 1
   rcases Nat.mod_two_eq_zero_or_one l.length with e|e<;>cases f<;>simp[e,Nat.add_mod] at hf⊢
  ·cases l with
   |nil=>simp at hk
   | cons a l =>
     rw[List.cons_append,List.drop_succ_cons,List.drop_zero] at hk h3;rcases List.mem_append.1 hk with hk|hk
     ·exact h3 k (List.mem_append_left _ hk)
     ·simp at hk;omega
def copyL:Bool->List Nat->List Nat->List Nat
 |b,[],ref=>if b then ref else []
 |b,n::r,ref=>(if b then ref.take n else [])++copyL (!b) r (ref.drop n)
def sel:List Nat->List Bool->List Nat
 |x::l,f::fs=>if f then x::sel l fs else sel l fs
 |_,_=>[]
theorem z2G:∀{a b:List Nat} {fs gs:List Bool},a.length=fs.length->sel (a++b) (fs++gs)=sel a fs++sel b gs
 |[],b,[],gs,_=>rfl
 | x :: a, b, f :: fs, gs, h => by
   have h':a.length=fs.length:=by simpa using h
   rw[List.cons_append,List.cons_append,sel,sel,z2G h'];cases f<;>simp
theorem YV:∀(l:List Nat) (b:Bool),sel l (List.replicate l.length b)=if b then l else []
 |[],b=>by cases b<;>rfl
 | x :: l, b => by
   rw[List.length_cons,List.replicate_succ,sel,YV l b];cases b<;>rfl
theorem z06:∀(b:Bool) (rs:List Nat) (m:Nat) (ref:List Nat),ref.length=(rs++[m]).sum->copyL b rs ref=sel ref (expand b (rs++[m]))
 | b, [], m, ref, h => by
   have hm:m=ref.length:=by simpa using h.symm
   subst hm;simp only[copyL,List.nil_append,expand,List.append_nil]
   rw[YV]
 | b, n :: rs, m, ref, h => by
   rw[List.cons_append,List.sum_cons] at h;have hl:(ref.take n).length=n:=by rw[List.length_take];omega
   rw[copyL,List.cons_append,expand,z06 (!b) rs m (ref.drop n) (by rw[List.length_drop];omega)]
   conv=>rhs;rw[<-List.take_append_drop n ref,z2G (by rw[hl,List.length_replicate])]
   congr 1
   have:=YV (ref.take n) b;rw[hl] at this;exact this.symm
/-! ### Rows of numbers that follow one another -/
def runLen:Nat->List Nat->Nat
 |_,[]=>0
 |x,y::l=>if y=x+1 then runLen y l+1 else 0
theorem Sv:∀(x:Nat) (l:List Nat),runLen x l<=l.length
 |_,[]=>Nat.le_refl _
 | x, y :: l => by
   unfold runLen;split
   ·have:=Sv y l;simp;omega
   ·exact Nat.zero_le _
theorem Rg:∀(x:Nat) (l:List Nat) (i:Nat),i<runLen x l->l[i]? =some (x+1+i)
 |_,[],i,h=>by simp[runLen] at h
 | x, y :: l, i, h => by
   unfold runLen at h;split at h
   ·rename_i e
    subst e
    cases i with
    |zero=>rfl
    |succ i=>rw[List.getElem?_cons_succ,Rg (x+1) l i (by omega)];congr 1;omega
   ·omega
theorem S8:∀(x:Nat) (l:List Nat) (y:Nat),l[runLen x l]? =some y->y≠x+1+runLen x l
 |_,[],y,h=>by simp at h
 | x, z :: l, y, h => by
   unfold runLen at h⊢;split
   ·rename_i e
    rw[if_pos e,List.getElem?_cons_succ] at h;have:=S8 z l y h;omega
   ·rename_i e
    rw[if_neg e,List.getElem?_cons_zero] at h;cases h;omega
def rowsN (least:Nat):List Nat->List (Nat×Nat)×List Nat
 |[]=>([],[])
 | x :: l =>
   let n:=runLen x l+1
   let q:=rowsN least (l.drop (runLen x l))
   if 0<least/\least<=n then((x,n)::q.1,q.2) else(q.1,x::l.take (runLen x l)++q.2)
termination_by l=>l.length
decreasing_by simp[List.length_drop];omega
def MQ (l:List (Nat×Nat)):List Nat:=l.flatMap λp=>(List.range p.2).map (p.1+·)
abbrev Ris (l:List Nat):Prop:=l.Pairwise (·<·)
theorem z6w (x:Nat)(l:List Nat):x::l.take (runLen x l)=(List.range (runLen x l+1)).map (x+·):=by
 apply List.ext_getElem?
 intro i
 have hle:=Sv x l
 cases i with
 |zero=>simp
 | succ i =>
   rw[List.getElem?_cons_succ,List.getElem?_take,List.getElem?_map];split
   ·rename_i h
    rw[Rg x l i h,List.getElem?_range (by omega)];simp;omega
   ·rw[List.getElem?_eq_none (by simp;omega)];rfl
theorem Pq (least:Nat):∀(l:List Nat),(MQ (rowsN least l).1++(rowsN least l).2).Perm l
 |[]=>by simp[rowsN,MQ]
 | x :: l => by
   have ih:=Pq least (l.drop (runLen x l));have hx:=z6w x l;have hc:x::l=(x::l.take (runLen x l))++l.drop (runLen x l):=by rw[List.cons_append,List.take_append_drop]
   rw[rowsN];split
   ·rw[show MQ ((x,runLen x l+1)::(rowsN least (l.drop (runLen x l))).1)=(List.range (runLen x l+1)).map (x+·)++MQ (rowsN least (l.drop (runLen x l))).1 by simp[MQ]];rw[<-hx,List.append_assoc]
    conv=>rhs;rw[hc]
    exact ih.append_left _
   ·conv=>rhs;rw[hc]
    refine List.Perm.trans ?_$ ih.append_left _;rw[<-List.append_assoc,<-List.append_assoc];exact(List.perm_append_comm).append_right _
 termination_by l=>l.length
 decreasing_by simp[List.length_drop];omega
def Zc (z:Int):Nat:=if 0<=z then(2*z).toNat else(-2*z-1).toNat
def zag (n:Nat):Int:=if n%2=0 then((n / 2:Nat):Int) else -((n / 2:Nat):Int)-1
theorem z3n (z:Int):zag (Zc z)=z:=by
 unfold Zc zag
 split
 ·rw[if_pos (by omega)];omega
 ·rw[if_neg (by omega)];omega
theorem US {z:Int}{n:Nat}(h1: -(n:Int)<=z)(h2:z<(n:Int)):Zc z<2*n:=by
 unfold Zc
 split<;>omega
structure NT where
 LJ:Nat
 interval:Nat
 zeta:Nat
def N5 (succ ref:List Nat):List Nat:=ref.foldl (λrs y=>MW rs (decide (y∈succ))) [0]
theorem OM (succ ref:List Nat):Pc (N5 succ ref) (ref.map λy=>decide (y∈succ)):=by
 unfold N5
 have key:∀(l:List Nat) (rs:List Nat) (fs:List Bool),Pc rs fs->Pc (l.foldl (λrs y=>MW rs (decide (y∈succ))) rs) (fs++l.map λy=>decide (y∈succ)):=by
  intro l
  induction l with
  |nil=>intro rs fs h;simpa using h
  | cons y l ih =>
    intro rs fs h;have:=ih _ _ (h.step (decide (y∈succ)))
    simpa using this
 simpa using key ref [0] [] Pc.zero
def leftOf (succ ref:List Nat):List Nat:=succ.filter λv=>decide (v∉ref)
theorem z2S (P:Nat->Bool):∀l:List Nat,sel l (l.map P)=l.filter P
 |[]=>rfl
 | x :: l => by
   rw[List.map_cons,sel,z2S P l];cases h:P x<;>simp[h]
theorem z43 (succ ref:List Nat):copyL true (N5 succ ref).dropLast ref=ref.filter λy=>decide (y∈succ):=by
 have h:=OM succ ref
 obtain⟨l,n,e⟩:∃l n,N5 succ ref=l++[n]:=⟨_,_,(List.dropLast_concat_getLast h.ne).symm⟩
 rw[e,List.dropLast_concat]
 have he:=h.exp
 rw[e] at he
 have hl:ref.length=(l++[n]).sum:=by
  have:=congrArg List.length he;rw[Oy,List.length_map] at this;exact this.symm
 rw[z06 true l n ref hl,he,z2S]
def runNums:Nat->List Nat->List (Cd×Nat)
 |_,[]=>[]
 |i,n::r=>(.gamma,n-min i 1)::runNums (i+1) r
def longNums (x least:Nat):Option Nat->List (Nat×Nat)->List (Cd×Nat)
 |_,[]=>[]
 |none,p::r=>(.gamma,Zc ((p.1:Int)-x))::(.gamma,p.2-least)::longNums x least (some (p.1+p.2-1)) r
 |some e,p::r=>(.gamma,p.1-e-2)::(.gamma,p.2-least)::longNums x least (some (p.1+p.2-1)) r
def restNums (x k:Nat):Option Nat->List Nat->List (Cd×Nat)
 |_,[]=>[]
 |none,v::r=>(.zeta k,Zc ((v:Int)-x))::restNums x k (some v) r
 |some u,v::r=>(.zeta k,v-u-1)::restNums x k (some v) r
def Nr (p:NT)(x:Nat)(succ ref:List Nat)(r:Nat):List (Cd×Nat):=
 (.gamma,succ.length)::if succ=[] then [] else
  (if 0<p.LJ then [(.unary,r)] else [])++
  ((if 0<r then(.gamma,(N5 succ ref).length-1)::runNums 0 (N5 succ ref).dropLast else [])++
  (if leftOf succ ref=[] then [] else
   (if 0<p.interval then(.gamma,(rowsN p.interval (leftOf succ ref)).1.length)::longNums x p.interval none (rowsN p.interval (leftOf succ ref)).1 else [])++
   restNums x p.zeta none (rowsN p.interval (leftOf succ ref)).2))
def LG (l:List (Cd×Nat)):List Bool:=l.flatMap λp=>p.1.enc p.2
theorem z2l {succ ref:List Nat}(hs:Ris succ)(hr:Ris ref)(p:Nat):(ref.filter (λy=>decide (y∈succ))++(MQ (rowsN p (leftOf succ ref)).1++(rowsN p (leftOf succ ref)).2)).Perm succ:=by
 have h1:(ref.filter λy=>decide (y∈succ)).Perm (succ.filter λv=>decide (v∈ref)):=by
  refine(List.perm_ext_iff_of_nodup (hr.imp (λh=>by omega) |>.filter _) (hs.imp (λh=>by omega) |>.filter _)).2 λa=>?_;simp only[List.mem_filter,decide_eq_true_eq];exact And.comm
 refine(h1.append (Pq p _)).trans ?_
 unfold leftOf
 have:=List.filter_append_perm (λv=>decide (v∈ref)) succ
 refine List.Perm.trans ?_ this
 refine List.Perm.append_left _ ?_
 simp
theorem z0Y {a b:List Nat}(h:a.Perm b)(ha:a.Pairwise (·<=·))(hb:Ris b):a=b:=
 h.eq_of_pairwise (le:=(·<=·)) (λx y _ _ h1 h2=>by omega) ha (hb.imp (λh=>by omega))
def OE (least:Nat):Nat->List (Nat×Nat)->Prop
 |_,[]=>True
 |lo,p::r=>lo<=p.1/\1<=p.2/\least<=p.2/\OE least (p.1+p.2+1) r
theorem OE.mono {least:Nat}:∀{r:List (Nat×Nat)} {a b:Nat},OE least b r->a<=b->OE least a r
 |[],_,_,_,_=>trivial
 |p::r,a,b,h,hab=>⟨Nat.le_trans hab h.1,h.2⟩
theorem z11 {x:Nat}{l:List Nat}(h:Ris (x::l)):∀y∈l.drop (runLen x l),x+runLen x l+2<=y:=by
 intro y hy
 obtain⟨j,hj,e⟩:=List.mem_iff_getElem.1 hy
 rw[List.getElem_drop] at e
 rw[List.length_drop] at hj
 obtain⟨h1,h2⟩:=List.pairwise_cons.1 h
 have hle:=Sv x l
 have h0:runLen x l<l.length:=by omega
 obtain⟨z,hz⟩:∃z,l[runLen x l]? =some z:=⟨_,List.getElem?_eq_getElem h0⟩
 have hs:=S8 x l z hz
 have hz':=(List.getElem?_eq_some_iff.1 hz).2
 have hzx:x+runLen x l<z:=by
  by_cases e0:runLen x l=0
  ·have:=h1 z (List.mem_of_getElem? hz);omega
  ·have hg:=Rg x l (runLen x l-1) (by omega);obtain⟨g1,g2⟩:=List.getElem?_eq_some_iff.1 hg;have:=List.pairwise_iff_getElem.1 h2 (runLen x l-1) (runLen x l) g1 h0 (by omega);rw[g2,hz'] at this;omega
 have hzy:z<=y:=by
  by_cases e0:j=0
  ·subst e0;simp at e;rw[<-e,<-hz'];exact Nat.le_refl _
  ·have:=List.pairwise_iff_getElem.1 h2 (runLen x l) (runLen x l+j) h0 (by omega) (by omega);rw[e,hz'] at this;omega
 omega
theorem QH (least:Nat):∀(l:List Nat) (lo:Nat),Ris l->(∀y∈l,lo<=y)->OE least lo (rowsN least l).1
 |[],lo,_,_=>by rw[rowsN];trivial
 | x :: l, lo, h, hl => by
   have hb:=z11 h;have h2:Ris (l.drop (runLen x l)):=(List.pairwise_cons.1 h).2.sublist (List.drop_sublist _ _);rw[rowsN];split
   ·rename_i hc
    refine⟨hl x (by simp),by omega,hc.2,QH least _ _ h2 λy hy=>?_⟩;have:=hb y hy;omega
   ·refine QH least _ _ h2 λy hy=>?_;have:=hb y hy;have:=hl x (by simp);omega
 termination_by l=>l.length
 decreasing_by all_goals (simp[List.length_drop];omega)
theorem Q5 (least:Nat):∀(l:List Nat),(rowsN least l).2.Sublist l
 |[]=>by rw[rowsN];exact List.Sublist.refl _
 | x :: l => by
   have ih:=Q5 least (l.drop (runLen x l));rw[rowsN];split
   ·exact(ih.trans (List.drop_sublist _ _)).cons x
   ·have hc:x::l=(x::l.take (runLen x l))++l.drop (runLen x l):=by rw[List.cons_append,List.take_append_drop]
    conv=>rhs;rw[hc]
    exact ih.append_left _
 termination_by l=>l.length
 decreasing_by simp[List.length_drop];omega
abbrev LO (n:Nat):Value:= .int .u32 (n:Int)
theorem z0m (m:Nat)(h:m<18446744073709551616):m^^^18446744073709551615=18446744073709551615-m:=by
 have h1:=congrArg BitVec.toNat (BitVec.xor_allOnes (x:=BitVec.ofNat 64 m))
 rw[BitVec.toNat_xor,BitVec.toNat_not,BitVec.toNat_allOnes,BitVec.toNat_ofNat] at h1
 rw[show(2:Nat)^64=18446744073709551616 from rfl,Nat.mod_eq_of_lt h] at h1
 exact h1
section
variable {P:Program}{e:Env}{d:Option Nat}{ty t t':TypeId}{pos:String}{aft:Array Edge}{g:Option (Nat×Bool)}{x y:Operand}{w:World}{m:Nat}
theorem zbj (hx:look e x=some (I (m:Int)))(hy:look e y=some (I 0))(hm:m<2^63):Y P e ⟨d,.binOp .xor t x y t',ty,pos,aft,g⟩ (I (m:Int)) w w:=fun ρ hρ=>by
 have h1:m<2^IntKind.i64.bits:=by simp only[IntKind.bits];omega
 have h2:(BitVec.ofInt IntKind.i64.bits 0).toNat=0:=by decide
 simp only[execOp,eqGuard_xor,binOp_xor,intBits_xor,hρ _ _ hx,hρ _ _ hy,pure_bind,Sem.run_pure,bits,BitVec.toNat_xor,MA h1,h2,Nat.xor_zero]
 rw[wrap_i64 ⟨by omega,by omega⟩]
theorem zcP (hx:look e x=some (I (m:Int)))(hy:look e y=some (I (-1)))(hm:m<2^63):Y P e ⟨d,.binOp .xor t x y t',ty,pos,aft,g⟩ (I (-(m:Int)-1)) w w:=fun ρ hρ=>by
 have h1:m<2^IntKind.i64.bits:=by simp only[IntKind.bits];omega
 have h2:(BitVec.ofInt IntKind.i64.bits (-1)).toNat=18446744073709551615:=by decide
 simp only[execOp,eqGuard_xor,binOp_xor,intBits_xor,hρ _ _ hx,hρ _ _ hy,pure_bind,Sem.run_pure,bits,BitVec.toNat_xor,MA h1,h2]
 rw[z0m m (by omega)]
 congr 2
 have h3:((18446744073709551615-m:Nat):Int)=-(m:Int)-1+18446744073709551616:=by omega
 rw[h3]
 simp only[IntKind.wrap,IntKind.bits,IntKind.signed]
 simp
 omega
end
/-! ### Numbers with a sign -/
theorem z3r (z:Int)(h: -4611686018427387904<=z/\z<4611686018427387904)(w:World):LP Tryz.prog 231 [I z] w λu w'=>u=Ly (Zc z)/\w'=w:=by
 rcases Int.lt_or_le z 0 with h0|h0
 ·obtain⟨n,rfl⟩:∃n:Nat,z=-(n:Int)-1:=⟨(-z-1).toNat,by omega⟩;refine Lb (e:=[(0,_)]) Tryz.func231 O Tryz.ntmps231 O O$ qN O$ Lw O$ qM O$ Le O$ qV (ycv (b:=((18446744073709551615-n:Nat):Int)) O U2 MP (by simp only[IntKind.wrap,IntKind.bits,IntKind.signed];simp;omega)) ?_;refine qV (Na 1 2 O O (by decide) O)$ Le O$ qV (ysr 63 O O (by decide)) ?_;rw[show(-(n:Int)-1) / 2^63=-1 by omega];refine qV (ycv (b:=((18446744073709551615:Nat):Int)) O U2 MP (by decide))$ qV (Wp O O (by omega) (by omega))$ Lk O$ Lh Tryz.func231 O (⟨_,rfl,?_,rfl⟩);rw[z0m _ (by omega)];simp only[resVal]
  congr 2
  unfold Zc;rw[if_neg (by omega)];omega
 ·obtain⟨n,rfl⟩:∃n:Nat,z=(n:Int):=⟨z.toNat,by omega⟩;refine Lb (e:=[(0,_)]) Tryz.func231 O Tryz.ntmps231 O O$ qN O$ Lw O$ qM O$ Le O$ qV ((by first|exact Mc O U2 MP (by omega)|exact Ny O U2 MP)) ?_;refine qV (Na 1 2 O O (by decide) O)$ Le O$ qV (Qg 63 9223372036854775808 O O (by decide) O)$ qV ((by first|exact Mc O U2 MP (by omega)|exact Ny O U2 MP)) ?_;refine qV (Wp O O (by omega) (by omega))$ Lk O$ Lh Tryz.func231 O (⟨_,rfl,?_,rfl⟩);rw[show n / 9223372036854775808=0 by omega,Nat.xor_zero];simp only[resVal]
  congr 2
  unfold Zc;rw[if_pos (by omega)];omega
theorem z2N (n:Nat)(h:n<9223372036854775808)(w:World):LP Tryz.prog 237 [Ly n] w λu w'=>u=I (zag n)/\w'=w:=by
 refine Lb (e:=[(0,_)]) Tryz.func237 O Tryz.ntmps237 O O$ qN O$ Lw O$ qM O$ Le O$ qV (Qg 1 2 O O (by decide) O)$ qV (M3 O MP U2 (by omega))$ Le O$ qV (Qj O O (by omega) (by omega)) ?_
 rw[Nat.and_one_is_mod]
 refine qV (M3 O MP U2 (by omega)) ?_
 rcases Nat.mod_two_eq_zero_or_one n with h0|h0
 ·rw[h0];refine qV (yng O (by decide) (by decide))$ qV (zbj O O (by omega))$ Lk O$ Lh Tryz.func237 O (⟨_,rfl,?_,rfl⟩);simp only[resVal];unfold zag;rw[if_pos h0]
 ·rw[h0];refine qV (yng O (by decide) (by decide))$ qV (zcP O O (by omega))$ Lk O$ Lh Tryz.func237 O (⟨_,rfl,?_,rfl⟩);simp only[resVal];unfold zag;rw[if_neg (by omega)]
/-! ### The parameters -/
def VD (p:NT):List Value:=[I (p.LJ:Int),I (p.interval:Int),I (p.zeta:Int)]
abbrev lpV (p:NT):Value:= .agg (VD p).toArray
def NT.My (p:NT):Prop:=p.LJ<=16/\(p.interval=0\/2<=p.interval/\p.interval<=64)/\1<=p.zeta/\p.zeta<=16
theorem PA (p:NT)(hp:p.My)(w:World):LP Tryz.prog 146 [lpV p] w λu w'=>u=I 0/\Ext w w':=by
 obtain⟨h1,h2,h3,h4⟩:=hp
 refine Lb (e:=[(0,_)]) Tryz.func146 O Tryz.ntmps146 O O$ qN O$ Lm O O (Nc O (cs:=VD p) O) ?_
 rintro _ w1 ⟨b1,rfl,bR,ad,ai⟩
 replace ai:Lq w1 b1 [I (p.LJ:Int),I (p.interval:Int),I (p.zeta:Int)] 212:=ai
 refine Lk O$ run_seq$ Lc$ run_seq$ qN O$ Lt OS O$ qV (Lj U3 O O ai O)$ Mw O O$ M5$ Le O$ Lt OS O$ qV (Lj U3 O O ai O)$ MH O O$ M5 ?_
 refine M8 O O$ Lk O$ An O$ qN O$ Lt VL O$ qV (Lj U3 O O ai O)$ Mw O O$ M5$ Le O$ Lt VL O$ qV (Lj U3 O O ai O)$ MH O O$ M5$ M8 O O ?_
 refine Lk O$ An O$ Li O$ Lt PK O$ qV (Lj U3 O O ai O)$ Mu O O$ Oh (λe1=>?_)$ λe1=>?_
 ·refine Le O$ Lt PK O$ qV (Lj U3 O O ai O)$ Mw O O$ M5$ Le O$ Lt PK O$ qV (Lj U3 O O ai O)$ MH O O$ M5$ M8 O O$ MU O O$ Lk O$ LS.qb (e:=[(2,_),(3,_)]) ?_;refine An O$ py$ Ld$ qN O$ Lk O$ Lh Tryz.func146 O ?_;exact⟨_,rfl,rfl,ad⟩
 ·refine Le O$ qS$ qS$ qS$ qS$ qS$ qS$ qS$ qS$ M8 O O$ Lk O$ LS.qb (e:=[(2,_),(3,_)]) ?_;refine An O$ py$ Ld$ qN O$ Lk O$ Lh Tryz.func146 O ?_;exact⟨_,rfl,rfl,ad⟩
theorem Ra (n:Nat)(h:n<65536)(w:World):LP Tryz.prog 196 [I (n:Int)] w λu w'=>u= .bool true/\w'=w:=by
 refine Lb (e:=[(0,_)]) Tryz.func196 O Tryz.ntmps196 O O$ qN O$ Lw O$ qM O$ Le O$ Pa O O$ Ns$ Lu O O$ Mw O O$ Ns$ MU O O$ Lk O$ Lh Tryz.func196 O ?_
 exact⟨_,rfl,rfl,rfl⟩
structure LZ (l:List Nat):Prop where
 Uq:Ris l
 lt:∀y∈l,y<65536
theorem YQ:∀(l:List Nat) (lo hi:Nat),Ris l->(∀y∈l,lo<=y/\y<hi)->lo<=hi->lo+l.length<=hi
 |[],lo,hi,_,_,h=>h
 | x :: l, lo, hi, hr, hm, h => by
   have h1:=(List.pairwise_cons.1 hr);have h2:=hm x List.mem_cons_self;have:=YQ l (x+1) hi h1.2 (λy hy=>⟨h1.1 y hy,(hm y (List.mem_cons_of_mem _ hy)).2⟩) (by omega);rw[List.length_cons];omega
theorem LZ.len {l:List Nat}(h:LZ l):l.length<=65536:=by
 have:=YQ l 0 65536 h.Uq (λy hy=>⟨Nat.zero_le _,h.lt y hy⟩) (by decide)
 omega
theorem LZ.sub {l m:List Nat}(h:LZ l)(hs:m.Sublist l):LZ m:=⟨h.Uq.sublist hs,λy hy=>h.lt y (hs.subset hy)⟩
theorem RS (v:Value)(l:List Nat)(hl:LZ l)(w:World)(hr:Rd w v 1 l.length (l.map LO)):
  LP Tryz.prog 197 [v] w λu w'=>u= .bool true/\w'=w:=by
 have aD:=hl.len
 obtain⟨a,cap,rfl,ha⟩:=hr.shape
 refine Lb (e:=[(0,_)]) Tryz.func197 O Tryz.ntmps197 O O$ qN O$ Lk O$ run_seq$ qN O$ Le O$ Nd LI O$ Le O$ Lf$ Lc$ Nj (α:=Nat) (0) (λi=>[(0,.slice a l.length cap),(5,.slice a l.length cap),(6,I (l.length:Int)),(7,I (i:Int))]) (λi w'=>w'=w/\i<=l.length) (λi=>l.length-i) ?hI ?hround
 case hI=>exact⟨rfl,by omega⟩
 case hround=>
  rintro i _ ⟨rfl,hi⟩ ih
  try dsimp only
  refine qN O$ Mw O O$ Lf$ run_seq$ Lp O (λaV=>?_)$ λaV=>?_
  ·have fH:i<l.length:=by omega
   have hy:=hl.lt l[i] (List.getElem_mem fH);rcases hr.2 with⟨c,-,h⟩|⟨b,off,cap',kZ,aZ⟩
   ·omega
   cases kZ;refine py$ run_seq$ Lc$ qN O$ Le O$ qV (M9 LI Lz O O (by omega))$ qV (LN Mx O O (aZ (i*1) (LO l[i]) (by simp[fH]))) ?_;refine Lw O$ Lw O$ qM O$ Le O$ Pa O O$ M5$ Lu O O$ MH O O$ Oh (λe1=>?_)$ λe1=>?_
   ·have hp:l[i-1]<l[i]:=(List.pairwise_iff_getElem.1 hl.Uq) (i-1) i (by omega) fH (by omega);refine Lu O O$ Lu O O$ Np O O ?_;rw[show(i:Int)-1=((i-1:Nat):Int) by omega];refine qV (M9 LI Lz O O (by omega))$ qV (LN Mx O O (aZ ((i-1)*1) (LO l[i-1]) (by simp[show i-1<l.length by omega]))) ?_;refine zle O O$ M5$ MU O O$ M8 O O$ Lf$ An O$ py$ Ld$ Li O$ Mb O O$ Le O$ Lf ?_;exact(ih (i+1) _ ⟨rfl,by omega⟩ (by omega)).qb
   ·refine Le O$ qS$ qS$ qS$ qS$ qS$ qS$ qS$ M8 O O$ M8 O O$ Lf$ An O$ py$ Ld ?_;refine Li O$ Mb O O$ Le O$ Lf ?_;exact(ih (i+1) _ ⟨rfl,by omega⟩ (by omega)).qb
  ·refine Ln O$ qN O$ Lk O$ Lh Tryz.func197 O ?_;exact⟨_,rfl,rfl,rfl⟩
theorem z6Y (p:NT)(hp:p.My)(x:Nat)(hx:x<65536)(v u:Value)(l m:List Nat)(r:Nat)(hl:LZ l)(hm:LZ m)(hr:r<=p.LJ)(ld:r=0->m=[])(w:World)
  (gP:Rd w v 1 l.length (l.map LO)) (yI:Rd w u 1 m.length (m.map LO)):
  LP Tryz.prog 200 [lpV p,I (x:Int),v,u,I (r:Int)] w λo w'=>o= .bool true/\Ext w w':=by
 obtain⟨h1,h2,h3,h4⟩:=id hp
 refine Lb (e:=[(0,_),(1,_),(2,_),(3,_),(4,_)]) Tryz.func200 O Tryz.ntmps200 O O$ qN O$ Lm O O (Nc O (cs:=VD p) O) ?_
 rintro _ w1 ⟨b1,rfl,bR,ad,ai⟩
 refine Lw O$ qM O$ qV (LM (news:=VD p) Ut O PH O (ai.cells (n:=3) O) O)$ LD z0z O (PA p hp w1) ?_
 rintro _ w2 ⟨rfl,ag⟩
 have am:=ag.Lg ai
 replace am:Lq w2 b1 [I (p.LJ:Int),I (p.interval:Int),I (p.zeta:Int)] 212:=am
 refine Nb O O$ Ns$ Lu O O$ LD z3m O (Ra x hx w2) ?_
 rintro _ w3 ⟨rfl,rfl⟩
 refine MU O O$ Lu O O$ LD z0V O (RS v l hl w3 (gP.ext (ad.trans ag))) ?_
 rintro _ w4 ⟨rfl,rfl⟩
 refine MU O O$ Lu O O$ LD z0V O (RS u m hm w4 (yI.ext (ad.trans ag))) ?_
 rintro _ w5 ⟨rfl,rfl⟩
 refine MU O O$ Le O ?_
 obtain⟨ua,uc,rfl,-⟩:=yI.shape
 refine Le O$ Pa O O$ Ns$ MU O O$ Lu O O$ Lt OS O$ qV (Lj U3 O O am O)$ zle O O$ Ns$ MU O O$ Lu O O$ MH O O$ Oh (λe1=>?_)$ λe1=>?_
 ·refine Le O$ qS$ qS$ qS$ MU O O$ MU O O$ Lk O$ LS.qb (e:=[(10,_)]) ?_;refine Lh Tryz.func200 O ?_;exact⟨_,rfl,rfl,ad.trans ag⟩
 ·have e2:=ld (by omega);subst e2;refine Lu O O$ Nd LI O$ Nb O O$ Ns$ M8 O O$ MU O O$ Lk O$ LS.qb (e:=[(10,_)]) ?_;refine Lh Tryz.func200 O ?_;exact⟨_,rfl,rfl,ad.trans ag⟩
theorem TL (l:List Nat):∀c∈l.map LO,c.oneCell'=true:=by
 intro c hc
 obtain⟨x,-,rfl⟩:=List.mem_map.1 hc
 rfl
def Xy (p:Nat×Nat):List Value:=[I (p.1:Int),I (p.2:Int)]
theorem z4S (l:List (Nat×Nat)):(l.flatMap Xy).length=l.length*2:=by
 induction l with
 |nil=>rfl
 |cons p l ih=>rw[List.flatMap_cons,List.length_append,ih,List.length_cons,show(Xy p).length=2 from rfl];omega
theorem Sl.oneV {w:World}{v:Value}{e size n:Nat}{cs:List Value}(h:Sl w v e size n cs):oneV v=true:=by
 rcases h.shape with⟨rfl,-⟩|⟨g,cap,rfl,-⟩<;>rfl
structure z8w (w:World)(l:List Nat)(least:Nat)(r:List Nat)(a:Option Addr)(cap:Nat)(v4 v5:Value)(R:List (Nat×Nat))(O_:List Nat)(w':World):Prop where
 ext:Ext w w'
 cl:r.length<=cap
 rd:Rd w (.slice a r.length cap) 1 r.length (r.map LO)
 s4:Sl w' v4 350 2 R.length (R.flatMap Xy)
 s5:Sl w' v5 46 1 O_.length (O_.map LO)
 f4:∀g,v4.ownBlock=some g->w.heap.size<=g
 f5:∀g,v5.ownBlock=some g->w.heap.size<=g
 ne:∀g,v4.ownBlock=some g->v5.ownBlock≠some g
 ok:LZ r
 eq:rowsN least l=(R++(rowsN least r).1,O_++(rowsN least r).2)
 len:R.length+O_.length+r.length<=65536
theorem Of {w:World}{a:Option Addr}{n cap i:Nat}{cs:List Value}(h:Rd w (.slice a n cap) 1 n cs)(hi:i<=n)(hc:n<=cap):Rd w (.slice (if cap=i then a else a.map (·.add (i*1))) (n-i) (cap-i)) 1 (n-i) (cs.drop i):=by
 have hl:=h.1
 refine⟨by rw[List.length_drop,hl];omega,?_⟩
 rcases h.2 with⟨c,hv,h0⟩|⟨b,off,cap',hv,aZ⟩
 ·refine .inl ⟨((if cap=i then a else a.map (·.add (i*1))),cap-i),?_,by omega⟩;rw[show n-i=0 by omega]
 ·cases hv;by_cases e:cap=i
  ·rw[if_pos e];refine .inl ⟨(some ⟨b,off,none⟩,cap-i),?_,by omega⟩;rw[show n-i=0 by omega]
  ·rw[if_neg e];refine .inr ⟨b,off+i*1,cap-i,?_,λj u hu=>?_⟩
   ·simp only[Option.map_some,Ng]
   ·rw[List.getElem?_drop] at hu;have:=aZ (i+j) u hu;rw[show off+i*1+j=off+(i+j) by omega];exact this
theorem P6 {w:World}{a:Option Addr}{n cap i:Nat}{cs:List Value}(h:Rd w (.slice a n cap) 1 n cs)(hi:i<=n):Rd w (.slice a i cap) 1 i (cs.take i):=by
 have hl:=h.1
 refine⟨by rw[List.length_take,hl];omega,?_⟩
 rcases h.2 with⟨c,hv,h0⟩|⟨b,off,cap',hv,aZ⟩
 ·refine .inl ⟨(a,cap),?_,by omega⟩;rw[show i=0 by omega]
 ·cases hv;refine .inr ⟨b,off,cap,rfl,λj u hu=>?_⟩;rw[List.getElem?_take] at hu;split at hu
  ·exact aZ j u hu
  ·cases hu
theorem z8w.grow {w w1 w2:World}{l r:List Nat}{least cap:Nat}{a:Option Addr}{v4 v5:Value}{R:List (Nat×Nat)}{O_:List Nat}(h:z8w w l least r a cap v4 v5 R O_ w1)(hx:Ext w1 w2):z8w w l least r a cap v4 v5 R O_ w2:=
 ⟨h.ext.trans hx,h.cl,h.rd,h.s4.ext hx,h.s5.ext hx,h.f4,h.f5,h.ne,h.ok,h.eq,h.len⟩
theorem z5S (a : Option Addr)(cap : Nat)(l : List Nat)(least : Nat)(tK : LZ l)(jt : l.length <= cap)(gA : least <= 64)(w : World)(hr : Rd w (.slice a l.length cap) 1 l.length (l.map LO)) :
  LP Tryz.prog 230 [.slice a l.length cap,I (least:Int)] w λu w'=>∃v4 v5,u= .tuple #[v4,v5]/\Sl w' v4 350 2 (rowsN least l).1.length ((rowsN least l).1.flatMap Xy)/\
   Sl w' v5 46 1 (rowsN least l).2.length ((rowsN least l).2.map LO)/\Ext w w'/\(∀g,v4.ownBlock=some g->w.heap.size<=g)/\(∀g,v5.ownBlock=some g->w.heap.size<=g)/\∀g,v4.ownBlock=some g->v5.ownBlock≠some g:=by
 refine Lb (e:=[(0,_),(1,_)]) Tryz.func230 O Tryz.ntmps230 O O$ qN O$ Lw O$ Lk O$ run_seq$ Lc$ Nj (α:=List Nat×Option Addr×Nat×Value×Value×List (Nat×Nat)×List Nat) ((l,a,cap,.slice none 0 0,.slice none 0 0,[],[])) (λx=>[(0,.slice x.2.1 x.1.length x.2.2.1),(1,I (least:Int)),(4,x.2.2.2.1),(5,x.2.2.2.2.1)]) (λx w'=>z8w w l least x.1 x.2.1 x.2.2.1 x.2.2.2.1 x.2.2.2.2.1 x.2.2.2.2.2.1 x.2.2.2.2.2.2 w') (λx=>x.1.length) ?hI ?hround
 case hI=>exact⟨Ext.refl _,jt,hr,Sl.nil _ _ _,Sl.nil _ _ _,(λg h=>by cases h),(λg h=>by cases h),(λg h=>by cases h),tK,rfl,by have:=tK.len;simp;omega⟩
 case hround =>
  rintro⟨r,a1,c1,v4,v5,R,O_⟩ w6 hI ih;dsimp only at hI
  try dsimp only
  refine run_seq$ qN O$ Le O$ Nd LI O$ MH O O$ Lf$ Lp O (λh0=>?_)$ λh0=>?_
  ·obtain⟨y,r',rfl⟩:∃y r',r=y::r':=by
    cases r with
    |nil=>exact absurd h0 (by simp)
    |cons y r'=>exact⟨y,r',rfl⟩
   have gP:=Sv y r';have Gx:=hI.ok.lt y List.mem_cons_self;have iJ:=hI.ok.len;rw[List.length_cons] at iJ
   obtain⟨b,off,kZ,aZ⟩:∃b off,a1=some ⟨b,off,none⟩/\∀j u,((y::r').map LO)[j]? =some u->w6.cell? ⟨b,off+j,none⟩=some u:=by
    rcases (hI.rd.ext hI.ext).2 with⟨c,-,h⟩|⟨b,off,cap',kZ,aZ⟩
    ·exact absurd h (by simp)
    ·cases kZ;exact⟨b,off,rfl,aZ⟩
   subst kZ
   have jx:∀w',Ext w w'->∀j u,((y::r').map LO)[j]? =some u->w'.cell? ⟨b,off+j,none⟩=some u:=λw' hx=>by
    rcases (hI.rd.ext hx).2 with⟨c,-,h⟩|⟨b',off',cap',kZ,hc⟩
    ·exact absurd h (by simp)
    ·cases kZ;exact hc
   clear aZ;refine py$ Lc$ qN O$ Lk O$ run_seq$ Lc$ Nl (λe' w'=>Ext w6 w'/\e'=[(0,.slice (some ⟨b,off,none⟩) (y::r').length c1),(1,I (least:Int)),(4,v4),(5,v5),(6,I ((runLen y r'+1:Nat):Int))]) ?ru$ λru=>?As
   case ru=>
    rintro e' w6z ⟨aK,rfl⟩;replace hI:=hI.grow aK;have aZ:=jx _ hI.ext
    generalize hn:runLen y r'+1=n
    have tL:=hI.cl;rw[List.length_cons] at tL;have dK:=hI.eq;have aD:=hI.len;rw[List.length_cons] at aD;have cT:1<=n/\n<=r'.length+1:=by omega
    have tM:r'.drop (runLen y r')=(y::r').drop n:=by rw[<-hn];rfl
    have js:y::r'.take (runLen y r')=(y::r').take n:=by rw[<-hn];rfl
    rw[rowsN] at dK;simp only[hn,tM,js] at dK;have aw:LZ ((y::r').drop n):=hI.ok.sub (List.drop_sublist _ _);have dV:=Of hI.rd (i:=n) (by rw[List.length_cons];omega) hI.cl;rw[<-List.map_drop,show(y::r').length-n=((y::r').drop n).length by rw[List.length_drop]] at dV;have km:((y::r').drop n).length=r'.length+1-n:=by rw[List.length_drop,List.length_cons]
    by_cases hL:0<least/\least<=n
    ·obtain⟨yK,EF⟩:=hL;rw[if_pos ⟨yK,EF⟩] at dK;refine run_seq$ qN O$ Le O$ MH O O$ Ns$ Lu O O$ Le O$ Pa O O$ Ns$ MU O O$ Lf$ Lr O$ Li O$ Lu O O ?_;refine qV (M9 LI Lz O O (by omega))$ qV (LN Mx O O (aZ (0*1) (LO y) O))$ qV (M3 O Mx U3 (by omega))$ Le O$ qV (O6 (cs:=[_,_]) WJ O zcE O O)$ Lm O O (RN (cs:=[_,_]) (zs:=[Value.int .i64 0,Value.int .i64 0]) z6g WJ O (by kernel_rfl) O O O (by decide)) ?_;rintro _ w7 ⟨b7,rfl,⟨kW,cg,bJ⟩,gY⟩;refine Lm O O (pap z6g WJ O (by decide) O O (hI.s4.ext cg) gY.rd (by intro c hc;simp at hc;rcases hc with rfl|rfl<;>rfl) (by omega) (by simp only[maxLen];omega)) ?_;rintro v4' w8 ⟨eJ,bB,ku,-⟩;have ma:=eJ.oneV;have hz:=hI.ext.size;have yL:=cg.size;have dy:Ext w w8:=(hI.ext.trans cg).It bB (λi hi=>hI.f4 i hi);have o5:Sl w8 v5 46 1 O_.length (O_.map LO):=(hI.s5.ext cg).kp bB (λg hg e=>hI.ne g e hg);refine Lk O$ Li O$ Lu O O$ qV (T7 LI Lz O O (by rw[List.length_cons];omega) hI.cl) ?_;refine Lk O$ Ld ?_;rw[show(y::r').length-n=((y::r').drop n).length by rw[List.length_drop]];refine(ih ((y::r').drop n,_,c1-n,v4',v5,R++[(y,n)],O_) _ ⟨dy,by dsimp only;rw[km];omega,dV,?_,o5,?_,hI.f5,?_,aw,?_,?_⟩ ?_).qb
     ·dsimp only;rw[List.length_append,List.flatMap_append];exact eJ
     ·intro g hg;rcases ku g hg with h| h
      ·exact hI.f4 g h
      ·omega
     ·intro g hg e;rcases ku g hg with h| h
      ·exact hI.ne g h e
      ·have:=hI.s5.lt e;omega
     ·dsimp only;rw[dK,List.append_assoc];rfl
     ·dsimp only;rw[List.length_append,List.length_singleton,km];omega
     ·dsimp only;rw[km,List.length_cons];omega
    ·rw[if_neg hL] at dK;rcases Nat.eq_zero_or_pos least with e0|e0
     ·refine run_seq$ qN O$ Le O$ MH O O$ M5$ Le O$ qS$ qS$ qS$ M8 O O$ Lf$ An O$ Li O$ Lu O O ?_;refine Le O$ qV (z5R LI Lz O O (by omega))$ Lm O O (pap LI Lz O (by decide) O O hI.s5 (P6 (hI.rd.ext hI.ext) (i:=n) (by rw[List.length_cons];omega)) (by rw[<-List.map_take];exact TL _) (by omega) (by simp only[maxLen];omega)) ?_;rintro v5' w8 ⟨eJ,bB,ku,-⟩;have ma:=eJ.oneV;have hz:=hI.ext.size;have dy:Ext w w8:=hI.ext.It bB (λi hi=>hI.f5 i hi);have mb:Sl w8 v4 350 2 R.length (R.flatMap Xy):=hI.s4.kp bB (λg hg e=>hI.ne g hg e);refine Lk O$ Li O$ Lu O O$ qV (T7 LI Lz O O (by rw[List.length_cons];omega) hI.cl) ?_;refine Lk O$ Ld ?_;rw[show(y::r').length-n=((y::r').drop n).length by rw[List.length_drop]];have mx:((y::r').take n).length=n:=by rw[List.length_take,List.length_cons];omega
      refine(ih ((y::r').drop n,_,c1-n,v4,v5',R,O_++(y::r').take n) _ ⟨dy,by dsimp only;rw[km];omega,dV,mb,?_,hI.f4,?_,?_,aw,?_,?_⟩ ?_).qb
      ·dsimp only;rw[List.length_append,List.map_append,mx,List.map_take];exact eJ
      ·intro g hg;rcases ku g hg with h| h
       ·exact hI.f5 g h
       ·omega
      ·intro g hg e;rcases ku g e with h| h
       ·exact hI.ne g hg h
       ·have:=hI.s4.lt hg;omega
      ·dsimp only;rw[dK,List.append_assoc]
      ·dsimp only;rw[List.length_append,mx,km];omega
      ·dsimp only;rw[km,List.length_cons];omega
     ·have EF:¬least<=n:=λh=>hL ⟨e0,h⟩;refine run_seq$ qN O$ Le O$ MH O O$ Ns$ Lu O O$ Le O$ Pa O O$ M5$ MU O O$ Lf$ An O$ Li O$ Lu O O ?_;refine Le O$ qV (z5R LI Lz O O (by omega))$ Lm O O (pap LI Lz O (by decide) O O hI.s5 (P6 (hI.rd.ext hI.ext) (i:=n) (by rw[List.length_cons];omega)) (by rw[<-List.map_take];exact TL _) (by omega) (by simp only[maxLen];omega)) ?_;rintro v5' w8 ⟨eJ,bB,ku,-⟩;have ma:=eJ.oneV;have hz:=hI.ext.size;have dy:Ext w w8:=hI.ext.It bB (λi hi=>hI.f5 i hi);have mb:Sl w8 v4 350 2 R.length (R.flatMap Xy):=hI.s4.kp bB (λg hg e=>hI.ne g hg e);refine Lk O$ Li O$ Lu O O$ qV (T7 LI Lz O O (by rw[List.length_cons];omega) hI.cl) ?_;refine Lk O$ Ld ?_;rw[show(y::r').length-n=((y::r').drop n).length by rw[List.length_drop]];have mx:((y::r').take n).length=n:=by rw[List.length_take,List.length_cons];omega
      refine(ih ((y::r').drop n,_,c1-n,v4,v5',R,O_++(y::r').take n) _ ⟨dy,by dsimp only;rw[km];omega,dV,mb,?_,hI.f4,?_,?_,aw,?_,?_⟩ ?_).qb
      ·dsimp only;rw[List.length_append,List.map_append,mx,List.map_take];exact eJ
      ·intro g hg;rcases ku g hg with h| h
       ·exact hI.f5 g h
       ·omega
      ·intro g hg e;rcases ku g e with h| h
       ·exact hI.ne g hg h
       ·have:=hI.s4.lt hg;omega
      ·dsimp only;rw[dK,List.append_assoc]
      ·dsimp only;rw[List.length_append,mx,km];omega
      ·dsimp only;rw[km,List.length_cons];omega
   case As =>
    refine Nj (α:=Nat) (1) (λi=>[(0,.slice (some ⟨b,off,none⟩) (y::r').length c1),(1,I (least:Int)),(4,v4),(5,v5),(6,I (i:Int))]) (λi w'=>Ext w6 w'/\1<=i/\i<=runLen y r'+1) (λi=>runLen y r'+2-i) ?hI ?hround
    case hI=>exact⟨Ext.refl _,by omega,by omega⟩
    case hround=>
     rintro i w7 ⟨cg,yM,dB⟩ ih2
     try dsimp only
     refine run_seq$ run_seq ?_;have hg:=(Ext.refl w7).drew;refine N7 (λw'=>Ext w7 w') O$ LA 0 O O (hg)$ LA 1 O O (hg)$ Ll 2 O (Ol LI O) hg$ Ll 3 O (Wr O O) hg$ zcb (λe1=>?_)$ λe1=>?_
     ·have Kh:i<r'.length+1:=by rw[List.length_cons] at e1;omega
      have cE:r'[i-1]? =some (r'[i-1]'(by omega)):=List.getElem?_eq_getElem (by omega);have yN:r'[i-1]'(by omega)<65536:=hI.ok.lt _ (List.mem_cons_of_mem _ (List.getElem_mem _));refine LA 4 O O (hg)$ LA 5 O O (hg)$ LA 6 O O (hg)$ Ll 7 O (M9 LI Lz O O (by omega)) hg$ LA 9 O O (hg)$ Ll 10 O (M9 LI Lz O O (by omega)) hg$ LA 12 O O (hg)$ Ll 13 O (WA O U3 Mx) hg$ qT 8 O (λ_ hS=>LN Mx O O (by exact jx _ ((hI.ext.trans cg).trans hS) (i*1) (LO (r'[i-1]'(by omega))) (by rw[List.getElem?_map,show i*1=(i-1)+1 by omega,List.getElem?_cons_succ,cE];rfl))) hg ?_;refine qT 11 O (λ_ hS=>LN Mx O O (by exact jx _ ((hI.ext.trans cg).trans hS) (0*1) (LO y) O)) hg ?_;refine Ll 14 O (zbq O O) hg$ Ll 15 O (Xu O O) hg$ Ll 16 O (Qy O O) hg$ qE$ Lp O (λe2=>?_)$ λe2=>?_
      ·refine py$ Lc$ Li O$ Le O$ Mb O O$ Lk O$ Ld ?_
       have bN:i≠runLen y r'+1:=λe=>by
        subst e;have:=S8 y r' (r'[runLen y r'+1-1]'(by omega)) (by rw[<-cE];simp);omega
       exact(ih2 (i+1) _ ⟨cg.trans hg,by omega,by omega⟩ (by omega)).qb
      ·have At:i=runLen y r'+1:=by
        rcases Nat.lt_or_ge (i-1) (runLen y r') with h| h
        ·have h1:=Rg y r' (i-1) h;rw[cE] at h1;have h2:=ML h1;exact absurd (by omega) e2
        ·omega
       refine Ln O ?_;subst At;exact(ru _ _ ⟨cg.trans hg,rfl⟩).qb
     ·have At:i=runLen y r'+1:=by rw[List.length_cons] at e1;omega
      refine LA 4 O O (hg)$ qJ 5 O (hg)$ qJ 6 O (hg)$ qJ 7 O (hg)$ qJ 8 O (hg)$ qJ 9 O (hg)$ qJ 10 O (hg)$ qJ 11 O (hg)$ qJ 12 O (hg)$ qJ 13 O (hg)$ qJ 14 O (hg)$ qJ 15 O (hg)$ Ll 16 O (Qt O O) hg$ qE ?_;refine An O$ Ln O ?_;subst At;exact(ru _ _ ⟨cg.trans hg,rfl⟩).qb
  ·have eP:r=[]:=List.eq_nil_of_length_eq_zero (by omega);subst eP;refine Ln O$ qN O$ Lu O O$ Lw O$ Lk O$ Lh Tryz.func230 O ?_;have dK:=hI.eq;simp only[rowsN,List.append_nil] at dK;rw[dK];exact⟨_,rfl,v4,v5,rfl,hI.s4,hI.s5,hI.ext,hI.f4,hI.f5,hI.ne⟩
structure VsM (w:World)(p:Nat)(v:Value)(T el:TypeId)(size n:Nat)(cs:List Value):Prop where
 Lg:Lq w p [v] T
 sl:Sl w v el size n cs
 ne:v.ownBlock≠some p
def VsA (w:World)(p:Nat)(T el:TypeId)(size n:Nat)(cs:List Value)(F:Nat->Prop):Prop:=∃v,VsM w p v T el size n cs/\∀k,F k↔Y5 p v k
section
variable {w w':World}{p:Nat}{T el:TypeId}{size n:Nat}{cs:List Value}{F S:Nat->Prop}
theorem VsA.lt (h:VsA w p T el size n cs F){k:Nat}(hk:F k):k<w.heap.size:=by
 obtain⟨bv,hM,hF⟩:=h
 rcases (hF k).1 hk with e| e
 ·rw[e];exact hM.Lg.lt
 ·exact hM.sl.lt e
theorem VsA.kp (h:VsA w p T el size n cs F)(k:Kp S w w')(hn:∀i,F i->¬S i):VsA w' p T el size n cs F:=by
 obtain⟨bv,hM,hF⟩:=h
 exact⟨bv,⟨k.Lg hM.Lg (hn p ((hF p).2 (.inl O))),hM.sl.kp k (λg hg=>hn g ((hF g).2 (.inr hg))),hM.ne⟩,hF⟩
theorem VsA.ext (h:VsA w p T el size n cs F)(k:Ext w w'):VsA w' p T el size n cs F:=h.kp k.kp λ_ _=>id
end
theorem z6q {P:Program}{e:Env}{d:Option Nat}{ty t t':TypeId}{pos:String}{aft:Array Edge}{g:Option (Nat×Bool)}{x y:Operand}{w:World}{p q:Bool}(hx:look e x=some (.bool p))(hy:look e y=some (.bool q))(ht:P.underlying t=some .bool):Y P e ⟨d,.binOp .neq t x y t',ty,pos,aft,g⟩ (.bool (!(p==q))) w w:=fun ρ hρ=>by
 simp[execOp,hρ _ _ hx,hρ _ _ hy,eqGuard_at_bool,run_neq_bool w t p q ht]
def z2p (q:Cd×Nat):List Value:=Og q.1++[Ly q.2]
abbrev Zm (w:World)(p:Nat)(L:List (Cd×Nat))(F:Nat->Prop):Prop:=VsA w p 320 323 3 L.length (L.flatMap z2p) F
abbrev Ym (w:World)(p:Nat)(L:List Nat)(F:Nat->Prop):Prop:=VsA w p 45 46 1 L.length (L.map LO) F
abbrev Xp (w:World)(p:Nat)(L:List Nat)(F:Nat->Prop):Prop:=VsA w p 40 3 1 L.length (L.map λn:Nat=>I (n:Int)) F
theorem OR {w:World}{p:Nat}{L:List (Cd×Nat)}{F:Nat->Prop}(h:Zm w p L F)(hl:L.length<=1000000)(c:Cd)(v:Nat)(hv:v<9223372036854775808):
  LP Tryz.prog 227 [YN c,I (v:Int),ptr p 0] w λu w'=>u= .tuple #[]/\∃F',Zm w' p (L++[(c,v)]) F'/\Kp F w w'/\∀k,F' k->F k\/w.heap.size<=k:=by
 obtain⟨x,y,du,oF,Au⟩:∃x y,Og c=[x,y]/\x.oneCell'=true/\y.oneCell'=true:=by cases c<;>exact⟨_,_,rfl,rfl,rfl⟩
 obtain⟨bv,hM,hF⟩:=h
 have my:YN c= .agg [x,y].toArray:=by rw[YN,du]
 rw[my]
 have Gy:∀c∈[x,y,Ly v],c.oneCell'=true:=by
  intro c hc;rcases List.mem_cons.1 hc with rfl|hc
  ·exact oF
  rcases List.mem_cons.1 hc with rfl|hc
  ·exact Au
  rcases List.mem_cons.1 hc with rfl|hc
  ·rfl
  ·simp at hc
 refine Lb (e:=[(0,_),(1,_),(2,_)]) Tryz.func227 O Tryz.ntmps227 O O$ qN O$ Lm O O (Nc O (cs:=[x,y]) O) ?_
 rintro _ w1 ⟨b3,rfl,eB,ad,aq⟩
 have jb:=ad.Lg hM.Lg
 refine Lf$ Li O$ qV (Lj VE O O jb O)$ qV (LM (news:=[x,y]) O9 O MO O (aq.cells (n:=2) O) O)$ Le O$ qV ((by first|exact Mc O U3 MP (by omega)|exact Ny O U3 MP)) ?_
 refine qV (O6 (cs:=[_,_,_]) R5 O z9Y O O)$ Lm O O (RN (cs:=[_,_,_]) (zs:=[Value.int .u8 0,Value.int .u64 0,Value.int .u64 0]) VE R5 O (by kernel_rfl) O O O (by decide)) ?_
 rintro _ w2 ⟨b2,rfl,⟨c6,ag,am⟩,cG⟩
 refine Lm O O (pap VE R5 O (by decide) O O ((hM.sl.ext ad).ext ag) cG.rd Gy (by omega) (by simp only[maxLen];omega)) ?_
 rintro v3 w3 ⟨cC,ax,gO,-⟩
 have ma:=cC.oneV
 have aF:=ax.Lg (ag.Lg jb) hM.ne
 refine Ls O (MY z71 O O ma aF (by simp)) ?_
 rintro w4 ⟨aI,av⟩
 replace aI:Lq w4 p [v3] 320:=aI
 have z1:=ad.size
 have z2:=ag.size
 have lp:=hM.Lg.lt
 have eR:v3.ownBlock≠some p:=λe=>by
  rcases gO p e with e| e
  ·exact hM.ne e
  ·omega
 have dT:=cC.kp av (λg hg e=>eR (e▸hg))
 refine Lf$ ME Tryz.func227 O (⟨_,rfl,rfl,Y5 p v3,⟨v3,⟨aI,?_,eR⟩,λ_=>Iff.rfl⟩,?_,?_⟩)
 ·rw[List.length_append,List.flatMap_append];have e1:[(c,v)].flatMap z2p=[x,y,Ly v]:=by simp[z2p,du]
  rw[e1];exact dT
 ·exact((ad.trans ag).kp.trans (ax.Lv λk e=>(hF k).2 (.inr e))).trans (av.Lv λk e=>(hF k).2 (.inl e))
 ·intro k hk;rcases hk with e| e
  ·exact .inl ((hF k).2 (.inl e))
  ·rcases gO k e with e| e
   ·exact .inl ((hF k).2 (.inr e))
   ·exact .inr (by omega)
def QR (rs:List Nat)(f:Bool):List Nat:=if f !=(rs.length%2==1) then rs++[0] else rs
theorem WE (rs:List Nat)(f:Bool):MW rs f=(QR rs f).modify ((QR rs f).length-1) (·+1):=rfl
abbrev z1g (n:Nat):Value:=I (n:Int)
theorem Y2 {w:World}{lf rn:Nat}{L:List Nat}{F:Nat->Prop}(h:Ym w lf L F)(hl:L.length<=1000000)(x:Nat)(a:Bool):
  LP Tryz.prog 229 [LO x,.bool a,.bool false,ptr lf 0,ptr rn 0] w λu w'=>u= .tuple #[]/\∃F',Ym w' lf (L++[x]) F'/\Kp F w w'/\∀k,F' k->F k\/w.heap.size<=k:=by
 obtain⟨bv,hM,hF⟩:=h
 refine Lb (e:=[(0,_),(1,_),(2,_),(3,_),(4,_)]) Tryz.func229 O Tryz.ntmps229 O O ?_
 have jb:=hM.Lg
 refine run_seq$ Lc$ qN O$ Le O$ qV ((by first|exact Mh O|exact NL O)) ?_
 refine Lk O$ Lr O$ qN O$ qV (Lj LI O O jb O)$ Le O$ Lm O O (RN (cs:=[_]) (zs:=[Value.int .u32 0]) LI Lz O (by kernel_rfl) O O O (by decide)) ?_
 rintro _ w2 ⟨b2,rfl,⟨c6,ag,am⟩,cG⟩
 refine Lm O O (pap LI Lz O (by decide) O O (hM.sl.ext ag) cG.rd (by intro c hc;simp at hc;subst hc;rfl) (by omega) (by simp only[maxLen];omega)) ?_
 rintro v3 w3 ⟨cC,ax,gO,-⟩
 have ma:=cC.oneV
 have aF:=ax.Lg (ag.Lg jb) hM.ne
 refine Ls O (MY O2 O O ma aF (by simp)) ?_
 rintro w4 ⟨aI,av⟩
 replace aI:Lq w4 lf [v3] 45:=aI
 have z2:=ag.size
 have lp:=hM.Lg.lt
 have eR:v3.ownBlock≠some lf:=λe=>by
  rcases gO lf e with e| e
  ·exact hM.ne e
  ·omega
 have dT:=cC.kp av (λg hg e=>eR (e▸hg))
 refine Lf$ Lh Tryz.func229 O (⟨_,rfl,rfl,Y5 lf v3,⟨v3,⟨aI,?_,eR⟩,λ_=>Iff.rfl⟩,?_,?_⟩)
 ·rw[List.length_append,List.map_append];exact dT
 ·exact(ag.kp.trans (ax.Lv λk e=>(hF k).2 (.inr e))).trans (av.Lv λk e=>(hF k).2 (.inl e))
 ·intro k hk;rcases hk with e| e
  ·exact .inl ((hF k).2 (.inl e))
  ·rcases gO k e with e| e
   ·exact .inl ((hF k).2 (.inr e))
   ·exact .inr (by omega)
theorem Us {w:World}{lf rn:Nat}{rs:List Nat}{F:Nat->Prop}(h:Xp w rn rs F)(hl:rs.length<=1000000)(bN:rs≠[])(hb:∀m∈rs,m<=1000000)(x:Nat)(a:Bool):
  LP Tryz.prog 229 [LO x,.bool a,.bool true,ptr lf 0,ptr rn 0] w λu w'=>u= .tuple #[]/\∃F',Xp w' rn (MW rs a) F'/\Kp F w w'/\∀k,F' k->F k\/w.heap.size<=k:=by
 have aV:∀k,F k->k<w.heap.size:=λk hk=>h.lt hk
 obtain⟨bv,hM,hF⟩:=id h
 refine Lb (e:=[(0,_),(1,_),(2,_),(3,_),(4,_)]) Tryz.func229 O Tryz.ntmps229 O O ?_
 have jb:=hM.Lg
 obtain⟨va,vc,rfl,-⟩:=hM.sl.rd.shape
 refine run_seq$ Lc$ qN O$ Le O$ qV ((by first|exact Mh O|exact NL O)) ?_
 refine Lk O$ An O$ qN O$ Le O$ qV (Lj N3 O O jb O)$ Nd N3 O$ qV (SO O O (by omega) (by omega)) ?_
 rw[Nat.and_one_is_mod]
 refine Nb O O$ qV (z6q O O U4) ?_
 have hd:decide (((rs.length%2:Nat):Int)=1)=(rs.length%2==1):=by
  rcases Nat.mod_two_eq_zero_or_one rs.length with e|e<;>rw[e]<;>rfl
 rw[hd]
 refine Lk O$ M6 (λe' w'=>e'=[(4,ptr rn 0)]/\∃F',Xp w' rn (QR rs a) F'/\Kp F w w'/\∀k,F' k->F k\/w.heap.size<=k) ?rv$ λrv=>?rx
 case rv=>
  rintro e' w1 ⟨rfl,F1,⟨v1,dJ,o6⟩,aN,iA⟩
  obtain⟨l,m,gZ,dN,hm⟩:∃l m,QR rs a=l++[m]/\l.length<=1000000/\m<=1000000:=by
   unfold QR;split
   ·exact⟨rs,0,rfl,hl,by omega⟩
   ·refine⟨rs.dropLast,rs.getLast bN,(List.dropLast_concat_getLast bN).symm,by rw[List.length_dropLast];omega,hb _ (List.getLast_mem bN)⟩
  rw[gZ] at dJ;have Av:(l++[m]).length=l.length+1:=by simp
  rw[Av] at dJ;rcases dJ.sl.shape with⟨-,h0⟩|⟨g,c1,rfl,dv⟩
  ·omega
  have ai:=dJ.Lg;refine Ld$ Li O$ qV (Lj N3 O O ai O)$ qV (Lj N3 O O ai O)$ Nd N3 O$ Np O O ?_;rw[show((l.length+1:Nat):Int)-1=(l.length:Int) by omega];refine qV (M9 N3 Md O O (by omega))$ qV (LN U3 O O (Mn dJ.sl.rd (show((l++[m]).map z1g)[l.length]? =some (z1g m) by simp))) ?_;refine Mb O O$ qV (M9 N3 Md O O (by omega))$ Ls O (NH Md O O O dJ.sl (by simp)) ?_;rintro w2 ⟨cG,ao⟩;have am:=ao.Lg ai (λe=>dJ.ne (by rw[e];rfl));refine Lf$ ME Tryz.func229 O (⟨_,rfl,rfl,Y5 rn (.slice (some ⟨g,0,none⟩) (l.length+1) c1),⟨_,⟨am,?_,dJ.ne⟩,λ_=>Iff.rfl⟩,?_,?_⟩)
  ·rw[WE,gZ,S7];have e1:(l++[m+1]).length=l.length+1:=by simp
   rw[e1]
   have e2:((l++[m]).map z1g).set l.length (z1g (m+1))=(l++[m+1]).map z1g:=by
    rw[List.map_append,List.set_append_right _ _ (by simp)];simp
   rw[<-e2];have e3:l.length*1=l.length:=Nat.mul_one _
   first|exact cG|(simp only[Nat.zero_add,Nat.mul_one] at cG;exact cG)
  ·exact aN.It (ao.Lv (λk e=>(o6 k).2 (.inr (by rw[e];rfl)))) (λi hi=>(iA i hi).symm)
  ·intro k hk;exact iA k ((o6 k).2 hk)
 case rx=>
  refine Mg O (λe1=>?_)$ λe1=>?_
  ·have fI:QR rs a=rs++[0]:=by unfold QR;exact if_pos e1
   refine Li O$ qV (Lj N3 O O jb O)$ Lm O O (RN (cs:=[_]) (zs:=[Value.int .i64 0]) N3 Md O (by kernel_rfl) O O O (by decide)) ?_;rintro _ w2 ⟨b2,rfl,⟨c6,ag,am⟩,cG⟩;refine Lm O O (pap N3 Md O (by decide) O O (hM.sl.ext ag) cG.rd (by intro c hc;simp at hc;subst hc;rfl) (by omega) (by simp only[maxLen];omega)) ?_;rintro v3 w3 ⟨cC,ax,gO,-⟩;have ma:=cC.oneV;have aF:=ax.Lg (ag.Lg jb) hM.ne;refine Ls O (MY z1f O O ma aF (by simp)) ?_;rintro w4 ⟨aI,av⟩;replace aI:Lq w4 rn [v3] 40:=aI;have z2:=ag.size;have lp:=hM.Lg.lt
   have eR:v3.ownBlock≠some rn:=λe=>by
    rcases gO rn e with e| e
    ·exact hM.ne e
    ·omega
   have dT:=cC.kp av (λg hg e=>eR (e▸hg));refine Lf ((rv _ _ ⟨rfl,Y5 rn v3,⟨v3,⟨aI,?_,eR⟩,λ_=>Iff.rfl⟩,?_,?_⟩).qb)
   ·rw[fI,List.length_append,List.map_append];exact dT
   ·exact(ag.kp.trans (ax.Lv λk e=>(hF k).2 (.inr e))).trans (av.Lv λk e=>(hF k).2 (.inl e))
   ·intro k hk;rcases hk with e| e
    ·exact .inl ((hF k).2 (.inl e))
    ·rcases gO k e with e| e
     ·exact .inl ((hF k).2 (.inr e))
     ·exact .inr (by omega)
  ·have fI:QR rs a=rs:=by unfold QR;exact if_neg (by simpa using e1)
   refine py ?_;exact(rv _ _ ⟨rfl,F,by rw[fI];exact h,Kp.refl _ _,λk hk=> .inl hk⟩).qb
def R8 (s r rs:List Nat):List Nat:=r.foldl (λrs y=>MW rs (decide (y∈s))) rs
theorem Vy {s t:List Nat}:∀(r rs:List Nat),(∀y∈r,(y∈s↔y∈t))->R8 s r rs=R8 t r rs
 |[],rs,_=>rfl
 | y :: r, rs, h => by
   have h1:decide (y∈s)=decide (y∈t):=decide_eq_decide.2 (h y List.mem_cons_self);show R8 s r (MW rs (decide (y∈s)))=R8 t r (MW rs (decide (y∈t)));rw[h1];exact Vy r _ (λz hz=>h z (List.mem_cons_of_mem _ hz))
theorem Rm {x z:Nat}{l:List Nat}(h:x<z):z∈x::l↔z∈l:=by
 rw[List.mem_cons]
 constructor
 ·rintro(e|e)
  ·omega
  ·exact e
 ·exact .inr
theorem Z0 {x:Nat}{s r:List Nat}(h:∀y∈r,x<y):leftOf (x::s) r=x::leftOf s r/\∀rs,R8 (x::s) r rs=R8 s r rs:=by
 have hx:x∉r:=λe=>by have:=h x e;omega
 refine⟨?_,λrs=>Vy r rs λy hy=>Rm (h y hy)⟩
 unfold leftOf
 rw[List.filter_cons,if_pos (by simpa using hx)]
theorem Wu {r t:List Nat}(s:List Nat)(h:∀x∈s,(x∈r↔x∈t)):leftOf s r=leftOf s t:=
 List.filter_congr λx hx=>decide_eq_decide.2 (not_congr (h x hx))
theorem z3p {x:Nat}{s r:List Nat}(hs:∀z∈s,x<z)(hr:∀y∈r,x<y):leftOf (x::s) (x::r)=leftOf s r/\∀rs,R8 (x::s) (x::r) rs=R8 s r (MW rs true):=by
 refine⟨?_,λrs=>?_⟩
 ·have:=Wu (r:=x::r) (t:=r) s (λz hz=>Rm (hs z hz));rw[<-this];unfold leftOf;rw[List.filter_cons,if_neg (by simp)]
 ·show R8 (x::s) r (MW rs (decide (x∈x::s)))=_;rw[decide_eq_true List.mem_cons_self];exact(Z0 hr).2 _
theorem z35 {y:Nat}{s r:List Nat}(hs:∀z∈s,y<z):leftOf s (y::r)=leftOf s r/\∀rs,R8 s (y::r) rs=R8 s r (MW rs false):=by
 refine⟨Wu s (λz hz=>Rm (hs z hz)),λrs=>?_⟩
 show R8 s r (MW rs (decide (y∈s)))=_
 rw[decide_eq_false λe=>by have:=hs y e;omega]
theorem z0r {x y:Nat}{l:List Nat}(hr:Ris (y::l))(h:x<y):∀z∈y::l,x<z:=λz hz=>by
 rcases List.mem_cons.1 hz with e| e
 ·omega
 ·have:=(List.pairwise_cons.1 hr).1 z e;omega
theorem Wi:∀{l:List Nat} {m:Nat},m∈l->m<=l.sum
 | x :: l, m, h => by
   rw[List.sum_cons];rcases List.mem_cons.1 h with e| e
   ·omega
   ·have:=Wi e;omega
theorem z0v (rs:List Nat)(f:Bool):(MW rs f).length<=rs.length+1:=by
 rw[WE,List.length_modify]
 unfold QR
 split<;>simp
theorem Pc.le {rs:List Nat}{fs:List Bool}(h:Pc rs fs):∀m∈rs,m<=fs.length:=λm hm=>by
 have:=Wi hm
 rw[<-h.exp,Oy];exact this
structure PI (w:World)(succ ref:List Nat)(lf rn:Nat)(FL0 FR0:Nat->Prop)(s:List Nat)(sa:Option Addr)(sc:Nat)(r:List Nat)(ra:Option Addr)(rc:Nat)(L rs:List Nat)(w':World):Prop where
 ex:∃FL FR fs,Ym w' lf L FL/\Xp w' rn rs FR/\Pc rs fs/\fs.length+r.length<=65536/\rs.length+r.length<=65537/\(∀k,FL k->FL0 k\/w.heap.size<=k)/\(∀k,FR k->FR0 k\/w.heap.size<=k)/\∀k,FL k->¬FR k
 rdS:∀w2,Kp (λk=>FL0 k\/FR0 k) w w2->Rd w2 (.slice sa s.length sc) 1 s.length (s.map LO)
 rdR:∀w2,Kp (λk=>FL0 k\/FR0 k) w w2->Rd w2 (.slice ra r.length rc) 1 r.length (r.map LO)
 clS:s.length<=sc
 clR:r.length<=rc
 kp:Kp (λk=>FL0 k\/FR0 k) w w'
 okS:LZ s
 okR:LZ r
 left:leftOf succ ref=L++leftOf s r
 fold:N5 succ ref=R8 s r rs
 zaF:L.length+s.length<=65536
section
variable {w w1 w2:World}{succ ref:List Nat}{lf rn:Nat}{FL0 FR0:Nat->Prop}{s r L rs:List Nat}{sa ra:Option Addr}{sc rc:Nat}{x y:Nat}
theorem PI.ext (h:PI w succ ref lf rn FL0 FR0 s sa sc r ra rc L rs w1)(hx:Ext w1 w2):PI w succ ref lf rn FL0 FR0 s sa sc r ra rc L rs w2:=by
 obtain⟨FL,FR,fs,h1,h2,h3⟩:=h.ex
 exact⟨⟨FL,FR,fs,h1.ext hx,h2.ext hx,h3⟩,h.rdS,h.rdR,h.clS,h.clR,h.kp.trans hx.kp,h.okS,h.okR,h.left,h.fold,h.zaF⟩
theorem PI.z3h (h:PI w succ ref lf rn FL0 FR0 (x::s) sa sc r ra rc L rs w1):∃b off,sa=some ⟨b,off,none⟩/\∀w2,Kp (λk=>FL0 k\/FR0 k) w w2->w2.cell? ⟨b,off+0*1,none⟩=some (LO x):=by
 rcases (h.rdS w1 h.kp).2 with⟨c,-,h0⟩|⟨b,off,cap,hv,-⟩
 ·exact absurd h0 (by simp)
 ·cases hv;exact⟨b,off,rfl,λw2 k=>Mn (h.rdS w2 k) O⟩
theorem PI.z3B (h:PI w succ ref lf rn FL0 FR0 s sa sc (y::r) ra rc L rs w1):∃b off,ra=some ⟨b,off,none⟩/\∀w2,Kp (λk=>FL0 k\/FR0 k) w w2->w2.cell? ⟨b,off+0*1,none⟩=some (LO y):=by
 rcases (h.rdR w1 h.kp).2 with⟨c,-,h0⟩|⟨b,off,cap,hv,-⟩
 ·exact absurd h0 (by simp)
 ·cases hv;exact⟨b,off,rfl,λw2 k=>Mn (h.rdR w2 k) O⟩
theorem PI.z9X (h:PI w succ ref lf rn FL0 FR0 (x::s) sa sc r ra rc L rs w1){FL FR:Nat->Prop}{fs:List Bool}(he:Ym w1 lf L FL/\Xp w1 rn rs FR/\Pc rs fs/\fs.length+r.length<=65536/\rs.length+r.length<=65537/\(∀k,FL k->FL0 k\/w.heap.size<=k)/\(∀k,FR k->FR0 k\/w.heap.size<=k)/\∀k,FL k->¬FR k)
  (hr:∀y∈r,x<y) (hw:∃FL',Ym w2 lf (L++[x]) FL'/\Kp FL w1 w2/\∀k,FL' k->FL k\/w1.heap.size<=k):
  PI w succ ref lf rn FL0 FR0 s (if sc=1 then sa else sa.map (·.add (1*1))) (sc-1) r ra rc (L++[x]) rs w2:=by
 obtain⟨-,k1,k2,k3,k4,k5,k6,k7,k8,k9,k10⟩:=h
 obtain⟨h1,h2,h3,h4,h5,h6,h7,h8⟩:=he
 obtain⟨FL',g1,g2,g3⟩:=hw
 have hz:=k5.size
 rw[List.length_cons] at k3 k10
 refine⟨⟨FL',FR,fs,g1,h2.kp g2 (λi hi e=>h8 i e hi),h3,h4,h5,λk hk=>?_,h7,λk hk e=>?_⟩,λw2 k=>?_,k2,by omega,k4,k5.It g2 (λi hi=>?_),k6.sub (List.sublist_cons_self _ _),k7,?_,?_,?_⟩
 ·rcases g3 k hk with e| e
  ·exact h6 k e
  ·exact .inr (by omega)
 ·rcases g3 k hk with e2|e2
  ·exact h8 k e2 e
  ·have:=h2.lt e;omega
 ·have:=Of (k1 w2 k) (i:=1) (by rw[List.length_cons];omega) (by rw[List.length_cons];omega);exact this
 ·rcases h6 i hi with e| e
  ·exact .inr (.inl e)
  ·exact .inl e
 ·rw[k8,(Z0 hr).1,List.append_assoc];rfl
 ·rw[k9,(Z0 hr).2]
 ·rw[List.length_append,List.length_singleton];omega
theorem PI.z78 {s2:List Nat}{sa2:Option Addr}{sc2:Nat}{f:Bool}(h:PI w succ ref lf rn FL0 FR0 s sa sc (y::r) ra rc L rs w1)(hs:(s2=s/\sa2=sa/\sc2=sc/\f=false/\∀z∈s,y<z)\/(s=y::s2/\sa2=(if sc=1 then sa else sa.map (·.add (1*1)))/\sc2=sc-1/\f=true))
  {FL FR:Nat->Prop} {fs:List Bool} (he:Ym w1 lf L FL/\Xp w1 rn rs FR/\Pc rs fs/\fs.length+(y::r).length<=65536/\rs.length+(y::r).length<=65537/\(∀k,FL k->FL0 k\/w.heap.size<=k)/\(∀k,FR k->FR0 k\/w.heap.size<=k)/\∀k,FL k->¬FR k)
  (hw:∃FR',Xp w2 rn (MW rs f) FR'/\Kp FR w1 w2/\∀k,FR' k->FR k\/w1.heap.size<=k):
  PI w succ ref lf rn FL0 FR0 s2 sa2 sc2 r (if rc=1 then ra else ra.map (·.add (1*1))) (rc-1) L (MW rs f) w2:=by
 obtain⟨-,k1,k2,k3,k4,k5,k6,k7,k8,k9,k10⟩:=h
 obtain⟨h1,h2,h3,h4,h5,h6,h7,h8⟩:=he
 rw[List.length_cons] at h4 h5 k4
 obtain⟨FR',g1,g2,g3⟩:=hw
 have hz:=k5.size
 have gP:=z0v rs f
 have EG:∀z∈r,y<z:=(List.pairwise_cons.1 k7.Uq).1
 have EH:∃FL FR fs,Ym w2 lf L FL/\Xp w2 rn (MW rs f) FR/\Pc (MW rs f) fs/\fs.length+r.length<=65536/\(MW rs f).length+r.length<=65537/\(∀k,FL k->FL0 k\/w.heap.size<=k)/\(∀k,FR k->FR0 k\/w.heap.size<=k)/\∀k,FL k->¬FR k:=by
  refine⟨FL,FR',fs++[f],h1.kp g2 (λi hi e=>h8 i hi e),g1,h3.step f,by rw[List.length_append,List.length_singleton];omega,by omega,h6,λk hk=>?_,λk hk e=>?_⟩
  ·rcases g3 k hk with e| e
   ·exact h7 k e
   ·exact .inr (by omega)
  ·rcases g3 k e with e2|e2
   ·exact h8 k hk e2
   ·have:=h1.lt hk;omega
 have EI:Kp (λk=>FL0 k\/FR0 k) w w2:=k5.It g2 (λi hi=>by
  rcases h7 i hi with e| e
  ·exact .inr (.inr e)
  ·exact .inl e)
 have dV:∀w2,Kp (λk=>FL0 k\/FR0 k) w w2->Rd w2 (.slice (if rc=1 then ra else ra.map (·.add (1*1))) r.length (rc-1)) 1 r.length (r.map LO):=λw2 k=>
  Of (k2 w2 k) (i:=1) (by rw[List.length_cons];omega) (by rw[List.length_cons];omega)
 rcases hs with⟨rfl,rfl,rfl,rfl,hg⟩|⟨rfl,rfl,rfl,rfl⟩
 ·exact⟨EH,k1,dV,k3,by omega,EI,k6,k7.sub (List.sublist_cons_self _ _),by rw[k8,(z35 hg).1],by rw[k9,(z35 hg).2],k10⟩
 ·have EJ:∀z∈s2,y<z:=(List.pairwise_cons.1 k6.Uq).1;rw[List.length_cons] at k3 k10;refine⟨EH,λw2 k=>?_,dV,by omega,by omega,EI,k6.sub (List.sublist_cons_self _ _),k7.sub (List.sublist_cons_self _ _),by rw[k8,(z3p EJ EG).1],by rw[k9,(z3p EJ EG).2],by omega⟩;exact Of (k1 w2 k) (i:=1) (by rw[List.length_cons];omega) (by rw[List.length_cons];omega)
end
theorem z61 {w:World}{succ ref:List Nat}{lf rn:Nat}{FL0 FR0:Nat->Prop}{sa ra:Option Addr}{sc rc:Nat}(Gz:PI w succ ref lf rn FL0 FR0 succ sa sc ref ra rc [] [0] w):
  LP Tryz.prog 228 [.slice sa succ.length sc,.slice ra ref.length rc,.func (.func 229) #[] #[ptr lf 0,ptr rn 0]] w λu w'=>u= .tuple #[]/\
   ∃FL FR,Ym w' lf (leftOf succ ref) FL/\Xp w' rn (N5 succ ref) FR/\(∀k,FL k->FL0 k\/w.heap.size<=k)/\(∀k,FR k->FR0 k\/w.heap.size<=k)/\(∀k,FL k->¬FR k)/\Kp (λk=>FL0 k\/FR0 k) w w':=by
 refine Lb (e:=[(0,_),(1,_),(2,_)]) Tryz.func228 O Tryz.ntmps228 O O$ Lc$ Nj (α:=List Nat×Option Addr×Nat×List Nat×Option Addr×Nat×List Nat×List Nat) ((succ,sa,sc,ref,ra,rc,[],[0])) (λx=>[(0,.slice x.2.1 x.1.length x.2.2.1),(1,.slice x.2.2.2.2.1 x.2.2.2.1.length x.2.2.2.2.2.1),(2,.func (.func 229) #[] #[ptr lf 0,ptr rn 0])]) (λx w'=>PI w succ ref lf rn FL0 FR0 x.1 x.2.1 x.2.2.1 x.2.2.2.1 x.2.2.2.2.1 x.2.2.2.2.2.1 x.2.2.2.2.2.2.1 x.2.2.2.2.2.2.2 w') (λx=>x.1.length+x.2.2.2.1.length) ?hI ?hround
 case hI=>exact Gz
 case hround=>
  rintro⟨s,sa,sc,r,ra,rc,L,rs⟩ w6 hI ih;dsimp only at hI
  try dsimp only
  have hg:=(Ext.refl w6).drew;have aa:=hg.drew;have cP:=hI.ext aa;have p0:([]:List Nat).length=0:=rfl;have gR:=hI.okS.len;have yO:=hI.okR.len;rcases s with _|⟨x,s⟩
  ·rcases r with _|⟨y,r⟩
   ·refine run_seq$ qN O$ Le O$ Nd LI O$ MH O O$ M5$ Lu O O$ Nd LI O$ MH O O$ M5$ M8 O O$ Lf$ An O$ Ln O ?_;refine ME Tryz.func228 O ?_;have qe:=hI.left;have iK:=hI.fold;obtain⟨FL,FR,fs,h1,h2,h3,h4,h5,h6,h7,h8⟩:=hI.ex;rw[qe,iK];exact⟨_,rfl,rfl,FL,FR,by simpa[leftOf] using h1,h2,h6,h7,h8,hI.kp⟩
   ·skip
    obtain⟨b2,off2,rfl,m6⟩:=hI.z3B;have p1:0<((y::r:List Nat).length:Int):=by rw[List.length_cons];omega
    have p3:¬(((y::r).length:Int)=0):=by omega
    refine run_seq$ qN O$ Le O$ Nd LI O$ MH O O$ M5$ Lu O O$ Nd LI O$ MH O O$ Ns$ M8 O O$ Lf$ Lr O$ py ?_;refine Lc$ run_seq$ N7 (λw'=>Ext w6 w') O$ LA 0 O O (hg)$ Ll 1 O (Ol LI O) hg$ Ll 2 O (Xu O O) hg$ PU$ LA 3 O O (hg)$ LA 4 O O (hg)$ Ll 5 O (Ol LI O) hg$ Ll 6 O (TN O O) hg$ PU$ LA 7 O O (hg)$ qJ 8 O (hg) ?_;refine qJ 9 O (hg)$ qJ 10 O (hg)$ qJ 11 O (hg)$ qJ 12 O (hg)$ qJ 13 O (hg)$ qJ 14 O (hg)$ Ll 15 O (Qt O O) hg$ Ll 16 O (Qt O O) hg$ Ll 17 O (Ni O) hg$ qE$ run_seq$ N7 (λw'=>Ext w6 w') O$ LA 0 O O (aa)$ Ll 1 O (Ol LI O) aa ?_;refine Ll 2 O (Xu O O) aa$ Pu$ LA 3 O O (aa)$ qJ 4 O (aa)$ qJ 5 O (aa)$ qJ 6 O (aa)$ qJ 7 O (aa)$ qJ 8 O (aa)$ qJ 9 O (aa)$ qJ 10 O (aa)$ qJ 11 O (aa)$ qJ 12 O (aa)$ qJ 13 O (aa)$ qJ 14 O (aa) ?_;refine qJ 15 O (aa)$ Ll 16 O (Qy O O) aa$ Ll 17 O (Ni O) aa$ qE$ run_seq$ qN O$ Le O$ Lf$ An O$ Li O$ Lu O O$ qV (M9 LI Lz O O (by omega))$ qV (LN Mx O O (m6 _ cP.kp)) ?_;obtain⟨FL,FR,fs,h1,h2,h3,h4,h5,h6,h7,h8⟩:=cP.ex;refine MK O O (NW ZX O O) (Us h2 (by omega) h3.ne (λm hm=>by have:=h3.le m hm;omega) y false) ?_;rintro _ w7 ⟨rfl,oG⟩;refine qM O$ Le O$ Lf$ Lr O$ Li O$ Le O$ qV (T7 LI Lz O O (by rw[List.length_cons];omega) hI.clR) ?_;refine Lk O$ Ld ?_;exact(ih ([],sa,sc,r,_,rc-1,L,MW rs false) _ (cP.z78 (.inl ⟨rfl,rfl,rfl,rfl,λz hz=>by simp at hz⟩) ⟨h1,h2,h3,h4,h5,h6,h7,h8⟩ oG) (by dsimp only;simp only[List.length_cons,List.length_nil];omega)).qb
  ·rcases r with _|⟨y,r⟩
   ·obtain⟨b,off,rfl,mc⟩:=hI.z3h
    skip
    have p1:0<((x::s:List Nat).length:Int):=by rw[List.length_cons];omega
    have p4:¬(((x::s).length:Int)=0):=by omega
    refine run_seq$ qN O$ Le O$ Nd LI O$ MH O O$ Ns$ Le O$ qS$ qS$ qS$ MU O O$ Lf$ Lr O$ py ?_;refine Lc$ run_seq$ N7 (λw'=>Ext w6 w') O$ LA 0 O O (hg)$ Ll 1 O (Ol LI O) hg$ Ll 2 O (Xu O O) hg$ Pu$ LA 3 O O (hg)$ qJ 4 O (hg)$ qJ 5 O (hg)$ qJ 6 O (hg)$ qJ 7 O (hg)$ qJ 8 O (hg)$ qJ 9 O (hg) ?_;refine qJ 10 O (hg)$ qJ 11 O (hg)$ qJ 12 O (hg)$ qJ 13 O (hg)$ qJ 14 O (hg)$ qJ 15 O (hg)$ Ll 16 O (Qy O O) hg$ Ll 17 O (Ni O) hg$ qE$ run_seq$ N7 (λw'=>Ext w6 w') O$ LA 0 O O (aa)$ Ll 1 O (Ol LI O) aa$ Ll 2 O (Xu O O) aa ?_;refine PU$ LA 3 O O (aa)$ LA 4 O O (aa)$ Ll 5 O (Ol LI O) aa$ Ll 6 O (TN O O) aa$ PU$ LA 7 O O (aa)$ qJ 8 O (aa)$ qJ 9 O (aa)$ qJ 10 O (aa)$ qJ 11 O (aa)$ qJ 12 O (aa)$ qJ 13 O (aa)$ qJ 14 O (aa) ?_;refine Ll 15 O (Qt O O) aa$ Ll 16 O (Qt O O) aa$ Ll 17 O (Ni O) aa$ qE$ run_seq$ qN O$ Le O$ Lf$ Lr O$ qN O$ Lu O O$ qV (M9 LI Lz O O (by omega))$ qV (LN Mx O O (mc _ cP.kp))$ Le O ?_;obtain⟨FL,FR,fs,h1,h2,h3,h4,h5,h6,h7,h8⟩:=cP.ex;have GA:=cP.zaF;refine MK O O (NW ZX O O) (Y2 h1 (by omega) x true) ?_;rintro _ w7 ⟨rfl,oG⟩;refine Lf$ Li O$ Le O$ qV (T7 LI Lz O O (by rw[List.length_cons];omega) hI.clS) ?_;refine Lw O$ qM O$ Le O$ Lf$ An O$ py$ Ld ?_;exact(ih (s,_,sc-1,[],ra,rc,L++[x],rs) _ (cP.z9X ⟨h1,h2,h3,h4,h5,h6,h7,h8⟩ (λz hz=>by simp at hz) oG) (by dsimp only;simp only[List.length_cons,List.length_nil];omega)).qb
   ·rcases Nat.lt_trichotomy x y with du|du|du
    ·obtain⟨b,off,rfl,mc⟩:=hI.z3h;obtain⟨b2,off2,rfl,m6⟩:=hI.z3B;have p1:0<((x::s:List Nat).length:Int):=by rw[List.length_cons];omega
     have p2:0<((y::r).length:Int):=by rw[List.length_cons];omega
     have p3:¬(((y::r).length:Int)=0):=by omega
     have p4:¬(((x::s).length:Int)=0):=by omega
     refine run_seq$ qN O$ Le O$ Nd LI O$ MH O O$ Ns$ Le O$ qS$ qS$ qS$ MU O O$ Lf$ Lr O$ py ?_;refine Lc$ run_seq$ N7 (λw'=>Ext w6 w') O$ LA 0 O O (hg)$ Ll 1 O (Ol LI O) hg$ Ll 2 O (Xu O O) hg$ PU$ LA 3 O O (hg)$ LA 4 O O (hg)$ Ll 5 O (Ol LI O) hg$ Ll 6 O (TN O O) hg$ Pu$ LA 7 O O (hg)$ LA 8 O O (hg) ?_;refine Ll 9 O (M9 LI Lz O O (by omega)) hg$ LA 11 O O (hg)$ Ll 12 O (M9 LI Lz O O (by omega)) hg$ qT 10 O (λ_ h=>LN Mx O O (mc _ (hI.kp.trans h.kp))) hg$ qT 13 O (λ_ h=>LN Mx O O (m6 _ (hI.kp.trans h.kp))) hg$ Ll 14 O (Up O O) hg$ Pu$ Ll 15 O (Qy O O) hg$ Ll 16 O (Qt O O) hg$ Ll 17 O (Ni O) hg$ qE$ run_seq$ N7 (λw'=>Ext w6 w') O$ LA 0 O O (aa) ?_;refine Ll 1 O (Ol LI O) aa$ Ll 2 O (Xu O O) aa$ PU$ LA 3 O O (aa)$ LA 4 O O (aa)$ Ll 5 O (Ol LI O) aa$ Ll 6 O (TN O O) aa$ Pu$ LA 7 O O (aa)$ LA 8 O O (aa)$ Ll 9 O (M9 LI Lz O O (by omega)) aa$ LA 11 O O (aa)$ Ll 12 O (M9 LI Lz O O (by omega)) aa$ qT 10 O (λ_ h=>LN Mx O O (m6 _ (hI.kp.trans h.kp))) aa ?_;refine qT 13 O (λ_ h=>LN Mx O O (mc _ (hI.kp.trans h.kp))) aa$ Ll 14 O (Up O O) aa$ PU$ Ll 15 O (Qy O O) aa$ Ll 16 O (Qt O O) aa$ Ll 17 O (Ni O) aa$ qE$ run_seq$ qN O$ Le O$ Lf$ Lr O$ qN O$ Lu O O ?_;refine qV (M9 LI Lz O O (by omega))$ qV (LN Mx O O (mc _ cP.kp))$ Le O ?_;obtain⟨FL,FR,fs,h1,h2,h3,h4,h5,h6,h7,h8⟩:=cP.ex;have GA:=cP.zaF;refine MK O O (NW ZX O O) (Y2 h1 (by omega) x true) ?_;rintro _ w7 ⟨rfl,oG⟩;refine Lf$ Li O$ Le O$ qV (T7 LI Lz O O (by rw[List.length_cons];omega) hI.clS) ?_;refine Lw O$ qM O$ Le O$ Lf$ An O$ py$ Ld ?_;exact(ih (s,_,sc-1,y::r,_,rc,L++[x],rs) _ (cP.z9X ⟨h1,h2,h3,h4,h5,h6,h7,h8⟩ (z0r hI.okR.Uq du) oG) (by dsimp only;simp only[List.length_cons,List.length_nil];omega)).qb
    ·obtain⟨b,off,rfl,mc⟩:=hI.z3h;obtain⟨b2,off2,rfl,m6⟩:=hI.z3B;have p1:0<((x::s:List Nat).length:Int):=by rw[List.length_cons];omega
     have p2:0<((y::r).length:Int):=by rw[List.length_cons];omega
     have p3:¬(((y::r).length:Int)=0):=by omega
     have p4:¬(((x::s).length:Int)=0):=by omega
     refine run_seq$ qN O$ Le O$ Nd LI O$ MH O O$ Ns$ Le O$ qS$ qS$ qS$ MU O O$ Lf$ Lr O$ py ?_;refine Lc$ run_seq$ N7 (λw'=>Ext w6 w') O$ LA 0 O O (hg)$ Ll 1 O (Ol LI O) hg$ Ll 2 O (Xu O O) hg$ PU$ LA 3 O O (hg)$ LA 4 O O (hg)$ Ll 5 O (Ol LI O) hg$ Ll 6 O (TN O O) hg$ Pu$ LA 7 O O (hg)$ LA 8 O O (hg) ?_;refine Ll 9 O (M9 LI Lz O O (by omega)) hg$ LA 11 O O (hg)$ Ll 12 O (M9 LI Lz O O (by omega)) hg$ qT 10 O (λ_ h=>LN Mx O O (mc _ (hI.kp.trans h.kp))) hg$ qT 13 O (λ_ h=>LN Mx O O (m6 _ (hI.kp.trans h.kp))) hg$ Ll 14 O (Up O O) hg$ Pu$ Ll 15 O (Qy O O) hg$ Ll 16 O (Qt O O) hg$ Ll 17 O (Ni O) hg$ qE$ run_seq$ N7 (λw'=>Ext w6 w') O$ LA 0 O O (aa) ?_;refine Ll 1 O (Ol LI O) aa$ Ll 2 O (Xu O O) aa$ PU$ LA 3 O O (aa)$ LA 4 O O (aa)$ Ll 5 O (Ol LI O) aa$ Ll 6 O (TN O O) aa$ Pu$ LA 7 O O (aa)$ LA 8 O O (aa)$ Ll 9 O (M9 LI Lz O O (by omega)) aa$ LA 11 O O (aa)$ Ll 12 O (M9 LI Lz O O (by omega)) aa$ qT 10 O (λ_ h=>LN Mx O O (m6 _ (hI.kp.trans h.kp))) aa ?_;refine qT 13 O (λ_ h=>LN Mx O O (mc _ (hI.kp.trans h.kp))) aa$ Ll 14 O (Up O O) aa$ Pu$ Ll 15 O (Qy O O) aa$ Ll 16 O (Qt O O) aa$ Ll 17 O (Ni O) aa$ qE$ run_seq$ qN O$ Le O$ Lf$ Lr O$ qN O$ Lu O O ?_;refine qV (M9 LI Lz O O (by omega))$ qV (LN Mx O O (mc _ cP.kp))$ Le O ?_;obtain⟨FL,FR,fs,h1,h2,h3,h4,h5,h6,h7,h8⟩:=cP.ex;refine MK O O (NW ZX O O) (Us h2 (by omega) h3.ne (λm hm=>by have:=h3.le m hm;omega) x true) ?_;rintro _ w7 ⟨rfl,oG⟩;refine Lf$ Li O$ Le O$ qV (T7 LI Lz O O (by rw[List.length_cons];omega) hI.clS) ?_;refine Lw O$ qM O$ Le O$ Lf$ Lr O$ Li O$ Le O$ qV (T7 LI Lz O O (by rw[List.length_cons];omega) hI.clR) ?_;refine Lk O$ Ld ?_;subst du;exact(ih (s,_,sc-1,r,_,rc-1,L,MW rs true) _ (cP.z78 (.inr ⟨rfl,rfl,rfl,rfl⟩) ⟨h1,h2,h3,h4,h5,h6,h7,h8⟩ oG) (by dsimp only;simp only[List.length_cons,List.length_nil];omega)).qb
    ·obtain⟨b,off,rfl,mc⟩:=hI.z3h;obtain⟨b2,off2,rfl,m6⟩:=hI.z3B;have p1:0<((x::s:List Nat).length:Int):=by rw[List.length_cons];omega
     have p2:0<((y::r).length:Int):=by rw[List.length_cons];omega
     have p3:¬(((y::r).length:Int)=0):=by omega
     have p4:¬(((x::s).length:Int)=0):=by omega
     refine run_seq$ qN O$ Le O$ Nd LI O$ MH O O$ Ns$ Le O$ qS$ qS$ qS$ MU O O$ Lf$ Lr O$ py ?_;refine Lc$ run_seq$ N7 (λw'=>Ext w6 w') O$ LA 0 O O (hg)$ Ll 1 O (Ol LI O) hg$ Ll 2 O (Xu O O) hg$ PU$ LA 3 O O (hg)$ LA 4 O O (hg)$ Ll 5 O (Ol LI O) hg$ Ll 6 O (TN O O) hg$ Pu$ LA 7 O O (hg)$ LA 8 O O (hg) ?_;refine Ll 9 O (M9 LI Lz O O (by omega)) hg$ LA 11 O O (hg)$ Ll 12 O (M9 LI Lz O O (by omega)) hg$ qT 10 O (λ_ h=>LN Mx O O (mc _ (hI.kp.trans h.kp))) hg$ qT 13 O (λ_ h=>LN Mx O O (m6 _ (hI.kp.trans h.kp))) hg$ Ll 14 O (Up O O) hg$ PU$ Ll 15 O (Qy O O) hg$ Ll 16 O (Qt O O) hg$ Ll 17 O (Ni O) hg$ qE$ run_seq$ N7 (λw'=>Ext w6 w') O$ LA 0 O O (aa) ?_;refine Ll 1 O (Ol LI O) aa$ Ll 2 O (Xu O O) aa$ PU$ LA 3 O O (aa)$ LA 4 O O (aa)$ Ll 5 O (Ol LI O) aa$ Ll 6 O (TN O O) aa$ Pu$ LA 7 O O (aa)$ LA 8 O O (aa)$ Ll 9 O (M9 LI Lz O O (by omega)) aa$ LA 11 O O (aa)$ Ll 12 O (M9 LI Lz O O (by omega)) aa$ qT 10 O (λ_ h=>LN Mx O O (m6 _ (hI.kp.trans h.kp))) aa ?_;refine qT 13 O (λ_ h=>LN Mx O O (mc _ (hI.kp.trans h.kp))) aa$ Ll 14 O (Up O O) aa$ Pu$ Ll 15 O (Qy O O) aa$ Ll 16 O (Qt O O) aa$ Ll 17 O (Ni O) aa$ qE$ run_seq$ qN O$ Le O$ Lf$ An O$ Li O$ Lu O O ?_;refine qV (M9 LI Lz O O (by omega))$ qV (LN Mx O O (m6 _ cP.kp)) ?_;obtain⟨FL,FR,fs,h1,h2,h3,h4,h5,h6,h7,h8⟩:=cP.ex;refine MK O O (NW ZX O O) (Us h2 (by omega) h3.ne (λm hm=>by have:=h3.le m hm;omega) y false) ?_;rintro _ w7 ⟨rfl,oG⟩;refine qM O$ Le O$ Lf$ Lr O$ Li O$ Le O$ qV (T7 LI Lz O O (by rw[List.length_cons];omega) hI.clR) ?_;refine Lk O$ Ld ?_;exact(ih (x::s,_,sc,r,_,rc-1,L,MW rs false) _ (cP.z78 (.inl ⟨rfl,rfl,rfl,rfl,z0r hI.okS.Uq du⟩) ⟨h1,h2,h3,h4,h5,h6,h7,h8⟩ oG) (by dsimp only;simp only[List.length_cons,List.length_nil];omega)).qb
structure Xs (w:World)(t r:Nat)(s:Bytes)(a:Nat):Prop where
 Lg:Lq w t [ptr r 0,.bool false] 316
 rd:Py w r s a
 ne:t≠r
theorem Xs.ext {w w':World}{t r a:Nat}{s:Bytes}(h:Xs w t r s a)(hx:Ext w w'):Xs w' t r s a:=⟨hx.Lg h.Lg,⟨hx.Lg h.rd.1,h.rd.2⟩,h.ne⟩
theorem Q0 {w:World}{t r a:Nat}{s:Bytes}(h:Xs w t r s a)(c:Cd)(v n:Nat)(hc:c.My)(hv:v<=c.most)(hn:v<=n)(jc:n<9223372036854775808)(rest:List Bool)(hb:(LF s).drop a=c.enc v++rest):
  LP Tryz.prog 236 [ptr t 0,YN c,I (n:Int)] w λu w'=>u=I (v:Int)/\Xs w' t r s (a+(c.enc v).length)/\Kp (λk=>k=r) w w':=by
 obtain⟨x,y,du⟩:∃x y,Og c=[x,y]:=by cases c<;>exact⟨_,_,rfl⟩
 have my:YN c= .agg [x,y].toArray:=by rw[YN,du]
 have ev:=c.W3
 rw[my]
 refine Lb (e:=[(0,_),(1,_),(2,_)]) Tryz.func236 O Tryz.ntmps236 O O$ qN O$ Lm O O (Nc O (cs:=[x,y]) O) ?_
 rintro _ w1 ⟨b4,rfl,gn,ad,aF⟩
 have h1:=h.ext ad
 have Aw:¬b4=r:=by have:=h.rd.1.lt;omega
 have hg:=(Ext.refl w1).drew
 refine Lk O$ run_seq$ N7 (λw'=>Kp (λk=>k=r) w1 w') O$ LA 0 O O (hg.kp)$ Ll 1 O (Mo O) (hg.kp)$ Ll 2 O (LV z8g O) (hg.kp)$ qT 3 O (λ_ hS=>Lj Pn O O (hS.Lg h1.Lg h.ne) O) (hg.kp)$ qT 4 O (λ_ h=>LM (news:=[x,y]) O9 O MO O ((h.Lg aF Aw).cells (n:=2) O) O) (hg.kp) ?_
 rw[<-my]
 refine OA 5 O z6H O (Uu (⟨hg.Lg h1.rd.1,h1.rd.2⟩:Py _ r s a) c v hc hv rest hb) ?_
 rintro _ w2 ⟨rfl,cH,ao⟩
 refine⟨hg.kp.trans ao,?_⟩
 have jd:=hg.kp.trans ao
 have aq:=jd.Lg h1.Lg h.ne
 refine LA 6 O O (hg.kp.trans ao)$ Ll 7 O (Nq O O) (hg.kp.trans ao)$ Ll 8 O (Nq O O) (hg.kp.trans ao)$ Ll 9 O (Ni O) (hg.kp.trans ao)$ Ll 10 O (Ni O) (hg.kp.trans ao)$ qE$ run_seq$ qN O$ Le O$ Mu O O$ Lu O O$ Le O$ qV ((by first|exact Mc O U3 MP (by omega)|exact Ny O U3 MP)) ?_
 refine MH O O$ M5$ M8 O O$ Lf$ An O$ py$ qN O$ Le O$ qV (M3 O MP U3 (by omega))$ Lk O$ LS.qb (e:=[(6,_)]) ?_
 refine Lh Tryz.func236 O ?_
 exact⟨_,rfl,rfl,⟨aq,cH,h.ne⟩,ad.kp.trans jd⟩
theorem Mf (q:Cd×Nat)(l:List (Cd×Nat)):LG (q::l)=q.1.enc q.2++LG l:=rfl
theorem O3 {s e rest:List Bool}{a:Nat}(h:s.drop a=e++rest):s.drop (a+e.length)=rest:=by
 rw[<-List.drop_drop,h,List.drop_left]
structure CpI (w:World)(t r:Nat)(s:Bytes)(rs ref:List Nat)(rest:List Bool)(aE i:Nat)(rs2 ref2:List Nat)(sa:Option Addr)(sc:Nat)(v5:Value)(O_:List Nat)(a:Nat)(w':World):Prop where
 tk:Xs w' t r s a
 kp:Kp (λk=>k=r) w w'
 sl:Sl w' v5 46 1 O_.length (O_.map LO)
 fr:∀g,v5.ownBlock=some g->w.heap.size<=g
 len:rs.length=i+rs2.length
 rd:∀w2,Kp (λk=>k=r) w w2->Rd w2 (.slice sa ref2.length sc) 1 ref2.length (ref2.map LO)
 cl:ref2.length<=sc
 sum:rs2.sum<=ref2.length
 pos:∀m∈rs2.drop (1-min i 1),1<=m
 bits:(LF s).drop a=LG (runNums i rs2)++rest
 ZY:a+(LG (runNums i rs2)).length=aE
 eq:copyL true rs ref=O_++copyL (i%2==0) rs2 ref2
 tot:O_.length+ref2.length<=65536
theorem z4J (a:Addr):a.add 0=a:=by
 unfold Addr.add
 split<;>simp_all
theorem z7c {P:Program}{e:Env}{d:Option Nat}{ty t el:TypeId}{pos:String}{aft:Array Edge}{g:Option (Nat×Bool)}{x u:Operand}{w:World}{z:Value}{size bytes n cap j:Nat}{a:Option Addr}{k:IntKind}{zb:Int}[um:OQ zb j](ht:P.underlying t=some (.slice el))(hs:TI P el z size bytes)(hx:look e x=some (.slice a n cap))
  (hu:look e u=some (.int k zb)) (h:j<=cap):
  Y P e ⟨d,.slice t x none (some u) none,ty,pos,aft,g⟩ (.slice a j cap) w w:=fun ρ hρ=>by
 obtain⟨rfl⟩:=um
 have cF:=hs.size (w:=w)
 have h1:∀w,(Instr.sliceBound (.int k (j:Int)) cap .sliceAcap).run P w= .ok j w:=λw=>by rw[run_sliceBound _ _ _ _ _ (by omega) (by omega)];simp
 cases a with
 |none=>simp[execOp,hρ _ _ hx,hρ _ _ hu,Instr.sliceAt,run_underlying ht,Instr.slice,Instr.sliceBounds,h1,cF]
 |some a=>simp[execOp,hρ _ _ hx,hρ _ _ hu,Instr.sliceAt,run_underlying ht,Instr.slice,Instr.sliceBounds,h1,cF,z4J]
theorem ZU {w:World}{t r a:Nat}{s:Bytes}(h:Xs w t r s a)(hG:Lq w 0 (Og .gamma) 260)(cZ:¬0=r){sa:Option Addr}{sc:Nat}(ref rs:List Nat)
  (dV:∀w2,Kp (λk=>k=r) w w2->Rd w2 (.slice sa ref.length sc) 1 ref.length (ref.map LO)) (dt:ref.length<=sc) (yO:ref.length<=65536) (hn:rs.length<=ref.length+1) (gB:rs.sum<=ref.length)
  (hC:∀m∈rs.drop 1,1<=m) (rest:List Bool) (hb:(LF s).drop a=LG ((.gamma,rs.length)::runNums 0 rs)++rest):
  LP Tryz.prog 223 [ptr t 0,.slice sa ref.length sc] w λu w'=>Sl w' u 46 1 (copyL true rs ref).length ((copyL true rs ref).map LO)/\(∀g,u.ownBlock=some g->w.heap.size<=g)/\
   Xs w' t r s (a+(LG ((.gamma,rs.length)::runNums 0 rs)).length)/\Kp (λk=>k=r) w w':=by
 have je:∀v:Nat,v<=65537->v<=Cd.most .gamma:=λv hv=>by simp only[Cd.most];omega
 refine Lb (e:=[(0,_),(1,_)]) Tryz.func223 O Tryz.ntmps223 O O$ qN O$ Lw O$ qM O$ Lw O$ qM O$ Le O$ qV (LM (news:=[.int .u8 1,Ly 0]) O9 O MO O (hG.cells (n:=2) O) O)$ Le O$ Nd LI O ?_
 rw[Mf,List.append_assoc] at hb
 rw[show((ref.length:Nat):Int)=((ref.length:Nat):Int) from rfl]
 refine Mb O O$ LD XH O (Q0 h .gamma rs.length (ref.length+1) trivial (je _ (by omega)) (by omega) (by omega) _ hb) ?_
 rintro _ w1 ⟨rfl,h1,aN⟩
 have bR:=O3 hb
 refine Lk O$ run_seq$ qN O$ Lu O O$ Lf$ Lc$ Nj (α:=Nat×List Nat×List Nat×Option Addr×Nat×Value×List Nat×Nat) ((0,rs,ref,sa,sc,.slice none 0 0,[],a+(Cd.enc .gamma rs.length).length)) (λx=>[(0,ptr t 0),(1,.slice x.2.2.2.1 x.2.2.1.length x.2.2.2.2.1),(5,x.2.2.2.2.2.1),(6,I (rs.length:Int)),(15,I (rs.length:Int)),(16,I (x.1:Int))]) (λx w'=>CpI w t r s rs ref rest (a+(LG ((.gamma,rs.length)::runNums 0 rs)).length) x.1 x.2.1 x.2.2.1 x.2.2.2.1 x.2.2.2.2.1 x.2.2.2.2.2.1 x.2.2.2.2.2.2.1 x.2.2.2.2.2.2.2 w') (λx=>x.2.1.length) ?hI ?hround
 case hI=>exact⟨h1,aN,Sl.nil _ _ _,(λg h=>by cases h),by simp,dV,dt,gB,hC,bR,by rw[Mf,List.length_append];dsimp only;omega,rfl,by simp;omega⟩
 case hround =>
  rintro⟨i,rs2,ref2,sa2,sc2,v5,O_,a2⟩ w6 hI ih;dsimp only at hI;have aD:=hI.len;have uB:=hI.tot
  try dsimp only
  refine qN O$ Mw O O$ Lf$ run_seq$ Lp O (λh0=>?_)$ λh0=>?_
  ·obtain⟨n,rs2,rfl⟩:∃n l,rs2=n::l:=by
    cases rs2 with
    |nil=>simp at aD;omega
    |cons n l=>exact⟨n,l,rfl⟩
   have yP:=hI.kp.Lg hG cZ;have gB:=hI.sum;rw[List.sum_cons] at gB;rw[List.length_cons] at aD;have bS:=hI.bits;rw[runNums,Mf,List.append_assoc] at bS
   have cT:min i 1<=n:=by
    have hp:=hI.pos n;rcases Nat.eq_zero_or_pos i with e| e
    ·subst e;simp
    ·rw[show 1-min i 1=0 by omega] at hp;have:=hp List.mem_cons_self;omega
   refine py$ run_seq$ Lc$ qN O$ Le O$ Lw O$ qM O$ Le O$ qV (LM (news:=[.int .u8 1,Ly 0]) O9 O MO O (yP.cells (n:=2) O) O)$ Le O$ Nd LI O$ LD XH O (Q0 hI.tk .gamma (n-min i 1) ref2.length trivial (je _ (by omega)) (by omega) (by omega) _ bS) ?_;rintro _ w7 ⟨rfl,h7,aC⟩;have hH:=hI.kp.trans aC;have bJ:=h7.Lg;refine Le O$ qV (ymi O O)$ Mb O O ?_;rw[show((n-min i 1:Nat):Int)+min (i:Int) 1=(n:Int) by omega];refine Lk O$ run_seq$ qN O$ Le O$ LU O$ Lt Pw O$ qV (Lj U4 O O bJ O)$ Lu O O$ Le O$ Nd LI O$ MH O O$ M5$ M8 O O$ Lf ?_;refine An O$ py$ run_seq$ qN O$ Le O$ qV (SO O O (by omega) (by omega)) ?_;rw[Nat.and_one_is_mod];have Ax:=hI.rd _ hH;have eU:=O3 bS;have yL:=hI.kp.size;have EK:=aC.size
   have ry:∀g,v5.ownBlock=some g->¬g=r:=λg hg e=>by
    have h1:=hI.fr g hg;have h2:=h.rd.1.lt;omega
   have gY:=hI.sl.kp aC ry
   have dW:∀(v5':Value) (w8:World),Sl w8 v5' 46 1 (O_++if i%2==0 then ref2.take n else []).length ((O_++if i%2==0 then ref2.take n else []).map LO)->(∀g,v5'.ownBlock=some g->w.heap.size<=g)->Kp (λk=>v5.ownBlock=some k) w7 w8->
     CpI w t r s rs ref rest (a+(LG ((.gamma,rs.length)::runNums 0 rs)).length) (i+1) rs2 (ref2.drop n) (if sc2=n then sa2 else sa2.map (·.add (n*1))) (sc2-n) v5' (O_++if i%2==0 then ref2.take n else []) (a2+(Cd.enc .gamma (n-min i 1)).length) w8:=by
    intro v5' w8 g1 g2 g3;have lt7:=h7.Lg.lt;have lr7:=h7.rd.1.lt;have tF:=h.Lg.lt;have dO:=h.rd.1.lt;have o7:∀x,x<w.heap.size->¬v5.ownBlock=some x:=λx hx e=>by have:=hI.fr x e;omega
    refine⟨⟨g3.Lg h7.Lg (o7 t tF),⟨g3.Lg h7.rd.1 (o7 r dO),h7.rd.2⟩,h7.ne⟩,hH.It g3 (λk hk=> .inl (hI.fr k hk)),g1,g2,by omega,λw2 k=>?_,by rw[List.length_drop];have:=hI.cl;omega,by rw[List.length_drop];omega,?_,?_,?_,?_,?_⟩
    ·have:=Of (hI.rd w2 k) (i:=n) (by omega) hI.cl;rw[<-List.map_drop] at this;rw[List.length_drop];exact this
    ·intro m hm;refine hI.pos m ?_;rw[show 1-min (i+1) 1=0 by omega,List.drop_zero] at hm;rcases Nat.eq_zero_or_pos i with e| e
     ·subst e;exact hm
     ·rw[show 1-min i 1=0 by omega];exact List.mem_cons_of_mem _ hm
    ·exact eU
    ·have:=hI.ZY;rw[runNums,Mf,List.length_append] at this;dsimp only at this;omega
    ·rw[hI.eq,copyL,List.append_assoc]
     have:((i+1)%2==0)= !(i%2==0):=by
      rcases Nat.mod_two_eq_zero_or_one i with e| e
      ·rw[e,show(i+1)%2=1 by omega];rfl
      ·rw[e,show(i+1)%2=0 by omega];rfl
     rw[this]
    ·rw[List.length_append,List.length_drop];split
     ·rw[List.length_take];omega
     ·simp;omega
   refine Nb O O$ Lf$ Lp O (λe1=>?_)$ λe1=>?_
   ·have e2:(i%2==0)=true:=by simp;omega
    simp only[e2,if_true] at dW;refine Li O$ Lu O O$ Le O$ qV (z7c LI Lz O O (by have:=hI.cl;omega)) ?_;have rz:=hI.cl;refine Lm O O (pap LI Lz O (by decide) O O gY (P6 Ax (i:=n) (by omega)) (by rw[<-List.map_take];exact TL _) (by omega) (by simp only[maxLen];omega)) ?_;rintro v5' w8 ⟨eJ,bB,ku,-⟩;have ma:=eJ.oneV;refine Lk O$ Li O$ Lu O O$ qV (T7 LI Lz O O (by omega) hI.cl)$ Lk O$ Ld$ Li O$ Mb O O$ Le O$ Lf ?_;rw[show ref2.length-n=(ref2.drop n).length by rw[List.length_drop]];refine(ih (i+1,rs2,ref2.drop n,_,sc2-n,v5',O_++ref2.take n,_) _ (dW v5' _ ?_ ?_ bB) (by dsimp only;simp)).qb
    ·rw[List.length_append,List.map_append,List.length_take,Nat.min_eq_left (by omega),List.map_take];exact eJ
    ·intro g hg;rcases ku g hg with e| e
     ·exact hI.fr g e
     ·omega
   ·have e2:(i%2==0)=false:=by simp;omega
    simp only[e2,Bool.false_eq_true,if_false,List.append_nil] at dW;refine py$ Li O$ Lu O O$ qV (T7 LI Lz O O (by omega) hI.cl)$ Lk O$ Ld$ Li O$ Mb O O$ Le O$ Lf ?_;rw[show ref2.length-n=(ref2.drop n).length by rw[List.length_drop]];exact(ih (i+1,rs2,ref2.drop n,_,sc2-n,v5,O_,_) _ (dW v5 _ gY hI.fr (Kp.refl _ _)) (by dsimp only;simp)).qb
  ·have eP:rs2=[]:=List.eq_nil_of_length_eq_zero (by omega);subst eP;have Ki:rs.length=i:=by rw[aD];simp
   have jy:=hI.ZY;have dK:=hI.eq;rw[copyL] at dK;rw[show(LG (runNums i [])).length=0 from rfl,Nat.add_zero] at jy;refine Ln O$ run_seq$ qN O$ Le O$ qV (SO O O (by omega) (by omega)) ?_;rw[Nat.and_one_is_mod];refine Nb O O$ Lf$ Lp O (λe1=>?_)$ λe1=>?_
   ·rw[if_pos (by simp;omega)] at dK;refine Li O$ Lu O O$ Lm O O (pap LI Lz O (by decide) O O hI.sl (hI.rd _ hI.kp) (TL _) (by omega) (by simp only[maxLen];omega)) ?_;rintro v5' w8 ⟨eJ,bB,ku,-⟩;have ma:=eJ.oneV;refine Lw O$ qM O$ Le O$ Lk O$ Lh Tryz.func223 O ?_;rw[dK,<-jy];have yL:=hI.kp.size;have o7:∀x,x<w.heap.size->¬v5.ownBlock=some x:=λx hx e=>by have:=hI.fr x e;omega
    refine⟨_,rfl,?_,λg hg=>?_,⟨bB.Lg hI.tk.Lg (o7 t h.Lg.lt),⟨bB.Lg hI.tk.rd.1 (o7 r h.rd.1.lt),hI.tk.rd.2⟩,hI.tk.ne⟩,hI.kp.It bB (λk hk=> .inl (hI.fr k hk))⟩
    ·rw[List.length_append,List.map_append];exact eJ
    ·rcases ku g hg with e| e
     ·exact hI.fr g e
     ·omega
   ·rw[if_neg (by simp;omega),List.append_nil] at dK;refine py$ qN O$ Le O$ Lk O$ Lh Tryz.func223 O ?_;rw[dK,<-jy];exact⟨_,rfl,hI.sl,hI.fr,hI.tk,hI.kp⟩
structure ReI (w w1:World)(t r:Nat)(s:Bytes)(l:List Nat)(x k:Nat)(rest:List Bool)(aE b7:Nat)(dn l2:List Nat)(v9:Value)(a:Nat)(w':World):Prop where
 tk:Xs w' t r s a
 kp:Kp (λk=>k=t\/k=r) w w'
 b7:Lq w' b7 (Og (.zeta k)) 260
 sl:Sl w' v9 46 1 dn.length (dn.map LO)
 fr:∀g,v9.ownBlock=some g->w1.heap.size<=g
 eq:l=dn++l2
 bits:(LF s).drop a=LG (restNums x k dn.getLast? l2)++rest
 ZY:a+(LG (restNums x k dn.getLast? l2)).length=aE
 siz:w1.heap.size<=w'.heap.size
theorem z1K {w:World}{t r a:Nat}{s:Bytes}(h:Xs w t r s a)(x k:Nat)(hx:x<65536)(hk:1<=k/\k<=16)(l:List Nat)(hl:LZ l)(rest:List Bool)(hb:(LF s).drop a=LG (restNums x k none l)++rest):
  LP Tryz.prog 225 [ptr t 0,I (x:Int),I (l.length:Int),YN (.zeta k)] w λu w'=>Sl w' u 46 1 l.length (l.map LO)/\(∀g,u.ownBlock=some g->w.heap.size<=g)/\
   Xs w' t r s (a+(LG (restNums x k none l)).length)/\Kp (λk=>k=t\/k=r) w w':=by
 have aD:=hl.len
 have lt0:=h.Lg.lt
 have lr0:=h.rd.1.lt
 refine Lb (e:=[(0,_),(1,_),(2,_),(3,_)]) Tryz.func225 O Tryz.ntmps225 O O$ qN O$ Lm O O (Nc O (cs:=Og (.zeta k)) O) ?_
 rintro _ w1 ⟨b7,rfl,kW,ad,bJ⟩
 have h1:=h.ext ad
 have z1:=ad.size
 have EL:=bJ.lt
 refine Lw O$ qM O$ Lk O$ run_seq$ qN O$ Lu O O$ Lf$ Lc$ Nj (α:=List Nat×List Nat×Value×Nat) (([],l,.slice none 0 0,a)) (λy=>[(0,ptr t 0),(1,I (x:Int)),(7,ptr b7 0),(9,y.2.2.1),(12,I (l.length:Int)),(13,I (y.1.length:Int))]) (λy w'=>ReI w w1 t r s l x k rest (a+(LG (restNums x k none l)).length) b7 y.1 y.2.1 y.2.2.1 y.2.2.2 w') (λy=>y.2.1.length) ?hI ?hround
 case hI=>exact⟨h1,ad.kp,bJ,Sl.nil _ _ _,(λg h=>by cases h),rfl,hb,rfl,Nat.le_refl _⟩
 case hround =>
  rintro⟨dn,l2,v9,a2⟩ w6 hI ih;dsimp only at hI;have dK:=hI.eq;have dN:l.length=dn.length+l2.length:=by rw[dK,List.length_append]
  try dsimp only
  refine qN O$ Mw O O$ Lf$ run_seq$ Lp O (λh0=>?_)$ λh0=>?_
  ·obtain⟨y,l2,rfl⟩:∃y q,l2=y::q:=by
    cases l2 with
    |nil=>simp at dN;omega
    |cons y q=>exact⟨y,q,rfl⟩
   rw[List.length_cons] at dN;have qf:y<65536:=hl.lt y (by rw[dK];simp);have aR:=hI.b7;have bS:=hI.bits;have jy:=hI.ZY
   have key:∃v:Nat,restNums x k dn.getLast? (y::l2)=(.zeta k,v)::restNums x k (dn++[y]).getLast? l2/\v<=262144/\(dn=[]->v=Zc ((y:Int)-x))/\∀u q,dn=q++[u]->v+(u+1)=y:=by
    rw[List.getLast?_append,show [y].getLast? =some y from rfl,Option.some_or];rcases List.eq_nil_or_concat dn with rfl|⟨q,u,rfl⟩
    ·refine⟨_,rfl,?_,λ_=>rfl,λu q e=>by simp at e⟩;have:=US (z:=(y:Int)-x) (n:=65536) (by omega) (by omega);omega
    ·have hu:u<y:=by
      have hr:=hl.Uq;rw[dK] at hr;exact(List.pairwise_append.1 hr).2.2 u (by simp) y (by simp)
     refine⟨y-u-1,?_,by omega,λe=>by simp at e,λu2 q2 e=>?_⟩
     ·have e1:(q.concat u).getLast? =some u:=by simp
      rw[e1];rfl
     ·have e2:q++[u]=q2++[u2]:=by simpa using e
      have:=(List.append_inj' e2 O).2;simp at this;omega
   obtain⟨v,fj,jf,tN,qg⟩:=key;rw[fj,Mf,List.append_assoc] at bS;rw[fj,Mf,List.length_append] at jy;refine py$ run_seq$ Lc$ qN O$ Le O$ Lw O$ qM O$ Le O$ qV (LM (news:=Og (.zeta k)) O9 O MO O (aR.cells (n:=2) O) O)$ LD XH O (Q0 hI.tk (.zeta k) v 262144 hk (by simp only[Cd.most];omega) jf (by omega) _ bS) ?_;rintro _ w7 ⟨rfl,h7,aC⟩;have hH:Kp (λk=>k=t\/k=r) w w7:=hI.kp.trans (aC.Lv λk e=> .inr e);have eU:=O3 bS;have gY:=hI.sl.kp aC (λg hg e=>by have:=hI.fr g hg;omega);have Ay:=aC.Lg aR (by omega);have EK:=hI.siz;have yL:=aC.size;refine Lk O$ run_seq$ qN O$ Le O$ Nb O O$ Lf$ M6 (λe' w'=>w'=w7/\e'=[(0,ptr t 0),(1,I (x:Int)),(7,ptr b7 0),(9,v9),(11,I (y:Int)),(12,I (l.length:Int)),(13,I (dn.length:Int))]) ?mn$ λmn=>?mq
   case mn=>
    rintro e' w7 ⟨rfl,rfl⟩;have jb:=h7.Lg;refine run_seq$ qN O$ Lu O O$ LU O$ Lt Pw O$ qV (Lj U4 O O jb O)$ Lu O O$ LD z3m O (Ra y qf _) ?_;rintro _ w8 ⟨rfl,rfl⟩;refine qV ((by first|exact Mh O|exact NL O)) ?_;refine M8 O O$ LU O$ Lt Pw O$ Ls O (MY Rz O O O jb (by simp)) ?_;rintro w8 ⟨cu,bB⟩;replace cu:Lq w8 t [ptr r 0,.bool false] 316:=cu;refine qM O$ Le O$ LU O$ Lt Pw O$ qV (Lj U4 O O cu O)$ Lf$ An O$ py$ Li O$ Lu O O$ qV (WA O U3 Mx) ?_;rw[Nat.mod_eq_of_lt (show y<4294967296 by omega)];refine Lm O O (RN (cs:=[_]) (zs:=[Value.int .u32 0]) LI Lz O (by kernel_rfl) O O O (by decide)) ?_;rintro _ w9 ⟨b9,rfl,⟨mz,eI,cM⟩,uC⟩;have o7:∀g,v9.ownBlock=some g->¬g=t:=λg hg e=>by have:=hI.fr g hg;omega
    have kw:∀g,v9.ownBlock=some g->¬g=r:=λg hg e=>by have:=hI.fr g hg;omega
    have EM:=bB.size;have EN:=eI.size;refine Lm O O (pap LI Lz O (by decide) O O ((gY.kp bB o7).ext eI) uC.rd (by intro c hc;simp at hc;subst hc;rfl) (by omega) (by simp only[maxLen];omega)) ?_;rintro v10 w10 ⟨bh,ar,Az,-⟩;have ma:=bh.oneV;refine Lk O$ Ld$ Li O$ Mb O O$ Le O$ Lf ?_;have rA:∀g,g<w1.heap.size->¬v9.ownBlock=some g:=λg hg e=>by have:=hI.fr g e;omega
    rw[show(dn.length:Int)+1=((dn++[y]).length:Int) by simp];refine(ih (dn++[y],l2,v10,a2+(Cd.enc (.zeta k) v).length) _ ⟨⟨ar.Lg (eI.Lg cu) (rA t (by omega)),⟨ar.Lg (eI.Lg (bB.Lg h7.rd.1 (λe=>h7.ne e.symm))) (rA r (by omega)),h7.rd.2⟩,h7.ne⟩,?_,?_,?_,?_,?_,eU,?_,?_⟩ (by dsimp only;simp)).qb
    ·exact((hH.trans (bB.Lv λk e=> .inl e)).trans eI.kp).It ar (λg hg=> .inl (by have:=hI.fr g hg;omega))
    ·exact ar.Lg (eI.Lg (bB.Lg Ay (by omega))) (rA b7 (by omega))
    ·rw[List.length_append,List.map_append];exact bh
    ·intro g hg;rcases Az g hg with e| e
     ·exact hI.fr g e
     ·omega
    ·rw[dK,List.append_assoc];rfl
    ·dsimp only at jy⊢;omega
    ·have:=ar.size;omega
   case mq=>
    refine Lp O (λe1=>?_)$ λe1=>?_
    ·have eP:dn=[]:=List.eq_nil_of_length_eq_zero (by omega);refine Li O$ Le O$ qV (Mc O U3 MP (by omega))$ LD z9g O (z2N v (by omega) _) ?_;rintro _ w8 ⟨rfl,rfl⟩;rw[tN eP,z3n];refine Le O$ Mb O O ?_;rw[show(y:Int)-x+x=(y:Int) by omega];refine Lk O ?_;exact(mn _ _ ⟨rfl,rfl⟩).qb
    ·obtain⟨q,u,rfl⟩:∃q u,dn=q++[u]:=by
      rcases List.eq_nil_or_concat dn with rfl|⟨q,u,rfl⟩
      ·exact absurd O e1
      ·exact⟨q,u,by simp⟩
     have EO:=qg u q O;have rt:(q++[u]).length=q.length+1:=by simp
     rw[rt] at gY;rcases gY.shape with⟨-,h0⟩|⟨g,c1,rfl,dv⟩
     ·omega
     refine Li O$ Lu O O$ Le O$ Np O O ?_;rw[show(((q++[u]).length:Nat):Int)-1=(q.length:Int) by simp];refine qV (M9 LI Lz O O (by omega))$ qV (LN Mx O O (Mn gY.rd (show((q++[u]).map LO)[q.length]? =some (LO u) by simp))) ?_;refine qV (M3 O Mx U3 (by omega))$ Mb O O$ Mb O O ?_;rw[show(v:Int)+((u:Int)+1)=(y:Int) by omega];refine Lk O ?_;exact(mn _ _ ⟨rfl,rfl⟩).qb
  ·have eP:l2=[]:=List.eq_nil_of_length_eq_zero (by omega);subst eP;refine Ln O$ qN O$ Le O$ Lk O$ Lh Tryz.func225 O ?_;rw[List.append_nil] at dK;subst dK;have jy:=hI.ZY;rw[show(LG (restNums x k l.getLast? [])).length=0 by cases l.getLast?<;>rfl,Nat.add_zero] at jy;rw[<-jy];exact⟨_,rfl,hI.sl,λg hg=>by have:=hI.fr g hg;omega,hI.tk,hI.kp⟩
section
variable {P:Program}{b:Frame}{a:Act}{k:List Item}{cs:List Frame}{w:World}{C:Cx}{e:Env}
theorem Zi {c:Code}:step P (lone (b.atR a (.code (.scope c)::k)) cs w)= .next (lone (b.atR a (.code c:: .inScope c::k)) cs w):=
 step_lone_go (by simp[stepG,stepG.exec,Frame.atR])
theorem z4e {c:Code}(h:LS C (.code c:: .inScope c::k) e w):LS C (.code (.scope c)::k) e w:=λa ha=>RR.step (λ_ _=>Zi) (h a ha)
end
def loE:Option Nat->Nat
 |none=>0
 |some z=>z+2
def z1r:Option Nat->Int
 |none=>-1
 |some z=>(z:Int)
def Qr (x:Nat):Option Nat->Nat->Nat
 |none,y=>Zc ((y:Int)-x)
 |some e,y=>y-e-2
theorem Nz (x least:Nat)(e:Option Nat)(p:Nat×Nat)(R:List (Nat×Nat)):longNums x least e (p::R)=(.gamma,Qr x e p.1)::(.gamma,p.2-least)::longNums x least (some (p.1+p.2-1)) R:=by
 cases e<;>rfl
structure LoI (w:World)(t r:Nat)(s:Bytes)(R:List (Nat×Nat))(x least left:Nat)(rest:List Bool)(aE:Nat)(i:Nat)(R2:List (Nat×Nat))(e:Option Nat)(O_:List Nat)(v9:Value)(a:Nat)(w':World):Prop where
 tk:Xs w' t r s a
 kp:Kp (λk=>k=t\/k=r) w w'
 sl:Sl w' v9 46 1 O_.length (O_.map LO)
 fr:∀g,v9.ownBlock=some g->w.heap.size<=g
 len:R.length=i+R2.length
 eq:MQ R=O_++MQ R2
 ok:OE least (loE e) R2
 hi:∀p∈R2,p.1+p.2<=65536
 tot:O_.length+(MQ R2).length<=left
 bits:(LF s).drop a=LG (longNums x least e R2)++rest
 ZY:a+(LG (longNums x least e R2)).length=aE
 eb:z1r e<65536
theorem z4y {w : World}{t r a : Nat}{s : Bytes}(h : Xs w t r s a)(hG : Lq w 0 (Og .gamma) 260)(cZ : ¬ 0 = r)(mA : ¬ 0 = t)(x left least : Nat)(hx : x < 65536)(qe : left <= 65536)(AA : least <= 64)(R : List (Nat × Nat))(hR : OE least 0 R)(GB : ∀ p ∈ R, p.1 + p.2 <= 65536)
  (uB:(MQ R).length<=left) (GC:R.length<=left) (rest:List Bool) (hb:(LF s).drop a=LG ((.gamma,R.length)::longNums x least none R)++rest):
  LP Tryz.prog 224 [ptr t 0,I (x:Int),I (left:Int),I (least:Int)] w λu w'=>Sl w' u 46 1 (MQ R).length ((MQ R).map LO)/\(∀g,u.ownBlock=some g->w.heap.size<=g)/\
   Xs w' t r s (a+(LG ((.gamma,R.length)::longNums x least none R)).length)/\Kp (λk=>k=t\/k=r) w w':=by
 have je:∀v:Nat,v<=262144->v<=Cd.most .gamma:=λv hv=>by simp only[Cd.most];omega
 have lt0:=h.Lg.lt
 have lr0:=h.rd.1.lt
 refine Lb (e:=[(0,_),(1,_),(2,_),(3,_)]) Tryz.func224 O Tryz.ntmps224 O O$ qN O$ Lk O$ z4e$ qN O$ Lw O$ qM O$ Lk O$ run_seq$ z4h$ run_seq$ qN O$ Le O$ qV (LM (news:=[.int .u8 1,Ly 0]) O9 O MO O (hG.cells (n:=2) O) O) ?_
 rw[Mf,List.append_assoc] at hb
 refine Le O$ LD XH O (Q0 h .gamma R.length left trivial (je _ (by omega)) GC (by omega) _ hb) ?_
 rintro _ w1 ⟨rfl,h1,aN⟩
 have bR:=O3 hb
 refine Le O$ Lf$ Lc$ Nj (α:=Nat×List (Nat×Nat)×Option Nat×List Nat×Value×Nat) ((0,R,none,[],.slice none 0 0,a+(Cd.enc .gamma R.length).length)) (λy=>[(0,ptr t 0),(1,I (x:Int)),(2,I (left:Int)),(3,I (least:Int)),(9,y.2.2.2.2.1),(10,I (z1r y.2.2.1)),(17,I (R.length:Int)),(18,I (y.1:Int))]) (λy w'=>LoI w t r s R x least left rest (a+(LG ((.gamma,R.length)::longNums x least none R)).length) y.1 y.2.1 y.2.2.1 y.2.2.2.1 y.2.2.2.2.1 y.2.2.2.2.2 w') (λy=>y.2.1.length) ?hI ?hround
 case hI=>exact⟨h1,aN.Lv λk e=> .inr e,Sl.nil _ _ _,(λg h=>by cases h),by simp,rfl,hR,GB,by simpa using uB,bR,by rw[Mf,List.length_append];dsimp only;omega,(show(-1:Int)<65536 by decide)⟩
 case hround =>
  rintro⟨i,R2,e,O_,v9,a2⟩ w6 hI ih;dsimp only at hI;have aD:=hI.len
  try dsimp only
  refine qN O$ Mw O O$ Lf$ run_seq$ Lp O (λh0=>?_)$ λh0=>?_
  ·obtain⟨⟨p1,p2⟩,R2,rfl⟩:∃p q,R2=p::q:=by
    cases R2 with
    |nil=>simp at aD;omega
    |cons p q=>exact⟨p,q,rfl⟩
   rw[List.length_cons] at aD;obtain⟨ok1,ok2,ok3,ok4⟩:loE e<=p1/\1<=p2/\least<=p2/\OE least (p1+p2+1) R2:=hI.ok;have Kj:p1+p2<=65536:=hI.hi (p1,p2) List.mem_cons_self;have gP:MQ ((p1,p2)::R2)=(List.range p2).map (p1+·)++MQ R2:=rfl;have qh:=hI.tot;have uD:=hI.eq;rw[gP] at qh uD;rw[List.length_append,List.length_map,List.length_range] at qh;have bS:=hI.bits;have jy:=hI.ZY;rw[Nz,Mf,Mf,List.append_assoc,List.append_assoc] at bS;rw[Nz,Mf,Mf,List.length_append,List.length_append] at jy;have AB:=hI.eb
   have fj:Qr x e p1<=262144:=by
    cases e with
    |none=>have:=US (z:=(p1:Int)-x) (n:=65537) (by omega) (by omega);show Zc _<=_;omega
    |some z=>show p1-z-2<=_;omega
   have i5:∀k,(λk=>k=t\/k=r) k->k<w.heap.size:=λk hk=>by rcases hk with e|e<;>omega
   have yP:=hI.kp.Lg hG (λe=>by rcases e with e|e;exact mA e;exact cZ e);refine py$ run_seq$ Lc$ qN O$ Le O$ qV (LM (news:=[.int .u8 1,Ly 0]) O9 O MO O (yP.cells (n:=2) O) O)$ LD XH O (Q0 hI.tk .gamma (Qr x e p1) 262144 trivial (je _ fj) fj (by omega) _ bS) ?_;rintro _ w7 ⟨rfl,h7,aC⟩;have eU:=O3 bS;have EK:=hI.kp.size;have yL:=aC.size;have EP:∀g,v9.ownBlock=some g->¬g=r:=λg hg e=>by have:=hI.fr g hg;omega
   have gY:=hI.sl.kp aC EP;have hH:Kp (λk=>k=t\/k=r) w w7:=hI.kp.trans (aC.Lv λk e=> .inr e);refine Lk O$ run_seq$ qN O$ Le O$ Mw O O$ Lf$ M6 (λe' w'=>w'=w7/\e'=[(0,ptr t 0),(1,I (x:Int)),(2,I (left:Int)),(3,I (least:Int)),(9,v9),(11,I (p1:Int)),(17,I (R.length:Int)),(18,I (i:Int))]) ?mn$ λmn=>?mq
   case mn =>
    rintro e' w7 ⟨rfl,rfl⟩;have GD:=aC.Lg yP cZ;refine qN O$ Le O$ qV (LM (news:=[.int .u8 1,Ly 0]) O9 O MO O (GD.cells (n:=2) O) O)$ Le O$ LD XH O (Q0 h7 .gamma (p2-least) left trivial (je _ (by omega)) (by omega) (by omega) _ eU) ?_;rintro _ w8 ⟨rfl,h8,bB⟩;have rB:=O3 eU;have EM:=bB.size;have eJ:=gY.kp bB EP;have oH:Kp (λk=>k=t\/k=r) w w8:=hH.trans (bB.Lv λk e=> .inr e);obtain⟨va,vc,rfl,-⟩:=hI.sl.rd.shape;refine Le O$ Mb O O ?_;rw[show((p2-least:Nat):Int)+(least:Int)=(p2:Int) by omega];have cu:=h8.Lg;refine Lk O$ run_seq$ qN O$ Lu O O$ LU O$ Lt Pw O$ qV (Lj U4 O O cu O)$ Lu O O$ Mw O O$ M5$ M8 O O$ Lu O O$ Le O$ Mb O O ?_;refine MH O O$ M5$ M8 O O$ Lu O O$ Lu O O$ Nd LI O$ Np O O$ MH O O$ M5$ M8 O O$ LU O$ Lt Pw O$ Ls O (MY Rz O O O cu (by simp)) ?_;rintro w9 ⟨cM,aP⟩;replace cM:Lq w9 t [ptr r 0,.bool false] 316:=cM;refine qM O$ Le O$ LU O$ Lt Pw O$ qV (Lj U4 O O cM O) ?_;have EN:=aP.size;have uC:=eJ.kp aP (λg hg e=>by have:=hI.fr g hg;omega);have h9:Xs w9 t r s (a2+(Cd.enc .gamma (Qr x e p1)).length+(Cd.enc .gamma (p2-least)).length):=⟨cM,⟨aP.Lg h8.rd.1 (λe=>h8.ne e.symm),h8.rd.2⟩,h8.ne⟩;have AC:Kp (λk=>k=t\/k=r) w w9:=oH.trans (aP.Lv λk e=> .inl e);refine Lf$ An O$ py$ run_seq$ qN O$ Lu O O$ Lf$ Lc$ Nj (α:=Nat×Value) ((0,.slice va O_.length vc)) (λy=>[(0,ptr t 0),(1,I (x:Int)),(2,I (left:Int)),(3,I (least:Int)),(9,y.2),(11,I (p1:Int)),(12,I (p2:Int)),(17,I (R.length:Int)),(18,I (i:Int)),(69,I (p2:Int)),(70,I (y.1:Int))]) (λy w'=>Xs w' t r s (a2+(Cd.enc .gamma (Qr x e p1)).length+(Cd.enc .gamma (p2-least)).length)/\Kp (λk=>k=t\/k=r) w w'/\Sl w' y.2 46 1 (O_.length+y.1) ((O_++(List.range y.1).map (p1+·)).map LO)/\(∀g,y.2.ownBlock=some g->w.heap.size<=g)/\y.1<=p2) (λy=>p2-y.1) ?hI ?hround
    case hI=>exact⟨h9,AC,by simpa using uC,hI.fr,Nat.zero_le _⟩
    case hround=>
     rintro⟨j,v⟩ w10 ⟨dj,ar,bh,ba,hj⟩ ih2;dsimp only at dj ar bh ba hj
     try dsimp only
     refine qN O$ Mw O O$ Lf$ run_seq$ Lp O (λky=>?_)$ λky=>?_
     ·refine py$ run_seq$ Lc$ qN O$ Le O$ Lk O$ Li O$ Lu O O$ Le O$ Mb O O$ qV (WA O U3 Mx) ?_;rw[show(p1+j)%4294967296=p1+j by omega];refine Lm O O (RN (cs:=[_]) (zs:=[Value.int .u32 0]) LI Lz O (by kernel_rfl) O O O (by decide)) ?_;rintro _ w11 ⟨b11,rfl,⟨iL,aQ,aH⟩,jz⟩;have GE:=ar.size;have AD:=aQ.size;refine Lm O O (pap LI Lz O (by decide) O O (bh.ext aQ) jz.rd (by intro c hc;simp at hc;subst hc;rfl) (by omega) (by simp only[maxLen];omega)) ?_;rintro v12 w12 ⟨i5,aS,AE,-⟩;have ma:=i5.oneV;refine Lk O$ Ld$ Li O$ Mb O O$ Le O$ Lf ?_;have uE:∀g,g<w.heap.size->¬v.ownBlock=some g:=λg hg e=>by have:=ba g e;omega
      refine(ih2 (j+1,v12) _ ⟨⟨aS.Lg (aQ.Lg dj.Lg) (uE t lt0),⟨aS.Lg (aQ.Lg dj.rd.1) (uE r lr0),dj.rd.2⟩,dj.ne⟩,(ar.trans aQ.kp).It aS (λg hg=> .inl (ba g hg)),?_,λg hg=>?_,by omega⟩ (by dsimp only;omega)).qb
      ·have e1:(O_++(List.range (j+1)).map (p1+·)).map LO=(O_++(List.range j).map (p1+·)).map LO++[LO (p1+j)]:=by
        rw[List.range_succ];simp
       dsimp only;rw[e1];exact i5
      ·rcases AE g hg with e| e
       ·exact ba g e
       ·omega
     ·have GF:j=p2:=by omega
      subst GF;refine Ln O$ Li O$ Lu O O$ Mb O O$ Np O O$ Lk O$ Ld$ Li O$ Mb O O$ Le O$ Lf ?_;rw[show(p1:Int)+j-1=z1r (some (p1+j-1)) by show _=((p1+j-1:Nat):Int);omega,show(i:Int)+1=((i+1:Nat):Int) by omega];refine(ih (i+1,R2,some (p1+j-1),O_++(List.range j).map (p1+·),v,_) _ ⟨dj,ar,?_,ba,by dsimp only;omega,by rw[uD,List.append_assoc],?_,λp hp=>hI.hi p (List.mem_cons_of_mem _ hp),?_,rB,?_,?_⟩ (by dsimp only;simp)).qb
      ·dsimp only;rw[List.length_append,List.length_map,List.length_range];exact bh
      ·refine ok4.mono ?_;show p1+j-1+2<=_;omega
      ·dsimp only;rw[List.length_append,List.length_map,List.length_range];omega
      ·dsimp only at jy⊢;omega
      ·show((p1+j-1:Nat):Int)<65536;omega
   case mq=>
    cases e with
    | none =>
      refine Lp O (λe1=>?_)$ λe1=>?_
      ·refine Li O$ Le O$ qV (Mc O U3 MP (by omega))$ LD z9g O (z2N _ (by omega) _) ?_;rintro _ w8 ⟨rfl,rfl⟩;rw[show Qr x none p1=Zc ((p1:Int)-x) from rfl,z3n];refine Le O$ Mb O O ?_;rw[show(p1:Int)-x+x=(p1:Int) by omega];refine Lk O ?_;exact(mn _ _ ⟨rfl,rfl⟩).qb
      ·exact absurd (by decide) e1
    | some z =>
      refine Lp O (λe1=>?_)$ λe1=>?_
      ·exact absurd e1 (by show ¬((z:Int)<0);omega)
      ·have hz:z+2<=p1:=ok1;refine Li O$ Lu O O ?_;rw[show z1r (some z)=(z:Int) from rfl];refine Mb O O$ Mb O O ?_;rw[show Qr x (some z) p1=p1-z-2 from rfl,show((p1-z-2:Nat):Int)+((z:Int)+2)=(p1:Int) by omega];refine Lk O ?_;exact(mn _ _ ⟨rfl,rfl⟩).qb
  ·have eP:R2=[]:=List.eq_nil_of_length_eq_zero (by omega);subst eP;refine Ln O$ qN O$ Le O$ Lk O$ Lh Tryz.func224 O ?_;have dK:=hI.eq;rw[show MQ []=[] from rfl,List.append_nil] at dK;have jy:=hI.ZY;rw[show(LG (longNums x least e [])).length=0 by cases e<;>rfl,Nat.add_zero] at jy;rw[dK,<-jy];exact⟨_,rfl,hI.sl,hI.fr,hI.tk,hI.kp⟩
def MC (p:NT)(n r:Nat):List (Cd×Nat):=(.gamma,n)::if n=0 then [] else if 0<p.LJ then [(.unary,r)] else []
theorem XI {w:World}{r a:Nat}{s:Bytes}(h:Py w r s a)(p:NT)(hp:p.My)(hG:Lq w 0 (Og .gamma) 260)(hU:Lq w 1 (Og .unary) 260)(cZ:¬0=r)(dP:¬1=r)(n q:Nat)(hn:n<=65536)(hq:q<=p.LJ)
  (mB:n=0->q=0) (rest:List Bool) (hb:(LF s).drop a=LG (MC p n q)++rest):
  LP Tryz.prog 106 [ptr r 0,lpV p] w λu w'=>u= .tuple #[.agg #[I (n:Int),I (q:Int)],I 0]/\Py w' r s (a+(LG (MC p n q)).length)/\Kp (λk=>k=r) w w':=by
 obtain⟨g1,g2,g3,g4⟩:=id hp
 have lr0:=h.1.lt
 have mC:p.LJ=0->q=0:=λe=>by omega
 unfold MC at hb⊢
 rw[Mf,List.append_assoc] at hb
 refine Lb (e:=[(0,_),(1,_)]) Tryz.func106 O Tryz.ntmps106 O O$ qN O$ Lm O O (Nc O (cs:=VD p) O) ?_
 rintro _ w1 ⟨b3,rfl,eB,ad,aq⟩
 refine Lm O O (NJ (cs:=[_,_]) NS O) ?_
 rintro _ w2 ⟨b4,rfl,gn,ag,aF⟩
 have z1:=ad.size
 have z2:=ag.size
 have cU:=ag.Lg aq
 refine Lk O$ run_seq$ Lc$ qN O$ Le O$ qV (Ml Pn O O)$ Lk O$ An O$ qN O$ qV (LM (news:=VD p) Ut O PH O (cU.cells (n:=3) O) O)$ LD z0z O (PA p hp w2) ?_
 rintro _ w3 ⟨rfl,ah⟩
 refine Mu O O$ Lw O ?_
 have db:=(ad.trans ag).trans ah
 have h3:Py w3 r s a:=⟨db.Lg h.1,h.2⟩
 refine Lf$ An O$ py$ Ld$ qN O$ Le O$ LD Tu O (PO h3) ?_
 rintro _ w4 ⟨rfl,rfl⟩
 refine Lw O$ qM O$ Le O$ qV (LM (news:=[.int .u8 1,Ly 0]) O9 O MO O ((db.Lg hG).cells (n:=2) O) O)$ LD z6H O (Uu h3 .gamma n trivial (by simp only[Cd.most];omega) _ hb) ?_
 rintro _ w5 ⟨rfl,h5,ak⟩
 have gQ:=O3 hb
 have cy:=ak.Lg (ah.Lg cU) (by omega)
 have aM:=ak.Lg (ah.Lg aF) (by omega)
 have ci:Kp (λk=>k=r) w w5:=db.kp.trans ak
 replace cy:Lq w5 b3 [I (p.LJ:Int),I (p.interval:Int),I (p.zeta:Int)] 212:=cy
 refine Le O$ Mp O O$ Mp O O$ Lw O$ Lw O$ qM O$ Lk O$ run_seq$ qN O$ Le O$ Nb O O$ Le O ?_
 rcases Nat.eq_zero_or_pos n with e0|e0
 ·have rC:=mB e0;subst e0;subst rC;refine Le O$ MH O O$ M5$ MU O O$ Le O$ qS$ qS$ qS$ M8 O O$ Lf$ LS.qb (e:=[(0,_),(3,_),(4,_),(5,_),(6,_),(7,_),(8,_),(9,_),(37,_)]) ?_;refine An O$ py$ run_seq$ qN O$ Le O$ Mu O O$ Lu O O$ MH O O$ M5$ M8 O O$ Lu O O$ Lt OS O$ qV (Lj U3 O O cy O)$ qV ((by first|exact Mc O U3 MP (by omega)|exact Ny O U3 MP)) ?_;refine MH O O$ M5$ M8 O O$ Lf$ An O$ py$ qN O$ Le O$ qV (M3 O MP U3 (by omega))$ Le O$ qV (M3 O MP U3 (by omega))$ qV (O6 (cs:=[_,_]) NS O z5Z O O)$ Ls O (M7 (news:=[I ((0:Nat):Int),I (((0:Nat)):Int)]) NS O O O O aM (by simp)) ?_;rintro w9 ⟨bP,aP⟩;replace bP:Lq w9 b4 [I ((0:Nat):Int),I (((0:Nat)):Int)] 157:=bP;refine Lk O$ LS.qb (e:=[(4,_),(5,_)]) ?_;refine LL Tryz.func106 (.cell ZS O NS O (Lq.cells (n:=2) bP (news:=[_,_]) O) O (.tmp O .nil)) ?_;rw[if_pos O,show(LG [((.gamma,0):Cd×Nat)]).length=(Cd.enc .gamma 0).length by rw[Mf,List.length_append];rfl];refine⟨_,rfl,rfl,⟨aP.Lg h5.1 (by omega),h5.2⟩,ci.It aP (λk e=> .inl (by omega))⟩
 ·rw[if_neg (by omega)] at gQ⊢;rcases Nat.eq_zero_or_pos p.LJ with e1|e1
  ·have rC:=mC e1;subst rC;rw[if_neg (by omega)] at gQ⊢;refine Le O$ MH O O$ Ns$ MU O O$ Le O$ Lt OS O$ qV (Lj U3 O O cy O)$ MH O O$ M5$ MU O O$ Lf$ LS.qb (e:=[(0,_),(3,_),(4,_),(5,_),(6,_),(7,_),(8,_),(9,_),(37,_)]) ?_;refine An O$ py$ run_seq$ qN O$ Le O$ Mu O O$ Lu O O$ MH O O$ M5$ M8 O O$ Lu O O$ Lt OS O$ qV (Lj U3 O O cy O)$ qV ((by first|exact Mc O U3 MP (by omega)|exact Ny O U3 MP)) ?_;refine MH O O$ M5$ M8 O O$ Lf$ An O$ py$ qN O$ Le O$ qV (M3 O MP U3 (by omega))$ Le O$ qV (M3 O MP U3 (by omega))$ qV (O6 (cs:=[_,_]) NS O z5Z O O)$ Ls O (M7 (news:=[I (n:Int),I (((0:Nat)):Int)]) NS O O O O aM (by simp)) ?_;rintro w9 ⟨bP,aP⟩;replace bP:Lq w9 b4 [I (n:Int),I (((0:Nat)):Int)] 157:=bP;refine Lk O$ LS.qb (e:=[(4,_),(5,_)]) ?_;refine LL Tryz.func106 (.cell ZS O NS O (Lq.cells (n:=2) bP (news:=[_,_]) O) O (.tmp O .nil)) ?_;rw[show(LG [((.gamma,n):Cd×Nat)]).length=(Cd.enc .gamma n).length by rw[Mf,List.length_append];rfl];refine⟨_,rfl,rfl,⟨aP.Lg h5.1 (by omega),h5.2⟩,ci.It aP (λk e=> .inl (by omega))⟩
  ·rw[if_pos e1] at gQ⊢;rw[Mf,List.append_assoc] at gQ;refine Le O$ MH O O$ Ns$ MU O O$ Le O$ Lt OS O$ qV (Lj U3 O O cy O)$ MH O O$ Ns$ MU O O$ Lf$ LS.qb (e:=[(0,_),(3,_),(4,_),(5,_),(6,_),(7,_),(8,_),(9,_),(37,_)]) ?_;refine Lr O$ Li O$ Le O$ qV (LM (news:=[.int .u8 0,Ly 0]) O9 O MO O ((ci.Lg hU dP).cells (n:=2) O) O)$ LD z6H O (Uu h5 .unary q trivial (by simp only[Cd.most];omega) _ gQ) ?_;rintro _ w6 ⟨rfl,h6,aU⟩;have jA:=aU.Lg cy (by omega);have bQ:=aU.Lg aM (by omega);have rD:=ci.trans aU;refine Le O$ Mp O O$ Mp O O$ Lw O$ Lk O$ run_seq$ qN O$ Le O$ Mu O O$ Lu O O$ MH O O$ M5$ M8 O O$ Lu O O ?_;refine Lt OS O$ qV (Lj U3 O O jA O)$ qV ((by first|exact Mc O U3 MP (by omega)|exact Ny O U3 MP)) ?_;refine MH O O$ M5$ M8 O O$ Lf$ LS.qb (e:=[(0,_),(4,_),(5,_),(6,_),(7,_),(9,_),(56,_)]) ?_;refine An O$ py$ qN O$ Le O$ qV (M3 O MP U3 (by omega))$ Le O$ qV (M3 O MP U3 (by omega))$ qV (O6 (cs:=[_,_]) NS O z5Z O O)$ Ls O (M7 (news:=[I (n:Int),I (q:Int)]) NS O O O O bQ (by simp)) ?_;rintro w9 ⟨bP,aP⟩;replace bP:Lq w9 b4 [I (n:Int),I (q:Int)] 157:=bP;refine Lk O$ LL Tryz.func106 (.cell ZS O NS O (Lq.cells (n:=2) bP (news:=[_,_]) O) O (.tmp O .nil)) ?_;rw[show(LG [((.gamma,n):Cd×Nat),(.unary,q)]).length=(Cd.enc .gamma n).length+(Cd.enc .unary q).length by rw[Mf,Mf,List.length_append,List.length_append];rfl,<-Nat.add_assoc];refine⟨_,rfl,rfl,⟨aP.Lg h6.1 (by omega),h6.2⟩,rD.It aP (λk e=> .inl (by omega))⟩
structure Mq where
 LJ:Nat
 chain:Nat
 interval:Nat
 zeta:Nat
 most:Nat
def Mq.list (p:Mq):NT:=⟨p.LJ,p.interval,p.zeta⟩
def Mq.My (p:Mq):Prop:=p.list.My/\p.chain<=16/\p.most<=65536
def QV (p:Mq):List Value:=[I (p.LJ:Int),I (p.chain:Int),I (p.interval:Int),I (p.zeta:Int),I (p.most:Int)]
abbrev bpV (p:Mq):Value:= .agg (QV p).toArray
theorem OI (p:Mq)(w:World):LP Tryz.prog 107 [bpV p] w λu w'=>u=lpV p.list/\Ext w w':=by
 refine Lb (e:=[(0,_)]) Tryz.func107 O Tryz.ntmps107 O O$ qN O$ Lm O O (Nc O (cs:=QV p) O) ?_
 rintro _ w1 ⟨b1,rfl,bR,ad,ai⟩
 refine Lm O O (NJ (cs:=[_,_,_]) PH O) ?_
 rintro _ w2 ⟨b2,rfl,c6,ag,am⟩
 have bz:=ag.Lg ai
 replace bz:Lq w2 b1 [I (p.LJ:Int),I (p.chain:Int),I (p.interval:Int),I (p.zeta:Int),I (p.most:Int)] 88:=bz
 refine qM O$ Lt Xe O$ qV (Lj U3 O O bz O)$ Lt z60 O$ qV (Lj U3 O O bz O)$ Lt z7z O$ qV (Lj U3 O O bz O)$ qV (O6 (cs:=[_,_,_]) PH O zcQ O O)$ Ls O (M7 (news:=[I (p.LJ:Int),I (p.interval:Int),I (p.zeta:Int)]) PH O O O O am (by simp)) ?_
 rintro w3 ⟨cS,ax⟩
 replace cS:Lq w3 b2 [I (p.LJ:Int),I (p.interval:Int),I (p.zeta:Int)] 212:=cS
 refine Lf$ LL Tryz.func107 (.cell Ut O PH O (Lq.cells (n:=3) cS (news:=[_,_,_]) O) O .nil) ?_
 have z1:=ad.size
 exact⟨_,rfl,rfl,(ad.trans ag).It ax (λk e=>by omega)⟩
theorem Vs (p:Mq)(hp:p.My)(w:World):LP Tryz.prog 156 [bpV p] w λu w'=>u=I 0/\Ext w w':=by
 obtain⟨g1,g2,g3⟩:=hp
 refine Lb (e:=[(0,_)]) Tryz.func156 O Tryz.ntmps156 O O$ qN O$ Lm O O (Nc O (cs:=QV p) O) ?_
 rintro _ w1 ⟨b1,rfl,bR,ad,ai⟩
 have fJ:Lq w1 b1 [I (p.LJ:Int),I (p.chain:Int),I (p.interval:Int),I (p.zeta:Int),I (p.most:Int)] 88:=ai
 refine Lk O$ run_seq$ qN O$ Lt UH O$ qV (Lj U3 O O fJ O)$ Mw O O$ M5$ Le O$ Lt UH O$ qV (Lj U3 O O fJ O)$ MH O O$ M5$ M8 O O$ Le O ?_
 refine Lt Ph O$ qV (Lj U3 O O fJ O)$ Mw O O$ M5$ M8 O O$ Le O$ Lt Ph O$ qV (Lj U3 O O fJ O)$ MH O O$ M5$ M8 O O$ Lf$ An O$ py ?_
 refine qN O$ qV (LM Wq O Nw O (Lq.cells (n:=5) fJ (news:=[_,_,_,_,_]) O) O)$ LD WM O (OI p w1) ?_
 rintro _ w2 ⟨rfl,ag⟩
 refine LD z0z O (PA p.list g1 w2) ?_
 rintro _ w3 ⟨rfl,ah⟩
 refine Lk O$ Lh Tryz.func156 O ?_
 exact⟨_,rfl,rfl,(ad.trans ag).trans ah⟩
structure Om (w:World)(g n cap:Nat)(d:Array Nat):Prop where
 sl:Sl w (.slice (some ⟨g,0,none⟩) n cap) 46 1 n (d.toList.map LO)
 size:d.size=n
abbrev MJ (x y:Nat):Bool:=decide (x<y)
theorem TS:Go.Sort.SWO MJ:=⟨λx=>by simp[MJ],λx y z h1 h2=>by simp[MJ] at*;omega,λx y z h1 h2=>by simp[MJ] at*;omega⟩
section
variable {w w':World}{g n cap:Nat}{d:Array Nat}{S:Nat->Prop}
theorem Om.ext (h:Om w g n cap d)(k:Ext w w'):Om w' g n cap d:=⟨h.sl.ext k,h.size⟩
theorem Om.kp (h:Om w g n cap d)(k:Kp S w w')(hg:¬S g):Om w' g n cap d:=⟨h.sl.kp k (λg' e=>by cases e;exact hg),h.size⟩
theorem Om.get {i:Nat}(h:Om w g n cap d)(hi:i<n):w.cell? ⟨g,0+i*1,none⟩=some (LO d[i]!):=by
 have hs:=h.size
 refine Mn h.sl.rd ?_
 rw[List.getElem?_map,Array.getElem?_toList,Array.getElem?_eq_getElem (by omega)]
 rw[getElem!_pos d i (by omega)]
 rfl
theorem Om.VU {j:Nat}(h:Om w g n cap d)(hj:j<n):j<(d.toList.map LO).length:=by
 have hs:=h.size
 rw[List.length_map,Array.length_toList];omega
theorem Om.set {i y:Nat}(h:Om w g n cap d)(hS:Sl w' (.slice (some ⟨g,0,none⟩) n cap) 46 1 n ((d.toList.map LO).set (0+i*1) (LO y))):Om w' g n cap (d.setIfInBounds i y):=by
 refine⟨?_,by rw[Array.size_setIfInBounds,h.size]⟩
 rw[Array.toList_setIfInBounds,List.map_set]
 rw[show 0+i*1=i by omega] at hS
 exact hS
end
theorem z4a (x:Nat)(w:World):LP Tryz.prog 256 [LO x] w λu w'=>u= .bool false/\w'=w:=by
 refine Lb (e:=[(0,_)]) Tryz.func256 O Tryz.ntmps256 O O$ qN O$ Lw O$ qM O$ Lu O O$ Mu O O$ Lk O$ Lh Tryz.func256 O ?_
 exact⟨_,rfl,by simp[resVal],rfl⟩
theorem NQ (x y:Nat)(w:World):LP Tryz.prog 247 [LO x,LO y] w λu w'=>u= .bool (MJ x y)/\w'=w:=by
 refine Lb (e:=[(0,_),(1,_)]) Tryz.func247 O Tryz.ntmps247 O O$ qN O$ Lw O$ qM O$ Le O$ LD zcm O (z4a x w) ?_
 rintro _ w ⟨rfl,rfl⟩
 refine Le O$ qS$ qS$ qS$ M8 O O$ Lu O O$ Le O$ Mw O O$ M8 O O$ Lk O$ Lh Tryz.func247 O ?_
 exact⟨_,rfl,by simp[MJ,resVal],rfl⟩
section
variable (a b j i:Nat)(d:Array Nat)
theorem z0s (hj:a<j)(hl:MJ d[j]! d[j-1]! =true):Go.Sort.insInner MJ a j d=Go.Sort.insInner MJ a (j-1) (Go.Sort.swp d j (j-1)):=by
 obtain⟨k,rfl⟩:∃k,j=k+1:=⟨j-1,by omega⟩
 rw[Go.Sort.insInner]
 simp only[Nat.add_sub_cancel] at hl⊢
 rw[if_pos]
 rw[Bool.and_eq_true];exact⟨by simpa using hj,hl⟩
theorem SM (h:j<=a\/MJ d[j]! d[j-1]! =false):Go.Sort.insInner MJ a j d=d:=by
 cases j with
 |zero=>rw[Go.Sort.insInner]
 | succ k =>
   rw[Go.Sort.insInner];simp only[Nat.add_sub_cancel] at h;rw[if_neg];intro hc;rw[Bool.and_eq_true] at hc;rcases h with h| h
   ·have:=of_decide_eq_true hc.1;omega
   ·rw[h] at hc;cases hc.2
theorem Zn (h:i<b):Go.Sort.insOuter MJ a b i d=Go.Sort.insOuter MJ a b (i+1) (Go.Sort.insInner MJ a i d):=by rw[Go.Sort.insOuter,if_pos h]
theorem Xz (h:¬i<b):Go.Sort.insOuter MJ a b i d=d:=by rw[Go.Sort.insOuter,if_neg h]
end
theorem Xt {w:World}{g n cap:Nat}{d:Array Nat}(h:Om w g n cap d)(a b:Nat)(j9:a<=b)(hb:b<=n)(hn:n<=65536):
  LP Tryz.prog 241 [.slice (some ⟨g,0,none⟩) n cap,I (a:Int),I (b:Int)] w λu w'=>u= .tuple #[]/\Om w' g n cap (Go.Sort.insertionSort MJ d a b)/\Kp (λk=>k=g) w w':=by
 refine Lb (e:=[(0,_),(1,_),(2,_)]) Tryz.func241 O Tryz.ntmps241 O O$ qN O$ Le O$ Mb O O$ Lk O$ Lc$ Nj (α:=Nat×Array Nat) ((a+1,d)) (λy=>[(0,.slice (some ⟨g,0,none⟩) n cap),(1,I (a:Int)),(2,I (b:Int)),(6,I (y.1:Int))]) (λy w'=>Om w' g n cap y.2/\Kp (λk=>k=g) w w'/\Go.Sort.insOuter MJ a b y.1 y.2=Go.Sort.insertionSort MJ d a b/\a<y.1) (λy=>b-y.1) ?hI ?hround
 case hI=>exact⟨h,Kp.refl _ _,rfl,Nat.lt_succ_self a⟩
 case hround=>
  rintro⟨i,d4⟩ w4 ⟨dX,av,cz,lh⟩ ih;dsimp only at dX av cz lh
  try dsimp only
  refine run_seq$ qN O$ Lu O O$ Mw O O$ Lf$ Lp O (λh0=>?_)$ λh0=>?_
  ·rw[Zn _ _ _ _ (by omega)] at cz;refine py$ run_seq$ Lc$ qN O$ Le O$ Lk O$ Lc$ Nj (α:=Nat×Array Nat) ((i,d4)) (λy=>[(0,.slice (some ⟨g,0,none⟩) n cap),(1,I (a:Int)),(2,I (b:Int)),(6,I (i:Int)),(7,I (y.1:Int))]) (λy w'=>Om w' g n cap y.2/\Kp (λk=>k=g) w w'/\Go.Sort.insInner MJ a y.1 y.2=Go.Sort.insInner MJ a i d4/\y.1<=i/\a<=y.1) (λy=>y.1) ?hI ?hround
   case hI=>exact⟨dX,av,rfl,Nat.le_refl _,by dsimp only;omega⟩
   case hround=>
    rintro⟨j,d5⟩ w5 ⟨aW,ak,bT,GG,AF⟩ ih2;dsimp only at aW ak bT GG AF
    try dsimp only
    have hg:=Ext.LC w5;rcases Nat.lt_or_ge a j with hj|hj
    ·refine run_seq$ run_seq$ N7 (λw'=>Ext w5 w') O$ LA 0 O O (hg)$ LA 1 O O (hg)$ Ll 2 O (TN O O) hg$ Pu$ LA 3 O O (hg)$ LA 4 O O (hg)$ LA 5 O O (hg)$ Ll 6 O (M9 LI Lz O O (by omega)) hg$ LA 8 O O (hg)$ LA 9 O O (hg)$ Ll 10 O (SR O O (by omega)) hg ?_;rw[show(j:Int)-1=((j-1:Nat):Int) by omega];refine qT 7 O (λ_ h=>LN Mx O O ((aW.ext h).get (i:=j) (by omega))) hg$ Ll 11 O (M9 LI Lz O O (by omega)) hg$ qT 12 O (λ_ h=>LN Mx O O ((aW.ext h).get (i:=j-1) (by omega))) hg$ OA 13 O RE O (NQ _ _ _) ?_;rintro _ w6 ⟨rfl,rfl⟩;refine⟨hg,?_⟩;refine Ll 14 O (Qy O O) hg$ qE ?_;have oI:=aW.ext hg;refine Mg O (λh1=>?_)$ λh1=>?_
     ·refine py$ run_seq$ Lc ?_;have az:=Ext.LC w5.drew;refine LH [15,17] (λw'=>Ext w5.drew w') (by kernel_rfl) O$ qL [14,15,16,17] 0 O (λ_ h=>M0 O) az$ qL [14,15,16,17] 1 O (λ_ h=>M0 O) az$ Mk (i:=2) O (by kernel_rfl) O O (λ_=>M0 O) (az)$ Mk (i:=3) O (by kernel_rfl) O O (λ_=>M0 O) (az)$ Mk (i:=4) O (by kernel_rfl) O O (λ_=>SR O O (by omega)) (az)$ qL [8,9,14,15,16,17] 5 O (λ_ h=>M0 O) az$ qL [7,8,9,14,15,16,17] 6 O (λ_ h=>M0 O) az$ qL [8,9,14,15,16,17] 7 O (λ_ h=>SR O O (by omega)) az$ qL [12,13,14,15,16,17] 10 O (λ_ h=>M0 O) az$ qL [12,13,14,15,16,17] 11 O (λ_ h=>M0 O) az$ qL [13,14,15,16,17] 12 O (λ_ h=>M9 LI Lz O O (by omega)) az ?_;rw[show(j:Int)-1=((j-1:Nat):Int) by omega];refine qL [9,14,15,16,17] 8 O (λ_ h=>M9 LI Lz O O (by omega)) az$ qL [14,15,16,17] 9 O (λ_ h=>LN Mx O O ((oI.ext h).get (i:=j-1) (by omega))) az$ qL [14,15,16,17] 13 O (λ_ h=>LN Mx O O ((oI.ext h).get (i:=j) (by omega))) az$ qL [15,16,17] 14 O (λ_ h=>M9 LI Lz O O (by omega)) az$ OY [15]$ qO 15$ M1 (i:=15) O O (NH Lz O O O (oI.ext az).sl ((oI.ext az).VU (by omega))) ?_;rintro w7a ⟨fK,fL⟩;refine⟨trivial,?_⟩;have cI:=(oI.ext az).set fK;refine Ll 16 O (M9 LI Lz O O (by omega)) trivial$ qO 17$ M1 (i:=17) O O (NH Lz O O O cI.sl (cI.VU (by omega))) ?_;rintro w7 ⟨i6,jB⟩;refine⟨trivial,?_⟩;have jC:=cI.set i6;have fM:Kp (λk=>k=g) w5.drew w7:=az.kp.trans (fL.trans jB);refine qE$ Ld$ Li O$ Le O$ Np O O$ Lk O ?_;rw[show(j:Int)-1=((j-1:Nat):Int) by omega];refine(ih2 (j-1,Go.Sort.swp d5 j (j-1)) _ ⟨jC,(ak.trans hg.kp).trans fM,?_,by dsimp only;omega,by dsimp only;omega⟩ (by dsimp only;omega)).qb;dsimp only;rw[<-bT,z0s a j d5 hj h1]
     ·refine Ln O$ Ld$ Li O$ Le O$ Mb O O$ Lk O ?_;rw[SM a j d5 (.inr (by simpa using h1))] at bT;refine(ih (i+1,d5) _ ⟨oI,ak.trans hg.kp,?_,by dsimp only;omega⟩ (by dsimp only;omega)).qb;dsimp only;rw[bT];exact cz
    ·refine run_seq$ run_seq$ N7 (λw'=>Ext w5 w') O$ LA 0 O O (hg)$ LA 1 O O (hg)$ Ll 2 O (TN O O) hg$ PU$ LA 3 O O (hg)$ qJ 4 O (hg)$ qJ 5 O (hg)$ qJ 6 O (hg)$ qJ 7 O (hg)$ qJ 8 O (hg)$ qJ 9 O (hg) ?_;refine qJ 10 O (hg)$ qJ 11 O (hg)$ qJ 12 O (hg)$ qJ 13 O (hg)$ Ll 14 O (Qt O O) hg$ qE$ An O$ Ln O$ Ld$ Li O$ Le O$ Mb O O$ Lk O ?_;rw[SM a j d5 (.inl hj)] at bT;refine(ih (i+1,d5) _ ⟨aW.ext hg,ak.trans hg.kp,?_,by dsimp only;omega⟩ (by dsimp only;omega)).qb;dsimp only;rw[bT];exact cz
  ·rw[Xz _ _ _ _ (by omega)] at cz;refine Ln O$ ME Tryz.func241 O ?_;exact⟨_,rfl,rfl,cz▸dX,av⟩
section
variable (hi first root:Nat)(d:Array Nat)
def UX:Nat:=if 2*root+1+1<hi&&MJ d[first+(2*root+1)]! d[first+(2*root+1)+1]! then 2*root+2 else 2*root+1
theorem z3V (h:hi<=2*root+1):Go.Sort.siftDown MJ hi first root d=d:=by rw[Go.Sort.siftDown,dif_pos h]
theorem z8m (h:2*root+1<hi):Go.Sort.siftDown MJ hi first root d=if MJ d[first+root]! d[first+UX hi first root d]! then Go.Sort.siftDown MJ hi first (UX hi first root d) (Go.Sort.swp d (first+root) (first+UX hi first root d)) else d:=by
 rw[Go.Sort.siftDown,dif_neg (by omega)]
 unfold UX
 by_cases h1:(decide (2*root+1+1<hi)&&MJ d[first+(2*root+1)]! d[first+(2*root+1)+1]!)=true
 ·rw[if_pos h1,if_pos h1];rw[Bool.and_eq_true] at h1;have h2:2*root+2<hi:=of_decide_eq_true h1.1;rw[dif_pos h2];cases MJ d[first+root]! d[first+(2*root+2)]!<;>rfl
 ·rw[if_neg h1,if_neg h1];cases MJ d[first+root]! d[first+(2*root+1)]!<;>rfl
theorem z8x (h:2*root+1<hi):root<UX hi first root d/\UX hi first root d<hi:=by
 unfold UX
 split
 ·rename_i h1
  rw[Bool.and_eq_true] at h1;have h2:2*root+2<hi:=of_decide_eq_true h1.1;omega
 ·omega
end
theorem Zt {w:World}{g n cap:Nat}{d:Array Nat}(h:Om w g n cap d)(lo hi first:Nat)(hf:first+hi<=n)(tK:lo<=65536)(hn:n<=65536):
  LP Tryz.prog 251 [.slice (some ⟨g,0,none⟩) n cap,I (lo:Int),I (hi:Int),I (first:Int)] w λu w'=>u= .tuple #[]/\Om w' g n cap (Go.Sort.siftDown MJ hi first lo d)/\Kp (λk=>k=g) w w':=by
 refine Lb (e:=[(0,_),(1,_),(2,_),(3,_)]) Tryz.func251 O Tryz.ntmps251 O O$ qN O$ Le O$ Lk O$ Lc$ Nj (α:=Nat×Array Nat) ((lo,d)) (λy=>[(0,.slice (some ⟨g,0,none⟩) n cap),(2,I (hi:Int)),(3,I (first:Int)),(8,I (y.1:Int))]) (λy w'=>Om w' g n cap y.2/\Kp (λk=>k=g) w w'/\Go.Sort.siftDown MJ hi first y.1 y.2=Go.Sort.siftDown MJ hi first lo d/\y.1<=65536) (λy=>hi-y.1) ?hI ?hround
 case hI=>exact⟨h,Kp.refl _ _,rfl,tK⟩
 case hround=>
  rintro⟨root,d4⟩ w4 ⟨dX,av,cz,bH⟩ ih;dsimp only at dX av cz bH
  try dsimp only
  refine Lc$ qN O$ Le O$ qV (T6 O O (by omega))$ Mb O O$ Lk O$ run_seq$ qN O ?_;rw[show 2*(root:Int)+1=((2*root+1:Nat):Int) by omega];refine Lu O O$ Pa O O$ Lf$ Lp O (λh0=>?_)$ λh0=>?_
  ·rw[z3V _ _ _ _ (by omega)] at cz;refine Ln O$ ME Tryz.func251 O ?_;exact⟨_,rfl,rfl,cz▸dX,av⟩
  ·have hc:=z8x hi first root d4 (by omega);rw[z8m _ _ _ _ (by omega)] at cz;have hg:=Ext.LC w4;have rE:=dX.ext hg;refine py$ run_seq$ run_seq ?_
   generalize oJ:(decide (2*root+1+1<hi)&&MJ d4[first+(2*root+1)]! d4[first+(2*root+1)+1]!)=sel
   refine M6 (λe' w'=>e'=[(0,.slice (some ⟨g,0,none⟩) n cap),(2,I (hi:Int)),(3,I (first:Int)),(8,I (root:Int)),(9,I ((2*root+1:Nat):Int)),(36,.bool sel)]/\w'=w4.drew) ?e8$ λe8=>?eS
   case e8=>
    rintro e' w5 ⟨rfl,rfl⟩;refine M6 (λe' w'=>e'=[(0,.slice (some ⟨g,0,none⟩) n cap),(2,I (hi:Int)),(3,I (first:Int)),(8,I (root:Int)),(9,I (UX hi first root d4:Int))]/\w'=w4.drew) ?au$ λau=>?dz
    case au=>
     rintro e' w5 ⟨rfl,rfl⟩
     generalize UX hi first root d4=c at hc cz
     have dY:=Ext.LC w4.drew;have ll:=rE.ext dY;refine run_seq$ run_seq$ N7 (λw'=>Ext w4.drew w') O$ LA 0 O O (dY)$ LA 1 O O (dY)$ LA 2 O O (dY)$ Ll 3 O (Qu O O (by omega)) dY$ Ll 4 O (M9 LI Lz O O (by omega)) dY$ LA 6 O O (dY)$ LA 7 O O (dY)$ LA 8 O O (dY)$ Ll 9 O (Qu O O (by omega)) dY$ Ll 10 O (M9 LI Lz O O (by omega)) dY$ qT 5 O (λ_ h=>LN Mx O O ((rE.ext h).get (i:=first+root) (by omega))) dY ?_;refine qT 11 O (λ_ h=>LN Mx O O ((rE.ext h).get (i:=first+c) (by omega))) dY$ OA 12 O RE O (NQ _ _ _) ?_;rintro _ w6 ⟨rfl,rfl⟩;refine⟨dY,?_⟩;refine Ll 13 O ((by first|exact Mh O|exact NL O)) dY ?_;refine qE$ Mg O (λh1=>?_)$ λh1=>?_
     ·rw[if_neg (by simpa using h1)] at cz;refine Lh Tryz.func251 O ?_;exact⟨_,rfl,rfl,cz▸ll,av.trans (hg.trans dY).kp⟩
     ·rw[if_pos (by simpa using h1)] at cz;refine py$ run_seq ?_;have az:=Ext.LC w4.drew.drew;refine LH [21,23] (λw'=>Ext w4.drew.drew w') (by kernel_rfl) O$ qL [20,21,22,23] 0 O (λ_ h=>M0 O) az$ qL [3,20,21,22,23] 1 O (λ_ h=>M0 O) az$ qL [3,20,21,22,23] 2 O (λ_ h=>M0 O) az$ qL [20,21,22,23] 3 O (λ_ h=>Qu O O (by omega)) az$ Mk (i:=4) O (by kernel_rfl) O O (λ_=>M0 O) (az)$ Mk (i:=5) O (by kernel_rfl) O O (λ_=>M0 O) (az)$ Mk (i:=6) O (by kernel_rfl) O O (λ_=>M0 O) (az)$ Mk (i:=7) O (by kernel_rfl) O O (λ_=>Qu O O (by omega)) (az)$ qL [12,13,20,21,22,23] 8 O (λ_ h=>M0 O) az$ qL [11,12,13,20,21,22,23] 9 O (λ_ h=>M0 O) az$ qL [11,12,13,20,21,22,23] 10 O (λ_ h=>M0 O) az$ qL [12,13,20,21,22,23] 11 O (λ_ h=>Qu O O (by omega)) az$ qL [13,20,21,22,23] 12 O (λ_ h=>M9 LI Lz O O (by omega)) az ?_;refine qL [18,19,20,21,22,23] 14 O (λ_ h=>M0 O) az$ qL [17,18,19,20,21,22,23] 15 O (λ_ h=>M0 O) az$ qL [17,18,19,20,21,22,23] 16 O (λ_ h=>M0 O) az$ qL [18,19,20,21,22,23] 17 O (λ_ h=>Qu O O (by omega)) az$ qL [19,20,21,22,23] 18 O (λ_ h=>M9 LI Lz O O (by omega)) az$ qL [20,21,22,23] 13 O (λ_ h=>LN Mx O O ((ll.ext h).get (i:=first+c) (by omega))) az$ qL [20,21,22,23] 19 O (λ_ h=>LN Mx O O ((ll.ext h).get (i:=first+root) (by omega))) az$ qL [21,22,23] 20 O (λ_ h=>M9 LI Lz O O (by omega)) az$ OY [21]$ qO 21$ M1 (i:=21) O O (NH Lz O O O (ll.ext az).sl ((ll.ext az).VU (by omega))) ?_;rintro w7a ⟨fK,fL⟩;refine⟨trivial,?_⟩;have cI:=(ll.ext az).set fK;refine Ll 22 O (M9 LI Lz O O (by omega)) trivial$ qO 23$ M1 (i:=23) O O (NH Lz O O O cI.sl (cI.VU (by omega))) ?_;rintro w7 ⟨i6,jB⟩;refine⟨trivial,?_⟩;have jC:=cI.set i6;have fM:Kp (λk=>k=g) w4.drew.drew w7:=az.kp.trans (fL.trans jB);refine qE$ Li O$ Le O$ Lk O$ Ld ((ih (c,Go.Sort.swp d4 (first+root) (first+c)) _ ⟨jC,(av.trans (hg.trans dY).kp).trans fM,cz,by dsimp only;omega⟩ (by dsimp only;omega)).qb)
    case dz=>
     refine Mg O (λh1=>?_)$ λh1=>?_
     ·refine Li O$ Le O$ Mb O O$ Lk O ?_;rw[show((2*root+1:Nat):Int)+1=(UX hi first root d4:Int) by unfold UX;rw[oJ,if_pos h1];omega];exact(au _ _ ⟨rfl,rfl⟩).qb
     ·refine py ?_;rw[show((2*root+1:Nat):Int)=(UX hi first root d4:Int) by unfold UX;rw[oJ,if_neg (by rw[h1];decide)]];exact(au _ _ ⟨rfl,rfl⟩).qb
   case eS=>
    rcases Nat.lt_or_ge (2*root+1+1) hi with hj|hj
    ·refine N7 (λw'=>Ext w4 w') O$ LA 0 O O (hg)$ Ll 1 O (Qu O O (by omega)) hg$ LA 2 O O (hg)$ Ll 3 O (Wr O O) hg$ Pu$ LA 4 O O (hg)$ LA 5 O O (hg)$ LA 6 O O (hg)$ LA 7 O O (hg)$ Ll 8 O (Qu O O (by omega)) hg$ Ll 9 O (M9 LI Lz O O (by omega)) hg$ LA 11 O O (hg)$ LA 12 O O (hg) ?_;refine LA 13 O O (hg)$ Ll 14 O (Qu O O (by omega)) hg$ Ll 15 O (Qu O O (by omega)) hg$ Ll 16 O (M9 LI Lz O O (by omega)) hg$ qT 10 O (λ_ hS=>LN Mx O O ((dX.ext hS).get (i:=first+(2*root+1)) (by omega))) hg$ qT 17 O (λ_ hS=>LN Mx O O ((dX.ext hS).get (i:=first+(2*root+1)+1) (by omega))) hg$ OA 18 O RE O (NQ _ _ _) ?_;rintro _ w6 ⟨rfl,rfl⟩;refine⟨hg,?_⟩;refine Ll 19 O (Qy O O) hg$ qE ?_;rw[show MJ d4[first+(2*root+1)]! d4[first+(2*root+1)+1]! =sel by rw[<-oJ,decide_eq_true hj,Bool.true_and]];exact(e8 _ _ ⟨rfl,rfl⟩).qb
    ·refine N7 (λw'=>Ext w4 w') O$ LA 0 O O (hg)$ Ll 1 O (Qu O O (by omega)) hg$ LA 2 O O (hg)$ Ll 3 O (Wr O O) hg$ PU$ LA 4 O O (hg)$ qJ 5 O (hg)$ qJ 6 O (hg)$ qJ 7 O (hg)$ qJ 8 O (hg)$ qJ 9 O (hg)$ qJ 10 O (hg)$ qJ 11 O (hg) ?_;refine qJ 12 O (hg)$ qJ 13 O (hg)$ qJ 14 O (hg)$ qJ 15 O (hg)$ qJ 16 O (hg)$ qJ 17 O (hg)$ qJ 18 O (hg)$ Ll 19 O (Qt O O) hg$ qE ?_;have mD:sel=false:=by rw[<-oJ,decide_eq_false (by omega),Bool.false_and]
     subst mD;exact(e8 _ _ ⟨rfl,rfl⟩).qb
theorem z7r {w:World}{g n cap:Nat}{d:Array Nat}(h:Om w g n cap d)(a b:Nat)(j9:a<b)(hb:b<=n)(hn:n<=65536):
  LP Tryz.prog 242 [.slice (some ⟨g,0,none⟩) n cap,I (a:Int),I (b:Int)] w λu w'=>u= .tuple #[]/\Om w' g n cap (Go.Sort.heapSort MJ d a b)/\Kp (λk=>k=g) w w':=by
 refine Lb (e:=[(0,_),(1,_),(2,_)]) Tryz.func242 O Tryz.ntmps242 O O$ qN O$ Le O$ Lw O$ qM O$ Lw O$ qM O$ Lu O O$ Np O O$ Lk O$ run_seq$ qN O ?_
 rw[show(b:Int)-(a:Int)=((b-a:Nat):Int) by omega]
 refine Le O$ Np O O ?_
 rw[show((b-a:Nat):Int)-1=((b-a-1:Nat):Int) by omega]
 refine qV (SC O O (by omega))$ Lk O$ Lc ?_
 rw[show((b-a-1:Nat):Int) / 2=(((b-a-1) / 2+1:Nat):Int)-1 by omega]
 have mB:Go.Sort.heapSort MJ d a b=Go.Sort.heapPop MJ a (b-a) (Go.Sort.heapBuild MJ (b-a) a ((b-a-1) / 2+1) d):=rfl
 rw[mB]
 refine Nj (α:=Nat×Array Nat) (((b-a-1) / 2+1,d)) (λy=>[(0,.slice (some ⟨g,0,none⟩) n cap),(6,I (a:Int)),(7,I 0),(8,I ((b-a:Nat):Int)),(9,I ((y.1:Int)-1))]) (λy w'=>Om w' g n cap y.2/\Kp (λk=>k=g) w w'/\Go.Sort.heapBuild MJ (b-a) a y.1 y.2=Go.Sort.heapBuild MJ (b-a) a ((b-a-1) / 2+1) d/\y.1<=(b-a-1) / 2+1) (λy=>y.1) ?hI ?hround
 case hI=>exact⟨h,Kp.refl _ _,rfl,Nat.le_refl _⟩
 case hround=>
  rintro⟨k,d4⟩ w4 ⟨dX,av,cz,bH⟩ ih;dsimp only at dX av cz bH
  try dsimp only
  refine run_seq$ qN O$ Le O$ Pa O O$ Lf$ Lp O (λh0=>?_)$ λh0=>?_
  ·obtain⟨k,rfl⟩:∃k',k=k'+1:=⟨k-1,by omega⟩;rw[show((k+1:Nat):Int)-1=(k:Int) by omega];refine py$ run_seq$ Lc$ Li O$ Lu O O$ Lu O O$ LD z9c O (Zt dX k (b-a) a (by omega) (by omega) hn) ?_;rintro _ w5 ⟨rfl,aW,ak⟩;refine Lf$ Ld$ Li O$ Le O$ Np O O$ Lk O ?_;exact(ih (k,Go.Sort.siftDown MJ (b-a) a k d4) _ ⟨aW,av.trans ak,cz,by dsimp only;omega⟩ (by dsimp only;omega)).qb
  ·have gN:k=0:=by omega
   subst gN;rw[<-cz];refine Ln O$ qN O$ Le O$ Np O O$ Lk O$ Lc$ Nj (α:=Nat×Array Nat) ((b-a,d4)) (λy=>[(0,.slice (some ⟨g,0,none⟩) n cap),(6,I (a:Int)),(7,I 0),(10,I ((y.1:Int)-1))]) (λy w'=>Om w' g n cap y.2/\Kp (λk=>k=g) w w'/\Go.Sort.heapPop MJ a y.1 y.2=Go.Sort.heapPop MJ a (b-a) (Go.Sort.heapBuild MJ (b-a) a 0 d4)/\y.1<=b-a) (λy=>y.1) ?hI ?hround
   case hI=>exact⟨dX,av,rfl,Nat.le_refl _⟩
   case hround=>
    rintro⟨k,d5⟩ w5 ⟨aW,ak,bT,cb⟩ ih2;dsimp only at aW ak bT cb
    try dsimp only
    refine run_seq$ qN O$ Le O$ Pa O O$ Lf$ Lp O (λh1=>?_)$ λh1=>?_
    ·obtain⟨k,rfl⟩:∃k',k=k'+1:=⟨k-1,by omega⟩;rw[show((k+1:Nat):Int)-1=(k:Int) by omega];refine py$ run_seq$ Lc$ run_seq ?_;have az:=Ext.LC w5;refine LH [17,19] (λw'=>Ext w5 w') (by kernel_rfl) O$ qL [16,17,18,19] 0 O (λ_ h=>M0 O) az$ qL [16,17,18,19] 1 O (λ_ h=>M0 O) az$ Mk (i:=2) O (by kernel_rfl) O O (λ_=>M0 O) (az)$ Mk (i:=3) O (by kernel_rfl) O O (λ_=>M0 O) (az)$ Mk (i:=4) O (by kernel_rfl) O O (λ_=>M0 O) (az)$ Mk (i:=5) O (by kernel_rfl) O O (λ_=>Qu O O (by omega)) (az)$ qL [10,11,16,17,18,19] 6 O (λ_ h=>M0 O) az$ qL [9,10,11,16,17,18,19] 7 O (λ_ h=>M0 O) az$ qL [9,10,11,16,17,18,19] 8 O (λ_ h=>M0 O) az$ qL [10,11,16,17,18,19] 9 O (λ_ h=>Qu O O (by omega)) az$ qL [11,16,17,18,19] 10 O (λ_ h=>M9 LI Lz O O (by omega)) az$ qL [14,15,16,17,18,19] 12 O (λ_ h=>M0 O) az$ qL [14,15,16,17,18,19] 13 O (λ_ h=>M0 O) az ?_;refine qL [15,16,17,18,19] 14 O (λ_ h=>M9 LI Lz O O (by omega)) az$ qL [16,17,18,19] 11 O (λ_ h=>LN Mx O O ((aW.ext h).get (i:=a+k) (by omega))) az$ qL [16,17,18,19] 15 O (λ_ h=>LN Mx O O ((aW.ext h).get (i:=a) (by omega))) az$ qL [17,18,19] 16 O (λ_ h=>M9 LI Lz O O (by omega)) az$ OY [17]$ qO 17$ M1 (i:=17) O O (NH Lz O O O (aW.ext az).sl ((aW.ext az).VU (by omega))) ?_;rintro w7a ⟨fK,fL⟩;refine⟨trivial,?_⟩;have cI:=(aW.ext az).set fK;refine Ll 18 O (M9 LI Lz O O (by omega)) trivial$ qO 19$ M1 (i:=19) O O (NH Lz O O O cI.sl (cI.VU (by omega))) ?_;rintro w7 ⟨i6,jB⟩;refine⟨trivial,?_⟩;have jC:=cI.set i6;have fM:Kp (λk=>k=g) w5 w7:=az.kp.trans (fL.trans jB);refine qE$ Li O$ Lu O O$ Lu O O$ LD z9c O (Zt jC 0 k a (by omega) (by omega) hn) ?_;rintro _ w8 ⟨rfl,GH,bB⟩;refine Lf$ Ld$ Li O$ Le O$ Np O O$ Lk O ?_;exact(ih2 (k,Go.Sort.siftDown MJ k a 0 (Go.Sort.swp d5 a (a+k))) _ ⟨GH,(ak.trans fM).trans bB,bT,by dsimp only;omega⟩ (by dsimp only;omega)).qb
    ·have gN:k=0:=by omega
     subst gN;rw[<-bT];refine Ln O$ ME Tryz.func242 O ?_;exact⟨_,rfl,rfl,aW,ak⟩
theorem z0J {w:World}{g n cap:Nat}{d:Array Nat}(h:Om w g n cap d)(a b:Nat)(j9:a<b)(hb:b<=n)(hn:n<=65536):
  LP Tryz.prog 245 [.slice (some ⟨g,0,none⟩) n cap,I (a:Int),I (b:Int)] w λu w'=>u= .tuple #[]/\Om w' g n cap (Go.Sort.reverseRange d a b)/\Kp (λk=>k=g) w w':=by
 refine Lb (e:=[(0,_),(1,_),(2,_)]) Tryz.func245 O Tryz.ntmps245 O O$ qN O$ Le O$ Lw O$ qM O$ Le O$ Np O O$ Lk O$ Lc ?_
 rw[show(b:Int)-1=((b-1:Nat):Int) by omega]
 refine Nj (α:=Nat×Nat×Array Nat) ((a,b-1,d)) (λy=>[(0,.slice (some ⟨g,0,none⟩) n cap),(6,I (y.1:Int)),(7,I (y.2.1:Int))]) (λy w'=>Om w' g n cap y.2.2/\Kp (λk=>k=g) w w'/\Go.Sort.reverseLoop y.1 y.2.1 y.2.2=Go.Sort.reverseRange d a b/\y.2.1<n) (λy=>y.2.1-y.1) ?hI ?hround
 case hI=>exact⟨h,Kp.refl _ _,rfl,by dsimp only;omega⟩
 case hround=>
  rintro⟨i,j,d4⟩ w4 ⟨dX,av,cz,bH⟩ ih;dsimp only at dX av cz bH
  try dsimp only
  refine run_seq$ qN O$ Lu O O$ Mw O O$ Lf$ Lp O (λh0=>?_)$ λh0=>?_
  ·rw[Go.Sort.reverseLoop,if_pos (by omega)] at cz;refine py$ Lc$ run_seq ?_;have az:=Ext.LC w4;refine LH [13,15] (λw'=>Ext w4 w') (by kernel_rfl) O$ qL [12,13,14,15] 0 O (λ_ h=>M0 O) az$ qL [12,13,14,15] 1 O (λ_ h=>M0 O) az$ Mk (i:=2) O (by kernel_rfl) O O (λ_=>M0 O) (az)$ Mk (i:=3) O (by kernel_rfl) O O (λ_=>M0 O) (az)$ qL [6,7,12,13,14,15] 4 O (λ_ h=>M0 O) az$ qL [6,7,12,13,14,15] 5 O (λ_ h=>M0 O) az$ qL [7,12,13,14,15] 6 O (λ_ h=>M9 LI Lz O O (by omega)) az$ qL [10,11,12,13,14,15] 8 O (λ_ h=>M0 O) az$ qL [10,11,12,13,14,15] 9 O (λ_ h=>M0 O) az$ qL [11,12,13,14,15] 10 O (λ_ h=>M9 LI Lz O O (by omega)) az$ qL [12,13,14,15] 7 O (λ_ h=>LN Mx O O ((dX.ext h).get (i:=j) (by omega))) az$ qL [12,13,14,15] 11 O (λ_ h=>LN Mx O O ((dX.ext h).get (i:=i) (by omega))) az$ qL [13,14,15] 12 O (λ_ h=>M9 LI Lz O O (by omega)) az ?_;refine OY [13]$ qO 13$ M1 (i:=13) O O (NH Lz O O O (dX.ext az).sl ((dX.ext az).VU (by omega))) ?_;rintro w7a ⟨fK,fL⟩;refine⟨trivial,?_⟩;have cI:=(dX.ext az).set fK;refine Ll 14 O (M9 LI Lz O O (by omega)) trivial$ qO 15$ M1 (i:=15) O O (NH Lz O O O cI.sl (cI.VU (by omega))) ?_;rintro w7 ⟨i6,jB⟩;refine⟨trivial,?_⟩;have jC:=cI.set i6;have fM:Kp (λk=>k=g) w4 w7:=az.kp.trans (fL.trans jB);refine qE$ qN O$ Le O$ Mb O O$ Lk O$ Li O$ Le O$ Np O O$ Lk O$ Ld ?_;rw[show(j:Int)-1=((j-1:Nat):Int) by omega];exact(ih (i+1,j-1,Go.Sort.swp d4 i j) _ ⟨jC,av.trans fM,cz,by dsimp only;omega⟩ (by dsimp only;omega)).qb
  ·rw[Go.Sort.reverseLoop,if_neg (by omega)] at cz;refine Ln O$ ME Tryz.func245 O ?_;exact⟨_,rfl,rfl,cz▸dX,av⟩
section
variable (p:Nat->Bool)(d:Array Nat)(i j:Nat)
theorem Uz (h:i<=j)(hp:p d[i]! =true):Go.Sort.scanUp p d j i=Go.Sort.scanUp p d j (i+1):=by
 conv=>lhs;rw[Go.Sort.scanUp]
 rw[if_pos]
 rw[Bool.and_eq_true];exact⟨by simpa using h,hp⟩
theorem OP (h:j<i\/p d[i]! =false):Go.Sort.scanUp p d j i=i:=by
 rw[Go.Sort.scanUp,if_neg]
 intro hc
 rw[Bool.and_eq_true] at hc
 rcases h with h| h
 ·have:=of_decide_eq_true hc.1;omega
 ·rw[h] at hc;cases hc.2
theorem S0 (h:i<=j)(hp:p d[j]! =true)(hj:1<=j):Go.Sort.scanDown p d i j=Go.Sort.scanDown p d i (j-1):=by
 obtain⟨k,rfl⟩:∃k,j=k+1:=⟨j-1,by omega⟩
 rw[Go.Sort.scanDown,if_pos]
 ·rfl
 ·rw[Bool.and_eq_true];exact⟨by simpa using h,hp⟩
theorem NV (h:j<i\/p d[j]! =false):Go.Sort.scanDown p d i j=j:=by
 cases j with
 |zero=>rw[Go.Sort.scanDown]
 | succ k =>
   rw[Go.Sort.scanDown,if_neg];intro hc;rw[Bool.and_eq_true] at hc;rcases h with h| h
   ·have:=of_decide_eq_true hc.1;omega
   ·rw[h] at hc;cases hc.2
end
theorem SA (p:Nat->Bool)(d:Array Nat)(j:Nat):∀i:Nat,Go.Sort.scanUp p d j i<=max i (j+1):=λi=>by
 rw[Go.Sort.scanUp]
 split
 ·rename_i h
  rw[Bool.and_eq_true] at h;have h1:=of_decide_eq_true h.1;have:=SA p d j (i+1);omega
 ·omega
 termination_by i=>j+1-i
theorem z7f {w : World}{g n cap : Nat}{d : Array Nat}(h : Om w g n cap d)(a b pv : Nat)(GI : a <= pv)(qi : pv < b)(hb : b <= n)(hn : n <= 65536) :
  LP Tryz.prog 249 [.slice (some ⟨g,0,none⟩) n cap,I (a:Int),I (b:Int),I (pv:Int)] w λu w'=>u= .tuple #[I ((Go.Sort.partition MJ d a b pv).1:Int),.bool (Go.Sort.partition MJ d a b pv).2.1]/\Om w' g n cap (Go.Sort.partition MJ d a b pv).2.2/\Kp (λk=>k=g) w w':=by
 refine Lb (e:=[(0,_),(1,_),(2,_),(3,_)]) Tryz.func249 O Tryz.ntmps249 O O$ qN O$ Lw O$ Lk O$ run_seq ?_
 have az:=Ext.LC w
 refine LH [13,15] (λw'=>Ext w w') (by kernel_rfl) O$ qL [12,13,14,15] 0 O (λ_ h=>M0 O) az$ qL [12,13,14,15] 1 O (λ_ h=>M0 O) az$ Mk (i:=2) O (by kernel_rfl) O O (λ_=>M0 O) (az)$ Mk (i:=3) O (by kernel_rfl) O O (λ_=>M0 O) (az)$ qL [6,7,12,13,14,15] 4 O (λ_ h=>M0 O) az$ qL [6,7,12,13,14,15] 5 O (λ_ h=>M0 O) az$ qL [7,12,13,14,15] 6 O (λ_ h=>M9 LI Lz O O (by omega)) az$ qL [10,11,12,13,14,15] 8 O (λ_ h=>M0 O) az$ qL [10,11,12,13,14,15] 9 O (λ_ h=>M0 O) az$ qL [11,12,13,14,15] 10 O (λ_ h=>M9 LI Lz O O (by omega)) az$ qL [12,13,14,15] 7 O (λ_ hS=>LN Mx O O ((h.ext hS).get (i:=pv) (by omega))) az$ qL [12,13,14,15] 11 O (λ_ hS=>LN Mx O O ((h.ext hS).get (i:=a) (by omega))) az$ qL [13,14,15] 12 O (λ_ h=>M9 LI Lz O O (by omega)) az ?_
 refine OY [13]$ qO 13$ M1 (i:=13) O O (NH Lz O O O (h.ext az).sl ((h.ext az).VU (by omega))) ?_
 rintro w1a ⟨mE,mF⟩
 refine⟨trivial,?_⟩
 have fN:=(h.ext az).set mE
 refine Ll 14 O (M9 LI Lz O O (by omega)) trivial$ qO 15$ M1 (i:=15) O O (NH Lz O O O fN.sl (fN.VU (by omega))) ?_
 rintro w1 ⟨rF,rG⟩
 refine⟨trivial,?_⟩
 have i7:=fN.set rF
 have kz:Kp (λk=>k=g) w w1:=az.kp.trans (mF.trans rG)
 refine qE$ qN O$ Le O$ Mb O O$ Le O$ Np O O$ Lw O$ Lk O$ LS.qb (e:=[(0,_),(1,_),(8,_),(9,_),(10,_),(11,_)]) ?_
 refine run_seq$ Lc ?_
 unfold Go.Sort.partition
 dsimp only
 replace i7:Om w1 g n cap (Go.Sort.swp d a pv):=i7
 generalize Go.Sort.swp d a pv=D at i7
 rw[show(a:Int)+1=((a+1:Nat):Int) by omega,show(b:Int)-1=((b-1:Nat):Int) by omega]
 refine Nl (λe' w'=>e'=[(0,.slice (some ⟨g,0,none⟩) n cap),(1,I (a:Int)),(10,I (((Go.Sort.scanUp (λx=>MJ x D[a]!) D (b-1) (a+1)):Nat):Int)),(11,I (((b-1):Nat):Int))]/\Om w' g n cap D/\Kp (λk=>k=g) w1 w') ?o8$ λo8=>?AO
 case o8 =>
  rintro e' wA ⟨rfl,GJ,o8⟩;have yM:=Go.Sort.scanUp_ge (λx=>MJ x D[a]!) D (b-1) (a+1);have gC:=SA (λx=>MJ x D[a]!) D (b-1) (a+1)
  generalize Go.Sort.scanUp (λx=>MJ x D[a]!) D (b-1) (a+1)=i1 at yM gC
  refine run_seq$ Lc$ Nl (λe' w'=>e'=[(0,.slice (some ⟨g,0,none⟩) n cap),(1,I (a:Int)),(10,I ((i1:Nat):Int)),(11,I (((Go.Sort.scanDown (λx=>!MJ x D[a]!) D i1 (b-1)):Nat):Int))]/\Om w' g n cap D/\Kp (λk=>k=g) wA w') ?iM$ λiM=>?AN
  case iM =>
   rintro e' wB ⟨rfl,o9,iM⟩;have GK:=Go.Sort.scanDown_le (λx=>!MJ x D[a]!) D i1 (b-1)
   generalize Go.Sort.scanDown (λx=>!MJ x D[a]!) D i1 (b-1)=j1 at GK
   refine run_seq$ qN O$ Lu O O$ MH O O$ Lf$ Lp O (λh4=>?_)$ λh4=>?_
   ·rw[if_pos (by omega)];refine run_seq ?_;have aa:=Ext.LC wB;refine LH [13,15] (λw'=>Ext wB w') (by kernel_rfl) O$ qL [12,13,14,15] 0 O (λ_ h=>M0 O) aa$ qL [12,13,14,15] 1 O (λ_ h=>M0 O) aa$ Mk (i:=2) O (by kernel_rfl) O O (λ_=>M0 O) (aa)$ Mk (i:=3) O (by kernel_rfl) O O (λ_=>M0 O) (aa)$ qL [6,7,12,13,14,15] 4 O (λ_ h=>M0 O) aa$ qL [6,7,12,13,14,15] 5 O (λ_ h=>M0 O) aa$ qL [7,12,13,14,15] 6 O (λ_ h=>M9 LI Lz O O (by omega)) aa$ qL [10,11,12,13,14,15] 8 O (λ_ h=>M0 O) aa$ qL [10,11,12,13,14,15] 9 O (λ_ h=>M0 O) aa$ qL [11,12,13,14,15] 10 O (λ_ h=>M9 LI Lz O O (by omega)) aa$ qL [12,13,14,15] 7 O (λ_ h=>LN Mx O O ((o9.ext h).get (i:=a) (by omega))) aa$ qL [12,13,14,15] 11 O (λ_ h=>LN Mx O O ((o9.ext h).get (i:=j1) (by omega))) aa$ qL [13,14,15] 12 O (λ_ h=>M9 LI Lz O O (by omega)) aa ?_;refine OY [13]$ qO 13$ M1 (i:=13) O O (NH Lz O O O (o9.ext aa).sl ((o9.ext aa).VU (by omega))) ?_;rintro w2a ⟨uF,uG⟩;refine⟨trivial,?_⟩;have mG:=(o9.ext aa).set uF;refine Ll 14 O (M9 LI Lz O O (by omega)) trivial$ qO 15$ M1 (i:=15) O O (NH Lz O O O mG.sl (mG.VU (by omega))) ?_;rintro w2 ⟨AG,AH⟩;refine⟨trivial,?_⟩;have AI:=mG.set AG;have uH:Kp (λk=>k=g) wB w2:=aa.kp.trans (uG.trans AH);refine qE$ qN O$ Le O$ Lw O$ Lk O$ Lh Tryz.func249 O ?_;exact⟨_,rfl,rfl,AI,(kz.trans (o8.trans iM)).trans uH⟩
   ·rw [if_neg (by omega)]; refine py (run_seq ?_); have ae := Ext.LC wB; refine LH [13,15] (λw' => Ext wB w') (by kernel_rfl) O (qL [12, 13, 14, 15] 0 O (λ_ h=>M0 O) ae (qL [12, 13, 14, 15] 1 O (λ_ h=>M0 O) ae (Mk (i := 2) O (by kernel_rfl) O O (λ_ => M0 O) (ae) (Mk (i := 3) O (by kernel_rfl) O O (λ_ => M0 O) (ae) (qL [6, 7, 12, 13, 14, 15] 4 O (λ_ h=>M0 O) ae (qL [6, 7, 12, 13, 14, 15] 5 O (λ_ h=>M0 O) ae (qL [7, 12, 13, 14, 15] 6 O (λ_ h=>M9 LI Lz O O (by omega)) ae (qL [10, 11, 12, 13, 14, 15] 8 O (λ_ h=>M0 O) ae (qL [10, 11, 12, 13, 14, 15] 9 O (λ_ h=>M0 O) ae (qL [11, 12, 13, 14, 15] 10 O (λ_ h=>M9 LI Lz O O (by omega)) ae (qL [12, 13, 14, 15] 7 O (λ_ h=>LN Mx O O ((o9.ext h).get (i := j1) (by omega))) ae (qL [12, 13, 14, 15] 11 O (λ_ h=>LN Mx O O ((o9.ext h).get (i := i1) (by omega))) ae (qL [13, 14, 15] 12 O (λ_ h=>M9 LI Lz O O (by omega)) ae ?_))))))))))))); refine OY [13] (qO 13 (M1 (i := 13) O O (NH Lz O O O (o9.ext ae).sl ((o9.ext ae).VU (by omega))) ?_)); rintro w3a ⟨uI, uJ⟩; refine ⟨trivial, ?_⟩; have mH := (o9.ext ae).set uI; refine Ll 14 O (M9 LI Lz O O (by omega)) trivial (qO 15 (M1 (i := 15) O O (NH Lz O O O mH.sl (mH.VU (by omega))) ?_)); rintro w3 ⟨AJ, AK⟩; refine ⟨trivial, ?_⟩; have AL := mH.set AJ; have uK : Kp (λk => k = g) wB w3 := ae.kp.trans (uJ.trans AK); refine qE (qN O (Le O (Mb O O (Lw O (qM O (Le O (Np O O (Lk O (LS.qb (e := [(0, _), (1, _), (10, _), (11, _)]) ?_))))))))); refine run_seq (Lc ?_); rw [show (j1 : Int) - 1 = ((j1 - 1 : Nat) : Int) by omega]; refine Nj (α := Nat × Nat × Array Nat) ((i1 + 1, j1 - 1, Go.Sort.swp D i1 j1)) (λy => [(0, .slice (some ⟨g, 0, none⟩) n cap), (1, I (a : Int)), (10, I (y.1 : Int)), (11, I (y.2.1 : Int))]) (λy w' => Om w' g n cap y.2.2 /\ Kp (λk => k = g) w3 w' /\ Go.Sort.partLoop MJ a y.1 y.2.1 y.2.2 = Go.Sort.partLoop MJ a (i1 + 1) (j1 - 1) (Go.Sort.swp D i1 j1) /\ (a < y.1 /\ y.1 <= n /\ y.2.1 < n)) (λy => y.2.1 + 1 - y.1) ?hI ?hround
    case hI=>exact⟨AL,Kp.refl _ _,rfl,by dsimp only;omega⟩
    case hround =>
     rintro⟨i,j,d4⟩ w4 ⟨dX,av,cz,bH⟩ ih;dsimp only at dX av cz bH;rw[Go.Sort.partLoop_eq] at cz
     try dsimp only
     refine Lc$ run_seq$ Lc$ Nl (λe' w'=>e'=[(0,.slice (some ⟨g,0,none⟩) n cap),(1,I (a:Int)),(10,I (((Go.Sort.scanUp (λx=>MJ x d4[a]!) d4 j (i)):Nat):Int)),(11,I ((j:Nat):Int))]/\Om w' g n cap d4/\Kp (λk=>k=g) w4 w') ?jg$ λjg=>?rI
     case jg=>
      rintro e' wC ⟨rfl,AM,jg⟩;have dB:=Go.Sort.scanUp_ge (λx=>MJ x d4[a]!) d4 j i;have m4:=SA (λx=>MJ x d4[a]!) d4 j i
      generalize Go.Sort.scanUp (λx=>MJ x d4[a]!) d4 j i=i2 at cz dB m4
      refine run_seq$ Lc$ Nl (λe' w'=>e'=[(0,.slice (some ⟨g,0,none⟩) n cap),(1,I (a:Int)),(10,I ((i2:Nat):Int)),(11,I (((Go.Sort.scanDown (λx=>!MJ x d4[a]!) d4 i2 (j)):Nat):Int))]/\Om w' g n cap d4/\Kp (λk=>k=g) wC w') ?fk$ λfk=>?rH
      case fk=>
       rintro e' wD ⟨rfl,iN,fk⟩;have ky:=Go.Sort.scanDown_le (λx=>!MJ x d4[a]!) d4 i2 j
       generalize Go.Sort.scanDown (λx=>!MJ x d4[a]!) d4 i2 j=j2 at cz ky
       refine run_seq$ qN O$ Lu O O$ MH O O$ Lf$ Lp O (λh5=>?_)$ λh5=>?_
       ·rw[if_pos (by omega)] at cz;refine Ln O$ run_seq ?_;rw[<-cz];have oa:=((kz.trans (o8.trans iM)).trans uK).trans (av.trans (jg.trans fk));have bO:=Ext.LC wD;refine LH [13,15] (λw'=>Ext wD w') (by kernel_rfl) O$ qL [12,13,14,15] 0 O (λ_ h=>M0 O) bO$ qL [12,13,14,15] 1 O (λ_ h=>M0 O) bO$ Mk (i:=2) O (by kernel_rfl) O O (λ_=>M0 O) (bO)$ Mk (i:=3) O (by kernel_rfl) O O (λ_=>M0 O) (bO)$ qL [6,7,12,13,14,15] 4 O (λ_ h=>M0 O) bO$ qL [6,7,12,13,14,15] 5 O (λ_ h=>M0 O) bO$ qL [7,12,13,14,15] 6 O (λ_ h=>M9 LI Lz O O (by omega)) bO$ qL [10,11,12,13,14,15] 8 O (λ_ h=>M0 O) bO$ qL [10,11,12,13,14,15] 9 O (λ_ h=>M0 O) bO$ qL [11,12,13,14,15] 10 O (λ_ h=>M9 LI Lz O O (by omega)) bO$ qL [12,13,14,15] 7 O (λ_ h=>LN Mx O O ((iN.ext h).get (i:=a) (by omega))) bO$ qL [12,13,14,15] 11 O (λ_ h=>LN Mx O O ((iN.ext h).get (i:=j2) (by omega))) bO$ qL [13,14,15] 12 O (λ_ h=>M9 LI Lz O O (by omega)) bO ?_;refine OY [13]$ qO 13$ M1 (i:=13) O O (NH Lz O O O (iN.ext bO).sl ((iN.ext bO).VU (by omega))) ?_;rintro w8a ⟨fO,fP⟩;refine⟨trivial,?_⟩;have cJ:=(iN.ext bO).set fO;refine Ll 14 O (M9 LI Lz O O (by omega)) trivial$ qO 15$ M1 (i:=15) O O (NH Lz O O O cJ.sl (cJ.VU (by omega))) ?_;rintro w8 ⟨jD,jE⟩;refine⟨trivial,?_⟩;have jF:=cJ.set jD;have ff:Kp (λk=>k=g) wD w8:=bO.kp.trans (fP.trans jE);refine qE$ qN O$ Le O$ Lw O$ Lk O$ Lh Tryz.func249 O ?_;exact⟨_,rfl,rfl,jF,oa.trans ff⟩
       ·rw[if_neg (by omega)] at cz;refine py$ run_seq ?_;have bO:=Ext.LC wD;refine LH [13,15] (λw'=>Ext wD w') (by kernel_rfl) O$ qL [12,13,14,15] 0 O (λ_ h=>M0 O) bO$ qL [12,13,14,15] 1 O (λ_ h=>M0 O) bO$ Mk (i:=2) O (by kernel_rfl) O O (λ_=>M0 O) (bO)$ Mk (i:=3) O (by kernel_rfl) O O (λ_=>M0 O) (bO)$ qL [6,7,12,13,14,15] 4 O (λ_ h=>M0 O) bO$ qL [6,7,12,13,14,15] 5 O (λ_ h=>M0 O) bO$ qL [7,12,13,14,15] 6 O (λ_ h=>M9 LI Lz O O (by omega)) bO$ qL [10,11,12,13,14,15] 8 O (λ_ h=>M0 O) bO$ qL [10,11,12,13,14,15] 9 O (λ_ h=>M0 O) bO$ qL [11,12,13,14,15] 10 O (λ_ h=>M9 LI Lz O O (by omega)) bO$ qL [12,13,14,15] 7 O (λ_ h=>LN Mx O O ((iN.ext h).get (i:=j2) (by omega))) bO$ qL [12,13,14,15] 11 O (λ_ h=>LN Mx O O ((iN.ext h).get (i:=i2) (by omega))) bO$ qL [13,14,15] 12 O (λ_ h=>M9 LI Lz O O (by omega)) bO ?_;refine OY [13]$ qO 13$ M1 (i:=13) O O (NH Lz O O O (iN.ext bO).sl ((iN.ext bO).VU (by omega))) ?_;rintro w8a ⟨fO,fP⟩;refine⟨trivial,?_⟩;have cJ:=(iN.ext bO).set fO;refine Ll 14 O (M9 LI Lz O O (by omega)) trivial$ qO 15$ M1 (i:=15) O O (NH Lz O O O cJ.sl (cJ.VU (by omega))) ?_;rintro w8 ⟨jD,jE⟩;refine⟨trivial,?_⟩;have jF:=cJ.set jD;have ff:Kp (λk=>k=g) wD w8:=bO.kp.trans (fP.trans jE);refine qE$ qN O$ Le O$ Mb O O$ Lk O$ Li O$ Le O$ Np O O$ Lk O$ Ld ?_;rw[show(j2:Int)-1=((j2-1:Nat):Int) by omega];exact(ih (i2+1,j2-1,Go.Sort.swp d4 i2 j2) _ ⟨jF,(av.trans (jg.trans fk)).trans ff,cz,by dsimp only;omega⟩ (by dsimp only;omega)).qb
      case rH=>
       refine Nj (α:=Nat) (j) (λr=>[(0,.slice (some ⟨g,0,none⟩) n cap),(1,I (a:Int)),(10,I ((i2:Nat):Int)),(11,I ((r:Nat):Int))]) (λr w'=>Om w' g n cap d4/\Kp (λk=>k=g) wC w'/\Go.Sort.scanDown (λx=>!MJ x d4[a]!) d4 i2 r=Go.Sort.scanDown (λx=>!MJ x d4[a]!) d4 i2 (j)/\r<n) (λr=>r) ?hI ?hround
       case hI=>exact⟨AM,Kp.refl _ _,rfl,by omega⟩
       case hround=>
        rintro r w5 ⟨aW,ak,bT,cb⟩ ih
        try dsimp only
        have hg:=Ext.LC w5;rcases Nat.lt_or_ge r (i2) with hj|hj
        ·refine run_seq$ run_seq$ N7 (λw'=>Ext w5 w') O$ LA 0 O O (hg)$ LA 1 O O (hg)$ Ll 2 O (Up O O) hg$ PU$ LA 3 O O (hg)$ qJ 4 O (hg)$ qJ 5 O (hg)$ qJ 6 O (hg)$ qJ 7 O (hg)$ qJ 8 O (hg)$ qJ 9 O (hg) ?_;refine qJ 10 O (hg)$ qJ 11 O (hg)$ qJ 12 O (hg)$ qJ 13 O (hg)$ Ll 14 O (Qt O O) hg$ qE$ An O$ Ln O ?_;rw[NV _ _ _ _ (.inl hj)] at bT;subst bT;exact(fk _ _ ⟨rfl,aW.ext hg,ak.trans hg.kp⟩).qb
        ·refine run_seq$ run_seq$ N7 (λw'=>Ext w5 w') O$ LA 0 O O (hg)$ LA 1 O O (hg)$ Ll 2 O (Up O O) hg$ Pu$ LA 3 O O (hg)$ LA 4 O O (hg)$ LA 5 O O (hg)$ Ll 6 O (M9 LI Lz O O (by omega)) hg$ LA 8 O O (hg)$ LA 9 O O (hg)$ Ll 10 O (M9 LI Lz O O (by omega)) hg ?_;refine qT 7 O (λ_ h=>LN Mx O O ((aW.ext h).get (i:=r) (by omega))) hg$ qT 11 O (λ_ h=>LN Mx O O ((aW.ext h).get (i:=a) (by omega))) hg$ OA 12 O RE O (NQ _ _ _) ?_;rintro _ w6 ⟨rfl,rfl⟩;refine⟨hg,?_⟩;refine Ll 13 O ((by first|exact Mh O|exact NL O)) hg ?_;refine Ll 14 O (Qy O O) hg$ qE$ Mg O (λh1=>?_)$ λh1=>?_
         ·rw[S0 _ _ _ _ hj (by simpa[MJ] using h1) (by omega)] at bT;refine py$ Lc$ Li O$ Le O$ Np O O$ Lk O$ Ld ?_;rw[show(r:Int)-1=((r-1:Nat):Int) by omega];exact(ih (r-1) _ ⟨aW.ext hg,ak.trans hg.kp,bT,by omega⟩ (by omega)).qb
         ·rw[NV _ _ _ _ (.inr (by simpa[MJ] using h1))] at bT;refine Ln O ?_;subst bT;exact(fk _ _ ⟨rfl,aW.ext hg,ak.trans hg.kp⟩).qb
     case rI=>
      refine Nj (α:=Nat) (i) (λr=>[(0,.slice (some ⟨g,0,none⟩) n cap),(1,I (a:Int)),(10,I ((r:Nat):Int)),(11,I ((j:Nat):Int))]) (λr w'=>Om w' g n cap d4/\Kp (λk=>k=g) w4 w'/\Go.Sort.scanUp (λx=>MJ x d4[a]!) d4 j r=Go.Sort.scanUp (λx=>MJ x d4[a]!) d4 j (i)/\i<=r/\r<=n+1) (λr=>j+1-r) ?hI ?hround
      case hI=>exact⟨dX,Kp.refl _ _,rfl,Nat.le_refl _,by omega⟩
      case hround=>
       rintro r w5 ⟨aW,ak,bT,cb⟩ ih
       try dsimp only
       have hg:=Ext.LC w5;rcases Nat.lt_or_ge (j) r with hj|hj
       ·refine run_seq$ run_seq$ N7 (λw'=>Ext w5 w') O$ LA 0 O O (hg)$ LA 1 O O (hg)$ Ll 2 O (Up O O) hg$ PU$ LA 3 O O (hg)$ qJ 4 O (hg)$ qJ 5 O (hg)$ qJ 6 O (hg)$ qJ 7 O (hg)$ qJ 8 O (hg)$ qJ 9 O (hg) ?_;refine qJ 10 O (hg)$ qJ 11 O (hg)$ qJ 12 O (hg)$ Ll 13 O (Qt O O) hg$ qE$ An O$ Ln O ?_;rw[OP _ _ _ _ (.inl hj)] at bT;subst bT;exact(jg _ _ ⟨rfl,aW.ext hg,ak.trans hg.kp⟩).qb
       ·refine run_seq$ run_seq$ N7 (λw'=>Ext w5 w') O$ LA 0 O O (hg)$ LA 1 O O (hg)$ Ll 2 O (Up O O) hg$ Pu$ LA 3 O O (hg)$ LA 4 O O (hg)$ LA 5 O O (hg)$ Ll 6 O (M9 LI Lz O O (by omega)) hg$ LA 8 O O (hg)$ LA 9 O O (hg)$ Ll 10 O (M9 LI Lz O O (by omega)) hg ?_;refine qT 7 O (λ_ h=>LN Mx O O ((aW.ext h).get (i:=r) (by omega))) hg$ qT 11 O (λ_ h=>LN Mx O O ((aW.ext h).get (i:=a) (by omega))) hg$ OA 12 O RE O (NQ _ _ _) ?_;rintro _ w6 ⟨rfl,rfl⟩;refine⟨hg,?_⟩;refine Ll 13 O (Qy O O) hg$ qE$ Mg O (λh1=>?_)$ λh1=>?_
        ·rw[Uz _ _ _ _ hj (by simpa[MJ] using h1)] at bT;refine py$ Lc$ Li O$ Le O$ Mb O O$ Lk O$ Ld ?_;exact(ih (r+1) _ ⟨aW.ext hg,ak.trans hg.kp,bT,by omega,by omega⟩ (by omega)).qb
        ·rw[OP _ _ _ _ (.inr (by simpa[MJ] using h1))] at bT;refine Ln O ?_;subst bT;exact(jg _ _ ⟨rfl,aW.ext hg,ak.trans hg.kp⟩).qb
  case AN=>
   refine Nj (α:=Nat) (b-1) (λr=>[(0,.slice (some ⟨g,0,none⟩) n cap),(1,I (a:Int)),(10,I ((i1:Nat):Int)),(11,I ((r:Nat):Int))]) (λr w'=>Om w' g n cap D/\Kp (λk=>k=g) wA w'/\Go.Sort.scanDown (λx=>!MJ x D[a]!) D i1 r=Go.Sort.scanDown (λx=>!MJ x D[a]!) D i1 (b-1)/\r<n) (λr=>r) ?hI ?hround
   case hI=>exact⟨GJ,Kp.refl _ _,rfl,by omega⟩
   case hround=>
    rintro r w5 ⟨aW,ak,bT,cb⟩ ih
    try dsimp only
    have hg:=Ext.LC w5;rcases Nat.lt_or_ge r (i1) with hj|hj
    ·refine run_seq$ run_seq$ N7 (λw'=>Ext w5 w') O$ LA 0 O O (hg)$ LA 1 O O (hg)$ Ll 2 O (Up O O) hg$ PU$ LA 3 O O (hg)$ qJ 4 O (hg)$ qJ 5 O (hg)$ qJ 6 O (hg)$ qJ 7 O (hg)$ qJ 8 O (hg)$ qJ 9 O (hg) ?_;refine qJ 10 O (hg)$ qJ 11 O (hg)$ qJ 12 O (hg)$ qJ 13 O (hg)$ Ll 14 O (Qt O O) hg$ qE$ An O$ Ln O ?_;rw[NV _ _ _ _ (.inl hj)] at bT;subst bT;exact(iM _ _ ⟨rfl,aW.ext hg,ak.trans hg.kp⟩).qb
    ·refine run_seq$ run_seq$ N7 (λw'=>Ext w5 w') O$ LA 0 O O (hg)$ LA 1 O O (hg)$ Ll 2 O (Up O O) hg$ Pu$ LA 3 O O (hg)$ LA 4 O O (hg)$ LA 5 O O (hg)$ Ll 6 O (M9 LI Lz O O (by omega)) hg$ LA 8 O O (hg)$ LA 9 O O (hg)$ Ll 10 O (M9 LI Lz O O (by omega)) hg ?_;refine qT 7 O (λ_ h=>LN Mx O O ((aW.ext h).get (i:=r) (by omega))) hg$ qT 11 O (λ_ h=>LN Mx O O ((aW.ext h).get (i:=a) (by omega))) hg$ OA 12 O RE O (NQ _ _ _) ?_;rintro _ w6 ⟨rfl,rfl⟩;refine⟨hg,?_⟩;refine Ll 13 O ((by first|exact Mh O|exact NL O)) hg ?_;refine Ll 14 O (Qy O O) hg$ qE$ Mg O (λh1=>?_)$ λh1=>?_
     ·rw[S0 _ _ _ _ hj (by simpa[MJ] using h1) (by omega)] at bT;refine py$ Lc$ Li O$ Le O$ Np O O$ Lk O$ Ld ?_;rw[show(r:Int)-1=((r-1:Nat):Int) by omega];exact(ih (r-1) _ ⟨aW.ext hg,ak.trans hg.kp,bT,by omega⟩ (by omega)).qb
     ·rw[NV _ _ _ _ (.inr (by simpa[MJ] using h1))] at bT;refine Ln O ?_;subst bT;exact(iM _ _ ⟨rfl,aW.ext hg,ak.trans hg.kp⟩).qb
 case AO=>
  refine Nj (α:=Nat) (a+1) (λr=>[(0,.slice (some ⟨g,0,none⟩) n cap),(1,I (a:Int)),(10,I ((r:Nat):Int)),(11,I (((b-1):Nat):Int))]) (λr w'=>Om w' g n cap D/\Kp (λk=>k=g) w1 w'/\Go.Sort.scanUp (λx=>MJ x D[a]!) D (b-1) r=Go.Sort.scanUp (λx=>MJ x D[a]!) D (b-1) (a+1)/\a+1<=r/\r<=n+1) (λr=>(b-1)+1-r) ?hI ?hround
  case hI=>exact⟨i7,Kp.refl _ _,rfl,Nat.le_refl _,by omega⟩
  case hround=>
   rintro r w5 ⟨aW,ak,bT,cb⟩ ih
   try dsimp only
   have hg:=Ext.LC w5;rcases Nat.lt_or_ge ((b-1)) r with hj|hj
   ·refine run_seq$ run_seq$ N7 (λw'=>Ext w5 w') O$ LA 0 O O (hg)$ LA 1 O O (hg)$ Ll 2 O (Up O O) hg$ PU$ LA 3 O O (hg)$ qJ 4 O (hg)$ qJ 5 O (hg)$ qJ 6 O (hg)$ qJ 7 O (hg)$ qJ 8 O (hg)$ qJ 9 O (hg) ?_;refine qJ 10 O (hg)$ qJ 11 O (hg)$ qJ 12 O (hg)$ Ll 13 O (Qt O O) hg$ qE$ An O$ Ln O ?_;rw[OP _ _ _ _ (.inl hj)] at bT;subst bT;exact(o8 _ _ ⟨rfl,aW.ext hg,ak.trans hg.kp⟩).qb
   ·refine run_seq$ run_seq$ N7 (λw'=>Ext w5 w') O$ LA 0 O O (hg)$ LA 1 O O (hg)$ Ll 2 O (Up O O) hg$ Pu$ LA 3 O O (hg)$ LA 4 O O (hg)$ LA 5 O O (hg)$ Ll 6 O (M9 LI Lz O O (by omega)) hg$ LA 8 O O (hg)$ LA 9 O O (hg)$ Ll 10 O (M9 LI Lz O O (by omega)) hg ?_;refine qT 7 O (λ_ h=>LN Mx O O ((aW.ext h).get (i:=r) (by omega))) hg$ qT 11 O (λ_ h=>LN Mx O O ((aW.ext h).get (i:=a) (by omega))) hg$ OA 12 O RE O (NQ _ _ _) ?_;rintro _ w6 ⟨rfl,rfl⟩;refine⟨hg,?_⟩;refine Ll 13 O (Qy O O) hg$ qE$ Mg O (λh1=>?_)$ λh1=>?_
    ·rw[Uz _ _ _ _ hj (by simpa[MJ] using h1)] at bT;refine py$ Lc$ Li O$ Le O$ Mb O O$ Lk O$ Ld ?_;exact(ih (r+1) _ ⟨aW.ext hg,ak.trans hg.kp,bT,by omega,by omega⟩ (by omega)).qb
    ·rw[OP _ _ _ _ (.inr (by simpa[MJ] using h1))] at bT;refine Ln O ?_;subst bT;exact(o8 _ _ ⟨rfl,aW.ext hg,ak.trans hg.kp⟩).qb
theorem z8s {w:World}{g n cap:Nat}{d:Array Nat}(h:Om w g n cap d)(a b pv:Nat)(GI:a<=pv)(qi:pv<b)(hb:b<=n)(hn:n<=65536):
  LP Tryz.prog 248 [.slice (some ⟨g,0,none⟩) n cap,I (a:Int),I (b:Int),I (pv:Int)] w λu w'=>u=I ((Go.Sort.partitionEqual MJ d a b pv).1:Int)/\Om w' g n cap (Go.Sort.partitionEqual MJ d a b pv).2/\Kp (λk=>k=g) w w':=by
 refine Lb (e:=[(0,_),(1,_),(2,_),(3,_)]) Tryz.func248 O Tryz.ntmps248 O O$ qN O$ Lk O$ run_seq ?_
 have az:=Ext.LC w
 refine LH [13,15] (λw'=>Ext w w') (by kernel_rfl) O$ qL [12,13,14,15] 0 O (λ_ h=>M0 O) az$ qL [12,13,14,15] 1 O (λ_ h=>M0 O) az$ Mk (i:=2) O (by kernel_rfl) O O (λ_=>M0 O) (az)$ Mk (i:=3) O (by kernel_rfl) O O (λ_=>M0 O) (az)$ qL [6,7,12,13,14,15] 4 O (λ_ h=>M0 O) az$ qL [6,7,12,13,14,15] 5 O (λ_ h=>M0 O) az$ qL [7,12,13,14,15] 6 O (λ_ h=>M9 LI Lz O O (by omega)) az$ qL [10,11,12,13,14,15] 8 O (λ_ h=>M0 O) az$ qL [10,11,12,13,14,15] 9 O (λ_ h=>M0 O) az$ qL [11,12,13,14,15] 10 O (λ_ h=>M9 LI Lz O O (by omega)) az$ qL [12,13,14,15] 7 O (λ_ hS=>LN Mx O O ((h.ext hS).get (i:=pv) (by omega))) az$ qL [12,13,14,15] 11 O (λ_ hS=>LN Mx O O ((h.ext hS).get (i:=a) (by omega))) az$ qL [13,14,15] 12 O (λ_ h=>M9 LI Lz O O (by omega)) az ?_
 refine OY [13]$ qO 13$ M1 (i:=13) O O (NH Lz O O O (h.ext az).sl ((h.ext az).VU (by omega))) ?_
 rintro w1a ⟨mE,mF⟩
 refine⟨trivial,?_⟩
 have fN:=(h.ext az).set mE
 refine Ll 14 O (M9 LI Lz O O (by omega)) trivial$ qO 15$ M1 (i:=15) O O (NH Lz O O O fN.sl (fN.VU (by omega))) ?_
 rintro w1 ⟨rF,rG⟩
 refine⟨trivial,?_⟩
 have i7:=fN.set rF
 have kz:Kp (λk=>k=g) w w1:=az.kp.trans (mF.trans rG)
 refine qE$ qN O$ Le O$ Mb O O$ Le O$ Np O O$ Lw O$ Lk O$ LS.qb (e:=[(0,_),(1,_),(8,_),(9,_),(10,_)]) ?_
 refine run_seq$ Lc ?_
 unfold Go.Sort.partitionEqual
 replace i7:Om w1 g n cap (Go.Sort.swp d a pv):=i7
 generalize Go.Sort.swp d a pv=D at i7
 rw[show(a:Int)+1=((a+1:Nat):Int) by omega,show(b:Int)-1=((b-1:Nat):Int) by omega]
 refine Nj (α:=Nat×Nat×Array Nat) ((a+1,b-1,D)) (λy=>[(0,.slice (some ⟨g,0,none⟩) n cap),(1,I (a:Int)),(9,I (y.1:Int)),(10,I (y.2.1:Int))]) (λy w'=>Om w' g n cap y.2.2/\Kp (λk=>k=g) w1 w'/\Go.Sort.partEqLoop MJ a y.1 y.2.1 y.2.2=Go.Sort.partEqLoop MJ a (a+1) (b-1) D/\(a<y.1/\y.1<=n/\y.2.1<n)) (λy=>y.2.1+1-y.1) ?hI ?hround
 case hI=>exact⟨i7,Kp.refl _ _,rfl,by dsimp only;omega⟩
 case hround =>
  rintro⟨i,j,d4⟩ w4 ⟨dX,av,cz,bH⟩ ih;dsimp only at dX av cz bH;rw[Go.Sort.partEqLoop_eq] at cz
  try dsimp only
  refine Lc$ run_seq$ Lc$ Nl (λe' w'=>e'=[(0,.slice (some ⟨g,0,none⟩) n cap),(1,I (a:Int)),(9,I (((Go.Sort.scanUp (λx=>!MJ d4[a]! x) d4 j (i)):Nat):Int)),(10,I ((j:Nat):Int))]/\Om w' g n cap d4/\Kp (λk=>k=g) w4 w') ?jg$ λjg=>?rI
  case jg=>
   rintro e' wC ⟨rfl,AM,jg⟩;have dB:=Go.Sort.scanUp_ge (λx=>!MJ d4[a]! x) d4 j i;have m4:=SA (λx=>!MJ d4[a]! x) d4 j i
   generalize Go.Sort.scanUp (λx=>!MJ d4[a]! x) d4 j i=i2 at cz dB m4
   refine run_seq$ Lc$ Nl (λe' w'=>e'=[(0,.slice (some ⟨g,0,none⟩) n cap),(1,I (a:Int)),(9,I ((i2:Nat):Int)),(10,I (((Go.Sort.scanDown (λx=>MJ d4[a]! x) d4 i2 (j)):Nat):Int))]/\Om w' g n cap d4/\Kp (λk=>k=g) wC w') ?fk$ λfk=>?rH
   case fk=>
    rintro e' wD ⟨rfl,iN,fk⟩;have ky:=Go.Sort.scanDown_le (λx=>MJ d4[a]! x) d4 i2 j
    generalize Go.Sort.scanDown (λx=>MJ d4[a]! x) d4 i2 j=j2 at cz ky
    refine run_seq$ qN O$ Lu O O$ MH O O$ Lf$ Lp O (λh5=>?_)$ λh5=>?_
    ·rw[if_pos (by omega)] at cz;rw[<-cz];refine Ln O$ qN O$ Le O$ Lk O$ Lh Tryz.func248 O ?_;exact⟨_,rfl,rfl,iN,kz.trans (av.trans (jg.trans fk))⟩
    ·rw[if_neg (by omega)] at cz;refine py$ run_seq ?_;have bO:=Ext.LC wD;refine LH [13,15] (λw'=>Ext wD w') (by kernel_rfl) O$ qL [12,13,14,15] 0 O (λ_ h=>M0 O) bO$ qL [12,13,14,15] 1 O (λ_ h=>M0 O) bO$ Mk (i:=2) O (by kernel_rfl) O O (λ_=>M0 O) (bO)$ Mk (i:=3) O (by kernel_rfl) O O (λ_=>M0 O) (bO)$ qL [6,7,12,13,14,15] 4 O (λ_ h=>M0 O) bO$ qL [6,7,12,13,14,15] 5 O (λ_ h=>M0 O) bO$ qL [7,12,13,14,15] 6 O (λ_ h=>M9 LI Lz O O (by omega)) bO$ qL [10,11,12,13,14,15] 8 O (λ_ h=>M0 O) bO$ qL [10,11,12,13,14,15] 9 O (λ_ h=>M0 O) bO$ qL [11,12,13,14,15] 10 O (λ_ h=>M9 LI Lz O O (by omega)) bO$ qL [12,13,14,15] 7 O (λ_ h=>LN Mx O O ((iN.ext h).get (i:=j2) (by omega))) bO$ qL [12,13,14,15] 11 O (λ_ h=>LN Mx O O ((iN.ext h).get (i:=i2) (by omega))) bO$ qL [13,14,15] 12 O (λ_ h=>M9 LI Lz O O (by omega)) bO ?_;refine OY [13]$ qO 13$ M1 (i:=13) O O (NH Lz O O O (iN.ext bO).sl ((iN.ext bO).VU (by omega))) ?_;rintro w8a ⟨fO,fP⟩;refine⟨trivial,?_⟩;have cJ:=(iN.ext bO).set fO;refine Ll 14 O (M9 LI Lz O O (by omega)) trivial$ qO 15$ M1 (i:=15) O O (NH Lz O O O cJ.sl (cJ.VU (by omega))) ?_;rintro w8 ⟨jD,jE⟩;refine⟨trivial,?_⟩;have jF:=cJ.set jD;have ff:Kp (λk=>k=g) wD w8:=bO.kp.trans (fP.trans jE);refine qE$ qN O$ Le O$ Mb O O$ Lk O$ Li O$ Le O$ Np O O$ Lk O$ Ld ?_;rw[show(j2:Int)-1=((j2-1:Nat):Int) by omega];exact(ih (i2+1,j2-1,Go.Sort.swp d4 i2 j2) _ ⟨jF,(av.trans (jg.trans fk)).trans ff,cz,by dsimp only;omega⟩ (by dsimp only;omega)).qb
   case rH=>
    refine Nj (α:=Nat) (j) (λr=>[(0,.slice (some ⟨g,0,none⟩) n cap),(1,I (a:Int)),(9,I ((i2:Nat):Int)),(10,I ((r:Nat):Int))]) (λr w'=>Om w' g n cap d4/\Kp (λk=>k=g) wC w'/\Go.Sort.scanDown (λx=>MJ d4[a]! x) d4 i2 r=Go.Sort.scanDown (λx=>MJ d4[a]! x) d4 i2 (j)/\r<n) (λr=>r) ?hI ?hround
    case hI=>exact⟨AM,Kp.refl _ _,rfl,by omega⟩
    case hround=>
     rintro r w5 ⟨aW,ak,bT,cb⟩ ih
     try dsimp only
     have hg:=Ext.LC w5;rcases Nat.lt_or_ge r (i2) with hj|hj
     ·refine run_seq$ run_seq$ N7 (λw'=>Ext w5 w') O$ LA 0 O O (hg)$ LA 1 O O (hg)$ Ll 2 O (Up O O) hg$ PU$ LA 3 O O (hg)$ qJ 4 O (hg)$ qJ 5 O (hg)$ qJ 6 O (hg)$ qJ 7 O (hg)$ qJ 8 O (hg)$ qJ 9 O (hg) ?_;refine qJ 10 O (hg)$ qJ 11 O (hg)$ qJ 12 O (hg)$ Ll 13 O (Qt O O) hg$ qE$ An O$ Ln O ?_;rw[NV _ _ _ _ (.inl hj)] at bT;subst bT;exact(fk _ _ ⟨rfl,aW.ext hg,ak.trans hg.kp⟩).qb
     ·refine run_seq$ run_seq$ N7 (λw'=>Ext w5 w') O$ LA 0 O O (hg)$ LA 1 O O (hg)$ Ll 2 O (Up O O) hg$ Pu$ LA 3 O O (hg)$ LA 4 O O (hg)$ LA 5 O O (hg)$ Ll 6 O (M9 LI Lz O O (by omega)) hg$ LA 8 O O (hg)$ LA 9 O O (hg)$ Ll 10 O (M9 LI Lz O O (by omega)) hg ?_;refine qT 7 O (λ_ h=>LN Mx O O ((aW.ext h).get (i:=a) (by omega))) hg$ qT 11 O (λ_ h=>LN Mx O O ((aW.ext h).get (i:=r) (by omega))) hg$ OA 12 O RE O (NQ _ _ _) ?_;rintro _ w6 ⟨rfl,rfl⟩;refine⟨hg,?_⟩;refine Ll 13 O (Qy O O) hg$ qE$ Mg O (λh1=>?_)$ λh1=>?_
      ·rw[S0 _ _ _ _ hj (by simpa[MJ] using h1) (by omega)] at bT;refine py$ Lc$ Li O$ Le O$ Np O O$ Lk O$ Ld ?_;rw[show(r:Int)-1=((r-1:Nat):Int) by omega];exact(ih (r-1) _ ⟨aW.ext hg,ak.trans hg.kp,bT,by omega⟩ (by omega)).qb
      ·rw[NV _ _ _ _ (.inr (by simpa[MJ] using h1))] at bT;refine Ln O ?_;subst bT;exact(fk _ _ ⟨rfl,aW.ext hg,ak.trans hg.kp⟩).qb
  case rI=>
   refine Nj (α:=Nat) (i) (λr=>[(0,.slice (some ⟨g,0,none⟩) n cap),(1,I (a:Int)),(9,I ((r:Nat):Int)),(10,I ((j:Nat):Int))]) (λr w'=>Om w' g n cap d4/\Kp (λk=>k=g) w4 w'/\Go.Sort.scanUp (λx=>!MJ d4[a]! x) d4 j r=Go.Sort.scanUp (λx=>!MJ d4[a]! x) d4 j (i)/\i<=r/\r<=n+1) (λr=>j+1-r) ?hI ?hround
   case hI=>exact⟨dX,Kp.refl _ _,rfl,Nat.le_refl _,by omega⟩
   case hround=>
    rintro r w5 ⟨aW,ak,bT,cb⟩ ih
    try dsimp only
    have hg:=Ext.LC w5;rcases Nat.lt_or_ge (j) r with hj|hj
    ·refine run_seq$ run_seq$ N7 (λw'=>Ext w5 w') O$ LA 0 O O (hg)$ LA 1 O O (hg)$ Ll 2 O (Up O O) hg$ PU$ LA 3 O O (hg)$ qJ 4 O (hg)$ qJ 5 O (hg)$ qJ 6 O (hg)$ qJ 7 O (hg)$ qJ 8 O (hg)$ qJ 9 O (hg) ?_;refine qJ 10 O (hg)$ qJ 11 O (hg)$ qJ 12 O (hg)$ qJ 13 O (hg)$ Ll 14 O (Qt O O) hg$ qE$ An O$ Ln O ?_;rw[OP _ _ _ _ (.inl hj)] at bT;subst bT;exact(jg _ _ ⟨rfl,aW.ext hg,ak.trans hg.kp⟩).qb
    ·refine run_seq$ run_seq$ N7 (λw'=>Ext w5 w') O$ LA 0 O O (hg)$ LA 1 O O (hg)$ Ll 2 O (Up O O) hg$ Pu$ LA 3 O O (hg)$ LA 4 O O (hg)$ LA 5 O O (hg)$ Ll 6 O (M9 LI Lz O O (by omega)) hg$ LA 8 O O (hg)$ LA 9 O O (hg)$ Ll 10 O (M9 LI Lz O O (by omega)) hg ?_;refine qT 7 O (λ_ h=>LN Mx O O ((aW.ext h).get (i:=a) (by omega))) hg$ qT 11 O (λ_ h=>LN Mx O O ((aW.ext h).get (i:=r) (by omega))) hg$ OA 12 O RE O (NQ _ _ _) ?_;rintro _ w6 ⟨rfl,rfl⟩;refine⟨hg,?_⟩;refine Ll 13 O ((by first|exact Mh O|exact NL O)) hg ?_;refine Ll 14 O (Qy O O) hg$ qE$ Mg O (λh1=>?_)$ λh1=>?_
     ·rw[Uz _ _ _ _ hj (by simpa[MJ] using h1)] at bT;refine py$ Lc$ Li O$ Le O$ Mb O O$ Lk O$ Ld ?_;exact(ih (r+1) _ ⟨aW.ext hg,ak.trans hg.kp,bT,by omega,by omega⟩ (by omega)).qb
     ·rw[OP _ _ _ _ (.inr (by simpa[MJ] using h1))] at bT;refine Ln O ?_;subst bT;exact(jg _ _ ⟨rfl,aW.ext hg,ak.trans hg.kp⟩).qb
section
variable (d:Array Nat)(b i:Nat)
theorem Xm (h:i<b)(hp:MJ d[i]! d[i-1]! =false):Go.Sort.scanSorted MJ d b i=Go.Sort.scanSorted MJ d b (i+1):=by
 conv=>lhs;rw[Go.Sort.scanSorted]
 rw[if_pos]
 rw[Bool.and_eq_true];exact⟨by simpa using h,by rw[hp];rfl⟩
theorem Ry (h:b<=i\/MJ d[i]! d[i-1]! =true):Go.Sort.scanSorted MJ d b i=i:=by
 rw[Go.Sort.scanSorted,if_neg]
 intro hc
 rw[Bool.and_eq_true] at hc
 rcases h with h| h
 ·have:=of_decide_eq_true hc.1;omega
 ·rw[h] at hc;cases hc.2
end
theorem z2D (d:Array Nat)(a b:Nat)(h:b-a<50):Go.Sort.partialInsertionSort MJ d a b=(d,decide (Go.Sort.scanSorted MJ d b (a+1)=b)):=by
 unfold Go.Sort.partialInsertionSort
 rw[Go.Sort.partialIns]
 by_cases e:Go.Sort.scanSorted MJ d b (a+1)=b
 ·simp only[e,if_pos,decide_true]
 ·simp only[if_neg e,if_pos h,decide_eq_false e]
theorem z6t {w:World}{g n cap:Nat}{d:Array Nat}(h:Om w g n cap d)(a b:Nat)(j9:a<b)(hb:b<=n)(hn:n<50):
  LP Tryz.prog 246 [.slice (some ⟨g,0,none⟩) n cap,I (a:Int),I (b:Int)] w λu w'=>u= .bool (Go.Sort.partialInsertionSort MJ d a b).2/\Om w' g n cap d/\Kp (λk=>k=g) w w':=by
 rw[z2D d a b (by omega)]
 dsimp only
 refine Lb (e:=[(0,_),(1,_),(2,_)]) Tryz.func246 O Tryz.ntmps246 O O$ qN O$ Lw O$ qM O$ Le O$ Mb O O$ Lk O$ run_seq$ qN O$ Lk O$ Lc ?_
 rw[show(a:Int)+1=((a+1:Nat):Int) by omega]
 refine Nj (α:=Unit) (()) (λ_=>[(0,.slice (some ⟨g,0,none⟩) n cap),(1,I (a:Int)),(2,I (b:Int)),(7,I ((a+1:Nat):Int)),(8,I 0)]) (λy w'=>w'=w) (λy=>0) ?hI ?hround
 case hI=>rfl
 case hround =>
  rintro _ w4 rfl ih0
  try dsimp only
  refine run_seq$ qN O$ Le O$ Mw O O$ Lf$ Lp O (λh0=>?_)$ λh0=>?_
  ·refine py$ run_seq$ Lc$ run_seq$ Lc$ Nl (λe' w'=>e'=[(0,.slice (some ⟨g,0,none⟩) n cap),(1,I (a:Int)),(2,I (b:Int)),(7,I (Go.Sort.scanSorted MJ d b (a+1):Int)),(8,I 0)]/\Om w' g n cap d/\Kp (λk=>k=g) w4 w') ?fw$ λfw=>?rJ
   case fw=>
    rintro e' ws ⟨rfl,EQ,fw⟩;refine run_seq$ qN O$ Lu O O$ Nb O O$ Lf$ Lp O (λh1=>?_)$ λh1=>?_
    ·have tO:Go.Sort.scanSorted MJ d b (a+1)=b:=by omega
     rw[decide_eq_true tO];refine qN O$ Lk O$ Lh Tryz.func246 O ?_;exact⟨_,rfl,rfl,EQ,fw⟩
    ·have tO:¬Go.Sort.scanSorted MJ d b (a+1)=b:=by omega
     rw[decide_eq_false tO];refine py$ run_seq$ qN O$ Lu O O$ Np O O$ Mw O O$ Lf$ Lp O (λh2=>?_)$ λh2=>?_
     ·refine qN O$ Lk O$ Lh Tryz.func246 O ?_;exact⟨_,rfl,rfl,EQ,fw⟩
     ·omega
   case rJ=>
    refine Nj (α:=Nat) (a+1) (λr=>[(0,.slice (some ⟨g,0,none⟩) n cap),(1,I (a:Int)),(2,I (b:Int)),(7,I (r:Int)),(8,I 0)]) (λr w'=>Om w' g n cap d/\Kp (λk=>k=g) w4 w'/\Go.Sort.scanSorted MJ d b r=Go.Sort.scanSorted MJ d b (a+1)/\a<r/\r<=b) (λr=>b-r) ?hI ?hround
    case hI=>exact⟨h,Kp.refl _ _,rfl,Nat.lt_succ_self a,j9⟩
    case hround=>
     rintro r w5 ⟨aW,ak,bT,cb,ER⟩ ih
     try dsimp only
     have hg:=Ext.LC w5;rcases Nat.lt_or_ge r b with hj|hj
     ·refine run_seq$ run_seq$ N7 (λw'=>Ext w5 w') O$ LA 0 O O (hg)$ LA 1 O O (hg)$ Ll 2 O (Wr O O) hg$ Pu$ LA 3 O O (hg)$ LA 4 O O (hg)$ LA 5 O O (hg)$ Ll 6 O (M9 LI Lz O O (by omega)) hg$ LA 8 O O (hg)$ LA 9 O O (hg)$ Ll 10 O (SR O O (by omega)) hg ?_;rw[show(r:Int)-1=((r-1:Nat):Int) by omega];refine qT 7 O (λ_ h=>LN Mx O O ((aW.ext h).get (i:=r) (by omega))) hg$ Ll 11 O (M9 LI Lz O O (by omega)) hg$ qT 12 O (λ_ h=>LN Mx O O ((aW.ext h).get (i:=r-1) (by omega))) hg$ OA 13 O RE O (NQ _ _ _) ?_;rintro _ w6 ⟨rfl,rfl⟩;refine⟨hg,?_⟩;refine Ll 14 O ((by first|exact Mh O|exact NL O)) hg ?_;refine Ll 15 O (Qy O O) hg$ qE$ Mg O (λh3=>?_)$ λh3=>?_
      ·rw[Xm _ _ _ hj (by simpa[MJ] using h3)] at bT;refine py$ Lc$ Li O$ Le O$ Mb O O$ Lk O$ Ld ?_;exact(ih (r+1) _ ⟨aW.ext hg,ak.trans hg.kp,bT,by omega,by omega⟩ (by omega)).qb
      ·rw[Ry _ _ _ (.inr (by simpa[MJ] using h3))] at bT;refine Ln O ?_;subst bT;exact(fw _ _ ⟨rfl,aW.ext hg,ak.trans hg.kp⟩).qb
     ·refine run_seq$ run_seq$ N7 (λw'=>Ext w5 w') O$ LA 0 O O (hg)$ LA 1 O O (hg)$ Ll 2 O (Wr O O) hg$ PU$ LA 3 O O (hg)$ qJ 4 O (hg)$ qJ 5 O (hg)$ qJ 6 O (hg)$ qJ 7 O (hg)$ qJ 8 O (hg)$ qJ 9 O (hg) ?_;refine qJ 10 O (hg)$ qJ 11 O (hg)$ qJ 12 O (hg)$ qJ 13 O (hg)$ qJ 14 O (hg)$ Ll 15 O (Qt O O) hg$ qE$ An O$ Ln O ?_;rw[Ry _ _ _ (.inl hj)] at bT;subst bT;exact(fw _ _ ⟨rfl,aW.ext hg,ak.trans hg.kp⟩).qb
  ·exact absurd (by decide) h0
theorem Tf {w:World}{g n cap sb s:Nat}{d:Array Nat}(h:Om w g n cap d)(hB:Lq w sb [I (s:Int)] 3)(hs:s<=1000)(x y:Nat)(hx:x<n)(hy:y<n)(qj:sb≠g):
  LP Tryz.prog 257 [.slice (some ⟨g,0,none⟩) n cap,I (x:Int),I (y:Int),ptr sb 0] w λu w'=>∃x' y' s':Nat,u= .tuple #[I (x':Int),I (y':Int)]/\((x'=x/\y'=y)\/(x'=y/\y'=x))/\s'<=s+1/\Lq w' sb [I (s':Int)] 3/\Om w' g n cap d/\Kp (λk=>k=sb) w w':=by
 refine Lb (e:=[(0,_),(1,_),(2,_),(3,_)]) Tryz.func257 O Tryz.ntmps257 O O ?_
 have hg:=Ext.LC w
 refine qN O$ Lw O$ Lk O$ run_seq$ run_seq$ N7 (λw'=>Ext w w') O$ LA 0 O O (hg)$ LA 1 O O (hg)$ Ll 2 O (M9 LI Lz O O (by omega)) hg$ LA 4 O O (hg)$ LA 5 O O (hg)$ Ll 6 O (M9 LI Lz O O (by omega)) hg$ qT 3 O (λ_ hS=>LN Mx O O ((h.ext hS).get (i:=y) (by omega))) hg$ qT 7 O (λ_ hS=>LN Mx O O ((h.ext hS).get (i:=x) (by omega))) hg ?_
 refine OA 8 O RE O (NQ _ _ _) ?_
 rintro _ w6 ⟨rfl,rfl⟩
 refine⟨hg,?_⟩
 refine qE$ Mg O (λh1=>?_)$ λh1=>?_
 ·have am:=hg.Lg hB;refine qN O$ Le O$ LU O$ qV (Lj U3 O O am O)$ Mb O O$ LU O$ Ls O (MY Md O O O am (by simp)) ?_;rintro w3 ⟨aq,ax⟩;refine qM O$ Lu O O$ Lw O$ Lk O$ Lh Tryz.func257 O ?_;exact⟨_,rfl,y,x,s+1,rfl,.inr ⟨rfl,rfl⟩,Nat.le_refl _,aq,(h.ext hg).kp ax (λe=>qj e.symm),hg.kp.trans ax⟩
 ·refine py$ qN O$ Lu O O$ Lw O$ Lk O$ Lh Tryz.func257 O ?_;exact⟨_,rfl,x,y,s,rfl,.inl ⟨rfl,rfl⟩,Nat.le_succ _,hg.Lg hB,h.ext hg,hg.kp⟩
theorem z1b {w:World}{g n cap sb s:Nat}{d:Array Nat}(h:Om w g n cap d)(hB:Lq w sb [I (s:Int)] 3)(hs:s<=500)(x y z:Nat)(hx:x<n)(hy:y<n)(hz:z<n)(qj:sb≠g):
  LP Tryz.prog 255 [.slice (some ⟨g,0,none⟩) n cap,I (x:Int),I (y:Int),I (z:Int),ptr sb 0] w λu w'=>∃x' s':Nat,u=I (x':Int)/\(x'=x\/x'=y\/x'=z)/\s'<=s+3/\Lq w' sb [I (s':Int)] 3/\Om w' g n cap d/\Kp (λk=>k=sb) w w':=by
 refine Lb (e:=[(0,_),(1,_),(2,_),(3,_),(4,_)]) Tryz.func255 O Tryz.ntmps255 O O$ qN O$ Lw O$ qM O$ Lu O O$ Lu O O$ LD z6i O (Tf h hB (by omega) x y hx hy qj) ?_
 rintro _ w1 ⟨x1,y1,s1,rfl,GL,dU,ai,kA,aN⟩
 refine Le O$ Mp O O$ Mp O O$ Lw O$ Lw O$ qM O$ Lu O O$ Lu O O$ LD z6i O (Tf kA ai (by omega) y1 z (by omega) hz qj) ?_
 rintro _ w2 ⟨y2,z2,s2,rfl,GM,cW,am,ln,ao⟩
 refine Le O$ Mp O O$ Mp O O$ Lw O$ Lw O$ qM O$ Lu O O$ Lu O O$ LD z6i O (Tf ln am (by omega) x1 y2 (by omega) (by omega) qj) ?_
 rintro _ w3 ⟨x3,y3,s3,rfl,GN,ob,aq,mI,ax⟩
 refine Le O$ Mp O O$ Mp O O$ Lw O$ Lk O$ LS.qb (e:=[(2,_),(10,_)]) ?_
 refine qN O$ Le O$ Lk O$ Lh Tryz.func255 O ?_
 exact⟨_,rfl,y3,s3,rfl,by omega,by omega,aq,mI,(aN.trans ao).trans ax⟩
theorem z4c {w:World}{g n cap:Nat}{d:Array Nat}(h:Om w g n cap d)(a b:Nat)(j9:a+12<b)(hb:b<=n)(hn:n<50):
  LP Tryz.prog 244 [.slice (some ⟨g,0,none⟩) n cap,I (a:Int),I (b:Int)] w λu w'=>∃p t:Nat,u= .tuple #[I (p:Int),I (t:Int)]/\a<=p/\p<b/\t<=2/\Om w' g n cap d/\Ext w w':=by
 have GO:g<w.heap.size:=h.sl.lt O
 refine Lb (e:=[(0,_),(1,_),(2,_)]) Tryz.func244 O Tryz.ntmps244 O O$ qN O$ Lw O$ Lw O$ qM O$ Lu O O$ Np O O$ Lw O$ qM O ?_
 rw[show(b:Int)-(a:Int)=((b-a:Nat):Int) by omega]
 refine Lm O O (NJ (cs:=[_]) Md O) ?_
 rintro _ w1 ⟨sb,rfl,qj,ad,ai⟩
 replace ai:Lq w1 sb [I ((0:Nat):Int)] 3:=ai
 refine qM O$ Lu O O$ qV (SC O O (by omega))$ qV (T6 O O (by omega))$ Mb O O$ Lw O$ qM O$ Lu O O$ qV (SC O O (by omega))$ qV (T6 O O (by omega))$ Mb O O$ Lw O$ qM O$ Lu O O ?_
 refine qV (SC O O (by omega))$ qV (T6 O O (by omega))$ Mb O O$ Lk O$ LS.qb (e:=[(0,_),(6,_),(7,_),(8,_),(9,_),(10,_),(11,_),(12,_)]) ?_
 refine run_seq$ qN O$ Le O$ Pa O O$ Lf ?_
 rw[show(a:Int)+((b-a:Nat):Int) / 4*1=((a+(b-a) / 4*1:Nat):Int) by omega,show(a:Int)+((b-a:Nat):Int) / 4*2=((a+(b-a) / 4*2:Nat):Int) by omega,show(a:Int)+((b-a:Nat):Int) / 4*3=((a+(b-a) / 4*3:Nat):Int) by omega]
 refine Lp O (λh0=>?_)$ λh0=>?_
 ·refine run_seq$ qN O$ Le O$ Pa O O$ Lf$ Lp O (λh1=>?_)$ λh1=>?_
  ·omega
  ·refine py$ Li O$ Lu O O$ Lu O O$ LD zbd O (z1b (h.ext ad) ai (by omega) (a+(b-a) / 4*1) (a+(b-a) / 4*2) (a+(b-a) / 4*3) (by omega) (by omega) (by omega) (by omega)) ?_;rintro _ w2 ⟨p,s,rfl,hp,hs,am,ln,ao⟩;have ag:Ext w w2:=ad.It ao (λk e=>by omega);refine Lw O$ qM O$ qV (Lj U3 O O am O)$ Lf$ Lc$ qN O$ Nb O O$ Lk O$ Lp O (λh2=>?_)$ λh2=>?_
   ·refine qN O$ Le O$ Lw O$ Lk O$ Lh Tryz.func244 O ?_;exact⟨_,rfl,p,1,rfl,by omega,by omega,by omega,ln,ag⟩
   ·refine qN O$ Nb O O$ Lk O$ Lp O (λh3=>?_)$ λh3=>?_
    ·refine qN O$ Le O$ Lw O$ Lk O$ Lh Tryz.func244 O ?_;exact⟨_,rfl,p,2,rfl,by omega,by omega,by omega,ln,ag⟩
    ·refine qN O$ Le O$ Lw O$ Lk O$ Lh Tryz.func244 O ?_;exact⟨_,rfl,p,0,rfl,by omega,by omega,by omega,ln,ag⟩
 ·omega
theorem z4B {w:World}{xb r:Nat}(hB:Lq w xb [Ly r] 373)(hr:r<18446744073709551616):
  LP Tryz.prog 253 [ptr xb 0] w λu w'=>∃r':Nat,u=Ly r'/\r'<18446744073709551616/\Lq w' xb [Ly r'] 373/\Kp (λk=>k=xb) w w':=by
 refine Lb (e:=[(0,_)]) Tryz.func253 O Tryz.ntmps253 O O ?_
 have aJ:=Ext.LC w
 refine qN O$ Lk O$ run_seq$ LH [9] (λw'=>Ext w w') (by kernel_rfl) O$ qL [1,2,7,8,9] 0 O (λ_ h=>M0 O) aJ$ qL [2,7,8,9] 1 O (λ_ h=>Mo O) aJ$ qL [7,8,9] 2 O (λ_ h=>Lj Yx O O (h.Lg hB) O) aJ$ qL [4,5,6,7,8,9] 3 O (λ_ h=>M0 O) aJ$ qL [5,6,7,8,9] 4 O (λ_ h=>Mo O) aJ$ qL [6,7,8,9] 5 O (λ_ h=>Lj Yx O O (h.Lg hB) O) aJ$ qL [7,8,9] 6 O (λ_ h=>Na 13 8192 O O (by decide) O) aJ$ qL [8,9] 7 O (λ_ h=>Wp O O (by omega) (by omega)) aJ$ qL [9] 8 O (λ_ h=>Mo O) aJ ?_
 generalize iB:r^^^r*8192%18446744073709551616=r1
 have cZ:r1<18446744073709551616:=by rw[<-iB];exact Nat.xor_lt_two_pow (n:=64) (by omega) (by omega)
 refine OY [9]$ qO 9$ M1 (i:=9) O O (MY z0j O O O (aJ.Lg hB) (by simp)) ?_
 rintro w1 ⟨ai,aN⟩
 refine⟨trivial,?_⟩
 replace ai:Lq w1 xb [Ly r1] 373:=ai
 have aa:=Ext.LC w1
 refine qE$ run_seq$ LH [9] (λw'=>Ext w1 w') (by kernel_rfl) O$ qL [1,2,7,8,9] 0 O (λ_ h=>M0 O) aa$ qL [2,7,8,9] 1 O (λ_ h=>Mo O) aa$ qL [7,8,9] 2 O (λ_ h=>Lj Yx O O (h.Lg ai) O) aa$ qL [4,5,6,7,8,9] 3 O (λ_ h=>M0 O) aa$ qL [5,6,7,8,9] 4 O (λ_ h=>Mo O) aa$ qL [6,7,8,9] 5 O (λ_ h=>Lj Yx O O (h.Lg ai) O) aa$ qL [7,8,9] 6 O (λ_ h=>Qg 7 128 O O (by decide) O) aa$ qL [8,9] 7 O (λ_ h=>Wp O O (by omega) (by omega)) aa$ qL [9] 8 O (λ_ h=>Mo O) aa ?_
 generalize eC:r1^^^r1 / 128=r2
 have dP:r2<18446744073709551616:=by rw[<-eC];exact Nat.xor_lt_two_pow (n:=64) (by omega) (by omega)
 refine OY [9]$ qO 9$ M1 (i:=9) O O (MY z0j O O O (aa.Lg ai) (by simp)) ?_
 rintro w2 ⟨am,ao⟩
 refine⟨trivial,?_⟩
 replace am:Lq w2 xb [Ly r2] 373:=am
 have ae:=Ext.LC w2
 refine qE$ run_seq$ LH [9] (λw'=>Ext w2 w') (by kernel_rfl) O$ qL [1,2,7,8,9] 0 O (λ_ h=>M0 O) ae$ qL [2,7,8,9] 1 O (λ_ h=>Mo O) ae$ qL [7,8,9] 2 O (λ_ h=>Lj Yx O O (h.Lg am) O) ae$ qL [4,5,6,7,8,9] 3 O (λ_ h=>M0 O) ae$ qL [5,6,7,8,9] 4 O (λ_ h=>Mo O) ae$ qL [6,7,8,9] 5 O (λ_ h=>Lj Yx O O (h.Lg am) O) ae$ qL [7,8,9] 6 O (λ_ h=>Na 17 131072 O O (by decide) O) ae$ qL [8,9] 7 O (λ_ h=>Wp O O (by omega) (by omega)) ae$ qL [9] 8 O (λ_ h=>Mo O) ae ?_
 generalize rK:r2^^^r2*131072%18446744073709551616=r3
 have cd:r3<18446744073709551616:=by rw[<-rK];exact Nat.xor_lt_two_pow (n:=64) (by omega) (by omega)
 refine OY [9]$ qO 9$ M1 (i:=9) O O (MY z0j O O O (ae.Lg am) (by simp)) ?_
 rintro w3 ⟨aq,ax⟩
 refine⟨trivial,?_⟩
 replace aq:Lq w3 xb [Ly r3] 373:=aq
 refine qE$ LS.qb (e:=[(0,_),(2,_)]) ?_
 refine qN O$ Le O$ LU O$ qV (Lj Yx O O aq O)$ Lk O$ Lh Tryz.func253 O ?_
 exact⟨_,rfl,r3,rfl,cd,aq,(aJ.kp.trans aN).trans ((aa.kp.trans ao).trans (ae.kp.trans ax))⟩
theorem z3t (x:Nat)(hx:x<18446744073709551616)(w:World):LP Tryz.prog 239 [Ly x] w λv w'=>v=I (Ma x:Int)/\w'=w:=by
 refine Lb (e:=[(0,_)]) Tryz.func239 O Tryz.ntmps239 O O$ qN O$ Lk O$ run_seq$ An O$ py$ qN O$ Le O$ LD XL O (PV x hx w) ?_
 rintro _ w ⟨rfl,rfl⟩
 refine Lk O$ Lh Tryz.func239 O ?_
 exact⟨_,rfl,rfl,rfl⟩
theorem z7C (x:Nat)(hx:x<4294967296)(w:World):LP Tryz.prog 252 [I (x:Int)] w λv w'=>v=Ly (2^Ma x)/\w'=w:=by
 have hl:Ma x<=32:=N0 (by omega)
 have hp:2^Ma x<=2^32:=Nat.pow_le_pow_right (by decide) hl
 refine Lb (e:=[(0,_)]) Tryz.func252 O Tryz.ntmps252 O O$ qN O$ Lw O$ qM O$ Le O$ qV ((by first|exact Mc O U3 z6L (by omega)|exact Ny O U3 z6L)) ?_
 refine LD z9B O (z3t x (by omega) w) ?_
 rintro _ w ⟨rfl,rfl⟩
 refine qV (Na (Ma x) (2^Ma x) O O (by omega) O) ?_
 rw[show 1*2^Ma x%18446744073709551616=2^Ma x by rw[Nat.one_mul];exact Nat.mod_eq_of_lt (by omega)]
 refine Lk O$ Lh Tryz.func252 O ?_
 exact⟨_,rfl,rfl,rfl⟩
open Go.Sort in
theorem z5V {d:Array Nat}{a b i j:Nat}(h1:a<=i)(h2:i<b)(h3:a<=j)(h4:j<b)(h5:b<=d.size):PermIn a b d (swp d i j):=swp_permIn d a b i j h1 h2 h3 h4 h5
theorem z5I {w:World}{g n cap:Nat}{d:Array Nat}(h:Om w g n cap d)(a b:Nat)(j9:a+12<b)(hb:b<=n)(hn:n<50):
  LP Tryz.prog 243 [.slice (some ⟨g,0,none⟩) n cap,I (a:Int),I (b:Int)] w λu w'=>u= .tuple #[]/\∃d',Go.Sort.PermIn a b d d'/\Om w' g n cap d'/\Kp (λk=>k=g) w w':=by
 have GO:g<w.heap.size:=h.sl.lt O
 have tP:2^(Ma (b-a)-1)<=b-a:=VY (by omega)
 have oc:2^Ma (b-a)<=2*(b-a):=by
  have rL:Ma (b-a)≠0:=λe=>by have:=Ss (v:=b-a);rw[e] at this;omega
  rw[show Ma (b-a)=Ma (b-a)-1+1 by omega,Nat.pow_succ];omega
 have Ah:1<=2^Ma (b-a):=Nat.one_le_two_pow
 refine Lb (e:=[(0,_),(1,_),(2,_)]) Tryz.func243 O Tryz.ntmps243 O O$ qN O$ Lu O O$ Np O O ?_
 rw[show(b:Int)-(a:Int)=((b-a:Nat):Int) by omega]
 refine Lw O$ qM O$ Le O$ Pa O O$ Lf$ Lp O (λh0=>?_)$ λh0=>?_
 ·refine qN O$ Le O$ qV ((by first|exact Mc O U3 Yx (by omega)|exact Ny O U3 Yx)) ?_;refine Lm O O (NJ (cs:=[_]) z0j O) ?_;rintro _ w1 ⟨xb,rfl,Kk,ad,ai⟩;refine Ls O (MY z0j O O O ai (by simp)) ?_;rintro w2 ⟨am,ao⟩;have ag:Ext w w2:=ad.It ao (λk e=>by omega);replace am:Lq w2 xb [Ly (b-a)] 373:=am;refine qM O$ Le O$ LD zda O (z7C (b-a) (by omega) _) ?_;rintro _ w2 ⟨rfl,rfl⟩
  generalize 2^Ma (b-a)=M at oc Ah
  refine Lw O$ qM O$ Lu O O$ qV (SC O O (by omega))$ qV (T6 O O (by omega))$ Mb O O$ Np O O$ Lk O$ Lc ?_;rw[show(a:Int)+((b-a:Nat):Int) / 4*2-1=((a+(b-a) / 4*2-1:Nat):Int) by omega];refine Nj (α:=Nat×Array Nat×Nat) ((a+(b-a) / 4*2-1,d,b-a)) (λy=>[(0,.slice (some ⟨g,0,none⟩) n cap),(1,I (a:Int)),(6,I ((b-a:Nat):Int)),(7,ptr xb 0),(8,Ly M),(9,I (y.1:Int))]) (λy w'=>Om w' g n cap y.2.1/\Lq w' xb [Ly y.2.2] 373/\y.2.2<18446744073709551616/\Go.Sort.PermIn a b d y.2.1/\Kp (λk=>k=g) w w'/\a<=y.1) (λy=>a+b+2-y.1) ?hI ?hround
  case hI=>exact⟨h.ext ag,am,by dsimp only;omega,Go.Sort.permIn_refl _ _ _,ag.kp,by dsimp only;omega⟩
  case hround=>
   rintro⟨idx,d4,r⟩ w4 ⟨dX,aF,bH,jG,av,lh⟩ ih;dsimp only at dX aF bH jG av lh;have cF:=dX.size
   try dsimp only
   refine run_seq$ qN O$ Lu O O$ Le O$ qV (SC O O (by omega))$ qV (T6 O O (by omega))$ Mb O O$ Mb O O$ zle O O$ Lf$ Lp O (λh1=>?_)$ λh1=>?_
   ·have oK:idx<b:=by omega
    refine py$ run_seq$ Lc$ qN O$ LD zcr O (z4B aF bH) ?_;rintro _ w5 ⟨r5,rfl,cb,aI,ak⟩;have aW:=dX.kp ak (λe=>by omega);have ci:Kp (λk=>k=g) w w5:=av.It ak (λk e=> .inl (by omega));refine Le O$ qV (RO (m:=M) (n:=1) O O O (by show M<2^64;omega) (by omega)) ?_;refine qV (Qj O O (by omega) (by omega)) ?_;have AP:r5&&&(M-1)<=M-1:=Nat.and_le_right
    generalize r5&&&(M-1)=q at AP
    refine qV (M3 O z6L U3 (by omega))$ Lk O$ run_seq$ qN O$ Lu O O$ Pa O O$ Lf$ M6 (λe' w'=>∃o:Nat,e'=[(0,.slice (some ⟨g,0,none⟩) n cap),(1,I (a:Int)),(6,I ((b-a:Nat):Int)),(7,ptr xb 0),(8,Ly M),(9,I (idx:Int)),(10,I (o:Int))]/\w'=w5/\o<b-a) ?AQ$ λAQ=>?AR
    case AQ=>
     rintro e' w5' ⟨o,rfl,rfl,ho⟩;have az:=Ext.LC w5';refine LH [17,19] (λw'=>Ext w5' w') (by kernel_rfl) O$ qL [16,17,18,19] 0 O (λ_ h=>M0 O) az$ qL [16,17,18,19] 1 O (λ_ h=>M0 O) az$ Mk (i:=2) O (by kernel_rfl) O O (λ_=>M0 O) (az)$ Mk (i:=3) O (by kernel_rfl) O O (λ_=>M0 O) (az)$ Mk (i:=4) O (by kernel_rfl) O O (λ_=>M0 O) (az)$ Mk (i:=5) O (by kernel_rfl) O O (λ_=>Qu O O (by omega)) (az)$ qL [10,11,16,17,18,19] 6 O (λ_ h=>M0 O) az$ qL [9,10,11,16,17,18,19] 7 O (λ_ h=>M0 O) az$ qL [9,10,11,16,17,18,19] 8 O (λ_ h=>M0 O) az$ qL [10,11,16,17,18,19] 9 O (λ_ h=>Qu O O (by omega)) az$ qL [11,16,17,18,19] 10 O (λ_ h=>M9 LI Lz O O (by omega)) az$ qL [14,15,16,17,18,19] 12 O (λ_ h=>M0 O) az$ qL [14,15,16,17,18,19] 13 O (λ_ h=>M0 O) az ?_;refine qL [15,16,17,18,19] 14 O (λ_ h=>M9 LI Lz O O (by omega)) az$ qL [16,17,18,19] 11 O (λ_ h=>LN Mx O O ((aW.ext h).get (i:=a+o) (by omega))) az$ qL [16,17,18,19] 15 O (λ_ h=>LN Mx O O ((aW.ext h).get (i:=idx) (by omega))) az$ qL [17,18,19] 16 O (λ_ h=>M9 LI Lz O O (by omega)) az$ OY [17]$ qO 17$ M1 (i:=17) O O (NH Lz O O O (aW.ext az).sl ((aW.ext az).VU (by omega))) ?_;rintro w8a ⟨fO,fP⟩;refine⟨trivial,?_⟩;have cJ:=(aW.ext az).set fO;refine Ll 18 O (M9 LI Lz O O (by omega)) trivial$ qO 19$ M1 (i:=19) O O (NH Lz O O O cJ.sl (cJ.VU (by omega))) ?_;rintro w8 ⟨jD,jE⟩;refine⟨trivial,?_⟩;have jF:=cJ.set jD;have ff:Kp (λk=>k=g) w5' w8:=az.kp.trans (fP.trans jE);refine qE$ Ld$ Li O$ Le O$ Mb O O$ Lk O ?_;rw[show(idx:Int)+1=((idx+1:Nat):Int) by omega];exact(ih (idx+1,Go.Sort.swp d4 idx (a+o),r5) _ ⟨jF,ff.Lg aI (by omega),cb,Go.Sort.permIn_trans _ _ _ a b jG (z5V lh oK (by omega) (by omega) (by omega)),ci.trans ff,by dsimp only;omega⟩ (by dsimp only;omega)).qb
    case AR=>
     refine Lp O (λh2=>?_)$ λh2=>?_
     ·refine Li O$ Lu O O$ Np O O$ Lk O ?_;rw[show(q:Int)-((b-a:Nat):Int)=((q-(b-a):Nat):Int) by omega];exact(AQ _ _ ⟨q-(b-a),rfl,rfl,by omega⟩).qb
     ·refine py ?_;exact(AQ _ _ ⟨q,rfl,rfl,by omega⟩).qb
   ·refine Ln O$ ME Tryz.func243 O ?_;exact⟨_,rfl,rfl,d4,jG,dX,av⟩
 ·omega
end Go.Proofs.YtfgjaafcgghnoaaGreatDoor
