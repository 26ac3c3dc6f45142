/- Texts Lst, Num, LiA, LiB, LiC, LiD, LiE, LiF, LiG, LiH, LiI, LiJ, LiK, BvA, SoA, SoB, SoC, one behind the other (what the statement BfsShortest does not use is left out). -/
import Derived.Test.YtpldpcjdjcgicaaGreatDoorBSp2
import Derived.Sort.AssemblyPlain
set_option maxHeartbeats 16000000
namespace Go.Proofs.YtpldpcjdjcgicaaGreatDoor
open Go Go.RowKit
set_option linter.all false
/-! ### Runs -/
def expand:Bool->List Nat->List Bool
 |_,[]=>[]
 |b,n::r=>List.replicate n b++expand (!b) r
theorem Su:∀(b:Bool) (r s:List Nat),expand b (r++s)=expand b r++expand (if r.length%2=0 then b else !b) s
 |b,[],s=>by simp[expand]
 | b, n :: r, s => by
   rw[List.cons_append,expand,expand,Su (!b) r s,List.append_assoc]
   congr 2
   rcases Nat.mod_two_eq_zero_or_one r.length with e| e
   ·rw[if_pos e,if_neg (by rw[List.length_cons];omega)]
   ·rw[if_neg (by omega),if_pos (by rw[List.length_cons];omega)];simp
theorem NS:∀(b:Bool) (r:List Nat),(expand b r).length=r.sum
 |_,[]=>rfl
 |b,n::r=>by rw[expand,List.length_append,List.length_replicate,NS (!b) r,List.sum_cons]
def Ms (rs:List Nat)(f:Bool):List Nat:=
 let rs':=if f !=(rs.length%2==1) then rs++[0] else rs
 rs'.modify (rs'.length-1) (·+1)
theorem Ru (l:List Nat)(n:Nat):(l++[n]).modify ((l++[n]).length-1) (·+1)=l++[n+1]:=by
 have key:∀l:List Nat,(l++[n]).modify l.length (·+1)=l++[n+1]:=fun l=>by
  induction l with
  |nil=>rfl
  |cons a l ih=>simpa using ih
 have:(l++[n]).length-1=l.length:=by simp
 rw[this,key]
structure Ov (rs:List Nat)(fs:List Bool):Prop where
 ne:rs≠[]
 exp:expand true rs=fs
 pos:∀n∈rs.drop 1,1<=n
theorem Ov.zero:Ov [0] []:=⟨by simp,rfl,by simp⟩
theorem Ov.step {rs:List Nat}{fs:List Bool}(h:Ov rs fs)(f:Bool):Ov (Ms rs f) (fs++[f]):=by
 obtain⟨h1,h2,h3⟩:=h
 obtain⟨l,n,rfl⟩:∃l n,rs=l++[n]:=⟨rs.dropLast,rs.getLast h1,(List.dropLast_concat_getLast h1).symm⟩
 unfold Ms
 dsimp only
 have hlen:(l++[n]).length=l.length+1:=by simp
 rw[hlen]
 split
 ·rename_i hf
  rw[Ru];refine⟨by simp,?_,fun k hk=>?_⟩
  ·rw[Su,h2,hlen]
   congr 1
   rcases Nat.mod_two_eq_zero_or_one l.length with e|e<;>cases f<;>simp[expand,e,Nat.add_mod] at hf⊢
  ·rw[List.drop_append_of_le_length (by rw[hlen];omega)] at hk;rcases List.mem_append.1 hk with hk|hk
   ·exact h3 k hk
   ·simp at hk;omega
 ·rename_i hf
  rw[Ru];refine⟨by simp,?_,fun k hk=>?_⟩
  ·rw[Su] at h2⊢;rw[<-h2,List.append_assoc]
   congr 1
   simp only[expand,List.append_nil,List.replicate_succ']
   congr 1
   rcases Nat.mod_two_eq_zero_or_one l.length with e|e<;>cases f<;>simp[e,Nat.add_mod] at hf⊢
  ·cases l with
   |nil=>simp at hk
   | cons a l =>
     rw[List.cons_append,List.drop_succ_cons,List.drop_zero] at hk h3;rcases List.mem_append.1 hk with hk|hk
     ·exact h3 k (List.mem_append_left _ hk)
     ·simp at hk;omega
def copyL:Bool->List Nat->List Nat->List Nat
 |b,[],ref=>if b then ref else []
 |b,n::r,ref=>(if b then ref.take n else [])++copyL (!b) r (ref.drop n)
def sel:List Nat->List Bool->List Nat
 |x::l,f::fs=>if f then x::sel l fs else sel l fs
 |_,_=>[]
theorem z1U:∀{a b:List Nat} {fs gs:List Bool},a.length=fs.length->sel (a++b) (fs++gs)=sel a fs++sel b gs
 |[],b,[],gs,_=>rfl
 | x :: a, b, f :: fs, gs, h => by
   have h':a.length=fs.length:=by simpa using h
   rw[List.cons_append,List.cons_append,sel,sel,z1U h'];cases f<;>simp
theorem Xz:∀(l:List Nat) (b:Bool),sel l (List.replicate l.length b)=if b then l else []
 |[],b=>by cases b<;>rfl
 | x :: l, b => by
   rw[List.length_cons,List.replicate_succ,sel,Xz l b];cases b<;>rfl
theorem ZT:∀(b:Bool) (rs:List Nat) (m:Nat) (ref:List Nat),ref.length=(rs++[m]).sum->copyL b rs ref=sel ref (expand b (rs++[m]))
 | b, [], m, ref, h => by
   have hm:m=ref.length:=by simpa using h.symm
   subst hm;simp only[copyL,List.nil_append,expand,List.append_nil]
   rw[Xz]
 | b, n :: rs, m, ref, h => by
   rw[List.cons_append,List.sum_cons] at h;have hl:(ref.take n).length=n:=by rw[List.length_take];omega
   rw[copyL,List.cons_append,expand,ZT (!b) rs m (ref.drop n) (by rw[List.length_drop];omega)]
   conv=>rhs;rw[<-List.take_append_drop n ref,z1U (by rw[hl,List.length_replicate])]
   congr 1
   have:=Xz (ref.take n) b;rw[hl] at this;exact this.symm
/-! ### Rows of numbers that follow one another -/
def runLen:Nat->List Nat->Nat
 |_,[]=>0
 |x,y::l=>if y=x+1 then runLen y l+1 else 0
theorem RX:∀(x:Nat) (l:List Nat),runLen x l<=l.length
 |_,[]=>Nat.le_refl _
 | x, y :: l => by
   unfold runLen;split
   ·have:=RX y l;simp;omega
   ·exact Nat.zero_le _
theorem QI:∀(x:Nat) (l:List Nat) (i:Nat),i<runLen x l->l[i]? =some (x+1+i)
 |_,[],i,h=>by simp[runLen] at h
 | x, y :: l, i, h => by
   unfold runLen at h;split at h
   ·rename_i e
    subst e
    cases i with
    |zero=>rfl
    |succ i=>rw[List.getElem?_cons_succ,QI (x+1) l i (by omega)];congr 1;omega
   ·omega
theorem Rn:∀(x:Nat) (l:List Nat) (y:Nat),l[runLen x l]? =some y->y≠x+1+runLen x l
 |_,[],y,h=>by simp at h
 | x, z :: l, y, h => by
   unfold runLen at h⊢;split
   ·rename_i e
    rw[if_pos e,List.getElem?_cons_succ] at h;have:=Rn z l y h;omega
   ·rename_i e
    rw[if_neg e,List.getElem?_cons_zero] at h;cases h;omega
def rowsN (least:Nat):List Nat->List (Nat×Nat)×List Nat
 |[]=>([],[])
 | x :: l =>
   let n:=runLen x l+1
   let q:=rowsN least (l.drop (runLen x l))
   if 0<least/\least<=n then((x,n)::q.1,q.2) else(q.1,x::l.take (runLen x l)++q.2)
termination_by l=>l.length
decreasing_by simp[List.length_drop];omega
def Mp (l:List (Nat×Nat)):List Nat:=l.flatMap fun p=>(List.range p.2).map (p.1+·)
abbrev Ris (l:List Nat):Prop:=l.Pairwise (·<·)
theorem z5H (x:Nat)(l:List Nat):x::l.take (runLen x l)=(List.range (runLen x l+1)).map (x+·):=by
 apply List.ext_getElem?
 intro i
 have hle:=RX x l
 cases i with
 |zero=>simp
 | succ i =>
   rw[List.getElem?_cons_succ,List.getElem?_take,List.getElem?_map];split
   ·rename_i h
    rw[QI x l i h,List.getElem?_range (by omega)];simp;omega
   ·rw[List.getElem?_eq_none (by simp;omega)];rfl
theorem Ox (least:Nat):∀(l:List Nat),(Mp (rowsN least l).1++(rowsN least l).2).Perm l
 |[]=>by simp[rowsN,Mp]
 | x :: l => by
   have ih:=Ox least (l.drop (runLen x l));have hx:=z5H x l;have hc:x::l=(x::l.take (runLen x l))++l.drop (runLen x l):=by rw[List.cons_append,List.take_append_drop]
   rw[rowsN];split
   ·rw[show Mp ((x,runLen x l+1)::(rowsN least (l.drop (runLen x l))).1)=(List.range (runLen x l+1)).map (x+·)++Mp (rowsN least (l.drop (runLen x l))).1 by simp[Mp]];rw[<-hx,List.append_assoc]
    conv=>rhs;rw[hc]
    exact ih.append_left _
   ·conv=>rhs;rw[hc]
    refine List.Perm.trans ?_ (ih.append_left _);rw[<-List.append_assoc,<-List.append_assoc];exact(List.perm_append_comm).append_right _
 termination_by l=>l.length
 decreasing_by simp[List.length_drop];omega
def Yh (z:Int):Nat:=if 0<=z then(2*z).toNat else(-2*z-1).toNat
def zag (n:Nat):Int:=if n%2=0 then((n / 2:Nat):Int) else -((n / 2:Nat):Int)-1
theorem z1S (z:Int):zag (Yh z)=z:=by
 unfold Yh zag
 split
 ·rw[if_pos (by omega)];omega
 ·rw[if_neg (by omega)];omega
theorem U1 {z:Int}{n:Nat}(h1: -(n:Int)<=z)(h2:z<(n:Int)):Yh z<2*n:=by
 unfold Yh
 split<;>omega
structure Nc where
 Lf:Nat
 interval:Nat
 zeta:Nat
def Mx (succ ref:List Nat):List Nat:=ref.foldl (fun rs y=>Ms rs (decide (y∈succ))) [0]
theorem O4 (succ ref:List Nat):Ov (Mx succ ref) (ref.map fun y=>decide (y∈succ)):=by
 unfold Mx
 have key:∀(l:List Nat) (rs:List Nat) (fs:List Bool),Ov rs fs->Ov (l.foldl (fun rs y=>Ms rs (decide (y∈succ))) rs) (fs++l.map fun y=>decide (y∈succ)):=by
  intro l
  induction l with
  |nil=>intro rs fs h;simpa using h
  | cons y l ih =>
    intro rs fs h;have:=ih _ _ (h.step (decide (y∈succ)))
    simpa using this
 simpa using key ref [0] [] Ov.zero
def leftOf (succ ref:List Nat):List Nat:=succ.filter fun v=>decide (v∉ref)
theorem z1W (P:Nat->Bool):∀l:List Nat,sel l (l.map P)=l.filter P
 |[]=>rfl
 | x :: l => by
   rw[List.map_cons,sel,z1W P l];cases h:P x<;>simp[h]
theorem z44 (succ ref:List Nat):copyL true (Mx succ ref).dropLast ref=ref.filter fun y=>decide (y∈succ):=by
 have h:=O4 succ ref
 obtain⟨l,n,e⟩:∃l n,Mx succ ref=l++[n]:=⟨_,_,(List.dropLast_concat_getLast h.ne).symm⟩
 rw[e,List.dropLast_concat]
 have he:=h.exp
 rw[e] at he
 have hl:ref.length=(l++[n]).sum:=by
  have:=congrArg List.length he;rw[NS,List.length_map] at this;exact this.symm
 rw[ZT true l n ref hl,he,z1W]
def runNums:Nat->List Nat->List (Cd×Nat)
 |_,[]=>[]
 |i,n::r=>(.gamma,n-min i 1)::runNums (i+1) r
def longNums (x least:Nat):Option Nat->List (Nat×Nat)->List (Cd×Nat)
 |_,[]=>[]
 |none,p::r=>(.gamma,Yh ((p.1:Int)-x))::(.gamma,p.2-least)::longNums x least (some (p.1+p.2-1)) r
 |some e,p::r=>(.gamma,p.1-e-2)::(.gamma,p.2-least)::longNums x least (some (p.1+p.2-1)) r
def restNums (x k:Nat):Option Nat->List Nat->List (Cd×Nat)
 |_,[]=>[]
 |none,v::r=>(.zeta k,Yh ((v:Int)-x))::restNums x k (some v) r
 |some u,v::r=>(.zeta k,v-u-1)::restNums x k (some v) r
def MK (p:Nc)(x:Nat)(succ ref:List Nat)(r:Nat):List (Cd×Nat):=
 (.gamma,succ.length)::if succ=[] then [] else
  (if 0<p.Lf then [(.unary,r)] else [])++
  ((if 0<r then(.gamma,(Mx succ ref).length-1)::runNums 0 (Mx succ ref).dropLast else [])++
  (if leftOf succ ref=[] then [] else
   (if 0<p.interval then(.gamma,(rowsN p.interval (leftOf succ ref)).1.length)::longNums x p.interval none (rowsN p.interval (leftOf succ ref)).1 else [])++
   restNums x p.zeta none (rowsN p.interval (leftOf succ ref)).2))
def Ld (l:List (Cd×Nat)):List Bool:=l.flatMap fun p=>p.1.enc p.2
theorem z0q {succ ref:List Nat}(hs:Ris succ)(hr:Ris ref)(p:Nat):(ref.filter (fun y=>decide (y∈succ))++(Mp (rowsN p (leftOf succ ref)).1++(rowsN p (leftOf succ ref)).2)).Perm succ:=by
 have h1:(ref.filter fun y=>decide (y∈succ)).Perm (succ.filter fun v=>decide (v∈ref)):=by
  refine(List.perm_ext_iff_of_nodup (hr.imp (fun h=>by omega) |>.filter _) (hs.imp (fun h=>by omega) |>.filter _)).2 fun a=>?_;simp only[List.mem_filter,decide_eq_true_eq];exact And.comm
 refine(h1.append (Ox p _)).trans ?_
 unfold leftOf
 have:=List.filter_append_perm (fun v=>decide (v∈ref)) succ
 refine List.Perm.trans ?_ this
 refine List.Perm.append_left _ ?_
 simp
theorem z1w {a b:List Nat}(h:a.Perm b)(ha:a.Pairwise (·<=·))(hb:Ris b):a=b:=
 h.eq_of_pairwise (le:=(·<=·)) (fun x y _ _ h1 h2=>by omega) ha (hb.imp (fun h=>by omega))
def NU (least:Nat):Nat->List (Nat×Nat)->Prop
 |_,[]=>True
 |lo,p::r=>lo<=p.1/\1<=p.2/\least<=p.2/\NU least (p.1+p.2+1) r
theorem NU.mono {least:Nat}:∀{r:List (Nat×Nat)} {a b:Nat},NU least b r->a<=b->NU least a r
 |[],_,_,_,_=>trivial
 |p::r,a,b,h,hab=>⟨Nat.le_trans hab h.1,h.2⟩
theorem z19 {x:Nat}{l:List Nat}(h:Ris (x::l)):∀y∈l.drop (runLen x l),x+runLen x l+2<=y:=by
 intro y hy
 obtain⟨j,hj,e⟩:=List.mem_iff_getElem.1 hy
 rw[List.getElem_drop] at e
 rw[List.length_drop] at hj
 obtain⟨h1,h2⟩:=List.pairwise_cons.1 h
 have hle:=RX x l
 have h0:runLen x l<l.length:=by omega
 obtain⟨z,hz⟩:∃z,l[runLen x l]? =some z:=⟨_,List.getElem?_eq_getElem h0⟩
 have hs:=Rn x l z hz
 have hz':=(List.getElem?_eq_some_iff.1 hz).2
 have hzx:x+runLen x l<z:=by
  by_cases e0:runLen x l=0
  ·have:=h1 z (List.mem_of_getElem? hz);omega
  ·have hg:=QI x l (runLen x l-1) (by omega);obtain⟨g1,g2⟩:=List.getElem?_eq_some_iff.1 hg;have:=List.pairwise_iff_getElem.1 h2 (runLen x l-1) (runLen x l) g1 h0 (by omega);rw[g2,hz'] at this;omega
 have hzy:z<=y:=by
  by_cases e0:j=0
  ·subst e0;simp at e;rw[<-e,<-hz'];exact Nat.le_refl _
  ·have:=List.pairwise_iff_getElem.1 h2 (runLen x l) (runLen x l+j) h0 (by omega) (by omega);rw[e,hz'] at this;omega
 omega
theorem Q8 (least:Nat):∀(l:List Nat) (lo:Nat),Ris l->(∀y∈l,lo<=y)->NU least lo (rowsN least l).1
 |[],lo,_,_=>by rw[rowsN];trivial
 | x :: l, lo, h, hl => by
   have hb:=z19 h;have h2:Ris (l.drop (runLen x l)):=(List.pairwise_cons.1 h).2.sublist (List.drop_sublist _ _);rw[rowsN];split
   ·rename_i hc
    refine⟨hl x (by simp),by omega,hc.2,Q8 least _ _ h2 fun y hy=>?_⟩;have:=hb y hy;omega
   ·refine Q8 least _ _ h2 fun y hy=>?_;have:=hb y hy;have:=hl x (by simp);omega
 termination_by l=>l.length
 decreasing_by all_goals (simp[List.length_drop];omega)
theorem PI (least:Nat):∀(l:List Nat),(rowsN least l).2.Sublist l
 |[]=>by rw[rowsN];exact List.Sublist.refl _
 | x :: l => by
   have ih:=PI least (l.drop (runLen x l));rw[rowsN];split
   ·exact(ih.trans (List.drop_sublist _ _)).cons x
   ·have hc:x::l=(x::l.take (runLen x l))++l.drop (runLen x l):=by rw[List.cons_append,List.take_append_drop]
    conv=>rhs;rw[hc]
    exact ih.append_left _
 termination_by l=>l.length
 decreasing_by simp[List.length_drop];omega
set_option maxRecDepth 100000
abbrev Lp (n:Nat):Value:= .int .u32 (n:Int)
theorem Zu (m:Nat)(h:m<18446744073709551616):m^^^18446744073709551615=18446744073709551615-m:=by
 have h1:=congrArg BitVec.toNat (BitVec.xor_allOnes (x:=BitVec.ofNat 64 m))
 rw[BitVec.toNat_xor,BitVec.toNat_not,BitVec.toNat_allOnes,BitVec.toNat_ofNat] at h1
 rw[show(2:Nat)^64=18446744073709551616 from rfl,Nat.mod_eq_of_lt h] at h1
 exact h1
section
variable {P:Program}{e:Env}{d:Option Nat}{ty t t':TypeId}{pos:String}{aft:Array Edge}{g:Option (Nat×Bool)}{x y:Operand}{w:World}{m:Nat}
theorem zaZ (hx:look e x=some (I (m:Int)))(hy:look e y=some (I 0))(hm:m<2^63):Y P e ⟨d,.binOp .xor t x y t',ty,pos,aft,g⟩ (I (m:Int)) w w:=fun ρ hρ=>by
 have h1:m<2^IntKind.i64.bits:=by simp only[IntKind.bits];omega
 have h2:(BitVec.ofInt IntKind.i64.bits 0).toNat=0:=by decide
 simp only[execOp,eqGuard_xor,binOp_xor,intBits_xor,hρ _ _ hx,hρ _ _ hy,pure_bind,Sem.run_pure,bits,BitVec.toNat_xor,Me h1,h2,Nat.xor_zero]
 rw[wrap_i64 ⟨by omega,by omega⟩]
theorem zcg (hx:look e x=some (I (m:Int)))(hy:look e y=some (I (-1)))(hm:m<2^63):Y P e ⟨d,.binOp .xor t x y t',ty,pos,aft,g⟩ (I (-(m:Int)-1)) w w:=fun ρ hρ=>by
 have h1:m<2^IntKind.i64.bits:=by simp only[IntKind.bits];omega
 have h2:(BitVec.ofInt IntKind.i64.bits (-1)).toNat=18446744073709551615:=by decide
 simp only[execOp,eqGuard_xor,binOp_xor,intBits_xor,hρ _ _ hx,hρ _ _ hy,pure_bind,Sem.run_pure,bits,BitVec.toNat_xor,Me h1,h2]
 rw[Zu m (by omega)]
 congr 2
 have h3:((18446744073709551615-m:Nat):Int)=-(m:Int)-1+18446744073709551616:=by omega
 rw[h3]
 simp only[IntKind.wrap,IntKind.bits,IntKind.signed]
 simp
 omega
end
/-! ### Numbers with a sign -/
theorem z2j (z:Int)(h: -4611686018427387904<=z/\z<4611686018427387904)(w:World):Lk Tryz.prog 199 [I z] w fun u w'=>u=L5 (Yh z)/\w'=w:=by
 rcases Int.lt_or_le z 0 with h0|h0
 ·obtain⟨n,rfl⟩:∃n:Nat,z=-(n:Int)-1:=⟨(-z-1).toNat,by omega⟩;refine KJ (e:=[(0,_)]) Tryz.func199 rfl Tryz.ntmps199 rfl rfl (qN rfl (KO rfl (qM rfl (An rfl (qV (ycv (b:=((18446744073709551615-n:Nat):Int)) rfl U2 Mq (by simp only[IntKind.wrap,IntKind.bits,IntKind.signed];simp;omega)) ?_)))));refine qV (MD 1 2 rfl rfl (by decide) rfl) (An rfl (qV (ysr 63 rfl rfl (by decide)) ?_));rw[show(-(n:Int)-1) / 2^63=-1 by omega];refine qV (ycv (b:=((18446744073709551615:Nat):Int)) rfl U2 Mq (by decide)) (qV (VN rfl rfl (by omega) (by omega)) (KO rfl (py (KP Tryz.func199 rfl (⟨_,rfl,?_,rfl⟩)))));rw[Zu _ (by omega)];simp only[resVal]
  congr 2
  unfold Yh;rw[if_neg (by omega)];omega
 ·obtain⟨n,rfl⟩:∃n:Nat,z=(n:Int):=⟨z.toNat,by omega⟩;refine KJ (e:=[(0,_)]) Tryz.func199 rfl Tryz.ntmps199 rfl rfl (qN rfl (KO rfl (qM rfl (An rfl (qV ((by first|exact LF rfl U2 Mq (by omega)|exact N0 rfl U2 Mq)) ?_)))));refine qV (MD 1 2 rfl rfl (by decide) rfl) (An rfl (qV (Ps 63 9223372036854775808 rfl rfl (by decide) rfl) (qV ((by first|exact LF rfl U2 Mq (by omega)|exact N0 rfl U2 Mq)) ?_)));refine qV (VN rfl rfl (by omega) (by omega)) (KO rfl (py (KP Tryz.func199 rfl (⟨_,rfl,?_,rfl⟩))));rw[show n / 9223372036854775808=0 by omega,Nat.xor_zero];simp only[resVal]
  congr 2
  unfold Yh;rw[if_pos (by omega)];omega
theorem z1G (n:Nat)(h:n<9223372036854775808)(w:World):Lk Tryz.prog 212 [L5 n] w fun u w'=>u=I (zag n)/\w'=w:=by
 refine KJ (e:=[(0,_)]) Tryz.func212 rfl Tryz.ntmps212 rfl rfl (qN rfl (KO rfl (qM rfl (An rfl (qV (Ps 1 2 rfl rfl (by decide) rfl) (qV (Lw rfl Mq U2 (by omega)) (An rfl (qV (PF rfl rfl (by omega) (by omega)) ?_))))))))
 rw[Nat.and_one_is_mod]
 refine qV (Lw rfl Mq U2 (by omega)) ?_
 rcases Nat.mod_two_eq_zero_or_one n with h0|h0
 ·rw[h0];refine qV (yng rfl (by decide) (by decide)) (qV (zaZ rfl rfl (by omega)) (KO rfl (py (KP Tryz.func212 rfl (⟨_,rfl,?_,rfl⟩)))));simp only[resVal];unfold zag;rw[if_pos h0]
 ·rw[h0];refine qV (yng rfl (by decide) (by decide)) (qV (zcg rfl rfl (by omega)) (KO rfl (py (KP Tryz.func212 rfl (⟨_,rfl,?_,rfl⟩)))));simp only[resVal];unfold zag;rw[if_neg (by omega)]
/-! ### The parameters -/
def UG (p:Nc):List Value:=[I (p.Lf:Int),I (p.interval:Int),I (p.zeta:Int)]
abbrev lpV (p:Nc):Value:= .agg (UG p).toArray
def Nc.M3 (p:Nc):Prop:=p.Lf<=16/\(p.interval=0\/2<=p.interval/\p.interval<=64)/\1<=p.zeta/\p.zeta<=16
theorem OU (p:Nc)(hp:p.M3)(w:World):Lk Tryz.prog 168 [lpV p] w fun u w'=>u=I 0/\Ext w w':=by
 obtain⟨h1,h2,h3,h4⟩:=hp
 refine KJ (e:=[(0,_)]) Tryz.func168 rfl Tryz.ntmps168 rfl rfl (qN rfl (KU rfl rfl (MH rfl (cs:=UG p) rfl) ?_))
 rintro _ w1 ⟨b1,rfl,bS,ad,ai⟩
 replace ai:KY w1 b1 [I (p.Lf:Int),I (p.interval:Int),I (p.zeta:Int)] 245:=ai
 refine KO rfl (py (run_seq (KL (run_seq (qN rfl (qV (KT Od rfl) (qV (KS U3 rfl rfl ai rfl) (qV (LX rfl rfl) (Ly (An rfl (qV (KT Od rfl) (qV (KS U3 rfl rfl ai rfl) (qV (LU rfl rfl) ?_)))))))))))))
 refine Ly (qV (Ls rfl rfl) (KO rfl (py (KH rfl (qN rfl (qV (KT UJ rfl) (qV (KS U3 rfl rfl ai rfl) (qV (LX rfl rfl) (Ly (An rfl (qV (KT UJ rfl) (qV (KS U3 rfl rfl ai rfl) (qV (LU rfl rfl) ?_)))))))))))))
 refine Ly (qV (Ls rfl rfl) (KO rfl (py (KH rfl (KQ rfl (qV (KT P4 rfl) (qV (KS U3 rfl rfl ai rfl) (qV (M0 rfl rfl) (ND (fun e1=>?_) (fun e1=>?_))))))))))
 ·refine An rfl (qV (KT P4 rfl) (qV (KS U3 rfl rfl ai rfl) (qV (LX rfl rfl) (Ly (An rfl (qV (KT P4 rfl) (qV (KS U3 rfl rfl ai rfl) (qV (LU rfl rfl) (Ly (qV (Ls rfl rfl) (qV (LR rfl rfl) (KO rfl (py ?_)))))))))))));refine Ll.qb (e:=[(2,_),(3,_)]) ?_;refine KH rfl (It (KM (qN rfl (KO rfl (py (KP Tryz.func168 rfl ?_))))));exact⟨_,rfl,rfl,ad⟩
 ·refine An rfl (qS (qS (qS (qS (qS (qS (qS (qS (qV (Ls rfl rfl) (KO rfl (py (Ll.qb (e:=[(2,_),(3,_)]) ?_))))))))))));refine KH rfl (It (KM (qN rfl (KO rfl (py (KP Tryz.func168 rfl ?_))))));exact⟨_,rfl,rfl,ad⟩
theorem Qy (n:Nat)(h:n<65536)(w:World):Lk Tryz.prog 169 [I (n:Int)] w fun u w'=>u= .bool true/\w'=w:=by
 refine KJ (e:=[(0,_)]) Tryz.func169 rfl Tryz.ntmps169 rfl rfl (qN rfl (KO rfl (qM rfl (An rfl (qV (Ou rfl rfl) (MR (An rfl (An rfl (qV (LX rfl rfl) (MR (qV (LR rfl rfl) (KO rfl (py ?_)))))))))))))
 refine KP Tryz.func169 rfl ?_
 exact⟨_,rfl,rfl,rfl⟩
structure Lt (l:List Nat):Prop where
 Wb:Ris l
 lt:∀y∈l,y<65536
theorem XO:∀(l:List Nat) (lo hi:Nat),Ris l->(∀y∈l,lo<=y/\y<hi)->lo<=hi->lo+l.length<=hi
 |[],lo,hi,_,_,h=>h
 | x :: l, lo, hi, hr, hm, h => by
   have h1:=(List.pairwise_cons.1 hr);have h2:=hm x List.mem_cons_self;have:=XO l (x+1) hi h1.2 (fun y hy=>⟨h1.1 y hy,(hm y (List.mem_cons_of_mem _ hy)).2⟩) (by omega);rw[List.length_cons];omega
theorem Lt.len {l:List Nat}(h:Lt l):l.length<=65536:=by
 have:=XO l 0 65536 h.Wb (fun y hy=>⟨Nat.zero_le _,h.lt y hy⟩) (by decide)
 omega
theorem Lt.sub {l m:List Nat}(h:Lt l)(hs:m.Sublist l):Lt m:=⟨h.Wb.sublist hs,fun y hy=>h.lt y (hs.subset hy)⟩
theorem Rk (v:Value)(l:List Nat)(hl:Lt l)(w:World)(hr:Rd w v 1 l.length (l.map Lp)):
  Lk Tryz.prog 170 [v] w fun u w'=>u= .bool true/\w'=w:=by
 have aD:=hl.len
 obtain⟨a,cap,rfl,ha⟩:=hr.shape
 refine KJ (e:=[(0,_)]) Tryz.func170 rfl Tryz.ntmps170 rfl rfl (qN rfl (KO rfl (py (run_seq (qN rfl (An rfl (qV (LM Li rfl) (An rfl (py (KL (MV (α:=Nat) (0) (fun i=>[(0,.slice a l.length cap),(5,.slice a l.length cap),(6,I (l.length:Int)),(7,I (i:Int))]) (fun i w'=>w'=w/\i<=l.length) (fun i=>l.length-i) ?hI ?hround)))))))))))
 case hI=>exact⟨rfl,by omega⟩
 case hround=>
  rintro i _ ⟨rfl,hi⟩ ih
  try dsimp only
  refine qN rfl (qV (LX rfl rfl) (py (run_seq (KZ rfl (fun aO=>?_) (fun aO=>?_)))))
  ·have fu:i<l.length:=by omega
   have hy:=hl.lt l[i] (List.getElem_mem fu);rcases hr.2 with⟨c,-,h⟩|⟨b,off,cap',kH,bc⟩
   ·omega
   cases kH;refine It (run_seq (KL (qN rfl (An rfl (qV (LC Li L8 rfl rfl (by omega)) (qV (Lm Mk rfl rfl (bc (i*1) (Lp l[i]) (by simp[fu]))) ?_))))));refine KO rfl (KO rfl (qM rfl (An rfl (qV (Ou rfl rfl) (Ly (An rfl (An rfl (qV (LU rfl rfl) (ND (fun e1=>?_) (fun e1=>?_))))))))))
   ·have hp:l[i-1]<l[i]:=(List.pairwise_iff_getElem.1 hl.Wb) (i-1) i (by omega) fu (by omega);refine An rfl (An rfl (An rfl (An rfl (qV (Md rfl rfl (by omega)) ?_))));rw[show(i:Int)-1=((i-1:Nat):Int) by omega];refine qV (LC Li L8 rfl rfl (by omega)) (qV (Lm Mk rfl rfl (bc ((i-1)*1) (Lp l[i-1]) (by simp[show i-1<l.length by omega]))) ?_);refine qV (Qv rfl rfl) (Ly (qV (LR rfl rfl) (qV (Ls rfl rfl) (py (KH rfl (It (KM (KQ rfl (LH rfl rfl (An rfl (py ?_)))))))))));exact(ih (i+1) _ ⟨rfl,by omega⟩ (by omega)).qb
   ·refine An rfl (qS (qS (qS (qS (qS (qS (qS (qV (Ls rfl rfl) (qV (Ls rfl rfl) (py (KH rfl (It (KM ?_)))))))))))));refine KQ rfl (LH rfl rfl (An rfl (py ?_)));exact(ih (i+1) _ ⟨rfl,by omega⟩ (by omega)).qb
  ·refine KX rfl (qN rfl (KO rfl (py (KP Tryz.func170 rfl ?_))));exact⟨_,rfl,rfl,rfl⟩
theorem z4u (p:Nc)(hp:p.M3)(x:Nat)(hx:x<65536)(v u:Value)(l m:List Nat)(r:Nat)(hl:Lt l)(hm:Lt m)(hr:r<=p.Lf)(kI:r=0->m=[])(w:World)
  (gC:Rd w v 1 l.length (l.map Lp)) (yn:Rd w u 1 m.length (m.map Lp)):
  Lk Tryz.prog 174 [lpV p,I (x:Int),v,u,I (r:Int)] w fun o w'=>o= .bool true/\Ext w w':=by
 obtain⟨h1,h2,h3,h4⟩:=id hp
 refine KJ (e:=[(0,_),(1,_),(2,_),(3,_),(4,_)]) Tryz.func174 rfl Tryz.ntmps174 rfl rfl (qN rfl (KU rfl rfl (MH rfl (cs:=UG p) rfl) ?_))
 rintro _ w1 ⟨b1,rfl,bS,ad,ai⟩
 refine KO rfl (qM rfl (qV (Lj (news:=UG p) TQ rfl P3 rfl (ai.cells (n:=3) rfl) rfl) (La [.tmp 11] ZV rfl (OU p hp w1) ?_)))
 rintro _ w2 ⟨rfl,af⟩
 have ak:=af.KN ai
 replace ak:KY w2 b1 [I (p.Lf:Int),I (p.interval:Int),I (p.zeta:Int)] 245:=ak
 refine qV (Mr rfl rfl) (MR (An rfl (An rfl (La [.tmp 15] z1Z rfl (Qy x hx w2) ?_))))
 rintro _ w3 ⟨rfl,rfl⟩
 refine qV (LR rfl rfl) (An rfl (An rfl (La [.tmp 19] YA rfl (Rk v l hl w3 (gC.ext (ad.trans af))) ?_)))
 rintro _ w4 ⟨rfl,rfl⟩
 refine qV (LR rfl rfl) (An rfl (An rfl (La [.tmp 23] YA rfl (Rk u m hm w4 (yn.ext (ad.trans af))) ?_)))
 rintro _ w5 ⟨rfl,rfl⟩
 refine qV (LR rfl rfl) (An rfl ?_)
 obtain⟨ua,uc,rfl,-⟩:=yn.shape
 refine An rfl (qV (Ou rfl rfl) (MR (qV (LR rfl rfl) (An rfl (An rfl (qV (KT Od rfl) (qV (KS U3 rfl rfl ak rfl) (qV (Qv rfl rfl) (MR (qV (LR rfl rfl) (An rfl (An rfl (qV (LU rfl rfl) ?_)))))))))))))
 refine ND (fun e1=>?_) (fun e1=>?_)
 ·refine An rfl (qS (qS (qS (qV (LR rfl rfl) (qV (LR rfl rfl) (KO rfl (py (Ll.qb (e:=[(10,_)]) ?_))))))));refine KP Tryz.func174 rfl ?_;exact⟨_,rfl,rfl,ad.trans af⟩
 ·have e2:=kI (by omega);subst e2;refine An rfl (An rfl (qV (LM Li rfl) (qV (Mr rfl rfl) (MR (qV (Ls rfl rfl) (qV (LR rfl rfl) (KO rfl (py (Ll.qb (e:=[(10,_)]) ?_)))))))));refine KP Tryz.func174 rfl ?_;exact⟨_,rfl,rfl,ad.trans af⟩
theorem SW (l:List Nat):∀c∈l.map Lp,c.oneCell'=true:=by
 intro c hc
 obtain⟨x,-,rfl⟩:=List.mem_map.1 hc
 rfl
def Wz (p:Nat×Nat):List Value:=[I (p.1:Int),I (p.2:Int)]
theorem z2Q (l:List (Nat×Nat)):(l.flatMap Wz).length=l.length*2:=by
 induction l with
 |nil=>rfl
 |cons p l ih=>rw[List.flatMap_cons,List.length_append,ih,List.length_cons,show(Wz p).length=2 from rfl];omega
theorem Sl.oneV {w:World}{v:Value}{e size n:Nat}{cs:List Value}(h:Sl w v e size n cs):oneV v=true:=by
 rcases h.shape with⟨rfl,-⟩|⟨g,cap,rfl,-⟩<;>rfl
structure z7w (w:World)(l:List Nat)(least:Nat)(r:List Nat)(a:Option Addr)(cap:Nat)(v4 v5:Value)(R:List (Nat×Nat))(O:List Nat)(w':World):Prop where
 ext:Ext w w'
 cl:r.length<=cap
 rd:Rd w (.slice a r.length cap) 1 r.length (r.map Lp)
 s4:Sl w' v4 325 2 R.length (R.flatMap Wz)
 s5:Sl w' v5 46 1 O.length (O.map Lp)
 f4:∀g,v4.ownBlock=some g->w.heap.size<=g
 f5:∀g,v5.ownBlock=some g->w.heap.size<=g
 ne:∀g,v4.ownBlock=some g->v5.ownBlock≠some g
 ok:Lt r
 eq:rowsN least l=(R++(rowsN least r).1,O++(rowsN least r).2)
 len:R.length+O.length+r.length<=65536
theorem OO {w:World}{a:Option Addr}{n cap i:Nat}{cs:List Value}(h:Rd w (.slice a n cap) 1 n cs)(hi:i<=n)(hc:n<=cap):Rd w (.slice (if cap=i then a else a.map (·.add (i*1))) (n-i) (cap-i)) 1 (n-i) (cs.drop i):=by
 have hl:=h.1
 refine⟨by rw[List.length_drop,hl];omega,?_⟩
 rcases h.2 with⟨c,hv,h0⟩|⟨b,off,cap',hv,bc⟩
 ·refine .inl ⟨((if cap=i then a else a.map (·.add (i*1))),cap-i),?_,by omega⟩;rw[show n-i=0 by omega]
 ·cases hv;by_cases e:cap=i
  ·rw[if_pos e];refine .inl ⟨(some ⟨b,off,none⟩,cap-i),?_,by omega⟩;rw[show n-i=0 by omega]
  ·rw[if_neg e];refine .inr ⟨b,off+i*1,cap-i,?_,fun j u hu=>?_⟩
   ·simp only[Option.map_some,ME]
   ·rw[List.getElem?_drop] at hu;have:=bc (i+j) u hu;rw[show off+i*1+j=off+(i+j) by omega];exact this
theorem Q0 {w:World}{a:Option Addr}{n cap i:Nat}{cs:List Value}(h:Rd w (.slice a n cap) 1 n cs)(hi:i<=n):Rd w (.slice a i cap) 1 i (cs.take i):=by
 have hl:=h.1
 refine⟨by rw[List.length_take,hl];omega,?_⟩
 rcases h.2 with⟨c,hv,h0⟩|⟨b,off,cap',hv,bc⟩
 ·refine .inl ⟨(a,cap),?_,by omega⟩;rw[show i=0 by omega]
 ·cases hv;refine .inr ⟨b,off,cap,rfl,fun j u hu=>?_⟩;rw[List.getElem?_take] at hu;split at hu
  ·exact bc j u hu
  ·cases hu
theorem z7w.grow {w w1 w2:World}{l r:List Nat}{least cap:Nat}{a:Option Addr}{v4 v5:Value}{R:List (Nat×Nat)}{O:List Nat}(h:z7w w l least r a cap v4 v5 R O w1)(hx:Ext w1 w2):z7w w l least r a cap v4 v5 R O w2:=
 ⟨h.ext.trans hx,h.cl,h.rd,h.s4.ext hx,h.s5.ext hx,h.f4,h.f5,h.ne,h.ok,h.eq,h.len⟩
theorem z50 (a : Option Addr)(cap : Nat)(l : List Nat)(least : Nat)(tC : Lt l)(jj : l.length <= cap)(jn : least <= 64)(w : World)(hr : Rd w (.slice a l.length cap) 1 l.length (l.map Lp)) :
  Lk Tryz.prog 198 [.slice a l.length cap,I (least:Int)] w fun u w'=>∃v4 v5,u= .tuple #[v4,v5]/\Sl w' v4 325 2 (rowsN least l).1.length ((rowsN least l).1.flatMap Wz)/\
   Sl w' v5 46 1 (rowsN least l).2.length ((rowsN least l).2.map Lp)/\Ext w w'/\(∀g,v4.ownBlock=some g->w.heap.size<=g)/\(∀g,v5.ownBlock=some g->w.heap.size<=g)/\∀g,v4.ownBlock=some g->v5.ownBlock≠some g:=by
 refine KJ (e:=[(0,_),(1,_)]) Tryz.func198 rfl Tryz.ntmps198 rfl rfl (qN rfl (KO rfl (KO rfl (py (run_seq (KL (MV (α:=List Nat×Option Addr×Nat×Value×Value×List (Nat×Nat)×List Nat) ((l,a,cap,.slice none 0 0,.slice none 0 0,[],[])) (fun x=>[(0,.slice x.2.1 x.1.length x.2.2.1),(1,I (least:Int)),(4,x.2.2.2.1),(5,x.2.2.2.2.1)]) (fun x w'=>z7w w l least x.1 x.2.1 x.2.2.1 x.2.2.2.1 x.2.2.2.2.1 x.2.2.2.2.2.1 x.2.2.2.2.2.2 w') (fun x=>x.1.length) ?hI ?hround)))))))
 case hI=>exact⟨Ext.refl _,jj,hr,Sl.nil _ _ _,Sl.nil _ _ _,(fun g h=>by cases h),(fun g h=>by cases h),(fun g h=>by cases h),tC,rfl,by have:=tC.len;simp;omega⟩
 case hround =>
  rintro⟨r,a1,c1,v4,v5,R,O⟩ w6 hI ih;dsimp only at hI
  try dsimp only
  refine run_seq (qN rfl (An rfl (qV (LM Li rfl) (qV (LU rfl rfl) (py (KZ rfl (fun h0=>?_) (fun h0=>?_)))))))
  ·obtain⟨y,r',rfl⟩:∃y r',r=y::r':=by
    cases r with
    |nil=>exact absurd h0 (by simp)
    |cons y r'=>exact⟨y,r',rfl⟩
   have gC:=RX y r';have Ge:=hI.ok.lt y List.mem_cons_self;have iy:=hI.ok.len;rw[List.length_cons] at iy
   obtain⟨b,off,kH,bc⟩:∃b off,a1=some ⟨b,off,none⟩/\∀j u,((y::r').map Lp)[j]? =some u->w6.cell? ⟨b,off+j,none⟩=some u:=by
    rcases (hI.rd.ext hI.ext).2 with⟨c,-,h⟩|⟨b,off,cap',kH,bc⟩
    ·exact absurd h (by simp)
    ·cases kH;exact⟨b,off,rfl,bc⟩
   subst kH
   have jo:∀w',Ext w w'->∀j u,((y::r').map Lp)[j]? =some u->w'.cell? ⟨b,off+j,none⟩=some u:=fun w' hx=>by
    rcases (hI.rd.ext hx).2 with⟨c,-,h⟩|⟨b',off',cap',kH,hc⟩
    ·exact absurd h (by simp)
    ·cases kH;exact hc
   clear bc;refine It (KL (qN rfl (KO rfl (py (run_seq (KL (Nl (fun e' w'=>Ext w6 w'/\e'=[(0,.slice (some ⟨b,off,none⟩) (y::r').length c1),(1,I (least:Int)),(4,v4),(5,v5),(6,I ((runLen y r'+1:Nat):Int))]) ?qW (fun qW=>?zZ))))))))
   case qW=>
    rintro e' w6z ⟨aG,rfl⟩;replace hI:=hI.grow aG;have bc:=jo _ hI.ext
    generalize hn:runLen y r'+1=n
    have tD:=hI.cl;rw[List.length_cons] at tD;have dx:=hI.eq;have aD:=hI.len;rw[List.length_cons] at aD;have cG:1<=n/\n<=r'.length+1:=by omega
    have Ei:r'.drop (runLen y r')=(y::r').drop n:=by rw[<-hn];rfl
    have m5:y::r'.take (runLen y r')=(y::r').take n:=by rw[<-hn];rfl
    rw[rowsN] at dx;simp only[hn,Ei,m5] at dx;have av:Lt ((y::r').drop n):=hI.ok.sub (List.drop_sublist _ _);have ee:=OO hI.rd (i:=n) (by rw[List.length_cons];omega) hI.cl;rw[<-List.map_drop,show(y::r').length-n=((y::r').drop n).length by rw[List.length_drop]] at ee;have jX:((y::r').drop n).length=r'.length+1-n:=by rw[List.length_drop,List.length_cons]
    by_cases hL:0<least/\least<=n
    ·obtain⟨yp,Ej⟩:=hL;rw[if_pos ⟨yp,Ej⟩] at dx;refine run_seq (qN rfl (An rfl (qV (LU rfl rfl) (MR (An rfl (An rfl (An rfl (qV (Ou rfl rfl) (MR (qV (LR rfl rfl) (py (L3 rfl (KQ rfl ?_)))))))))))));refine An rfl (An rfl (qV (LC Li L8 rfl rfl (by omega)) (qV (Lm Mk rfl rfl (bc (0*1) (Lp y) rfl)) (qV (Lw rfl Mk U3 (by omega)) (An rfl (qV (NA (parts:=[(0,.tmp 40),(1,.tmp 41)]) (cs:=[_,_]) VG rfl zbN rfl rfl) (KU rfl rfl (Tx (parts:=[(0,.tmp 42)]) (cs:=[_,_]) (zs:=[Value.int .i64 0,Value.int .i64 0]) z5j VG rfl (by kernel_rfl) rfl rfl rfl (by decide)) ?_)))))));rintro _ w7 ⟨b7,rfl,⟨kF,bL,bE⟩,gK⟩;refine KU rfl rfl (pap z5j VG rfl (by decide) rfl rfl (hI.s4.ext bL) gK.rd (by intro c hc;simp at hc;rcases hc with rfl|rfl<;>rfl) (by omega) (by simp only[maxLen];omega)) ?_;rintro v4' w8 ⟨ez,bh,kd,-⟩;have lM:=ez.oneV;have hz:=hI.ext.size;have yr:=bL.size;have cI:Ext w w8:=(hI.ext.trans bL).KK bh (fun i hi=>hI.f4 i hi);have nR:Sl w8 v5 46 1 O.length (O.map Lp):=(hI.s5.ext bL).kp bh (fun g hg e=>hI.ne g e hg);refine KO rfl (py (KQ rfl (An rfl (An rfl (qV (Ta Li L8 rfl rfl (by rw[List.length_cons];omega) hI.cl) ?_)))));refine KO rfl (py (KM ?_));rw[show(y::r').length-n=((y::r').drop n).length by rw[List.length_drop]];refine(ih ((y::r').drop n,_,c1-n,v4',v5,R++[(y,n)],O) _ ⟨cI,by dsimp only;rw[jX];omega,ee,?_,nR,?_,hI.f5,?_,av,?_,?_⟩ ?_).qb
     ·dsimp only;rw[List.length_append,List.flatMap_append];exact ez
     ·intro g hg;rcases kd g hg with h| h
      ·exact hI.f4 g h
      ·omega
     ·intro g hg e;rcases kd g hg with h| h
      ·exact hI.ne g h e
      ·have:=hI.s5.lt e;omega
     ·dsimp only;rw[dx,List.append_assoc];rfl
     ·dsimp only;rw[List.length_append,List.length_singleton,jX];omega
     ·dsimp only;rw[jX,List.length_cons];omega
    ·rw[if_neg hL] at dx;rcases Nat.eq_zero_or_pos least with e0|e0
     ·refine run_seq (qN rfl (An rfl (qV (LU rfl rfl) (Ly (An rfl (qS (qS (qS (qV (Ls rfl rfl) (py (KH rfl (KQ rfl (An rfl ?_)))))))))))));refine An rfl (An rfl (qV (z5u Li L8 rfl rfl (by omega)) (KU rfl rfl (pap Li L8 rfl (by decide) rfl rfl hI.s5 (Q0 (hI.rd.ext hI.ext) (i:=n) (by rw[List.length_cons];omega)) (by rw[<-List.map_take];exact SW _) (by omega) (by simp only[maxLen];omega)) ?_)));rintro v5' w8 ⟨ez,bh,kd,-⟩;have lM:=ez.oneV;have hz:=hI.ext.size;have cI:Ext w w8:=hI.ext.KK bh (fun i hi=>hI.f5 i hi);have tE:Sl w8 v4 325 2 R.length (R.flatMap Wz):=hI.s4.kp bh (fun g hg e=>hI.ne g hg e);refine KO rfl (py (KQ rfl (An rfl (An rfl (qV (Ta Li L8 rfl rfl (by rw[List.length_cons];omega) hI.cl) ?_)))));refine KO rfl (py (KM ?_));rw[show(y::r').length-n=((y::r').drop n).length by rw[List.length_drop]];have me:((y::r').take n).length=n:=by rw[List.length_take,List.length_cons];omega
      refine(ih ((y::r').drop n,_,c1-n,v4,v5',R,O++(y::r').take n) _ ⟨cI,by dsimp only;rw[jX];omega,ee,tE,?_,hI.f4,?_,?_,av,?_,?_⟩ ?_).qb
      ·dsimp only;rw[List.length_append,List.map_append,me,List.map_take];exact ez
      ·intro g hg;rcases kd g hg with h| h
       ·exact hI.f5 g h
       ·omega
      ·intro g hg e;rcases kd g e with h| h
       ·exact hI.ne g hg h
       ·have:=hI.s4.lt hg;omega
      ·dsimp only;rw[dx,List.append_assoc]
      ·dsimp only;rw[List.length_append,me,jX];omega
      ·dsimp only;rw[jX,List.length_cons];omega
     ·have Ej:¬least<=n:=fun h=>hL ⟨e0,h⟩;refine run_seq (qN rfl (An rfl (qV (LU rfl rfl) (MR (An rfl (An rfl (An rfl (qV (Ou rfl rfl) (Ly (qV (LR rfl rfl) (py (KH rfl (KQ rfl ?_)))))))))))));refine An rfl (An rfl (An rfl (qV (z5u Li L8 rfl rfl (by omega)) (KU rfl rfl (pap Li L8 rfl (by decide) rfl rfl hI.s5 (Q0 (hI.rd.ext hI.ext) (i:=n) (by rw[List.length_cons];omega)) (by rw[<-List.map_take];exact SW _) (by omega) (by simp only[maxLen];omega)) ?_))));rintro v5' w8 ⟨ez,bh,kd,-⟩;have lM:=ez.oneV;have hz:=hI.ext.size;have cI:Ext w w8:=hI.ext.KK bh (fun i hi=>hI.f5 i hi);have tE:Sl w8 v4 325 2 R.length (R.flatMap Wz):=hI.s4.kp bh (fun g hg e=>hI.ne g hg e);refine KO rfl (py (KQ rfl (An rfl (An rfl (qV (Ta Li L8 rfl rfl (by rw[List.length_cons];omega) hI.cl) ?_)))));refine KO rfl (py (KM ?_));rw[show(y::r').length-n=((y::r').drop n).length by rw[List.length_drop]];have me:((y::r').take n).length=n:=by rw[List.length_take,List.length_cons];omega
      refine(ih ((y::r').drop n,_,c1-n,v4,v5',R,O++(y::r').take n) _ ⟨cI,by dsimp only;rw[jX];omega,ee,tE,?_,hI.f4,?_,?_,av,?_,?_⟩ ?_).qb
      ·dsimp only;rw[List.length_append,List.map_append,me,List.map_take];exact ez
      ·intro g hg;rcases kd g hg with h| h
       ·exact hI.f5 g h
       ·omega
      ·intro g hg e;rcases kd g e with h| h
       ·exact hI.ne g hg h
       ·have:=hI.s4.lt hg;omega
      ·dsimp only;rw[dx,List.append_assoc]
      ·dsimp only;rw[List.length_append,me,jX];omega
      ·dsimp only;rw[jX,List.length_cons];omega
   case zZ =>
    refine MV (α:=Nat) (1) (fun i=>[(0,.slice (some ⟨b,off,none⟩) (y::r').length c1),(1,I (least:Int)),(4,v4),(5,v5),(6,I (i:Int))]) (fun i w'=>Ext w6 w'/\1<=i/\i<=runLen y r'+1) (fun i=>runLen y r'+2-i) ?hI ?hround
    case hI=>exact⟨Ext.refl _,by omega,by omega⟩
    case hround=>
     rintro i w7 ⟨bL,yt,di⟩ ih2
     try dsimp only
     refine run_seq (run_seq ?_);have hg:=(Ext.refl w7).drew;refine KV (fun w'=>Ext w7 w') (by kernel_rfl) rfl (KR 0 rfl (KW rfl) hg (KR 1 rfl (KW rfl) hg (KR 2 rfl (LM Li rfl) hg (KR 3 rfl (LX rfl rfl) hg (zbS (fun e1=>?_) (fun e1=>?_))))))
     ·have JL:i<r'.length+1:=by rw[List.length_cons] at e1;omega
      have cO:r'[i-1]? =some (r'[i-1]'(by omega)):=List.getElem?_eq_getElem (by omega);have JM:r'[i-1]'(by omega)<65536:=hI.ok.lt _ (List.mem_cons_of_mem _ (List.getElem_mem _));refine KR 4 rfl (KW rfl) hg (KR 5 rfl (KW rfl) hg (KR 6 rfl (KW rfl) hg (KR 7 rfl (LC Li L8 rfl rfl (by omega)) hg (KR 9 rfl (KW rfl) hg (KR 10 rfl (LC Li L8 rfl rfl (by omega)) hg (KR 12 rfl (KW rfl) hg (KR 13 rfl (Zv rfl U3 Mk) hg (qT 8 rfl (fun _ hS=>Lm Mk rfl rfl (by exact jo _ ((hI.ext.trans bL).trans hS) (i*1) (Lp (r'[i-1]'(by omega))) (by rw[List.getElem?_map,show i*1=(i-1)+1 by omega,List.getElem?_cons_succ,cO];rfl))) hg ?_))))))));refine qT 11 rfl (fun _ hS=>Lm Mk rfl rfl (by exact jo _ ((hI.ext.trans bL).trans hS) (0*1) (Lp y) rfl)) hg ?_;refine KR 14 rfl (zcr rfl rfl) hg (KR 15 rfl (Mr rfl rfl) hg (KR 16 rfl (LR rfl rfl) hg (qE (KZ rfl (fun e2=>?_) (fun e2=>?_)))))
      ·refine It (KL (KQ rfl (An rfl (LH rfl rfl (KO rfl (py (KM ?_)))))))
       have bG:i≠runLen y r'+1:=fun e=>by
        subst e;have:=Rn y r' (r'[runLen y r'+1-1]'(by omega)) (by rw[<-cO];simp);omega
       exact(ih2 (i+1) _ ⟨bL.trans hg,by omega,by omega⟩ (by omega)).qb
      ·have uk:i=runLen y r'+1:=by
        rcases Nat.lt_or_ge (i-1) (runLen y r') with h| h
        ·have h1:=QI y r' (i-1) h;rw[cO] at h1;have h2:=ML h1;exact absurd (by omega) e2
        ·omega
       refine KX rfl ?_;subst uk;exact(qW _ _ ⟨bL.trans hg,rfl⟩).qb
     ·have uk:i=runLen y r'+1:=by rw[List.length_cons] at e1;omega
      refine KR 4 rfl (KW rfl) hg (qJ 5 rfl (hg) (qJ 6 rfl (hg) (qJ 7 rfl (hg) (qJ 8 rfl (hg) (qJ 9 rfl (hg) (qJ 10 rfl (hg) (qJ 11 rfl (hg) (qJ 12 rfl (hg) (qJ 13 rfl (hg) (qJ 14 rfl (hg) (qJ 15 rfl (hg) (KR 16 rfl (Ls rfl rfl) hg (qE ?_)))))))))))));refine KH rfl (KX rfl ?_);subst uk;exact(qW _ _ ⟨bL.trans hg,rfl⟩).qb
  ·have eD:r=[]:=List.eq_nil_of_length_eq_zero (by omega);subst eD;refine KX rfl (qN rfl (An rfl (An rfl (KO rfl (KO rfl (py (KP Tryz.func198 rfl ?_)))))));have dx:=hI.eq;simp only[rowsN,List.append_nil] at dx;rw[dx];exact⟨_,rfl,v4,v5,rfl,hI.s4,hI.s5,hI.ext,hI.f4,hI.f5,hI.ne⟩
structure VsM (w:World)(p:Nat)(v:Value)(T el:TypeId)(size n:Nat)(cs:List Value):Prop where
 KN:KY w p [v] T
 sl:Sl w v el size n cs
 ne:v.ownBlock≠some p
def VsA (w:World)(p:Nat)(T el:TypeId)(size n:Nat)(cs:List Value)(F:Nat->Prop):Prop:=∃v,VsM w p v T el size n cs/\∀k,F k↔WX p v k
section
variable {w w':World}{p:Nat}{T el:TypeId}{size n:Nat}{cs:List Value}{F S:Nat->Prop}
theorem VsA.lt (h:VsA w p T el size n cs F){k:Nat}(hk:F k):k<w.heap.size:=by
 obtain⟨bv,hM,hF⟩:=h
 rcases (hF k).1 hk with e| e
 ·rw[e];exact hM.KN.lt
 ·exact hM.sl.lt e
theorem VsA.kp (h:VsA w p T el size n cs F)(k:Kp S w w')(hn:∀i,F i->¬S i):VsA w' p T el size n cs F:=by
 obtain⟨bv,hM,hF⟩:=h
 exact⟨bv,⟨k.KN hM.KN (hn p ((hF p).2 (.inl rfl))),hM.sl.kp k (fun g hg=>hn g ((hF g).2 (.inr hg))),hM.ne⟩,hF⟩
theorem VsA.ext (h:VsA w p T el size n cs F)(k:Ext w w'):VsA w' p T el size n cs F:=h.kp k.kp fun _ _=>id
end
theorem z7T {P:Program}{e:Env}{d:Option Nat}{ty t t':TypeId}{pos:String}{aft:Array Edge}{g:Option (Nat×Bool)}{x y:Operand}{w:World}{p q:Bool}(hx:look e x=some (.bool p))(hy:look e y=some (.bool q))(ht:P.underlying t=some .bool):Y P e ⟨d,.binOp .neq t x y t',ty,pos,aft,g⟩ (.bool (!(p==q))) w w:=fun ρ hρ=>by
 simp[execOp,hρ _ _ hx,hρ _ _ hy,eqGuard_at_bool,run_neq_bool w t p q ht]
def z0T (q:Cd×Nat):List Value:=NM q.1++[L5 q.2]
abbrev Yk (w:World)(p:Nat)(L:List (Cd×Nat))(F:Nat->Prop):Prop:=VsA w p 295 300 3 L.length (L.flatMap z0T) F
abbrev XW (w:World)(p:Nat)(L:List Nat)(F:Nat->Prop):Prop:=VsA w p 45 46 1 L.length (L.map Lp) F
abbrev Ww (w:World)(p:Nat)(L:List Nat)(F:Nat->Prop):Prop:=VsA w p 51 3 1 L.length (L.map fun n:Nat=>I (n:Int)) F
theorem Oh {w:World}{p:Nat}{L:List (Cd×Nat)}{F:Nat->Prop}(h:Yk w p L F)(hl:L.length<=1000000)(c:Cd)(v:Nat)(hv:v<9223372036854775808):
  Lk Tryz.prog 195 [XH c,I (v:Int),ptr p 0] w fun u w'=>u= .tuple #[]/\∃F',Yk w' p (L++[(c,v)]) F'/\Kp F w w'/\∀k,F' k->F k\/w.heap.size<=k:=by
 obtain⟨x,y,de,A0,A1⟩:∃x y,NM c=[x,y]/\x.oneCell'=true/\y.oneCell'=true:=by cases c<;>exact⟨_,_,rfl,rfl,rfl⟩
 obtain⟨bv,hM,hF⟩:=h
 have nS:XH c= .agg [x,y].toArray:=by rw[XH,de]
 rw[nS]
 have Gf:∀c∈[x,y,L5 v],c.oneCell'=true:=by
  intro c hc;rcases List.mem_cons.1 hc with rfl|hc
  ·exact A0
  rcases List.mem_cons.1 hc with rfl|hc
  ·exact A1
  rcases List.mem_cons.1 hc with rfl|hc
  ·rfl
  ·simp at hc
 refine KJ (e:=[(0,_),(1,_),(2,_)]) Tryz.func195 rfl Tryz.ntmps195 rfl rfl (qN rfl (KU rfl rfl (MH rfl (cs:=[x,y]) rfl) ?_))
 rintro _ w1 ⟨b3,rfl,dZ,ad,ao⟩
 have j3:=ad.KN hM.KN
 refine py (KQ rfl (qV (KS UF rfl rfl j3 rfl) (qV (Lj (news:=[x,y]) Nv rfl Mj rfl (ao.cells (n:=2) rfl) rfl) (An rfl (qV ((by first|exact LF rfl U3 Mq (by omega)|exact N0 rfl U3 Mq)) ?_)))))
 refine qV (NA (parts:=[(0,.tmp 6),(1,.tmp 8)]) (cs:=[_,_,_]) Qk rfl z8u rfl rfl) (KU rfl rfl (Tx (parts:=[(0,.tmp 9)]) (cs:=[_,_,_]) (zs:=[Value.int .u8 0,Value.int .u64 0,Value.int .u64 0]) UF Qk rfl (by kernel_rfl) rfl rfl rfl (by decide)) ?_)
 rintro _ w2 ⟨b2,rfl,⟨bT,af,ak⟩,cL⟩
 refine KU rfl rfl (pap UF Qk rfl (by decide) rfl rfl ((hM.sl.ext ad).ext af) cL.rd Gf (by omega) (by simp only[maxLen];omega)) ?_
 rintro v3 w3 ⟨cM,au,jY,-⟩
 have lM:=cM.oneV
 have aJ:=au.KN (af.KN j3) hM.ne
 refine L0 rfl (Mt z4S rfl rfl lM aJ (by simp)) ?_
 rintro w4 ⟨aF,aw⟩
 replace aF:KY w4 p [v3] 295:=aF
 have z1:=ad.size
 have z2:=af.size
 have lp:=hM.KN.lt
 have eE:v3.ownBlock≠some p:=fun e=>by
  rcases jY p e with e| e
  ·exact hM.ne e
  ·omega
 have dU:=cM.kp aw (fun g hg e=>eE (e▸hg))
 refine py (M8 Tryz.func195 rfl (⟨_,rfl,rfl,WX p v3,⟨v3,⟨aF,?_,eE⟩,fun _=>Iff.rfl⟩,?_,?_⟩))
 ·rw[List.length_append,List.flatMap_append];have e1:[(c,v)].flatMap z0T=[x,y,L5 v]:=by simp[z0T,de]
  rw[e1];exact dU
 ·exact((ad.trans af).kp.trans (au.L2 fun k e=>(hF k).2 (.inr e))).trans (aw.L2 fun k e=>(hF k).2 (.inl e))
 ·intro k hk;rcases hk with e| e
  ·exact .inl ((hF k).2 (.inl e))
  ·rcases jY k e with e| e
   ·exact .inl ((hF k).2 (.inr e))
   ·exact .inr (by omega)
def Qe (rs:List Nat)(f:Bool):List Nat:=if f !=(rs.length%2==1) then rs++[0] else rs
theorem VH (rs:List Nat)(f:Bool):Ms rs f=(Qe rs f).modify ((Qe rs f).length-1) (·+1):=rfl
abbrev z14 (n:Nat):Value:=I (n:Int)
theorem WZ {w:World}{lf rn:Nat}{L:List Nat}{F:Nat->Prop}(h:XW w lf L F)(hl:L.length<=1000000)(x:Nat)(a:Bool):
  Lk Tryz.prog 197 [Lp x,.bool a,.bool false,ptr lf 0,ptr rn 0] w fun u w'=>u= .tuple #[]/\∃F',XW w' lf (L++[x]) F'/\Kp F w w'/\∀k,F' k->F k\/w.heap.size<=k:=by
 obtain⟨bv,hM,hF⟩:=h
 refine KJ (e:=[(0,_),(1,_),(2,_),(3,_),(4,_)]) Tryz.func197 rfl Tryz.ntmps197 rfl rfl ?_
 have j3:=hM.KN
 refine run_seq (KL (qN rfl (An rfl (qV ((by first|exact LN rfl|exact Na rfl)) ?_))))
 refine KO rfl (py (L3 rfl (qN rfl (qV (KS Li rfl rfl j3 rfl) (An rfl (KU rfl rfl (Tx (parts:=[(0,.tmp 12)]) (cs:=[_]) (zs:=[Value.int .u32 0]) Li L8 rfl (by kernel_rfl) rfl rfl rfl (by decide)) ?_))))))
 rintro _ w2 ⟨b2,rfl,⟨bT,af,ak⟩,cL⟩
 refine KU rfl rfl (pap Li L8 rfl (by decide) rfl rfl (hM.sl.ext af) cL.rd (by intro c hc;simp at hc;subst hc;rfl) (by omega) (by simp only[maxLen];omega)) ?_
 rintro v3 w3 ⟨cM,au,jY,-⟩
 have lM:=cM.oneV
 have aJ:=au.KN (af.KN j3) hM.ne
 refine L0 rfl (Mt OI rfl rfl lM aJ (by simp)) ?_
 rintro w4 ⟨aF,aw⟩
 replace aF:KY w4 lf [v3] 45:=aF
 have z2:=af.size
 have lp:=hM.KN.lt
 have eE:v3.ownBlock≠some lf:=fun e=>by
  rcases jY lf e with e| e
  ·exact hM.ne e
  ·omega
 have dU:=cM.kp aw (fun g hg e=>eE (e▸hg))
 refine py (KP Tryz.func197 rfl (⟨_,rfl,rfl,WX lf v3,⟨v3,⟨aF,?_,eE⟩,fun _=>Iff.rfl⟩,?_,?_⟩))
 ·rw[List.length_append,List.map_append];exact dU
 ·exact(af.kp.trans (au.L2 fun k e=>(hF k).2 (.inr e))).trans (aw.L2 fun k e=>(hF k).2 (.inl e))
 ·intro k hk;rcases hk with e| e
  ·exact .inl ((hF k).2 (.inl e))
  ·rcases jY k e with e| e
   ·exact .inl ((hF k).2 (.inr e))
   ·exact .inr (by omega)
theorem U7 {w:World}{lf rn:Nat}{rs:List Nat}{F:Nat->Prop}(h:Ww w rn rs F)(hl:rs.length<=1000000)(bG:rs≠[])(hb:∀m∈rs,m<=1000000)(x:Nat)(a:Bool):
  Lk Tryz.prog 197 [Lp x,.bool a,.bool true,ptr lf 0,ptr rn 0] w fun u w'=>u= .tuple #[]/\∃F',Ww w' rn (Ms rs a) F'/\Kp F w w'/\∀k,F' k->F k\/w.heap.size<=k:=by
 have aO:∀k,F k->k<w.heap.size:=fun k hk=>h.lt hk
 obtain⟨bv,hM,hF⟩:=id h
 refine KJ (e:=[(0,_),(1,_),(2,_),(3,_),(4,_)]) Tryz.func197 rfl Tryz.ntmps197 rfl rfl ?_
 have j3:=hM.KN
 obtain⟨va,vc,rfl,-⟩:=hM.sl.rd.shape
 refine run_seq (KL (qN rfl (An rfl (qV ((by first|exact LN rfl|exact Na rfl)) ?_))))
 refine KO rfl (py (KH rfl (qN rfl (An rfl (qV (KS Mw rfl rfl j3 rfl) (qV (LM Mw rfl) (qV (S9 rfl rfl (by omega) (by omega)) ?_)))))))
 rw[Nat.and_one_is_mod]
 refine qV (Mr rfl rfl) (qV (z7T rfl rfl U4) ?_)
 have hd:decide (((rs.length%2:Nat):Int)=1)=(rs.length%2==1):=by
  rcases Nat.mod_two_eq_zero_or_one rs.length with e|e<;>rw[e]<;>rfl
 rw[hd]
 refine KO rfl (py (Lx (fun e' w'=>e'=[(4,ptr rn 0)]/\∃F',Ww w' rn (Qe rs a) F'/\Kp F w w'/\∀k,F' k->F k\/w.heap.size<=k) ?qX (fun qX=>?qY)))
 case qX=>
  rintro e' w1 ⟨rfl,F1,⟨v1,dw,nT⟩,aM,il⟩
  obtain⟨l,m,gL,eO,hm⟩:∃l m,Qe rs a=l++[m]/\l.length<=1000000/\m<=1000000:=by
   unfold Qe;split
   ·exact⟨rs,0,rfl,hl,by omega⟩
   ·refine⟨rs.dropLast,rs.getLast bG,(List.dropLast_concat_getLast bG).symm,by rw[List.length_dropLast];omega,hb _ (List.getLast_mem bG)⟩
  rw[gL] at dw;have A3:(l++[m]).length=l.length+1:=by simp
  rw[A3] at dw;rcases dw.sl.shape with⟨-,h0⟩|⟨g,c1,rfl,ff⟩
  ·omega
  have ai:=dw.KN;refine KM (KQ rfl (qV (KS Mw rfl rfl ai rfl) (qV (KS Mw rfl rfl ai rfl) (qV (LM Mw rfl) (qV (Md rfl rfl (by omega)) ?_)))));rw[show((l.length+1:Nat):Int)-1=(l.length:Int) by omega];refine qV (LC Mw LG rfl rfl (by omega)) (qV (Lm U3 rfl rfl (LV dw.sl.rd (show((l++[m]).map z14)[l.length]? =some (z14 m) by simp))) ?_);refine LH rfl rfl (qV (LC Mw LG rfl rfl (by omega)) (L0 rfl (MY LG rfl rfl rfl dw.sl (by simp)) ?_));rintro w2 ⟨cL,am⟩;have ak:=am.KN ai (fun e=>dw.ne (by rw[e];rfl));refine py (M8 Tryz.func197 rfl (⟨_,rfl,rfl,WX rn (.slice (some ⟨g,0,none⟩) (l.length+1) c1),⟨_,⟨ak,?_,dw.ne⟩,fun _=>Iff.rfl⟩,?_,?_⟩))
  ·rw[VH,gL,Ru];have e1:(l++[m+1]).length=l.length+1:=by simp
   rw[e1]
   have e2:((l++[m]).map z14).set l.length (z14 (m+1))=(l++[m+1]).map z14:=by
    rw[List.map_append,List.set_append_right _ _ (by simp)];simp
   rw[<-e2];have e3:l.length*1=l.length:=Nat.mul_one _
   first|exact cL|(simp only[Nat.zero_add,Nat.mul_one] at cL;exact cL)
  ·exact aM.KK (am.L2 (fun k e=>(nT k).2 (.inr (by rw[e];rfl)))) (fun i hi=>(il i hi).symm)
  ·intro k hk;exact il k ((nT k).2 hk)
 case qY=>
  refine LO rfl (fun e1=>?_) (fun e1=>?_)
  ·have kJ:Qe rs a=rs++[0]:=by unfold Qe;exact if_pos e1
   refine KQ rfl (qV (KS Mw rfl rfl j3 rfl) (KU rfl rfl (Tx (parts:=[(0,.const (Value.int .i64 0))]) (cs:=[_]) (zs:=[Value.int .i64 0]) Mw LG rfl (by kernel_rfl) rfl rfl rfl (by decide)) ?_));rintro _ w2 ⟨b2,rfl,⟨bT,af,ak⟩,cL⟩;refine KU rfl rfl (pap Mw LG rfl (by decide) rfl rfl (hM.sl.ext af) cL.rd (by intro c hc;simp at hc;subst hc;rfl) (by omega) (by simp only[maxLen];omega)) ?_;rintro v3 w3 ⟨cM,au,jY,-⟩;have lM:=cM.oneV;have aJ:=au.KN (af.KN j3) hM.ne;refine L0 rfl (Mt z0H rfl rfl lM aJ (by simp)) ?_;rintro w4 ⟨aF,aw⟩;replace aF:KY w4 rn [v3] 51:=aF;have z2:=af.size;have lp:=hM.KN.lt
   have eE:v3.ownBlock≠some rn:=fun e=>by
    rcases jY rn e with e| e
    ·exact hM.ne e
    ·omega
   have dU:=cM.kp aw (fun g hg e=>eE (e▸hg));refine py ((qX _ _ ⟨rfl,WX rn v3,⟨v3,⟨aF,?_,eE⟩,fun _=>Iff.rfl⟩,?_,?_⟩).qb)
   ·rw[kJ,List.length_append,List.map_append];exact dU
   ·exact(af.kp.trans (au.L2 fun k e=>(hF k).2 (.inr e))).trans (aw.L2 fun k e=>(hF k).2 (.inl e))
   ·intro k hk;rcases hk with e| e
    ·exact .inl ((hF k).2 (.inl e))
    ·rcases jY k e with e| e
     ·exact .inl ((hF k).2 (.inr e))
     ·exact .inr (by omega)
  ·have kJ:Qe rs a=rs:=by unfold Qe;exact if_neg (by simpa using e1)
   refine It ?_;exact(qX _ _ ⟨rfl,F,by rw[kJ];exact h,Kp.refl _ _,fun k hk=> .inl hk⟩).qb
def Qj (s r rs:List Nat):List Nat:=r.foldl (fun rs y=>Ms rs (decide (y∈s))) rs
theorem Uv {s t:List Nat}:∀(r rs:List Nat),(∀y∈r,(y∈s↔y∈t))->Qj s r rs=Qj t r rs
 |[],rs,_=>rfl
 | y :: r, rs, h => by
   have h1:decide (y∈s)=decide (y∈t):=decide_eq_decide.2 (h y List.mem_cons_self);show Qj s r (Ms rs (decide (y∈s)))=Qj t r (Ms rs (decide (y∈t)));rw[h1];exact Uv r _ (fun z hz=>h z (List.mem_cons_of_mem _ hz))
theorem QE {x z:Nat}{l:List Nat}(h:x<z):z∈x::l↔z∈l:=by
 rw[List.mem_cons]
 constructor
 ·rintro(e|e)
  ·omega
  ·exact e
 ·exact .inr
theorem XD {x:Nat}{s r:List Nat}(h:∀y∈r,x<y):leftOf (x::s) r=x::leftOf s r/\∀rs,Qj (x::s) r rs=Qj s r rs:=by
 have hx:x∉r:=fun e=>by have:=h x e;omega
 refine⟨?_,fun rs=>Uv r rs fun y hy=>QE (h y hy)⟩
 unfold leftOf
 rw[List.filter_cons,if_pos (by simpa using hx)]
theorem VW {r t:List Nat}(s:List Nat)(h:∀x∈s,(x∈r↔x∈t)):leftOf s r=leftOf s t:=
 List.filter_congr fun x hx=>decide_eq_decide.2 (not_congr (h x hx))
theorem z1M {x:Nat}{s r:List Nat}(hs:∀z∈s,x<z)(hr:∀y∈r,x<y):leftOf (x::s) (x::r)=leftOf s r/\∀rs,Qj (x::s) (x::r) rs=Qj s r (Ms rs true):=by
 refine⟨?_,fun rs=>?_⟩
 ·have:=VW (r:=x::r) (t:=r) s (fun z hz=>QE (hs z hz));rw[<-this];unfold leftOf;rw[List.filter_cons,if_neg (by simp)]
 ·show Qj (x::s) r (Ms rs (decide (x∈x::s)))=_;rw[decide_eq_true List.mem_cons_self];exact(XD hr).2 _
theorem z2z {y:Nat}{s r:List Nat}(hs:∀z∈s,y<z):leftOf s (y::r)=leftOf s r/\∀rs,Qj s (y::r) rs=Qj s r (Ms rs false):=by
 refine⟨VW s (fun z hz=>QE (hs z hz)),fun rs=>?_⟩
 show Qj s r (Ms rs (decide (y∈s)))=_
 rw[decide_eq_false fun e=>by have:=hs y e;omega]
theorem YU {x y:Nat}{l:List Nat}(hr:Ris (y::l))(h:x<y):∀z∈y::l,x<z:=fun z hz=>by
 rcases List.mem_cons.1 hz with e| e
 ·omega
 ·have:=(List.pairwise_cons.1 hr).1 z e;omega
theorem VU:∀{l:List Nat} {m:Nat},m∈l->m<=l.sum
 | x :: l, m, h => by
   rw[List.sum_cons];rcases List.mem_cons.1 h with e| e
   ·omega
   ·have:=VU e;omega
theorem ZR (rs:List Nat)(f:Bool):(Ms rs f).length<=rs.length+1:=by
 rw[VH,List.length_modify]
 unfold Qe
 split<;>simp
theorem Ov.le {rs:List Nat}{fs:List Bool}(h:Ov rs fs):∀m∈rs,m<=fs.length:=fun m hm=>by
 have:=VU hm
 rw[<-h.exp,NS];exact this
structure OZ (w:World)(succ ref:List Nat)(lf rn:Nat)(FL0 FR0:Nat->Prop)(s:List Nat)(sa:Option Addr)(sc:Nat)(r:List Nat)(ra:Option Addr)(rc:Nat)(L rs:List Nat)(w':World):Prop where
 ex:∃FL FR fs,XW w' lf L FL/\Ww w' rn rs FR/\Ov rs fs/\fs.length+r.length<=65536/\rs.length+r.length<=65537/\(∀k,FL k->FL0 k\/w.heap.size<=k)/\(∀k,FR k->FR0 k\/w.heap.size<=k)/\∀k,FL k->¬FR k
 rdS:∀w2,Kp (fun k=>FL0 k\/FR0 k) w w2->Rd w2 (.slice sa s.length sc) 1 s.length (s.map Lp)
 rdR:∀w2,Kp (fun k=>FL0 k\/FR0 k) w w2->Rd w2 (.slice ra r.length rc) 1 r.length (r.map Lp)
 clS:s.length<=sc
 clR:r.length<=rc
 kp:Kp (fun k=>FL0 k\/FR0 k) w w'
 okS:Lt s
 okR:Lt r
 left:leftOf succ ref=L++leftOf s r
 fold:Mx succ ref=Qj s r rs
 z8Y:L.length+s.length<=65536
section
variable {w w1 w2:World}{succ ref:List Nat}{lf rn:Nat}{FL0 FR0:Nat->Prop}{s r L rs:List Nat}{sa ra:Option Addr}{sc rc:Nat}{x y:Nat}
theorem OZ.ext (h:OZ w succ ref lf rn FL0 FR0 s sa sc r ra rc L rs w1)(hx:Ext w1 w2):OZ w succ ref lf rn FL0 FR0 s sa sc r ra rc L rs w2:=by
 obtain⟨FL,FR,fs,h1,h2,h3⟩:=h.ex
 exact⟨⟨FL,FR,fs,h1.ext hx,h2.ext hx,h3⟩,h.rdS,h.rdR,h.clS,h.clR,h.kp.trans hx.kp,h.okS,h.okR,h.left,h.fold,h.z8Y⟩
theorem OZ.z2C (h:OZ w succ ref lf rn FL0 FR0 (x::s) sa sc r ra rc L rs w1):∃b off,sa=some ⟨b,off,none⟩/\∀w2,Kp (fun k=>FL0 k\/FR0 k) w w2->w2.cell? ⟨b,off+0*1,none⟩=some (Lp x):=by
 rcases (h.rdS w1 h.kp).2 with⟨c,-,h0⟩|⟨b,off,cap,hv,-⟩
 ·exact absurd h0 (by simp)
 ·cases hv;exact⟨b,off,rfl,fun w2 k=>LV (h.rdS w2 k) rfl⟩
theorem OZ.z2m (h:OZ w succ ref lf rn FL0 FR0 s sa sc (y::r) ra rc L rs w1):∃b off,ra=some ⟨b,off,none⟩/\∀w2,Kp (fun k=>FL0 k\/FR0 k) w w2->w2.cell? ⟨b,off+0*1,none⟩=some (Lp y):=by
 rcases (h.rdR w1 h.kp).2 with⟨c,-,h0⟩|⟨b,off,cap,hv,-⟩
 ·exact absurd h0 (by simp)
 ·cases hv;exact⟨b,off,rfl,fun w2 k=>LV (h.rdR w2 k) rfl⟩
theorem OZ.z82 (h:OZ w succ ref lf rn FL0 FR0 (x::s) sa sc r ra rc L rs w1){FL FR:Nat->Prop}{fs:List Bool}(he:XW w1 lf L FL/\Ww w1 rn rs FR/\Ov rs fs/\fs.length+r.length<=65536/\rs.length+r.length<=65537/\(∀k,FL k->FL0 k\/w.heap.size<=k)/\(∀k,FR k->FR0 k\/w.heap.size<=k)/\∀k,FL k->¬FR k)
  (hr:∀y∈r,x<y) (hw:∃FL',XW w2 lf (L++[x]) FL'/\Kp FL w1 w2/\∀k,FL' k->FL k\/w1.heap.size<=k):
  OZ w succ ref lf rn FL0 FR0 s (if sc=1 then sa else sa.map (·.add (1*1))) (sc-1) r ra rc (L++[x]) rs w2:=by
 obtain⟨-,k1,k2,k3,k4,k5,k6,k7,k8,k9,k10⟩:=h
 obtain⟨h1,h2,h3,h4,h5,h6,h7,h8⟩:=he
 obtain⟨FL',g1,g2,g3⟩:=hw
 have hz:=k5.size
 rw[List.length_cons] at k3 k10
 refine⟨⟨FL',FR,fs,g1,h2.kp g2 (fun i hi e=>h8 i e hi),h3,h4,h5,fun k hk=>?_,h7,fun k hk e=>?_⟩,fun w2 k=>?_,k2,by omega,k4,k5.KK g2 (fun i hi=>?_),k6.sub (List.sublist_cons_self _ _),k7,?_,?_,?_⟩
 ·rcases g3 k hk with e| e
  ·exact h6 k e
  ·exact .inr (by omega)
 ·rcases g3 k hk with e2|e2
  ·exact h8 k e2 e
  ·have:=h2.lt e;omega
 ·have:=OO (k1 w2 k) (i:=1) (by rw[List.length_cons];omega) (by rw[List.length_cons];omega);exact this
 ·rcases h6 i hi with e| e
  ·exact .inr (.inl e)
  ·exact .inl e
 ·rw[k8,(XD hr).1,List.append_assoc];rfl
 ·rw[k9,(XD hr).2]
 ·rw[List.length_append,List.length_singleton];omega
theorem OZ.z69 {s2:List Nat}{sa2:Option Addr}{sc2:Nat}{f:Bool}(h:OZ w succ ref lf rn FL0 FR0 s sa sc (y::r) ra rc L rs w1)(hs:(s2=s/\sa2=sa/\sc2=sc/\f=false/\∀z∈s,y<z)\/(s=y::s2/\sa2=(if sc=1 then sa else sa.map (·.add (1*1)))/\sc2=sc-1/\f=true))
  {FL FR:Nat->Prop} {fs:List Bool} (he:XW w1 lf L FL/\Ww w1 rn rs FR/\Ov rs fs/\fs.length+(y::r).length<=65536/\rs.length+(y::r).length<=65537/\(∀k,FL k->FL0 k\/w.heap.size<=k)/\(∀k,FR k->FR0 k\/w.heap.size<=k)/\∀k,FL k->¬FR k)
  (hw:∃FR',Ww w2 rn (Ms rs f) FR'/\Kp FR w1 w2/\∀k,FR' k->FR k\/w1.heap.size<=k):
  OZ w succ ref lf rn FL0 FR0 s2 sa2 sc2 r (if rc=1 then ra else ra.map (·.add (1*1))) (rc-1) L (Ms rs f) w2:=by
 obtain⟨-,k1,k2,k3,k4,k5,k6,k7,k8,k9,k10⟩:=h
 obtain⟨h1,h2,h3,h4,h5,h6,h7,h8⟩:=he
 rw[List.length_cons] at h4 h5 k4
 obtain⟨FR',g1,g2,g3⟩:=hw
 have hz:=k5.size
 have gC:=ZR rs f
 have Ek:∀z∈r,y<z:=(List.pairwise_cons.1 k7.Wb).1
 have El:∃FL FR fs,XW w2 lf L FL/\Ww w2 rn (Ms rs f) FR/\Ov (Ms rs f) fs/\fs.length+r.length<=65536/\(Ms rs f).length+r.length<=65537/\(∀k,FL k->FL0 k\/w.heap.size<=k)/\(∀k,FR k->FR0 k\/w.heap.size<=k)/\∀k,FL k->¬FR k:=by
  refine⟨FL,FR',fs++[f],h1.kp g2 (fun i hi e=>h8 i hi e),g1,h3.step f,by rw[List.length_append,List.length_singleton];omega,by omega,h6,fun k hk=>?_,fun k hk e=>?_⟩
  ·rcases g3 k hk with e| e
   ·exact h7 k e
   ·exact .inr (by omega)
  ·rcases g3 k e with e2|e2
   ·exact h8 k hk e2
   ·have:=h1.lt hk;omega
 have Em:Kp (fun k=>FL0 k\/FR0 k) w w2:=k5.KK g2 (fun i hi=>by
  rcases h7 i hi with e| e
  ·exact .inr (.inr e)
  ·exact .inl e)
 have ee:∀w2,Kp (fun k=>FL0 k\/FR0 k) w w2->Rd w2 (.slice (if rc=1 then ra else ra.map (·.add (1*1))) r.length (rc-1)) 1 r.length (r.map Lp):=fun w2 k=>
  OO (k2 w2 k) (i:=1) (by rw[List.length_cons];omega) (by rw[List.length_cons];omega)
 rcases hs with⟨rfl,rfl,rfl,rfl,hg⟩|⟨rfl,rfl,rfl,rfl⟩
 ·exact⟨El,k1,ee,k3,by omega,Em,k6,k7.sub (List.sublist_cons_self _ _),by rw[k8,(z2z hg).1],by rw[k9,(z2z hg).2],k10⟩
 ·have En:∀z∈s2,y<z:=(List.pairwise_cons.1 k6.Wb).1;rw[List.length_cons] at k3 k10;refine⟨El,fun w2 k=>?_,ee,by omega,by omega,Em,k6.sub (List.sublist_cons_self _ _),k7.sub (List.sublist_cons_self _ _),by rw[k8,(z1M En Ek).1],by rw[k9,(z1M En Ek).2],by omega⟩;exact OO (k1 w2 k) (i:=1) (by rw[List.length_cons];omega) (by rw[List.length_cons];omega)
end
theorem z5L {w:World}{succ ref:List Nat}{lf rn:Nat}{FL0 FR0:Nat->Prop}{sa ra:Option Addr}{sc rc:Nat}(Gg:OZ w succ ref lf rn FL0 FR0 succ sa sc ref ra rc [] [0] w):
  Lk Tryz.prog 196 [.slice sa succ.length sc,.slice ra ref.length rc,.func (.func 197) #[] #[ptr lf 0,ptr rn 0]] w fun u w'=>u= .tuple #[]/\
   ∃FL FR,XW w' lf (leftOf succ ref) FL/\Ww w' rn (Mx succ ref) FR/\(∀k,FL k->FL0 k\/w.heap.size<=k)/\(∀k,FR k->FR0 k\/w.heap.size<=k)/\(∀k,FL k->¬FR k)/\Kp (fun k=>FL0 k\/FR0 k) w w':=by
 refine KJ (e:=[(0,_),(1,_),(2,_)]) Tryz.func196 rfl Tryz.ntmps196 rfl rfl (KL (MV (α:=List Nat×Option Addr×Nat×List Nat×Option Addr×Nat×List Nat×List Nat) ((succ,sa,sc,ref,ra,rc,[],[0])) (fun x=>[(0,.slice x.2.1 x.1.length x.2.2.1),(1,.slice x.2.2.2.2.1 x.2.2.2.1.length x.2.2.2.2.2.1),(2,.func (.func 197) #[] #[ptr lf 0,ptr rn 0])]) (fun x w'=>OZ w succ ref lf rn FL0 FR0 x.1 x.2.1 x.2.2.1 x.2.2.2.1 x.2.2.2.2.1 x.2.2.2.2.2.1 x.2.2.2.2.2.2.1 x.2.2.2.2.2.2.2 w') (fun x=>x.1.length+x.2.2.2.1.length) ?hI ?hround))
 case hI=>exact Gg
 case hround=>
  rintro⟨s,sa,sc,r,ra,rc,L,rs⟩ w6 hI ih;dsimp only at hI
  try dsimp only
  have hg:=(Ext.refl w6).drew;have aa:=hg.drew;have cH:=hI.ext aa;have p0:([]:List Nat).length=0:=rfl;have j4:=hI.okS.len;have A4:=hI.okR.len;rcases s with _|⟨x,s⟩
  ·rcases r with _|⟨y,r⟩
   ·refine run_seq (qN rfl (An rfl (qV (LM Li rfl) (qV (LU rfl rfl) (Ly (An rfl (An rfl (qV (LM Li rfl) (qV (LU rfl rfl) (Ly (qV (Ls rfl rfl) (py (KH rfl ?_)))))))))))));refine KX rfl (M8 Tryz.func196 rfl ?_);have pP:=hI.left;have eP:=hI.fold;obtain⟨FL,FR,fs,h1,h2,h3,h4,h5,h6,h7,h8⟩:=hI.ex;rw[pP,eP];exact⟨_,rfl,rfl,FL,FR,by simpa[leftOf] using h1,h2,h6,h7,h8,hI.kp⟩
   ·skip
    obtain⟨b2,off2,rfl,lK⟩:=hI.z2m;have p1:0<((y::r:List Nat).length:Int):=by rw[List.length_cons];omega
    have p3:¬(((y::r).length:Int)=0):=by omega
    refine run_seq (qN rfl (An rfl (qV (LM Li rfl) (qV (LU rfl rfl) (Ly (An rfl (An rfl (qV (LM Li rfl) (qV (LU rfl rfl) (MR (qV (Ls rfl rfl) (py (L3 rfl ?_)))))))))))));refine It (KL (run_seq (KV (fun w'=>Ext w6 w') (by kernel_rfl) rfl (KR 0 rfl (KW rfl) hg (KR 1 rfl (LM Li rfl) hg (KR 2 rfl (Mr rfl rfl) hg (PA (KR 3 rfl (KW rfl) hg (KR 4 rfl (KW rfl) hg (KR 5 rfl (LM Li rfl) hg (KR 6 rfl (LU rfl rfl) hg (PA (KR 7 rfl (KW rfl) hg ?_)))))))))))));refine qJ 8 rfl (hg) (qJ 9 rfl (hg) (qJ 10 rfl (hg) (qJ 11 rfl (hg) (qJ 12 rfl (hg) (qJ 13 rfl (hg) (qJ 14 rfl (hg) (KR 15 rfl (Ls rfl rfl) hg (KR 16 rfl (Ls rfl rfl) hg (KR 17 rfl (MO rfl) hg (qE (run_seq (KV (fun w'=>Ext w6 w') (by kernel_rfl) rfl (KR 0 rfl (KW rfl) aa ?_)))))))))))));refine KR 1 rfl (LM Li rfl) aa (KR 2 rfl (Mr rfl rfl) aa (OL (KR 3 rfl (KW rfl) aa (qJ 4 rfl (aa) (qJ 5 rfl (aa) (qJ 6 rfl (aa) (qJ 7 rfl (aa) (qJ 8 rfl (aa) (qJ 9 rfl (aa) (qJ 10 rfl (aa) (qJ 11 rfl (aa) (qJ 12 rfl (aa) (qJ 13 rfl (aa) ?_)))))))))))));refine qJ 14 rfl (aa) (qJ 15 rfl (aa) (KR 16 rfl (LR rfl rfl) aa (KR 17 rfl (MO rfl) aa (qE (run_seq (qN rfl (An rfl (py (KH rfl (KQ rfl (An rfl (An rfl (qV (LC Li L8 rfl rfl (by omega)) ?_)))))))))))));refine qV (Lm Mk rfl rfl (lK _ cH.kp)) ?_;obtain⟨FL,FR,fs,h1,h2,h3,h4,h5,h6,h7,h8⟩:=cH.ex;refine Mi rfl rfl (Nk (args:=[.tmp 62,.const (Value.bool false),.const (Value.bool true)]) YF rfl rfl) (U7 h2 (by omega) h3.ne (fun m hm=>by have:=h3.le m hm;omega) y false) ?_;rintro _ w7 ⟨rfl,ot⟩;refine qM rfl (An rfl (py (L3 rfl (KQ rfl (An rfl (qV (Ta Li L8 rfl rfl (by rw[List.length_cons];omega) hI.clR) ?_))))));refine KO rfl (py (KM ?_));exact(ih ([],sa,sc,r,_,rc-1,L,Ms rs false) _ (cH.z69 (.inl ⟨rfl,rfl,rfl,rfl,fun z hz=>by simp at hz⟩) ⟨h1,h2,h3,h4,h5,h6,h7,h8⟩ ot) (by dsimp only;simp only[List.length_cons,List.length_nil];omega)).qb
  ·rcases r with _|⟨y,r⟩
   ·obtain⟨b,off,rfl,lN⟩:=hI.z2C
    skip
    have p1:0<((x::s:List Nat).length:Int):=by rw[List.length_cons];omega
    have p4:¬(((x::s).length:Int)=0):=by omega
    refine run_seq (qN rfl (An rfl (qV (LM Li rfl) (qV (LU rfl rfl) (MR (An rfl (qS (qS (qS (qV (LR rfl rfl) (py (L3 rfl (It ?_)))))))))))));refine KL (run_seq (KV (fun w'=>Ext w6 w') (by kernel_rfl) rfl (KR 0 rfl (KW rfl) hg (KR 1 rfl (LM Li rfl) hg (KR 2 rfl (Mr rfl rfl) hg (OL (KR 3 rfl (KW rfl) hg (qJ 4 rfl (hg) (qJ 5 rfl (hg) (qJ 6 rfl (hg) (qJ 7 rfl (hg) (qJ 8 rfl (hg) (qJ 9 rfl (hg) ?_)))))))))))));refine qJ 10 rfl (hg) (qJ 11 rfl (hg) (qJ 12 rfl (hg) (qJ 13 rfl (hg) (qJ 14 rfl (hg) (qJ 15 rfl (hg) (KR 16 rfl (LR rfl rfl) hg (KR 17 rfl (MO rfl) hg (qE (run_seq (KV (fun w'=>Ext w6 w') (by kernel_rfl) rfl (KR 0 rfl (KW rfl) aa (KR 1 rfl (LM Li rfl) aa (KR 2 rfl (Mr rfl rfl) aa ?_)))))))))))));refine PA (KR 3 rfl (KW rfl) aa (KR 4 rfl (KW rfl) aa (KR 5 rfl (LM Li rfl) aa (KR 6 rfl (LU rfl rfl) aa (PA (KR 7 rfl (KW rfl) aa (qJ 8 rfl (aa) (qJ 9 rfl (aa) (qJ 10 rfl (aa) (qJ 11 rfl (aa) (qJ 12 rfl (aa) (qJ 13 rfl (aa) (qJ 14 rfl (aa) ?_)))))))))))));refine KR 15 rfl (Ls rfl rfl) aa (KR 16 rfl (Ls rfl rfl) aa (KR 17 rfl (MO rfl) aa (qE (run_seq (qN rfl (An rfl (py (L3 rfl (qN rfl (An rfl (An rfl (qV (LC Li L8 rfl rfl (by omega)) (qV (Lm Mk rfl rfl (lN _ cH.kp)) ?_)))))))))))));refine An rfl ?_;obtain⟨FL,FR,fs,h1,h2,h3,h4,h5,h6,h7,h8⟩:=cH.ex;have Gh:=cH.z8Y;refine Mi rfl rfl (Nk (args:=[.tmp 54,.const (Value.bool true),.tmp 55]) YF rfl rfl) (WZ h1 (by omega) x true) ?_;rintro _ w7 ⟨rfl,ot⟩;refine py (KQ rfl (An rfl (qV (Ta Li L8 rfl rfl (by rw[List.length_cons];omega) hI.clS) ?_)));refine KO rfl (qM rfl (An rfl (py (KH rfl (It (KM ?_))))));exact(ih (s,_,sc-1,[],ra,rc,L++[x],rs) _ (cH.z82 ⟨h1,h2,h3,h4,h5,h6,h7,h8⟩ (fun z hz=>by simp at hz) ot) (by dsimp only;simp only[List.length_cons,List.length_nil];omega)).qb
   ·rcases Nat.lt_trichotomy x y with de|de|de
    ·obtain⟨b,off,rfl,lN⟩:=hI.z2C;obtain⟨b2,off2,rfl,lK⟩:=hI.z2m;have p1:0<((x::s:List Nat).length:Int):=by rw[List.length_cons];omega
     have p2:0<((y::r).length:Int):=by rw[List.length_cons];omega
     have p3:¬(((y::r).length:Int)=0):=by omega
     have p4:¬(((x::s).length:Int)=0):=by omega
     refine run_seq (qN rfl (An rfl (qV (LM Li rfl) (qV (LU rfl rfl) (MR (An rfl (qS (qS (qS (qV (LR rfl rfl) (py (L3 rfl (It ?_)))))))))))));refine KL (run_seq (KV (fun w'=>Ext w6 w') (by kernel_rfl) rfl (KR 0 rfl (KW rfl) hg (KR 1 rfl (LM Li rfl) hg (KR 2 rfl (Mr rfl rfl) hg (PA (KR 3 rfl (KW rfl) hg (KR 4 rfl (KW rfl) hg (KR 5 rfl (LM Li rfl) hg (KR 6 rfl (LU rfl rfl) hg (OL (KR 7 rfl (KW rfl) hg (KR 8 rfl (KW rfl) hg ?_)))))))))))));refine KR 9 rfl (LC Li L8 rfl rfl (by omega)) hg (KR 11 rfl (KW rfl) hg (KR 12 rfl (LC Li L8 rfl rfl (by omega)) hg (qT 10 rfl (fun _ h=>Lm Mk rfl rfl (lN _ (hI.kp.trans h.kp))) hg (qT 13 rfl (fun _ h=>Lm Mk rfl rfl (lK _ (hI.kp.trans h.kp))) hg (KR 14 rfl (Qv rfl rfl) hg (OL (KR 15 rfl (LR rfl rfl) hg (KR 16 rfl (Ls rfl rfl) hg (KR 17 rfl (MO rfl) hg (qE (run_seq (KV (fun w'=>Ext w6 w') (by kernel_rfl) rfl (KR 0 rfl (KW rfl) aa ?_)))))))))))));refine KR 1 rfl (LM Li rfl) aa (KR 2 rfl (Mr rfl rfl) aa (PA (KR 3 rfl (KW rfl) aa (KR 4 rfl (KW rfl) aa (KR 5 rfl (LM Li rfl) aa (KR 6 rfl (LU rfl rfl) aa (OL (KR 7 rfl (KW rfl) aa (KR 8 rfl (KW rfl) aa (KR 9 rfl (LC Li L8 rfl rfl (by omega)) aa (KR 11 rfl (KW rfl) aa (KR 12 rfl (LC Li L8 rfl rfl (by omega)) aa (qT 10 rfl (fun _ h=>Lm Mk rfl rfl (lK _ (hI.kp.trans h.kp))) aa ?_)))))))))))));refine qT 13 rfl (fun _ h=>Lm Mk rfl rfl (lN _ (hI.kp.trans h.kp))) aa (KR 14 rfl (Qv rfl rfl) aa (PA (KR 15 rfl (LR rfl rfl) aa (KR 16 rfl (Ls rfl rfl) aa (KR 17 rfl (MO rfl) aa (qE (run_seq (qN rfl (An rfl (py (L3 rfl (qN rfl (An rfl ?_)))))))))))));refine An rfl (qV (LC Li L8 rfl rfl (by omega)) (qV (Lm Mk rfl rfl (lN _ cH.kp)) (An rfl ?_)));obtain⟨FL,FR,fs,h1,h2,h3,h4,h5,h6,h7,h8⟩:=cH.ex;have Gh:=cH.z8Y;refine Mi rfl rfl (Nk (args:=[.tmp 54,.const (Value.bool true),.tmp 55]) YF rfl rfl) (WZ h1 (by omega) x true) ?_;rintro _ w7 ⟨rfl,ot⟩;refine py (KQ rfl (An rfl (qV (Ta Li L8 rfl rfl (by rw[List.length_cons];omega) hI.clS) ?_)));refine KO rfl (qM rfl (An rfl (py (KH rfl (It (KM ?_))))));exact(ih (s,_,sc-1,y::r,_,rc,L++[x],rs) _ (cH.z82 ⟨h1,h2,h3,h4,h5,h6,h7,h8⟩ (YU hI.okR.Wb de) ot) (by dsimp only;simp only[List.length_cons,List.length_nil];omega)).qb
    ·obtain⟨b,off,rfl,lN⟩:=hI.z2C;obtain⟨b2,off2,rfl,lK⟩:=hI.z2m;have p1:0<((x::s:List Nat).length:Int):=by rw[List.length_cons];omega
     have p2:0<((y::r).length:Int):=by rw[List.length_cons];omega
     have p3:¬(((y::r).length:Int)=0):=by omega
     have p4:¬(((x::s).length:Int)=0):=by omega
     refine run_seq (qN rfl (An rfl (qV (LM Li rfl) (qV (LU rfl rfl) (MR (An rfl (qS (qS (qS (qV (LR rfl rfl) (py (L3 rfl (It ?_)))))))))))));refine KL (run_seq (KV (fun w'=>Ext w6 w') (by kernel_rfl) rfl (KR 0 rfl (KW rfl) hg (KR 1 rfl (LM Li rfl) hg (KR 2 rfl (Mr rfl rfl) hg (PA (KR 3 rfl (KW rfl) hg (KR 4 rfl (KW rfl) hg (KR 5 rfl (LM Li rfl) hg (KR 6 rfl (LU rfl rfl) hg (OL (KR 7 rfl (KW rfl) hg (KR 8 rfl (KW rfl) hg ?_)))))))))))));refine KR 9 rfl (LC Li L8 rfl rfl (by omega)) hg (KR 11 rfl (KW rfl) hg (KR 12 rfl (LC Li L8 rfl rfl (by omega)) hg (qT 10 rfl (fun _ h=>Lm Mk rfl rfl (lN _ (hI.kp.trans h.kp))) hg (qT 13 rfl (fun _ h=>Lm Mk rfl rfl (lK _ (hI.kp.trans h.kp))) hg (KR 14 rfl (Qv rfl rfl) hg (OL (KR 15 rfl (LR rfl rfl) hg (KR 16 rfl (Ls rfl rfl) hg (KR 17 rfl (MO rfl) hg (qE (run_seq (KV (fun w'=>Ext w6 w') (by kernel_rfl) rfl (KR 0 rfl (KW rfl) aa ?_)))))))))))));refine KR 1 rfl (LM Li rfl) aa (KR 2 rfl (Mr rfl rfl) aa (PA (KR 3 rfl (KW rfl) aa (KR 4 rfl (KW rfl) aa (KR 5 rfl (LM Li rfl) aa (KR 6 rfl (LU rfl rfl) aa (OL (KR 7 rfl (KW rfl) aa (KR 8 rfl (KW rfl) aa (KR 9 rfl (LC Li L8 rfl rfl (by omega)) aa (KR 11 rfl (KW rfl) aa (KR 12 rfl (LC Li L8 rfl rfl (by omega)) aa (qT 10 rfl (fun _ h=>Lm Mk rfl rfl (lK _ (hI.kp.trans h.kp))) aa ?_)))))))))))));refine qT 13 rfl (fun _ h=>Lm Mk rfl rfl (lN _ (hI.kp.trans h.kp))) aa (KR 14 rfl (Qv rfl rfl) aa (OL (KR 15 rfl (LR rfl rfl) aa (KR 16 rfl (Ls rfl rfl) aa (KR 17 rfl (MO rfl) aa (qE (run_seq (qN rfl (An rfl (py (L3 rfl (qN rfl (An rfl ?_)))))))))))));refine An rfl (qV (LC Li L8 rfl rfl (by omega)) (qV (Lm Mk rfl rfl (lN _ cH.kp)) (An rfl ?_)));obtain⟨FL,FR,fs,h1,h2,h3,h4,h5,h6,h7,h8⟩:=cH.ex;refine Mi rfl rfl (Nk (args:=[.tmp 54,.const (Value.bool true),.tmp 55]) YF rfl rfl) (U7 h2 (by omega) h3.ne (fun m hm=>by have:=h3.le m hm;omega) x true) ?_;rintro _ w7 ⟨rfl,ot⟩;refine py (KQ rfl (An rfl (qV (Ta Li L8 rfl rfl (by rw[List.length_cons];omega) hI.clS) ?_)));refine KO rfl (qM rfl (An rfl (py (L3 rfl (KQ rfl (An rfl (qV (Ta Li L8 rfl rfl (by rw[List.length_cons];omega) hI.clR) ?_)))))));refine KO rfl (py (KM ?_));subst de;exact(ih (s,_,sc-1,r,_,rc-1,L,Ms rs true) _ (cH.z69 (.inr ⟨rfl,rfl,rfl,rfl⟩) ⟨h1,h2,h3,h4,h5,h6,h7,h8⟩ ot) (by dsimp only;simp only[List.length_cons,List.length_nil];omega)).qb
    ·obtain⟨b,off,rfl,lN⟩:=hI.z2C;obtain⟨b2,off2,rfl,lK⟩:=hI.z2m;have p1:0<((x::s:List Nat).length:Int):=by rw[List.length_cons];omega
     have p2:0<((y::r).length:Int):=by rw[List.length_cons];omega
     have p3:¬(((y::r).length:Int)=0):=by omega
     have p4:¬(((x::s).length:Int)=0):=by omega
     refine run_seq (qN rfl (An rfl (qV (LM Li rfl) (qV (LU rfl rfl) (MR (An rfl (qS (qS (qS (qV (LR rfl rfl) (py (L3 rfl (It ?_)))))))))))));refine KL (run_seq (KV (fun w'=>Ext w6 w') (by kernel_rfl) rfl (KR 0 rfl (KW rfl) hg (KR 1 rfl (LM Li rfl) hg (KR 2 rfl (Mr rfl rfl) hg (PA (KR 3 rfl (KW rfl) hg (KR 4 rfl (KW rfl) hg (KR 5 rfl (LM Li rfl) hg (KR 6 rfl (LU rfl rfl) hg (OL (KR 7 rfl (KW rfl) hg (KR 8 rfl (KW rfl) hg ?_)))))))))))));refine KR 9 rfl (LC Li L8 rfl rfl (by omega)) hg (KR 11 rfl (KW rfl) hg (KR 12 rfl (LC Li L8 rfl rfl (by omega)) hg (qT 10 rfl (fun _ h=>Lm Mk rfl rfl (lN _ (hI.kp.trans h.kp))) hg (qT 13 rfl (fun _ h=>Lm Mk rfl rfl (lK _ (hI.kp.trans h.kp))) hg (KR 14 rfl (Qv rfl rfl) hg (PA (KR 15 rfl (LR rfl rfl) hg (KR 16 rfl (Ls rfl rfl) hg (KR 17 rfl (MO rfl) hg (qE (run_seq (KV (fun w'=>Ext w6 w') (by kernel_rfl) rfl (KR 0 rfl (KW rfl) aa ?_)))))))))))));refine KR 1 rfl (LM Li rfl) aa (KR 2 rfl (Mr rfl rfl) aa (PA (KR 3 rfl (KW rfl) aa (KR 4 rfl (KW rfl) aa (KR 5 rfl (LM Li rfl) aa (KR 6 rfl (LU rfl rfl) aa (OL (KR 7 rfl (KW rfl) aa (KR 8 rfl (KW rfl) aa (KR 9 rfl (LC Li L8 rfl rfl (by omega)) aa (KR 11 rfl (KW rfl) aa (KR 12 rfl (LC Li L8 rfl rfl (by omega)) aa (qT 10 rfl (fun _ h=>Lm Mk rfl rfl (lK _ (hI.kp.trans h.kp))) aa ?_)))))))))))));refine qT 13 rfl (fun _ h=>Lm Mk rfl rfl (lN _ (hI.kp.trans h.kp))) aa (KR 14 rfl (Qv rfl rfl) aa (OL (KR 15 rfl (LR rfl rfl) aa (KR 16 rfl (Ls rfl rfl) aa (KR 17 rfl (MO rfl) aa (qE (run_seq (qN rfl (An rfl (py (KH rfl (KQ rfl (An rfl ?_)))))))))))));refine An rfl (qV (LC Li L8 rfl rfl (by omega)) (qV (Lm Mk rfl rfl (lK _ cH.kp)) ?_));obtain⟨FL,FR,fs,h1,h2,h3,h4,h5,h6,h7,h8⟩:=cH.ex;refine Mi rfl rfl (Nk (args:=[.tmp 62,.const (Value.bool false),.const (Value.bool true)]) YF rfl rfl) (U7 h2 (by omega) h3.ne (fun m hm=>by have:=h3.le m hm;omega) y false) ?_;rintro _ w7 ⟨rfl,ot⟩;refine qM rfl (An rfl (py (L3 rfl (KQ rfl (An rfl (qV (Ta Li L8 rfl rfl (by rw[List.length_cons];omega) hI.clR) ?_))))));refine KO rfl (py (KM ?_));exact(ih (x::s,_,sc,r,_,rc-1,L,Ms rs false) _ (cH.z69 (.inl ⟨rfl,rfl,rfl,rfl,YU hI.okS.Wb de⟩) ⟨h1,h2,h3,h4,h5,h6,h7,h8⟩ ot) (by dsimp only;simp only[List.length_cons,List.length_nil];omega)).qb
structure Wv (w:World)(t r:Nat)(s:Bytes)(a:Nat):Prop where
 KN:KY w t [ptr r 0,.bool false] 289
 rd:OQ w r s a
 ne:t≠r
theorem Wv.ext {w w':World}{t r a:Nat}{s:Bytes}(h:Wv w t r s a)(hx:Ext w w'):Wv w' t r s a:=⟨hx.KN h.KN,⟨hx.KN h.rd.1,h.rd.2⟩,h.ne⟩
theorem Pf {w:World}{t r a:Nat}{s:Bytes}(h:Wv w t r s a)(c:Cd)(v n:Nat)(hc:c.M3)(hv:v<=c.most)(hn:v<=n)(j5:n<9223372036854775808)(rest:List Bool)(hb:(Lc s).drop a=c.enc v++rest):
  Lk Tryz.prog 211 [ptr t 0,XH c,I (n:Int)] w fun u w'=>u=I (v:Int)/\Wv w' t r s (a+(c.enc v).length)/\Kp (fun k=>k=r) w w':=by
 obtain⟨x,y,de⟩:∃x y,NM c=[x,y]:=by cases c<;>exact⟨_,_,rfl⟩
 have nS:XH c= .agg [x,y].toArray:=by rw[XH,de]
 have eL:=c.Vb
 rw[nS]
 refine KJ (e:=[(0,_),(1,_),(2,_)]) Tryz.func211 rfl Tryz.ntmps211 rfl rfl (qN rfl (KU rfl rfl (MH rfl (cs:=[x,y]) rfl) ?_))
 rintro _ w1 ⟨b4,rfl,gh,ad,aJ⟩
 have h1:=h.ext ad
 have A7:¬b4=r:=by have:=h.rd.1.lt;omega
 have hg:=(Ext.refl w1).drew
 refine KO rfl (py (run_seq (KV (fun w'=>Kp (fun k=>k=r) w1 w') (by kernel_rfl) rfl (KR 0 rfl (KW rfl) (hg.kp) (KR 1 rfl (L6 rfl) (hg.kp) (KR 2 rfl (KT z6W rfl) (hg.kp) (qT 3 rfl (fun _ hS=>KS Oz rfl rfl (hS.KN h1.KN h.ne) rfl) (hg.kp) (qT 4 rfl (fun _ h=>Lj (news:=[x,y]) Nv rfl Mj rfl ((h.KN aJ A7).cells (n:=2) rfl) rfl) (hg.kp) ?_))))))))
 rw[<-nS]
 refine O2 5 [.tmp 13,.tmp 14] rfl z62 rfl (TT (⟨hg.KN h1.rd.1,h1.rd.2⟩:OQ _ r s a) c v hc hv rest hb) ?_
 rintro _ w2 ⟨rfl,dj,am⟩
 refine⟨hg.kp.trans am,?_⟩
 have lO:=hg.kp.trans am
 have ao:=lO.KN h1.KN h.ne
 refine KR 6 rfl (KW rfl) (hg.kp.trans am) (KR 7 rfl (Lu rfl rfl) (hg.kp.trans am) (KR 8 rfl (Lu rfl rfl) (hg.kp.trans am) (KR 9 rfl (MO rfl) (hg.kp.trans am) (KR 10 rfl (MO rfl) (hg.kp.trans am) (qE (run_seq (qN rfl (An rfl (qV (M0 rfl rfl) (An rfl (An rfl (An rfl (qV ((by first|exact LF rfl U3 Mq (by omega)|exact N0 rfl U3 Mq)) ?_)))))))))))))
 refine qV (LU rfl rfl) (Ly (qV (Ls rfl rfl) (py (KH rfl (It (qN rfl (An rfl (qV (Lw rfl Mq U3 (by omega)) (KO rfl (py (Ll.qb (e:=[(6,_)]) ?_)))))))))))
 refine KP Tryz.func211 rfl ?_
 exact⟨_,rfl,rfl,⟨ao,dj,h.ne⟩,ad.kp.trans lO⟩
theorem LI (q:Cd×Nat)(l:List (Cd×Nat)):Ld (q::l)=q.1.enc q.2++Ld l:=rfl
theorem Nn {s e rest:List Bool}{a:Nat}(h:s.drop a=e++rest):s.drop (a+e.length)=rest:=by
 rw[<-List.drop_drop,h,List.drop_left]
structure CpI (w:World)(t r:Nat)(s:Bytes)(rs ref:List Nat)(rest:List Bool)(aE i:Nat)(rs2 ref2:List Nat)(sa:Option Addr)(sc:Nat)(v5:Value)(O:List Nat)(a:Nat)(w':World):Prop where
 tk:Wv w' t r s a
 kp:Kp (fun k=>k=r) w w'
 sl:Sl w' v5 46 1 O.length (O.map Lp)
 fr:∀g,v5.ownBlock=some g->w.heap.size<=g
 len:rs.length=i+rs2.length
 rd:∀w2,Kp (fun k=>k=r) w w2->Rd w2 (.slice sa ref2.length sc) 1 ref2.length (ref2.map Lp)
 cl:ref2.length<=sc
 sum:rs2.sum<=ref2.length
 pos:∀m∈rs2.drop (1-min i 1),1<=m
 bits:(Lc s).drop a=Ld (runNums i rs2)++rest
 YW:a+(Ld (runNums i rs2)).length=aE
 eq:copyL true rs ref=O++copyL (i%2==0) rs2 ref2
 tot:O.length+ref2.length<=65536
theorem z4n (a:Addr):a.add 0=a:=by
 unfold Addr.add
 split<;>simp_all
theorem z6P {P:Program}{e:Env}{d:Option Nat}{ty t el:TypeId}{pos:String}{aft:Array Edge}{g:Option (Nat×Bool)}{x u:Operand}{w:World}{z:Value}{size bytes n cap j:Nat}{a:Option Addr}{k:IntKind}{zb:Int}[u5:Ob zb j](ht:P.underlying t=some (.slice el))(hs:TI P el z size bytes)(hx:look e x=some (.slice a n cap))
  (hu:look e u=some (.int k zb)) (h:j<=cap):
  Y P e ⟨d,.slice t x none (some u) none,ty,pos,aft,g⟩ (.slice a j cap) w w:=fun ρ hρ=>by
 obtain⟨rfl⟩:=u5
 have co:=hs.size (w:=w)
 have h1:∀w,(Instr.sliceBound (.int k (j:Int)) cap .sliceAcap).run P w= .ok j w:=fun w=>by rw[run_sliceBound _ _ _ _ _ (by omega) (by omega)];simp
 cases a with
 |none=>simp[execOp,hρ _ _ hx,hρ _ _ hu,Instr.sliceAt,run_underlying ht,Instr.slice,Instr.sliceBounds,h1,co]
 |some a=>simp[execOp,hρ _ _ hx,hρ _ _ hu,Instr.sliceAt,run_underlying ht,Instr.slice,Instr.sliceBounds,h1,co,z4n]
theorem Zi {w:World}{t r a:Nat}{s:Bytes}(h:Wv w t r s a)(hG:KY w 1 (NM .gamma) 298)(cT:¬1=r){sa:Option Addr}{sc:Nat}(ref rs:List Nat)
  (ee:∀w2,Kp (fun k=>k=r) w w2->Rd w2 (.slice sa ref.length sc) 1 ref.length (ref.map Lp)) (ew:ref.length<=sc) (A4:ref.length<=65536) (hn:rs.length<=ref.length+1) (gl:rs.sum<=ref.length)
  (gM:∀m∈rs.drop 1,1<=m) (rest:List Bool) (hb:(Lc s).drop a=Ld ((.gamma,rs.length)::runNums 0 rs)++rest):
  Lk Tryz.prog 191 [ptr t 0,.slice sa ref.length sc] w fun u w'=>Sl w' u 46 1 (copyL true rs ref).length ((copyL true rs ref).map Lp)/\(∀g,u.ownBlock=some g->w.heap.size<=g)/\
   Wv w' t r s (a+(Ld ((.gamma,rs.length)::runNums 0 rs)).length)/\Kp (fun k=>k=r) w w':=by
 have j6:∀v:Nat,v<=65537->v<=Cd.most .gamma:=fun v hv=>by simp only[Cd.most];omega
 refine KJ (e:=[(0,_),(1,_)]) Tryz.func191 rfl Tryz.ntmps191 rfl rfl (qN rfl (KO rfl (qM rfl (KO rfl (qM rfl (An rfl (qV (Lj (news:=[.int .u8 1,L5 0]) Nv rfl Mj rfl (hG.cells (n:=2) rfl) rfl) (An rfl (qV (LM Li rfl) ?_)))))))))
 rw[LI,List.append_assoc] at hb
 rw[show((ref.length:Nat):Int)=((ref.length:Nat):Int) from rfl]
 refine LH rfl rfl (La [.tmp 9,.tmp 10,.tmp 13] X4 rfl (Pf h .gamma rs.length (ref.length+1) trivial (j6 _ (by omega)) (by omega) (by omega) _ hb) ?_)
 rintro _ w1 ⟨rfl,h1,aM⟩
 have bS:=Nn hb
 refine KO rfl (py (run_seq (qN rfl (An rfl (An rfl (py (KL (MV (α:=Nat×List Nat×List Nat×Option Addr×Nat×Value×List Nat×Nat) ((0,rs,ref,sa,sc,.slice none 0 0,[],a+(Cd.enc .gamma rs.length).length)) (fun x=>[(0,ptr t 0),(1,.slice x.2.2.2.1 x.2.2.1.length x.2.2.2.2.1),(5,x.2.2.2.2.2.1),(6,I (rs.length:Int)),(15,I (rs.length:Int)),(16,I (x.1:Int))]) (fun x w'=>CpI w t r s rs ref rest (a+(Ld ((.gamma,rs.length)::runNums 0 rs)).length) x.1 x.2.1 x.2.2.1 x.2.2.2.1 x.2.2.2.2.1 x.2.2.2.2.2.1 x.2.2.2.2.2.2.1 x.2.2.2.2.2.2.2 w') (fun x=>x.2.1.length) ?hI ?hround))))))))
 case hI=>exact⟨h1,aM,Sl.nil _ _ _,(fun g h=>by cases h),by simp,ee,ew,gl,gM,bS,by rw[LI,List.length_append];dsimp only;omega,rfl,by simp;omega⟩
 case hround =>
  rintro⟨i,rs2,ref2,sa2,sc2,v5,O,a2⟩ w6 hI ih;dsimp only at hI;have aD:=hI.len;have ul:=hI.tot
  try dsimp only
  refine qN rfl (qV (LX rfl rfl) (py (run_seq (KZ rfl (fun h0=>?_) (fun h0=>?_)))))
  ·obtain⟨n,rs2,rfl⟩:∃n l,rs2=n::l:=by
    cases rs2 with
    |nil=>simp at aD;omega
    |cons n l=>exact⟨n,l,rfl⟩
   have yu:=hI.kp.KN hG cT;have gl:=hI.sum;rw[List.sum_cons] at gl;rw[List.length_cons] at aD;have bM:=hI.bits;rw[runNums,LI,List.append_assoc] at bM
   have cG:min i 1<=n:=by
    have hp:=hI.pos n;rcases Nat.eq_zero_or_pos i with e| e
    ·subst e;simp
    ·rw[show 1-min i 1=0 by omega] at hp;have:=hp List.mem_cons_self;omega
   refine It (run_seq (KL (qN rfl (An rfl (KO rfl (qM rfl (An rfl (qV (Lj (news:=[.int .u8 1,L5 0]) Nv rfl Mj rfl (yu.cells (n:=2) rfl) rfl) (An rfl (qV (LM Li rfl) (La [.tmp 19,.tmp 20,.tmp 22] X4 rfl (Pf hI.tk .gamma (n-min i 1) ref2.length trivial (j6 _ (by omega)) (by omega) (by omega) _ bM) ?_)))))))))));rintro _ w7 ⟨rfl,h7,aA⟩;have gN:=hI.kp.trans aA;have bE:=h7.KN;refine An rfl (qV (ymi rfl rfl) (LH rfl rfl ?_));rw[show((n-min i 1:Nat):Int)+min (i:Int) 1=(n:Int) by omega];refine KO rfl (py (run_seq (qN rfl (An rfl (qV (L6 rfl) (qV (KT OM rfl) (qV (KS U4 rfl rfl bE rfl) (An rfl (An rfl (An rfl (qV (LM Li rfl) (qV (LU rfl rfl) (Ly ?_)))))))))))));refine qV (Ls rfl rfl) (py (KH rfl (It (run_seq (qN rfl (An rfl (qV (S9 rfl rfl (by omega) (by omega)) ?_)))))));rw[Nat.and_one_is_mod];have A8:=hI.rd _ gN;have eF:=Nn bM;have yr:=hI.kp.size;have Eo:=aA.size
   have qZ:∀g,v5.ownBlock=some g->¬g=r:=fun g hg e=>by
    have h1:=hI.fr g hg;have h2:=h.rd.1.lt;omega
   have gK:=hI.sl.kp aA qZ
   have dD:∀(v5':Value) (w8:World),Sl w8 v5' 46 1 (O++if i%2==0 then ref2.take n else []).length ((O++if i%2==0 then ref2.take n else []).map Lp)->(∀g,v5'.ownBlock=some g->w.heap.size<=g)->Kp (fun k=>v5.ownBlock=some k) w7 w8->
     CpI w t r s rs ref rest (a+(Ld ((.gamma,rs.length)::runNums 0 rs)).length) (i+1) rs2 (ref2.drop n) (if sc2=n then sa2 else sa2.map (·.add (n*1))) (sc2-n) v5' (O++if i%2==0 then ref2.take n else []) (a2+(Cd.enc .gamma (n-min i 1)).length) w8:=by
    intro v5' w8 g1 g2 g3;have lt7:=h7.KN.lt;have lr7:=h7.rd.1.lt;have tt:=h.KN.lt;have dV:=h.rd.1.lt;have nU:∀x,x<w.heap.size->¬v5.ownBlock=some x:=fun x hx e=>by have:=hI.fr x e;omega
    refine⟨⟨g3.KN h7.KN (nU t tt),⟨g3.KN h7.rd.1 (nU r dV),h7.rd.2⟩,h7.ne⟩,gN.KK g3 (fun k hk=> .inl (hI.fr k hk)),g1,g2,by omega,fun w2 k=>?_,by rw[List.length_drop];have:=hI.cl;omega,by rw[List.length_drop];omega,?_,?_,?_,?_,?_⟩
    ·have:=OO (hI.rd w2 k) (i:=n) (by omega) hI.cl;rw[<-List.map_drop] at this;rw[List.length_drop];exact this
    ·intro m hm;refine hI.pos m ?_;rw[show 1-min (i+1) 1=0 by omega,List.drop_zero] at hm;rcases Nat.eq_zero_or_pos i with e| e
     ·subst e;exact hm
     ·rw[show 1-min i 1=0 by omega];exact List.mem_cons_of_mem _ hm
    ·exact eF
    ·have:=hI.YW;rw[runNums,LI,List.length_append] at this;dsimp only at this;omega
    ·rw[hI.eq,copyL,List.append_assoc]
     have:((i+1)%2==0)= !(i%2==0):=by
      rcases Nat.mod_two_eq_zero_or_one i with e| e
      ·rw[e,show(i+1)%2=1 by omega];rfl
      ·rw[e,show(i+1)%2=0 by omega];rfl
     rw[this]
    ·rw[List.length_append,List.length_drop];split
     ·rw[List.length_take];omega
     ·simp;omega
   refine qV (Mr rfl rfl) (py (KZ rfl (fun e1=>?_) (fun e1=>?_)))
   ·have e2:(i%2==0)=true:=by simp;omega
    simp only[e2,if_true] at dD;refine KQ rfl (An rfl (An rfl (An rfl (qV (z6P Li L8 rfl rfl (by have:=hI.cl;omega)) ?_))));have Gi:=hI.cl;refine KU rfl rfl (pap Li L8 rfl (by decide) rfl rfl gK (Q0 A8 (i:=n) (by omega)) (by rw[<-List.map_take];exact SW _) (by omega) (by simp only[maxLen];omega)) ?_;rintro v5' w8 ⟨ez,bh,kd,-⟩;have lM:=ez.oneV;refine KO rfl (py (KQ rfl (An rfl (An rfl (qV (Ta Li L8 rfl rfl (by omega) hI.cl) (KO rfl (py (KM (KQ rfl (LH rfl rfl (An rfl (py ?_))))))))))));rw[show ref2.length-n=(ref2.drop n).length by rw[List.length_drop]];refine(ih (i+1,rs2,ref2.drop n,_,sc2-n,v5',O++ref2.take n,_) _ (dD v5' _ ?_ ?_ bh) (by dsimp only;simp)).qb
    ·rw[List.length_append,List.map_append,List.length_take,Nat.min_eq_left (by omega),List.map_take];exact ez
    ·intro g hg;rcases kd g hg with e| e
     ·exact hI.fr g e
     ·omega
   ·have e2:(i%2==0)=false:=by simp;omega
    simp only[e2,Bool.false_eq_true,if_false,List.append_nil] at dD;refine It (KQ rfl (An rfl (An rfl (qV (Ta Li L8 rfl rfl (by omega) hI.cl) (KO rfl (py (KM (KQ rfl (LH rfl rfl (An rfl (py ?_)))))))))));rw[show ref2.length-n=(ref2.drop n).length by rw[List.length_drop]];exact(ih (i+1,rs2,ref2.drop n,_,sc2-n,v5,O,_) _ (dD v5 _ gK hI.fr (Kp.refl _ _)) (by dsimp only;simp)).qb
  ·have eD:rs2=[]:=List.eq_nil_of_length_eq_zero (by omega);subst eD;have JN:rs.length=i:=by rw[aD];simp
   have jp:=hI.YW;have dx:=hI.eq;rw[copyL] at dx;rw[show(Ld (runNums i [])).length=0 from rfl,Nat.add_zero] at jp;refine KX rfl (run_seq (qN rfl (An rfl (qV (S9 rfl rfl (by omega) (by omega)) ?_))));rw[Nat.and_one_is_mod];refine qV (Mr rfl rfl) (py (KZ rfl (fun e1=>?_) (fun e1=>?_)))
   ·rw[if_pos (by simp;omega)] at dx;refine KQ rfl (An rfl (An rfl (KU rfl rfl (pap Li L8 rfl (by decide) rfl rfl hI.sl (hI.rd _ hI.kp) (SW _) (by omega) (by simp only[maxLen];omega)) ?_)));rintro v5' w8 ⟨ez,bh,kd,-⟩;have lM:=ez.oneV;refine KO rfl (qM rfl (An rfl (KO rfl (py (KP Tryz.func191 rfl ?_)))));rw[dx,<-jp];have yr:=hI.kp.size;have nU:∀x,x<w.heap.size->¬v5.ownBlock=some x:=fun x hx e=>by have:=hI.fr x e;omega
    refine⟨_,rfl,?_,fun g hg=>?_,⟨bh.KN hI.tk.KN (nU t h.KN.lt),⟨bh.KN hI.tk.rd.1 (nU r h.rd.1.lt),hI.tk.rd.2⟩,hI.tk.ne⟩,hI.kp.KK bh (fun k hk=> .inl (hI.fr k hk))⟩
    ·rw[List.length_append,List.map_append];exact ez
    ·rcases kd g hg with e| e
     ·exact hI.fr g e
     ·omega
   ·rw[if_neg (by simp;omega),List.append_nil] at dx;refine It (qN rfl (An rfl (KO rfl (py (KP Tryz.func191 rfl ?_)))));rw[dx,<-jp];exact⟨_,rfl,hI.sl,hI.fr,hI.tk,hI.kp⟩
structure ReI (w w1:World)(t r:Nat)(s:Bytes)(l:List Nat)(x k:Nat)(rest:List Bool)(aE b7:Nat)(dn l2:List Nat)(v9:Value)(a:Nat)(w':World):Prop where
 tk:Wv w' t r s a
 kp:Kp (fun k=>k=t\/k=r) w w'
 b7:KY w' b7 (NM (.zeta k)) 298
 sl:Sl w' v9 46 1 dn.length (dn.map Lp)
 fr:∀g,v9.ownBlock=some g->w1.heap.size<=g
 eq:l=dn++l2
 bits:(Lc s).drop a=Ld (restNums x k dn.getLast? l2)++rest
 YW:a+(Ld (restNums x k dn.getLast? l2)).length=aE
 siz:w1.heap.size<=w'.heap.size
theorem z1y {w:World}{t r a:Nat}{s:Bytes}(h:Wv w t r s a)(x k:Nat)(hx:x<65536)(hk:1<=k/\k<=16)(l:List Nat)(hl:Lt l)(rest:List Bool)(hb:(Lc s).drop a=Ld (restNums x k none l)++rest):
  Lk Tryz.prog 193 [ptr t 0,I (x:Int),I (l.length:Int),XH (.zeta k)] w fun u w'=>Sl w' u 46 1 l.length (l.map Lp)/\(∀g,u.ownBlock=some g->w.heap.size<=g)/\
   Wv w' t r s (a+(Ld (restNums x k none l)).length)/\Kp (fun k=>k=t\/k=r) w w':=by
 have aD:=hl.len
 have lt0:=h.KN.lt
 have lr0:=h.rd.1.lt
 refine KJ (e:=[(0,_),(1,_),(2,_),(3,_)]) Tryz.func193 rfl Tryz.ntmps193 rfl rfl (qN rfl (KU rfl rfl (MH rfl (cs:=NM (.zeta k)) rfl) ?_))
 rintro _ w1 ⟨b7,rfl,kF,ad,bE⟩
 have h1:=h.ext ad
 have z1:=ad.size
 have Ep:=bE.lt
 refine KO rfl (qM rfl (KO rfl (py (run_seq (qN rfl (An rfl (An rfl (py (KL (MV (α:=List Nat×List Nat×Value×Nat) (([],l,.slice none 0 0,a)) (fun y=>[(0,ptr t 0),(1,I (x:Int)),(7,ptr b7 0),(9,y.2.2.1),(12,I (l.length:Int)),(13,I (y.1.length:Int))]) (fun y w'=>ReI w w1 t r s l x k rest (a+(Ld (restNums x k none l)).length) b7 y.1 y.2.1 y.2.2.1 y.2.2.2 w') (fun y=>y.2.1.length) ?hI ?hround))))))))))
 case hI=>exact⟨h1,ad.kp,bE,Sl.nil _ _ _,(fun g h=>by cases h),rfl,hb,rfl,Nat.le_refl _⟩
 case hround =>
  rintro⟨dn,l2,v9,a2⟩ w6 hI ih;dsimp only at hI;have dx:=hI.eq;have eO:l.length=dn.length+l2.length:=by rw[dx,List.length_append]
  try dsimp only
  refine qN rfl (qV (LX rfl rfl) (py (run_seq (KZ rfl (fun h0=>?_) (fun h0=>?_)))))
  ·obtain⟨y,l2,rfl⟩:∃y q,l2=y::q:=by
    cases l2 with
    |nil=>simp at eO;omega
    |cons y q=>exact⟨y,q,rfl⟩
   rw[List.length_cons] at eO;have Eq:y<65536:=hl.lt y (by rw[dx];simp);have aN:=hI.b7;have bM:=hI.bits;have jp:=hI.YW
   have key:∃v:Nat,restNums x k dn.getLast? (y::l2)=(.zeta k,v)::restNums x k (dn++[y]).getLast? l2/\v<=262144/\(dn=[]->v=Yh ((y:Int)-x))/\∀u q,dn=q++[u]->v+(u+1)=y:=by
    rw[List.getLast?_append,show [y].getLast? =some y from rfl,Option.some_or];rcases List.eq_nil_or_concat dn with rfl|⟨q,u,rfl⟩
    ·refine⟨_,rfl,?_,fun _=>rfl,fun u q e=>by simp at e⟩;have:=U1 (z:=(y:Int)-x) (n:=65536) (by omega) (by omega);omega
    ·have hu:u<y:=by
      have hr:=hl.Wb;rw[dx] at hr;exact(List.pairwise_append.1 hr).2.2 u (by simp) y (by simp)
     refine⟨y-u-1,?_,by omega,fun e=>by simp at e,fun u2 q2 e=>?_⟩
     ·have e1:(q.concat u).getLast? =some u:=by simp
      rw[e1];rfl
     ·have e2:q++[u]=q2++[u2]:=by simpa using e
      have:=(List.append_inj' e2 rfl).2;simp at this;omega
   obtain⟨v,eY,ke,A9,tF⟩:=key;rw[eY,LI,List.append_assoc] at bM;rw[eY,LI,List.length_append] at jp;refine It (run_seq (KL (qN rfl (An rfl (KO rfl (qM rfl (An rfl (qV (Lj (news:=NM (.zeta k)) Nv rfl Mj rfl (aN.cells (n:=2) rfl) rfl) (La [.tmp 16,.tmp 17,.const (Value.int .i64 262144)] X4 rfl (Pf hI.tk (.zeta k) v 262144 hk (by simp only[Cd.most];omega) ke (by omega) _ bM) ?_)))))))));rintro _ w7 ⟨rfl,h7,aA⟩;have gN:Kp (fun k=>k=t\/k=r) w w7:=hI.kp.trans (aA.L2 fun k e=> .inr e);have eF:=Nn bM;have gK:=hI.sl.kp aA (fun g hg e=>by have:=hI.fr g hg;omega);have Aa:=aA.KN aN (by omega);have Eo:=hI.siz;have yr:=aA.size;refine KO rfl (py (run_seq (qN rfl (An rfl (qV (Mr rfl rfl) (py (Lx (fun e' w'=>w'=w7/\e'=[(0,ptr t 0),(1,I (x:Int)),(7,ptr b7 0),(9,v9),(11,I (y:Int)),(12,I (l.length:Int)),(13,I (dn.length:Int))]) ?m6 (fun m6=>?m7))))))))
   case m6=>
    rintro e' w7 ⟨rfl,rfl⟩;have j3:=h7.KN;refine run_seq (qN rfl (An rfl (An rfl (qV (L6 rfl) (qV (KT OM rfl) (qV (KS U4 rfl rfl j3 rfl) (An rfl (An rfl (La [.tmp 41] z1Z rfl (Qy y Eq _) ?_)))))))));rintro _ w8 ⟨rfl,rfl⟩;refine qV ((by first|exact LN rfl|exact Na rfl)) ?_;refine qV (Ls rfl rfl) (qV (L6 rfl) (qV (KT OM rfl) (L0 rfl (Mt QX rfl rfl rfl j3 (by simp)) ?_)));rintro w8 ⟨bZ,bh⟩;replace bZ:KY w8 t [ptr r 0,.bool false] 289:=bZ;refine qM rfl (An rfl (qV (L6 rfl) (qV (KT OM rfl) (qV (KS U4 rfl rfl bZ rfl) (py (KH rfl (It (KQ rfl (An rfl (An rfl (qV (Zv rfl U3 Mk) ?_)))))))))));rw[Nat.mod_eq_of_lt (show y<4294967296 by omega)];refine KU rfl rfl (Tx (parts:=[(0,.tmp 53)]) (cs:=[_]) (zs:=[Value.int .u32 0]) Li L8 rfl (by kernel_rfl) rfl rfl rfl (by decide)) ?_;rintro _ w9 ⟨b9,rfl,⟨nV,eX,cC⟩,um⟩;have nU:∀g,v9.ownBlock=some g->¬g=t:=fun g hg e=>by have:=hI.fr g hg;omega
    have lP:∀g,v9.ownBlock=some g->¬g=r:=fun g hg e=>by have:=hI.fr g hg;omega
    have Er:=bh.size;have Es:=eX.size;refine KU rfl rfl (pap Li L8 rfl (by decide) rfl rfl ((gK.kp bh nU).ext eX) um.rd (by intro c hc;simp at hc;subst hc;rfl) (by omega) (by simp only[maxLen];omega)) ?_;rintro v10 w10 ⟨c6,ax,Ab,-⟩;have lM:=c6.oneV;refine KO rfl (py (KM (KQ rfl (LH rfl rfl (An rfl (py ?_))))));have rf:∀g,g<w1.heap.size->¬v9.ownBlock=some g:=fun g hg e=>by have:=hI.fr g e;omega
    rw[show(dn.length:Int)+1=((dn++[y]).length:Int) by simp];refine(ih (dn++[y],l2,v10,a2+(Cd.enc (.zeta k) v).length) _ ⟨⟨ax.KN (eX.KN bZ) (rf t (by omega)),⟨ax.KN (eX.KN (bh.KN h7.rd.1 (fun e=>h7.ne e.symm))) (rf r (by omega)),h7.rd.2⟩,h7.ne⟩,?_,?_,?_,?_,?_,eF,?_,?_⟩ (by dsimp only;simp)).qb
    ·exact((gN.trans (bh.L2 fun k e=> .inl e)).trans eX.kp).KK ax (fun g hg=> .inl (by have:=hI.fr g hg;omega))
    ·exact ax.KN (eX.KN (bh.KN Aa (by omega))) (rf b7 (by omega))
    ·rw[List.length_append,List.map_append];exact c6
    ·intro g hg;rcases Ab g hg with e| e
     ·exact hI.fr g e
     ·omega
    ·rw[dx,List.append_assoc];rfl
    ·dsimp only at jp⊢;omega
    ·have:=ax.size;omega
   case m7=>
    refine KZ rfl (fun e1=>?_) (fun e1=>?_)
    ·have eD:dn=[]:=List.eq_nil_of_length_eq_zero (by omega);refine KQ rfl (An rfl (qV (LF rfl U3 Mq (by omega)) (La [.tmp 22] z8M rfl (z1G v (by omega) _) ?_)));rintro _ w8 ⟨rfl,rfl⟩;rw[A9 eD,z1S];refine An rfl (LH rfl rfl ?_);rw[show(y:Int)-x+x=(y:Int) by omega];refine KO rfl (py ?_);exact(m6 _ _ ⟨rfl,rfl⟩).qb
    ·obtain⟨q,u,rfl⟩:∃q u,dn=q++[u]:=by
      rcases List.eq_nil_or_concat dn with rfl|⟨q,u,rfl⟩
      ·exact absurd rfl e1
      ·exact⟨q,u,by simp⟩
     have Et:=tF u q rfl;have ol:(q++[u]).length=q.length+1:=by simp
     rw[ol] at gK;rcases gK.shape with⟨-,h0⟩|⟨g,c1,rfl,ff⟩
     ·omega
     refine KQ rfl (An rfl (An rfl (An rfl (qV (Md rfl rfl (by omega)) ?_))));rw[show(((q++[u]).length:Nat):Int)-1=(q.length:Int) by simp];refine qV (LC Li L8 rfl rfl (by omega)) (qV (Lm Mk rfl rfl (LV gK.rd (show((q++[u]).map Lp)[q.length]? =some (Lp u) by simp))) ?_);refine qV (Lw rfl Mk U3 (by omega)) (LH rfl rfl (LH rfl rfl ?_));rw[show(v:Int)+((u:Int)+1)=(y:Int) by omega];refine KO rfl (py ?_);exact(m6 _ _ ⟨rfl,rfl⟩).qb
  ·have eD:l2=[]:=List.eq_nil_of_length_eq_zero (by omega);subst eD;refine KX rfl (qN rfl (An rfl (KO rfl (py (KP Tryz.func193 rfl ?_)))));rw[List.append_nil] at dx;subst dx;have jp:=hI.YW;rw[show(Ld (restNums x k l.getLast? [])).length=0 by cases l.getLast?<;>rfl,Nat.add_zero] at jp;rw[<-jp];exact⟨_,rfl,hI.sl,fun g hg=>by have:=hI.fr g hg;omega,hI.tk,hI.kp⟩
section
variable {P:Program}{b:Frame}{a:Act}{k:List Item}{cs:List Frame}{w:World}{C:Cx}{e:Env}
theorem YY {c:Code}:step P (lone (b.atR a (.code (.scope c)::k)) cs w)= .next (lone (b.atR a (.code c:: .inScope c::k)) cs w):=
 step_lone_go (by simp[stepG,stepG.exec,Frame.atR])
theorem z3c {c:Code}(h:Ll C (.code c:: .inScope c::k) e w):Ll C (.code (.scope c)::k) e w:=fun a ha=>R4.step (fun _ _=>YY) (h a ha)
end
def loE:Option Nat->Nat
 |none=>0
 |some z=>z+2
def z0p:Option Nat->Int
 |none=>-1
 |some z=>(z:Int)
def PE (x:Nat):Option Nat->Nat->Nat
 |none,y=>Yh ((y:Int)-x)
 |some e,y=>y-e-2
theorem MT (x least:Nat)(e:Option Nat)(p:Nat×Nat)(R:List (Nat×Nat)):longNums x least e (p::R)=(.gamma,PE x e p.1)::(.gamma,p.2-least)::longNums x least (some (p.1+p.2-1)) R:=by
 cases e<;>rfl
structure LoI (w:World)(t r:Nat)(s:Bytes)(R:List (Nat×Nat))(x least left:Nat)(rest:List Bool)(aE:Nat)(i:Nat)(R2:List (Nat×Nat))(e:Option Nat)(O:List Nat)(v9:Value)(a:Nat)(w':World):Prop where
 tk:Wv w' t r s a
 kp:Kp (fun k=>k=t\/k=r) w w'
 sl:Sl w' v9 46 1 O.length (O.map Lp)
 fr:∀g,v9.ownBlock=some g->w.heap.size<=g
 len:R.length=i+R2.length
 eq:Mp R=O++Mp R2
 ok:NU least (loE e) R2
 hi:∀p∈R2,p.1+p.2<=65536
 tot:O.length+(Mp R2).length<=left
 bits:(Lc s).drop a=Ld (longNums x least e R2)++rest
 YW:a+(Ld (longNums x least e R2)).length=aE
 eb:z0p e<65536
theorem z3K {w : World}{t r a : Nat}{s : Bytes}(h : Wv w t r s a)(hG : KY w 1 (NM .gamma) 298)(cT : ¬ 1 = r)(mf : ¬ 1 = t)(x left least : Nat)(hx : x < 65536)(pP : left <= 65536)(Ac : least <= 64)(R : List (Nat × Nat))(hR : NU least 0 R)(Gj : ∀ p ∈ R, p.1 + p.2 <= 65536)
  (ul:(Mp R).length<=left) (Gk:R.length<=left) (rest:List Bool) (hb:(Lc s).drop a=Ld ((.gamma,R.length)::longNums x least none R)++rest):
  Lk Tryz.prog 192 [ptr t 0,I (x:Int),I (left:Int),I (least:Int)] w fun u w'=>Sl w' u 46 1 (Mp R).length ((Mp R).map Lp)/\(∀g,u.ownBlock=some g->w.heap.size<=g)/\
   Wv w' t r s (a+(Ld ((.gamma,R.length)::longNums x least none R)).length)/\Kp (fun k=>k=t\/k=r) w w':=by
 have j6:∀v:Nat,v<=262144->v<=Cd.most .gamma:=fun v hv=>by simp only[Cd.most];omega
 have lt0:=h.KN.lt
 have lr0:=h.rd.1.lt
 refine KJ (e:=[(0,_),(1,_),(2,_),(3,_)]) Tryz.func192 rfl Tryz.ntmps192 rfl rfl (qN rfl (KO rfl (py (z3c (qN rfl (KO rfl (qM rfl (KO rfl (py (run_seq (z3H (run_seq (qN rfl ?_)))))))))))))
 refine An rfl (qV (Lj (news:=[.int .u8 1,L5 0]) Nv rfl Mj rfl (hG.cells (n:=2) rfl) rfl) ?_)
 rw[LI,List.append_assoc] at hb
 refine An rfl (La [.tmp 14,.tmp 15,.tmp 16] X4 rfl (Pf h .gamma R.length left trivial (j6 _ (by omega)) Gk (by omega) _ hb) ?_)
 rintro _ w1 ⟨rfl,h1,aM⟩
 have bS:=Nn hb
 refine An rfl (py (KL (MV (α:=Nat×List (Nat×Nat)×Option Nat×List Nat×Value×Nat) ((0,R,none,[],.slice none 0 0,a+(Cd.enc .gamma R.length).length)) (fun y=>[(0,ptr t 0),(1,I (x:Int)),(2,I (left:Int)),(3,I (least:Int)),(9,y.2.2.2.2.1),(10,I (z0p y.2.2.1)),(17,I (R.length:Int)),(18,I (y.1:Int))]) (fun y w'=>LoI w t r s R x least left rest (a+(Ld ((.gamma,R.length)::longNums x least none R)).length) y.1 y.2.1 y.2.2.1 y.2.2.2.1 y.2.2.2.2.1 y.2.2.2.2.2 w') (fun y=>y.2.1.length) ?hI ?hround)))
 case hI=>exact⟨h1,aM.L2 fun k e=> .inr e,Sl.nil _ _ _,(fun g h=>by cases h),by simp,rfl,hR,Gj,by simpa using ul,bS,by rw[LI,List.length_append];dsimp only;omega,(show(-1:Int)<65536 by decide)⟩
 case hround =>
  rintro⟨i,R2,e,O,v9,a2⟩ w6 hI ih;dsimp only at hI;have aD:=hI.len
  try dsimp only
  refine qN rfl (qV (LX rfl rfl) (py (run_seq (KZ rfl (fun h0=>?_) (fun h0=>?_)))))
  ·obtain⟨⟨p1,p2⟩,R2,rfl⟩:∃p q,R2=p::q:=by
    cases R2 with
    |nil=>simp at aD;omega
    |cons p q=>exact⟨p,q,rfl⟩
   rw[List.length_cons] at aD;obtain⟨ok1,ok2,ok3,ok4⟩:loE e<=p1/\1<=p2/\least<=p2/\NU least (p1+p2+1) R2:=hI.ok;have JO:p1+p2<=65536:=hI.hi (p1,p2) List.mem_cons_self;have gC:Mp ((p1,p2)::R2)=(List.range p2).map (p1+·)++Mp R2:=rfl;have pQ:=hI.tot;have un:=hI.eq;rw[gC] at pQ un;rw[List.length_append,List.length_map,List.length_range] at pQ;have bM:=hI.bits;have jp:=hI.YW;rw[MT,LI,LI,List.append_assoc,List.append_assoc] at bM;rw[MT,LI,LI,List.length_append,List.length_append] at jp;have Ad:=hI.eb
   have eY:PE x e p1<=262144:=by
    cases e with
    |none=>have:=U1 (z:=(p1:Int)-x) (n:=65537) (by omega) (by omega);show Yh _<=_;omega
    |some z=>show p1-z-2<=_;omega
   have jq:∀k,(fun k=>k=t\/k=r) k->k<w.heap.size:=fun k hk=>by rcases hk with e|e<;>omega
   have yu:=hI.kp.KN hG (fun e=>by rcases e with e|e;exact mf e;exact cT e);refine It (run_seq (KL (qN rfl (An rfl (qV (Lj (news:=[.int .u8 1,L5 0]) Nv rfl Mj rfl (yu.cells (n:=2) rfl) rfl) (La [.tmp 20,.tmp 21,.const (Value.int .i64 262144)] X4 rfl (Pf hI.tk .gamma (PE x e p1) 262144 trivial (j6 _ eY) eY (by omega) _ bM) ?_))))));rintro _ w7 ⟨rfl,h7,aA⟩;have eF:=Nn bM;have Eo:=hI.kp.size;have yr:=aA.size;have Eu:∀g,v9.ownBlock=some g->¬g=r:=fun g hg e=>by have:=hI.fr g hg;omega
   have gK:=hI.sl.kp aA Eu;have gN:Kp (fun k=>k=t\/k=r) w w7:=hI.kp.trans (aA.L2 fun k e=> .inr e);refine KO rfl (py (run_seq (qN rfl (An rfl (qV (LX rfl rfl) (py (Lx (fun e' w'=>w'=w7/\e'=[(0,ptr t 0),(1,I (x:Int)),(2,I (left:Int)),(3,I (least:Int)),(9,v9),(11,I (p1:Int)),(17,I (R.length:Int)),(18,I (i:Int))]) ?m6 (fun m6=>?m7))))))))
   case m6 =>
    rintro e' w7 ⟨rfl,rfl⟩;have Gl:=aA.KN yu cT;refine qN rfl (An rfl (qV (Lj (news:=[.int .u8 1,L5 0]) Nv rfl Mj rfl (Gl.cells (n:=2) rfl) rfl) (An rfl (La [.tmp 34,.tmp 35,.tmp 36] X4 rfl (Pf h7 .gamma (p2-least) left trivial (j6 _ (by omega)) (by omega) (by omega) _ eF) ?_))));rintro _ w8 ⟨rfl,h8,bh⟩;have rg:=Nn eF;have Er:=bh.size;have ez:=gK.kp bh Eu;have ou:Kp (fun k=>k=t\/k=r) w w8:=gN.trans (bh.L2 fun k e=> .inr e);obtain⟨va,vc,rfl,-⟩:=hI.sl.rd.shape;refine An rfl (LH rfl rfl ?_);rw[show((p2-least:Nat):Int)+(least:Int)=(p2:Int) by omega];have bZ:=h8.KN;refine KO rfl (py (run_seq (qN rfl (An rfl (An rfl (qV (L6 rfl) (qV (KT OM rfl) (qV (KS U4 rfl rfl bZ rfl) (An rfl (An rfl (qV (LX rfl rfl) (Ly (qV (Ls rfl rfl) ?_)))))))))))));refine An rfl (An rfl (An rfl (LH rfl rfl (qV (LU rfl rfl) (Ly (qV (Ls rfl rfl) (An rfl (An rfl (An rfl (An rfl (qV (LM Li rfl) (qV (Md rfl rfl (by omega)) (qV (LU rfl rfl) ?_)))))))))))));refine Ly (qV (Ls rfl rfl) (qV (L6 rfl) (qV (KT OM rfl) (L0 rfl (Mt QX rfl rfl rfl bZ (by simp)) ?_))));rintro w9 ⟨cC,aL⟩;replace cC:KY w9 t [ptr r 0,.bool false] 289:=cC;refine qM rfl (An rfl (qV (L6 rfl) (qV (KT OM rfl) (qV (KS U4 rfl rfl cC rfl) ?_))));have Es:=aL.size;have um:=ez.kp aL (fun g hg e=>by have:=hI.fr g hg;omega);have h9:Wv w9 t r s (a2+(Cd.enc .gamma (PE x e p1)).length+(Cd.enc .gamma (p2-least)).length):=⟨cC,⟨aL.KN h8.rd.1 (fun e=>h8.ne e.symm),h8.rd.2⟩,h8.ne⟩;have Ae:Kp (fun k=>k=t\/k=r) w w9:=ou.trans (aL.L2 fun k e=> .inl e);refine py (KH rfl (It (run_seq (qN rfl (An rfl (An rfl (py (KL (MV (α:=Nat×Value) ((0,.slice va O.length vc)) (fun y=>[(0,ptr t 0),(1,I (x:Int)),(2,I (left:Int)),(3,I (least:Int)),(9,y.2),(11,I (p1:Int)),(12,I (p2:Int)),(17,I (R.length:Int)),(18,I (i:Int)),(69,I (p2:Int)),(70,I (y.1:Int))]) (fun y w'=>Wv w' t r s (a2+(Cd.enc .gamma (PE x e p1)).length+(Cd.enc .gamma (p2-least)).length)/\Kp (fun k=>k=t\/k=r) w w'/\Sl w' y.2 46 1 (O.length+y.1) ((O++(List.range y.1).map (p1+·)).map Lp)/\(∀g,y.2.ownBlock=some g->w.heap.size<=g)/\y.1<=p2) (fun y=>p2-y.1) ?hI ?hround)))))))))
    case hI=>exact⟨h9,Ae,by simpa using um,hI.fr,Nat.zero_le _⟩
    case hround=>
     rintro⟨j,v⟩ w10 ⟨fj,ax,c6,cb,hj⟩ ih2;dsimp only at fj ax c6 cb hj
     try dsimp only
     refine qN rfl (qV (LX rfl rfl) (py (run_seq (KZ rfl (fun kf=>?_) (fun kf=>?_)))))
     ·refine It (run_seq (KL (qN rfl (An rfl (KO rfl (py (KQ rfl (An rfl (An rfl (An rfl (LH rfl rfl (qV (Zv rfl U3 Mk) ?_))))))))))));rw[show(p1+j)%4294967296=p1+j by omega];refine KU rfl rfl (Tx (parts:=[(0,.tmp 77)]) (cs:=[_]) (zs:=[Value.int .u32 0]) Li L8 rfl (by kernel_rfl) rfl rfl rfl (by decide)) ?_;rintro _ w11 ⟨b11,rfl,⟨iz,aQ,aH⟩,rh⟩;have Gm:=ax.size;have Gn:=aQ.size;refine KU rfl rfl (pap Li L8 rfl (by decide) rfl rfl (c6.ext aQ) rh.rd (by intro c hc;simp at hc;subst hc;rfl) (by omega) (by simp only[maxLen];omega)) ?_;rintro v12 w12 ⟨jq,aU,Af,-⟩;have lM:=jq.oneV;refine KO rfl (py (KM (KQ rfl (LH rfl rfl (An rfl (py ?_))))));have uo:∀g,g<w.heap.size->¬v.ownBlock=some g:=fun g hg e=>by have:=cb g e;omega
      refine(ih2 (j+1,v12) _ ⟨⟨aU.KN (aQ.KN fj.KN) (uo t lt0),⟨aU.KN (aQ.KN fj.rd.1) (uo r lr0),fj.rd.2⟩,fj.ne⟩,(ax.trans aQ.kp).KK aU (fun g hg=> .inl (cb g hg)),?_,fun g hg=>?_,by omega⟩ (by dsimp only;omega)).qb
      ·have e1:(O++(List.range (j+1)).map (p1+·)).map Lp=(O++(List.range j).map (p1+·)).map Lp++[Lp (p1+j)]:=by
        rw[List.range_succ];simp
       dsimp only;rw[e1];exact jq
      ·rcases Af g hg with e| e
       ·exact cb g e
       ·omega
     ·have Gp:j=p2:=by omega
      subst Gp;refine KX rfl (KQ rfl (An rfl (An rfl (LH rfl rfl (qV (Md rfl rfl (by omega)) (KO rfl (py (KM (KQ rfl (LH rfl rfl (An rfl (py ?_))))))))))));rw[show(p1:Int)+j-1=z0p (some (p1+j-1)) by show _=((p1+j-1:Nat):Int);omega,show(i:Int)+1=((i+1:Nat):Int) by omega];refine(ih (i+1,R2,some (p1+j-1),O++(List.range j).map (p1+·),v,_) _ ⟨fj,ax,?_,cb,by dsimp only;omega,by rw[un,List.append_assoc],?_,fun p hp=>hI.hi p (List.mem_cons_of_mem _ hp),?_,rg,?_,?_⟩ (by dsimp only;simp)).qb
      ·dsimp only;rw[List.length_append,List.length_map,List.length_range];exact c6
      ·refine ok4.mono ?_;show p1+j-1+2<=_;omega
      ·dsimp only;rw[List.length_append,List.length_map,List.length_range];omega
      ·dsimp only at jp⊢;omega
      ·show((p1+j-1:Nat):Int)<65536;omega
   case m7=>
    cases e with
    | none =>
      refine KZ rfl (fun e1=>?_) (fun e1=>?_)
      ·refine KQ rfl (An rfl (qV (LF rfl U3 Mq (by omega)) (La [.tmp 26] z8M rfl (z1G _ (by omega) _) ?_)));rintro _ w8 ⟨rfl,rfl⟩;rw[show PE x none p1=Yh ((p1:Int)-x) from rfl,z1S];refine An rfl (LH rfl rfl ?_);rw[show(p1:Int)-x+x=(p1:Int) by omega];refine KO rfl (py ?_);exact(m6 _ _ ⟨rfl,rfl⟩).qb
      ·exact absurd (by decide) e1
    | some z =>
      refine KZ rfl (fun e1=>?_) (fun e1=>?_)
      ·exact absurd e1 (by show ¬((z:Int)<0);omega)
      ·have hz:z+2<=p1:=ok1;refine KQ rfl (An rfl (An rfl ?_));rw[show z0p (some z)=(z:Int) from rfl];refine LH rfl rfl (LH rfl rfl ?_);rw[show PE x (some z) p1=p1-z-2 from rfl,show((p1-z-2:Nat):Int)+((z:Int)+2)=(p1:Int) by omega];refine KO rfl (py ?_);exact(m6 _ _ ⟨rfl,rfl⟩).qb
  ·have eD:R2=[]:=List.eq_nil_of_length_eq_zero (by omega);subst eD;refine KX rfl (qN rfl (An rfl (KO rfl (py (KP Tryz.func192 rfl ?_)))));have dx:=hI.eq;rw[show Mp []=[] from rfl,List.append_nil] at dx;have jp:=hI.YW;rw[show(Ld (longNums x least e [])).length=0 by cases e<;>rfl,Nat.add_zero] at jp;rw[dx,<-jp];exact⟨_,rfl,hI.sl,hI.fr,hI.tk,hI.kp⟩
def M5 (p:Nc)(n r:Nat):List (Cd×Nat):=(.gamma,n)::if n=0 then [] else if 0<p.Lf then [(.unary,r)] else []
theorem Xl {w:World}{r a:Nat}{s:Bytes}(h:OQ w r s a)(p:Nc)(hp:p.M3)(hG:KY w 1 (NM .gamma) 298)(hU:KY w 2 (NM .unary) 298)(cT:¬1=r)(dz:¬2=r)(n q:Nat)(hn:n<=65536)(hq:q<=p.Lf)
  (mg:n=0->q=0) (rest:List Bool) (hb:(Lc s).drop a=Ld (M5 p n q)++rest):
  Lk Tryz.prog 167 [ptr r 0,lpV p] w fun u w'=>u= .tuple #[.agg #[I (n:Int),I (q:Int)],I 0]/\OQ w' r s (a+(Ld (M5 p n q)).length)/\Kp (fun k=>k=r) w w':=by
 obtain⟨g1,g2,g3,g4⟩:=id hp
 have lr0:=h.1.lt
 have mh:p.Lf=0->q=0:=fun e=>by omega
 unfold M5 at hb⊢
 rw[LI,List.append_assoc] at hb
 refine KJ (e:=[(0,_),(1,_)]) Tryz.func167 rfl Tryz.ntmps167 rfl rfl (qN rfl (KU rfl rfl (MH rfl (cs:=UG p) rfl) ?_))
 rintro _ w1 ⟨b3,rfl,dZ,ad,ao⟩
 refine KU rfl rfl (N3 (cs:=[_,_]) Ns rfl) ?_
 rintro _ w2 ⟨b4,rfl,gh,af,aJ⟩
 have z1:=ad.size
 have z2:=af.size
 have cV:=af.KN ao
 refine KO rfl (py (run_seq (KL (qN rfl (An rfl (qV (LQ Oz rfl rfl) (KO rfl (py (KH rfl (qN rfl (qV (Lj (news:=UG p) TQ rfl P3 rfl (cV.cells (n:=3) rfl) rfl) (La [.tmp 15] ZV rfl (OU p hp w2) ?_))))))))))))
 rintro _ w3 ⟨rfl,ah⟩
 refine qV (M0 rfl rfl) (KO rfl ?_)
 have cE:=(ad.trans af).trans ah
 have h3:OQ w3 r s a:=⟨cE.KN h.1,h.2⟩
 refine py (KH rfl (It (KM (qN rfl (An rfl (La [.tmp 19] Tn rfl (P8 h3) ?_))))))
 rintro _ w4 ⟨rfl,rfl⟩
 refine KO rfl (qM rfl (An rfl (qV (Lj (news:=[.int .u8 1,L5 0]) Nv rfl Mj rfl ((cE.KN hG).cells (n:=2) rfl) rfl) (La [.tmp 22,.tmp 23] z62 rfl (TT h3 .gamma n trivial (by simp only[Cd.most];omega) _ hb) ?_))))
 rintro _ w5 ⟨rfl,h5,aj⟩
 have gD:=Nn hb
 have bN:=aj.KN (ah.KN cV) (by omega)
 have aK:=aj.KN (ah.KN aJ) (by omega)
 have cu:Kp (fun k=>k=r) w w5:=cE.kp.trans aj
 replace bN:KY w5 b3 [I (p.Lf:Int),I (p.interval:Int),I (p.zeta:Int)] 245:=bN
 refine An rfl (qV (Lu rfl rfl) (qV (Lu rfl rfl) (KO rfl (KO rfl (qM rfl (KO rfl (py (run_seq (qN rfl (An rfl (qV (Mr rfl rfl) (An rfl ?_))))))))))))
 rcases Nat.eq_zero_or_pos n with e0|e0
 ·have ri:=mg e0;subst e0;subst ri;refine An rfl (qV (LU rfl rfl) (Ly (qV (LR rfl rfl) (An rfl (qS (qS (qS (qV (Ls rfl rfl) (py (Ll.qb (e:=[(0,_),(3,_),(4,_),(5,_),(6,_),(7,_),(8,_),(9,_),(37,_)]) ?_))))))))));refine KH rfl (It (run_seq (qN rfl (An rfl (qV (M0 rfl rfl) (An rfl (An rfl (qV (LU rfl rfl) (Ly (qV (Ls rfl rfl) (An rfl (An rfl (qV (KT Od rfl) ?_)))))))))))));refine qV (KS U3 rfl rfl bN rfl) (qV ((by first|exact LF rfl U3 Mq (by omega)|exact N0 rfl U3 Mq)) ?_);refine qV (LU rfl rfl) (Ly (qV (Ls rfl rfl) (py (KH rfl (It (qN rfl (An rfl (qV (Lw rfl Mq U3 (by omega)) (An rfl (qV (Lw rfl Mq U3 (by omega)) (qV (NA (parts:=[(0,.tmp 62),(1,.tmp 64)]) (cs:=[_,_]) Ns rfl z5g rfl rfl) (L0 rfl (Lz (news:=[I ((0:Nat):Int),I (((0:Nat)):Int)]) Ns rfl rfl rfl rfl aK (by simp)) ?_))))))))))));rintro w9 ⟨bI,aL⟩;replace bI:KY w9 b4 [I ((0:Nat):Int),I (((0:Nat)):Int)] 239:=bI;refine KO rfl (py (Ll.qb (e:=[(4,_),(5,_)]) ?_));refine Lh Tryz.func167 (.cell YS rfl Ns rfl (KY.cells (n:=2) bI (news:=[_,_]) rfl) rfl (.tmp rfl .nil)) ?_;rw[if_pos rfl,show(Ld [((.gamma,0):Cd×Nat)]).length=(Cd.enc .gamma 0).length by rw[LI,List.length_append];rfl];refine⟨_,rfl,rfl,⟨aL.KN h5.1 (by omega),h5.2⟩,cu.KK aL (fun k e=> .inl (by omega))⟩
 ·rw[if_neg (by omega)] at gD⊢;rcases Nat.eq_zero_or_pos p.Lf with e1|e1
  ·have ri:=mh e1;subst ri;rw[if_neg (by omega)] at gD⊢;refine An rfl (qV (LU rfl rfl) (MR (qV (LR rfl rfl) (An rfl (qV (KT Od rfl) (qV (KS U3 rfl rfl bN rfl) (qV (LU rfl rfl) (Ly (qV (LR rfl rfl) (py (Ll.qb (e:=[(0,_),(3,_),(4,_),(5,_),(6,_),(7,_),(8,_),(9,_),(37,_)]) ?_)))))))))));refine KH rfl (It (run_seq (qN rfl (An rfl (qV (M0 rfl rfl) (An rfl (An rfl (qV (LU rfl rfl) (Ly (qV (Ls rfl rfl) (An rfl (An rfl (qV (KT Od rfl) ?_)))))))))))));refine qV (KS U3 rfl rfl bN rfl) (qV ((by first|exact LF rfl U3 Mq (by omega)|exact N0 rfl U3 Mq)) ?_);refine qV (LU rfl rfl) (Ly (qV (Ls rfl rfl) (py (KH rfl (It (qN rfl (An rfl (qV (Lw rfl Mq U3 (by omega)) (An rfl (qV (Lw rfl Mq U3 (by omega)) (qV (NA (parts:=[(0,.tmp 62),(1,.tmp 64)]) (cs:=[_,_]) Ns rfl z5g rfl rfl) (L0 rfl (Lz (news:=[I (n:Int),I (((0:Nat)):Int)]) Ns rfl rfl rfl rfl aK (by simp)) ?_))))))))))));rintro w9 ⟨bI,aL⟩;replace bI:KY w9 b4 [I (n:Int),I (((0:Nat)):Int)] 239:=bI;refine KO rfl (py (Ll.qb (e:=[(4,_),(5,_)]) ?_));refine Lh Tryz.func167 (.cell YS rfl Ns rfl (KY.cells (n:=2) bI (news:=[_,_]) rfl) rfl (.tmp rfl .nil)) ?_;rw[show(Ld [((.gamma,n):Cd×Nat)]).length=(Cd.enc .gamma n).length by rw[LI,List.length_append];rfl];refine⟨_,rfl,rfl,⟨aL.KN h5.1 (by omega),h5.2⟩,cu.KK aL (fun k e=> .inl (by omega))⟩
  ·rw[if_pos e1] at gD⊢;rw[LI,List.append_assoc] at gD;refine An rfl (qV (LU rfl rfl) (MR (qV (LR rfl rfl) (An rfl (qV (KT Od rfl) (qV (KS U3 rfl rfl bN rfl) (qV (LU rfl rfl) (MR (qV (LR rfl rfl) (py (Ll.qb (e:=[(0,_),(3,_),(4,_),(5,_),(6,_),(7,_),(8,_),(9,_),(37,_)]) ?_)))))))))));refine L3 rfl (KQ rfl (An rfl (qV (Lj (news:=[.int .u8 0,L5 0]) Nv rfl Mj rfl ((cu.KN hU dz).cells (n:=2) rfl) rfl) (La [.tmp 39,.tmp 40] z62 rfl (TT h5 .unary q trivial (by simp only[Cd.most];omega) _ gD) ?_))));rintro _ w6 ⟨rfl,h6,aT⟩;have gO:=aT.KN bN (by omega);have bJ:=aT.KN aK (by omega);have rj:=cu.trans aT;refine An rfl (qV (Lu rfl rfl) (qV (Lu rfl rfl) (KO rfl (KO rfl (py (run_seq (qN rfl (An rfl (qV (M0 rfl rfl) (An rfl (An rfl (qV (LU rfl rfl) (Ly ?_)))))))))))));refine qV (Ls rfl rfl) (An rfl (An rfl (qV (KT Od rfl) (qV (KS U3 rfl rfl gO rfl) (qV ((by first|exact LF rfl U3 Mq (by omega)|exact N0 rfl U3 Mq)) ?_)))));refine qV (LU rfl rfl) (Ly (qV (Ls rfl rfl) (py (Ll.qb (e:=[(0,_),(4,_),(5,_),(6,_),(7,_),(9,_),(56,_)]) ?_))));refine KH rfl (It (qN rfl (An rfl (qV (Lw rfl Mq U3 (by omega)) (An rfl (qV (Lw rfl Mq U3 (by omega)) (qV (NA (parts:=[(0,.tmp 62),(1,.tmp 64)]) (cs:=[_,_]) Ns rfl z5g rfl rfl) (L0 rfl (Lz (news:=[I (n:Int),I (q:Int)]) Ns rfl rfl rfl rfl bJ (by simp)) ?_))))))));rintro w9 ⟨bI,aL⟩;replace bI:KY w9 b4 [I (n:Int),I (q:Int)] 239:=bI;refine KO rfl (py (Lh Tryz.func167 (.cell YS rfl Ns rfl (KY.cells (n:=2) bI (news:=[_,_]) rfl) rfl (.tmp rfl .nil)) ?_));rw[show(Ld [((.gamma,n):Cd×Nat),(.unary,q)]).length=(Cd.enc .gamma n).length+(Cd.enc .unary q).length by rw[LI,LI,List.length_append,List.length_append];rfl,<-Nat.add_assoc];refine⟨_,rfl,rfl,⟨aL.KN h6.1 (by omega),h6.2⟩,rj.KK aL (fun k e=> .inl (by omega))⟩
structure LW where
 Lf:Nat
 chain:Nat
 interval:Nat
 zeta:Nat
 most:Nat
def LW.list (p:LW):Nc:=⟨p.Lf,p.interval,p.zeta⟩
def LW.M3 (p:LW):Prop:=p.list.M3/\p.chain<=16/\p.most<=65536
def Qf (p:LW):List Value:=[I (p.Lf:Int),I (p.chain:Int),I (p.interval:Int),I (p.zeta:Int),I (p.most:Int)]
abbrev bpV (p:LW):Value:= .agg (Qf p).toArray
theorem NZ (p:LW)(w:World):Lk Tryz.prog 132 [bpV p] w fun u w'=>u=lpV p.list/\Ext w w':=by
 refine KJ (e:=[(0,_)]) Tryz.func132 rfl Tryz.ntmps132 rfl rfl (qN rfl (KU rfl rfl (MH rfl (cs:=Qf p) rfl) ?_))
 rintro _ w1 ⟨b1,rfl,bS,ad,ai⟩
 refine KU rfl rfl (N3 (cs:=[_,_,_]) P3 rfl) ?_
 rintro _ w2 ⟨b2,rfl,bT,af,ak⟩
 have aZ:=af.KN ai
 replace aZ:KY w2 b1 [I (p.Lf:Int),I (p.chain:Int),I (p.interval:Int),I (p.zeta:Int),I (p.most:Int)] 77:=aZ
 refine qM rfl (qV (KT Ve rfl) (qV (KS U3 rfl rfl aZ rfl) (qV (KT z5Q rfl) (qV (KS U3 rfl rfl aZ rfl) (qV (KT z5G rfl) (qV (KS U3 rfl rfl aZ rfl) (qV (NA (parts:=[(0,.tmp 4),(1,.tmp 6),(2,.tmp 8)]) (cs:=[_,_,_]) P3 rfl zcL rfl rfl) (L0 rfl (Lz (news:=[I (p.Lf:Int),I (p.interval:Int),I (p.zeta:Int)]) P3 rfl rfl rfl rfl ak (by simp)) ?_))))))))
 rintro w3 ⟨ct,au⟩
 replace ct:KY w3 b2 [I (p.Lf:Int),I (p.interval:Int),I (p.zeta:Int)] 245:=ct
 refine py (Lh Tryz.func132 (.cell TQ rfl P3 rfl (KY.cells (n:=3) ct (news:=[_,_,_]) rfl) rfl .nil) ?_)
 have z1:=ad.size
 exact⟨_,rfl,rfl,(ad.trans af).KK au (fun k e=>by omega)⟩
theorem Ur (p:LW)(hp:p.M3)(w:World):Lk Tryz.prog 135 [bpV p] w fun u w'=>u=I 0/\Ext w w':=by
 obtain⟨g1,g2,g3⟩:=hp
 refine KJ (e:=[(0,_)]) Tryz.func135 rfl Tryz.ntmps135 rfl rfl (qN rfl (KU rfl rfl (MH rfl (cs:=Qf p) rfl) ?_))
 rintro _ w1 ⟨b1,rfl,bS,ad,ai⟩
 have gP:KY w1 b1 [I (p.Lf:Int),I (p.chain:Int),I (p.interval:Int),I (p.zeta:Int),I (p.most:Int)] 77:=ai
 refine KO rfl (py (run_seq (qN rfl (qV (KT TU rfl) (qV (KS U3 rfl rfl gP rfl) (qV (LX rfl rfl) (Ly (An rfl (qV (KT TU rfl) (qV (KS U3 rfl rfl gP rfl) (qV (LU rfl rfl) (Ly (qV (Ls rfl rfl) ?_)))))))))))))
 refine An rfl (qV (KT OD rfl) (qV (KS U3 rfl rfl gP rfl) (qV (LX rfl rfl) (Ly (qV (Ls rfl rfl) (An rfl (qV (KT OD rfl) (qV (KS U3 rfl rfl gP rfl) (qV (LU rfl rfl) (Ly (qV (Ls rfl rfl) (py (KH rfl ?_)))))))))))))
 refine It (qN rfl (qV (Lj VA rfl MP rfl (KY.cells (n:=5) gP (news:=[_,_,_,_,_]) rfl) rfl) (La [.tmp 21] VD rfl (NZ p w1) ?_)))
 rintro _ w2 ⟨rfl,af⟩
 refine La [.tmp 22] ZV rfl (OU p.list g1 w2) ?_
 rintro _ w3 ⟨rfl,ah⟩
 refine KO rfl (py (KP Tryz.func135 rfl ?_))
 exact⟨_,rfl,rfl,(ad.trans af).trans ah⟩
structure NL (w:World)(g n cap:Nat)(d:Array Nat):Prop where
 sl:Sl w (.slice (some ⟨g,0,none⟩) n cap) 46 1 n (d.toList.map Lp)
 size:d.size=n
abbrev Mc (x y:Nat):Bool:=decide (x<y)
theorem SN:Go.Sort.SWO Mc:=⟨fun x=>by simp[Mc],fun x y z h1 h2=>by simp[Mc] at*;omega,fun x y z h1 h2=>by simp[Mc] at*;omega⟩
section
variable {w w':World}{g n cap:Nat}{d:Array Nat}{S:Nat->Prop}
theorem NL.ext (h:NL w g n cap d)(k:Ext w w'):NL w' g n cap d:=⟨h.sl.ext k,h.size⟩
theorem NL.kp (h:NL w g n cap d)(k:Kp S w w')(hg:¬S g):NL w' g n cap d:=⟨h.sl.kp k (fun g' e=>by cases e;exact hg),h.size⟩
theorem NL.get {i:Nat}(h:NL w g n cap d)(hi:i<n):w.cell? ⟨g,0+i*1,none⟩=some (Lp d[i]!):=by
 have hs:=h.size
 refine LV h.sl.rd ?_
 rw[List.getElem?_map,Array.getElem?_toList,Array.getElem?_eq_getElem (by omega)]
 rw[getElem!_pos d i (by omega)]
 rfl
theorem NL.UM {j:Nat}(h:NL w g n cap d)(hj:j<n):j<(d.toList.map Lp).length:=by
 have hs:=h.size
 rw[List.length_map,Array.length_toList];omega
theorem NL.set {i y:Nat}(h:NL w g n cap d)(hS:Sl w' (.slice (some ⟨g,0,none⟩) n cap) 46 1 n ((d.toList.map Lp).set (0+i*1) (Lp y))):NL w' g n cap (d.setIfInBounds i y):=by
 refine⟨?_,by rw[Array.size_setIfInBounds,h.size]⟩
 rw[Array.toList_setIfInBounds,List.map_set]
 rw[show 0+i*1=i by omega] at hS
 exact hS
end
theorem z2W (x:Nat)(w:World):Lk Tryz.prog 238 [Lp x] w fun u w'=>u= .bool false/\w'=w:=by
 refine KJ (e:=[(0,_)]) Tryz.func238 rfl Tryz.ntmps238 rfl rfl (qN rfl (KO rfl (qM rfl (An rfl (An rfl (qV (M0 rfl rfl) (KO rfl (py (KP Tryz.func238 rfl ?_)))))))))
 exact⟨_,rfl,by simp[resVal],rfl⟩
theorem Nb (x y:Nat)(w:World):Lk Tryz.prog 229 [Lp x,Lp y] w fun u w'=>u= .bool (Mc x y)/\w'=w:=by
 refine KJ (e:=[(0,_),(1,_)]) Tryz.func229 rfl Tryz.ntmps229 rfl rfl (qN rfl (KO rfl (qM rfl (An rfl (La [.tmp 5] zab rfl (z2W x w) ?_)))))
 rintro _ w ⟨rfl,rfl⟩
 refine An rfl (qS (qS (qS (qV (Ls rfl rfl) (An rfl (An rfl (An rfl (qV (LX rfl rfl) (qV (Ls rfl rfl) (KO rfl (py (KP Tryz.func229 rfl ?_))))))))))))
 exact⟨_,rfl,by simp[Mc,resVal],rfl⟩
section
variable (a b j i:Nat)(d:Array Nat)
theorem Yl (hj:a<j)(hl:Mc d[j]! d[j-1]! =true):Go.Sort.insInner Mc a j d=Go.Sort.insInner Mc a (j-1) (Go.Sort.swp d j (j-1)):=by
 obtain⟨k,rfl⟩:∃k,j=k+1:=⟨j-1,by omega⟩
 rw[Go.Sort.insInner]
 simp only[Nat.add_sub_cancel] at hl⊢
 rw[if_pos]
 rw[Bool.and_eq_true];exact⟨by simpa using hj,hl⟩
theorem S7 (h:j<=a\/Mc d[j]! d[j-1]! =false):Go.Sort.insInner Mc a j d=d:=by
 cases j with
 |zero=>rw[Go.Sort.insInner]
 | succ k =>
   rw[Go.Sort.insInner];simp only[Nat.add_sub_cancel] at h;rw[if_neg];intro hc;rw[Bool.and_eq_true] at hc;rcases h with h| h
   ·have:=of_decide_eq_true hc.1;omega
   ·rw[h] at hc;cases hc.2
theorem YL (h:i<b):Go.Sort.insOuter Mc a b i d=Go.Sort.insOuter Mc a b (i+1) (Go.Sort.insInner Mc a i d):=by rw[Go.Sort.insOuter,if_pos h]
theorem Wx (h:¬i<b):Go.Sort.insOuter Mc a b i d=d:=by rw[Go.Sort.insOuter,if_neg h]
end
theorem WA {w:World}{g n cap:Nat}{d:Array Nat}(h:NL w g n cap d)(a b:Nat)(iZ:a<=b)(hb:b<=n)(hn:n<=65536):
  Lk Tryz.prog 223 [.slice (some ⟨g,0,none⟩) n cap,I (a:Int),I (b:Int)] w fun u w'=>u= .tuple #[]/\NL w' g n cap (Go.Sort.insertionSort Mc d a b)/\Kp (fun k=>k=g) w w':=by
 refine KJ (e:=[(0,_),(1,_),(2,_)]) Tryz.func223 rfl Tryz.ntmps223 rfl rfl (qN rfl (An rfl (LH rfl rfl (KO rfl (py (KL (MV (α:=Nat×Array Nat) ((a+1,d)) (fun y=>[(0,.slice (some ⟨g,0,none⟩) n cap),(1,I (a:Int)),(2,I (b:Int)),(6,I (y.1:Int))]) (fun y w'=>NL w' g n cap y.2/\Kp (fun k=>k=g) w w'/\Go.Sort.insOuter Mc a b y.1 y.2=Go.Sort.insertionSort Mc d a b/\a<y.1) (fun y=>b-y.1) ?hI ?hround)))))))
 case hI=>exact⟨h,Kp.refl _ _,rfl,Nat.lt_succ_self a⟩
 case hround=>
  rintro⟨i,d4⟩ w4 ⟨dE,aw,ck,nW⟩ ih;dsimp only at dE aw ck nW
  try dsimp only
  refine run_seq (qN rfl (An rfl (An rfl (qV (LX rfl rfl) (py (KZ rfl (fun h0=>?_) (fun h0=>?_)))))))
  ·rw[YL _ _ _ _ (by omega)] at ck;refine It (run_seq (KL (qN rfl (An rfl (KO rfl (py (KL (MV (α:=Nat×Array Nat) ((i,d4)) (fun y=>[(0,.slice (some ⟨g,0,none⟩) n cap),(1,I (a:Int)),(2,I (b:Int)),(6,I (i:Int)),(7,I (y.1:Int))]) (fun y w'=>NL w' g n cap y.2/\Kp (fun k=>k=g) w w'/\Go.Sort.insInner Mc a y.1 y.2=Go.Sort.insInner Mc a i d4/\y.1<=i/\a<=y.1) (fun y=>y.1) ?hI ?hround))))))))
   case hI=>exact⟨dE,aw,rfl,Nat.le_refl _,by dsimp only;omega⟩
   case hround=>
    rintro⟨j,d5⟩ w5 ⟨aS,aj,bO,Gq,Ag⟩ ih2;dsimp only at aS aj bO Gq Ag
    try dsimp only
    have hg:=Ext.Lb w5;rcases Nat.lt_or_ge a j with hj|hj
    ·refine run_seq (run_seq (KV (fun w'=>Ext w5 w') (by kernel_rfl) rfl (KR 0 rfl (KW rfl) hg (KR 1 rfl (KW rfl) hg (KR 2 rfl (LU rfl rfl) hg (OL (KR 3 rfl (KW rfl) hg (KR 4 rfl (KW rfl) hg (KR 5 rfl (KW rfl) hg (KR 6 rfl (LC Li L8 rfl rfl (by omega)) hg (KR 8 rfl (KW rfl) hg (KR 9 rfl (KW rfl) hg (KR 10 rfl (Md rfl rfl (by omega)) hg ?_)))))))))))));rw[show(j:Int)-1=((j-1:Nat):Int) by omega];refine qT 7 rfl (fun _ h=>Lm Mk rfl rfl ((aS.ext h).get (i:=j) (by omega))) hg (KR 11 rfl (LC Li L8 rfl rfl (by omega)) hg (qT 12 rfl (fun _ h=>Lm Mk rfl rfl ((aS.ext h).get (i:=j-1) (by omega))) hg (O2 13 [.tmp 23,.tmp 28] rfl QS rfl (Nb _ _ _) ?_)));rintro _ w6 ⟨rfl,rfl⟩;refine⟨hg,?_⟩;refine KR 14 rfl (LR rfl rfl) hg (qE ?_);have ov:=aS.ext hg;refine LO rfl (fun h1=>?_) (fun h1=>?_)
     ·refine It (run_seq (KL ?_));have ay:=Ext.Lb w5.drew;refine Le [15,17] (fun w'=>Ext w5.drew w') (by kernel_rfl) rfl (qL [14,15,16,17] 0 rfl (fun _ h=>KW rfl) ay (qL [14,15,16,17] 1 rfl (fun _ h=>KW rfl) ay (LP (i:=2) rfl (by kernel_rfl) rfl rfl (fun _=>KW rfl) (ay) (LP (i:=3) rfl (by kernel_rfl) rfl rfl (fun _=>KW rfl) (ay) (LP (i:=4) rfl (by kernel_rfl) rfl rfl (fun _=>Md rfl rfl (by omega)) (ay) (qL [8,9,14,15,16,17] 5 rfl (fun _ h=>KW rfl) ay (qL [7,8,9,14,15,16,17] 6 rfl (fun _ h=>KW rfl) ay (qL [8,9,14,15,16,17] 7 rfl (fun _ h=>Md rfl rfl (by omega)) ay (qL [12,13,14,15,16,17] 10 rfl (fun _ h=>KW rfl) ay (qL [12,13,14,15,16,17] 11 rfl (fun _ h=>KW rfl) ay (qL [13,14,15,16,17] 12 rfl (fun _ h=>LC Li L8 rfl rfl (by omega)) ay ?_)))))))))));rw[show(j:Int)-1=((j-1:Nat):Int) by omega];refine qL [9,14,15,16,17] 8 rfl (fun _ h=>LC Li L8 rfl rfl (by omega)) ay (qL [14,15,16,17] 9 rfl (fun _ h=>Lm Mk rfl rfl ((ov.ext h).get (i:=j-1) (by omega))) ay (qL [14,15,16,17] 13 rfl (fun _ h=>Lm Mk rfl rfl ((ov.ext h).get (i:=j) (by omega))) ay (qL [15,16,17] 14 rfl (fun _ h=>LC Li L8 rfl rfl (by omega)) ay (LD [15] (by kernel_rfl) (by kernel_rfl) (qO 15 (Lv (i:=15) rfl rfl (MY L8 rfl rfl rfl (ov.ext ay).sl ((ov.ext ay).UM (by omega))) ?_))))));rintro w7a ⟨fw,fx⟩;refine⟨trivial,?_⟩;have cw:=(ov.ext ay).set fw;refine KR 16 rfl (LC Li L8 rfl rfl (by omega)) trivial (qO 17 (Lv (i:=17) rfl rfl (MY L8 rfl rfl rfl cw.sl (cw.UM (by omega))) ?_));rintro w7 ⟨gQ,jr⟩;refine⟨trivial,?_⟩;have js:=cw.set gQ;have fA:Kp (fun k=>k=g) w5.drew w7:=ay.kp.trans (fx.trans jr);refine qE (KM (KQ rfl (An rfl (qV (Md rfl rfl (by omega)) (KO rfl (py ?_))))));rw[show(j:Int)-1=((j-1:Nat):Int) by omega];refine(ih2 (j-1,Go.Sort.swp d5 j (j-1)) _ ⟨js,(aj.trans hg.kp).trans fA,?_,by dsimp only;omega,by dsimp only;omega⟩ (by dsimp only;omega)).qb;dsimp only;rw[<-bO,Yl a j d5 hj h1]
     ·refine KX rfl (KM (KQ rfl (An rfl (LH rfl rfl (KO rfl (py ?_))))));rw[S7 a j d5 (.inr (by simpa using h1))] at bO;refine(ih (i+1,d5) _ ⟨ov,aj.trans hg.kp,?_,by dsimp only;omega⟩ (by dsimp only;omega)).qb;dsimp only;rw[bO];exact ck
    ·refine run_seq (run_seq (KV (fun w'=>Ext w5 w') (by kernel_rfl) rfl (KR 0 rfl (KW rfl) hg (KR 1 rfl (KW rfl) hg (KR 2 rfl (LU rfl rfl) hg (PA (KR 3 rfl (KW rfl) hg (qJ 4 rfl (hg) (qJ 5 rfl (hg) (qJ 6 rfl (hg) (qJ 7 rfl (hg) (qJ 8 rfl (hg) (qJ 9 rfl (hg) ?_)))))))))))));refine qJ 10 rfl (hg) (qJ 11 rfl (hg) (qJ 12 rfl (hg) (qJ 13 rfl (hg) (KR 14 rfl (Ls rfl rfl) hg (qE (KH rfl (KX rfl (KM (KQ rfl (An rfl (LH rfl rfl (KO rfl (py ?_)))))))))))));rw[S7 a j d5 (.inl hj)] at bO;refine(ih (i+1,d5) _ ⟨aS.ext hg,aj.trans hg.kp,?_,by dsimp only;omega⟩ (by dsimp only;omega)).qb;dsimp only;rw[bO];exact ck
  ·rw[Wx _ _ _ _ (by omega)] at ck;refine KX rfl (M8 Tryz.func223 rfl ?_);exact⟨_,rfl,rfl,ck▸dE,aw⟩
section
variable (hi first root:Nat)(d:Array Nat)
def TN:Nat:=if 2*root+1+1<hi&&Mc d[first+(2*root+1)]! d[first+(2*root+1)+1]! then 2*root+2 else 2*root+1
theorem z2I (h:hi<=2*root+1):Go.Sort.siftDown Mc hi first root d=d:=by rw[Go.Sort.siftDown,dif_pos h]
theorem z78 (h:2*root+1<hi):Go.Sort.siftDown Mc hi first root d=if Mc d[first+root]! d[first+TN hi first root d]! then Go.Sort.siftDown Mc hi first (TN hi first root d) (Go.Sort.swp d (first+root) (first+TN hi first root d)) else d:=by
 rw[Go.Sort.siftDown,dif_neg (by omega)]
 unfold TN
 by_cases h1:(decide (2*root+1+1<hi)&&Mc d[first+(2*root+1)]! d[first+(2*root+1)+1]!)=true
 ·rw[if_pos h1,if_pos h1];rw[Bool.and_eq_true] at h1;have h2:2*root+2<hi:=of_decide_eq_true h1.1;rw[dif_pos h2];cases Mc d[first+root]! d[first+(2*root+2)]!<;>rfl
 ·rw[if_neg h1,if_neg h1];cases Mc d[first+root]! d[first+(2*root+1)]!<;>rfl
theorem z7j (h:2*root+1<hi):root<TN hi first root d/\TN hi first root d<hi:=by
 unfold TN
 split
 ·rename_i h1
  rw[Bool.and_eq_true] at h1;have h2:2*root+2<hi:=of_decide_eq_true h1.1;omega
 ·omega
end
theorem ZN {w:World}{g n cap:Nat}{d:Array Nat}(h:NL w g n cap d)(lo hi first:Nat)(hf:first+hi<=n)(tC:lo<=65536)(hn:n<=65536):
  Lk Tryz.prog 233 [.slice (some ⟨g,0,none⟩) n cap,I (lo:Int),I (hi:Int),I (first:Int)] w fun u w'=>u= .tuple #[]/\NL w' g n cap (Go.Sort.siftDown Mc hi first lo d)/\Kp (fun k=>k=g) w w':=by
 refine KJ (e:=[(0,_),(1,_),(2,_),(3,_)]) Tryz.func233 rfl Tryz.ntmps233 rfl rfl (qN rfl (An rfl (KO rfl (py (KL (MV (α:=Nat×Array Nat) ((lo,d)) (fun y=>[(0,.slice (some ⟨g,0,none⟩) n cap),(2,I (hi:Int)),(3,I (first:Int)),(8,I (y.1:Int))]) (fun y w'=>NL w' g n cap y.2/\Kp (fun k=>k=g) w w'/\Go.Sort.siftDown Mc hi first y.1 y.2=Go.Sort.siftDown Mc hi first lo d/\y.1<=65536) (fun y=>hi-y.1) ?hI ?hround))))))
 case hI=>exact⟨h,Kp.refl _ _,rfl,tC⟩
 case hround=>
  rintro⟨root,d4⟩ w4 ⟨dE,aw,ck,bC⟩ ih;dsimp only at dE aw ck bC
  try dsimp only
  refine KL (qN rfl (An rfl (qV (Tu rfl rfl (by omega)) (LH rfl rfl (KO rfl (py (run_seq (qN rfl ?_))))))));rw[show 2*(root:Int)+1=((2*root+1:Nat):Int) by omega];refine An rfl (An rfl (qV (Ou rfl rfl) (py (KZ rfl (fun h0=>?_) (fun h0=>?_)))))
  ·rw[z2I _ _ _ _ (by omega)] at ck;refine KX rfl (M8 Tryz.func233 rfl ?_);exact⟨_,rfl,rfl,ck▸dE,aw⟩
  ·have hc:=z7j hi first root d4 (by omega);rw[z78 _ _ _ _ (by omega)] at ck;have hg:=Ext.Lb w4;have rk:=dE.ext hg;refine It (run_seq (run_seq ?_))
   generalize ox:(decide (2*root+1+1<hi)&&Mc d4[first+(2*root+1)]! d4[first+(2*root+1)+1]!)=sel
   refine Lx (fun e' w'=>e'=[(0,.slice (some ⟨g,0,none⟩) n cap),(2,I (hi:Int)),(3,I (first:Int)),(8,I (root:Int)),(9,I ((2*root+1:Nat):Int)),(36,.bool sel)]/\w'=w4.drew) ?ey (fun ey=>?fk)
   case ey=>
    rintro e' w5 ⟨rfl,rfl⟩;refine Lx (fun e' w'=>e'=[(0,.slice (some ⟨g,0,none⟩) n cap),(2,I (hi:Int)),(3,I (first:Int)),(8,I (root:Int)),(9,I (TN hi first root d4:Int))]/\w'=w4.drew) ?ar (fun ar=>?dJ)
    case ar=>
     rintro e' w5 ⟨rfl,rfl⟩
     generalize TN hi first root d4=c at hc ck
     have dG:=Ext.Lb w4.drew;have kK:=rk.ext dG;refine run_seq (run_seq (KV (fun w'=>Ext w4.drew w') (by kernel_rfl) rfl (KR 0 rfl (KW rfl) dG (KR 1 rfl (KW rfl) dG (KR 2 rfl (KW rfl) dG (KR 3 rfl (PM rfl rfl (by omega)) dG (KR 4 rfl (LC Li L8 rfl rfl (by omega)) dG (KR 6 rfl (KW rfl) dG (KR 7 rfl (KW rfl) dG (KR 8 rfl (KW rfl) dG (KR 9 rfl (PM rfl rfl (by omega)) dG (KR 10 rfl (LC Li L8 rfl rfl (by omega)) dG (qT 5 rfl (fun _ h=>Lm Mk rfl rfl ((rk.ext h).get (i:=first+root) (by omega))) dG ?_)))))))))))));refine qT 11 rfl (fun _ h=>Lm Mk rfl rfl ((rk.ext h).get (i:=first+c) (by omega))) dG (O2 12 [.tmp 44,.tmp 50] rfl QS rfl (Nb _ _ _) ?_);rintro _ w6 ⟨rfl,rfl⟩;refine⟨dG,?_⟩;refine KR 13 rfl ((by first|exact LN rfl|exact Na rfl)) dG ?_;refine qE (LO rfl (fun h1=>?_) (fun h1=>?_))
     ·rw[if_neg (by simpa using h1)] at ck;refine KP Tryz.func233 rfl ?_;exact⟨_,rfl,rfl,ck▸kK,aw.trans (hg.trans dG).kp⟩
     ·rw[if_pos (by simpa using h1)] at ck;refine It (run_seq ?_);have ay:=Ext.Lb w4.drew.drew;refine Le [21,23] (fun w'=>Ext w4.drew.drew w') (by kernel_rfl) rfl (qL [20,21,22,23] 0 rfl (fun _ h=>KW rfl) ay (qL [3,20,21,22,23] 1 rfl (fun _ h=>KW rfl) ay (qL [3,20,21,22,23] 2 rfl (fun _ h=>KW rfl) ay (qL [20,21,22,23] 3 rfl (fun _ h=>PM rfl rfl (by omega)) ay (LP (i:=4) rfl (by kernel_rfl) rfl rfl (fun _=>KW rfl) (ay) (LP (i:=5) rfl (by kernel_rfl) rfl rfl (fun _=>KW rfl) (ay) (LP (i:=6) rfl (by kernel_rfl) rfl rfl (fun _=>KW rfl) (ay) (LP (i:=7) rfl (by kernel_rfl) rfl rfl (fun _=>PM rfl rfl (by omega)) (ay) (qL [12,13,20,21,22,23] 8 rfl (fun _ h=>KW rfl) ay (qL [11,12,13,20,21,22,23] 9 rfl (fun _ h=>KW rfl) ay (qL [11,12,13,20,21,22,23] 10 rfl (fun _ h=>KW rfl) ay (qL [12,13,20,21,22,23] 11 rfl (fun _ h=>PM rfl rfl (by omega)) ay (qL [13,20,21,22,23] 12 rfl (fun _ h=>LC Li L8 rfl rfl (by omega)) ay ?_)))))))))))));refine qL [18,19,20,21,22,23] 14 rfl (fun _ h=>KW rfl) ay (qL [17,18,19,20,21,22,23] 15 rfl (fun _ h=>KW rfl) ay (qL [17,18,19,20,21,22,23] 16 rfl (fun _ h=>KW rfl) ay (qL [18,19,20,21,22,23] 17 rfl (fun _ h=>PM rfl rfl (by omega)) ay (qL [19,20,21,22,23] 18 rfl (fun _ h=>LC Li L8 rfl rfl (by omega)) ay (qL [20,21,22,23] 13 rfl (fun _ h=>Lm Mk rfl rfl ((kK.ext h).get (i:=first+c) (by omega))) ay (qL [20,21,22,23] 19 rfl (fun _ h=>Lm Mk rfl rfl ((kK.ext h).get (i:=first+root) (by omega))) ay (qL [21,22,23] 20 rfl (fun _ h=>LC Li L8 rfl rfl (by omega)) ay (LD [21] (by kernel_rfl) (by kernel_rfl) (qO 21 (Lv (i:=21) rfl rfl (MY L8 rfl rfl rfl (kK.ext ay).sl ((kK.ext ay).UM (by omega))) ?_))))))))));rintro w7a ⟨fw,fx⟩;refine⟨trivial,?_⟩;have cw:=(kK.ext ay).set fw;refine KR 22 rfl (LC Li L8 rfl rfl (by omega)) trivial (qO 23 (Lv (i:=23) rfl rfl (MY L8 rfl rfl rfl cw.sl (cw.UM (by omega))) ?_));rintro w7 ⟨gQ,jr⟩;refine⟨trivial,?_⟩;have js:=cw.set gQ;have fA:Kp (fun k=>k=g) w4.drew.drew w7:=ay.kp.trans (fx.trans jr);refine qE (KQ rfl (An rfl (KO rfl (py (KM ((ih (c,Go.Sort.swp d4 (first+root) (first+c)) _ ⟨js,(aw.trans (hg.trans dG).kp).trans fA,ck,by dsimp only;omega⟩ (by dsimp only;omega)).qb))))))
    case dJ=>
     refine LO rfl (fun h1=>?_) (fun h1=>?_)
     ·refine KQ rfl (An rfl (LH rfl rfl (KO rfl (py ?_))));rw[show((2*root+1:Nat):Int)+1=(TN hi first root d4:Int) by unfold TN;rw[ox,if_pos h1];omega];exact(ar _ _ ⟨rfl,rfl⟩).qb
     ·refine It ?_;rw[show((2*root+1:Nat):Int)=(TN hi first root d4:Int) by unfold TN;rw[ox,if_neg (by rw[h1];decide)]];exact(ar _ _ ⟨rfl,rfl⟩).qb
   case fk=>
    rcases Nat.lt_or_ge (2*root+1+1) hi with hj|hj
    ·refine KV (fun w'=>Ext w4 w') (by kernel_rfl) rfl (KR 0 rfl (KW rfl) hg (KR 1 rfl (PM rfl rfl (by omega)) hg (KR 2 rfl (KW rfl) hg (KR 3 rfl (LX rfl rfl) hg (OL (KR 4 rfl (KW rfl) hg (KR 5 rfl (KW rfl) hg (KR 6 rfl (KW rfl) hg (KR 7 rfl (KW rfl) hg (KR 8 rfl (PM rfl rfl (by omega)) hg (KR 9 rfl (LC Li L8 rfl rfl (by omega)) hg (KR 11 rfl (KW rfl) hg (KR 12 rfl (KW rfl) hg ?_)))))))))))));refine KR 13 rfl (KW rfl) hg (KR 14 rfl (PM rfl rfl (by omega)) hg (KR 15 rfl (PM rfl rfl (by omega)) hg (KR 16 rfl (LC Li L8 rfl rfl (by omega)) hg (qT 10 rfl (fun _ hS=>Lm Mk rfl rfl ((dE.ext hS).get (i:=first+(2*root+1)) (by omega))) hg (qT 17 rfl (fun _ hS=>Lm Mk rfl rfl ((dE.ext hS).get (i:=first+(2*root+1)+1) (by omega))) hg (O2 18 [.tmp 27,.tmp 34] rfl QS rfl (Nb _ _ _) ?_))))));rintro _ w6 ⟨rfl,rfl⟩;refine⟨hg,?_⟩;refine KR 19 rfl (LR rfl rfl) hg (qE ?_);rw[show Mc d4[first+(2*root+1)]! d4[first+(2*root+1)+1]! =sel by rw[<-ox,decide_eq_true hj,Bool.true_and]];exact(ey _ _ ⟨rfl,rfl⟩).qb
    ·refine KV (fun w'=>Ext w4 w') (by kernel_rfl) rfl (KR 0 rfl (KW rfl) hg (KR 1 rfl (PM rfl rfl (by omega)) hg (KR 2 rfl (KW rfl) hg (KR 3 rfl (LX rfl rfl) hg (PA (KR 4 rfl (KW rfl) hg (qJ 5 rfl (hg) (qJ 6 rfl (hg) (qJ 7 rfl (hg) (qJ 8 rfl (hg) (qJ 9 rfl (hg) (qJ 10 rfl (hg) (qJ 11 rfl (hg) ?_)))))))))))));refine qJ 12 rfl (hg) (qJ 13 rfl (hg) (qJ 14 rfl (hg) (qJ 15 rfl (hg) (qJ 16 rfl (hg) (qJ 17 rfl (hg) (qJ 18 rfl (hg) (KR 19 rfl (Ls rfl rfl) hg (qE ?_))))))));have mj:sel=false:=by rw[<-ox,decide_eq_false (by omega),Bool.false_and]
     subst mj;exact(ey _ _ ⟨rfl,rfl⟩).qb
theorem z5P {w:World}{g n cap:Nat}{d:Array Nat}(h:NL w g n cap d)(a b:Nat)(iZ:a<b)(hb:b<=n)(hn:n<=65536):
  Lk Tryz.prog 224 [.slice (some ⟨g,0,none⟩) n cap,I (a:Int),I (b:Int)] w fun u w'=>u= .tuple #[]/\NL w' g n cap (Go.Sort.heapSort Mc d a b)/\Kp (fun k=>k=g) w w':=by
 refine KJ (e:=[(0,_),(1,_),(2,_)]) Tryz.func224 rfl Tryz.ntmps224 rfl rfl (qN rfl (An rfl (KO rfl (qM rfl (KO rfl (qM rfl (An rfl (An rfl (qV (Md rfl rfl (by omega)) (KO rfl (py (run_seq (qN rfl ?_)))))))))))))
 rw[show(b:Int)-(a:Int)=((b-a:Nat):Int) by omega]
 refine An rfl (qV (Md rfl rfl (by omega)) ?_)
 rw[show((b-a:Nat):Int)-1=((b-a-1:Nat):Int) by omega]
 refine qV (RE rfl rfl (by omega)) (KO rfl (py (KL ?_)))
 rw[show((b-a-1:Nat):Int) / 2=(((b-a-1) / 2+1:Nat):Int)-1 by omega]
 have mg:Go.Sort.heapSort Mc d a b=Go.Sort.heapPop Mc a (b-a) (Go.Sort.heapBuild Mc (b-a) a ((b-a-1) / 2+1) d):=rfl
 rw[mg]
 refine MV (α:=Nat×Array Nat) (((b-a-1) / 2+1,d)) (fun y=>[(0,.slice (some ⟨g,0,none⟩) n cap),(6,I (a:Int)),(7,I 0),(8,I ((b-a:Nat):Int)),(9,I ((y.1:Int)-1))]) (fun y w'=>NL w' g n cap y.2/\Kp (fun k=>k=g) w w'/\Go.Sort.heapBuild Mc (b-a) a y.1 y.2=Go.Sort.heapBuild Mc (b-a) a ((b-a-1) / 2+1) d/\y.1<=(b-a-1) / 2+1) (fun y=>y.1) ?hI ?hround
 case hI=>exact⟨h,Kp.refl _ _,rfl,Nat.le_refl _⟩
 case hround=>
  rintro⟨k,d4⟩ w4 ⟨dE,aw,ck,bC⟩ ih;dsimp only at dE aw ck bC
  try dsimp only
  refine run_seq (qN rfl (An rfl (qV (Ou rfl rfl) (py (KZ rfl (fun h0=>?_) (fun h0=>?_))))))
  ·obtain⟨k,rfl⟩:∃k',k=k'+1:=⟨k-1,by omega⟩;rw[show((k+1:Nat):Int)-1=(k:Int) by omega];refine It (run_seq (KL (KQ rfl (An rfl (An rfl (An rfl (An rfl (La [.tmp 22,.tmp 23,.tmp 24,.tmp 25] z8L rfl (ZN dE k (b-a) a (by omega) (by omega) hn) ?_))))))));rintro _ w5 ⟨rfl,aS,aj⟩;refine py (KM (KQ rfl (An rfl (qV (Md rfl rfl (by omega)) (KO rfl (py ?_))))));exact(ih (k,Go.Sort.siftDown Mc (b-a) a k d4) _ ⟨aS,aw.trans aj,ck,by dsimp only;omega⟩ (by dsimp only;omega)).qb
  ·have g9:k=0:=by omega
   subst g9;rw[<-ck];refine KX rfl (qN rfl (An rfl (qV (Md rfl rfl (by omega)) (KO rfl (py (KL (MV (α:=Nat×Array Nat) ((b-a,d4)) (fun y=>[(0,.slice (some ⟨g,0,none⟩) n cap),(6,I (a:Int)),(7,I 0),(10,I ((y.1:Int)-1))]) (fun y w'=>NL w' g n cap y.2/\Kp (fun k=>k=g) w w'/\Go.Sort.heapPop Mc a y.1 y.2=Go.Sort.heapPop Mc a (b-a) (Go.Sort.heapBuild Mc (b-a) a 0 d4)/\y.1<=b-a) (fun y=>y.1) ?hI ?hround)))))))
   case hI=>exact⟨dE,aw,rfl,Nat.le_refl _⟩
   case hround=>
    rintro⟨k,d5⟩ w5 ⟨aS,aj,bO,bU⟩ ih2;dsimp only at aS aj bO bU
    try dsimp only
    refine run_seq (qN rfl (An rfl (qV (Ou rfl rfl) (py (KZ rfl (fun h1=>?_) (fun h1=>?_))))))
    ·obtain⟨k,rfl⟩:∃k',k=k'+1:=⟨k-1,by omega⟩;rw[show((k+1:Nat):Int)-1=(k:Int) by omega];refine It (run_seq (KL (run_seq ?_)));have ay:=Ext.Lb w5;refine Le [17,19] (fun w'=>Ext w5 w') (by kernel_rfl) rfl (qL [16,17,18,19] 0 rfl (fun _ h=>KW rfl) ay (qL [16,17,18,19] 1 rfl (fun _ h=>KW rfl) ay (LP (i:=2) rfl (by kernel_rfl) rfl rfl (fun _=>KW rfl) (ay) (LP (i:=3) rfl (by kernel_rfl) rfl rfl (fun _=>KW rfl) (ay) (LP (i:=4) rfl (by kernel_rfl) rfl rfl (fun _=>KW rfl) (ay) (LP (i:=5) rfl (by kernel_rfl) rfl rfl (fun _=>PM rfl rfl (by omega)) (ay) (qL [10,11,16,17,18,19] 6 rfl (fun _ h=>KW rfl) ay (qL [9,10,11,16,17,18,19] 7 rfl (fun _ h=>KW rfl) ay (qL [9,10,11,16,17,18,19] 8 rfl (fun _ h=>KW rfl) ay (qL [10,11,16,17,18,19] 9 rfl (fun _ h=>PM rfl rfl (by omega)) ay (qL [11,16,17,18,19] 10 rfl (fun _ h=>LC Li L8 rfl rfl (by omega)) ay (qL [14,15,16,17,18,19] 12 rfl (fun _ h=>KW rfl) ay (qL [14,15,16,17,18,19] 13 rfl (fun _ h=>KW rfl) ay ?_)))))))))))));refine qL [15,16,17,18,19] 14 rfl (fun _ h=>LC Li L8 rfl rfl (by omega)) ay (qL [16,17,18,19] 11 rfl (fun _ h=>Lm Mk rfl rfl ((aS.ext h).get (i:=a+k) (by omega))) ay (qL [16,17,18,19] 15 rfl (fun _ h=>Lm Mk rfl rfl ((aS.ext h).get (i:=a) (by omega))) ay (qL [17,18,19] 16 rfl (fun _ h=>LC Li L8 rfl rfl (by omega)) ay (LD [17] (by kernel_rfl) (by kernel_rfl) (qO 17 (Lv (i:=17) rfl rfl (MY L8 rfl rfl rfl (aS.ext ay).sl ((aS.ext ay).UM (by omega))) ?_))))));rintro w7a ⟨fw,fx⟩;refine⟨trivial,?_⟩;have cw:=(aS.ext ay).set fw;refine KR 18 rfl (LC Li L8 rfl rfl (by omega)) trivial (qO 19 (Lv (i:=19) rfl rfl (MY L8 rfl rfl rfl cw.sl (cw.UM (by omega))) ?_));rintro w7 ⟨gQ,jr⟩;refine⟨trivial,?_⟩;have js:=cw.set gQ;have fA:Kp (fun k=>k=g) w5 w7:=ay.kp.trans (fx.trans jr);refine qE (KQ rfl (An rfl (An rfl (An rfl (An rfl (La [.tmp 51,.tmp 52,.tmp 53,.tmp 54] z8L rfl (ZN js 0 k a (by omega) (by omega) hn) ?_))))));rintro _ w8 ⟨rfl,Gs,bh⟩;refine py (KM (KQ rfl (An rfl (qV (Md rfl rfl (by omega)) (KO rfl (py ?_))))));exact(ih2 (k,Go.Sort.siftDown Mc k a 0 (Go.Sort.swp d5 a (a+k))) _ ⟨Gs,(aj.trans fA).trans bh,bO,by dsimp only;omega⟩ (by dsimp only;omega)).qb
    ·have g9:k=0:=by omega
     subst g9;rw[<-bO];refine KX rfl (M8 Tryz.func224 rfl ?_);exact⟨_,rfl,rfl,aS,aj⟩
theorem Z7 {w:World}{g n cap:Nat}{d:Array Nat}(h:NL w g n cap d)(a b:Nat)(iZ:a<b)(hb:b<=n)(hn:n<=65536):
  Lk Tryz.prog 227 [.slice (some ⟨g,0,none⟩) n cap,I (a:Int),I (b:Int)] w fun u w'=>u= .tuple #[]/\NL w' g n cap (Go.Sort.reverseRange d a b)/\Kp (fun k=>k=g) w w':=by
 refine KJ (e:=[(0,_),(1,_),(2,_)]) Tryz.func227 rfl Tryz.ntmps227 rfl rfl (qN rfl (An rfl (KO rfl (qM rfl (An rfl (qV (Md rfl rfl (by omega)) (KO rfl (py (KL ?_)))))))))
 rw[show(b:Int)-1=((b-1:Nat):Int) by omega]
 refine MV (α:=Nat×Nat×Array Nat) ((a,b-1,d)) (fun y=>[(0,.slice (some ⟨g,0,none⟩) n cap),(6,I (y.1:Int)),(7,I (y.2.1:Int))]) (fun y w'=>NL w' g n cap y.2.2/\Kp (fun k=>k=g) w w'/\Go.Sort.reverseLoop y.1 y.2.1 y.2.2=Go.Sort.reverseRange d a b/\y.2.1<n) (fun y=>y.2.1-y.1) ?hI ?hround
 case hI=>exact⟨h,Kp.refl _ _,rfl,by dsimp only;omega⟩
 case hround=>
  rintro⟨i,j,d4⟩ w4 ⟨dE,aw,ck,bC⟩ ih;dsimp only at dE aw ck bC
  try dsimp only
  refine run_seq (qN rfl (An rfl (An rfl (qV (LX rfl rfl) (py (KZ rfl (fun h0=>?_) (fun h0=>?_)))))))
  ·rw[Go.Sort.reverseLoop,if_pos (by omega)] at ck;refine It (KL (run_seq ?_));have ay:=Ext.Lb w4;refine Le [13,15] (fun w'=>Ext w4 w') (by kernel_rfl) rfl (qL [12,13,14,15] 0 rfl (fun _ h=>KW rfl) ay (qL [12,13,14,15] 1 rfl (fun _ h=>KW rfl) ay (LP (i:=2) rfl (by kernel_rfl) rfl rfl (fun _=>KW rfl) (ay) (LP (i:=3) rfl (by kernel_rfl) rfl rfl (fun _=>KW rfl) (ay) (qL [6,7,12,13,14,15] 4 rfl (fun _ h=>KW rfl) ay (qL [6,7,12,13,14,15] 5 rfl (fun _ h=>KW rfl) ay (qL [7,12,13,14,15] 6 rfl (fun _ h=>LC Li L8 rfl rfl (by omega)) ay (qL [10,11,12,13,14,15] 8 rfl (fun _ h=>KW rfl) ay (qL [10,11,12,13,14,15] 9 rfl (fun _ h=>KW rfl) ay (qL [11,12,13,14,15] 10 rfl (fun _ h=>LC Li L8 rfl rfl (by omega)) ay (qL [12,13,14,15] 7 rfl (fun _ h=>Lm Mk rfl rfl ((dE.ext h).get (i:=j) (by omega))) ay (qL [12,13,14,15] 11 rfl (fun _ h=>Lm Mk rfl rfl ((dE.ext h).get (i:=i) (by omega))) ay (qL [13,14,15] 12 rfl (fun _ h=>LC Li L8 rfl rfl (by omega)) ay ?_)))))))))))));refine LD [13] (by kernel_rfl) (by kernel_rfl) (qO 13 (Lv (i:=13) rfl rfl (MY L8 rfl rfl rfl (dE.ext ay).sl ((dE.ext ay).UM (by omega))) ?_));rintro w7a ⟨fw,fx⟩;refine⟨trivial,?_⟩;have cw:=(dE.ext ay).set fw;refine KR 14 rfl (LC Li L8 rfl rfl (by omega)) trivial (qO 15 (Lv (i:=15) rfl rfl (MY L8 rfl rfl rfl cw.sl (cw.UM (by omega))) ?_));rintro w7 ⟨gQ,jr⟩;refine⟨trivial,?_⟩;have js:=cw.set gQ;have fA:Kp (fun k=>k=g) w4 w7:=ay.kp.trans (fx.trans jr);refine qE (qN rfl (An rfl (LH rfl rfl (KO rfl (py (KQ rfl (An rfl (qV (Md rfl rfl (by omega)) (KO rfl (py (KM ?_)))))))))));rw[show(j:Int)-1=((j-1:Nat):Int) by omega];exact(ih (i+1,j-1,Go.Sort.swp d4 i j) _ ⟨js,aw.trans fA,ck,by dsimp only;omega⟩ (by dsimp only;omega)).qb
  ·rw[Go.Sort.reverseLoop,if_neg (by omega)] at ck;refine KX rfl (M8 Tryz.func227 rfl ?_);exact⟨_,rfl,rfl,ck▸dE,aw⟩
section
variable (p:Nat->Bool)(d:Array Nat)(i j:Nat)
theorem TC (h:i<=j)(hp:p d[i]! =true):Go.Sort.scanUp p d j i=Go.Sort.scanUp p d j (i+1):=by
 conv=>lhs;rw[Go.Sort.scanUp]
 rw[if_pos]
 rw[Bool.and_eq_true];exact⟨by simpa using h,hp⟩
theorem O7 (h:j<i\/p d[i]! =false):Go.Sort.scanUp p d j i=i:=by
 rw[Go.Sort.scanUp,if_neg]
 intro hc
 rw[Bool.and_eq_true] at hc
 rcases h with h| h
 ·have:=of_decide_eq_true hc.1;omega
 ·rw[h] at hc;cases hc.2
theorem Rg (h:i<=j)(hp:p d[j]! =true)(hj:1<=j):Go.Sort.scanDown p d i j=Go.Sort.scanDown p d i (j-1):=by
 obtain⟨k,rfl⟩:∃k,j=k+1:=⟨j-1,by omega⟩
 rw[Go.Sort.scanDown,if_pos]
 ·rfl
 ·rw[Bool.and_eq_true];exact⟨by simpa using h,hp⟩
theorem Nf (h:j<i\/p d[j]! =false):Go.Sort.scanDown p d i j=j:=by
 cases j with
 |zero=>rw[Go.Sort.scanDown]
 | succ k =>
   rw[Go.Sort.scanDown,if_neg];intro hc;rw[Bool.and_eq_true] at hc;rcases h with h| h
   ·have:=of_decide_eq_true hc.1;omega
   ·rw[h] at hc;cases hc.2
end
theorem RB (p:Nat->Bool)(d:Array Nat)(j:Nat):∀i:Nat,Go.Sort.scanUp p d j i<=max i (j+1):=fun i=>by
 rw[Go.Sort.scanUp]
 split
 ·rename_i h
  rw[Bool.and_eq_true] at h;have h1:=of_decide_eq_true h.1;have:=RB p d j (i+1);omega
 ·omega
 termination_by i=>j+1-i
theorem z5x {w : World}{g n cap : Nat}{d : Array Nat}(h : NL w g n cap d)(a b pv : Nat)(Gt : a <= pv)(pR : pv < b)(hb : b <= n)(hn : n <= 65536) :
  Lk Tryz.prog 231 [.slice (some ⟨g,0,none⟩) n cap,I (a:Int),I (b:Int),I (pv:Int)] w fun u w'=>u= .tuple #[I ((Go.Sort.partition Mc d a b pv).1:Int),.bool (Go.Sort.partition Mc d a b pv).2.1]/\NL w' g n cap (Go.Sort.partition Mc d a b pv).2.2/\Kp (fun k=>k=g) w w':=by
 refine KJ (e:=[(0,_),(1,_),(2,_),(3,_)]) Tryz.func231 rfl Tryz.ntmps231 rfl rfl (qN rfl (KO rfl (KO rfl (py (run_seq ?_)))))
 have ay:=Ext.Lb w
 refine Le [13,15] (fun w'=>Ext w w') (by kernel_rfl) rfl (qL [12,13,14,15] 0 rfl (fun _ h=>KW rfl) ay (qL [12,13,14,15] 1 rfl (fun _ h=>KW rfl) ay (LP (i:=2) rfl (by kernel_rfl) rfl rfl (fun _=>KW rfl) (ay) (LP (i:=3) rfl (by kernel_rfl) rfl rfl (fun _=>KW rfl) (ay) (qL [6,7,12,13,14,15] 4 rfl (fun _ h=>KW rfl) ay (qL [6,7,12,13,14,15] 5 rfl (fun _ h=>KW rfl) ay (qL [7,12,13,14,15] 6 rfl (fun _ h=>LC Li L8 rfl rfl (by omega)) ay (qL [10,11,12,13,14,15] 8 rfl (fun _ h=>KW rfl) ay (qL [10,11,12,13,14,15] 9 rfl (fun _ h=>KW rfl) ay (qL [11,12,13,14,15] 10 rfl (fun _ h=>LC Li L8 rfl rfl (by omega)) ay (qL [12,13,14,15] 7 rfl (fun _ hS=>Lm Mk rfl rfl ((h.ext hS).get (i:=pv) (by omega))) ay (qL [12,13,14,15] 11 rfl (fun _ hS=>Lm Mk rfl rfl ((h.ext hS).get (i:=a) (by omega))) ay (qL [13,14,15] 12 rfl (fun _ h=>LC Li L8 rfl rfl (by omega)) ay ?_)))))))))))))
 refine LD [13] (by kernel_rfl) (by kernel_rfl) (qO 13 (Lv (i:=13) rfl rfl (MY L8 rfl rfl rfl (h.ext ay).sl ((h.ext ay).UM (by omega))) ?_))
 rintro w1a ⟨mm,mn⟩
 refine⟨trivial,?_⟩
 have fB:=(h.ext ay).set mm
 refine KR 14 rfl (LC Li L8 rfl rfl (by omega)) trivial (qO 15 (Lv (i:=15) rfl rfl (MY L8 rfl rfl rfl fB.sl (fB.UM (by omega))) ?_))
 rintro w1 ⟨rl,ro⟩
 refine⟨trivial,?_⟩
 have gR:=fB.set rl
 have kg:Kp (fun k=>k=g) w w1:=ay.kp.trans (mn.trans ro)
 refine qE (qN rfl (An rfl (LH rfl rfl (An rfl (qV (Md rfl rfl (by omega)) (KO rfl (KO rfl (py (Ll.qb (e:=[(0,_),(1,_),(8,_),(9,_),(10,_),(11,_)]) ?_)))))))))
 refine run_seq (KL ?_)
 unfold Go.Sort.partition
 dsimp only
 replace gR:NL w1 g n cap (Go.Sort.swp d a pv):=gR
 generalize Go.Sort.swp d a pv=D at gR
 rw[show(a:Int)+1=((a+1:Nat):Int) by omega,show(b:Int)-1=((b-1:Nat):Int) by omega]
 refine Nl (fun e' w'=>e'=[(0,.slice (some ⟨g,0,none⟩) n cap),(1,I (a:Int)),(10,I (((Go.Sort.scanUp (fun x=>Mc x D[a]!) D (b-1) (a+1)):Nat):Int)),(11,I (((b-1):Nat):Int))]/\NL w' g n cap D/\Kp (fun k=>k=g) w1 w') ?nX (fun nX=>?Aq)
 case nX =>
  rintro e' wA ⟨rfl,Gu,nX⟩;have yt:=Go.Sort.scanUp_ge (fun x=>Mc x D[a]!) D (b-1) (a+1);have kL:=RB (fun x=>Mc x D[a]!) D (b-1) (a+1)
  generalize Go.Sort.scanUp (fun x=>Mc x D[a]!) D (b-1) (a+1)=i1 at yt kL
  refine run_seq (KL (Nl (fun e' w'=>e'=[(0,.slice (some ⟨g,0,none⟩) n cap),(1,I (a:Int)),(10,I ((i1:Nat):Int)),(11,I (((Go.Sort.scanDown (fun x=>!Mc x D[a]!) D i1 (b-1)):Nat):Int))]/\NL w' g n cap D/\Kp (fun k=>k=g) wA w') ?iA (fun iA=>?Ap)))
  case iA =>
   rintro e' wB ⟨rfl,nY,iA⟩;have Gv:=Go.Sort.scanDown_le (fun x=>!Mc x D[a]!) D i1 (b-1)
   generalize Go.Sort.scanDown (fun x=>!Mc x D[a]!) D i1 (b-1)=j1 at Gv
   refine run_seq (qN rfl (An rfl (An rfl (qV (LU rfl rfl) (py (KZ rfl (fun h4=>?_) (fun h4=>?_)))))))
   ·rw[if_pos (by omega)];refine run_seq ?_;have aa:=Ext.Lb wB;refine Le [13,15] (fun w'=>Ext wB w') (by kernel_rfl) rfl (qL [12,13,14,15] 0 rfl (fun _ h=>KW rfl) aa (qL [12,13,14,15] 1 rfl (fun _ h=>KW rfl) aa (LP (i:=2) rfl (by kernel_rfl) rfl rfl (fun _=>KW rfl) (aa) (LP (i:=3) rfl (by kernel_rfl) rfl rfl (fun _=>KW rfl) (aa) (qL [6,7,12,13,14,15] 4 rfl (fun _ h=>KW rfl) aa (qL [6,7,12,13,14,15] 5 rfl (fun _ h=>KW rfl) aa (qL [7,12,13,14,15] 6 rfl (fun _ h=>LC Li L8 rfl rfl (by omega)) aa (qL [10,11,12,13,14,15] 8 rfl (fun _ h=>KW rfl) aa (qL [10,11,12,13,14,15] 9 rfl (fun _ h=>KW rfl) aa (qL [11,12,13,14,15] 10 rfl (fun _ h=>LC Li L8 rfl rfl (by omega)) aa (qL [12,13,14,15] 7 rfl (fun _ h=>Lm Mk rfl rfl ((nY.ext h).get (i:=a) (by omega))) aa (qL [12,13,14,15] 11 rfl (fun _ h=>Lm Mk rfl rfl ((nY.ext h).get (i:=j1) (by omega))) aa (qL [13,14,15] 12 rfl (fun _ h=>LC Li L8 rfl rfl (by omega)) aa ?_)))))))))))));refine LD [13] (by kernel_rfl) (by kernel_rfl) (qO 13 (Lv (i:=13) rfl rfl (MY L8 rfl rfl rfl (nY.ext aa).sl ((nY.ext aa).UM (by omega))) ?_));rintro w2a ⟨up,uq⟩;refine⟨trivial,?_⟩;have mq:=(nY.ext aa).set up;refine KR 14 rfl (LC Li L8 rfl rfl (by omega)) trivial (qO 15 (Lv (i:=15) rfl rfl (MY L8 rfl rfl rfl mq.sl (mq.UM (by omega))) ?_));rintro w2 ⟨Ah,Ai⟩;refine⟨trivial,?_⟩;have Aj:=mq.set Ah;have ur:Kp (fun k=>k=g) wB w2:=aa.kp.trans (uq.trans Ai);refine qE (qN rfl (An rfl (KO rfl (KO rfl (py (KP Tryz.func231 rfl ?_))))));exact⟨_,rfl,rfl,Aj,(kg.trans (nX.trans iA)).trans ur⟩
   ·rw [if_neg (by omega)]; refine It (run_seq ?_); have ag := Ext.Lb wB; refine Le [13,15] (fun w' => Ext wB w') (by kernel_rfl) rfl (qL [12, 13, 14, 15] 0 rfl (fun _ h=>KW rfl) ag (qL [12, 13, 14, 15] 1 rfl (fun _ h=>KW rfl) ag (LP (i := 2) rfl (by kernel_rfl) rfl rfl (fun _ => KW rfl) (ag) (LP (i := 3) rfl (by kernel_rfl) rfl rfl (fun _ => KW rfl) (ag) (qL [6, 7, 12, 13, 14, 15] 4 rfl (fun _ h=>KW rfl) ag (qL [6, 7, 12, 13, 14, 15] 5 rfl (fun _ h=>KW rfl) ag (qL [7, 12, 13, 14, 15] 6 rfl (fun _ h=>LC Li L8 rfl rfl (by omega)) ag (qL [10, 11, 12, 13, 14, 15] 8 rfl (fun _ h=>KW rfl) ag (qL [10, 11, 12, 13, 14, 15] 9 rfl (fun _ h=>KW rfl) ag (qL [11, 12, 13, 14, 15] 10 rfl (fun _ h=>LC Li L8 rfl rfl (by omega)) ag (qL [12, 13, 14, 15] 7 rfl (fun _ h=>Lm Mk rfl rfl ((nY.ext h).get (i := j1) (by omega))) ag (qL [12, 13, 14, 15] 11 rfl (fun _ h=>Lm Mk rfl rfl ((nY.ext h).get (i := i1) (by omega))) ag (qL [13, 14, 15] 12 rfl (fun _ h=>LC Li L8 rfl rfl (by omega)) ag ?_))))))))))))); refine LD [13] (by kernel_rfl) (by kernel_rfl) (qO 13 (Lv (i := 13) rfl rfl (MY L8 rfl rfl rfl (nY.ext ag).sl ((nY.ext ag).UM (by omega))) ?_)); rintro w3a ⟨ut, uu⟩; refine ⟨trivial, ?_⟩; have mt := (nY.ext ag).set ut; refine KR 14 rfl (LC Li L8 rfl rfl (by omega)) trivial (qO 15 (Lv (i := 15) rfl rfl (MY L8 rfl rfl rfl mt.sl (mt.UM (by omega))) ?_)); rintro w3 ⟨Ak, Al⟩; refine ⟨trivial, ?_⟩; have Am := mt.set Ak; have uv : Kp (fun k => k = g) wB w3 := ag.kp.trans (uu.trans Al); refine qE (qN rfl (An rfl (LH rfl rfl (KO rfl (qM rfl (An rfl (qV (Md rfl rfl (by omega)) (KO rfl (py (Ll.qb (e := [(0, _), (1, _), (10, _), (11, _)]) ?_)))))))))); refine run_seq (KL ?_); rw [show (j1 : Int) - 1 = ((j1 - 1 : Nat) : Int) by omega]; refine MV (α := Nat × Nat × Array Nat) ((i1 + 1, j1 - 1, Go.Sort.swp D i1 j1)) (fun y => [(0, .slice (some ⟨g, 0, none⟩) n cap), (1, I (a : Int)), (10, I (y.1 : Int)), (11, I (y.2.1 : Int))]) (fun y w' => NL w' g n cap y.2.2 /\ Kp (fun k => k = g) w3 w' /\ Go.Sort.partLoop Mc a y.1 y.2.1 y.2.2 = Go.Sort.partLoop Mc a (i1 + 1) (j1 - 1) (Go.Sort.swp D i1 j1) /\ (a < y.1 /\ y.1 <= n /\ y.2.1 < n)) (fun y => y.2.1 + 1 - y.1) ?hI ?hround
    case hI=>exact⟨Am,Kp.refl _ _,rfl,by dsimp only;omega⟩
    case hround =>
     rintro⟨i,j,d4⟩ w4 ⟨dE,aw,ck,bC⟩ ih;dsimp only at dE aw ck bC;rw[Go.Sort.partLoop_eq] at ck
     try dsimp only
     refine KL (run_seq (KL (Nl (fun e' w'=>e'=[(0,.slice (some ⟨g,0,none⟩) n cap),(1,I (a:Int)),(10,I (((Go.Sort.scanUp (fun x=>Mc x d4[a]!) d4 j (i)):Nat):Int)),(11,I ((j:Nat):Int))]/\NL w' g n cap d4/\Kp (fun k=>k=g) w4 w') ?j7 (fun j7=>?rq))))
     case j7=>
      rintro e' wC ⟨rfl,Ao,j7⟩;have di:=Go.Sort.scanUp_ge (fun x=>Mc x d4[a]!) d4 j i;have lJ:=RB (fun x=>Mc x d4[a]!) d4 j i
      generalize Go.Sort.scanUp (fun x=>Mc x d4[a]!) d4 j i=i2 at ck di lJ
      refine run_seq (KL (Nl (fun e' w'=>e'=[(0,.slice (some ⟨g,0,none⟩) n cap),(1,I (a:Int)),(10,I ((i2:Nat):Int)),(11,I (((Go.Sort.scanDown (fun x=>!Mc x d4[a]!) d4 i2 (j)):Nat):Int))]/\NL w' g n cap d4/\Kp (fun k=>k=g) wC w') ?f7 (fun f7=>?rp)))
      case f7=>
       rintro e' wD ⟨rfl,iB,f7⟩;have kf:=Go.Sort.scanDown_le (fun x=>!Mc x d4[a]!) d4 i2 j
       generalize Go.Sort.scanDown (fun x=>!Mc x d4[a]!) d4 i2 j=j2 at ck kf
       refine run_seq (qN rfl (An rfl (An rfl (qV (LU rfl rfl) (py (KZ rfl (fun h5=>?_) (fun h5=>?_)))))))
       ·rw[if_pos (by omega)] at ck;refine KX rfl (run_seq ?_);rw[<-ck];have nZ:=((kg.trans (nX.trans iA)).trans uv).trans (aw.trans (j7.trans f7));have bH:=Ext.Lb wD;refine Le [13,15] (fun w'=>Ext wD w') (by kernel_rfl) rfl (qL [12,13,14,15] 0 rfl (fun _ h=>KW rfl) bH (qL [12,13,14,15] 1 rfl (fun _ h=>KW rfl) bH (LP (i:=2) rfl (by kernel_rfl) rfl rfl (fun _=>KW rfl) (bH) (LP (i:=3) rfl (by kernel_rfl) rfl rfl (fun _=>KW rfl) (bH) (qL [6,7,12,13,14,15] 4 rfl (fun _ h=>KW rfl) bH (qL [6,7,12,13,14,15] 5 rfl (fun _ h=>KW rfl) bH (qL [7,12,13,14,15] 6 rfl (fun _ h=>LC Li L8 rfl rfl (by omega)) bH (qL [10,11,12,13,14,15] 8 rfl (fun _ h=>KW rfl) bH (qL [10,11,12,13,14,15] 9 rfl (fun _ h=>KW rfl) bH (qL [11,12,13,14,15] 10 rfl (fun _ h=>LC Li L8 rfl rfl (by omega)) bH (qL [12,13,14,15] 7 rfl (fun _ h=>Lm Mk rfl rfl ((iB.ext h).get (i:=a) (by omega))) bH (qL [12,13,14,15] 11 rfl (fun _ h=>Lm Mk rfl rfl ((iB.ext h).get (i:=j2) (by omega))) bH (qL [13,14,15] 12 rfl (fun _ h=>LC Li L8 rfl rfl (by omega)) bH ?_)))))))))))));refine LD [13] (by kernel_rfl) (by kernel_rfl) (qO 13 (Lv (i:=13) rfl rfl (MY L8 rfl rfl rfl (iB.ext bH).sl ((iB.ext bH).UM (by omega))) ?_));rintro w8a ⟨fC,fD⟩;refine⟨trivial,?_⟩;have cx:=(iB.ext bH).set fC;refine KR 14 rfl (LC Li L8 rfl rfl (by omega)) trivial (qO 15 (Lv (i:=15) rfl rfl (MY L8 rfl rfl rfl cx.sl (cx.UM (by omega))) ?_));rintro w8 ⟨jt,ju⟩;refine⟨trivial,?_⟩;have jv:=cx.set jt;have eQ:Kp (fun k=>k=g) wD w8:=bH.kp.trans (fD.trans ju);refine qE (qN rfl (An rfl (KO rfl (KO rfl (py (KP Tryz.func231 rfl ?_))))));exact⟨_,rfl,rfl,jv,nZ.trans eQ⟩
       ·rw[if_neg (by omega)] at ck;refine It (run_seq ?_);have bH:=Ext.Lb wD;refine Le [13,15] (fun w'=>Ext wD w') (by kernel_rfl) rfl (qL [12,13,14,15] 0 rfl (fun _ h=>KW rfl) bH (qL [12,13,14,15] 1 rfl (fun _ h=>KW rfl) bH (LP (i:=2) rfl (by kernel_rfl) rfl rfl (fun _=>KW rfl) (bH) (LP (i:=3) rfl (by kernel_rfl) rfl rfl (fun _=>KW rfl) (bH) (qL [6,7,12,13,14,15] 4 rfl (fun _ h=>KW rfl) bH (qL [6,7,12,13,14,15] 5 rfl (fun _ h=>KW rfl) bH (qL [7,12,13,14,15] 6 rfl (fun _ h=>LC Li L8 rfl rfl (by omega)) bH (qL [10,11,12,13,14,15] 8 rfl (fun _ h=>KW rfl) bH (qL [10,11,12,13,14,15] 9 rfl (fun _ h=>KW rfl) bH (qL [11,12,13,14,15] 10 rfl (fun _ h=>LC Li L8 rfl rfl (by omega)) bH (qL [12,13,14,15] 7 rfl (fun _ h=>Lm Mk rfl rfl ((iB.ext h).get (i:=j2) (by omega))) bH (qL [12,13,14,15] 11 rfl (fun _ h=>Lm Mk rfl rfl ((iB.ext h).get (i:=i2) (by omega))) bH (qL [13,14,15] 12 rfl (fun _ h=>LC Li L8 rfl rfl (by omega)) bH ?_)))))))))))));refine LD [13] (by kernel_rfl) (by kernel_rfl) (qO 13 (Lv (i:=13) rfl rfl (MY L8 rfl rfl rfl (iB.ext bH).sl ((iB.ext bH).UM (by omega))) ?_));rintro w8a ⟨fC,fD⟩;refine⟨trivial,?_⟩;have cx:=(iB.ext bH).set fC;refine KR 14 rfl (LC Li L8 rfl rfl (by omega)) trivial (qO 15 (Lv (i:=15) rfl rfl (MY L8 rfl rfl rfl cx.sl (cx.UM (by omega))) ?_));rintro w8 ⟨jt,ju⟩;refine⟨trivial,?_⟩;have jv:=cx.set jt;have eQ:Kp (fun k=>k=g) wD w8:=bH.kp.trans (fD.trans ju);refine qE (qN rfl (An rfl (LH rfl rfl (KO rfl (py (KQ rfl (An rfl (qV (Md rfl rfl (by omega)) (KO rfl (py (KM ?_)))))))))));rw[show(j2:Int)-1=((j2-1:Nat):Int) by omega];exact(ih (i2+1,j2-1,Go.Sort.swp d4 i2 j2) _ ⟨jv,(aw.trans (j7.trans f7)).trans eQ,ck,by dsimp only;omega⟩ (by dsimp only;omega)).qb
      case rp=>
       refine MV (α:=Nat) (j) (fun r=>[(0,.slice (some ⟨g,0,none⟩) n cap),(1,I (a:Int)),(10,I ((i2:Nat):Int)),(11,I ((r:Nat):Int))]) (fun r w'=>NL w' g n cap d4/\Kp (fun k=>k=g) wC w'/\Go.Sort.scanDown (fun x=>!Mc x d4[a]!) d4 i2 r=Go.Sort.scanDown (fun x=>!Mc x d4[a]!) d4 i2 (j)/\r<n) (fun r=>r) ?hI ?hround
       case hI=>exact⟨Ao,Kp.refl _ _,rfl,by omega⟩
       case hround=>
        rintro r w5 ⟨aS,aj,bO,bU⟩ ih
        try dsimp only
        have hg:=Ext.Lb w5;rcases Nat.lt_or_ge r (i2) with hj|hj
        ·refine run_seq (run_seq (KV (fun w'=>Ext w5 w') (by kernel_rfl) rfl (KR 0 rfl (KW rfl) hg (KR 1 rfl (KW rfl) hg (KR 2 rfl (Qv rfl rfl) hg (PA (KR 3 rfl (KW rfl) hg (qJ 4 rfl (hg) (qJ 5 rfl (hg) (qJ 6 rfl (hg) (qJ 7 rfl (hg) (qJ 8 rfl (hg) (qJ 9 rfl (hg) ?_)))))))))))));refine qJ 10 rfl (hg) (qJ 11 rfl (hg) (qJ 12 rfl (hg) (qJ 13 rfl (hg) (KR 14 rfl (Ls rfl rfl) hg (qE (KH rfl (KX rfl ?_)))))));rw[Nf _ _ _ _ (.inl hj)] at bO;subst bO;exact(f7 _ _ ⟨rfl,aS.ext hg,aj.trans hg.kp⟩).qb
        ·refine run_seq (run_seq (KV (fun w'=>Ext w5 w') (by kernel_rfl) rfl (KR 0 rfl (KW rfl) hg (KR 1 rfl (KW rfl) hg (KR 2 rfl (Qv rfl rfl) hg (OL (KR 3 rfl (KW rfl) hg (KR 4 rfl (KW rfl) hg (KR 5 rfl (KW rfl) hg (KR 6 rfl (LC Li L8 rfl rfl (by omega)) hg (KR 8 rfl (KW rfl) hg (KR 9 rfl (KW rfl) hg (KR 10 rfl (LC Li L8 rfl rfl (by omega)) hg ?_)))))))))))));refine qT 7 rfl (fun _ h=>Lm Mk rfl rfl ((aS.ext h).get (i:=r) (by omega))) hg (qT 11 rfl (fun _ h=>Lm Mk rfl rfl ((aS.ext h).get (i:=a) (by omega))) hg (O2 12 [.tmp 122,.tmp 126] rfl QS rfl (Nb _ _ _) ?_));rintro _ w6 ⟨rfl,rfl⟩;refine⟨hg,?_⟩;refine KR 13 rfl ((by first|exact LN rfl|exact Na rfl)) hg ?_;refine KR 14 rfl (LR rfl rfl) hg (qE (LO rfl (fun h1=>?_) (fun h1=>?_)))
         ·rw[Rg _ _ _ _ hj (by simpa[Mc] using h1) (by omega)] at bO;refine It (KL (KQ rfl (An rfl (qV (Md rfl rfl (by omega)) (KO rfl (py (KM ?_)))))));rw[show(r:Int)-1=((r-1:Nat):Int) by omega];exact(ih (r-1) _ ⟨aS.ext hg,aj.trans hg.kp,bO,by omega⟩ (by omega)).qb
         ·rw[Nf _ _ _ _ (.inr (by simpa[Mc] using h1))] at bO;refine KX rfl ?_;subst bO;exact(f7 _ _ ⟨rfl,aS.ext hg,aj.trans hg.kp⟩).qb
     case rq=>
      refine MV (α:=Nat) (i) (fun r=>[(0,.slice (some ⟨g,0,none⟩) n cap),(1,I (a:Int)),(10,I ((r:Nat):Int)),(11,I ((j:Nat):Int))]) (fun r w'=>NL w' g n cap d4/\Kp (fun k=>k=g) w4 w'/\Go.Sort.scanUp (fun x=>Mc x d4[a]!) d4 j r=Go.Sort.scanUp (fun x=>Mc x d4[a]!) d4 j (i)/\i<=r/\r<=n+1) (fun r=>j+1-r) ?hI ?hround
      case hI=>exact⟨dE,Kp.refl _ _,rfl,Nat.le_refl _,by omega⟩
      case hround=>
       rintro r w5 ⟨aS,aj,bO,bU⟩ ih
       try dsimp only
       have hg:=Ext.Lb w5;rcases Nat.lt_or_ge (j) r with hj|hj
       ·refine run_seq (run_seq (KV (fun w'=>Ext w5 w') (by kernel_rfl) rfl (KR 0 rfl (KW rfl) hg (KR 1 rfl (KW rfl) hg (KR 2 rfl (Qv rfl rfl) hg (PA (KR 3 rfl (KW rfl) hg (qJ 4 rfl (hg) (qJ 5 rfl (hg) (qJ 6 rfl (hg) (qJ 7 rfl (hg) (qJ 8 rfl (hg) (qJ 9 rfl (hg) ?_)))))))))))));refine qJ 10 rfl (hg) (qJ 11 rfl (hg) (qJ 12 rfl (hg) (KR 13 rfl (Ls rfl rfl) hg (qE (KH rfl (KX rfl ?_))))));rw[O7 _ _ _ _ (.inl hj)] at bO;subst bO;exact(j7 _ _ ⟨rfl,aS.ext hg,aj.trans hg.kp⟩).qb
       ·refine run_seq (run_seq (KV (fun w'=>Ext w5 w') (by kernel_rfl) rfl (KR 0 rfl (KW rfl) hg (KR 1 rfl (KW rfl) hg (KR 2 rfl (Qv rfl rfl) hg (OL (KR 3 rfl (KW rfl) hg (KR 4 rfl (KW rfl) hg (KR 5 rfl (KW rfl) hg (KR 6 rfl (LC Li L8 rfl rfl (by omega)) hg (KR 8 rfl (KW rfl) hg (KR 9 rfl (KW rfl) hg (KR 10 rfl (LC Li L8 rfl rfl (by omega)) hg ?_)))))))))))));refine qT 7 rfl (fun _ h=>Lm Mk rfl rfl ((aS.ext h).get (i:=r) (by omega))) hg (qT 11 rfl (fun _ h=>Lm Mk rfl rfl ((aS.ext h).get (i:=a) (by omega))) hg (O2 12 [.tmp 106,.tmp 110] rfl QS rfl (Nb _ _ _) ?_));rintro _ w6 ⟨rfl,rfl⟩;refine⟨hg,?_⟩;refine KR 13 rfl (LR rfl rfl) hg (qE (LO rfl (fun h1=>?_) (fun h1=>?_)))
        ·rw[TC _ _ _ _ hj (by simpa[Mc] using h1)] at bO;refine It (KL (KQ rfl (An rfl (LH rfl rfl (KO rfl (py (KM ?_)))))));exact(ih (r+1) _ ⟨aS.ext hg,aj.trans hg.kp,bO,by omega,by omega⟩ (by omega)).qb
        ·rw[O7 _ _ _ _ (.inr (by simpa[Mc] using h1))] at bO;refine KX rfl ?_;subst bO;exact(j7 _ _ ⟨rfl,aS.ext hg,aj.trans hg.kp⟩).qb
  case Ap=>
   refine MV (α:=Nat) (b-1) (fun r=>[(0,.slice (some ⟨g,0,none⟩) n cap),(1,I (a:Int)),(10,I ((i1:Nat):Int)),(11,I ((r:Nat):Int))]) (fun r w'=>NL w' g n cap D/\Kp (fun k=>k=g) wA w'/\Go.Sort.scanDown (fun x=>!Mc x D[a]!) D i1 r=Go.Sort.scanDown (fun x=>!Mc x D[a]!) D i1 (b-1)/\r<n) (fun r=>r) ?hI ?hround
   case hI=>exact⟨Gu,Kp.refl _ _,rfl,by omega⟩
   case hround=>
    rintro r w5 ⟨aS,aj,bO,bU⟩ ih
    try dsimp only
    have hg:=Ext.Lb w5;rcases Nat.lt_or_ge r (i1) with hj|hj
    ·refine run_seq (run_seq (KV (fun w'=>Ext w5 w') (by kernel_rfl) rfl (KR 0 rfl (KW rfl) hg (KR 1 rfl (KW rfl) hg (KR 2 rfl (Qv rfl rfl) hg (PA (KR 3 rfl (KW rfl) hg (qJ 4 rfl (hg) (qJ 5 rfl (hg) (qJ 6 rfl (hg) (qJ 7 rfl (hg) (qJ 8 rfl (hg) (qJ 9 rfl (hg) ?_)))))))))))));refine qJ 10 rfl (hg) (qJ 11 rfl (hg) (qJ 12 rfl (hg) (qJ 13 rfl (hg) (KR 14 rfl (Ls rfl rfl) hg (qE (KH rfl (KX rfl ?_)))))));rw[Nf _ _ _ _ (.inl hj)] at bO;subst bO;exact(iA _ _ ⟨rfl,aS.ext hg,aj.trans hg.kp⟩).qb
    ·refine run_seq (run_seq (KV (fun w'=>Ext w5 w') (by kernel_rfl) rfl (KR 0 rfl (KW rfl) hg (KR 1 rfl (KW rfl) hg (KR 2 rfl (Qv rfl rfl) hg (OL (KR 3 rfl (KW rfl) hg (KR 4 rfl (KW rfl) hg (KR 5 rfl (KW rfl) hg (KR 6 rfl (LC Li L8 rfl rfl (by omega)) hg (KR 8 rfl (KW rfl) hg (KR 9 rfl (KW rfl) hg (KR 10 rfl (LC Li L8 rfl rfl (by omega)) hg ?_)))))))))))));refine qT 7 rfl (fun _ h=>Lm Mk rfl rfl ((aS.ext h).get (i:=r) (by omega))) hg (qT 11 rfl (fun _ h=>Lm Mk rfl rfl ((aS.ext h).get (i:=a) (by omega))) hg (O2 12 [.tmp 53,.tmp 57] rfl QS rfl (Nb _ _ _) ?_));rintro _ w6 ⟨rfl,rfl⟩;refine⟨hg,?_⟩;refine KR 13 rfl ((by first|exact LN rfl|exact Na rfl)) hg ?_;refine KR 14 rfl (LR rfl rfl) hg (qE (LO rfl (fun h1=>?_) (fun h1=>?_)))
     ·rw[Rg _ _ _ _ hj (by simpa[Mc] using h1) (by omega)] at bO;refine It (KL (KQ rfl (An rfl (qV (Md rfl rfl (by omega)) (KO rfl (py (KM ?_)))))));rw[show(r:Int)-1=((r-1:Nat):Int) by omega];exact(ih (r-1) _ ⟨aS.ext hg,aj.trans hg.kp,bO,by omega⟩ (by omega)).qb
     ·rw[Nf _ _ _ _ (.inr (by simpa[Mc] using h1))] at bO;refine KX rfl ?_;subst bO;exact(iA _ _ ⟨rfl,aS.ext hg,aj.trans hg.kp⟩).qb
 case Aq=>
  refine MV (α:=Nat) (a+1) (fun r=>[(0,.slice (some ⟨g,0,none⟩) n cap),(1,I (a:Int)),(10,I ((r:Nat):Int)),(11,I (((b-1):Nat):Int))]) (fun r w'=>NL w' g n cap D/\Kp (fun k=>k=g) w1 w'/\Go.Sort.scanUp (fun x=>Mc x D[a]!) D (b-1) r=Go.Sort.scanUp (fun x=>Mc x D[a]!) D (b-1) (a+1)/\a+1<=r/\r<=n+1) (fun r=>(b-1)+1-r) ?hI ?hround
  case hI=>exact⟨gR,Kp.refl _ _,rfl,Nat.le_refl _,by omega⟩
  case hround=>
   rintro r w5 ⟨aS,aj,bO,bU⟩ ih
   try dsimp only
   have hg:=Ext.Lb w5;rcases Nat.lt_or_ge ((b-1)) r with hj|hj
   ·refine run_seq (run_seq (KV (fun w'=>Ext w5 w') (by kernel_rfl) rfl (KR 0 rfl (KW rfl) hg (KR 1 rfl (KW rfl) hg (KR 2 rfl (Qv rfl rfl) hg (PA (KR 3 rfl (KW rfl) hg (qJ 4 rfl (hg) (qJ 5 rfl (hg) (qJ 6 rfl (hg) (qJ 7 rfl (hg) (qJ 8 rfl (hg) (qJ 9 rfl (hg) ?_)))))))))))));refine qJ 10 rfl (hg) (qJ 11 rfl (hg) (qJ 12 rfl (hg) (KR 13 rfl (Ls rfl rfl) hg (qE (KH rfl (KX rfl ?_))))));rw[O7 _ _ _ _ (.inl hj)] at bO;subst bO;exact(nX _ _ ⟨rfl,aS.ext hg,aj.trans hg.kp⟩).qb
   ·refine run_seq (run_seq (KV (fun w'=>Ext w5 w') (by kernel_rfl) rfl (KR 0 rfl (KW rfl) hg (KR 1 rfl (KW rfl) hg (KR 2 rfl (Qv rfl rfl) hg (OL (KR 3 rfl (KW rfl) hg (KR 4 rfl (KW rfl) hg (KR 5 rfl (KW rfl) hg (KR 6 rfl (LC Li L8 rfl rfl (by omega)) hg (KR 8 rfl (KW rfl) hg (KR 9 rfl (KW rfl) hg (KR 10 rfl (LC Li L8 rfl rfl (by omega)) hg ?_)))))))))))));refine qT 7 rfl (fun _ h=>Lm Mk rfl rfl ((aS.ext h).get (i:=r) (by omega))) hg (qT 11 rfl (fun _ h=>Lm Mk rfl rfl ((aS.ext h).get (i:=a) (by omega))) hg (O2 12 [.tmp 37,.tmp 41] rfl QS rfl (Nb _ _ _) ?_));rintro _ w6 ⟨rfl,rfl⟩;refine⟨hg,?_⟩;refine KR 13 rfl (LR rfl rfl) hg (qE (LO rfl (fun h1=>?_) (fun h1=>?_)))
    ·rw[TC _ _ _ _ hj (by simpa[Mc] using h1)] at bO;refine It (KL (KQ rfl (An rfl (LH rfl rfl (KO rfl (py (KM ?_)))))));exact(ih (r+1) _ ⟨aS.ext hg,aj.trans hg.kp,bO,by omega,by omega⟩ (by omega)).qb
    ·rw[O7 _ _ _ _ (.inr (by simpa[Mc] using h1))] at bO;refine KX rfl ?_;subst bO;exact(nX _ _ ⟨rfl,aS.ext hg,aj.trans hg.kp⟩).qb
end Go.Proofs.YtpldpcjdjcgicaaGreatDoor
