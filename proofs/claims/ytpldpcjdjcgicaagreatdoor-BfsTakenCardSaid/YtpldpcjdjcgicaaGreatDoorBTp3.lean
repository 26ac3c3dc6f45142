/- Merged by program. -/
import Derived.Test.YtpldpcjdjcgicaaGreatDoorBTp2
import Derived.Sort.AssemblyPlain
set_option linter.all false
set_option maxRecDepth 1000000
set_option maxHeartbeats 16000000
namespace Go.Proofs.YtpldpcjdjcgicaaGreatDoor
open Go Go.RowKit
theorem z2R {P:Program}{fn:Func}{tmps:Array Value}{R:Ending->World->Prop}{g:FuncId}{cap args:List Value}{w:World}{S:Value->World->Prop}(oE:CF P g)(hD:z8P P g (args++cap) w S)
  (h:∀u w',S u w'->∃v,(results fn tmps).run P w'= .ok v w'/\R (.returned v) w'):LeavesInM Fence.wide 0 P fn tmps R (marks [.call g cap args]) .returning w:=by
 refine⟨by simp,.inr ⟨(λh=>by cases h),.func g,cap.toArray,g,(args++cap).toArray,rfl,?_,(λ_ _=>trivial),?_⟩⟩
 ·simp[Dfr.d,invoke,PK oE]
 ·refine CallsDIn.mono hD ?_;rintro x u w1 ⟨rfl,v1,rfl,hS⟩;exact h v1 w1 hS
theorem z5k {P:Program}{f:FuncId}{R:Value->World->Prop}{n:Nat}{k:List Item}{e:Env}{w:World}{fn:Func}{g:FuncId}{cap args:List Value}{S:Value->World->Prop}(hf:P.funcs[f]? =some fn)(oE:CF P g)(hD:z8P P g (args++cap) w S)
  (h:∀u w',S u w'->∃vs,Uf P w' e fn.results.toList vs/\TW R (.returned (resVal vs)) w'):Mn ⟨P,f,R,n,none,[.call g cap args],false⟩ (.code .ret::k) e w:=
 z0F rfl rfl hf λa ha=>z2R oE hD λu w' hs=>by
  obtain⟨vs,h1,h2⟩:=h u w' hs;exact⟨_,S9 ha P w' fn vs h1,h2⟩
theorem ydf {P:Program}{e:Env}{ty:TypeId}{pos:String}{aft:Array Edge}{g:Option (Nat×Bool)}{w:World}{f:FuncId}{x:Operand}{q:List Value}(hv:look e x=some (.func (.func f) #[] q.toArray)):
  ∀ρ:Operand->Value,(∀x v,look e x=some v->ρ x=v)->(execOp ρ ⟨none,.defer ⟨.value x,#[],#[]⟩,ty,pos,aft,g⟩).run P w= .ok (.defer (Dfr.d (.call f q []))) w:=fun ρ hρ=>by
 simp[execOp,resolve,hρ _ _ hv,Dfr.d,Deferred.ofValue]
section
variable {w:World}{r:Nat}{s:Bytes}{a:Nat}
theorem z1r {b2 b5 b6:Nat}(hB:LX w b5 [I 0] 35):z8P Tryz.prog 208 [ptr b5 0,ptr b2 0,ptr b6 0] w λu w'=>w'=w:=by
 refine z0l (e:=[(0,_),(1,_),(2,_)]) Tryz.func208 rfl Tryz.ntmps208 rfl rfl (qN rfl (qV (LR U35 rfl rfl hB rfl) (MY rfl rfl (LO (LY rfl (λc0=>?_) (λc0=>?_))))))
 ·exact absurd rfl c0
 ·refine py (z8b rfl rfl rfl Tryz.func208 (λa ha=>⟨_,Rh ha _ _ _ _ rfl,?_⟩));exact⟨_,rfl,rfl⟩
theorem Vd (h:Qc w r s a)(c:Cd)(v:Nat)(hc:c.N4)(hv:v<=c.most)(rest:List Bool)(hb:(Md s).drop a=c.enc v++rest):
  Mm Tryz.prog 190 [ptr r 0,Zq c] w λu w'=>u= .tuple #[M7 v,I 0]/\Qc w' r s (a+(c.enc v).length)/\Kp (λk=>k=r) w w':=by
 obtain⟨x,y,dl⟩:∃x y,OU c=[x,y]:=by cases c<;>exact⟨_,_,rfl⟩
 have gM:=h.1.lt
 have f7:=c.Wq
 refine It (e:=[(0,_),(1,_)]) Tryz.func190 rfl Tryz.ntmps190 rfl rfl (qN rfl (LV rfl rfl (NN rfl (cs:=[ptr r 0]) rfl) ?_))
 rintro _ w1 ⟨b2,rfl,bY,ad,am⟩
 refine LV rfl rfl (NN rfl (cs:=OU c) rfl) ?_
 rintro _ w2 ⟨b3,rfl,en,af,aq⟩
 refine M6 rfl (LV rfl rfl (O9 (cs:=[_]) z4Z rfl) ?_)
 rintro _ w3 ⟨b5,rfl,gN,ah,aF⟩
 replace aF:LX w3 b5 [I 0] 35:=aF
 have h3:Qc w3 r s a:=⟨ah.LN (af.LN (ad.LN h.1)),h.2⟩
 have cA:=ah.LN (af.LN am)
 have df:=ah.LN aq
 refine LO (run_seq (LK (qN rfl (qV (LR PW rfl rfl cA rfl) (qV (MU PW rfl rfl) (LU rfl (An rfl (qN rfl (qV (Mk (news:=OU c) OK rfl Nk rfl (df.cells (n:=2) (by rw[dl];rfl)) (by rw[dl];rfl)) ?_)))))))))
 refine Mb z0E rfl (QQ c hc w3) ?_
 rintro _ w4 ⟨rfl,aC⟩
 have h4:Qc w4 r s a:=⟨aC.LN h3.1,h3.2⟩
 have ep:=aC.LN cA
 refine MY rfl rfl (LU rfl (LY rfl (λc0=>?_) (λc0=>?_)))
 ·exact absurd rfl c0
 ·refine py (LL (qN rfl (qV (LR PW rfl rfl ep rfl) (Mb Uy rfl (Qy h4) ?_))));rintro _ w4 ⟨rfl,rfl⟩;refine LV rfl rfl (O9 (cs:=[_]) MO rfl) ?_;rintro _ w5 ⟨b6,rfl,nY,aT,aX⟩;refine M1 rfl (NC MO rfl rfl rfl aX (by simp)) ?_;rintro w6 ⟨mC,aR⟩;have z1:=ad.size;have z2:=af.size;have z3:=ah.size;have z4:=aC.size;have z5:=aT.size;have l2:=am.lt;have l3:=aq.lt;have l5:=aF.lt;have cJ:Ext w4 w6:=aT.LJ aR (λi hi=>by omega);have bK:=cJ.LN ep;refine qM rfl (qV (ZU (first:=[]) (caps:=[.tmp 5,.tmp 2,.tmp 6]) rfl rfl) (zaA rfl rfl (ydf rfl) (qM rfl (qV (LR PW rfl rfl bK rfl) (qV (OJ (cs:=[_,_]) zcD rfl zd0 rfl rfl) (LV rfl rfl (NN rfl rfl) ?_))))));rintro _ w7 ⟨b7,rfl,kX,bQ,bN⟩;replace bN:LX w7 b7 [ptr r 0,.bool false] 336:=bN;have z6:=cJ.size;have z7:=bQ.size;have oF:Ext w3 w7:=(aC.trans cJ).trans bQ;have h7:RgM w7 b7 r s a:=⟨bN,⟨oF.LN h3.1,h3.2⟩,by omega⟩;have iK:=oF.LN df;have jA:=oF.LN aF;refine LU rfl (run_seq (qN rfl (LM rfl (qV (Mk (news:=OU c) OK rfl Nk rfl (iK.cells (n:=2) (by rw[dl];rfl)) (by rw[dl];rfl)) ?_))));refine Mb zdt rfl (z0o h7 c v hc hv rest hb) ?_;rintro _ w8 ⟨rfl,h8,bj⟩;have mD:=bj.LN iK (by omega);have AF:=bj.LN jA (by omega);have ce:=h8.LN;refine M6 rfl (qM rfl (LM rfl (Mp rfl (M0 Ws rfl (qV (LR U4 rfl rfl ce rfl) (M4 rfl rfl (qV (Mk (news:=OU c) OK rfl Nk rfl (mD.cells (n:=2) (by rw[dl];rfl)) (by rw[dl];rfl)) ?_)))))));refine Mb z9q rfl (YP c hc w8) ?_;rintro _ w9 ⟨rfl,fg⟩;refine Nc rfl rfl (ME rfl rfl (LO (Mn.qb (e:=[(4,_),(5,_),(33,_)]) ?_)));refine LY rfl (λc1=>?_) (λc1=>?_)
  ·omega
  ·have AG:=fg.LN AF;refine py (qN rfl (LM rfl (M6 rfl (M1 rfl (NC z4Z rfl rfl rfl AG (by simp)) ?_))));rintro w10 ⟨fd,aw⟩;replace fd:LX w10 b5 [I 0] 35:=fd;refine LO (z5k Tryz.func190 zdY (z1r (b2:=b2) (b6:=b6) fd) ?_);rintro u w' rfl;have u9:Qc w9 r s (a+(c.enc v).length):=⟨fg.LN h8.rd.1,h8.rd.2⟩;refine⟨_,.tmp rfl (.cell1 U35 rfl rfl ((fd).cell _) .nil),_,rfl,rfl,⟨aw.LN u9.1 (by omega),u9.2⟩,?_⟩;have gt:Ext w w7:=((ad.trans af).trans ah).trans oF;have mE:Kp (λk=>k=r) w w8:=gt.kp.LJ bj (λi hi=>hi.elim (λe=> .inl (by omega)) .inr);exact(mE.trans fg.kp).LJ aw (λi hi=> .inl (by omega))
end
/-! ### Runs -/
def expand:Bool->List Nat->List Bool
 |_,[]=>[]
 |b,n::r=>List.replicate n b++expand (!b) r
theorem U6:∀(b:Bool) (r s:List Nat),expand b (r++s)=expand b r++expand (if r.length%2=0 then b else !b) s
 |b,[],s=>by simp[expand]
 | b, n :: r, s => by
   rw[List.cons_append,expand,expand,U6 (!b) r s,List.append_assoc]
   congr 2
   rcases Nat.mod_two_eq_zero_or_one r.length with e| e
   ·rw[if_pos e,if_neg (by rw[List.length_cons];omega)]
   ·rw[if_neg (by omega),if_pos (by rw[List.length_cons];omega)];simp
theorem P7:∀(b:Bool) (r:List Nat),(expand b r).length=r.sum
 |_,[]=>rfl
 |b,n::r=>by rw[expand,List.length_append,List.length_replicate,P7 (!b) r,List.sum_cons]
def Nt (rs:List Nat)(f:Bool):List Nat:=
 let rs':=if f !=(rs.length%2==1) then rs++[0] else rs
 rs'.modify (rs'.length-1) (·+1)
theorem SG (l:List Nat)(n:Nat):(l++[n]).modify ((l++[n]).length-1) (·+1)=l++[n+1]:=by
 have key:∀l:List Nat,(l++[n]).modify l.length (·+1)=l++[n+1]:=λl=>by
  induction l with
  |nil=>rfl
  |cons a l ih=>simpa using ih
 have:(l++[n]).length-1=l.length:=by simp
 rw[this,key]
structure PM (rs:List Nat)(fs:List Bool):Prop where
 ne:rs≠[]
 exp:expand true rs=fs
 pos:∀n∈rs.drop 1,1<=n
theorem PM.zero:PM [0] []:=⟨by simp,rfl,by simp⟩
theorem PM.step {rs:List Nat}{fs:List Bool}(h:PM rs fs)(f:Bool):PM (Nt rs f) (fs++[f]):=by
 obtain⟨h1,h2,h3⟩:=h
 obtain⟨l,n,rfl⟩:∃l n,rs=l++[n]:=⟨rs.dropLast,rs.getLast h1,(List.dropLast_concat_getLast h1).symm⟩
 unfold Nt
 dsimp only
 have hlen:(l++[n]).length=l.length+1:=by simp
 rw[hlen]
 split
 ·rename_i hf
  rw[SG];refine⟨by simp,?_,λk hk=>?_⟩
  ·rw[U6,h2,hlen]
   congr 1
   rcases Nat.mod_two_eq_zero_or_one l.length with e|e<;>cases f<;>simp[expand,e,Nat.add_mod] at hf⊢
  ·rw[List.drop_append_of_le_length (by rw[hlen];omega)] at hk;rcases List.mem_append.1 hk with hk|hk
   ·exact h3 k hk
   ·simp at hk;omega
 ·rename_i hf
  rw[SG];refine⟨by simp,?_,λk hk=>?_⟩
  ·rw[U6] at h2⊢;rw[<-h2,List.append_assoc]
   congr 1
   simp only[expand,List.append_nil,List.replicate_succ']
   congr 1
   rcases Nat.mod_two_eq_zero_or_one l.length with e|e<;>cases f<;>simp[e,Nat.add_mod] at hf⊢
  ·cases l with
   |nil=>simp at hk
   | cons a l =>
     rw[List.cons_append,List.drop_succ_cons,List.drop_zero] at hk h3;rcases List.mem_append.1 hk with hk|hk
     ·exact h3 k (List.mem_append_left _ hk)
     ·simp at hk;omega
def copyL:Bool->List Nat->List Nat->List Nat
 |b,[],ref=>if b then ref else []
 |b,n::r,ref=>(if b then ref.take n else [])++copyL (!b) r (ref.drop n)
def sel:List Nat->List Bool->List Nat
 |x::l,f::fs=>if f then x::sel l fs else sel l fs
 |_,_=>[]
theorem z3F:∀{a b:List Nat} {fs gs:List Bool},a.length=fs.length->sel (a++b) (fs++gs)=sel a fs++sel b gs
 |[],b,[],gs,_=>rfl
 | x :: a, b, f :: fs, gs, h => by
   have h':a.length=fs.length:=by simpa using h
   rw[List.cons_append,List.cons_append,sel,sel,z3F h'];cases f<;>simp
theorem Zu:∀(l:List Nat) (b:Bool),sel l (List.replicate l.length b)=if b then l else []
 |[],b=>by cases b<;>rfl
 | x :: l, b => by
   rw[List.length_cons,List.replicate_succ,sel,Zu l b];cases b<;>rfl
theorem z0I:∀(b:Bool) (rs:List Nat) (m:Nat) (ref:List Nat),ref.length=(rs++[m]).sum->copyL b rs ref=sel ref (expand b (rs++[m]))
 | b, [], m, ref, h => by
   have hm:m=ref.length:=by simpa using h.symm
   subst hm;simp only[copyL,List.nil_append,expand,List.append_nil]
   rw[Zu]
 | b, n :: rs, m, ref, h => by
   rw[List.cons_append,List.sum_cons] at h;have hl:(ref.take n).length=n:=by rw[List.length_take];omega
   rw[copyL,List.cons_append,expand,z0I (!b) rs m (ref.drop n) (by rw[List.length_drop];omega)]
   conv=>rhs;rw[<-List.take_append_drop n ref,z3F (by rw[hl,List.length_replicate])]
   congr 1
   have:=Zu (ref.take n) b;rw[hl] at this;exact this.symm
/-! ### Rows of numbers that follow one another -/
def runLen:Nat->List Nat->Nat
 |_,[]=>0
 |x,y::l=>if y=x+1 then runLen y l+1 else 0
theorem SX:∀(x:Nat) (l:List Nat),runLen x l<=l.length
 |_,[]=>Nat.le_refl _
 | x, y :: l => by
   unfold runLen;split
   ·have:=SX y l;simp;omega
   ·exact Nat.zero_le _
theorem S3:∀(x:Nat) (l:List Nat) (i:Nat),i<runLen x l->l[i]? =some (x+1+i)
 |_,[],i,h=>by simp[runLen] at h
 | x, y :: l, i, h => by
   unfold runLen at h;split at h
   ·rename_i e
    subst e
    cases i with
    |zero=>rfl
    |succ i=>rw[List.getElem?_cons_succ,S3 (x+1) l i (by omega)];congr 1;omega
   ·omega
theorem Sw:∀(x:Nat) (l:List Nat) (y:Nat),l[runLen x l]? =some y->y≠x+1+runLen x l
 |_,[],y,h=>by simp at h
 | x, z :: l, y, h => by
   unfold runLen at h⊢;split
   ·rename_i e
    rw[if_pos e,List.getElem?_cons_succ] at h;have:=Sw z l y h;omega
   ·rename_i e
    rw[if_neg e,List.getElem?_cons_zero] at h;cases h;omega
def rowsN (least:Nat):List Nat->List (Nat×Nat)×List Nat
 |[]=>([],[])
 | x :: l =>
   let n:=runLen x l+1
   let q:=rowsN least (l.drop (runLen x l))
   if 0<least/\least<=n then((x,n)::q.1,q.2) else(q.1,x::l.take (runLen x l)++q.2)
termination_by l=>l.length
decreasing_by simp[List.length_drop];omega
def Nq (l:List (Nat×Nat)):List Nat:=l.flatMap λp=>(List.range p.2).map (p.1+·)
abbrev Ris (l:List Nat):Prop:=l.Pairwise (·<·)
theorem z7P (x:Nat)(l:List Nat):x::l.take (runLen x l)=(List.range (runLen x l+1)).map (x+·):=by
 apply List.ext_getElem?
 intro i
 have hle:=SX x l
 cases i with
 |zero=>simp
 | succ i =>
   rw[List.getElem?_cons_succ,List.getElem?_take,List.getElem?_map];split
   ·rename_i h
    rw[S3 x l i h,List.getElem?_range (by omega)];simp;omega
   ·rw[List.getElem?_eq_none (by simp;omega)];rfl
theorem PX (least:Nat):∀(l:List Nat),(Nq (rowsN least l).1++(rowsN least l).2).Perm l
 |[]=>by simp[rowsN,Nq]
 | x :: l => by
   have ih:=PX least (l.drop (runLen x l));have hx:=z7P x l;have hc:x::l=(x::l.take (runLen x l))++l.drop (runLen x l):=by rw[List.cons_append,List.take_append_drop]
   rw[rowsN];split
   ·rw[show Nq ((x,runLen x l+1)::(rowsN least (l.drop (runLen x l))).1)=(List.range (runLen x l+1)).map (x+·)++Nq (rowsN least (l.drop (runLen x l))).1 by simp[Nq]];rw[<-hx,List.append_assoc]
    conv=>rhs;rw[hc]
    exact ih.append_left _
   ·conv=>rhs;rw[hc]
    refine List.Perm.trans ?_ (ih.append_left _);rw[<-List.append_assoc,<-List.append_assoc];exact(List.perm_append_comm).append_right _
 termination_by l=>l.length
 decreasing_by simp[List.length_drop];omega
def ZQ (z:Int):Nat:=if 0<=z then(2*z).toNat else(-2*z-1).toNat
def zag (n:Nat):Int:=if n%2=0 then((n / 2:Nat):Int) else -((n / 2:Nat):Int)-1
theorem z3v (z:Int):zag (ZQ z)=z:=by
 unfold ZQ zag
 split
 ·rw[if_pos (by omega)];omega
 ·rw[if_neg (by omega)];omega
theorem Vv {z:Int}{n:Nat}(h1: -(n:Int)<=z)(h2:z<(n:Int)):ZQ z<2*n:=by
 unfold ZQ
 split<;>omega
structure Oq where
 Mh:Nat
 interval:Nat
 zeta:Nat
def ND (succ ref:List Nat):List Nat:=ref.foldl (λrs y=>Nt rs (decide (y∈succ))) [0]
theorem Ps (succ ref:List Nat):PM (ND succ ref) (ref.map λy=>decide (y∈succ)):=by
 unfold ND
 have key:∀(l:List Nat) (rs:List Nat) (fs:List Bool),PM rs fs->PM (l.foldl (λrs y=>Nt rs (decide (y∈succ))) rs) (fs++l.map λy=>decide (y∈succ)):=by
  intro l
  induction l with
  |nil=>intro rs fs h;simpa using h
  | cons y l ih =>
    intro rs fs h;have:=ih _ _ (h.step (decide (y∈succ)))
    simpa using this
 simpa using key ref [0] [] PM.zero
def leftOf (succ ref:List Nat):List Nat:=succ.filter λv=>decide (v∉ref)
theorem z4c (P:Nat->Bool):∀l:List Nat,sel l (l.map P)=l.filter P
 |[]=>rfl
 | x :: l => by
   rw[List.map_cons,sel,z4c P l];cases h:P x<;>simp[h]
theorem z4F (succ ref:List Nat):copyL true (ND succ ref).dropLast ref=ref.filter λy=>decide (y∈succ):=by
 have h:=Ps succ ref
 obtain⟨l,n,e⟩:∃l n,ND succ ref=l++[n]:=⟨_,_,(List.dropLast_concat_getLast h.ne).symm⟩
 rw[e,List.dropLast_concat]
 have he:=h.exp
 rw[e] at he
 have hl:ref.length=(l++[n]).sum:=by
  have:=congrArg List.length he;rw[P7,List.length_map] at this;exact this.symm
 rw[z0I true l n ref hl,he,z4c]
def runNums:Nat->List Nat->List (Cd×Nat)
 |_,[]=>[]
 |i,n::r=>(.gamma,n-min i 1)::runNums (i+1) r
def longNums (x least:Nat):Option Nat->List (Nat×Nat)->List (Cd×Nat)
 |_,[]=>[]
 |none,p::r=>(.gamma,ZQ ((p.1:Int)-x))::(.gamma,p.2-least)::longNums x least (some (p.1+p.2-1)) r
 |some e,p::r=>(.gamma,p.1-e-2)::(.gamma,p.2-least)::longNums x least (some (p.1+p.2-1)) r
def restNums (x k:Nat):Option Nat->List Nat->List (Cd×Nat)
 |_,[]=>[]
 |none,v::r=>(.zeta k,ZQ ((v:Int)-x))::restNums x k (some v) r
 |some u,v::r=>(.zeta k,v-u-1)::restNums x k (some v) r
def NW (p:Oq)(x:Nat)(succ ref:List Nat)(r:Nat):List (Cd×Nat):=
 (.gamma,succ.length)::if succ=[] then [] else
  (if 0<p.Mh then [(.unary,r)] else [])++
  ((if 0<r then(.gamma,(ND succ ref).length-1)::runNums 0 (ND succ ref).dropLast else [])++
  (if leftOf succ ref=[] then [] else
   (if 0<p.interval then(.gamma,(rowsN p.interval (leftOf succ ref)).1.length)::longNums x p.interval none (rowsN p.interval (leftOf succ ref)).1 else [])++
   restNums x p.zeta none (rowsN p.interval (leftOf succ ref)).2))
def Mf (l:List (Cd×Nat)):List Bool:=l.flatMap λp=>p.1.enc p.2
theorem z1C {succ ref:List Nat}(hs:Ris succ)(hr:Ris ref)(p:Nat):(ref.filter (λy=>decide (y∈succ))++(Nq (rowsN p (leftOf succ ref)).1++(rowsN p (leftOf succ ref)).2)).Perm succ:=by
 have h1:(ref.filter λy=>decide (y∈succ)).Perm (succ.filter λv=>decide (v∈ref)):=by
  refine(List.perm_ext_iff_of_nodup (hr.imp (λh=>by omega) |>.filter _) (hs.imp (λh=>by omega) |>.filter _)).2 λa=>?_;simp only[List.mem_filter,decide_eq_true_eq];exact And.comm
 refine(h1.append (PX p _)).trans ?_
 unfold leftOf
 have:=List.filter_append_perm (λv=>decide (v∈ref)) succ
 refine List.Perm.trans ?_ this
 refine List.Perm.append_left _ ?_
 simp
theorem z2B {a b:List Nat}(h:a.Perm b)(ha:a.Pairwise (·<=·))(hb:Ris b):a=b:=
 h.eq_of_pairwise (le:=(·<=·)) (λx y _ _ h1 h2=>by omega) ha (hb.imp (λh=>by omega))
def Pc (least:Nat):Nat->List (Nat×Nat)->Prop
 |_,[]=>True
 |lo,p::r=>lo<=p.1/\1<=p.2/\least<=p.2/\Pc least (p.1+p.2+1) r
theorem Pc.mono {least:Nat}:∀{r:List (Nat×Nat)} {a b:Nat},Pc least b r->a<=b->Pc least a r
 |[],_,_,_,_=>trivial
 |p::r,a,b,h,hab=>⟨Nat.le_trans hab h.1,h.2⟩
theorem z1W {x:Nat}{l:List Nat}(h:Ris (x::l)):∀y∈l.drop (runLen x l),x+runLen x l+2<=y:=by
 intro y hy
 obtain⟨j,hj,e⟩:=List.mem_iff_getElem.1 hy
 rw[List.getElem_drop] at e
 rw[List.length_drop] at hj
 obtain⟨h1,h2⟩:=List.pairwise_cons.1 h
 have hle:=SX x l
 have h0:runLen x l<l.length:=by omega
 obtain⟨z,hz⟩:∃z,l[runLen x l]? =some z:=⟨_,List.getElem?_eq_getElem h0⟩
 have hs:=Sw x l z hz
 have hz':=(List.getElem?_eq_some_iff.1 hz).2
 have hzx:x+runLen x l<z:=by
  by_cases e0:runLen x l=0
  ·have:=h1 z (List.mem_of_getElem? hz);omega
  ·have hg:=S3 x l (runLen x l-1) (by omega);obtain⟨g1,g2⟩:=List.getElem?_eq_some_iff.1 hg;have:=List.pairwise_iff_getElem.1 h2 (runLen x l-1) (runLen x l) g1 h0 (by omega);rw[g2,hz'] at this;omega
 have hzy:z<=y:=by
  by_cases e0:j=0
  ·subst e0;simp at e;rw[<-e,<-hz'];exact Nat.le_refl _
  ·have:=List.pairwise_iff_getElem.1 h2 (runLen x l) (runLen x l+j) h0 (by omega) (by omega);rw[e,hz'] at this;omega
 omega
theorem Ro (least:Nat):∀(l:List Nat) (lo:Nat),Ris l->(∀y∈l,lo<=y)->Pc least lo (rowsN least l).1
 |[],lo,_,_=>by rw[rowsN];trivial
 | x :: l, lo, h, hl => by
   have hb:=z1W h;have h2:Ris (l.drop (runLen x l)):=(List.pairwise_cons.1 h).2.sublist (List.drop_sublist _ _);rw[rowsN];split
   ·rename_i hc
    refine⟨hl x (by simp),by omega,hc.2,Ro least _ _ h2 λy hy=>?_⟩;have:=hb y hy;omega
   ·refine Ro least _ _ h2 λy hy=>?_;have:=hb y hy;have:=hl x (by simp);omega
 termination_by l=>l.length
 decreasing_by all_goals (simp[List.length_drop];omega)
theorem QS (least:Nat):∀(l:List Nat),(rowsN least l).2.Sublist l
 |[]=>by rw[rowsN];exact List.Sublist.refl _
 | x :: l => by
   have ih:=QS least (l.drop (runLen x l));rw[rowsN];split
   ·exact(ih.trans (List.drop_sublist _ _)).cons x
   ·have hc:x::l=(x::l.take (runLen x l))++l.drop (runLen x l):=by rw[List.cons_append,List.take_append_drop]
    conv=>rhs;rw[hc]
    exact ih.append_left _
 termination_by l=>l.length
 decreasing_by simp[List.length_drop];omega
abbrev Ms (n:Nat):Value:= .int .u32 (n:Int)
theorem ZY (m:Nat)(h:m<18446744073709551616):m^^^18446744073709551615=18446744073709551615-m:=by
 have h1:=congrArg BitVec.toNat (BitVec.xor_allOnes (x:=BitVec.ofNat 64 m))
 rw[BitVec.toNat_xor,BitVec.toNat_not,BitVec.toNat_allOnes,BitVec.toNat_ofNat] at h1
 rw[show(2:Nat)^64=18446744073709551616 from rfl,Nat.mod_eq_of_lt h] at h1
 exact h1
section
variable {P:Program}{e:Env}{d:Option Nat}{ty t t':TypeId}{pos:String}{aft:Array Edge}{g:Option (Nat×Bool)}{x y:Operand}{w:World}{m:Nat}
theorem zcs (hx:look e x=some (I (m:Int)))(hy:look e y=some (I 0))(hm:m<2^63):Y P e ⟨d,.binOp .xor t x y t',ty,pos,aft,g⟩ (I (m:Int)) w w:=fun ρ hρ=>by
 have h1:m<2^IntKind.i64.bits:=by simp only[IntKind.bits];omega
 have h2:(BitVec.ofInt IntKind.i64.bits 0).toNat=0:=by decide
 simp only[execOp,eqGuard_xor,binOp_xor,intBits_xor,hρ _ _ hx,hρ _ _ hy,pure_bind,Sem.run_pure,bits,BitVec.toNat_xor,Nf h1,h2,Nat.xor_zero]
 rw[wrap_i64 ⟨by omega,by omega⟩]
theorem zdx (hx:look e x=some (I (m:Int)))(hy:look e y=some (I (-1)))(hm:m<2^63):Y P e ⟨d,.binOp .xor t x y t',ty,pos,aft,g⟩ (I (-(m:Int)-1)) w w:=fun ρ hρ=>by
 have h1:m<2^IntKind.i64.bits:=by simp only[IntKind.bits];omega
 have h2:(BitVec.ofInt IntKind.i64.bits (-1)).toNat=18446744073709551615:=by decide
 simp only[execOp,eqGuard_xor,binOp_xor,intBits_xor,hρ _ _ hx,hρ _ _ hy,pure_bind,Sem.run_pure,bits,BitVec.toNat_xor,Nf h1,h2]
 rw[ZY m (by omega)]
 congr 2
 have h3:((18446744073709551615-m:Nat):Int)=-(m:Int)-1+18446744073709551616:=by omega
 rw[h3]
 simp only[IntKind.wrap,IntKind.bits,IntKind.signed]
 simp
 omega
end
/-! ### Numbers with a sign -/
theorem z43 (z:Int)(h: -4611686018427387904<=z/\z<4611686018427387904)(w:World):Mm Tryz.prog 199 [I z] w λu w'=>u=M7 (ZQ z)/\w'=w:=by
 rcases Int.lt_or_le z 0 with h0|h0
 ·obtain⟨n,rfl⟩:∃n:Nat,z=-(n:Int)-1:=⟨(-z-1).toNat,by omega⟩;refine It (e:=[(0,_)]) Tryz.func199 rfl Tryz.ntmps199 rfl rfl (qN rfl (M6 rfl (qM rfl (LM rfl (qV (ycv (b:=((18446744073709551615-n:Nat):Int)) rfl U2 Ns (by simp only[IntKind.wrap,IntKind.bits,IntKind.signed];simp;omega)) ?_)))));refine qV (NJ 1 2 rfl rfl (by decide) rfl) (LM rfl (qV (ysr 63 rfl rfl (by decide)) ?_));rw[show(-(n:Int)-1) / 2^63=-1 by omega];refine qV (ycv (b:=((18446744073709551615:Nat):Int)) rfl U2 Ns (by decide)) (qV (Xb rfl rfl (by omega) (by omega)) (LU rfl (LP Tryz.func199 rfl (⟨_,rfl,?_,rfl⟩))));rw[ZY _ (by omega)];simp only[resVal]
  congr 2
  unfold ZQ;rw[if_neg (by omega)];omega
 ·obtain⟨n,rfl⟩:∃n:Nat,z=(n:Int):=⟨z.toNat,by omega⟩;refine It (e:=[(0,_)]) Tryz.func199 rfl Tryz.ntmps199 rfl rfl (qN rfl (M6 rfl (qM rfl (LM rfl (qV ((by first|exact MH rfl U2 Ns (by omega)|exact Oc rfl U2 Ns)) ?_)))));refine qV (NJ 1 2 rfl rfl (by decide) rfl) (LM rfl (qV (Qm 63 9223372036854775808 rfl rfl (by decide) rfl) (qV ((by first|exact MH rfl U2 Ns (by omega)|exact Oc rfl U2 Ns)) ?_)));refine qV (Xb rfl rfl (by omega) (by omega)) (LU rfl (LP Tryz.func199 rfl (⟨_,rfl,?_,rfl⟩)));rw[show n / 9223372036854775808=0 by omega,Nat.xor_zero];simp only[resVal]
  congr 2
  unfold ZQ;rw[if_pos (by omega)];omega
theorem z3C (n:Nat)(h:n<9223372036854775808)(w:World):Mm Tryz.prog 212 [M7 n] w λu w'=>u=I (zag n)/\w'=w:=by
 refine It (e:=[(0,_)]) Tryz.func212 rfl Tryz.ntmps212 rfl rfl (qN rfl (M6 rfl (qM rfl (LM rfl (qV (Qm 1 2 rfl rfl (by decide) rfl) (qV (MB rfl Ns U2 (by omega)) (LM rfl (qV (QT rfl rfl (by omega) (by omega)) ?_))))))))
 rw[Nat.and_one_is_mod]
 refine qV (MB rfl Ns U2 (by omega)) ?_
 rcases Nat.mod_two_eq_zero_or_one n with h0|h0
 ·rw[h0];refine qV (yng rfl (by decide) (by decide)) (qV (zcs rfl rfl (by omega)) (LU rfl (LP Tryz.func212 rfl (⟨_,rfl,?_,rfl⟩))));simp only[resVal];unfold zag;rw[if_pos h0]
 ·rw[h0];refine qV (yng rfl (by decide) (by decide)) (qV (zdx rfl rfl (by omega)) (LU rfl (LP Tryz.func212 rfl (⟨_,rfl,?_,rfl⟩))));simp only[resVal];unfold zag;rw[if_neg (by omega)]
/-! ### The parameters -/
def Wg (p:Oq):List Value:=[I (p.Mh:Int),I (p.interval:Int),I (p.zeta:Int)]
abbrev lpV (p:Oq):Value:= .agg (Wg p).toArray
def Oq.N4 (p:Oq):Prop:=p.Mh<=16/\(p.interval=0\/2<=p.interval/\p.interval<=64)/\1<=p.zeta/\p.zeta<=16
theorem Qg (p:Oq)(hp:p.N4)(w:World):Mm Tryz.prog 168 [lpV p] w λu w'=>u=I 0/\Ext w w':=by
 obtain⟨h1,h2,h3,h4⟩:=hp
 refine It (e:=[(0,_)]) Tryz.func168 rfl Tryz.ntmps168 rfl rfl (qN rfl (LV rfl rfl (NN rfl (cs:=Wg p) rfl) ?_))
 rintro _ w1 ⟨b1,rfl,bR,ad,ai⟩
 replace ai:LX w1 b1 [I (p.Mh:Int),I (p.interval:Int),I (p.zeta:Int)] 245:=ai
 refine LU rfl (run_seq (LK (run_seq (qN rfl (M0 PJ rfl (qV (LR U3 rfl rfl ai rfl) (Nr rfl rfl (MC (LM rfl (M0 PJ rfl (qV (LR U3 rfl rfl ai rfl) (Nc rfl rfl (MC ?_)))))))))))))
 refine ME rfl rfl (LU rfl (An rfl (qN rfl (M0 Ww rfl (qV (LR U3 rfl rfl ai rfl) (Nr rfl rfl (MC (LM rfl (M0 Ww rfl (qV (LR U3 rfl rfl ai rfl) (Nc rfl rfl (MC (ME rfl rfl ?_)))))))))))))
 refine LU rfl (An rfl (LQ rfl (M0 Qx rfl (qV (LR U3 rfl rfl ai rfl) (MY rfl rfl (OS (λe1=>?_) (λe1=>?_)))))))
 ·refine LM rfl (M0 Qx rfl (qV (LR U3 rfl rfl ai rfl) (Nr rfl rfl (MC (LM rfl (M0 Qx rfl (qV (LR U3 rfl rfl ai rfl) (Nc rfl rfl (MC (ME rfl rfl (NB rfl rfl (LU rfl (Mn.qb (e:=[(2,_),(3,_)]) ?_)))))))))))));refine An rfl (py (LL (qN rfl (LU rfl (LP Tryz.func168 rfl ?_)))));exact⟨_,rfl,rfl,ad⟩
 ·refine LM rfl (qS (qS (qS (qS (qS (qS (qS (qS (ME rfl rfl (LU rfl (Mn.qb (e:=[(2,_),(3,_)]) ?_)))))))))));refine An rfl (py (LL (qN rfl (LU rfl (LP Tryz.func168 rfl ?_)))));exact⟨_,rfl,rfl,ad⟩
theorem S2 (n:Nat)(h:n<65536)(w:World):Mm Tryz.prog 169 [I (n:Int)] w λu w'=>u= .bool true/\w'=w:=by
 refine It (e:=[(0,_)]) Tryz.func169 rfl Tryz.ntmps169 rfl rfl (qN rfl (M6 rfl (qM rfl (LM rfl (PQ rfl rfl (O8 (M4 rfl rfl (Nr rfl rfl (O8 (NB rfl rfl (LU rfl (LP Tryz.func169 rfl ?_))))))))))))
 exact⟨_,rfl,rfl,rfl⟩
structure Mw (l:List Nat):Prop where
 Xo:Ris l
 lt:∀y∈l,y<65536
theorem ZM:∀(l:List Nat) (lo hi:Nat),Ris l->(∀y∈l,lo<=y/\y<hi)->lo<=hi->lo+l.length<=hi
 |[],lo,hi,_,_,h=>h
 | x :: l, lo, hi, hr, hm, h => by
   have h1:=(List.pairwise_cons.1 hr);have h2:=hm x List.mem_cons_self;have:=ZM l (x+1) hi h1.2 (λy hy=>⟨h1.1 y hy,(hm y (List.mem_cons_of_mem _ hy)).2⟩) (by omega);rw[List.length_cons];omega
theorem Mw.len {l:List Nat}(h:Mw l):l.length<=65536:=by
 have:=ZM l 0 65536 h.Xo (λy hy=>⟨Nat.zero_le _,h.lt y hy⟩) (by decide)
 omega
theorem Mw.sub {l m:List Nat}(h:Mw l)(hs:m.Sublist l):Mw m:=⟨h.Xo.sublist hs,λy hy=>h.lt y (hs.subset hy)⟩
theorem SB (v:Value)(l:List Nat)(hl:Mw l)(w:World)(hr:Rd w v 1 l.length (l.map Ms)):
  Mm Tryz.prog 170 [v] w λu w'=>u= .bool true/\w'=w:=by
 have aB:=hl.len
 obtain⟨a,cap,rfl,ha⟩:=hr.shape
 refine It (e:=[(0,_)]) Tryz.func170 rfl Tryz.ntmps170 rfl rfl (qN rfl (LU rfl (run_seq (qN rfl (LM rfl (NX Ml rfl (LM rfl (LO (LK (Oe (α:=Nat) (0) (λi=>[(0,.slice a l.length cap),(5,.slice a l.length cap),(6,I (l.length:Int)),(7,I (i:Int))]) (λi w'=>w'=w/\i<=l.length) (λi=>l.length-i) ?hI ?hround))))))))))
 case hI=>exact⟨rfl,by omega⟩
 case hround=>
  rintro i _ ⟨rfl,hi⟩ ih
  try dsimp only
  refine qN rfl (Nr rfl rfl (LO (run_seq (LY rfl (λaP=>?_) (λaP=>?_)))))
  ·have fw:i<l.length:=by omega
   have hy:=hl.lt l[i] (List.getElem_mem fw);rcases hr.2 with⟨c,-,h⟩|⟨b,off,cap',ld,bh⟩
   ·omega
   cases ld;refine py (run_seq (LK (qN rfl (LM rfl (qV (MN Ml Mc rfl rfl (by omega)) (qV (Mt N5 rfl rfl (bh (i*1) (Ms l[i]) (by simp[fw]))) ?_))))));refine M6 rfl (M6 rfl (qM rfl (LM rfl (PQ rfl rfl (MC (M4 rfl rfl (Nc rfl rfl (OS (λe1=>?_) (λe1=>?_)))))))))
   ·have hp:l[i-1]<l[i]:=(List.pairwise_iff_getElem.1 hl.Xo) (i-1) i (by omega) fw (by omega);refine M4 rfl rfl (M4 rfl rfl (NP rfl rfl ?_));rw[show(i:Int)-1=((i-1:Nat):Int) by omega];refine qV (MN Ml Mc rfl rfl (by omega)) (qV (Mt N5 rfl rfl (bh ((i-1)*1) (Ms l[i-1]) (by simp[show i-1<l.length by omega]))) ?_);refine zle rfl rfl (MC (NB rfl rfl (ME rfl rfl (LO (An rfl (py (LL (LQ rfl (MK rfl rfl (LM rfl (LO ?_)))))))))));exact(ih (i+1) _ ⟨rfl,by omega⟩ (by omega)).qb
   ·refine LM rfl (qS (qS (qS (qS (qS (qS (qS (ME rfl rfl (ME rfl rfl (LO (An rfl (py (LL ?_)))))))))))));refine LQ rfl (MK rfl rfl (LM rfl (LO ?_)));exact(ih (i+1) _ ⟨rfl,by omega⟩ (by omega)).qb
  ·refine LW rfl (qN rfl (LU rfl (LP Tryz.func170 rfl ?_)));exact⟨_,rfl,rfl,rfl⟩
theorem z66 (p:Oq)(hp:p.N4)(x:Nat)(hx:x<65536)(v u:Value)(l m:List Nat)(r:Nat)(hl:Mw l)(hm:Mw m)(hr:r<=p.Mh)(lh:r=0->m=[])(w:World)
  (gM:Rd w v 1 l.length (l.map Ms)) (yV:Rd w u 1 m.length (m.map Ms)):
  Mm Tryz.prog 174 [lpV p,I (x:Int),v,u,I (r:Int)] w λo w'=>o= .bool true/\Ext w w':=by
 obtain⟨h1,h2,h3,h4⟩:=id hp
 refine It (e:=[(0,_),(1,_),(2,_),(3,_),(4,_)]) Tryz.func174 rfl Tryz.ntmps174 rfl rfl (qN rfl (LV rfl rfl (NN rfl (cs:=Wg p) rfl) ?_))
 rintro _ w1 ⟨b1,rfl,bR,ad,ai⟩
 refine M6 rfl (qM rfl (qV (Mk (news:=Wg p) VH rfl Qr rfl (ai.cells (n:=3) rfl) rfl) (Mb ZX rfl (Qg p hp w1) ?_)))
 rintro _ w2 ⟨rfl,af⟩
 have am:=af.LN ai
 replace am:LX w2 b1 [I (p.Mh:Int),I (p.interval:Int),I (p.zeta:Int)] 245:=am
 refine NS rfl rfl (O8 (M4 rfl rfl (Mb z3U rfl (S2 x hx w2) ?_)))
 rintro _ w3 ⟨rfl,rfl⟩
 refine NB rfl rfl (M4 rfl rfl (Mb z18 rfl (SB v l hl w3 (gM.ext (ad.trans af))) ?_))
 rintro _ w4 ⟨rfl,rfl⟩
 refine NB rfl rfl (M4 rfl rfl (Mb z18 rfl (SB u m hm w4 (yV.ext (ad.trans af))) ?_))
 rintro _ w5 ⟨rfl,rfl⟩
 refine NB rfl rfl (LM rfl ?_)
 obtain⟨ua,uc,rfl,-⟩:=yV.shape
 refine LM rfl (PQ rfl rfl (O8 (NB rfl rfl (M4 rfl rfl (M0 PJ rfl (qV (LR U3 rfl rfl am rfl) (zle rfl rfl (O8 (NB rfl rfl (M4 rfl rfl (Nc rfl rfl (OS (λe1=>?_) (λe1=>?_)))))))))))))
 ·refine LM rfl (qS (qS (qS (NB rfl rfl (NB rfl rfl (LU rfl (Mn.qb (e:=[(10,_)]) ?_)))))));refine LP Tryz.func174 rfl ?_;exact⟨_,rfl,rfl,ad.trans af⟩
 ·have e2:=lh (by omega);subst e2;refine M4 rfl rfl (NX Ml rfl (NS rfl rfl (O8 (ME rfl rfl (NB rfl rfl (LU rfl (Mn.qb (e:=[(10,_)]) ?_)))))));refine LP Tryz.func174 rfl ?_;exact⟨_,rfl,rfl,ad.trans af⟩
theorem UN (l:List Nat):∀c∈l.map Ms,c.oneCell'=true:=by
 intro c hc
 obtain⟨x,-,rfl⟩:=List.mem_map.1 hc
 rfl
def Yh (p:Nat×Nat):List Value:=[I (p.1:Int),I (p.2:Int)]
theorem z5V (l:List (Nat×Nat)):(l.flatMap Yh).length=l.length*2:=by
 induction l with
 |nil=>rfl
 |cons p l ih=>rw[List.flatMap_cons,List.length_append,ih,List.length_cons,show(Yh p).length=2 from rfl];omega
theorem Sl.oneV {w:World}{v:Value}{e size n:Nat}{cs:List Value}(h:Sl w v e size n cs):oneV v=true:=by
 rcases h.shape with⟨rfl,-⟩|⟨g,cap,rfl,-⟩<;>rfl
structure z8l (w:World)(l:List Nat)(least:Nat)(r:List Nat)(a:Option Addr)(cap:Nat)(v4 v5:Value)(R:List (Nat×Nat))(O:List Nat)(w':World):Prop where
 ext:Ext w w'
 cl:r.length<=cap
 rd:Rd w (.slice a r.length cap) 1 r.length (r.map Ms)
 s4:Sl w' v4 325 2 R.length (R.flatMap Yh)
 s5:Sl w' v5 46 1 O.length (O.map Ms)
 f4:∀g,v4.ownBlock=some g->w.heap.size<=g
 f5:∀g,v5.ownBlock=some g->w.heap.size<=g
 ne:∀g,v4.ownBlock=some g->v5.ownBlock≠some g
 ok:Mw r
 eq:rowsN least l=(R++(rowsN least r).1,O++(rowsN least r).2)
 len:R.length+O.length+r.length<=65536
theorem Q7 {w:World}{a:Option Addr}{n cap i:Nat}{cs:List Value}(h:Rd w (.slice a n cap) 1 n cs)(hi:i<=n)(hc:n<=cap):Rd w (.slice (if cap=i then a else a.map (·.add (i*1))) (n-i) (cap-i)) 1 (n-i) (cs.drop i):=by
 have hl:=h.1
 refine⟨by rw[List.length_drop,hl];omega,?_⟩
 rcases h.2 with⟨c,hv,h0⟩|⟨b,off,cap',hv,bh⟩
 ·refine .inl ⟨((if cap=i then a else a.map (·.add (i*1))),cap-i),?_,by omega⟩;rw[show n-i=0 by omega]
 ·cases hv;by_cases e:cap=i
  ·rw[if_pos e];refine .inl ⟨(some ⟨b,off,none⟩,cap-i),?_,by omega⟩;rw[show n-i=0 by omega]
  ·rw[if_neg e];refine .inr ⟨b,off+i*1,cap-i,?_,λj u hu=>?_⟩
   ·simp only[Option.map_some,Nz]
   ·rw[List.getElem?_drop] at hu;have:=bh (i+j) u hu;rw[show off+i*1+j=off+(i+j) by omega];exact this
theorem Rk {w:World}{a:Option Addr}{n cap i:Nat}{cs:List Value}(h:Rd w (.slice a n cap) 1 n cs)(hi:i<=n):Rd w (.slice a i cap) 1 i (cs.take i):=by
 have hl:=h.1
 refine⟨by rw[List.length_take,hl];omega,?_⟩
 rcases h.2 with⟨c,hv,h0⟩|⟨b,off,cap',hv,bh⟩
 ·refine .inl ⟨(a,cap),?_,by omega⟩;rw[show i=0 by omega]
 ·cases hv;refine .inr ⟨b,off,cap,rfl,λj u hu=>?_⟩;rw[List.getElem?_take] at hu;split at hu
  ·exact bh j u hu
  ·cases hu
theorem z8l.grow {w w1 w2:World}{l r:List Nat}{least cap:Nat}{a:Option Addr}{v4 v5:Value}{R:List (Nat×Nat)}{O:List Nat}(h:z8l w l least r a cap v4 v5 R O w1)(hx:Ext w1 w2):z8l w l least r a cap v4 v5 R O w2:=
 ⟨h.ext.trans hx,h.cl,h.rd,h.s4.ext hx,h.s5.ext hx,h.f4,h.f5,h.ne,h.ok,h.eq,h.len⟩
theorem z7M (a : Option Addr)(cap : Nat)(l : List Nat)(least : Nat)(o4 : Mw l)(jy : l.length <= cap)(jB : least <= 64)(w : World)(hr : Rd w (.slice a l.length cap) 1 l.length (l.map Ms)) :
  Mm Tryz.prog 198 [.slice a l.length cap,I (least:Int)] w λu w'=>∃v4 v5,u= .tuple #[v4,v5]/\Sl w' v4 325 2 (rowsN least l).1.length ((rowsN least l).1.flatMap Yh)/\
   Sl w' v5 46 1 (rowsN least l).2.length ((rowsN least l).2.map Ms)/\Ext w w'/\(∀g,v4.ownBlock=some g->w.heap.size<=g)/\(∀g,v5.ownBlock=some g->w.heap.size<=g)/\∀g,v4.ownBlock=some g->v5.ownBlock≠some g:=by
 refine It (e:=[(0,_),(1,_)]) Tryz.func198 rfl Tryz.ntmps198 rfl rfl (qN rfl (M6 rfl (LU rfl (run_seq (LK (Oe (α:=List Nat×Option Addr×Nat×Value×Value×List (Nat×Nat)×List Nat) ((l,a,cap,.slice none 0 0,.slice none 0 0,[],[])) (λx=>[(0,.slice x.2.1 x.1.length x.2.2.1),(1,I (least:Int)),(4,x.2.2.2.1),(5,x.2.2.2.2.1)]) (λx w'=>z8l w l least x.1 x.2.1 x.2.2.1 x.2.2.2.1 x.2.2.2.2.1 x.2.2.2.2.2.1 x.2.2.2.2.2.2 w') (λx=>x.1.length) ?hI ?hround))))))
 case hI=>exact⟨Ext.refl _,jy,hr,Sl.nil _ _ _,Sl.nil _ _ _,(λg h=>by cases h),(λg h=>by cases h),(λg h=>by cases h),o4,rfl,by have:=o4.len;simp;omega⟩
 case hround =>
  rintro⟨r,a1,c1,v4,v5,R,O⟩ w6 hI ih;dsimp only at hI
  try dsimp only
  refine run_seq (qN rfl (LM rfl (NX Ml rfl (Nc rfl rfl (LO (LY rfl (λh0=>?_) (λh0=>?_)))))))
  ·obtain⟨y,r',rfl⟩:∃y r',r=y::r':=by
    cases r with
    |nil=>exact absurd h0 (by simp)
    |cons y r'=>exact⟨y,r',rfl⟩
   have gM:=SX y r';have GW:=hI.ok.lt y List.mem_cons_self;have iL:=hI.ok.len;rw[List.length_cons] at iL
   obtain⟨b,off,ld,bh⟩:∃b off,a1=some ⟨b,off,none⟩/\∀j u,((y::r').map Ms)[j]? =some u->w6.cell? ⟨b,off+j,none⟩=some u:=by
    rcases (hI.rd.ext hI.ext).2 with⟨c,-,h⟩|⟨b,off,cap',ld,bh⟩
    ·exact absurd h (by simp)
    ·cases ld;exact⟨b,off,rfl,bh⟩
   subst ld
   have jC:∀w',Ext w w'->∀j u,((y::r').map Ms)[j]? =some u->w'.cell? ⟨b,off+j,none⟩=some u:=λw' hx=>by
    rcases (hI.rd.ext hx).2 with⟨c,-,h⟩|⟨b',off',cap',ld,hc⟩
    ·exact absurd h (by simp)
    ·cases ld;exact hc
   clear bh;refine py (LK (qN rfl (LU rfl (run_seq (LK (Ot (λe' w'=>Ext w6 w'/\e'=[(0,.slice (some ⟨b,off,none⟩) (y::r').length c1),(1,I (least:Int)),(4,v4),(5,v5),(6,I ((runLen y r'+1:Nat):Int))]) ?rG (λrG=>?AH)))))))
   case rG=>
    rintro e' w6z ⟨aN,rfl⟩;replace hI:=hI.grow aN;have bh:=jC _ hI.ext
    generalize hn:runLen y r'+1=n
    have qj:=hI.cl;rw[List.length_cons] at qj;have dH:=hI.eq;have aB:=hI.len;rw[List.length_cons] at aB;have cK:1<=n/\n<=r'.length+1:=by omega
    have uI:r'.drop (runLen y r')=(y::r').drop n:=by rw[<-hn];rfl
    have mx:y::r'.take (runLen y r')=(y::r').take n:=by rw[<-hn];rfl
    rw[rowsN] at dH;simp only[hn,uI,mx] at dH;have au:Mw ((y::r').drop n):=hI.ok.sub (List.drop_sublist _ _);have dQ:=Q7 hI.rd (i:=n) (by rw[List.length_cons];omega) hI.cl;rw[<-List.map_drop,show(y::r').length-n=((y::r').drop n).length by rw[List.length_drop]] at dQ;have ky:((y::r').drop n).length=r'.length+1-n:=by rw[List.length_drop,List.length_cons]
    by_cases hL:0<least/\least<=n
    ·obtain⟨rH,F0⟩:=hL;rw[if_pos ⟨rH,F0⟩] at dH;refine run_seq (qN rfl (LM rfl (Nc rfl rfl (O8 (M4 rfl rfl (LM rfl (PQ rfl rfl (O8 (NB rfl rfl (LO (M3 rfl (LQ rfl (M4 rfl rfl ?_)))))))))))));refine qV (MN Ml Mc rfl rfl (by omega)) (qV (Mt N5 rfl rfl (bh (0*1) (Ms y) rfl)) (qV (MB rfl N5 U3 (by omega)) (LM rfl (qV (OJ (cs:=[_,_]) XM rfl zet rfl rfl) (LV rfl rfl (Uu (cs:=[_,_]) (zs:=[Value.int .i64 0,Value.int .i64 0]) z6E XM rfl (by kernel_rfl) rfl rfl rfl (by decide)) ?_)))));rintro _ w7 ⟨b7,rfl,⟨kX,bQ,bN⟩,gV⟩;refine LV rfl rfl (pap z6E XM rfl (by decide) rfl rfl (hI.s4.ext bQ) gV.rd (by intro c hc;simp at hc;rcases hc with rfl|rfl<;>rfl) (by omega) (by simp only[maxLen];omega)) ?_;rintro v4' w8 ⟨eB,bj,kB,-⟩;have mb:=eB.oneV;have hz:=hI.ext.size;have yX:=bQ.size;have cV:Ext w w8:=(hI.ext.trans bQ).LJ bj (λi hi=>hI.f4 i hi);have o5:Sl w8 v5 46 1 O.length (O.map Ms):=(hI.s5.ext bQ).kp bj (λg hg e=>hI.ne g e hg);refine LU rfl (LQ rfl (M4 rfl rfl (qV (UW Ml Mc rfl rfl (by rw[List.length_cons];omega) hI.cl) ?_)));refine LU rfl (LL ?_);rw[show(y::r').length-n=((y::r').drop n).length by rw[List.length_drop]];refine(ih ((y::r').drop n,_,c1-n,v4',v5,R++[(y,n)],O) _ ⟨cV,by dsimp only;rw[ky];omega,dQ,?_,o5,?_,hI.f5,?_,au,?_,?_⟩ ?_).qb
     ·dsimp only;rw[List.length_append,List.flatMap_append];exact eB
     ·intro g hg;rcases kB g hg with h| h
      ·exact hI.f4 g h
      ·omega
     ·intro g hg e;rcases kB g hg with h| h
      ·exact hI.ne g h e
      ·have:=hI.s5.lt e;omega
     ·dsimp only;rw[dH,List.append_assoc];rfl
     ·dsimp only;rw[List.length_append,List.length_singleton,ky];omega
     ·dsimp only;rw[ky,List.length_cons];omega
    ·rw[if_neg hL] at dH;rcases Nat.eq_zero_or_pos least with e0|e0
     ·refine run_seq (qN rfl (LM rfl (Nc rfl rfl (MC (LM rfl (qS (qS (qS (ME rfl rfl (LO (An rfl (LQ rfl (M4 rfl rfl ?_)))))))))))));refine LM rfl (qV (z6g Ml Mc rfl rfl (by omega)) (LV rfl rfl (pap Ml Mc rfl (by decide) rfl rfl hI.s5 (Rk (hI.rd.ext hI.ext) (i:=n) (by rw[List.length_cons];omega)) (by rw[<-List.map_take];exact UN _) (by omega) (by simp only[maxLen];omega)) ?_));rintro v5' w8 ⟨eB,bj,kB,-⟩;have mb:=eB.oneV;have hz:=hI.ext.size;have cV:Ext w w8:=hI.ext.LJ bj (λi hi=>hI.f5 i hi);have ub:Sl w8 v4 325 2 R.length (R.flatMap Yh):=hI.s4.kp bj (λg hg e=>hI.ne g hg e);refine LU rfl (LQ rfl (M4 rfl rfl (qV (UW Ml Mc rfl rfl (by rw[List.length_cons];omega) hI.cl) ?_)));refine LU rfl (LL ?_);rw[show(y::r').length-n=((y::r').drop n).length by rw[List.length_drop]];have mF:((y::r').take n).length=n:=by rw[List.length_take,List.length_cons];omega
      refine(ih ((y::r').drop n,_,c1-n,v4,v5',R,O++(y::r').take n) _ ⟨cV,by dsimp only;rw[ky];omega,dQ,ub,?_,hI.f4,?_,?_,au,?_,?_⟩ ?_).qb
      ·dsimp only;rw[List.length_append,List.map_append,mF,List.map_take];exact eB
      ·intro g hg;rcases kB g hg with h| h
       ·exact hI.f5 g h
       ·omega
      ·intro g hg e;rcases kB g e with h| h
       ·exact hI.ne g hg h
       ·have:=hI.s4.lt hg;omega
      ·dsimp only;rw[dH,List.append_assoc]
      ·dsimp only;rw[List.length_append,mF,ky];omega
      ·dsimp only;rw[ky,List.length_cons];omega
     ·have F0:¬least<=n:=λh=>hL ⟨e0,h⟩;refine run_seq (qN rfl (LM rfl (Nc rfl rfl (O8 (M4 rfl rfl (LM rfl (PQ rfl rfl (MC (NB rfl rfl (LO (An rfl (LQ rfl (M4 rfl rfl ?_)))))))))))));refine LM rfl (qV (z6g Ml Mc rfl rfl (by omega)) (LV rfl rfl (pap Ml Mc rfl (by decide) rfl rfl hI.s5 (Rk (hI.rd.ext hI.ext) (i:=n) (by rw[List.length_cons];omega)) (by rw[<-List.map_take];exact UN _) (by omega) (by simp only[maxLen];omega)) ?_));rintro v5' w8 ⟨eB,bj,kB,-⟩;have mb:=eB.oneV;have hz:=hI.ext.size;have cV:Ext w w8:=hI.ext.LJ bj (λi hi=>hI.f5 i hi);have ub:Sl w8 v4 325 2 R.length (R.flatMap Yh):=hI.s4.kp bj (λg hg e=>hI.ne g hg e);refine LU rfl (LQ rfl (M4 rfl rfl (qV (UW Ml Mc rfl rfl (by rw[List.length_cons];omega) hI.cl) ?_)));refine LU rfl (LL ?_);rw[show(y::r').length-n=((y::r').drop n).length by rw[List.length_drop]];have mF:((y::r').take n).length=n:=by rw[List.length_take,List.length_cons];omega
      refine(ih ((y::r').drop n,_,c1-n,v4,v5',R,O++(y::r').take n) _ ⟨cV,by dsimp only;rw[ky];omega,dQ,ub,?_,hI.f4,?_,?_,au,?_,?_⟩ ?_).qb
      ·dsimp only;rw[List.length_append,List.map_append,mF,List.map_take];exact eB
      ·intro g hg;rcases kB g hg with h| h
       ·exact hI.f5 g h
       ·omega
      ·intro g hg e;rcases kB g e with h| h
       ·exact hI.ne g hg h
       ·have:=hI.s4.lt hg;omega
      ·dsimp only;rw[dH,List.append_assoc]
      ·dsimp only;rw[List.length_append,mF,ky];omega
      ·dsimp only;rw[ky,List.length_cons];omega
   case AH =>
    refine Oe (α:=Nat) (1) (λi=>[(0,.slice (some ⟨b,off,none⟩) (y::r').length c1),(1,I (least:Int)),(4,v4),(5,v5),(6,I (i:Int))]) (λi w'=>Ext w6 w'/\1<=i/\i<=runLen y r'+1) (λi=>runLen y r'+2-i) ?hI ?hround
    case hI=>exact⟨Ext.refl _,by omega,by omega⟩
    case hround=>
     rintro i w7 ⟨bQ,yY,dv⟩ ih2
     try dsimp only
     refine run_seq (run_seq ?_);have hg:=(Ext.refl w7).drew;refine NF (λw'=>Ext w7 w') rfl (M9 0 rfl rfl (hg) (M9 1 rfl rfl (hg) (LS 2 rfl (OZ Ml rfl) hg (LS 3 rfl (XF rfl rfl) hg (zdv (λe1=>?_) (λe1=>?_))))))
     ·have KJ:i<r'.length+1:=by rw[List.length_cons] at e1;omega
      have cR:r'[i-1]? =some (r'[i-1]'(by omega)):=List.getElem?_eq_getElem (by omega);have KK:r'[i-1]'(by omega)<65536:=hI.ok.lt _ (List.mem_cons_of_mem _ (List.getElem_mem _));refine M9 4 rfl rfl (hg) (M9 5 rfl rfl (hg) (M9 6 rfl rfl (hg) (LS 7 rfl (MN Ml Mc rfl rfl (by omega)) hg (M9 9 rfl rfl (hg) (LS 10 rfl (MN Ml Mc rfl rfl (by omega)) hg (M9 12 rfl rfl (hg) (LS 13 rfl (Xt rfl U3 N5) hg (qT 8 rfl (λ_ hS=>Mt N5 rfl rfl (by exact jC _ ((hI.ext.trans bQ).trans hS) (i*1) (Ms (r'[i-1]'(by omega))) (by rw[List.getElem?_map,show i*1=(i-1)+1 by omega,List.getElem?_cons_succ,cR];rfl))) hg ?_))))))));refine qT 11 rfl (λ_ hS=>Mt N5 rfl rfl (by exact jC _ ((hI.ext.trans bQ).trans hS) (0*1) (Ms y) rfl)) hg ?_;refine LS 14 rfl (zcb rfl rfl) hg (LS 15 rfl (ZT rfl rfl) hg (LS 16 rfl (Rx rfl rfl) hg (qE (LY rfl (λe2=>?_) (λe2=>?_)))))
      ·refine py (LK (LQ rfl (LM rfl (MK rfl rfl (LU rfl (LL ?_))))))
       have bI:i≠runLen y r'+1:=λe=>by
        subst e;have:=Sw y r' (r'[runLen y r'+1-1]'(by omega)) (by rw[<-cR];simp);omega
       exact(ih2 (i+1) _ ⟨bQ.trans hg,by omega,by omega⟩ (by omega)).qb
      ·have AI:i=runLen y r'+1:=by
        rcases Nat.lt_or_ge (i-1) (runLen y r') with h| h
        ·have h1:=S3 y r' (i-1) h;rw[cR] at h1;have h2:=NV h1;exact absurd (by omega) e2
        ·omega
       refine LW rfl ?_;subst AI;exact(rG _ _ ⟨bQ.trans hg,rfl⟩).qb
     ·have AI:i=runLen y r'+1:=by rw[List.length_cons] at e1;omega
      refine M9 4 rfl rfl (hg) (qJ 5 rfl (hg) (qJ 6 rfl (hg) (qJ 7 rfl (hg) (qJ 8 rfl (hg) (qJ 9 rfl (hg) (qJ 10 rfl (hg) (qJ 11 rfl (hg) (qJ 12 rfl (hg) (qJ 13 rfl (hg) (qJ 14 rfl (hg) (qJ 15 rfl (hg) (LS 16 rfl (R8 rfl rfl) hg (qE ?_)))))))))))));refine An rfl (LW rfl ?_);subst AI;exact(rG _ _ ⟨bQ.trans hg,rfl⟩).qb
  ·have eH:r=[]:=List.eq_nil_of_length_eq_zero (by omega);subst eH;refine LW rfl (qN rfl (M4 rfl rfl (M6 rfl (LU rfl (LP Tryz.func198 rfl ?_)))));have dH:=hI.eq;simp only[rowsN,List.append_nil] at dH;rw[dH];exact⟨_,rfl,v4,v5,rfl,hI.s4,hI.s5,hI.ext,hI.f4,hI.f5,hI.ne⟩
structure VsM (w:World)(p:Nat)(v:Value)(T el:TypeId)(size n:Nat)(cs:List Value):Prop where
 LN:LX w p [v] T
 sl:Sl w v el size n cs
 ne:v.ownBlock≠some p
def VsA (w:World)(p:Nat)(T el:TypeId)(size n:Nat)(cs:List Value)(F:Nat->Prop):Prop:=∃v,VsM w p v T el size n cs/\∀k,F k↔Ys p v k
section
variable {w w':World}{p:Nat}{T el:TypeId}{size n:Nat}{cs:List Value}{F S:Nat->Prop}
theorem VsA.lt (h:VsA w p T el size n cs F){k:Nat}(hk:F k):k<w.heap.size:=by
 obtain⟨bv,hM,hF⟩:=h
 rcases (hF k).1 hk with e| e
 ·rw[e];exact hM.LN.lt
 ·exact hM.sl.lt e
theorem VsA.kp (h:VsA w p T el size n cs F)(k:Kp S w w')(hn:∀i,F i->¬S i):VsA w' p T el size n cs F:=by
 obtain⟨bv,hM,hF⟩:=h
 exact⟨bv,⟨k.LN hM.LN (hn p ((hF p).2 (.inl rfl))),hM.sl.kp k (λg hg=>hn g ((hF g).2 (.inr hg))),hM.ne⟩,hF⟩
theorem VsA.ext (h:VsA w p T el size n cs F)(k:Ext w w'):VsA w' p T el size n cs F:=h.kp k.kp λ_ _=>id
end
theorem z7r {P:Program}{e:Env}{d:Option Nat}{ty t t':TypeId}{pos:String}{aft:Array Edge}{g:Option (Nat×Bool)}{x y:Operand}{w:World}{p q:Bool}(hx:look e x=some (.bool p))(hy:look e y=some (.bool q))(ht:P.underlying t=some .bool):Y P e ⟨d,.binOp .neq t x y t',ty,pos,aft,g⟩ (.bool (!(p==q))) w w:=fun ρ hρ=>by
 simp[execOp,hρ _ _ hx,hρ _ _ hy,eqGuard_at_bool,run_neq_bool w t p q ht]
def z2Y (q:Cd×Nat):List Value:=OU q.1++[M7 q.2]
abbrev ZW (w:World)(p:Nat)(L:List (Cd×Nat))(F:Nat->Prop):Prop:=VsA w p 295 300 3 L.length (L.flatMap z2Y) F
abbrev Zc (w:World)(p:Nat)(L:List Nat)(F:Nat->Prop):Prop:=VsA w p 45 46 1 L.length (L.map Ms) F
abbrev Yd (w:World)(p:Nat)(L:List Nat)(F:Nat->Prop):Prop:=VsA w p 51 3 1 L.length (L.map λn:Nat=>I (n:Int)) F
theorem PG {w:World}{p:Nat}{L:List (Cd×Nat)}{F:Nat->Prop}(h:ZW w p L F)(hl:L.length<=1000000)(c:Cd)(v:Nat)(hv:v<9223372036854775808):
  Mm Tryz.prog 195 [Zq c,I (v:Int),ptr p 0] w λu w'=>u= .tuple #[]/\∃F',ZW w' p (L++[(c,v)]) F'/\Kp F w w'/\∀k,F' k->F k\/w.heap.size<=k:=by
 obtain⟨x,y,dl,AJ,AK⟩:∃x y,OU c=[x,y]/\x.oneCell'=true/\y.oneCell'=true:=by cases c<;>exact⟨_,_,rfl,rfl,rfl⟩
 obtain⟨bv,hM,hF⟩:=h
 have qk:Zq c= .agg [x,y].toArray:=by rw[Zq,dl]
 rw[qk]
 have GX:∀c∈[x,y,M7 v],c.oneCell'=true:=by
  intro c hc;rcases List.mem_cons.1 hc with rfl|hc
  ·exact AJ
  rcases List.mem_cons.1 hc with rfl|hc
  ·exact AK
  rcases List.mem_cons.1 hc with rfl|hc
  ·rfl
  ·simp at hc
 refine It (e:=[(0,_),(1,_),(2,_)]) Tryz.func195 rfl Tryz.ntmps195 rfl rfl (qN rfl (LV rfl rfl (NN rfl (cs:=[x,y]) rfl) ?_))
 rintro _ w1 ⟨b3,rfl,en,ad,aq⟩
 have jj:=ad.LN hM.LN
 refine LO (LQ rfl (qV (LR Wi rfl rfl jj rfl) (qV (Mk (news:=[x,y]) OK rfl Nk rfl (aq.cells (n:=2) rfl) rfl) (LM rfl (qV ((by first|exact MH rfl U3 Ns (by omega)|exact Oc rfl U3 Ns)) ?_)))))
 refine qV (OJ (cs:=[_,_,_]) RR rfl zaf rfl rfl) (LV rfl rfl (Uu (cs:=[_,_,_]) (zs:=[Value.int .u8 0,Value.int .u64 0,Value.int .u64 0]) Wi RR rfl (by kernel_rfl) rfl rfl rfl (by decide)) ?_)
 rintro _ w2 ⟨b2,rfl,⟨bY,af,am⟩,cN⟩
 refine LV rfl rfl (pap Wi RR rfl (by decide) rfl rfl ((hM.sl.ext ad).ext af) cN.rd GX (by omega) (by simp only[maxLen];omega)) ?_
 rintro v3 w3 ⟨cO,ar,kz,-⟩
 have mb:=cO.oneV
 have aM:=ar.LN (af.LN jj) hM.ne
 refine M1 rfl (NC z6L rfl rfl mb aM (by simp)) ?_
 rintro w4 ⟨aF,ax⟩
 replace aF:LX w4 p [v3] 295:=aF
 have z1:=ad.size
 have z2:=af.size
 have lp:=hM.LN.lt
 have eJ:v3.ownBlock≠some p:=λe=>by
  rcases kz p e with e| e
  ·exact hM.ne e
  ·omega
 have ee:=cO.kp ax (λg hg e=>eJ (e▸hg))
 refine LO (N9 Tryz.func195 rfl (⟨_,rfl,rfl,Ys p v3,⟨v3,⟨aF,?_,eJ⟩,λ_=>Iff.rfl⟩,?_,?_⟩))
 ·rw[List.length_append,List.flatMap_append];have e1:[(c,v)].flatMap z2Y=[x,y,M7 v]:=by simp[z2Y,dl]
  rw[e1];exact ee
 ·exact((ad.trans af).kp.trans (ar.LZ λk e=>(hF k).2 (.inr e))).trans (ax.LZ λk e=>(hF k).2 (.inl e))
 ·intro k hk;rcases hk with e| e
  ·exact .inl ((hF k).2 (.inl e))
  ·rcases kz k e with e| e
   ·exact .inl ((hF k).2 (.inr e))
   ·exact .inr (by omega)
def Rw (rs:List Nat)(f:Bool):List Nat:=if f !=(rs.length%2==1) then rs++[0] else rs
theorem WO (rs:List Nat)(f:Bool):Nt rs f=(Rw rs f).modify ((Rw rs f).length-1) (·+1):=rfl
abbrev z2K (n:Nat):Value:=I (n:Int)
theorem Yv {w:World}{lf rn:Nat}{L:List Nat}{F:Nat->Prop}(h:Zc w lf L F)(hl:L.length<=1000000)(x:Nat)(a:Bool):
  Mm Tryz.prog 197 [Ms x,.bool a,.bool false,ptr lf 0,ptr rn 0] w λu w'=>u= .tuple #[]/\∃F',Zc w' lf (L++[x]) F'/\Kp F w w'/\∀k,F' k->F k\/w.heap.size<=k:=by
 obtain⟨bv,hM,hF⟩:=h
 refine It (e:=[(0,_),(1,_),(2,_),(3,_),(4,_)]) Tryz.func197 rfl Tryz.ntmps197 rfl rfl ?_
 have jj:=hM.LN
 refine run_seq (LK (qN rfl (LM rfl (qV ((by first|exact ML rfl|exact Oh rfl)) ?_))))
 refine LU rfl (M3 rfl (qN rfl (qV (LR Ml rfl rfl jj rfl) (LM rfl (LV rfl rfl (Uu (cs:=[_]) (zs:=[Value.int .u32 0]) Ml Mc rfl (by kernel_rfl) rfl rfl rfl (by decide)) ?_)))))
 rintro _ w2 ⟨b2,rfl,⟨bY,af,am⟩,cN⟩
 refine LV rfl rfl (pap Ml Mc rfl (by decide) rfl rfl (hM.sl.ext af) cN.rd (by intro c hc;simp at hc;subst hc;rfl) (by omega) (by simp only[maxLen];omega)) ?_
 rintro v3 w3 ⟨cO,ar,kz,-⟩
 have mb:=cO.oneV
 have aM:=ar.LN (af.LN jj) hM.ne
 refine M1 rfl (NC Qz rfl rfl mb aM (by simp)) ?_
 rintro w4 ⟨aF,ax⟩
 replace aF:LX w4 lf [v3] 45:=aF
 have z2:=af.size
 have lp:=hM.LN.lt
 have eJ:v3.ownBlock≠some lf:=λe=>by
  rcases kz lf e with e| e
  ·exact hM.ne e
  ·omega
 have ee:=cO.kp ax (λg hg e=>eJ (e▸hg))
 refine LO (LP Tryz.func197 rfl (⟨_,rfl,rfl,Ys lf v3,⟨v3,⟨aF,?_,eJ⟩,λ_=>Iff.rfl⟩,?_,?_⟩))
 ·rw[List.length_append,List.map_append];exact ee
 ·exact(af.kp.trans (ar.LZ λk e=>(hF k).2 (.inr e))).trans (ax.LZ λk e=>(hF k).2 (.inl e))
 ·intro k hk;rcases hk with e| e
  ·exact .inl ((hF k).2 (.inl e))
  ·rcases kz k e with e| e
   ·exact .inl ((hF k).2 (.inr e))
   ·exact .inr (by omega)
theorem VE {w:World}{lf rn:Nat}{rs:List Nat}{F:Nat->Prop}(h:Yd w rn rs F)(hl:rs.length<=1000000)(bI:rs≠[])(hb:∀m∈rs,m<=1000000)(x:Nat)(a:Bool):
  Mm Tryz.prog 197 [Ms x,.bool a,.bool true,ptr lf 0,ptr rn 0] w λu w'=>u= .tuple #[]/\∃F',Yd w' rn (Nt rs a) F'/\Kp F w w'/\∀k,F' k->F k\/w.heap.size<=k:=by
 have aP:∀k,F k->k<w.heap.size:=λk hk=>h.lt hk
 obtain⟨bv,hM,hF⟩:=id h
 refine It (e:=[(0,_),(1,_),(2,_),(3,_),(4,_)]) Tryz.func197 rfl Tryz.ntmps197 rfl rfl ?_
 have jj:=hM.LN
 obtain⟨va,vc,rfl,-⟩:=hM.sl.rd.shape
 refine run_seq (LK (qN rfl (LM rfl (qV ((by first|exact ML rfl|exact Oh rfl)) ?_))))
 refine LU rfl (An rfl (qN rfl (LM rfl (qV (LR NQ rfl rfl jj rfl) (NX NQ rfl (qV (Tw rfl rfl (by omega) (by omega)) ?_))))))
 rw[Nat.and_one_is_mod]
 refine NS rfl rfl (qV (z7r rfl rfl U4) ?_)
 have hd:decide (((rs.length%2:Nat):Int)=1)=(rs.length%2==1):=by
  rcases Nat.mod_two_eq_zero_or_one rs.length with e|e<;>rw[e]<;>rfl
 rw[hd]
 refine LU rfl (MA (λe' w'=>e'=[(4,ptr rn 0)]/\∃F',Yd w' rn (Rw rs a) F'/\Kp F w w'/\∀k,F' k->F k\/w.heap.size<=k) ?rI (λrI=>?rJ))
 case rI=>
  rintro e' w1 ⟨rfl,F1,⟨v1,dG,o6⟩,aK,iB⟩
  obtain⟨l,m,gu,eT,hm⟩:∃l m,Rw rs a=l++[m]/\l.length<=1000000/\m<=1000000:=by
   unfold Rw;split
   ·exact⟨rs,0,rfl,hl,by omega⟩
   ·refine⟨rs.dropLast,rs.getLast bI,(List.dropLast_concat_getLast bI).symm,by rw[List.length_dropLast];omega,hb _ (List.getLast_mem bI)⟩
  rw[gu] at dG;have AL:(l++[m]).length=l.length+1:=by simp
  rw[AL] at dG;rcases dG.sl.shape with⟨-,h0⟩|⟨g,c1,rfl,fx⟩
  ·omega
  have ai:=dG.LN;refine LL (LQ rfl (qV (LR NQ rfl rfl ai rfl) (qV (LR NQ rfl rfl ai rfl) (NX NQ rfl (NP rfl rfl ?_)))));rw[show((l.length+1:Nat):Int)-1=(l.length:Int) by omega];refine qV (MN NQ MO rfl rfl (by omega)) (qV (Mt U3 rfl rfl (MX dG.sl.rd (show((l++[m]).map z2K)[l.length]? =some (z2K m) by simp))) ?_);refine MK rfl rfl (qV (MN NQ MO rfl rfl (by omega)) (M1 rfl (Of MO rfl rfl rfl dG.sl (by simp)) ?_));rintro w2 ⟨cN,ao⟩;have am:=ao.LN ai (λe=>dG.ne (by rw[e];rfl));refine LO (N9 Tryz.func197 rfl (⟨_,rfl,rfl,Ys rn (.slice (some ⟨g,0,none⟩) (l.length+1) c1),⟨_,⟨am,?_,dG.ne⟩,λ_=>Iff.rfl⟩,?_,?_⟩))
  ·rw[WO,gu,SG];have e1:(l++[m+1]).length=l.length+1:=by simp
   rw[e1]
   have e2:((l++[m]).map z2K).set l.length (z2K (m+1))=(l++[m+1]).map z2K:=by
    rw[List.map_append,List.set_append_right _ _ (by simp)];simp
   rw[<-e2];have e3:l.length*1=l.length:=Nat.mul_one _
   first|exact cN|(simp only[Nat.zero_add,Nat.mul_one] at cN;exact cN)
  ·exact aK.LJ (ao.LZ (λk e=>(o6 k).2 (.inr (by rw[e];rfl)))) (λi hi=>(iB i hi).symm)
  ·intro k hk;exact iB k ((o6 k).2 hk)
 case rJ=>
  refine MR rfl (λe1=>?_) (λe1=>?_)
  ·have fA:Rw rs a=rs++[0]:=by unfold Rw;exact if_pos e1
   refine LQ rfl (qV (LR NQ rfl rfl jj rfl) (LV rfl rfl (Uu (cs:=[_]) (zs:=[Value.int .i64 0]) NQ MO rfl (by kernel_rfl) rfl rfl rfl (by decide)) ?_));rintro _ w2 ⟨b2,rfl,⟨bY,af,am⟩,cN⟩;refine LV rfl rfl (pap NQ MO rfl (by decide) rfl rfl (hM.sl.ext af) cN.rd (by intro c hc;simp at hc;subst hc;rfl) (by omega) (by simp only[maxLen];omega)) ?_;rintro v3 w3 ⟨cO,ar,kz,-⟩;have mb:=cO.oneV;have aM:=ar.LN (af.LN jj) hM.ne;refine M1 rfl (NC z2Z rfl rfl mb aM (by simp)) ?_;rintro w4 ⟨aF,ax⟩;replace aF:LX w4 rn [v3] 51:=aF;have z2:=af.size;have lp:=hM.LN.lt
   have eJ:v3.ownBlock≠some rn:=λe=>by
    rcases kz rn e with e| e
    ·exact hM.ne e
    ·omega
   have ee:=cO.kp ax (λg hg e=>eJ (e▸hg));refine LO ((rI _ _ ⟨rfl,Ys rn v3,⟨v3,⟨aF,?_,eJ⟩,λ_=>Iff.rfl⟩,?_,?_⟩).qb)
   ·rw[fA,List.length_append,List.map_append];exact ee
   ·exact(af.kp.trans (ar.LZ λk e=>(hF k).2 (.inr e))).trans (ax.LZ λk e=>(hF k).2 (.inl e))
   ·intro k hk;rcases hk with e| e
    ·exact .inl ((hF k).2 (.inl e))
    ·rcases kz k e with e| e
     ·exact .inl ((hF k).2 (.inr e))
     ·exact .inr (by omega)
  ·have fA:Rw rs a=rs:=by unfold Rw;exact if_neg (by simpa using e1)
   refine py ?_;exact(rI _ _ ⟨rfl,F,by rw[fA];exact h,Kp.refl _ _,λk hk=> .inl hk⟩).qb
def RB (s r rs:List Nat):List Nat:=r.foldl (λrs y=>Nt rs (decide (y∈s))) rs
theorem Wa {s t:List Nat}:∀(r rs:List Nat),(∀y∈r,(y∈s↔y∈t))->RB s r rs=RB t r rs
 |[],rs,_=>rfl
 | y :: r, rs, h => by
   have h1:decide (y∈s)=decide (y∈t):=decide_eq_decide.2 (h y List.mem_cons_self);show RB s r (Nt rs (decide (y∈s)))=RB t r (Nt rs (decide (y∈t)));rw[h1];exact Wa r _ (λz hz=>h z (List.mem_cons_of_mem _ hz))
theorem RY {x z:Nat}{l:List Nat}(h:x<z):z∈x::l↔z∈l:=by
 rw[List.mem_cons]
 constructor
 ·rintro(e|e)
  ·omega
  ·exact e
 ·exact .inr
theorem Zn {x:Nat}{s r:List Nat}(h:∀y∈r,x<y):leftOf (x::s) r=x::leftOf s r/\∀rs,RB (x::s) r rs=RB s r rs:=by
 have hx:x∉r:=λe=>by have:=h x e;omega
 refine⟨?_,λrs=>Wa r rs λy hy=>RY (h y hy)⟩
 unfold leftOf
 rw[List.filter_cons,if_pos (by simpa using hx)]
theorem WY {r t:List Nat}(s:List Nat)(h:∀x∈s,(x∈r↔x∈t)):leftOf s r=leftOf s t:=
 List.filter_congr λx hx=>decide_eq_decide.2 (not_congr (h x hx))
theorem z3X {x:Nat}{s r:List Nat}(hs:∀z∈s,x<z)(hr:∀y∈r,x<y):leftOf (x::s) (x::r)=leftOf s r/\∀rs,RB (x::s) (x::r) rs=RB s r (Nt rs true):=by
 refine⟨?_,λrs=>?_⟩
 ·have:=WY (r:=x::r) (t:=r) s (λz hz=>RY (hs z hz));rw[<-this];unfold leftOf;rw[List.filter_cons,if_neg (by simp)]
 ·show RB (x::s) r (Nt rs (decide (x∈x::s)))=_;rw[decide_eq_true List.mem_cons_self];exact(Zn hr).2 _
theorem z4f {y:Nat}{s r:List Nat}(hs:∀z∈s,y<z):leftOf s (y::r)=leftOf s r/\∀rs,RB s (y::r) rs=RB s r (Nt rs false):=by
 refine⟨WY s (λz hz=>RY (hs z hz)),λrs=>?_⟩
 show RB s r (Nt rs (decide (y∈s)))=_
 rw[decide_eq_false λe=>by have:=hs y e;omega]
theorem z0A {x y:Nat}{l:List Nat}(hr:Ris (y::l))(h:x<y):∀z∈y::l,x<z:=λz hz=>by
 rcases List.mem_cons.1 hz with e| e
 ·omega
 ·have:=(List.pairwise_cons.1 hr).1 z e;omega
theorem X4:∀{l:List Nat} {m:Nat},m∈l->m<=l.sum
 | x :: l, m, h => by
   rw[List.sum_cons];rcases List.mem_cons.1 h with e| e
   ·omega
   ·have:=X4 e;omega
theorem z04 (rs:List Nat)(f:Bool):(Nt rs f).length<=rs.length+1:=by
 rw[WO,List.length_modify]
 unfold Rw
 split<;>simp
theorem PM.le {rs:List Nat}{fs:List Bool}(h:PM rs fs):∀m∈rs,m<=fs.length:=λm hm=>by
 have:=X4 hm
 rw[<-h.exp,P7];exact this
structure Qs (w:World)(succ ref:List Nat)(lf rn:Nat)(FL0 FR0:Nat->Prop)(s:List Nat)(sa:Option Addr)(sc:Nat)(r:List Nat)(ra:Option Addr)(rc:Nat)(L rs:List Nat)(w':World):Prop where
 ex:∃FL FR fs,Zc w' lf L FL/\Yd w' rn rs FR/\PM rs fs/\fs.length+r.length<=65536/\rs.length+r.length<=65537/\(∀k,FL k->FL0 k\/w.heap.size<=k)/\(∀k,FR k->FR0 k\/w.heap.size<=k)/\∀k,FL k->¬FR k
 rdS:∀w2,Kp (λk=>FL0 k\/FR0 k) w w2->Rd w2 (.slice sa s.length sc) 1 s.length (s.map Ms)
 rdR:∀w2,Kp (λk=>FL0 k\/FR0 k) w w2->Rd w2 (.slice ra r.length rc) 1 r.length (r.map Ms)
 clS:s.length<=sc
 clR:r.length<=rc
 kp:Kp (λk=>FL0 k\/FR0 k) w w'
 okS:Mw s
 okR:Mw r
 left:leftOf succ ref=L++leftOf s r
 fold:ND succ ref=RB s r rs
 zaI:L.length+s.length<=65536
section
variable {w w1 w2:World}{succ ref:List Nat}{lf rn:Nat}{FL0 FR0:Nat->Prop}{s r L rs:List Nat}{sa ra:Option Addr}{sc rc:Nat}{x y:Nat}
theorem Qs.ext (h:Qs w succ ref lf rn FL0 FR0 s sa sc r ra rc L rs w1)(hx:Ext w1 w2):Qs w succ ref lf rn FL0 FR0 s sa sc r ra rc L rs w2:=by
 obtain⟨FL,FR,fs,h1,h2,h3⟩:=h.ex
 exact⟨⟨FL,FR,fs,h1.ext hx,h2.ext hx,h3⟩,h.rdS,h.rdR,h.clS,h.clR,h.kp.trans hx.kp,h.okS,h.okR,h.left,h.fold,h.zaI⟩
theorem Qs.z3P (h:Qs w succ ref lf rn FL0 FR0 (x::s) sa sc r ra rc L rs w1):∃b off,sa=some ⟨b,off,none⟩/\∀w2,Kp (λk=>FL0 k\/FR0 k) w w2->w2.cell? ⟨b,off+0*1,none⟩=some (Ms x):=by
 rcases (h.rdS w1 h.kp).2 with⟨c,-,h0⟩|⟨b,off,cap,hv,-⟩
 ·exact absurd h0 (by simp)
 ·cases hv;exact⟨b,off,rfl,λw2 k=>MX (h.rdS w2 k) rfl⟩
theorem Qs.z4e (h:Qs w succ ref lf rn FL0 FR0 s sa sc (y::r) ra rc L rs w1):∃b off,ra=some ⟨b,off,none⟩/\∀w2,Kp (λk=>FL0 k\/FR0 k) w w2->w2.cell? ⟨b,off+0*1,none⟩=some (Ms y):=by
 rcases (h.rdR w1 h.kp).2 with⟨c,-,h0⟩|⟨b,off,cap,hv,-⟩
 ·exact absurd h0 (by simp)
 ·cases hv;exact⟨b,off,rfl,λw2 k=>MX (h.rdR w2 k) rfl⟩
theorem Qs.z9D (h:Qs w succ ref lf rn FL0 FR0 (x::s) sa sc r ra rc L rs w1){FL FR:Nat->Prop}{fs:List Bool}(he:Zc w1 lf L FL/\Yd w1 rn rs FR/\PM rs fs/\fs.length+r.length<=65536/\rs.length+r.length<=65537/\(∀k,FL k->FL0 k\/w.heap.size<=k)/\(∀k,FR k->FR0 k\/w.heap.size<=k)/\∀k,FL k->¬FR k)
  (hr:∀y∈r,x<y) (hw:∃FL',Zc w2 lf (L++[x]) FL'/\Kp FL w1 w2/\∀k,FL' k->FL k\/w1.heap.size<=k):
  Qs w succ ref lf rn FL0 FR0 s (if sc=1 then sa else sa.map (·.add (1*1))) (sc-1) r ra rc (L++[x]) rs w2:=by
 obtain⟨-,k1,k2,k3,k4,k5,k6,k7,k8,k9,k10⟩:=h
 obtain⟨h1,h2,h3,h4,h5,h6,h7,h8⟩:=he
 obtain⟨FL',g1,g2,g3⟩:=hw
 have hz:=k5.size
 rw[List.length_cons] at k3 k10
 refine⟨⟨FL',FR,fs,g1,h2.kp g2 (λi hi e=>h8 i e hi),h3,h4,h5,λk hk=>?_,h7,λk hk e=>?_⟩,λw2 k=>?_,k2,by omega,k4,k5.LJ g2 (λi hi=>?_),k6.sub (List.sublist_cons_self _ _),k7,?_,?_,?_⟩
 ·rcases g3 k hk with e| e
  ·exact h6 k e
  ·exact .inr (by omega)
 ·rcases g3 k hk with e2|e2
  ·exact h8 k e2 e
  ·have:=h2.lt e;omega
 ·have:=Q7 (k1 w2 k) (i:=1) (by rw[List.length_cons];omega) (by rw[List.length_cons];omega);exact this
 ·rcases h6 i hi with e| e
  ·exact .inr (.inl e)
  ·exact .inl e
 ·rw[k8,(Zn hr).1,List.append_assoc];rfl
 ·rw[k9,(Zn hr).2]
 ·rw[List.length_append,List.length_singleton];omega
theorem Qs.z6i {s2:List Nat}{sa2:Option Addr}{sc2:Nat}{f:Bool}(h:Qs w succ ref lf rn FL0 FR0 s sa sc (y::r) ra rc L rs w1)(hs:(s2=s/\sa2=sa/\sc2=sc/\f=false/\∀z∈s,y<z)\/(s=y::s2/\sa2=(if sc=1 then sa else sa.map (·.add (1*1)))/\sc2=sc-1/\f=true))
  {FL FR:Nat->Prop} {fs:List Bool} (he:Zc w1 lf L FL/\Yd w1 rn rs FR/\PM rs fs/\fs.length+(y::r).length<=65536/\rs.length+(y::r).length<=65537/\(∀k,FL k->FL0 k\/w.heap.size<=k)/\(∀k,FR k->FR0 k\/w.heap.size<=k)/\∀k,FL k->¬FR k)
  (hw:∃FR',Yd w2 rn (Nt rs f) FR'/\Kp FR w1 w2/\∀k,FR' k->FR k\/w1.heap.size<=k):
  Qs w succ ref lf rn FL0 FR0 s2 sa2 sc2 r (if rc=1 then ra else ra.map (·.add (1*1))) (rc-1) L (Nt rs f) w2:=by
 obtain⟨-,k1,k2,k3,k4,k5,k6,k7,k8,k9,k10⟩:=h
 obtain⟨h1,h2,h3,h4,h5,h6,h7,h8⟩:=he
 rw[List.length_cons] at h4 h5 k4
 obtain⟨FR',g1,g2,g3⟩:=hw
 have hz:=k5.size
 have gM:=z04 rs f
 have F9:∀z∈r,y<z:=(List.pairwise_cons.1 k7.Xo).1
 have Fa:∃FL FR fs,Zc w2 lf L FL/\Yd w2 rn (Nt rs f) FR/\PM (Nt rs f) fs/\fs.length+r.length<=65536/\(Nt rs f).length+r.length<=65537/\(∀k,FL k->FL0 k\/w.heap.size<=k)/\(∀k,FR k->FR0 k\/w.heap.size<=k)/\∀k,FL k->¬FR k:=by
  refine⟨FL,FR',fs++[f],h1.kp g2 (λi hi e=>h8 i hi e),g1,h3.step f,by rw[List.length_append,List.length_singleton];omega,by omega,h6,λk hk=>?_,λk hk e=>?_⟩
  ·rcases g3 k hk with e| e
   ·exact h7 k e
   ·exact .inr (by omega)
  ·rcases g3 k e with e2|e2
   ·exact h8 k hk e2
   ·have:=h1.lt hk;omega
 have Fb:Kp (λk=>FL0 k\/FR0 k) w w2:=k5.LJ g2 (λi hi=>by
  rcases h7 i hi with e| e
  ·exact .inr (.inr e)
  ·exact .inl e)
 have dQ:∀w2,Kp (λk=>FL0 k\/FR0 k) w w2->Rd w2 (.slice (if rc=1 then ra else ra.map (·.add (1*1))) r.length (rc-1)) 1 r.length (r.map Ms):=λw2 k=>
  Q7 (k2 w2 k) (i:=1) (by rw[List.length_cons];omega) (by rw[List.length_cons];omega)
 rcases hs with⟨rfl,rfl,rfl,rfl,hg⟩|⟨rfl,rfl,rfl,rfl⟩
 ·exact⟨Fa,k1,dQ,k3,by omega,Fb,k6,k7.sub (List.sublist_cons_self _ _),by rw[k8,(z4f hg).1],by rw[k9,(z4f hg).2],k10⟩
 ·have Fc:∀z∈s2,y<z:=(List.pairwise_cons.1 k6.Xo).1;rw[List.length_cons] at k3 k10;refine⟨Fa,λw2 k=>?_,dQ,by omega,by omega,Fb,k6.sub (List.sublist_cons_self _ _),k7.sub (List.sublist_cons_self _ _),by rw[k8,(z3X Fc F9).1],by rw[k9,(z3X Fc F9).2],by omega⟩;exact Q7 (k1 w2 k) (i:=1) (by rw[List.length_cons];omega) (by rw[List.length_cons];omega)
end
theorem z6A {w:World}{succ ref:List Nat}{lf rn:Nat}{FL0 FR0:Nat->Prop}{sa ra:Option Addr}{sc rc:Nat}(GY:Qs w succ ref lf rn FL0 FR0 succ sa sc ref ra rc [] [0] w):
  Mm Tryz.prog 196 [.slice sa succ.length sc,.slice ra ref.length rc,.func (.func 197) #[] #[ptr lf 0,ptr rn 0]] w λu w'=>u= .tuple #[]/\
   ∃FL FR,Zc w' lf (leftOf succ ref) FL/\Yd w' rn (ND succ ref) FR/\(∀k,FL k->FL0 k\/w.heap.size<=k)/\(∀k,FR k->FR0 k\/w.heap.size<=k)/\(∀k,FL k->¬FR k)/\Kp (λk=>FL0 k\/FR0 k) w w':=by
 refine It (e:=[(0,_),(1,_),(2,_)]) Tryz.func196 rfl Tryz.ntmps196 rfl rfl (LK (Oe (α:=List Nat×Option Addr×Nat×List Nat×Option Addr×Nat×List Nat×List Nat) ((succ,sa,sc,ref,ra,rc,[],[0])) (λx=>[(0,.slice x.2.1 x.1.length x.2.2.1),(1,.slice x.2.2.2.2.1 x.2.2.2.1.length x.2.2.2.2.2.1),(2,.func (.func 197) #[] #[ptr lf 0,ptr rn 0])]) (λx w'=>Qs w succ ref lf rn FL0 FR0 x.1 x.2.1 x.2.2.1 x.2.2.2.1 x.2.2.2.2.1 x.2.2.2.2.2.1 x.2.2.2.2.2.2.1 x.2.2.2.2.2.2.2 w') (λx=>x.1.length+x.2.2.2.1.length) ?hI ?hround))
 case hI=>exact GY
 case hround=>
  rintro⟨s,sa,sc,r,ra,rc,L,rs⟩ w6 hI ih;dsimp only at hI
  try dsimp only
  have hg:=(Ext.refl w6).drew;have aa:=hg.drew;have cy:=hI.ext aa;have p0:([]:List Nat).length=0:=rfl;have ge:=hI.okS.len;have yZ:=hI.okR.len;rcases s with _|⟨x,s⟩
  ·rcases r with _|⟨y,r⟩
   ·refine run_seq (qN rfl (LM rfl (NX Ml rfl (Nc rfl rfl (MC (M4 rfl rfl (NX Ml rfl (Nc rfl rfl (MC (ME rfl rfl (LO (An rfl (LW rfl ?_)))))))))))));refine N9 Tryz.func196 rfl ?_;have ql:=hI.left;have iM:=hI.fold;obtain⟨FL,FR,fs,h1,h2,h3,h4,h5,h6,h7,h8⟩:=hI.ex;rw[ql,iM];exact⟨_,rfl,rfl,FL,FR,by simpa[leftOf] using h1,h2,h6,h7,h8,hI.kp⟩
   ·skip
    obtain⟨b2,off2,rfl,m9⟩:=hI.z4e;have p1:0<((y::r:List Nat).length:Int):=by rw[List.length_cons];omega
    have p3:¬(((y::r).length:Int)=0):=by omega
    refine run_seq (qN rfl (LM rfl (NX Ml rfl (Nc rfl rfl (MC (M4 rfl rfl (NX Ml rfl (Nc rfl rfl (O8 (ME rfl rfl (LO (M3 rfl (py ?_)))))))))))));refine LK (run_seq (NF (λw'=>Ext w6 w') rfl (M9 0 rfl rfl (hg) (LS 1 rfl (OZ Ml rfl) hg (LS 2 rfl (ZT rfl rfl) hg (QG (M9 3 rfl rfl (hg) (M9 4 rfl rfl (hg) (LS 5 rfl (OZ Ml rfl) hg (LS 6 rfl (UZ rfl rfl) hg (QG (M9 7 rfl rfl (hg) (qJ 8 rfl (hg) ?_)))))))))))));refine qJ 9 rfl (hg) (qJ 10 rfl (hg) (qJ 11 rfl (hg) (qJ 12 rfl (hg) (qJ 13 rfl (hg) (qJ 14 rfl (hg) (LS 15 rfl (R8 rfl rfl) hg (LS 16 rfl (R8 rfl rfl) hg (LS 17 rfl (NK rfl) hg (qE (run_seq (NF (λw'=>Ext w6 w') rfl (M9 0 rfl rfl (aa) (LS 1 rfl (OZ Ml rfl) aa ?_)))))))))))));refine LS 2 rfl (ZT rfl rfl) aa (Qq (M9 3 rfl rfl (aa) (qJ 4 rfl (aa) (qJ 5 rfl (aa) (qJ 6 rfl (aa) (qJ 7 rfl (aa) (qJ 8 rfl (aa) (qJ 9 rfl (aa) (qJ 10 rfl (aa) (qJ 11 rfl (aa) (qJ 12 rfl (aa) (qJ 13 rfl (aa) (qJ 14 rfl (aa) ?_)))))))))))));refine qJ 15 rfl (aa) (LS 16 rfl (Rx rfl rfl) aa (LS 17 rfl (NK rfl) aa (qE (run_seq (qN rfl (LM rfl (LO (An rfl (LQ rfl (M4 rfl rfl (qV (MN Ml Mc rfl rfl (by omega)) (qV (Mt N5 rfl rfl (m9 _ cy.kp)) ?_))))))))))));obtain⟨FL,FR,fs,h1,h2,h3,h4,h5,h6,h7,h8⟩:=cy.ex;refine Nj rfl rfl (OC z1q rfl rfl) (VE h2 (by omega) h3.ne (λm hm=>by have:=h3.le m hm;omega) y false) ?_;rintro _ w7 ⟨rfl,oG⟩;refine qM rfl (LM rfl (LO (M3 rfl (LQ rfl (LM rfl (qV (UW Ml Mc rfl rfl (by rw[List.length_cons];omega) hI.clR) ?_))))));refine LU rfl (LL ?_);exact(ih ([],sa,sc,r,_,rc-1,L,Nt rs false) _ (cy.z6i (.inl ⟨rfl,rfl,rfl,rfl,λz hz=>by simp at hz⟩) ⟨h1,h2,h3,h4,h5,h6,h7,h8⟩ oG) (by dsimp only;simp only[List.length_cons,List.length_nil];omega)).qb
  ·rcases r with _|⟨y,r⟩
   ·obtain⟨b,off,rfl,mc⟩:=hI.z3P
    skip
    have p1:0<((x::s:List Nat).length:Int):=by rw[List.length_cons];omega
    have p4:¬(((x::s).length:Int)=0):=by omega
    refine run_seq (qN rfl (LM rfl (NX Ml rfl (Nc rfl rfl (O8 (LM rfl (qS (qS (qS (NB rfl rfl (LO (M3 rfl (py ?_)))))))))))));refine LK (run_seq (NF (λw'=>Ext w6 w') rfl (M9 0 rfl rfl (hg) (LS 1 rfl (OZ Ml rfl) hg (LS 2 rfl (ZT rfl rfl) hg (Qq (M9 3 rfl rfl (hg) (qJ 4 rfl (hg) (qJ 5 rfl (hg) (qJ 6 rfl (hg) (qJ 7 rfl (hg) (qJ 8 rfl (hg) (qJ 9 rfl (hg) ?_)))))))))))));refine qJ 10 rfl (hg) (qJ 11 rfl (hg) (qJ 12 rfl (hg) (qJ 13 rfl (hg) (qJ 14 rfl (hg) (qJ 15 rfl (hg) (LS 16 rfl (Rx rfl rfl) hg (LS 17 rfl (NK rfl) hg (qE (run_seq (NF (λw'=>Ext w6 w') rfl (M9 0 rfl rfl (aa) (LS 1 rfl (OZ Ml rfl) aa (LS 2 rfl (ZT rfl rfl) aa ?_)))))))))))));refine QG (M9 3 rfl rfl (aa) (M9 4 rfl rfl (aa) (LS 5 rfl (OZ Ml rfl) aa (LS 6 rfl (UZ rfl rfl) aa (QG (M9 7 rfl rfl (aa) (qJ 8 rfl (aa) (qJ 9 rfl (aa) (qJ 10 rfl (aa) (qJ 11 rfl (aa) (qJ 12 rfl (aa) (qJ 13 rfl (aa) (qJ 14 rfl (aa) ?_)))))))))))));refine LS 15 rfl (R8 rfl rfl) aa (LS 16 rfl (R8 rfl rfl) aa (LS 17 rfl (NK rfl) aa (qE (run_seq (qN rfl (LM rfl (LO (M3 rfl (qN rfl (M4 rfl rfl (qV (MN Ml Mc rfl rfl (by omega)) (qV (Mt N5 rfl rfl (mc _ cy.kp)) (LM rfl ?_)))))))))))));obtain⟨FL,FR,fs,h1,h2,h3,h4,h5,h6,h7,h8⟩:=cy.ex;have GZ:=cy.zaI;refine Nj rfl rfl (OC z1q rfl rfl) (Yv h1 (by omega) x true) ?_;rintro _ w7 ⟨rfl,oG⟩;refine LO (LQ rfl (LM rfl (qV (UW Ml Mc rfl rfl (by rw[List.length_cons];omega) hI.clS) ?_)));refine M6 rfl (qM rfl (LM rfl (LO (An rfl (py (LL ?_))))));exact(ih (s,_,sc-1,[],ra,rc,L++[x],rs) _ (cy.z9D ⟨h1,h2,h3,h4,h5,h6,h7,h8⟩ (λz hz=>by simp at hz) oG) (by dsimp only;simp only[List.length_cons,List.length_nil];omega)).qb
   ·rcases Nat.lt_trichotomy x y with dl|dl|dl
    ·obtain⟨b,off,rfl,mc⟩:=hI.z3P;obtain⟨b2,off2,rfl,m9⟩:=hI.z4e;have p1:0<((x::s:List Nat).length:Int):=by rw[List.length_cons];omega
     have p2:0<((y::r).length:Int):=by rw[List.length_cons];omega
     have p3:¬(((y::r).length:Int)=0):=by omega
     have p4:¬(((x::s).length:Int)=0):=by omega
     refine run_seq (qN rfl (LM rfl (NX Ml rfl (Nc rfl rfl (O8 (LM rfl (qS (qS (qS (NB rfl rfl (LO (M3 rfl (py ?_)))))))))))));refine LK (run_seq (NF (λw'=>Ext w6 w') rfl (M9 0 rfl rfl (hg) (LS 1 rfl (OZ Ml rfl) hg (LS 2 rfl (ZT rfl rfl) hg (QG (M9 3 rfl rfl (hg) (M9 4 rfl rfl (hg) (LS 5 rfl (OZ Ml rfl) hg (LS 6 rfl (UZ rfl rfl) hg (Qq (M9 7 rfl rfl (hg) (M9 8 rfl rfl (hg) ?_)))))))))))));refine LS 9 rfl (MN Ml Mc rfl rfl (by omega)) hg (M9 11 rfl rfl (hg) (LS 12 rfl (MN Ml Mc rfl rfl (by omega)) hg (qT 10 rfl (λ_ h=>Mt N5 rfl rfl (mc _ (hI.kp.trans h.kp))) hg (qT 13 rfl (λ_ h=>Mt N5 rfl rfl (m9 _ (hI.kp.trans h.kp))) hg (LS 14 rfl (V7 rfl rfl) hg (Qq (LS 15 rfl (Rx rfl rfl) hg (LS 16 rfl (R8 rfl rfl) hg (LS 17 rfl (NK rfl) hg (qE (run_seq (NF (λw'=>Ext w6 w') rfl (M9 0 rfl rfl (aa) ?_)))))))))))));refine LS 1 rfl (OZ Ml rfl) aa (LS 2 rfl (ZT rfl rfl) aa (QG (M9 3 rfl rfl (aa) (M9 4 rfl rfl (aa) (LS 5 rfl (OZ Ml rfl) aa (LS 6 rfl (UZ rfl rfl) aa (Qq (M9 7 rfl rfl (aa) (M9 8 rfl rfl (aa) (LS 9 rfl (MN Ml Mc rfl rfl (by omega)) aa (M9 11 rfl rfl (aa) (LS 12 rfl (MN Ml Mc rfl rfl (by omega)) aa (qT 10 rfl (λ_ h=>Mt N5 rfl rfl (m9 _ (hI.kp.trans h.kp))) aa ?_)))))))))))));refine qT 13 rfl (λ_ h=>Mt N5 rfl rfl (mc _ (hI.kp.trans h.kp))) aa (LS 14 rfl (V7 rfl rfl) aa (QG (LS 15 rfl (Rx rfl rfl) aa (LS 16 rfl (R8 rfl rfl) aa (LS 17 rfl (NK rfl) aa (qE (run_seq (qN rfl (LM rfl (LO (M3 rfl (qN rfl (M4 rfl rfl ?_)))))))))))));refine qV (MN Ml Mc rfl rfl (by omega)) (qV (Mt N5 rfl rfl (mc _ cy.kp)) (LM rfl ?_));obtain⟨FL,FR,fs,h1,h2,h3,h4,h5,h6,h7,h8⟩:=cy.ex;have GZ:=cy.zaI;refine Nj rfl rfl (OC z1q rfl rfl) (Yv h1 (by omega) x true) ?_;rintro _ w7 ⟨rfl,oG⟩;refine LO (LQ rfl (LM rfl (qV (UW Ml Mc rfl rfl (by rw[List.length_cons];omega) hI.clS) ?_)));refine M6 rfl (qM rfl (LM rfl (LO (An rfl (py (LL ?_))))));exact(ih (s,_,sc-1,y::r,_,rc,L++[x],rs) _ (cy.z9D ⟨h1,h2,h3,h4,h5,h6,h7,h8⟩ (z0A hI.okR.Xo dl) oG) (by dsimp only;simp only[List.length_cons,List.length_nil];omega)).qb
    ·obtain⟨b,off,rfl,mc⟩:=hI.z3P;obtain⟨b2,off2,rfl,m9⟩:=hI.z4e;have p1:0<((x::s:List Nat).length:Int):=by rw[List.length_cons];omega
     have p2:0<((y::r).length:Int):=by rw[List.length_cons];omega
     have p3:¬(((y::r).length:Int)=0):=by omega
     have p4:¬(((x::s).length:Int)=0):=by omega
     refine run_seq (qN rfl (LM rfl (NX Ml rfl (Nc rfl rfl (O8 (LM rfl (qS (qS (qS (NB rfl rfl (LO (M3 rfl (py ?_)))))))))))));refine LK (run_seq (NF (λw'=>Ext w6 w') rfl (M9 0 rfl rfl (hg) (LS 1 rfl (OZ Ml rfl) hg (LS 2 rfl (ZT rfl rfl) hg (QG (M9 3 rfl rfl (hg) (M9 4 rfl rfl (hg) (LS 5 rfl (OZ Ml rfl) hg (LS 6 rfl (UZ rfl rfl) hg (Qq (M9 7 rfl rfl (hg) (M9 8 rfl rfl (hg) ?_)))))))))))));refine LS 9 rfl (MN Ml Mc rfl rfl (by omega)) hg (M9 11 rfl rfl (hg) (LS 12 rfl (MN Ml Mc rfl rfl (by omega)) hg (qT 10 rfl (λ_ h=>Mt N5 rfl rfl (mc _ (hI.kp.trans h.kp))) hg (qT 13 rfl (λ_ h=>Mt N5 rfl rfl (m9 _ (hI.kp.trans h.kp))) hg (LS 14 rfl (V7 rfl rfl) hg (Qq (LS 15 rfl (Rx rfl rfl) hg (LS 16 rfl (R8 rfl rfl) hg (LS 17 rfl (NK rfl) hg (qE (run_seq (NF (λw'=>Ext w6 w') rfl (M9 0 rfl rfl (aa) ?_)))))))))))));refine LS 1 rfl (OZ Ml rfl) aa (LS 2 rfl (ZT rfl rfl) aa (QG (M9 3 rfl rfl (aa) (M9 4 rfl rfl (aa) (LS 5 rfl (OZ Ml rfl) aa (LS 6 rfl (UZ rfl rfl) aa (Qq (M9 7 rfl rfl (aa) (M9 8 rfl rfl (aa) (LS 9 rfl (MN Ml Mc rfl rfl (by omega)) aa (M9 11 rfl rfl (aa) (LS 12 rfl (MN Ml Mc rfl rfl (by omega)) aa (qT 10 rfl (λ_ h=>Mt N5 rfl rfl (m9 _ (hI.kp.trans h.kp))) aa ?_)))))))))))));refine qT 13 rfl (λ_ h=>Mt N5 rfl rfl (mc _ (hI.kp.trans h.kp))) aa (LS 14 rfl (V7 rfl rfl) aa (Qq (LS 15 rfl (Rx rfl rfl) aa (LS 16 rfl (R8 rfl rfl) aa (LS 17 rfl (NK rfl) aa (qE (run_seq (qN rfl (LM rfl (LO (M3 rfl (qN rfl (M4 rfl rfl ?_)))))))))))));refine qV (MN Ml Mc rfl rfl (by omega)) (qV (Mt N5 rfl rfl (mc _ cy.kp)) (LM rfl ?_));obtain⟨FL,FR,fs,h1,h2,h3,h4,h5,h6,h7,h8⟩:=cy.ex;refine Nj rfl rfl (OC z1q rfl rfl) (VE h2 (by omega) h3.ne (λm hm=>by have:=h3.le m hm;omega) x true) ?_;rintro _ w7 ⟨rfl,oG⟩;refine LO (LQ rfl (LM rfl (qV (UW Ml Mc rfl rfl (by rw[List.length_cons];omega) hI.clS) ?_)));refine M6 rfl (qM rfl (LM rfl (LO (M3 rfl (LQ rfl (LM rfl (qV (UW Ml Mc rfl rfl (by rw[List.length_cons];omega) hI.clR) ?_)))))));refine LU rfl (LL ?_);subst dl;exact(ih (s,_,sc-1,r,_,rc-1,L,Nt rs true) _ (cy.z6i (.inr ⟨rfl,rfl,rfl,rfl⟩) ⟨h1,h2,h3,h4,h5,h6,h7,h8⟩ oG) (by dsimp only;simp only[List.length_cons,List.length_nil];omega)).qb
    ·obtain⟨b,off,rfl,mc⟩:=hI.z3P;obtain⟨b2,off2,rfl,m9⟩:=hI.z4e;have p1:0<((x::s:List Nat).length:Int):=by rw[List.length_cons];omega
     have p2:0<((y::r).length:Int):=by rw[List.length_cons];omega
     have p3:¬(((y::r).length:Int)=0):=by omega
     have p4:¬(((x::s).length:Int)=0):=by omega
     refine run_seq (qN rfl (LM rfl (NX Ml rfl (Nc rfl rfl (O8 (LM rfl (qS (qS (qS (NB rfl rfl (LO (M3 rfl (py ?_)))))))))))));refine LK (run_seq (NF (λw'=>Ext w6 w') rfl (M9 0 rfl rfl (hg) (LS 1 rfl (OZ Ml rfl) hg (LS 2 rfl (ZT rfl rfl) hg (QG (M9 3 rfl rfl (hg) (M9 4 rfl rfl (hg) (LS 5 rfl (OZ Ml rfl) hg (LS 6 rfl (UZ rfl rfl) hg (Qq (M9 7 rfl rfl (hg) (M9 8 rfl rfl (hg) ?_)))))))))))));refine LS 9 rfl (MN Ml Mc rfl rfl (by omega)) hg (M9 11 rfl rfl (hg) (LS 12 rfl (MN Ml Mc rfl rfl (by omega)) hg (qT 10 rfl (λ_ h=>Mt N5 rfl rfl (mc _ (hI.kp.trans h.kp))) hg (qT 13 rfl (λ_ h=>Mt N5 rfl rfl (m9 _ (hI.kp.trans h.kp))) hg (LS 14 rfl (V7 rfl rfl) hg (QG (LS 15 rfl (Rx rfl rfl) hg (LS 16 rfl (R8 rfl rfl) hg (LS 17 rfl (NK rfl) hg (qE (run_seq (NF (λw'=>Ext w6 w') rfl (M9 0 rfl rfl (aa) ?_)))))))))))));refine LS 1 rfl (OZ Ml rfl) aa (LS 2 rfl (ZT rfl rfl) aa (QG (M9 3 rfl rfl (aa) (M9 4 rfl rfl (aa) (LS 5 rfl (OZ Ml rfl) aa (LS 6 rfl (UZ rfl rfl) aa (Qq (M9 7 rfl rfl (aa) (M9 8 rfl rfl (aa) (LS 9 rfl (MN Ml Mc rfl rfl (by omega)) aa (M9 11 rfl rfl (aa) (LS 12 rfl (MN Ml Mc rfl rfl (by omega)) aa (qT 10 rfl (λ_ h=>Mt N5 rfl rfl (m9 _ (hI.kp.trans h.kp))) aa ?_)))))))))))));refine qT 13 rfl (λ_ h=>Mt N5 rfl rfl (mc _ (hI.kp.trans h.kp))) aa (LS 14 rfl (V7 rfl rfl) aa (Qq (LS 15 rfl (Rx rfl rfl) aa (LS 16 rfl (R8 rfl rfl) aa (LS 17 rfl (NK rfl) aa (qE (run_seq (qN rfl (LM rfl (LO (An rfl (LQ rfl (M4 rfl rfl ?_)))))))))))));refine qV (MN Ml Mc rfl rfl (by omega)) (qV (Mt N5 rfl rfl (m9 _ cy.kp)) ?_);obtain⟨FL,FR,fs,h1,h2,h3,h4,h5,h6,h7,h8⟩:=cy.ex;refine Nj rfl rfl (OC z1q rfl rfl) (VE h2 (by omega) h3.ne (λm hm=>by have:=h3.le m hm;omega) y false) ?_;rintro _ w7 ⟨rfl,oG⟩;refine qM rfl (LM rfl (LO (M3 rfl (LQ rfl (LM rfl (qV (UW Ml Mc rfl rfl (by rw[List.length_cons];omega) hI.clR) ?_))))));refine LU rfl (LL ?_);exact(ih (x::s,_,sc,r,_,rc-1,L,Nt rs false) _ (cy.z6i (.inl ⟨rfl,rfl,rfl,rfl,z0A hI.okS.Xo dl⟩) ⟨h1,h2,h3,h4,h5,h6,h7,h8⟩ oG) (by dsimp only;simp only[List.length_cons,List.length_nil];omega)).qb
structure Ye (w:World)(t r:Nat)(s:Bytes)(a:Nat):Prop where
 LN:LX w t [ptr r 0,.bool false] 289
 rd:Qc w r s a
 ne:t≠r
theorem Ye.ext {w w':World}{t r a:Nat}{s:Bytes}(h:Ye w t r s a)(hx:Ext w w'):Ye w' t r s a:=⟨hx.LN h.LN,⟨hx.LN h.rd.1,h.rd.2⟩,h.ne⟩
theorem QE {w:World}{t r a:Nat}{s:Bytes}(h:Ye w t r s a)(c:Cd)(v n:Nat)(hc:c.N4)(hv:v<=c.most)(hn:v<=n)(gW:n<9223372036854775808)(rest:List Bool)(hb:(Md s).drop a=c.enc v++rest):
  Mm Tryz.prog 211 [ptr t 0,Zq c,I (n:Int)] w λu w'=>u=I (v:Int)/\Ye w' t r s (a+(c.enc v).length)/\Kp (λk=>k=r) w w':=by
 obtain⟨x,y,dl⟩:∃x y,OU c=[x,y]:=by cases c<;>exact⟨_,_,rfl⟩
 have qk:Zq c= .agg [x,y].toArray:=by rw[Zq,dl]
 have f7:=c.Wq
 rw[qk]
 refine It (e:=[(0,_),(1,_),(2,_)]) Tryz.func211 rfl Tryz.ntmps211 rfl rfl (qN rfl (LV rfl rfl (NN rfl (cs:=[x,y]) rfl) ?_))
 rintro _ w1 ⟨b4,rfl,eA,ad,aM⟩
 have h1:=h.ext ad
 have AM:¬b4=r:=by have:=h.rd.1.lt;omega
 have hg:=(Ext.refl w1).drew
 refine LU rfl (run_seq (NF (λw'=>Kp (λk=>k=r) w1 w') rfl (M9 0 rfl rfl (hg.kp) (LS 1 rfl (MS rfl) (hg.kp) (LS 2 rfl (Mo z8J rfl) (hg.kp) (qT 3 rfl (λ_ hS=>LR PW rfl rfl (hS.LN h1.LN h.ne) rfl) (hg.kp) (qT 4 rfl (λ_ h=>Mk (news:=[x,y]) OK rfl Nk rfl ((h.LN aM AM).cells (n:=2) rfl) rfl) (hg.kp) ?_)))))))
 rw[<-qk]
 refine Pw 5 rfl z6D rfl (Vd (⟨hg.LN h1.rd.1,h1.rd.2⟩:Qc _ r s a) c v hc hv rest hb) ?_
 rintro _ w2 ⟨rfl,dw,ao⟩
 refine⟨hg.kp.trans ao,?_⟩
 have md:=hg.kp.trans ao
 have aq:=md.LN h1.LN h.ne
 refine M9 6 rfl rfl (hg.kp.trans ao) (LS 7 rfl (NO rfl rfl) (hg.kp.trans ao) (LS 8 rfl (NO rfl rfl) (hg.kp.trans ao) (LS 9 rfl (NK rfl) (hg.kp.trans ao) (LS 10 rfl (NK rfl) (hg.kp.trans ao) (qE (run_seq (qN rfl (LM rfl (MY rfl rfl (M4 rfl rfl (LM rfl (qV ((by first|exact MH rfl U3 Ns (by omega)|exact Oc rfl U3 Ns)) ?_))))))))))))
 refine Nc rfl rfl (MC (ME rfl rfl (LO (An rfl (py (qN rfl (LM rfl (qV (MB rfl Ns U3 (by omega)) (LU rfl (Mn.qb (e:=[(6,_)]) ?_))))))))))
 refine LP Tryz.func211 rfl ?_
 exact⟨_,rfl,rfl,⟨aq,dw,h.ne⟩,ad.kp.trans md⟩
theorem MI (q:Cd×Nat)(l:List (Cd×Nat)):Mf (q::l)=q.1.enc q.2++Mf l:=rfl
theorem OG {s e rest:List Bool}{a:Nat}(h:s.drop a=e++rest):s.drop (a+e.length)=rest:=by
 rw[<-List.drop_drop,h,List.drop_left]
structure CpI (w:World)(t r:Nat)(s:Bytes)(rs ref:List Nat)(rest:List Bool)(aE i:Nat)(rs2 ref2:List Nat)(sa:Option Addr)(sc:Nat)(v5:Value)(O:List Nat)(a:Nat)(w':World):Prop where
 tk:Ye w' t r s a
 kp:Kp (λk=>k=r) w w'
 sl:Sl w' v5 46 1 O.length (O.map Ms)
 fr:∀g,v5.ownBlock=some g->w.heap.size<=g
 len:rs.length=i+rs2.length
 rd:∀w2,Kp (λk=>k=r) w w2->Rd w2 (.slice sa ref2.length sc) 1 ref2.length (ref2.map Ms)
 cl:ref2.length<=sc
 sum:rs2.sum<=ref2.length
 pos:∀m∈rs2.drop (1-min i 1),1<=m
 bits:(Md s).drop a=Mf (runNums i rs2)++rest
 z0d:a+(Mf (runNums i rs2)).length=aE
 eq:copyL true rs ref=O++copyL (i%2==0) rs2 ref2
 tot:O.length+ref2.length<=65536
theorem z5o (a:Addr):a.add 0=a:=by
 unfold Addr.add
 split<;>simp_all
theorem z8j {P:Program}{e:Env}{d:Option Nat}{ty t el:TypeId}{pos:String}{aft:Array Edge}{g:Option (Nat×Bool)}{x u:Operand}{w:World}{z:Value}{size bytes n cap j:Nat}{a:Option Addr}{k:IntKind}{zb:Int}[uy:PI zb j](ht:P.underlying t=some (.slice el))(hs:TI P el z size bytes)(hx:look e x=some (.slice a n cap))
  (hu:look e u=some (.int k zb)) (h:j<=cap):
  Y P e ⟨d,.slice t x none (some u) none,ty,pos,aft,g⟩ (.slice a j cap) w w:=fun ρ hρ=>by
 obtain⟨rfl⟩:=uy
 have cz:=hs.size (w:=w)
 have h1:∀w,(Instr.sliceBound (.int k (j:Int)) cap .sliceAcap).run P w= .ok j w:=λw=>by rw[run_sliceBound _ _ _ _ _ (by omega) (by omega)];simp
 cases a with
 |none=>simp[execOp,hρ _ _ hx,hρ _ _ hu,Instr.sliceAt,run_underlying ht,Instr.slice,Instr.sliceBounds,h1,cz]
 |some a=>simp[execOp,hρ _ _ hx,hρ _ _ hu,Instr.sliceAt,run_underlying ht,Instr.slice,Instr.sliceBounds,h1,cz,z5o]
theorem z09 {w:World}{t r a:Nat}{s:Bytes}(h:Ye w t r s a)(hG:LX w 1 (OU .gamma) 298)(cP:¬1=r){sa:Option Addr}{sc:Nat}(ref rs:List Nat)
  (dQ:∀w2,Kp (λk=>k=r) w w2->Rd w2 (.slice sa ref.length sc) 1 ref.length (ref.map Ms)) (dU:ref.length<=sc) (yZ:ref.length<=65536) (hn:rs.length<=ref.length+1) (gx:rs.sum<=ref.length)
  (gX:∀m∈rs.drop 1,1<=m) (rest:List Bool) (hb:(Md s).drop a=Mf ((.gamma,rs.length)::runNums 0 rs)++rest):
  Mm Tryz.prog 191 [ptr t 0,.slice sa ref.length sc] w λu w'=>Sl w' u 46 1 (copyL true rs ref).length ((copyL true rs ref).map Ms)/\(∀g,u.ownBlock=some g->w.heap.size<=g)/\
   Ye w' t r s (a+(Mf ((.gamma,rs.length)::runNums 0 rs)).length)/\Kp (λk=>k=r) w w':=by
 have jk:∀v:Nat,v<=65537->v<=Cd.most .gamma:=λv hv=>by simp only[Cd.most];omega
 refine It (e:=[(0,_),(1,_)]) Tryz.func191 rfl Tryz.ntmps191 rfl rfl (qN rfl (M6 rfl (qM rfl (M6 rfl (qM rfl (LM rfl (qV (Mk (news:=[.int .u8 1,M7 0]) OK rfl Nk rfl (hG.cells (n:=2) rfl) rfl) (LM rfl (NX Ml rfl ?_)))))))))
 rw[MI,List.append_assoc] at hb
 rw[show((ref.length:Nat):Int)=((ref.length:Nat):Int) from rfl]
 refine MK rfl rfl (Mb YW rfl (QE h .gamma rs.length (ref.length+1) trivial (jk _ (by omega)) (by omega) (by omega) _ hb) ?_)
 rintro _ w1 ⟨rfl,h1,aK⟩
 have bR:=OG hb
 refine LU rfl (run_seq (qN rfl (M4 rfl rfl (LO (LK (Oe (α:=Nat×List Nat×List Nat×Option Addr×Nat×Value×List Nat×Nat) ((0,rs,ref,sa,sc,.slice none 0 0,[],a+(Cd.enc .gamma rs.length).length)) (λx=>[(0,ptr t 0),(1,.slice x.2.2.2.1 x.2.2.1.length x.2.2.2.2.1),(5,x.2.2.2.2.2.1),(6,I (rs.length:Int)),(15,I (rs.length:Int)),(16,I (x.1:Int))]) (λx w'=>CpI w t r s rs ref rest (a+(Mf ((.gamma,rs.length)::runNums 0 rs)).length) x.1 x.2.1 x.2.2.1 x.2.2.2.1 x.2.2.2.2.1 x.2.2.2.2.2.1 x.2.2.2.2.2.2.1 x.2.2.2.2.2.2.2 w') (λx=>x.2.1.length) ?hI ?hround))))))
 case hI=>exact⟨h1,aK,Sl.nil _ _ _,(λg h=>by cases h),by simp,dQ,dU,gx,gX,bR,by rw[MI,List.length_append];dsimp only;omega,rfl,by simp;omega⟩
 case hround =>
  rintro⟨i,rs2,ref2,sa2,sc2,v5,O,a2⟩ w6 hI ih;dsimp only at hI;have aB:=hI.len;have uJ:=hI.tot
  try dsimp only
  refine qN rfl (Nr rfl rfl (LO (run_seq (LY rfl (λh0=>?_) (λh0=>?_)))))
  ·obtain⟨n,rs2,rfl⟩:∃n l,rs2=n::l:=by
    cases rs2 with
    |nil=>simp at aB;omega
    |cons n l=>exact⟨n,l,rfl⟩
   have zd:=hI.kp.LN hG cP;have gx:=hI.sum;rw[List.sum_cons] at gx;rw[List.length_cons] at aB;have bS:=hI.bits;rw[runNums,MI,List.append_assoc] at bS
   have cK:min i 1<=n:=by
    have hp:=hI.pos n;rcases Nat.eq_zero_or_pos i with e| e
    ·subst e;simp
    ·rw[show 1-min i 1=0 by omega] at hp;have:=hp List.mem_cons_self;omega
   refine py (run_seq (LK (qN rfl (LM rfl (M6 rfl (qM rfl (LM rfl (qV (Mk (news:=[.int .u8 1,M7 0]) OK rfl Nk rfl (zd.cells (n:=2) rfl) rfl) (LM rfl (NX Ml rfl (Mb YW rfl (QE hI.tk .gamma (n-min i 1) ref2.length trivial (jk _ (by omega)) (by omega) (by omega) _ bS) ?_)))))))))));rintro _ w7 ⟨rfl,h7,aA⟩;have gY:=hI.kp.trans aA;have bN:=h7.LN;refine LM rfl (qV (ymi rfl rfl) (MK rfl rfl ?_));rw[show((n-min i 1:Nat):Int)+min (i:Int) 1=(n:Int) by omega];refine LU rfl (run_seq (qN rfl (LM rfl (Mp rfl (M0 Qa rfl (qV (LR U4 rfl rfl bN rfl) (M4 rfl rfl (LM rfl (NX Ml rfl (Nc rfl rfl (MC (ME rfl rfl (LO ?_)))))))))))));refine An rfl (py (run_seq (qN rfl (LM rfl (qV (Tw rfl rfl (by omega) (by omega)) ?_)))));rw[Nat.and_one_is_mod];have AN:=hI.rd _ gY;have eN:=OG bS;have yX:=hI.kp.size;have Fe:=aA.size
   have rK:∀g,v5.ownBlock=some g->¬g=r:=λg hg e=>by
    have h1:=hI.fr g hg;have h2:=h.rd.1.lt;omega
   have gV:=hI.sl.kp aA rK
   have fB:∀(v5':Value) (w8:World),Sl w8 v5' 46 1 (O++if i%2==0 then ref2.take n else []).length ((O++if i%2==0 then ref2.take n else []).map Ms)->(∀g,v5'.ownBlock=some g->w.heap.size<=g)->Kp (λk=>v5.ownBlock=some k) w7 w8->
     CpI w t r s rs ref rest (a+(Mf ((.gamma,rs.length)::runNums 0 rs)).length) (i+1) rs2 (ref2.drop n) (if sc2=n then sa2 else sa2.map (·.add (n*1))) (sc2-n) v5' (O++if i%2==0 then ref2.take n else []) (a2+(Cd.enc .gamma (n-min i 1)).length) w8:=by
    intro v5' w8 g1 g2 g3;have lt7:=h7.LN.lt;have lr7:=h7.rd.1.lt;have tY:=h.LN.lt;have eg:=h.rd.1.lt;have o7:∀x,x<w.heap.size->¬v5.ownBlock=some x:=λx hx e=>by have:=hI.fr x e;omega
    refine⟨⟨g3.LN h7.LN (o7 t tY),⟨g3.LN h7.rd.1 (o7 r eg),h7.rd.2⟩,h7.ne⟩,gY.LJ g3 (λk hk=> .inl (hI.fr k hk)),g1,g2,by omega,λw2 k=>?_,by rw[List.length_drop];have:=hI.cl;omega,by rw[List.length_drop];omega,?_,?_,?_,?_,?_⟩
    ·have:=Q7 (hI.rd w2 k) (i:=n) (by omega) hI.cl;rw[<-List.map_drop] at this;rw[List.length_drop];exact this
    ·intro m hm;refine hI.pos m ?_;rw[show 1-min (i+1) 1=0 by omega,List.drop_zero] at hm;rcases Nat.eq_zero_or_pos i with e| e
     ·subst e;exact hm
     ·rw[show 1-min i 1=0 by omega];exact List.mem_cons_of_mem _ hm
    ·exact eN
    ·have:=hI.z0d;rw[runNums,MI,List.length_append] at this;dsimp only at this;omega
    ·rw[hI.eq,copyL,List.append_assoc]
     have:((i+1)%2==0)= !(i%2==0):=by
      rcases Nat.mod_two_eq_zero_or_one i with e| e
      ·rw[e,show(i+1)%2=1 by omega];rfl
      ·rw[e,show(i+1)%2=0 by omega];rfl
     rw[this]
    ·rw[List.length_append,List.length_drop];split
     ·rw[List.length_take];omega
     ·simp;omega
   refine NS rfl rfl (LO (LY rfl (λe1=>?_) (λe1=>?_)))
   ·have e2:(i%2==0)=true:=by simp;omega
    simp only[e2,if_true] at fB;refine LQ rfl (M4 rfl rfl (LM rfl (qV (z8j Ml Mc rfl rfl (by have:=hI.cl;omega)) ?_)));have H0:=hI.cl;refine LV rfl rfl (pap Ml Mc rfl (by decide) rfl rfl gV (Rk AN (i:=n) (by omega)) (by rw[<-List.map_take];exact UN _) (by omega) (by simp only[maxLen];omega)) ?_;rintro v5' w8 ⟨eB,bj,kB,-⟩;have mb:=eB.oneV;refine LU rfl (LQ rfl (M4 rfl rfl (qV (UW Ml Mc rfl rfl (by omega) hI.cl) (LU rfl (LL (LQ rfl (MK rfl rfl (LM rfl (LO ?_)))))))));rw[show ref2.length-n=(ref2.drop n).length by rw[List.length_drop]];refine(ih (i+1,rs2,ref2.drop n,_,sc2-n,v5',O++ref2.take n,_) _ (fB v5' _ ?_ ?_ bj) (by dsimp only;simp)).qb
    ·rw[List.length_append,List.map_append,List.length_take,Nat.min_eq_left (by omega),List.map_take];exact eB
    ·intro g hg;rcases kB g hg with e| e
     ·exact hI.fr g e
     ·omega
   ·have e2:(i%2==0)=false:=by simp;omega
    simp only[e2,Bool.false_eq_true,if_false,List.append_nil] at fB;refine py (LQ rfl (M4 rfl rfl (qV (UW Ml Mc rfl rfl (by omega) hI.cl) (LU rfl (LL (LQ rfl (MK rfl rfl (LM rfl (LO ?_)))))))));rw[show ref2.length-n=(ref2.drop n).length by rw[List.length_drop]];exact(ih (i+1,rs2,ref2.drop n,_,sc2-n,v5,O,_) _ (fB v5 _ gV hI.fr (Kp.refl _ _)) (by dsimp only;simp)).qb
  ·have eH:rs2=[]:=List.eq_nil_of_length_eq_zero (by omega);subst eH;have KL:rs.length=i:=by rw[aB];simp
   have jD:=hI.z0d;have dH:=hI.eq;rw[copyL] at dH;rw[show(Mf (runNums i [])).length=0 from rfl,Nat.add_zero] at jD;refine LW rfl (run_seq (qN rfl (LM rfl (qV (Tw rfl rfl (by omega) (by omega)) ?_))));rw[Nat.and_one_is_mod];refine NS rfl rfl (LO (LY rfl (λe1=>?_) (λe1=>?_)))
   ·rw[if_pos (by simp;omega)] at dH;refine LQ rfl (M4 rfl rfl (LV rfl rfl (pap Ml Mc rfl (by decide) rfl rfl hI.sl (hI.rd _ hI.kp) (UN _) (by omega) (by simp only[maxLen];omega)) ?_));rintro v5' w8 ⟨eB,bj,kB,-⟩;have mb:=eB.oneV;refine M6 rfl (qM rfl (LM rfl (LU rfl (LP Tryz.func191 rfl ?_))));rw[dH,<-jD];have yX:=hI.kp.size;have o7:∀x,x<w.heap.size->¬v5.ownBlock=some x:=λx hx e=>by have:=hI.fr x e;omega
    refine⟨_,rfl,?_,λg hg=>?_,⟨bj.LN hI.tk.LN (o7 t h.LN.lt),⟨bj.LN hI.tk.rd.1 (o7 r h.rd.1.lt),hI.tk.rd.2⟩,hI.tk.ne⟩,hI.kp.LJ bj (λk hk=> .inl (hI.fr k hk))⟩
    ·rw[List.length_append,List.map_append];exact eB
    ·rcases kB g hg with e| e
     ·exact hI.fr g e
     ·omega
   ·rw[if_neg (by simp;omega),List.append_nil] at dH;refine py (qN rfl (LM rfl (LU rfl (LP Tryz.func191 rfl ?_))));rw[dH,<-jD];exact⟨_,rfl,hI.sl,hI.fr,hI.tk,hI.kp⟩
structure ReI (w w1:World)(t r:Nat)(s:Bytes)(l:List Nat)(x k:Nat)(rest:List Bool)(aE b7:Nat)(dn l2:List Nat)(v9:Value)(a:Nat)(w':World):Prop where
 tk:Ye w' t r s a
 kp:Kp (λk=>k=t\/k=r) w w'
 b7:LX w' b7 (OU (.zeta k)) 298
 sl:Sl w' v9 46 1 dn.length (dn.map Ms)
 fr:∀g,v9.ownBlock=some g->w1.heap.size<=g
 eq:l=dn++l2
 bits:(Md s).drop a=Mf (restNums x k dn.getLast? l2)++rest
 z0d:a+(Mf (restNums x k dn.getLast? l2)).length=aE
 siz:w1.heap.size<=w'.heap.size
theorem z2q {w:World}{t r a:Nat}{s:Bytes}(h:Ye w t r s a)(x k:Nat)(hx:x<65536)(hk:1<=k/\k<=16)(l:List Nat)(hl:Mw l)(rest:List Bool)(hb:(Md s).drop a=Mf (restNums x k none l)++rest):
  Mm Tryz.prog 193 [ptr t 0,I (x:Int),I (l.length:Int),Zq (.zeta k)] w λu w'=>Sl w' u 46 1 l.length (l.map Ms)/\(∀g,u.ownBlock=some g->w.heap.size<=g)/\
   Ye w' t r s (a+(Mf (restNums x k none l)).length)/\Kp (λk=>k=t\/k=r) w w':=by
 have aB:=hl.len
 have lt0:=h.LN.lt
 have lr0:=h.rd.1.lt
 refine It (e:=[(0,_),(1,_),(2,_),(3,_)]) Tryz.func193 rfl Tryz.ntmps193 rfl rfl (qN rfl (LV rfl rfl (NN rfl (cs:=OU (.zeta k)) rfl) ?_))
 rintro _ w1 ⟨b7,rfl,kX,ad,bN⟩
 have h1:=h.ext ad
 have z1:=ad.size
 have Ff:=bN.lt
 refine M6 rfl (qM rfl (LU rfl (run_seq (qN rfl (M4 rfl rfl (LO (LK (Oe (α:=List Nat×List Nat×Value×Nat) (([],l,.slice none 0 0,a)) (λy=>[(0,ptr t 0),(1,I (x:Int)),(7,ptr b7 0),(9,y.2.2.1),(12,I (l.length:Int)),(13,I (y.1.length:Int))]) (λy w'=>ReI w w1 t r s l x k rest (a+(Mf (restNums x k none l)).length) b7 y.1 y.2.1 y.2.2.1 y.2.2.2 w') (λy=>y.2.1.length) ?hI ?hround))))))))
 case hI=>exact⟨h1,ad.kp,bN,Sl.nil _ _ _,(λg h=>by cases h),rfl,hb,rfl,Nat.le_refl _⟩
 case hround =>
  rintro⟨dn,l2,v9,a2⟩ w6 hI ih;dsimp only at hI;have dH:=hI.eq;have eT:l.length=dn.length+l2.length:=by rw[dH,List.length_append]
  try dsimp only
  refine qN rfl (Nr rfl rfl (LO (run_seq (LY rfl (λh0=>?_) (λh0=>?_)))))
  ·obtain⟨y,l2,rfl⟩:∃y q,l2=y::q:=by
    cases l2 with
    |nil=>simp at eT;omega
    |cons y q=>exact⟨y,q,rfl⟩
   rw[List.length_cons] at eT;have Fg:y<65536:=hl.lt y (by rw[dH];simp);have aX:=hI.b7;have bS:=hI.bits;have jD:=hI.z0d
   have key:∃v:Nat,restNums x k dn.getLast? (y::l2)=(.zeta k,v)::restNums x k (dn++[y]).getLast? l2/\v<=262144/\(dn=[]->v=ZQ ((y:Int)-x))/\∀u q,dn=q++[u]->v+(u+1)=y:=by
    rw[List.getLast?_append,show [y].getLast? =some y from rfl,Option.some_or];rcases List.eq_nil_or_concat dn with rfl|⟨q,u,rfl⟩
    ·refine⟨_,rfl,?_,λ_=>rfl,λu q e=>by simp at e⟩;have:=Vv (z:=(y:Int)-x) (n:=65536) (by omega) (by omega);omega
    ·have hu:u<y:=by
      have hr:=hl.Xo;rw[dH] at hr;exact(List.pairwise_append.1 hr).2.2 u (by simp) y (by simp)
     refine⟨y-u-1,?_,by omega,λe=>by simp at e,λu2 q2 e=>?_⟩
     ·have e1:(q.concat u).getLast? =some u:=by simp
      rw[e1];rfl
     ·have e2:q++[u]=q2++[u2]:=by simpa using e
      have:=(List.append_inj' e2 rfl).2;simp at this;omega
   obtain⟨v,eM,kC,AO,oH⟩:=key;rw[eM,MI,List.append_assoc] at bS;rw[eM,MI,List.length_append] at jD;refine py (run_seq (LK (qN rfl (LM rfl (M6 rfl (qM rfl (LM rfl (qV (Mk (news:=OU (.zeta k)) OK rfl Nk rfl (aX.cells (n:=2) rfl) rfl) (Mb YW rfl (QE hI.tk (.zeta k) v 262144 hk (by simp only[Cd.most];omega) kC (by omega) _ bS) ?_)))))))));rintro _ w7 ⟨rfl,h7,aA⟩;have gY:Kp (λk=>k=t\/k=r) w w7:=hI.kp.trans (aA.LZ λk e=> .inr e);have eN:=OG bS;have gV:=hI.sl.kp aA (λg hg e=>by have:=hI.fr g hg;omega);have AP:=aA.LN aX (by omega);have Fe:=hI.siz;have yX:=aA.size;refine LU rfl (run_seq (qN rfl (LM rfl (NS rfl rfl (LO (MA (λe' w'=>w'=w7/\e'=[(0,ptr t 0),(1,I (x:Int)),(7,ptr b7 0),(9,v9),(11,I (y:Int)),(12,I (l.length:Int)),(13,I (dn.length:Int))]) ?my (λmy=>?mz)))))))
   case my=>
    rintro e' w7 ⟨rfl,rfl⟩;have jj:=h7.LN;refine run_seq (qN rfl (M4 rfl rfl (Mp rfl (M0 Qa rfl (qV (LR U4 rfl rfl jj rfl) (M4 rfl rfl (Mb z3U rfl (S2 y Fg _) ?_)))))));rintro _ w8 ⟨rfl,rfl⟩;refine qV ((by first|exact ML rfl|exact Oh rfl)) ?_;refine ME rfl rfl (Mp rfl (M0 Qa rfl (M1 rfl (NC RX rfl rfl rfl jj (by simp)) ?_)));rintro w8 ⟨ce,bj⟩;replace ce:LX w8 t [ptr r 0,.bool false] 289:=ce;refine qM rfl (LM rfl (Mp rfl (M0 Qa rfl (qV (LR U4 rfl rfl ce rfl) (LO (An rfl (py (LQ rfl (M4 rfl rfl (qV (Xt rfl U3 N5) ?_))))))))));rw[Nat.mod_eq_of_lt (show y<4294967296 by omega)];refine LV rfl rfl (Uu (cs:=[_]) (zs:=[Value.int .u32 0]) Ml Mc rfl (by kernel_rfl) rfl rfl rfl (by decide)) ?_;rintro _ w9 ⟨b9,rfl,⟨o8,fg,cB⟩,uK⟩;have o7:∀g,v9.ownBlock=some g->¬g=t:=λg hg e=>by have:=hI.fr g hg;omega
    have me:∀g,v9.ownBlock=some g->¬g=r:=λg hg e=>by have:=hI.fr g hg;omega
    have Fh:=bj.size;have Fi:=fg.size;refine LV rfl rfl (pap Ml Mc rfl (by decide) rfl rfl ((gV.kp bj o7).ext fg) uK.rd (by intro c hc;simp at hc;subst hc;rfl) (by omega) (by simp only[maxLen];omega)) ?_;rintro v10 w10 ⟨cf,aw,AQ,-⟩;have mb:=cf.oneV;refine LU rfl (LL (LQ rfl (MK rfl rfl (LM rfl (LO ?_)))));have rL:∀g,g<w1.heap.size->¬v9.ownBlock=some g:=λg hg e=>by have:=hI.fr g e;omega
    rw[show(dn.length:Int)+1=((dn++[y]).length:Int) by simp];refine(ih (dn++[y],l2,v10,a2+(Cd.enc (.zeta k) v).length) _ ⟨⟨aw.LN (fg.LN ce) (rL t (by omega)),⟨aw.LN (fg.LN (bj.LN h7.rd.1 (λe=>h7.ne e.symm))) (rL r (by omega)),h7.rd.2⟩,h7.ne⟩,?_,?_,?_,?_,?_,eN,?_,?_⟩ (by dsimp only;simp)).qb
    ·exact((gY.trans (bj.LZ λk e=> .inl e)).trans fg.kp).LJ aw (λg hg=> .inl (by have:=hI.fr g hg;omega))
    ·exact aw.LN (fg.LN (bj.LN AP (by omega))) (rL b7 (by omega))
    ·rw[List.length_append,List.map_append];exact cf
    ·intro g hg;rcases AQ g hg with e| e
     ·exact hI.fr g e
     ·omega
    ·rw[dH,List.append_assoc];rfl
    ·dsimp only at jD⊢;omega
    ·have:=aw.size;omega
   case mz=>
    refine LY rfl (λe1=>?_) (λe1=>?_)
    ·have eH:dn=[]:=List.eq_nil_of_length_eq_zero (by omega);refine LQ rfl (LM rfl (qV (MH rfl U3 Ns (by omega)) (Mb z9z rfl (z3C v (by omega) _) ?_)));rintro _ w8 ⟨rfl,rfl⟩;rw[AO eH,z3v];refine LM rfl (MK rfl rfl ?_);rw[show(y:Int)-x+x=(y:Int) by omega];refine LU rfl ?_;exact(my _ _ ⟨rfl,rfl⟩).qb
    ·obtain⟨q,u,rfl⟩:∃q u,dn=q++[u]:=by
      rcases List.eq_nil_or_concat dn with rfl|⟨q,u,rfl⟩
      ·exact absurd rfl e1
      ·exact⟨q,u,by simp⟩
     have Fj:=oH u q rfl;have rF:(q++[u]).length=q.length+1:=by simp
     rw[rF] at gV;rcases gV.shape with⟨-,h0⟩|⟨g,c1,rfl,fx⟩
     ·omega
     refine LQ rfl (M4 rfl rfl (LM rfl (NP rfl rfl ?_)));rw[show(((q++[u]).length:Nat):Int)-1=(q.length:Int) by simp];refine qV (MN Ml Mc rfl rfl (by omega)) (qV (Mt N5 rfl rfl (MX gV.rd (show((q++[u]).map Ms)[q.length]? =some (Ms u) by simp))) ?_);refine qV (MB rfl N5 U3 (by omega)) (MK rfl rfl (MK rfl rfl ?_));rw[show(v:Int)+((u:Int)+1)=(y:Int) by omega];refine LU rfl ?_;exact(my _ _ ⟨rfl,rfl⟩).qb
  ·have eH:l2=[]:=List.eq_nil_of_length_eq_zero (by omega);subst eH;refine LW rfl (qN rfl (LM rfl (LU rfl (LP Tryz.func193 rfl ?_))));rw[List.append_nil] at dH;subst dH;have jD:=hI.z0d;rw[show(Mf (restNums x k l.getLast? [])).length=0 by cases l.getLast?<;>rfl,Nat.add_zero] at jD;rw[<-jD];exact⟨_,rfl,hI.sl,λg hg=>by have:=hI.fr g hg;omega,hI.tk,hI.kp⟩
section
variable {P:Program}{b:Frame}{a:Act}{k:List Item}{cs:List Frame}{w:World}{C:Cx}{e:Env}
theorem z1B {c:Code}:step P (lone (b.atR a (.code (.scope c)::k)) cs w)= .next (lone (b.atR a (.code c:: .inScope c::k)) cs w):=
 step_lone_go (by simp[stepG,stepG.exec,Frame.atR])
theorem z4r {c:Code}(h:Mn C (.code c:: .inScope c::k) e w):Mn C (.code (.scope c)::k) e w:=λa ha=>Sr.step (λ_ _=>z1B) (h a ha)
end
def loE:Option Nat->Nat
 |none=>0
 |some z=>z+2
def z2A:Option Nat->Int
 |none=>-1
 |some z=>(z:Int)
def R5 (x:Nat):Option Nat->Nat->Nat
 |none,y=>ZQ ((y:Int)-x)
 |some e,y=>y-e-2
theorem O6 (x least:Nat)(e:Option Nat)(p:Nat×Nat)(R:List (Nat×Nat)):longNums x least e (p::R)=(.gamma,R5 x e p.1)::(.gamma,p.2-least)::longNums x least (some (p.1+p.2-1)) R:=by
 cases e<;>rfl
structure LoI (w:World)(t r:Nat)(s:Bytes)(R:List (Nat×Nat))(x least left:Nat)(rest:List Bool)(aE:Nat)(i:Nat)(R2:List (Nat×Nat))(e:Option Nat)(O:List Nat)(v9:Value)(a:Nat)(w':World):Prop where
 tk:Ye w' t r s a
 kp:Kp (λk=>k=t\/k=r) w w'
 sl:Sl w' v9 46 1 O.length (O.map Ms)
 fr:∀g,v9.ownBlock=some g->w.heap.size<=g
 len:R.length=i+R2.length
 eq:Nq R=O++Nq R2
 ok:Pc least (loE e) R2
 hi:∀p∈R2,p.1+p.2<=65536
 tot:O.length+(Nq R2).length<=left
 bits:(Md s).drop a=Mf (longNums x least e R2)++rest
 z0d:a+(Mf (longNums x least e R2)).length=aE
 eb:z2A e<65536
theorem z5c {w : World}{t r a : Nat}{s : Bytes}(h : Ye w t r s a)(hG : LX w 1 (OU .gamma) 298)(cP : ¬ 1 = r)(mG : ¬ 1 = t)(x left least : Nat)(hx : x < 65536)(ql : left <= 65536)(AR : least <= 64)(R : List (Nat × Nat))(hR : Pc least 0 R)(H1 : ∀ p ∈ R, p.1 + p.2 <= 65536)
  (uJ:(Nq R).length<=left) (H2:R.length<=left) (rest:List Bool) (hb:(Md s).drop a=Mf ((.gamma,R.length)::longNums x least none R)++rest):
  Mm Tryz.prog 192 [ptr t 0,I (x:Int),I (left:Int),I (least:Int)] w λu w'=>Sl w' u 46 1 (Nq R).length ((Nq R).map Ms)/\(∀g,u.ownBlock=some g->w.heap.size<=g)/\
   Ye w' t r s (a+(Mf ((.gamma,R.length)::longNums x least none R)).length)/\Kp (λk=>k=t\/k=r) w w':=by
 have jk:∀v:Nat,v<=262144->v<=Cd.most .gamma:=λv hv=>by simp only[Cd.most];omega
 have lt0:=h.LN.lt
 have lr0:=h.rd.1.lt
 refine It (e:=[(0,_),(1,_),(2,_),(3,_)]) Tryz.func192 rfl Tryz.ntmps192 rfl rfl (qN rfl (LU rfl (z4r (qN rfl (M6 rfl (qM rfl (LU rfl (run_seq (z5I (run_seq (qN rfl (LM rfl (qV (Mk (news:=[.int .u8 1,M7 0]) OK rfl Nk rfl (hG.cells (n:=2) rfl) rfl) ?_)))))))))))))
 rw[MI,List.append_assoc] at hb
 refine LM rfl (Mb YW rfl (QE h .gamma R.length left trivial (jk _ (by omega)) H2 (by omega) _ hb) ?_)
 rintro _ w1 ⟨rfl,h1,aK⟩
 have bR:=OG hb
 refine LM rfl (LO (LK (Oe (α:=Nat×List (Nat×Nat)×Option Nat×List Nat×Value×Nat) ((0,R,none,[],.slice none 0 0,a+(Cd.enc .gamma R.length).length)) (λy=>[(0,ptr t 0),(1,I (x:Int)),(2,I (left:Int)),(3,I (least:Int)),(9,y.2.2.2.2.1),(10,I (z2A y.2.2.1)),(17,I (R.length:Int)),(18,I (y.1:Int))]) (λy w'=>LoI w t r s R x least left rest (a+(Mf ((.gamma,R.length)::longNums x least none R)).length) y.1 y.2.1 y.2.2.1 y.2.2.2.1 y.2.2.2.2.1 y.2.2.2.2.2 w') (λy=>y.2.1.length) ?hI ?hround)))
 case hI=>exact⟨h1,aK.LZ λk e=> .inr e,Sl.nil _ _ _,(λg h=>by cases h),by simp,rfl,hR,H1,by simpa using uJ,bR,by rw[MI,List.length_append];dsimp only;omega,(show(-1:Int)<65536 by decide)⟩
 case hround =>
  rintro⟨i,R2,e,O,v9,a2⟩ w6 hI ih;dsimp only at hI;have aB:=hI.len
  try dsimp only
  refine qN rfl (Nr rfl rfl (LO (run_seq (LY rfl (λh0=>?_) (λh0=>?_)))))
  ·obtain⟨⟨p1,p2⟩,R2,rfl⟩:∃p q,R2=p::q:=by
    cases R2 with
    |nil=>simp at aB;omega
    |cons p q=>exact⟨p,q,rfl⟩
   rw[List.length_cons] at aB;obtain⟨ok1,ok2,ok3,ok4⟩:loE e<=p1/\1<=p2/\least<=p2/\Pc least (p1+p2+1) R2:=hI.ok;have KM:p1+p2<=65536:=hI.hi (p1,p2) List.mem_cons_self;have gM:Nq ((p1,p2)::R2)=(List.range p2).map (p1+·)++Nq R2:=rfl;have qm:=hI.tot;have uL:=hI.eq;rw[gM] at qm uL;rw[List.length_append,List.length_map,List.length_range] at qm;have bS:=hI.bits;have jD:=hI.z0d;rw[O6,MI,MI,List.append_assoc,List.append_assoc] at bS;rw[O6,MI,MI,List.length_append,List.length_append] at jD;have AS:=hI.eb
   have eM:R5 x e p1<=262144:=by
    cases e with
    |none=>have:=Vv (z:=(p1:Int)-x) (n:=65537) (by omega) (by omega);show ZQ _<=_;omega
    |some z=>show p1-z-2<=_;omega
   have jE:∀k,(λk=>k=t\/k=r) k->k<w.heap.size:=λk hk=>by rcases hk with e|e<;>omega
   have zd:=hI.kp.LN hG (λe=>by rcases e with e|e;exact mG e;exact cP e);refine py (run_seq (LK (qN rfl (LM rfl (qV (Mk (news:=[.int .u8 1,M7 0]) OK rfl Nk rfl (zd.cells (n:=2) rfl) rfl) (Mb YW rfl (QE hI.tk .gamma (R5 x e p1) 262144 trivial (jk _ eM) eM (by omega) _ bS) ?_))))));rintro _ w7 ⟨rfl,h7,aA⟩;have eN:=OG bS;have Fe:=hI.kp.size;have yX:=aA.size;have Fk:∀g,v9.ownBlock=some g->¬g=r:=λg hg e=>by have:=hI.fr g hg;omega
   have gV:=hI.sl.kp aA Fk;have gY:Kp (λk=>k=t\/k=r) w w7:=hI.kp.trans (aA.LZ λk e=> .inr e);refine LU rfl (run_seq (qN rfl (LM rfl (Nr rfl rfl (LO (MA (λe' w'=>w'=w7/\e'=[(0,ptr t 0),(1,I (x:Int)),(2,I (left:Int)),(3,I (least:Int)),(9,v9),(11,I (p1:Int)),(17,I (R.length:Int)),(18,I (i:Int))]) ?my (λmy=>?mz)))))))
   case my =>
    rintro e' w7 ⟨rfl,rfl⟩;have H3:=aA.LN zd cP;refine qN rfl (LM rfl (qV (Mk (news:=[.int .u8 1,M7 0]) OK rfl Nk rfl (H3.cells (n:=2) rfl) rfl) (LM rfl (Mb YW rfl (QE h7 .gamma (p2-least) left trivial (jk _ (by omega)) (by omega) (by omega) _ eN) ?_))));rintro _ w8 ⟨rfl,h8,bj⟩;have rM:=OG eN;have Fh:=bj.size;have eB:=gV.kp bj Fk;have oI:Kp (λk=>k=t\/k=r) w w8:=gY.trans (bj.LZ λk e=> .inr e);obtain⟨va,vc,rfl,-⟩:=hI.sl.rd.shape;refine LM rfl (MK rfl rfl ?_);rw[show((p2-least:Nat):Int)+(least:Int)=(p2:Int) by omega];have ce:=h8.LN;refine LU rfl (run_seq (qN rfl (M4 rfl rfl (Mp rfl (M0 Qa rfl (qV (LR U4 rfl rfl ce rfl) (M4 rfl rfl (Nr rfl rfl (MC (ME rfl rfl (M4 rfl rfl (LM rfl (MK rfl rfl ?_)))))))))))));refine Nc rfl rfl (MC (ME rfl rfl (M4 rfl rfl (M4 rfl rfl (NX Ml rfl (NP rfl rfl (Nc rfl rfl (MC (ME rfl rfl (Mp rfl (M0 Qa rfl (M1 rfl (NC RX rfl rfl rfl ce (by simp)) ?_))))))))))));rintro w9 ⟨cB,aL⟩;replace cB:LX w9 t [ptr r 0,.bool false] 289:=cB;refine qM rfl (LM rfl (Mp rfl (M0 Qa rfl (qV (LR U4 rfl rfl cB rfl) ?_))));have Fi:=aL.size;have uK:=eB.kp aL (λg hg e=>by have:=hI.fr g hg;omega);have h9:Ye w9 t r s (a2+(Cd.enc .gamma (R5 x e p1)).length+(Cd.enc .gamma (p2-least)).length):=⟨cB,⟨aL.LN h8.rd.1 (λe=>h8.ne e.symm),h8.rd.2⟩,h8.ne⟩;have AU:Kp (λk=>k=t\/k=r) w w9:=oI.trans (aL.LZ λk e=> .inl e);refine LO (An rfl (py (run_seq (qN rfl (M4 rfl rfl (LO (LK (Oe (α:=Nat×Value) ((0,.slice va O.length vc)) (λy=>[(0,ptr t 0),(1,I (x:Int)),(2,I (left:Int)),(3,I (least:Int)),(9,y.2),(11,I (p1:Int)),(12,I (p2:Int)),(17,I (R.length:Int)),(18,I (i:Int)),(69,I (p2:Int)),(70,I (y.1:Int))]) (λy w'=>Ye w' t r s (a2+(Cd.enc .gamma (R5 x e p1)).length+(Cd.enc .gamma (p2-least)).length)/\Kp (λk=>k=t\/k=r) w w'/\Sl w' y.2 46 1 (O.length+y.1) ((O++(List.range y.1).map (p1+·)).map Ms)/\(∀g,y.2.ownBlock=some g->w.heap.size<=g)/\y.1<=p2) (λy=>p2-y.1) ?hI ?hround))))))))
    case hI=>exact⟨h9,AU,by simpa using uK,hI.fr,Nat.zero_le _⟩
    case hround=>
     rintro⟨j,v⟩ w10 ⟨eK,aw,cf,cg,hj⟩ ih2;dsimp only at eK aw cf cg hj
     try dsimp only
     refine qN rfl (Nr rfl rfl (LO (run_seq (LY rfl (λkD=>?_) (λkD=>?_)))))
     ·refine py (run_seq (LK (qN rfl (LM rfl (LU rfl (LQ rfl (M4 rfl rfl (LM rfl (MK rfl rfl (qV (Xt rfl U3 N5) ?_))))))))));rw[show(p1+j)%4294967296=p1+j by omega];refine LV rfl rfl (Uu (cs:=[_]) (zs:=[Value.int .u32 0]) Ml Mc rfl (by kernel_rfl) rfl rfl rfl (by decide)) ?_;rintro _ w11 ⟨b11,rfl,⟨iN,aQ,aH⟩,rN⟩;have H4:=aw.size;have H5:=aQ.size;refine LV rfl rfl (pap Ml Mc rfl (by decide) rfl rfl (cf.ext aQ) rN.rd (by intro c hc;simp at hc;subst hc;rfl) (by omega) (by simp only[maxLen];omega)) ?_;rintro v12 w12 ⟨jE,aV,AV,-⟩;have mb:=jE.oneV;refine LU rfl (LL (LQ rfl (MK rfl rfl (LM rfl (LO ?_)))));have uM:∀g,g<w.heap.size->¬v.ownBlock=some g:=λg hg e=>by have:=cg g e;omega
      refine(ih2 (j+1,v12) _ ⟨⟨aV.LN (aQ.LN eK.LN) (uM t lt0),⟨aV.LN (aQ.LN eK.rd.1) (uM r lr0),eK.rd.2⟩,eK.ne⟩,(aw.trans aQ.kp).LJ aV (λg hg=> .inl (cg g hg)),?_,λg hg=>?_,by omega⟩ (by dsimp only;omega)).qb
      ·have e1:(O++(List.range (j+1)).map (p1+·)).map Ms=(O++(List.range j).map (p1+·)).map Ms++[Ms (p1+j)]:=by
        rw[List.range_succ];simp
       dsimp only;rw[e1];exact jE
      ·rcases AV g hg with e| e
       ·exact cg g e
       ·omega
     ·have H6:j=p2:=by omega
      subst H6;refine LW rfl (LQ rfl (M4 rfl rfl (MK rfl rfl (NP rfl rfl (LU rfl (LL (LQ rfl (MK rfl rfl (LM rfl (LO ?_))))))))));rw[show(p1:Int)+j-1=z2A (some (p1+j-1)) by show _=((p1+j-1:Nat):Int);omega,show(i:Int)+1=((i+1:Nat):Int) by omega];refine(ih (i+1,R2,some (p1+j-1),O++(List.range j).map (p1+·),v,_) _ ⟨eK,aw,?_,cg,by dsimp only;omega,by rw[uL,List.append_assoc],?_,λp hp=>hI.hi p (List.mem_cons_of_mem _ hp),?_,rM,?_,?_⟩ (by dsimp only;simp)).qb
      ·dsimp only;rw[List.length_append,List.length_map,List.length_range];exact cf
      ·refine ok4.mono ?_;show p1+j-1+2<=_;omega
      ·dsimp only;rw[List.length_append,List.length_map,List.length_range];omega
      ·dsimp only at jD⊢;omega
      ·show((p1+j-1:Nat):Int)<65536;omega
   case mz=>
    cases e with
    | none =>
      refine LY rfl (λe1=>?_) (λe1=>?_)
      ·refine LQ rfl (LM rfl (qV (MH rfl U3 Ns (by omega)) (Mb z9z rfl (z3C _ (by omega) _) ?_)));rintro _ w8 ⟨rfl,rfl⟩;rw[show R5 x none p1=ZQ ((p1:Int)-x) from rfl,z3v];refine LM rfl (MK rfl rfl ?_);rw[show(p1:Int)-x+x=(p1:Int) by omega];refine LU rfl ?_;exact(my _ _ ⟨rfl,rfl⟩).qb
      ·exact absurd (by decide) e1
    | some z =>
      refine LY rfl (λe1=>?_) (λe1=>?_)
      ·exact absurd e1 (by show ¬((z:Int)<0);omega)
      ·have hz:z+2<=p1:=ok1;refine LQ rfl (M4 rfl rfl ?_);rw[show z2A (some z)=(z:Int) from rfl];refine MK rfl rfl (MK rfl rfl ?_);rw[show R5 x (some z) p1=p1-z-2 from rfl,show((p1-z-2:Nat):Int)+((z:Int)+2)=(p1:Int) by omega];refine LU rfl ?_;exact(my _ _ ⟨rfl,rfl⟩).qb
  ·have eH:R2=[]:=List.eq_nil_of_length_eq_zero (by omega);subst eH;refine LW rfl (qN rfl (LM rfl (LU rfl (LP Tryz.func192 rfl ?_))));have dH:=hI.eq;rw[show Nq []=[] from rfl,List.append_nil] at dH;have jD:=hI.z0d;rw[show(Mf (longNums x least e [])).length=0 by cases e<;>rfl,Nat.add_zero] at jD;rw[dH,<-jD];exact⟨_,rfl,hI.sl,hI.fr,hI.tk,hI.kp⟩
def N7 (p:Oq)(n r:Nat):List (Cd×Nat):=(.gamma,n)::if n=0 then [] else if 0<p.Mh then [(.unary,r)] else []
theorem Yq {w:World}{r a:Nat}{s:Bytes}(h:Qc w r s a)(p:Oq)(hp:p.N4)(hG:LX w 1 (OU .gamma) 298)(hU:LX w 2 (OU .unary) 298)(cP:¬1=r)(dx:¬2=r)(n q:Nat)(hn:n<=65536)(hq:q<=p.Mh)
  (mH:n=0->q=0) (rest:List Bool) (hb:(Md s).drop a=Mf (N7 p n q)++rest):
  Mm Tryz.prog 167 [ptr r 0,lpV p] w λu w'=>u= .tuple #[.agg #[I (n:Int),I (q:Int)],I 0]/\Qc w' r s (a+(Mf (N7 p n q)).length)/\Kp (λk=>k=r) w w':=by
 obtain⟨g1,g2,g3,g4⟩:=id hp
 have lr0:=h.1.lt
 have mI:p.Mh=0->q=0:=λe=>by omega
 unfold N7 at hb⊢
 rw[MI,List.append_assoc] at hb
 refine It (e:=[(0,_),(1,_)]) Tryz.func167 rfl Tryz.ntmps167 rfl rfl (qN rfl (LV rfl rfl (NN rfl (cs:=Wg p) rfl) ?_))
 rintro _ w1 ⟨b3,rfl,en,ad,aq⟩
 refine LV rfl rfl (O9 (cs:=[_,_]) OE rfl) ?_
 rintro _ w2 ⟨b4,rfl,eA,af,aM⟩
 have z1:=ad.size
 have z2:=af.size
 have cX:=af.LN aq
 refine LU rfl (run_seq (LK (qN rfl (LM rfl (qV (MU PW rfl rfl) (LU rfl (An rfl (qN rfl (qV (Mk (news:=Wg p) VH rfl Qr rfl (cX.cells (n:=3) rfl) rfl) (Mb ZX rfl (Qg p hp w2) ?_))))))))))
 rintro _ w3 ⟨rfl,ah⟩
 refine MY rfl rfl (M6 rfl ?_)
 have cI:=(ad.trans af).trans ah
 have h3:Qc w3 r s a:=⟨cI.LN h.1,h.2⟩
 refine LO (An rfl (py (LL (qN rfl (LM rfl (Mb Uy rfl (Qy h3) ?_))))))
 rintro _ w4 ⟨rfl,rfl⟩
 refine M6 rfl (qM rfl (LM rfl (qV (Mk (news:=[.int .u8 1,M7 0]) OK rfl Nk rfl ((cI.LN hG).cells (n:=2) rfl) rfl) (Mb z6D rfl (Vd h3 .gamma n trivial (by simp only[Cd.most];omega) _ hb) ?_))))
 rintro _ w5 ⟨rfl,h5,aj⟩
 have gN:=OG hb
 have bT:=aj.LN (ah.LN cX) (by omega)
 have aJ:=aj.LN (ah.LN aM) (by omega)
 have ck:Kp (λk=>k=r) w w5:=cI.kp.trans aj
 replace bT:LX w5 b3 [I (p.Mh:Int),I (p.interval:Int),I (p.zeta:Int)] 245:=bT
 refine LM rfl (MW rfl rfl (MW rfl rfl (M6 rfl (M6 rfl (qM rfl (LU rfl (run_seq (qN rfl (LM rfl (NS rfl rfl (LM rfl ?_)))))))))))
 rcases Nat.eq_zero_or_pos n with e0|e0
 ·have rO:=mH e0;subst e0;subst rO;refine LM rfl (Nc rfl rfl (MC (NB rfl rfl (LM rfl (qS (qS (qS (ME rfl rfl (LO (Mn.qb (e:=[(0,_),(3,_),(4,_),(5,_),(6,_),(7,_),(8,_),(9,_),(37,_)]) ?_))))))))));refine An rfl (py (run_seq (qN rfl (LM rfl (MY rfl rfl (M4 rfl rfl (Nc rfl rfl (MC (ME rfl rfl (M4 rfl rfl (M0 PJ rfl (qV (LR U3 rfl rfl bT rfl) (qV ((by first|exact MH rfl U3 Ns (by omega)|exact Oc rfl U3 Ns)) ?_)))))))))))));refine Nc rfl rfl (MC (ME rfl rfl (LO (An rfl (py (qN rfl (LM rfl (qV (MB rfl Ns U3 (by omega)) (LM rfl (qV (MB rfl Ns U3 (by omega)) (qV (OJ (cs:=[_,_]) OE rfl z7u rfl rfl) (M1 rfl (MD (news:=[I ((0:Nat):Int),I (((0:Nat)):Int)]) OE rfl rfl rfl rfl aJ (by simp)) ?_))))))))))));rintro w9 ⟨bO,aL⟩;replace bO:LX w9 b4 [I ((0:Nat):Int),I (((0:Nat)):Int)] 239:=bO;refine LU rfl (Mn.qb (e:=[(4,_),(5,_)]) ?_);refine Mj Tryz.func167 (.cell z0K rfl OE rfl (LX.cells (n:=2) bO (news:=[_,_]) rfl) rfl (.tmp rfl .nil)) ?_;rw[if_pos rfl,show(Mf [((.gamma,0):Cd×Nat)]).length=(Cd.enc .gamma 0).length by rw[MI,List.length_append];rfl];refine⟨_,rfl,rfl,⟨aL.LN h5.1 (by omega),h5.2⟩,ck.LJ aL (λk e=> .inl (by omega))⟩
 ·rw[if_neg (by omega)] at gN⊢;rcases Nat.eq_zero_or_pos p.Mh with e1|e1
  ·have rO:=mI e1;subst rO;rw[if_neg (by omega)] at gN⊢;refine LM rfl (Nc rfl rfl (O8 (NB rfl rfl (LM rfl (M0 PJ rfl (qV (LR U3 rfl rfl bT rfl) (Nc rfl rfl (MC (NB rfl rfl (LO (Mn.qb (e:=[(0,_),(3,_),(4,_),(5,_),(6,_),(7,_),(8,_),(9,_),(37,_)]) ?_)))))))))));refine An rfl (py (run_seq (qN rfl (LM rfl (MY rfl rfl (M4 rfl rfl (Nc rfl rfl (MC (ME rfl rfl (M4 rfl rfl (M0 PJ rfl (qV (LR U3 rfl rfl bT rfl) (qV ((by first|exact MH rfl U3 Ns (by omega)|exact Oc rfl U3 Ns)) ?_)))))))))))));refine Nc rfl rfl (MC (ME rfl rfl (LO (An rfl (py (qN rfl (LM rfl (qV (MB rfl Ns U3 (by omega)) (LM rfl (qV (MB rfl Ns U3 (by omega)) (qV (OJ (cs:=[_,_]) OE rfl z7u rfl rfl) (M1 rfl (MD (news:=[I (n:Int),I (((0:Nat)):Int)]) OE rfl rfl rfl rfl aJ (by simp)) ?_))))))))))));rintro w9 ⟨bO,aL⟩;replace bO:LX w9 b4 [I (n:Int),I (((0:Nat)):Int)] 239:=bO;refine LU rfl (Mn.qb (e:=[(4,_),(5,_)]) ?_);refine Mj Tryz.func167 (.cell z0K rfl OE rfl (LX.cells (n:=2) bO (news:=[_,_]) rfl) rfl (.tmp rfl .nil)) ?_;rw[show(Mf [((.gamma,n):Cd×Nat)]).length=(Cd.enc .gamma n).length by rw[MI,List.length_append];rfl];refine⟨_,rfl,rfl,⟨aL.LN h5.1 (by omega),h5.2⟩,ck.LJ aL (λk e=> .inl (by omega))⟩
  ·rw[if_pos e1] at gN⊢;rw[MI,List.append_assoc] at gN;refine LM rfl (Nc rfl rfl (O8 (NB rfl rfl (LM rfl (M0 PJ rfl (qV (LR U3 rfl rfl bT rfl) (Nc rfl rfl (O8 (NB rfl rfl (LO (Mn.qb (e:=[(0,_),(3,_),(4,_),(5,_),(6,_),(7,_),(8,_),(9,_),(37,_)]) ?_)))))))))));refine M3 rfl (LQ rfl (LM rfl (qV (Mk (news:=[.int .u8 0,M7 0]) OK rfl Nk rfl ((ck.LN hU dx).cells (n:=2) rfl) rfl) (Mb z6D rfl (Vd h5 .unary q trivial (by simp only[Cd.most];omega) _ gN) ?_))));rintro _ w6 ⟨rfl,h6,aR⟩;have gZ:=aR.LN bT (by omega);have bP:=aR.LN aJ (by omega);have rP:=ck.trans aR;refine LM rfl (MW rfl rfl (MW rfl rfl (M6 rfl (LU rfl (run_seq (qN rfl (LM rfl (MY rfl rfl (M4 rfl rfl (Nc rfl rfl (MC (ME rfl rfl (M4 rfl rfl ?_)))))))))))));refine M0 PJ rfl (qV (LR U3 rfl rfl gZ rfl) (qV ((by first|exact MH rfl U3 Ns (by omega)|exact Oc rfl U3 Ns)) ?_));refine Nc rfl rfl (MC (ME rfl rfl (LO (Mn.qb (e:=[(0,_),(4,_),(5,_),(6,_),(7,_),(9,_),(56,_)]) ?_))));refine An rfl (py (qN rfl (LM rfl (qV (MB rfl Ns U3 (by omega)) (LM rfl (qV (MB rfl Ns U3 (by omega)) (qV (OJ (cs:=[_,_]) OE rfl z7u rfl rfl) (M1 rfl (MD (news:=[I (n:Int),I (q:Int)]) OE rfl rfl rfl rfl bP (by simp)) ?_))))))));rintro w9 ⟨bO,aL⟩;replace bO:LX w9 b4 [I (n:Int),I (q:Int)] 239:=bO;refine LU rfl (Mj Tryz.func167 (.cell z0K rfl OE rfl (LX.cells (n:=2) bO (news:=[_,_]) rfl) rfl (.tmp rfl .nil)) ?_);rw[show(Mf [((.gamma,n):Cd×Nat),(.unary,q)]).length=(Cd.enc .gamma n).length+(Cd.enc .unary q).length by rw[MI,MI,List.length_append,List.length_append];rfl,<-Nat.add_assoc];refine⟨_,rfl,rfl,⟨aL.LN h6.1 (by omega),h6.2⟩,rP.LJ aL (λk e=> .inl (by omega))⟩
structure MZ where
 Mh:Nat
 chain:Nat
 interval:Nat
 zeta:Nat
 most:Nat
def MZ.list (p:MZ):Oq:=⟨p.Mh,p.interval,p.zeta⟩
def MZ.N4 (p:MZ):Prop:=p.list.N4/\p.chain<=16/\p.most<=65536
def Rz (p:MZ):List Value:=[I (p.Mh:Int),I (p.chain:Int),I (p.interval:Int),I (p.zeta:Int),I (p.most:Int)]
abbrev bpV (p:MZ):Value:= .agg (Rz p).toArray
theorem Pk (p:MZ)(w:World):Mm Tryz.prog 132 [bpV p] w λu w'=>u=lpV p.list/\Ext w w':=by
 refine It (e:=[(0,_)]) Tryz.func132 rfl Tryz.ntmps132 rfl rfl (qN rfl (LV rfl rfl (NN rfl (cs:=Rz p) rfl) ?_))
 rintro _ w1 ⟨b1,rfl,bR,ad,ai⟩
 refine LV rfl rfl (O9 (cs:=[_,_,_]) Qr rfl) ?_
 rintro _ w2 ⟨b2,rfl,bY,af,am⟩
 have bu:=af.LN ai
 replace bu:LX w2 b1 [I (p.Mh:Int),I (p.chain:Int),I (p.interval:Int),I (p.zeta:Int),I (p.most:Int)] 77:=bu
 refine qM rfl (M0 XC rfl (qV (LR U3 rfl rfl bu rfl) (M0 z7c rfl (qV (LR U3 rfl rfl bu rfl) (M0 z7J rfl (qV (LR U3 rfl rfl bu rfl) (qV (OJ (cs:=[_,_,_]) Qr rfl zdC rfl rfl) (M1 rfl (MD (news:=[I (p.Mh:Int),I (p.interval:Int),I (p.zeta:Int)]) Qr rfl rfl rfl rfl am (by simp)) ?_))))))))
 rintro w3 ⟨cA,ar⟩
 replace cA:LX w3 b2 [I (p.Mh:Int),I (p.interval:Int),I (p.zeta:Int)] 245:=cA
 refine LO (Mj Tryz.func132 (.cell VH rfl Qr rfl (LX.cells (n:=3) cA (news:=[_,_,_]) rfl) rfl .nil) ?_)
 have z1:=ad.size
 exact⟨_,rfl,rfl,(ad.trans af).LJ ar (λk e=>by omega)⟩
theorem W3 (p:MZ)(hp:p.N4)(w:World):Mm Tryz.prog 135 [bpV p] w λu w'=>u=I 0/\Ext w w':=by
 obtain⟨g1,g2,g3⟩:=hp
 refine It (e:=[(0,_)]) Tryz.func135 rfl Tryz.ntmps135 rfl rfl (qN rfl (LV rfl rfl (NN rfl (cs:=Rz p) rfl) ?_))
 rintro _ w1 ⟨b1,rfl,bR,ad,ai⟩
 have fC:LX w1 b1 [I (p.Mh:Int),I (p.chain:Int),I (p.interval:Int),I (p.zeta:Int),I (p.most:Int)] 77:=ai
 refine LU rfl (run_seq (qN rfl (M0 Vj rfl (qV (LR U3 rfl rfl fC rfl) (Nr rfl rfl (MC (LM rfl (M0 Vj rfl (qV (LR U3 rfl rfl fC rfl) (Nc rfl rfl (MC (ME rfl rfl (LM rfl ?_)))))))))))))
 refine M0 PS rfl (qV (LR U3 rfl rfl fC rfl) (Nr rfl rfl (MC (ME rfl rfl (LM rfl (M0 PS rfl (qV (LR U3 rfl rfl fC rfl) (Nc rfl rfl (MC (ME rfl rfl (LO (An rfl (py ?_)))))))))))))
 refine qN rfl (qV (Mk Xi rfl O3 rfl (LX.cells (n:=5) fC (news:=[_,_,_,_,_]) rfl) rfl) (Mb Xk rfl (Pk p w1) ?_))
 rintro _ w2 ⟨rfl,af⟩
 refine Mb ZX rfl (Qg p.list g1 w2) ?_
 rintro _ w3 ⟨rfl,ah⟩
 refine LU rfl (LP Tryz.func135 rfl ?_)
 exact⟨_,rfl,rfl,(ad.trans af).trans ah⟩
structure OX (w:World)(g n cap:Nat)(d:Array Nat):Prop where
 sl:Sl w (.slice (some ⟨g,0,none⟩) n cap) 46 1 n (d.toList.map Ms)
 size:d.size=n
abbrev Nd (x y:Nat):Bool:=decide (x<y)
theorem Ut:Go.Sort.SWO Nd:=⟨λx=>by simp[Nd],λx y z h1 h2=>by simp[Nd] at*;omega,λx y z h1 h2=>by simp[Nd] at*;omega⟩
section
variable {w w':World}{g n cap:Nat}{d:Array Nat}{S:Nat->Prop}
theorem OX.ext (h:OX w g n cap d)(k:Ext w w'):OX w' g n cap d:=⟨h.sl.ext k,h.size⟩
theorem OX.kp (h:OX w g n cap d)(k:Kp S w w')(hg:¬S g):OX w' g n cap d:=⟨h.sl.kp k (λg' e=>by cases e;exact hg),h.size⟩
theorem OX.get {i:Nat}(h:OX w g n cap d)(hi:i<n):w.cell? ⟨g,0+i*1,none⟩=some (Ms d[i]!):=by
 have hs:=h.size
 refine MX h.sl.rd ?_
 rw[List.getElem?_map,Array.getElem?_toList,Array.getElem?_eq_getElem (by omega)]
 rw[getElem!_pos d i (by omega)]
 rfl
theorem OX.WB {j:Nat}(h:OX w g n cap d)(hj:j<n):j<(d.toList.map Ms).length:=by
 have hs:=h.size
 rw[List.length_map,Array.length_toList];omega
theorem OX.set {i y:Nat}(h:OX w g n cap d)(hS:Sl w' (.slice (some ⟨g,0,none⟩) n cap) 46 1 n ((d.toList.map Ms).set (0+i*1) (Ms y))):OX w' g n cap (d.setIfInBounds i y):=by
 refine⟨?_,by rw[Array.size_setIfInBounds,h.size]⟩
 rw[Array.toList_setIfInBounds,List.map_set]
 rw[show 0+i*1=i by omega] at hS
 exact hS
end
theorem z4X (x:Nat)(w:World):Mm Tryz.prog 238 [Ms x] w λu w'=>u= .bool false/\w'=w:=by
 refine It (e:=[(0,_)]) Tryz.func238 rfl Tryz.ntmps238 rfl rfl (qN rfl (M6 rfl (qM rfl (M4 rfl rfl (MY rfl rfl (LU rfl (LP Tryz.func238 rfl ?_)))))))
 exact⟨_,rfl,by simp[resVal],rfl⟩
theorem Ou (x y:Nat)(w:World):Mm Tryz.prog 229 [Ms x,Ms y] w λu w'=>u= .bool (Nd x y)/\w'=w:=by
 refine It (e:=[(0,_),(1,_)]) Tryz.func229 rfl Tryz.ntmps229 rfl rfl (qN rfl (M6 rfl (qM rfl (LM rfl (Mb zdL rfl (z4X x w) ?_)))))
 rintro _ w ⟨rfl,rfl⟩
 refine LM rfl (qS (qS (qS (ME rfl rfl (M4 rfl rfl (LM rfl (Nr rfl rfl (ME rfl rfl (LU rfl (LP Tryz.func229 rfl ?_))))))))))
 exact⟨_,rfl,by simp[Nd,resVal],rfl⟩
section
variable (a b j i:Nat)(d:Array Nat)
theorem z00 (hj:a<j)(hl:Nd d[j]! d[j-1]! =true):Go.Sort.insInner Nd a j d=Go.Sort.insInner Nd a (j-1) (Go.Sort.swp d j (j-1)):=by
 obtain⟨k,rfl⟩:∃k,j=k+1:=⟨j-1,by omega⟩
 rw[Go.Sort.insInner]
 simp only[Nat.add_sub_cancel] at hl⊢
 rw[if_pos]
 rw[Bool.and_eq_true];exact⟨by simpa using hj,hl⟩
theorem Tx (h:j<=a\/Nd d[j]! d[j-1]! =false):Go.Sort.insInner Nd a j d=d:=by
 cases j with
 |zero=>rw[Go.Sort.insInner]
 | succ k =>
   rw[Go.Sort.insInner];simp only[Nat.add_sub_cancel] at h;rw[if_neg];intro hc;rw[Bool.and_eq_true] at hc;rcases h with h| h
   ·have:=of_decide_eq_true hc.1;omega
   ·rw[h] at hc;cases hc.2
theorem z0x (h:i<b):Go.Sort.insOuter Nd a b i d=Go.Sort.insOuter Nd a b (i+1) (Go.Sort.insInner Nd a i d):=by rw[Go.Sort.insOuter,if_pos h]
theorem Y9 (h:¬i<b):Go.Sort.insOuter Nd a b i d=d:=by rw[Go.Sort.insOuter,if_neg h]
end
theorem Y2 {w:World}{g n cap:Nat}{d:Array Nat}(h:OX w g n cap d)(a b:Nat)(jf:a<=b)(hb:b<=n)(hn:n<=65536):
  Mm Tryz.prog 223 [.slice (some ⟨g,0,none⟩) n cap,I (a:Int),I (b:Int)] w λu w'=>u= .tuple #[]/\OX w' g n cap (Go.Sort.insertionSort Nd d a b)/\Kp (λk=>k=g) w w':=by
 refine It (e:=[(0,_),(1,_),(2,_)]) Tryz.func223 rfl Tryz.ntmps223 rfl rfl (qN rfl (LM rfl (MK rfl rfl (LU rfl (LK (Oe (α:=Nat×Array Nat) ((a+1,d)) (λy=>[(0,.slice (some ⟨g,0,none⟩) n cap),(1,I (a:Int)),(2,I (b:Int)),(6,I (y.1:Int))]) (λy w'=>OX w' g n cap y.2/\Kp (λk=>k=g) w w'/\Go.Sort.insOuter Nd a b y.1 y.2=Go.Sort.insertionSort Nd d a b/\a<y.1) (λy=>b-y.1) ?hI ?hround))))))
 case hI=>exact⟨h,Kp.refl _ _,rfl,Nat.lt_succ_self a⟩
 case hround=>
  rintro⟨i,d4⟩ w4 ⟨dR,ax,ct,o9⟩ ih;dsimp only at dR ax ct o9
  try dsimp only
  refine run_seq (qN rfl (M4 rfl rfl (Nr rfl rfl (LO (LY rfl (λh0=>?_) (λh0=>?_))))))
  ·rw[z0x _ _ _ _ (by omega)] at ct;refine py (run_seq (LK (qN rfl (LM rfl (LU rfl (LK (Oe (α:=Nat×Array Nat) ((i,d4)) (λy=>[(0,.slice (some ⟨g,0,none⟩) n cap),(1,I (a:Int)),(2,I (b:Int)),(6,I (i:Int)),(7,I (y.1:Int))]) (λy w'=>OX w' g n cap y.2/\Kp (λk=>k=g) w w'/\Go.Sort.insInner Nd a y.1 y.2=Go.Sort.insInner Nd a i d4/\y.1<=i/\a<=y.1) (λy=>y.1) ?hI ?hround)))))))
   case hI=>exact⟨dR,ax,rfl,Nat.le_refl _,by dsimp only;omega⟩
   case hround=>
    rintro⟨j,d5⟩ w5 ⟨aS,aj,bU,H7,AW⟩ ih2;dsimp only at aS aj bU H7 AW
    try dsimp only
    have hg:=Ext.Ma w5;rcases Nat.lt_or_ge a j with hj|hj
    ·refine run_seq (run_seq (NF (λw'=>Ext w5 w') rfl (M9 0 rfl rfl (hg) (M9 1 rfl rfl (hg) (LS 2 rfl (UZ rfl rfl) hg (Qq (M9 3 rfl rfl (hg) (M9 4 rfl rfl (hg) (M9 5 rfl rfl (hg) (LS 6 rfl (MN Ml Mc rfl rfl (by omega)) hg (M9 8 rfl rfl (hg) (M9 9 rfl rfl (hg) (LS 10 rfl (TF rfl rfl (by omega)) hg ?_)))))))))))));rw[show(j:Int)-1=((j-1:Nat):Int) by omega];refine qT 7 rfl (λ_ h=>Mt N5 rfl rfl ((aS.ext h).get (i:=j) (by omega))) hg (LS 11 rfl (MN Ml Mc rfl rfl (by omega)) hg (qT 12 rfl (λ_ h=>Mt N5 rfl rfl ((aS.ext h).get (i:=j-1) (by omega))) hg (Pw 13 rfl Sf rfl (Ou _ _ _) ?_)));rintro _ w6 ⟨rfl,rfl⟩;refine⟨hg,?_⟩;refine LS 14 rfl (Rx rfl rfl) hg (qE ?_);have oJ:=aS.ext hg;refine MR rfl (λh1=>?_) (λh1=>?_)
     ·refine py (run_seq (LK ?_));have ay:=Ext.Ma w5.drew;refine Me [15,17] (λw'=>Ext w5.drew w') (by kernel_rfl) rfl (qL [14,15,16,17] 0 rfl (λ_ h=>My rfl) ay (qL [14,15,16,17] 1 rfl (λ_ h=>My rfl) ay (MM (i:=2) rfl (by kernel_rfl) rfl rfl (λ_=>My rfl) (ay) (MM (i:=3) rfl (by kernel_rfl) rfl rfl (λ_=>My rfl) (ay) (MM (i:=4) rfl (by kernel_rfl) rfl rfl (λ_=>TF rfl rfl (by omega)) (ay) (qL [8,9,14,15,16,17] 5 rfl (λ_ h=>My rfl) ay (qL [7,8,9,14,15,16,17] 6 rfl (λ_ h=>My rfl) ay (qL [8,9,14,15,16,17] 7 rfl (λ_ h=>TF rfl rfl (by omega)) ay (qL [12,13,14,15,16,17] 10 rfl (λ_ h=>My rfl) ay (qL [12,13,14,15,16,17] 11 rfl (λ_ h=>My rfl) ay (qL [13,14,15,16,17] 12 rfl (λ_ h=>MN Ml Mc rfl rfl (by omega)) ay ?_)))))))))));rw[show(j:Int)-1=((j-1:Nat):Int) by omega];refine qL [9,14,15,16,17] 8 rfl (λ_ h=>MN Ml Mc rfl rfl (by omega)) ay (qL [14,15,16,17] 9 rfl (λ_ h=>Mt N5 rfl rfl ((oJ.ext h).get (i:=j-1) (by omega))) ay (qL [14,15,16,17] 13 rfl (λ_ h=>Mt N5 rfl rfl ((oJ.ext h).get (i:=j) (by omega))) ay (qL [15,16,17] 14 rfl (λ_ h=>MN Ml Mc rfl rfl (by omega)) ay (Pv [15] (qO 15 (Mx (i:=15) rfl rfl (Of Mc rfl rfl rfl (oJ.ext ay).sl ((oJ.ext ay).WB (by omega))) ?_))))));rintro w7a ⟨fD,fE⟩;refine⟨trivial,?_⟩;have cC:=(oJ.ext ay).set fD;refine LS 16 rfl (MN Ml Mc rfl rfl (by omega)) trivial (qO 17 (Mx (i:=17) rfl rfl (Of Mc rfl rfl rfl cC.sl (cC.WB (by omega))) ?_));rintro w7 ⟨hC,jF⟩;refine⟨trivial,?_⟩;have jG:=cC.set hC;have fF:Kp (λk=>k=g) w5.drew w7:=ay.kp.trans (fE.trans jF);refine qE (LL (LQ rfl (LM rfl (NP rfl rfl (LU rfl ?_)))));rw[show(j:Int)-1=((j-1:Nat):Int) by omega];refine(ih2 (j-1,Go.Sort.swp d5 j (j-1)) _ ⟨jG,(aj.trans hg.kp).trans fF,?_,by dsimp only;omega,by dsimp only;omega⟩ (by dsimp only;omega)).qb;dsimp only;rw[<-bU,z00 a j d5 hj h1]
     ·refine LW rfl (LL (LQ rfl (LM rfl (MK rfl rfl (LU rfl ?_)))));rw[Tx a j d5 (.inr (by simpa using h1))] at bU;refine(ih (i+1,d5) _ ⟨oJ,aj.trans hg.kp,?_,by dsimp only;omega⟩ (by dsimp only;omega)).qb;dsimp only;rw[bU];exact ct
    ·refine run_seq (run_seq (NF (λw'=>Ext w5 w') rfl (M9 0 rfl rfl (hg) (M9 1 rfl rfl (hg) (LS 2 rfl (UZ rfl rfl) hg (QG (M9 3 rfl rfl (hg) (qJ 4 rfl (hg) (qJ 5 rfl (hg) (qJ 6 rfl (hg) (qJ 7 rfl (hg) (qJ 8 rfl (hg) (qJ 9 rfl (hg) ?_)))))))))))));refine qJ 10 rfl (hg) (qJ 11 rfl (hg) (qJ 12 rfl (hg) (qJ 13 rfl (hg) (LS 14 rfl (R8 rfl rfl) hg (qE (An rfl (LW rfl (LL (LQ rfl (LM rfl (MK rfl rfl (LU rfl ?_))))))))))));rw[Tx a j d5 (.inl hj)] at bU;refine(ih (i+1,d5) _ ⟨aS.ext hg,aj.trans hg.kp,?_,by dsimp only;omega⟩ (by dsimp only;omega)).qb;dsimp only;rw[bU];exact ct
  ·rw[Y9 _ _ _ _ (by omega)] at ct;refine LW rfl (N9 Tryz.func223 rfl ?_);exact⟨_,rfl,rfl,ct▸dR,ax⟩
section
variable (hi first root:Nat)(d:Array Nat)
def Vc:Nat:=if 2*root+1+1<hi&&Nd d[first+(2*root+1)]! d[first+(2*root+1)+1]! then 2*root+2 else 2*root+1
theorem z5e (h:hi<=2*root+1):Go.Sort.siftDown Nd hi first root d=d:=by rw[Go.Sort.siftDown,dif_pos h]
theorem z8M (h:2*root+1<hi):Go.Sort.siftDown Nd hi first root d=if Nd d[first+root]! d[first+Vc hi first root d]! then Go.Sort.siftDown Nd hi first (Vc hi first root d) (Go.Sort.swp d (first+root) (first+Vc hi first root d)) else d:=by
 rw[Go.Sort.siftDown,dif_neg (by omega)]
 unfold Vc
 by_cases h1:(decide (2*root+1+1<hi)&&Nd d[first+(2*root+1)]! d[first+(2*root+1)+1]!)=true
 ·rw[if_pos h1,if_pos h1];rw[Bool.and_eq_true] at h1;have h2:2*root+2<hi:=of_decide_eq_true h1.1;rw[dif_pos h2];cases Nd d[first+root]! d[first+(2*root+2)]!<;>rfl
 ·rw[if_neg h1,if_neg h1];cases Nd d[first+root]! d[first+(2*root+1)]!<;>rfl
theorem z8e (h:2*root+1<hi):root<Vc hi first root d/\Vc hi first root d<hi:=by
 unfold Vc
 split
 ·rename_i h1
  rw[Bool.and_eq_true] at h1;have h2:2*root+2<hi:=of_decide_eq_true h1.1;omega
 ·omega
end
theorem z1u {w:World}{g n cap:Nat}{d:Array Nat}(h:OX w g n cap d)(lo hi first:Nat)(hf:first+hi<=n)(o4:lo<=65536)(hn:n<=65536):
  Mm Tryz.prog 233 [.slice (some ⟨g,0,none⟩) n cap,I (lo:Int),I (hi:Int),I (first:Int)] w λu w'=>u= .tuple #[]/\OX w' g n cap (Go.Sort.siftDown Nd hi first lo d)/\Kp (λk=>k=g) w w':=by
 refine It (e:=[(0,_),(1,_),(2,_),(3,_)]) Tryz.func233 rfl Tryz.ntmps233 rfl rfl (qN rfl (LM rfl (LU rfl (LK (Oe (α:=Nat×Array Nat) ((lo,d)) (λy=>[(0,.slice (some ⟨g,0,none⟩) n cap),(2,I (hi:Int)),(3,I (first:Int)),(8,I (y.1:Int))]) (λy w'=>OX w' g n cap y.2/\Kp (λk=>k=g) w w'/\Go.Sort.siftDown Nd hi first y.1 y.2=Go.Sort.siftDown Nd hi first lo d/\y.1<=65536) (λy=>hi-y.1) ?hI ?hround)))))
 case hI=>exact⟨h,Kp.refl _ _,rfl,o4⟩
 case hround=>
  rintro⟨root,d4⟩ w4 ⟨dR,ax,ct,bD⟩ ih;dsimp only at dR ax ct bD
  try dsimp only
  refine LK (qN rfl (LM rfl (qV (SV rfl rfl (by omega)) (MK rfl rfl (LU rfl (run_seq (qN rfl ?_)))))));rw[show 2*(root:Int)+1=((2*root+1:Nat):Int) by omega];refine M4 rfl rfl (PQ rfl rfl (LO (LY rfl (λh0=>?_) (λh0=>?_))))
  ·rw[z5e _ _ _ _ (by omega)] at ct;refine LW rfl (N9 Tryz.func233 rfl ?_);exact⟨_,rfl,rfl,ct▸dR,ax⟩
  ·have hc:=z8e hi first root d4 (by omega);rw[z8M _ _ _ _ (by omega)] at ct;have hg:=Ext.Ma w4;have rQ:=dR.ext hg;refine py (run_seq (run_seq ?_))
   generalize oK:(decide (2*root+1+1<hi)&&Nd d4[first+(2*root+1)]! d4[first+(2*root+1)+1]!)=sel
   refine MA (λe' w'=>e'=[(0,.slice (some ⟨g,0,none⟩) n cap),(2,I (hi:Int)),(3,I (first:Int)),(8,I (root:Int)),(9,I ((2*root+1:Nat):Int)),(36,.bool sel)]/\w'=w4.drew) ?dJ (λdJ=>?eL)
   case dJ=>
    rintro e' w5 ⟨rfl,rfl⟩;refine MA (λe' w'=>e'=[(0,.slice (some ⟨g,0,none⟩) n cap),(2,I (hi:Int)),(3,I (first:Int)),(8,I (root:Int)),(9,I (Vc hi first root d4:Int))]/\w'=w4.drew) ?av (λav=>?dr)
    case av=>
     rintro e' w5 ⟨rfl,rfl⟩
     generalize Vc hi first root d4=c at hc ct
     have dS:=Ext.Ma w4.drew;have ll:=rQ.ext dS;refine run_seq (run_seq (NF (λw'=>Ext w4.drew w') rfl (M9 0 rfl rfl (dS) (M9 1 rfl rfl (dS) (M9 2 rfl rfl (dS) (LS 3 rfl (R9 rfl rfl (by omega)) dS (LS 4 rfl (MN Ml Mc rfl rfl (by omega)) dS (M9 6 rfl rfl (dS) (M9 7 rfl rfl (dS) (M9 8 rfl rfl (dS) (LS 9 rfl (R9 rfl rfl (by omega)) dS (LS 10 rfl (MN Ml Mc rfl rfl (by omega)) dS (qT 5 rfl (λ_ h=>Mt N5 rfl rfl ((rQ.ext h).get (i:=first+root) (by omega))) dS ?_)))))))))))));refine qT 11 rfl (λ_ h=>Mt N5 rfl rfl ((rQ.ext h).get (i:=first+c) (by omega))) dS (Pw 12 rfl Sf rfl (Ou _ _ _) ?_);rintro _ w6 ⟨rfl,rfl⟩;refine⟨dS,?_⟩;refine LS 13 rfl ((by first|exact ML rfl|exact Oh rfl)) dS ?_;refine qE (MR rfl (λh1=>?_) (λh1=>?_))
     ·rw[if_neg (by simpa using h1)] at ct;refine LP Tryz.func233 rfl ?_;exact⟨_,rfl,rfl,ct▸ll,ax.trans (hg.trans dS).kp⟩
     ·rw[if_pos (by simpa using h1)] at ct;refine py (run_seq ?_);have ay:=Ext.Ma w4.drew.drew;refine Me [21,23] (λw'=>Ext w4.drew.drew w') (by kernel_rfl) rfl (qL [20,21,22,23] 0 rfl (λ_ h=>My rfl) ay (qL [3,20,21,22,23] 1 rfl (λ_ h=>My rfl) ay (qL [3,20,21,22,23] 2 rfl (λ_ h=>My rfl) ay (qL [20,21,22,23] 3 rfl (λ_ h=>R9 rfl rfl (by omega)) ay (MM (i:=4) rfl (by kernel_rfl) rfl rfl (λ_=>My rfl) (ay) (MM (i:=5) rfl (by kernel_rfl) rfl rfl (λ_=>My rfl) (ay) (MM (i:=6) rfl (by kernel_rfl) rfl rfl (λ_=>My rfl) (ay) (MM (i:=7) rfl (by kernel_rfl) rfl rfl (λ_=>R9 rfl rfl (by omega)) (ay) (qL [12,13,20,21,22,23] 8 rfl (λ_ h=>My rfl) ay (qL [11,12,13,20,21,22,23] 9 rfl (λ_ h=>My rfl) ay (qL [11,12,13,20,21,22,23] 10 rfl (λ_ h=>My rfl) ay (qL [12,13,20,21,22,23] 11 rfl (λ_ h=>R9 rfl rfl (by omega)) ay (qL [13,20,21,22,23] 12 rfl (λ_ h=>MN Ml Mc rfl rfl (by omega)) ay ?_)))))))))))));refine qL [18,19,20,21,22,23] 14 rfl (λ_ h=>My rfl) ay (qL [17,18,19,20,21,22,23] 15 rfl (λ_ h=>My rfl) ay (qL [17,18,19,20,21,22,23] 16 rfl (λ_ h=>My rfl) ay (qL [18,19,20,21,22,23] 17 rfl (λ_ h=>R9 rfl rfl (by omega)) ay (qL [19,20,21,22,23] 18 rfl (λ_ h=>MN Ml Mc rfl rfl (by omega)) ay (qL [20,21,22,23] 13 rfl (λ_ h=>Mt N5 rfl rfl ((ll.ext h).get (i:=first+c) (by omega))) ay (qL [20,21,22,23] 19 rfl (λ_ h=>Mt N5 rfl rfl ((ll.ext h).get (i:=first+root) (by omega))) ay (qL [21,22,23] 20 rfl (λ_ h=>MN Ml Mc rfl rfl (by omega)) ay (Pv [21] (qO 21 (Mx (i:=21) rfl rfl (Of Mc rfl rfl rfl (ll.ext ay).sl ((ll.ext ay).WB (by omega))) ?_))))))))));rintro w7a ⟨fD,fE⟩;refine⟨trivial,?_⟩;have cC:=(ll.ext ay).set fD;refine LS 22 rfl (MN Ml Mc rfl rfl (by omega)) trivial (qO 23 (Mx (i:=23) rfl rfl (Of Mc rfl rfl rfl cC.sl (cC.WB (by omega))) ?_));rintro w7 ⟨hC,jF⟩;refine⟨trivial,?_⟩;have jG:=cC.set hC;have fF:Kp (λk=>k=g) w4.drew.drew w7:=ay.kp.trans (fE.trans jF);refine qE (LQ rfl (LM rfl (LU rfl (LL ((ih (c,Go.Sort.swp d4 (first+root) (first+c)) _ ⟨jG,(ax.trans (hg.trans dS).kp).trans fF,ct,by dsimp only;omega⟩ (by dsimp only;omega)).qb)))))
    case dr=>
     refine MR rfl (λh1=>?_) (λh1=>?_)
     ·refine LQ rfl (LM rfl (MK rfl rfl (LU rfl ?_)));rw[show((2*root+1:Nat):Int)+1=(Vc hi first root d4:Int) by unfold Vc;rw[oK,if_pos h1];omega];exact(av _ _ ⟨rfl,rfl⟩).qb
     ·refine py ?_;rw[show((2*root+1:Nat):Int)=(Vc hi first root d4:Int) by unfold Vc;rw[oK,if_neg (by rw[h1];decide)]];exact(av _ _ ⟨rfl,rfl⟩).qb
   case eL=>
    rcases Nat.lt_or_ge (2*root+1+1) hi with hj|hj
    ·refine NF (λw'=>Ext w4 w') rfl (M9 0 rfl rfl (hg) (LS 1 rfl (R9 rfl rfl (by omega)) hg (M9 2 rfl rfl (hg) (LS 3 rfl (XF rfl rfl) hg (Qq (M9 4 rfl rfl (hg) (M9 5 rfl rfl (hg) (M9 6 rfl rfl (hg) (M9 7 rfl rfl (hg) (LS 8 rfl (R9 rfl rfl (by omega)) hg (LS 9 rfl (MN Ml Mc rfl rfl (by omega)) hg (M9 11 rfl rfl (hg) (M9 12 rfl rfl (hg) ?_)))))))))))));refine M9 13 rfl rfl (hg) (LS 14 rfl (R9 rfl rfl (by omega)) hg (LS 15 rfl (R9 rfl rfl (by omega)) hg (LS 16 rfl (MN Ml Mc rfl rfl (by omega)) hg (qT 10 rfl (λ_ hS=>Mt N5 rfl rfl ((dR.ext hS).get (i:=first+(2*root+1)) (by omega))) hg (qT 17 rfl (λ_ hS=>Mt N5 rfl rfl ((dR.ext hS).get (i:=first+(2*root+1)+1) (by omega))) hg (Pw 18 rfl Sf rfl (Ou _ _ _) ?_))))));rintro _ w6 ⟨rfl,rfl⟩;refine⟨hg,?_⟩;refine LS 19 rfl (Rx rfl rfl) hg (qE ?_);rw[show Nd d4[first+(2*root+1)]! d4[first+(2*root+1)+1]! =sel by rw[<-oK,decide_eq_true hj,Bool.true_and]];exact(dJ _ _ ⟨rfl,rfl⟩).qb
    ·refine NF (λw'=>Ext w4 w') rfl (M9 0 rfl rfl (hg) (LS 1 rfl (R9 rfl rfl (by omega)) hg (M9 2 rfl rfl (hg) (LS 3 rfl (XF rfl rfl) hg (QG (M9 4 rfl rfl (hg) (qJ 5 rfl (hg) (qJ 6 rfl (hg) (qJ 7 rfl (hg) (qJ 8 rfl (hg) (qJ 9 rfl (hg) (qJ 10 rfl (hg) (qJ 11 rfl (hg) ?_)))))))))))));refine qJ 12 rfl (hg) (qJ 13 rfl (hg) (qJ 14 rfl (hg) (qJ 15 rfl (hg) (qJ 16 rfl (hg) (qJ 17 rfl (hg) (qJ 18 rfl (hg) (LS 19 rfl (R8 rfl rfl) hg (qE ?_))))))));have mJ:sel=false:=by rw[<-oK,decide_eq_false (by omega),Bool.false_and]
     subst mJ;exact(dJ _ _ ⟨rfl,rfl⟩).qb
theorem z7m {w:World}{g n cap:Nat}{d:Array Nat}(h:OX w g n cap d)(a b:Nat)(jf:a<b)(hb:b<=n)(hn:n<=65536):
  Mm Tryz.prog 224 [.slice (some ⟨g,0,none⟩) n cap,I (a:Int),I (b:Int)] w λu w'=>u= .tuple #[]/\OX w' g n cap (Go.Sort.heapSort Nd d a b)/\Kp (λk=>k=g) w w':=by
 refine It (e:=[(0,_),(1,_),(2,_)]) Tryz.func224 rfl Tryz.ntmps224 rfl rfl (qN rfl (LM rfl (M6 rfl (qM rfl (M6 rfl (qM rfl (M4 rfl rfl (NP rfl rfl (LU rfl (run_seq (qN rfl ?_)))))))))))
 rw[show(b:Int)-(a:Int)=((b-a:Nat):Int) by omega]
 refine LM rfl (NP rfl rfl ?_)
 rw[show((b-a:Nat):Int)-1=((b-a-1:Nat):Int) by omega]
 refine qV (Tg rfl rfl (by omega)) (LU rfl (LK ?_))
 rw[show((b-a-1:Nat):Int) / 2=(((b-a-1) / 2+1:Nat):Int)-1 by omega]
 have mH:Go.Sort.heapSort Nd d a b=Go.Sort.heapPop Nd a (b-a) (Go.Sort.heapBuild Nd (b-a) a ((b-a-1) / 2+1) d):=rfl
 rw[mH]
 refine Oe (α:=Nat×Array Nat) (((b-a-1) / 2+1,d)) (λy=>[(0,.slice (some ⟨g,0,none⟩) n cap),(6,I (a:Int)),(7,I 0),(8,I ((b-a:Nat):Int)),(9,I ((y.1:Int)-1))]) (λy w'=>OX w' g n cap y.2/\Kp (λk=>k=g) w w'/\Go.Sort.heapBuild Nd (b-a) a y.1 y.2=Go.Sort.heapBuild Nd (b-a) a ((b-a-1) / 2+1) d/\y.1<=(b-a-1) / 2+1) (λy=>y.1) ?hI ?hround
 case hI=>exact⟨h,Kp.refl _ _,rfl,Nat.le_refl _⟩
 case hround=>
  rintro⟨k,d4⟩ w4 ⟨dR,ax,ct,bD⟩ ih;dsimp only at dR ax ct bD
  try dsimp only
  refine run_seq (qN rfl (LM rfl (PQ rfl rfl (LO (LY rfl (λh0=>?_) (λh0=>?_))))))
  ·obtain⟨k,rfl⟩:∃k',k=k'+1:=⟨k-1,by omega⟩;rw[show((k+1:Nat):Int)-1=(k:Int) by omega];refine py (run_seq (LK (LQ rfl (M4 rfl rfl (M4 rfl rfl (Mb zac rfl (z1u dR k (b-a) a (by omega) (by omega) hn) ?_))))));rintro _ w5 ⟨rfl,aS,aj⟩;refine LO (LL (LQ rfl (LM rfl (NP rfl rfl (LU rfl ?_)))));exact(ih (k,Go.Sort.siftDown Nd (b-a) a k d4) _ ⟨aS,ax.trans aj,ct,by dsimp only;omega⟩ (by dsimp only;omega)).qb
  ·have gL:k=0:=by omega
   subst gL;rw[<-ct];refine LW rfl (qN rfl (LM rfl (NP rfl rfl (LU rfl (LK (Oe (α:=Nat×Array Nat) ((b-a,d4)) (λy=>[(0,.slice (some ⟨g,0,none⟩) n cap),(6,I (a:Int)),(7,I 0),(10,I ((y.1:Int)-1))]) (λy w'=>OX w' g n cap y.2/\Kp (λk=>k=g) w w'/\Go.Sort.heapPop Nd a y.1 y.2=Go.Sort.heapPop Nd a (b-a) (Go.Sort.heapBuild Nd (b-a) a 0 d4)/\y.1<=b-a) (λy=>y.1) ?hI ?hround))))))
   case hI=>exact⟨dR,ax,rfl,Nat.le_refl _⟩
   case hround=>
    rintro⟨k,d5⟩ w5 ⟨aS,aj,bU,bZ⟩ ih2;dsimp only at aS aj bU bZ
    try dsimp only
    refine run_seq (qN rfl (LM rfl (PQ rfl rfl (LO (LY rfl (λh1=>?_) (λh1=>?_))))))
    ·obtain⟨k,rfl⟩:∃k',k=k'+1:=⟨k-1,by omega⟩;rw[show((k+1:Nat):Int)-1=(k:Int) by omega];refine py (run_seq (LK (run_seq ?_)));have ay:=Ext.Ma w5;refine Me [17,19] (λw'=>Ext w5 w') (by kernel_rfl) rfl (qL [16,17,18,19] 0 rfl (λ_ h=>My rfl) ay (qL [16,17,18,19] 1 rfl (λ_ h=>My rfl) ay (MM (i:=2) rfl (by kernel_rfl) rfl rfl (λ_=>My rfl) (ay) (MM (i:=3) rfl (by kernel_rfl) rfl rfl (λ_=>My rfl) (ay) (MM (i:=4) rfl (by kernel_rfl) rfl rfl (λ_=>My rfl) (ay) (MM (i:=5) rfl (by kernel_rfl) rfl rfl (λ_=>R9 rfl rfl (by omega)) (ay) (qL [10,11,16,17,18,19] 6 rfl (λ_ h=>My rfl) ay (qL [9,10,11,16,17,18,19] 7 rfl (λ_ h=>My rfl) ay (qL [9,10,11,16,17,18,19] 8 rfl (λ_ h=>My rfl) ay (qL [10,11,16,17,18,19] 9 rfl (λ_ h=>R9 rfl rfl (by omega)) ay (qL [11,16,17,18,19] 10 rfl (λ_ h=>MN Ml Mc rfl rfl (by omega)) ay (qL [14,15,16,17,18,19] 12 rfl (λ_ h=>My rfl) ay (qL [14,15,16,17,18,19] 13 rfl (λ_ h=>My rfl) ay ?_)))))))))))));refine qL [15,16,17,18,19] 14 rfl (λ_ h=>MN Ml Mc rfl rfl (by omega)) ay (qL [16,17,18,19] 11 rfl (λ_ h=>Mt N5 rfl rfl ((aS.ext h).get (i:=a+k) (by omega))) ay (qL [16,17,18,19] 15 rfl (λ_ h=>Mt N5 rfl rfl ((aS.ext h).get (i:=a) (by omega))) ay (qL [17,18,19] 16 rfl (λ_ h=>MN Ml Mc rfl rfl (by omega)) ay (Pv [17] (qO 17 (Mx (i:=17) rfl rfl (Of Mc rfl rfl rfl (aS.ext ay).sl ((aS.ext ay).WB (by omega))) ?_))))));rintro w7a ⟨fD,fE⟩;refine⟨trivial,?_⟩;have cC:=(aS.ext ay).set fD;refine LS 18 rfl (MN Ml Mc rfl rfl (by omega)) trivial (qO 19 (Mx (i:=19) rfl rfl (Of Mc rfl rfl rfl cC.sl (cC.WB (by omega))) ?_));rintro w7 ⟨hC,jF⟩;refine⟨trivial,?_⟩;have jG:=cC.set hC;have fF:Kp (λk=>k=g) w5 w7:=ay.kp.trans (fE.trans jF);refine qE (LQ rfl (M4 rfl rfl (M4 rfl rfl (Mb zac rfl (z1u jG 0 k a (by omega) (by omega) hn) ?_))));rintro _ w8 ⟨rfl,H8,bj⟩;refine LO (LL (LQ rfl (LM rfl (NP rfl rfl (LU rfl ?_)))));exact(ih2 (k,Go.Sort.siftDown Nd k a 0 (Go.Sort.swp d5 a (a+k))) _ ⟨H8,(aj.trans fF).trans bj,bU,by dsimp only;omega⟩ (by dsimp only;omega)).qb
    ·have gL:k=0:=by omega
     subst gL;rw[<-bU];refine LW rfl (N9 Tryz.func224 rfl ?_);exact⟨_,rfl,rfl,aS,aj⟩
theorem z06 {w:World}{g n cap:Nat}{d:Array Nat}(h:OX w g n cap d)(a b:Nat)(jf:a<b)(hb:b<=n)(hn:n<=65536):
  Mm Tryz.prog 227 [.slice (some ⟨g,0,none⟩) n cap,I (a:Int),I (b:Int)] w λu w'=>u= .tuple #[]/\OX w' g n cap (Go.Sort.reverseRange d a b)/\Kp (λk=>k=g) w w':=by
 refine It (e:=[(0,_),(1,_),(2,_)]) Tryz.func227 rfl Tryz.ntmps227 rfl rfl (qN rfl (LM rfl (M6 rfl (qM rfl (LM rfl (NP rfl rfl (LU rfl (LK ?_))))))))
 rw[show(b:Int)-1=((b-1:Nat):Int) by omega]
 refine Oe (α:=Nat×Nat×Array Nat) ((a,b-1,d)) (λy=>[(0,.slice (some ⟨g,0,none⟩) n cap),(6,I (y.1:Int)),(7,I (y.2.1:Int))]) (λy w'=>OX w' g n cap y.2.2/\Kp (λk=>k=g) w w'/\Go.Sort.reverseLoop y.1 y.2.1 y.2.2=Go.Sort.reverseRange d a b/\y.2.1<n) (λy=>y.2.1-y.1) ?hI ?hround
 case hI=>exact⟨h,Kp.refl _ _,rfl,by dsimp only;omega⟩
 case hround=>
  rintro⟨i,j,d4⟩ w4 ⟨dR,ax,ct,bD⟩ ih;dsimp only at dR ax ct bD
  try dsimp only
  refine run_seq (qN rfl (M4 rfl rfl (Nr rfl rfl (LO (LY rfl (λh0=>?_) (λh0=>?_))))))
  ·rw[Go.Sort.reverseLoop,if_pos (by omega)] at ct;refine py (LK (run_seq ?_));have ay:=Ext.Ma w4;refine Me [13,15] (λw'=>Ext w4 w') (by kernel_rfl) rfl (qL [12,13,14,15] 0 rfl (λ_ h=>My rfl) ay (qL [12,13,14,15] 1 rfl (λ_ h=>My rfl) ay (MM (i:=2) rfl (by kernel_rfl) rfl rfl (λ_=>My rfl) (ay) (MM (i:=3) rfl (by kernel_rfl) rfl rfl (λ_=>My rfl) (ay) (qL [6,7,12,13,14,15] 4 rfl (λ_ h=>My rfl) ay (qL [6,7,12,13,14,15] 5 rfl (λ_ h=>My rfl) ay (qL [7,12,13,14,15] 6 rfl (λ_ h=>MN Ml Mc rfl rfl (by omega)) ay (qL [10,11,12,13,14,15] 8 rfl (λ_ h=>My rfl) ay (qL [10,11,12,13,14,15] 9 rfl (λ_ h=>My rfl) ay (qL [11,12,13,14,15] 10 rfl (λ_ h=>MN Ml Mc rfl rfl (by omega)) ay (qL [12,13,14,15] 7 rfl (λ_ h=>Mt N5 rfl rfl ((dR.ext h).get (i:=j) (by omega))) ay (qL [12,13,14,15] 11 rfl (λ_ h=>Mt N5 rfl rfl ((dR.ext h).get (i:=i) (by omega))) ay (qL [13,14,15] 12 rfl (λ_ h=>MN Ml Mc rfl rfl (by omega)) ay ?_)))))))))))));refine Pv [13] (qO 13 (Mx (i:=13) rfl rfl (Of Mc rfl rfl rfl (dR.ext ay).sl ((dR.ext ay).WB (by omega))) ?_));rintro w7a ⟨fD,fE⟩;refine⟨trivial,?_⟩;have cC:=(dR.ext ay).set fD;refine LS 14 rfl (MN Ml Mc rfl rfl (by omega)) trivial (qO 15 (Mx (i:=15) rfl rfl (Of Mc rfl rfl rfl cC.sl (cC.WB (by omega))) ?_));rintro w7 ⟨hC,jF⟩;refine⟨trivial,?_⟩;have jG:=cC.set hC;have fF:Kp (λk=>k=g) w4 w7:=ay.kp.trans (fE.trans jF);refine qE (qN rfl (LM rfl (MK rfl rfl (LU rfl (LQ rfl (LM rfl (NP rfl rfl (LU rfl (LL ?_)))))))));rw[show(j:Int)-1=((j-1:Nat):Int) by omega];exact(ih (i+1,j-1,Go.Sort.swp d4 i j) _ ⟨jG,ax.trans fF,ct,by dsimp only;omega⟩ (by dsimp only;omega)).qb
  ·rw[Go.Sort.reverseLoop,if_neg (by omega)] at ct;refine LW rfl (N9 Tryz.func227 rfl ?_);exact⟨_,rfl,rfl,ct▸dR,ax⟩
section
variable (p:Nat->Bool)(d:Array Nat)(i j:Nat)
theorem Vl (h:i<=j)(hp:p d[i]! =true):Go.Sort.scanUp p d j i=Go.Sort.scanUp p d j (i+1):=by
 conv=>lhs;rw[Go.Sort.scanUp]
 rw[if_pos]
 rw[Bool.and_eq_true];exact⟨by simpa using h,hp⟩
theorem Po (h:j<i\/p d[i]! =false):Go.Sort.scanUp p d j i=i:=by
 rw[Go.Sort.scanUp,if_neg]
 intro hc
 rw[Bool.and_eq_true] at hc
 rcases h with h| h
 ·have:=of_decide_eq_true hc.1;omega
 ·rw[h] at hc;cases hc.2
theorem SU (h:i<=j)(hp:p d[j]! =true)(hj:1<=j):Go.Sort.scanDown p d i j=Go.Sort.scanDown p d i (j-1):=by
 obtain⟨k,rfl⟩:∃k,j=k+1:=⟨j-1,by omega⟩
 rw[Go.Sort.scanDown,if_pos]
 ·rfl
 ·rw[Bool.and_eq_true];exact⟨by simpa using h,hp⟩
theorem Ov (h:j<i\/p d[j]! =false):Go.Sort.scanDown p d i j=j:=by
 cases j with
 |zero=>rw[Go.Sort.scanDown]
 | succ k =>
   rw[Go.Sort.scanDown,if_neg];intro hc;rw[Bool.and_eq_true] at hc;rcases h with h| h
   ·have:=of_decide_eq_true hc.1;omega
   ·rw[h] at hc;cases hc.2
end
theorem T2 (p:Nat->Bool)(d:Array Nat)(j:Nat):∀i:Nat,Go.Sort.scanUp p d j i<=max i (j+1):=λi=>by
 rw[Go.Sort.scanUp]
 split
 ·rename_i h
  rw[Bool.and_eq_true] at h;have h1:=of_decide_eq_true h.1;have:=T2 p d j (i+1);omega
 ·omega
 termination_by i=>j+1-i
theorem z7j {w : World}{g n cap : Nat}{d : Array Nat}(h : OX w g n cap d)(a b pv : Nat)(H9 : a <= pv)(qn : pv < b)(hb : b <= n)(hn : n <= 65536) :
  Mm Tryz.prog 231 [.slice (some ⟨g,0,none⟩) n cap,I (a:Int),I (b:Int),I (pv:Int)] w λu w'=>u= .tuple #[I ((Go.Sort.partition Nd d a b pv).1:Int),.bool (Go.Sort.partition Nd d a b pv).2.1]/\OX w' g n cap (Go.Sort.partition Nd d a b pv).2.2/\Kp (λk=>k=g) w w':=by
 refine It (e:=[(0,_),(1,_),(2,_),(3,_)]) Tryz.func231 rfl Tryz.ntmps231 rfl rfl (qN rfl (M6 rfl (LU rfl (run_seq ?_))))
 have ay:=Ext.Ma w
 refine Me [13,15] (λw'=>Ext w w') (by kernel_rfl) rfl (qL [12,13,14,15] 0 rfl (λ_ h=>My rfl) ay (qL [12,13,14,15] 1 rfl (λ_ h=>My rfl) ay (MM (i:=2) rfl (by kernel_rfl) rfl rfl (λ_=>My rfl) (ay) (MM (i:=3) rfl (by kernel_rfl) rfl rfl (λ_=>My rfl) (ay) (qL [6,7,12,13,14,15] 4 rfl (λ_ h=>My rfl) ay (qL [6,7,12,13,14,15] 5 rfl (λ_ h=>My rfl) ay (qL [7,12,13,14,15] 6 rfl (λ_ h=>MN Ml Mc rfl rfl (by omega)) ay (qL [10,11,12,13,14,15] 8 rfl (λ_ h=>My rfl) ay (qL [10,11,12,13,14,15] 9 rfl (λ_ h=>My rfl) ay (qL [11,12,13,14,15] 10 rfl (λ_ h=>MN Ml Mc rfl rfl (by omega)) ay (qL [12,13,14,15] 7 rfl (λ_ hS=>Mt N5 rfl rfl ((h.ext hS).get (i:=pv) (by omega))) ay (qL [12,13,14,15] 11 rfl (λ_ hS=>Mt N5 rfl rfl ((h.ext hS).get (i:=a) (by omega))) ay (qL [13,14,15] 12 rfl (λ_ h=>MN Ml Mc rfl rfl (by omega)) ay ?_)))))))))))))
 refine Pv [13] (qO 13 (Mx (i:=13) rfl rfl (Of Mc rfl rfl rfl (h.ext ay).sl ((h.ext ay).WB (by omega))) ?_))
 rintro w1a ⟨mK,mL⟩
 refine⟨trivial,?_⟩
 have fG:=(h.ext ay).set mK
 refine LS 14 rfl (MN Ml Mc rfl rfl (by omega)) trivial (qO 15 (Mx (i:=15) rfl rfl (Of Mc rfl rfl rfl fG.sl (fG.WB (by omega))) ?_))
 rintro w1 ⟨rR,rS⟩
 refine⟨trivial,?_⟩
 have hH:=fG.set rR
 have kE:Kp (λk=>k=g) w w1:=ay.kp.trans (mL.trans rS)
 refine qE (qN rfl (LM rfl (MK rfl rfl (LM rfl (NP rfl rfl (M6 rfl (LU rfl (Mn.qb (e:=[(0,_),(1,_),(8,_),(9,_),(10,_),(11,_)]) ?_))))))))
 refine run_seq (LK ?_)
 unfold Go.Sort.partition
 dsimp only
 replace hH:OX w1 g n cap (Go.Sort.swp d a pv):=hH
 generalize Go.Sort.swp d a pv=D at hH
 rw[show(a:Int)+1=((a+1:Nat):Int) by omega,show(b:Int)-1=((b-1:Nat):Int) by omega]
 refine Ot (λe' w'=>e'=[(0,.slice (some ⟨g,0,none⟩) n cap),(1,I (a:Int)),(10,I (((Go.Sort.scanUp (λx=>Nd x D[a]!) D (b-1) (a+1)):Nat):Int)),(11,I (((b-1):Nat):Int))]/\OX w' g n cap D/\Kp (λk=>k=g) w1 w') ?oa (λoa=>?B5)
 case oa =>
  rintro e' wA ⟨rfl,Ha,oa⟩;have yY:=Go.Sort.scanUp_ge (λx=>Nd x D[a]!) D (b-1) (a+1);have ln:=T2 (λx=>Nd x D[a]!) D (b-1) (a+1)
  generalize Go.Sort.scanUp (λx=>Nd x D[a]!) D (b-1) (a+1)=i1 at yY ln
  refine run_seq (LK (Ot (λe' w'=>e'=[(0,.slice (some ⟨g,0,none⟩) n cap),(1,I (a:Int)),(10,I ((i1:Nat):Int)),(11,I (((Go.Sort.scanDown (λx=>!Nd x D[a]!) D i1 (b-1)):Nat):Int))]/\OX w' g n cap D/\Kp (λk=>k=g) wA w') ?iO (λiO=>?B4)))
  case iO =>
   rintro e' wB ⟨rfl,ob,iO⟩;have Hb:=Go.Sort.scanDown_le (λx=>!Nd x D[a]!) D i1 (b-1)
   generalize Go.Sort.scanDown (λx=>!Nd x D[a]!) D i1 (b-1)=j1 at Hb
   refine run_seq (qN rfl (M4 rfl rfl (Nc rfl rfl (LO (LY rfl (λh4=>?_) (λh4=>?_))))))
   ·rw[if_pos (by omega)];refine run_seq ?_;have aa:=Ext.Ma wB;refine Me [13,15] (λw'=>Ext wB w') (by kernel_rfl) rfl (qL [12,13,14,15] 0 rfl (λ_ h=>My rfl) aa (qL [12,13,14,15] 1 rfl (λ_ h=>My rfl) aa (MM (i:=2) rfl (by kernel_rfl) rfl rfl (λ_=>My rfl) (aa) (MM (i:=3) rfl (by kernel_rfl) rfl rfl (λ_=>My rfl) (aa) (qL [6,7,12,13,14,15] 4 rfl (λ_ h=>My rfl) aa (qL [6,7,12,13,14,15] 5 rfl (λ_ h=>My rfl) aa (qL [7,12,13,14,15] 6 rfl (λ_ h=>MN Ml Mc rfl rfl (by omega)) aa (qL [10,11,12,13,14,15] 8 rfl (λ_ h=>My rfl) aa (qL [10,11,12,13,14,15] 9 rfl (λ_ h=>My rfl) aa (qL [11,12,13,14,15] 10 rfl (λ_ h=>MN Ml Mc rfl rfl (by omega)) aa (qL [12,13,14,15] 7 rfl (λ_ h=>Mt N5 rfl rfl ((ob.ext h).get (i:=a) (by omega))) aa (qL [12,13,14,15] 11 rfl (λ_ h=>Mt N5 rfl rfl ((ob.ext h).get (i:=j1) (by omega))) aa (qL [13,14,15] 12 rfl (λ_ h=>MN Ml Mc rfl rfl (by omega)) aa ?_)))))))))))));refine Pv [13] (qO 13 (Mx (i:=13) rfl rfl (Of Mc rfl rfl rfl (ob.ext aa).sl ((ob.ext aa).WB (by omega))) ?_));rintro w2a ⟨uN,uO⟩;refine⟨trivial,?_⟩;have mM:=(ob.ext aa).set uN;refine LS 14 rfl (MN Ml Mc rfl rfl (by omega)) trivial (qO 15 (Mx (i:=15) rfl rfl (Of Mc rfl rfl rfl mM.sl (mM.WB (by omega))) ?_));rintro w2 ⟨AX,AY⟩;refine⟨trivial,?_⟩;have AZ:=mM.set AX;have uP:Kp (λk=>k=g) wB w2:=aa.kp.trans (uO.trans AY);refine qE (qN rfl (LM rfl (M6 rfl (LU rfl (LP Tryz.func231 rfl ?_)))));exact⟨_,rfl,rfl,AZ,(kE.trans (oa.trans iO)).trans uP⟩
   ·rw [if_neg (by omega)]; refine py (run_seq ?_); have ag := Ext.Ma wB; refine Me [13,15] (λw' => Ext wB w') (by kernel_rfl) rfl (qL [12, 13, 14, 15] 0 rfl (λ_ h=>My rfl) ag (qL [12, 13, 14, 15] 1 rfl (λ_ h=>My rfl) ag (MM (i := 2) rfl (by kernel_rfl) rfl rfl (λ_ => My rfl) (ag) (MM (i := 3) rfl (by kernel_rfl) rfl rfl (λ_ => My rfl) (ag) (qL [6, 7, 12, 13, 14, 15] 4 rfl (λ_ h=>My rfl) ag (qL [6, 7, 12, 13, 14, 15] 5 rfl (λ_ h=>My rfl) ag (qL [7, 12, 13, 14, 15] 6 rfl (λ_ h=>MN Ml Mc rfl rfl (by omega)) ag (qL [10, 11, 12, 13, 14, 15] 8 rfl (λ_ h=>My rfl) ag (qL [10, 11, 12, 13, 14, 15] 9 rfl (λ_ h=>My rfl) ag (qL [11, 12, 13, 14, 15] 10 rfl (λ_ h=>MN Ml Mc rfl rfl (by omega)) ag (qL [12, 13, 14, 15] 7 rfl (λ_ h=>Mt N5 rfl rfl ((ob.ext h).get (i := j1) (by omega))) ag (qL [12, 13, 14, 15] 11 rfl (λ_ h=>Mt N5 rfl rfl ((ob.ext h).get (i := i1) (by omega))) ag (qL [13, 14, 15] 12 rfl (λ_ h=>MN Ml Mc rfl rfl (by omega)) ag ?_))))))))))))); refine Pv [13] (qO 13 (Mx (i := 13) rfl rfl (Of Mc rfl rfl rfl (ob.ext ag).sl ((ob.ext ag).WB (by omega))) ?_)); rintro w3a ⟨uQ, uR⟩; refine ⟨trivial, ?_⟩; have mN := (ob.ext ag).set uQ; refine LS 14 rfl (MN Ml Mc rfl rfl (by omega)) trivial (qO 15 (Mx (i := 15) rfl rfl (Of Mc rfl rfl rfl mN.sl (mN.WB (by omega))) ?_)); rintro w3 ⟨B0, B1⟩; refine ⟨trivial, ?_⟩; have B2 := mN.set B0; have uS : Kp (λk => k = g) wB w3 := ag.kp.trans (uR.trans B1); refine qE (qN rfl (LM rfl (MK rfl rfl (M6 rfl (qM rfl (LM rfl (NP rfl rfl (LU rfl (Mn.qb (e := [(0, _), (1, _), (10, _), (11, _)]) ?_))))))))); refine run_seq (LK ?_); rw [show (j1 : Int) - 1 = ((j1 - 1 : Nat) : Int) by omega]; refine Oe (α := Nat × Nat × Array Nat) ((i1 + 1, j1 - 1, Go.Sort.swp D i1 j1)) (λy => [(0, .slice (some ⟨g, 0, none⟩) n cap), (1, I (a : Int)), (10, I (y.1 : Int)), (11, I (y.2.1 : Int))]) (λy w' => OX w' g n cap y.2.2 /\ Kp (λk => k = g) w3 w' /\ Go.Sort.partLoop Nd a y.1 y.2.1 y.2.2 = Go.Sort.partLoop Nd a (i1 + 1) (j1 - 1) (Go.Sort.swp D i1 j1) /\ (a < y.1 /\ y.1 <= n /\ y.2.1 < n)) (λy => y.2.1 + 1 - y.1) ?hI ?hround
    case hI=>exact⟨B2,Kp.refl _ _,rfl,by dsimp only;omega⟩
    case hround =>
     rintro⟨i,j,d4⟩ w4 ⟨dR,ax,ct,bD⟩ ih;dsimp only at dR ax ct bD;rw[Go.Sort.partLoop_eq] at ct
     try dsimp only
     refine LK (run_seq (LK (Ot (λe' w'=>e'=[(0,.slice (some ⟨g,0,none⟩) n cap),(1,I (a:Int)),(10,I (((Go.Sort.scanUp (λx=>Nd x d4[a]!) d4 j (i)):Nat):Int)),(11,I ((j:Nat):Int))]/\OX w' g n cap d4/\Kp (λk=>k=g) w4 w') ?jl (λjl=>?rU))))
     case jl=>
      rintro e' wC ⟨rfl,B3,jl⟩;have dv:=Go.Sort.scanUp_ge (λx=>Nd x d4[a]!) d4 j i;have m8:=T2 (λx=>Nd x d4[a]!) d4 j i
      generalize Go.Sort.scanUp (λx=>Nd x d4[a]!) d4 j i=i2 at ct dv m8
      refine run_seq (LK (Ot (λe' w'=>e'=[(0,.slice (some ⟨g,0,none⟩) n cap),(1,I (a:Int)),(10,I ((i2:Nat):Int)),(11,I (((Go.Sort.scanDown (λx=>!Nd x d4[a]!) d4 i2 (j)):Nat):Int))]/\OX w' g n cap d4/\Kp (λk=>k=g) wC w') ?fh (λfh=>?rT)))
      case fh=>
       rintro e' wD ⟨rfl,iP,fh⟩;have kD:=Go.Sort.scanDown_le (λx=>!Nd x d4[a]!) d4 i2 j
       generalize Go.Sort.scanDown (λx=>!Nd x d4[a]!) d4 i2 j=j2 at ct kD
       refine run_seq (qN rfl (M4 rfl rfl (Nc rfl rfl (LO (LY rfl (λh5=>?_) (λh5=>?_))))))
       ·rw[if_pos (by omega)] at ct;refine LW rfl (run_seq ?_);rw[<-ct];have oc:=((kE.trans (oa.trans iO)).trans uS).trans (ax.trans (jl.trans fh));have bM:=Ext.Ma wD;refine Me [13,15] (λw'=>Ext wD w') (by kernel_rfl) rfl (qL [12,13,14,15] 0 rfl (λ_ h=>My rfl) bM (qL [12,13,14,15] 1 rfl (λ_ h=>My rfl) bM (MM (i:=2) rfl (by kernel_rfl) rfl rfl (λ_=>My rfl) (bM) (MM (i:=3) rfl (by kernel_rfl) rfl rfl (λ_=>My rfl) (bM) (qL [6,7,12,13,14,15] 4 rfl (λ_ h=>My rfl) bM (qL [6,7,12,13,14,15] 5 rfl (λ_ h=>My rfl) bM (qL [7,12,13,14,15] 6 rfl (λ_ h=>MN Ml Mc rfl rfl (by omega)) bM (qL [10,11,12,13,14,15] 8 rfl (λ_ h=>My rfl) bM (qL [10,11,12,13,14,15] 9 rfl (λ_ h=>My rfl) bM (qL [11,12,13,14,15] 10 rfl (λ_ h=>MN Ml Mc rfl rfl (by omega)) bM (qL [12,13,14,15] 7 rfl (λ_ h=>Mt N5 rfl rfl ((iP.ext h).get (i:=a) (by omega))) bM (qL [12,13,14,15] 11 rfl (λ_ h=>Mt N5 rfl rfl ((iP.ext h).get (i:=j2) (by omega))) bM (qL [13,14,15] 12 rfl (λ_ h=>MN Ml Mc rfl rfl (by omega)) bM ?_)))))))))))));refine Pv [13] (qO 13 (Mx (i:=13) rfl rfl (Of Mc rfl rfl rfl (iP.ext bM).sl ((iP.ext bM).WB (by omega))) ?_));rintro w8a ⟨fH,fI⟩;refine⟨trivial,?_⟩;have cD:=(iP.ext bM).set fH;refine LS 14 rfl (MN Ml Mc rfl rfl (by omega)) trivial (qO 15 (Mx (i:=15) rfl rfl (Of Mc rfl rfl rfl cD.sl (cD.WB (by omega))) ?_));rintro w8 ⟨jH,jI⟩;refine⟨trivial,?_⟩;have jJ:=cD.set jH;have eU:Kp (λk=>k=g) wD w8:=bM.kp.trans (fI.trans jI);refine qE (qN rfl (LM rfl (M6 rfl (LU rfl (LP Tryz.func231 rfl ?_)))));exact⟨_,rfl,rfl,jJ,oc.trans eU⟩
       ·rw[if_neg (by omega)] at ct;refine py (run_seq ?_);have bM:=Ext.Ma wD;refine Me [13,15] (λw'=>Ext wD w') (by kernel_rfl) rfl (qL [12,13,14,15] 0 rfl (λ_ h=>My rfl) bM (qL [12,13,14,15] 1 rfl (λ_ h=>My rfl) bM (MM (i:=2) rfl (by kernel_rfl) rfl rfl (λ_=>My rfl) (bM) (MM (i:=3) rfl (by kernel_rfl) rfl rfl (λ_=>My rfl) (bM) (qL [6,7,12,13,14,15] 4 rfl (λ_ h=>My rfl) bM (qL [6,7,12,13,14,15] 5 rfl (λ_ h=>My rfl) bM (qL [7,12,13,14,15] 6 rfl (λ_ h=>MN Ml Mc rfl rfl (by omega)) bM (qL [10,11,12,13,14,15] 8 rfl (λ_ h=>My rfl) bM (qL [10,11,12,13,14,15] 9 rfl (λ_ h=>My rfl) bM (qL [11,12,13,14,15] 10 rfl (λ_ h=>MN Ml Mc rfl rfl (by omega)) bM (qL [12,13,14,15] 7 rfl (λ_ h=>Mt N5 rfl rfl ((iP.ext h).get (i:=j2) (by omega))) bM (qL [12,13,14,15] 11 rfl (λ_ h=>Mt N5 rfl rfl ((iP.ext h).get (i:=i2) (by omega))) bM (qL [13,14,15] 12 rfl (λ_ h=>MN Ml Mc rfl rfl (by omega)) bM ?_)))))))))))));refine Pv [13] (qO 13 (Mx (i:=13) rfl rfl (Of Mc rfl rfl rfl (iP.ext bM).sl ((iP.ext bM).WB (by omega))) ?_));rintro w8a ⟨fH,fI⟩;refine⟨trivial,?_⟩;have cD:=(iP.ext bM).set fH;refine LS 14 rfl (MN Ml Mc rfl rfl (by omega)) trivial (qO 15 (Mx (i:=15) rfl rfl (Of Mc rfl rfl rfl cD.sl (cD.WB (by omega))) ?_));rintro w8 ⟨jH,jI⟩;refine⟨trivial,?_⟩;have jJ:=cD.set jH;have eU:Kp (λk=>k=g) wD w8:=bM.kp.trans (fI.trans jI);refine qE (qN rfl (LM rfl (MK rfl rfl (LU rfl (LQ rfl (LM rfl (NP rfl rfl (LU rfl (LL ?_)))))))));rw[show(j2:Int)-1=((j2-1:Nat):Int) by omega];exact(ih (i2+1,j2-1,Go.Sort.swp d4 i2 j2) _ ⟨jJ,(ax.trans (jl.trans fh)).trans eU,ct,by dsimp only;omega⟩ (by dsimp only;omega)).qb
      case rT=>
       refine Oe (α:=Nat) (j) (λr=>[(0,.slice (some ⟨g,0,none⟩) n cap),(1,I (a:Int)),(10,I ((i2:Nat):Int)),(11,I ((r:Nat):Int))]) (λr w'=>OX w' g n cap d4/\Kp (λk=>k=g) wC w'/\Go.Sort.scanDown (λx=>!Nd x d4[a]!) d4 i2 r=Go.Sort.scanDown (λx=>!Nd x d4[a]!) d4 i2 (j)/\r<n) (λr=>r) ?hI ?hround
       case hI=>exact⟨B3,Kp.refl _ _,rfl,by omega⟩
       case hround=>
        rintro r w5 ⟨aS,aj,bU,bZ⟩ ih
        try dsimp only
        have hg:=Ext.Ma w5;rcases Nat.lt_or_ge r (i2) with hj|hj
        ·refine run_seq (run_seq (NF (λw'=>Ext w5 w') rfl (M9 0 rfl rfl (hg) (M9 1 rfl rfl (hg) (LS 2 rfl (V7 rfl rfl) hg (QG (M9 3 rfl rfl (hg) (qJ 4 rfl (hg) (qJ 5 rfl (hg) (qJ 6 rfl (hg) (qJ 7 rfl (hg) (qJ 8 rfl (hg) (qJ 9 rfl (hg) ?_)))))))))))));refine qJ 10 rfl (hg) (qJ 11 rfl (hg) (qJ 12 rfl (hg) (qJ 13 rfl (hg) (LS 14 rfl (R8 rfl rfl) hg (qE (An rfl (LW rfl ?_)))))));rw[Ov _ _ _ _ (.inl hj)] at bU;subst bU;exact(fh _ _ ⟨rfl,aS.ext hg,aj.trans hg.kp⟩).qb
        ·refine run_seq (run_seq (NF (λw'=>Ext w5 w') rfl (M9 0 rfl rfl (hg) (M9 1 rfl rfl (hg) (LS 2 rfl (V7 rfl rfl) hg (Qq (M9 3 rfl rfl (hg) (M9 4 rfl rfl (hg) (M9 5 rfl rfl (hg) (LS 6 rfl (MN Ml Mc rfl rfl (by omega)) hg (M9 8 rfl rfl (hg) (M9 9 rfl rfl (hg) (LS 10 rfl (MN Ml Mc rfl rfl (by omega)) hg ?_)))))))))))));refine qT 7 rfl (λ_ h=>Mt N5 rfl rfl ((aS.ext h).get (i:=r) (by omega))) hg (qT 11 rfl (λ_ h=>Mt N5 rfl rfl ((aS.ext h).get (i:=a) (by omega))) hg (Pw 12 rfl Sf rfl (Ou _ _ _) ?_));rintro _ w6 ⟨rfl,rfl⟩;refine⟨hg,?_⟩;refine LS 13 rfl ((by first|exact ML rfl|exact Oh rfl)) hg ?_;refine LS 14 rfl (Rx rfl rfl) hg (qE (MR rfl (λh1=>?_) (λh1=>?_)))
         ·rw[SU _ _ _ _ hj (by simpa[Nd] using h1) (by omega)] at bU;refine py (LK (LQ rfl (LM rfl (NP rfl rfl (LU rfl (LL ?_))))));rw[show(r:Int)-1=((r-1:Nat):Int) by omega];exact(ih (r-1) _ ⟨aS.ext hg,aj.trans hg.kp,bU,by omega⟩ (by omega)).qb
         ·rw[Ov _ _ _ _ (.inr (by simpa[Nd] using h1))] at bU;refine LW rfl ?_;subst bU;exact(fh _ _ ⟨rfl,aS.ext hg,aj.trans hg.kp⟩).qb
     case rU=>
      refine Oe (α:=Nat) (i) (λr=>[(0,.slice (some ⟨g,0,none⟩) n cap),(1,I (a:Int)),(10,I ((r:Nat):Int)),(11,I ((j:Nat):Int))]) (λr w'=>OX w' g n cap d4/\Kp (λk=>k=g) w4 w'/\Go.Sort.scanUp (λx=>Nd x d4[a]!) d4 j r=Go.Sort.scanUp (λx=>Nd x d4[a]!) d4 j (i)/\i<=r/\r<=n+1) (λr=>j+1-r) ?hI ?hround
      case hI=>exact⟨dR,Kp.refl _ _,rfl,Nat.le_refl _,by omega⟩
      case hround=>
       rintro r w5 ⟨aS,aj,bU,bZ⟩ ih
       try dsimp only
       have hg:=Ext.Ma w5;rcases Nat.lt_or_ge (j) r with hj|hj
       ·refine run_seq (run_seq (NF (λw'=>Ext w5 w') rfl (M9 0 rfl rfl (hg) (M9 1 rfl rfl (hg) (LS 2 rfl (V7 rfl rfl) hg (QG (M9 3 rfl rfl (hg) (qJ 4 rfl (hg) (qJ 5 rfl (hg) (qJ 6 rfl (hg) (qJ 7 rfl (hg) (qJ 8 rfl (hg) (qJ 9 rfl (hg) ?_)))))))))))));refine qJ 10 rfl (hg) (qJ 11 rfl (hg) (qJ 12 rfl (hg) (LS 13 rfl (R8 rfl rfl) hg (qE (An rfl (LW rfl ?_))))));rw[Po _ _ _ _ (.inl hj)] at bU;subst bU;exact(jl _ _ ⟨rfl,aS.ext hg,aj.trans hg.kp⟩).qb
       ·refine run_seq (run_seq (NF (λw'=>Ext w5 w') rfl (M9 0 rfl rfl (hg) (M9 1 rfl rfl (hg) (LS 2 rfl (V7 rfl rfl) hg (Qq (M9 3 rfl rfl (hg) (M9 4 rfl rfl (hg) (M9 5 rfl rfl (hg) (LS 6 rfl (MN Ml Mc rfl rfl (by omega)) hg (M9 8 rfl rfl (hg) (M9 9 rfl rfl (hg) (LS 10 rfl (MN Ml Mc rfl rfl (by omega)) hg ?_)))))))))))));refine qT 7 rfl (λ_ h=>Mt N5 rfl rfl ((aS.ext h).get (i:=r) (by omega))) hg (qT 11 rfl (λ_ h=>Mt N5 rfl rfl ((aS.ext h).get (i:=a) (by omega))) hg (Pw 12 rfl Sf rfl (Ou _ _ _) ?_));rintro _ w6 ⟨rfl,rfl⟩;refine⟨hg,?_⟩;refine LS 13 rfl (Rx rfl rfl) hg (qE (MR rfl (λh1=>?_) (λh1=>?_)))
        ·rw[Vl _ _ _ _ hj (by simpa[Nd] using h1)] at bU;refine py (LK (LQ rfl (LM rfl (MK rfl rfl (LU rfl (LL ?_))))));exact(ih (r+1) _ ⟨aS.ext hg,aj.trans hg.kp,bU,by omega,by omega⟩ (by omega)).qb
        ·rw[Po _ _ _ _ (.inr (by simpa[Nd] using h1))] at bU;refine LW rfl ?_;subst bU;exact(jl _ _ ⟨rfl,aS.ext hg,aj.trans hg.kp⟩).qb
  case B4=>
   refine Oe (α:=Nat) (b-1) (λr=>[(0,.slice (some ⟨g,0,none⟩) n cap),(1,I (a:Int)),(10,I ((i1:Nat):Int)),(11,I ((r:Nat):Int))]) (λr w'=>OX w' g n cap D/\Kp (λk=>k=g) wA w'/\Go.Sort.scanDown (λx=>!Nd x D[a]!) D i1 r=Go.Sort.scanDown (λx=>!Nd x D[a]!) D i1 (b-1)/\r<n) (λr=>r) ?hI ?hround
   case hI=>exact⟨Ha,Kp.refl _ _,rfl,by omega⟩
   case hround=>
    rintro r w5 ⟨aS,aj,bU,bZ⟩ ih
    try dsimp only
    have hg:=Ext.Ma w5;rcases Nat.lt_or_ge r (i1) with hj|hj
    ·refine run_seq (run_seq (NF (λw'=>Ext w5 w') rfl (M9 0 rfl rfl (hg) (M9 1 rfl rfl (hg) (LS 2 rfl (V7 rfl rfl) hg (QG (M9 3 rfl rfl (hg) (qJ 4 rfl (hg) (qJ 5 rfl (hg) (qJ 6 rfl (hg) (qJ 7 rfl (hg) (qJ 8 rfl (hg) (qJ 9 rfl (hg) ?_)))))))))))));refine qJ 10 rfl (hg) (qJ 11 rfl (hg) (qJ 12 rfl (hg) (qJ 13 rfl (hg) (LS 14 rfl (R8 rfl rfl) hg (qE (An rfl (LW rfl ?_)))))));rw[Ov _ _ _ _ (.inl hj)] at bU;subst bU;exact(iO _ _ ⟨rfl,aS.ext hg,aj.trans hg.kp⟩).qb
    ·refine run_seq (run_seq (NF (λw'=>Ext w5 w') rfl (M9 0 rfl rfl (hg) (M9 1 rfl rfl (hg) (LS 2 rfl (V7 rfl rfl) hg (Qq (M9 3 rfl rfl (hg) (M9 4 rfl rfl (hg) (M9 5 rfl rfl (hg) (LS 6 rfl (MN Ml Mc rfl rfl (by omega)) hg (M9 8 rfl rfl (hg) (M9 9 rfl rfl (hg) (LS 10 rfl (MN Ml Mc rfl rfl (by omega)) hg ?_)))))))))))));refine qT 7 rfl (λ_ h=>Mt N5 rfl rfl ((aS.ext h).get (i:=r) (by omega))) hg (qT 11 rfl (λ_ h=>Mt N5 rfl rfl ((aS.ext h).get (i:=a) (by omega))) hg (Pw 12 rfl Sf rfl (Ou _ _ _) ?_));rintro _ w6 ⟨rfl,rfl⟩;refine⟨hg,?_⟩;refine LS 13 rfl ((by first|exact ML rfl|exact Oh rfl)) hg ?_;refine LS 14 rfl (Rx rfl rfl) hg (qE (MR rfl (λh1=>?_) (λh1=>?_)))
     ·rw[SU _ _ _ _ hj (by simpa[Nd] using h1) (by omega)] at bU;refine py (LK (LQ rfl (LM rfl (NP rfl rfl (LU rfl (LL ?_))))));rw[show(r:Int)-1=((r-1:Nat):Int) by omega];exact(ih (r-1) _ ⟨aS.ext hg,aj.trans hg.kp,bU,by omega⟩ (by omega)).qb
     ·rw[Ov _ _ _ _ (.inr (by simpa[Nd] using h1))] at bU;refine LW rfl ?_;subst bU;exact(iO _ _ ⟨rfl,aS.ext hg,aj.trans hg.kp⟩).qb
 case B5=>
  refine Oe (α:=Nat) (a+1) (λr=>[(0,.slice (some ⟨g,0,none⟩) n cap),(1,I (a:Int)),(10,I ((r:Nat):Int)),(11,I (((b-1):Nat):Int))]) (λr w'=>OX w' g n cap D/\Kp (λk=>k=g) w1 w'/\Go.Sort.scanUp (λx=>Nd x D[a]!) D (b-1) r=Go.Sort.scanUp (λx=>Nd x D[a]!) D (b-1) (a+1)/\a+1<=r/\r<=n+1) (λr=>(b-1)+1-r) ?hI ?hround
  case hI=>exact⟨hH,Kp.refl _ _,rfl,Nat.le_refl _,by omega⟩
  case hround=>
   rintro r w5 ⟨aS,aj,bU,bZ⟩ ih
   try dsimp only
   have hg:=Ext.Ma w5;rcases Nat.lt_or_ge ((b-1)) r with hj|hj
   ·refine run_seq (run_seq (NF (λw'=>Ext w5 w') rfl (M9 0 rfl rfl (hg) (M9 1 rfl rfl (hg) (LS 2 rfl (V7 rfl rfl) hg (QG (M9 3 rfl rfl (hg) (qJ 4 rfl (hg) (qJ 5 rfl (hg) (qJ 6 rfl (hg) (qJ 7 rfl (hg) (qJ 8 rfl (hg) (qJ 9 rfl (hg) ?_)))))))))))));refine qJ 10 rfl (hg) (qJ 11 rfl (hg) (qJ 12 rfl (hg) (LS 13 rfl (R8 rfl rfl) hg (qE (An rfl (LW rfl ?_))))));rw[Po _ _ _ _ (.inl hj)] at bU;subst bU;exact(oa _ _ ⟨rfl,aS.ext hg,aj.trans hg.kp⟩).qb
   ·refine run_seq (run_seq (NF (λw'=>Ext w5 w') rfl (M9 0 rfl rfl (hg) (M9 1 rfl rfl (hg) (LS 2 rfl (V7 rfl rfl) hg (Qq (M9 3 rfl rfl (hg) (M9 4 rfl rfl (hg) (M9 5 rfl rfl (hg) (LS 6 rfl (MN Ml Mc rfl rfl (by omega)) hg (M9 8 rfl rfl (hg) (M9 9 rfl rfl (hg) (LS 10 rfl (MN Ml Mc rfl rfl (by omega)) hg ?_)))))))))))));refine qT 7 rfl (λ_ h=>Mt N5 rfl rfl ((aS.ext h).get (i:=r) (by omega))) hg (qT 11 rfl (λ_ h=>Mt N5 rfl rfl ((aS.ext h).get (i:=a) (by omega))) hg (Pw 12 rfl Sf rfl (Ou _ _ _) ?_));rintro _ w6 ⟨rfl,rfl⟩;refine⟨hg,?_⟩;refine LS 13 rfl (Rx rfl rfl) hg (qE (MR rfl (λh1=>?_) (λh1=>?_)))
    ·rw[Vl _ _ _ _ hj (by simpa[Nd] using h1)] at bU;refine py (LK (LQ rfl (LM rfl (MK rfl rfl (LU rfl (LL ?_))))));exact(ih (r+1) _ ⟨aS.ext hg,aj.trans hg.kp,bU,by omega,by omega⟩ (by omega)).qb
    ·rw[Po _ _ _ _ (.inr (by simpa[Nd] using h1))] at bU;refine LW rfl ?_;subst bU;exact(oa _ _ ⟨rfl,aS.ext hg,aj.trans hg.kp⟩).qb
end Go.Proofs.YtpldpcjdjcgicaaGreatDoor
