/- Merged by program. -/
import Derived.WalkKit
import Derived.WalkSpells
import Derived.WalkLawsBesides
import Derived.OrdersHeld
import Derived.RangeFuncRecord
import Derived.OrdersIn
import Derived.TacticsIn
import Derived.Lib.Strings
import Derived.Lib.SmallJoins
import Derived.Laws.Externs
import Derived.MapKept
set_option linter.all false
set_option maxRecDepth 1000000
set_option maxHeartbeats 16000000
namespace Go.Proofs.YtbihggbffaigjaaGreatDoor
open Go Go.RowKit
theorem ω{p:Prop}(h:p:=by omega):p:=h
theorem ψ{p:Prop}(h:p:=by decide):p:=h
theorem ξ{p:Prop}(h:p:=by simp):p:=h
abbrev JIq(n:Int):Prop:= -9223372036854775808<=n/\n<=9223372036854775807
def O.{u}{a:Sort u}{b:a}:b=b:=rfl
abbrev Env:=List (Nat×Value)
def fnd:Env->Nat->Option Value
 |[],_=>none
 | (j, v) :: r, i => match Nat.beq i j with
   |true=>some v
   |false=>fnd r i
def look (e:Env):Operand->Option Value
 | .tmp t=>fnd e t
 | .const v=>some v
 | .global g=>some (.pointer (some ⟨g,0,none⟩))
 | .func f=>some (.func (.func f) #[] #[])
inductive Dfr where
 |mk (D:Nat)
 |call (f:FuncId) (cap args:List Value)
def Dfr.d:Dfr->Deferred
 | .mk D=>{target:= .collected D,args:=#[]}
 | .call f cap args=>{target:= .fn (.func f) cap.toArray,args:=args.toArray}
def marks (ms:List Dfr):List Deferred:=ms.map Dfr.d
structure WB (n:Nat)(ms:List Dfr)(e:Env)(a:Act):Prop where
 size:a.tmps.size=n
 defers:a.defers=marks ms
 get:∀i v,fnd e i=some v->a.tmps.getD i undef=v
def WB.look {n:Nat}{ms:List Dfr}{e:Env}{a:Act}(h:WB n ms e a){x:Operand}{v:Value}(hx:look e x=some v):a.eval x=v:=by
 cases x with
 |tmp t=>exact h.get t v hx
 |const u=>exact Option.some.inj hx
 |global g=>exact Option.some.inj hx
 |func f=>exact Option.some.inj hx
theorem WB.put {n:Nat}{ms:List Dfr}{e:Env}{a:Act}(h:WB n ms e a){d:Nat}(hd:Nat.blt d n=true)(v:Value):WB n ms ((d,v)::e) (a.put (some d) v):=by
 have hd':d<n:=by simpa using hd
 refine⟨by simp[Act.put,h.size],by simpa[Act.put] using h.defers,λi u hi=>?_⟩
 simp only[Act.put]
 simp only[fnd] at hi
 by_cases hij:i=d
 ·subst hij;simp at hi;subst hi;simp[Array.getD,h.size,hd']
 ·have hb:Nat.beq i d=false:=by
   cases hq:Nat.beq i d with
   |false=>rfl
   |true=>exact absurd (Nat.eq_of_beq_eq_true hq) hij
  rw[hb] at hi;have hg:=h.get i u hi;rw[<-hg];simp only[Array.getD,Array.size_setIfInBounds];split
  ·rename_i hlt
   simp only[Array.getInternal_eq_getElem];rw[Array.getElem_setIfInBounds_ne];exact λhh=>hij hh.symm
  ·rfl
def WB.zc8 {n:Nat}{ms:List Dfr}{e:Env}{a:Act}(h:WB n ms e a)(v:Value):WB n ms e (a.put none v):=h
def Sub (e e':Env):Prop:=∀i v,fnd e i=some v->fnd e' i=some v
theorem Sub.nil {e:Env}:Sub [] e:=λ_ _ h=>by simp[fnd] at h
theorem Sub.cons {e e':Env}{i:Nat}{v:Value}(h:fnd e' i=some v)(hr:Sub e e'):Sub ((i,v)::e) e':=λj u hj=>by
 simp only[fnd] at hj
 split at hj
 ·rename_i hb
  have:=Nat.eq_of_beq_eq_true hb;subst this;simp at hj;subst hj;exact h
 ·exact hr j u hj
def WB.sub {n:Nat}{ms:List Dfr}{e e':Env}{a:Act}(h:WB n ms e' a)(hs:Sub e e'):WB n ms e a:=⟨h.size,h.defers,λi v hi=>h.get i v (hs i v hi)⟩
def WT (S:Value->World->Prop):Ending->World->Prop:=λx w'=>∃v,x= .returned v/\S v w'
def Zs (P:Program)(f:FuncId)(rd:Option Nat)(dk:Bool)(R:Ending->World->Prop)(m:Machine)(cs:List Frame):Prop:=
 match rd with
 |none=>∃x w' fr,R x w'/\Comes P m (lone fr cs w') x/\fr.fn=f/\(match dk with|false=>fr.leaving P w' x|true=>fr.kind= .deferred/\fr.going P w' x)
 |some _=>∀c cs',cs=c::cs'->∃x w',R x w'/\Comes P m (match x with| .returned v=>lone (c.finish v) cs' w'| .panicked ch=>lone (c.raise ch) cs' w'| .outgrown=>lone c cs' w') x
def Zs.of_steps {P:Program}{f:FuncId}{rd:Option Nat}{dk:Bool}{R:Ending->World->Prop}{m m':Machine}{cs:List Frame}(hs:Steps P m m')(h:Zs P f rd dk R m' cs):Zs P f rd dk R m cs:=by
 cases rd with
 | none =>
   obtain⟨x,w',fr,hR,hc,hf,hl⟩:=h
   exact⟨x,w',fr,hR,Comes.of_steps hs hc,hf,hl⟩
 | some l =>
   intro c cs' hcs;obtain⟨x,w',hR,hc⟩:=h c cs' hcs;exact⟨x,w',hR,Comes.of_steps hs hc⟩
def zj8:Bool->CallKind
 |false=> .normal
 |true=> .deferred
def VW (P:Program)(f:FuncId)(rd:Option Nat)(dk:Bool)(R:Ending->World->Prop)(k:List Item)(a:Act)(w:World):Prop:=
 ∀(b:Frame),b.fn=f->b.kind=zj8 dk->b.roundOf=rd->∀cs,Zs P f rd dk R (lone (b.atR a k) cs w) cs
structure Cx where
 P:Program
 f:FuncId
 R:Value->World->Prop
 n:Nat
 rd:Option Nat:=none
 ms:List Dfr:=[]
 dk:Bool:=false
def P8 (C:Cx)(k:List Item)(e:Env)(w:World):Prop:=∀a,WB C.n C.ms e a->VW C.P C.f C.rd C.dk (WT C.R) k a w
def P8.sub {C:Cx}{k:List Item}{e e':Env}{w:World}(h:P8 C k e w)(hs:Sub e e'):P8 C k e' w:=λa ha=>h a (ha.sub hs)
theorem VW.step {P:Program}{f:FuncId}{rd:Option Nat}{dk:Bool}{R:Ending->World->Prop}{k k':List Item}{a a':Act}{w w':World}
  (hs:∀(b:Frame) cs,step P (lone (b.atR a k) cs w)= .next (lone (b.atR a' k') cs w')) (h:VW P f rd dk R k' a' w'):VW P f rd dk R k a w:=λb hb hk hr cs=>
 (h b hb hk hr cs).of_steps (.one (hs b cs))
def WF (rd:Option Nat):Fence:={fn:=λ_=>True,depth:=none,alive:=false,round:=rd}
def z7v (rd:Option Nat)(n:Nat):(WF rd).room n:=λ_ h=>by simp[WF] at h
section
variable {C:Cx}{k k':List Item}{e:Env}{w:World}
def An {x y:Code}(h:P8 C (.code x:: .code y::k) e w):P8 C (.code (.seq x y)::k) e w:=λa ha=>VW.step (λ_ _=>stepR_seq) (h a ha)
def Ot (h:P8 C k e w):P8 C (.code .skip::k) e w:=λa ha=>VW.step (λ_ _=>stepR_skip) (h a ha)
def z1Z {l:Nat}(h:P8 C k e w):P8 C (.code (.label l)::k) e w:=λa ha=>VW.step (λ_ _=>stepR_label) (h a ha)
def Ou {id:Nat}{c:Code}(h:P8 C (.code c:: .inBlock id::k) e w):P8 C (.code (.block id c)::k) e w:=λa ha=>VW.step (λ_ _=>stepR_block) (h a ha)
def Om {id:Nat}(h:P8 C k e w):P8 C (.inBlock id::k) e w:=λa ha=>VW.step (λ_ _=>stepR_inBlock) (h a ha)
def OD {id:Nat}(hk:exitTo id k=some k')(h:P8 C k' e w):P8 C (.code (.exit id)::k) e w:=λa ha=>VW.step (λ_ _=>stepR_exit hk) (h a ha)
def z0h {c:Code}(h:P8 C (.code c:: .inLoop c::k) e w):P8 C (.inLoop c::k) e w:=λa ha=>VW.step (λ_ _=>stepR_inLoop) (h a ha)
theorem Q0 {c:Operand}{x y:Code}{t:Bool}(hc:look e c=some (.bool t))(ht:t=true->P8 C (.code x::k) e w)(hf:t=false->P8 C (.code y::k) e w):P8 C (.code (.cond c x y)::k) e w:=λa ha=>by
 cases t with
 |true=>exact VW.step (k':= .code x::k) (λ_ _=>by simpa using stepR_cond (ha.look hc)) (ht O a ha)
 |false=>exact VW.step (k':= .code y::k) (λ_ _=>by simpa using stepR_cond (ha.look hc)) (hf O a ha)
def OH {c:Operand}{x y:Code}{p:Prop}[hp:Decidable p](hc:look e c=some (.bool (decide p)))(ht:p->P8 C (.code x::k) e w)(hf:¬p->P8 C (.code y::k) e w):P8 C (.code (.cond c x y)::k) e w:=
 Q0 hc (λh=>ht (of_decide_eq_true h)) (λh=>hf (of_decide_eq_false h))
def OI {c:Operand}{x y:Code}(hc:look e c=some (.bool true))(h:P8 C (.code x::k) e w):P8 C (.code (.cond c x y)::k) e w:=Q0 hc (λ_=>h) (λh=>by cases h)
def Ox {c:Operand}{x y:Code}(hc:look e c=some (.bool false))(h:P8 C (.code y::k) e w):P8 C (.code (.cond c x y)::k) e w:=Q0 hc (λh=>by cases h) (λ_=>h)
def zaG {α:Type}{c:Code}(x0:α)(E:α->Env)(I:α->World->Prop)(μ:α->Nat)(hE:Sub (E x0) e)(hI:I x0 w)
  (round:∀x w,I x w->(∀y w',I y w'->μ y<μ x->P8 C (.inLoop c::k) (E y) w')->P8 C (.code c:: .inLoop c::k) (E x) w):P8 C (.code (.loop c)::k) e w:=by
 have key:∀n x w,μ x=n->I x w->P8 C (.code c:: .inLoop c::k) (E x) w:=by
  intro n
  induction n using Nat.strongRecOn with
  | _ n ih =>
    intro x w hn hx;exact round x w hx λy w' hy hlt=>z0h (ih (μ y) (hn▸hlt) y w' O hy)
 exact λa ha=>VW.step (λ_ _=>stepR_loop) (key _ x0 w O hI a (ha.sub hE))
end
def QK (C:Cx)(k:List Item):Exit->Act->World->Prop
 | .normal,a,w=>VW C.P C.f C.rd C.dk (WT C.R) k a w
 |_,_,_=>False
theorem QK.no {C:Cx}{k:List Item}:¬LetsOut (QK C k):=λ⟨_,_,h⟩=>h
def Y8 {C:Cx}{c:Code}{k:List Item}{a:Act}{w:World}{n:Nat}(h:c.wpIn (WF C.rd) n C.P (QK C k) a w):VW C.P C.f C.rd C.dk (WT C.R) (.code c::k) a w:=by
 intro b hb hk hr cs
 obtain⟨x,a',w',q,harr⟩:=h b k cs hr trivial (z7v _ _)
 cases x with
 |normal=>exact(q b hb hk hr cs).of_steps (StepsIn.steps harr)
 |outgrown=>exact q.elim
 |exit id=>exact q.elim
 |goto l=>exact q.elim
 |ret=>exact q.elim
 |panic ch=>exact q.elim
def resOf (e:Env):List ResultVar->Option (List Value)
 |[]=>some []
 | .tmp t :: r => match fnd e t, resOf e r with
   |some v,some vs=>some (v::vs)
   |_,_=>none
 |_=>none
def PS:List Value->Value
 |[v]=>v
 |vs=> .tuple vs.toArray
def resM (a:Act):ResultVar->Sem Value
 | .tmp t=>pure (a.tmps.getD t undef)
 | .cell x t=>do loadVar t (<-asAddr (a.tmps.getD x undef))
def zaO {n:Nat}{ms:List Dfr}{e:Env}{a:Act}(ha:WB n ms e a)(P:Program)(w:World):∀(rs:List ResultVar) (vs:List Value),resOf e rs=some vs->
  Sem.run P (rs.mapM (resM a)) w= .ok vs w:=by
 intro rs
 induction rs with
 |nil=>intro vs h;simp[resOf] at h;subst h;simp[go_sem]
 | cons r rs ih =>
   intro vs h
   cases r with
   |cell x t=>simp[resOf] at h
   | tmp t =>
     simp only[resOf] at h;split at h
     ·rename_i v vs' hv hvs
      simp at h;subst h;have h1:=ih vs' hvs;have hg:resM a (.tmp t)=pure v:=by simp only[resM];rw[ha.get t v hv]
      rw[List.mapM_cons,hg];simp only[pure_bind,Sem.run_bind,h1,Result.andThen,Sem.run_pure]
     ·cases h
def SS {n:Nat}{ms:List Dfr}{e:Env}{a:Act}(ha:WB n ms e a)(P:Program)(w:World)(fn:Func)(vs:List Value)(h:resOf e fn.results.toList=some vs):
  (results fn a.tmps).run P w= .ok (PS vs) w:=by
 have hm:=zaO ha P w _ _ h
 have he:results fn a.tmps=(do
   let us<-fn.results.mapM (resM a)
   pure (if h:us.size=1 then us[0] else .tuple us)):=rfl
 rw[he,<-Array.toArray_toList (xs:=fn.results),List.mapM_toArray]
 simp only[Sem.run_bind,map_eq_pure_bind,hm,Result.andThen,Sem.run_pure]
 cases vs with
 |nil=>simp[PS]
 | cons v r => cases r with
   |nil=>simp[PS]
   |cons u r=>simp[PS]
def RG (ms:List Dfr)(w:World):Prop:=∀d∈ms,∃D,d= .mk D/\w.heap[D]? =some (.deferred (some []))
def So:List Dfr->World->World
 |[],w=>w
 | .mk D::ms,w=>So ms (w.putObj D (.deferred none))
 | .call .. ::ms,w=>So ms w
def VB {P:Program}{fn:Func}{tmps:Array Value}{R:Ending->World->Prop}{v:Value}:∀(ms:List Dfr) (w:World),ms.Nodup->RG ms w->
  (results fn tmps).run P (So ms w)= .ok v (So ms w)->R (.returned v) (So ms w)->LeavesInM Fence.wide 0 P fn tmps R (marks ms) .returning w
 |[],w,_,_,hr,hR=>⟨v,hr,hR⟩
 | .call f c a :: ms, w, _, hm, _, _ => by
   obtain⟨D,h,-⟩:=hm _ (List.mem_cons_self ..)
   cases h
 | .mk D :: ms, w, hd, hm, hr, hR => by
   obtain⟨D',h,hD⟩:=hm _ (List.mem_cons_self ..);cases h;refine⟨ξ,.inl ⟨D,_,rfl,run_takeDeferred hD,?_⟩⟩;refine VB ms _ (List.nodup_cons.1 hd).2 (λd hd'=>?_) hr hR;obtain⟨D',rfl,hD'⟩:=hm d (by simp[hd']);refine⟨D',rfl,?_⟩;rw[World.putObj_heap_other (λh=>(List.nodup_cons.1 hd).1 (by subst h;exact hd'))];exact hD'
section
variable {C:Cx}{k:List Item}{e:Env}{w:World}{fn:Func}
def Zz {f:FuncId}{P:Program}{R:Ending->World->Prop}{m:Machine}{b:Frame}{a:Act}{todo:List Item}{cs:List Frame}{ms:List Dfr}(hf:P.funcs[f]? =some fn)(hb:b.fn=f)(hk:b.kind= .normal)
  (hd:a.defers=marks ms) (hl:LeavesInM Fence.wide 0 P fn a.tmps R (marks ms) .returning w)
  (hs:Steps P m (lone {b.atR a todo with mode:= .returning} cs w)):Zs P f none false R m cs:=by
 subst hb
 obtain⟨x,w',fr',hR',hs',hfn',hl'⟩:=leaves_stepsInM (F:=Fence.wide) (n:=0) a.defers .returning w {b.atR a todo with mode:= .returning} cs O O O hf hk trivial (room_wide _)
  (by rw[hd];exact hl)
 exact⟨x,w',fr',hR',Comes.of_steps hs (comesIn_wide.1 hs'),hfn',hl'⟩
def z3n (hrd:C.rd=none)(hdk:C.dk=false)(hf:C.P.funcs[C.f]? =some fn)
  (hr:∀a,WB C.n C.ms e a->LeavesInM Fence.wide 0 C.P fn a.tmps (WT C.R) (marks C.ms) .returning w):P8 C (.code .ret::k) e w:=λa ha b hb hk hro cs=>by
 rw[hdk] at hk⊢
 rw[hrd] at hro⊢
 exact Zz hf hb hk ha.defers (hr a ha) (.one (stepR_ret hro))
def za7 (hrd:C.rd=none)(hdk:C.dk=false)(hf:C.P.funcs[C.f]? =some fn)
  (hr:∀a,WB C.n C.ms e a->LeavesInM Fence.wide 0 C.P fn a.tmps (WT C.R) (marks C.ms) .returning w):P8 C [] e w:=λa ha b hb hk hro cs=>by
 rw[hdk] at hk⊢
 rw[hrd] at hro⊢
 exact Zz hf hb hk ha.defers (hr a ha) (.one (stepR_end hro))
theorem Y2 (hrd:C.rd=none)(hf:C.P.funcs[C.f]? =some fn)(hn:C.ms.Nodup)(hm:RG C.ms w)
  (hr:∀a,WB C.n C.ms e a->∃v,(results fn a.tmps).run C.P (So C.ms w)= .ok v (So C.ms w)/\WT C.R (.returned v) (So C.ms w)) (hdk:C.dk=false:=by rfl):P8 C (.code .ret::k) e w:=
 z3n hrd hdk hf λa ha=>let ⟨_,h1,h2⟩:=hr a ha;VB _ _ hn hm h1 h2
def z9F (hrd:C.rd=none)(hf:C.P.funcs[C.f]? =some fn)(hn:C.ms.Nodup)(hm:RG C.ms w)
  (hr:∀a,WB C.n C.ms e a->∃v,(results fn a.tmps).run C.P (So C.ms w)= .ok v (So C.ms w)/\WT C.R (.returned v) (So C.ms w)) (hdk:C.dk=false:=by rfl):P8 C [] e w:=
 za7 hrd hdk hf λa ha=>let ⟨_,h1,h2⟩:=hr a ha;VB _ _ hn hm h1 h2
def z4g {f:FuncId}{P:Program}{R:Ending->World->Prop}{m:Machine}{b:Frame}{a:Act}{todo:List Item}{cs:List Frame}{v:Value}(hf:P.funcs[f]? =some fn)(hb:b.fn=f)(hk:b.kind= .deferred)
  (hd:a.defers=[]) (hr:(results fn a.tmps).run P w= .ok v w) (hR:R (.returned v) w)
  (hs:Steps P m (lone {b.atR a todo with mode:= .returning} cs w)):Zs P f none true R m cs:=by
 subst hb
 exact⟨.returned v,w,_,hR,hs,rfl,hk,rfl,hd,fn,hf,hr⟩
def z0L (hrd:C.rd=none)(hdk:C.dk=true)(hms:C.ms=[])(hf:C.P.funcs[C.f]? =some fn)
  (hr:∀a,WB C.n C.ms e a->∃v,(results fn a.tmps).run C.P w= .ok v w/\WT C.R (.returned v) w):P8 C [] e w:=λa ha b hb hk hro cs=>by
 obtain⟨v,h1,h2⟩:=hr a ha
 rw[hdk] at hk⊢
 rw[hrd] at hro⊢
 exact z4g hf hb hk (by rw[ha.defers,hms];rfl) h1 h2 (.one (stepR_end hro))
end
section
variable {P:Program}{f:FuncId}{R:Value->World->Prop}{n:Nat}{k:List Item}{e:Env}{w:World}{fn:Func}{vs:List Value}
def Oo (hf:P.funcs[f]? =some fn)(hr:resOf e fn.results.toList=some vs)(hR:WT R (.returned (PS vs)) w):P8 ⟨P,f,R,n,none,[],false⟩ (.code .ret::k) e w:=
 Y2 O hf List.nodup_nil (λ_ h=>by cases h) λa ha=>⟨_,SS ha P w fn vs hr,hR⟩
def PQ (hf:P.funcs[f]? =some fn)(hr:resOf e fn.results.toList=some vs)(hR:WT R (.returned (PS vs)) w):P8 ⟨P,f,R,n,none,[],false⟩ [] e w:=
 z9F O hf List.nodup_nil (λ_ h=>by cases h) λa ha=>⟨_,SS ha P w fn vs hr,hR⟩
def z4j {ms:List Dfr}(hn:ms.Nodup)(hm:RG ms w)(hf:P.funcs[f]? =some fn)(hr:resOf e fn.results.toList=some vs)(hR:WT R (.returned (PS vs)) (So ms w)):P8 ⟨P,f,R,n,none,ms,false⟩ (.code .ret::k) e w:=
 Y2 O hf hn hm λa ha=>⟨_,SS ha P _ fn vs hr,hR⟩
end
def envOf:Nat->List Value->Env
 |_,[]=>[]
 |i,v::r=>(i,v)::envOf (i+1) r
def WM:∀(l:List Value) (i j:Nat) (v:Value),fnd (envOf i l) j=some v->i<=j/\l[j-i]? =some v
 |[],_,_,_,h=>by simp[envOf,fnd] at h
 | u :: r, i, j, v, h => by
   simp only[envOf,fnd] at h;split at h
   ·rename_i hb
    have:=Nat.eq_of_beq_eq_true hb;subst this
    simpa using h
   ·rename_i hb
    have hne:j≠i:=λhh=>by subst hh;simp at hb
    obtain⟨h1,h2⟩:=WM r (i+1) j v h;refine⟨ω,?_⟩;have:j-i=(j-(i+1))+1:=by omega
    rw[this]
    simpa using h2
def P9 (P:Program)(f:FuncId)(args:List Value)(w:World)(S:Value->World->Prop):Prop:=
 Calls P f args.toArray w λx w'=>∃v,x= .returned v/\S v w'
def P9.mono {P:Program}{f:FuncId}{args:List Value}{w:World}{S S':Value->World->Prop}(h:P9 P f args w S)(hs:∀v w',S v w'->S' v w'):P9 P f args w S':=
 Calls.mono h λ_ _ ⟨v,hx,hv⟩=>⟨v,hx,hs _ _ hv⟩
def z5m (P:Program)(f:FuncId)(args:List Value)(w:World)(S:Value->World->Prop):Prop:=
 CallsDIn Fence.wide 0 P f args.toArray .returning w λx u w'=>u= .returning/\∃v,x= .returned v/\S v w'
def py {P:Program}{f:FuncId}{fn:Func}{c:Code}{args:List Value}{e:Env}{w:World}{S:Value->World->Prop}{n:Nat}
  (hf:P.funcs[f]? =some fn) (hb:fn.body=some c) (hnt:fn.ntmps=n) (hn:Nat.ble args.length n=true) (he:envOf 0 args=e)
  (h:P8 ⟨P,f,S,n,none,[],false⟩ [.code c] e w):P9 P f args w S:=by
 subst hnt
 intro cs
 let b:Frame:={(default:Frame) with fn:=f,kind:= .normal,roundOf:=none}
 have hn':args.length<=fn.ntmps:=by simpa using hn
 let a:Act:={tmps:=args.toArray++Array.replicate (fn.ntmps-args.toArray.size) undef,defers:=[]}
 have henter:Frame.enter P f args.toArray .normal=b.atR a [.code c]:=by
  simp[Frame.enter,Frame.atR,hf,hb,b,a]
 have hok:WB fn.ntmps [] e a:=by
  refine⟨by simp[a];omega,rfl,λi v hi=>?_⟩;subst he;obtain⟨-,h2⟩:=WM args 0 i v hi;simp at h2
  have hlt:i<args.length:=by
   rcases Nat.lt_or_ge i args.length with h| h
   ·exact h
   ·simp[List.getElem?_eq_none h] at h2
  have h3:args[i]=v:=by simpa[List.getElem?_eq_getElem hlt] using h2
  simp only[a,Array.getD];rw[dif_pos (by simp;omega)];simp[hlt,h3]
 rw[henter]
 exact h a hok b O O O cs
def z4G {P:Program}{f:FuncId}{fn:Func}{c:Code}{args:List Value}{e:Env}{w:World}{S:Value->World->Prop}{n:Nat}
  (hf:P.funcs[f]? =some fn) (hb:fn.body=some c) (hnt:fn.ntmps=n) (hn:Nat.ble args.length n=true) (he:envOf 0 args=e)
  (h:P8 ⟨P,f,S,n,none,[],true⟩ [.code c] e w):z5m P f args w S:=by
 subst hnt
 refine⟨trivial,λc0 cs hm _=>?_⟩
 let b:Frame:={(default:Frame) with fn:=f,kind:= .deferred,roundOf:=none}
 have hn':args.length<=fn.ntmps:=by simpa using hn
 let a:Act:={tmps:=args.toArray++Array.replicate (fn.ntmps-args.toArray.size) undef,defers:=[]}
 have henter:Frame.enter P f args.toArray .deferred=b.atR a [.code c]:=by
  simp[Frame.enter,Frame.atR,hf,hb,b,a]
 have hok:WB fn.ntmps [] e a:=by
  refine⟨by simp[a];omega,rfl,λi v hi=>?_⟩;subst he;obtain⟨-,h2⟩:=WM args 0 i v hi;simp at h2
  have hlt:i<args.length:=by
   rcases Nat.lt_or_ge i args.length with h| h
   ·exact h
   ·simp[List.getElem?_eq_none h] at h2
  have h3:args[i]=v:=by simpa[List.getElem?_eq_getElem hlt] using h2
  simp only[a,Array.getD];rw[dif_pos (by simp;omega)];simp[hlt,h3]
 obtain⟨x,w',fr,hR,hc,hfn,hk,hg⟩:=h a hok b O O O (c0::cs)
 have hcc:({c0 with mode:= .returning}:Frame)=c0:=by cases c0;simp_all
 rw[henter]
 exact⟨x,.returning,w',fr,⟨rfl,hR⟩,by rw[hcc];exact comesIn_wide.2 hc,hk,hfn,hg⟩
structure Arc where
 size:Nat
 once:List Int
 often:List Int
 OP:List Int
 OM:List Int
 target:Int
def Arc.all (c:Arc):List Int:=c.once++(c.often++(c.OP++c.OM))
def Arc.held (c:Arc)(k:Int):Prop:=k∈c.once\/k∈c.often
structure Arc.Ok (c:Arc):Prop where
 pos:1<=c.size
 nd:c.all.Nodup
 held:c.once.length+c.often.length<=c.size
 first:c.once.length+c.OP.length<=c.size
 total:c.all.length<=2*c.size
 tg:0<=c.target/\c.target<=c.size
def Arc.room (c:Arc)(often:Bool):Arc×Option Int:=
 if c.once.length+c.often.length=c.size then
  match c.once,c.often with
  |[],[]=>(c,none)
  |a::o,[]=>({c with once:=o,OP:=c.OP++[a]},some a)
  |[],b::f=>({c with often:=f,OM:=c.OM++[b]},some b)
  |a::o,b::f=>if(c.once.length:Int)>c.target\/(c.once.length:Int)=c.target/\often=true then({c with once:=o,OP:=c.OP++[a]},some a) else({c with often:=f,OM:=c.OM++[b]},some b)
 else(c,none)
structure Arc.Z9 (c c':Arc)(g:Option Int):Prop where
 size:c'.size=c.size
 tg:c'.target=c.target
 perm:c'.all.Perm c.all
 z2n:c'.once.length+c'.OP.length<=c.once.length+c.OP.length
 Y5:c'.once.length+c'.often.length+1<=c.size
 gone:∀x,c'.held x↔c.held x/\g≠some x
 was:∀x,g=some x->c.held x
 w1:∀x∈c.OP,x∈c'.OP
 w2:∀x∈c.OM,x∈c'.OM
def Arc.T6 {c:Arc}(h:c.Ok)(b:Bool):Arc.Z9 c (c.room b).1 (c.room b).2:=by
 have hnd:=h.nd
 have hpos:=h.pos
 unfold Arc.all at hnd
 have key1:∀{a:Int} {o:List Int},c.once=a::o->c.once.length+c.often.length=c.size->Arc.Z9 c {c with once:=o,OP:=c.OP++[a]} (some a):=fun {a o} e hf=>by
  rw[e] at hnd hf;rw[List.cons_append] at hnd;obtain⟨n1,n2⟩:=List.nodup_cons.1 hnd;simp only[List.mem_append,not_or] at n1;refine⟨rfl,rfl,?_,by simp[e];omega,by simp at hf⊢;omega,λx=>?_,λx hx=>by cases hx;exact .inl (by simp[e]),λx hx=>List.mem_append_left _ hx,λx hx=>hx⟩
  ·unfold Arc.all;rw[e];dsimp only;rw[List.cons_append]
   have:(o++(c.often++(c.OP++[a]++c.OM))).Perm (a::(o++(c.often++(c.OP++c.OM)))):=by
    have e1:o++(c.often++(c.OP++[a]++c.OM))=(o++(c.often++c.OP))++a::c.OM:=by simp
    have e2:a::(o++(c.often++(c.OP++c.OM)))=a::((o++(c.often++c.OP))++c.OM):=by simp
    rw[e1,e2];exact List.perm_middle
   exact this
  ·unfold Arc.held;dsimp only;rw[e];simp only[List.mem_cons,Option.some.injEq,ne_eq];constructor
   ·rintro(hx|hx)
    ·exact⟨.inl (.inr hx),λe=>n1.1 (e▸hx)⟩
    ·exact⟨.inr hx,λe=>n1.2.1 (e▸hx)⟩
   ·rintro⟨(hx|hx)|hx,hne⟩
    ·exact absurd hx.symm hne
    ·exact .inl hx
    ·exact .inr hx
 have key2:∀{a:Int} {o:List Int},c.often=a::o->c.once.length+c.often.length=c.size->Arc.Z9 c {c with often:=o,OM:=c.OM++[a]} (some a):=fun {a o} e hf=>by
  rw[e] at hnd hf;obtain⟨m1,m2,m3⟩:=List.nodup_append.1 hnd;rw[List.cons_append] at m2;obtain⟨n1,n2⟩:=List.nodup_cons.1 m2;simp only[List.mem_append,not_or] at n1;refine⟨rfl,rfl,?_,Nat.le_refl _,by simp at hf⊢;omega,λx=>?_,λx hx=>by cases hx;exact .inr (by simp[e]),λx hx=>hx,λx hx=>List.mem_append_left _ hx⟩
  ·unfold Arc.all;rw[e];dsimp only;have e1:c.once++(o++(c.OP++(c.OM++[a])))=(c.once++(o++(c.OP++c.OM)))++a::[]:=by simp
   have e2:c.once++(a::o++(c.OP++c.OM))=c.once++a::(o++(c.OP++c.OM)):=by simp
   rw[e1,e2];refine List.Perm.trans List.perm_middle ?_;rw[List.append_nil];exact List.perm_middle.symm
  ·unfold Arc.held;dsimp only;rw[e];simp only[List.mem_cons,Option.some.injEq,ne_eq];constructor
   ·rintro(hx|hx)
    ·exact⟨.inl hx,λe=>m3 x hx a ξ e.symm⟩
    ·exact⟨.inr (.inr hx),λe=>n1.1 (e▸hx)⟩
   ·rintro⟨hx|hx|hx,hne⟩
    ·exact .inl hx
    ·exact absurd hx.symm hne
    ·exact .inr hx
 unfold Arc.room
 split
 ·rename_i hf
  split
  ·rename_i e1 e2
   rw[e1,e2] at hf;simp at hf;omega
  ·rename_i a o e1 e2
   exact key1 e1 hf
  ·rename_i b f e1 e2
   exact key2 e2 hf
  ·rename_i a o b f e1 e2
   split
   ·exact key1 e1 hf
   ·exact key2 e2 hf
 ·rename_i hf
  exact⟨rfl,rfl,List.Perm.refl _,Nat.le_refl _,by have:=h.held;show c.once.length+c.often.length+1<=_;omega,λx=>by simp,λx hx=>(by cases hx),λx hx=>hx,λx hx=>hx⟩
structure Arc.Made (c c':Arc)(g:Option Int):Prop where
 size:c'.size=c.size
 tg:c'.target=c.target
 nd:c'.all.Nodup
 sub:∀x∈c'.all,x∈c.all
 Y5:c'.once.length+c'.often.length+1<=c.size
 gone:∀x,c'.held x↔c.held x/\g≠some x
 was:∀x,g=some x->c.held x
def Arc.Z9.made {c c':Arc}{g:Option Int}(h:Arc.Z9 c c' g)(hn:c.all.Nodup):Arc.Made c c' g:=
 ⟨h.size,h.tg,h.perm.nodup_iff.2 hn,λx hx=>h.perm.mem_iff.1 hx,h.Y5,h.gone,h.was⟩
def Arc.add (c:Arc):Arc×Option Int:=
 if c.once.length+c.OP.length=c.size then
  if c.once.length<c.size then({c with OP:=c.OP.drop 1}:Arc).room false else({c with once:=c.once.drop 1},c.once.head?)
 else if c.all.length<c.size then(c,none)
 else if c.all.length=2*c.size then({c with OM:=c.OM.drop 1}:Arc).room false
 else c.room false
theorem Arc.QF (c:Arc):c.all.length=c.once.length+(c.often.length+(c.OP.length+c.OM.length)):=by simp[Arc.all]
def Arc.z2u {c:Arc}(h:c.Ok):Arc.Made c c.add.1 c.add.2/\c.add.1.once.length+c.add.1.OP.length+1<=c.size/\c.add.1.all.length+1<=2*c.size:=by
 have hpos:=h.pos
 have hnd:=h.nd
 have hh:=h.held
 have hf:=h.first
 have ht:=h.total
 have hl:=c.QF
 have sub1:∀{a b:List Int},(a++(b.drop 1)).Sublist (a++b):=fun {a b}=>(List.drop_sublist 1 b).append_left a
 unfold Arc.add
 split
 ·rename_i e
  split
  ·rename_i hlt
   obtain⟨c0,hc0⟩:∃c0:Arc,{c with OP:=c.OP.drop 1}=c0:=⟨_,rfl⟩;have e1:c0.once=c.once:=by rw[<-hc0]
   have e2:c0.often=c.often:=by rw[<-hc0]
   have e3:c0.OP=c.OP.drop 1:=by rw[<-hc0]
   have e4:c0.size=c.size:=by rw[<-hc0]
   have e6:c0.target=c.target:=by rw[<-hc0]
   have hs:c0.all.Sublist c.all:=by
    rw[<-hc0];unfold Arc.all;dsimp only;exact(((List.drop_sublist 1 c.OP).append_right c.OM).append_left c.often).append_left c.once
   have hl0:=c0.QF;have e5:c0.OM=c.OM:=by rw[<-hc0]
   have hwl:(c.OP.drop 1).length+1=c.OP.length:=by rw[List.length_drop];omega
   rw[e1,e2,e3,e5] at hl0;have h0:c0.Ok:=⟨ω,hnd.sublist hs,by rw[e1,e2,e4];exact hh,by rw[e1,e3,e4];omega,by rw[e4];omega,by rw[e6,e4];exact h.tg⟩;have hr:=Arc.T6 h0 false;have hm:=hr.made h0.nd;have hheld:∀x,c0.held x↔c.held x:=λx=>by unfold Arc.held;rw[e1,e2]
   rw[hc0];have hpl:=hr.perm.length_eq;have hfl:=hr.z2n;rw[e1,e3] at hfl;exact⟨⟨hm.size.trans e4,hm.tg.trans e6,hm.nd,λx hx=>hs.subset (hm.sub x hx),by rw[<-e4];exact hm.Y5,λx=>by rw[hm.gone,hheld],λx hx=>(hheld x).1 (hm.was x hx)⟩,ω,ω⟩
  ·rename_i hlt
   have hw:c.OP=[]:=List.eq_nil_of_length_eq_zero ω;have ho:c.often=[]:=List.eq_nil_of_length_eq_zero ω
   obtain⟨a,o,ea⟩:∃a o,c.once=a::o:=by
    cases e':c.once with
    |nil=>rw[e'] at e hlt;simp at e hlt;omega
    |cons a o=>exact⟨a,o,rfl⟩
   have hnd':=hnd;unfold Arc.all at hnd';rw[ea,hw,ho] at hnd';simp only[List.cons_append,List.nil_append] at hnd';obtain⟨n1,n2⟩:=List.nodup_cons.1 hnd';rw[ea] at e hh hl hlt hf;simp at e hh hl hlt hf;refine⟨⟨rfl,rfl,?_,λx hx=>?_,?_,λx=>?_,λx hx=>?_⟩,?_,?_⟩
   ·unfold Arc.all;dsimp only;rw[ea,hw,ho];exact n2
   ·unfold Arc.all at hx⊢;dsimp only at hx;rw[ea,hw,ho] at hx⊢;simp at hx⊢;exact .inr hx
   ·dsimp only;rw[ea,ho];simp;omega
   ·unfold Arc.held;dsimp only;rw[ea,ho];simp;constructor
    ·intro hx;exact⟨.inr hx,λe=>n1 (by rw[e];simp[hx])⟩
    ·rintro⟨hx|hx,hne⟩
     ·exact absurd hx.symm hne
     ·exact hx
   ·rw[ea] at hx;simp at hx;unfold Arc.held;rw[ea];exact .inl (by simp[hx])
   ·dsimp only;rw[ea,hw];simp;omega
   ·rw[Arc.QF];dsimp only;rw[ea];simp;omega
 ·rename_i e
  split
  ·rename_i hlt
   exact⟨⟨rfl,rfl,hnd,λx hx=>hx,by dsimp only;omega,λx=>by simp,λx hx=>by cases hx⟩,by dsimp only;omega,by dsimp only;omega⟩
  ·rename_i hlt
   split
   ·rename_i h2
    obtain⟨c0,hc0⟩:∃c0:Arc,{c with OM:=c.OM.drop 1}=c0:=⟨_,rfl⟩;have e1:c0.once=c.once:=by rw[<-hc0]
    have e2:c0.often=c.often:=by rw[<-hc0]
    have e3:c0.OP=c.OP:=by rw[<-hc0]
    have e4:c0.size=c.size:=by rw[<-hc0]
    have e5:c0.OM=c.OM.drop 1:=by rw[<-hc0]
    have e6:c0.target=c.target:=by rw[<-hc0]
    have hs:c0.all.Sublist c.all:=by
     rw[<-hc0];unfold Arc.all;dsimp only;exact(((List.drop_sublist 1 c.OM).append_left c.OP).append_left c.often).append_left c.once
    have hl0:=c0.QF;have hwl:(c.OM.drop 1).length+1=c.OM.length:=by rw[List.length_drop];omega
    rw[e1,e2,e3,e5] at hl0;have h0:c0.Ok:=⟨ω,hnd.sublist hs,by rw[e1,e2,e4];exact hh,by rw[e1,e3,e4];omega,by rw[e4];omega,by rw[e6,e4];exact h.tg⟩;have hr:=Arc.T6 h0 false;have hm:=hr.made h0.nd;have hheld:∀x,c0.held x↔c.held x:=λx=>by unfold Arc.held;rw[e1,e2]
    rw[hc0];have hpl:=hr.perm.length_eq;have hfl:=hr.z2n;rw[e1,e3] at hfl;exact⟨⟨hm.size.trans e4,hm.tg.trans e6,hm.nd,λx hx=>hs.subset (hm.sub x hx),by rw[<-e4];exact hm.Y5,λx=>by rw[hm.gone,hheld],λx hx=>(hheld x).1 (hm.was x hx)⟩,ω,ω⟩
   ·rename_i h2
    have hr:=Arc.T6 h false;have hm:=hr.made hnd;have hpl:=hr.perm.length_eq;have hfl:=hr.z2n;exact⟨hm,ω,ω⟩
def Arc.Rj (c:Arc)(k:Int):Arc×Bool×Option Int:=
 if k∈c.once\/k∈c.often then({c with once:=c.once.erase k,often:=c.often.erase k++[k]},true,none)
 else if k∈c.OP then
  let r:=({c with target:=min (c.size:Int) (c.target+max 1 (((c.OM.length / c.OP.length:Nat)):Int))}:Arc).room false
  ({r.1 with OP:=r.1.OP.erase k,often:=r.1.often++[k]},false,r.2)
 else if k∈c.OM then
  let r:=({c with target:=max 0 (c.target-max 1 (((c.OP.length / c.OM.length:Nat)):Int))}:Arc).room true
  ({r.1 with OM:=r.1.OM.erase k,often:=r.1.often++[k]},false,r.2)
 else let r:=c.add;({r.1 with once:=r.1.once++[k]},false,r.2)
structure Arc.z7z (c c':Arc)(k:Int)(b:Bool)(g:Option Int):Prop where
 ok:c'.Ok
 size:c'.size=c.size
 hit:b=true↔c.held k
 no:b=true->g=none
 held:∀x,c'.held x↔x=k\/(c.held x/\g≠some x)
 gone:∀x,g=some x->c.held x/\x≠k
def Arc.back {c r:Arc}{g:Option Int}{k:Int}(h:c.Ok)(hr:Arc.Z9 c r g)(hk:¬c.held k){w f:List Int}(hp:(w++f).Perm ((r.OP++r.OM).erase k))(hw:w.length<=r.OP.length)(hm:k∈r.OP++r.OM):
  Arc.z7z c {r with OP:=w,OM:=f,often:=r.often++[k]} k false g:=by
 have hm':=hr.made h.nd
 have hp2:(r.once++((r.often++[k])++(w++f))).Perm r.all:=by
  unfold Arc.all;rw[List.append_assoc];refine List.Perm.append_left _$ List.Perm.append_left _ ?_;exact(hp.cons k).trans (List.perm_cons_erase hm).symm
 have hheld:=hr.Y5
 have hpl:=hr.perm.length_eq
 have ht:=h.total
 refine⟨⟨by dsimp only;rw[hr.size];exact h.pos,hp2.nodup_iff.2 hm'.nd,by dsimp only;rw[hr.size,List.length_append];simp;omega,by have:=hr.z2n;have:=h.first;dsimp only;rw[hr.size];omega,by have:=hp2.length_eq;unfold Arc.all at this hpl⊢;dsimp only;rw[hr.size,this,hpl];exact ht,by dsimp only;rw[hr.tg,hr.size];exact h.tg⟩,hr.size,⟨λe=>(by cases e),λe=>absurd e hk⟩,λe=>(by cases e),λx=>?_,λx hx=>⟨hr.was x hx,λe=>hk (e▸hr.was x hx)⟩⟩
 have hg:=hr.gone x
 unfold Arc.held at hg⊢
 dsimp only
 simp only[List.mem_append,List.mem_singleton]
 constructor
 ·rintro(hx|hx|hx)
  ·exact .inr (hg.1 (.inl hx))
  ·exact .inr (hg.1 (.inr hx))
  ·exact .inl hx
 ·rintro(hx|hx)
  ·exact .inr (.inr hx)
  ·rcases hg.2 hx with hx|hx
   ·exact .inl hx
   ·exact .inr (.inl hx)
def Arc.z1g {c:Arc}(h:c.Ok)(k:Int):Arc.z7z c (c.Rj k).1 k (c.Rj k).2.1 (c.Rj k).2.2:=by
 have hpos:=h.pos
 have hnd:=h.nd
 have hnd':=hnd
 unfold Arc.all at hnd'
 obtain⟨a1,a2,a3⟩:=List.nodup_append.1 hnd'
 obtain⟨b1,b2,b3⟩:=List.nodup_append.1 a2
 obtain⟨d1,d2,d3⟩:=List.nodup_append.1 b2
 unfold Arc.Rj
 split
 ·rename_i hk
  have hp:(c.once.erase k++((c.often.erase k++[k])++(c.OP++c.OM))).Perm c.all:=by
   unfold Arc.all;have e1:c.once.erase k++((c.often.erase k++[k])++(c.OP++c.OM))=(c.once.erase k++c.often.erase k)++k::(c.OP++c.OM):=by simp
   rw[e1];refine List.perm_middle.trans ?_;rw[<-List.cons_append,show c.once++(c.often++(c.OP++c.OM))=(c.once++c.often)++(c.OP++c.OM) by simp];refine List.Perm.append_right _ ?_;rcases hk with hk|hk
   ·have hn:k∉c.often:=λe=>a3 k hk k (by simp[e]) O;rw[List.erase_of_not_mem hn,<-List.cons_append];exact(List.perm_cons_erase hk).symm.append_right _
   ·have hn:k∉c.once:=λe=>a3 k e k (by simp[hk]) O;rw[List.erase_of_not_mem hn];exact(List.perm_middle.symm.trans ((List.perm_cons_erase hk).symm.append_left _))
  have hlen:(c.once.erase k).length+(c.often.erase k++[k]).length=c.once.length+c.often.length:=by
   rcases hk with hk|hk
   ·have hn:k∉c.often:=λe=>a3 k hk k (by simp[e]) O;have:=List.length_pos_of_mem hk;rw[List.erase_of_not_mem hn,List.length_erase_of_mem hk,List.length_append];simp;omega
   ·have hn:k∉c.once:=λe=>a3 k e k (by simp[hk]) O;have:=List.length_pos_of_mem hk;rw[List.erase_of_not_mem hn,List.length_append,List.length_erase_of_mem hk];simp;omega
  have hle:(c.once.erase k).length<=c.once.length:=List.length_erase_le;refine⟨⟨hpos,hp.nodup_iff.2 hnd,by dsimp only;rw[hlen];exact h.held,by have:=h.first;dsimp only;omega,by have:=hp.length_eq;unfold Arc.all at this⊢;dsimp only;rw[this];exact h.total,h.tg⟩,rfl,⟨λ_=>hk,λ_=>rfl⟩,λ_=>rfl,λx=>?_,λx hx=>by cases hx⟩;unfold Arc.held;dsimp only;simp only[List.mem_append,List.mem_singleton];constructor
  ·rintro(hx|hx|hx)
   ·exact .inr ⟨.inl (List.mem_of_mem_erase hx),ξ⟩
   ·exact .inr ⟨.inr (List.mem_of_mem_erase hx),ξ⟩
   ·exact .inl hx
  ·rintro(hx|⟨hx|hx,-⟩)
   ·exact .inr (.inr hx)
   ·by_cases e:x=k
    ·exact .inr (.inr e)
    ·exact .inl ((List.mem_erase_of_ne e).2 hx)
   ·by_cases e:x=k
    ·exact .inr (.inr e)
    ·exact .inr (.inl ((List.mem_erase_of_ne e).2 hx))
 ·rename_i hk
  simp only[not_or] at hk;have hkh:¬c.held k:=by unfold Arc.held;simp[hk]
  split
  ·rename_i hw
   obtain⟨c0,hc0⟩:∃c0:Arc,{c with target:=min (c.size:Int) (c.target+max 1 (((c.OM.length / c.OP.length:Nat)):Int))}=c0:=⟨_,rfl⟩;have h0:c0.Ok:=by rw[<-hc0];have:=h.tg;exact⟨h.pos,h.nd,h.held,h.first,h.total,by dsimp only;omega⟩
   have hr:=Arc.T6 h0 false;rw[hc0];have hkw:k∈(c0.room false).1.OP:=hr.w1 k (by rw[<-hc0];exact hw);have:=Arc.back h0 hr (k:=k) (by rw[<-hc0];exact hkh) (w:=(c0.room false).1.OP.erase k) (f:=(c0.room false).1.OM) (by rw[List.erase_append_left _ hkw]) List.length_erase_le (List.mem_append_left _ hkw);dsimp only;refine⟨this.ok,this.size.trans (by rw[<-hc0]),by rw[this.hit,<-hc0];exact Iff.rfl,this.no,λx=>by rw[this.held,<-hc0];exact Iff.rfl,λx hx=>by have:=this.gone x hx;rw[<-hc0] at this;exact this⟩
  ·rename_i hw
   split
   ·rename_i hw2
    obtain⟨c0,hc0⟩:∃c0:Arc,{c with target:=max 0 (c.target-max 1 (((c.OP.length / c.OM.length:Nat)):Int))}=c0:=⟨_,rfl⟩;have h0:c0.Ok:=by rw[<-hc0];have:=h.tg;exact⟨h.pos,h.nd,h.held,h.first,h.total,by dsimp only;omega⟩
    have hr:=Arc.T6 h0 true;rw[hc0];have hkw:k∈(c0.room true).1.OM:=hr.w2 k (by rw[<-hc0];exact hw2);have hnd2:=(hr.made h0.nd).nd
    have hkn:k∉(c0.room true).1.OP:=λe=>by
     unfold Arc.all at hnd2;obtain⟨-,x2,-⟩:=List.nodup_append.1 hnd2;obtain⟨-,y2,-⟩:=List.nodup_append.1 x2;obtain⟨-,-,z3⟩:=List.nodup_append.1 y2;exact z3 k e k hkw O
    have:=Arc.back h0 hr (k:=k) (by rw[<-hc0];exact hkh) (w:=(c0.room true).1.OP) (f:=(c0.room true).1.OM.erase k) (by rw[List.erase_append_right _ hkn]) (Nat.le_refl _) (List.mem_append_right _ hkw);dsimp only;refine⟨this.ok,this.size.trans (by rw[<-hc0]),by rw[this.hit,<-hc0];exact Iff.rfl,this.no,λx=>by rw[this.held,<-hc0];exact Iff.rfl,λx hx=>by have:=this.gone x hx;rw[<-hc0] at this;exact this⟩
   ·rename_i hw2
    obtain⟨hm,hf,ht⟩:=Arc.z2u h;obtain⟨r,hr⟩:∃r,c.add=r:=⟨_,rfl⟩;rw[hr] at hm hf ht;rw[hr];dsimp only
    have hkn:k∉r.1.all:=λe=>by
     have:=hm.sub k e;unfold Arc.all at this;simp[hk.1,hk.2,hw,hw2] at this
    have hp:(r.1.once++[k]++(r.1.often++(r.1.OP++r.1.OM))).Perm (k::r.1.all):=by
     unfold Arc.all;rw[List.append_assoc];exact List.perm_middle
    have hl:=r.1.QF;have hheld:=hm.Y5;refine⟨⟨by dsimp only;rw[hm.size];exact hpos,hp.nodup_iff.2 (List.nodup_cons.2 ⟨hkn,hm.nd⟩),by dsimp only;rw[hm.size,List.length_append];simp;omega,by dsimp only;rw[hm.size,List.length_append];simp;omega,by have:=hp.length_eq;unfold Arc.all at this⊢;dsimp only;rw[hm.size,this];simp[Arc.all] at ht⊢;omega,by dsimp only;rw[hm.tg,hm.size];exact h.tg⟩,hm.size,⟨λe=>(by cases e),λe=>absurd e (by unfold Arc.held;simp[hk])⟩,λe=>(by cases e),λx=>?_,λx hx=>⟨hm.was x hx,λe=>by have:=hm.was x hx;rw[e] at this;exact absurd this (by unfold Arc.held;simp[hk])⟩⟩;have hg:=hm.gone x;unfold Arc.held at hg⊢;dsimp only;simp only[List.mem_append,List.mem_singleton];constructor
    ·rintro((hx|hx)|hx)
     ·exact .inr (hg.1 (.inl hx))
     ·exact .inl hx
     ·exact .inr (hg.1 (.inr hx))
    ·rintro(hx|hx)
     ·exact .inl (.inr hx)
     ·rcases hg.2 hx with hx|hx
      ·exact .inl (.inl hx)
      ·exact .inr hx
def wantE (ops:List Oper)(e:Env):Option (Nat×Bool)->Option Bool
 |none=>some true
 | some (j, b) => match ops[j]? with
   |none=>none
   | some oj => match oj.dst with
     |none=>none
     | some d => match fnd e d with
       |some (.bool c)=>some (match b with|true=>c|false=>!c)
       |some (.tuple _)=>some false
       |_=>none
def z5F {n:Nat}{ms:List Dfr}{ops:List Oper}{e:Env}{a:Act}{o:Oper}{t:Bool}(ha:WB n ms e a)(hn:∀(j:Nat) (oj:Oper) (d:Nat),ops[j]? =some oj->oj.dst=some d->Nat.blt d n=true)
  (h:wantE ops e o.guard=some t):Region.wanted o (yielded ops.toArray a.tmps)=t:=by
 unfold Region.wanted
 cases hg:o.guard with
 |none=>rw[hg] at h;simp[wantE] at h;simp[h]
 | some p =>
   obtain⟨j,b⟩:=p;rw[hg] at h;simp only[wantE] at h;split at h
   ·cases h
   ·rename_i oj hj
    split at h
    ·cases h
    ·rename_i d hd
     have hdn:d<n:=by simpa using hn j oj d hj hd
     have hget:∀v,fnd e d=some v->a.tmps[d]? =some v:=λv hv=>by
      have h1:=ha.get d v hv;have h2:d<a.tmps.size:=by rw[ha.size];exact hdn
      rw[Array.getElem?_eq_getElem h2]
      simpa[Array.getD,h2] using h1
     split at h
     ·rename_i c hc
      have:=hget _ hc;simp only[yielded,List.getElem?_toArray,hj,Option.bind_some,hd,this];cases b<;>cases c<;>simp_all
     ·rename_i hc
      have:=hget _ hc;simp only[yielded,List.getElem?_toArray,hj,Option.bind_some,hd,this]
      simp_all
     ·cases h
def Rz (n:Nat)(ops:List Oper):Bool:=ops.all λo=>match o.dst with|some d=>Nat.blt d n|none=>true
def z3Z {n:Nat}{ops:List Oper}(h:Rz n ops=true):∀(j:Nat) (oj:Oper) (d:Nat),ops[j]? =some oj->oj.dst=some d->Nat.blt d n=true:=λj oj d hj hd=>by
 have:=List.all_eq_true.1 h oj (List.mem_of_getElem? hj)
 simpa[hd] using this
def Y (P:Program)(e:Env)(o:Oper)(v:Value)(w w':World):Prop:=
 ∀ρ:Operand->Value,(∀x v,look e x=some v->ρ x=v)->(execOp ρ o).run P w= .ok (.value v) w'
def Z (P:Program)(e:Env)(o:Oper)(w w':World):Prop:=
 ∀ρ:Operand->Value,(∀x v,look e x=some v->ρ x=v)->(execOp ρ o).run P w= .ok .skip w'
def Yc (P:Program)(e:Env)(o:Oper)(f:FuncId)(args:List Value)(w:World):Prop:=
 ∀ρ:Operand->Value,(∀x v,look e x=some v->ρ x=v)->(execOp ρ o).run P w= .ok (.enter f args.toArray) w
def z1m {rd:Option Nat}{n:Nat}{P:Program}{f:FuncId}{args:Array Value}{w:World}{R:Ending->World->Prop}(h:Calls P f args w R):CallsIn (WF rd) n P f args w R:=
 (callsIn_wide (n:=n)).2 h
def Y4 {rd:Option Nat}:(WF rd).depth.isSome=true->1<=0:=λh=>by cases h
theorem U1 {P:Program}{rd:Option Nat}{ρ:Operand->Value}{o:Oper}{w w':World}{x:Next}(h:(execOp ρ o).run P w= .ok x w')(hx:∀d,x≠ .defer d):(o.semAt rd ρ).run P w= .ok x w':=by
 unfold Oper.semAt
 split
 ·rename_i l c ho
  exfalso;simp only[execOp,ho,Sem.run_bind] at h
  cases hr:(resolve ρ c o.type).run P w with
  | ok d w1 =>
    rw[hr] at h;simp only[Result.andThen,Sem.run_pure,Result.ok.injEq] at h
    exact hx d h.1.symm
  | halt y w1 =>
    rw[hr] at h;simp[Result.andThen] at h
 ·exact h
def calm (ops:List Oper):Bool:=ops.all λo=>match o.op with| .defer _=>false|_=>true
def z6B {P:Program}{rd:Option Nat}{o:Oper}{a:Act}{w:World}{K:Act->World->Prop}{Q:Exit->Act->World->Prop}(hc:∀c,o.op≠ .defer c)(h:o.wp P a w K Q):o.wpIn (WF rd) 0 P a w K Q:=by
 refine⟨λ_ _=>trivial,?_⟩
 rw[Oper.semAt_eq _ _ _ hc]
 unfold Oper.wp at h
 generalize (execOp a.eval o).run P w=r at h⊢
 cases r with
 | ok x w' =>
   cases x<;>simp only[Oper.upon,Oper.uponIn] at h⊢<;>
    first
     |exact h
     |exact h.elim
     |exact⟨Y4,z1m h⟩
     |exact⟨Y4,λc cs _=>let ⟨v,w',hR,hs⟩:=h c cs;⟨v,w',hR,stepsIn_wide.2 hs⟩⟩
 |halt x w'=>cases x<;>simp only[Oper.upon,Oper.uponIn] at h⊢<;>exact h
def AtR (P:Program)(ops:Array Oper)(Q:Exit->Act->World->Prop)(i:Nat)(K:Act->World->Prop)(a:Act)(w:World):Prop:=
 wpOp P ops Q i K a w\/∃o,ops[i]? =some o/\Region.wanted o (yielded ops a.tmps)=true/\∃l f tmps as1 bd,(execOp a.eval o).run P w= .ok (.round l f tmps as1 bd) w/\
  RoundIn Fence.wide 0 P l f tmps as1 bd w λe w''=>∃v,e= .returned v/\K (a.put o.dst v) w''
def AtR.mono {P:Program}{ops:Array Oper}{Q:Exit->Act->World->Prop}{i:Nat}{K K':Act->World->Prop}{a:Act}{w:World}(hK:∀a w,K a w->K' a w)(h:AtR P ops Q i K a w):AtR P ops Q i K' a w:=by
 rcases h with h|⟨o,ho,hw,l,f,tm,as1,bd,hr,hR⟩
 ·exact .inl (wpOp_mono hK h)
 ·exact .inr ⟨o,ho,hw,l,f,tm,as1,bd,hr,hR.mono λe w' ⟨v,he,hv⟩=>⟨v,he,hK _ _ hv⟩⟩
def Ue (P:Program)(ops:Array Oper)(Q:Exit->Act->World->Prop)(S:World->Prop):Nat->Array Bool->Act->World->Prop
 |0,listed,a,w=>Region.ready .any ops listed=[]/\Q .normal a w
 | n + 1, listed, a, w => (Region.ready .any ops listed = [] -> Q .normal a w) /\
     ∀i∈Region.ready .any ops listed,AtR P ops Q i (λa' w'=>S w'/\Ue P ops Q S n (listed.setIfInBounds i true) a' w') a w
def z6k {P:Program}{rd:Option Nat}{ops:List Oper}{Q:Exit->Act->World->Prop}{K K':Act->World->Prop}{i:Nat}{a:Act}{w:World}(hc:calm ops=true)(hno:¬LetsOut Q)(hK:∀a w,K a w->K' a w)
  (h:AtR P ops.toArray Q i K a w):wpOpIn (WF rd) 0 P ops.toArray Q i K' a w:=by
 rcases h with h2|⟨o,ho,hw,l,f,tm,as1,bd,hr,hR⟩
 ·unfold wpOp at h2;unfold wpOpIn
  cases ho:ops.toArray[i]? with
  | none =>
    rw[ho] at h2
    exact hK _ _ h2
  | some o =>
    rw[ho] at h2
    have hcm:∀c,o.op≠ .defer c:=λc hh=>by
     have hm:=List.all_eq_true.1 hc o (List.mem_of_getElem? (by simpa using ho));rw[hh] at hm;cases hm
    by_cases hw:Region.wanted o (yielded ops.toArray a.tmps)=true
    ·simp only[hw,if_true] at h2⊢;rcases h2 with h2|h2
     ·exact Oper.wpIn_mono hK (z6B hcm h2)
     ·exact absurd h2.2 hno
    ·simp only[hw] at h2⊢;exact⟨λ_ _=>trivial,hK _ _ h2⟩
 ·unfold wpOpIn;simp only[ho,hw,if_true];refine⟨λ_ _=>trivial,?_⟩;rw[U1 hr (λ_ h=>by cases h)];refine⟨Y4,?_⟩
  have hR':RoundIn Fence.wide 0 P l f tm as1 bd w fun
    | .returned v,w''=>K' (a.put o.dst v) w''
    | .panicked chain,w''=>Q (.panic chain) a w''
    | .outgrown,_=>LetsOut Q:=hR.mono λe w' ⟨v,he,hv⟩=>by subst he;exact hK _ _ hv
  exact hR'
def VP {P:Program}{rd:Option Nat}{ops:List Oper}{Q:Exit->Act->World->Prop}{S:World->Prop}(hc:calm ops=true)(hno:¬LetsOut Q):∀(fuel:Nat) (listed:Array Bool) (a:Act) (w:World),
  Ue P ops.toArray Q S fuel listed a w->wpAnyIn (WF rd) 0 P .any ops.toArray Q fuel listed a w
 |0,_,_,_,h=>h
 |fuel+1,_,_,_,h=>⟨h.1,λi hi=>z6k hc hno (λ_ _ hh=>VP hc hno fuel _ _ _ hh.2) (h.2 i hi)⟩
section
variable {P:Program}{ops:Array Oper}{Q:Exit->Act->World->Prop}{S:World->Prop}
def ZQ {j:Nat}{oi oj:Oper}{v:Value}{K:Act->World->Prop}{a:Act}{w:World}(hj:ops[j]? =some oj)(hap:oi.apart ops oj=true)(hsi:∀cs b,oi.op≠ .select cs b)(hsj:∀cs b,oj.op≠ .select cs b)
  (hQ:∀c a w,Q (.panic c) (a.put oi.dst v) w->Q (.panic c) a w) (hy:YieldsIf P ops S oi v a) (h:AtR P ops Q j K (a.put oi.dst v) w):AtR P ops Q j (λa' w'=>YieldsIf P ops S oi v a'/\K (a'.put oi.dst v) w') a w:=by
 rcases h with h|⟨o,ho,hw,l,f,tm,as1,bd,hr,hR⟩
 ·exact .inl (wpOp_putIf hj hap hsi hsj hQ hy h)
 ·obtain rfl:oj=o:=by rw[hj] at ho;exact Option.some.inj ho
  obtain⟨h1,h2,h3⟩:=Oper.apart_spec hap;rw[wanted_put oj a oi.dst v h1] at hw;rw[execOp_put oj hsj a oi.dst v h1] at hr;exact .inr ⟨oj,hj,hw,l,f,tm,as1,bd,hr,hR.mono λe w' ⟨u,he,hK⟩=>⟨u,he,hy.of_same (execOp_put oi hsi a oj.dst u h3) (wanted_put oi a oj.dst u h3),by rw[<-Act.put_comm a v u h2];exact hK⟩⟩
def Tp {i:Nat}{o:Oper}{v:Value}{a:Act}{w:World}{K:Act->World->Prop}(hi:ops[i]? =some o)(hy:YieldsIf P ops S o v a)(hS:S w)(h:K (a.put o.dst v) w):AtR P ops Q i K a w:= .inl (hy.wpOp hi hS h)
def Zy {i:Nat}{oi:Oper}{v:Value}(hi:ops[i]? =some oi)(hsel:∀(j:Nat) (o:Oper) cs b,ops[j]? =some o->o.op≠ .select cs b)(hQ:∀c a w,Q (.panic c) (a.put oi.dst v) w->Q (.panic c) a w):∀(n:Nat) (listed:Array Bool) (a:Act) (w:World),
  (∀j oj,ops[j]? =some oj->j≠i->listed.getD j true=false->(∀e∈oj.after,Region.binds .any e=true->e.on≠i)->oi.apart ops oj=true)->i∈Region.ready .any ops listed->YieldsIf P ops S oi v a->S w->
  Ue P ops Q S n (listed.setIfInBounds i true) (a.put oi.dst v) w->Ue P ops Q S (n+1) listed a w:=by
 intro n
 induction n with
 | zero =>
   intro listed a w _ hr hy hS H;constructor
   ·intro h0;rw[h0] at hr;cases hr
   ·intro j hj;by_cases e:j=i
    ·subst e;exact Tp hi hy hS ⟨hS,H⟩
    ·exact absurd (ready_mono hj e) (by rw[H.1];exact List.not_mem_nil)
 | succ n ih =>
   intro listed a w hap hr hy hS H;constructor
   ·intro h0;rw[h0] at hr;cases hr
   ·intro j hj;by_cases e:j=i
    ·subst e;exact Tp hi hy hS ⟨hS,H⟩
    ·obtain⟨hun,oj,hoj,hall⟩:=mem_ready.1 hj;have hni:listed.getD i true=false:=(mem_ready.1 hr).1
     have hwait:∀x∈oj.after,Region.binds .any x=true->x.on≠i:=λx hx hb heq=>by
      have h1:=hall x hx hb;rw[heq] at h1;by_cases hlt:i<listed.size
      ·simp[hlt] at hni h1;rw[hni] at h1;cases h1
      ·simp[Array.getElem?_eq_none (by omega:listed.size<=i)] at h1
     have h2:=ZQ hoj (hap j oj hoj e hun hwait) (λcs b=>hsel i oi cs b hi) (λcs b=>hsel j oj cs b hoj) hQ hy (H.2 j (ready_mono hj e));refine AtR.mono (λa' w' h3=>⟨h3.2.1,?_⟩) h2;refine ih (listed.setIfInBounds j true) a' w' (λm om hm hmi hmu hno=>?_) (ready_mono hr (Ne.symm e)) h3.1 h3.2.1 ?_
     ·refine hap m om hm hmi ?_ hno;by_cases hjm:j=m
      ·subst hjm;exact hun
      ·rw[getD_set_ne true hjm] at hmu;exact hmu
     ·rw[Array.setIfInBounds_comm _ _ e];exact h3.2.2
def z0l {i:Nat}{oi:Oper}{v:Value}{fuel:Nat}{listed:Array Bool}{a:Act}{w:World}(hi:ops[i]? =some oi)(hs:Region.noSelect ops=true)(hf:Region.free .any ops listed i=true)(hr:(Region.ready .any ops listed).contains i=true)
  (hQ:∀c a w,Q (.panic c) (a.put oi.dst v) w->Q (.panic c) a w) (hy:YieldsIf P ops S oi v a) (hS:S w) (h:Ue P ops Q S fuel (listed.setIfInBounds i true) (a.put oi.dst v) w):Ue P ops Q S (fuel+1) listed a w:=
 Zy hi (Region.noSelect_spec hs) hQ fuel listed a w (Region.free_spec hi hf) (by simpa using hr) hy hS h
def z9t {rs:List Nat}{fuel:Nat}{listed:Array Bool}{a:Act}{w:World}(hr:Region.ready .any ops listed=rs)(hne:rs≠[])(h:∀i∈rs,AtR P ops Q i (λa' w'=>S w'/\Ue P ops Q S fuel (listed.setIfInBounds i true) a' w') a w):Ue P ops Q S (fuel+1) listed a w:=
 ⟨λh0=>absurd (hr▸h0) hne,hr▸h⟩
def z66 {listed:Array Bool}{a:Act}{w:World}(hr:Region.ready .any ops listed=[])(h:Q .normal a w):∀fuel,Ue P ops Q S fuel listed a w
 |0=>⟨hr,h⟩
 |_+1=>⟨λ_=>h,by rw[hr];simp⟩
end
structure RC where
 C:Cx
 ops:List Oper
 k:List Item
 ok:Rz C.n ops=true
def RL (D:RC)(l:List Oper)(e:Env)(w:World):Prop:=∀a,WB D.C.n D.C.ms e a->wpListIn (WF D.C.rd) 0 D.C.P D.ops.toArray (QK D.C D.k) l a w
def Oz {C:Cx}{id:Nat}{ops:List Oper}{k:List Item}{e:Env}{w:World}(ho:Rz C.n ops=true)(h:RL ⟨C,ops,k,ho⟩ ops e w):P8 C (.code (.region id ops.toArray false)::k) e w:=
 λa ha=>Y8 (wpIn_region_lit (h a ha))
def okg (ops:List Oper)(e:Env)(t:Bool):Option (Nat×Bool)->Bool
 |none=>t
 |some p=>match wantE ops e (some p),t with|some true,true=>true|some false,false=>true|_,_=>false
def RZ (D:RC)(e:Env)(g:Option (Nat×Bool))(t:Bool):Bool:=okg D.ops e t g
def RB {D:RC}{e:Env}{o:Oper}{t:Bool}{a:Act}(ha:WB D.C.n D.C.ms e a)(h:RZ D e o.guard t=true):Region.wanted o (yielded D.ops.toArray a.tmps)=t:=by
 refine z5F ha (z3Z D.ok) ?_
 unfold RZ okg at h
 split at h
 ·rename_i hg
  rw[hg];simp only[wantE];rw[h]
 ·rename_i p hg
  rw[hg];split at h
  ·rename_i hw;exact hw
  ·rename_i hw;exact hw
  ·cases h
section
variable {D:RC}{l:List Oper}{e:Env}{w w':World}{d:Nat}{op:Op}{ty:TypeId}{pos:String}{aft:Array Edge}{g:Option (Nat×Bool)}
def Oq (h:P8 D.C D.k e w):RL D [] e w:=λa ha=>h a ha
def wpList_want {F:Fence}{n:Nat}{P:Program}{ops:Array Oper}{Q:Exit->Act->World->Prop}{a:Act}{w:World}{rest:List Oper}{o:Oper}(hw:Region.wanted o (yielded ops a.tmps)=true)
  (h:o.wpIn F n P a w (wpListIn F n P ops Q rest) Q):wpListIn F n P ops Q (o::rest) a w:=by
 simp only[wpListIn,hw,if_true];exact h
def UR {v:Value}(ho:RZ D e g true=true)(hd:Nat.blt d D.C.n=true)(hy:Y D.C.P e ⟨some d,op,ty,pos,aft,g⟩ v w w')(h:RL D l ((d,v)::e) w'):
  RL D (⟨some d,op,ty,pos,aft,g⟩::l) e w:=λa ha=>by
 refine wpList_want (RB ha ho) ⟨λ_ _=>trivial,?_⟩
 have:=hy a.eval (λx v hx=>ha.look hx)
 rw[U1 this (λ_ h=>by cases h)]
 exact h _ (ha.put hd v)
def zhq {v:Value}(ho:RZ D e g true=true)(hy:Y D.C.P e ⟨none,op,ty,pos,aft,g⟩ v w w')(h:RL D l e w'):
  RL D (⟨none,op,ty,pos,aft,g⟩::l) e w:=λa ha=>by
 refine wpList_want (RB ha ho) ⟨λ_ _=>trivial,?_⟩
 have:=hy a.eval (λx v hx=>ha.look hx)
 rw[U1 this (λ_ h=>by cases h)]
 exact h _ (ha.zc8 v)
def zjF (ho:RZ D e g true=true)(hy:Z D.C.P e ⟨none,op,ty,pos,aft,g⟩ w w')(h:RL D l e w'):
  RL D (⟨none,op,ty,pos,aft,g⟩::l) e w:=λa ha=>by
 refine wpList_want (RB ha ho) ⟨λ_ _=>trivial,?_⟩
 have:=hy a.eval (λx v hx=>ha.look hx)
 rw[U1 this (λ_ h=>by cases h)]
 exact h _ (ha.zc8 undef)
def zh8 (ho:RZ D e g false=true)(hd:Nat.blt d D.C.n=true)(h:RL D l ((d,undef)::e) w):RL D (⟨some d,op,ty,pos,aft,g⟩::l) e w:=λa ha=>by
 have hw:=RB (o:=⟨some d,op,ty,pos,aft,g⟩) ha ho
 simp only[wpListIn,hw]
 exact⟨λ_ _=>trivial,h _ (ha.put hd undef)⟩
def Qy {f:FuncId}{args:List Value}{S:Value->World->Prop}(ho:RZ D e g true=true)(hd:Nat.blt d D.C.n=true)(hy:Yc D.C.P e ⟨some d,op,ty,pos,aft,g⟩ f args w)
  (hc:P9 D.C.P f args w S) (h:∀v w',S v w'->RL D l ((d,v)::e) w'):RL D (⟨some d,op,ty,pos,aft,g⟩::l) e w:=λa ha=>by
 refine wpList_want (RB ha ho) ⟨λ_ _=>trivial,?_⟩
 have:=hy a.eval (λx v hx=>ha.look hx)
 rw[U1 this (λ_ h=>by cases h)]
 exact⟨Y4,z1m (Calls.mono hc λx w' ⟨v,hx,hv⟩=>by subst hx;exact h v w' hv _ (ha.put hd v))⟩
theorem z6n {f:FuncId}{cap args:List Value}(hrd:D.C.rd=none)(ho:RZ D e g true=true)
  (hy:∀ρ:Operand->Value,(∀x v,look e x=some v->ρ x=v)->(execOp ρ ⟨none,op,ty,pos,aft,g⟩).run D.C.P w= .ok (.defer (Dfr.d (.call f cap args))) w)
  (h:RL ⟨{D.C with ms:= .call f cap args::D.C.ms},D.ops,D.k,D.ok⟩ l e w):RL D (⟨none,op,ty,pos,aft,g⟩::l) e w:=λa ha=>by
 refine wpList_want (RB ha ho) ⟨λ_ _=>trivial,?_⟩
 have:=hy a.eval (λx v hx=>ha.look hx)
 rw[show(WF D.C.rd).round=none from hrd,Oper.semAt_none,this]
 exact h _ ⟨ha.size,by show Dfr.d _::a.defers=_;rw[ha.defers];rfl,ha.get⟩
def Sc {p:Prop}[hp:Decidable p](ht:p->RL D l ((d,.bool true)::e) w)(hf:¬p->RL D l ((d,.bool false)::e) w):RL D l ((d,.bool (decide p))::e) w:=by
 by_cases h:p
 ·simp only[h,decide_true];exact ht h
 ·simp only[h,decide_false];exact hf h
def zgE {p:Prop}[hp:Decidable p](h:p)(hr:RL D l ((d,.bool true)::e) w):RL D l ((d,.bool (decide p))::e) w:=by
 simp only[h,decide_true];exact hr
def zeF {p:Prop}[hp:Decidable p](h:¬p)(hr:RL D l ((d,.bool false)::e) w):RL D l ((d,.bool (decide p))::e) w:=by
 simp only[h,decide_false];exact hr
end
def Pw {C:Cx}{i:Item}{k:List Item}{e:Env}{w:World}(J:Env->World->Prop)(hk:∀e w,J e w->P8 C k e w)(h:(∀e w,J e w->P8 C k e w)->P8 C (i::k) e w):P8 C (i::k) e w:=h hk
def RP {C:Cx}{i:Item}{id:Nat}{k:List Item}{e:Env}{w:World}(J:Env->World->Prop)(hk:∀e w,J e w->P8 C k e w)(h:(∀e w,J e w->P8 C k e w)->P8 C (i:: .inBlock id::k) e w):P8 C (i:: .inBlock id::k) e w:=h hk
/-! ### A region that draws its order: 'S' holds of the world all through. -/
def RH (D:RC)(S:World->Prop)(fuel:Nat)(listed:Array Bool)(e:Env)(w:World):Prop:=
 ∀a,WB D.C.n D.C.ms e a->Ue D.C.P D.ops.toArray (QK D.C D.k) S fuel listed a w
def z3h {C:Cx}{id:Nat}{ops:List Oper}{k:List Item}{e:Env}{w:World}(S:World->Prop)(hm:C.P.follows .mixedOrders=true)
  (ho:Rz C.n ops=true) (h:RH ⟨C,ops,k,ho⟩ S ops.length (Array.replicate ops.length false) e w.drew) (hc:calm ops=true:=by rfl):P8 C (.code (.region id ops.toArray true)::k) e w:=
 λa ha=>Y8 (wpIn_region_any hm (VP hc QK.no _ _ _ _ (by simpa using h a ha)))
def RU (ops:List Oper)(listed:Array Bool)(rs:List Nat):Bool:=Region.ready .any ops.toArray listed==rs
def Sm (ops:List Oper)(listed:Array Bool)(i:Nat):Bool:=Region.noSelect ops.toArray&&Region.free .any ops.toArray listed i&&(Region.ready .any ops.toArray listed).contains i
section
variable {D:RC}{S:World->Prop}{e:Env}{w w':World}{d i fuel:Nat}{op:Op}{ty:TypeId}{pos:String}{aft:Array Edge}{g:Option (Nat×Bool)}{listed:Array Bool}
def ziJ (hr:RU D.ops listed []=true)(h:P8 D.C D.k e w):RH D S fuel listed e w:=λa ha=>z66 (by simpa[RU] using hr) (h a ha) _
def TU {ops:List Oper}(h:Sm ops listed i=true):Region.noSelect ops.toArray=true/\Region.free .any ops.toArray listed i=true/\(Region.ready .any ops.toArray listed).contains i=true:=by
 simp only[Sm,Bool.and_eq_true] at h
 exact⟨h.1.1,h.1.2,h.2⟩
def zar {v:Value}(hi:D.ops[i]? =some ⟨some d,op,ty,pos,aft,g⟩)(hf:Sm D.ops listed i=true)(ho:RZ D e g true=true)(hd:Nat.blt d D.C.n=true)
  (hy:∀w,S w->Y D.C.P e ⟨some d,op,ty,pos,aft,g⟩ v w w) (hS:S w) (h:RH D S fuel (listed.setIfInBounds i true) ((d,v)::e) w):RH D S (fuel+1) listed e w:=λa ha=>by
 obtain⟨h1,h2,h3⟩:=TU hf
 exact z0l (v:=v) (by simpa using hi) h1 h2 h3 (λ_ _ _ h=>h) (.inl ⟨RB ha ho,λw hw=>hy w hw a.eval (λx v hx=>ha.look hx)⟩) hS (h _ (ha.put hd v))
def zio (hi:D.ops[i]? =some ⟨some d,op,ty,pos,aft,g⟩)(hf:Sm D.ops listed i=true)(ho:RZ D e g false=true)(hd:Nat.blt d D.C.n=true)
  (hS:S w) (h:RH D S fuel (listed.setIfInBounds i true) ((d,undef)::e) w):RH D S (fuel+1) listed e w:=λa ha=>by
 obtain⟨h1,h2,h3⟩:=TU hf
 exact z0l (v:=undef) (by simpa using hi) h1 h2 h3 (λ_ _ _ h=>h) (.inr ⟨RB ha ho,rfl⟩) hS (h _ (ha.put hd undef))
def Nx (D:RC)(S:World->Prop)(fuel:Nat)(listed:Array Bool)(e:Env)(w:World)(i:Nat):Prop:=
 ∀a,WB D.C.n D.C.ms e a->AtR D.C.P D.ops.toArray (QK D.C D.k) i (λa' w'=>S w'/\Ue D.C.P D.ops.toArray (QK D.C D.k) S fuel (listed.setIfInBounds i true) a' w') a w
def zi1 (hr:RU D.ops listed [i]=true)(h:Nx D S fuel listed e w i):RH D S (fuel+1) listed e w:=λa ha=>
 z9t (rs:=[i]) (by simpa[RU] using hr) ξ λj hj=>by simp at hj;subst hj;exact h a ha
def Nx.z0x {o:Oper}(hi:D.ops[i]? =some o)(ho:RZ D e o.guard true=true)
  (h:∀a,WB D.C.n D.C.ms e a->o.wp D.C.P a w (λa' w'=>S w'/\Ue D.C.P D.ops.toArray (QK D.C D.k) S fuel (listed.setIfInBounds i true) a' w') (QK D.C D.k)):Nx D S fuel listed e w i:=λa ha=>by
 have hw:=RB ha ho
 refine .inl ?_
 unfold wpOp
 simp only[List.getElem?_toArray,hi]
 rw[if_pos hw]
 exact .inl (h a ha)
def zgy {v:Value}(hi:D.ops[i]? =some ⟨some d,op,ty,pos,aft,g⟩)(ho:RZ D e g true=true)(hd:Nat.blt d D.C.n=true)
  (hy:Y D.C.P e ⟨some d,op,ty,pos,aft,g⟩ v w w') (hS:S w') (h:RH D S fuel (listed.setIfInBounds i true) ((d,v)::e) w'):Nx D S fuel listed e w i:=
 Nx.z0x hi ho λa ha=>by
  have:=hy a.eval (λx v hx=>ha.look hx);unfold Oper.wp;rw[this];exact⟨hS,h _ (ha.put hd v)⟩
def zhn {v:Value}(hi:D.ops[i]? =some ⟨none,op,ty,pos,aft,g⟩)(ho:RZ D e g true=true)
  (hy:Y D.C.P e ⟨none,op,ty,pos,aft,g⟩ v w w') (hS:S w') (h:RH D S fuel (listed.setIfInBounds i true) e w'):Nx D S fuel listed e w i:=
 Nx.z0x hi ho λa ha=>by
  have:=hy a.eval (λx v hx=>ha.look hx);unfold Oper.wp;rw[this];exact⟨hS,h _ (ha.zc8 v)⟩
def zj3 (hi:D.ops[i]? =some ⟨none,op,ty,pos,aft,g⟩)(ho:RZ D e g true=true)
  (hy:Z D.C.P e ⟨none,op,ty,pos,aft,g⟩ w w') (hS:S w') (h:RH D S fuel (listed.setIfInBounds i true) e w'):Nx D S fuel listed e w i:=
 Nx.z0x hi ho λa ha=>by
  have:=hy a.eval (λx v hx=>ha.look hx);unfold Oper.wp;rw[this];exact⟨hS,h _ (ha.zc8 undef)⟩
def W9 {f:FuncId}{args:List Value}{T:Value->World->Prop}(hi:D.ops[i]? =some ⟨some d,op,ty,pos,aft,g⟩)(ho:RZ D e g true=true)(hd:Nat.blt d D.C.n=true)
  (hy:Yc D.C.P e ⟨some d,op,ty,pos,aft,g⟩ f args w) (hc:P9 D.C.P f args w T) (h:∀v w',T v w'->S w'/\RH D S fuel (listed.setIfInBounds i true) ((d,v)::e) w'):Nx D S fuel listed e w i:=
 Nx.z0x hi ho λa ha=>by
  have:=hy a.eval (λx v hx=>ha.look hx);unfold Oper.wp;rw[this];exact Calls.mono hc λx w' ⟨v,hx,hv⟩=>by subst hx;exact⟨(h v w' hv).1,(h v w' hv).2 _ (ha.put hd v)⟩
def zfl {p:Prop}[hp:Decidable p](ht:p->RH D S fuel listed ((d,.bool true)::e) w)(hf:¬p->RH D S fuel listed ((d,.bool false)::e) w):RH D S fuel listed ((d,.bool (decide p))::e) w:=by
 by_cases h:p
 ·simp only[h,decide_true];exact ht h
 ·simp only[h,decide_false];exact hf h
def zhA {p:Prop}[hp:Decidable p](h:p)(hr:RH D S fuel listed ((d,.bool true)::e) w):RH D S fuel listed ((d,.bool (decide p))::e) w:=by
 simp only[h,decide_true];exact hr
def zee {p:Prop}[hp:Decidable p](h:¬p)(hr:RH D S fuel listed ((d,.bool false)::e) w):RH D S fuel listed ((d,.bool (decide p))::e) w:=by
 simp only[h,decide_false];exact hr
end
/-! ### Memory -/
def OE (w:World)(b:Nat)(cs:List Value)(T:TypeId):Prop:=∃fz:Nat×Nat,w.heap[b]? =some (.cells cs.toArray T fz)/\∀i,i<cs.length->¬(fz.1<=i/\i<fz.2)
def OE.lt {w:World}{b:Nat}{cs:List Value}{T:TypeId}(h:OE w b cs T):b<w.heap.size:=by
 obtain⟨fz,h,-⟩:=h
 rcases Nat.lt_or_ge b w.heap.size with h'|h'
 ·exact h'
 ·simp[Array.getElem?_eq_none h'] at h
theorem OE.cell {w:World}{b:Nat}{cs:List Value}{T:TypeId}(h:OE w b cs T)(i:Nat):w.cell? ⟨b,i,none⟩=cs[i]? :=by
 obtain⟨fz,h,-⟩:=h
 simp[World.cell?,h]
def OE.free {w:World}{b:Nat}{cs:List Value}{T:TypeId}(h:OE w b cs T){i:Nat}(hi:i<cs.length):w.frozen? ⟨b,i,none⟩=false:=by
 obtain⟨fz,h,hf⟩:=h
 have:=hf i hi
 simp only[World.frozen?,h]
 simpa using this
structure Kp (S:Nat->Prop)(w w':World):Prop where
 os:w'.os=w.os
 tape:w'.tape=w.tape
 output:w'.output=w.output
 size:w.heap.size<=w'.heap.size
 block:∀k,k<w.heap.size->¬S k->w'.heap[k]? =w.heap[k]?
def Ext (w w':World):Prop:=Kp (λ_=>False) w w'
def Kp.refl (S:Nat->Prop)(w:World):Kp S w w:=⟨rfl,rfl,rfl,Nat.le_refl _,λ_ _ _=>rfl⟩
theorem Kp.trans {S:Nat->Prop}{a b c:World}(h:Kp S a b)(k:Kp S b c):Kp S a c:=
 ⟨k.os.trans h.os,k.tape.trans h.tape,k.output.trans h.output,Nat.le_trans h.size k.size,λi hi hs=>(k.block i (Nat.lt_of_lt_of_le hi h.size) hs).trans (h.block i hi hs)⟩
def Kp.mono {S S':Nat->Prop}{w w':World}(h:Kp S w w')(hs:∀k,k<w.heap.size->S k->S' k):Kp S' w w':=⟨h.os,h.tape,h.output,h.size,λk hk hn=>h.block k hk λhh=>hn (hs k hk hh)⟩
def Kp.OA {S S':Nat->Prop}{w w':World}(h:Kp S w w')(hs:∀k,S k->S' k):Kp S' w w':=h.mono λk _=>hs k
def Ext.kp {S:Nat->Prop}{w w':World}(h:Ext w w'):Kp S w w':=Kp.mono h λ_ _ hh=>hh.elim
def Ext.refl (w:World):Ext w w:=Kp.refl _ w
theorem Ext.trans {a b c:World}(h:Ext a b)(k:Ext b c):Ext a c:=Kp.trans h k
def Kp.drew {S:Nat->Prop}{a w:World}(h:Kp S a w):Kp S a w.drew:=⟨h.os,h.tape,h.output,h.size,h.block⟩
def Ext.drew {a w:World}(h:Ext a w):Ext a w.drew:=Kp.drew h
def Ext.OT (w:World):Ext w w.drew:=(Ext.refl w).drew
def Kp.It {S S':Nat->Prop}{a b c:World}(h:Kp S a b)(k:Kp S' b c)(hs:∀i,S' i->a.heap.size<=i\/S i):Kp S a c:=
 ⟨k.os.trans h.os,k.tape.trans h.tape,k.output.trans h.output,Nat.le_trans h.size k.size,λi hi hn=>
  (k.block i (Nat.lt_of_lt_of_le hi h.size) λhh=>by rcases hs i hh with h'|h';omega;exact hn h').trans (h.block i hi hn)⟩
def Ext.It {S':Nat->Prop}{a b c:World}(h:Ext a b)(k:Kp S' b c)(hs:∀i,S' i->a.heap.size<=i):Ext a c:=Kp.It h k λi hi=> .inl (hs i hi)
def Ext.below {w w':World}(h:Ext w w'):Below w.heap.size w w':=⟨h.os,h.tape,h.output,h.size,λk hk=>h.block k hk id⟩
def Ext.zaL {w w':World}(h:Below w.heap.size w w'):Ext w w':=⟨h.os,h.tape,h.output,h.size,λk hk _=>h.block k hk⟩
theorem Kp.On {S:Nat->Prop}{w w':World}{b:Nat}{cs:List Value}{T:TypeId}(h:Kp S w w')(hb:OE w b cs T)(hn:¬S b):OE w' b cs T:=by
 have hlt:=hb.lt
 obtain⟨fz,hb,hf⟩:=hb
 exact⟨fz,by rw[h.block b hlt hn];exact hb,hf⟩
theorem Ext.On {w w':World}{b:Nat}{cs:List Value}{T:TypeId}(h:Ext w w')(hb:OE w b cs T):OE w' b cs T:=Kp.On h hb id
theorem Kp.heap {S:Nat->Prop}{w w':World}{b:Nat}{o:Obj}(h:Kp S w w')(hb:w.heap[b]? =some o)(hn:¬S b):w'.heap[b]? =some o:=by
 have hlt:b<w.heap.size:=by
  rcases Nat.lt_or_ge b w.heap.size with h'|h'
  ·exact h'
  ·simp[Array.getElem?_eq_none h'] at hb
 rw[h.block b hlt hn];exact hb
def TX (w:World)(o:Obj):Ext w (w.alloc o):=⟨rfl,rfl,rfl,ξ,λk hk _=>by rw[Below.heap_alloc _ _ _ hk]⟩
theorem W7 (w:World)(o:Obj):(w.alloc o).heap[w.heap.size]? =some o:=by
 show(w.heap.push o)[w.heap.size]? =_
 simp
def zcd (w:World)(cs:List Value)(T:TypeId):OE (w.alloc (.cells cs.toArray T)) w.heap.size cs T:=⟨(0,0),by rw[W7],λi _ h=>by simp at h⟩
def To (w:World)(b i:Nat)(v:Value):Kp (λk=>k=b) w (w.setCell ⟨b,i,none⟩ v):=⟨rfl,rfl,rfl,by simp[World.setCell],λk _ hn=>Below.heap_setCell _ _ _ _ hn⟩
def Wg {w:World}{b:Nat}{cs:List Value}{T:TypeId}(h:OE w b cs T)(i:Nat)(v:Value):OE (w.setCell ⟨b,i,none⟩ v) b (cs.set i v) T:=by
 obtain⟨fz,h,hf⟩:=h
 refine⟨fz,?_,by simpa using hf⟩
 simp[World.setCell,Array.getElem?_modify,h]
/-! ### Types -/
def aggOf:TypeDesc->Bool
 | .struct _| .array _ _=>true
 |_=>false
def TI (P:Program)(t:TypeId)(z:Value)(s bytes:Nat):Prop:=∃i,P.info? t=some i/\i.zero=some z/\i.size=s/\i.bytes=bytes
def Pm {P:Program}{t:TypeId}{z:Value}{s bytes:Nat}(h:(P.info? t).map (λi=>(i.zero,i.size,i.bytes))=some (some z,s,bytes)):TI P t z s bytes:=info_parts h
section
variable {P:Program}{w:World}{t:TypeId}{z:Value}{s bytes:Nat}
theorem TI.size (h:TI P t z s bytes):(sizeOf t).run P w= .ok s w:=by
 obtain⟨i,h1,-,h3,-⟩:=h
 simp[sizeOf,typeInfo,program,Sem.run,h1,h3]
theorem TI.zero (h:TI P t z s bytes):(zeroValue t).run P w= .ok z w:=by
 obtain⟨i,h1,h2,-⟩:=h
 simp[zeroValue,typeInfo,program,Sem.run,h1,h2]
theorem SQ {d:TypeDesc}(h:P.underlying t=some d):(isAgg t).run P w= .ok (aggOf d) w:=by
 cases d<;>simp[isAgg,run_underlying h,aggOf]
end
def Qf (P:Program)(t i off n:Nat)(agg:Bool):Prop:=∃fs f z bytes d,P.underlying t=some (.struct fs)/\fs[i]? =some f/\f.offset=off/\TI P f.type z n bytes/\P.underlying f.type=some d/\aggOf d=agg
class T3 (z:Int) (n:outParam Nat):Prop where
 eq:z=(n:Int)
instance zeZ (n:Nat):T3 (n:Int) n:=⟨rfl⟩
instance zfc (n:Nat):T3 (no_index (OfNat.ofNat n):Int) (OfNat.ofNat n):=⟨rfl⟩
instance zfb {a b:Int} {m n:Nat} [ha:T3 a m] [hb:T3 b n]:T3 (a+b) (m+n):=⟨by rw[ha.eq,hb.eq];simp⟩
instance zhT {a b:Int} {m n:Nat} [ha:T3 a m] [hb:T3 b n]:T3 (a*b) (m*n):=⟨by rw[ha.eq,hb.eq];simp⟩
instance zhg {a b:Int} {m n:Nat} [ha:T3 a m] [hb:T3 b n]:T3 (a%b) (m%n):=⟨by rw[ha.eq,hb.eq];simp⟩
/-! ### Single operations -/
abbrev S (l:List UInt8):Value:= .string ⟨l.toArray⟩
abbrev I (n:Int):Value:= .int .i64 n
abbrev ptr (b i:Nat):Value:= .pointer (some ⟨b,i,none⟩)
section
variable {P:Program}{e:Env}{d:Option Nat}{ty t t':TypeId}{pos:String}{aft:Array Edge}{g:Option (Nat×Bool)}{x y:Operand}{w:World}{k k':IntKind}{a b:Int}{m n:Nat}{v:Value}{l l':List UInt8}
def X7 (hx:look e x=some v):Y P e ⟨d,.move x,ty,pos,aft,g⟩ v w w:=fun ρ hρ=>by simp[execOp,hρ _ _ hx]
def Rr (hx:look e x=some v):Y P e ⟨d,.assign x,ty,pos,aft,g⟩ v w w:=fun ρ hρ=>by simp[execOp,hρ _ _ hx]
def UT {c:Operand}(hc:look e c=some (.bool true))(hx:look e x=some v):Y P e ⟨d,.pick c x y,ty,pos,aft,g⟩ v w w:=fun ρ hρ=>by simp[execOp,hρ _ _ hx,hρ _ _ hc,asBool]
def U0 {c:Operand}(hc:look e c=some (.bool false))(hy:look e y=some v):Y P e ⟨d,.pick c x y,ty,pos,aft,g⟩ v w w:=fun ρ hρ=>by simp[execOp,hρ _ _ hy,hρ _ _ hc,asBool]
-- tests on integers
def ylt (hx:look e x=some (.int k a))(hy:look e y=some (.int k b)):Y P e ⟨d,.binOp .lss t x y t',ty,pos,aft,g⟩ (.bool (decide (a<b))) w w:=fun ρ hρ=>by simp[execOp,go_sem,hρ _ _ hx,hρ _ _ hy]
def YF (hx:look e x=some (.int k a))(hy:look e y=some (.int k b)):Y P e ⟨d,.binOp .leq t x y t',ty,pos,aft,g⟩ (.bool (decide (a<=b))) w w:=fun ρ hρ=>by simp[execOp,go_sem,hρ _ _ hx,hρ _ _ hy]
def XQ (hx:look e x=some (.int k a))(hy:look e y=some (.int k b)):Y P e ⟨d,.binOp .gtr t x y t',ty,pos,aft,g⟩ (.bool (decide (b<a))) w w:=fun ρ hρ=>by simp[execOp,go_sem,hρ _ _ hx,hρ _ _ hy]
def yge (hx:look e x=some (.int k a))(hy:look e y=some (.int k b)):Y P e ⟨d,.binOp .geq t x y t',ty,pos,aft,g⟩ (.bool (decide (b<=a))) w w:=fun ρ hρ=>by simp[execOp,go_sem,hρ _ _ hx,hρ _ _ hy]
def yeq (hx:look e x=some (.int k a))(hy:look e y=some (.int k b)):Y P e ⟨d,.binOp .eql t x y t',ty,pos,aft,g⟩ (.bool (decide (a=b))) w w:=fun ρ hρ=>by
 have:(a==b)=decide (a=b):=by by_cases h:a=b<;>simp[h]
 simp[execOp,go_sem,hρ _ _ hx,hρ _ _ hy,this]
def yne (hx:look e x=some (.int k a))(hy:look e y=some (.int k b)):Y P e ⟨d,.binOp .neq t x y t',ty,pos,aft,g⟩ (.bool (decide (a≠b))) w w:=fun ρ hρ=>by
 have:(a !=b)=decide (a≠b):=by by_cases h:a=b<;>simp[h]
 simp[execOp,go_sem,hρ _ _ hx,hρ _ _ hy,this]
-- arithmetic on int
theorem wrap_i64 {a:Int}(h:JIq a):IntKind.i64.wrap a=a:=by
 simp only[IntKind.wrap,IntKind.bits,IntKind.signed];simp;omega
def Uw (hx:look e x=some (I a))(hy:look e y=some (I b))(h:JIq (a+b)):Y P e ⟨d,.binOp .add t x y t',ty,pos,aft,g⟩ (I (a+b)) w w:=fun ρ hρ=>by simp[execOp,go_sem,hρ _ _ hx,hρ _ _ hy,wrap_i64 h]
def X8 (hx:look e x=some (I a))(hy:look e y=some (I b))(h:JIq (a-b)):Y P e ⟨d,.binOp .sub t x y t',ty,pos,aft,g⟩ (I (a-b)) w w:=fun ρ hρ=>by simp[execOp,go_sem,hρ _ _ hx,hρ _ _ hy,wrap_i64 h]
def X5 (hx:look e x=some (I a))(hy:look e y=some (I b))(h:JIq (a*b)):Y P e ⟨d,.binOp .mul t x y t',ty,pos,aft,g⟩ (I (a*b)) w w:=fun ρ hρ=>by simp[execOp,go_sem,hρ _ _ hx,hρ _ _ hy,wrap_i64 h]
def Wq (hx:look e x=some (I a))(hy:look e y=some (I b))(h:0<=a/\0<b/\a<=9223372036854775807):Y P e ⟨d,.binOp .quo t x y t',ty,pos,aft,g⟩ (I (a / b)) w w:=fun ρ hρ=>by
 have h0:¬b=0:=by omega
 have h1:a.tdiv b=a / b:=Int.tdiv_eq_ediv_of_nonneg h.1
 have h2:0<=a / b:=Int.ediv_nonneg h.1 ω
 have h3:a / b<=a:=Int.ediv_le_self b h.1
 have h4:=wrap_i64 (a:=a / b) ⟨ω,ω⟩
 simp[execOp,go_sem,hρ _ _ hx,hρ _ _ hy,h0,h1,h4]
def yre (hx:look e x=some (I a))(hy:look e y=some (I b))(h:0<=a/\0<b):Y P e ⟨d,.binOp .rem t x y t',ty,pos,aft,g⟩ (I (a%b)) w w:=fun ρ hρ=>by
 have h0:¬b=0:=by omega
 have h1:a.tmod b=a%b:=Int.tmod_eq_emod_of_nonneg h.1
 simp[execOp,go_sem,hρ _ _ hx,hρ _ _ hy,h0,h1]
def yrt (hx:look e x=some (I a))(hy:look e y=some (I b))(h:b≠0):Y P e ⟨d,.binOp .rem t x y t',ty,pos,aft,g⟩ (I (a.tmod b)) w w:=fun ρ hρ=>by
 simp[execOp,go_sem,hρ _ _ hx,hρ _ _ hy,h]
def zjI (c p:Nat)(hx:look e x=some (I a))(hy:look e y=some (.int k' (c:Int)))(hc:c<=64)(hp:2^c=p)(h:JIq (a*p)):Y P e ⟨d,.binOp .shl t x y t',ty,pos,aft,g⟩ (I (a*p)) w w:=fun ρ hρ=>by
 have h0:¬((c:Int)<0):=by omega
 have hp':(2:Int)^c=(p:Int):=by rw[<-hp];simp
 simp only[execOp,eqGuard_shl,binOp_shl,hρ _ _ hx,hρ _ _ hy,Op.shift,h0,if_false,Int.toNat_natCast,IntKind.bits,Nat.min_eq_left hc,pure_bind,Sem.run_pure,hp',wrap_i64 h]
def ysr (c:Nat)(hx:look e x=some (.int k a))(hy:look e y=some (.int k' (c:Int)))(hc:c<=k.bits):Y P e ⟨d,.binOp .shr t x y t',ty,pos,aft,g⟩ (.int k (a / 2^c)) w w:=fun ρ hρ=>by
 have h0:¬((c:Int)<0):=by omega
 have h1:(0:Int)<=2^c:=Int.pow_nonneg ψ
 simp only[execOp,eqGuard_shr,binOp_shr,hρ _ _ hx,hρ _ _ hy,Op.shift,h0,if_false,Int.toNat_natCast,Nat.min_eq_left hc,Int.fdiv_eq_ediv_of_nonneg _ h1,pure_bind,Sem.run_pure]
-- numbers without a sign, as natural numbers
def zd3 (hx:look e x=some (.int k (m:Int)))(hy:look e y=some (.int k (n:Int)))(hs:k.signed=false):Y P e ⟨d,.binOp .add t x y t',ty,pos,aft,g⟩ (.int k (((m+n)%2^k.bits:Nat):Int)) w w:=fun ρ hρ=>by
 have:k.wrap ((m:Int)+n)=(((m+n)%2^k.bits:Nat):Int):=by simp[IntKind.wrap,hs]
 simp[execOp,go_sem,hρ _ _ hx,hρ _ _ hy,this]
def zds (c:Nat)(hx:look e x=some (.int k (m:Int)))(hy:look e y=some (.int k' (c:Int)))(hs:k.signed=false)(hc:c<=k.bits):Y P e ⟨d,.binOp .shl t x y t',ty,pos,aft,g⟩ (.int k (((m*2^c)%2^k.bits:Nat):Int)) w w:=fun ρ hρ=>by
 have h0:¬((c:Int)<0):=by omega
 have:k.wrap ((m:Int)*2^c)=(((m*2^c)%2^k.bits:Nat):Int):=by simp[IntKind.wrap,hs]
 simp only[execOp,eqGuard_shl,binOp_shl,hρ _ _ hx,hρ _ _ hy,Op.shift,h0,if_false,Int.toNat_natCast,Nat.min_eq_left hc,pure_bind,Sem.run_pure,this]
def zh7 (c:Nat)(hx:look e x=some (.int k (m:Int)))(hy:look e y=some (.int k' (c:Int)))(hc:c<=k.bits):Y P e ⟨d,.binOp .shr t x y t',ty,pos,aft,g⟩ (.int k ((m / 2^c:Nat):Int)) w w:=fun ρ hρ=>by
 have:=ysr (P:=P) (d:=d) (t:=t) (t':=t') (ty:=ty) (pos:=pos) (aft:=aft) (g:=g) (w:=w) c hx hy hc ρ hρ
 rw[this]
 simp
theorem QP {k:IntKind}(h:m<2^k.bits):(BitVec.ofInt k.bits (m:Int)).toNat=m:=by
 simp
 exact Nat.mod_eq_of_lt h
theorem z0n {k:IntKind}(hs:k.signed=false)(h:m<2^k.bits):k.wrap (m:Int)=(m:Int):=by
 simp only[IntKind.wrap,hs]
 simp
 exact Int.emod_eq_of_lt ω (by exact_mod_cast h)
def zaE (hx:look e x=some (.int k (m:Int)))(hy:look e y=some (.int k (n:Int)))(hs:k.signed=false)(hm:m<2^k.bits)(hn:n<2^k.bits):Y P e ⟨d,.binOp .and t x y t',ty,pos,aft,g⟩ (.int k ((m&&&n:Nat):Int)) w w:=fun ρ hρ=>by
 simp only[execOp,eqGuard_and,binOp_and,intBits_and,hρ _ _ hx,hρ _ _ hy,pure_bind,Sem.run_pure,bits,BitVec.toNat_and,QP hm,QP hn,z0n hs (Nat.lt_of_le_of_lt Nat.and_le_left hm)]
def zdK (hx:look e x=some (.int k (m:Int)))(hy:look e y=some (.int k (n:Int)))(hs:k.signed=false)(hm:m<2^k.bits)(hn:n<2^k.bits):Y P e ⟨d,.binOp .or t x y t',ty,pos,aft,g⟩ (.int k ((m |||n:Nat):Int)) w w:=fun ρ hρ=>by
 simp only[execOp,eqGuard_or,binOp_or,intBits_or,hρ _ _ hx,hρ _ _ hy,pure_bind,Sem.run_pure,bits,BitVec.toNat_or,QP hm,QP hn,z0n hs (Nat.or_lt_two_pow hm hn)]
def zd2 (hx:look e x=some (.int k (m:Int)))(hy:look e y=some (.int k (n:Int)))(hs:k.signed=false)(hm:m<2^k.bits)(hn:n<2^k.bits):Y P e ⟨d,.binOp .xor t x y t',ty,pos,aft,g⟩ (.int k ((m^^^n:Nat):Int)) w w:=fun ρ hρ=>by
 simp only[execOp,eqGuard_xor,binOp_xor,intBits_xor,hρ _ _ hx,hρ _ _ hy,pure_bind,Sem.run_pure,bits,BitVec.toNat_xor,QP hm,QP hn,z0n hs (Nat.xor_lt_two_pow hm hn)]
def ze3 (hx:look e x=some (I (m:Int)))(hy:look e y=some (I (n:Int)))(hm:m<2^63)(hn:n<2^63):Y P e ⟨d,.binOp .and t x y t',ty,pos,aft,g⟩ (I ((m&&&n:Nat):Int)) w w:=fun ρ hρ=>by
 have h1:m<2^IntKind.i64.bits:=by simp only[IntKind.bits];omega
 have h2:n<2^IntKind.i64.bits:=by simp only[IntKind.bits];omega
 have h3:m&&&n<=m:=Nat.and_le_left
 simp only[execOp,eqGuard_and,binOp_and,intBits_and,hρ _ _ hx,hρ _ _ hy,pure_bind,Sem.run_pure,bits,BitVec.toNat_and,QP h1,QP h2]
 rw[wrap_i64 ⟨ω,ω⟩]
def zij (hx:look e x=some (.int k (m:Int)))(hs:k.signed=false)(hm:m<2^k.bits):Y P e ⟨d,.unOp .neg t x,ty,pos,aft,g⟩ (.int k (((2^k.bits-m)%2^k.bits:Nat):Int)) w w:=fun ρ hρ=>by
 have:k.wrap (0-(m:Int))=(((2^k.bits-m)%2^k.bits:Nat):Int):=by
  simp only[IntKind.wrap,hs];simp;rw[Int.ofNat_sub ω];simp
 simp only[execOp,hρ _ _ hx,pure_bind,Sem.run_pure,Op.unary,Op.intArith,this]
def zgp (hx:look e x=some (.int k (m:Int)))(hs:k.signed=false)(hm:m<2^k.bits):Y P e ⟨d,.unOp .xor t x,ty,pos,aft,g⟩ (.int k (((2^k.bits-1)^^^m:Nat):Int)) w w:=fun ρ hρ=>by
 have hmax:k.max=((2^k.bits-1:Nat):Int):=by cases k<;>simp_all [IntKind.max,IntKind.signed,IntKind.bits]
 have hp:2^k.bits-1<2^k.bits:=by have:=Nat.two_pow_pos k.bits;omega
 simp only[execOp,hρ _ _ hx,pure_bind,Sem.run_pure,Op.unary,hs,Bool.false_eq_true,if_false,hmax,intBits_xor,bits,BitVec.toNat_xor,QP hm,QP hp,z0n hs (Nat.xor_lt_two_pow hp hm)]
def yng (hx:look e x=some (I a))(h: -9223372036854775807<=a)(h':a<=9223372036854775807):Y P e ⟨d,.unOp .neg t x,ty,pos,aft,g⟩ (I (-a)) w w:=fun ρ hρ=>by
 simp[execOp,go_sem,hρ _ _ hx,Op.unary,wrap_i64 (a:=-a) ⟨ω,ω⟩]
def S1 {c:Bool}(hx:look e x=some (.bool c)):Y P e ⟨d,.unOp .not t x,ty,pos,aft,g⟩ (.bool (!c)) w w:=fun ρ hρ=>by simp[execOp,hρ _ _ hx,Op.unary]
def z8J {p:Prop}[Decidable p](hx:look e x=some (.bool (decide p))):Y P e ⟨d,.unOp .not t x,ty,pos,aft,g⟩ (.bool (decide ¬p)) w w:=fun ρ hρ=>by simp[execOp,hρ _ _ hx,Op.unary]
-- conversions of numbers
def ycv (hx:look e x=some (.int k a))(hs:P.underlying t=some (.int k))(hd:P.underlying t'=some (.int k'))(h:k'.wrap a=b):Y P e ⟨d,.convert t t' x,ty,pos,aft,g⟩ (.int k' b) w w:=fun ρ hρ=>by
 simp[execOp,hρ _ _ hx,convert,run_underlying hs,run_underlying hd,Conv.intToInt,h]
def zcV (hx:look e x=some (.int k (m:Int)))(hs:P.underlying t=some (.int k))(hd:P.underlying t'=some (.int k'))(h:k'.signed=false):Y P e ⟨d,.convert t t' x,ty,pos,aft,g⟩ (.int k' ((m%2^k'.bits:Nat):Int)) w w:=
 ycv hx hs hd (by simp[IntKind.wrap,h])
def zeW (hx:look e x=some (.int k a))(hs:P.underlying t=some (.int k))(hd:P.underlying t'=some (.int k'))(h:k'.min<=a/\a<=k'.max):Y P e ⟨d,.convert t t' x,ty,pos,aft,g⟩ (.int k' a) w w:=
 ycv hx hs hd (by cases k'<;>simp only[IntKind.wrap,IntKind.bits,IntKind.signed,IntKind.min,IntKind.max] at* <;>simp at* <;>omega)
-- strings
theorem SM (l:List UInt8):(ByteArray.mk l.toArray).size=l.length:=by simp[ByteArray.size]
def VX (ht:P.underlying t=some .string)(hx:look e x=some (S l)):Y P e ⟨d,.call ⟨.builtin .len,#[x],#[t]⟩,ty,pos,aft,g⟩ (I (l.length:Int)) w w:=fun ρ hρ=>by
 simp[go_sem,hρ _ _ hx,run_len_string w t ty _ ht,SM]
def zgP (ht:P.underlying t=some .string)(hx:look e x=some (S l))(hy:look e y=some (.int k (n:Int)))(hn:n<l.length):Y P e ⟨d,.index t x y,ty,pos,aft,g⟩ (.int .u8 ((l.getD n 0).toNat:Int)) w w:=fun ρ hρ=>by
 have h1:(0:Int)<=(n:Int)/\(n:Int)<((ByteArray.mk l.toArray).size:Int):=by rw[SM];omega
 have h2:((ByteArray.mk l.toArray)[n]'(by rw[SM];exact hn))=l.getD n 0:=by
  simp[List.getD,hn]
  rfl
 simp only[execOp,hρ _ _ hx,hρ _ _ hy,run_index_string w t _ k _ ht,Sem.run_bind,dif_pos h1,Result.andThen_ok,Sem.run_pure,Int.toNat_natCast,h2]
def Yl (hx:look e x=some (S l))(hy:look e y=some (S l'))(h:l.length+l'.length<=9223372036854775807):Y P e ⟨d,.binOp .add t x y t',ty,pos,aft,g⟩ (S (l++l')) w w:=fun ρ hρ=>by
 have h1:(Op.stringOp .add ⟨l.toArray⟩ ⟨l'.toArray⟩).run P w= .ok (.string (⟨l.toArray⟩++⟨l'.toArray⟩)) w:=run_string_add_sum w _ _ (by rw[SM,SM];exact h)
 have h2:((⟨l.toArray⟩:ByteArray)++(⟨l'.toArray⟩:ByteArray))=⟨(l++l').toArray⟩:=by
  apply ByteArray.ext;apply Array.toList_inj.1;rw[Joins.data_append]
 simp only[execOp,hρ _ _ hx,hρ _ _ hy,eqGuard_add,binOp_string_add,pure_bind,Sem.run_bind,h1,h2,Result.andThen_ok,Sem.run_pure]
def ziz (hx:look e x=some (S l))(hy:look e y=some (S l')):Y P e ⟨d,.binOp .eql t x y t',ty,pos,aft,g⟩ (.bool (decide (l=l'))) w w:=fun ρ hρ=>by
 have:(l==l')=decide (l=l'):=by by_cases h:l=l'<;>simp[h]
 simp[execOp,go_sem,hρ _ _ hx,hρ _ _ hy,this]
theorem WQ (l:List UInt8)(i j:Nat):(ByteArray.mk l.toArray).extract i j=⟨((l.drop i).take (j-i)).toArray⟩:=by
 apply ByteArray.ext
 apply Array.toList_inj.1
 rw[Lib.extract_data]
def zff {y':Operand}{i j:Nat}(ht:P.underlying t=some .string)(hx:look e x=some (S l))(hy:look e y=some (.int k (i:Int)))(hy':look e y'=some (.int k' (j:Int)))(h:i<=j/\j<=l.length):
  Y P e ⟨d,.slice t x (some y) (some y') none,ty,pos,aft,g⟩ (S ((l.drop i).take (j-i))) w w:=fun ρ hρ=>by
 have h1:∀w,(Instr.sliceBound (.int k' (j:Int)) (ByteArray.mk l.toArray).size .sliceAlen).run P w= .ok j w:=λw=>by rw[run_sliceBound _ _ _ _ _ ω (by rw[SM];omega)];simp
 have h2:∀w,(Instr.sliceBound (.int k (i:Int)) j .sliceB).run P w= .ok i w:=λw=>by rw[run_sliceBound _ _ _ _ _ ω ω];simp
 simp[execOp,hρ _ _ hx,hρ _ _ hy,hρ _ _ hy',Instr.sliceAt,run_underlying ht,Instr.slice,Instr.sliceBounds,h1,h2,WQ]
def zer {i:Nat}(ht:P.underlying t=some .string)(hx:look e x=some (S l))(hy:look e y=some (.int k (i:Int)))(h:i<=l.length):
  Y P e ⟨d,.slice t x (some y) none none,ty,pos,aft,g⟩ (S (l.drop i)) w w:=fun ρ hρ=>by
 have h2:∀w,(Instr.sliceBound (.int k (i:Int)) l.length .sliceB).run P w= .ok i w:=λw=>by rw[run_sliceBound _ _ _ _ _ ω ω];simp
 have h3:(l.drop i).take (l.length-i)=l.drop i:=List.take_of_length_le ξ
 simp[execOp,hρ _ _ hx,hρ _ _ hy,Instr.sliceAt,run_underlying ht,Instr.slice,Instr.sliceBounds,h2,WQ,SM,h3]
def zeY {j:Nat}(ht:P.underlying t=some .string)(hx:look e x=some (S l))(hy:look e y=some (.int k (j:Int)))(h:j<=l.length):
  Y P e ⟨d,.slice t x none (some y) none,ty,pos,aft,g⟩ (S (l.take j)) w w:=fun ρ hρ=>by
 have h1:∀w,(Instr.sliceBound (.int k (j:Int)) (ByteArray.mk l.toArray).size .sliceAlen).run P w= .ok j w:=λw=>by rw[run_sliceBound _ _ _ _ _ ω (by rw[SM];omega)];simp
 simp[execOp,hρ _ _ hx,hρ _ _ hy,Instr.sliceAt,run_underlying ht,Instr.slice,Instr.sliceBounds,h1,WQ]
def ymi (hx:look e x=some (I a))(hy:look e y=some (I b)){ts:Array TypeId}:Y P e ⟨d,.call ⟨.builtin .min,#[x,y],ts⟩,ty,pos,aft,g⟩ (I (min a b)) w w:=fun ρ hρ=>by
 have:(if b<a then b else a)=min a b:=by omega
 simp[go_sem,hρ _ _ hx,hρ _ _ hy,Builtin.min_,Builtin.min2,this]
def yma (hx:look e x=some (I a))(hy:look e y=some (I b)){ts:Array TypeId}:Y P e ⟨d,.call ⟨.builtin .max,#[x,y],ts⟩,ty,pos,aft,g⟩ (I (max a b)) w w:=fun ρ hρ=>by
 have:(if a<b then b else a)=max a b:=by omega
 simp[go_sem,hρ _ _ hx,hρ _ _ hy,Builtin.max_,Builtin.max2,this]
-- the same with the numbers written out
def ze6 (hx:look e x=some (.int .u32 (m:Int)))(hy:look e y=some (.int .u32 (n:Int))):Y P e ⟨d,.binOp .add t x y t',ty,pos,aft,g⟩ (.int .u32 (((m+n)%4294967296:Nat):Int)) w w:=zd3 hx hy O
def zeS (hx:look e x=some (.int .u64 (m:Int)))(hy:look e y=some (.int .u64 (n:Int))):Y P e ⟨d,.binOp .add t x y t',ty,pos,aft,g⟩ (.int .u64 (((m+n)%18446744073709551616:Nat):Int)) w w:=zd3 hx hy O
def zgW (hx:look e x=some (.int .u8 (m:Int)))(hy:look e y=some (.int .u8 (n:Int)))(hm:m<256)(hn:n<256):Y P e ⟨d,.binOp .and t x y t',ty,pos,aft,g⟩ (.int .u8 ((m&&&n:Nat):Int)) w w:=zaE hx hy O hm hn
def zej (hx:look e x=some (.int .u32 (m:Int)))(hy:look e y=some (.int .u32 (n:Int)))(hm:m<4294967296)(hn:n<4294967296):Y P e ⟨d,.binOp .and t x y t',ty,pos,aft,g⟩ (.int .u32 ((m&&&n:Nat):Int)) w w:=zaE hx hy O hm hn
def zci (hx:look e x=some (.int .u64 (m:Int)))(hy:look e y=some (.int .u64 (n:Int)))(hm:m<18446744073709551616)(hn:n<18446744073709551616):Y P e ⟨d,.binOp .and t x y t',ty,pos,aft,g⟩ (.int .u64 ((m&&&n:Nat):Int)) w w:=zaE hx hy O hm hn
def zfe (hx:look e x=some (.int .u8 (m:Int)))(hy:look e y=some (.int .u8 (n:Int)))(hm:m<256)(hn:n<256):Y P e ⟨d,.binOp .or t x y t',ty,pos,aft,g⟩ (.int .u8 ((m |||n:Nat):Int)) w w:=zdK hx hy O hm hn
def zcA (hx:look e x=some (.int .u64 (m:Int)))(hy:look e y=some (.int .u64 (n:Int)))(hm:m<18446744073709551616)(hn:n<18446744073709551616):Y P e ⟨d,.binOp .or t x y t',ty,pos,aft,g⟩ (.int .u64 ((m |||n:Nat):Int)) w w:=zdK hx hy O hm hn
def zeP (hx:look e x=some (.int .u32 (m:Int)))(hy:look e y=some (.int .u32 (n:Int)))(hm:m<4294967296)(hn:n<4294967296):Y P e ⟨d,.binOp .xor t x y t',ty,pos,aft,g⟩ (.int .u32 ((m^^^n:Nat):Int)) w w:=zd2 hx hy O hm hn
def zbB (hx:look e x=some (.int .u64 (m:Int)))(hy:look e y=some (.int .u64 (n:Int)))(hm:m<18446744073709551616)(hn:n<18446744073709551616):Y P e ⟨d,.binOp .xor t x y t',ty,pos,aft,g⟩ (.int .u64 ((m^^^n:Nat):Int)) w w:=zd2 hx hy O hm hn
def zeA (hx:look e x=some (.int .u32 (m:Int)))(hm:m<4294967296):Y P e ⟨d,.unOp .neg t x,ty,pos,aft,g⟩ (.int .u32 (((4294967296-m)%4294967296:Nat):Int)) w w:=zij hx O hm
def ze9 (hx:look e x=some (.int .u32 (m:Int)))(hm:m<4294967296):Y P e ⟨d,.unOp .xor t x,ty,pos,aft,g⟩ (.int .u32 ((4294967295^^^m:Nat):Int)) w w:=zgp hx O hm
def zgU (c:Nat)(hx:look e x=some (.int .u8 (m:Int)))(hy:look e y=some (.int k' (c:Int)))(hc:c<=8):Y P e ⟨d,.binOp .shl t x y t',ty,pos,aft,g⟩ (.int .u8 (((m*2^c)%256:Nat):Int)) w w:=zds c hx hy O hc
def zc2 (c:Nat)(hx:look e x=some (.int .u64 (m:Int)))(hy:look e y=some (.int k' (c:Int)))(hc:c<=64):Y P e ⟨d,.binOp .shl t x y t',ty,pos,aft,g⟩ (.int .u64 (((m*2^c)%18446744073709551616:Nat):Int)) w w:=zds c hx hy O hc
def zgb (hx:look e x=some (.int k (m:Int)))(hs:P.underlying t=some (.int k))(hd:P.underlying t'=some (.int .u8)):Y P e ⟨d,.convert t t' x,ty,pos,aft,g⟩ (.int .u8 ((m%256:Nat):Int)) w w:=zcV hx hs hd O
def zen (hx:look e x=some (.int k (m:Int)))(hs:P.underlying t=some (.int k))(hd:P.underlying t'=some (.int .u32)):Y P e ⟨d,.convert t t' x,ty,pos,aft,g⟩ (.int .u32 ((m%4294967296:Nat):Int)) w w:=zcV hx hs hd O
def Ps (hx:look e x=some (.int k a))(hs:P.underlying t=some (.int k))(hd:P.underlying t'=some (.int .i64))(h:JIq a):Y P e ⟨d,.convert t t' x,ty,pos,aft,g⟩ (.int .i64 a) w w:=zeW hx hs hd h
def PO (hx:look e x=some (.int k a))(hs:P.underlying t=some (.int k))(hd:P.underlying t'=some (.int .u64))(h:0<=a/\a<=18446744073709551615):Y P e ⟨d,.convert t t' x,ty,pos,aft,g⟩ (.int .u64 a) w w:=zeW hx hs hd h
def zam {c:UInt8}(hx:look e x=some (.int .u8 (c.toNat:Int)))(hs:P.underlying t=some (.int .u8))(hd:P.underlying t'=some (.int k'))(hk:255<=k'.max):Y P e ⟨d,.convert t t' x,ty,pos,aft,g⟩ (.int k' (c.toNat:Int)) w w:=
 zeW hx hs hd ⟨by have:k'.min<=0:=(by cases k'<;>decide);omega,by have:=c.toNat_lt;omega⟩
-- .. of whatever integers that are natural numbers
section
variable {za zb:Int}[ha:T3 za m][hb:T3 zb n]
def Uk (c p:Nat)(hx:look e x=some (.int k za))(hy:look e y=some (.int k' (c:Int)))(hc:c<=k.bits)(hp:2^c=p):Y P e ⟨d,.binOp .shr t x y t',ty,pos,aft,g⟩ (.int k ((m / p:Nat):Int)) w w:=by
 obtain⟨rfl⟩:=ha;subst hp;exact zh7 c hx hy hc
def ziy (c p:Nat)(hx:look e x=some (.int .u8 za))(hy:look e y=some (.int k' (c:Int)))(hc:c<=8)(hp:2^c=p):Y P e ⟨d,.binOp .shl t x y t',ty,pos,aft,g⟩ (.int .u8 (((m*p)%256:Nat):Int)) w w:=by
 obtain⟨rfl⟩:=ha;subst hp;exact zgU c hx hy hc
def R6 (c p:Nat)(hx:look e x=some (.int .u64 za))(hy:look e y=some (.int k' (c:Int)))(hc:c<=64)(hp:2^c=p):Y P e ⟨d,.binOp .shl t x y t',ty,pos,aft,g⟩ (.int .u64 (((m*p)%18446744073709551616:Nat):Int)) w w:=by
 obtain⟨rfl⟩:=ha;subst hp;exact zc2 c hx hy hc
def zfZ (hx:look e x=some (.int .u32 za))(hy:look e y=some (.int .u32 zb)):Y P e ⟨d,.binOp .add t x y t',ty,pos,aft,g⟩ (.int .u32 (((m+n)%4294967296:Nat):Int)) w w:=by obtain⟨rfl⟩:=ha;obtain⟨rfl⟩:=hb;exact ze6 hx hy
def UL (hx:look e x=some (.int .u64 za))(hy:look e y=some (.int .u64 zb)):Y P e ⟨d,.binOp .add t x y t',ty,pos,aft,g⟩ (.int .u64 (((m+n)%18446744073709551616:Nat):Int)) w w:=by obtain⟨rfl⟩:=ha;obtain⟨rfl⟩:=hb;exact zeS hx hy
def zj0 (hx:look e x=some (.int .u8 za))(hy:look e y=some (.int .u8 zb))(hm:m<256)(hn:n<256):Y P e ⟨d,.binOp .and t x y t',ty,pos,aft,g⟩ (.int .u8 ((m&&&n:Nat):Int)) w w:=by obtain⟨rfl⟩:=ha;obtain⟨rfl⟩:=hb;exact zgW hx hy hm hn
def zdh (hx:look e x=some (.int .u32 za))(hy:look e y=some (.int .u32 zb))(hm:m<4294967296)(hn:n<4294967296):Y P e ⟨d,.binOp .and t x y t',ty,pos,aft,g⟩ (.int .u32 ((m&&&n:Nat):Int)) w w:=by obtain⟨rfl⟩:=ha;obtain⟨rfl⟩:=hb;exact zej hx hy hm hn
def Ul (hx:look e x=some (.int .u64 za))(hy:look e y=some (.int .u64 zb))(hm:m<18446744073709551616)(hn:n<18446744073709551616):Y P e ⟨d,.binOp .and t x y t',ty,pos,aft,g⟩ (.int .u64 ((m&&&n:Nat):Int)) w w:=by obtain⟨rfl⟩:=ha;obtain⟨rfl⟩:=hb;exact zci hx hy hm hn
def zjc (hx:look e x=some (.int .u8 za))(hy:look e y=some (.int .u8 zb))(hm:m<256)(hn:n<256):Y P e ⟨d,.binOp .or t x y t',ty,pos,aft,g⟩ (.int .u8 ((m |||n:Nat):Int)) w w:=by obtain⟨rfl⟩:=ha;obtain⟨rfl⟩:=hb;exact zfe hx hy hm hn
def z0j (hx:look e x=some (.int .u64 za))(hy:look e y=some (.int .u64 zb))(hm:m<18446744073709551616)(hn:n<18446744073709551616):Y P e ⟨d,.binOp .or t x y t',ty,pos,aft,g⟩ (.int .u64 ((m |||n:Nat):Int)) w w:=by obtain⟨rfl⟩:=ha;obtain⟨rfl⟩:=hb;exact zcA hx hy hm hn
def zcX (hx:look e x=some (.int .u32 za))(hy:look e y=some (.int .u32 zb))(hm:m<4294967296)(hn:n<4294967296):Y P e ⟨d,.binOp .xor t x y t',ty,pos,aft,g⟩ (.int .u32 ((m^^^n:Nat):Int)) w w:=by obtain⟨rfl⟩:=ha;obtain⟨rfl⟩:=hb;exact zeP hx hy hm hn
def z1n (hx:look e x=some (.int .u64 za))(hy:look e y=some (.int .u64 zb))(hm:m<18446744073709551616)(hn:n<18446744073709551616):Y P e ⟨d,.binOp .xor t x y t',ty,pos,aft,g⟩ (.int .u64 ((m^^^n:Nat):Int)) w w:=by obtain⟨rfl⟩:=ha;obtain⟨rfl⟩:=hb;exact zbB hx hy hm hn
def Xf (hx:look e x=some (I za))(hy:look e y=some (I zb))(hm:m<=9223372036854775807)(hn:n<=9223372036854775807):Y P e ⟨d,.binOp .and t x y t',ty,pos,aft,g⟩ (I ((m&&&n:Nat):Int)) w w:=by obtain⟨rfl⟩:=ha;obtain⟨rfl⟩:=hb;exact ze3 hx hy ω ω
def zfg (hx:look e x=some (.int .u32 za))(hm:m<4294967296):Y P e ⟨d,.unOp .neg t x,ty,pos,aft,g⟩ (.int .u32 (((4294967296-m)%4294967296:Nat):Int)) w w:=by obtain⟨rfl⟩:=ha;exact zeA hx hm
def zdL (hx:look e x=some (.int .u32 za))(hm:m<4294967296):Y P e ⟨d,.unOp .xor t x,ty,pos,aft,g⟩ (.int .u32 ((4294967295^^^m:Nat):Int)) w w:=by obtain⟨rfl⟩:=ha;exact ze9 hx hm
def zcG (hx:look e x=some (.int k za))(hs:P.underlying t=some (.int k))(hd:P.underlying t'=some (.int .u8)):Y P e ⟨d,.convert t t' x,ty,pos,aft,g⟩ (.int .u8 ((m%256:Nat):Int)) w w:=by obtain⟨rfl⟩:=ha;exact zgb hx hs hd
def z3T (hx:look e x=some (.int k za))(hs:P.underlying t=some (.int k))(hd:P.underlying t'=some (.int .u32)):Y P e ⟨d,.convert t t' x,ty,pos,aft,g⟩ (.int .u32 ((m%4294967296:Nat):Int)) w w:=by obtain⟨rfl⟩:=ha;exact zen hx hs hd
def zgH (ht:P.underlying t=some .string)(hx:look e x=some (S l))(hy:look e y=some (.int k za))(hn:m<l.length):Y P e ⟨d,.index t x y,ty,pos,aft,g⟩ (.int .u8 ((l.getD m 0).toNat:Int)) w w:=by obtain⟨rfl⟩:=ha;exact zgP ht hx hy hn
def zjf {y':Operand}(ht:P.underlying t=some .string)(hx:look e x=some (S l))(hy:look e y=some (.int k za))(hy':look e y'=some (.int k' zb))(h:m<=n/\n<=l.length):
  Y P e ⟨d,.slice t x (some y) (some y') none,ty,pos,aft,g⟩ (S ((l.drop m).take (n-m))) w w:=by obtain⟨rfl⟩:=ha;obtain⟨rfl⟩:=hb;exact zff ht hx hy hy' h
def z0Q (ht:P.underlying t=some .string)(hx:look e x=some (S l))(hy:look e y=some (.int k za))(h:m<=l.length):
  Y P e ⟨d,.slice t x (some y) none none,ty,pos,aft,g⟩ (S (l.drop m)) w w:=by obtain⟨rfl⟩:=ha;exact zer ht hx hy h
def z4T (ht:P.underlying t=some .string)(hx:look e x=some (S l))(hy:look e y=some (.int k za))(h:m<=l.length):
  Y P e ⟨d,.slice t x none (some y) none,ty,pos,aft,g⟩ (S (l.take m)) w w:=by obtain⟨rfl⟩:=ha;exact zeY ht hx hy h
end
end
def Yp (P:Program)(e:Env)(o:Oper)(w:World)(Post:Value->World->Prop):Prop:=∃v w',Y P e o v w w'/\Post v w'
def Zp (P:Program)(e:Env)(o:Oper)(w:World)(Post:World->Prop):Prop:=∃w',Z P e o w w'/\Post w'
section
variable {D:RC}{l:List Oper}{e:Env}{w:World}{d:Nat}{op:Op}{ty:TypeId}{pos:String}{aft:Array Edge}{g:Option (Nat×Bool)}
def Oy {Post:Value->World->Prop}(ho:RZ D e g true=true)(hd:Nat.blt d D.C.n=true)(hy:Yp D.C.P e ⟨some d,op,ty,pos,aft,g⟩ w Post)(h:∀v w',Post v w'->RL D l ((d,v)::e) w'):
  RL D (⟨some d,op,ty,pos,aft,g⟩::l) e w:=by
 obtain⟨v,w',hy,hp⟩:=hy
 exact UR ho hd hy (h v w' hp)
def z9z {Post:Value->World->Prop}(ho:RZ D e g true=true)(hy:Yp D.C.P e ⟨none,op,ty,pos,aft,g⟩ w Post)(h:∀v w',Post v w'->RL D l e w'):
  RL D (⟨none,op,ty,pos,aft,g⟩::l) e w:=by
 obtain⟨v,w',hy,hp⟩:=hy
 exact zhq ho hy (h v w' hp)
def OJ {Post:World->Prop}(ho:RZ D e g true=true)(hy:Zp D.C.P e ⟨none,op,ty,pos,aft,g⟩ w Post)(h:∀w',Post w'->RL D l e w'):
  RL D (⟨none,op,ty,pos,aft,g⟩::l) e w:=by
 obtain⟨w',hy,hp⟩:=hy
 exact zjF ho hy (h w' hp)
end
section
variable {D:RC}{S:World->Prop}{e:Env}{w:World}{d i fuel:Nat}{op:Op}{ty:TypeId}{pos:String}{aft:Array Edge}{g:Option (Nat×Bool)}{listed:Array Bool}
def ZC {Post:Value->World->Prop}(hi:D.ops[i]? =some ⟨some d,op,ty,pos,aft,g⟩)(ho:RZ D e g true=true)(hd:Nat.blt d D.C.n=true)
  (hy:Yp D.C.P e ⟨some d,op,ty,pos,aft,g⟩ w Post) (h:∀v w',Post v w'->S w'/\RH D S fuel (listed.setIfInBounds i true) ((d,v)::e) w'):Nx D S fuel listed e w i:=by
 obtain⟨v,w',hy,hp⟩:=hy
 exact zgy hi ho hd hy (h v w' hp).1 (h v w' hp).2
def Pt {Post:World->Prop}(hi:D.ops[i]? =some ⟨none,op,ty,pos,aft,g⟩)(ho:RZ D e g true=true)
  (hy:Zp D.C.P e ⟨none,op,ty,pos,aft,g⟩ w Post) (h:∀w',Post w'->S w'/\RH D S fuel (listed.setIfInBounds i true) e w'):Nx D S fuel listed e w i:=by
 obtain⟨w',hy,hp⟩:=hy
 exact zj3 hi ho hy (h w' hp).1 (h w' hp).2
def zbd {Post:Value->World->Prop}(hi:D.ops[i]? =some ⟨none,op,ty,pos,aft,g⟩)(ho:RZ D e g true=true)
  (hy:Yp D.C.P e ⟨none,op,ty,pos,aft,g⟩ w Post) (h:∀v w',Post v w'->S w'/\RH D S fuel (listed.setIfInBounds i true) e w'):Nx D S fuel listed e w i:=by
 obtain⟨v,w',hy,hp⟩:=hy
 exact zhn hi ho hy (h v w' hp).1 (h v w' hp).2
end
theorem Rb (b i j:Nat):(⟨b,i,none⟩:Addr).add j=⟨b,i+j,none⟩:=by
 unfold Addr.add
 split
 ·simp_all
 ·rfl
/-! ### Slices -/
def Rd (w:World)(v:Value)(size n:Nat)(cs:List Value):Prop:=
 cs.length=n*size/\((∃c:Option Addr×Nat,v= .slice c.1 0 c.2/\n=0)\/∃b off cap,v= .slice (some ⟨b,off,none⟩) n cap/\∀j u,cs[j]? =some u->w.cell? ⟨b,off+j,none⟩=some u)
def Sl (w:World)(v:Value)(e:TypeId)(size n:Nat)(cs:List Value):Prop:=w.ownsRow 0 e size v n cs
section
variable {w w':World}{v:Value}{e size n:Nat}{cs:List Value}{S:Nat->Prop}
theorem Sl.len (h:Sl w v e size n cs):cs.length=n*size:=h.1
def Sl.lt (h:Sl w v e size n cs){g:Nat}(hg:v.ownBlock=some g):g<w.heap.size:=(World.ownsRow.lt h g hg).2
theorem Sl.nil (w:World)(e size:Nat):Sl w (.slice none 0 0) e size 0 []:=World.ownsRow_nil w 0 e size
def Sl.kp (h:Sl w v e size n cs)(k:Kp S w w')(hn:∀g,v.ownBlock=some g->¬S g):Sl w' v e size n cs:=by
 refine⟨h.1,?_⟩
 rcases h.2 with hz|⟨g,cap,cur,rfl,hb,hg,r⟩
 ·exact .inl hz
 ·exact .inr ⟨g,cap,cur,rfl,hb,k.heap hg (hn g O),r⟩
def Sl.ext (h:Sl w v e size n cs)(k:Ext w w'):Sl w' v e size n cs:=h.kp k λ_ _=>id
theorem Sl.rd (h:Sl w v e size n cs):Rd w v size n cs:=by
 refine⟨h.1,?_⟩
 rcases h.2 with⟨hz,hn⟩|⟨g,cap,cur,hv,hb,hg,hn,hm,hs,ht⟩
 ·exact .inl ⟨(none,0),hz,hn⟩
 ·refine .inr ⟨g,0,cap,hv,λj u hu=>?_⟩;have hc:=World.ownsRow.cells h (g:=g) (by rw[hv];rfl) j u hu;rw[Rb] at hc;exact hc
def Sl.shape (h:Sl w v e size n cs):(v= .slice none 0 0/\n=0)\/∃g cap,v= .slice (some ⟨g,0,none⟩) n cap/\n<=cap:=by
 rcases h.2 with hz|⟨g,cap,cur,hv,hb,hg,hn,r⟩
 ·exact .inl hz
 ·exact .inr ⟨g,cap,hv,hn⟩
def Rd.kp (h:Rd w v size n cs)(k:Kp S w w')(hn:∀g,v.ownBlock=some g->¬S g):Rd w' v size n cs:=by
 refine⟨h.1,?_⟩
 rcases h.2 with hz|⟨b,off,cap,rfl,hc⟩
 ·exact .inl hz
 ·refine .inr ⟨b,off,cap,rfl,λj u hu=>?_⟩;have h1:=hc j u hu;have hlt:b<w.heap.size:=World.block_lt_of_cell? w _ h1;rw[World.cell?_of_block (w:=w) (a:=⟨b,off+j,none⟩) (k.block b hlt (hn b O))];exact h1
def Rd.ext (h:Rd w v size n cs)(k:Ext w w'):Rd w' v size n cs:=h.kp k λ_ _=>id
def Rd.shape (h:Rd w v size n cs):∃a cap,v= .slice a n cap/\(a=none->n=0):=by
 rcases h.2 with⟨c,hv,hn⟩|⟨b,off,cap,hv,-⟩
 ·subst hn;exact⟨c.1,c.2,hv,λ_=>rfl⟩
 ·exact⟨_,cap,hv,λh=>by cases h⟩
end
def Kp.Uo {w w':World}{row:Option Nat}(h:w.grownBy w' row):Kp (λk=>row=some k) w w':=
 ⟨h.os,h.tape,h.output,h.size,λk hk hn=>h.block k hk λhh=>hn hh.symm⟩
def zcg {P:Program}(w:World)(t ty e:TypeId)(i:TypeInfo)(z:Value)(size bytes:Nat)(ht:P.underlying t=some (.slice e))(hi:P.info? e=some i)(hz:i.zero=some z)
  (hsize:i.size=size) (hby:i.bytes=bytes) (hzs:z.cells.size=size) (hsz:0<size)
  (v:Value) (n:Nat) (xs:List Value) (hown:Sl w v e size n xs) (x:Value) (m:Nat) (news:List Value) (hrd:Rd w x size m news) (h1:∀u∈news,u.oneCell'=true)
  (hbytes:(n+m)*bytes<=140737488355328) (h63:n+m<=maxLen):
  ∃ v' w', (Builtin.append_ #[t, t] ty #[v, x]).run P w = .ok v' w' /\ Sl w' v' e size (n + m) (xs ++ news) /\ Kp (λk => v.ownBlock = some k) w w' /\
    (∀g,v'.ownBlock=some g->v.ownBlock=some g\/w.heap.size<=g)/\(v'= .slice none 0 0↔v= .slice none 0 0/\m=0):=by
 subst hsize
 subst hby
 have hsmall:n+m<=9223372036854775807:=by simp only[maxLen] at h63;omega
 rcases hrd.2 with⟨⟨ca,c⟩,rfl,rfl⟩|⟨b,off,cap,rfl,hcells⟩
 ·have hnil:news=[]:=List.eq_nil_of_length_eq_zero (by simpa using hrd.1);subst hnil
  have hr:(Builtin.append_ #[t,t] ty #[v,.slice ca 0 c]).run P w= .ok v w:=by
   cases ca<;>
   rcases hown.2 with⟨rfl,rfl⟩|⟨g,cap,cur,rfl,hbg,hg,hnc,hcm,hcs,htake⟩
   ·simp[Builtin.append_,run_underlying ht,sizeOf,typeInfo,hi,Builtin.lenOf,Builtin.firstCells]
   ·simp[Builtin.append_,run_underlying ht,sizeOf,typeInfo,hi,Builtin.lenOf,Builtin.firstCells,hnc,storeCells]
   ·simp[Builtin.append_,run_underlying ht,sizeOf,typeInfo,hi,Builtin.lenOf,Builtin.firstCells,loadCells,loadCellsFrom]
   ·simp[Builtin.append_,run_underlying ht,sizeOf,typeInfo,hi,Builtin.lenOf,Builtin.firstCells,hnc,storeCells,loadCells,loadCellsFrom]
  exact⟨v,w,hr,by simpa using hown,Kp.refl _ _,λg hg=> .inl hg,ξ⟩
 ·have hnews:∀j u,news[j]? =some u->w.cell? ((⟨b,off,none⟩:Addr).add j)=some u:=λj u hu=>by rw[Rb];exact hcells j u hu
  rcases hown.2 with⟨rfl,rfl⟩|⟨g,cap',cur,rfl,hbg,hg,hnc,hcm,hcs,htake⟩
  ·have hx:xs=[]:=List.eq_nil_of_length_eq_zero (by simpa using hown.1);subst hx;by_cases hm:m=0
   ·subst hm;have hn:news=[]:=List.eq_nil_of_length_eq_zero (by simpa using hrd.1);subst hn;refine⟨.slice none 0 0,w,?_,Sl.nil w e i.size,Kp.refl _ _,by simp[Value.ownBlock],ξ⟩;simp[Builtin.append_,run_underlying ht,sizeOf,typeInfo,hi,Builtin.lenOf,Builtin.firstCells,loadCells,loadCellsFrom]
   ·have hr:=run_append_nil (P:=P) w t ty e i z ht hi hz ⟨b,off,none⟩ m cap news hrd.1 hnews ω ω (by have hb:=hbytes;simp only[Nat.zero_add] at hb;omega);obtain⟨v',w',hr',ho',hg',hnil'⟩:=run_append_own (P:=P) w w.heap.size t ty e i z i.size i.bytes ht hi hz O O hzs hsz (.slice none 0 0) 0 [] (World.ownsRow_nil w w.heap.size e i.size) ⟨b,off,none⟩ m cap news hrd.1 hnews h1 h63 hbytes (Nat.le_refl _);refine⟨v',w',hr',⟨ho'.1,?_⟩,Kp.Uo hg',λg hg=> .inr (World.ownsRow.lt ho' g hg).1,hnil'⟩;rcases ho'.2 with hz'|⟨g,cap2,cur2,hv2,hb2,hr2⟩
    ·exact .inl hz'
    ·exact .inr ⟨g,cap2,cur2,hv2,Nat.zero_le _,hr2⟩
  ·by_cases hroom:n+m<=cap'
   ·obtain⟨w',hr',ho',hg'⟩:=run_append_fits (P:=P) w 0 t ty e i i.size ht hi O g n cap' xs hown ⟨b,off,none⟩ m cap news hrd.1 hnews h1 hroom;exact⟨_,w',hr',ho',Kp.Uo hg',λg' hg'=> .inl (by simpa[Value.ownBlock] using hg'),ξ⟩
   ·have holds:∀j u,xs[j]? =some u->w.cell? ((⟨g,0,none⟩:Addr).add j)=some u:=World.ownsRow.cells hown (g:=g) O;have hr:=run_append_grow (P:=P) w t ty e i z ht hi hz ⟨g,0,none⟩ n cap' xs hown.1 holds ⟨b,off,none⟩ m cap news hrd.1 hnews ω ω (growslice_fits ω hbytes);have hge:=grownCap_ge w (n+m) cap' e;have hlen:(xs++news).length=(n+m)*i.size:=by rw[List.length_append,hown.1,hrd.1,Nat.add_mul]
    refine⟨_,_,hr,⟨hlen,.inr ⟨w.heap.size,_,_,rfl,Nat.zero_le _,heap_alloc_new w.drew _,hge,grownCap_le_maxLen w (n+m) cap' e h63,?_,?_⟩⟩,?_,λg' hg'=> .inr (by simp[Value.ownBlock] at hg';omega),ξ⟩
    ·simp only[Array.size_append,List.size_toArray,size_zeroCells,hzs,hown.1,hrd.1,<-Nat.add_mul]
     congr 1
     omega
    ·simp only[Array.toList_append,List.append_assoc];rw[<-List.append_assoc,<-hlen];exact List.take_left
    ·exact⟨rfl,rfl,rfl,ξ,λk hk _=>Below.heap_alloc w.drew _ k hk⟩
section
variable {P:Program}{e:Env}{d:Option Nat}{ty t el:TypeId}{pos:String}{aft:Array Edge}{g:Option (Nat×Bool)}{x y:Operand}{w w':World}{k k':IntKind}{m n:Nat}{u v z:Value}{l:List UInt8}{cs news:List Value}{b i size bytes off:Nat}{T:TypeId}{td:TypeDesc}{agg:Bool}
/-! ### Loads and stores -/
def OB (hu:P.underlying t=some td)(ha:aggOf td=false)(hx:look e x=some (ptr b i))(hB:OE w b cs T)(hi:cs[i]? =some v):Y P e ⟨d,.load t x,ty,pos,aft,g⟩ v w w:=fun ρ hρ=>by
 have hc:w.cell? ⟨b,i,none⟩=some v:=by rw[hB.cell];exact hi
 simp only[execOp,hρ _ _ hx,Instr.loadAt,Instr.sureAddr,loadVar,pure_bind,Sem.run_bind,SQ hu,ha,Result.andThen_ok,Bool.false_eq_true,if_false,run_load,hc,Sem.run_pure]
def Pc (hu:P.underlying t=some td)(ha:aggOf td=false){a:Addr}(hx:look e x=some (.pointer (some a)))(hc:w.cell? a=some v):Y P e ⟨d,.load t x,ty,pos,aft,g⟩ v w w:=fun ρ hρ=>by
 simp only[execOp,hρ _ _ hx,Instr.loadAt,Instr.sureAddr,loadVar,pure_bind,Sem.run_bind,SQ hu,ha,Result.andThen_ok,Bool.false_eq_true,if_false,run_load,hc,Sem.run_pure]
theorem Pa (hu:P.underlying t=some td)(ha:aggOf td=true)(hs:TI P t z n bytes)(hx:look e x=some (ptr b i))(hc:∀j u,news[j]? =some u->w.cell? ⟨b,i+j,none⟩=some u)(hn:news.length=n):
  Y P e ⟨d,.load t x,ty,pos,aft,g⟩ (.agg news.toArray) w w:=fun ρ hρ=>by
 have hl:=run_loadCells_list (P:=P) w ⟨b,i,none⟩ news (λj v hj=>by rw[Rb];exact hc j v hj)
 rw[hn] at hl
 simp only[execOp,hρ _ _ hx,Instr.loadAt,Instr.sureAddr,loadVar,pure_bind,Sem.run_bind,SQ hu,ha,Result.andThen_ok,if_true,hs.size,hl,Sem.run_pure]
theorem OE.cells (hB:OE w b cs T)(hn:(cs.drop i).take n=news):∀j u,news[j]? =some u->w.cell? ⟨b,i+j,none⟩=some u:=λj u hj=>by
 subst hn
 rw[hB.cell]
 rw[List.getElem?_take] at hj
 split at hj
 ·simpa using hj
 ·cases hj
def oneV:Value->Bool
 | .agg _| .tuple _=>false
 |_=>true
theorem Vr (h:oneV v=true):v.cells=#[v]:=by cases v<;>simp_all [oneV,Value.cells]
theorem Yx (h:oneV v=true):v.oneCell'=true:=by cases v<;>simp_all [oneV,Value.oneCell']
theorem Qw (hs:TI P t z 1 bytes)(hx:look e x=some (ptr b i))(hy:look e y=some v)(hv:oneV v=true)(hB:OE w b cs T)(hi:i<cs.length):
  Zp P e ⟨d,.store t x y,ty,pos,aft,g⟩ w λw'=>OE w' b (cs.set i v) T/\Kp (λk=>k=b) w w':=by
 refine⟨w.setCell ⟨b,i,none⟩ v,fun ρ hρ=>?_,Wg hB i v,To w b i v⟩
 have hc:w.cell? ⟨b,i,none⟩=some cs[i]:=by rw[hB.cell];simp[hi]
 have hf:=hB.free hi
 have h0:(⟨b,i,none⟩:Addr).add 0=⟨b,i,none⟩:=by rw[Rb];simp
 simp only[execOp,hρ _ _ hx,hρ _ _ hy,Instr.storeAt,Instr.sureAddr,storeVar,pure_bind,Sem.run_bind,hs.size,Result.andThen_ok,Vr hv]
 simp[storeCells,h0,run_store P w _ v _ (Yx hv),hc,hf]
theorem ziC (hs:TI P t z 1 bytes){a:Addr}(hx:look e x=some (.pointer (some a)))(hy:look e y=some v)(hv:oneV v=true)(hc:w.cell? a=some u)(hf:w.frozen? a=false):
  Z P e ⟨d,.store t x y,ty,pos,aft,g⟩ w (w.setCell a v):=fun ρ hρ=>by
 have h0:a.add 0=a:=by simp[Addr.add]
 simp only[execOp,hρ _ _ hx,hρ _ _ hy,Instr.storeAt,Instr.sureAddr,storeVar,pure_bind,Sem.run_bind,hs.size,Result.andThen_ok,Vr hv]
 simp[storeCells,h0,run_store P w _ v _ (Yx hv),hc,hf]
def Qu (cs:List Value)(i:Nat)(vs:List Value):List Value:=cs.take i++vs++cs.drop (i+vs.length)
theorem SJ {P:Program}{b:Nat}{T:TypeId}(o:Nat):∀(vs:List Value) (i:Nat) (cs:List Value) (w:World),OE w b cs T->o+i+vs.length<=cs.length->(∀v∈vs,v.oneCell'=true)->
  ∃w',(storeCells ⟨b,o,none⟩ vs i).run P w= .ok () w'/\OE w' b (Qu cs (o+i) vs) T/\Kp (λk=>k=b) w w'
 |[],i,cs,w,hB,_,_=>⟨w,rfl,by simpa[Qu] using hB,Kp.refl _ _⟩
 | v :: r, i, cs, w, hB, hl, h1 => by
   simp only[List.length_cons] at hl;have hlt:o+i<cs.length:=by omega
   have hc:w.cell? ⟨b,o+i,none⟩=some cs[o+i]:=by rw[hB.cell];simp[hlt]
   have hf:=hB.free hlt;obtain⟨w',hr,hB',hk⟩:=SJ (P:=P) o r (i+1) (cs.set (o+i) v) _ (Wg hB (o+i) v) (by simp;omega) (λu hu=>h1 u (List.mem_cons_of_mem _ hu));refine⟨w',?_,?_,(To w b (o+i) v).trans hk⟩
   ·simp only[storeCells,Sem.run_bind,Rb,run_store P w _ v _ (h1 v (List.mem_cons_self ..)),hc,hf]
    simpa using hr
   ·have he:Qu (cs.set (o+i) v) (o+(i+1)) r=Qu cs (o+i) (v::r):=by
     simp only[Qu,List.length_cons]
     have e1:(cs.set (o+i) v).take (o+(i+1))=cs.take (o+i)++[v]:=by
      rw[show o+(i+1)=(o+i)+1 from by omega,List.take_succ_eq_append_getElem (by simpa using hlt)];simp only[List.take_set,List.getElem_set_self];rw[List.set_eq_of_length_le (by simp;omega)]
     have e2:(cs.set (o+i) v).drop (o+(i+1)+r.length)=cs.drop (o+i+(r.length+1)):=by
      rw[List.drop_set_of_lt ω]
      congr 1
      omega
     rw[e1,e2];simp
    rw[<-he];exact hB'
theorem Py (hs:TI P t z n bytes)(hx:look e x=some (ptr b i))(hy:look e y=some (.agg news.toArray))(hv:news.all oneV=true)(hn:news.length=n)(hB:OE w b cs T)(hi:i+n<=cs.length):
  Zp P e ⟨d,.store t x y,ty,pos,aft,g⟩ w λw'=>OE w' b (Qu cs i news) T/\Kp (λk=>k=b) w w':=by
 obtain⟨w',hr,hB',hk⟩:=SJ (P:=P) i news 0 cs w hB ω (λu hu=>Yx (by have:=List.all_eq_true.1 hv u hu;exact this))
 refine⟨w',fun ρ hρ=>?_,by simpa using hB',hk⟩
 simp only[execOp,hρ _ _ hx,hρ _ _ hy,Instr.storeAt,Instr.sureAddr,storeVar,pure_bind,Sem.run_bind,hs.size,Result.andThen_ok,Value.cells]
 simp[hn,hr]
/-! ### New variables -/
def ZI (w:World)(b:Nat)(cs:List Value)(T:TypeId)(w':World):Prop:=b=w.heap.size/\Ext w w'/\OE w' b cs T
def ZI.mk' (w:World)(cs:List Value)(T:TypeId):ZI w w.heap.size cs T (w.alloc (.cells cs.toArray T)):=⟨rfl,TX w _,zcd w cs T⟩
theorem R9 (hx:look e x=some v)(hv:v.cells=cs.toArray):Yp P e ⟨d,.box t x,ty,pos,aft,g⟩ w λv' w'=>∃b,v'=ptr b 0/\ZI w b cs t w':=by
 refine⟨_,_,fun ρ hρ=>?_,w.heap.size,rfl,ZI.mk' w cs t⟩
 simp[execOp,hρ _ _ hx,Instr.box,newVar,newRow,newObj,Sem.run,hv]
theorem Rq (hs:TI P t z n bytes)(hz:z.cells=cs.toArray):Yp P e ⟨d,.alloc t,ty,pos,aft,g⟩ w λv' w'=>∃b,v'=ptr b 0/\ZI w b cs t w':=by
 refine⟨_,_,fun ρ hρ=>?_,w.heap.size,rfl,ZI.mk' w cs t⟩
 simp[execOp,Instr.alloc,hs.zero,newVar,newRow,newObj,Sem.run,hz]
def pmm:Yp P e ⟨d,.makeMap t none,ty,pos,aft,g⟩ w λv' w'=>∃b,v'= .map (some b)/\b=w.heap.size/\Ext w w'/\w'.heap[b]? =some (.map #[] 0):=by
 refine⟨_,_,fun ρ hρ=>?_,w.heap.size,rfl,rfl,TX w _,W7 w _⟩
 simp[execOp,Instr.makeMap,newObj,Sem.run]
def bl (pl:Nat->Option (Nat×Nat)):List Value->List (Nat×Value)->Option (List Value)
 |cs,[]=>some cs
 | cs, (i, v) :: r => match pl i with
   |none=>none
   | some (off, size) => match Nat.beq v.cells.toList.length size && Nat.ble (off + size) cs.length with
     |true=>bl pl (Qu cs off v.cells.toList) r
     |false=>none
theorem z1H (off:Nat):∀(vs:List Value) (j:Nat) (cs:List Value),off+j+vs.length<=cs.length->
  ((vs.zipIdx j).foldl (λ(cs:Array Value) (p:Value×Nat)=>cs.setIfInBounds (off+p.2) p.1) cs.toArray)=(Qu cs (off+j) vs).toArray
 |[],j,cs,_=>by simp[Qu]
 | v :: r, j, cs, h => by
   simp only[List.length_cons] at h;simp only[List.zipIdx_cons,List.foldl_cons,List.setIfInBounds_toArray];rw[z1H off r (j+1) (cs.set (off+j) v) (by simp;omega)]
   congr 1
   have hlt:off+j<cs.length:=by omega
   simp only[Qu,List.length_cons]
   have e1:(cs.set (off+j) v).take (off+(j+1))=cs.take (off+j)++[v]:=by
    rw[show off+(j+1)=(off+j)+1 from by omega,List.take_succ_eq_append_getElem (by simpa using hlt)];simp only[List.take_set,List.getElem_set_self];rw[List.set_eq_of_length_le (by simp;omega)]
   have e2:(cs.set (off+j) v).drop (off+(j+1)+r.length)=cs.drop (off+j+(r.length+1)):=by
    rw[List.drop_set_of_lt ω]
    congr 1
    omega
   rw[e1,e2];simp
def z0b {pl:Nat->Option (Nat×Nat)}:∀(vs:List (Nat×Value)) (cs cs':List Value),bl pl cs vs=some cs'->Instr.fill pl cs.toArray vs=some cs'.toArray
 |[],cs,cs',h=>by simp[bl] at h;simp[Instr.fill,h]
 | (i, v) :: r, cs, cs', h => by
   simp only[bl] at h;simp only[Instr.fill];split at h
   ·cases h
   ·rename_i off size hpl
    split at h
    ·rename_i hb
     simp only[Bool.and_eq_true] at hb;have h1:v.cells.toList.length=size:=Nat.eq_of_beq_eq_true hb.1;have h2:off+size<=cs.length:=Nat.le_of_ble_eq_true hb.2;simp only[hpl];have hs:v.cells.size=size:=by simpa using h1
     have hc:(decide (v.cells.size≠size) ||decide (off+v.cells.size>cs.toArray.size))=false:=by simp;omega
     rw[if_neg (by rw[hc];simp)];have hf:=z1H off v.cells.toList 0 cs (by simp only[Nat.add_zero];rw[h1];exact h2);simp only[Nat.add_zero] at hf
     have hz:(v.cells.zipIdx.foldl (λ(cs:Array Value) (p:Value×Nat)=>cs.setIfInBounds (off+p.2) p.1) cs.toArray)=(Qu cs off v.cells.toList).toArray:=by
      rw[<-Array.foldl_toList,Array.toList_zipIdx];exact hf
     have:=z0b r _ cs' h;rw[<-hz] at this;exact this
    ·cases h
def lookp (e:Env):List (Nat×Operand)->Option (List (Nat×Value))
 |[]=>some []
 | (i, x) :: r => match look e x, lookp e r with
   |some v,some vs=>some ((i,v)::vs)
   |_,_=>none
theorem z1M {e:Env}{ρ:Operand->Value}(hρ:∀x v,look e x=some v->ρ x=v):∀(l:List (Nat×Operand)) (us:List (Nat×Value)),lookp e l=some us->l.map (λp=>(p.1,ρ p.2))=us
 |[],us,h=>by simp[lookp] at h;simp[h]
 | (i, x) :: r, us, h => by
   simp only[lookp] at h;split at h
   ·rename_i v vs hv hvs
    simp at h;subst h;simp[hρ _ _ hv,z1M hρ r vs hvs]
   ·cases h
theorem YN {e:Env}{ρ:Operand->Value}(hρ:∀x v,look e x=some v->ρ x=v){l:List (Nat×Operand)}{us:List (Nat×Value)}(h:lookp e l=some us):
  (l.toArray.map λx=>match x with|(i,x)=>(i,ρ x))=us.toArray:=by
 apply Array.toList_inj.1
 simp only[Array.toList_map]
 exact z1M hρ l us h
def SP (P:Program)(t:TypeId)(pl:List (Nat×Nat)):Prop:=∃fs:Array Field,P.underlying t=some (.struct fs)/\∀w,(fs.mapM λf=>do pure (f.offset,<-sizeOf f.type):Sem (Array (Nat×Nat))).run P w= .ok pl.toArray w
def Sa {parts:List (Nat×Operand)}{vs:List (Nat×Value)}{pl:List (Nat×Nat)}{zs:List Value}(hs:TI P t z n bytes)(hz:z.cells=zs.toArray)(hpl:SP P t pl)(hp:lookp e parts=some vs)(h:bl (pl[·]?) zs vs=some cs):
  Y P e ⟨d,.build t parts.toArray,ty,pos,aft,g⟩ (.agg cs.toArray) w w:=fun ρ hρ=>by
 obtain⟨fs,h1,h2⟩:=hpl
 have hf:=z0b vs zs cs h
 have hf':Instr.fill (pl.toArray[·]?) z.cells vs=some cs.toArray:=by rw[hz];simpa using hf
 simp only[execOp,YN hρ hp,Instr.build,Sem.run_bind,hs.zero,Result.andThen_ok,run_underlying h1,h2,hf',Sem.run_pure]
def zih {parts:List (Nat×Operand)}{vs:List (Nat×Value)}{zs:List Value}{len:Nat}{ze:Value}{be:Nat}(hs:TI P t z n bytes)(hz:z.cells=zs.toArray)(ht:P.underlying t=some (.array len el))(he:TI P el ze size be)(hp:lookp e parts=some vs)(h:bl (λi=>some (i*size,size)) zs vs=some cs):
  Y P e ⟨d,.build t parts.toArray,ty,pos,aft,g⟩ (.agg cs.toArray) w w:=fun ρ hρ=>by
 have hf:=z0b vs zs cs h
 rw[<-hz] at hf
 simp only[execOp,YN hρ hp,Instr.build,Sem.run_bind,hs.zero,Result.andThen_ok,run_underlying ht,he.size,hf,Sem.run_pure]
def XM {parts:List (Nat×Operand)}{vs:List (Nat×Value)}{len:Nat}{ze:Value}{be:Nat}{zs:List Value}(ht:P.underlying t=some (.slice el))(he:TI P el ze size be)(hsm:Nat.ble (len*size) 16777216=true)
  (hzs:(Array.range (len*size)).map ((if len*size=0 then #[] else ze.cells)[·%(if len*size=0 then #[] else ze.cells).size]!)=zs.toArray) (hp:lookp e parts=some vs) (h:bl (λi=>some (i*size,size)) zs vs=some cs) (hl:cs.length=len*size) (hm:len<=maxLen):
  Yp P e ⟨d,.buildSlice t len parts.toArray,ty,pos,aft,g⟩ w λv' w'=>∃b,v'= .slice (some ⟨b,0,none⟩) len len/\ZI w b cs el w'/\Sl w' v' el size len cs:=by
 refine⟨_,_,fun ρ hρ=>?_,w.heap.size,rfl,ZI.mk' w cs el,⟨hl,.inr ⟨w.heap.size,len,cs.toArray,rfl,Nat.zero_le _,W7 w _,Nat.le_refl _,hm,by simpa using hl,by simp[<-hl]⟩⟩⟩
 have hf:=z0b vs zs cs h
 rw[<-hzs] at hf
 have h24:¬len*size>2^24:=by have:=Nat.le_of_ble_eq_true hsm;omega
 simp only[execOp,YN hρ hp,Instr.buildSlice,Sem.run_bind,run_underlying ht,Result.andThen_ok,he.size,Sem.run_ite,if_neg h24,Sem.run_pure]
 by_cases h0:len*size=0
 ·simp only[h0,if_true] at hf;simp[Array.range_zero'] at hf;simp[h0,newRow,newObj,Sem.run,Array.range_zero',hf]
 ·simp only[h0,if_false] at hf;simp[h0,newRow,newObj,Sem.run,hf,he.zero]
def z1A (z:Value)(n:Nat)(h:oneV z=true):(madeCells z.cells n).toList=List.replicate n z:=by
 rw[Vr h]
 apply List.ext_getElem
 ·simp[madeCells]
 ·intro j h1 h2;simp[madeCells,Nat.mod_one]
theorem pmk {za zb:Int}{c:Nat}[hza:T3 za n][hb':T3 zb c](ht:P.underlying t=some (.slice el))(hs:TI P el z 1 bytes)(hz:oneV z=true)(hx:look e x=some (.int k za))(hy:look e y=some (.int k' zb))(hnc:n<=c)(hb:bytes*c<=281474976710656)(hm:c<=maxLen):
  Yp P e ⟨d,.makeSlice t x y,ty,pos,aft,g⟩ w λv' w'=>∃b,v'= .slice (some ⟨b,0,none⟩) n c/\ZI w b (List.replicate c z) el w'/\Sl w' v' el 1 n (List.replicate n z):=by
 obtain⟨rfl⟩:=hza
 obtain⟨rfl⟩:=hb'
 obtain⟨i,hi,hiz,his,hib⟩:=hs
 have hr:=run_make (P:=P) w t el i z ht hi hiz k k' n c ω ω (by rw[hib,<-Int.natCast_mul];exact Int.ofNat_le.2 hb) (by simp only[maxLen] at hm;omega)
 have hcells:=z1A z c hz
 have hcells':madeCells z.cells c=(List.replicate c z).toArray:=by rw[<-hcells]
 rw[his] at hr
 simp only[Int.toNat_natCast,Nat.mul_one,hcells'] at hr
 refine⟨_,_,fun ρ hρ=>?_,w.heap.size,rfl,ZI.mk' w (List.replicate c z) el,⟨ξ,.inr ⟨w.heap.size,c,_,rfl,Nat.zero_le _,W7 w _,hnc,hm,ξ,?_⟩⟩⟩
 ·simp only[execOp,hρ _ _ hx,hρ _ _ hy,Sem.run_bind,hr,Result.andThen_ok,Sem.run_pure]
 ·simp[List.take_replicate,Nat.min_eq_left hnc]
/-! ### Addresses, fields, parts -/
theorem Pk (hf:Qf P t i off (n+1) agg)(hx:look e x=some (ptr b m)):Y P e ⟨d,.fieldAddr t x i,ty,pos,aft,g⟩ (ptr b (m+off)) w w:=fun ρ hρ=>by
 obtain⟨fs,f,z,bytes,dd,h1,h2,h3,h4,h5,h6⟩:=hf
 have hs:=h4.size (w:=w)
 simp[execOp,hρ _ _ hx,Instr.fieldAt,run_underlying h1,h2,Instr.sureAddr,fieldPlace,hs,Rb,h3]
theorem yfd {vs:Array Value}(hf:Qf P t i off n false)(hx:look e x=some (.agg vs))(hv:vs[off]? =some v):Y P e ⟨d,.field t x i,ty,pos,aft,g⟩ v w w:=fun ρ hρ=>by
 obtain⟨fs,f,z,bytes,dd,h1,h2,h3,h4,h5,h6⟩:=hf
 simp[execOp,hρ _ _ hx,Instr.field,run_underlying h1,h2,part,SQ h5,h6,asAgg,h3,hv]
def yia {za:Int}[hza:T3 za n]{len:Nat}(ht:P.underlying t=some (.array len el))(hs:TI P el z size bytes)(hx:look e x=some (ptr b m))(hy:look e y=some (.int k za))(hn:n<len):
  Y P e ⟨d,.indexAddr t x y,ty,pos,aft,g⟩ (ptr b (m+n*size)) w w:=fun ρ hρ=>by
 obtain⟨rfl⟩:=hza
 have h0:(0:Int)<=(n:Int)/\(n:Int)<(len:Int):=by omega
 have hs:=hs.size (w:=w)
 simp[execOp,hρ _ _ hx,hρ _ _ hy,Instr.indexAt,asIntOf,run_underlying ht,Instr.sureAddr,hn,hs,Rb]
def PK {za:Int}[hza:T3 za n]{len cap:Nat}(ht:P.underlying t=some (.slice el))(hs:TI P el z size bytes)(hx:look e x=some (.slice (some ⟨b,m,none⟩) len cap))(hy:look e y=some (.int k za))(hn:n<len):
  Y P e ⟨d,.indexAddr t x y,ty,pos,aft,g⟩ (ptr b (m+n*size)) w w:=fun ρ hρ=>by
 obtain⟨rfl⟩:=hza
 have h0:(0:Int)<=(n:Int)/\(n:Int)<(len:Int):=by omega
 have hs:=hs.size (w:=w)
 simp[execOp,hρ _ _ hx,hρ _ _ hy,Instr.indexAt,asIntOf,run_underlying ht,hn,hs,Rb]
theorem yxa {za:Int}[hza:T3 za n]{len:Nat}{vs:Array Value}(ht:P.underlying t=some (.array len el))(hs:TI P el z 1 bytes)(hu:P.underlying el=some td)(ha:aggOf td=false)(hx:look e x=some (.agg vs))(hy:look e y=some (.int k za))(hn:n<len)(hv:vs[n]? =some v):
  Y P e ⟨d,.index t x y,ty,pos,aft,g⟩ v w w:=fun ρ hρ=>by
 obtain⟨rfl⟩:=hza
 have hs:=hs.size (w:=w)
 simp[execOp,hρ _ _ hx,hρ _ _ hy,Instr.index,asIntOf,run_underlying ht,hn,hs,part,SQ hu,ha,hv]
def Rv {vs:Array Value}(hx:look e x=some (.tuple vs))(hv:vs[i]? =some v):Y P e ⟨d,.extract x i,ty,pos,aft,g⟩ v w w:=fun ρ hρ=>by
 simp[execOp,hρ _ _ hx,Instr.extract,hv]
def ync {a:Addr}(hx:look e x=some (.pointer (some a))):Y P e ⟨d,.nilCheck x,ty,pos,aft,g⟩ (.pointer (some a)) w w:=fun ρ hρ=>by simp[execOp,hρ _ _ hx]
def ziW {f:FuncId}{p q:Array Value}(hx:look e x=some (.func (.func f) p q)):Y P e ⟨d,.nilCheck x,ty,pos,aft,g⟩ (.func (.func f) p q) w w:=fun ρ hρ=>by simp[execOp,hρ _ _ hx]
def St (ht:P.underlying t=some (.slice el)){a:Option Addr}{len cap:Nat}(hx:look e x=some (.slice a len cap)):Y P e ⟨d,.call ⟨.builtin .len,#[x],#[t]⟩,ty,pos,aft,g⟩ (I (len:Int)) w w:=fun ρ hρ=>by
 simp[execOp,resolve,invoke,builtin,hρ _ _ hx,Builtin.len_,run_underlying ht,goInt]
end
/-! ### Calls -/
def CF (P:Program)(f:FuncId):Prop:=∃fn,P.funcs[f]? =some fn/\(fn.name=="runtime.NumGoroutine")=false/\fn.body.isNone=false
section
variable {P:Program}{e:Env}{d:Option Nat}{ty:TypeId}{pos:String}{aft:Array Edge}{g:Option (Nat×Bool)}{w:World}{f:FuncId}
def looks (e:Env):List Operand->Option (List Value)
 |[]=>some []
 | x :: r => match look e x, looks e r with
   |some v,some vs=>some (v::vs)
   |_,_=>none
theorem Tl {ρ:Operand->Value}(hρ:∀x v,look e x=some v->ρ x=v):∀(xs:List Operand) (vs:List Value),looks e xs=some vs->xs.map ρ=vs
 |[],vs,h=>by simp[looks] at h;simp[h]
 | x :: r, vs, h => by
   simp only[looks] at h;split at h
   ·rename_i v us hv hus
    simp at h;subst h;simp[hρ _ _ hv,Tl hρ r us hus]
   ·cases h
theorem Te (h:CF P f)(args:Array Value):(callFunc f args).run P w= .ok (.enter f args) w:=by
 obtain⟨fn,h1,h2,h3⟩:=h
 have h2':¬fn.name="runtime.NumGoroutine":=by simpa using h2
 have h3':¬fn.body=none:=by intro hh;simp[hh] at h3
 simp[callFunc,program,Sem.run,h1,h2',h3']
def yc {args:List Operand}{ts:Array TypeId}{vs:List Value}(hf:CF P f)(ha:looks e args=some vs):Yc P e ⟨d,.call ⟨.value (.func f),args.toArray,ts⟩,ty,pos,aft,g⟩ f vs w:=fun ρ hρ=>by
 have h0:ρ (.func f)= .func (.func f) #[] #[]:=hρ _ _ O
 have hm:=Tl hρ _ _ ha
 simp[execOp,resolve,h0,Deferred.ofValue,invoke,Te hf,hm]
def RY {fv:Operand}{args:List Operand}{ts:Array TypeId}{vs p q:List Value}(hf:CF P f)(hv:look e fv=some (.func (.func f) p.toArray q.toArray))(ha:looks e args=some vs):
  Yc P e ⟨d,.call ⟨.value fv,args.toArray,ts⟩,ty,pos,aft,g⟩ f (p++vs++q) w:=fun ρ hρ=>by
 have h0:=hρ _ _ hv
 have hm:=Tl hρ _ _ ha
 simp[execOp,resolve,h0,Deferred.ofValue,invoke,Te hf,hm]
def ymf {first caps:List Operand}{p q:List Value}(hp:looks e first=some p)(hq:looks e caps=some q):Y P e ⟨d,.makeFunc (.func f) first.toArray caps.toArray,ty,pos,aft,g⟩ (.func (.func f) p.toArray q.toArray) w w:=fun ρ hρ=>by
 simp[execOp,Instr.makeFunc,Tl hρ _ _ hp,Tl hρ _ _ hq]
def pap {t el:TypeId}{x y:Operand}{z:Value}{size bytes n m:Nat}{u v:Value}{cs news:List Value}(ht:P.underlying t=some (.slice el))(hs:TI P el z size bytes)(hzs:z.cells.size=size)(hsz:0<size)
  (hx:look e x=some v) (hy:look e y=some u) (hv:Sl w v el size n cs) (hu:Rd w u size m news) (h1:∀c∈news,c.oneCell'=true) (hb:(n+m)*bytes<=140737488355328) (hm:n+m<=maxLen):
  Yp P e ⟨d,.call ⟨.builtin .append,#[x,y],#[t,t]⟩,ty,pos,aft,g⟩ w λv' w'=>Sl w' v' el size (n+m) (cs++news)/\Kp (λk=>v.ownBlock=some k) w w'/\
   (∀g,v'.ownBlock=some g->v.ownBlock=some g\/w.heap.size<=g)/\(v'= .slice none 0 0↔v= .slice none 0 0/\m=0):=by
 obtain⟨i,hi,hiz,his,hib⟩:=hs
 obtain⟨v',w',hr,hrest⟩:=zcg (P:=P) w t ty el i z size bytes ht hi hiz his hib hzs hsz v n cs hv u m news hu h1 hb hm
 refine⟨v',w',fun ρ hρ=>?_,hrest⟩
 simp[execOp,resolve,invoke,builtin,hρ _ _ hx,hρ _ _ hy,hr]
end
/-! ### Strings and bytes -/
def Tg (c:UInt8):Value:= .int .u8 (c.toNat:Int)
section
variable {P:Program}{e:Env}{d:Option Nat}{ty t t' el:TypeId}{pos:String}{aft:Array Edge}{g:Option (Nat×Bool)}{x:Operand}{w:World}{l:List UInt8}{cs:List Value}{b i n cap:Nat}{T:TypeId}
def zbw (hs:P.underlying t=some .string)(hd:P.underlying t'=some (.slice el))(he:P.underlying el=some (.int .u8))(hx:look e x=some (S l)):
  Yp P e ⟨d,.convert t t' x,ty,pos,aft,g⟩ w λv' w'=>∃b cap rest,v'= .slice (some ⟨b,0,none⟩) l.length cap/\ZI w b (l.map Tg++rest) el w'/\l.length+rest.length=cap:=by
 have hr:=run_bytes_of_string (P:=P) w t t' el ⟨l.toArray⟩ hs hd he
 rw[SM] at hr
 have hge:=grownCap_ge w l.length 0 el
 have hrow:bytesRow ⟨l.toArray⟩ (grownCap w l.length 0 el)=(l.map Tg++List.replicate (grownCap w l.length 0 el-l.length) (Value.int .u8 0)).toArray:=by
  simp[bytesRow,SM,Tg]
 refine⟨_,w.drew.alloc (.cells (bytesRow ⟨l.toArray⟩ (grownCap w l.length 0 el)) el ((bytesRow ⟨l.toArray⟩ (grownCap w l.length 0 el)).size,(bytesRow ⟨l.toArray⟩ (grownCap w l.length 0 el)).size+1)),fun ρ hρ=>?_,w.heap.size,grownCap w l.length 0 el,List.replicate (grownCap w l.length 0 el-l.length) (Value.int .u8 0),rfl,⟨rfl,?_,?_⟩,by simp;omega⟩
 ·simp only[execOp,hρ _ _ hx,Sem.run_bind,hr,Result.andThen_ok,Sem.run_pure]
 ·exact(Ext.OT w).trans (TX w.drew _)
 ·refine⟨_,by rw[<-hrow];exact W7 w.drew _,λj hj=>?_⟩;rw[hrow];simp only[List.size_toArray];omega
def z8m (hs:P.underlying t=some (.slice el))(he:P.underlying el=some (.int .u8))(hd:P.underlying t'=some .string)(hx:look e x=some (.slice (some ⟨b,i,none⟩) n cap))(hB:OE w b cs T)(hl:(cs.drop i).take n=l.map Tg)(hn:l.length=n):
  Y P e ⟨d,.convert t t' x,ty,pos,aft,g⟩ (S l) w w:=fun ρ hρ=>by
 have hc:=hB.cells hl
 have hr:=run_convert_bytes_back (P:=P) w t t' el ⟨b,i,none⟩ cap l hs he hd (λj hj=>by rw[Rb];exact hc j _ (by simp[hj,Tg]))
 rw[hn] at hr
 simp only[execOp,hρ _ _ hx,Sem.run_bind,hr,Result.andThen_ok,Sem.run_pure]
end
/-! ### Results that lie in memory -/
inductive XR (P:Program) (w:World) (e:Env):List ResultVar->List Value->Prop where
 |nil:XR P w e [] []
 |tmp {t:Tmp} {v:Value} {rs:List ResultVar} {vs:List Value} (h:fnd e t=some v) (hr:XR P w e rs vs):XR P w e (.tmp t::rs) (v::vs)
 | cell {x : Tmp} {t : TypeId} {td : TypeDesc} {z : Value} {n bytes b i : Nat} {news : List Value} {rs : List ResultVar} {vs : List Value} (hu : P.underlying t = some td) (ha : aggOf td = true) (hs : TI P t z n bytes)
   (h:fnd e x=some (ptr b i)) (hc:∀j u,news[j]? =some u->w.cell? ⟨b,i+j,none⟩=some u) (hn:news.length=n) (hr:XR P w e rs vs):XR P w e (.cell x t::rs) (.agg news.toArray::vs)
 | cell1 {x : Tmp} {t : TypeId} {td : TypeDesc} {b i : Nat} {v : Value} {rs : List ResultVar} {vs : List Value} (hu : P.underlying t = some td) (ha : aggOf td = false)
   (h:fnd e x=some (ptr b i)) (hc:w.cell? ⟨b,i,none⟩=some v) (hr:XR P w e rs vs):XR P w e (.cell x t::rs) (v::vs)
theorem XR.run {P:Program}{w:World}{e:Env}{n:Nat}{ms:List Dfr}{a:Act}(ha:WB n ms e a):∀{rs:List ResultVar} {vs:List Value},XR P w e rs vs->Sem.run P (rs.mapM (resM a)) w= .ok vs w:=by
 intro rs vs h
 induction h with
 |nil=>simp
 | @tmp t v rs vs h hr ih =>
   have hg:resM a (.tmp t)=pure v:=by simp only[resM];rw[ha.get _ _ h]
   rw[List.mapM_cons,hg]
   simp only[pure_bind,Sem.run_bind,ih,Result.andThen,Sem.run_pure]
 | @cell x t td z n bytes b i news rs vs hu hA hs h hc hn hr ih =>
   have hg:=ha.get _ _ h;have hl:=run_loadCells_list (P:=P) w ⟨b,i,none⟩ news (λj v hj=>by rw[Rb];exact hc j v hj);rw[hn] at hl
   have h1:Sem.run P (resM a (.cell x t)) w= .ok (.agg news.toArray) w:=by
    simp only[resM,hg,asAddr,pure_bind,loadVar,Sem.run_bind,SQ hu,hA,Result.andThen_ok,if_true,hs.size,hl,Sem.run_pure]
   rw[List.mapM_cons]
   simp only[Sem.run_bind,h1,ih,Result.andThen,Sem.run_pure]
 | @cell1 x t td b i v rs vs hu hA h hc hr ih =>
   have hg:=ha.get _ _ h
   have h1:Sem.run P (resM a (.cell x t)) w= .ok v w:=by
    simp only[resM,hg,asAddr,pure_bind,loadVar,Sem.run_bind,SQ hu,hA,Result.andThen_ok,Bool.false_eq_true,if_false,run_load,hc]
   rw[List.mapM_cons];simp only[Sem.run_bind,h1,ih,Result.andThen,Sem.run_pure]
def Vv {n:Nat}{ms:List Dfr}{e:Env}{a:Act}(ha:WB n ms e a)(P:Program)(w:World)(fn:Func)(vs:List Value)(h:XR P w e fn.results.toList vs):
  (results fn a.tmps).run P w= .ok (PS vs) w:=by
 have hm:=XR.run ha h
 have he:results fn a.tmps=(do
   let us<-fn.results.mapM (resM a)
   pure (if h:us.size=1 then us[0] else .tuple us)):=rfl
 rw[he,<-Array.toArray_toList (xs:=fn.results),List.mapM_toArray]
 simp only[Sem.run_bind,map_eq_pure_bind,hm,Result.andThen,Sem.run_pure]
 cases vs with
 |nil=>simp[PS]
 | cons v r => cases r with
   |nil=>simp[PS]
   |cons u r=>simp[PS]
section
variable {P:Program}{f:FuncId}{R:Value->World->Prop}{n:Nat}{k:List Item}{e:Env}{w:World}{fn:Func}{vs:List Value}
def P6 (hf:P.funcs[f]? =some fn)(hr:XR P w e fn.results.toList vs)(hR:WT R (.returned (PS vs)) w):P8 ⟨P,f,R,n,none,[],false⟩ (.code .ret::k) e w:=
 Y2 O hf List.nodup_nil (λ_ h=>by cases h) λa ha=>⟨_,Vv ha P w fn vs hr,hR⟩
def Vj {ms:List Dfr}(hn:ms.Nodup)(hm:RG ms w)(hf:P.funcs[f]? =some fn)(hr:XR P (So ms w) e fn.results.toList vs)(hR:WT R (.returned (PS vs)) (So ms w)):P8 ⟨P,f,R,n,none,ms,false⟩ (.code .ret::k) e w:=
 Y2 O hf hn hm λa ha=>⟨_,Vv ha P _ fn vs hr,hR⟩
end
section
variable {P:Program}{e:Env}{d:Option Nat}{ty t t':TypeId}{pos:String}{aft:Array Edge}{g:Option (Nat×Bool)}{x y:Operand}{w:World}{k:IntKind}{za zb:Int}{m n:Nat}[ha:T3 za m][hb:T3 zb n]
def zim (hx:look e x=some (.int k za))(hy:look e y=some (.int k zb))(hs:k.signed=false)(hm:m<2^k.bits)(hn:0<n):Y P e ⟨d,.binOp .quo t x y t',ty,pos,aft,g⟩ (.int k ((m / n:Nat):Int)) w w:=fun ρ hρ=>by
 obtain⟨rfl⟩:=ha
 obtain⟨rfl⟩:=hb
 have h0:¬((n:Int)=0):=by omega
 have h1:((m:Int)).tdiv (n:Int)=((m / n:Nat):Int):=by rw[Int.tdiv_eq_ediv_of_nonneg ω];simp
 have h2:=z0n hs (Nat.lt_of_le_of_lt (Nat.div_le_self m n) hm)
 simp only[execOp,eqGuard_quo,binOp_quo,Op.intDiv,hρ _ _ hx,hρ _ _ hy,h0,if_false,pure_bind,Sem.run_pure,h1,h2]
end
def Wy {D:Nat}{w:World}(h:w.heap[D]? =some (.deferred (some []))):RG [.mk D] w:=λd h'=>by
 simp at h';subst h';exact⟨D,rfl,h⟩
def Qi (w:World)(l:Nat)(o:Obj):Kp (λk=>k=l) w (w.putObj l o):=
 ⟨rfl,rfl,rfl,ξ,λk _ hn=>World.putObj_heap_other hn⟩
def Xy {w:World}{l:Nat}{o:Obj}(h:w.heap[l]? =some o):l<w.heap.size:=by
 rcases Nat.lt_or_ge l w.heap.size with h'|h'
 ·exact h'
 ·rw[Array.getElem?_eq_none h'] at h;cases h
def Rec (f n:Nat)(e:Env)(ps:Array Tmp)(assign body:Code)(l:Nat)(st:LoopState)(pend:Option Code)(w:World):Prop:=
 ∃r:Loop,w.heap[l]? =some (.loop r)/\r.state=st/\r.pending=pend/\r.fn=f/\r.params=ps/\r.assign=assign/\r.body=body/\r.tmps.size=n/\∀i v,fnd e i=some v->r.tmps.getD i undef=v
def Rec.lt {f n:Nat}{e:Env}{ps:Array Tmp}{assign body:Code}{l:Nat}{st:LoopState}{pend:Option Code}{w:World}(h:Rec f n e ps assign body l st pend w):l<w.heap.size:=by
 obtain⟨r,h,-⟩:=h;exact Xy h
def Kp.zjy {S:Nat->Prop}{w w':World}{f n:Nat}{e:Env}{ps:Array Tmp}{assign body:Code}{l:Nat}{st:LoopState}{pend:Option Code}(k:Kp S w w')(h:Rec f n e ps assign body l st pend w)(hn:¬S l):Rec f n e ps assign body l st pend w':=by
 obtain⟨r,h,hr⟩:=h
 exact⟨r,k.heap h hn,hr⟩
def Kp.rc {S:Nat->Prop}{w w':World}{f n:Nat}{e:Env}{ps:Array Tmp}{assign body:Code}{l:Nat}{st:LoopState}{pend:Option Code}{Rc:LoopState->Option Code->World->Prop}(k:Kp S w w')(hRc:Rc=Rec f n e ps assign body l)(h:Rc st pend w)(hn:¬S l):Rc st pend w':=by
 subst hRc;exact k.zjy h hn
def z9Y {w:World}{f n:Nat}{e:Env}{ps:Array Tmp}{assign body:Code}{l:Nat}{st:LoopState}{pend:Option Code}{Rc:LoopState->Option Code->World->Prop}(hRc:Rc=Rec f n e ps assign body l)(h:Rc st pend w):l<w.heap.size:=by
 subst hRc;exact h.lt
def z0W (P:Program)(l:Nat)(args:List Value)(w:World)(S:Value->World->Prop):Prop:=
 ∃ r : Loop, w.heap[l]? = some (.loop r) /\ args.length = r.params.size /\
   RoundIn Fence.wide 0 P l r.fn ((r.params.zip args.toArray).foldl (λtmps (t,a)=>tmps.setIfInBounds t a) r.tmps) r.assign r.body w (WT S)
def z0W.mono {P:Program}{l:Nat}{args:List Value}{w:World}{S S':Value->World->Prop}(h:z0W P l args w S)(hs:∀v w',S v w'->S' v w'):z0W P l args w S':=by
 obtain⟨r,h1,h2,h3⟩:=h
 exact⟨r,h1,h2,h3.mono λx w' ⟨v,hx,hv⟩=>⟨v,hx,hs _ _ hv⟩⟩
def zaM:List Tmp->List Value->Env->Env
 |p::ps,v::vs,e=>zaM ps vs ((p,v)::e)
 |_,_,e=>e
def z73 {n:Nat}:∀(ps:List Tmp) (vs:List Value) (e:Env) (t:Array Value),ps.all (Nat.blt · n)=true->t.size=n->(∀i v,fnd e i=some v->t.getD i undef=v)->
  ((ps.zip vs).foldl (λtmps (t,a)=>tmps.setIfInBounds t a) t).size=n/\∀i v,fnd (zaM ps vs e) i=some v->((ps.zip vs).foldl (λtmps (t,a)=>tmps.setIfInBounds t a) t).getD i undef=v
 |[],_,e,t,_,hs,h=>⟨hs,h⟩
 |_::_,[],e,t,_,hs,h=>⟨hs,h⟩
 | p :: ps, v :: vs, e, t, hp, hs, h => by
   simp only[List.all_cons,Bool.and_eq_true] at hp;have h1:=(WB.put (n:=n) (ms:=[]) (e:=e) (a:=⟨t,[]⟩) ⟨hs,rfl,h⟩ hp.1 v);exact z73 ps vs _ _ hp.2 h1.size h1.get
def TA {P:Program}{f n l:Nat}{w:World}{S:Value->World->Prop}{e:Env}{ps:List Tmp}{assign body:Code}{args:List Value}{st:LoopState}{pend:Option Code}
  {Rc:LoopState->Option Code->World->Prop} (hRc:Rc=Rec f n e ps.toArray assign body l) (hrec:Rc st pend w) (hl:args.length=ps.length) (hps:ps.all (Nat.blt · n)=true)
  (h:P8 ⟨P,f,S,n,some l,[],false⟩ [.code assign,.beginRound,.code body] (zaM ps args e) w):z0W P l args w S:=by
 subst hRc
 obtain⟨r,hr,-,-,rfl,hp,rfl,rfl,hsz,hget⟩:=hrec
 refine⟨r,hr,by rw[hp,hl];simp,trivial,λc cs _=>?_⟩
 let b:Frame:={(default:Frame) with fn:=r.fn,kind:= .normal,roundOf:=some l}
 have hz:(r.params.zip args.toArray).foldl (λtmps (t,a)=>tmps.setIfInBounds t a) r.tmps=(ps.zip args).foldl (λtmps (t,a)=>tmps.setIfInBounds t a) r.tmps:=by
  rw[hp,List.zip_toArray,List.foldl_toArray]
 have hb0:∀tmps,Frame.round l r.fn tmps r.assign r.body .normal=b.atR {tmps:=tmps,defers:=[]} [.code r.assign,.beginRound,.code r.body]:=λtmps=>by
  simp[Frame.round,Frame.atR,b]
 have hb:=z73 ps args e r.tmps hps hsz hget
 rw[hz,hb0]
 obtain⟨x,w',hR,hc⟩:=h ⟨_,[]⟩ ⟨hb.1,rfl,hb.2⟩ b O O O (c::cs) c cs O
 exact⟨x,w',hR,comesIn_wide.2 hc⟩
section
variable {C:Cx}{k:List Item}{e:Env}{w:World}{f n:Nat}{e0:Env}{ps:Array Tmp}{assign body:Code}{l:Nat}{pend:Option Code}
def z32 {r:Loop}(h:w.heap[l]? =some (.loop r))(h4:r.fn=f)(h5:r.params=ps)(h6:r.assign=assign)(h7:r.body=body)(h8:r.tmps.size=n)(h9:∀i v,fnd e0 i=some v->r.tmps.getD i undef=v)(st':LoopState)(pend':Option Code):
  Rec f n e0 ps assign body l st' pend' (w.putObj l (.loop {r with state:=st',pending:=pend'})):=
 ⟨_,World.putObj_heap_same (Xy h),rfl,rfl,h4,h5,h6,h7,h8,h9⟩
def run_beginRound (hrd:C.rd=some l){Rc:LoopState->Option Code->World->Prop}(hRc:Rc=Rec f n e0 ps assign body l)(hrec:Rc .ready pend w)(h:∀w',Rc .busy pend w'->Kp (λk=>k=l) w w'->P8 C k e w'):P8 C (.beginRound::k) e w:=by
 subst hRc
 obtain⟨r,h1,h2,h3,h4,h5,h6,h7,h8,h9⟩:=hrec
 refine λa ha b hb hk hro cs=>?_
 have hbr:=Go.run_beginRound (P:=C.P) h1 h2
 have hre:Rec f n e0 ps assign body l .busy pend (w.putObj l (.loop {r with state:= .busy})):=by
  rw[<-h3];exact z32 h1 h4 h5 h6 h7 h8 h9 .busy r.pending
 exact(h _ hre (Qi w l _) a ha b hb hk hro cs).of_steps (.one (stepR_beginRound (hro.trans hrd) hbr))
end
section
variable {P:Program}{g:Nat}{S:Value->World->Prop}{m:Nat}{k:List Item}{e:Env}{w:World}{f n:Nat}{e0:Env}{ps:Array Tmp}{assign body:Code}{l:Nat}{st:LoopState}{pend:Option Code}
def Sf {Rc:LoopState->Option Code->World->Prop}(hRc:Rc=Rec f n e0 ps assign body l)(hrec:Rc st pend w)(h:∀w',Rc .ready none w'->Kp (λk=>k=l) w w'->S (.bool true) w'):P8 ⟨P,g,S,m,some l,[],false⟩ [] e w:=by
 subst hRc
 obtain⟨r,h1,h2,h3,h4,h5,h6,h7,h8,h9⟩:=hrec
 intro a ha b hb hk hro cs c cs' hcs
 subst hcs
 exact⟨.returned (.bool true),_,⟨_,rfl,h _ (z32 h1 h4 h5 h6 h7 h8 h9 .ready none) (Qi w l _)⟩,.one (stepR_round_end hro hk (run_endRound none h1))⟩
def VA {Rc:LoopState->Option Code->World->Prop}(hRc:Rc=Rec f n e0 ps assign body l)(hrec:Rc st pend w)(h:∀w',Rc .done (some .ret) w'->Kp (λk=>k=l) w w'->S (.bool false) w'):P8 ⟨P,g,S,m,some l,[],false⟩ (.code .ret::k) e w:=by
 subst hRc
 obtain⟨r,h1,h2,h3,h4,h5,h6,h7,h8,h9⟩:=hrec
 intro a ha b hb hk hro cs c cs' hcs
 subst hcs
 exact⟨.returned (.bool false),_,⟨_,rfl,h _ (z32 h1 h4 h5 h6 h7 h8 h9 .done (some .ret)) (Qi w l _)⟩,.one (stepR_round_ret hro hk (run_endRound (some .ret) h1))⟩
def SF {ps:List Tmp}{ms:List Dfr}{fv:Operand}{gf:FuncId}{p q:List Value}(hg:look e fv=some (.func (.func gf) p.toArray q.toArray))(hf:CF P gf)
  (hcall:∀l w1,Ext w w1->l=w.heap.size+1->w1.heap.size=w.heap.size+2->w1.heap[w.heap.size]? =some (.deferred (some []))->∀Rc,Rc=Rec f n e ps.toArray assign body l->Rc .ready none w1->
   P9 P gf (p++[.func (.yield l) #[] #[]]++q) w1 λv w2=>∃st pend,Rc st pend w2/\st≠ .busy/\
    ∀w3,Kp (λk=>k=l) w2 w3->P8 ⟨P,f,S,n,none,.mk w.heap.size::ms,false⟩ ((pend.map Item.code).toList++k) e w3):
  P8 ⟨P,f,S,n,none,ms,false⟩ (.code (.rangeFunc fv ps.toArray assign body)::k) e w:=by
 intro a ha b hb hk hro cs
 have hev:a.eval fv= .func (.func gf) p.toArray q.toArray:=ha.look hg
 have he:=run_enterLoop_outer (P:=P) (w:=w) b.fn a.tmps ps.toArray assign body
 have hro':b.roundOf=none:=hro
 rw[<-hro'] at he
 obtain⟨w1,hw1⟩:∃w1,(w.alloc (.deferred (some []))).alloc (.loop {state:= .ready,pending:=none,fn:=b.fn,tmps:=a.tmps,params:=ps.toArray,assign,body,defers:=w.heap.size})=w1:=⟨_,rfl⟩
 have hx1:Ext w w1:=by rw[<-hw1];exact(TX w _).trans (TX _ _)
 have hs1:w1.heap.size=w.heap.size+2:=by rw[<-hw1];simp
 have hD:w1.heap[w.heap.size]? =some (.deferred (some [])):=by
  rw[<-hw1];refine(TX _ _).block _ ξ id |>.trans ?_;exact World.alloc_heap_new w _
 have hre:Rec f n e ps.toArray assign body (w.heap.size+1) .ready none w1:=by
  refine⟨_,by rw[<-hw1];have:=World.alloc_heap_new (w.alloc (.deferred (some []))) (.loop {state:= .ready,pending:=none,fn:=b.fn,tmps:=a.tmps,params:=ps.toArray,assign,body,defers:=w.heap.size});simpa using this,rfl,rfl,hb,rfl,rfl,rfl,ha.size,ha.get⟩
 rw[hw1] at he
 have hres:(resolve a.eval (rangeCall fv (w.heap.size+1)) 0).run P w1= .ok {target:= .fn (.func gf) q.toArray,args:=p.toArray++#[.func (.yield (w.heap.size+1)) #[] #[]]} w1:=by
  have hcv:∀v,a.eval (.const v)=v:=λ_=>rfl
  generalize a.eval=ρ at hev hcv⊢
  simp[rangeCall,resolve,hev,hcv,Deferred.ofValue]
 have hinv:(invoke (.fn (.func gf) q.toArray) (p.toArray++#[Value.func (.yield (w.heap.size+1)) #[] #[]])).run P w1= .ok (.enter gf (p++[Value.func (.yield (w.heap.size+1)) #[] #[]]++q).toArray) w1:=by
  simp[invoke,Te hf]
 have henter:=stepR_rangeFunc (P:=P) (b:=b) (a:=a) (k:=k) (cs:=cs) (w:=w) he hres hinv
 have hc:=hcall (w.heap.size+1) w1 hx1 O hs1 hD _ O hre
 obtain⟨x,w3,fr,⟨v,hxv,st,pend,hrec3,hst,hk3⟩,hcomes,hfn,hleave⟩:=hc (b.atR {a with defers:=[{target:= .collected w.heap.size,args:=#[]}]++a.defers} (.inRangeFunc (w.heap.size+1)::k)::cs)
 subst hxv
 obtain⟨r,r1,r2,r3,r4,r5,r6,r7,r8,r9⟩:=hrec3
 have hend:=run_endLoop (P:=P) r1 (by rw[r2];exact hst)
 have s1:=step_leave_returned hleave (c:=b.atR {a with defers:=[{target:= .collected w.heap.size,args:=#[]}]++a.defers} (.inRangeFunc (w.heap.size+1)::k)) (cs:=cs)
 rw[finish_atR_inRangeFunc] at s1
 have s2:=stepR_endRangeFunc (P:=P) (b:=b) (a:={a with defers:=[{target:= .collected w.heap.size,args:=#[]}]++a.defers}) (k:=k) (cs:=cs) hend
 rw[r3] at s2
 refine Zs.of_steps (Steps.trans (.one henter) (Steps.trans hcomes (Steps.trans (.one s1) (.one s2)))) ?_
 exact hk3 _ (Qi w3 _ _) ⟨a.tmps,[{target:= .collected w.heap.size,args:=#[]}]++a.defers⟩ ⟨ha.size,by show [_]++a.defers=_;rw[ha.defers];rfl,ha.get⟩ b hb hk hro cs
end
/-! ### The call of yield -/
def Yy (P:Program)(e:Env)(o:Oper)(l:Nat)(args:List Value)(w:World):Prop:=
 ∀ρ:Operand->Value,(∀x v,look e x=some v->ρ x=v)->(execOp ρ o).run P w=(Instr.yield l args.toArray).run P w
section
variable {D:RC}{rest:List Oper}{e:Env}{w w':World}{d:Nat}{op:Op}{ty:TypeId}{pos:String}{aft:Array Edge}{g:Option (Nat×Bool)}{l:Nat}{args:List Value}{S:Value->World->Prop}
def yy {P:Program}{d:Option Nat}{fv:Operand}{args:List Operand}{ts:Array TypeId}{vs:List Value}(hv:look e fv=some (.func (.yield l) #[] #[]))(ha:looks e args=some vs):
  Yy P e ⟨d,.call ⟨.value fv,args.toArray,ts⟩,ty,pos,aft,g⟩ l vs w:=fun ρ hρ=>by
 have h0:=hρ _ _ hv
 have hm:=Tl hρ _ _ ha
 simp[execOp,resolve,h0,Deferred.ofValue,invoke,hm]
def zas {rd:Option Nat}{P:Program}{f:FuncId}{tmps:Array Value}{assign body:Code}{R:Ending->World->Prop}(h:RoundIn Fence.wide 0 P l f tmps assign body w R):RoundIn (WF rd) 0 P l f tmps assign body w R:=h
def z5v (ho:RZ D e g true=true)(hd:Nat.blt d D.C.n=true)(hy:Yy D.C.P e ⟨some d,op,ty,pos,aft,g⟩ l args w)(hc:z0W D.C.P l args w S)
  (h:∀v w',S v w'->RL D rest ((d,v)::e) w'):RL D (⟨some d,op,ty,pos,aft,g⟩::rest) e w:=λa ha=>by
 refine wpList_want (RB ha ho) ⟨λ_ _=>trivial,?_⟩
 have h1:=hy a.eval (λx v hx=>ha.look hx)
 obtain⟨r,hr,hl,hR⟩:=hc
 rw[run_yield hr (by simpa using hl)] at h1
 rw[U1 h1 (λ_ h=>by cases h)]
 exact⟨Y4,zas (hR.mono λx w' ⟨v,hx,hv⟩=>by subst hx;exact h v w' hv _ (ha.put hd v))⟩
end
structure Ky (P:Program)(kt:TypeId){κ:Type}[DecidableEq κ](K:κ->Value):Prop where
 same:∃td,P.underlying kt=some td/\(∀a b,Instr.sameNow td (K a) (K b)=some (decide (a=b)))/\∀w e n a,(Instr.checkKey e (n+1) kt (K a)).run P w= .ok () w
 bits:∀a,Instr.sameBits 10000 (K a) (K a)=true
def RT {P:Program}{kt:TypeId}{k:IntKind}(h:P.underlying kt=some (.int k)):Ky P kt (λz:Int=>Value.int k z):=by
 refine⟨⟨_,h,λa b=>?_,λw e n a=>?_⟩,λa=>?_⟩
 ·have:(a==b)=decide (a=b):=by by_cases hab:a=b<;>simp[hab]
  simp[Instr.sameNow,this]
 ·simp[Instr.checkKey,run_underlying h]
 ·simp[Instr.sameBits]
section
variable {κ:Type}[DecidableEq κ]
def R1:List (κ×Value)->κ->Option Value
 |[],_=>none
 |(a,v)::r,k=>if k=a then some v else R1 r k
def putL:List (κ×Value)->κ->Value->List (κ×Value)
 |[],k,v=>[(k,v)]
 |(a,u)::r,k,v=>if k=a then(a,v)::r else(a,u)::putL r k v
theorem z9O (kv:List (κ×Value))(k:κ)(v:Value)(x:κ):R1 (putL kv k v) x=if x=k then some v else R1 kv x:=by
 induction kv with
 |nil=>simp[putL,R1]
 | cons p r ih =>
   obtain⟨a,u⟩:=p;simp only[putL];by_cases h:k=a
   ·subst h;simp only[if_true,R1];by_cases hx:x=k<;>simp[hx]
   ·simp only[h,if_false,R1,ih];by_cases hx:x=a
    ·subst hx;simp[Ne.symm h]
    ·simp[hx]
def z1o {kv:List (κ×Value)}{k:κ}(h:R1 kv k=none):k∉kv.map (·.1):=by
 induction kv with
 |nil=>simp
 | cons p r ih =>
   obtain⟨a,u⟩:=p;simp only[R1] at h;split at h
   ·cases h
   ·rename_i hne
    simp only[List.map_cons,List.mem_cons,not_or];exact⟨hne,ih h⟩
theorem z25 (kv:List (κ×Value))(k:κ)(v:Value):(R1 kv k).isSome=true->(putL kv k v).map (·.1)=kv.map (·.1):=by
 induction kv with
 |nil=>simp[R1]
 | cons p r ih =>
   obtain⟨a,u⟩:=p;simp only[putL,R1];by_cases h:k=a
   ·simp[h]
   ·simp only[h,if_false];intro hh;simp[ih hh]
theorem Ud (kv:List (κ×Value))(k:κ)(v:Value):R1 kv k=none->putL kv k v=kv++[(k,v)]:=by
 induction kv with
 |nil=>simp[putL]
 | cons p r ih =>
   obtain⟨a,u⟩:=p;simp only[putL,R1];by_cases h:k=a
   ·simp[h]
   ·simp only[h,if_false];intro hh;simp[ih hh]
def TO (K:κ->Value)(es:List MapEntry)(kv:List (κ×Value)):Prop:=es.map (λe=>(e.key,e.val))=kv.map (λp=>(K p.1,p.2))
def Wi (K:κ->Value)(w:World)(m:Nat)(kv:List (κ×Value)):Prop:=(∃es clock,w.heap[m]? =some (.map es clock)/\TO K es.toList kv)/\(kv.map (·.1)).Nodup
def Wi.lt {K:κ->Value}{w:World}{m:Nat}{kv:List (κ×Value)}(h:Wi K w m kv):m<w.heap.size:=by
 obtain⟨⟨es,c,h,-⟩,-⟩:=h;exact Xy h
theorem Kp.map {K:κ->Value}{S:Nat->Prop}{w w':World}{m:Nat}{kv:List (κ×Value)}(k:Kp S w w')(h:Wi K w m kv)(hn:¬S m):Wi K w' m kv:=by
 obtain⟨⟨es,c,h,he⟩,hd⟩:=h
 exact⟨⟨es,c,k.heap h hn,he⟩,hd⟩
theorem Ext.map {K:κ->Value}{w w':World}{m:Nat}{kv:List (κ×Value)}(k:Ext w w')(h:Wi K w m kv):Wi K w' m kv:=Kp.map k h id
theorem Vo {td:TypeDesc}{K:κ->Value}(hs:∀a b,Instr.sameNow td (K a) (K b)=some (decide (a=b))):∀{es:List MapEntry} {kv:List (κ×Value)} (i:Nat) {k:κ},TO K es kv->R1 kv k=none->
  Instr.findNow td (K k) es i=some none
 |[],[],_,_,_,_=>rfl
 | e :: es, (a, v) :: kv, i, k, h, hg => by
   simp only[TO,List.map_cons,List.cons.injEq,Prod.mk.injEq] at h;simp only[R1] at hg;split at hg
   ·cases hg
   ·rename_i hne
    simp only[Instr.findNow,h.1.1,hs,hne,decide_false]
    exact Vo hs (i+1) h.2 hg
 |[],_::_,_,_,h,_=>by simp[TO] at h
 |_::_,[],_,_,h,_=>by simp[TO] at h
def Yw {td:TypeDesc}{K:κ->Value}(hs:∀a b,Instr.sameNow td (K a) (K b)=some (decide (a=b))):∀{es:List MapEntry} {kv:List (κ×Value)} (i:Nat) {k:κ} {v:Value},TO K es kv->R1 kv k=some v->
  ∃j,Instr.findNow td (K k) es i=some (some (i+j,v))/\(∃e,es[j]? =some e/\e.key=K k)/\∀u,TO K (es.modify j λe=>{e with key:=K k,val:=u}) (putL kv k u)
 | e :: es, (a, v') :: kv, i, k, v, h, hg => by
   simp only[TO,List.map_cons,List.cons.injEq,Prod.mk.injEq] at h;simp only[R1] at hg;split at hg
   ·rename_i he
    subst he;cases hg;refine⟨0,by simp[Instr.findNow,h.1.1,hs,h.1.2],⟨e,rfl,h.1.1⟩,λu=>?_⟩;simp only[TO,putL,if_true,List.modify_cons,List.map_cons,List.modify_zero_cons];simp[h.2]
   ·rename_i hne
    obtain⟨j,h1,⟨e',h2,h3⟩,h4⟩:=Yw hs (i+1) h.2 hg;refine⟨j+1,?_,⟨e',by simpa using h2,h3⟩,λu=>?_⟩
    ·simp only[Instr.findNow,h.1.1,hs,hne,decide_false,h1]
     congr 3;omega
    ·simp only[putL,hne,if_false,List.modify_succ_cons,TO,List.map_cons,List.cons.injEq,Prod.mk.injEq]
     exact⟨h.1,h4 u⟩
 |[],[],_,_,_,_,hg=>by simp[R1] at hg
 |[],_::_,_,_,_,h,_=>by simp[TO] at h
 |_::_,[],_,_,_,h,_=>by simp[TO] at h
variable {P:Program}{e:Env}{d:Option Nat}{ty t kt el:TypeId}{pos:String}{aft:Array Edge}{g:Option (Nat×Bool)}{x y u:Operand}{w:World}{m:Nat}{kv:List (κ×Value)}{K:κ->Value}{z:Value}{size bytes:Nat}{k:κ}{v:Value}
def TQ (hK:Ky P kt K){es:Array MapEntry}(h:TO K es.toList kv)(hg:R1 kv k=none):(Instr.findKey kt (K k) es.toList).run P w= .ok none w:=by
 obtain⟨⟨td,hu,hs,-⟩,-⟩:=hK
 simp[Instr.findKey,run_underlying hu,Vo hs 0 h hg]
def TS (hK:Ky P kt K){es:Array MapEntry}(h:TO K es.toList kv)(hg:R1 kv k=some v):
  ∃j,(Instr.findKey kt (K k) es.toList).run P w= .ok (some (j,v)) w/\(∃e,es[j]? =some e/\e.key=K k)/\∀u,TO K (es.modify j λe=>{e with key:=K k,val:=u}).toList (putL kv k u):=by
 obtain⟨⟨td,hu,hs,-⟩,-⟩:=hK
 obtain⟨j,h1,h2,h3⟩:=Yw hs 0 h hg
 refine⟨j,?_,by simpa using h2,λu=>by simpa using h3 u⟩
 simp[Instr.findKey,run_underlying hu,h1]
theorem zjm (ht:P.underlying t=some (.map kt el))(hK:Ky P kt K)(hz:TI P el z size bytes)(hx:look e x=some (.map (some m)))(hy:look e y=some (K k))(hm:Wi K w m kv):
  Y P e ⟨d,.lookup t x y true,ty,pos,aft,g⟩ (.tuple #[(R1 kv k).getD z,.bool (R1 kv k).isSome]) w w:=fun ρ hρ=>by
 obtain⟨⟨es,c,hh,he⟩,-⟩:=hm
 have hzv:=hz.zero (w:=w)
 have hck:=λb=>hK.same.choose_spec.2.2 w b 9999 k
 have hg:(getObj m).run P w= .ok (.map es c) w:=by simp[getObj,Sem.run,hh]
 cases hgk:R1 kv k with
 | none =>
   have hf:=TQ (P:=P) (w:=w) hK he hgk
   simp[execOp,hρ _ _ hx,hρ _ _ hy,Instr.lookup,run_underlying ht,hg,hck,hf,hzv]
 | some v =>
   obtain⟨j,hf,-⟩:=TS (P:=P) (w:=w) hK he hgk;simp[execOp,hρ _ _ hx,hρ _ _ hy,Instr.lookup,run_underlying ht,hg,hck,hf]
theorem ylk (ht:P.underlying t=some (.map kt el))(hK:Ky P kt K)(hz:TI P el z size bytes)(hx:look e x=some (.map (some m)))(hy:look e y=some (K k))(hm:Wi K w m kv):
  Y P e ⟨d,.lookup t x y false,ty,pos,aft,g⟩ ((R1 kv k).getD z) w w:=fun ρ hρ=>by
 obtain⟨⟨es,c,hh,he⟩,-⟩:=hm
 have hzv:=hz.zero (w:=w)
 have hck:=λb=>hK.same.choose_spec.2.2 w b 9999 k
 have hg:(getObj m).run P w= .ok (.map es c) w:=by simp[getObj,Sem.run,hh]
 cases hgk:R1 kv k with
 | none =>
   have hf:=TQ (P:=P) (w:=w) hK he hgk
   simp[execOp,hρ _ _ hx,hρ _ _ hy,Instr.lookup,run_underlying ht,hg,hck,hf,hzv]
 | some v =>
   obtain⟨j,hf,-⟩:=TS (P:=P) (w:=w) hK he hgk;simp[execOp,hρ _ _ hx,hρ _ _ hy,Instr.lookup,run_underlying ht,hg,hck,hf]
def zmu (ht:P.underlying t=some (.map kt el))(hK:Ky P kt K)(hx:look e x=some (.map (some m)))(hy:look e y=some (K k))(hu:look e u=some v)(hm:Wi K w m kv):
  Zp P e ⟨d,.mapUpdate t x y u,ty,pos,aft,g⟩ w λw'=>Wi K w' m (putL kv k v)/\Kp (λi=>i=m) w w':=by
 have hlt:=hm.lt
 obtain⟨⟨es,c,hh,he⟩,hd⟩:=hm
 have hck:=λb=>hK.same.choose_spec.2.2 w b 9999 k
 have hg:(getObj m).run P w= .ok (.map es c) w:=by simp[getObj,Sem.run,hh]
 have hset:∀o,(setObj m o).run P w= .ok () (w.putObj m o):=λo=>by simp[setObj,Sem.run,hh,World.putObj]
 cases hgk:R1 kv k with
 | none =>
   have hf:=TQ (P:=P) (w:=w) hK he hgk;refine⟨w.putObj m (.map (es.push {key:=K k,val:=v,born:=c}) (c+1)),fun ρ hρ=>?_,⟨⟨_,_,World.putObj_heap_same hlt,?_⟩,?_⟩,Qi w m _⟩
   ·simp[execOp,hρ _ _ hx,hρ _ _ hy,hρ _ _ hu,Instr.mapUpdate,run_underlying ht,hg,hck,hf,hset]
   ·rw[Ud _ _ _ hgk]
    simpa[TO] using he
   ·rw[Ud _ _ _ hgk,List.map_append,List.nodup_append];refine⟨hd,ξ,λa ha b hb hab=>?_⟩;simp at hb;subst hb;subst hab
    exact z1o hgk ha
 | some v0 =>
   obtain⟨j,hf,⟨ej,hej,hkey⟩,hents⟩:=TS (P:=P) (w:=w) hK he hgk;refine⟨w.putObj m (.map (es.modify j λe=>{e with key:=K k,val:=v}) c),fun ρ hρ=>?_,⟨⟨_,_,World.putObj_heap_same hlt,hents v⟩,?_⟩,Qi w m _⟩
   ·simp[execOp,hρ _ _ hx,hρ _ _ hy,hρ _ _ hu,Instr.mapUpdate,run_underlying ht,hg,hck,hf,hset,hej,hkey,Instr.keyThatStays,hK.bits]
   ·rw[z25 _ _ _ (by rw[hgk];rfl)];exact hd
end
def z4n (l:List UInt8)(rest:List Value)(n:Nat)(hn:n=l.length):((l.map Tg++rest).drop 0).take n=l.map Tg:=by
 subst hn;simp
theorem Sl.part {w:World}{g n cap e size i k:Nat}{cs news:List Value}(h:Sl w (.slice (some ⟨g,0,none⟩) n cap) e size n cs)(hn:(cs.drop i).take k=news):∀j u,news[j]? =some u->w.cell? ⟨g,0+i+j,none⟩=some u:=λj u hj=>by
 have hc:=World.ownsRow.cells h (g:=g) O (i+j) u (by
  subst hn;rw[List.getElem?_take] at hj;split at hj
  ·rwa [List.getElem?_drop] at hj
  ·cases hj)
 rw[Rb] at hc
 rw[show 0+i+j=0+(i+j) by omega]
 exact hc
section
variable {P:Program}{e:Env}{d:Option Nat}{ty t t' kt el:TypeId}{pos:String}{aft:Array Edge}{g:Option (Nat×Bool)}{x y u:Operand}{w:World}
theorem zd4 {op:BinOp}{p:Option Addr}{v:Value}:eqGuard op t x y (.pointer p) v=pure ():=by cases op<;>rfl
theorem zfB {op:BinOp}{p:Option Nat}{v:Value}:eqGuard op t x y (.map p) v=pure ():=by cases op<;>rfl
theorem z4Q {p:Option Addr}{v:Value}:binOp .eql t (.pointer p) v=(do pure (.bool (<-Op.equal t (.pointer p) v))):=rfl
theorem z4s {p:Option Addr}{v:Value}:binOp .neq t (.pointer p) v=(do pure (.bool (!(<-Op.equal t (.pointer p) v)))):=rfl
theorem z3A {p:Option Nat}{v:Value}:binOp .eql t (.map p) v=(do pure (.bool (<-Op.equal t (.map p) v))):=rfl
theorem zh1 {p:Option Addr}(ht:P.underlying t=some (.pointer el)):(Op.equal t (.pointer p) (.pointer none)).run P w= .ok p.isNone w:=
 run_equalIn_pointer_nil (P:=P) (w:=w) 9999 t p (by simp[Program.pointee,ht])
theorem zje {p:Option Nat}(ht:P.underlying t=some (.map kt el)):(Op.equal t (.map p) (.map none)).run P w= .ok p.isNone w:=
 run_equalIn_map_nil (P:=P) (w:=w) 9999 t kt el p ht
def PU {p:Option Addr}(ht:P.underlying t=some (.pointer el))(hx:look e x=some (.pointer p))(hy:look e y=some (.pointer none)):Y P e ⟨d,.binOp .eql t x y t',ty,pos,aft,g⟩ (.bool p.isNone) w w:=fun ρ hρ=>by
 simp only[execOp,hρ _ _ hx,hρ _ _ hy,zd4,z4Q,pure_bind,Sem.run_bind,zh1 ht,Result.andThen,Sem.run_pure]
def z3H {p:Option Addr}(ht:P.underlying t=some (.pointer el))(hx:look e x=some (.pointer p))(hy:look e y=some (.pointer none)):Y P e ⟨d,.binOp .neq t x y t',ty,pos,aft,g⟩ (.bool (!p.isNone)) w w:=fun ρ hρ=>by
 simp only[execOp,hρ _ _ hx,hρ _ _ hy,zd4,z4s,pure_bind,Sem.run_bind,zh1 ht,Result.andThen,Sem.run_pure]
def zgK {p:Option Nat}(ht:P.underlying t=some (.map kt el))(hx:look e x=some (.map p))(hy:look e y=some (.map none)):Y P e ⟨d,.binOp .eql t x y t',ty,pos,aft,g⟩ (.bool p.isNone) w w:=fun ρ hρ=>by
 simp only[execOp,hρ _ _ hx,hρ _ _ hy,zfB,z3A,pure_bind,Sem.run_bind,zje ht,Result.andThen,Sem.run_pure]
def zes {z:Value}{size bytes b m n cap i j:Nat}{k k':IntKind}{za zb:Int}[hza:T3 za i][hzb:T3 zb j](ht:P.underlying t=some (.slice el))(hs:TI P el z size bytes)(hx:look e x=some (.slice (some ⟨b,m,none⟩) n cap))
  (hy:look e y=some (.int k za)) (hu:look e u=some (.int k' zb)) (h:i<=j/\j<=cap) (hlt:i<cap):
  Y P e ⟨d,.slice t x (some y) (some u) none,ty,pos,aft,g⟩ (.slice (some ⟨b,m+i*size,none⟩) (j-i) (cap-i)) w w:=fun ρ hρ=>by
 obtain⟨rfl⟩:=hza
 obtain⟨rfl⟩:=hzb
 have hsz:=hs.size (w:=w)
 have h1:∀w,(Instr.sliceBound (.int k' (j:Int)) cap .sliceAcap).run P w= .ok j w:=λw=>by rw[run_sliceBound _ _ _ _ _ ω ω];simp
 have h2:∀w,(Instr.sliceBound (.int k (i:Int)) j .sliceB).run P w= .ok i w:=λw=>by rw[run_sliceBound _ _ _ _ _ ω ω];simp
 have hne:¬cap=i:=by omega
 simp[execOp,hρ _ _ hx,hρ _ _ hy,hρ _ _ hu,Instr.sliceAt,run_underlying ht,Instr.slice,Instr.sliceBounds,h1,h2,hsz,hne,Rb]
def zb1 {z:Value}{size bytes b m n cap j:Nat}{k:IntKind}{zb:Int}[hzb:T3 zb j](ht:P.underlying t=some (.slice el))(hs:TI P el z size bytes)(hx:look e x=some (.slice (some ⟨b,m,none⟩) n cap))
  (hu:look e u=some (.int k zb)) (h:j<=cap):
  Y P e ⟨d,.slice t x none (some u) none,ty,pos,aft,g⟩ (.slice (some ⟨b,m,none⟩) j cap) w w:=fun ρ hρ=>by
 obtain⟨rfl⟩:=hzb
 have hsz:=hs.size (w:=w)
 have h1:∀w,(Instr.sliceBound (.int k (j:Int)) cap .sliceAcap).run P w= .ok j w:=λw=>by rw[run_sliceBound _ _ _ _ _ ω ω];simp
 simp[execOp,hρ _ _ hx,hρ _ _ hu,Instr.sliceAt,run_underlying ht,Instr.slice,Instr.sliceBounds,h1,hsz,Rb]
def zjv {z:Value}{bytes b i n cap:Nat}{ts:TypeId}{T:TypeId}{cs:List Value}{l:List UInt8}(ht:P.underlying t=some (.slice el))(hs:TI P el z 1 bytes)(hx:look e x=some (.slice (some ⟨b,i,none⟩) n cap))(hy:look e y=some (S l))
  (hB:OE w b cs T) (hi:i+n<=cs.length):
  Yp P e ⟨d,.call ⟨.builtin .copy,#[x,y],#[t,ts]⟩,ty,pos,aft,g⟩ w λv w'=>v=I ((min l.length n:Nat):Int)/\OE w' b (Qu cs i ((l.take n).map Tg)) T/\Kp (λk=>k=b) w w':=by
 obtain⟨w',hr,hB',hk⟩:=SJ (P:=P) i ((l.take n).map Tg) 0 cs w hB (by simp;omega) (λu hu=>by rw[List.mem_map] at hu;obtain⟨_,_,rfl⟩:=hu;rfl)
 refine⟨_,w',fun ρ hρ=>?_,rfl,by simpa using hB',hk⟩
 have hsz:=hs.size (w:=w)
 have e1:((ByteArray.mk l.toArray).extract 0 (Nat.min (ByteArray.mk l.toArray).size n)).data.map (λb:UInt8=>Value.int .u8 (b.toNat:Int))=((l.take n).map Tg).toArray:=by
  rw[WQ];simp only[SM,Nat.sub_zero,List.drop_zero]
  have e2:l.take (Nat.min l.length n)=l.take n:=by
   rcases Nat.le_total l.length n with h| h
   ·rw[show Nat.min l.length n=l.length from Nat.min_eq_left h,List.take_length,List.take_of_length_le h]
   ·rw[show Nat.min l.length n=n from Nat.min_eq_right h]
  rw[e2];simp
  rfl
 have hc:(Builtin.copy_ #[t,ts] ty #[.slice (some ⟨b,i,none⟩) n cap,S l]).run P w= .ok (I ((min l.length n:Nat):Int)) w':=by
  unfold Builtin.copy_;simp only[S,Builtin.lenOf,Builtin.firstCells,List.getElem?_toArray,List.getElem?_cons_zero,List.getElem?_cons_succ,pure_bind,Sem.run_bind,run_underlying ht,Result.andThen,Sem.run_pure,hsz,e1,hr];rw[SM]
  rfl
 simp[execOp,resolve,invoke,builtin,hρ _ _ hx,hρ _ _ hy,hc]
def RA {g':Option (Nat×Bool)}{z v:Value}{size bytes g n cap j:Nat}{cs:List Value}(hs:TI P t z 1 bytes)(hx:look e x=some (ptr g j))(hy:look e y=some v)(hv:oneV v=true)(hS:Sl w (.slice (some ⟨g,0,none⟩) n cap) el size n cs)(hj:j<cs.length):
  Zp P e ⟨d,.store t x y,ty,pos,aft,g'⟩ w λw'=>Sl w' (.slice (some ⟨g,0,none⟩) n cap) el size n (cs.set j v)/\Kp (λk=>k=g) w w':=by
 obtain⟨hlen,⟨hz,-⟩|⟨g1,cap1,cur,hv1,hb,hg,hn,hm,hsz,htk⟩⟩:=hS
 ·cases hz
 cases hv1
 have hjc:j<cur.size:=by
  have:cs.length<=cur.toList.length:=by rw[<-htk];simp;omega
  simp at this;omega
 have hc:w.cell? ⟨g,j,none⟩=some cur[j]:=by simp[World.cell?,hg,hjc]
 have hf:w.frozen? ⟨g,j,none⟩=false:=by simp[World.frozen?,hg]
 refine⟨w.setCell ⟨g,j,none⟩ v,fun ρ hρ=>ziC hs hx hy hv hc hf ρ hρ,⟨by simpa using hlen,.inr ⟨g,cap,cur.setIfInBounds j v,rfl,hb,Joins.block_setCell hg v,hn,hm,by simpa using hsz,?_⟩⟩,To w g j v⟩
 rw[Array.toList_setIfInBounds,<-htk,List.take_set]
end
def VL (P:Program)(ops:Array Oper)(Q:Exit->Act->World->Prop)(late:List Nat)(S:World->Prop):Nat->Array Bool->Act->World->Prop
 |0,listed,a,w=>Region.ready .any ops listed=[]/\Q .normal a w
 | n + 1, listed, a, w => (Region.ready .any ops listed = [] -> Q .normal a w) /\
     ∀ i ∈ Region.ready .any ops listed, (i ∈ late -> AtR P ops Q i (λa' w' => Ue P ops Q (λ_ => True) n (listed.setIfInBounds i true) a' w') a w) /\
       (i∉late->AtR P ops Q i (λa' w'=>S w'/\VL P ops Q late S n (listed.setIfInBounds i true) a' w') a w)
def z1f {P:Program}{ops:Array Oper}{Q:Exit->Act->World->Prop}{late:List Nat}{S:World->Prop}:∀(n:Nat) (listed:Array Bool) (a:Act) (w:World),VL P ops Q late S n listed a w->Ue P ops Q (λ_=>True) n listed a w
 |0,_,_,_,h=>h
 | n + 1, _, _, _, h => ⟨h.1, λi hi => by
     by_cases e:i∈late
     ·exact AtR.mono (λa w hh=>⟨trivial,hh⟩) ((h.2 i hi).1 e)
     ·exact AtR.mono (λa w hh=>⟨trivial,z1f n _ _ _ hh.2⟩) ((h.2 i hi).2 e)⟩
def z55 {P:Program}{ops:Array Oper}{Q:Exit->Act->World->Prop}{late:List Nat}{S:World->Prop}{n:Nat}{listed:Array Bool}{a:Act}{w:World}(hl:∀i∈Region.ready .any ops listed,i∈late)(h:Ue P ops Q (λ_=>True) n listed a w):VL P ops Q late S n listed a w:=by
 cases n with
 |zero=>exact h
 |succ n=>exact⟨h.1,λi hi=>⟨λ_=>AtR.mono (λa w hh=>hh.2) (h.2 i hi),λe=>absurd (hl i hi) e⟩⟩
def waits (ops:List Oper)(listed:Array Bool)(late dn:List Nat)(i:Nat):Bool:= !dn.contains i&&late.all (λj=>dn.contains j)&&dn.all λj=>!listed.getD j true&&match ops[j]? with|some o=>o.after.any λx=>Region.binds .any x&&(x.on==i ||dn.contains x.on)|none=>false
section
variable {P:Program}{ops:Array Oper}{Q:Exit->Act->World->Prop}{S:World->Prop}{late:List Nat}
def z3e {i:Nat}{oi:Oper}{v:Value}{dn:List Nat}(hi:ops[i]? =some oi)(hsel:∀(j:Nat) (o:Oper) cs b,ops[j]? =some o->o.op≠ .select cs b)(hQ:∀c a w,Q (.panic c) (a.put oi.dst v) w->Q (.panic c) a w)(hil:i∉dn)
  (hlate:∀j∈late,j∈dn) (hdn:∀j∈dn,∃oj,ops[j]? =some oj/\∃e∈oj.after,Region.binds .any e=true/\(e.on=i\/e.on∈dn)):∀(n:Nat) (listed:Array Bool) (a:Act) (w:World),(∀j∈dn,listed.getD j true=false)->
  (∀j oj,ops[j]? =some oj->j≠i->listed.getD j true=false->(∀e∈oj.after,Region.binds .any e=true->e.on≠i)->oi.apart ops oj=true)->i∈Region.ready .any ops listed->YieldsIf P ops S oi v a->S w->
  VL P ops Q late S n (listed.setIfInBounds i true) (a.put oi.dst v) w->VL P ops Q late S (n+1) listed a w:=by
 intro n
 induction n with
 | zero =>
   intro listed a w _ _ hr hy hS H;constructor
   ·intro h0;rw[h0] at hr;cases hr
   ·intro j hj;by_cases e:j=i
    ·subst e;exact⟨λh=>absurd (hlate _ h) hil,λ_=>Tp hi hy hS ⟨hS,H⟩⟩
    ·exact absurd (ready_mono hj e) (by rw[H.1];exact List.not_mem_nil)
 | succ n ih =>
   intro listed a w hdl hap hr hy hS H;constructor
   ·intro h0;rw[h0] at hr;cases hr
   ·intro j hj;by_cases e:j=i
    ·subst e;exact⟨λh=>absurd (hlate _ h) hil,λ_=>Tp hi hy hS ⟨hS,H⟩⟩
    ·obtain⟨hun,oj,hoj,hall⟩:=mem_ready.1 hj;have hni:listed.getD i true=false:=(mem_ready.1 hr).1
     have hnot:∀{m:Nat},listed.getD m true=false->∀x∈oj.after,Region.binds .any x=true->x.on≠m:=fun {m} hm x hx hb heq=>by
      have h1:=hall x hx hb;rw[heq] at h1;by_cases hlt:m<listed.size
      ·simp[hlt] at hm h1;rw[hm] at h1;cases h1
      ·simp[Array.getElem?_eq_none (by omega:listed.size<=m)] at h1
     have hjd:j∉dn:=λhjd=>by
      obtain⟨oj',hoj',x,hx,hb,hon⟩:=hdn j hjd;rw[hoj] at hoj';cases hoj';rcases hon with hon|hon
      ·exact hnot hni x hx hb hon
      ·exact hnot (hdl _ hon) x hx hb O
     refine⟨λhjl=>absurd (hlate _ hjl) hjd,λhjl=>?_⟩;have h2:=ZQ hoj (hap j oj hoj e hun (hnot hni)) (λcs b=>hsel i oi cs b hi) (λcs b=>hsel j oj cs b hoj) hQ hy ((H.2 j (ready_mono hj e)).2 hjl);refine AtR.mono (λa' w' h3=>⟨h3.2.1,?_⟩) h2;refine ih (listed.setIfInBounds j true) a' w' (λm hm=>?_) (λm om hm hmi hmu hno=>?_) (ready_mono hr (Ne.symm e)) h3.1 h3.2.1 ?_
     ·rw[getD_set_ne true (λe=>hjd (by rw[e];exact hm))];exact hdl m hm
     ·refine hap m om hm hmi ?_ hno;by_cases hjm:j=m
      ·subst hjm;exact hun
      ·rw[getD_set_ne true hjm] at hmu;exact hmu
     ·rw[Array.setIfInBounds_comm _ _ e];exact h3.2.2
def z2M {i:Nat}{oi:Oper}{v:Value}(hi:ops[i]? =some oi)(hsel:∀(j:Nat) (o:Oper) cs b,ops[j]? =some o->o.op≠ .select cs b)(hQ:∀c a w,Q (.panic c) (a.put oi.dst v) w->Q (.panic c) a w)(hil:i∉late):∀(n:Nat) (listed:Array Bool) (a:Act) (w:World),
  (∀j oj,ops[j]? =some oj->j≠i->listed.getD j true=false->(∀e∈oj.after,Region.binds .any e=true->e.on≠i)->oi.apart ops oj=true)->i∈Region.ready .any ops listed->YieldsIf P ops (λ_=>True) oi v a->S w->
  VL P ops Q late S n (listed.setIfInBounds i true) (a.put oi.dst v) w->VL P ops Q late S (n+1) listed a w:=by
 intro n
 induction n with
 | zero =>
   intro listed a w _ hr hy hS H;constructor
   ·intro h0;rw[h0] at hr;cases hr
   ·intro j hj;by_cases e:j=i
    ·subst e;exact⟨λh=>absurd h hil,λ_=>Tp hi hy trivial ⟨hS,H⟩⟩
    ·exact absurd (ready_mono hj e) (by rw[H.1];exact List.not_mem_nil)
 | succ n ih =>
   intro listed a w hap hr hy hS H;constructor
   ·intro h0;rw[h0] at hr;cases hr
   ·intro j hj;by_cases e:j=i
    ·subst e;exact⟨λh=>absurd h hil,λ_=>Tp hi hy trivial ⟨hS,H⟩⟩
    ·obtain⟨hun,oj,hoj,hall⟩:=mem_ready.1 hj;have hni:listed.getD i true=false:=(mem_ready.1 hr).1
     have hwait:∀x∈oj.after,Region.binds .any x=true->x.on≠i:=λx hx hb heq=>by
      have h1:=hall x hx hb;rw[heq] at h1;by_cases hlt:i<listed.size
      ·simp[hlt] at hni h1;rw[hni] at h1;cases h1
      ·simp[Array.getElem?_eq_none (by omega:listed.size<=i)] at h1
     have hap':∀m om,ops[m]? =some om->m≠i->(listed.setIfInBounds j true).getD m true=false->(∀e∈om.after,Region.binds .any e=true->e.on≠i)->oi.apart ops om=true:=λm om hm hmi hmu hno=>by
      refine hap m om hm hmi ?_ hno;by_cases hjm:j=m
      ·subst hjm;exact hun
      ·rw[getD_set_ne true hjm] at hmu;exact hmu
     refine⟨λhjl=>?_,λhjl=>?_⟩
     ·have h2:=ZQ hoj (hap j oj hoj e hun hwait) (λcs b=>hsel i oi cs b hi) (λcs b=>hsel j oj cs b hoj) hQ hy ((H.2 j (ready_mono hj e)).1 hjl);refine AtR.mono (λa' w' h3=>?_) h2;exact Zy hi hsel hQ n (listed.setIfInBounds j true) a' w' hap' (ready_mono hr (Ne.symm e)) h3.1 trivial (by rw[Array.setIfInBounds_comm _ _ e];exact h3.2)
     ·have h2:=ZQ hoj (hap j oj hoj e hun hwait) (λcs b=>hsel i oi cs b hi) (λcs b=>hsel j oj cs b hoj) hQ hy ((H.2 j (ready_mono hj e)).2 hjl);refine AtR.mono (λa' w' h3=>⟨h3.2.1,?_⟩) h2;refine ih (listed.setIfInBounds j true) a' w' hap' (ready_mono hr (Ne.symm e)) h3.1 h3.2.1 ?_;rw[Array.setIfInBounds_comm _ _ e];exact h3.2.2
def z1D {rs:List Nat}{fuel:Nat}{listed:Array Bool}{a:Act}{w:World}(hr:Region.ready .any ops listed=rs)(hne:rs≠[])(hl:∀i∈rs,i∉late)(h:∀i∈rs,AtR P ops Q i (λa' w'=>S w'/\VL P ops Q late S fuel (listed.setIfInBounds i true) a' w') a w):VL P ops Q late S (fuel+1) listed a w:=
 ⟨λh0=>absurd (hr▸h0) hne,by rw[hr];exact λi hi=>⟨λe=>absurd e (hl i hi),λ_=>h i hi⟩⟩
end
def RHL (D:RC)(late:List Nat)(S:World->Prop)(fuel:Nat)(listed:Array Bool)(e:Env)(w:World):Prop:=
 ∀a,WB D.C.n D.C.ms e a->VL D.C.P D.ops.toArray (QK D.C D.k) late S fuel listed a w
def OW {C:Cx}{id:Nat}{ops:List Oper}{k:List Item}{e:Env}{w:World}(late:List Nat)(S:World->Prop)(hm:C.P.follows .mixedOrders=true)
  (ho:Rz C.n ops=true) (h:RHL ⟨C,ops,k,ho⟩ late S ops.length (Array.replicate ops.length false) e w.drew) (hc:calm ops=true:=by rfl):P8 C (.code (.region id ops.toArray true)::k) e w:=
 z3h (λ_=>True) hm ho (λa ha=>z1f _ _ _ _ (h a ha)) hc
def zb3 (rs late:List Nat):Bool:=rs.all λi=>!late.contains i
def zdQ (rs late:List Nat):Bool:=rs.all λi=>late.contains i
section
variable {D:RC}{late:List Nat}{S:World->Prop}{e:Env}{w w':World}{d i fuel:Nat}{op:Op}{ty:TypeId}{pos:String}{aft:Array Edge}{g:Option (Nat×Bool)}{listed:Array Bool}
theorem zhW (rs:List Nat)(hr:RU D.ops listed rs=true)(hl:zdQ rs late=true)(h:RH D (λ_=>True) fuel listed e w):RHL D late S fuel listed e w:=λa ha=>
 z55 (λi hi=>by
  have hr':Region.ready .any D.ops.toArray listed=rs:=by simpa[RU] using hr
  rw[hr'] at hi
  simpa using List.all_eq_true.1 hl i hi) (h a ha)
def z5T {ops:List Oper}{dn:List Nat}(h:waits ops listed late dn i=true):i∉dn/\(∀j∈late,j∈dn)/\(∀j∈dn,listed.getD j true=false)/\∀j∈dn,∃oj,ops.toArray[j]? =some oj/\∃e∈oj.after,Region.binds .any e=true/\(e.on=i\/e.on∈dn):=by
 unfold waits at h
 rw[Bool.and_eq_true,Bool.and_eq_true] at h
 obtain⟨⟨h1,h2⟩,h3⟩:=h
 have h3:=λj hj=>List.all_eq_true.1 h3 j hj
 refine⟨by simpa using h1,λj hj=>by simpa using List.all_eq_true.1 h2 j hj,λj hj=>?_,λj hj=>?_⟩
 ·have:=h3 j hj;rw[Bool.and_eq_true] at this;cases e:listed.getD j true
  ·rfl
  ·have h4:=this.1;rw[e] at h4;cases h4
 ·have:=h3 j hj;rw[Bool.and_eq_true] at this;have:=this.2
  cases ho:ops[j]? with
  |none=>rw[ho] at this;cases this
  | some o =>
    rw[ho] at this;obtain⟨x,hx,hb⟩:=Array.any_eq_true'.1 this;rw[Bool.and_eq_true,Bool.or_eq_true] at hb;exact⟨o,by simpa using ho,x,hx,hb.1,hb.2.imp (λh=>by simpa using h) (λh=>by simpa using h)⟩
def z5i (dn:List Nat){v:Value}(hi:D.ops[i]? =some ⟨some d,op,ty,pos,aft,g⟩)(hf:(Sm D.ops listed i&&waits D.ops listed late dn i)=true)(ho:RZ D e g true=true)(hd:Nat.blt d D.C.n=true)
  (hy:∀w,S w->Y D.C.P e ⟨some d,op,ty,pos,aft,g⟩ v w w) (hS:S w) (h:RHL D late S fuel (listed.setIfInBounds i true) ((d,v)::e) w):RHL D late S (fuel+1) listed e w:=λa ha=>by
 rw[Bool.and_eq_true] at hf
 obtain⟨h1,h2,h3⟩:=TU hf.1
 obtain⟨l1,l2,l3,l4⟩:=z5T hf.2
 exact z3e (v:=v) (by simpa using hi) (Region.noSelect_spec h1) (λ_ _ _ h=>h) l1 l2 l4 _ _ _ _ l3 (Region.free_spec (by simpa using hi) h2) (by simpa using h3) (.inl ⟨RB ha ho,λw hw=>hy w hw a.eval (λx v hx=>ha.look hx)⟩) hS (h _ (ha.put hd v))
def PZ {v:Value}(hi:D.ops[i]? =some ⟨some d,op,ty,pos,aft,g⟩)(hf:(Sm D.ops listed i&& !late.contains i)=true)(ho:RZ D e g true=true)(hd:Nat.blt d D.C.n=true)
  (hy:∀w,Y D.C.P e ⟨some d,op,ty,pos,aft,g⟩ v w w) (hS:S w) (h:RHL D late S fuel (listed.setIfInBounds i true) ((d,v)::e) w):RHL D late S (fuel+1) listed e w:=λa ha=>by
 rw[Bool.and_eq_true] at hf
 obtain⟨h1,h2,h3⟩:=TU hf.1
 exact z2M (v:=v) (by simpa using hi) (Region.noSelect_spec h1) (λ_ _ _ h=>h) (by simpa using hf.2) _ _ _ _ (Region.free_spec (by simpa using hi) h2) (by simpa using h3) (.inl ⟨RB ha ho,λw _=>hy w a.eval (λx v hx=>ha.look hx)⟩) hS (h _ (ha.put hd v))
def NxL (D:RC)(late:List Nat)(S:World->Prop)(fuel:Nat)(listed:Array Bool)(e:Env)(w:World)(i:Nat):Prop:=
 ∀a,WB D.C.n D.C.ms e a->AtR D.C.P D.ops.toArray (QK D.C D.k) i (λa' w'=>S w'/\VL D.C.P D.ops.toArray (QK D.C D.k) late S fuel (listed.setIfInBounds i true) a' w') a w
def R4 (hr:(RU D.ops listed [i]&&zb3 [i] late)=true)(h:NxL D late S fuel listed e w i):RHL D late S (fuel+1) listed e w:=λa ha=>by
 rw[Bool.and_eq_true] at hr
 exact z1D (rs:=[i]) (by simpa[RU] using hr.1) ξ (λj hj=>by simpa using List.all_eq_true.1 hr.2 j hj) λj hj=>by simp at hj;subst hj;exact h a ha
def Xd {j:Nat}(hr:(RU D.ops listed [i,j]&&zb3 [i,j] late)=true)(h:NxL D late S fuel listed e w i)(h':NxL D late S fuel listed e w j):RHL D late S (fuel+1) listed e w:=λa ha=>by
 rw[Bool.and_eq_true] at hr
 exact z1D (rs:=[i,j]) (by simpa[RU] using hr.1) ξ (λj hj=>by simpa using List.all_eq_true.1 hr.2 j hj) λm hm=>by
  simp at hm;rcases hm with rfl|rfl
  ·exact h a ha
  ·exact h' a ha
def NxL.z0x {o:Oper}(hi:D.ops[i]? =some o)(ho:RZ D e o.guard true=true)
  (h:∀a,WB D.C.n D.C.ms e a->o.wp D.C.P a w (λa' w'=>S w'/\VL D.C.P D.ops.toArray (QK D.C D.k) late S fuel (listed.setIfInBounds i true) a' w') (QK D.C D.k)):NxL D late S fuel listed e w i:=λa ha=>by
 have hw:=RB ha ho
 refine .inl ?_
 unfold wpOp
 simp only[List.getElem?_toArray,hi]
 rw[if_pos hw]
 exact .inl (h a ha)
def zdF {v:Value}(hi:D.ops[i]? =some ⟨some d,op,ty,pos,aft,g⟩)(ho:RZ D e g true=true)(hd:Nat.blt d D.C.n=true)
  (hy:Y D.C.P e ⟨some d,op,ty,pos,aft,g⟩ v w w') (hS:S w') (h:RHL D late S fuel (listed.setIfInBounds i true) ((d,v)::e) w'):NxL D late S fuel listed e w i:=
 NxL.z0x hi ho λa ha=>by
  have:=hy a.eval (λx v hx=>ha.look hx);unfold Oper.wp;rw[this];exact⟨hS,h _ (ha.put hd v)⟩
def RM {f:FuncId}{args:List Value}{T:Value->World->Prop}(hi:D.ops[i]? =some ⟨some d,op,ty,pos,aft,g⟩)(ho:RZ D e g true=true)(hd:Nat.blt d D.C.n=true)
  (hy:Yc D.C.P e ⟨some d,op,ty,pos,aft,g⟩ f args w) (hc:P9 D.C.P f args w T) (h:∀v w',T v w'->S w'/\RHL D late S fuel (listed.setIfInBounds i true) ((d,v)::e) w'):NxL D late S fuel listed e w i:=
 NxL.z0x hi ho λa ha=>by
  have:=hy a.eval (λx v hx=>ha.look hx);unfold Oper.wp;rw[this];exact Calls.mono hc λx w' ⟨v,hx,hv⟩=>by subst hx;exact⟨(h v w' hv).1,(h v w' hv).2 _ (ha.put hd v)⟩
def Qg {Post:Value->World->Prop}(hi:D.ops[i]? =some ⟨some d,op,ty,pos,aft,g⟩)(ho:RZ D e g true=true)(hd:Nat.blt d D.C.n=true)
  (hy:Yp D.C.P e ⟨some d,op,ty,pos,aft,g⟩ w Post) (h:∀v w',Post v w'->S w'/\RHL D late S fuel (listed.setIfInBounds i true) ((d,v)::e) w'):NxL D late S fuel listed e w i:=by
 obtain⟨v,w',hy,hp⟩:=hy
 exact zdF hi ho hd hy (h v w' hp).1 (h v w' hp).2
end
end Go.Proofs.YtbihggbffaigjaaGreatDoor
