/- A call of scan.States, for a law in company. -/
import Derived.Test.YtlaipigilikmbaaGreatDoorMb29
import Derived.Test.YtlaipigilikmbaaGreatDoorMb34
set_option linter.unusedVariables false
namespace Go.Proofs.YtlaipigilikmbaaGreatDoor.Cl
open Go Go.Conc Go.Proofs.YtlaipigilikmbaaGreatDoor.Co Go.Proofs.YtlaipigilikmbaaGreatDoor.Ph Go.Proofs Go.Proofs.YtlaipigilikmbaaGreatDoor Go.RowKit
section
variable {Q:Value→World→Prop} {E:Env} {K Z:Nat→Prop} {W:World} {cs:List Frame} {fn:FuncId} {t:Array Value} {todo k:List Item} {m:FrameMode} {w0 w:World} {f:Fm}
theorem winsR_states {ops:Array Oper} {i:Nat} {rest:List Nat} {o:Oper} {x y:Operand} {A:Option Addr} {L cp n:Nat} {pg:Nat→List UInt8} (hS:Sound Tryz.prog E) (hl:LawOk E K W) (hKZ:∀ x,K x→¬ Z x)
    (ho:ops[i]? = some o) (hw:∀ t',Region.wanted o (yielded ops t') = true) (hxo:Co.OkX E x) (hyo:Co.OkX E y)
    (hr:∀ t' w,(execOp (Act.eval ⟨t',[]⟩) o).run Tryz.prog w = .ok (.enter 15 #[Act.eval ⟨t',[]⟩ x,Act.eval ⟨t',[]⟩ y]) w) (hev:∀ t' w,(execOp (Act.eval ⟨t',[]⟩) o).events Tryz.prog w #[] = #[])
    (hx:Act.eval ⟨t,[]⟩ x = .slice A L cp) (hy:Act.eval ⟨t,[]⟩ y = .int .i64 n) (hn1:1 ≤ n) (hn:n ≤ 8) (hpg:LArgs w0 A L pg)
    (hk:∀ Z' D u,L ≤ 4096→(∀ x,K x→¬ Z' x)→Below w0.heap.size w0 u→u.ownsRow w0.heap.size 3 1 (.slice D L L) L ((List.range L).map fun k=>.int .i64 (opn (pg k)).2.2.2) →
      WinsR Tryz.prog Q E K W Z' cs fn (Act.put ⟨t,[]⟩ o.dst (.tuple #[.slice D L L,.nilIface])).tmps (.inRegion ops rest :: k) .run u)
    (hfull:4096 < L→WinsR Tryz.prog Q E K W Z cs fn (Act.put ⟨t,[]⟩ o.dst fullV).tmps (.inRegion ops rest :: k) .run w0):WinsR Tryz.prog Q E K W Z cs fn t (.inRegion ops (i :: rest) :: k) .run w0:=by
  intro f t' w ha hwr hs
  have he:=ev_rel (fr:=(base fn).at ⟨t,[]⟩ (.inRegion ops (i :: rest) :: k)) (fr':=(base fn).at ⟨t',[]⟩ (.inRegion ops (i :: rest) :: k)) ha
  rw [Frame.eval_at',Frame.eval_at'] at he
  have h1:=he x hxo
  have h2:=he y hyo
  rw [hx] at h1
  rw [hy] at h2
  have e2:Act.eval ⟨t',[]⟩ y = .int .i64 n:=by
    generalize Act.eval ⟨t',[]⟩ y = y' at h2
    cases h2
    rfl
  obtain ⟨A',pv,e1,hargs⟩:=args_of hl hwr hs h1 (hpg.re w.tape w.drawn)
  refine wins_step rfl fun τ d=>⟨ss0 A' L cp n (Co.fr fn t' (.inRegion ops (i :: rest) :: k) .run) cs,w,d,#[], ?_,Nat.le_refl _,fun e he=>by simp at he, ?_⟩
  · have hst:=stepG_enter (P:=Tryz.prog) (main:=true) (b:=base fn) (a:=⟨t',[]⟩) (k:=k) (cs:=cs) (rest:=rest) ho (hw t') (by simp [base]) (hr t' (Co.re w τ d))
    rw [e1,e2] at hst
    have hls:listed Tryz.prog (base fn).fn ⟨t',[]⟩ o (Co.re w τ d) = #[]:=by
      unfold listed
      rw [hev]
      rfl
    rw [hls] at hst
    exact hst
  · have hfin:∀ v,(Co.fr fn t' (.inRegion ops (i :: rest) :: k) .run).finish v = Co.fr fn (Act.put ⟨t',[]⟩ o.dst v).tmps (.inRegion ops rest :: k) .run:=fun v=>by
      have:=finish_fr (y:=⟨fn,t',.inRegion ops (i :: rest) :: k,false⟩) (v:=v) rfl
      rw [ho] at this
      exact this
    rcases Nat.lt_or_ge 4096 L with hL | hL
    · refine states_full hn1 hn hL ?_
      rw [hfin]
      refine hfull hL f _ w (put_rel ha ?_ _) hwr hs
      refine AR.tuple (AR.flat fun u hu=>?_)
      simp only [List.mem_toArray,List.mem_cons,List.not_mem_nil,or_false] at hu
      rcases hu with rfl | rfl
      · exact fun ok f=>.sliceN _ _
      · exact fun ok f=>.iface (.int _ _)
    · refine states_all hargs hn1 hn hL fun D w' hR=>?_
      obtain ⟨r2,r3,r4,r5,r6,r7⟩:=hR
      have hsz:w.heap.size ≤ w'.heap.size:=by
        have:=r5 (w.heap.size + 5) (.inr (.inr (.inr rfl)))
        omega
      have hrel:WR E f (Co.re w0 w'.tape w'.drawn) w':=hwr.rely ⟨hsz,fun y hy hy2=>r4 y hy2 (by
        rcases hy with h | h
        · exact (hs.own y h).2
        · exact (hs.ro y h).2)⟩
      have rg:∀ {r y},f r = some y→y < w.heap.size:=fun h=>(hwr.lt h).2
      obtain ⟨g,D0,ob,g1,g2,g3,g4,g5⟩:=row_take hrel r2 (fun v hv=>by obtain ⟨k,-,rfl⟩:=List.mem_map.1 hv; exact ⟨_,_,rfl⟩) (by simp) (fun a hd=>⟨fun r hr=>by have:=rg hr; have:=(r3 a hd).1; omega,fun hro=>by have:=(hs.ro _ hro).1; have:=(r3 a hd).1; omega⟩)
      rw [hfin]
      have hKn:∀ x,K x→¬ Zn Z w x:=fun y hy hz=>by
        have:=hs.low y hy
        rcases hz with h | h | h | h
        · exact hKZ y hy h
        all_goals omega
      refine hk (Zn Z w) D0 _ hL hKn (Below.alloc (Below.refl _ _) (Nat.le_refl _) ob) g4 g _ w' (put_rel (ha.mono g1) ?_ _) g3 ⟨fun y hy=>?_,fun y hy=>?_,fun y hy=>?_,r5,fun y hy=>?_,Nat.le_trans hs.size hsz,r6.trans hs.still.1,r7.trans hs.still.2⟩
      · refine AR.tuple ?_
        exact ((AR.empty.push g2).push .nilIface)
      · rw [r4 y (hs.low y hy) (hKZ y hy)]
        exact hs.old y hy
      · exact Nat.lt_of_lt_of_le (hs.low y hy) hsz
      · rcases g5 y hy with h | ⟨a,hd,rfl⟩
        · refine ⟨(hs.own y h).1,fun hz=>?_⟩
          obtain ⟨⟨r,er⟩,-⟩:=h
          have:=rg er
          rcases hz with h | h | h | h
          · exact (rng hl hwr hs er).2 h
          all_goals omega
        · obtain ⟨b1,b2⟩:=r3 a hd
          exact ⟨fun hk'=>by have:=hs.low _ hk'; omega,b2⟩
      · refine ⟨Nat.lt_of_lt_of_le (hs.ro y hy).1 hsz,fun hz=>?_⟩
        have:=(hs.ro y hy).1
        rcases hz with h | h | h | h
        · exact (hs.ro y hy).2 h
        all_goals omega
theorem winsR_states8 (hS:Sound Tryz.prog E) (hl:LawOk E K W) (hKZ:∀ x,K x→¬ Z x) {id:Nat} {ops:Array Oper} {o0 o1 o2 o3 o4 o5 o6 o7:Oper} {p q s1 s2 s3 s4 e1 e2 d1 d2:Nat} (hsz:ops.size = 8) (h0:ops[0]? = some o0) (h1:ops[1]? = some o1) (h2:ops[2]? = some o2) (h3:ops[3]? = some o3) (h4:ops[4]? = some o4) (h5:ops[5]? = some o5) (h6:ops[6]? = some o6) (h7:ops[7]? = some o7)
    (g0:Hands o0 s1 (.tmp p)) (g1:Hands o1 s2 (.tmp q)) (g2:CallsOf o2 15 s3 (.tmp s1) (.tmp s2)) (g3:Hands o3 s4 (.tmp s3)) (g4:Parts o4 e1 s4 0) (g5:Parts o5 e2 s4 1) (g6:Hands o6 d1 (.tmp e1)) (g7:Hands o7 d2 (.tmp e2))
    (hq:q ≠ s1) (h12:s1 ≠ s2) (hnd:[s3,s4,e1,e2,d1,d2].Nodup) (hl12:s1 < t.size∧s2 < t.size) (hlt:∀ s ∈ [s3,s4,e1,e2,d1,d2],s < t.size)
    {A:Option Addr} {L cp n:Nat} {pg:Nat→List UInt8} (hx:t[p]? = some (.slice A L cp)) (hy:t[q]? = some (.int .i64 n)) (hn1:1 ≤ n) (hn:n ≤ 8) (hpg:LArgs w0 A L pg)
    (hk:∀ Z' D u t',L ≤ 4096→(∀ x,K x→¬ Z' x)→Below w0.heap.size w0 u→u.ownsRow w0.heap.size 3 1 (.slice D L L) L ((List.range L).map fun k=>.int .i64 (opn (pg k)).2.2.2)→Left t t' [s1,s2,s3,s4,e1,e2,d1,d2] d1 d2 (.slice D L L) .nilIface→WinsR Tryz.prog Q E K W Z' cs fn t' k .run u)
    (hfull:∀ t',4096 < L→Left t t' [s1,s2,s3,s4,e1,e2,d1,d2] d1 d2 (.slice none 0 0) (.iface 38 (.int .i64 3))→WinsR Tryz.prog Q E K W Z cs fn t' k .run w0):WinsR Tryz.prog Q E K W Z cs fn t (.code (.region id ops false) :: k) .run w0:=by
  refine winsR_reg ?_
  rw [hsz,show List.range 8 = [0,1,2,3,4,5,6,7] from rfl]
  refine winsR_move hS h0 g0.1 g0.2.1 g0.2.2 trivial (ev_tmp hx) ?_
  refine winsR_move hS h1 g1.1 g1.2.1 g1.2.2 trivial (ev_tmp (by rw [set_ne (Ne.symm hq)]; exact hy)) ?_
  have left:∀ {t' a b},Left ((t.setIfInBounds s1 (.slice A L cp)).setIfInBounds s2 (.int .i64 n)) t' [s3,s4,e1,e2,d1,d2] d1 d2 a b→Left t t' [s1,s2,s3,s4,e1,e2,d1,d2] d1 d2 a b:=fun {t' a b} h=>⟨by rw [h.size]; simp,fun s hs=>by
    have hs':s ≠ s1∧s ≠ s2∧s ∉ [s3,s4,e1,e2,d1,d2]:=⟨fun e=>hs (by rw [e]; exact List.mem_cons_self),fun e=>hs (by rw [e]; exact List.mem_cons_of_mem _ List.mem_cons_self),fun hm=>hs (List.mem_cons_of_mem _ (List.mem_cons_of_mem _ hm))⟩
    rw [h.keep s hs'.2.2,set_ne (Ne.symm hs'.2.1),set_ne (Ne.symm hs'.1)],h.one,h.two⟩
  refine winsR_states (x:=.tmp s1) (y:=.tmp s2) hS hl hKZ h2 (fun t'=>by simp [Region.wanted,g2.2.1]) trivial trivial g2.2.2.1 g2.2.2.2 (A:=A) (L:=L) (cp:=cp) (n:=n) (pg:=pg) (ev_tmp (by rw [set_ne (Ne.symm h12)]; exact set_same hl12.1)) (ev_tmp (set_same (by simpa using hl12.2))) hn1 hn hpg (fun Z' D u hL hKZ' hB hO=>?_) fun hL=>?_
  · rw [g2.1]
    exact winsR_parts hS h3 h4 h5 h6 h7 g3 g4 g5 g6 g7 hnd (by simpa using hlt) fun t' hL'=>hk Z' D u t' hL hKZ' hB hO (left hL')
  · rw [g2.1]
    exact winsR_parts hS h3 h4 h5 h6 h7 g3 g4 g5 g6 g7 hnd (by simpa using hlt) fun t' hL'=>hfull t' hL (left hL')
end
end Go.Proofs.YtlaipigilikmbaaGreatDoor.Cl
