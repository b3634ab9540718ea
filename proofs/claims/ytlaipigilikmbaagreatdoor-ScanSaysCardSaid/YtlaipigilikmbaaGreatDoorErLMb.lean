/- Laws in company: calls that make nothing known: granarysame.Error, and Newest and States of a number of workers that may not be. -/
import Derived.Test.YtlaipigilikmbaaGreatDoorErWMb
import Derived.Test.YtlaipigilikmbaaGreatDoorMb31
import Derived.Test.YtlaipigilikmbaaGreatDoorMb29
set_option linter.unusedVariables false
namespace Go.Proofs.YtlaipigilikmbaaGreatDoor.Cl
open Go Go.Conc Go.Proofs.YtlaipigilikmbaaGreatDoor.Co Go.Proofs.YtlaipigilikmbaaGreatDoor.Ph Go.Proofs Go.Proofs.YtlaipigilikmbaaGreatDoor Go.RowKit
section
variable {Q:Value→World→Prop} {E:Env} {K Z:Nat→Prop} {W:World} {cs:List Frame} {fn:FuncId} {t:Array Value} {todo k:List Item} {m:FrameMode} {w0 w:World}
theorem winsR_call2 {F:FuncId} {ops:Array Oper} {i:Nat} {rest:List Nat} {o:Oper} {x y:Operand} {vx vy r:Value} (hKZ:∀ x,K x→¬ Z x)
    (ho:ops[i]? = some o) (hw:∀ t',Region.wanted o (yielded ops t') = true) (hxo:Co.OkX E x) (hyo:Co.OkX E y)
    (hr:∀ t' w,(execOp (Act.eval ⟨t',[]⟩) o).run Tryz.prog w = .ok (.enter F #[Act.eval ⟨t',[]⟩ x,Act.eval ⟨t',[]⟩ y]) w) (hev:∀ t' w,(execOp (Act.eval ⟨t',[]⟩) o).events Tryz.prog w #[] = #[])
    (hx:Act.eval ⟨t,[]⟩ x = vx) (hy:Act.eval ⟨t,[]⟩ y = vy) (hf:∀ ok f,VR ok f r r)
    (h:∀ f vx' vy' w c,VR E.ok f vx vx'→VR E.ok f vy vy'→Side E K W Z f w→(∀ w',w.heap.size ≤ w'.heap.size→(∀ x,x < w.heap.size→w'.heap[x]? = w.heap[x]?)→w'.os = w.os∧w'.output = w.output→Wins Tryz.prog Q Z (G (c.finish r) cs) w')→Wins Tryz.prog Q Z (G (Frame.enter Tryz.prog F #[vx',vy'] .normal) (c :: cs)) w)
    (hk:WinsR Tryz.prog Q E K W Z cs fn (Act.put ⟨t,[]⟩ o.dst r).tmps (.inRegion ops rest :: k) .run w0):WinsR Tryz.prog Q E K W Z cs fn t (.inRegion ops (i :: rest) :: k) .run w0:=by
  intro f t' w ha hwr hs
  have he:=ev_rel (fr:=(base fn).at ⟨t,[]⟩ (.inRegion ops (i :: rest) :: k)) (fr':=(base fn).at ⟨t',[]⟩ (.inRegion ops (i :: rest) :: k)) ha
  rw [Frame.eval_at',Frame.eval_at'] at he
  have h1:=he x hxo
  have h2:=he y hyo
  rw [hx] at h1
  rw [hy] at h2
  refine wins_step rfl fun τ d=>⟨G (Frame.enter Tryz.prog F #[Act.eval ⟨t',[]⟩ x,Act.eval ⟨t',[]⟩ y] .normal) (Co.fr fn t' (.inRegion ops (i :: rest) :: k) .run :: cs),w,d,#[], ?_,Nat.le_refl _,fun e he=>by simp at he, ?_⟩
  · have hst:=stepG_enter (P:=Tryz.prog) (main:=true) (b:=base fn) (a:=⟨t',[]⟩) (k:=k) (cs:=cs) (rest:=rest) ho (hw t') (by simp [base]) (hr t' (Co.re w τ d))
    have hls:listed Tryz.prog (base fn).fn ⟨t',[]⟩ o (Co.re w τ d) = #[]:=by
      unfold listed
      rw [hev]
      rfl
    rw [hls] at hst
    exact hst
  · have hfin:∀ v,(Co.fr fn t' (.inRegion ops (i :: rest) :: k) .run).finish v = Co.fr fn (Act.put ⟨t',[]⟩ o.dst v).tmps (.inRegion ops rest :: k) .run:=fun v=>by
      have:=finish_fr (y:=⟨fn,t',.inRegion ops (i :: rest) :: k,false⟩) (v:=v) rfl
      rw [ho] at this
      exact this
    refine h f _ _ w _ h1 h2 hs fun w' hsz hold hso=>?_
    rw [hfin]
    have hrel:WR E f (Co.re w0 w'.tape w'.drawn) w':=hwr.rely ⟨hsz,fun y hy hy2=>hold y hy2⟩
    refine hk f _ w' (put_rel ha (hf _ _) _) hrel ⟨fun y hy=>?_,fun y hy=>Nat.lt_of_lt_of_le (hs.low y hy) hsz,hs.own,fun y hy=>Nat.lt_of_lt_of_le (hs.zed y hy) hsz,fun y hy=>⟨Nat.lt_of_lt_of_le (hs.ro y hy).1 hsz,(hs.ro y hy).2⟩,Nat.le_trans hs.size hsz,hso.1.trans hs.still.1,hso.2.trans hs.still.2⟩
    rw [hold y (hs.low y hy)]
    exact hs.old y hy
def IsErr (e:Value) (k:Int) (r:Bool):Prop:=e = .nilIface∧r = decide (0 = k) ∨ ∃ n,e = .iface 38 (.int .i64 n)∧r = decide (n = k)
theorem err_call {e:Value} {kk:Int} {r:Bool} {f:Fm} {vx' vy':Value} {w:World} {c:Frame} (hl:LawOk E K W) (hKZ:∀ x,K x→¬ Z x) (hg:ToldW.ErrT W) (he:IsErr e kk r) (h1:VR E.ok f e vx') (h2:VR E.ok f (.int .i64 kk) vy') (hs:Side E K W Z f w)
    (hk:∀ w',w.heap.size ≤ w'.heap.size→(∀ x,x < w.heap.size→w'.heap[x]? = w.heap[x]?)→w'.os = w.os∧w'.output = w.output→Wins Tryz.prog Q Z (G (c.finish (.bool r)) cs) w'):Wins Tryz.prog Q Z (G (Frame.enter Tryz.prog 11 #[vx',vy'] .normal) (c :: cs)) w:=by
  cases h2
  have hK:K 0:=hl.low _ (by decide)
  rcases he with ⟨rfl,rfl⟩ | ⟨n,rfl,rfl⟩
  · cases h1
    exact wins_nil (hk w (Nat.le_refl _) (fun _ _=>rfl) ⟨rfl,rfl⟩)
  · cases h1 with
    | iface h3 =>
      cases h3
      refine wins_err ?_ (hKZ _ hK) hs.zed hk
      unfold ToldW.ErrT World.cell? at hg ⊢
      rw [hs.old _ hK]
      exact hg
theorem left2 {t t':Array Value} {s1 s2 d1 d2:Nat} {S:List Nat} {v1 v2 a b:Value} (h:Left ((t.setIfInBounds s1 v1).setIfInBounds s2 v2) t' S d1 d2 a b):Left t t' (s1 :: s2 :: S) d1 d2 a b:=⟨by rw [h.size]; simp,fun s hs=>by
  have hs':s ≠ s1∧s ≠ s2∧s ∉ S:=⟨fun e=>hs (by rw [e]; exact List.mem_cons_self),fun e=>hs (by rw [e]; exact List.mem_cons_of_mem _ List.mem_cons_self),fun hm=>hs (List.mem_cons_of_mem _ (List.mem_cons_of_mem _ hm))⟩
  rw [h.keep s hs'.2.2,set_ne (Ne.symm hs'.2.1),set_ne (Ne.symm hs'.1)],h.one,h.two⟩
theorem winsR_error4 (hS:Sound Tryz.prog E) (hl:LawOk E K W) (hKZ:∀ x,K x→¬ Z x) (hg:ToldW.ErrT W) {id:Nat} {ops:Array Oper} {o0 o1 o2 o3:Oper} {p q s1 s2 s3 d:Nat} (hsz:ops.size = 4) (h0:ops[0]? = some o0) (h1:ops[1]? = some o1) (h2:ops[2]? = some o2) (h3:ops[3]? = some o3)
    (g0:Hands o0 s1 (.tmp p)) (g1:Hands o1 s2 (.tmp q)) (g2:CallsOf o2 11 s3 (.tmp s1) (.tmp s2)) (g3:Hands o3 d (.tmp s3)) (hq:q ≠ s1) (h12:s1 ≠ s2) (hlt:s1 < t.size∧s2 < t.size∧s3 < t.size∧d < t.size)
    {e:Value} {kk:Int} {r:Bool} (hx:t[p]? = some e) (hy:t[q]? = some (.int .i64 kk)) (he:IsErr e kk r)
    (hk:∀ t',t'.size = t.size→(∀ s,s ∉ [s1,s2,s3,d]→t'[s]? = t[s]?)→t'[d]? = some (.bool r)→WinsR Tryz.prog Q E K W Z cs fn t' k .run w0):WinsR Tryz.prog Q E K W Z cs fn t (.code (.region id ops false) :: k) .run w0:=by
  refine winsR_reg ?_
  rw [hsz,show List.range 4 = [0,1,2,3] from rfl]
  refine winsR_move hS h0 g0.1 g0.2.1 g0.2.2 trivial (ev_tmp hx) ?_
  refine winsR_move hS h1 g1.1 g1.2.1 g1.2.2 trivial (ev_tmp (by rw [set_ne (Ne.symm hq)]; exact hy)) ?_
  refine winsR_call2 (x:=.tmp s1) (y:=.tmp s2) (r:=.bool r) hKZ h2 (fun t'=>by simp [Region.wanted,g2.2.1]) trivial trivial g2.2.2.1 g2.2.2.2 (ev_tmp (by rw [set_ne (Ne.symm h12)]; exact set_same hlt.1)) (ev_tmp (set_same (by simpa using hlt.2.1))) (fun ok f=>.bool _) (fun f vx' vy' w c a1 a2 hs hk=>err_call hl hKZ hg he a1 a2 hs hk) ?_
  rw [g2.1]
  refine winsR_move hS (v:=.bool r) h3 g3.1 g3.2.1 g3.2.2 trivial (ev_tmp (set_same (by simpa using hlt.2.2.1))) (winsR_inDone (hk _ (by simp [Act.put]) (fun s hs=>?_) (set_same (by simpa [Act.put] using hlt.2.2.2))))
  simp only [List.mem_cons,List.not_mem_nil,or_false,not_or] at hs
  obtain ⟨q1,q2,q3,q4⟩:=hs
  show ((((t.setIfInBounds s1 e).setIfInBounds s2 (.int .i64 kk)).setIfInBounds s3 (.bool r)).setIfInBounds d (.bool r))[s]? = t[s]?
  rw [set_ne (Ne.symm q4),set_ne (Ne.symm q3),set_ne (Ne.symm q2),set_ne (Ne.symm q1)]
theorem winsR_range8 {F:FuncId} (hF:∀ (A:Option Addr) (L cp:Nat) (z:Int) (c:Frame) (w:World),z < 1 ∨ 8 < z→Wins Tryz.prog Q Z (G (c.finish rangeV) cs) w→Wins Tryz.prog Q Z (G (Frame.enter Tryz.prog F #[.slice A L cp,.int .i64 z] .normal) (c :: cs)) w)
    (hS:Sound Tryz.prog E) (hKZ:∀ x,K x→¬ Z x) {id:Nat} {ops:Array Oper} {o0 o1 o2 o3 o4 o5 o6 o7:Oper} {p q s1 s2 s3 s4 e1 e2 d1 d2:Nat} (hsz:ops.size = 8) (h0:ops[0]? = some o0) (h1:ops[1]? = some o1) (h2:ops[2]? = some o2) (h3:ops[3]? = some o3) (h4:ops[4]? = some o4) (h5:ops[5]? = some o5) (h6:ops[6]? = some o6) (h7:ops[7]? = some o7)
    (g0:Hands o0 s1 (.tmp p)) (g1:Hands o1 s2 (.tmp q)) (g2:CallsOf o2 F s3 (.tmp s1) (.tmp s2)) (g3:Hands o3 s4 (.tmp s3)) (g4:Parts o4 e1 s4 0) (g5:Parts o5 e2 s4 1) (g6:Hands o6 d1 (.tmp e1)) (g7:Hands o7 d2 (.tmp e2))
    (hq:q ≠ s1) (h12:s1 ≠ s2) (hnd:[s3,s4,e1,e2,d1,d2].Nodup) (hl12:s1 < t.size∧s2 < t.size) (hlt:∀ s ∈ [s3,s4,e1,e2,d1,d2],s < t.size)
    {A:Option Addr} {L cp:Nat} {z:Int} (hx:t[p]? = some (.slice A L cp)) (hy:t[q]? = some (.int .i64 z)) (hz:z < 1 ∨ 8 < z)
    (hk:∀ t',Left t t' [s1,s2,s3,s4,e1,e2,d1,d2] d1 d2 (.slice none 0 0) (.iface 38 (.int .i64 1))→WinsR Tryz.prog Q E K W Z cs fn t' k .run w0):WinsR Tryz.prog Q E K W Z cs fn t (.code (.region id ops false) :: k) .run w0:=by
  refine winsR_reg ?_
  rw [hsz,show List.range 8 = [0,1,2,3,4,5,6,7] from rfl]
  refine winsR_move hS h0 g0.1 g0.2.1 g0.2.2 trivial (ev_tmp hx) ?_
  refine winsR_move hS h1 g1.1 g1.2.1 g1.2.2 trivial (ev_tmp (by rw [set_ne (Ne.symm hq)]; exact hy)) ?_
  refine winsR_call2 (x:=.tmp s1) (y:=.tmp s2) (r:=rangeV) hKZ h2 (fun t'=>by simp [Region.wanted,g2.2.1]) trivial trivial g2.2.2.1 g2.2.2.2 (ev_tmp (by rw [set_ne (Ne.symm h12)]; exact set_same hl12.1)) (ev_tmp (set_same (by simpa using hl12.2))) (fun ok f=>?_) (fun f vx' vy' w c a1 a2 hs hk=>?_) ?_
  · refine AR.tuple (AR.flat fun u hu=>?_)
    simp only [List.mem_toArray,List.mem_cons,List.not_mem_nil,or_false] at hu
    rcases hu with rfl | rfl
    · exact fun ok f=>.sliceN _ _
    · exact fun ok f=>.iface (.int _ _)
  · cases a2
    cases a1 with
    | sliceN=>exact hF _ _ _ _ _ _ hz (hk w (Nat.le_refl _) (fun _ _=>rfl) ⟨rfl,rfl⟩)
    | slice h=>exact hF _ _ _ _ _ _ hz (hk w (Nat.le_refl _) (fun _ _=>rfl) ⟨rfl,rfl⟩)
    | slice0 a a'=>exact hF _ _ _ _ _ _ hz (hk w (Nat.le_refl _) (fun _ _=>rfl) ⟨rfl,rfl⟩)
  · rw [g2.1]
    exact winsR_parts hS h3 h4 h5 h6 h7 g3 g4 g5 g6 g7 hnd (by simpa using hlt) fun t' hL'=>hk t' (left2 hL')
end
end Go.Proofs.YtlaipigilikmbaaGreatDoor.Cl
