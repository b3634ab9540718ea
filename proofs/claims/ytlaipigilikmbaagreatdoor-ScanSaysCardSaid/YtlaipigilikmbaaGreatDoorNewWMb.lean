/- The walk of granaryref1.NewestOf. -/
import Derived.Test.YtlaipigilikmbaaGreatDoorMb31
import Derived.Test.YtlaipigilikmbaaGreatDoorMb33
import Derived.Test.YtlaipigilikmbaaGreatDoorMb30
import Derived.Deep.MidRow
set_option linter.unusedVariables false
namespace Go.Proofs.YtlaipigilikmbaaGreatDoor.RefS
open Go Go.RowKit Go.Proofs Go.Proofs.YtlaipigilikmbaaGreatDoor Go.Proofs.YtlaipigilikmbaaGreatDoor.Ph Go.Proofs.YtlaipigilikmbaaGreatDoor.OpenW Go.Proofs.YtlaipigilikmbaaGreatDoor.PackW Go.Proofs.YtlaipigilikmbaaGreatDoor.Cl
def cellsF (x:Fnd):List Value:=[.int .i64 x.lba,.int .i64 x.page,.int .i64 x.seq,.int .i64 x.kind]
def cellsL (l:List Fnd):List Value:=l.flatMap cellsF
theorem cellsL_app (a b:List Fnd):cellsL (a ++ b) = cellsL a ++ cellsL b:=List.flatMap_append ..
theorem cellsL_len (l:List Fnd):(cellsL l).length = l.length * 4:=by
  induction l with
  | nil=>rfl
  | cons x l ih=>rw [cellsL,List.flatMap_cons,List.length_append,← cellsL,ih,List.length_cons]; simp [cellsF]; omega
theorem cellsL_one (l:List Fnd):∀ u ∈ cellsL l,u.oneCell' = true:=fun u hu=>by
  obtain ⟨x,-,hx⟩:=List.mem_flatMap.1 hu
  simp only [cellsF,List.mem_cons,List.not_mem_nil,or_false] at hx
  rcases hx with rfl | rfl | rfl | rfl <;> rfl
theorem flatF_range (S:Nat→Fnd) (n:Nat):flatF S n = cellsL ((List.range n).map S):=by
  induction n with
  | zero=>rfl
  | succ n ih=>unfold flatF; rw [ih,List.range_succ,List.map_append,cellsL_app]; rfl
theorem flatF_list (l:List Fnd):flatF (fun i=>l.getD i zFnd) l.length = cellsL l:=by
  rw [flatF_range]
  congr 1
  refine List.ext_getElem? fun i=>?_
  by_cases hi:i < l.length
  · rw [List.getElem?_map,List.getElem?_range hi,List.getElem?_eq_getElem hi]
    simp [List.getD,hi]
  · rw [List.getElem?_eq_none (by simpa using hi),List.getElem?_eq_none (by omega)]
theorem pg_rd {w:World} {v:Value} {l:List UInt8} (h:PgAt w v l):∃ A n c,v = .slice A n c∧n = l.length∧n ≤ c∧c ≤ 9223372036854775807∧Rd w A (u8v l):=by
  cases h with
  | nil=>exact ⟨none,0,0,rfl,rfl,by omega,by omega,Rd.nil _ _⟩
  | zero a=>exact ⟨some a,0,0,rfl,rfl,by omega,by omega,Rd.nil _ _⟩
  | @row b off n c l cs e fz hn h0 hc hm hb hl =>
    refine ⟨_,_,_,rfl,hn,hc,hm,.inr ⟨b,off,rfl,fun i u hu=>?_⟩⟩
    simp only [u8v,List.getElem?_map,Option.map_eq_some_iff] at hu
    obtain ⟨x,h1,rfl⟩:=hu
    have:=hl i x h1
    unfold World.cell?
    rw [hb]
    exact this
theorem openOf_opn (A:Option Addr) (l:List UInt8) (n c:Nat) (w:World) (hn:n = l.length) (hnc:n ≤ c) (hcm:c ≤ 9223372036854775807) (hr:Rd w A (u8v l)) :
    Calls Tryz.prog 19 #[.slice A n c] w fun e w'=>Below w.heap.size w w'∧∃ B m c',e = .returned (.tuple #[frV (opn l).1 (opn l).2.1 (opn l).2.2.1 B m c',.int .i64 (opn l).2.2.2]):=by
  refine (openOf_any A l n c w hn hnc hcm hr).mono ?_
  rintro e w' ⟨hb,h⟩
  subst hn
  refine ⟨hb, ?_⟩
  rcases h with ⟨hg,st,rfl,h⟩ | ⟨hg,B,c',rfl,-,-⟩
  · refine ⟨none,0,0, ?_⟩
    unfold opn
    rw [if_neg hg]
    rcases h with ⟨h1,h2,rfl⟩ | ⟨h1,rfl⟩
    · rw [if_pos ⟨h1,h2⟩]
      rfl
    · rw [if_neg h1]
      rfl
  · refine ⟨B,longOf l,c', ?_⟩
    unfold opn
    rw [if_pos hg]
theorem opn_kind (l:List UInt8) (h:(opn l).2.2.2 = 2):(opn l).1 = 1 ∨ (opn l).1 = 2 ∨ (opn l).1 = 3:=by
  unfold opn at h ⊢
  split
  · rename_i hg
    obtain ⟨h1,h2,h3⟩:=hg
    obtain ⟨h24,hmax,hk1,hk3,-⟩:=fits_bounds h2
    show (kindOf l:Int) = 1 ∨ (kindOf l:Int) = 2 ∨ (kindOf l:Int) = 3
    omega
  · rename_i hg
    rw [if_neg hg] at h
    split at h <;> cases h
theorem own4 {w:World} {base n:Nat} {e:TypeId} {v:Value} {xs:List Value} (h:w.ownsRow base e 4 v n xs):∃ D c,v = .slice D n c∧n ≤ c:=by
  rcases h.2 with ⟨rfl,rfl⟩ | ⟨g,cap,cur,rfl,_,_,hnc,_⟩
  · exact ⟨none,0,rfl,Nat.le_refl _⟩
  · exact ⟨_,cap,rfl,hnc⟩
theorem wpList_append4 (w:World) {ops:Array Oper} {rest:List Oper} {o:Oper} {a:Act} {Q:Exit→Act→World→Prop} (hgd:o.guard = none) (s x:Operand)
    (ho:o.op = .call { callee:=.builtin .append,args:=#[s,x],argTypes:=#[44,44] })
    (base:Nat) (v:Value) (n:Nat) (xs:List Value) (hs:a.eval s = v) (hown:w.ownsRow base 60 4 v n xs)
    (A:Option Addr) (m c:Nat) (b:List Fnd) (hx:a.eval x = .slice A m c) (hm:b.length = m) (hr:Rd w A (cellsL b)) (N:Nat) (hN:N = n + m) (hbytes:N ≤ 4097) (hbase:base ≤ w.heap.size)
    (h:∀ D c' w',N ≤ c'→w'.ownsRow base 60 4 (.slice D N c') N (xs ++ cellsL b)→w.grownBy w' v.ownBlock→wpList Tryz.prog ops Q rest (a.put o.dst (.slice D N c')) w'):wpList Tryz.prog ops Q (o :: rest) a w:=by
  subst hN
  refine wpList_plain hgd fun K hK=>?_
  obtain ⟨i0,hi0,hz0,hz1,hz2⟩:=info_parts fnd_info
  have key:∃ v' w',(Builtin.append_ #[44,44] o.type #[v,.slice A m c]).run Tryz.prog w = .ok v' w'∧w'.ownsRow base 60 4 v' (n + m) (xs ++ cellsL b)∧w.grownBy w' v.ownBlock:=by
    cases A with
    | none =>
      have h0:=hr.none_
      have hl:=cellsL_len b
      rw [h0] at hl
      have hm0:m = 0:=by simp at hl; omega
      subst hm0
      refine ⟨v,w, ?_,by rw [h0]; simpa using hown,World.grownBy.refl w _⟩
      rcases hown.2 with ⟨rfl,rfl⟩ | ⟨g,cap,cur,rfl,_,_,hnc,_⟩
      · simp [Builtin.append_,run_underlying Tryz.underlying44,sizeOf,typeInfo,hi0,Builtin.lenOf,Builtin.firstCells]
      · simp [Builtin.append_,run_underlying Tryz.underlying44,sizeOf,typeInfo,hi0,Builtin.lenOf,Builtin.firstCells,hnc,storeCells]
    | some ad =>
      obtain ⟨v',w',hrun,h2,h3,_,h5⟩:=run_append_own_at (P:=Tryz.prog) w base 44 o.type 60 i0 _ 4 32 Tryz.underlying44 hi0 hz0 hz1 hz2 rfl (by omega) v n xs hown ad m c (cellsL b) (by rw [cellsL_len,hm]) (hr.cells ad rfl) (cellsL_one b) (by simp only [maxLen]; omega) (by omega) hbase
      exact ⟨v',w',hrun,h2,h3⟩
  obtain ⟨v',w',hrun,h2,h3⟩:=key
  obtain ⟨D,c',rfl,hc'⟩:=own4 h2
  unfold Oper.wp execOp
  simp only [ho,resolve,invoke,builtin,Sem.run_bind,Sem.run_pure,Result.andThen_ok,List.map_toArray,List.map_cons,List.map_nil,hs,hx,hrun]
  exact hK _ _ (h D c' w' hc' h2 h3)
theorem own4_rd {w:World} {base n c:Nat} {D:Option Addr} {e:TypeId} {xs:List Value} (h:w.ownsRow base e 4 (.slice D n c) n xs):Rd w D xs:=by
  rcases h.2 with ⟨hv,hn⟩ | ⟨g,cap,cur,hv,hb,hg,hnc,hm,hs,ht⟩
  · have:=h.1
    subst hn
    obtain rfl:xs = []:=List.eq_nil_of_length_eq_zero (by simpa using this)
    exact Rd.nil _ _
  · injection hv with hA
    subst hA
    refine .inr ⟨g,0,rfl,fun i u hu=>?_⟩
    rw [← ht,List.getElem?_take] at hu
    split at hu
    · unfold World.cell?
      simp only [hg,Nat.zero_add]
      simpa using hu
    · cases hu
theorem cellsL_at {l:List Fnd} {k j:Nat} {u:Value} (hk:k < l.length) (hu:(cellsF (l.getD k zFnd))[j]? = some u):(cellsL l)[k * 4 + j]? = some u:=by
  rw [← flatF_list]
  exact flatF_at _ _ k j hk u hu
theorem cellsL_cut (l:List Fnd) (k:Nat):cellsL l = cellsL (l.take k) ++ cellsL (l.drop k):=by rw [← cellsL_app,List.take_append_drop]
theorem rd_drop4 {w:World} {A:Option Addr} {l:List Fnd} {k cap:Nat} (h:Rd w A (cellsL l)) (hk:k ≤ l.length) (hc:l.length ≤ cap):Rd w (if cap = k then A else A.map (·.add (k * 4))) (cellsL (l.drop k)):=by
  have e:cellsL (l.drop k) = (cellsL l).drop (k * 4):=by
    rw [cellsL_cut l k]
    exact (List.drop_left' (by rw [cellsL_len,List.length_take,Nat.min_eq_left hk])).symm
  rw [e]
  have h2:=h.drop (k * 4) (cap * 4) (by rw [cellsL_len]; omega)
  by_cases hck:cap = k
  · rw [if_pos hck]
    rwa [if_pos (by omega)] at h2
  · rw [if_neg hck]
    rwa [if_neg (by omega)] at h2
theorem cellsL_take (l:List Fnd) (k:Nat) (hk:k ≤ l.length):cellsL (l.take k) = (cellsL l).take (k * 4):=by
  rw [cellsL_cut l k]
  exact (List.take_left' (by rw [cellsL_len,List.length_take,Nat.min_eq_left hk])).symm
theorem setCells_keep (b:Nat):∀ (vs:List Value) (o:Nat) (w:World),(w.setCells b o vs).os = w.os∧(w.setCells b o vs).tape = w.tape∧(w.setCells b o vs).output = w.output∧(w.setCells b o vs).heap.size = w.heap.size∧(∀ x,x ≠ b→(w.setCells b o vs).heap[x]? = w.heap[x]?) ∧
    ∀ cur t fz,w.heap[b]? = some (.cells cur t fz)→∃ cur',(w.setCells b o vs).heap[b]? = some (.cells cur' t fz)∧cur'.size = cur.size
  | [],o,w=>⟨rfl,rfl,rfl,rfl,fun _ _=>rfl,fun cur t fz h=>⟨cur,h,rfl⟩⟩
  | v :: vs,o,w=>by
    obtain ⟨h1,h2,h3,h4,h5,h6⟩:=setCells_keep b vs (o + 1) (w.setCell ⟨b,o,none⟩ v)
    have hs:(w.setCell ⟨b,o,none⟩ v).heap.size = w.heap.size:=by simp [World.setCell]
    refine ⟨h1,h2,h3,h4.trans hs,fun x hx=>(h5 x hx).trans (Below.heap_setCell _ _ _ _ hx),fun cur t fz hb=>?_⟩
    have hb2:(w.setCell ⟨b,o,none⟩ v).heap[b]? = some (.cells (cur.setIfInBounds o v) t fz):=by
      rw [setCell_eq_setRow w b o cur t fz v hb]
      simp only [World.setRow,Array.getElem?_modify,if_pos,hb,Option.map_some]
    obtain ⟨cur',k1,k2⟩:=h6 _ t fz hb2
    exact ⟨cur',k1,by simpa using k2⟩
theorem own4_there {w:World} {base n c k b9 off9:Nat} {e:TypeId} {xs:List Value} (h:w.ownsRow base e 4 (.slice (some ⟨b9,off9,none⟩) n c) n xs) (hk:k < n):w.there b9 (off9 + k * 4) 4:=by
  rcases h.2 with ⟨hv,-⟩ | ⟨g,cap,cur,hv,hb,hg,hnc,hm,hs,ht⟩
  · cases hv
  · injection hv with hA
    injection hA with hA
    injection hA with hA hB
    subst hA hB
    intro j hj
    constructor
    · unfold World.cell?
      simp only [hg]
      rw [Array.getElem?_eq_getElem (by omega)]
      rfl
    · simp [World.frozen?,hg]
theorem own4_set {w:World} {base n c k b9 off9:Nat} {e:TypeId} {l:List Fnd} {x:Fnd} (h:w.ownsRow base e 4 (.slice (some ⟨b9,off9,none⟩) n c) n (cellsL l)) (hn:n = l.length) (hk:k < n) :
    (w.setCells b9 (off9 + k * 4) (cellsF x)).ownsRow base e 4 (.slice (some ⟨b9,off9,none⟩) n c) n (cellsL (l.set k x))∧base ≤ b9:=by
  have hrd:=own4_rd h
  rcases h.2 with ⟨hv,-⟩ | ⟨g,cap,cur,hv,hb,hg,hnc,hm,hs,ht⟩
  · cases hv
  · injection hv with hA hB hC
    injection hA with hA
    injection hA with hA hB
    subst hA hB hC
    obtain ⟨-,-,-,-,-,h6⟩:=setCells_keep b9 (cellsF x) (0 + k * 4) w
    obtain ⟨cur',k1,k2⟩:=h6 _ _ _ hg
    refine ⟨⟨by rw [cellsL_len,List.length_set,hn],.inr ⟨b9,c,cur',rfl,hb,k1,hnc,hm,k2.trans hs, ?_⟩⟩,hb⟩
    refine List.ext_getElem? fun q=>?_
    by_cases hq:q < n * 4
    · rw [List.getElem?_take,if_pos hq,Array.getElem?_toList]
      have hi:q / 4 < (l.set k x).length:=by rw [List.length_set]; omega
      obtain ⟨u,hu⟩:∃ u,(cellsF ((l.set k x).getD (q / 4) zFnd))[q % 4]? = some u:=⟨_,List.getElem?_eq_getElem (by have:=Nat.mod_lt q (show 0 < 4 by omega); simp [cellsF]; omega)⟩
      have hr:=cellsL_at hi hu
      rw [show q / 4 * 4 + q % 4 = q by omega] at hr
      rw [hr]
      have hc:(w.setCells b9 (0 + k * 4) (cellsF x)).cell? ⟨b9,q,none⟩ = cur'[q]?:=by
        unfold World.cell?
        simp only [k1]
        rfl
      rw [← hc]
      by_cases he:q / 4 = k
      · have hj:q % 4 < (cellsF x).length:=by have:=Nat.mod_lt q (show 0 < 4 by omega); simp [cellsF]; omega
        have h9:=World.cell?_setCells_in b9 (cellsF x) (0 + k * 4) w (fun j hj=>(own4_there h hk j (by simpa [cellsF] using hj)).1) (q % 4) hj
        rw [show 0 + k * 4 + q % 4 = q by omega] at h9
        rw [h9,← hu,he]
        have:(l.set k x).getD k zFnd = x:=by rw [List.getD_eq_getElem?_getD,List.getElem?_set_self (by omega)]; rfl
        rw [this,List.getElem?_eq_getElem hj]
      · rw [World.cell?_setCells_out b9 (cellsF x) (0 + k * 4) w ⟨b9,q,none⟩ (fun _ _=>by
          show q < 0 + k * 4 ∨ 0 + k * 4 + (cellsF x).length ≤ q
          simp only [cellsF,List.length_cons,List.length_nil]
          omega)]
        have h8:(l.set k x).getD (q / 4) zFnd = l.getD (q / 4) zFnd:=by rw [List.getD_eq_getElem?_getD,List.getD_eq_getElem?_getD,List.getElem?_set_ne (Ne.symm he)]
        rw [h8] at hu
        have h7:=cellsL_at (by omega:q / 4 < l.length) hu
        rw [show q / 4 * 4 + q % 4 = q by omega] at h7
        rcases hrd with h0 | ⟨b,off,e1,hcc⟩
        · rw [h0] at h7
          simp at h7
        · cases e1
          have:=hcc q u h7
          simpa using this
    · rw [List.getElem?_take,if_neg hq,List.getElem?_eq_none (by rw [cellsL_len,List.length_set]; omega)]
theorem below_setCells {B:Nat} {w w':World} (h:Below B w w') {b o:Nat} (hb:B ≤ b) (vs:List Value):Below B w (w'.setCells b o vs):=by
  obtain ⟨h1,h2,h3,h4,h5,-⟩:=setCells_keep b vs o w'
  exact ⟨h1.trans h.os,h2.trans h.tape,h3.trans h.output,by rw [h4]; exact h.size,fun k hk=>(h5 k (by omega)).trans (h.block k hk)⟩
theorem ins_new {l:List Fnd} {x:Fnd} {k:Nat} (hp:posF x l = k) (hne:¬ (k < l.length∧(l.getD k zFnd).lba = x.lba)):insF x l = l.take k ++ x :: l.drop k:=by
  subst hp
  unfold insF
  exact if_neg hne
theorem ins_set {l:List Fnd} {x:Fnd} {k:Nat} (hp:posF x l = k) (he:k < l.length∧(l.getD k zFnd).lba = x.lba):insF x l = if (l.getD k zFnd).seq ≤ x.seq then l.set k x else l:=by
  subst hp
  unfold insF
  exact if_pos he
theorem ins_cells (l:List Fnd) (x:Fnd) (k:Nat):cellsL (l.take k ++ x :: l.drop k) = (([] ++ cellsL (l.take k)) ++ cellsL [x]) ++ cellsL (l.drop k):=by
  rw [show l.take k ++ x :: l.drop k = (l.take k ++ [x]) ++ l.drop k by simp,cellsL_app,cellsL_app,List.nil_append]
end Go.Proofs.YtlaipigilikmbaaGreatDoor.RefS
