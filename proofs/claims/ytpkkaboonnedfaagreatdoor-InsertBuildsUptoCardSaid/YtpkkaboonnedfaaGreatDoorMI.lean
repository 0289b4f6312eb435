/- Part MI of the proof: texts Ins. -/
import Derived.Test.YtpkkaboonnedfaaGreatDoorMC
import Derived.Laws.OwnMore
import Derived.Deep.Draws
import Derived.Laws.Rows
import Derived.Test.YtpkkaboonnedfaaGreatDoorProg
import Derived.Shelf.Spec.SlicesInsertGrow
namespace Go.Proofs.YtpkkaboonnedfaaGreatDoor
open Go.RowKit
set_option linter.unusedSimpArgs false
set_option linter.unusedVariables false
theorem QxP:(Tryz.prog.info? 52).map (fun i=>(i.size,i.bytes))=some (2,16):=by kernel_rfl
theorem QtI {i:TypeInfo} (h:Tryz.prog.info? 52=some i):i.size=2∧i.bytes=16:=by
 have:=QxP
 rw [h] at this
 simpa using this
theorem QrX:∃ i,Tryz.prog.info? 52=some i:=by
 cases h:Tryz.prog.info? 52 with
 | none=>have:=QxP; rw [h] at this; cases this
 | some i=>exact ⟨i,rfl⟩
theorem QrM {w:World} {e:TypeId} {b o n k cap:Nat} {cur:Array Value} {cs:List Value} (hg:w.heap[b]?=some (.cells cur e (0,0))) (hcs:cs=(cur.toList.drop o).take (n*2)) (hl:o+n*2≤cur.size) :
  (Builtin.firstCells 2 n (.slice (some ⟨b,o,none⟩) k cap)).run Tryz.prog w=.ok cs.toArray w:=by
 refine run_firstCells_some w 2 n ⟨b,o,none⟩ k cap cs (by rw [hcs]; simp; omega) fun j v hj=>?_
 have hj2:j<n*2:=by
  have:=(List.getElem?_eq_some_iff.1 hj).1
  rw [hcs] at this; simp at this; omega
 rw [hcs,List.getElem?_take,if_pos hj2,List.getElem?_drop] at hj
 rw [Addr.add_lit]
 simp only [World.cell?,hg]
 simpa using hj
set_option maxHeartbeats 4000000 in
set_option maxRecDepth 100000 in
theorem QC3 (w:World) (b C vb vC n m i:Nat) (cur vcur S V X1 X2:Array Value) (hg:w.heap[b]?=some (.cells cur 52 (0,0))) (hc:cur.size=C*2) (hC:C≤maxLen)
  (hv:w.heap[vb]?=some (.cells vcur 52 (0,0))) (hvc:vcur.size=vC*2) (hm:m≤vC) (hne:vb≠b) (h1:∀ u∈S.toList,u.oneCell'=true) (h2:∀ u∈V.toList,u.oneCell'=true) (hi:i<n) (h0:0<m) (hroom:n+m≤C)
  (hS:S.toList=(cur.toList.drop (i*2)).take ((n-i)*2)) (hV:V.toList=(vcur.toList.drop 0).take (m*2)) (hX1:X1=(cur.toList.take ((i+m)*2)++S.toList++cur.toList.drop ((i+m)*2+S.toList.length)).toArray) (hX2:X2=(X1.toList.take (i*2)++V.toList++X1.toList.drop (i*2+V.toList.length)).toArray) :
  Calls Tryz.prog 65 #[.slice (some ⟨b,0,none⟩) n C,.int .i64 i,.slice (some ⟨vb,0,none⟩) m vC] w fun ex w'=>ex=.returned (.slice (some ⟨b,0,none⟩) (n+m) C)∧w'=(w.drew.setRow b X1).setRow b X2:=by
 obtain ⟨i0,hi0⟩:=QrX
 obtain ⟨hzs,hzb⟩:=QtI hi0
 have ht:=Tryz.underlying32
 have hC63:C≤9223372036854775807:=hC
 have hz1:¬ ((m:Int)=0):=by omega
 have hz2:¬ ((i:Int)=(n:Int)):=by omega
 have hzz:∀ w,(sizeOf 52).run Tryz.prog w=.ok 2 w:=fun w=>by simp [sizeOf,typeInfo,hi0,hzs]
 have hov:∀ lb cb,(callFunc 95 #[.slice (some ⟨vb,0,none⟩) m vC,.slice (some ⟨b,(i+m)*2,none⟩) lb cb]).run Tryz.prog w=.ok (.value (.bool false)) w:=fun lb cb=>by
  rw [run_callFunc_extern Tryz.func95 (by kernel_rfl) (by kernel_rfl) (by kernel_rfl) (e:=Extern.SlicesOverlaps.overlaps #[32,32] #[4]) (by kernel_rfl),
   Lib.run_overlaps_apart w 32 4 52 ht 2 hzz ⟨vb,0,none⟩ ⟨b,(i+m)*2,none⟩ m vC lb cb hne 52 52 vcur.size cur.size (by simp [World.shape?,hv]) (by simp [World.shape?,hg]) (by omega) (by simp [World.frozen?,hv]) (by simp [World.frozen?,hv])]
  rfl
 have hSl:S.toList.length=(n-i)*2:=by rw [hS]; simp; omega
 have hVl:V.toList.length=m*2:=by rw [hV]; simp; omega
 have hX1l:X1.size=C*2:=by rw [hX1]; simp at hSl ⊢; omega
 have hcp1:∀ ty dc sc,(Builtin.copy_ #[32,32] ty #[.slice (some ⟨b,(i+m)*2,none⟩) (n+m-(i+m)) dc,.slice (some ⟨b,i*2,none⟩) (n+m-i) sc]).run Tryz.prog w.drew=.ok (goInt (n-i:Nat)) (w.drew.setRow b X1):=fun ty dc sc=>by
  rw [hX1]
  exact QrT (w:=w.drew) ht hi0 hg (by simp only [Nat.min_def]; split <;> omega) (by rw [hzs]; exact QrM (w:=w.drew) hg hS (by omega)) (by rw [hSl]; omega) h1
 have hcp2:∀ (W:World),W.heap[b]?=some (.cells X1 52 (0,0))→W.heap[vb]?=w.heap[vb]?→∀ ty dc,(Builtin.copy_ #[32,32] ty #[.slice (some ⟨b,i*2,none⟩) (n+m-i) dc,.slice (some ⟨vb,0,none⟩) m vC]).run Tryz.prog W=.ok (goInt (m:Nat)) (W.setRow b X2):=fun W hW1 hW2 ty dc=>by
  rw [hX2]
  exact QrT (w:=W) ht hi0 hW1 (by simp only [Nat.min_def]; split <;> omega) (by rw [hzs]; exact QrM (w:=W) (hW2.trans hv) hV (by omega)) (by rw [hVl,hX1l]; omega) h2
 have hW1:(w.drew.setRow b X1).heap[b]?=some (.cells X1 52 (0,0)):=setRow_heap w.drew b cur _ _ (0,0) hg
 have hW2:(w.drew.setRow b X1).heap[vb]?=w.heap[vb]?:=setRow_other w.drew b vb _ hne
 have hw1:IntKind.i64.wrap ((i:Int)+(m:Int))=(i:Int)+(m:Int):=by rw [IntKind.wrap_i64]; omega
 have hb1:(0:Int)≤(i:Int)+(m:Int):=by omega
 have hin:i≤n:=by omega
 have htn:((i:Int)+(m:Int)).toNat=i+m:=by omega
 have hb2:¬ (C=i+m):=by omega
 have hb3:(i:Int)≤(n:Int)+(m:Int):=by omega
 have hb4:¬ (C=i):=by omega
 clear hg hc hv hvc h1 h2 hi0 hzs hzb hS hV hX1 hX2 hSl hVl hX1l
 have mixed:Tryz.prog.follows .mixedOrders=true:=by kernel_rfl
 go_enter Tryz.func65,Tryz.ntmps65
 go_wp2_with (simp only [hov])
 go_region_law_o (refine step_copy_runI rfl _ _ 32 32 rfl _ _ (by simp [Act.eval,Act.put]) (by simp [Act.eval,Act.put]) (hcp1 _ _ _) ?_)
 go_wp2_with (at_builtin; refine wpList_copy_runI _ rfl _ _ 32 32 rfl _ _ rfl rfl (hcp2 _ hW1 hW2 _ _) ?_)
 go_ret
 exact ⟨rfl,rfl⟩
theorem QGA {w:World} {vb vC m:Nat} {vcur V:Array Value} (hv:w.heap[vb]?=some (.cells vcur 52 (0,0))) (hvc:vcur.size=vC*2) (hm:m≤vC) (hV:V.toList=(vcur.toList.drop 0).take (m*2)) (h2:∀ u∈V.toList,u.oneCell'=true) :
  Src Tryz.prog 2 32 (.slice (some ⟨vb,0,none⟩) m vC) m V.toList w:=by
 refine Src.ofSlice w Tryz.underlying32 ⟨vb,0,none⟩ m vC V.toList (by rw [hV]; simp; omega) (fun j u hj=>?_) h2
 rw [hV,List.drop_zero,List.getElem?_take] at hj
 split at hj
 ·rw [Addr.add_lit]
  simp only [World.cell?,hv,Nat.zero_add]
  simpa using hj
 ·cases hj
theorem QxQ {i:TypeInfo} (h:Tryz.prog.info? 52=some i):∃ z,i.zero=some z∧z.cells.size=2:=by
 have:(Tryz.prog.info? 52).map (fun i=>i.zero.map fun z=>z.cells.size)=some (some 2):=by kernel_rfl
 rw [h] at this
 cases hz:i.zero with
 | none=>rw [Option.map_some,hz] at this; cases this
 | some z=>rw [Option.map_some,hz] at this; exact ⟨z,rfl,by simpa using this⟩
set_option maxHeartbeats 4000000 in
set_option maxRecDepth 100000 in
/-- At the end, room or not. -/
theorem QBh (w : World) (A : Option Addr) (c vb vC n m : Nat) (r : Value) (w' : World) (h0 : 0 < m) (hn : (n : Int) + m ≤ 9223372036854775807) (hnc : n ≤ c) (hA : A = none → n = 0 ∧ c = 0)
    (hrun : ∀ ty, (Builtin.append_ #[32, 32] ty #[.slice A n c, .slice (some ⟨vb, 0, none⟩) m vC]).run Tryz.prog w = .ok r w') :
    Calls Tryz.prog 65 #[.slice A n c, .int .i64 n, .slice (some ⟨vb, 0, none⟩) m vC] w fun ex u => ex = .returned r ∧ u = w' := by
  have hz1 : ¬ ((m : Int) = 0) := by omega
  have mixed : Tryz.prog.follows .mixedOrders = true := by kernel_rfl
  go_enter Tryz.func65, Tryz.ntmps65
  cases A with
  | none =>
    obtain ⟨h1, h2⟩ := hA rfl
    subst h1 h2
    go_wp2_with (at_builtin; refine Lib.wpList_append_run _ rfl _ _ _ _ rfl _ _ rfl rfl _ _ (hrun _) ?_)
    go_ret
    exact ⟨rfl, rfl⟩
  | some a =>
    obtain ⟨ab, ao, asp⟩ := a
    go_wp2_with (at_builtin; refine Lib.wpList_append_run _ rfl _ _ _ _ rfl _ _ rfl rfl _ _ (hrun _) ?_)
    all_goals (go_ret; exact ⟨rfl, rfl⟩)
set_option maxHeartbeats 4000000 in
set_option maxRecDepth 100000 in
theorem QEP (w:World) (b C vb vC n m i G:Nat) (cur vcur S V ROW R2 R3:Array Value) (z:Value) (hg:w.heap[b]?=some (.cells cur 52 (0,0))) (hc:cur.size=C*2) (hC:C≤maxLen)
  (hv:w.heap[vb]?=some (.cells vcur 52 (0,0))) (hvc:vcur.size=vC*2) (hm:m≤vC) (h1:∀ u∈S.toList,u.oneCell'=true) (h2:∀ u∈V.toList,u.oneCell'=true) (hi:i<n) (h0:0<m) (hnC:n≤C) (hroom:C<n+m) (hbig:(n+m)*16≤140737488355328)
  (hz:∀ i,Tryz.prog.info? 52=some i→i.zero=some z) (hz2:z.cells.size=2) (hG:G=grownCap w (n+m) C 52)
  (hS:S.toList=(cur.toList.drop (i*2)).take ((n-i)*2)) (hV:V.toList=(vcur.toList.drop 0).take (m*2))
  (hROW:ROW=(cur.toList.take (i*2)).toArray++Builtin.zeroCells z.cells (n+m-i)++Builtin.zeroCells z.cells (G-(n+m)))
  (hR2:R2=(ROW.toList.take (i*2)++V.toList++ROW.toList.drop (i*2+V.toList.length)).toArray) (hR3:R3=(R2.toList.take ((i+m)*2)++S.toList++R2.toList.drop ((i+m)*2+S.toList.length)).toArray) :
  Calls Tryz.prog 65 #[.slice (some ⟨b,0,none⟩) n C,.int .i64 i,.slice (some ⟨vb,0,none⟩) m vC] w fun ex w'=>ex=.returned (.slice (some ⟨w.heap.size,0,none⟩) (n+m) G)∧w'=(((w.alloc (.cells ROW 52)).drew.setRow w.heap.size R2).drew).setRow w.heap.size R3:=by
 obtain ⟨i0,hi0⟩:=QrX
 obtain ⟨hzs,hzb⟩:=QtI hi0
 have ht:=Tryz.underlying32
 have hti:=Tryz.underlying3
 have hz0:=hz _ hi0
 have hz1:¬ ((m:Int)=0):=by omega
 have hz2':¬ ((i:Int)=(n:Int)):=by omega
 have hz3:(C:Int)<(n:Int)+(m:Int):=by omega
 have hbw:b<w.heap.size:=by
  rcases Nat.lt_or_ge b w.heap.size with h|h
  ·exact h
  ·rw [Array.getElem?_eq_none h] at hg; cases hg
 have hvw:vb<w.heap.size:=by
  rcases Nat.lt_or_ge vb w.heap.size with h|h
  ·exact h
  ·rw [Array.getElem?_eq_none h] at hv; cases hv
 have hkk:(n:Int)+(m:Int)-(i:Int)=((n+m-i:Nat):Int):=by omega
 have hik:i+(n+m-i)=n+m:=by omega
 have hrz:∀ ty,(Builtin.append_ #[32,3] ty #[.slice (some ⟨b,0,none⟩) i C,.int .i64 ((n:Int)+(m:Int)-(i:Int))]).run Tryz.prog w =
   .ok (.slice (some ⟨w.heap.size,0,none⟩) (n+m) G) (w.drew.alloc (.cells ROW 52)):=fun ty=>by
  have h:=Lib.run_append_grow_zeros w 32 3 ty 52 i0 _ .i64 .i64 ht hti hi0 hz0 (some ⟨b,0,none⟩) i C (cur.toList.take (i*2)) (by
   rw [hzs]
   have:=QrM (w:=w.drew) (o:=0) (n:=i) (k:=i) (cap:=C) (cs:=cur.toList.take (i*2)) hg (by rw [List.drop_zero]) (by omega)
   exact this) (n+m-i) (by omega) (by omega) (by omega) (by omega) (by rw [hzb]; omega) (by rw [hzb,hik]; exact growslice_fits hroom hbig)
  rw [hik,← hG,← hROW] at h
  rw [hkk]
  exact h
 have hSl:S.toList.length=(n-i)*2:=by rw [hS]; simp; omega
 have hVl:V.toList.length=m*2:=by rw [hV]; simp; omega
 have hGn:n+m≤G:=by rw [hG]; exact grownCap_ge w _ _ _
 have hG63:G≤9223372036854775807:=by
  have:=grownCap_le_maxLen w (n+m) C 52 (by unfold maxLen; omega)
  rw [← hG] at this
  unfold maxLen at this
  omega
 have hRl:ROW.size=G*2:=by
  rw [hROW]
  simp only [Array.size_append,size_zeroCells,hz2,List.size_toArray,List.length_take,Array.length_toList]
  omega
 have hR2l:R2.size=G*2:=by rw [hR2]; simp at hVl ⊢; omega
 have hcpA:∀ (W:World),W.heap[w.heap.size]?=some (.cells ROW 52 (0,0))→W.heap[vb]?=w.heap[vb]?→∀ ty dc,(Builtin.copy_ #[32,32] ty #[.slice (some ⟨w.heap.size,i*2,none⟩) (n+m-i) dc,.slice (some ⟨vb,0,none⟩) m vC]).run Tryz.prog W=.ok (goInt (m:Nat)) (W.setRow w.heap.size R2):=fun W hW1 hW2 ty dc=>by
  rw [hR2]
  exact QrT (w:=W) ht hi0 hW1 (by simp only [Nat.min_def]; split <;> omega) (by rw [hzs]; exact QrM (w:=W) (hW2.trans hv) hV (by omega)) (by rw [hVl,hRl]; omega) h2
 have hcpB:∀ (W:World),W.heap[w.heap.size]?=some (.cells R2 52 (0,0))→W.heap[b]?=w.heap[b]?→∀ ty dc sc,(Builtin.copy_ #[32,32] ty #[.slice (some ⟨w.heap.size,(i+m)*2,none⟩) (n+m-(i+m)) dc,.slice (some ⟨b,i*2,none⟩) (n-i) sc]).run Tryz.prog W=.ok (goInt (n-i:Nat)) (W.setRow w.heap.size R3):=fun W hW1 hW2 ty dc sc=>by
  rw [hR3]
  exact QrT (w:=W) ht hi0 hW1 (by simp only [Nat.min_def]; split <;> omega) (by rw [hzs]; exact QrM (w:=W) (hW2.trans hg) hS (by omega)) (by rw [hSl,hR2l]; omega) h1
 have hA1:((w.alloc (.cells ROW 52)).drew).heap[w.heap.size]?=some (.cells ROW 52 (0,0)):=heap_alloc_new w.drew _
 have hA2:((w.alloc (.cells ROW 52)).drew).heap[vb]?=w.heap[vb]?:=Below.heap_alloc w.drew _ vb hvw
 have hB1:(((w.alloc (.cells ROW 52)).drew.setRow w.heap.size R2).drew).heap[w.heap.size]?=some (.cells R2 52 (0,0)):=setRow_heap _ w.heap.size ROW _ _ (0,0) hA1
 have hB2:(((w.alloc (.cells ROW 52)).drew.setRow w.heap.size R2).drew).heap[b]?=w.heap[b]?:=(setRow_other _ w.heap.size b _ (by omega)).trans (Below.heap_alloc w.drew _ b hbw)
 have hGi:¬ (G=i):=by omega
 have hGim:¬ (G=i+m):=by omega
 have hci:¬ (C=i):=by omega
 have hbN:b≠w.heap.size:=by omega
 have hw1:IntKind.i64.wrap ((i:Int)+(m:Int))=(i:Int)+(m:Int):=by rw [IntKind.wrap_i64]; omega
 have hb1:(0:Int)≤(i:Int)+(m:Int):=by omega
 have hin:i≤n:=by omega
 have htn:((i:Int)+(m:Int)).toNat=i+m:=by omega
 have hb3:(i:Int)≤(n:Int):=by omega
 have mixed:Tryz.prog.follows .mixedOrders=true:=by kernel_rfl
 clear hg hc hv hvc h1 h2 hi0 hzs hzb hS hV hR2 hR3 hROW hSl hVl hRl hR2l hz hz0 hz2 hG hkk hik
 go_enter Tryz.func65,Tryz.ntmps65
 go_wp2_with (at_builtin; refine Lib.wpList_append_run _ rfl _ _ _ _ rfl _ _ rfl rfl _ _ (hrz _) ?_)
 have hA:=hcpA _ hA1 hA2 3 (G-i)
 rw [hA]
 clear hA
 go_wp2
 go_region_law_o (refine step_copy_runI rfl _ _ 32 32 rfl (.slice (some ⟨w.heap.size,(i+m)*2,none⟩) (n+m-(i+m)) (G-(i+m))) (.slice (some ⟨b,i*2,none⟩) (n-i) (C-i)) (by simp [Act.eval,Act.put]) (by simp [Act.eval,Act.put]) (hcpB _ hB1 hB2 3 (G-(i+m)) (C-i)) ?_)
 go_wp2
 go_ret
 exact ⟨rfl,rfl⟩
section
variable {α : Type}
theorem QDs (cur S V D:List α) (a:Nat) (h:a+V.length≤cur.length):(cur.take (a+V.length)++S++D).take a++V++(cur.take (a+V.length)++S++D).drop (a+V.length)=(cur.take a++V++S)++D:=by
 have hl:(cur.take (a+V.length)).length=a+V.length:=by rw [List.length_take]; omega
 rw [List.append_assoc (cur.take _) S D,List.take_append_of_le_length (by omega),List.take_take,Nat.min_eq_left (by omega),List.drop_left' hl]
 simp [List.append_assoc]
theorem QFf (ROW S V O1 Z:List α) (a:Nat) (hR:ROW=O1++Z) (ha:O1.length=a) (h:a+V.length≤ROW.length) :
  (ROW.take a++V++ROW.drop (a+V.length)).take (a+V.length)++S++(ROW.take a++V++ROW.drop (a+V.length)).drop (a+V.length+S.length)=(O1++V++S)++ROW.drop (a+V.length+S.length):=by
 have h1:ROW.take a=O1:=by rw [hR,List.take_left' ha]
 rw [h1]
 have hl:(O1++V).length=a+V.length:=by rw [List.length_append,ha]
 rw [List.take_left' hl,← List.drop_drop,List.drop_left' hl,List.drop_drop]
end
set_option maxRecDepth 100000 in
theorem QEQ:QDG Tryz.prog 65 52 2 16:=by
 intro w b C vb vC n m i olds rest news vrest hg hl ho hnC hC hv hvl hvn hm hne h1 h2 hin h0 hbig h63
 obtain ⟨i0,hi0⟩:=QrX
 obtain ⟨hzs,hzb⟩:=QtI hi0
 obtain ⟨z,hz,hz2⟩:=QxQ hi0
 have ht:=Tryz.underlying32
 have hbw:b<w.heap.size:=by
  rcases Nat.lt_or_ge b w.heap.size with h|h
  ·exact h
  ·rw [Array.getElem?_eq_none h] at hg; cases hg
 have hV:(news.toArray).toList=(((news++vrest).toArray).toList.drop 0).take (m*2):=by simp [List.take_append_of_le_length,hvn]
 have hvs:((news++vrest).toArray).size=vC*2:=by simpa using hvl
 have hcs:((olds++rest).toArray).size=C*2:=by simpa using hl
 have hsrc:=QGA (V:=news.toArray) hv hvs hm hV (by simpa using h2)
 have htk:∀ k,k≤n*2→(olds++rest).take k=olds.take k:=fun k hk=>List.take_append_of_le_length (by omega)
 have hS:∀ k,k≤n→((olds.drop (k*2)).toArray).toList=(((olds++rest).toArray).toList.drop (k*2)).take ((n-k)*2):=fun k hk=>by
  show olds.drop (k*2)=((olds++rest).drop (k*2)).take ((n-k)*2)
  rw [List.drop_append_of_le_length (by omega),List.take_left' (by rw [List.length_drop]; omega)]
 have hgr:=grownCap_ge w (n+m) C 52
 have hgl:=grownCap_le_maxLen w (n+m) C 52 (by simp only [maxLen]; omega)
 rcases Nat.lt_or_ge i n with hi|hi
 ·by_cases hroom:n+m≤C
  ·refine (QC3 w b C vb vC n m i _ _ (olds.drop (i*2)).toArray news.toArray _ _ hg hcs hC hv hvs hm hne (fun u hu=>h1 u (List.mem_of_mem_drop (by simpa using hu))) (by simpa using h2) hi h0 hroom (hS i hin) hV rfl rfl).mono fun ex w' ⟨he,hw⟩=>⟨_,he,?_⟩
   subst hw
   refine ⟨b,C,rest.drop (m*2),rfl,hroom,hC,?_,?_,.inl rfl,by simpa [World.setRow] using hbw,fun c _ hc=>?_,by simp [World.setRow],rfl,rfl,rfl⟩
   ·simp at hl ⊢; omega
   ·refine (setRow_heap _ b _ _ _ (0,0) (setRow_heap w.drew b _ _ _ (0,0) hg)).trans ?_
    congr 2
    apply Array.ext'
    simp only [List.toList_toArray]
    have hp:=QDs (olds++rest) (olds.drop (i*2)) news ((olds++rest).drop ((i+m)*2+(olds.drop (i*2)).length)) (i*2) (by rw [hvn]; omega)
    rw [show i*2+news.length=(i+m)*2 by omega] at hp
    rw [show i*2+news.length=(i+m)*2 by omega,hp,htk _ (by omega)]
    congr 1
    rw [List.drop_append,List.drop_eq_nil_of_le (by rw [List.length_drop]; omega),List.nil_append]
    congr 1
    rw [List.length_drop]; omega
   ·rw [setRow_other _ b c _ hc]; exact setRow_other w.drew b c _ hc
  ·obtain ⟨ROW,hROW⟩:∃ ROW:Array Value,ROW=((olds++rest).toArray.toList.take (i*2)).toArray++Builtin.zeroCells z.cells (n+m-i)++Builtin.zeroCells z.cells (grownCap w (n+m) C 52-(n+m)):=⟨_,rfl⟩
   have hRsz:ROW.size=grownCap w (n+m) C 52*2:=by
    rw [hROW]
    simp only [Array.size_append,size_zeroCells,hz2,List.size_toArray,List.length_take,List.toList_toArray,List.length_append]
    omega
   have hpg:=QFf ROW.toList (olds.drop (i*2)) news (olds.take (i*2)) ((Builtin.zeroCells z.cells (n+m-i)).toList++(Builtin.zeroCells z.cells (grownCap w (n+m) C 52-(n+m))).toList) (i*2)
    (by rw [hROW]; simp only [Array.toList_append,List.toList_toArray]; rw [htk _ (by omega),List.append_assoc]) (by rw [List.length_take]; omega) (by have:=Array.length_toList (xs:=ROW); omega)
   refine (QEP w b C vb vC n m i _ _ _ (olds.drop (i*2)).toArray news.toArray ROW _ _ z hg hcs hC hv hvs hm (fun u hu=>h1 u (List.mem_of_mem_drop (by simpa using hu))) (by simpa using h2) hi h0 hnC (by omega) hbig (fun j hj=>by rw [hi0] at hj; cases hj; exact hz) hz2 rfl (hS i hin) hV hROW rfl rfl).mono fun ex w' ⟨he,hw⟩=>⟨_,he,?_⟩
   subst hw
   rw [show i*2+news.length=(i+m)*2 by omega] at hpg
   refine ⟨w.heap.size,_,ROW.toList.drop ((i+m)*2+(olds.drop (i*2)).length),rfl,hgr,hgl,?_,?_,.inr (Nat.le_refl _),by simp [World.setRow],fun c hc hc2=>?_,by simp [World.setRow],rfl,rfl,rfl⟩
   ·simp only [List.length_append,List.length_drop,List.length_take,Array.length_toList]
    omega
   ·refine (setRow_heap _ w.heap.size _ _ _ (0,0) (setRow_heap _ w.heap.size _ _ _ (0,0) (heap_alloc_new w.drew _))).trans ?_
    congr 2
    apply Array.ext'
    simp only [List.toList_toArray]
    rw [show i*2+news.length=(i+m)*2 by omega]
    exact hpg
   ·rw [setRow_other _ w.heap.size c _ hc2]
    exact (setRow_other _ w.heap.size c _ hc2).trans (Below.heap_alloc w.drew _ c hc)
 ·obtain rfl:i=n:=by omega
  have ho2:olds.take (i*2)=olds:=List.take_of_length_le (by omega)
  have ho3:olds.drop (i*2)=[]:=List.drop_eq_nil_of_le (by omega)
  rw [ho2,ho3,List.append_nil]
  by_cases hroom:i+m≤C
  ·refine (QBh w (some ⟨b,0,none⟩) C vb vC i m _ _ h0 (by omega) hnC (fun h=>by cases h) fun ty=>Qop (P:=Tryz.prog) (ty:=ty) (news:=news) ht hi0 (by rw [hzs]; exact hsrc) hroom hg (by rw [hzs]; simp at hl ⊢; omega)).mono fun ex w' ⟨he,hw⟩=>⟨_,he,?_⟩
   subst hw
   refine ⟨b,C,rest.drop (m*2),rfl,hroom,hC,?_,?_,.inl rfl,by simpa [World.setRow] using hbw,fun c _ hc=>setRow_other w b c _ hc,by simp [World.setRow],rfl,rfl,rfl⟩
   ·simp at hl ⊢; omega
   ·refine (setRow_heap w b _ _ _ (0,0) hg).trans ?_
    congr 2
    apply Array.ext'
    simp only [List.toList_toArray]
    rw [hzs,htk _ (Nat.le_refl _),List.take_of_length_le (by omega),List.drop_append,List.drop_eq_nil_of_le (by omega),List.nil_append]
    congr 2
    omega
  ·have hold:(Builtin.firstCells i0.size i (.slice (some ⟨b,0,none⟩) i C)).run Tryz.prog w.drew=.ok olds.toArray w.drew:=by
    rw [hzs]
    exact QrM (w:=w.drew) (o:=0) (n:=i) (k:=i) (cap:=C) (cs:=olds) hg (by simp [List.take_append_of_le_length,ho]) (by simp at hl ⊢; omega)
   refine (QBh w (some ⟨b,0,none⟩) C vb vC i m _ _ h0 (by omega) hnC (fun h=>by cases h) fun ty=>run_append_grow_src (P:=Tryz.prog) w _ _ ty _ i0 z ht hi0 hz _ i C olds hold _ m news (by rw [hzs]; exact hsrc) (by omega) (by omega) (by rw [hzb]; exact growslice_fits (by omega) hbig)).mono fun ex w' ⟨he,hw⟩=>⟨_,he,?_⟩
   subst hw
   refine ⟨w.heap.size,_,(Builtin.zeroCells z.cells (grownCap w (i+m) C 52-(i+m))).toList,rfl,hgr,hgl,?_,?_,.inr (Nat.le_refl _),by simp,fun c hc _=>Below.heap_alloc w.drew _ c hc,by simp,rfl,rfl,rfl⟩
   ·simp only [List.length_append,QlM,hz2]; omega
   ·refine (heap_alloc_new w.drew _).trans ?_
    congr 2
    apply Array.ext'
    simp
set_option maxRecDepth 100000 in
theorem QC4:QAt Tryz.prog 65 52 2 16:=by
 intro w a vb vC m news vrest hv hvl hvn hm h2 h0 hbig h63
 obtain ⟨i0,hi0⟩:=QrX
 obtain ⟨hzs,hzb⟩:=QtI hi0
 obtain ⟨z,hz,hz2⟩:=QxQ hi0
 have ht:=Tryz.underlying32
 have hV:(news.toArray).toList=(((news++vrest).toArray).toList.drop 0).take (m*2):=by simp [List.take_append_of_le_length,hvn]
 have hvs:((news++vrest).toArray).size=vC*2:=by simpa using hvl
 have hsrc:=QGA (V:=news.toArray) hv hvs hm hV (by simpa using h2)
 have hgr:=grownCap_ge w (0+m) 0 52
 have hgl:=grownCap_le_maxLen w (0+m) 0 52 (by simp only [maxLen]; omega)
 have hold:(Builtin.firstCells i0.size 0 (.slice a 0 0)).run Tryz.prog w.drew=.ok ([]:List Value).toArray w.drew:=by cases a <;> simp [Builtin.firstCells,loadCells,loadCellsFrom]
 refine (QBh w a 0 vb vC 0 m _ _ h0 (by omega) (Nat.le_refl _) (fun h=>⟨rfl,rfl⟩) fun ty=>run_append_grow_src (P:=Tryz.prog) w _ _ ty _ i0 z ht hi0 hz _ 0 0 [] hold _ m news (by rw [hzs]; exact hsrc) (by omega) (by omega) (by rw [hzb]; exact growslice_fits (by omega) (by omega))).mono fun ex w' ⟨he,hw⟩=>⟨_,he,?_⟩
 subst hw
 rw [Nat.zero_add] at hgr hgl ⊢
 refine ⟨w.heap.size,_,(Builtin.zeroCells z.cells (grownCap w m 0 52-m)).toList,rfl,hgr,hgl,?_,?_,.inr (Nat.le_refl _),by simp,fun c hc _=>Below.heap_alloc w.drew _ c hc,by simp,rfl,rfl,rfl⟩
 ·simp only [List.length_append,QlM,hz2]; omega
 ·refine (heap_alloc_new w.drew _).trans ?_
  congr 2
  apply Array.ext'
  simp
theorem QC2 {α:Type} {enc:α→List Lf} (henc:∀ x,(enc x).length=2) {s v R:List α} {i:Int} (h:insL 16 s i v=some R) :
  AFn Tryz.prog 65 [.one (lO 0 2 s enc),.one (lI i),.one (lO 1 2 v enc)] [bS 2 52 s enc,bS 2 52 v enc] (one (.sl false 2 (R.map enc))) [] :=
 QGa (by kernel_rfl) QEQ QC4 (QEO h)
end Go.Proofs.YtpkkaboonnedfaaGreatDoor
