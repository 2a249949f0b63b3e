import Derived.Test.YtiaeollemmkclaaDoorCmb0
/- Law 16's giveMsg. -/
namespace Go.Proofs.YtiaeollemmkclaaDoor
open Go.RowKit
set_option linter.unusedSimpArgs false
set_option linter.unusedVariables false
def gvF (m:MgR):Nat→S
 |0=>⟨[(2,.x (.a (.p 1 0))),(4,.x (.a (.v (vU8 m.k)))),(6,.x (.a (.v (.int .i64 m.pl)))),(8,.x (.a (.v (.int .i64 m.ot)))),(10,.x (.a (.v (.int .i64 m.cl)))),(12,.x (.a (.v (.int .i64 m.ge)))),(14,.x (.a (.v (vU64 m.nu)))),(16,.x (.a8 m.sm)),(19,.x (.a (.v m.ids.val))),(23,.x (.a (.v m.ns.val))),(26,.x (.a (.v m.ps.val))),(30,.x (.a (.v m.xs.val))),(33,.x (.a (.v (.int .i64 m.re))))],[.blk 83 (.c (mgA m)),.blk 89 (.c (mgA zeroR))]⟩
 |1=>⟨[(2,.x (.a (.p 1 0))),(4,.x (.a (.v (vU8 m.k)))),(6,.x (.a (.v (.int .i64 m.pl)))),(8,.x (.a (.v (.int .i64 m.ot)))),(10,.x (.a (.v (.int .i64 m.cl)))),(12,.x (.a (.v (.int .i64 m.ge)))),(14,.x (.a (.v (vU64 m.nu)))),(16,.x (.a8 m.sm)),(19,.x (.a (.v m.ids.val))),(23,.x (.a (.v m.ns.val))),(26,.x (.a (.v m.ps.val))),(30,.x (.a (.v m.xs.val))),(33,.x (.a (.v (.int .i64 m.re)))),(17,.x (.a (.s 2 0 0 0)))],[.blk 83 (.c (mgA m)),.blk 89 (.c (mgA zeroR)),.blk 3 (.i64 [])]⟩
 |2=>⟨[(2,.x (.a (.p 1 0))),(4,.x (.a (.v (vU8 m.k)))),(6,.x (.a (.v (.int .i64 m.pl)))),(8,.x (.a (.v (.int .i64 m.ot)))),(10,.x (.a (.v (.int .i64 m.cl)))),(12,.x (.a (.v (.int .i64 m.ge)))),(14,.x (.a (.v (vU64 m.nu)))),(16,.x (.a8 m.sm)),(19,.x (.a (.v m.ids.val))),(23,.x (.a (.v m.ns.val))),(26,.x (.a (.v m.ps.val))),(30,.x (.a (.v m.xs.val))),(33,.x (.a (.v (.int .i64 m.re)))),(21,.x (.a (.s 2 0 0 0)))],[.blk 83 (.c (mgA m)),.blk 89 (.c (mgA zeroR)),.blk 27 (.u64 [])]⟩
 |3=>⟨[(2,.x (.a (.p 1 0))),(4,.x (.a (.v (vU8 m.k)))),(6,.x (.a (.v (.int .i64 m.pl)))),(8,.x (.a (.v (.int .i64 m.ot)))),(10,.x (.a (.v (.int .i64 m.cl)))),(12,.x (.a (.v (.int .i64 m.ge)))),(14,.x (.a (.v (vU64 m.nu)))),(16,.x (.a8 m.sm)),(19,.x (.a (.v m.ids.val))),(23,.x (.a (.v m.ns.val))),(26,.x (.a (.v m.ps.val))),(30,.x (.a (.v m.xs.val))),(33,.x (.a (.v (.int .i64 m.re)))),(28,.x (.a (.s 2 0 0 0)))],[.blk 83 (.c (mgA m)),.blk 89 (.c (mgA zeroR)),.blk 136 (.u32 [])]⟩
 |4=>⟨[(2,.x (.a (.p 1 0))),(4,.x (.a (.v (vU8 m.k)))),(6,.x (.a (.v (.int .i64 m.pl)))),(8,.x (.a (.v (.int .i64 m.ot)))),(10,.x (.a (.v (.int .i64 m.cl)))),(12,.x (.a (.v (.int .i64 m.ge)))),(14,.x (.a (.v (vU64 m.nu)))),(16,.x (.a8 m.sm)),(19,.x (.a (.v m.ids.val))),(23,.x (.a (.v m.ns.val))),(26,.x (.a (.v m.ps.val))),(30,.x (.a (.v m.xs.val))),(33,.x (.a (.v (.int .i64 m.re)))),(20,.x (.a (.o 2)))],[.blk 83 (.c (mgA m)),.blk 89 (.c (mgA zeroR)),.own 3 (.i64 m.ids.l)]⟩
 |5=>⟨[(2,.x (.a (.p 1 0))),(4,.x (.a (.v (vU8 m.k)))),(6,.x (.a (.v (.int .i64 m.pl)))),(8,.x (.a (.v (.int .i64 m.ot)))),(10,.x (.a (.v (.int .i64 m.cl)))),(12,.x (.a (.v (.int .i64 m.ge)))),(14,.x (.a (.v (vU64 m.nu)))),(16,.x (.a8 m.sm)),(19,.x (.a (.v m.ids.val))),(23,.x (.a (.v m.ns.val))),(26,.x (.a (.v m.ps.val))),(30,.x (.a (.v m.xs.val))),(33,.x (.a (.v (.int .i64 m.re)))),(17,.x (.a (.s 2 0 0 0))),(21,.x (.a (.s 3 0 0 0)))],[.blk 83 (.c (mgA m)),.blk 89 (.c (mgA zeroR)),.blk 3 (.i64 []),.blk 27 (.u64 [])]⟩
 |6=>⟨[(2,.x (.a (.p 1 0))),(4,.x (.a (.v (vU8 m.k)))),(6,.x (.a (.v (.int .i64 m.pl)))),(8,.x (.a (.v (.int .i64 m.ot)))),(10,.x (.a (.v (.int .i64 m.cl)))),(12,.x (.a (.v (.int .i64 m.ge)))),(14,.x (.a (.v (vU64 m.nu)))),(16,.x (.a8 m.sm)),(19,.x (.a (.v m.ids.val))),(23,.x (.a (.v m.ns.val))),(26,.x (.a (.v m.ps.val))),(30,.x (.a (.v m.xs.val))),(33,.x (.a (.v (.int .i64 m.re)))),(17,.x (.a (.s 2 0 0 0))),(28,.x (.a (.s 3 0 0 0)))],[.blk 83 (.c (mgA m)),.blk 89 (.c (mgA zeroR)),.blk 3 (.i64 []),.blk 136 (.u32 [])]⟩
 |7=>⟨[(2,.x (.a (.p 1 0))),(4,.x (.a (.v (vU8 m.k)))),(6,.x (.a (.v (.int .i64 m.pl)))),(8,.x (.a (.v (.int .i64 m.ot)))),(10,.x (.a (.v (.int .i64 m.cl)))),(12,.x (.a (.v (.int .i64 m.ge)))),(14,.x (.a (.v (vU64 m.nu)))),(16,.x (.a8 m.sm)),(19,.x (.a (.v m.ids.val))),(23,.x (.a (.v m.ns.val))),(26,.x (.a (.v m.ps.val))),(30,.x (.a (.v m.xs.val))),(33,.x (.a (.v (.int .i64 m.re)))),(21,.x (.a (.s 2 0 0 0))),(28,.x (.a (.s 3 0 0 0)))],[.blk 83 (.c (mgA m)),.blk 89 (.c (mgA zeroR)),.blk 27 (.u64 []),.blk 136 (.u32 [])]⟩
 |8=>⟨[(2,.x (.a (.p 1 0))),(4,.x (.a (.v (vU8 m.k)))),(6,.x (.a (.v (.int .i64 m.pl)))),(8,.x (.a (.v (.int .i64 m.ot)))),(10,.x (.a (.v (.int .i64 m.cl)))),(12,.x (.a (.v (.int .i64 m.ge)))),(14,.x (.a (.v (vU64 m.nu)))),(16,.x (.a8 m.sm)),(19,.x (.a (.v m.ids.val))),(23,.x (.a (.v m.ns.val))),(26,.x (.a (.v m.ps.val))),(30,.x (.a (.v m.xs.val))),(33,.x (.a (.v (.int .i64 m.re)))),(20,.x (.a (.o 2))),(21,.x (.a (.s 3 0 0 0)))],[.blk 83 (.c (mgA m)),.blk 89 (.c (mgA zeroR)),.own 3 (.i64 m.ids.l),.blk 27 (.u64 [])]⟩
 |9=>⟨[(2,.x (.a (.p 1 0))),(4,.x (.a (.v (vU8 m.k)))),(6,.x (.a (.v (.int .i64 m.pl)))),(8,.x (.a (.v (.int .i64 m.ot)))),(10,.x (.a (.v (.int .i64 m.cl)))),(12,.x (.a (.v (.int .i64 m.ge)))),(14,.x (.a (.v (vU64 m.nu)))),(16,.x (.a8 m.sm)),(19,.x (.a (.v m.ids.val))),(23,.x (.a (.v m.ns.val))),(26,.x (.a (.v m.ps.val))),(30,.x (.a (.v m.xs.val))),(33,.x (.a (.v (.int .i64 m.re)))),(20,.x (.a (.o 2))),(28,.x (.a (.s 3 0 0 0)))],[.blk 83 (.c (mgA m)),.blk 89 (.c (mgA zeroR)),.own 3 (.i64 m.ids.l),.blk 136 (.u32 [])]⟩
 |10=>⟨[(2,.x (.a (.p 1 0))),(4,.x (.a (.v (vU8 m.k)))),(6,.x (.a (.v (.int .i64 m.pl)))),(8,.x (.a (.v (.int .i64 m.ot)))),(10,.x (.a (.v (.int .i64 m.cl)))),(12,.x (.a (.v (.int .i64 m.ge)))),(14,.x (.a (.v (vU64 m.nu)))),(16,.x (.a8 m.sm)),(19,.x (.a (.v m.ids.val))),(23,.x (.a (.v m.ns.val))),(26,.x (.a (.v m.ps.val))),(30,.x (.a (.v m.xs.val))),(33,.x (.a (.v (.int .i64 m.re)))),(17,.x (.a (.s 2 0 0 0))),(21,.x (.a (.s 3 0 0 0))),(28,.x (.a (.s 4 0 0 0)))],[.blk 83 (.c (mgA m)),.blk 89 (.c (mgA zeroR)),.blk 3 (.i64 []),.blk 27 (.u64 []),.blk 136 (.u32 [])]⟩
 |11=>⟨[(2,.x (.a (.p 1 0))),(4,.x (.a (.v (vU8 m.k)))),(6,.x (.a (.v (.int .i64 m.pl)))),(8,.x (.a (.v (.int .i64 m.ot)))),(10,.x (.a (.v (.int .i64 m.cl)))),(12,.x (.a (.v (.int .i64 m.ge)))),(14,.x (.a (.v (vU64 m.nu)))),(16,.x (.a8 m.sm)),(19,.x (.a (.v m.ids.val))),(23,.x (.a (.v m.ns.val))),(26,.x (.a (.v m.ps.val))),(30,.x (.a (.v m.xs.val))),(33,.x (.a (.v (.int .i64 m.re)))),(20,.x (.a (.o 2))),(24,.x (.a (.o 3)))],[.blk 83 (.c (mgA m)),.blk 89 (.c (mgA zeroR)),.own 3 (.i64 m.ids.l),.own 27 (.u64 m.ns.l)]⟩
 |12=>⟨[(2,.x (.a (.p 1 0))),(4,.x (.a (.v (vU8 m.k)))),(6,.x (.a (.v (.int .i64 m.pl)))),(8,.x (.a (.v (.int .i64 m.ot)))),(10,.x (.a (.v (.int .i64 m.cl)))),(12,.x (.a (.v (.int .i64 m.ge)))),(14,.x (.a (.v (vU64 m.nu)))),(16,.x (.a8 m.sm)),(19,.x (.a (.v m.ids.val))),(23,.x (.a (.v m.ns.val))),(26,.x (.a (.v m.ps.val))),(30,.x (.a (.v m.xs.val))),(33,.x (.a (.v (.int .i64 m.re)))),(20,.x (.a (.o 2))),(21,.x (.a (.s 3 0 0 0))),(28,.x (.a (.s 4 0 0 0)))],[.blk 83 (.c (mgA m)),.blk 89 (.c (mgA zeroR)),.own 3 (.i64 m.ids.l),.blk 27 (.u64 []),.blk 136 (.u32 [])]⟩
 |13=>⟨[(2,.x (.a (.p 1 0))),(4,.x (.a (.v (vU8 m.k)))),(6,.x (.a (.v (.int .i64 m.pl)))),(8,.x (.a (.v (.int .i64 m.ot)))),(10,.x (.a (.v (.int .i64 m.cl)))),(12,.x (.a (.v (.int .i64 m.ge)))),(14,.x (.a (.v (vU64 m.nu)))),(16,.x (.a8 m.sm)),(19,.x (.a (.v m.ids.val))),(23,.x (.a (.v m.ns.val))),(26,.x (.a (.v m.ps.val))),(30,.x (.a (.v m.xs.val))),(33,.x (.a (.v (.int .i64 m.re)))),(20,.x (.a (.o 2))),(24,.x (.a (.o 3))),(27,.x (.a (.o 4)))],[.blk 83 (.c (mgA m)),.blk 89 (.c (mgA zeroR)),.own 3 (.i64 m.ids.l),.own 27 (.u64 m.ns.l),.onn 160 2 (.c (pcs m.ps.l))]⟩
 |14=>⟨[(2,.x (.a (.p 1 0))),(4,.x (.a (.v (vU8 m.k)))),(6,.x (.a (.v (.int .i64 m.pl)))),(8,.x (.a (.v (.int .i64 m.ot)))),(10,.x (.a (.v (.int .i64 m.cl)))),(12,.x (.a (.v (.int .i64 m.ge)))),(14,.x (.a (.v (vU64 m.nu)))),(16,.x (.a8 m.sm)),(19,.x (.a (.v m.ids.val))),(23,.x (.a (.v m.ns.val))),(26,.x (.a (.v m.ps.val))),(30,.x (.a (.v m.xs.val))),(33,.x (.a (.v (.int .i64 m.re)))),(20,.x (.a (.o 2))),(24,.x (.a (.o 3))),(28,.x (.a (.s 4 0 0 0)))],[.blk 83 (.c (mgA m)),.blk 89 (.c (mgA zeroR)),.own 3 (.i64 m.ids.l),.own 27 (.u64 m.ns.l),.blk 136 (.u32 [])]⟩
 |15=>⟨[(2,.x (.a (.p 1 0))),(4,.x (.a (.v (vU8 m.k)))),(6,.x (.a (.v (.int .i64 m.pl)))),(8,.x (.a (.v (.int .i64 m.ot)))),(10,.x (.a (.v (.int .i64 m.cl)))),(12,.x (.a (.v (.int .i64 m.ge)))),(14,.x (.a (.v (vU64 m.nu)))),(16,.x (.a8 m.sm)),(19,.x (.a (.v m.ids.val))),(23,.x (.a (.v m.ns.val))),(26,.x (.a (.v m.ps.val))),(30,.x (.a (.v m.xs.val))),(33,.x (.a (.v (.int .i64 m.re)))),(20,.x (.a (.o 2))),(24,.x (.a (.o 3))),(27,.x (.a (.o 4))),(28,.x (.a (.s 5 0 0 0)))],[.blk 83 (.c (mgA m)),.blk 89 (.c (mgA zeroR)),.own 3 (.i64 m.ids.l),.own 27 (.u64 m.ns.l),.onn 160 2 (.c (pcs m.ps.l)),.blk 136 (.u32 [])]⟩
 |16=>⟨[(2,.x (.a (.p 1 0))),(4,.x (.a (.v (vU8 m.k)))),(6,.x (.a (.v (.int .i64 m.pl)))),(8,.x (.a (.v (.int .i64 m.ot)))),(10,.x (.a (.v (.int .i64 m.cl)))),(12,.x (.a (.v (.int .i64 m.ge)))),(14,.x (.a (.v (vU64 m.nu)))),(16,.x (.a8 m.sm)),(19,.x (.a (.v m.ids.val))),(23,.x (.a (.v m.ns.val))),(26,.x (.a (.v m.ps.val))),(30,.x (.a (.v m.xs.val))),(33,.x (.a (.v (.int .i64 m.re)))),(20,.x (.a (.o 2))),(24,.x (.a (.o 3))),(27,.x (.a (.o 4))),(31,.x (.a (.o 5)))],[.blk 83 (.c (mgA m)),.blk 89 (.c (mgA zeroR)),.own 3 (.i64 m.ids.l),.own 27 (.u64 m.ns.l),.onn 160 2 (.c (pcs m.ps.l)),.own 136 (.u32 m.xs.l)]⟩
 |_=>⟨[],[]⟩
def gvD:Dag:=[([true,true,true,true,true,true,true,true,true,true,true,true,true,true,false,true,true,false,false,true,true,false,true,true,false,false,true,true,false,true,true,false,false],[(14,1),(18,2),(25,3)]),
 ([true,true,true,true,true,true,true,true,true,true,true,true,true,true,true,true,true,false,false,true,true,false,true,true,false,false,true,true,false,true,true,false,false],[(17,4),(18,5),(25,6)]),
 ([true,true,true,true,true,true,true,true,true,true,true,true,true,true,false,true,true,false,true,true,true,false,true,true,false,false,true,true,false,true,true,false,false],[(14,5),(25,7)]),
 ([true,true,true,true,true,true,true,true,true,true,true,true,true,true,false,true,true,false,false,true,true,false,true,true,false,true,true,true,false,true,true,false,false],[(14,6),(18,7)]),
 ([true,true,true,true,true,true,true,true,true,true,true,true,true,true,true,true,true,true,false,true,true,false,true,true,false,false,true,true,false,true,true,false,false],[(18,8),(25,9)]),
 ([true,true,true,true,true,true,true,true,true,true,true,true,true,true,true,true,true,false,true,true,true,false,true,true,false,false,true,true,false,true,true,false,false],[(17,8),(25,10)]),
 ([true,true,true,true,true,true,true,true,true,true,true,true,true,true,true,true,true,false,false,true,true,false,true,true,false,true,true,true,false,true,true,false,false],[(17,9),(18,10)]),
 ([true,true,true,true,true,true,true,true,true,true,true,true,true,true,false,true,true,false,true,true,true,false,true,true,false,true,true,true,false,true,true,false,false],[(14,10)]),
 ([true,true,true,true,true,true,true,true,true,true,true,true,true,true,true,true,true,true,true,true,true,false,true,true,false,false,true,true,false,true,true,false,false],[(21,11),(25,12)]),
 ([true,true,true,true,true,true,true,true,true,true,true,true,true,true,true,true,true,true,false,true,true,false,true,true,false,true,true,true,false,true,true,false,false],[(18,12)]),
 ([true,true,true,true,true,true,true,true,true,true,true,true,true,true,true,true,true,false,true,true,true,false,true,true,false,true,true,true,false,true,true,false,false],[(17,12)]),
 ([true,true,true,true,true,true,true,true,true,true,true,true,true,true,true,true,true,true,true,true,true,true,true,true,false,false,true,true,false,true,true,false,false],[(24,13),(25,14)]),
 ([true,true,true,true,true,true,true,true,true,true,true,true,true,true,true,true,true,true,true,true,true,false,true,true,false,true,true,true,false,true,true,false,false],[(21,14)]),
 ([true,true,true,true,true,true,true,true,true,true,true,true,true,true,true,true,true,true,true,true,true,true,true,true,true,false,true,true,false,true,true,false,false],[(25,15)]),
 ([true,true,true,true,true,true,true,true,true,true,true,true,true,true,true,true,true,true,true,true,true,true,true,true,false,true,true,true,false,true,true,false,false],[(24,15)]),
 ([true,true,true,true,true,true,true,true,true,true,true,true,true,true,true,true,true,true,true,true,true,true,true,true,true,true,true,true,false,true,true,false,false],[(28,16)]),
 ([true,true,true,true,true,true,true,true,true,true,true,true,true,true,true,true,true,true,true,true,true,true,true,true,true,true,true,true,true,true,true,false,false],[])]
theorem P2 (m:MgR):gvF m 0=⟨[(2,.x (.a (.p 1 0))),(4,.x (.a (.v (vU8 m.k)))),(6,.x (.a (.v (.int .i64 m.pl)))),(8,.x (.a (.v (.int .i64 m.ot)))),(10,.x (.a (.v (.int .i64 m.cl)))),(12,.x (.a (.v (.int .i64 m.ge)))),(14,.x (.a (.v (vU64 m.nu)))),(16,.x (.a8 m.sm)),(19,.x (.a (.v m.ids.val))),(23,.x (.a (.v m.ns.val))),(26,.x (.a (.v m.ps.val))),(30,.x (.a (.v m.xs.val))),(33,.x (.a (.v (.int .i64 m.re))))],[.blk 83 (.c (mgA m)),.blk 89 (.c (mgA zeroR))]⟩:=rfl
theorem P3 (m:MgR):gvF m 1=⟨[(2,.x (.a (.p 1 0))),(4,.x (.a (.v (vU8 m.k)))),(6,.x (.a (.v (.int .i64 m.pl)))),(8,.x (.a (.v (.int .i64 m.ot)))),(10,.x (.a (.v (.int .i64 m.cl)))),(12,.x (.a (.v (.int .i64 m.ge)))),(14,.x (.a (.v (vU64 m.nu)))),(16,.x (.a8 m.sm)),(19,.x (.a (.v m.ids.val))),(23,.x (.a (.v m.ns.val))),(26,.x (.a (.v m.ps.val))),(30,.x (.a (.v m.xs.val))),(33,.x (.a (.v (.int .i64 m.re)))),(17,.x (.a (.s 2 0 0 0)))],[.blk 83 (.c (mgA m)),.blk 89 (.c (mgA zeroR)),.blk 3 (.i64 [])]⟩:=rfl
theorem Tv (m:MgR):gvF m 2=⟨[(2,.x (.a (.p 1 0))),(4,.x (.a (.v (vU8 m.k)))),(6,.x (.a (.v (.int .i64 m.pl)))),(8,.x (.a (.v (.int .i64 m.ot)))),(10,.x (.a (.v (.int .i64 m.cl)))),(12,.x (.a (.v (.int .i64 m.ge)))),(14,.x (.a (.v (vU64 m.nu)))),(16,.x (.a8 m.sm)),(19,.x (.a (.v m.ids.val))),(23,.x (.a (.v m.ns.val))),(26,.x (.a (.v m.ps.val))),(30,.x (.a (.v m.xs.val))),(33,.x (.a (.v (.int .i64 m.re)))),(21,.x (.a (.s 2 0 0 0)))],[.blk 83 (.c (mgA m)),.blk 89 (.c (mgA zeroR)),.blk 27 (.u64 [])]⟩:=rfl
theorem Tw (m:MgR):gvF m 3=⟨[(2,.x (.a (.p 1 0))),(4,.x (.a (.v (vU8 m.k)))),(6,.x (.a (.v (.int .i64 m.pl)))),(8,.x (.a (.v (.int .i64 m.ot)))),(10,.x (.a (.v (.int .i64 m.cl)))),(12,.x (.a (.v (.int .i64 m.ge)))),(14,.x (.a (.v (vU64 m.nu)))),(16,.x (.a8 m.sm)),(19,.x (.a (.v m.ids.val))),(23,.x (.a (.v m.ns.val))),(26,.x (.a (.v m.ps.val))),(30,.x (.a (.v m.xs.val))),(33,.x (.a (.v (.int .i64 m.re)))),(28,.x (.a (.s 2 0 0 0)))],[.blk 83 (.c (mgA m)),.blk 89 (.c (mgA zeroR)),.blk 136 (.u32 [])]⟩:=rfl
theorem Tx (m:MgR):gvF m 4=⟨[(2,.x (.a (.p 1 0))),(4,.x (.a (.v (vU8 m.k)))),(6,.x (.a (.v (.int .i64 m.pl)))),(8,.x (.a (.v (.int .i64 m.ot)))),(10,.x (.a (.v (.int .i64 m.cl)))),(12,.x (.a (.v (.int .i64 m.ge)))),(14,.x (.a (.v (vU64 m.nu)))),(16,.x (.a8 m.sm)),(19,.x (.a (.v m.ids.val))),(23,.x (.a (.v m.ns.val))),(26,.x (.a (.v m.ps.val))),(30,.x (.a (.v m.xs.val))),(33,.x (.a (.v (.int .i64 m.re)))),(20,.x (.a (.o 2)))],[.blk 83 (.c (mgA m)),.blk 89 (.c (mgA zeroR)),.own 3 (.i64 m.ids.l)]⟩:=rfl
theorem P4 (m:MgR):gvF m 5=⟨[(2,.x (.a (.p 1 0))),(4,.x (.a (.v (vU8 m.k)))),(6,.x (.a (.v (.int .i64 m.pl)))),(8,.x (.a (.v (.int .i64 m.ot)))),(10,.x (.a (.v (.int .i64 m.cl)))),(12,.x (.a (.v (.int .i64 m.ge)))),(14,.x (.a (.v (vU64 m.nu)))),(16,.x (.a8 m.sm)),(19,.x (.a (.v m.ids.val))),(23,.x (.a (.v m.ns.val))),(26,.x (.a (.v m.ps.val))),(30,.x (.a (.v m.xs.val))),(33,.x (.a (.v (.int .i64 m.re)))),(17,.x (.a (.s 2 0 0 0))),(21,.x (.a (.s 3 0 0 0)))],[.blk 83 (.c (mgA m)),.blk 89 (.c (mgA zeroR)),.blk 3 (.i64 []),.blk 27 (.u64 [])]⟩:=rfl
theorem P5 (m:MgR):gvF m 6=⟨[(2,.x (.a (.p 1 0))),(4,.x (.a (.v (vU8 m.k)))),(6,.x (.a (.v (.int .i64 m.pl)))),(8,.x (.a (.v (.int .i64 m.ot)))),(10,.x (.a (.v (.int .i64 m.cl)))),(12,.x (.a (.v (.int .i64 m.ge)))),(14,.x (.a (.v (vU64 m.nu)))),(16,.x (.a8 m.sm)),(19,.x (.a (.v m.ids.val))),(23,.x (.a (.v m.ns.val))),(26,.x (.a (.v m.ps.val))),(30,.x (.a (.v m.xs.val))),(33,.x (.a (.v (.int .i64 m.re)))),(17,.x (.a (.s 2 0 0 0))),(28,.x (.a (.s 3 0 0 0)))],[.blk 83 (.c (mgA m)),.blk 89 (.c (mgA zeroR)),.blk 3 (.i64 []),.blk 136 (.u32 [])]⟩:=rfl
theorem Ty (m:MgR):gvF m 7=⟨[(2,.x (.a (.p 1 0))),(4,.x (.a (.v (vU8 m.k)))),(6,.x (.a (.v (.int .i64 m.pl)))),(8,.x (.a (.v (.int .i64 m.ot)))),(10,.x (.a (.v (.int .i64 m.cl)))),(12,.x (.a (.v (.int .i64 m.ge)))),(14,.x (.a (.v (vU64 m.nu)))),(16,.x (.a8 m.sm)),(19,.x (.a (.v m.ids.val))),(23,.x (.a (.v m.ns.val))),(26,.x (.a (.v m.ps.val))),(30,.x (.a (.v m.xs.val))),(33,.x (.a (.v (.int .i64 m.re)))),(21,.x (.a (.s 2 0 0 0))),(28,.x (.a (.s 3 0 0 0)))],[.blk 83 (.c (mgA m)),.blk 89 (.c (mgA zeroR)),.blk 27 (.u64 []),.blk 136 (.u32 [])]⟩:=rfl
theorem P6 (m:MgR):gvF m 8=⟨[(2,.x (.a (.p 1 0))),(4,.x (.a (.v (vU8 m.k)))),(6,.x (.a (.v (.int .i64 m.pl)))),(8,.x (.a (.v (.int .i64 m.ot)))),(10,.x (.a (.v (.int .i64 m.cl)))),(12,.x (.a (.v (.int .i64 m.ge)))),(14,.x (.a (.v (vU64 m.nu)))),(16,.x (.a8 m.sm)),(19,.x (.a (.v m.ids.val))),(23,.x (.a (.v m.ns.val))),(26,.x (.a (.v m.ps.val))),(30,.x (.a (.v m.xs.val))),(33,.x (.a (.v (.int .i64 m.re)))),(20,.x (.a (.o 2))),(21,.x (.a (.s 3 0 0 0)))],[.blk 83 (.c (mgA m)),.blk 89 (.c (mgA zeroR)),.own 3 (.i64 m.ids.l),.blk 27 (.u64 [])]⟩:=rfl
theorem Tz (m:MgR):gvF m 9=⟨[(2,.x (.a (.p 1 0))),(4,.x (.a (.v (vU8 m.k)))),(6,.x (.a (.v (.int .i64 m.pl)))),(8,.x (.a (.v (.int .i64 m.ot)))),(10,.x (.a (.v (.int .i64 m.cl)))),(12,.x (.a (.v (.int .i64 m.ge)))),(14,.x (.a (.v (vU64 m.nu)))),(16,.x (.a8 m.sm)),(19,.x (.a (.v m.ids.val))),(23,.x (.a (.v m.ns.val))),(26,.x (.a (.v m.ps.val))),(30,.x (.a (.v m.xs.val))),(33,.x (.a (.v (.int .i64 m.re)))),(20,.x (.a (.o 2))),(28,.x (.a (.s 3 0 0 0)))],[.blk 83 (.c (mgA m)),.blk 89 (.c (mgA zeroR)),.own 3 (.i64 m.ids.l),.blk 136 (.u32 [])]⟩:=rfl
theorem P7 (m:MgR):gvF m 10=⟨[(2,.x (.a (.p 1 0))),(4,.x (.a (.v (vU8 m.k)))),(6,.x (.a (.v (.int .i64 m.pl)))),(8,.x (.a (.v (.int .i64 m.ot)))),(10,.x (.a (.v (.int .i64 m.cl)))),(12,.x (.a (.v (.int .i64 m.ge)))),(14,.x (.a (.v (vU64 m.nu)))),(16,.x (.a8 m.sm)),(19,.x (.a (.v m.ids.val))),(23,.x (.a (.v m.ns.val))),(26,.x (.a (.v m.ps.val))),(30,.x (.a (.v m.xs.val))),(33,.x (.a (.v (.int .i64 m.re)))),(17,.x (.a (.s 2 0 0 0))),(21,.x (.a (.s 3 0 0 0))),(28,.x (.a (.s 4 0 0 0)))],[.blk 83 (.c (mgA m)),.blk 89 (.c (mgA zeroR)),.blk 3 (.i64 []),.blk 27 (.u64 []),.blk 136 (.u32 [])]⟩:=rfl
theorem T1 (m:MgR):gvF m 11=⟨[(2,.x (.a (.p 1 0))),(4,.x (.a (.v (vU8 m.k)))),(6,.x (.a (.v (.int .i64 m.pl)))),(8,.x (.a (.v (.int .i64 m.ot)))),(10,.x (.a (.v (.int .i64 m.cl)))),(12,.x (.a (.v (.int .i64 m.ge)))),(14,.x (.a (.v (vU64 m.nu)))),(16,.x (.a8 m.sm)),(19,.x (.a (.v m.ids.val))),(23,.x (.a (.v m.ns.val))),(26,.x (.a (.v m.ps.val))),(30,.x (.a (.v m.xs.val))),(33,.x (.a (.v (.int .i64 m.re)))),(20,.x (.a (.o 2))),(24,.x (.a (.o 3)))],[.blk 83 (.c (mgA m)),.blk 89 (.c (mgA zeroR)),.own 3 (.i64 m.ids.l),.own 27 (.u64 m.ns.l)]⟩:=rfl
theorem P8 (m:MgR):gvF m 12=⟨[(2,.x (.a (.p 1 0))),(4,.x (.a (.v (vU8 m.k)))),(6,.x (.a (.v (.int .i64 m.pl)))),(8,.x (.a (.v (.int .i64 m.ot)))),(10,.x (.a (.v (.int .i64 m.cl)))),(12,.x (.a (.v (.int .i64 m.ge)))),(14,.x (.a (.v (vU64 m.nu)))),(16,.x (.a8 m.sm)),(19,.x (.a (.v m.ids.val))),(23,.x (.a (.v m.ns.val))),(26,.x (.a (.v m.ps.val))),(30,.x (.a (.v m.xs.val))),(33,.x (.a (.v (.int .i64 m.re)))),(20,.x (.a (.o 2))),(21,.x (.a (.s 3 0 0 0))),(28,.x (.a (.s 4 0 0 0)))],[.blk 83 (.c (mgA m)),.blk 89 (.c (mgA zeroR)),.own 3 (.i64 m.ids.l),.blk 27 (.u64 []),.blk 136 (.u32 [])]⟩:=rfl
theorem Xz (m:MgR):gvF m 13=⟨[(2,.x (.a (.p 1 0))),(4,.x (.a (.v (vU8 m.k)))),(6,.x (.a (.v (.int .i64 m.pl)))),(8,.x (.a (.v (.int .i64 m.ot)))),(10,.x (.a (.v (.int .i64 m.cl)))),(12,.x (.a (.v (.int .i64 m.ge)))),(14,.x (.a (.v (vU64 m.nu)))),(16,.x (.a8 m.sm)),(19,.x (.a (.v m.ids.val))),(23,.x (.a (.v m.ns.val))),(26,.x (.a (.v m.ps.val))),(30,.x (.a (.v m.xs.val))),(33,.x (.a (.v (.int .i64 m.re)))),(20,.x (.a (.o 2))),(24,.x (.a (.o 3))),(27,.x (.a (.o 4)))],[.blk 83 (.c (mgA m)),.blk 89 (.c (mgA zeroR)),.own 3 (.i64 m.ids.l),.own 27 (.u64 m.ns.l),.onn 160 2 (.c (pcs m.ps.l))]⟩:=rfl
theorem T2 (m:MgR):gvF m 14=⟨[(2,.x (.a (.p 1 0))),(4,.x (.a (.v (vU8 m.k)))),(6,.x (.a (.v (.int .i64 m.pl)))),(8,.x (.a (.v (.int .i64 m.ot)))),(10,.x (.a (.v (.int .i64 m.cl)))),(12,.x (.a (.v (.int .i64 m.ge)))),(14,.x (.a (.v (vU64 m.nu)))),(16,.x (.a8 m.sm)),(19,.x (.a (.v m.ids.val))),(23,.x (.a (.v m.ns.val))),(26,.x (.a (.v m.ps.val))),(30,.x (.a (.v m.xs.val))),(33,.x (.a (.v (.int .i64 m.re)))),(20,.x (.a (.o 2))),(24,.x (.a (.o 3))),(28,.x (.a (.s 4 0 0 0)))],[.blk 83 (.c (mgA m)),.blk 89 (.c (mgA zeroR)),.own 3 (.i64 m.ids.l),.own 27 (.u64 m.ns.l),.blk 136 (.u32 [])]⟩:=rfl
theorem T3 (m:MgR):gvF m 15=⟨[(2,.x (.a (.p 1 0))),(4,.x (.a (.v (vU8 m.k)))),(6,.x (.a (.v (.int .i64 m.pl)))),(8,.x (.a (.v (.int .i64 m.ot)))),(10,.x (.a (.v (.int .i64 m.cl)))),(12,.x (.a (.v (.int .i64 m.ge)))),(14,.x (.a (.v (vU64 m.nu)))),(16,.x (.a8 m.sm)),(19,.x (.a (.v m.ids.val))),(23,.x (.a (.v m.ns.val))),(26,.x (.a (.v m.ps.val))),(30,.x (.a (.v m.xs.val))),(33,.x (.a (.v (.int .i64 m.re)))),(20,.x (.a (.o 2))),(24,.x (.a (.o 3))),(27,.x (.a (.o 4))),(28,.x (.a (.s 5 0 0 0)))],[.blk 83 (.c (mgA m)),.blk 89 (.c (mgA zeroR)),.own 3 (.i64 m.ids.l),.own 27 (.u64 m.ns.l),.onn 160 2 (.c (pcs m.ps.l)),.blk 136 (.u32 [])]⟩:=rfl
theorem X0 (m:MgR):gvF m 16=⟨[(2,.x (.a (.p 1 0))),(4,.x (.a (.v (vU8 m.k)))),(6,.x (.a (.v (.int .i64 m.pl)))),(8,.x (.a (.v (.int .i64 m.ot)))),(10,.x (.a (.v (.int .i64 m.cl)))),(12,.x (.a (.v (.int .i64 m.ge)))),(14,.x (.a (.v (vU64 m.nu)))),(16,.x (.a8 m.sm)),(19,.x (.a (.v m.ids.val))),(23,.x (.a (.v m.ns.val))),(26,.x (.a (.v m.ps.val))),(30,.x (.a (.v m.xs.val))),(33,.x (.a (.v (.int .i64 m.re)))),(20,.x (.a (.o 2))),(24,.x (.a (.o 3))),(27,.x (.a (.o 4))),(31,.x (.a (.o 5)))],[.blk 83 (.c (mgA m)),.blk 89 (.c (mgA zeroR)),.own 3 (.i64 m.ids.l),.own 27 (.u64 m.ns.l),.onn 160 2 (.c (pcs m.ps.l)),.own 136 (.u32 m.xs.l)]⟩:=rfl
def gv6 (m:MgR):List At:=mgL (.v (vU8 m.k)) (.v (.int .i64 m.pl)) (.v (.int .i64 m.ot)) (.v (.int .i64 m.cl)) (.v (.int .i64 m.ge)) (.v (vU64 m.nu)) (List.replicate 32 0) (.v (.slice none 0 0)) (.v (.slice none 0 0)) (.v (.slice none 0 0)) (.v (.slice none 0 0)) (.v (.int .i64 0))
def gv7 (m:MgR):List At:=mgL (.v (vU8 m.k)) (.v (.int .i64 m.pl)) (.v (.int .i64 m.ot)) (.v (.int .i64 m.cl)) (.v (.int .i64 m.ge)) (.v (vU64 m.nu)) m.sm (.v (.slice none 0 0)) (.v (.slice none 0 0)) (.v (.slice none 0 0)) (.v (.slice none 0 0)) (.v (.int .i64 0))
theorem Aex (m:MgR):((((((mgA zeroR).set 0 (.v (vU8 m.k))).set 1 (.v (.int .i64 m.pl))).set 2 (.v (.int .i64 m.ot))).set 3 (.v (.int .i64 m.cl))).set 4 (.v (.int .i64 m.ge))).set 5 (.v (vU64 m.nu))=gv6 m:=rfl
theorem Aey (m:MgR):List.take 6 (gv6 m)++(List.map f8 m.sm++List.drop 38 (gv6 m))=gv7 m:=rfl
theorem Aez (m:MgR):(gv6 m).length=43:=O8 rfl
theorem Ae0 {m:MgR} (h:m.sm.length=32):(gv7 m).length=43:=O8 h
theorem Bb2 {m:MgR} (h:m.sm.length=32) (a b c d:Nat):(((((gv7 m).set 38 (.o a)).set 39 (.o b)).set 40 (.o c)).set 41 (.o d)).set 42 (.v (.int .i64 m.re))=mgO m.mg a b c d:=by
 unfold gv7
 rw[(Hi _ _ _ _ _ _ _ _ _ _ _ _ _ h).2.2.2.2.2.2.1,(Hi _ _ _ _ _ _ _ _ _ _ _ _ _ h).2.2.2.2.2.2.2.1,(Hi _ _ _ _ _ _ _ _ _ _ _ _ _ h).2.2.2.2.2.2.2.2.1,(Hi _ _ _ _ _ _ _ _ _ _ _ _ _ h).2.2.2.2.2.2.2.2.2.1,(Hi _ _ _ _ _ _ _ _ _ _ _ _ _ h).2.2.2.2.2.2.2.2.2.2]
 rfl
attribute [local irreducible] Af Ad Av Bh Bf A6 Aw A9
attribute [local irreducible] mgA mgO gvF gv6 gv7
section
set_option maxRecDepth 100000 in
set_option maxHeartbeats 4000000 in
theorem Bb3 (m:MgR) (w:World) (hm:m.Ok w):Calls Tryd.prog 39 (List.map (Sv.val []) [.x (.g (mgA m))]).toArray w fun e w'=>∃γ1,e=.returned ((Sv.x (.g (mgO m.mg 0 1 2 3))).val γ1)∧Sat w No γ1 [.own 3 (.i64 m.ids.l),.own 27 (.u64 m.ns.l),.onn 160 2 (.c (pcs m.ps.l)),.own 136 (.u32 m.xs.l)] w':=by
 obtain⟨f0,f1,f2,f3,f4,f5,f38,f39,f40,f41,f42⟩:=Dw hm.s
 have fl:=Cj hm.s
 have fs:=Gw hm.s
 have hfs:=hm.s
 have fb:=fun n=>Co m n
 have zb:=fun n=>Co zeroR n
 have ob:=fun (m:MgS) a b c d n=>Dx m a b c d n
 simp only[At.bnd] at fb zb ob
 obtain⟨i1,i2⟩:=Ajr (FV.no hm.ids.rd)
 obtain⟨n1,n2⟩:=Ajq (FV.no hm.ns.rd)
 obtain⟨x1,x2⟩:=Ajp (FV.no hm.xs.rd)
 have:=hm.ids.few
 have:=hm.ns.few
 have:=hm.xs.few
 have hpf:=hm.ps.few
 have bi:m.ids.l.length*8≤140737488355328:=by omega
 have bn:m.ns.l.length*8≤140737488355328:=by omega
 have bx:m.xs.l.length*4≤140737488355328:=by omega
 have ci:m.ids.l.length≤2 ^ 63 - 1:=by omega
 have cn:m.ns.l.length≤2 ^ 63 - 1:=by omega
 have cx:m.xs.l.length≤2 ^ 63 - 1:=by omega
 refine Cy (n:=35) Tryd.func39 rfl Tryd.ntmps39 _ (Sat.init w No) (by simp) _ _ ?_
 simp (maxSteps:=10^6) only[fb,↓Ba,Aq,Cv,B4,push_cast,↓reduceIte,Nat.reduceLT,Nat.reduceAdd]
 (repeat (refine And.intro (by first|omega|decide) ?_))
 refine A8l 32 [0,1,2,3,4,5,6,7,8,9,10,11,12,13,15,16,19,20,22,23,26,27,29,30] gvD 16 [31] (gvF m) ⟨[(2,.x (.a (.p 1 0))),(34,.x (.g (mgO m.mg 2 3 4 5)))],[.blk 83 (.c (mgA m)),.blk 89 (.c (mgA zeroR)),.own 3 (.i64 m.ids.l),.own 27 (.u64 m.ns.l),.onn 160 2 (.c (pcs m.ps.l)),.own 136 (.u32 m.xs.l)]⟩ (by kernel_rfl) (by kernel_rfl) (by simp (maxSteps:=10^6) only[fb,zb,push_cast,Nat.reduceAdd]) ?_ ?_ (by decide) ?_ ?_ ?_
 ·simp (maxSteps:=10^6) only[fl,f0,f1,f2,f3,f4,f5,f38,f39,f40,f41,f42,fs,undef,push_cast,↓reduceIte,reduceCtorEq,Nat.reduceEqDiff,Nat.reduceLT,Nat.reduceLeDiff,Nat.reduceAdd]
  refine⟨[],?_⟩
  rw[P2]
  simp (maxSteps:=10^6) only[fb,zb,↓Ak,List.append_nil,List.range,List.range.loop,push_cast,↓reduceIte,reduceCtorEq,Nat.reduceEqDiff,Nat.reduceLT,Nat.reduceAdd]
 ·intro v hv
  have hv':v=0∨v=1∨v=2∨v=3∨v=4∨v=5∨v=6∨v=7∨v=8∨v=9∨v=10∨v=11∨v=12∨v=13∨v=14∨v=15∨v=16:=by omega
  rcases hv' with rfl|rfl|rfl|rfl|rfl|rfl|rfl|rfl|rfl|rfl|rfl|rfl|rfl|rfl|rfl|rfl|rfl
  ·rw[P2];rfl
  ·rw[P3];rfl
  ·rw[Tv];rfl
  ·rw[Tw];rfl
  ·rw[Tx];rfl
  ·rw[P4];rfl
  ·rw[P5];rfl
  ·rw[Ty];rfl
  ·rw[P6];rfl
  ·rw[Tz];rfl
  ·rw[P7];rfl
  ·rw[T1];rfl
  ·rw[P8];rfl
  ·rw[Xz];rfl
  ·rw[T2];rfl
  ·rw[T3];rfl
  ·rw[X0];rfl
 ·refine A8k ?_
  refine⟨?_,?_,?_,?_,?_,?_,?_,?_,?_,?_,?_,?_,?_,?_,?_,?_,?_,trivial⟩
  ·intro p hp
   simp only[List.mem_cons,List.not_mem_nil,or_false] at hp
   rcases hp with rfl|rfl|rfl
   ·show Ct _ _ _ _ _ 14 (fun s'=>LeA 2 s' (gvF m 1)) (gvF m 0)
    rw[P3,P2]
    simp (maxSteps:=10^6) only[fb,zb,SlV.val,push_cast,↓reduceIte,Nat.reduceLT,Nat.reduceLeDiff,Nat.reduceAdd]
    refine⟨[2],?_⟩
    simp (maxSteps:=10^6) only[fb,zb,↓Ak,List.range,List.range.loop,List.nil_append,List.cons_append,push_cast,↓reduceIte,reduceCtorEq,Nat.reduceEqDiff,Nat.reduceLT,Nat.reduceAdd]
   ·show Ct _ _ _ _ _ 18 (fun s'=>LeA 2 s' (gvF m 2)) (gvF m 0)
    rw[Tv,P2]
    simp (maxSteps:=10^6) only[fb,zb,SlV.val,push_cast,↓reduceIte,Nat.reduceLT,Nat.reduceLeDiff,Nat.reduceAdd]
    refine⟨[2],?_⟩
    simp (maxSteps:=10^6) only[fb,zb,↓Ak,List.range,List.range.loop,List.nil_append,List.cons_append,push_cast,↓reduceIte,reduceCtorEq,Nat.reduceEqDiff,Nat.reduceLT,Nat.reduceAdd]
   ·show Ct _ _ _ _ _ 25 (fun s'=>LeA 2 s' (gvF m 3)) (gvF m 0)
    rw[Tw,P2]
    simp (maxSteps:=10^6) only[fb,zb,SlV.val,push_cast,↓reduceIte,Nat.reduceLT,Nat.reduceLeDiff,Nat.reduceAdd]
    refine⟨[2],?_⟩
    simp (maxSteps:=10^6) only[fb,zb,↓Ak,List.range,List.range.loop,List.nil_append,List.cons_append,push_cast,↓reduceIte,reduceCtorEq,Nat.reduceEqDiff,Nat.reduceLT,Nat.reduceAdd]
  ·intro p hp
   simp only[List.mem_cons,List.not_mem_nil,or_false] at hp
   rcases hp with rfl|rfl|rfl
   ·show Ct _ _ _ _ _ 17 (fun s'=>LeA 2 s' (gvF m 4)) (gvF m 1)
    rw[Tx,P3]
    simp (maxSteps:=10^6) only[fb,zb,SlV.val,i1,i2,bi,ci,push_cast,↓reduceIte,Nat.reduceEqDiff,Nat.reduceLT,Nat.reduceAdd]
    refine⟨[3],?_⟩
    simp (maxSteps:=10^6) only[fb,zb,↓Ak,List.range,List.range.loop,List.nil_append,List.cons_append,push_cast,↓reduceIte,reduceCtorEq,Nat.reduceEqDiff,Nat.reduceLT,Nat.reduceAdd]
   ·show Ct _ _ _ _ _ 18 (fun s'=>LeA 2 s' (gvF m 5)) (gvF m 1)
    rw[P4,P3]
    simp (maxSteps:=10^6) only[fb,zb,SlV.val,push_cast,↓reduceIte,Nat.reduceLT,Nat.reduceLeDiff,Nat.reduceAdd]
    refine⟨[2,3],?_⟩
    simp (maxSteps:=10^6) only[fb,zb,↓Ak,List.range,List.range.loop,List.nil_append,List.cons_append,push_cast,↓reduceIte,reduceCtorEq,Nat.reduceEqDiff,Nat.reduceLT,Nat.reduceAdd]
   ·show Ct _ _ _ _ _ 25 (fun s'=>LeA 2 s' (gvF m 6)) (gvF m 1)
    rw[P5,P3]
    simp (maxSteps:=10^6) only[fb,zb,SlV.val,push_cast,↓reduceIte,Nat.reduceLT,Nat.reduceLeDiff,Nat.reduceAdd]
    refine⟨[2,3],?_⟩
    simp (maxSteps:=10^6) only[fb,zb,↓Ak,List.range,List.range.loop,List.nil_append,List.cons_append,push_cast,↓reduceIte,reduceCtorEq,Nat.reduceEqDiff,Nat.reduceLT,Nat.reduceAdd]
  ·intro p hp
   simp only[List.mem_cons,List.not_mem_nil,or_false] at hp
   rcases hp with rfl|rfl
   ·show Ct _ _ _ _ _ 14 (fun s'=>LeA 2 s' (gvF m 5)) (gvF m 2)
    rw[P4,Tv]
    simp (maxSteps:=10^6) only[fb,zb,SlV.val,push_cast,↓reduceIte,Nat.reduceLT,Nat.reduceLeDiff,Nat.reduceAdd]
    refine⟨[3,2],?_⟩
    simp (maxSteps:=10^6) only[fb,zb,↓Ak,List.range,List.range.loop,List.nil_append,List.cons_append,push_cast,↓reduceIte,reduceCtorEq,Nat.reduceEqDiff,Nat.reduceLT,Nat.reduceAdd]
   ·show Ct _ _ _ _ _ 25 (fun s'=>LeA 2 s' (gvF m 7)) (gvF m 2)
    rw[Ty,Tv]
    simp (maxSteps:=10^6) only[fb,zb,SlV.val,push_cast,↓reduceIte,Nat.reduceLT,Nat.reduceLeDiff,Nat.reduceAdd]
    refine⟨[2,3],?_⟩
    simp (maxSteps:=10^6) only[fb,zb,↓Ak,List.range,List.range.loop,List.nil_append,List.cons_append,push_cast,↓reduceIte,reduceCtorEq,Nat.reduceEqDiff,Nat.reduceLT,Nat.reduceAdd]
  ·intro p hp
   simp only[List.mem_cons,List.not_mem_nil,or_false] at hp
   rcases hp with rfl|rfl
   ·show Ct _ _ _ _ _ 14 (fun s'=>LeA 2 s' (gvF m 6)) (gvF m 3)
    rw[P5,Tw]
    simp (maxSteps:=10^6) only[fb,zb,SlV.val,push_cast,↓reduceIte,Nat.reduceLT,Nat.reduceLeDiff,Nat.reduceAdd]
    refine⟨[3,2],?_⟩
    simp (maxSteps:=10^6) only[fb,zb,↓Ak,List.range,List.range.loop,List.nil_append,List.cons_append,push_cast,↓reduceIte,reduceCtorEq,Nat.reduceEqDiff,Nat.reduceLT,Nat.reduceAdd]
   ·show Ct _ _ _ _ _ 18 (fun s'=>LeA 2 s' (gvF m 7)) (gvF m 3)
    rw[Ty,Tw]
    simp (maxSteps:=10^6) only[fb,zb,SlV.val,push_cast,↓reduceIte,Nat.reduceLT,Nat.reduceLeDiff,Nat.reduceAdd]
    refine⟨[3,2],?_⟩
    simp (maxSteps:=10^6) only[fb,zb,↓Ak,List.range,List.range.loop,List.nil_append,List.cons_append,push_cast,↓reduceIte,reduceCtorEq,Nat.reduceEqDiff,Nat.reduceLT,Nat.reduceAdd]
  ·intro p hp
   simp only[List.mem_cons,List.not_mem_nil,or_false] at hp
   rcases hp with rfl|rfl
   ·show Ct _ _ _ _ _ 18 (fun s'=>LeA 2 s' (gvF m 8)) (gvF m 4)
    rw[P6,Tx]
    simp (maxSteps:=10^6) only[fb,zb,SlV.val,push_cast,↓reduceIte,Nat.reduceLT,Nat.reduceLeDiff,Nat.reduceAdd]
    refine⟨[2,3],?_⟩
    simp (maxSteps:=10^6) only[fb,zb,↓Ak,List.range,List.range.loop,List.nil_append,List.cons_append,push_cast,↓reduceIte,reduceCtorEq,Nat.reduceEqDiff,Nat.reduceLT,Nat.reduceAdd]
   ·show Ct _ _ _ _ _ 25 (fun s'=>LeA 2 s' (gvF m 9)) (gvF m 4)
    rw[Tz,Tx]
    simp (maxSteps:=10^6) only[fb,zb,SlV.val,push_cast,↓reduceIte,Nat.reduceLT,Nat.reduceLeDiff,Nat.reduceAdd]
    refine⟨[2,3],?_⟩
    simp (maxSteps:=10^6) only[fb,zb,↓Ak,List.range,List.range.loop,List.nil_append,List.cons_append,push_cast,↓reduceIte,reduceCtorEq,Nat.reduceEqDiff,Nat.reduceLT,Nat.reduceAdd]
  ·intro p hp
   simp only[List.mem_cons,List.not_mem_nil,or_false] at hp
   rcases hp with rfl|rfl
   ·show Ct _ _ _ _ _ 17 (fun s'=>LeA 2 s' (gvF m 8)) (gvF m 5)
    rw[P6,P4]
    simp (maxSteps:=10^6) only[fb,zb,SlV.val,i1,i2,bi,ci,push_cast,↓reduceIte,Nat.reduceEqDiff,Nat.reduceLT,Nat.reduceAdd]
    refine⟨[4,3],?_⟩
    simp (maxSteps:=10^6) only[fb,zb,↓Ak,List.range,List.range.loop,List.nil_append,List.cons_append,push_cast,↓reduceIte,reduceCtorEq,Nat.reduceEqDiff,Nat.reduceLT,Nat.reduceAdd]
   ·show Ct _ _ _ _ _ 25 (fun s'=>LeA 2 s' (gvF m 10)) (gvF m 5)
    rw[P7,P4]
    simp (maxSteps:=10^6) only[fb,zb,SlV.val,push_cast,↓reduceIte,Nat.reduceLT,Nat.reduceLeDiff,Nat.reduceAdd]
    refine⟨[2,3,4],?_⟩
    simp (maxSteps:=10^6) only[fb,zb,↓Ak,List.range,List.range.loop,List.nil_append,List.cons_append,push_cast,↓reduceIte,reduceCtorEq,Nat.reduceEqDiff,Nat.reduceLT,Nat.reduceAdd]
  ·intro p hp
   simp only[List.mem_cons,List.not_mem_nil,or_false] at hp
   rcases hp with rfl|rfl
   ·show Ct _ _ _ _ _ 17 (fun s'=>LeA 2 s' (gvF m 9)) (gvF m 6)
    rw[Tz,P5]
    simp (maxSteps:=10^6) only[fb,zb,SlV.val,i1,i2,bi,ci,push_cast,↓reduceIte,Nat.reduceEqDiff,Nat.reduceLT,Nat.reduceAdd]
    refine⟨[4,3],?_⟩
    simp (maxSteps:=10^6) only[fb,zb,↓Ak,List.range,List.range.loop,List.nil_append,List.cons_append,push_cast,↓reduceIte,reduceCtorEq,Nat.reduceEqDiff,Nat.reduceLT,Nat.reduceAdd]
   ·show Ct _ _ _ _ _ 18 (fun s'=>LeA 2 s' (gvF m 10)) (gvF m 6)
    rw[P7,P5]
    simp (maxSteps:=10^6) only[fb,zb,SlV.val,push_cast,↓reduceIte,Nat.reduceLT,Nat.reduceLeDiff,Nat.reduceAdd]
    refine⟨[2,4,3],?_⟩
    simp (maxSteps:=10^6) only[fb,zb,↓Ak,List.range,List.range.loop,List.nil_append,List.cons_append,push_cast,↓reduceIte,reduceCtorEq,Nat.reduceEqDiff,Nat.reduceLT,Nat.reduceAdd]
  ·intro p hp
   simp only[List.mem_cons,List.not_mem_nil,or_false] at hp
   rcases hp with rfl
   ·show Ct _ _ _ _ _ 14 (fun s'=>LeA 2 s' (gvF m 10)) (gvF m 7)
    rw[P7,Ty]
    simp (maxSteps:=10^6) only[fb,zb,SlV.val,push_cast,↓reduceIte,Nat.reduceLT,Nat.reduceLeDiff,Nat.reduceAdd]
    refine⟨[4,2,3],?_⟩
    simp (maxSteps:=10^6) only[fb,zb,↓Ak,List.range,List.range.loop,List.nil_append,List.cons_append,push_cast,↓reduceIte,reduceCtorEq,Nat.reduceEqDiff,Nat.reduceLT,Nat.reduceAdd]
  ·intro p hp
   simp only[List.mem_cons,List.not_mem_nil,or_false] at hp
   rcases hp with rfl|rfl
   ·show Ct _ _ _ _ _ 21 (fun s'=>LeA 2 s' (gvF m 11)) (gvF m 8)
    rw[T1,P6]
    simp (maxSteps:=10^6) only[fb,zb,SlV.val,n1,n2,bn,cn,push_cast,↓reduceIte,Nat.reduceEqDiff,Nat.reduceLT,Nat.reduceAdd]
    refine⟨[2,4],?_⟩
    simp (maxSteps:=10^6) only[fb,zb,↓Ak,List.range,List.range.loop,List.nil_append,List.cons_append,push_cast,↓reduceIte,reduceCtorEq,Nat.reduceEqDiff,Nat.reduceLT,Nat.reduceAdd]
   ·show Ct _ _ _ _ _ 25 (fun s'=>LeA 2 s' (gvF m 12)) (gvF m 8)
    rw[P8,P6]
    simp (maxSteps:=10^6) only[fb,zb,SlV.val,push_cast,↓reduceIte,Nat.reduceLT,Nat.reduceLeDiff,Nat.reduceAdd]
    refine⟨[2,3,4],?_⟩
    simp (maxSteps:=10^6) only[fb,zb,↓Ak,List.range,List.range.loop,List.nil_append,List.cons_append,push_cast,↓reduceIte,reduceCtorEq,Nat.reduceEqDiff,Nat.reduceLT,Nat.reduceAdd]
  ·intro p hp
   simp only[List.mem_cons,List.not_mem_nil,or_false] at hp
   rcases hp with rfl
   ·show Ct _ _ _ _ _ 18 (fun s'=>LeA 2 s' (gvF m 12)) (gvF m 9)
    rw[P8,Tz]
    simp (maxSteps:=10^6) only[fb,zb,SlV.val,push_cast,↓reduceIte,Nat.reduceLT,Nat.reduceLeDiff,Nat.reduceAdd]
    refine⟨[2,4,3],?_⟩
    simp (maxSteps:=10^6) only[fb,zb,↓Ak,List.range,List.range.loop,List.nil_append,List.cons_append,push_cast,↓reduceIte,reduceCtorEq,Nat.reduceEqDiff,Nat.reduceLT,Nat.reduceAdd]
  ·intro p hp
   simp only[List.mem_cons,List.not_mem_nil,or_false] at hp
   rcases hp with rfl
   ·show Ct _ _ _ _ _ 17 (fun s'=>LeA 2 s' (gvF m 12)) (gvF m 10)
    rw[P8,P7]
    simp (maxSteps:=10^6) only[fb,zb,SlV.val,i1,i2,bi,ci,push_cast,↓reduceIte,Nat.reduceEqDiff,Nat.reduceLT,Nat.reduceAdd]
    refine⟨[5,3,4],?_⟩
    simp (maxSteps:=10^6) only[fb,zb,↓Ak,List.range,List.range.loop,List.nil_append,List.cons_append,push_cast,↓reduceIte,reduceCtorEq,Nat.reduceEqDiff,Nat.reduceLT,Nat.reduceAdd]
  ·intro p hp
   simp only[List.mem_cons,List.not_mem_nil,or_false] at hp
   rcases hp with rfl|rfl
   ·show Ct _ _ _ _ _ 24 (fun s'=>LeA 2 s' (gvF m 13)) (gvF m 11)
    rw[Xz,T1]
    simp (maxSteps:=10^6) only[SlV.val,push_cast,↓reduceIte]
    (repeat (refine And.intro (by first|omega|decide) ?_))
    refine Adn rfl Aap rfl (Abp (l:=m.ps.l) hpf (M2 hm.ps.rd hm.ps.len) (by simp (maxSteps:=10^6) only[fb,zb,push_cast,Nat.reduceAdd])) (Aa rfl) (fun _=>by simp (maxSteps:=10^6) only[fb,zb,push_cast,Nat.reduceLT,Nat.reduceAdd]) ?_
    refine⟨[2,3,4],?_⟩
    simp (maxSteps:=10^6) only[fb,zb,Bq,Ag,↓Ak,List.range,List.range.loop,List.nil_append,List.cons_append,push_cast,↓reduceIte,reduceCtorEq,Nat.reduceEqDiff,Nat.reduceLT,Nat.reduceAdd]
   ·show Ct _ _ _ _ _ 25 (fun s'=>LeA 2 s' (gvF m 14)) (gvF m 11)
    rw[T2,T1]
    simp (maxSteps:=10^6) only[fb,zb,SlV.val,push_cast,↓reduceIte,Nat.reduceLT,Nat.reduceLeDiff,Nat.reduceAdd]
    refine⟨[2,3,4],?_⟩
    simp (maxSteps:=10^6) only[fb,zb,↓Ak,List.range,List.range.loop,List.nil_append,List.cons_append,push_cast,↓reduceIte,reduceCtorEq,Nat.reduceEqDiff,Nat.reduceLT,Nat.reduceAdd]
  ·intro p hp
   simp only[List.mem_cons,List.not_mem_nil,or_false] at hp
   rcases hp with rfl
   ·show Ct _ _ _ _ _ 21 (fun s'=>LeA 2 s' (gvF m 14)) (gvF m 12)
    rw[T2,P8]
    simp (maxSteps:=10^6) only[fb,zb,SlV.val,n1,n2,bn,cn,push_cast,↓reduceIte,Nat.reduceEqDiff,Nat.reduceLT,Nat.reduceAdd]
    refine⟨[2,5,4],?_⟩
    simp (maxSteps:=10^6) only[fb,zb,↓Ak,List.range,List.range.loop,List.nil_append,List.cons_append,push_cast,↓reduceIte,reduceCtorEq,Nat.reduceEqDiff,Nat.reduceLT,Nat.reduceAdd]
  ·intro p hp
   simp only[List.mem_cons,List.not_mem_nil,or_false] at hp
   rcases hp with rfl
   ·show Ct _ _ _ _ _ 25 (fun s'=>LeA 2 s' (gvF m 15)) (gvF m 13)
    rw[T3,Xz]
    simp (maxSteps:=10^6) only[fb,zb,Ag,SlV.val,push_cast,↓reduceIte,Nat.reduceLT,Nat.reduceLeDiff,Nat.reduceAdd]
    refine⟨[2,3,4,5],?_⟩
    simp (maxSteps:=10^6) only[fb,zb,Bq,Ag,↓Ak,List.range,List.range.loop,List.nil_append,List.cons_append,push_cast,↓reduceIte,reduceCtorEq,Nat.reduceEqDiff,Nat.reduceLT,Nat.reduceAdd]
  ·intro p hp
   simp only[List.mem_cons,List.not_mem_nil,or_false] at hp
   rcases hp with rfl
   ·show Ct _ _ _ _ _ 24 (fun s'=>LeA 2 s' (gvF m 15)) (gvF m 14)
    rw[T3,T2]
    simp (maxSteps:=10^6) only[SlV.val,push_cast,↓reduceIte]
    (repeat (refine And.intro (by first|omega|decide) ?_))
    refine Adn rfl Aap rfl (Abp (l:=m.ps.l) hpf (M2 hm.ps.rd hm.ps.len) (by simp (maxSteps:=10^6) only[fb,zb,push_cast,Nat.reduceAdd])) (Aa rfl) (fun _=>by simp (maxSteps:=10^6) only[fb,zb,push_cast,Nat.reduceLT,Nat.reduceAdd]) ?_
    refine⟨[2,3,5,4],?_⟩
    simp (maxSteps:=10^6) only[fb,zb,Bq,Ag,↓Ak,List.range,List.range.loop,List.nil_append,List.cons_append,push_cast,↓reduceIte,reduceCtorEq,Nat.reduceEqDiff,Nat.reduceLT,Nat.reduceAdd]
  ·intro p hp
   simp only[List.mem_cons,List.not_mem_nil,or_false] at hp
   rcases hp with rfl
   ·show Ct _ _ _ _ _ 28 (fun s'=>LeA 2 s' (gvF m 16)) (gvF m 15)
    rw[X0,T3]
    simp (maxSteps:=10^6) only[fb,zb,Ag,SlV.val,x1,x2,bx,cx,push_cast,↓reduceIte,Nat.reduceEqDiff,Nat.reduceLT,Nat.reduceAdd]
    refine⟨[2,3,4,6],?_⟩
    simp (maxSteps:=10^6) only[fb,zb,Bq,Ag,↓Ak,List.range,List.range.loop,List.nil_append,List.cons_append,push_cast,↓reduceIte,reduceCtorEq,Nat.reduceEqDiff,Nat.reduceLT,Nat.reduceAdd]
  ·intro p hp
   cases hp
 ·rw[X0]
  have l6:=Aez m
  have l7:=Ae0 hm.s
  have t6:(List.take 6 (gv6 m)).length=6:=by rw[List.length_take,l6];rfl
  have d6:(List.drop 38 (gv6 m)).length=5:=by rw[List.length_drop,l6]
  have e6:=Aex m
  have e7:=Aey m
  have e8:=Bb2 hm.s
  simp (maxSteps:=10^6) only[hfs,Aq,Cv,B4,B5,e6,e7,e8,l6,l7,List.length_set,push_cast,↓reduceIte,reduceCtorEq,Nat.reduceEqDiff,Nat.reduceLT,Nat.reduceLeDiff,Nat.reduceAdd]
  refine Il [0,1,2,3,4,5] ?_
  simp (maxSteps:=10^6) only[fb,zb,ob,Bq,Ag,↓Ak,↓W7,push_cast,↓reduceIte,reduceCtorEq,Nat.reduceEqDiff,Nat.reduceLT,Nat.reduceAdd]
  done
 ·have ol:=Eu (m:=m.mg) (a:=2) (b:=3) (c:=4) (d:=5) hm.s
  simp (maxSteps:=10^6) only[B5,ol,undef,push_cast,↓reduceIte,Nat.reduceEqDiff,Nat.reduceLT,Nat.reduceAdd]
  refine⟨cast (Nh m.mg 2 3 4 5 _).symm ⟨rfl,rfl,rfl,rfl⟩,Bp [2,3,4,5] ?_⟩
  simp (maxSteps:=10^6) only[ob,Bq,Ag,↓W7,push_cast,↓reduceIte,Nat.reduceEqDiff,Nat.reduceLT,Nat.reduceAdd]
  done
theorem G4 {w0:World} {hp:List Res} {m:MgR} (hm:m.Ok w0) (hbr:∀r∈hp,Res.bnd hp.length r):
  Ad Tryd.prog w0 No 39 [.x (.g (mgA m))] hp (.x (.g (mgO m.mg hp.length (hp.length+1) (hp.length+2) (hp.length+3)))) (hp++[.own 3 (.i64 m.ids.l),.own 27 (.u64 m.ns.l),.onn 160 2 (.c (pcs m.ps.l)),.own 136 (.u32 m.xs.l)]):=by
 have ob:=fun (m:MgS) a b c d n=>Dx m a b c d n
 simp only[At.bnd] at ob
 have:=My (P:=Tryd.prog) (w0:=w0) (ow:=No) (f:=39) (svs:=[.x (.g (mgA m))]) (hp:=hp) (sv1:=.x (.g (mgO m.mg 0 1 2 3))) (hp1:=[.own 3 (.i64 m.ids.l),.own 27 (.u64 m.ns.l),.onn 160 2 (.c (pcs m.ps.l)),.own 136 (.u32 m.xs.l)]) [] hbr (by simp (maxSteps:=10^6) only[Ag,push_cast,Nat.reduceAdd])
  (by rw[A6s];show 0 < 4∧1 < 4∧2 < 4∧3 < 4;decide) fun γ w hS=>⟨No,fun b h=>h.elim,by
   have:=Bb3 m w (hm.later hS)
   rw[show List.map (Sv.val γ) [.x (.g (mgA m))]=List.map (Sv.val []) [.x (.g (mgA m))] from by simp only[List.map_cons,List.map_nil];rw[Kd m γ []]]
   exact this⟩
 have r0:=fun i (h:i < 4)=>Ht (a:=hp.length) (n:=4) h
 have e:Sv.ren (A7 hp.length 4) (.x (.g (mgO m.mg 0 1 2 3)))=.x (.g (mgO m.mg hp.length (hp.length+1) (hp.length+2) (hp.length+3))):=by
  rw[W7,r0 0 (by decide),r0 1 (by decide),r0 2 (by decide),r0 3 (by decide)]
  rfl
 have e2:goneAll [] hp++List.map (Res.ren (A7 hp.length 4)) [.own 3 (.i64 m.ids.l),.own 27 (.u64 m.ns.l),.onn 160 2 (.c (pcs m.ps.l)),.own 136 (.u32 m.xs.l)]=hp++[.own 3 (.i64 m.ids.l),.own 27 (.u64 m.ns.l),.onn 160 2 (.c (pcs m.ps.l)),.own 136 (.u32 m.xs.l)]:=by
  show hp++[_,_,Res.onn _ 2 (.c ((pcs m.ps.l).map _)),_]=_
  rw[Bq]
  rfl
 rw[show ([.own 3 (.i64 m.ids.l),.own 27 (.u64 m.ns.l),.onn 160 2 (.c (pcs m.ps.l)),.own 136 (.u32 m.xs.l)]:List Res).length=4 from rfl,e,e2] at this
 exact this
end
end Go.Proofs.YtiaeollemmkclaaDoor
