/- Reads, verdicts, a book as they are written: plain. -/
import Derived.Test.YtahpfcfecghpmaaRightRow
import Derived.Test.YtahpfcfecghpmaaWat
namespace Go.Proofs.Ytahpfcfecghpmaa

def putRd (s : Bool × List UInt8) (r : Rdx) : Bool × List UInt8 := putTexts (putFlags (putTexts s [r.key]) [r.is]) [r.val]
def costRd (r : Rdx) : Nat := lenOf [r.key.data.toList] + 1 + lenOf [r.val.data.toList]
theorem putRd_len (s : Bool × List UInt8) (r : Rdx) : (putRd s r).2.length ≤ s.2.length + costRd r := by
  have h1 := putTexts_len s [r.key]
  have h2 := putFlags_len [r.is] (putTexts s [r.key])
  have h3 := putTexts_len (putFlags (putTexts s [r.key]) [r.is]) [r.val]
  simp only [List.map_cons, List.map_nil, List.length_cons, List.length_nil] at *
  unfold putRd costRd; omega
def putVh (s : Bool × List UInt8) (x : Vd) : Bool × List UInt8 := putNums (putFlags (putNums s [x.c, x.n, x.at_]) [x.commit]) [(x.reads.length : Int)]
theorem putVh_len (s : Bool × List UInt8) (x : Vd) : (putVh s x).2.length ≤ s.2.length + 37 := by
  have h1 := putNums_len [x.c, x.n, x.at_] s
  have h2 := putFlags_len [x.commit] (putNums s [x.c, x.n, x.at_])
  have h3 := putNums_len [(x.reads.length : Int)] (putFlags (putNums s [x.c, x.n, x.at_]) [x.commit])
  simp only [List.length_cons, List.length_nil] at *
  unfold putVh; omega
def putVd (s : Bool × List UInt8) (x : Vd) : Bool × List UInt8 := x.reads.foldl putRd (putVh s x)
def costRds (l : List Rdx) : Nat := (l.map costRd).sum
def costVd (x : Vd) : Nat := 37 + costRds x.reads
def costVds (l : List Vd) : Nat := (l.map costVd).sum
def putBk (s : Bool × List UInt8) (l : List Vd) : Bool × List UInt8 := l.foldl putVd (putNums s [(l.length : Int)])
end Go.Proofs.Ytahpfcfecghpmaa
