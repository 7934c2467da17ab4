/- The functions that may be called, and the order in which regions run. -/
import Derived.Test.YtombjhkdakmhpaaProg
import Derived.Test.YtombjhkdakmhpaaEng7
import Derived.KernelRfl
namespace Go.Proofs.Ytombjhkdakmhpaa.Vc
open Go Go.Eng
def okf : FuncId → Bool := okIn [3, 4, 5, 6, 7, 8, 9, 10, 11, 12, 13, 14, 15, 16, 17, 18, 19, 20, 21, 22, 23, 24, 25, 26, 27, 28, 29, 30, 31, 32, 33, 34, 35, 36, 37, 38, 39, 40, 41, 42, 43, 44, 45, 46, 47, 48, 49, 50, 51, 52, 53, 54, 55, 56, 57, 58]
theorem okf_ok : OkCalls Try.prog okf := okc (okc_cons Try.call3 (okc_cons Try.call4 (okc_cons Try.call5 (okc_cons Try.call6 (okc_cons Try.call7 (okc_cons Try.call8 (okc_cons Try.call9 (okc_cons Try.call10 (okc_cons Try.call11 (okc_cons Try.call12 (okc_cons Try.call13 (okc_cons Try.call14 (okc_cons Try.call15 (okc_cons Try.call16 (okc_cons Try.call17 (okc_cons Try.call18 (okc_cons Try.call19 (okc_cons Try.call20 (okc_cons Try.call21 (okc_cons Try.call22 (okc_cons Try.call23 (okc_cons Try.call24 (okc_cons Try.call25 (okc_cons Try.call26 (okc_cons Try.call27 (okc_cons Try.call28 (okc_cons Try.call29 (okc_cons Try.call30 (okc_cons Try.call31 (okc_cons Try.call32 (okc_cons Try.call33 (okc_cons Try.call34 (okc_cons Try.call35 (okc_cons Try.call36 (okc_cons Try.call37 (okc_cons Try.call38 (okc_cons Try.call39 (okc_cons Try.call40 (okc_cons Try.call41 (okc_cons Try.call42 (okc_cons Try.call43 (okc_cons Try.call44 (okc_cons Try.call45 (okc_cons Try.call46 (okc_cons Try.call47 (okc_cons Try.call48 (okc_cons Try.call49 (okc_cons Try.call50 (okc_cons Try.call51 (okc_cons Try.call52 (okc_cons Try.call53 (okc_cons Try.call54 (okc_cons Try.call55 (okc_cons Try.call56 (okc_cons Try.call57 (okc_cons Try.call58 (okc_nil (P := Try.prog))))))))))))))))))))))))))))))))))))))))))))))))))))))))))
theorem follows : Try.prog.follows .mixedOrders = true := by kernel_rfl
end Go.Proofs.Ytombjhkdakmhpaa.Vc
