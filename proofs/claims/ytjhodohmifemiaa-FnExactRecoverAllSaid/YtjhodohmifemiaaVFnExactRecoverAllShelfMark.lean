/- Words for the walk and for the pure half, as far as this claim comes to them. -/
import Derived.Test.YtjhodohmifemiaaShelf
import Derived.Test.YtjhodohmifemiaaVFnExactRecoverAllMark
import Derived.Test.YtjhodohmifemiaaVFnExactRecoverAllBend
